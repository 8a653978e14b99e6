/- The standard library's builder, as the evaluator wants it. -/
import Derived.Test.YtndhhgbpcmfeiaaGreatDoorNEvZ
import Derived.Test.YtndhhgbpcmfeiaaGreatDoorNFixN
import Derived.WalkKit
import Derived.ProofKit
import Derived.OpenShut
import Derived.Outline
import Derived.WalkSpells
import Derived.WalkLawsBesides
import Derived.Lib.Hide
import Derived.Lib.Strings
import Derived.Lib.Walk
import Derived.BigCall
import Derived.Test.YtndhhgbpcmfeiaaGreatDoorProg
import Derived.Shelf.Strconv.AppendIntPublic10
import Derived.Lib.AppendIntMem
import Derived.Lib.ItoaLen
import Derived.Lib.Slices
import Derived.Laws.IdiomStrings
import Derived.OwnWalk
import Derived.Deep.RegionHeld3
import Derived.Deep.AppendLies
namespace Go.Proofs.YtndhhgbpcmfeiaaGreatDoor
open Go.ChangeShapes Go.WideShapes Go.ChangeAt Go.RowKit
set_option maxRecDepth 100000
section
variable {P : Program} (w : World)
theorem lj (base : Nat) (t u ty e : TypeId) (i : TypeInfo) (ht : P.underlying t = some (.slice e)) (hu : P.underlying u = some .string) (hi : P.info? e = some i) (hz : i.zero = some (.int .u8 0))
  (hsize : i.size = 1) (hby : i.bytes = 1) (v : Value) (n : Nat) (xs : List Value) (hown : w.ownsRow base e 1 v n xs) (s : ByteArray)
  (h63 : n + s.size <= maxLen) (hbytes : n + s.size <= 140737488355328) (hbase : base <= w.heap.size) :
  ∃ v' w', (Builtin.append_ #[t, u] ty #[v, .string s]).run P w = .ok v' w' /\ w'.ownsRow base e 1 v' (n + s.size) (xs ++ Lib.strCells s) /\ w.grownBy w' v.ownBlock /\ ∀ x, v'.ownBlock = some x -> v.ownBlock = some x \/ w.heap.size <= x := by
 obtain ⟨v', w', hr, h2, h3, h4⟩ := Lib.run_append_own_string (P := P) w base t u ty e i ht hu hi hz hsize hby v n xs hown s h63 hbytes hbase
 refine ⟨v', w', hr, h2, h3, ?_⟩
 have hxl : xs.length = n := by simpa using hown.1
 have hsm : n + s.size <= 9223372036854775807 := by omega
 rcases hown.2 with ⟨rfl, rfl⟩ | ⟨g, cap, cur, rfl, hbg, hg, hnc, hcm, hcs, htake⟩
 ·by_cases hm : s.size = 0
  ·obtain rfl := h4.2 ⟨rfl, hm⟩
   intro x hx
   cases hx
  ·have hq := run_append_nil_string (P := P) w t u ty e i (.int .u8 0) ht hu hi hz s (by omega) (by omega) (by rw [hby]; omega)
   rw [hr] at hq
   cases hq
   intro x hx
   simp only [Value.ownBlock, Option.some.injEq] at hx
   right; omega
 ·by_cases hroom : n + s.size <= cap
  ·have hq := Lib.run_append_room_string (P := P) w t u ty e i ht hu hi hsize g n cap cur hg s hroom (by have := hcs; omega)
   rw [hr] at hq
   cases hq
   intro x hx
   exact .inl hx
  ·have holds : ∀ j u, xs[j]? = some u -> w.cell? ((⟨g, 0, none⟩ : Addr).add j) = some u := hown.cells (g := g) rfl
   have hq := Lib.run_append_grow_string (P := P) w t u ty e i (.int .u8 0) ht hu hi hz ⟨g, 0, none⟩ n cap xs (by rw [hsize]; simpa using hxl) holds s (by omega) (by omega) (by rw [hby]; exact growslice_fits (by omega) (by omega))
   rw [hr] at hq
   cases hq
   intro x hx
   simp only [Value.ownBlock, Option.some.injEq] at hx
   right; omega
end
theorem jw {P : Program} {w : World} {ops : Array Oper} {rest : List Oper} {o : Oper} {a : Act} {Q : Exit -> Act -> World -> Prop} (hgd : o.guard = none) (sl x : Operand) (t u : TypeId)
  (ho : o.op = .call { callee := .builtin .append, args := #[sl, x], argTypes := #[t, u] })
  (base : Nat) (e : TypeId) (i : TypeInfo) (ht : P.underlying t = some (.slice e)) (hu : P.underlying u = some .string) (hi : P.info? e = some i) (hz : i.zero = some (.int .u8 0))
  (hsize : i.size = 1) (hby : i.bytes = 1)
  (v : Value) (n : Nat) (xs : List Value) (hs : a.eval sl = v) (hown : w.ownsRow base e 1 v n xs) (s : ByteArray) (hx : a.eval x = .string s)
  (h63 : n + s.size <= maxLen) (hbytes : n + s.size <= 140737488355328) (hbase : base <= w.heap.size)
  (h : ∀ v' w', w'.ownsRow base e 1 v' (n + s.size) (xs ++ Lib.strCells s) -> w.grownBy w' v.ownBlock -> (∀ x, v'.ownBlock = some x -> v.ownBlock = some x \/ w.heap.size <= x) -> wpList P ops Q rest (a.put o.dst v') w') : wpList P ops Q (o :: rest) a w := by
 refine wpList_plain hgd fun K hK => ?_
 obtain ⟨v', w', hr, h2, h3, h4⟩ := lj (P := P) w base t u o.type e i ht hu hi hz hsize hby v n xs hown s h63 hbytes hbase
 unfold Oper.wp execOp
 simp only [ho, resolve, invoke, builtin, Sem.run_bind, Sem.run_pure, Result.andThen_ok, List.map_toArray, List.map_cons, List.map_nil, hs, hx, hr]
 exact hK _ _ (h v' w' h2 h3 h4)

theorem td : Lays.n240 Tryz.prog Tryz.lays156_ren := { jA with }
theorem DE : Builder.X72 Tryz.prog Tryz.lays156_ren := Tryz.Builder_Extra_156.toX72
def yd : Go.Shelf.Ren := ⟨fun | 167 => 64 | n => Tryz.lays156_ren.f n, Tryz.lays156_ren.t, Tryz.lays156_ren.g⟩
theorem zn : Lays.n167 Tryz.prog yd := { jA with
 f167 := Tryz.func64.trans (congrArg some (by kernel_rfl))
 t5 := Tryz.underlying5
 a5 := Tryz.isAgg5
 z5 := Tryz.sizeOf5
 v5 := Tryz.zeroValue5 }
theorem vI : Builder.Extra Tryz.prog yd := { Tryz.Builder_Extra_156 with }
theorem Ci (B b : Nat) (bs : List Value) (n : Int) (w : World) (h : Lib.IsBuilder 102 5 B b bs w) (hl : bs.length + 1 <= 140737488355328) (hB : B <= w.heap.size) :
  Calls Tryz.prog 64 #[.pointer (some ⟨b, 0, none⟩), .int .u8 n] w fun e w' => e = .returned .nilIface /\ Lib.IsBuilder 102 5 B b (bs ++ [.int .u8 n]) w' /\ Below B w w' :=
 (Any.Builder_WriteByte zn vI B b bs n w h hl hB).mono fun e w' ⟨h1, h2, h3⟩ => ⟨h1, .inr h2, h3⟩
theorem Bs (B b : Nat) (bs : List Value) (w : World) (h : Lib.IsBuilder 102 5 B b bs w) :
  Calls Tryz.prog 93 #[.pointer (some ⟨b, 0, none⟩)] w fun e w' => e = .returned (.tuple #[]) /\ (Lib.BuilderAt 102 5 B b (.pointer (some ⟨b, 0, none⟩)) bs w' /\ Below B w w') /\
   (w'.os = w.os /\ w'.tape = w.tape /\ w'.output = w.output /\ w'.heap.size = w.heap.size /\ (∀ k, k ≠ b -> w'.heap[k]? = w.heap[k]?) /\ Ev.ownB w' b = Ev.ownB w b) := by
 rcases h with h | h
 ·refine (Any.Builder_copyCheck_fresh td DE b w h.cell0 h.shape h.frozen0).mono ?_
  rintro e w' ⟨rfl, rfl⟩
  refine ⟨rfl, ⟨h.used _, (Below.refl B w).setCell (p := ⟨b, 0, none⟩) h.1 _⟩, rfl, rfl, rfl, by simp [World.setCell], fun k hk => Below.heap_setCell _ _ _ _ (fun e => hk (by simp [e])), ?_⟩
  obtain ⟨_, v, h2, _⟩ := h
  have h3 : (w.setCell ⟨b, 0, none⟩ (.pointer (some ⟨b, 0, none⟩))).heap[b]? = some (.cells #[.pointer (some ⟨b, 0, none⟩), v] 102 (0, 0)) := by
   simp [World.setCell, Array.getElem?_modify, h2]
  unfold Ev.ownB
  rw [h2, h3]
  rfl
 ·refine (Any.Builder_copyCheck_used td DE b w h.cell0).mono ?_
  rintro e w' ⟨rfl, rfl⟩
  exact ⟨rfl, ⟨h, Below.refl B _⟩, rfl, rfl, rfl, rfl, fun _ _ => rfl, rfl⟩
set_option maxHeartbeats 1000000 in
theorem Cj (B b : Nat) (bs : List Value) (s : ByteArray) (w : World) (h : Lib.IsBuilder 102 5 B b bs w) (hl : bs.length + s.size <= 140737488355328) (hB0 : B <= w.heap.size) :
  Calls Tryz.prog 62 #[.pointer (some ⟨b, 0, none⟩), .string s] w fun e w' => e = .returned (.tuple #[.int .i64 s.size, .nilIface]) /\ Lib.IsBuilder 102 5 B b (bs ++ Lib.strCells s) w' /\ Ev.Fine b w w' := by
 obtain ⟨i0, hi, hz0, hz1, hz2⟩ := info_parts (Tryz.Builder_Extra_156).infoByte
 have hcc := Bs B b bs w h
 clear h
 go_enter Tryz.func62, Tryz.ntmps62
 go_wp2_with (go_at_call 93; with_reducible refine hcc.mono ?_)
 rintro e w1 ⟨rfl, ⟨h1, hb1⟩, f1, f2, f3, f4, f5, f6⟩
 obtain ⟨hB, v, hbk, hown, hne⟩ := h1
 have c0 : w1.cell? ⟨b, 0, none⟩ = some (.pointer (some ⟨b, 0, none⟩)) := by rw [Lib.cell_of_heap hbk]; rfl
 have c1 : w1.cell? ⟨b, 1, none⟩ = some v := by rw [Lib.cell_of_heap hbk]; rfl
 go_wp2_with (at_builtin; refine jw rfl _ _ _ _ rfl B 5 i0 Tryz.underlying100 Tryz.underlying9 hi hz0 hz1 hz2 _ _ _ rfl hown s rfl ?c3 ?c4 ?c5 ?_)
 case c3 => unfold maxLen; omega
 case c4 => omega
 case c5 => have := hb1.size; omega
 intro v' w2 hown' hgrow hfine
 have hlt : b < w1.heap.size := (Array.getElem?_eq_some_iff.1 hbk).1
 have hb2 : w2.heap[b]? = some (.cells #[.pointer (some ⟨b, 0, none⟩), v] 102 (0, 0)) := by
  rw [hgrow.block b hlt (fun e => hne e.symm)]
  exact hbk
 have d0 : w2.cell? ⟨b, 0, none⟩ = some (.pointer (some ⟨b, 0, none⟩)) := by rw [Lib.cell_of_heap hb2]; rfl
 have d1 : w2.cell? ⟨b, 1, none⟩ = some v := by rw [Lib.cell_of_heap hb2]; rfl
 have g1 : w2.frozen? ⟨b, 1, none⟩ = false := Lib.frozen_of_heap hb2 1
 obtain ⟨ao, n', cap, rfl⟩ : ∃ ao n' cap, v' = .slice ao n' cap := by
  rcases hown'.2 with ⟨hv, _⟩ | ⟨g, cap, cur, hv, _⟩
  ·exact ⟨_, _, _, hv⟩
  ·exact ⟨_, _, _, hv⟩
 go_wp2
 go_ret2
 refine ⟨rfl, .inr ?_, ?_⟩
 ·exact Lib.BuilderAt.put (T := 102) (e := 5) hB hb2 (bs' := bs ++ Lib.strCells s) (by simpa [Lib.strCells_length] using hown') (by decide)
 ·have hov : Ev.ownB w b = v.ownBlock := by rw [<- f6]; unfold Ev.ownB; rw [hbk]; rfl
  refine ⟨hgrow.os.trans f1, hgrow.tape.trans f2, hgrow.output.trans f3, by have := hgrow.size; simp [World.setCell]; omega, fun k hk hkb hko => ?_, fun x hx => ?_⟩
  ·rw [Below.heap_setCell _ _ _ _ (fun e => hkb (by simp [e])), hgrow.block k (by omega) (fun e => hko (by rw [hov, e])), f5 k hkb]
  ·rw [hov]
   have h3 : (w2.setCell ⟨b, 1, none⟩ (.slice ao n' cap)).heap[b]? = some (.cells #[.pointer (some ⟨b, 0, none⟩), .slice ao n' cap] 102 (0, 0)) := by
    simp [World.setCell, Array.getElem?_modify, hb2]
   unfold Ev.ownB at hx
   rw [h3] at hx
   exact (hfine x hx).imp id (fun e => by omega)
namespace Ev
def CB : BCfg := ⟨102, 5, 62, 64, 65⟩
theorem Ek : BOK Tryz.prog CB where
 hz := Tryz.zeroValue102
 fs := ⟨_, Tryz.func62, by kernel_rfl, by kernel_rfl⟩
 fb := ⟨_, Tryz.func64, by kernel_rfl, by kernel_rfl⟩
 fr := ⟨_, Tryz.func65, by kernel_rfl, by kernel_rfl⟩
 ws := Cj
 wb := Ci
 tl := fun B b l w h h0 => Tryz.Builder_String B b l w h h0
end Ev
end Go.Proofs.YtndhhgbpcmfeiaaGreatDoor
/- The layer's examples hold (lives). -/
namespace Go.Proofs.YtndhhgbpcmfeiaaGreatDoor.Ev
open Go.RowKit
set_option maxRecDepth 1000000
noncomputable def Dr : Tab := kX Tryz.prog
theorem Aj (J : Ctx) : TabOK Tryz.prog Dr J := yo (by kernel_rfl) (by kernel_rfl)
theorem wA : eZ (uZ CB Dr 3000 10 [] ⟨0, .leaf⟩) (.bool true) = true := by kernel_rfl
theorem ub (w : World) : Calls Tryz.prog 10 #[] w fun e w' => e = .returned (.bool true) /\ Below w.heap.size w w' :=
 ri (l := []) (Aj _) Ek (v := .bool true) rfl wA (.nil _) w
end Go.Proofs.YtndhhgbpcmfeiaaGreatDoor.Ev
/- The contract of strconv.AppendInt at base 10, laid by program at this translation: plain declarations. Conditions: those of the theorem. -/
namespace Go.Proofs
open Go.Shelf
def jB : Go.Shelf.Ren := ⟨fun | 176 => 80 | 249 => 121 | 288 => 147 | 283 => 155 | 284 => 156 | 285 => 157 | 286 => 158 | 129 => 175 | 317 => 174 | 318 => 176 | 319 => 177 | 320 => 178 | 337 => 187 | 338 => 188 | n => n, fun | 37 => 100 | 2 => 2 | 3 => 3 | 53 => 157 | 4 => 4 | 9 => 9 | 171 => 173 | 0 => 0 | 173 => 176 | 212 => 201 | 51 => 202 | 5 => 5 | 20 => 20 | 213 => 203 | 46 => 53 | 232 => 215 | 233 => 216 | n => n, fun | 17 => 0 | 18 => 4 | 19 => 5 | n => n⟩
theorem m5 : Go.Proofs.LaysM.n176 Tryz.prog jB := {
 mixed := by kernel_rfl
 f129 := Tryz.func175.trans (congrArg some (by kernel_rfl))
 f176 := Tryz.func80.trans (congrArg some (by kernel_rfl))
 f249 := Tryz.func121.trans (congrArg some (by kernel_rfl))
 f283 := Tryz.func155.trans (congrArg some (by kernel_rfl))
 f284 := Tryz.func156.trans (congrArg some (by kernel_rfl))
 f285 := Tryz.func157.trans (congrArg some (by kernel_rfl))
 f286 := Tryz.func158.trans (congrArg some (by kernel_rfl))
 f288 := Tryz.func147.trans (congrArg some (by kernel_rfl))
 f317 := Tryz.func174.trans (congrArg some (by kernel_rfl))
 f318 := Tryz.func176.trans (congrArg some (by kernel_rfl))
 f319 := Tryz.func177.trans (congrArg some (by kernel_rfl))
 f320 := Tryz.func178.trans (congrArg some (by kernel_rfl))
 f337 := Tryz.func187.trans (congrArg some (by kernel_rfl))
 f338 := Tryz.func188.trans (congrArg some (by kernel_rfl))
 t0 := Tryz.underlying0
 a0 := Tryz.isAgg0
 z0 := Tryz.sizeOf0
 v0 := Tryz.zeroValue0
 t2 := Tryz.underlying2
 a2 := Tryz.isAgg2
 z2 := Tryz.sizeOf2
 v2 := Tryz.zeroValue2
 t3 := Tryz.underlying3
 a3 := Tryz.isAgg3
 z3 := Tryz.sizeOf3
 v3 := Tryz.zeroValue3
 t4 := Tryz.underlying4
 a4 := Tryz.isAgg4
 z4 := Tryz.sizeOf4
 v4 := Tryz.zeroValue4
 t5 := Tryz.underlying5
 a5 := Tryz.isAgg5
 z5 := Tryz.sizeOf5
 v5 := Tryz.zeroValue5
 t9 := Tryz.underlying9
 a9 := Tryz.isAgg9
 z9 := Tryz.sizeOf9
 v9 := Tryz.zeroValue9
 t20 := Tryz.underlying20
 a20 := Tryz.isAgg20
 z20 := Tryz.sizeOf20
 v20 := Tryz.zeroValue20
 t37 := Tryz.underlying100
 a37 := Tryz.isAgg100
 z37 := Tryz.sizeOf100
 v37 := Tryz.zeroValue100
 t46 := Tryz.underlying53
 a46 := Tryz.isAgg53
 z46 := Tryz.sizeOf53
 v46 := Tryz.zeroValue53
 t51 := Tryz.underlying202
 a51 := Tryz.isAgg202
 z51 := Tryz.sizeOf202
 v51 := Tryz.zeroValue202
 t53 := Tryz.underlying157
 a53 := Tryz.isAgg157
 z53 := Tryz.sizeOf157
 v53 := Tryz.zeroValue157
 t171 := Tryz.underlying173
 a171 := Tryz.isAgg173
 z171 := Tryz.sizeOf173
 v171 := Tryz.zeroValue173
 t173 := Tryz.underlying176
 a173 := Tryz.isAgg176
 z173 := Tryz.sizeOf176
 v173 := Tryz.zeroValue176
 t212 := Tryz.underlying201
 a212 := Tryz.isAgg201
 z212 := Tryz.sizeOf201
 v212 := Tryz.zeroValue201
 t213 := Tryz.underlying203
 a213 := Tryz.isAgg203
 z213 := Tryz.sizeOf203
 t232 := Tryz.underlying215
 a232 := Tryz.isAgg215
 z232 := Tryz.sizeOf215
 v232 := Tryz.zeroValue215
 t233 := Tryz.underlying216
 a233 := Tryz.isAgg216
 z233 := Tryz.sizeOf216
 v233 := Tryz.zeroValue216
 g17 := by kernel_rfl
 g18 := by kernel_rfl
 g19 := by kernel_rfl
 i0 := by kernel_rfl
 i2 := by kernel_rfl
 i3 := by kernel_rfl
 i4 := by kernel_rfl
 i5 := by kernel_rfl
 i9 := by kernel_rfl
 i20 := by kernel_rfl
 i37 := by kernel_rfl
 i46 := by kernel_rfl
 i51 := by kernel_rfl
 i53 := by kernel_rfl
 i171 := by kernel_rfl
 i173 := by kernel_rfl
 i212 := by kernel_rfl
 i232 := by kernel_rfl
 i233 := by kernel_rfl
 m17 := by kernel_rfl
 m18 := by kernel_rfl
 m19 := by kernel_rfl }
open Go.RowKit Go.Sort Go.Lib in
theorem Tryz.strconv_AppendInt_10 (B n : Nat) (i : Int) (h0 : -9223372036854775808 <= i) (h1 : i <= 9223372036854775807) (sv : Value) (xs : List Value) (w : World) (hown : w.ownsRow B 5 1 sv n xs) (hBw : B <= w.heap.size) (hlim : n + 21 <= 140737488355328) (htab : Lib.TabBelow Tryz.prog B w "internal/strconv.uint64pow10" .u64 Lib.pow10Tab) :
  Calls Tryz.prog 80 #[sv, .int .i64 i, .int .i64 10] w fun e w' => ∃ v', e = .returned v' /\ w'.ownsRow B 5 1 v' (n + (Lib.itoa i).length) (xs ++ Lib.byteCells (Lib.itoa i)) /\ Below B w w' /\ Lib.OthersKept 5 none w w' := Any.strconv_AppendInt_10 m5 B n i h0 h1 sv xs w hown hBw hlim htab
end Go.Proofs
/- Chapter 20: the text that alike instructions have alone, as the program makes it. -/
namespace Go.Proofs.YtndhhgbpcmfeiaaGreatDoor
open Go.ChangeShapes Go.WideShapes Go.ChangeAt Go.RowKit
def keyT (A : List Int) : List UInt8 := A.flatMap fun a => 32 :: Lib.itoa a
def keyB (k : Int) (op : ByteArray) (A : List Int) : List UInt8 := Lib.itoa k ++ 32 :: (op.data.toList ++ keyT A)
theorem infoByte : (Tryz.prog.info? 5).map (fun i => (i.zero, i.size, i.bytes)) = some (some (.int .u8 0), 1, 1) := by kernel_rfl
section
variable {P : Program} {w : World}
theorem kB {ops : Array Oper} {o : Oper} {a : Act} {K : Act -> World -> Prop} {Q : Exit -> Act -> World -> Prop} {E : Prop} (hgd : o.guard = none) (sl x : Operand) (t u : TypeId)
  (ho : o.op = .call { callee := .builtin .append, args := #[sl, x], argTypes := #[t, u] })
  (base : Nat) (e : TypeId) (i : TypeInfo) (ht : P.underlying t = some (.slice e)) (hu : P.underlying u = some .string) (hi : P.info? e = some i) (hz : i.zero = some (.int .u8 0))
  (hsize : i.size = 1) (hby : i.bytes = 1)
  (v : Value) (n : Nat) (xs : List Value) (hs : a.eval sl = v) (hown : w.ownsRow base e 1 v n xs) (s : ByteArray) (hx : a.eval x = .string s)
  (h63 : n + s.size <= maxLen) (hbytes : n + s.size <= 140737488355328) (hbase : base <= w.heap.size)
  (h : ∀ v' w', w'.ownsRow base e 1 v' (n + s.size) (xs ++ Lib.strCells s) -> w.grownBy w' v.ownBlock -> K (a.put o.dst v') w') :
  if Region.wanted o (yielded ops a.tmps) = true then Oper.wp P o a w K Q else E := by
 have hw : Region.wanted o (yielded ops a.tmps) = true := by simp [Region.wanted, hgd]
 rw [if_pos hw]
 obtain ⟨v', w', hr, h2, h3, h4⟩ := Lib.run_append_own_string (P := P) w base t u o.type e i ht hu hi hz hsize hby v n xs hown s h63 hbytes hbase
 unfold Oper.wp execOp
 simp only [ho, resolve, invoke, builtin, Sem.run_bind, Sem.run_pure, Result.andThen_ok, List.map_toArray, List.map_cons, List.map_nil, hs, hx, hr]
 exact h v' w' h2 h3
end
theorem yp {B B' : Nat} {w w1 : World} {name : String} {k : IntKind} {zs : List Int} (h : Lib.TabBelow Tryz.prog B w name k zs) (hle : B <= B') (hb : Below B w w1) : Lib.TabBelow Tryz.prog B' w1 name k zs :=
 fun w' h' => h w' (hb.trans (h'.mono hle))
theorem wh {A : List Int} (hA : ∀ a ∈ A, -9223372036854775808 <= a /\ a <= 9223372036854775807) : (keyT A).length <= 22 * A.length := by
 induction A with
 | nil => simp [keyT]
 | cons a A ih =>
  have h1 := ih fun b hb => hA b (List.mem_cons_of_mem _ hb)
  have h2 := hA a List.mem_cons_self
  have h3 := Lib.itoa_length_le a h2.1 h2.2
  unfold keyT at h1 ⊢
  rw [List.flatMap_cons, List.length_append, List.length_cons, List.length_cons]
  omega
theorem t7 {A : List Int} {j : Nat} (h : j < A.length) : keyT (A.take (j + 1)) = keyT (A.take j) ++ 32 :: Lib.itoa A[j] := by
 rw [List.take_add_one, List.getElem?_eq_getElem h]
 unfold keyT
 rw [List.flatMap_append]
 simp
set_option maxRecDepth 100000 in
set_option maxHeartbeats 8000000 in
theorem key_any (w : World) (k : Int) (k0 : -9223372036854775808 <= k) (k1 : k <= 9223372036854775807) (op : ByteArray) (hop : op.size <= 1048576) (c2 c3 c4 c5 c6 c7 c8 c9 c10 : Value)
  (A : List Int) (hA : ∀ a ∈ A, -9223372036854775808 <= a /\ a <= 9223372036854775807) (hAl : A.length <= 1048576) (sa : Option Addr) (cap : Nat)
  (hcells : ∀ j a, A[j]? = some a -> ∃ g off, sa = some ⟨g, off, none⟩ /\ w.cell? ⟨g, off + j, none⟩ = some (.int .i64 a))
  (htab : Lib.TabIs Tryz.prog w "internal/strconv.uint64pow10" .u64 Lib.pow10Tab) :
  Calls Tryz.prog 44 #[.agg #[.int .i64 k, .string op, c2, c3, c4, c5, c6, c7, c8, c9, c10, .slice sa A.length cap]] w fun e w' => e = .returned (.string ⟨(keyB k op A).toArray⟩) /\ Below w.heap.size w w' := by
 obtain ⟨i0, hi, hz0, hz1, hz2⟩ := info_parts infoByte
 have hT := Lib.tabBelow_of_tabIs htab
 have lk := Lib.itoa_length_le k k0 k1
 go_enter Tryz.func44, Tryz.ntmps44
 go_wp2_with (go_at_call 80; refine (Tryz.strconv_AppendInt_10 (w.heap.size + 1) 0 k k0 k1 (.slice none 0 0) [] _ (World.ownsRow_nil _ _ _ _) (by simp) (by omega) (yp hT (by omega) ((Below.refl _ _).alloc (Nat.le_refl _) _))).mono ?_; rintro e w1 ⟨v1, rfl, hown1, hnx1, -⟩; refine Hid.out ?_)
 refine Lib.hid ?_
 rw [Nat.zero_add, List.nil_append] at hown1
 have q1 := (hnx1.cell (p := ⟨w.heap.size, 1, none⟩) (by simp)).trans (cell_of_row _ _ 1 _ _ _ (heap_alloc_new w _))
 have q11 := (hnx1.cell (p := ⟨w.heap.size, 11, none⟩) (by simp)).trans (cell_of_row _ _ 11 _ _ _ (heap_alloc_new w _))
 simp at q1 q11
 have hsz1 := hnx1.size
 simp at hsz1
 have hne : ∀ {v : Value} {n : Nat} {xs : List Value} {w' : World}, w'.ownsRow (w.heap.size + 1) 5 1 v n xs -> some w.heap.size ≠ v.ownBlock := fun ho e => by have := (ho.lt _ e.symm).1; omega
 have hBw1 : Below w.heap.size w w1 := ((Below.refl _ _).alloc (Nat.le_refl _) _).trans (hnx1.mono (by omega))
 go_wp2_with fail
 go_region_held3 (fun w' => w'.cell? ⟨w.heap.size, 1, none⟩ = some (.string op) /\ w'.cell? ⟨w.heap.size, 11, none⟩ = some (.slice sa A.length cap))
  (first | go_keep | (go_split_ands; refine ⟨?_, ?_⟩ <;> (rw [hgrow.cell_far _ (by simp; omega) (hne hown1)]; assumption)) | (go_split_ands; refine ⟨?_, ?_⟩ <;> (rw [hgrow.cell_far _ (by have := hg2.size; simp at this ⊢; omega) (hne hown2)]; assumption)))
  (first
   | ((refine step_append_lies _ (by rfl) _ _ 100 (by rfl) (w.heap.size + 1) 5 i0 _ 1 1 Tryz.underlying100 hi hz0 hz1 hz2 rfl (by omega) v1 _ _ (by rfl) ((hown1.alloc _).drew) ⟨w1.heap.size, 0, none⟩ 1 1 [.int .u8 32] (by rfl) (by rfl) (World.news_of_block (cs := #[.int .u8 32]) (t := 5) (fr := (0, 0)) (heap_alloc_new w1 _)) (by simp [Value.oneCell']) (by omega) (by unfold maxLen; omega) (by omega) (by simp; omega) (w1.heap.size + 1) (by simp) ?_; intro g2 cap2 w2 hown2 hgrow hat2 hlt2; have hg2 := hgrow))
   | ((refine kB (by rfl) _ _ 100 9 (by rfl) (w.heap.size + 1) 5 i0 Tryz.underlying100 Tryz.underlying9 hi hz0 hz1 hz2 _ _ _ (by rfl) hown2 op (by rfl) (by unfold maxLen; omega) (by omega) (by have := hgrow.size; simp at this ⊢; omega) ?_; intro v3 w3 hown3 hgrow)))
 have hB2 : Below w.heap.size w w2 := Below.grown (Below.drew (hBw1.alloc (by omega) _)) hg2 (by simp; omega) (fun q hq => by have := (hown1.lt q hq).1; omega)
 have hB3 : Below w.heap.size w w3 := hB2.grown hgrow (by have := hg2.size; simp at this; omega) (fun q hq => by have := (hown2.lt q hq).1; omega)
 clear hg2 hgrow hown2 hown1 hnx1 hat2 hlt2
 have HO0 := Lib.hid (show w3.ownsRow (w.heap.size + 1) 5 1 v3 ((Lib.itoa k).length + 1 + op.size + (keyT (A.take 0)).length) (Lib.byteCells (Lib.itoa k) ++ [Value.int .u8 32] ++ Lib.strCells op ++ Lib.byteCells (keyT (A.take 0))) by simpa [keyT, Lib.byteCells] using hown3)
 have HB3 := Lib.hid hB3
 clear hown3 hB3
 go_wp2_with fail
 go_loopw [3, 20] (fun v i wr => ∃ j : Nat, j <= A.length /\ i = .int .i64 j /\ Hid (wr.ownsRow (w.heap.size + 1) 5 1 v ((Lib.itoa k).length + 1 + op.size + (keyT (A.take j)).length) (Lib.byteCells (Lib.itoa k) ++ [Value.int .u8 32] ++ Lib.strCells op ++ Lib.byteCells (keyT (A.take j)))) /\ Hid (Below w.heap.size w wr) /\ w.heap.size < wr.heap.size) (fun _ i _ => A.length - (intOf i).toNat)
 case atStart => exact ⟨0, Nat.zero_le _, rfl, HO0, HB3, World.block_lt_of_cell? _ _ (And.left (by assumption))⟩
 case round =>
  obtain ⟨j, hj, rfl, HO, HB, hwr⟩ := hrel
  have hkl := wh (A := A.take j) (fun a ha => hA a (List.mem_of_mem_take ha))
  rw [List.length_take] at hkl
  by_cases hlt : j < A.length
  ·obtain ⟨g, off, hsa, hcl⟩ := hcells j (A[j]) (List.getElem?_eq_getElem hlt)
   subst hsa
   have hst := t7 hlt
   have hr := hA _ (List.getElem_mem hlt)
   obtain ⟨a, ha⟩ : ∃ a, A[j] = a := ⟨_, rfl⟩
   rw [ha] at hcl hst hr
   have HST := Lib.hid hst
   have hcl' := (HB.out.cell (p := ⟨g, off + j, none⟩) (World.block_lt_of_cell? _ _ hcl)).trans hcl
   have hi0 : (0 : Int) <= (j : Int) := Int.natCast_nonneg _
   have hi1 : (j : Int) < (A.length : Int) := by omega
   have la := Lib.itoa_length_le a hr.1 hr.2
   obtain ⟨N, hN⟩ : ∃ N, (Lib.itoa k).length + 1 + op.size + (keyT (A.take j)).length = N := ⟨_, rfl⟩
   obtain ⟨X, hX⟩ : ∃ X, Lib.byteCells (Lib.itoa k) ++ [Value.int .u8 32] ++ Lib.strCells op ++ Lib.byteCells (keyT (A.take j)) = X := ⟨_, rfl⟩
   have hO := HO.out
   rw [hN, hX] at hO
   have HN := Lib.hid hN
   have HX := Lib.hid hX
   have hNl : N <= 50000000 := by omega
   clear hst hN hX HO ha hkl
   go_wp2_with (at_builtin; refine wpList_append_own _ rfl _ _ 100 rfl (w.heap.size + 1) 5 i0 (.int .u8 0) 1 1 Tryz.underlying100 hi hz0 hz1 hz2 rfl (by decide) _ _ _ rfl (hO.alloc _) ⟨_, 0, none⟩ 1 1 [Value.int .u8 32] rfl rfl (by intro j u' hj; match j, hj with | 0, hj => simp at hj; subst hj; simp [Addr.add]) (by intro u' hu'; simp at hu'; subst hu'; rfl) (by unfold maxLen; omega) (by omega) (by simp; omega) ?_)
   intro v2 w2 hown2 hgrow _
   have hBa := HB.out.alloc (by omega) (Obj.cells #[Value.int .u8 32] 5)
   have hB2 := hBa.grown hgrow (by simp; omega) (fun q hq => by have := (hO.lt q hq).1; omega)
   have hs2 := hgrow.size
   simp at hs2
   have HB2 := Lib.hid hB2
   go_wp2_with (go_at_call 80; refine (Tryz.strconv_AppendInt_10 (w.heap.size + 1) (N + 1) a hr.1 hr.2 _ _ _ hown2 (by omega) (by omega) (yp hT (by omega) HB2.out)).mono ?_; rintro e w3 ⟨v3, rfl, hown3, hnx3, -⟩; refine Hid.out ?_)
   refine Lib.hid ?_
   have hs3 := hnx3.size
   have HB3 := Lib.hid (HB2.out.trans (hnx3.mono (by omega)))
   have HO3 : Hid (w3.ownsRow (w.heap.size + 1) 5 1 v3 ((Lib.itoa k).length + 1 + op.size + (keyT (A.take (j + 1))).length) (Lib.byteCells (Lib.itoa k) ++ [Value.int .u8 32] ++ Lib.strCells op ++ Lib.byteCells (keyT (A.take (j + 1))))) := Lib.hid (by
    have hN := HN.out
    have hX := HX.out
    rw [HST.out]
    have e1 : (Lib.itoa k).length + 1 + op.size + (keyT (A.take j) ++ 32 :: Lib.itoa a).length = N + 1 + (Lib.itoa a).length := by rw [<- hN, List.length_append, List.length_cons]; omega
    have e2 : Lib.byteCells (Lib.itoa k) ++ [Value.int .u8 32] ++ Lib.strCells op ++ Lib.byteCells (keyT (A.take j) ++ 32 :: Lib.itoa a) = X ++ [Value.int .u8 32] ++ Lib.byteCells (Lib.itoa a) := by rw [<- hX]; simp [Lib.byteCells]
    rw [e1, e2]; exact hown3)
   clear hown3 hown2 hgrow hO HX HN HST hcl hcl' hBa hB2
   go_wp2_with fail
   go_roundw
   case rel => exact ⟨j + 1, by omega, by go_num, HO3, HB3, by omega⟩
   case measure => simp [intOf]; omega
  ·obtain rfl : j = A.length := by omega
   have hO := HO.out
   rw [List.take_length] at hO
   have eL : Lib.byteCells (Lib.itoa k) ++ [Value.int .u8 32] ++ Lib.strCells op ++ Lib.byteCells (keyT A) = Lib.byteCells (keyB k op A) := by
    unfold keyB
    simp [Lib.byteCells, Lib.strCells]
   have eN : (Lib.itoa k).length + 1 + op.size + (keyT A).length = (keyB k op A).length := by
    unfold keyB
    have : op.data.toList.length = op.size := rfl
    simp only [List.length_append, List.length_cons, this]; omega
   rw [eL, eN] at hO
   have hpos : 0 < (keyB k op A).length := by rw [<- eN]; omega
   have hdone : decide ((A.length : Int) < (A.length : Int)) = false := by simp
   obtain ⟨l, hl⟩ : ∃ l, l = keyB k op A := ⟨_, rfl⟩
   rw [<- hl] at hO hpos
   have HL := Lib.hid hl
   clear hl eL eN HO hkl
   rcases hO.2 with ⟨-, h0⟩ | ⟨g, cap', cur, rfl, -, -, -, -, -, -⟩
   ·omega
   ·have hcv := run_convert_bytes_back (P := Tryz.prog) wr 100 9 5 ⟨g, 0, none⟩ cap' l Tryz.underlying100 Tryz.underlying5 Tryz.underlying9 (fun q hq => hO.cells (g := g) rfl q _ (by simp [Lib.byteCells, hq]))
    go_wp2
    go_ret
    have hl := HL.out
    subst hl
    exact ⟨rfl, HB.out⟩
end Go.Proofs.YtndhhgbpcmfeiaaGreatDoor
