/- The contracts of Go's library that the walks use, laid by program at this translation: plain declarations, each one application of the shelf's own theorem. Conditions: none beyond those of each theorem. -/
import Derived.Shelf.Strings.Builder1
import Derived.Shelf.Strings.OnBuilder
import Derived.Shelf.Small.Bits
import Derived.Shelf.Bits.Mul64
import Derived.Test.YtndhhgbpcmfeiaaGreatDoorProg
import Derived.Test.YtndhhgbpcmfeiaaGreatDoorMEvZ
import Derived.WalkKit
import Derived.ProofKit
import Derived.OpenShut
import Derived.Outline
import Derived.WalkSpells
import Derived.WalkLawsBesides
import Derived.Lib.Hide
import Derived.Lib.Strings
import Derived.Lib.Walk
import Derived.BigCall
import Derived.Test.YtndhhgbpcmfeiaaGreatDoorMEvX
import Derived.Carry
import Derived.JoinedCond
import Derived.LaidLaws
import Derived.Test.YtndhhgbpcmfeiaaGreatDoorMGh
namespace Go.Proofs
open Go.Shelf
def Tryz.lays169_ren : Go.Shelf.Ren := ⟨fun | 169 => 65 | n => n, fun | 70 => 99 | 9 => 9 | 0 => 0 | 72 => 102 | 37 => 100 | 127 => 140 | 3 => 3 | 5 => 5 | n => n, fun | n => n⟩
theorem Tryz.lays169 : Go.Proofs.Lays.n169 Tryz.prog Tryz.lays169_ren := {
 mixed := by kernel_rfl
 f169 := Tryz.func65.trans (congrArg some (by kernel_rfl))
 t0 := Tryz.underlying0
 a0 := Tryz.isAgg0
 z0 := Tryz.sizeOf0
 v0 := Tryz.zeroValue0
 t3 := Tryz.underlying3
 a3 := Tryz.isAgg3
 z3 := Tryz.sizeOf3
 v3 := Tryz.zeroValue3
 t9 := Tryz.underlying9
 a9 := Tryz.isAgg9
 z9 := Tryz.sizeOf9
 v9 := Tryz.zeroValue9
 t37 := Tryz.underlying100
 a37 := Tryz.isAgg100
 z37 := Tryz.sizeOf100
 v37 := Tryz.zeroValue100
 t70 := Tryz.underlying99
 a70 := Tryz.isAgg99
 z70 := Tryz.sizeOf99
 v70 := Tryz.zeroValue99
 t72 := Tryz.underlying102
 a72 := Tryz.isAgg102
 z72 := Tryz.sizeOf102
 v72 := Tryz.zeroValue102
 t127 := Tryz.underlying140
 a127 := Tryz.isAgg140
 z127 := Tryz.sizeOf140
 v127 := Tryz.zeroValue140 }
theorem Tryz.Builder_Extra_169 : Builder.Extra Tryz.prog Tryz.lays169_ren := {
 sizeBuilder := by kernel_rfl
 liesBuilder := by kernel_rfl
 t5 := Tryz.underlying5
 a5 := Tryz.isAgg5
 z5 := Tryz.sizeOf5
 v5 := Tryz.zeroValue5
 infoByte := by kernel_rfl
 cellsByte := by kernel_rfl
 sizeByte := by kernel_rfl
 neB5 := by decide }
open Go.RowKit in
theorem Tryz.Builder_String (B b : Nat) (l : List UInt8) (w : World) (h : Lib.IsBuilder 102 5 B b (Lib.byteCells l) w) (h0 : l ≠ []) :
  Calls Tryz.prog 65 #[.pointer (some ⟨b, 0, none⟩)] w fun e w' => e = .returned (.string ⟨l.toArray⟩) ∧ Below B w w' := Any.Builder_String Tryz.lays169 Tryz.Builder_Extra_169 B b l w h h0
def Tryz.lays156_ren : Go.Shelf.Ren := ⟨fun | 156 => 96 | 165 => 141 | 166 => 62 | 169 => 65 | 240 => 93 | 241 => 166 | 276 => 136 | 277 => 183 | n => n, fun | 31 => 23 | 9 => 9 | 3 => 3 | 4 => 4 | 0 => 0 | 20 => 20 | 72 => 102 | 76 => 106 | 70 => 99 | 37 => 100 | 75 => 105 | 127 => 140 | 164 => 155 | 5 => 5 | 80 => 110 | n => n, fun | n => n⟩
theorem Tryz.lays156 : Go.Proofs.Lays.n156 Tryz.prog Tryz.lays156_ren := {
 mixed := by kernel_rfl
 f156 := Tryz.func96.trans (congrArg some (by kernel_rfl))
 f165 := Tryz.func141.trans (congrArg some (by kernel_rfl))
 f166 := Tryz.func62.trans (congrArg some (by kernel_rfl))
 f169 := Tryz.func65.trans (congrArg some (by kernel_rfl))
 f240 := Tryz.func93.trans (congrArg some (by kernel_rfl))
 f241 := Tryz.func166.trans (congrArg some (by kernel_rfl))
 f276 := Tryz.func136.trans (congrArg some (by kernel_rfl))
 f277 := Tryz.func183.trans (congrArg some (by kernel_rfl))
 t0 := Tryz.underlying0
 a0 := Tryz.isAgg0
 z0 := Tryz.sizeOf0
 v0 := Tryz.zeroValue0
 t3 := Tryz.underlying3
 a3 := Tryz.isAgg3
 z3 := Tryz.sizeOf3
 v3 := Tryz.zeroValue3
 t4 := Tryz.underlying4
 a4 := Tryz.isAgg4
 z4 := Tryz.sizeOf4
 v4 := Tryz.zeroValue4
 t9 := Tryz.underlying9
 a9 := Tryz.isAgg9
 z9 := Tryz.sizeOf9
 v9 := Tryz.zeroValue9
 t20 := Tryz.underlying20
 a20 := Tryz.isAgg20
 z20 := Tryz.sizeOf20
 v20 := Tryz.zeroValue20
 t31 := Tryz.underlying23
 a31 := Tryz.isAgg23
 z31 := Tryz.sizeOf23
 v31 := Tryz.zeroValue23
 t37 := Tryz.underlying100
 a37 := Tryz.isAgg100
 z37 := Tryz.sizeOf100
 v37 := Tryz.zeroValue100
 t70 := Tryz.underlying99
 a70 := Tryz.isAgg99
 z70 := Tryz.sizeOf99
 v70 := Tryz.zeroValue99
 t72 := Tryz.underlying102
 a72 := Tryz.isAgg102
 z72 := Tryz.sizeOf102
 v72 := Tryz.zeroValue102
 t75 := Tryz.underlying105
 a75 := Tryz.isAgg105
 z75 := Tryz.sizeOf105
 v75 := Tryz.zeroValue105
 t76 := Tryz.underlying106
 a76 := Tryz.isAgg106
 z76 := Tryz.sizeOf106
 v76 := Tryz.zeroValue106
 t127 := Tryz.underlying140
 a127 := Tryz.isAgg140
 z127 := Tryz.sizeOf140
 v127 := Tryz.zeroValue140
 t164 := Tryz.underlying155
 a164 := Tryz.isAgg155
 z164 := Tryz.sizeOf155
 v164 := Tryz.zeroValue155 }
theorem Tryz.Builder_Extra_156 : Builder.Extra Tryz.prog Tryz.lays156_ren := {
 sizeBuilder := by kernel_rfl
 liesBuilder := by kernel_rfl
 t5 := Tryz.underlying5
 a5 := Tryz.isAgg5
 z5 := Tryz.sizeOf5
 v5 := Tryz.zeroValue5
 infoByte := by kernel_rfl
 cellsByte := by kernel_rfl
 sizeByte := by kernel_rfl
 neB5 := by decide }
end Go.Proofs
/- The standard library's builder, as the evaluator wants it. -/
namespace Go.Proofs.YtndhhgbpcmfeiaaGreatDoor
open Go.ChangeShapes Go.WideShapes Go.ChangeAt Go.RowKit
set_option linter.unusedVariables false
set_option linter.unusedSimpArgs false
set_option maxRecDepth 100000
section
variable {P : Program} (w : World)
theorem run_append_fine (base : Nat) (t u ty e : TypeId) (i : TypeInfo) (ht : P.underlying t = some (.slice e)) (hu : P.underlying u = some .string) (hi : P.info? e = some i) (hz : i.zero = some (.int .u8 0))
  (hsize : i.size = 1) (hby : i.bytes = 1) (v : Value) (n : Nat) (xs : List Value) (hown : w.ownsRow base e 1 v n xs) (s : ByteArray)
  (h63 : n + s.size ≤ maxLen) (hbytes : n + s.size ≤ 140737488355328) (hbase : base ≤ w.heap.size) :
  ∃ v' w', (Builtin.append_ #[t, u] ty #[v, .string s]).run P w = .ok v' w' ∧ w'.ownsRow base e 1 v' (n + s.size) (xs ++ Lib.strCells s) ∧ w.grownBy w' v.ownBlock ∧ ∀ x, v'.ownBlock = some x → v.ownBlock = some x ∨ w.heap.size ≤ x := by
 obtain ⟨v', w', hr, h2, h3, h4⟩ := Lib.run_append_own_string (P := P) w base t u ty e i ht hu hi hz hsize hby v n xs hown s h63 hbytes hbase
 refine ⟨v', w', hr, h2, h3, ?_⟩
 have hxl : xs.length = n := by simpa using hown.1
 have hsm : n + s.size ≤ 9223372036854775807 := by omega
 rcases hown.2 with ⟨rfl, rfl⟩ | ⟨g, cap, cur, rfl, hbg, hg, hnc, hcm, hcs, htake⟩
 ·by_cases hm : s.size = 0
  ·obtain rfl := h4.2 ⟨rfl, hm⟩
   intro x hx
   cases hx
  ·have hq := run_append_nil_string (P := P) w t u ty e i (.int .u8 0) ht hu hi hz s (by omega) (by omega) (by rw [hby]; omega)
   rw [hr] at hq
   cases hq
   intro x hx
   simp only [Value.ownBlock, Option.some.injEq] at hx
   right; omega
 ·by_cases hroom : n + s.size ≤ cap
  ·have hq := Lib.run_append_room_string (P := P) w t u ty e i ht hu hi hsize g n cap cur hg s hroom (by have := hcs; omega)
   rw [hr] at hq
   cases hq
   intro x hx
   exact .inl hx
  ·have holds : ∀ j u, xs[j]? = some u → w.cell? ((⟨g, 0, none⟩ : Addr).add j) = some u := hown.cells (g := g) rfl
   have hq := Lib.run_append_grow_string (P := P) w t u ty e i (.int .u8 0) ht hu hi hz ⟨g, 0, none⟩ n cap xs (by rw [hsize]; simpa using hxl) holds s (by omega) (by omega) (by rw [hby]; exact growslice_fits (by omega) (by omega))
   rw [hr] at hq
   cases hq
   intro x hx
   simp only [Value.ownBlock, Option.some.injEq] at hx
   right; omega
end
theorem wpList_append_fine {P : Program} {w : World} {ops : Array Oper} {rest : List Oper} {o : Oper} {a : Act} {Q : Exit → Act → World → Prop} (hgd : o.guard = none) (sl x : Operand) (t u : TypeId)
  (ho : o.op = .call { callee := .builtin .append, args := #[sl, x], argTypes := #[t, u] })
  (base : Nat) (e : TypeId) (i : TypeInfo) (ht : P.underlying t = some (.slice e)) (hu : P.underlying u = some .string) (hi : P.info? e = some i) (hz : i.zero = some (.int .u8 0))
  (hsize : i.size = 1) (hby : i.bytes = 1)
  (v : Value) (n : Nat) (xs : List Value) (hs : a.eval sl = v) (hown : w.ownsRow base e 1 v n xs) (s : ByteArray) (hx : a.eval x = .string s)
  (h63 : n + s.size ≤ maxLen) (hbytes : n + s.size ≤ 140737488355328) (hbase : base ≤ w.heap.size)
  (h : ∀ v' w', w'.ownsRow base e 1 v' (n + s.size) (xs ++ Lib.strCells s) → w.grownBy w' v.ownBlock → (∀ x, v'.ownBlock = some x → v.ownBlock = some x ∨ w.heap.size ≤ x) → wpList P ops Q rest (a.put o.dst v') w') : wpList P ops Q (o :: rest) a w := by
 refine wpList_plain hgd fun K hK => ?_
 obtain ⟨v', w', hr, h2, h3, h4⟩ := run_append_fine (P := P) w base t u o.type e i ht hu hi hz hsize hby v n xs hown s h63 hbytes hbase
 unfold Oper.wp execOp
 simp only [ho, resolve, invoke, builtin, Sem.run_bind, Sem.run_pure, Result.andThen_ok, List.map_toArray, List.map_cons, List.map_nil, hs, hx, hr]
 exact hK _ _ (h v' w' h2 h3 h4)

theorem lays240 : Lays.n240 Tryz.prog Tryz.lays156_ren := { Tryz.lays156 with }
theorem x72 : Builder.X72 Tryz.prog Tryz.lays156_ren := Tryz.Builder_Extra_156.toX72
def ren167 : Go.Shelf.Ren := ⟨fun | 167 => 64 | n => Tryz.lays156_ren.f n, Tryz.lays156_ren.t, Tryz.lays156_ren.g⟩
theorem lays167 : Lays.n167 Tryz.prog ren167 := { Tryz.lays156 with
 f167 := Tryz.func64.trans (congrArg some (by kernel_rfl))
 t5 := Tryz.underlying5
 a5 := Tryz.isAgg5
 z5 := Tryz.sizeOf5
 v5 := Tryz.zeroValue5 }
theorem extra167 : Builder.Extra Tryz.prog ren167 := { Tryz.Builder_Extra_156 with }
theorem wb_any (B b : Nat) (bs : List Value) (n : Int) (w : World) (h : Lib.IsBuilder 102 5 B b bs w) (hl : bs.length + 1 ≤ 140737488355328) (hB : B ≤ w.heap.size) :
  Calls Tryz.prog 64 #[.pointer (some ⟨b, 0, none⟩), .int .u8 n] w fun e w' => e = .returned .nilIface ∧ Lib.IsBuilder 102 5 B b (bs ++ [.int .u8 n]) w' ∧ Below B w w' :=
 (Any.Builder_WriteByte lays167 extra167 B b bs n w h hl hB).mono fun e w' ⟨h1, h2, h3⟩ => ⟨h1, .inr h2, h3⟩
theorem cc_any (B b : Nat) (bs : List Value) (w : World) (h : Lib.IsBuilder 102 5 B b bs w) :
  Calls Tryz.prog 93 #[.pointer (some ⟨b, 0, none⟩)] w fun e w' => e = .returned (.tuple #[]) ∧ (Lib.BuilderAt 102 5 B b (.pointer (some ⟨b, 0, none⟩)) bs w' ∧ Below B w w') ∧
   (w'.os = w.os ∧ w'.tape = w.tape ∧ w'.output = w.output ∧ w'.heap.size = w.heap.size ∧ (∀ k, k ≠ b → w'.heap[k]? = w.heap[k]?) ∧ Ev.ownB w' b = Ev.ownB w b) := by
 rcases h with h | h
 ·refine (Any.Builder_copyCheck_fresh lays240 x72 b w h.cell0 h.shape h.frozen0).mono ?_
  rintro e w' ⟨rfl, rfl⟩
  refine ⟨rfl, ⟨h.used _, (Below.refl B w).setCell (p := ⟨b, 0, none⟩) h.1 _⟩, rfl, rfl, rfl, by simp [World.setCell], fun k hk => Below.heap_setCell _ _ _ _ (fun e => hk (by simp [e])), ?_⟩
  obtain ⟨_, v, h2, _⟩ := h
  have h3 : (w.setCell ⟨b, 0, none⟩ (.pointer (some ⟨b, 0, none⟩))).heap[b]? = some (.cells #[.pointer (some ⟨b, 0, none⟩), v] 102 (0, 0)) := by
   simp [World.setCell, Array.getElem?_modify, h2]
  unfold Ev.ownB
  rw [h2, h3]
  rfl
 ·refine (Any.Builder_copyCheck_used lays240 x72 b w h.cell0).mono ?_
  rintro e w' ⟨rfl, rfl⟩
  exact ⟨rfl, ⟨h, Below.refl B _⟩, rfl, rfl, rfl, rfl, fun _ _ => rfl, rfl⟩
set_option maxHeartbeats 1000000 in
theorem ws_any (B b : Nat) (bs : List Value) (s : ByteArray) (w : World) (h : Lib.IsBuilder 102 5 B b bs w) (hl : bs.length + s.size ≤ 140737488355328) (hB0 : B ≤ w.heap.size) :
  Calls Tryz.prog 62 #[.pointer (some ⟨b, 0, none⟩), .string s] w fun e w' => e = .returned (.tuple #[.int .i64 s.size, .nilIface]) ∧ Lib.IsBuilder 102 5 B b (bs ++ Lib.strCells s) w' ∧ Ev.Fine b w w' := by
 obtain ⟨i0, hi, hz0, hz1, hz2⟩ := info_parts (Tryz.Builder_Extra_156).infoByte
 have hcc := cc_any B b bs w h
 clear h
 go_enter Tryz.func62, Tryz.ntmps62
 go_wp2_with (go_at_call 93; with_reducible refine hcc.mono ?_)
 rintro e w1 ⟨rfl, ⟨h1, hb1⟩, f1, f2, f3, f4, f5, f6⟩
 obtain ⟨hB, v, hbk, hown, hne⟩ := h1
 have c0 : w1.cell? ⟨b, 0, none⟩ = some (.pointer (some ⟨b, 0, none⟩)) := by rw [Lib.cell_of_heap hbk]; rfl
 have c1 : w1.cell? ⟨b, 1, none⟩ = some v := by rw [Lib.cell_of_heap hbk]; rfl
 go_wp2_with (at_builtin; refine wpList_append_fine rfl _ _ _ _ rfl B 5 i0 Tryz.underlying100 Tryz.underlying9 hi hz0 hz1 hz2 _ _ _ rfl hown s rfl ?c3 ?c4 ?c5 ?_)
 case c3 => unfold maxLen; omega
 case c4 => omega
 case c5 => have := hb1.size; omega
 intro v' w2 hown' hgrow hfine
 have hlt : b < w1.heap.size := (Array.getElem?_eq_some_iff.1 hbk).1
 have hb2 : w2.heap[b]? = some (.cells #[.pointer (some ⟨b, 0, none⟩), v] 102 (0, 0)) := by
  rw [hgrow.block b hlt (fun e => hne e.symm)]
  exact hbk
 have d0 : w2.cell? ⟨b, 0, none⟩ = some (.pointer (some ⟨b, 0, none⟩)) := by rw [Lib.cell_of_heap hb2]; rfl
 have d1 : w2.cell? ⟨b, 1, none⟩ = some v := by rw [Lib.cell_of_heap hb2]; rfl
 have g1 : w2.frozen? ⟨b, 1, none⟩ = false := Lib.frozen_of_heap hb2 1
 obtain ⟨ao, n', cap, rfl⟩ : ∃ ao n' cap, v' = .slice ao n' cap := by
  rcases hown'.2 with ⟨hv, _⟩ | ⟨g, cap, cur, hv, _⟩
  ·exact ⟨_, _, _, hv⟩
  ·exact ⟨_, _, _, hv⟩
 go_wp2
 go_ret2
 refine ⟨rfl, .inr ?_, ?_⟩
 ·exact Lib.BuilderAt.put (T := 102) (e := 5) hB hb2 (bs' := bs ++ Lib.strCells s) (by simpa [Lib.strCells_length] using hown') (by decide)
 ·have hov : Ev.ownB w b = v.ownBlock := by rw [← f6]; unfold Ev.ownB; rw [hbk]; rfl
  refine ⟨hgrow.os.trans f1, hgrow.tape.trans f2, hgrow.output.trans f3, by have := hgrow.size; simp [World.setCell]; omega, fun k hk hkb hko => ?_, fun x hx => ?_⟩
  ·rw [Below.heap_setCell _ _ _ _ (fun e => hkb (by simp [e])), hgrow.block k (by omega) (fun e => hko (by rw [hov, e])), f5 k hkb]
  ·rw [hov]
   have h3 : (w2.setCell ⟨b, 1, none⟩ (.slice ao n' cap)).heap[b]? = some (.cells #[.pointer (some ⟨b, 0, none⟩), .slice ao n' cap] 102 (0, 0)) := by
    simp [World.setCell, Array.getElem?_modify, hb2]
   unfold Ev.ownB at hx
   rw [h3] at hx
   exact (hfine x hx).imp id (fun e => by omega)
namespace Ev
def bcfg : BCfg := ⟨102, 5, 62, 64, 65⟩
theorem bok : BOK Tryz.prog bcfg where
 hz := Tryz.zeroValue102
 fs := ⟨_, Tryz.func62, by kernel_rfl, by kernel_rfl⟩
 fb := ⟨_, Tryz.func64, by kernel_rfl, by kernel_rfl⟩
 fr := ⟨_, Tryz.func65, by kernel_rfl, by kernel_rfl⟩
 ws := ws_any
 wb := wb_any
 tl := fun B b l w h h0 => Tryz.Builder_String B b l w h h0
end Ev
end Go.Proofs.YtndhhgbpcmfeiaaGreatDoor
/- The layer's examples hold (lives). -/
namespace Go.Proofs.YtndhhgbpcmfeiaaGreatDoor.Ev
open Go.RowKit
set_option maxRecDepth 1000000
noncomputable def tabP : Tab := tabOf Tryz.prog
theorem tabP_is (J : Ctx) : TabOK Tryz.prog tabP J := tab_ok (by kernel_rfl) (by kernel_rfl)
theorem lives_ev : gives (callG bcfg tabP 3000 10 [] ⟨0, .leaf⟩) (.bool true) = true := by kernel_rfl
theorem lives_any (w : World) : Calls Tryz.prog 10 #[] w fun e w' => e = .returned (.bool true) ∧ Below w.heap.size w w' :=
 build_call (l := []) (tabP_is _) bok (v := .bool true) rfl lives_ev (.nil _) w
open Go.RowKit Go.ChangeShapes Go.WideShapes
set_option linter.unusedVariables false
set_option maxRecDepth 100000
theorem orc_ok : ∀ f args h v, orc f args h = some v → ∀ M N (w0 : Base (ctxOf [])) (vs : Array Value) w, HRel M N w0 h w → LRel M args vs.toList →
  (∃ fn, Tryz.prog.funcs[f]? = some fn ∧ fn.body.isSome = true ∧ (fn.name == "runtime.NumGoroutine") = false) ∧
  Calls Tryz.prog f vs w fun e w' => ∃ u, e = .returned u ∧ VRel M v u ∧ Below w.heap.size w w' := by
 intro f args h v ho M N w0 vs w hh hr
 unfold orc at ho
 split at ho
 ·rename_i hf
  have hf := Nat.eq_of_beq_eq_true hf
  subst hf
  split at ho
  rotate_left
  ·cases ho
  simp only [Option.some.injEq] at ho
  subst ho
  refine ⟨⟨_, Tryz.func10, by kernel_rfl, by kernel_rfl⟩, ?_⟩
  obtain ⟨cs⟩ := vs
  match cs, hr with
  | [], hr =>
   refine (lives_any w).mono ?_
   rintro e w' ⟨rfl, hB⟩
   exact ⟨_, rfl, .bool _, hB⟩
  | _ :: _, hr => have := hr.1; simp at this
 ·cases ho
theorem tab_is : TabOK Tryz.prog tab (ctxOf []) := tab_knows (tab_ok (by kernel_rfl) (by kernel_rfl)) (fun _ _ _ _ _ h => by cases h) (fun _ _ _ h => by cases h) orc_ok
end Go.Proofs.YtndhhgbpcmfeiaaGreatDoor.Ev
/- What the tables say of types. -/
namespace Go.Proofs.YtndhhgbpcmfeiaaGreatDoor.Ev.P16
open Go.RowKit
theorem ag112 : tab.isAgg 112 = some true := by kernel_rfl
theorem ag22 : tab.isAgg 22 = some false := by kernel_rfl
theorem ag24 : tab.isAgg 24 = some false := by kernel_rfl
theorem ag26 : tab.isAgg 26 = some true := by kernel_rfl
theorem ag3 : tab.isAgg 3 = some false := by kernel_rfl
theorem ag4 : tab.isAgg 4 = some false := by kernel_rfl
theorem ag59 : tab.isAgg 59 = some false := by kernel_rfl
theorem ag67 : tab.isAgg 67 = some true := by kernel_rfl
theorem ag9 : tab.isAgg 9 = some false := by kernel_rfl
theorem ag91 : tab.isAgg 91 = some true := by kernel_rfl
theorem ao112 : AO tab 112 = some ⟨1, true, [.int .i64 0, .int .i64 0, .int .i64 0]⟩ := by kernel_rfl
theorem ao26 : AO tab 26 = some ⟨11, true, [.int .i64 0, .str [], .int .i64 0, .nils, .int .i64 0, .int .i64 0, .int .i64 0, .nils, .int .i64 0, .bool false, .nils]⟩ := by kernel_rfl
theorem ao67 : AO tab 67 = some ⟨4, true, [.int .i64 0, .str [], .int .i64 0, .int .i64 0]⟩ := by kernel_rfl
theorem ao91 : AO tab 91 = some ⟨3, true, [.int .i64 0, .str [], .str []]⟩ := by kernel_rfl
theorem ap100_100 : AP tab 100 100 = some 1 := by kernel_rfl
theorem ap22_22 : AP tab 22 22 = some 3 := by kernel_rfl
theorem ap23_23 : AP tab 23 23 = some 1 := by kernel_rfl
theorem ap24_24 : AP tab 24 24 = some 11 := by kernel_rfl
theorem ap40_40 : AP tab 40 40 = some 1 := by kernel_rfl
theorem ap59_59 : AP tab 59 59 = some 4 := by kernel_rfl
theorem bx26 : ∀ l : List AV, l.length = 11 → varObj tab 26 l = ⟨11, true, l⟩ := by intro l h; exact varObj_plain (by kernel_rfl) h
theorem bx64 : ∀ l : List AV, l.length = 5 → varObj tab 64 l = ⟨5, true, l⟩ := by intro l h; exact varObj_plain (by kernel_rfl) h
theorem bx91 : ∀ l : List AV, l.length = 3 → varObj tab 91 l = ⟨3, true, l⟩ := by intro l h; exact varObj_plain (by kernel_rfl) h
theorem fa26_0 : FA tab 26 0 = some (0, 0 + 1) := by kernel_rfl
theorem fa26_1 : FA tab 26 1 = some (1, 0 + 1) := by kernel_rfl
theorem fa26_10 : FA tab 26 10 = some (10, 0 + 1) := by kernel_rfl
theorem fa26_3 : FA tab 26 3 = some (3, 0 + 1) := by kernel_rfl
theorem fa26_4 : FA tab 26 4 = some (4, 0 + 1) := by kernel_rfl
theorem fa26_5 : FA tab 26 5 = some (5, 0 + 1) := by kernel_rfl
theorem fa26_6 : FA tab 26 6 = some (6, 0 + 1) := by kernel_rfl
theorem fa26_7 : FA tab 26 7 = some (7, 0 + 1) := by kernel_rfl
theorem fa26_8 : FA tab 26 8 = some (8, 0 + 1) := by kernel_rfl
theorem fa26_9 : FA tab 26 9 = some (9, 0 + 1) := by kernel_rfl
theorem fa64_0 : FA tab 64 0 = some (0, 0 + 1) := by kernel_rfl
theorem fa64_1 : FA tab 64 1 = some (1, 0 + 1) := by kernel_rfl
theorem fa64_2 : FA tab 64 2 = some (2, 0 + 1) := by kernel_rfl
theorem fa64_3 : FA tab 64 3 = some (3, 0 + 1) := by kernel_rfl
theorem fa64_4 : FA tab 64 4 = some (4, 0 + 1) := by kernel_rfl
theorem fa67_0 : FA tab 67 0 = some (0, 0 + 1) := by kernel_rfl
theorem fa67_1 : FA tab 67 1 = some (1, 0 + 1) := by kernel_rfl
theorem fa67_2 : FA tab 67 2 = some (2, 0 + 1) := by kernel_rfl
theorem fa67_3 : FA tab 67 3 = some (3, 0 + 1) := by kernel_rfl
theorem fa91_0 : FA tab 91 0 = some (0, 0 + 1) := by kernel_rfl
theorem fa91_1 : FA tab 91 1 = some (1, 0 + 1) := by kernel_rfl
theorem fa91_2 : FA tab 91 2 = some (2, 0 + 1) := by kernel_rfl
theorem ft67_0 : FT tab 67 0 = some (0, none) := by kernel_rfl
theorem ft67_1 : FT tab 67 1 = some (1, none) := by kernel_rfl
theorem ft67_2 : FT tab 67 2 = some (2, none) := by kernel_rfl
theorem ft67_3 : FT tab 67 3 = some (3, none) := by kernel_rfl
theorem pl112 : PL tab 112 [.int .i64 0, .int .i64 0, .int .i64 0] [(0, 1), (1, 1), (2, 1)] = true := by kernel_rfl
theorem pl26 : PL tab 26 [.int .i64 0, .str [], .int .i64 0, .nils, .int .i64 0, .int .i64 0, .int .i64 0, .nils, .int .i64 0, .bool false, .nils] [(0, 1), (1, 1), (2, 1), (3, 1), (4, 1), (5, 1), (6, 1), (7, 1), (8, 1), (9, 1), (10, 1)] = true := by kernel_rfl
theorem pl64 : PL tab 64 [.nils, .int .i64 0, .int .i64 0, .int .i64 0, .int .i64 0] [(0, 1), (1, 1), (2, 1), (3, 1), (4, 1)] = true := by kernel_rfl
theorem pl67 : PL tab 67 [.int .i64 0, .str [], .int .i64 0, .int .i64 0] [(0, 1), (1, 1), (2, 1), (3, 1)] = true := by kernel_rfl
theorem pl91 : PL tab 91 [.int .i64 0, .str [], .str []] [(0, 1), (1, 1), (2, 1)] = true := by kernel_rfl
theorem sz112 : tab.size 112 = some 3 := by kernel_rfl
theorem sz22 : tab.size 22 = some 1 := by kernel_rfl
theorem sz23 : tab.size 23 = some 1 := by kernel_rfl
theorem sz24 : tab.size 24 = some 1 := by kernel_rfl
theorem sz26 : tab.size 26 = some 11 := by kernel_rfl
theorem sz3 : tab.size 3 = some 1 := by kernel_rfl
theorem sz4 : tab.size 4 = some 1 := by kernel_rfl
theorem sz5 : tab.size 5 = some 1 := by kernel_rfl
theorem sz67 : tab.size 67 = some 4 := by kernel_rfl
theorem sz9 : tab.size 9 = some 1 := by kernel_rfl
theorem sz91 : tab.size 91 = some 3 := by kernel_rfl
theorem ud100 : tab.und 100 = some (.slice 5) := by kernel_rfl
theorem ud112 : tab.und 112 = some (.array 3 3) := by kernel_rfl
theorem ud188 : tab.und 188 = some (.slice 187) := by kernel_rfl
theorem ud22 : tab.und 22 = some (.slice 91) := by kernel_rfl
theorem ud23 : tab.und 23 = some (.slice 9) := by kernel_rfl
theorem ud24 : tab.und 24 = some (.slice 26) := by kernel_rfl
theorem ud3 : tab.und 3 = some (.int .i64) := by kernel_rfl
theorem ud4 : tab.und 4 = some .bool := by kernel_rfl
theorem ud40 : tab.und 40 = some (.slice 3) := by kernel_rfl
theorem ud5 : tab.und 5 = some (.int .u8) := by kernel_rfl
theorem ud59 : tab.und 59 = some (.slice 67) := by kernel_rfl
theorem ud9 : tab.und 9 = some .string := by kernel_rfl
theorem zr26 : tab.zero 26 = some (.agg [.int .i64 0, .str [], .int .i64 0, .nils, .int .i64 0, .int .i64 0, .int .i64 0, .nils, .int .i64 0, .bool false, .nils]) := by kernel_rfl
theorem zr3 : tab.zero 3 = some (.int .i64 0) := by kernel_rfl
theorem zr5 : tab.zero 5 = some (.int .u8 0) := by kernel_rfl
theorem zr67 : tab.zero 67 = some (.agg [.int .i64 0, .str [], .int .i64 0, .int .i64 0]) := by kernel_rfl
theorem zr9 : tab.zero 9 = some (.str []) := by kernel_rfl
theorem zr91 : tab.zero 91 = some (.agg [.int .i64 0, .str [], .str []]) := by kernel_rfl
end Go.Proofs.YtndhhgbpcmfeiaaGreatDoor.Ev.P16
