/- Chapter 20: the text that alike instructions have alone, as the program makes it. -/
import Derived.Test.YtndhhgbpcmfeiaaGreatDoorOShek
import Derived.Lib.AppendIntMem
import Derived.Lib.ItoaLen
import Derived.Lib.Slices
import Derived.Lib.Hide
import Derived.Laws.IdiomStrings
import Derived.OwnWalk
import Derived.WalkKit
import Derived.BigCall
import Derived.ProofKit
import Derived.Deep.RegionHeld3
import Derived.Deep.AppendLies
import Derived.Test.YtndhhgbpcmfeiaaGreatDoorOEvX
import Derived.Test.YtndhhgbpcmfeiaaGreatDoorOGb
import Derived.Carry
import Derived.OpenShut
import Derived.JoinedCond
import Derived.LaidLaws
namespace Go.Proofs.YtndhhgbpcmfeiaaGreatDoor
open Go.ChangeShapes Go.WideShapes Go.ChangeAt Go.RowKit
def keyT (A : List Int) : List UInt8 := A.flatMap fun a => 32 :: Lib.itoa a
def keyB (k : Int) (op : ByteArray) (A : List Int) : List UInt8 := Lib.itoa k ++ 32 :: (op.data.toList ++ keyT A)
theorem infoByte : (Tryz.prog.info? 5).map (fun i => (i.zero, i.size, i.bytes)) = some (some (.int .u8 0), 1, 1) := by kernel_rfl
section
variable {P : Program} {w : World}
theorem nF {ops : Array Oper} {o : Oper} {a : Act} {K : Act -> World -> Prop} {Q : Exit -> Act -> World -> Prop} {E : Prop} (hgd : o.guard = none) (sl x : Operand) (t u : TypeId)
  (ho : o.op = .call { callee := .builtin .append, args := #[sl, x], argTypes := #[t, u] })
  (base : Nat) (e : TypeId) (i : TypeInfo) (ht : P.underlying t = some (.slice e)) (hu : P.underlying u = some .string) (hi : P.info? e = some i) (hz : i.zero = some (.int .u8 0))
  (hsize : i.size = 1) (hby : i.bytes = 1)
  (v : Value) (n : Nat) (xs : List Value) (hs : a.eval sl = v) (hown : w.ownsRow base e 1 v n xs) (s : ByteArray) (hx : a.eval x = .string s)
  (h63 : n + s.size <= maxLen) (hbytes : n + s.size <= 140737488355328) (hbase : base <= w.heap.size)
  (h : ∀ v' w', w'.ownsRow base e 1 v' (n + s.size) (xs ++ Lib.strCells s) -> w.grownBy w' v.ownBlock -> K (a.put o.dst v') w') :
  if Region.wanted o (yielded ops a.tmps) = true then Oper.wp P o a w K Q else E := by
 have hw : Region.wanted o (yielded ops a.tmps) = true := by simp [Region.wanted, hgd]
 rw [if_pos hw]
 obtain ⟨v', w', hr, h2, h3, h4⟩ := Lib.run_append_own_string (P := P) w base t u o.type e i ht hu hi hz hsize hby v n xs hown s h63 hbytes hbase
 unfold Oper.wp execOp
 simp only [ho, resolve, invoke, builtin, Sem.run_bind, Sem.run_pure, Result.andThen_ok, List.map_toArray, List.map_cons, List.map_nil, hs, hx, hr]
 exact h v' w' h2 h3
end
theorem Dk {B B' : Nat} {w w1 : World} {name : String} {k : IntKind} {zs : List Int} (h : Lib.TabBelow Tryz.prog B w name k zs) (hle : B <= B') (hb : Below B w w1) : Lib.TabBelow Tryz.prog B' w1 name k zs :=
 fun w' h' => h w' (hb.trans (h'.mono hle))
theorem B7 {A : List Int} (hA : ∀ a ∈ A, -9223372036854775808 <= a /\ a <= 9223372036854775807) : (keyT A).length <= 22 * A.length := by
 induction A with
 | nil => simp [keyT]
 | cons a A ih =>
  have h1 := ih fun b hb => hA b (List.mem_cons_of_mem _ hb)
  have h2 := hA a List.mem_cons_self
  have h3 := Lib.itoa_length_le a h2.1 h2.2
  unfold keyT at h1 ⊢
  rw [List.flatMap_cons, List.length_append, List.length_cons, List.length_cons]
  omega
theorem zQ {A : List Int} {j : Nat} (h : j < A.length) : keyT (A.take (j + 1)) = keyT (A.take j) ++ 32 :: Lib.itoa A[j] := by
 rw [List.take_add_one, List.getElem?_eq_getElem h]
 unfold keyT
 rw [List.flatMap_append]
 simp
set_option maxRecDepth 100000 in
set_option maxHeartbeats 8000000 in
theorem key_any (w : World) (k : Int) (k0 : -9223372036854775808 <= k) (k1 : k <= 9223372036854775807) (op : ByteArray) (hop : op.size <= 1048576) (c2 c3 c4 c5 c6 c7 c8 c9 c10 : Value)
  (A : List Int) (hA : ∀ a ∈ A, -9223372036854775808 <= a /\ a <= 9223372036854775807) (hAl : A.length <= 1048576) (sa : Option Addr) (cap : Nat)
  (hcells : ∀ j a, A[j]? = some a -> ∃ g off, sa = some ⟨g, off, none⟩ /\ w.cell? ⟨g, off + j, none⟩ = some (.int .i64 a))
  (htab : Lib.TabIs Tryz.prog w "internal/strconv.uint64pow10" .u64 Lib.pow10Tab) :
  Calls Tryz.prog 44 #[.agg #[.int .i64 k, .string op, c2, c3, c4, c5, c6, c7, c8, c9, c10, .slice sa A.length cap]] w fun e w' => e = .returned (.string ⟨(keyB k op A).toArray⟩) /\ Below w.heap.size w w' := by
 obtain ⟨i0, hi, hz0, hz1, hz2⟩ := info_parts infoByte
 have hT := Lib.tabBelow_of_tabIs htab
 have lk := Lib.itoa_length_le k k0 k1
 go_enter Tryz.func44, Tryz.ntmps44
 go_wp2_with (go_at_call 80; refine (Tryz.strconv_AppendInt_10 (w.heap.size + 1) 0 k k0 k1 (.slice none 0 0) [] _ (World.ownsRow_nil _ _ _ _) (by simp) (by omega) (Dk hT (by omega) ((Below.refl _ _).alloc (Nat.le_refl _) _))).mono ?_; rintro e w1 ⟨v1, rfl, hown1, hnx1, -⟩; refine Hid.out ?_)
 refine Lib.hid ?_
 rw [Nat.zero_add, List.nil_append] at hown1
 have q1 := (hnx1.cell (p := ⟨w.heap.size, 1, none⟩) (by simp)).trans (cell_of_row _ _ 1 _ _ _ (heap_alloc_new w _))
 have q11 := (hnx1.cell (p := ⟨w.heap.size, 11, none⟩) (by simp)).trans (cell_of_row _ _ 11 _ _ _ (heap_alloc_new w _))
 simp at q1 q11
 have hsz1 := hnx1.size
 simp at hsz1
 have hne : ∀ {v : Value} {n : Nat} {xs : List Value} {w' : World}, w'.ownsRow (w.heap.size + 1) 5 1 v n xs -> some w.heap.size ≠ v.ownBlock := fun ho e => by have := (ho.lt _ e.symm).1; omega
 have hBw1 : Below w.heap.size w w1 := ((Below.refl _ _).alloc (Nat.le_refl _) _).trans (hnx1.mono (by omega))
 go_wp2_with fail
 go_region_held3 (fun w' => w'.cell? ⟨w.heap.size, 1, none⟩ = some (.string op) /\ w'.cell? ⟨w.heap.size, 11, none⟩ = some (.slice sa A.length cap))
  (first | go_keep | (go_split_ands; refine ⟨?_, ?_⟩ <;> (rw [hgrow.cell_far _ (by simp; omega) (hne hown1)]; assumption)) | (go_split_ands; refine ⟨?_, ?_⟩ <;> (rw [hgrow.cell_far _ (by have := hg2.size; simp at this ⊢; omega) (hne hown2)]; assumption)))
  (first
   | ((refine step_append_lies _ (by rfl) _ _ 100 (by rfl) (w.heap.size + 1) 5 i0 _ 1 1 Tryz.underlying100 hi hz0 hz1 hz2 rfl (by omega) v1 _ _ (by rfl) ((hown1.alloc _).drew) ⟨w1.heap.size, 0, none⟩ 1 1 [.int .u8 32] (by rfl) (by rfl) (World.news_of_block (cs := #[.int .u8 32]) (t := 5) (fr := (0, 0)) (heap_alloc_new w1 _)) (by simp [Value.oneCell']) (by omega) (by unfold maxLen; omega) (by omega) (by simp; omega) (w1.heap.size + 1) (by simp) ?_; intro g2 cap2 w2 hown2 hgrow hat2 hlt2; have hg2 := hgrow))
   | ((refine nF (by rfl) _ _ 100 9 (by rfl) (w.heap.size + 1) 5 i0 Tryz.underlying100 Tryz.underlying9 hi hz0 hz1 hz2 _ _ _ (by rfl) hown2 op (by rfl) (by unfold maxLen; omega) (by omega) (by have := hgrow.size; simp at this ⊢; omega) ?_; intro v3 w3 hown3 hgrow)))
 have hB2 : Below w.heap.size w w2 := Below.grown (Below.drew (hBw1.alloc (by omega) _)) hg2 (by simp; omega) (fun q hq => by have := (hown1.lt q hq).1; omega)
 have hB3 : Below w.heap.size w w3 := hB2.grown hgrow (by have := hg2.size; simp at this; omega) (fun q hq => by have := (hown2.lt q hq).1; omega)
 clear hg2 hgrow hown2 hown1 hnx1 hat2 hlt2
 have HO0 := Lib.hid (show w3.ownsRow (w.heap.size + 1) 5 1 v3 ((Lib.itoa k).length + 1 + op.size + (keyT (A.take 0)).length) (Lib.byteCells (Lib.itoa k) ++ [Value.int .u8 32] ++ Lib.strCells op ++ Lib.byteCells (keyT (A.take 0))) by simpa [keyT, Lib.byteCells] using hown3)
 have HB3 := Lib.hid hB3
 clear hown3 hB3
 go_wp2_with fail
 go_loopw [3, 20] (fun v i wr => ∃ j : Nat, j <= A.length /\ i = .int .i64 j /\ Hid (wr.ownsRow (w.heap.size + 1) 5 1 v ((Lib.itoa k).length + 1 + op.size + (keyT (A.take j)).length) (Lib.byteCells (Lib.itoa k) ++ [Value.int .u8 32] ++ Lib.strCells op ++ Lib.byteCells (keyT (A.take j)))) /\ Hid (Below w.heap.size w wr) /\ w.heap.size < wr.heap.size) (fun _ i _ => A.length - (intOf i).toNat)
 case atStart => exact ⟨0, Nat.zero_le _, rfl, HO0, HB3, World.block_lt_of_cell? _ _ (And.left (by assumption))⟩
 case round =>
  obtain ⟨j, hj, rfl, HO, HB, hwr⟩ := hrel
  have hkl := B7 (A := A.take j) (fun a ha => hA a (List.mem_of_mem_take ha))
  rw [List.length_take] at hkl
  by_cases hlt : j < A.length
  ·obtain ⟨g, off, hsa, hcl⟩ := hcells j (A[j]) (List.getElem?_eq_getElem hlt)
   subst hsa
   have hst := zQ hlt
   have hr := hA _ (List.getElem_mem hlt)
   obtain ⟨a, ha⟩ : ∃ a, A[j] = a := ⟨_, rfl⟩
   rw [ha] at hcl hst hr
   have HST := Lib.hid hst
   have hcl' := (HB.out.cell (p := ⟨g, off + j, none⟩) (World.block_lt_of_cell? _ _ hcl)).trans hcl
   have hi0 : (0 : Int) <= (j : Int) := Int.natCast_nonneg _
   have hi1 : (j : Int) < (A.length : Int) := by omega
   have la := Lib.itoa_length_le a hr.1 hr.2
   obtain ⟨N, hN⟩ : ∃ N, (Lib.itoa k).length + 1 + op.size + (keyT (A.take j)).length = N := ⟨_, rfl⟩
   obtain ⟨X, hX⟩ : ∃ X, Lib.byteCells (Lib.itoa k) ++ [Value.int .u8 32] ++ Lib.strCells op ++ Lib.byteCells (keyT (A.take j)) = X := ⟨_, rfl⟩
   have hO := HO.out
   rw [hN, hX] at hO
   have HN := Lib.hid hN
   have HX := Lib.hid hX
   have hNl : N <= 50000000 := by omega
   clear hst hN hX HO ha hkl
   go_wp2_with (at_builtin; refine wpList_append_own _ rfl _ _ 100 rfl (w.heap.size + 1) 5 i0 (.int .u8 0) 1 1 Tryz.underlying100 hi hz0 hz1 hz2 rfl (by decide) _ _ _ rfl (hO.alloc _) ⟨_, 0, none⟩ 1 1 [Value.int .u8 32] rfl rfl (by intro j u' hj; match j, hj with | 0, hj => simp at hj; subst hj; simp [Addr.add]) (by intro u' hu'; simp at hu'; subst hu'; rfl) (by unfold maxLen; omega) (by omega) (by simp; omega) ?_)
   intro v2 w2 hown2 hgrow _
   have hBa := HB.out.alloc (by omega) (Obj.cells #[Value.int .u8 32] 5)
   have hB2 := hBa.grown hgrow (by simp; omega) (fun q hq => by have := (hO.lt q hq).1; omega)
   have hs2 := hgrow.size
   simp at hs2
   have HB2 := Lib.hid hB2
   go_wp2_with (go_at_call 80; refine (Tryz.strconv_AppendInt_10 (w.heap.size + 1) (N + 1) a hr.1 hr.2 _ _ _ hown2 (by omega) (by omega) (Dk hT (by omega) HB2.out)).mono ?_; rintro e w3 ⟨v3, rfl, hown3, hnx3, -⟩; refine Hid.out ?_)
   refine Lib.hid ?_
   have hs3 := hnx3.size
   have HB3 := Lib.hid (HB2.out.trans (hnx3.mono (by omega)))
   have HO3 : Hid (w3.ownsRow (w.heap.size + 1) 5 1 v3 ((Lib.itoa k).length + 1 + op.size + (keyT (A.take (j + 1))).length) (Lib.byteCells (Lib.itoa k) ++ [Value.int .u8 32] ++ Lib.strCells op ++ Lib.byteCells (keyT (A.take (j + 1))))) := Lib.hid (by
    have hN := HN.out
    have hX := HX.out
    rw [HST.out]
    have e1 : (Lib.itoa k).length + 1 + op.size + (keyT (A.take j) ++ 32 :: Lib.itoa a).length = N + 1 + (Lib.itoa a).length := by rw [<- hN, List.length_append, List.length_cons]; omega
    have e2 : Lib.byteCells (Lib.itoa k) ++ [Value.int .u8 32] ++ Lib.strCells op ++ Lib.byteCells (keyT (A.take j) ++ 32 :: Lib.itoa a) = X ++ [Value.int .u8 32] ++ Lib.byteCells (Lib.itoa a) := by rw [<- hX]; simp [Lib.byteCells]
    rw [e1, e2]; exact hown3)
   clear hown3 hown2 hgrow hO HX HN HST hcl hcl' hBa hB2
   go_wp2_with fail
   go_roundw
   case rel => exact ⟨j + 1, by omega, by go_num, HO3, HB3, by omega⟩
   case measure => simp [intOf]; omega
  ·obtain rfl : j = A.length := by omega
   have hO := HO.out
   rw [List.take_length] at hO
   have eL : Lib.byteCells (Lib.itoa k) ++ [Value.int .u8 32] ++ Lib.strCells op ++ Lib.byteCells (keyT A) = Lib.byteCells (keyB k op A) := by
    unfold keyB
    simp [Lib.byteCells, Lib.strCells]
   have eN : (Lib.itoa k).length + 1 + op.size + (keyT A).length = (keyB k op A).length := by
    unfold keyB
    have : op.data.toList.length = op.size := rfl
    simp only [List.length_append, List.length_cons, this]; omega
   rw [eL, eN] at hO
   have hpos : 0 < (keyB k op A).length := by rw [<- eN]; omega
   have hdone : decide ((A.length : Int) < (A.length : Int)) = false := by simp
   obtain ⟨l, hl⟩ : ∃ l, l = keyB k op A := ⟨_, rfl⟩
   rw [<- hl] at hO hpos
   have HL := Lib.hid hl
   clear hl eL eN HO hkl
   rcases hO.2 with ⟨-, h0⟩ | ⟨g, cap', cur, rfl, -, -, -, -, -, -⟩
   ·omega
   ·have hcv := run_convert_bytes_back (P := Tryz.prog) wr 100 9 5 ⟨g, 0, none⟩ cap' l Tryz.underlying100 Tryz.underlying5 Tryz.underlying9 (fun q hq => hO.cells (g := g) rfl q _ (by simp [Lib.byteCells, hq]))
    go_wp2
    go_ret
    have hl := HL.out
    subst hl
    exact ⟨rfl, HB.out⟩
end Go.Proofs.YtndhhgbpcmfeiaaGreatDoor
/- Chapter 20: what is known of calls holds; rows with a condition whose tables are laid. -/
namespace Go.Proofs.YtndhhgbpcmfeiaaGreatDoor.Ev
open Go.RowKit Go.ChangeShapes Go.WideShapes
set_option maxRecDepth 100000
theorem yJ (n : Int) : 0 <= (pz n).2 := by unfold pz; split <;> simp
theorem CC (a b : Int) : 0 <= (sJ a b).2 := by unfold sJ; split; exact yJ _; decide
theorem CG (a b : Int) : 0 <= (sK a b).2 := by unfold sK; split; exact yJ _; decide
theorem rt (a b c : Int) : 0 <= (gU a b c).2 := by unfold gU; split <;> simp
theorem CF (a b : Int) : 0 <= (py a b).2 := by unfold py; split; exact rt _ _ _; decide
theorem CD (a b : Int) : 0 <= (m6 a b).2 := by
 unfold m6; split
 ·split; decide; exact rt _ _ _
 ·decide
theorem CE (a b : Int) : 0 <= (m7 a b).2 := by
 unfold m7; split
 ·split <;> simp
 ·decide
def HV (f : Nat) : Prop := ∃ fn, Tryz.prog.funcs[f]? = some fn /\ fn.body.isSome = true /\ (fn.name == "runtime.NumGoroutine") = false
theorem lr {w w' : World} (h : w = w') : Below w.heap.size w w' := by subst h; exact Below.refl _ _
set_option maxHeartbeats 2000000 in
theorem FN {f : Nat} {m : Int -> Int -> Int × Int} (h : HZ f = some m) : HV f /\ ∀ a b (w : World), 0 <= (m a b).2 /\ Calls Tryz.prog f #[.int .i64 a, .int .i64 b] w fun e w' => e = .returned (.tuple #[.int .i64 (m a b).1, .int .i64 (m a b).2]) /\ Below w.heap.size w w' := by
 unfold HZ at h
 split at h
 ·rename_i hf
  have hf := Nat.eq_of_beq_eq_true hf
  subst hf
  cases h
  exact ⟨⟨_, Tryz.func107, by kernel_rfl, by kernel_rfl⟩, fun a b w => ⟨CC a b, (DQ a b w).mono fun e w' ⟨h1, h2⟩ => ⟨h1, lr h2⟩⟩⟩
 split at h
 ·rename_i hf
  have hf := Nat.eq_of_beq_eq_true hf
  subst hf
  cases h
  exact ⟨⟨_, Tryz.func108, by kernel_rfl, by kernel_rfl⟩, fun a b w => ⟨CG a b, (E1 a b w).mono fun e w' ⟨h1, h2⟩ => ⟨h1, lr h2⟩⟩⟩
 split at h
 ·rename_i hf
  have hf := Nat.eq_of_beq_eq_true hf
  subst hf
  cases h
  exact ⟨⟨_, Tryz.func109, by kernel_rfl, by kernel_rfl⟩, fun a b w => ⟨CF a b, (ED a b w).mono fun e w' ⟨h1, h2⟩ => ⟨h1, h2⟩⟩⟩
 split at h
 ·rename_i hf
  have hf := Nat.eq_of_beq_eq_true hf
  subst hf
  cases h
  exact ⟨⟨_, Tryz.func110, by kernel_rfl, by kernel_rfl⟩, fun a b w => ⟨CD a b, (Eb a b w).mono fun e w' ⟨h1, h2⟩ => ⟨h1, h2⟩⟩⟩
 split at h
 ·rename_i hf
  have hf := Nat.eq_of_beq_eq_true hf
  subst hf
  cases h
  exact ⟨⟨_, Tryz.func111, by kernel_rfl, by kernel_rfl⟩, fun a b w => ⟨CE a b, (EC a b w).mono fun e w' ⟨h1, h2⟩ => ⟨h1, lr h2⟩⟩⟩
 cases h
theorem CN {M : Inj} {p : Int × Int} (h : 0 <= p.2) : VRel M (bG p) (.tuple #[.int .i64 p.1, .int .i64 p.2]) := by
 unfold bG
 have e : ((p.2.toNat : Nat) : Int) = p.2 := Int.toNat_of_nonneg h
 rw [e]
 refine .tuple _ _ rfl fun i v u hv hu => ?_
 match i with
 | 0 => simp at hv hu; subst hv hu; exact .int _ _
 | 1 => simp at hv hu; subst hv hu; exact .int _ _
 | i + 2 => simp at hv
theorem G8 {M : Inj} {a b : Int} {vs : Array Value} (h : LRel M [.int .i64 a, .int .i64 b] vs.toList) : vs = #[.int .i64 a, .int .i64 b] := by
 obtain ⟨l⟩ := vs
 obtain ⟨h1, h2⟩ := h
 match l, h1 with
 | [x, y], _ =>
  have hx := h2 0 _ _ rfl rfl
  have hy := h2 1 _ _ rfl rfl
  cases hx; cases hy; rfl
theorem Dc {M : Inj} {l : List Nat} {v : Value} (h : VRel M (.str l) v) : ∃ s : ByteArray, v = .string s /\ s.data.toList.map UInt8.toNat = l := by
 cases h with
 | str s l h => exact ⟨s, rfl, h⟩
theorem wJ {M : Inj} {b o n z : Nat} {v : Value} (h : VRel M (.slice b o n z) v) :
  ∃ i cap p, M b = some i /\ i.sz = z /\ o + cap = i.cap /\ n <= cap /\ (p = ⟨i.blk, i.off + o * i.sz, none⟩ \/ cap = 0) /\ i.val = undef /\ v = .slice (some p) n cap := by
 cases h with
 | slice b o n cap p i hi hc hl hp hv => exact ⟨i, cap, p, hi, rfl, hc, hl, hp, hv, rfl⟩
theorem ud : ∀ {l : List AV} {A : List Int}, lz l = some A -> l = cA A /\ ∀ a ∈ A, -9223372036854775808 <= a /\ a <= 9223372036854775807
 | [], A, h => by unfold lz at h; cases h; exact ⟨rfl, fun a h => by simp at h⟩
 | x :: l, A, h => by
  unfold lz at h
  split at h
  ·rename_i h0; cases h0
  ·rename_i a l' h0
   cases h0
   split at h
   ·rename_i m hd hm
    cases h
    obtain ⟨h1, h2⟩ := ud hm
    refine ⟨by rw [h1]; rfl, fun b hb => ?_⟩
    rcases List.mem_cons.1 hb with rfl | hb
    ·exact of_decide_eq_true hd
    ·exact h2 b hb
   ·cases h
  ·cases h
theorem uc {M : Inj} {k : IntKind} {n : Int} {v : Value} (h : VRel M (.int k n) v) : v = .int k n := by cases h; rfl
theorem re {k : Int} {s : ByteArray} {op : List Nat} {A : List Int} (h : s.data.toList.map UInt8.toNat = op) : (Go.Proofs.YtndhhgbpcmfeiaaGreatDoor.keyB k s A).map UInt8.toNat = vY k op A := by
 unfold Go.Proofs.YtndhhgbpcmfeiaaGreatDoor.keyB vY Go.Proofs.YtndhhgbpcmfeiaaGreatDoor.keyT vX
 rw [List.map_append, List.map_cons, List.map_append, h, List.map_flatMap]
 rfl
def HI : Ctx := ⟨pL [], fun w => Lib.TabIs Tryz.prog w "internal/strconv.uint64pow10" .u64 Lib.pow10Tab⟩
theorem F6 {M : Inj} {N : Nat -> Prop} {w0 : Base HI} {h : AHeap} {w : World} (hh : HRel M N w0 h w) {args : List AV} {vs : Array Value} (hr : LRel M args vs.toList) {v : AV} (ho : F5 h args = some v) :
  Calls Tryz.prog 44 vs w fun e w' => ∃ u, e = .returned u /\ VRel M v u /\ Below w.heap.size w w' := by
 have hT : Lib.TabIs Tryz.prog w "internal/strconv.uint64pow10" .u64 Lib.pow10Tab := w0.ok w (hh.below.below hh.lim)
 unfold F5 at ho
 split at ho
 rotate_left
 ·cases ho
 rename_i k op c2 c3 c4 c5 c6 c7 c8 c9 c10 va
 split at ho
 rotate_left
 ·cases ho
 rename_i hb
 rw [Bool.and_eq_true] at hb
 have hop := Nat.ble_eq.mp hb.1
 have hk := of_decide_eq_true hb.2
 obtain ⟨l⟩ := vs
 obtain ⟨h1, h2⟩ := hr
 match l, h1 with
 | [x], hq1 =>
 have hx := h2 0 _ _ rfl rfl
 cases hx with
 | agg _ cs hsz hx =>
 obtain ⟨cl⟩ := cs
 match cl, hsz with
 | [u0, u1, u2, u3, u4, u5, u6, u7, u8, u9, u10, u11], hq2 =>
 obtain rfl := uc (hx 0 _ _ rfl rfl)
 obtain ⟨s, rfl, hs⟩ := Dc (hx 1 _ _ rfl rfl)
 have h11 := hx 11 _ _ rfl rfl
 have hsl : s.size <= 1048576 := by
  have := congrArg List.length hs
  rw [List.length_map] at this
  have e : s.data.toList.length = s.size := rfl
  omega
 unfold B6 at ho
 split at ho
 ·cases ho
  cases h11
  refine (Go.Proofs.YtndhhgbpcmfeiaaGreatDoor.key_any w k hk.1 hk.2 s hsl u2 u3 u4 u5 u6 u7 u8 u9 u10 [] (fun a h => by simp at h) (by simp) none 0 (fun j a h => by simp at h) hT).mono ?_
  rintro e w' ⟨rfl, hB⟩
  exact ⟨_, rfl, .str _ _ (by show (List.toArray _).toList.map _ = _; exact re hs), hB⟩
 ·rename_i b n
  split at ho
  rotate_left
  ·cases ho
  rename_i ob hn hob
  have hn := Nat.ble_eq.mp hn
  split at ho
  rotate_left
  ·cases ho
  rename_i l hl
  split at ho
  rotate_left
  ·cases ho
  rename_i A hA
  cases ho
  obtain ⟨hls, hAr⟩ := ud hA
  obtain ⟨i, cap, p, hi, hsz, hc, hlc, hp, hv, rfl⟩ := wJ h11
  have hl0 : l = ob.cells.take n /\ n <= ob.cells.length := by
   unfold cn at hl
   split at hl
   ·rename_i hb
    have := Nat.ble_eq.mp hb
    simp only [Option.some.injEq, List.drop_zero] at hl
    exact ⟨hl.symm, by omega⟩
   ·cases hl
  have hAl : A.length = n := by
   have := congrArg List.length hls
   rw [hl0.1] at this
   simp only [cA, List.length_map, List.length_take] at this
   omega
  have hcells : ∀ j a, A[j]? = some a -> ∃ g off, some p = some ⟨g, off, none⟩ /\ w.cell? ⟨g, off + j, none⟩ = some (.int .i64 a) := by
   intro j a hj
   have hjl : j < n := by have := (List.getElem?_eq_some_iff.1 hj).1; omega
   obtain ⟨j', c, e, fr, k1, k2, k3⟩ := hh.readAt hob hi hv
   rw [hi] at k1
   cases k1
   have hp : p = ⟨i.blk, i.off, none⟩ := by
    have := hp.resolve_right zy
    simpa using this
   have h3 : ob.cells[j]? = some (.int .i64 a) := by
    have h4 : l[j]? = some (.int .i64 a) := by rw [hls, cA, List.getElem?_map, hj]; rfl
    rw [hl0.1, List.getElem?_take, if_pos hjl] at h4
    exact h4
   obtain ⟨_, u, h5, h6⟩ := k3 j _ h3
   obtain rfl := uc h6
   refine ⟨i.blk, i.off, by rw [hp], ?_⟩
   unfold World.cell?
   rw [k2]
   exact h5
  have := Go.Proofs.YtndhhgbpcmfeiaaGreatDoor.key_any w k hk.1 hk.2 s hsl u2 u3 u4 u5 u6 u7 u8 u9 u10 A hAr zy (some p) cap hcells hT
  rw [hAl] at this
  refine this.mono ?_
  rintro e w' ⟨rfl, hB⟩
  exact ⟨_, rfl, .str _ _ (by show (List.toArray _).toList.map _ = _; exact re hs), hB⟩
 ·cases ho
theorem Gs : ∀ f args h v, orc f args h = some v -> ∀ M N (w0 : Base HI) (vs : Array Value) w, HRel M N w0 h w -> LRel M args vs.toList ->
  (∃ fn, Tryz.prog.funcs[f]? = some fn /\ fn.body.isSome = true /\ (fn.name == "runtime.NumGoroutine") = false) /\
  Calls Tryz.prog f vs w fun e w' => ∃ u, e = .returned u /\ VRel M v u /\ Below w.heap.size w w' := by
 intro f args h v ho M N w0 vs w hh hr
 unfold orc at ho
 split at ho
 ·rename_i hf
  have hf := Nat.eq_of_beq_eq_true hf
  subst hf
  split at ho
  rotate_left
  ·cases ho
  simp only [Option.some.injEq] at ho
  subst ho
  refine ⟨⟨_, Tryz.func10, by kernel_rfl, by kernel_rfl⟩, ?_⟩
  obtain ⟨cs⟩ := vs
  match cs, hr with
  | [], hr =>
   refine (zV w).mono ?_
   rintro e w' ⟨rfl, hB⟩
   exact ⟨_, rfl, .bool _, hB⟩
  | _ :: _, hr => have := hr.1; simp at this
 ·split at ho
  ·rename_i hf
   have hf := Nat.eq_of_beq_eq_true hf
   subst hf
   exact ⟨⟨_, Tryz.func44, by kernel_rfl, by kernel_rfl⟩, F6 hh hr ho⟩
  ·split at ho
   ·rename_i m hm
    obtain ⟨h1, h2⟩ := FN hm
    split at ho
    rotate_left
    ·cases ho
    rename_i a b
    simp only [Option.some.injEq] at ho
    subst ho
    obtain ⟨h3, h4⟩ := h2 a b w
    refine ⟨h1, ?_⟩
    rw [G8 hr]
    exact h4.mono fun e w' ⟨g1, g2⟩ => ⟨_, g1, CN h3, g2⟩
   ·cases ho
theorem GC : TabOK Tryz.prog aN HI := Ax (Dj (by kernel_rfl) (by kernel_rfl)) (fun _ _ _ _ _ h => by cases h) (fun _ _ _ h => by cases h) Gs
theorem Ek {w : World} {I : List InB} (h : GS w I) (hT : Lib.TabIs Tryz.prog w "internal/strconv.uint64pow10" .u64 Lib.pow10Tab) : HRel (J := HI) (pK I) (fun k => k < w.heap.size) ⟨w, w.heap.size, fun w' hb => Lib.tabBelow_of_tabIs hT w' hb, fun _ => False⟩ (BY I) w := by
 refine ⟨?_, fun k hk => hk, Keeps.refl _ _, fun k hk => hk, ?_, ?_, ?_, ?_, fun b hb => hb.elim⟩
 ·intro b i hb
  have hb : pL [] b = some i := hb
  simp [pL] at hb
 ·intro b o hb
  obtain ⟨x, _, h2, h3, rfl⟩ := iw I 0 b o hb
  rw [Nat.sub_zero] at h2
  obtain ⟨h4, c, e, fr, h5, h6⟩ := h x (List.mem_of_getElem? h2) h3
  exact .inr (.inl ⟨x.bi, c, e, fr, by simp [pK, h2], h4, h5, (Array.getElem?_eq_some_iff.1 h5).1, rfl, h6⟩)
 ·intro b b' o o' i i' hb hb' hi hi' heq hN
  obtain ⟨x, _, h2, h3, rfl⟩ := iw I 0 b o hb
  rw [Nat.sub_zero] at h2
  obtain ⟨h4, c, e, fr, h5, h6⟩ := h x (List.mem_of_getElem? h2) h3
  have : pK I b = some x.bi := by simp [pK, h2]
  rw [this] at hi
  cases hi
  exact absurd (Array.getElem?_eq_some_iff.1 h5).1 hN
 ·intro b o hb
  obtain ⟨x, _, h2, _⟩ := iw I 0 b o hb
  have := (List.getElem?_eq_some_iff.1 h2).1
  show b < I.length
  omega
 ·intro b hb
  unfold pK
  rw [List.getElem?_eq_none hb]
  rfl
theorem in_callT {f : Nat} {args : List AV} {hs : ak} {v : AV} {u : Value} (h : Spec aN f args [] hs (fJ v)) (hu : DX v = some u) {I : List InB} (hI : FI I hs) {vs : Array Value} (hl : LRel (pK I) args vs.toList) (w : World) (hw : GS w I) (hT : Lib.TabIs Tryz.prog w "internal/strconv.uint64pow10" .u64 Lib.pow10Tab) :
  Calls Tryz.prog f vs w fun e w' => e = .returned u /\ Below w.heap.size w w' := by
 obtain ⟨v', h', hs', ⟨K0, hE⟩, ⟨rfl, _⟩, _, _⟩ := h (BY I) ⟨fun e he => by
  obtain ⟨h1, x, h2, h3, h4⟩ := hI.2 e he
  refine ⟨?_, (List.getElem?_eq_some_iff.1 h2).1, fun g => by rw [h1] at g; cases g⟩
  have := rx I 0 e.b x h2 h3
  rw [Nat.zero_add] at this
  rw [h4]
  exact this, hI.1, Fr.refl _ _⟩
 have hE := hE K0 (Nat.le_refl _)
 obtain ⟨_, hc⟩ := A4 GC K0 _ _ _ _ _ _ _ _ _ _ hE hl (Ek hw hT)
 exact hc.mono fun e w' ⟨M', x, h1, h2, h3, h4⟩ => ⟨by rw [h1, ye hu h4], h3.below.below fun k hk => hk⟩
end Go.Proofs.YtndhhgbpcmfeiaaGreatDoor.Ev
