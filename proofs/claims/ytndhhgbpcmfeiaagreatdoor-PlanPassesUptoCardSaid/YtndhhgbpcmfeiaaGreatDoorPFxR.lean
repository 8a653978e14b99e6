/- Walks of package gaugeref03: the reference's products. -/
import Derived.Test.YtndhhgbpcmfeiaaGreatDoorProg
import Derived.WalkKit
import Derived.ProofKit
import Derived.OpenShut
import Derived.Outline
import Derived.WalkSpells
import Derived.WalkLawsBesides
import Derived.Deep.QuietTactic
import Derived.BigQuiet
import Derived.Lib.Hide
import Derived.Deep.DeepFit
import Derived.Deep.DeepMust
import Derived.Test.YtndhhgbpcmfeiaaGreatDoorPGb
import Derived.StillTailTactics
import Derived.Laws.MakeOwn

namespace Go.Proofs.YtndhhgbpcmfeiaaGreatDoor
open Go.ChangeShapes Go.WideShapes Go.ChangeAt Go.RowKit
set_option maxRecDepth 100000
def Row (w : World) (B : Nat) (D : List Int) : Prop := w.heap[B]? = some (.cells (D.map (Value.int .i64)).toArray 3 (0, 0))
theorem Row.lt {w : World} {B : Nat} {D : List Int} (h : Row w B D) : B < w.heap.size := (Array.getElem?_eq_some_iff.1 h).1
theorem Row.cell {w : World} {B : Nat} {D : List Int} (h : Row w B D) (j : Nat) (hj : j < D.length) : w.cell? ⟨B, j, none⟩ = some (.int .i64 (D.getD j 0)) := by
 unfold Row at h
 simp [World.cell?, h, hj]
theorem Row.frozen {w : World} {B : Nat} {D : List Int} (h : Row w B D) (j : Nat) : w.frozen? ⟨B, j, none⟩ = false := by
 unfold Row at h
 simp [World.frozen?, h]
theorem Row.set {w : World} {B : Nat} {D : List Int} (h : Row w B D) (j : Nat) (v : Int) : Row (w.setCell ⟨B, j, none⟩ (.int .i64 v)) B (D.set j v) := by
 unfold Row at h ⊢
 simp only [World.setCell, Array.getElem?_modify, if_true, h]
 simp [List.map_set]
theorem Row.drew {w : World} {B : Nat} {D : List Int} (h : Row w B D) (n : Nat) : Row (w.drewN n) B D := h
theorem Row.keep {w w' : World} {B K : Nat} {D : List Int} (h : Row w B D) (hb : Below K w w') (hk : B < K) : Row w' B D := by
 unfold Row at h ⊢; rw [hb.block B hk]; exact h
theorem Row.alloc {w : World} {B : Nat} {D : List Int} (h : Row w B D) (o : Obj) : Row (w.alloc o) B D := by
 unfold Row at h ⊢
 rw [Below.heap_alloc _ _ _ (Array.getElem?_eq_some_iff.1 h).1]; exact h
theorem Row.setOther {w : World} {B : Nat} {D : List Int} (h : Row w B D) (a : Addr) (v : Value) (hne : B ≠ a.block) : Row (w.setCell a v) B D := by
 unfold Row at h ⊢
 rw [Below.heap_setCell _ _ _ _ hne]; exact h
theorem _root_.Go.RowKit.Below.drewN' {B : Nat} {a w : World} (h : Below B a w) (n : Nat) : Below B a (w.drewN n) := below_drewN h n
theorem pK (w : World) (c : Array Value) (D : List Int) (h : c = (D.map (Value.int .i64)).toArray) : Row (w.alloc (.cells c 3)) w.heap.size D := by
 subst h
 exact heap_alloc_new w _
def val : List Int -> Int
 | [] => 0
 | d :: r => d + 1048576 * val r
theorem lR : ∀ (D : List Int) (j : Nat) (v : Int), j < D.length -> val (D.set j v) = val D + (v - D.getD j 0) * 1048576 ^ j
 | [], j, v, h => by simp at h
 | d :: r, 0, v, h => by simp [val]; omega
 | d :: r, j + 1, v, h => by
  have := lR r j v (by simpa using h)
  simp only [List.set_cons_succ, val, this, List.getD_cons_succ, Int.pow_succ]
  generalize (v - r.getD j 0) = x
  generalize (1048576 : Int) ^ j = y
  rw [Int.mul_add, <- Int.mul_assoc, Int.mul_comm y 1048576, <- Int.mul_assoc, Int.mul_comm 1048576 x]; omega
theorem nc : ∀ (D : List Int) (j : Nat), j < D.length -> val (D.take (j + 1)) = val (D.take j) + D.getD j 0 * 1048576 ^ j
 | [], j, h => by simp at h
 | d :: r, 0, h => by simp [val]
 | d :: r, j + 1, h => by
  have := nc r j (by simpa using h)
  simp only [List.take_succ_cons, val, this, List.getD_cons_succ, Int.pow_succ]
  generalize r.getD j 0 = x
  generalize (1048576 : Int) ^ j = y
  rw [Int.mul_add, <- Int.mul_assoc, Int.mul_comm y 1048576, <- Int.mul_assoc, Int.mul_comm 1048576 x]; omega
theorem o5 (D : List Int) (j k : Nat) (v : Int) (lo hi : Int) (h : ∀ j, lo <= D.getD j 0 /\ D.getD j 0 <= hi) (hv : lo <= v /\ v <= hi) : lo <= (D.set j v).getD k 0 /\ (D.set j v).getD k 0 <= hi := by
 rw [List.getD_eq_getElem?_getD, List.getElem?_set]
 split
 ·split
  ·simpa using hv
  ·rename_i h1 h2
   have := h j
   rw [List.getD_eq_getElem?_getD, List.getElem?_eq_none (by omega)] at this
   exact this
 ·rw [<- List.getD_eq_getElem?_getD]; exact h k
def ky (a : Int) : List Int := [a % 1048576, a / 1048576 % 1048576, a / 1048576 / 1048576 % 1048576, a / 1048576 / 1048576 / 1048576]
theorem l9 (a : Int) (w : World) (h0 : 0 <= a) (h1 : a <= 1152921504606846976) :
  Calls Tryz.prog 171 #[.int .i64 a] w fun e w' => ∃ B cap, e = .returned (.slice (some ⟨B, 0, none⟩) 4 cap) /\ w.heap.size <= B /\ Row w' B (ky a) /\ Below w.heap.size w w' := by
 go_enter Tryz.func171, Tryz.ntmps171
 go_wp2_with fail
 go_ret
 refine ⟨_, _, rfl, Nat.le_refl _, ?_, (Below.refl _ _).alloc (Nat.le_refl _) _⟩
 exact pK w _ (ky a) rfl
theorem p8 (a : Int) : val (ky a) = a := by simp [ky, val]; omega
theorem s5 (a : Int) (h : 0 <= a /\ a <= 1152921504606846976) (j : Nat) : 0 <= (ky a).getD j 0 /\ (ky a).getD j 0 <= 1048575 := by
 match j with
 | 0 => simp [ky]; omega
 | 1 => simp [ky]; omega
 | 2 => simp [ky]; omega
 | 3 => simp [ky]; omega
 | j + 4 => simp [ky]
structure PInv (xs ys D : List Int) (i k : Nat) : Prop where
 len : D.length = 9
 bd : ∀ j, 0 <= D.getD j 0 /\ D.getD j 0 <= (4 * i + k) * 1099511627776
 eq : val D = val (xs.take i) * val ys + xs.getD i 0 * 1048576 ^ i * val (ys.take k)
theorem PInv.start (xs ys : List Int) : PInv xs ys [0, 0, 0, 0, 0, 0, 0, 0, 0] 0 0 :=
 ⟨rfl, fun j => by
  have : ([0, 0, 0, 0, 0, 0, 0, 0, 0] : List Int).getD j 0 = 0 := by
   rw [List.getD_eq_getElem?_getD]
   rcases h : ([0, 0, 0, 0, 0, 0, 0, 0, 0] : List Int)[j]? with _ | v
   ·rfl
   ·have := List.mem_of_getElem? h
    simp at this; simp [this]
  rw [this]; simp, by simp [val]⟩
theorem PInv.step {xs ys D : List Int} {i k : Nat} (h : PInv xs ys D i k) (hi : i < 4) (hk : k < 4) (hy : ys.length = 4) (bx : 0 <= xs.getD i 0 /\ xs.getD i 0 <= 1048575) (by' : 0 <= ys.getD k 0 /\ ys.getD k 0 <= 1048575) :
  PInv xs ys (D.set (i + k) (D.getD (i + k) 0 + xs.getD i 0 * ys.getD k 0)) i (k + 1) := by
 have hp : 0 <= xs.getD i 0 * ys.getD k 0 := Int.mul_nonneg bx.1 by'.1
 have hp' : xs.getD i 0 * ys.getD k 0 <= 1048575 * 1048575 := Int.mul_le_mul bx.2 by'.2 by'.1 (by omega)
 refine ⟨by simp [h.len], fun j => ?_, ?_⟩
 ·have := h.bd (i + k)
  refine o5 D (i + k) j _ 0 _ (fun j => ⟨(h.bd j).1, Int.le_trans (h.bd j).2 (by omega)⟩) ⟨by omega, by push_cast; omega⟩
 ·rw [lR _ _ _ (by rw [h.len]; omega), h.eq, nc _ _ (by omega)]
  generalize val (xs.take i) * val ys = A
  generalize val (ys.take k) = Bk
  generalize xs.getD i 0 = x
  generalize ys.getD k 0 = y
  rw [Int.add_comm (D.getD (i + k) 0), Int.add_sub_cancel, Int.pow_add]
  generalize (1048576 : Int) ^ i = p
  generalize (1048576 : Int) ^ k = q
  rw [Int.mul_add, Int.add_assoc]
  congr 1
  congr 1
  rw [Int.mul_assoc x y, Int.mul_assoc x p, <- Int.mul_assoc y, Int.mul_comm y p, Int.mul_assoc p]
theorem PInv.next {xs ys D : List Int} {i : Nat} (h : PInv xs ys D i 4) (hy : ys.length = 4) (hx : i < xs.length) : PInv xs ys D (i + 1) 0 := by
 refine ⟨h.len, fun j => ⟨(h.bd j).1, Int.le_trans (h.bd j).2 (by push_cast; omega)⟩, ?_⟩
 rw [h.eq, nc _ _ hx, List.take_of_length_le (l := ys) (by omega), Int.add_mul]
 simp [val]
structure QInv (v : Int) (D : List Int) (k : Nat) : Prop where
 len : D.length = 9
 lo : ∀ j, 0 <= D.getD j 0
 cur : D.getD k 0 <= 35184372088832
 hi : ∀ j, k < j -> D.getD j 0 <= 17592186044416
 done : ∀ j, j < k -> D.getD j 0 < 1048576
 eq : val D = v
theorem eh (D : List Int) (j k : Nat) (v : Int) (h : j < D.length) : (D.set j v).getD k 0 = if j = k then v else D.getD k 0 := by
 rw [List.getD_eq_getElem?_getD, List.getElem?_set]
 split
 ·simp
 ·rw [<- List.getD_eq_getElem?_getD]
theorem QInv.start {xs ys D : List Int} (h : PInv xs ys D 4 0) (hx : xs.length = 4) : QInv (val xs * val ys) D 0 :=
 ⟨h.len, fun j => (h.bd j).1, by have := (h.bd 0).2; omega, fun j _ => by have := (h.bd j).2; omega, fun j hj => by omega, by
  rw [h.eq, List.take_of_length_le (by omega)]; simp [val]⟩
theorem QInv.step {v : Int} {D : List Int} {k : Nat} (h : QInv v D k) (hk : k < 8) :
  QInv v ((D.set (k + 1) (D.getD (k + 1) 0 + D.getD k 0 / 1048576)).set k (D.getD k 0 % 1048576)) (k + 1) := by
 have l1 : k + 1 < D.length := by rw [h.len]; omega
 have l2 : k < (D.set (k + 1) (D.getD (k + 1) 0 + D.getD k 0 / 1048576)).length := by rw [List.length_set, h.len]; omega
 have h1 := h.lo k
 have h2 := h.lo (k + 1)
 have h3 := h.hi (k + 1) (by omega)
 have h4 := h.cur
 refine ⟨by simp [h.len], fun j => ?_, ?_, fun j hj => ?_, fun j hj => ?_, ?_⟩
 ·rw [eh _ _ _ _ l2, eh _ _ _ _ l1]
  have := h.lo j
  split <;> (try split) <;> omega
 ·rw [eh _ _ _ _ l2, eh _ _ _ _ l1, if_neg (by omega), if_pos rfl]; omega
 ·rw [eh _ _ _ _ l2, eh _ _ _ _ l1, if_neg (by omega), if_neg (by omega)]; exact h.hi j (by omega)
 ·rw [eh _ _ _ _ l2, eh _ _ _ _ l1]
  by_cases e : k = j
  ·rw [if_pos e]; omega
  ·rw [if_neg e, if_neg (by omega)]; exact h.done j (by omega)
 ·rw [lR _ _ _ l2, lR _ _ _ l1, eh _ _ _ _ l1, if_neg (by omega), h.eq, Int.pow_succ]
  generalize hd : D.getD k 0 = d at *
  generalize D.getD (k + 1) 0 = f at *
  generalize (1048576 : Int) ^ k = p
  have e1 : f + d / 1048576 - f = d / 1048576 := by omega
  have e2 : d % 1048576 - d = -(1048576 * (d / 1048576)) := by omega
  rw [e1, e2]
  generalize d / 1048576 = q
  rw [Int.neg_mul, <- Int.mul_assoc, Int.mul_comm (q * p), <- Int.mul_assoc]; omega
theorem qN (a b : Int) (w : World) (ha : 0 <= a /\ a <= 1152921504606846976) (hb : 0 <= b /\ b <= 1152921504606846976) :
  Calls Tryz.prog 145 #[.int .i64 a, .int .i64 b] w fun e w' => ∃ B cap D, e = .returned (.slice (some ⟨B, 0, none⟩) 9 cap) /\ w.heap.size <= B /\ Row w' B D /\ QInv (a * b) D 8 /\ Below w.heap.size w w' := by
 have hmk : ∀ w, (Instr.makeSlice 40 (.int .i64 9) (.int .i64 9)).run Tryz.prog w = .ok (.slice (some ⟨w.heap.size, 0, none⟩) 9 9) (w.alloc (.cells (([0, 0, 0, 0, 0, 0, 0, 0, 0] : List Int).map (Value.int .i64)).toArray 3)) := fun _ => by kernel_rfl
 have HA := Lib.hid (fun w => l9 a w ha.1 ha.2)
 have HB := Lib.hid (fun w => l9 b w hb.1 hb.2)
 have Ba := Lib.hid (s5 a ha)
 have Bb := Lib.hid (s5 b hb)
 clear ha hb
 go_enter Tryz.func145, Tryz.ntmps145
 go_wp2_with fail
 refine (HA.out _).mono ?_
 rintro e w1 ⟨B1, cap1, rfl, hB1, hR1, hW1⟩
 go_wp2_with fail
 refine (HB.out _).mono ?_
 rintro e w2 ⟨B2, cap2, rfl, hB2, hR2, hW2⟩
 have hR1' := Lib.hid (hR1.keep hW2 hR1.lt)
 have hR2' := Lib.hid hR2
 have hW := Lib.hid (hW1.trans (hW2.mono hW1.size))
 have hsz := hW.out.size
 have hz1 := hR1'.out.lt
 have hz2 := hR2.lt
 clear hW1 hW2 hR1 hR2
 obtain ⟨xs, hxs⟩ : ∃ xs, xs = ky a := ⟨_, rfl⟩
 obtain ⟨ys, hys⟩ : ∃ ys, ys = ky b := ⟨_, rfl⟩
 rw [<- hxs] at hR1' Ba
 rw [<- hys] at hR2' Bb
 have Lx := Lib.hid (show xs.length = 4 by rw [hxs]; rfl)
 have Ly := Lib.hid (show ys.length = 4 by rw [hys]; rfl)
 have Vx := Lib.hid (show val xs = a by rw [hxs, p8])
 have Vy := Lib.hid (show val ys = b by rw [hys, p8])
 clear hxs hys
 go_wp2_with fail
 go_loopw [8] (fun x wr => ∃ (i : Nat) (D : List Int), i <= 4 /\ x = .int .i64 i /\ Hid (PInv xs ys D i 0) /\ Row wr w2.heap.size D /\ Row wr B1 xs /\ Row wr B2 ys /\ Below w.heap.size w wr) (fun x _ => 4 - (intOf x).toNat)
 case atStart => exact ⟨0, [0, 0, 0, 0, 0, 0, 0, 0, 0], by omega, rfl, PInv.start xs ys, pK _ _ _ rfl, hR1'.out.alloc _, hR2'.out.alloc _, hW.out.alloc hsz _⟩
 case round =>
  obtain ⟨i, D, hi, rfl, hP, hD, hX, hY, hBl⟩ := hrel
  by_cases hlt : i < 4
  ·have dI : decide ((i : Int) < 4) = true := by simp; omega
   go_wp2_with fail
   go_loopw [9] (fun y wq => ∃ (k : Nat) (D : List Int), k <= 4 /\ y = .int .i64 k /\ Hid (PInv xs ys D i k) /\ Row wq w2.heap.size D /\ Row wq B1 xs /\ Row wq B2 ys /\ Below w.heap.size w wq) (fun y _ => 4 - (intOf y).toNat)
   case atStart => exact ⟨0, D, by omega, rfl, hP, hD, hX, hY, hBl⟩
   case round =>
    obtain ⟨k, E, hk, rfl, hQ, hE, hX', hY', hBl'⟩ := hrel
    by_cases hlt' : k < 4
    ·have dK : decide ((k : Int) < 4) = true := by simp; omega
     have hlen : i + k < E.length := by rw [hQ.out.len]; omega
     have c1 := hX'.cell i (by rw [Lx.out]; omega)
     have c2 := hY'.cell k (by rw [Ly.out]; omega)
     have c3 := hE.cell (i + k) hlen
     have f3 := hE.frozen (i + k)
     have bx := Ba.out i
     have by' := Bb.out k
     have bd := hQ.out.bd (i + k)
     have HS := hQ.out.step hlt hlt' Ly.out bx by'
     generalize xs.getD i 0 = x at *
     generalize ys.getD k 0 = y at *
     generalize E.getD (i + k) 0 = d at *
     have b0 : 0 <= x * y := Int.mul_nonneg bx.1 by'.1
     have b1 : x * y <= 1048575 * 1048575 := Int.mul_le_mul bx.2 by'.2 by'.1 (by omega)
     obtain ⟨p, hp⟩ : ∃ p, x * y = p := ⟨_, rfl⟩
     rw [hp] at b0 b1 HS
     have p1 : IntKind.i64.wrap (x * y) = p := by rw [hp]; exact IntWalk.i64_in _ (by omega)
     have p2 : IntKind.i64.wrap (d + p) = d + p := IntWalk.i64_in _ (by omega)
     have s1 : IntKind.i64.wrap ((i : Int) + (k : Int)) = (i : Int) + k := IntWalk.i64_in _ (by omega)
     have s2 : (0 : Int) <= (i : Int) + k := by omega
     have s3 : ((i : Int) + k).toNat = i + k := by omega
     have s4 : (i : Int) + k < 9 := by omega
     have HS' := Lib.hid HS
     have hlt4 : (k : Int) < 4 := by omega
     have hlt3 : (i : Int) < 4 := by omega
     have hsz' := hE.lt
     have HE := Lib.hid hE
     have HX' := Lib.hid hX'
     have HY' := Lib.hid hY'
     have Hp := Lib.hid hp
     clear HS bx by' hE hX' hY' hp hlen
     go_wp2_with fail
     go_still_tail 21, (by kernel_rfl)
     go_wp2_with fail
     go_roundw
     case rel => exact ⟨k + 1, E.set (i + k) (d + p), by omega, by go_num, HS', HE.out.set (i + k) (d + p), HX'.out.setOther _ _ (by simp; omega), HY'.out.setOther _ _ (by simp; omega), (hBl'.drewN' _).setCell (by simp; omega) _⟩
     case measure => simp [intOf]; omega
    ·have hk4 : k = 4 := by omega
     subst hk4
     go_wp2_with fail
     go_roundw
     case rel => exact ⟨i + 1, E, by omega, by go_num, hQ.out.next Ly.out (by rw [Lx.out]; omega), hE, hX', hY', hBl'⟩
     case measure => simp [intOf]; omega
  ·have hi4 : i = 4 := by omega
   have hP4 : PInv xs ys D 4 0 := by have := hP.out; rw [hi4] at this; exact this
   have HP4 := Lib.hid hP4
   have dI : decide ((i : Int) < 4) = false := by simp; omega
   clear hi4 hP4 hP
   go_wp2_with fail
   go_loopw [10] (fun y wq => ∃ (k : Nat) (E : List Int), k <= 8 /\ y = .int .i64 k /\ Hid (QInv (a * b) E k) /\ Row wq w2.heap.size E /\ Below w.heap.size w wq) (fun y _ => 8 - (intOf y).toNat)
   case atStart => exact ⟨0, D, by omega, rfl, (by have := QInv.start HP4.out Lx.out; rw [Vx.out, Vy.out] at this; exact this), hD, hBl⟩
   case round =>
    obtain ⟨k, E, hk, rfl, hQ, hE, hBl'⟩ := hrel
    by_cases hlt' : k < 8
    ·have dK : decide ((k : Int) < 8) = true := by simp; omega
     have c1 := hE.cell k (by rw [hQ.out.len]; omega)
     have c2 := hE.cell (k + 1) (by rw [hQ.out.len]; omega)
     have f1 := hE.frozen k
     have f2 := hE.frozen (k + 1)
     have HS := hQ.out.step hlt'
     have b1 := hQ.out.lo k
     have b2 := hQ.out.lo (k + 1)
     have b3 := hQ.out.hi (k + 1) (by omega)
     have b4 := hQ.out.cur
     generalize E.getD k 0 = d at *
     generalize E.getD (k + 1) 0 = f at *
     obtain ⟨q, hq⟩ : ∃ q, d / 1048576 = q := ⟨_, rfl⟩
     rw [hq] at HS
     have b5 : 0 <= q := by omega
     have b6 : q <= 35184372 := by omega
     have q1 : IntKind.i64.wrap (d / 1048576) = q := by rw [hq]; exact IntWalk.i64_in _ (by omega)
     have s0 : IntKind.i64.wrap (f + q) = f + q := IntWalk.i64_in _ (by omega)
     have s1 : IntKind.i64.wrap ((k : Int) + 1) = (k : Int) + 1 := IntWalk.i64_in _ (by omega)
     have s2 : (0 : Int) <= (k : Int) + 1 := by omega
     have s3 : ((k : Int) + 1).toNat = k + 1 := by omega
     have s4 : (k : Int) + 1 < 9 := by omega
     have HS' := Lib.hid HS
     have hlt4 : (k : Int) < 8 := by omega
     have hlt5 : (k : Int) < 9 := by omega
     have hsz' := hE.lt
     have HE := Lib.hid hE
     have Hq := Lib.hid hq
     clear HS hE hq
     go_wp2_with fail
     go_still_tail 15, (by kernel_rfl)
     go_wp2_with fail
     go_roundw
     case rel => exact ⟨k + 1, _, by omega, by go_num, HS', (by rw [<- Hq.out]; exact (HE.out.set (k + 1) (f + d / 1048576)).set k (d % 1048576)), ((hBl'.setCell (by simp; omega) _).setCell (by simp; omega) _).drew⟩
     case measure => simp [intOf]; omega
    ·have hk8 : k = 8 := by omega
     subst hk8
     go_wp2_with fail
     go_ret
     exact ⟨_, _, E, rfl, hsz, hE, hQ.out, hBl'⟩
end Go.Proofs.YtndhhgbpcmfeiaaGreatDoor
