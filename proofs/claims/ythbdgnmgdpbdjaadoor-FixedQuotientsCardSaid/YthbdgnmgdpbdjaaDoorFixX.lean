/- The laws FixedTurns and FixedQuotients: walks. -/
import Derived.Test.YthbdgnmgdpbdjaaDoorProg
import Derived.WalkKit
import Derived.ProofKit
import Derived.OpenShut
import Derived.Outline
import Derived.WalkSpells
import Derived.WalkLawsBesides
import Derived.Deep.QuietTactic
import Derived.BigQuiet
import Derived.Lib.Hide
import Derived.Deep.DeepFit
import Derived.Deep.DeepMust

import Derived.Test.YthbdgnmgdpbdjaaDoorFixQ
import Derived.Test.YthbdgnmgdpbdjaaDoorFixM
namespace Go.Proofs.YthbdgnmgdpbdjaaDoor
open Go.ChangeShapes Go.WideShapes Go.ChangeAt Go.RowKit
set_option linter.unusedVariables false
set_option maxRecDepth 100000
theorem unfit_or {a b : Int} (h : ¬ (fitsB a = true ∧ fitsB b = true)) : fitsB a = false ∨ (fitsB a = true ∧ fitsB b = false) := by
  revert h; cases fitsB a <;> cases fitsB b <;> simp
theorem turns_unfit (a b : Int) (w : World) (ht : Tab w) (h : fitsB a = false ∨ (fitsB a = true ∧ fitsB b = false)) :
    Calls Tryd.prog 8 #[.int .i64 a, .int .i64 b] w fun e w' => e = .returned (.bool true) ∧ Below w.heap.size w w' := by
  have HT := Lib.hid ht
  have HB := Lib.hid (Below.refl w.heap.size w)
  clear ht
  rcases h with ha | ⟨ha, hb⟩
  all_goals
    go_enter Tryd.func8, Tryd.ntmps8
    go_wp2_with (first | (go_at_call 17; ((with_reducible refine (fits_any _ _).mono ?_); rintro e w' ⟨rfl, rfl⟩)) | (go_at_call 12; ((with_reducible refine (lives_any _ HT.out).mono ?_); rintro e w' ⟨rfl, hB⟩; have HT := Lib.hid (HT.out.below hB); have HB := Lib.hid (HB.out.trans (hB.mono HB.out.size)); clear hB)))
    go_ret
    exact ⟨rfl, HB.out⟩
set_option maxHeartbeats 1000000 in
theorem turns_core (a b s1 s2 p1 p2 q1 q2 r1 r2 : Int) (w : World) (ht : Tab w) (ha : fitsB a = true) (hb : fitsB b = true)
    (hs : fAdd a b = (s1, s2)) (hp : fMul a b = (p1, p2)) (hq : fDiv a b = (q1, q2)) (hr : fMod a b = (r1, r2))
    (bp : -1152921504606846976 ≤ p1 ∧ p1 ≤ 1152921504606846976) (bq : -1152921504606846976 ≤ q1 ∧ q1 ≤ 1152921504606846976) (br : -1152921504606846976 ≤ r1 ∧ r1 ≤ 1152921504606846976)
    (ok : Bool) (hok : (s2 == 0) = ok) :
    Calls Tryd.prog 8 #[.int .i64 a, .int .i64 b] w fun e w' => e = .returned (.bool true) ∧ Below w.heap.size w w' := by
  have ha1 := (fitsB_t ha).1
  have ha2 := (fitsB_t ha).2
  have A1 := Lib.hid (fun w => (show Calls Tryd.prog 13 #[.int .i64 a, .int .i64 b] w fun e w' => e = .returned (.tuple #[.int .i64 s1, .int .i64 s2]) ∧ w = w' by have := add_any a b w; rw [hs] at this; exact this))
  have A2 := Lib.hid (fun w => (show Calls Tryd.prog 13 #[.int .i64 b, .int .i64 a] w fun e w' => e = .returned (.tuple #[.int .i64 s1, .int .i64 s2]) ∧ w = w' by have := add_any b a w; rw [fAdd_comm, hs] at this; exact this))
  have A3 := Lib.hid (fun (h : s2 = 0) w => (show Calls Tryd.prog 15 #[.int .i64 s1, .int .i64 b] w fun e w' => e = .returned (.tuple #[.int .i64 a, .int .i64 0]) ∧ w = w' by have h2 := fAdd_back ha hb (by rw [hs]; exact h); rw [hs] at h2; have := sub_any s1 b w; rw [h2] at this; exact this))
  have M1 := Lib.hid (fun w => (show Calls Tryd.prog 19 #[.int .i64 a, .int .i64 b] w fun e w' => e = .returned (.tuple #[.int .i64 p1, .int .i64 p2]) ∧ Below w.heap.size w w' by have := mul_any a b w; rw [hp] at this; exact this))
  have M2 := Lib.hid (fun w => (show Calls Tryd.prog 19 #[.int .i64 b, .int .i64 a] w fun e w' => e = .returned (.tuple #[.int .i64 p1, .int .i64 p2]) ∧ Below w.heap.size w w' by have := mul_any b a w; rw [fMul_comm, hp] at this; exact this))
  have M3 := Lib.hid (fun w => (show Calls Tryd.prog 19 #[.int .i64 (-a), .int .i64 b] w fun e w' => e = .returned (.tuple #[.int .i64 (-p1), .int .i64 p2]) ∧ Below w.heap.size w w' by have := mul_any (-a) b w; rw [fMul_neg, hp, ha, hb] at this; simpa using this))
  have D1 := Lib.hid (fun w => (show Calls Tryd.prog 21 #[.int .i64 a, .int .i64 b] w fun e w' => e = .returned (.tuple #[.int .i64 q1, .int .i64 q2]) ∧ Below w.heap.size w w' by have := div_fix a b w; rw [hq] at this; exact this))
  have D2 := Lib.hid (fun w => (show Calls Tryd.prog 21 #[.int .i64 (-a), .int .i64 b] w fun e w' => e = .returned (.tuple #[.int .i64 (-q1), .int .i64 q2]) ∧ Below w.heap.size w w' by have := div_fix (-a) b w; rw [fDiv_neg ha hb, hq] at this; exact this))
  have R1 := Lib.hid (fun w => (show Calls Tryd.prog 23 #[.int .i64 a, .int .i64 b] w fun e w' => e = .returned (.tuple #[.int .i64 r1, .int .i64 r2]) ∧ w = w' by have := mod_any a b w; rw [hr] at this; exact this))
  have R2 := Lib.hid (fun w => (show Calls Tryd.prog 23 #[.int .i64 (-a), .int .i64 b] w fun e w' => e = .returned (.tuple #[.int .i64 (-r1), .int .i64 r2]) ∧ w = w' by have := mod_any (-a) b w; rw [fMod_neg ha hb, hr] at this; exact this))
  have HT := Lib.hid ht
  have HB := Lib.hid (Below.refl w.heap.size w)
  have bp1 := bp.1
  have bp2 := bp.2
  have bq1 := bq.1
  have bq2 := bq.2
  have br1 := br.1
  have br2 := br.2
  clear ht hs hp hq hr bp bq br
  cases ok
  all_goals
    go_enter Tryd.func8, Tryd.ntmps8
    go_wp2_with (go_at_call 17; ((with_reducible refine (fits_any _ _).mono ?_); rintro e w' ⟨rfl, rfl⟩))
    refine (A1.out _).mono ?_
    rintro e w' ⟨rfl, rfl⟩
    go_wp2_with fail
    refine (A2.out _).mono ?_
    rintro e w' ⟨rfl, rfl⟩
    go_wp2_with (go_at_call 15; refine (A3.out (by simpa using hok) _).mono ?_; rintro e w' ⟨rfl, rfl⟩)
    refine (M1.out _).mono ?_
    rintro e w1 ⟨rfl, hB⟩
    have HT := Lib.hid (HT.out.below hB)
    have HB := Lib.hid (HB.out.trans (hB.mono HB.out.size))
    clear hB
    go_wp2_with fail
    refine (M2.out _).mono ?_
    rintro e w2 ⟨rfl, hB⟩
    have HT := Lib.hid (HT.out.below hB)
    have HB := Lib.hid (HB.out.trans (hB.mono HB.out.size))
    clear hB
    go_wp2_with fail
    refine (M3.out _).mono ?_
    rintro e w3 ⟨rfl, hB⟩
    have HT := Lib.hid (HT.out.below hB)
    have HB := Lib.hid (HB.out.trans (hB.mono HB.out.size))
    clear hB
    go_wp2_with fail
    refine (D1.out _).mono ?_
    rintro e w4 ⟨rfl, hB⟩
    have HT := Lib.hid (HT.out.below hB)
    have HB := Lib.hid (HB.out.trans (hB.mono HB.out.size))
    clear hB
    go_wp2_with fail
    refine (D2.out _).mono ?_
    rintro e w5 ⟨rfl, hB⟩
    have HT := Lib.hid (HT.out.below hB)
    have HB := Lib.hid (HB.out.trans (hB.mono HB.out.size))
    clear hB
    go_wp2_with fail
    refine (R1.out _).mono ?_
    rintro e w' ⟨rfl, rfl⟩
    go_wp2_with fail
    refine (R2.out _).mono ?_
    rintro e w' ⟨rfl, rfl⟩
    go_wp2_with (go_at_call 12; ((with_reducible refine (lives_any _ HT.out).mono ?_); rintro e w' ⟨rfl, hB⟩; have HT := Lib.hid (HT.out.below hB); have HB := Lib.hid (HB.out.trans (hB.mono HB.out.size)); clear hB))
    go_ret
    exact ⟨rfl, HB.out⟩
theorem turns_walk (a b : Int) (w : World) (ht : Tab w) :
    Calls Tryd.prog 8 #[.int .i64 a, .int .i64 b] w fun e w' => e = .returned (.bool true) ∧ Below w.heap.size w w' := by
  by_cases h : fitsB a = true ∧ fitsB b = true
  · exact turns_core a b _ _ _ _ _ _ _ _ w ht h.1 h.2 rfl rfl rfl rfl (fMul_bd a b) (fDiv_bd a b) (fMod_bd h.1) _ rfl
  · exact turns_unfit a b w ht (unfit_or h)
theorem quot_unfit (a b : Int) (w : World) (ht : Tab w) (h : fitsB a = false ∨ (fitsB a = true ∧ fitsB b = false) ∨ (fitsB a = true ∧ fitsB b = true ∧ (b == 0) = true)) :
    Calls Tryd.prog 6 #[.int .i64 a, .int .i64 b] w fun e w' => e = .returned (.bool true) ∧ Below w.heap.size w w' := by
  have HT := Lib.hid ht
  have HB := Lib.hid (Below.refl w.heap.size w)
  clear ht
  rcases h with ha | ⟨ha, hb⟩ | ⟨ha, hb, h0⟩
  all_goals
    go_enter Tryd.func6, Tryd.ntmps6
    go_wp2_with (first | (go_at_call 17; ((with_reducible refine (fits_any _ _).mono ?_); rintro e w' ⟨rfl, rfl⟩)) | (go_at_call 12; ((with_reducible refine (lives_any _ HT.out).mono ?_); rintro e w' ⟨rfl, hB⟩; have HT := Lib.hid (HT.out.below hB); have HB := Lib.hid (HB.out.trans (hB.mono HB.out.size)); clear hB)))
    go_ret
    exact ⟨rfl, HB.out⟩
set_option maxHeartbeats 1000000 in
theorem quot_ok (a b m q1 p1 M N P A X : Int) (w : World) (ha : fitsB a = true) (hb : fitsB b = true) (h0 : (b == 0) = false) (hz : (b = 0) = False)
    (R1 : Hid (∀ w, Calls Tryd.prog 23 #[.int .i64 a, .int .i64 b] w fun e w' => e = .returned (.tuple #[.int .i64 m, .int .i64 0]) ∧ w = w'))
    (D1 : Hid (∀ w, Calls Tryd.prog 21 #[.int .i64 a, .int .i64 b] w fun e w' => e = .returned (.tuple #[.int .i64 q1, .int .i64 0]) ∧ Below w.heap.size w w'))
    (M1 : Hid (∀ w, Calls Tryd.prog 19 #[.int .i64 q1, .int .i64 b] w fun e w' => e = .returned (.tuple #[.int .i64 p1, .int .i64 0]) ∧ Below w.heap.size w w'))
   
    (ht : Tab w) (ha1 : -1152921504606846976 ≤ a) (ha2 : a ≤ 1152921504606846976) (hb1 : -1152921504606846976 ≤ b) (hb2 : b ≤ 1152921504606846976)
    (m1 : -1152921504606846976 ≤ m) (m2 : m ≤ 1152921504606846976) (p1a : -1152921504606846976 ≤ p1) (p1b : p1 ≤ 1152921504606846976)
    (eM : max m (-m) = M) (eN : max b (-b) = N) (eP : max p1 (-p1) = P) (eA : max a (-a) = A) (eX : max (a - p1) (p1 - a) = X) (bN : 0 ≤ N) (bN2 : N ≤ 1152921504606846976)
    (d1 : decide (N ≤ M) = false) (sg : Hid ((decide (m < 0) = true ∧ decide (0 ≤ a) = false ∧ decide (0 < m) = false) ∨ (decide (m < 0) = false ∧ decide (0 < m) = false) ∨ (decide (m < 0) = false ∧ decide (0 < m) = true ∧ decide (a ≤ 0) = false)))
    (d2 : (a - m).tmod b = 0) (d3 : decide (P ≤ A) = true) (d4 : decide (X ≤ N / 1000000 + 1) = true) :
    Calls Tryd.prog 6 #[.int .i64 a, .int .i64 b] w fun e w' => e = .returned (.bool true) ∧ Below w.heap.size w w' := by
  have HT := Lib.hid ht
  have HB := Lib.hid (Below.refl w.heap.size w)
  clear ht
  rcases sg with ⟨s1, s2, s3⟩ | ⟨s1, s2⟩ | ⟨s1, s2, s3⟩
  all_goals
    go_enter Tryd.func6, Tryd.ntmps6
    go_wp2_with (first | (go_at_call 17; ((with_reducible refine (fits_any _ _).mono ?_); rintro e w' ⟨rfl, rfl⟩)) | (go_at_call 23; ((with_reducible refine (R1.out _).mono ?_); rintro e w' ⟨rfl, rfl⟩)) | (go_at_call 21; ((with_reducible refine (D1.out _).mono ?_); rintro e w' ⟨rfl, hB⟩; have HT := Lib.hid (HT.out.below hB); have HB := Lib.hid (HB.out.trans (hB.mono HB.out.size)); clear hB)) | (go_at_call 19; ((with_reducible refine (M1.out _).mono ?_); rintro e w' ⟨rfl, hB⟩; have HT := Lib.hid (HT.out.below hB); have HB := Lib.hid (HB.out.trans (hB.mono HB.out.size)); clear hB)) | (go_at_call 12; ((with_reducible refine (lives_any _ HT.out).mono ?_); rintro e w' ⟨rfl, hB⟩; have HT := Lib.hid (HT.out.below hB); have HB := Lib.hid (HB.out.trans (hB.mono HB.out.size)); clear hB)))
    go_ret
    exact ⟨rfl, HB.out⟩
set_option maxHeartbeats 1000000 in
theorem quot_over (a b m M N : Int) (w : World) (ha : fitsB a = true) (hb : fitsB b = true) (h0 : (b == 0) = false) (hz : (b = 0) = False)
    (R1 : Hid (∀ w, Calls Tryd.prog 23 #[.int .i64 a, .int .i64 b] w fun e w' => e = .returned (.tuple #[.int .i64 m, .int .i64 0]) ∧ w = w'))
    (D1 : Hid (∀ w, Calls Tryd.prog 21 #[.int .i64 a, .int .i64 b] w fun e w' => e = .returned (.tuple #[.int .i64 0, .int .i64 11]) ∧ Below w.heap.size w w'))
   
    (ht : Tab w) (ha1 : -1152921504606846976 ≤ a) (ha2 : a ≤ 1152921504606846976) (hb1 : -1152921504606846976 ≤ b) (hb2 : b ≤ 1152921504606846976)
    (m1 : -1152921504606846976 ≤ m) (m2 : m ≤ 1152921504606846976)
    (eM : max m (-m) = M) (eN : max b (-b) = N) (bN : 0 ≤ N) (bN2 : N ≤ 1152921504606846976)
    (d1 : decide (N ≤ M) = false) (sg : Hid ((decide (m < 0) = true ∧ decide (0 ≤ a) = false ∧ decide (0 < m) = false) ∨ (decide (m < 0) = false ∧ decide (0 < m) = false) ∨ (decide (m < 0) = false ∧ decide (0 < m) = true ∧ decide (a ≤ 0) = false)))
    (d2 : (a - m).tmod b = 0) :
    Calls Tryd.prog 6 #[.int .i64 a, .int .i64 b] w fun e w' => e = .returned (.bool true) ∧ Below w.heap.size w w' := by
  have HT := Lib.hid ht
  have HB := Lib.hid (Below.refl w.heap.size w)
  clear ht
  rcases sg with ⟨s1, s2, s3⟩ | ⟨s1, s2⟩ | ⟨s1, s2, s3⟩
  all_goals
    go_enter Tryd.func6, Tryd.ntmps6
    go_wp2_with (first | (go_at_call 17; ((with_reducible refine (fits_any _ _).mono ?_); rintro e w' ⟨rfl, rfl⟩)) | (go_at_call 23; ((with_reducible refine (R1.out _).mono ?_); rintro e w' ⟨rfl, rfl⟩)) | (go_at_call 21; ((with_reducible refine (D1.out _).mono ?_); rintro e w' ⟨rfl, hB⟩; have HT := Lib.hid (HT.out.below hB); have HB := Lib.hid (HB.out.trans (hB.mono HB.out.size)); clear hB)) | (go_at_call 12; ((with_reducible refine (lives_any _ HT.out).mono ?_); rintro e w' ⟨rfl, hB⟩; have HT := Lib.hid (HT.out.below hB); have HB := Lib.hid (HB.out.trans (hB.mono HB.out.size)); clear hB)))
    go_ret
    exact ⟨rfl, HB.out⟩
theorem quot_walk (a b : Int) (w : World) (ht : Tab w) :
    Calls Tryd.prog 6 #[.int .i64 a, .int .i64 b] w fun e w' => e = .returned (.bool true) ∧ Below w.heap.size w w' := by
  by_cases h : fitsB a = true ∧ fitsB b = true
  · obtain ⟨ha, hb⟩ := h
    by_cases hb0 : b = 0
    · exact quot_unfit a b w ht (Or.inr (Or.inr ⟨ha, hb, by simp [hb0]⟩))
    · have hab := fitsB_t ha
      have hbb := fitsB_t hb
      obtain ⟨t1, t2, t3, t4⟩ := tmod_facts a b hb0
      have hm : fMod a b = (a.tmod b, 0) := by simp [fMod, ha, hb, hb0]
      have R1 : Hid (∀ w, Calls Tryd.prog 23 #[.int .i64 a, .int .i64 b] w fun e w' => e = .returned (.tuple #[.int .i64 (a.tmod b), .int .i64 0]) ∧ w = w') := fun w => by
        have := mod_any a b w; rw [hm] at this; exact this
      generalize a.tmod b = m at *
      have hN : decide (max b (-b) ≤ max m (-m)) = false := by simp; omega
      have sg : (decide (m < 0) = true ∧ decide (0 ≤ a) = false ∧ decide (0 < m) = false) ∨ (decide (m < 0) = false ∧ decide (0 < m) = false) ∨ (decide (m < 0) = false ∧ decide (0 < m) = true ∧ decide (a ≤ 0) = false) := by
        simp only [decide_eq_true_eq, decide_eq_false_iff_not]; omega
      by_cases he : (fDiv a b).2 = 0
      · obtain ⟨b1, b2, b3⟩ := back_facts ha hb hb0 he
        have D1 : Hid (∀ w, Calls Tryd.prog 21 #[.int .i64 a, .int .i64 b] w fun e w' => e = .returned (.tuple #[.int .i64 (fDiv a b).1, .int .i64 0]) ∧ Below w.heap.size w w') := fun w => by
          have := div_fix a b w; rw [he] at this; exact this
        have M1 : Hid (∀ w, Calls Tryd.prog 19 #[.int .i64 (fDiv a b).1, .int .i64 b] w fun e w' => e = .returned (.tuple #[.int .i64 (fMul (fDiv a b).1 b).1, .int .i64 0]) ∧ Below w.heap.size w w') := fun w => by
          have := mul_any (fDiv a b).1 b w; rw [b1] at this; exact this
        generalize (fMul (fDiv a b).1 b).1 = p at *
        generalize (fDiv a b).1 = q at *
        exact quot_ok a b m q p _ _ _ _ _ w ha hb (by simp [hb0]) (by simp [hb0]) R1 D1 M1 ht hab.1 hab.2 hbb.1 hbb.2 (by omega) (by omega) (by omega) (by omega) rfl rfl rfl rfl rfl (by omega) (by omega) hN sg t4
          (by simp only [decide_eq_true_eq]; omega) (by simp only [decide_eq_true_eq]; omega)
      · have hov := div_over ha hb hb0 he
        have D1 : Hid (∀ w, Calls Tryd.prog 21 #[.int .i64 a, .int .i64 b] w fun e w' => e = .returned (.tuple #[.int .i64 0, .int .i64 11]) ∧ Below w.heap.size w w') := fun w => by
          have := div_fix a b w; rw [hov] at this; exact this
        exact quot_over a b m _ _ w ha hb (by simp [hb0]) (by simp [hb0]) R1 D1 ht hab.1 hab.2 hbb.1 hbb.2 (by omega) (by omega) rfl rfl (by omega) (by omega) hN sg t4
  · rcases unfit_or h with h | h
    · exact quot_unfit a b w ht (Or.inl h)
    · exact quot_unfit a b w ht (Or.inr (Or.inl h))
end Go.Proofs.YthbdgnmgdpbdjaaDoor
