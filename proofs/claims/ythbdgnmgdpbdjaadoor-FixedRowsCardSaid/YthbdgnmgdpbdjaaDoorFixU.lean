/- Walks of package gaugeref03: Mul, Div, Scale, Sum. -/
import Derived.Test.YthbdgnmgdpbdjaaDoorProg
import Derived.WalkKit
import Derived.ProofKit
import Derived.OpenShut
import Derived.Outline
import Derived.WalkSpells
import Derived.WalkLawsBesides
import Derived.Deep.QuietTactic
import Derived.BigQuiet
import Derived.Lib.Hide
import Derived.Deep.DeepFit
import Derived.Deep.DeepMust

import Derived.Test.YthbdgnmgdpbdjaaDoorFixT
namespace Go.Proofs.YthbdgnmgdpbdjaaDoor
open Go.ChangeShapes Go.WideShapes Go.ChangeAt Go.RowKit
set_option linter.unusedVariables false
set_option maxRecDepth 100000
set_option maxHeartbeats 400000 in
theorem rmul_core (a b : Int) (w : World) (ha : fitsB a = true) (hb : fitsB b = true) (m : Bool) (dm : (!(decide (a < 0) == decide (b < 0))) = m) (res : Int × Int) (hres : fSigned ((a.natAbs : Int) * (b.natAbs : Int)) 1000000 m = res) :
    Calls Tryd.prog 20 #[.int .i64 a, .int .i64 b] w fun e w' => e = .returned (.tuple #[.int .i64 res.1, .int .i64 res.2]) ∧ Below w.heap.size w w' := by
  have ha' := fitsB_t ha
  have hb' := fitsB_t hb
  have HP := Lib.hid (fun w => prod_signed a b 1000000 m w ha' hb')
  have HA := Lib.hid (fun w => rsize_any a w ha')
  have HB := Lib.hid (fun w => rsize_any b w hb')
  have Hres := Lib.hid hres
  clear hres ha' hb'
  cases da : decide (a < 0) <;> cases db : decide (b < 0) <;> rw [da, db] at dm <;> cases m
  all_goals first | (exact absurd dm (by decide)) | skip
  all_goals
    clear dm
    go_enter Tryd.func20, Tryd.ntmps20
    go_wp2_with (first | (go_at_call 18; ((with_reducible refine (rfits_any _ _).mono ?_); rintro e w' ⟨rfl, rfl⟩)) | (go_at_call_of 32 (Value.int IntKind.i64 a); refine (HA.out _).mono ?_; rintro e w' ⟨rfl, rfl⟩) | (go_at_call_of 32 (Value.int IntKind.i64 b); refine (HB.out _).mono ?_; rintro e w' ⟨rfl, rfl⟩))
    refine (HP.out _).mono ?_
    rintro e w' ⟨B, cap, rfl, hW, hS⟩
    have HS := Lib.hid hS
    have HW := Lib.hid hW
    clear hS hW
    go_wp2_with fail


    refine (HS.out w' (Below.refl _ _) 1000000 (by omega)).mono ?_

    rw [Hres.out]
    rintro e w' ⟨rfl, rfl⟩

    go_wp2_with fail
    go_ret2
    exact ⟨rfl, HW.out⟩
theorem rmul_any (a b : Int) (w : World) :
    Calls Tryd.prog 20 #[.int .i64 a, .int .i64 b] w fun e w' => e = .returned (.tuple #[.int .i64 (fMul a b).1, .int .i64 (fMul a b).2]) ∧ Below w.heap.size w w' := by
  cases ha : fitsB a <;> cases hb : fitsB b
  case true.true =>
    refine rmul_core a b w ha hb _ rfl _ ?_
    have := signed_scaled a b 1000000 (!(decide (a < 0) == decide (b < 0))) (by omega) (by simp [signB]; cases decide (a < 0) <;> cases decide (b < 0) <;> rfl)
    simp [fMul, ha, hb]
    simpa using this
  all_goals
    have e : fMul a b = (0, 2) := by simp [fMul, ha, hb]
    rw [e]
    go_enter Tryd.func20, Tryd.ntmps20
    go_wp2_with (first | (go_at_call 18; ((with_reducible refine (rfits_any _ _).mono ?_); rintro e w' ⟨rfl, rfl⟩)))
    go_ret2
    exact ⟨rfl, Below.refl _ _⟩
set_option maxHeartbeats 400000 in
theorem rdiv_core (a b : Int) (w : World) (ha : fitsB a = true) (hb : fitsB b = true) (m : Bool) (dm : (!(decide (a < 0) == decide (b < 0))) = m) (res : Int × Int) (h0 : (b == 0) = false) (hb0 : 1 ≤ b.natAbs) (hres : fSigned ((a.natAbs : Int) * ((1000000 : Int).natAbs : Int)) (b.natAbs : Int) m = res) :
    Calls Tryd.prog 22 #[.int .i64 a, .int .i64 b] w fun e w' => e = .returned (.tuple #[.int .i64 res.1, .int .i64 res.2]) ∧ Below w.heap.size w w' := by
  have ha' := fitsB_t ha
  have hb' := fitsB_t hb
  have HP := Lib.hid (fun w => prod_signed a 1000000 b m w ha' (by omega))
  have HA := Lib.hid (fun w => rsize_any a w ha')
  have HB := Lib.hid (fun w => rsize_any b w hb')
  have Hres := Lib.hid hres
  have bb : 1 ≤ (b.natAbs : Int) ∧ (b.natAbs : Int) ≤ 1152921504606846976 := by omega
  have HBB := Lib.hid bb
  have em : ((1000000 : Int).natAbs : Int) = 1000000 := rfl
  rw [em] at HP Hres
  clear hres ha' hb' bb hb0 em
  cases da : decide (a < 0) <;> cases db : decide (b < 0) <;> rw [da, db] at dm <;> cases m
  all_goals first | (exact absurd dm (by decide)) | skip
  all_goals
    clear dm
    go_enter Tryd.func22, Tryd.ntmps22
    go_wp2_with (first | (go_at_call 18; ((with_reducible refine (rfits_any _ _).mono ?_); rintro e w' ⟨rfl, rfl⟩)) | (go_at_call_of 32 (Value.int IntKind.i64 a); refine (HA.out _).mono ?_; rintro e w' ⟨rfl, rfl⟩) | (go_at_call_of 32 (Value.int IntKind.i64 b); refine (HB.out _).mono ?_; rintro e w' ⟨rfl, rfl⟩))
    refine (HP.out _).mono ?_
    rintro e w' ⟨B, cap, rfl, hW, hS⟩
    have HS := Lib.hid hS
    have HW := Lib.hid hW
    clear hS hW
    go_wp2_with (go_at_call 32; refine (HB.out _).mono ?_; rintro e w' ⟨rfl, rfl⟩)
    refine (HS.out _ (Below.refl _ _) (b.natAbs : Int) HBB.out).mono ?_

    rw [Hres.out]
    rintro e w' ⟨rfl, rfl⟩

    go_wp2_with fail
    go_ret2
    exact ⟨rfl, HW.out⟩
set_option maxHeartbeats 400000 in
theorem rscale_core (a b : Int) (w : World) (ha : fitsB a = true) (hb : fitsB b = true) (m : Bool) (dm : (!(decide (a < 0) == decide (b < 0))) = m) (res : Int × Int) (c : Int) (hc : 1 ≤ c ∧ c ≤ 1152921504606846976) (hres : fSigned ((a.natAbs : Int) * (b.natAbs : Int)) c m = res) :
    Calls Tryd.prog 11 #[.int .i64 a, .int .i64 b, .int .i64 c] w fun e w' => e = .returned (.tuple #[.int .i64 res.1, .int .i64 res.2]) ∧ Below w.heap.size w w' := by
  have ha' := fitsB_t ha
  have hb' := fitsB_t hb
  have HP := Lib.hid (fun w => prod_signed a b c m w ha' hb')
  have HA := Lib.hid (fun w => rsize_any a w ha')
  have HB := Lib.hid (fun w => rsize_any b w hb')
  have Hres := Lib.hid hres
  have e1 : decide (c < 1) = false := by simp; omega
  have e2 : decide (1152921504606846976 < c) = false := by simp; omega
  have HC := Lib.hid hc
  clear hc
  clear hres ha' hb'
  cases da : decide (a < 0) <;> cases db : decide (b < 0) <;> rw [da, db] at dm <;> cases m
  all_goals first | (exact absurd dm (by decide)) | skip
  all_goals
    clear dm
    go_enter Tryd.func11, Tryd.ntmps11
    go_wp2_with (first | (go_at_call 18; ((with_reducible refine (rfits_any _ _).mono ?_); rintro e w' ⟨rfl, rfl⟩)) | (go_at_call_of 32 (Value.int IntKind.i64 a); refine (HA.out _).mono ?_; rintro e w' ⟨rfl, rfl⟩) | (go_at_call_of 32 (Value.int IntKind.i64 b); refine (HB.out _).mono ?_; rintro e w' ⟨rfl, rfl⟩))
    refine (HP.out _).mono ?_
    rintro e w' ⟨B, cap, rfl, hW, hS⟩
    have HS := Lib.hid hS
    have HW := Lib.hid hW
    clear hS hW
    go_wp2_with fail


    refine (HS.out w' (Below.refl _ _) c HC.out).mono ?_

    rw [Hres.out]
    rintro e w' ⟨rfl, rfl⟩

    go_wp2_with fail
    go_ret2
    exact ⟨rfl, HW.out⟩
theorem rdiv_any (a b : Int) (w : World) :
    Calls Tryd.prog 22 #[.int .i64 a, .int .i64 b] w fun e w' => e = .returned (.tuple #[.int .i64 (fDiv a b).1, .int .i64 (fDiv a b).2]) ∧ Below w.heap.size w w' := by
  cases ha : fitsB a <;> cases hb : fitsB b
  case true.true =>
    by_cases h0 : b = 0
    · subst h0
      have e : fDiv a 0 = (0, 12) := by simp [fDiv, ha, hb]
      rw [e]
      clear e
      go_enter Tryd.func22, Tryd.ntmps22
      go_wp2_with (first | (go_at_call 18; ((with_reducible refine (rfits_any _ _).mono ?_); rintro e w' ⟨rfl, rfl⟩)))
      go_ret2
      exact ⟨rfl, Below.refl _ _⟩
    · refine rdiv_core a b w ha hb _ rfl _ (by simp [h0]) (by omega) ?_
      have := signed_scaled a 1000000 b (!(decide (a < 0) == decide (b < 0))) h0 (by simp [signB]; cases decide (a < 0) <;> cases decide (b < 0) <;> rfl)
      rw [this]
      simp [fDiv, ha, hb, h0]
  all_goals
    have e : fDiv a b = (0, 2) := by simp [fDiv, ha, hb]
    rw [e]
    go_enter Tryd.func22, Tryd.ntmps22
    go_wp2_with (first | (go_at_call 18; ((with_reducible refine (rfits_any _ _).mono ?_); rintro e w' ⟨rfl, rfl⟩)))
    go_ret2
    exact ⟨rfl, Below.refl _ _⟩
theorem rscale_any (a b c : Int) (w : World) :
    Calls Tryd.prog 11 #[.int .i64 a, .int .i64 b, .int .i64 c] w fun e w' => e = .returned (.tuple #[.int .i64 (fScale a b c).1, .int .i64 (fScale a b c).2]) ∧ Below w.heap.size w w' := by
  cases ha : fitsB a <;> cases hb : fitsB b
  case true.true =>
    by_cases c1 : c < 1
    · have e : fScale a b c = (0, 2) := by simp [fScale, ha, hb]; omega
      rw [e]
      have e1 : decide (c < 1) = true := by simpa using c1
      clear e c1
      go_enter Tryd.func11, Tryd.ntmps11
      go_wp2_with (first | (go_at_call 18; ((with_reducible refine (rfits_any _ _).mono ?_); rintro e w' ⟨rfl, rfl⟩)))
      go_ret2
      exact ⟨rfl, Below.refl _ _⟩
    · by_cases c2 : 1152921504606846976 < c
      · have e : fScale a b c = (0, 2) := by simp [fScale, ha, hb]; omega
        rw [e]
        have e1 : decide (c < 1) = false := by simp; omega
        have e2 : decide (1152921504606846976 < c) = true := by simpa using c2
        clear e c1 c2
        go_enter Tryd.func11, Tryd.ntmps11
        go_wp2_with (first | (go_at_call 18; ((with_reducible refine (rfits_any _ _).mono ?_); rintro e w' ⟨rfl, rfl⟩)))
        go_ret2
        exact ⟨rfl, Below.refl _ _⟩
      · refine rscale_core a b w ha hb _ rfl _ c (by omega) ?_
        have := signed_scaled a b c (!(decide (a < 0) == decide (b < 0))) (by omega) (by have : ¬ c < 0 := by omega
                                                                                         simp [signB, this]; cases decide (a < 0) <;> cases decide (b < 0) <;> rfl)
        rw [show (c.natAbs : Int) = c by omega] at this
        rw [this]
        simp [fScale, ha, hb]; omega
  all_goals
    have e : fScale a b c = (0, 2) := by simp [fScale, ha, hb]
    rw [e]
    go_enter Tryd.func11, Tryd.ntmps11
    go_wp2_with (first | (go_at_call 18; ((with_reducible refine (rfits_any _ _).mono ?_); rintro e w' ⟨rfl, rfl⟩)))
    go_ret2
    exact ⟨rfl, Below.refl _ _⟩
end Go.Proofs.YthbdgnmgdpbdjaaDoor
