/- Walks of package gaugeref03: the rest of the numbers. -/
import Derived.Test.YtmblgaehfjheeaaGreatProg
import Derived.WalkKit
import Derived.ProofKit
import Derived.OpenShut
import Derived.Outline
import Derived.WalkSpells
import Derived.WalkLawsBesides
import Derived.Deep.QuietTactic
import Derived.BigQuiet
import Derived.Lib.Hide
import Derived.Deep.DeepFit
import Derived.Deep.DeepMust
import Derived.Test.YtmblgaehfjheeaaGreatGFixS
import Derived.Test.YtmblgaehfjheeaaGreatGAwM
import Derived.Test.YtmblgaehfjheeaaGreatGNod
import Derived.Test.YtmblgaehfjheeaaGreatGLv19
import Derived.Carry
import Derived.Deep.Strs

namespace Go.Proofs.YtmblgaehfjheeaaGreat
open Go.ChangeShapes Go.WideShapes Go.ChangeAt Go.RowKit
set_option linter.unusedVariables false
set_option maxRecDepth 100000
theorem rfits_any (n : Int) (w : World) :
  Calls Tryz.prog 36 #[.int .i64 n] w fun e w' => e = .returned (.bool (fitsB n)) ∧ w = w' := by
 go_enter Tryz.func36, Tryz.ntmps36
 go_wp2
 all_goals (go_ret; exact ⟨by simp [fitsB]; omega, rfl⟩)
theorem rsize_any (n : Int) (w : World) (h : -1152921504606846976 ≤ n ∧ n ≤ 1152921504606846976) :
  Calls Tryz.prog 88 #[.int .i64 n] w fun e w' => e = .returned (.int .i64 ((n.natAbs : Nat) : Int)) ∧ w = w' := by
 have h1 := h.1
 have h2 := h.2
 go_enter Tryz.func88, Tryz.ntmps88
 go_wp2
 all_goals (go_ret; exact ⟨ret_int (by omega), rfl⟩)
theorem radd_any (a b : Int) (w : World) :
  Calls Tryz.prog 46 #[.int .i64 a, .int .i64 b] w fun e w' => e = .returned (.tuple #[.int .i64 (fAdd a b).1, .int .i64 (fAdd a b).2]) ∧ w = w' := by
 cases ha : fitsB a <;> cases hb : fitsB b
 case true.true =>
  have ha' := fitsB_t ha
  have hb' := fitsB_t hb
  cases hs : fitsB (a + b)
  ·have e : fAdd a b = (0, 11) := by simp [fAdd, fTold, ha, hb, hs]
   rw [e]
   go_enter Tryz.func46, Tryz.ntmps46
   go_wp2_with (first | (go_at_call 36; ((with_reducible refine (rfits_any _ _).mono ?_); rintro e w' ⟨rfl, rfl⟩)))
   go_ret2
   exact ⟨rfl, rfl⟩
  ·have e : fAdd a b = (a + b, 0) := by simp [fAdd, fTold, ha, hb, hs]
   rw [e]
   go_enter Tryz.func46, Tryz.ntmps46
   go_wp2_with (first | (go_at_call 36; ((with_reducible refine (rfits_any _ _).mono ?_); rintro e w' ⟨rfl, rfl⟩)))
   go_ret2
   exact ⟨rfl, rfl⟩
 all_goals
  have e : fAdd a b = (0, 2) := by simp [fAdd, ha, hb]
  rw [e]
  go_enter Tryz.func46, Tryz.ntmps46
  go_wp2_with (first | (go_at_call 36; ((with_reducible refine (rfits_any _ _).mono ?_); rintro e w' ⟨rfl, rfl⟩)))
  go_ret2
  exact ⟨rfl, rfl⟩
theorem fits_neg (b : Int) : fitsB (-b) = fitsB b := by unfold fitsB; rw [decide_eq_decide]; omega
theorem rsub_any (a b : Int) (w : World) :
  Calls Tryz.prog 47 #[.int .i64 a, .int .i64 b] w fun e w' => e = .returned (.tuple #[.int .i64 (fSub a b).1, .int .i64 (fSub a b).2]) ∧ w = w' := by
 cases ha : fitsB a <;> cases hb : fitsB b
 case true.true =>
  have ha' := fitsB_t ha
  have hb' := fitsB_t hb
  have e : fAdd a (-b) = fSub a b := by simp [fAdd, fSub, fits_neg, ha, hb, Int.sub_eq_add_neg]
  have H := fun w => radd_any a (-b) w
  rw [e] at H
  have HH := Lib.hid H
  clear H e
  go_enter Tryz.func47, Tryz.ntmps47
  go_wp2_with (first | (go_at_call 36; ((with_reducible refine (rfits_any _ _).mono ?_); rintro e w' ⟨rfl, rfl⟩)) | (go_at_call 46; ((with_reducible refine (HH.out _).mono ?_); rintro e w' ⟨rfl, rfl⟩)))
  go_ret2
  exact ⟨rfl, rfl⟩
 all_goals
  have e : fSub a b = (0, 2) := by simp [fSub, ha, hb]
  rw [e]
  go_enter Tryz.func47, Tryz.ntmps47
  go_wp2_with (first | (go_at_call 36; ((with_reducible refine (rfits_any _ _).mono ?_); rintro e w' ⟨rfl, rfl⟩)))
  go_ret2
  exact ⟨rfl, rfl⟩
theorem tmod_as (a b : Int) : a - a.tdiv b * b = a.tmod b := by
 have := Int.tmod_add_mul_tdiv a b
 rw [Int.mul_comm] at this; omega
theorem rest_wrap (a b : Int) (ha : -1152921504606846976 ≤ a ∧ a ≤ 1152921504606846976) : wrap64 (a - wrap64 (wrap64 (a.tdiv b) * b)) = a.tmod b := by
 have h1 : (a.tdiv b).natAbs ≤ a.natAbs := by rw [Int.natAbs_tdiv]; exact Nat.div_le_self _ _
 have h2 : (a.tmod b).natAbs ≤ a.natAbs := by rw [Int.natAbs_tmod]; exact Nat.mod_le _ _
 have h3 := tmod_as a b
 rw [IntWalk.wrap64_in (a.tdiv b) (by omega), IntWalk.wrap64_in (a.tdiv b * b) (by omega), IntWalk.wrap64_in _ (by omega), h3]
theorem rmod_any (a b : Int) (w : World) :
  Calls Tryz.prog 50 #[.int .i64 a, .int .i64 b] w fun e w' => e = .returned (.tuple #[.int .i64 (fMod a b).1, .int .i64 (fMod a b).2]) ∧ w = w' := by
 cases ha : fitsB a <;> cases hb : fitsB b
 case true.true =>
  by_cases h0 : b = 0
  ·subst h0
   have e : fMod a 0 = (0, 12) := by simp [fMod, ha, hb]
   rw [e]
   clear e
   go_enter Tryz.func50, Tryz.ntmps50
   go_wp2_with (first | (go_at_call 36; ((with_reducible refine (rfits_any _ _).mono ?_); rintro e w' ⟨rfl, rfl⟩)))
   go_ret2
   exact ⟨rfl, rfl⟩
  ·have e : fMod a b = (a.tmod b, 0) := by simp [fMod, ha, hb, h0]
   rw [e]
   have e0 : (b == 0) = false := by simp [h0]
   clear e
   go_enter Tryz.func50, Tryz.ntmps50
   go_wp2_with (first | (go_at_call 36; ((with_reducible refine (rfits_any _ _).mono ?_); rintro e w' ⟨rfl, rfl⟩)))
   go_ret2
   exact ⟨ret_two (rest_wrap a b (fitsB_t ha)) rfl, rfl⟩
 all_goals
  have e : fMod a b = (0, 2) := by simp [fMod, ha, hb]
  rw [e]
  go_enter Tryz.func50, Tryz.ntmps50
  go_wp2_with (first | (go_at_call 36; ((with_reducible refine (rfits_any _ _).mono ?_); rintro e w' ⟨rfl, rfl⟩)))
  go_ret2
  exact ⟨rfl, rfl⟩
def fSigned (V b : Int) (m : Bool) : Int × Int := if V / b ≤ 1152921504606846976 then (sgn m (V / b), 0) else (0, 11)
theorem signed_any (D : List Int) (B cap : Nat) (b : Int) (m : Bool) (w : World) (hD : Row w B D) (hl : D.length = 9) (hd : ∀ j, 0 ≤ D.getD j 0 ∧ D.getD j 0 < 1048576) (hb : 1 ≤ b ∧ b ≤ 1152921504606846976) :
  Calls Tryz.prog 86 #[.slice (some ⟨B, 0, none⟩) 9 cap, .int .i64 b, .bool m] w fun e w' => e = .returned (.tuple #[.int .i64 (fSigned (val D) b m).1, .int .i64 (fSigned (val D) b m).2]) ∧ w = w' := by
 have H := Lib.hid (by_any D B cap b w hD hl hd hb)
 have h0 : 0 ≤ val D / b := Int.ediv_nonneg (val_nonneg D (fun j => (hd j).1)) (by omega)
 by_cases hle : val D / b ≤ 1152921504606846976
 ·have e : fSigned (val D) b m = (sgn m (val D / b), 0) := by simp [fSigned, hle]
  rw [e]
  clear e
  obtain ⟨V, hV⟩ : ∃ V, val D / b = V := ⟨_, rfl⟩
  rw [hV] at h0 hle ⊢
  have dle : decide (V ≤ 1152921504606846976) = true := by simpa using hle
  have H' : Calls Tryz.prog 124 #[.slice (some ⟨B, 0, none⟩) 9 cap, .int .i64 b] w fun e w' => e = .returned (.tuple #[.int .i64 V, .bool true]) ∧ w = w' :=
   H.out.mono fun e w' ⟨q, ok, h1, h2, h3, h4⟩ => by
    rw [hV] at h2 h3; rw [dle] at h3; subst h3; rw [h1, h2 rfl]; exact ⟨rfl, h4⟩
  have HH := Lib.hid H'
  clear H H' hD hl hd hb dle hV
  cases m
  all_goals
   go_enter Tryz.func86, Tryz.ntmps86
   go_wp2_with (first | (go_at_call 124; ((with_reducible refine (HH.out).mono ?_); rintro e w' ⟨rfl, rfl⟩)))
   go_ret2
   exact ⟨rfl, rfl⟩
 ·have e : fSigned (val D) b m = (0, 11) := by simp [fSigned, hle]
  rw [e]
  clear e
  obtain ⟨V, hV⟩ : ∃ V, val D / b = V := ⟨_, rfl⟩
  rw [hV] at h0 hle
  have dle : decide (V ≤ 1152921504606846976) = false := by simpa using hle
  have H' : Calls Tryz.prog 124 #[.slice (some ⟨B, 0, none⟩) 9 cap, .int .i64 b] w fun e w' => ∃ q, e = .returned (.tuple #[.int .i64 q, .bool false]) ∧ w = w' :=
   H.out.mono fun e w' ⟨q, ok, h1, h2, h3, h4⟩ => by
    rw [hV, dle] at h3; subst h3; exact ⟨q, h1, h4⟩
  have HH := Lib.hid H'
  clear H H' hD hl hd hb dle hV
  go_enter Tryz.func86, Tryz.ntmps86
  go_wp2_with (first | (go_at_call 124; refine HH.out.mono ?_; rintro e w' ⟨q, rfl, rfl⟩))
  go_ret2
  exact ⟨rfl, rfl⟩
theorem qinv_bd {a b : Int} {D : List Int} (h : QInv (a * b) D 8) (ha : 0 ≤ a ∧ a ≤ 1152921504606846976) (hb : 0 ≤ b ∧ b ≤ 1152921504606846976) : ∀ j, 0 ≤ D.getD j 0 ∧ D.getD j 0 < 1048576 := by
 have hle : val D ≤ 1152921504606846976 * 1152921504606846976 := by rw [h.eq]; exact Int.mul_le_mul ha.2 hb.2 hb.1 (by omega)
 intro j
 refine ⟨h.lo j, ?_⟩
 rcases Nat.lt_trichotomy j 8 with hj | hj | hj
 ·exact h.done j hj
 ·subst hj
  match D, h.len, h.lo, hle with
  | [d0, d1, d2, d3, d4, d5, d6, d7, d8], _, hlo, hle =>
   have h0 := hlo 0; have h1 := hlo 1; have h2 := hlo 2; have h3 := hlo 3; have h4 := hlo 4; have h5 := hlo 5; have h6 := hlo 6; have h7 := hlo 7; have h8 := hlo 8
   simp [val] at *
   omega
 ·rw [List.getD_eq_getElem?_getD, List.getElem?_eq_none (by rw [h.len]; omega)]; simp
theorem natAbs_quot (a b c : Int) (_hc : c ≠ 0) : ((a.natAbs : Int) * (b.natAbs : Int)) / (c.natAbs : Int) = ((a.natAbs * b.natAbs / c.natAbs : Nat) : Int) := by
 rw [← Int.natCast_mul, ← Int.natCast_ediv]
theorem signed_scaled (a b c : Int) (m : Bool) (hc : c ≠ 0) (hm : m = signB a b c) : fSigned ((a.natAbs : Int) * (b.natAbs : Int)) (c.natAbs : Int) m = fScaled a b c := by
 unfold fSigned fScaled
 rw [natAbs_quot a b c hc, hm]
 by_cases h : a.natAbs * b.natAbs / c.natAbs ≤ 1152921504606846976
 ·rw [if_pos h, if_pos (by omega)]
 ·rw [if_neg h, if_neg (by omega)]
theorem prod_signed (a b c : Int) (m : Bool) (w : World) (ha : -1152921504606846976 ≤ a ∧ a ≤ 1152921504606846976) (hb : -1152921504606846976 ≤ b ∧ b ≤ 1152921504606846976) :
  Calls Tryz.prog 87 #[.int .i64 (a.natAbs : Int), .int .i64 (b.natAbs : Int)] w fun e w' => ∃ B cap, e = .returned (.slice (some ⟨B, 0, none⟩) 9 cap) ∧ Below w.heap.size w w' ∧
   (∀ w2, Below w'.heap.size w' w2 → ∀ c : Int, 1 ≤ c ∧ c ≤ 1152921504606846976 → Calls Tryz.prog 86 #[.slice (some ⟨B, 0, none⟩) 9 cap, .int .i64 c, .bool m] w2
    fun e w3 => e = .returned (.tuple #[.int .i64 (fSigned ((a.natAbs : Int) * (b.natAbs : Int)) c m).1, .int .i64 (fSigned ((a.natAbs : Int) * (b.natAbs : Int)) c m).2]) ∧ w2 = w3) := by
 refine (product_any (a.natAbs : Int) (b.natAbs : Int) w (by omega) (by omega)).mono ?_
 rintro e w' ⟨B, cap, D, rfl, hB, hR, hQ, hW⟩
 refine ⟨B, cap, rfl, hW, fun w2 h2 c hc => ?_⟩
 have := signed_any D B cap c m w2 (hR.keep h2 hR.lt) hQ.len (qinv_bd hQ (by omega) (by omega)) hc
 rw [hQ.eq] at this
 exact this
set_option maxHeartbeats 400000 in
theorem rmul_core (a b : Int) (w : World) (ha : fitsB a = true) (hb : fitsB b = true) (m : Bool) (dm : (!(decide (a < 0) == decide (b < 0))) = m) (res : Int × Int) (hres : fSigned ((a.natAbs : Int) * (b.natAbs : Int)) 1000000 m = res) :
  Calls Tryz.prog 48 #[.int .i64 a, .int .i64 b] w fun e w' => e = .returned (.tuple #[.int .i64 res.1, .int .i64 res.2]) ∧ Below w.heap.size w w' := by
 have ha' := fitsB_t ha
 have hb' := fitsB_t hb
 have HP := Lib.hid (fun w => prod_signed a b 1000000 m w ha' hb')
 have HA := Lib.hid (fun w => rsize_any a w ha')
 have HB := Lib.hid (fun w => rsize_any b w hb')
 have Hres := Lib.hid hres
 clear hres ha' hb'
 cases da : decide (a < 0) <;> cases db : decide (b < 0) <;> rw [da, db] at dm <;> cases m
 all_goals first | (exact absurd dm (by decide)) | skip
 all_goals
  clear dm
  go_enter Tryz.func48, Tryz.ntmps48
  go_wp2_with (first | (go_at_call 36; ((with_reducible refine (rfits_any _ _).mono ?_); rintro e w' ⟨rfl, rfl⟩)) | (go_at_call_of 88 (Value.int IntKind.i64 a); refine (HA.out _).mono ?_; rintro e w' ⟨rfl, rfl⟩) | (go_at_call_of 88 (Value.int IntKind.i64 b); refine (HB.out _).mono ?_; rintro e w' ⟨rfl, rfl⟩))
  refine (HP.out _).mono ?_
  rintro e w' ⟨B, cap, rfl, hW, hS⟩
  have HS := Lib.hid hS
  have HW := Lib.hid hW
  clear hS hW
  go_wp2_with fail


  refine (HS.out w' (Below.refl _ _) 1000000 (by omega)).mono ?_

  rw [Hres.out]
  rintro e w' ⟨rfl, rfl⟩

  go_wp2_with fail
  go_ret2
  exact ⟨rfl, HW.out⟩
theorem rmul_any (a b : Int) (w : World) :
  Calls Tryz.prog 48 #[.int .i64 a, .int .i64 b] w fun e w' => e = .returned (.tuple #[.int .i64 (fMul a b).1, .int .i64 (fMul a b).2]) ∧ Below w.heap.size w w' := by
 cases ha : fitsB a <;> cases hb : fitsB b
 case true.true =>
  refine rmul_core a b w ha hb _ rfl _ ?_
  have := signed_scaled a b 1000000 (!(decide (a < 0) == decide (b < 0))) (by omega) (by simp [signB]; cases decide (a < 0) <;> cases decide (b < 0) <;> rfl)
  simp [fMul, ha, hb]
  simpa using this
 all_goals
  have e : fMul a b = (0, 2) := by simp [fMul, ha, hb]
  rw [e]
  go_enter Tryz.func48, Tryz.ntmps48
  go_wp2_with (first | (go_at_call 36; ((with_reducible refine (rfits_any _ _).mono ?_); rintro e w' ⟨rfl, rfl⟩)))
  go_ret2
  exact ⟨rfl, Below.refl _ _⟩
set_option maxHeartbeats 400000 in
theorem rdiv_core (a b : Int) (w : World) (ha : fitsB a = true) (hb : fitsB b = true) (m : Bool) (dm : (!(decide (a < 0) == decide (b < 0))) = m) (res : Int × Int) (h0 : (b == 0) = false) (hb0 : 1 ≤ b.natAbs) (hres : fSigned ((a.natAbs : Int) * ((1000000 : Int).natAbs : Int)) (b.natAbs : Int) m = res) :
  Calls Tryz.prog 49 #[.int .i64 a, .int .i64 b] w fun e w' => e = .returned (.tuple #[.int .i64 res.1, .int .i64 res.2]) ∧ Below w.heap.size w w' := by
 have ha' := fitsB_t ha
 have hb' := fitsB_t hb
 have HP := Lib.hid (fun w => prod_signed a 1000000 b m w ha' (by omega))
 have HA := Lib.hid (fun w => rsize_any a w ha')
 have HB := Lib.hid (fun w => rsize_any b w hb')
 have Hres := Lib.hid hres
 have bb : 1 ≤ (b.natAbs : Int) ∧ (b.natAbs : Int) ≤ 1152921504606846976 := by omega
 have HBB := Lib.hid bb
 have em : ((1000000 : Int).natAbs : Int) = 1000000 := rfl
 rw [em] at HP Hres
 clear hres ha' hb' bb hb0 em
 cases da : decide (a < 0) <;> cases db : decide (b < 0) <;> rw [da, db] at dm <;> cases m
 all_goals first | (exact absurd dm (by decide)) | skip
 all_goals
  clear dm
  go_enter Tryz.func49, Tryz.ntmps49
  go_wp2_with (first | (go_at_call 36; ((with_reducible refine (rfits_any _ _).mono ?_); rintro e w' ⟨rfl, rfl⟩)) | (go_at_call_of 88 (Value.int IntKind.i64 a); refine (HA.out _).mono ?_; rintro e w' ⟨rfl, rfl⟩) | (go_at_call_of 88 (Value.int IntKind.i64 b); refine (HB.out _).mono ?_; rintro e w' ⟨rfl, rfl⟩))
  refine (HP.out _).mono ?_
  rintro e w' ⟨B, cap, rfl, hW, hS⟩
  have HS := Lib.hid hS
  have HW := Lib.hid hW
  clear hS hW
  go_wp2_with (go_at_call 88; refine (HB.out _).mono ?_; rintro e w' ⟨rfl, rfl⟩)
  refine (HS.out _ (Below.refl _ _) (b.natAbs : Int) HBB.out).mono ?_

  rw [Hres.out]
  rintro e w' ⟨rfl, rfl⟩

  go_wp2_with fail
  go_ret2
  exact ⟨rfl, HW.out⟩
set_option maxHeartbeats 400000 in
theorem rscale_core (a b : Int) (w : World) (ha : fitsB a = true) (hb : fitsB b = true) (m : Bool) (dm : (!(decide (a < 0) == decide (b < 0))) = m) (res : Int × Int) (c : Int) (hc : 1 ≤ c ∧ c ≤ 1152921504606846976) (hres : fSigned ((a.natAbs : Int) * (b.natAbs : Int)) c m = res) :
  Calls Tryz.prog 143 #[.int .i64 a, .int .i64 b, .int .i64 c] w fun e w' => e = .returned (.tuple #[.int .i64 res.1, .int .i64 res.2]) ∧ Below w.heap.size w w' := by
 have ha' := fitsB_t ha
 have hb' := fitsB_t hb
 have HP := Lib.hid (fun w => prod_signed a b c m w ha' hb')
 have HA := Lib.hid (fun w => rsize_any a w ha')
 have HB := Lib.hid (fun w => rsize_any b w hb')
 have Hres := Lib.hid hres
 have e1 : decide (c < 1) = false := by simp; omega
 have e2 : decide (1152921504606846976 < c) = false := by simp; omega
 have HC := Lib.hid hc
 clear hc
 clear hres ha' hb'
 cases da : decide (a < 0) <;> cases db : decide (b < 0) <;> rw [da, db] at dm <;> cases m
 all_goals first | (exact absurd dm (by decide)) | skip
 all_goals
  clear dm
  go_enter Tryz.func143, Tryz.ntmps143
  go_wp2_with (first | (go_at_call 36; ((with_reducible refine (rfits_any _ _).mono ?_); rintro e w' ⟨rfl, rfl⟩)) | (go_at_call_of 88 (Value.int IntKind.i64 a); refine (HA.out _).mono ?_; rintro e w' ⟨rfl, rfl⟩) | (go_at_call_of 88 (Value.int IntKind.i64 b); refine (HB.out _).mono ?_; rintro e w' ⟨rfl, rfl⟩))
  refine (HP.out _).mono ?_
  rintro e w' ⟨B, cap, rfl, hW, hS⟩
  have HS := Lib.hid hS
  have HW := Lib.hid hW
  clear hS hW
  go_wp2_with fail


  refine (HS.out w' (Below.refl _ _) c HC.out).mono ?_

  rw [Hres.out]
  rintro e w' ⟨rfl, rfl⟩

  go_wp2_with fail
  go_ret2
  exact ⟨rfl, HW.out⟩
theorem rdiv_any (a b : Int) (w : World) :
  Calls Tryz.prog 49 #[.int .i64 a, .int .i64 b] w fun e w' => e = .returned (.tuple #[.int .i64 (fDiv a b).1, .int .i64 (fDiv a b).2]) ∧ Below w.heap.size w w' := by
 cases ha : fitsB a <;> cases hb : fitsB b
 case true.true =>
  by_cases h0 : b = 0
  ·subst h0
   have e : fDiv a 0 = (0, 12) := by simp [fDiv, ha, hb]
   rw [e]
   clear e
   go_enter Tryz.func49, Tryz.ntmps49
   go_wp2_with (first | (go_at_call 36; ((with_reducible refine (rfits_any _ _).mono ?_); rintro e w' ⟨rfl, rfl⟩)))
   go_ret2
   exact ⟨rfl, Below.refl _ _⟩
  ·refine rdiv_core a b w ha hb _ rfl _ (by simp [h0]) (by omega) ?_
   have := signed_scaled a 1000000 b (!(decide (a < 0) == decide (b < 0))) h0 (by simp [signB]; cases decide (a < 0) <;> cases decide (b < 0) <;> rfl)
   rw [this]
   simp [fDiv, ha, hb, h0]
 all_goals
  have e : fDiv a b = (0, 2) := by simp [fDiv, ha, hb]
  rw [e]
  go_enter Tryz.func49, Tryz.ntmps49
  go_wp2_with (first | (go_at_call 36; ((with_reducible refine (rfits_any _ _).mono ?_); rintro e w' ⟨rfl, rfl⟩)))
  go_ret2
  exact ⟨rfl, Below.refl _ _⟩
theorem rscale_any (a b c : Int) (w : World) :
    Calls Tryz.prog 143 #[.int .i64 a, .int .i64 b, .int .i64 c] w fun e w' => e = .returned (.tuple #[.int .i64 (fScale a b c).1, .int .i64 (fScale a b c).2]) ∧ Below w.heap.size w w' := by
  cases ha : fitsB a <;> cases hb : fitsB b
  case true.true =>
    by_cases c1 : c < 1
    · have e : fScale a b c = (0, 2) := by simp [fScale, ha, hb]; omega
      rw [e]
      have e1 : decide (c < 1) = true := by simpa using c1
      clear e c1
      go_enter Tryz.func143, Tryz.ntmps143
      go_wp2_with (first | (go_at_call 36; ((with_reducible refine (rfits_any _ _).mono ?_); rintro e w' ⟨rfl, rfl⟩)))
      go_ret2
      exact ⟨rfl, Below.refl _ _⟩
    · by_cases c2 : 1152921504606846976 < c
      · have e : fScale a b c = (0, 2) := by simp [fScale, ha, hb]; omega
        rw [e]
        have e1 : decide (c < 1) = false := by simp; omega
        have e2 : decide (1152921504606846976 < c) = true := by simpa using c2
        clear e c1 c2
        go_enter Tryz.func143, Tryz.ntmps143
        go_wp2_with (first | (go_at_call 36; ((with_reducible refine (rfits_any _ _).mono ?_); rintro e w' ⟨rfl, rfl⟩)))
        go_ret2
        exact ⟨rfl, Below.refl _ _⟩
      · refine rscale_core a b w ha hb _ rfl _ c (by omega) ?_
        have := signed_scaled a b c (!(decide (a < 0) == decide (b < 0))) (by omega) (by have : ¬ c < 0 := by omega
                                                                                         simp [signB, this]; cases decide (a < 0) <;> cases decide (b < 0) <;> rfl)
        rw [show (c.natAbs : Int) = c by omega] at this
        rw [this]
        simp [fScale, ha, hb]; omega
  all_goals
    have e : fScale a b c = (0, 2) := by simp [fScale, ha, hb]
    rw [e]
    go_enter Tryz.func143, Tryz.ntmps143
    go_wp2_with (first | (go_at_call 36; ((with_reducible refine (rfits_any _ _).mono ?_); rintro e w' ⟨rfl, rfl⟩)))
    go_ret2
    exact ⟨rfl, Below.refl _ _⟩
end Go.Proofs.YtmblgaehfjheeaaGreat
/- Chapter 19: what is known of calls holds; arguments read again. -/
namespace Go.Proofs.YtmblgaehfjheeaaGreat.Ev
open Go.RowKit Go.ChangeShapes Go.WideShapes
set_option linter.unusedVariables false
set_option maxRecDepth 100000
theorem nn_told (n : Int) : 0 ≤ (fTold n).2 := by unfold fTold; split <;> simp
theorem nn_add (a b : Int) : 0 ≤ (fAdd a b).2 := by unfold fAdd; split; exact nn_told _; decide
theorem nn_sub (a b : Int) : 0 ≤ (fSub a b).2 := by unfold fSub; split; exact nn_told _; decide
theorem nn_scaled (a b c : Int) : 0 ≤ (fScaled a b c).2 := by unfold fScaled; split <;> simp
theorem nn_mul (a b : Int) : 0 ≤ (fMul a b).2 := by unfold fMul; split; exact nn_scaled _ _ _; decide
theorem nn_div (a b : Int) : 0 ≤ (fDiv a b).2 := by
 unfold fDiv; split
 ·split; decide; exact nn_scaled _ _ _
 ·decide
theorem nn_mod (a b : Int) : 0 ≤ (fMod a b).2 := by
 unfold fMod; split
 ·split <;> simp
 ·decide
theorem nn_scale (a b c : Int) : 0 ≤ (fScale a b c).2 := by unfold fScale; split; exact nn_scaled _ _ _; decide
def HasF (f : Nat) : Prop := ∃ fn, Tryz.prog.funcs[f]? = some fn ∧ fn.body.isSome = true ∧ (fn.name == "runtime.NumGoroutine") = false
theorem below_same {w w' : World} (h : w = w') : Below w.heap.size w w' := by subst h; exact Below.refl _ _
set_option maxHeartbeats 2000000 in
theorem ar2_ok {f : Nat} {m : Int → Int → Int × Int} (h : ar2 f = some m) : HasF f ∧ ∀ a b (w : World), 0 ≤ (m a b).2 ∧ Calls Tryz.prog f #[.int .i64 a, .int .i64 b] w fun e w' => e = .returned (.tuple #[.int .i64 (m a b).1, .int .i64 (m a b).2]) ∧ Below w.heap.size w w' := by
 unfold ar2 at h
 split at h
 ·rename_i hf
  have hf := Nat.eq_of_beq_eq_true hf
  subst hf
  cases h
  exact ⟨⟨_, Tryz.func40, by kernel_rfl, by kernel_rfl⟩, fun a b w => ⟨nn_add a b, (add_any a b w).mono fun e w' ⟨h1, h2⟩ => ⟨h1, below_same h2⟩⟩⟩
 split at h
 ·rename_i hf
  have hf := Nat.eq_of_beq_eq_true hf
  subst hf
  cases h
  exact ⟨⟨_, Tryz.func41, by kernel_rfl, by kernel_rfl⟩, fun a b w => ⟨nn_sub a b, (sub_any a b w).mono fun e w' ⟨h1, h2⟩ => ⟨h1, below_same h2⟩⟩⟩
 split at h
 ·rename_i hf
  have hf := Nat.eq_of_beq_eq_true hf
  subst hf
  cases h
  exact ⟨⟨_, Tryz.func42, by kernel_rfl, by kernel_rfl⟩, fun a b w => ⟨nn_mul a b, (mul_any a b w).mono fun e w' ⟨h1, h2⟩ => ⟨h1, h2⟩⟩⟩
 split at h
 ·rename_i hf
  have hf := Nat.eq_of_beq_eq_true hf
  subst hf
  cases h
  exact ⟨⟨_, Tryz.func43, by kernel_rfl, by kernel_rfl⟩, fun a b w => ⟨nn_div a b, (div_fix a b w).mono fun e w' ⟨h1, h2⟩ => ⟨h1, h2⟩⟩⟩
 split at h
 ·rename_i hf
  have hf := Nat.eq_of_beq_eq_true hf
  subst hf
  cases h
  exact ⟨⟨_, Tryz.func44, by kernel_rfl, by kernel_rfl⟩, fun a b w => ⟨nn_mod a b, (mod_any a b w).mono fun e w' ⟨h1, h2⟩ => ⟨h1, below_same h2⟩⟩⟩
 split at h
 ·rename_i hf
  have hf := Nat.eq_of_beq_eq_true hf
  subst hf
  cases h
  exact ⟨⟨_, Tryz.func46, by kernel_rfl, by kernel_rfl⟩, fun a b w => ⟨nn_add a b, (radd_any a b w).mono fun e w' ⟨h1, h2⟩ => ⟨h1, below_same h2⟩⟩⟩
 split at h
 ·rename_i hf
  have hf := Nat.eq_of_beq_eq_true hf
  subst hf
  cases h
  exact ⟨⟨_, Tryz.func47, by kernel_rfl, by kernel_rfl⟩, fun a b w => ⟨nn_sub a b, (rsub_any a b w).mono fun e w' ⟨h1, h2⟩ => ⟨h1, below_same h2⟩⟩⟩
 split at h
 ·rename_i hf
  have hf := Nat.eq_of_beq_eq_true hf
  subst hf
  cases h
  exact ⟨⟨_, Tryz.func48, by kernel_rfl, by kernel_rfl⟩, fun a b w => ⟨nn_mul a b, (rmul_any a b w).mono fun e w' ⟨h1, h2⟩ => ⟨h1, h2⟩⟩⟩
 split at h
 ·rename_i hf
  have hf := Nat.eq_of_beq_eq_true hf
  subst hf
  cases h
  exact ⟨⟨_, Tryz.func49, by kernel_rfl, by kernel_rfl⟩, fun a b w => ⟨nn_div a b, (rdiv_any a b w).mono fun e w' ⟨h1, h2⟩ => ⟨h1, h2⟩⟩⟩
 split at h
 ·rename_i hf
  have hf := Nat.eq_of_beq_eq_true hf
  subst hf
  cases h
  exact ⟨⟨_, Tryz.func50, by kernel_rfl, by kernel_rfl⟩, fun a b w => ⟨nn_mod a b, (rmod_any a b w).mono fun e w' ⟨h1, h2⟩ => ⟨h1, below_same h2⟩⟩⟩
 cases h
theorem ar3_ok {f : Nat} {m : Int → Int → Int → Int × Int} (h : ar3 f = some m) : HasF f ∧ ∀ a b c (w : World), 0 ≤ (m a b c).2 ∧ Calls Tryz.prog f #[.int .i64 a, .int .i64 b, .int .i64 c] w fun e w' => e = .returned (.tuple #[.int .i64 (m a b c).1, .int .i64 (m a b c).2]) ∧ Below w.heap.size w w' := by
 unfold ar3 at h
 split at h
 ·rename_i hf
  have hf := Nat.eq_of_beq_eq_true hf
  subst hf
  cases h
  exact ⟨⟨_, Tryz.func126, by kernel_rfl, by kernel_rfl⟩, fun a b c w => ⟨nn_scale a b c, scale_any a b c w⟩⟩
 split at h
 ·rename_i hf
  have hf := Nat.eq_of_beq_eq_true hf
  subst hf
  cases h
  exact ⟨⟨_, Tryz.func143, by kernel_rfl, by kernel_rfl⟩, fun a b c w => ⟨nn_scale a b c, rscale_any a b c w⟩⟩
 cases h
theorem pair_rel {M : Inj} {p : Int × Int} (h : 0 ≤ p.2) : VRel M (pairA p) (.tuple #[.int .i64 p.1, .int .i64 p.2]) := by
 unfold pairA
 have e : ((p.2.toNat : Nat) : Int) = p.2 := Int.toNat_of_nonneg h
 rw [e]
 refine .tuple _ _ rfl fun i v u hv hu => ?_
 match i with
 | 0 => simp at hv hu; subst hv hu; exact .int _ _
 | 1 => simp at hv hu; subst hv hu; exact .int _ _
 | i + 2 => simp at hv
theorem ints2 {M : Inj} {a b : Int} {vs : Array Value} (h : LRel M [.int .i64 a, .int .i64 b] vs.toList) : vs = #[.int .i64 a, .int .i64 b] := by
 obtain ⟨l⟩ := vs
 obtain ⟨h1, h2⟩ := h
 match l, h1 with
 | [x, y], _ =>
  have hx := h2 0 _ _ rfl rfl
  have hy := h2 1 _ _ rfl rfl
  cases hx; cases hy; rfl
theorem ints3 {M : Inj} {a b c : Int} {vs : Array Value} (h : LRel M [.int .i64 a, .int .i64 b, .int .i64 c] vs.toList) : vs = #[.int .i64 a, .int .i64 b, .int .i64 c] := by
 obtain ⟨l⟩ := vs
 obtain ⟨h1, h2⟩ := h
 match l, h1 with
 | [x, y, z], _ =>
  have hx := h2 0 _ _ rfl rfl
  have hy := h2 1 _ _ rfl rfl
  have hz := h2 2 _ _ rfl rfl
  cases hx; cases hy; cases hz; rfl
theorem str_iff2 {M : Inj} {l : List Nat} {v : Value} (h : VRel M (.str l) v) : ∃ s : ByteArray, v = .string s ∧ s.data.toList.map UInt8.toNat = l := by
 cases h with
 | str s l h => exact ⟨s, rfl, h⟩
theorem slice_iff2 {M : Inj} {b o n z : Nat} {v : Value} (h : VRel M (.slice b o n z) v) :
  ∃ i cap p, M b = some i ∧ i.sz = z ∧ o + cap = i.cap ∧ n ≤ cap ∧ (p = ⟨i.blk, i.off + o * i.sz, none⟩ ∨ cap = 0) ∧ i.val = undef ∧ v = .slice (some p) n cap := by
 cases h with
 | slice b o n cap p i hi hc hl hp hv => exact ⟨i, cap, p, hi, rfl, hc, hl, hp, hv, rfl⟩
theorem strs_get : ∀ {l : List AV} {xs : List (List Nat)}, strsOf l = some xs → l = xs.map AV.str
 | [], xs, h => by unfold strsOf at h; cases h; rfl
 | x :: l, xs, h => by
  unfold strsOf at h
  split at h
  ·rename_i h0; cases h0
  ·rename_i s l' h0
   cases h0
   split at h
   ·rename_i m hm
    cases h
    rw [strs_get hm]; rfl
   ·cases h
  ·cases h
theorem map_icl {α β : Type} (f : α → β) (sep : List α) : ∀ xs : List (List α), (List.intercalate sep xs).map f = List.intercalate (sep.map f) (xs.map (List.map f))
 | [] => rfl
 | [x] => by simp [List.intercalate]
 | x :: y :: r => by
  have ih := map_icl f sep (y :: r)
  simp only [List.intercalate, List.intersperse, List.flatten_cons, List.map_append, List.map_cons] at ih ⊢
  rw [ih]
theorem join_ok {M : Inj} {N : Nat → Prop} {w0 : Base (ctxOf [])} {h : AHeap} {w : World} (hh : HRel M N w0 h w) {b n : Nat} {sep : List Nat} {vs : Array Value} (hr : LRel M [.slice b 0 (n + 1) 1, .str sep] vs.toList) {ob : AObj} (hn : n < 1073741824) (hob : h.objs.get b = some ob) {l : List AV} (hl : sub? ob.cells 0 (n + 1) = some l) {v : AV} (ho : joinA l sep = some v) :
  Calls Tryz.prog 98 vs w fun e w' => ∃ u, e = .returned u ∧ VRel M v u ∧ Below w.heap.size w w' := by
 unfold joinA at ho
 split at ho
 rotate_left
 ·cases ho
 rename_i xs hxs
 split at ho
 rotate_left
 ·cases ho
 rename_i hlen
 have hlen := Nat.ble_eq.mp hlen
 cases ho
 have hls := strs_get hxs
 obtain ⟨k⟩ := vs
 obtain ⟨h1, h2⟩ := hr
 match k, h1 with
 | [x, y], _ =>
  have hx := h2 0 _ _ rfl rfl
  have hy := h2 1 _ _ rfl rfl
  obtain ⟨sepb, rfl, hsep⟩ := str_iff2 hy
  obtain ⟨i, cap, p, hi, hsz, hc, hlc, hp, hv, rfl⟩ := slice_iff2 hx
  obtain ⟨j, c, e, fr, k1, k2, k3⟩ := hh.readAt hob hi hv
  rw [hi] at k1
  cases k1
  have hp : p = ⟨i.blk, i.off, none⟩ := by
   have := hp.resolve_right zy
   simpa using this
  subst hp
  have hl0 : l = (ob.cells.drop 0).take (n + 1) ∧ n + 1 ≤ ob.cells.length := by
   unfold sub? at hl
   split at hl
   ·rename_i hb
    have := Nat.ble_eq.mp hb
    simp only [Option.some.injEq] at hl
    exact ⟨hl.symm, by omega⟩
   ·cases hl
  have hxl : xs.length = n + 1 := by
   have := congrArg List.length hls
   rw [hl0.1] at this
   simp only [List.length_map, List.length_take, List.drop_zero] at this
   omega
  have hat : ∀ q (hq : q < n + 1), ∃ sb : ByteArray, c[i.off + q]? = some (.string sb) ∧ sb.data.toList.map UInt8.toNat = xs[q] := by
   intro q hq
   have h3 : ob.cells[q]? = some (.str xs[q]) := by
    have h4 : l[q]? = some (.str xs[q]) := by rw [hls, List.getElem?_map, List.getElem?_eq_getElem zy]; rfl
    rw [hl0.1, List.drop_zero, List.getElem?_take, if_pos hq] at h4
    exact h4
   obtain ⟨_, u, h5, h6⟩ := k3 q _ h3
   obtain ⟨sb, rfl, h7⟩ := str_iff2 h6
   exact ⟨sb, h5, h7⟩
  have hbk : i.blk < w.heap.size := (Array.getElem?_eq_some_iff.1 k2).1
  let bs : List ByteArray := (List.range (n + 1)).map fun q => match c[i.off + q]? with
   | some (.string sb) => sb
   | _ => .empty
  have hbl : bs.length = n + 1 := by simp [bs]
  have hbs : ∀ q (hq : q < n + 1), ∃ sb : ByteArray, bs[q]? = some sb ∧ c[i.off + q]? = some (.string sb) ∧ sb.data.toList.map UInt8.toNat = xs[q] := by
   intro q hq
   obtain ⟨sb, h5, h6⟩ := hat q hq
   refine ⟨sb, ?_, h5, h6⟩
   simp only [bs, List.getElem?_map, List.getElem?_range hq, Option.map_some, h5]
  have hmap : (bs.map fun b => b.data.toList.map UInt8.toNat) = xs := by
   apply List.ext_getElem?
   intro q
   rcases Nat.lt_or_ge q (n + 1) with hq | hq
   ·obtain ⟨sb, h5, _, h6⟩ := hbs q hq
    rw [List.getElem?_map, h5, List.getElem?_eq_getElem zy]
    simp [h6]
   ·rw [List.getElem?_eq_none (by simp [hbl]; omega), List.getElem?_eq_none zy]
  have hres : (Lib.join (bs.map (·.data.toList)) sepb.data.toList).map UInt8.toNat = List.intercalate sep xs := by
   unfold Lib.join
   rw [map_icl, List.map_map, hsep, ← hmap]
   rfl
  have hcells : ∀ (q : Nat) x, bs[q]? = some x → w.cell? ⟨i.blk, i.off + q, none⟩ = some (.string x) := by
   intro q x hx
   have hq : q < n + 1 := by have := (List.getElem?_eq_some_iff.1 hx).1; omega
   obtain ⟨sb, h5, h6, _⟩ := hbs q hq
   rw [h5] at hx
   cases hx
   unfold World.cell?
   rw [k2]
   exact h6
  have := Tryz.strings_Join i.blk i.off cap bs sepb w hcells hbk zy zy (by have := congrArg List.length hres; simp only [List.length_map] at this; omega)
  rw [hbl] at this
  refine this.mono fun e w' ⟨he, hB⟩ => ⟨_, he, .str _ _ ?_, hB⟩
  simpa using hres
theorem orc_ok : ∀ f args h v, orc f args h = some v → ∀ M N (w0 : Base (ctxOf [])) (vs : Array Value) w, HRel M N w0 h w → LRel M args vs.toList →
  (∃ fn, Tryz.prog.funcs[f]? = some fn ∧ fn.body.isSome = true ∧ (fn.name == "runtime.NumGoroutine") = false) ∧
  Calls Tryz.prog f vs w fun e w' => ∃ u, e = .returned u ∧ VRel M v u ∧ Below w.heap.size w w' := by
 intro f args h v ho M N w0 vs w hh hr
 unfold orc at ho
 split at ho
 ·rename_i hf
  have hf := Nat.eq_of_beq_eq_true hf
  subst hf
  split at ho
  rotate_left
  ·cases ho
  simp only [Option.some.injEq] at ho
  subst ho
  refine ⟨⟨_, Tryz.func18, by kernel_rfl, by kernel_rfl⟩, ?_⟩
  obtain ⟨cs⟩ := vs
  match cs, hr with
  | [], hr =>
   refine (lives_any w).mono ?_
   rintro e w' ⟨rfl, hB⟩
   exact ⟨_, rfl, .bool _, hB⟩
  | _ :: _, hr => have := hr.1; simp at this
 ·split at ho
  ·rename_i m hm
   obtain ⟨h1, h2⟩ := ar2_ok hm
   split at ho
   rotate_left
   ·cases ho
   rename_i a b
   simp only [Option.some.injEq] at ho
   subst ho
   obtain ⟨h3, h4⟩ := h2 a b w
   refine ⟨h1, ?_⟩
   rw [ints2 hr]
   exact h4.mono fun e w' ⟨g1, g2⟩ => ⟨_, g1, pair_rel h3, g2⟩
  ·split at ho
   ·rename_i m hm
    obtain ⟨h1, h2⟩ := ar3_ok hm
    split at ho
    rotate_left
    ·cases ho
    rename_i a b c
    simp only [Option.some.injEq] at ho
    subst ho
    obtain ⟨h3, h4⟩ := h2 a b c w
    refine ⟨h1, ?_⟩
    rw [ints3 hr]
    exact h4.mono fun e w' ⟨g1, g2⟩ => ⟨_, g1, pair_rel h3, g2⟩
   ·split at ho
    ·rename_i hf
     have hf := Nat.eq_of_beq_eq_true hf
     subst hf
     split at ho
     rotate_left
     ·cases ho
     rename_i b n sep
     split at ho
     rotate_left
     ·cases ho
     rename_i hn
     have hn := Nat.ble_eq.mp hn
     split at ho
     rotate_left
     ·cases ho
     rename_i ob hob
     split at ho
     rotate_left
     ·cases ho
     rename_i l hl
     exact ⟨⟨_, Tryz.func98, by kernel_rfl, by kernel_rfl⟩, join_ok hh hr hn hob hl ho⟩
    ·cases ho
theorem tab_is : TabOK Tryz.prog tab (ctxOf []) := tab_knows (tab_ok (by kernel_rfl) (by kernel_rfl)) (fun _ _ _ _ _ h => by cases h) (fun _ _ _ h => by cases h) orc_ok
theorem trodAll_below {H : Type} {enc : TypeId × Value → H} {P : Program} (hl : laidOutB P = true) {W W' : World} (hb : Below W.heap.size W W') :
  ∀ {ts : List TypeId} {vs : List Value} {ds : List (DataW H)} {ps : List MemPlace}, (ts.all fun t => P.readableRec t && decide (t < P.types.size)) = true → DataW.TrodAll enc P W 0 (fun _ => true) true ts vs ds ps → (∀ x ∈ ps, x.block < W.heap.size) →
  DataW.TrodAll enc P W' 0 (fun b => decide (b < W.heap.size)) true ts vs ds ps
 | [], vs, ds, ps, _, h, _ => by
  obtain ⟨rfl, rfl, rfl⟩ := trodAll_nil h
  exact trodAll_mk0
 | t :: ts, vs, ds, ps, hr, h, hlt => by
  obtain ⟨v0, vs0, d0, ds0, p0, q0, rfl, rfl, rfl, h0, r0⟩ := trodAll_cons h
  simp only [List.all_cons, Bool.and_eq_true, decide_eq_true_eq] at hr
  exact trodAll_cons_mk (Below.trod hl hr.1.1 hr.1.2 h0 hb fun x hx => hlt x (List.mem_append_left _ hx)) (trodAll_below hl hb (by simpa using hr.2) r0 fun x hx => hlt x (List.mem_append_right _ hx))
theorem bk_bound {H : Type} {l : List (DataW H)} (hk : Rows.uptoSmall H l = true) {d : DataW H} (hd : d ∈ l) : Rows.uptoBulk d ≤ 1048576 := by
 have := of_decide_eq_true hk
 exact Nat.le_trans (bk_part hd) this
theorem vec_arg {H : Type} {enc : TypeId × Value → H} {W : World} {base : Nat} {v : Value} {d : DataW H} {p : List MemPlace} (hval : Value.okWide Tryz.prog W .any base 22 v) (h : DataW.Trod enc Tryz.prog W 0 (fun _ => true) true 22 v d p) (hb : Rows.uptoBulk d ≤ 1048576) (k : Nat) :
  ∃ (V : List El) (va : AV) (I : List InB), EIn (hsIn k I) V va ∧ EBd V ∧ ∀ M : Inj, (∀ j x, I[j]? = some x → M (k + j) = some x.bi) → VRel M va v ∧ ∀ x ∈ I, CellsOK W M x := by
 obtain ⟨fuel, hf⟩ := h
 have hc : v.cells.toList = [v] := by
  obtain ⟨a, len, cap, rfl⟩ := okWide_slice Tryz.underlying22 hval
  rfl
 rw [hc] at hf
 exact elems_in Tryz.underlying22 Tryz.underlying35 (by kernel_rfl) rfl rfl (by kernel_rfl) (by kernel_rfl) rfl Tryz.underlying3 Tryz.underlying33 Tryz.underlying68 (by kernel_rfl) rfl rfl (by kernel_rfl) (by kernel_rfl) Tryz.underlying9 Tryz.underlying9 hf hb (slice_there Tryz.underlying22 hval) k
theorem in_ok {W : World} {I : List InB} (h : ∀ x ∈ I, CellsOK W (injIn I) x) : InOK W I := fun x hx _ => let ⟨_, h2, h3⟩ := h x hx; ⟨h2, h3⟩
theorem strs_in {H : Type} {enc : TypeId × Value → H} {P : Program} {w : World} {t e : TypeId} {n : Nat} {v : Value} {D : DataW H} {Pl : List MemPlace} (ht : P.underlying t = some (.slice e)) (he : P.underlying e = some .string) (hc : P.cellsOf e = 1)
  (h : DataW.trod enc P w 0 (fun _ => true) true n t [v] = some (D, Pl)) (hb : Rows.uptoBulk D ≤ 1048576) (hok : ∀ a len cap, v = .slice (some a) len cap → a.spot = none ∧ ∃ c e fr, w.heap[a.block]? = some (.cells c e fr)) (k : Nat) :
  ∃ (N : List (List Nat)) (vn : AV) (I : List InB), SIn (hsIn k I) N vn ∧ SBd N ∧ ∀ M : Inj, (∀ j x, I[j]? = some x → M (k + j) = some x.bi) → VRel M vn v ∧ ∀ x ∈ I, CellsOK w M x := by
 rcases Deep.open_strs ht he hc h with ⟨h1, h2⟩ | ⟨a, len, cap, m, Sx, h1, hb0, hlc, hcap, hm, hx, hcell⟩
 ·simp only [List.cons.injEq, and_true] at h1
  subst h1
  exact ⟨[], .nils, [], .inl ⟨rfl, rfl⟩, ⟨by simp, fun x hx => by simp at hx⟩, fun M hM => ⟨.nils, fun x hx => by simp at hx⟩⟩
 ·simp only [List.cons.injEq, and_true] at h1
  subst h1
  have hm : m = cap := hm
  subst hm
  obtain ⟨b, off, spot⟩ := a
  obtain ⟨hspot, cB, eB, fB, hB⟩ := hok _ _ _ rfl
  simp only at hspot hB
  subst hspot
  simp only [Prod.mk.injEq] at hx
  obtain ⟨hD, _⟩ := hx
  have hlen : len ≤ 1048576 := by
   rw [hD] at hb
   simp only [Rows.uptoBulk] at hb
   have := bk_len ((List.range len).map fun i => (DataW.lit (.string (Sx i).data.toList) : DataW H))
   simp only [List.length_map, List.length_range] at this
   omega
  let N := (List.range len).map fun i => strOf (.string (Sx i))
  have hN : N.length = len := by simp [N]
  refine ⟨N, .slice k 0 len 1, [⟨⟨b, off, m, 1, undef⟩, true, N.map AV.str⟩], .inr ⟨k, 0, false, by rw [hN], ⟨false, List.mem_cons_self⟩⟩, ⟨by omega, fun x hx => ?_⟩, fun M hM => ⟨?_, fun x hx => ?_⟩⟩
  ·obtain ⟨i, _, rfl⟩ := List.mem_map.1 hx
   exact str_bytes _
  ·exact .slice k 0 len m _ ⟨b, off, m, 1, undef⟩ (by simpa using hM 0 _ rfl) (Nat.zero_add _) hlc (.inl (by simp)) rfl
  ·rw [List.mem_singleton.1 hx]
   refine ⟨rfl, rfl, cB, eB, fB, hB, fun j v hv => ?_⟩
   have hj : j < len := by
    have := (List.getElem?_eq_some_iff.1 hv).1
    simpa [N] using this
   have e1 : (N.map AV.str)[j]? = some (.str (strOf (.string (Sx j)))) := by simp [N, hj]
   have hv : (N.map AV.str)[j]? = some v := hv
   rw [e1] at hv
   cases hv
   have h3 := (hcell j zy).1
   rw [add_none] at h3
   obtain ⟨c', e', fr', g2, g3⟩ := cell_cells' h3
   have hB' : w.heap[b]? = some (.cells cB eB fB) := hB
   rw [hB'] at g2
   cases g2
   exact ⟨rfl, _, g3, str_rel⟩
theorem names_arg {H : Type} {enc : TypeId × Value → H} {W : World} {base : Nat} {v : Value} {d : DataW H} {p : List MemPlace} (hval : Value.okWide Tryz.prog W .any base 40 v) (h : DataW.Trod enc Tryz.prog W 0 (fun _ => true) true 40 v d p) (hb : Rows.uptoBulk d ≤ 1048576) (k : Nat) :
  ∃ (N : List (List Nat)) (vn : AV) (I : List InB), SIn (hsIn k I) N vn ∧ SBd N ∧ ∀ M : Inj, (∀ j x, I[j]? = some x → M (k + j) = some x.bi) → VRel M vn v ∧ ∀ x ∈ I, CellsOK W M x := by
 obtain ⟨fuel, hf⟩ := h
 have hc : v.cells.toList = [v] := by
  obtain ⟨a, len, cap, rfl⟩ := okWide_slice Tryz.underlying40 hval
  rfl
 rw [hc] at hf
 exact strs_in Tryz.underlying40 Tryz.underlying9 (by kernel_rfl) hf hb (slice_there Tryz.underlying40 hval) k
theorem inj_at {A I B : List InB} : ∀ j x, I[j]? = some x → injIn (A ++ (I ++ B)) (A.length + j) = some x.bi := fun j x h => by
 unfold injIn
 rw [List.getElem?_append_right zy, Nat.add_sub_cancel_left, List.getElem?_append_left (List.getElem?_eq_some_iff.1 h).1, h]; rfl
end Go.Proofs.YtmblgaehfjheeaaGreat.Ev
