/- Walks of package gaugeref03: the rest of the numbers. -/
import Derived.Test.YtmblgaehfjheeaaGreatProg
import Derived.WalkKit
import Derived.ProofKit
import Derived.OpenShut
import Derived.Outline
import Derived.WalkSpells
import Derived.WalkLawsBesides
import Derived.Deep.QuietTactic
import Derived.BigQuiet
import Derived.Lib.Hide
import Derived.Deep.DeepFit
import Derived.Deep.DeepMust
import Derived.Test.YtmblgaehfjheeaaGreatMFixS

namespace Go.Proofs.YtmblgaehfjheeaaGreat
open Go.ChangeShapes Go.WideShapes Go.ChangeAt Go.RowKit
set_option linter.unusedVariables false
set_option maxRecDepth 100000
theorem rfits_any (n : Int) (w : World) :
    Calls Tryz.prog 36 #[.int .i64 n] w fun e w' => e = .returned (.bool (fitsB n)) ∧ w = w' := by
  go_enter Tryz.func36, Tryz.ntmps36
  go_wp2
  all_goals (go_ret; exact ⟨by simp [fitsB]; omega, rfl⟩)
theorem rsize_any (n : Int) (w : World) (h : -1152921504606846976 ≤ n ∧ n ≤ 1152921504606846976) :
    Calls Tryz.prog 88 #[.int .i64 n] w fun e w' => e = .returned (.int .i64 ((n.natAbs : Nat) : Int)) ∧ w = w' := by
  have h1 := h.1
  have h2 := h.2
  go_enter Tryz.func88, Tryz.ntmps88
  go_wp2
  all_goals (go_ret; exact ⟨ret_int (by omega), rfl⟩)
theorem radd_any (a b : Int) (w : World) :
    Calls Tryz.prog 46 #[.int .i64 a, .int .i64 b] w fun e w' => e = .returned (.tuple #[.int .i64 (fAdd a b).1, .int .i64 (fAdd a b).2]) ∧ w = w' := by
  cases ha : fitsB a <;> cases hb : fitsB b
  case true.true =>
    have ha' := fitsB_t ha
    have hb' := fitsB_t hb
    cases hs : fitsB (a + b)
    · have e : fAdd a b = (0, 11) := by simp [fAdd, fTold, ha, hb, hs]
      rw [e]
      go_enter Tryz.func46, Tryz.ntmps46
      go_wp2_with (first | (go_at_call 36; ((with_reducible refine (rfits_any _ _).mono ?_); rintro e w' ⟨rfl, rfl⟩)))
      go_ret2
      exact ⟨rfl, rfl⟩
    · have e : fAdd a b = (a + b, 0) := by simp [fAdd, fTold, ha, hb, hs]
      rw [e]
      go_enter Tryz.func46, Tryz.ntmps46
      go_wp2_with (first | (go_at_call 36; ((with_reducible refine (rfits_any _ _).mono ?_); rintro e w' ⟨rfl, rfl⟩)))
      go_ret2
      exact ⟨rfl, rfl⟩
  all_goals
    have e : fAdd a b = (0, 2) := by simp [fAdd, ha, hb]
    rw [e]
    go_enter Tryz.func46, Tryz.ntmps46
    go_wp2_with (first | (go_at_call 36; ((with_reducible refine (rfits_any _ _).mono ?_); rintro e w' ⟨rfl, rfl⟩)))
    go_ret2
    exact ⟨rfl, rfl⟩
theorem fits_neg (b : Int) : fitsB (-b) = fitsB b := by unfold fitsB; rw [decide_eq_decide]; omega
theorem rsub_any (a b : Int) (w : World) :
    Calls Tryz.prog 47 #[.int .i64 a, .int .i64 b] w fun e w' => e = .returned (.tuple #[.int .i64 (fSub a b).1, .int .i64 (fSub a b).2]) ∧ w = w' := by
  cases ha : fitsB a <;> cases hb : fitsB b
  case true.true =>
    have ha' := fitsB_t ha
    have hb' := fitsB_t hb
    have e : fAdd a (-b) = fSub a b := by simp [fAdd, fSub, fits_neg, ha, hb, Int.sub_eq_add_neg]
    have H := fun w => radd_any a (-b) w
    rw [e] at H
    have HH := Lib.hid H
    clear H e
    go_enter Tryz.func47, Tryz.ntmps47
    go_wp2_with (first | (go_at_call 36; ((with_reducible refine (rfits_any _ _).mono ?_); rintro e w' ⟨rfl, rfl⟩)) | (go_at_call 46; ((with_reducible refine (HH.out _).mono ?_); rintro e w' ⟨rfl, rfl⟩)))
    go_ret2
    exact ⟨rfl, rfl⟩
  all_goals
    have e : fSub a b = (0, 2) := by simp [fSub, ha, hb]
    rw [e]
    go_enter Tryz.func47, Tryz.ntmps47
    go_wp2_with (first | (go_at_call 36; ((with_reducible refine (rfits_any _ _).mono ?_); rintro e w' ⟨rfl, rfl⟩)))
    go_ret2
    exact ⟨rfl, rfl⟩
theorem tmod_as (a b : Int) : a - a.tdiv b * b = a.tmod b := by
  have := Int.tmod_add_mul_tdiv a b
  rw [Int.mul_comm] at this; omega
theorem rest_wrap (a b : Int) (ha : -1152921504606846976 ≤ a ∧ a ≤ 1152921504606846976) : wrap64 (a - wrap64 (wrap64 (a.tdiv b) * b)) = a.tmod b := by
  have h1 : (a.tdiv b).natAbs ≤ a.natAbs := by rw [Int.natAbs_tdiv]; exact Nat.div_le_self _ _
  have h2 : (a.tmod b).natAbs ≤ a.natAbs := by rw [Int.natAbs_tmod]; exact Nat.mod_le _ _
  have h3 := tmod_as a b
  rw [IntWalk.wrap64_in (a.tdiv b) (by omega), IntWalk.wrap64_in (a.tdiv b * b) (by omega), IntWalk.wrap64_in _ (by omega), h3]
theorem rmod_any (a b : Int) (w : World) :
    Calls Tryz.prog 50 #[.int .i64 a, .int .i64 b] w fun e w' => e = .returned (.tuple #[.int .i64 (fMod a b).1, .int .i64 (fMod a b).2]) ∧ w = w' := by
  cases ha : fitsB a <;> cases hb : fitsB b
  case true.true =>
    by_cases h0 : b = 0
    · subst h0
      have e : fMod a 0 = (0, 12) := by simp [fMod, ha, hb]
      rw [e]
      clear e
      go_enter Tryz.func50, Tryz.ntmps50
      go_wp2_with (first | (go_at_call 36; ((with_reducible refine (rfits_any _ _).mono ?_); rintro e w' ⟨rfl, rfl⟩)))
      go_ret2
      exact ⟨rfl, rfl⟩
    · have e : fMod a b = (a.tmod b, 0) := by simp [fMod, ha, hb, h0]
      rw [e]
      have e0 : (b == 0) = false := by simp [h0]
      clear e
      go_enter Tryz.func50, Tryz.ntmps50
      go_wp2_with (first | (go_at_call 36; ((with_reducible refine (rfits_any _ _).mono ?_); rintro e w' ⟨rfl, rfl⟩)))
      go_ret2
      exact ⟨ret_two (rest_wrap a b (fitsB_t ha)) rfl, rfl⟩
  all_goals
    have e : fMod a b = (0, 2) := by simp [fMod, ha, hb]
    rw [e]
    go_enter Tryz.func50, Tryz.ntmps50
    go_wp2_with (first | (go_at_call 36; ((with_reducible refine (rfits_any _ _).mono ?_); rintro e w' ⟨rfl, rfl⟩)))
    go_ret2
    exact ⟨rfl, rfl⟩
def fSigned (V b : Int) (m : Bool) : Int × Int := if V / b ≤ 1152921504606846976 then (sgn m (V / b), 0) else (0, 11)
theorem signed_any (D : List Int) (B cap : Nat) (b : Int) (m : Bool) (w : World) (hD : Row w B D) (hl : D.length = 9) (hd : ∀ j, 0 ≤ D.getD j 0 ∧ D.getD j 0 < 1048576) (hb : 1 ≤ b ∧ b ≤ 1152921504606846976) :
    Calls Tryz.prog 86 #[.slice (some ⟨B, 0, none⟩) 9 cap, .int .i64 b, .bool m] w fun e w' => e = .returned (.tuple #[.int .i64 (fSigned (val D) b m).1, .int .i64 (fSigned (val D) b m).2]) ∧ w = w' := by
  have H := Lib.hid (by_any D B cap b w hD hl hd hb)
  have h0 : 0 ≤ val D / b := Int.ediv_nonneg (val_nonneg D (fun j => (hd j).1)) (by omega)
  by_cases hle : val D / b ≤ 1152921504606846976
  · have e : fSigned (val D) b m = (sgn m (val D / b), 0) := by simp [fSigned, hle]
    rw [e]
    clear e
    obtain ⟨V, hV⟩ : ∃ V, val D / b = V := ⟨_, rfl⟩
    rw [hV] at h0 hle ⊢
    have dle : decide (V ≤ 1152921504606846976) = true := by simpa using hle
    have H' : Calls Tryz.prog 124 #[.slice (some ⟨B, 0, none⟩) 9 cap, .int .i64 b] w fun e w' => e = .returned (.tuple #[.int .i64 V, .bool true]) ∧ w = w' :=
      H.out.mono fun e w' ⟨q, ok, h1, h2, h3, h4⟩ => by
        rw [hV] at h2 h3; rw [dle] at h3; subst h3; rw [h1, h2 rfl]; exact ⟨rfl, h4⟩
    have HH := Lib.hid H'
    clear H H' hD hl hd hb dle hV
    cases m
    all_goals
      go_enter Tryz.func86, Tryz.ntmps86
      go_wp2_with (first | (go_at_call 124; ((with_reducible refine (HH.out).mono ?_); rintro e w' ⟨rfl, rfl⟩)))
      go_ret2
      exact ⟨rfl, rfl⟩
  · have e : fSigned (val D) b m = (0, 11) := by simp [fSigned, hle]
    rw [e]
    clear e
    obtain ⟨V, hV⟩ : ∃ V, val D / b = V := ⟨_, rfl⟩
    rw [hV] at h0 hle
    have dle : decide (V ≤ 1152921504606846976) = false := by simpa using hle
    have H' : Calls Tryz.prog 124 #[.slice (some ⟨B, 0, none⟩) 9 cap, .int .i64 b] w fun e w' => ∃ q, e = .returned (.tuple #[.int .i64 q, .bool false]) ∧ w = w' :=
      H.out.mono fun e w' ⟨q, ok, h1, h2, h3, h4⟩ => by
        rw [hV, dle] at h3; subst h3; exact ⟨q, h1, h4⟩
    have HH := Lib.hid H'
    clear H H' hD hl hd hb dle hV
    go_enter Tryz.func86, Tryz.ntmps86
    go_wp2_with (first | (go_at_call 124; refine HH.out.mono ?_; rintro e w' ⟨q, rfl, rfl⟩))
    go_ret2
    exact ⟨rfl, rfl⟩
theorem qinv_bd {a b : Int} {D : List Int} (h : QInv (a * b) D 8) (ha : 0 ≤ a ∧ a ≤ 1152921504606846976) (hb : 0 ≤ b ∧ b ≤ 1152921504606846976) : ∀ j, 0 ≤ D.getD j 0 ∧ D.getD j 0 < 1048576 := by
  have hle : val D ≤ 1152921504606846976 * 1152921504606846976 := by rw [h.eq]; exact Int.mul_le_mul ha.2 hb.2 hb.1 (by omega)
  intro j
  refine ⟨h.lo j, ?_⟩
  rcases Nat.lt_trichotomy j 8 with hj | hj | hj
  · exact h.done j hj
  · subst hj
    match D, h.len, h.lo, hle with
    | [d0, d1, d2, d3, d4, d5, d6, d7, d8], _, hlo, hle =>
      have h0 := hlo 0; have h1 := hlo 1; have h2 := hlo 2; have h3 := hlo 3; have h4 := hlo 4; have h5 := hlo 5; have h6 := hlo 6; have h7 := hlo 7; have h8 := hlo 8
      simp [val] at *
      omega
  · rw [List.getD_eq_getElem?_getD, List.getElem?_eq_none (by rw [h.len]; omega)]; simp
theorem natAbs_quot (a b c : Int) (_hc : c ≠ 0) : ((a.natAbs : Int) * (b.natAbs : Int)) / (c.natAbs : Int) = ((a.natAbs * b.natAbs / c.natAbs : Nat) : Int) := by
  rw [← Int.natCast_mul, ← Int.natCast_ediv]
theorem signed_scaled (a b c : Int) (m : Bool) (hc : c ≠ 0) (hm : m = signB a b c) : fSigned ((a.natAbs : Int) * (b.natAbs : Int)) (c.natAbs : Int) m = fScaled a b c := by
  unfold fSigned fScaled
  rw [natAbs_quot a b c hc, hm]
  by_cases h : a.natAbs * b.natAbs / c.natAbs ≤ 1152921504606846976
  · rw [if_pos h, if_pos (by omega)]
  · rw [if_neg h, if_neg (by omega)]
theorem prod_signed (a b c : Int) (m : Bool) (w : World) (ha : -1152921504606846976 ≤ a ∧ a ≤ 1152921504606846976) (hb : -1152921504606846976 ≤ b ∧ b ≤ 1152921504606846976) :
    Calls Tryz.prog 87 #[.int .i64 (a.natAbs : Int), .int .i64 (b.natAbs : Int)] w fun e w' => ∃ B cap, e = .returned (.slice (some ⟨B, 0, none⟩) 9 cap) ∧ Below w.heap.size w w' ∧
      (∀ w2, Below w'.heap.size w' w2 → ∀ c : Int, 1 ≤ c ∧ c ≤ 1152921504606846976 → Calls Tryz.prog 86 #[.slice (some ⟨B, 0, none⟩) 9 cap, .int .i64 c, .bool m] w2
        fun e w3 => e = .returned (.tuple #[.int .i64 (fSigned ((a.natAbs : Int) * (b.natAbs : Int)) c m).1, .int .i64 (fSigned ((a.natAbs : Int) * (b.natAbs : Int)) c m).2]) ∧ w2 = w3) := by
  refine (product_any (a.natAbs : Int) (b.natAbs : Int) w (by omega) (by omega)).mono ?_
  rintro e w' ⟨B, cap, D, rfl, hB, hR, hQ, hW⟩
  refine ⟨B, cap, rfl, hW, fun w2 h2 c hc => ?_⟩
  have := signed_any D B cap c m w2 (hR.keep h2 hR.lt) hQ.len (qinv_bd hQ (by omega) (by omega)) hc
  rw [hQ.eq] at this
  exact this
set_option maxHeartbeats 400000 in
theorem rmul_core (a b : Int) (w : World) (ha : fitsB a = true) (hb : fitsB b = true) (m : Bool) (dm : (!(decide (a < 0) == decide (b < 0))) = m) (res : Int × Int) (hres : fSigned ((a.natAbs : Int) * (b.natAbs : Int)) 1000000 m = res) :
    Calls Tryz.prog 48 #[.int .i64 a, .int .i64 b] w fun e w' => e = .returned (.tuple #[.int .i64 res.1, .int .i64 res.2]) ∧ Below w.heap.size w w' := by
  have ha' := fitsB_t ha
  have hb' := fitsB_t hb
  have HP := Lib.hid (fun w => prod_signed a b 1000000 m w ha' hb')
  have HA := Lib.hid (fun w => rsize_any a w ha')
  have HB := Lib.hid (fun w => rsize_any b w hb')
  have Hres := Lib.hid hres
  clear hres ha' hb'
  cases da : decide (a < 0) <;> cases db : decide (b < 0) <;> rw [da, db] at dm <;> cases m
  all_goals first | (exact absurd dm (by decide)) | skip
  all_goals
    clear dm
    go_enter Tryz.func48, Tryz.ntmps48
    go_wp2_with (first | (go_at_call 36; ((with_reducible refine (rfits_any _ _).mono ?_); rintro e w' ⟨rfl, rfl⟩)) | (go_at_call_of 88 (Value.int IntKind.i64 a); refine (HA.out _).mono ?_; rintro e w' ⟨rfl, rfl⟩) | (go_at_call_of 88 (Value.int IntKind.i64 b); refine (HB.out _).mono ?_; rintro e w' ⟨rfl, rfl⟩))
    refine (HP.out _).mono ?_
    rintro e w' ⟨B, cap, rfl, hW, hS⟩
    have HS := Lib.hid hS
    have HW := Lib.hid hW
    clear hS hW
    go_wp2_with fail


    refine (HS.out w' (Below.refl _ _) 1000000 (by omega)).mono ?_

    rw [Hres.out]
    rintro e w' ⟨rfl, rfl⟩

    go_wp2_with fail
    go_ret2
    exact ⟨rfl, HW.out⟩
theorem rmul_any (a b : Int) (w : World) :
    Calls Tryz.prog 48 #[.int .i64 a, .int .i64 b] w fun e w' => e = .returned (.tuple #[.int .i64 (fMul a b).1, .int .i64 (fMul a b).2]) ∧ Below w.heap.size w w' := by
  cases ha : fitsB a <;> cases hb : fitsB b
  case true.true =>
    refine rmul_core a b w ha hb _ rfl _ ?_
    have := signed_scaled a b 1000000 (!(decide (a < 0) == decide (b < 0))) (by omega) (by simp [signB]; cases decide (a < 0) <;> cases decide (b < 0) <;> rfl)
    simp [fMul, ha, hb]
    simpa using this
  all_goals
    have e : fMul a b = (0, 2) := by simp [fMul, ha, hb]
    rw [e]
    go_enter Tryz.func48, Tryz.ntmps48
    go_wp2_with (first | (go_at_call 36; ((with_reducible refine (rfits_any _ _).mono ?_); rintro e w' ⟨rfl, rfl⟩)))
    go_ret2
    exact ⟨rfl, Below.refl _ _⟩
set_option maxHeartbeats 400000 in
theorem rdiv_core (a b : Int) (w : World) (ha : fitsB a = true) (hb : fitsB b = true) (m : Bool) (dm : (!(decide (a < 0) == decide (b < 0))) = m) (res : Int × Int) (h0 : (b == 0) = false) (hb0 : 1 ≤ b.natAbs) (hres : fSigned ((a.natAbs : Int) * ((1000000 : Int).natAbs : Int)) (b.natAbs : Int) m = res) :
    Calls Tryz.prog 49 #[.int .i64 a, .int .i64 b] w fun e w' => e = .returned (.tuple #[.int .i64 res.1, .int .i64 res.2]) ∧ Below w.heap.size w w' := by
  have ha' := fitsB_t ha
  have hb' := fitsB_t hb
  have HP := Lib.hid (fun w => prod_signed a 1000000 b m w ha' (by omega))
  have HA := Lib.hid (fun w => rsize_any a w ha')
  have HB := Lib.hid (fun w => rsize_any b w hb')
  have Hres := Lib.hid hres
  have bb : 1 ≤ (b.natAbs : Int) ∧ (b.natAbs : Int) ≤ 1152921504606846976 := by omega
  have HBB := Lib.hid bb
  have em : ((1000000 : Int).natAbs : Int) = 1000000 := rfl
  rw [em] at HP Hres
  clear hres ha' hb' bb hb0 em
  cases da : decide (a < 0) <;> cases db : decide (b < 0) <;> rw [da, db] at dm <;> cases m
  all_goals first | (exact absurd dm (by decide)) | skip
  all_goals
    clear dm
    go_enter Tryz.func49, Tryz.ntmps49
    go_wp2_with (first | (go_at_call 36; ((with_reducible refine (rfits_any _ _).mono ?_); rintro e w' ⟨rfl, rfl⟩)) | (go_at_call_of 88 (Value.int IntKind.i64 a); refine (HA.out _).mono ?_; rintro e w' ⟨rfl, rfl⟩) | (go_at_call_of 88 (Value.int IntKind.i64 b); refine (HB.out _).mono ?_; rintro e w' ⟨rfl, rfl⟩))
    refine (HP.out _).mono ?_
    rintro e w' ⟨B, cap, rfl, hW, hS⟩
    have HS := Lib.hid hS
    have HW := Lib.hid hW
    clear hS hW
    go_wp2_with (go_at_call 88; refine (HB.out _).mono ?_; rintro e w' ⟨rfl, rfl⟩)
    refine (HS.out _ (Below.refl _ _) (b.natAbs : Int) HBB.out).mono ?_

    rw [Hres.out]
    rintro e w' ⟨rfl, rfl⟩

    go_wp2_with fail
    go_ret2
    exact ⟨rfl, HW.out⟩
set_option maxHeartbeats 400000 in
theorem rscale_core (a b : Int) (w : World) (ha : fitsB a = true) (hb : fitsB b = true) (m : Bool) (dm : (!(decide (a < 0) == decide (b < 0))) = m) (res : Int × Int) (c : Int) (hc : 1 ≤ c ∧ c ≤ 1152921504606846976) (hres : fSigned ((a.natAbs : Int) * (b.natAbs : Int)) c m = res) :
    Calls Tryz.prog 143 #[.int .i64 a, .int .i64 b, .int .i64 c] w fun e w' => e = .returned (.tuple #[.int .i64 res.1, .int .i64 res.2]) ∧ Below w.heap.size w w' := by
  have ha' := fitsB_t ha
  have hb' := fitsB_t hb
  have HP := Lib.hid (fun w => prod_signed a b c m w ha' hb')
  have HA := Lib.hid (fun w => rsize_any a w ha')
  have HB := Lib.hid (fun w => rsize_any b w hb')
  have Hres := Lib.hid hres
  have e1 : decide (c < 1) = false := by simp; omega
  have e2 : decide (1152921504606846976 < c) = false := by simp; omega
  have HC := Lib.hid hc
  clear hc
  clear hres ha' hb'
  cases da : decide (a < 0) <;> cases db : decide (b < 0) <;> rw [da, db] at dm <;> cases m
  all_goals first | (exact absurd dm (by decide)) | skip
  all_goals
    clear dm
    go_enter Tryz.func143, Tryz.ntmps143
    go_wp2_with (first | (go_at_call 36; ((with_reducible refine (rfits_any _ _).mono ?_); rintro e w' ⟨rfl, rfl⟩)) | (go_at_call_of 88 (Value.int IntKind.i64 a); refine (HA.out _).mono ?_; rintro e w' ⟨rfl, rfl⟩) | (go_at_call_of 88 (Value.int IntKind.i64 b); refine (HB.out _).mono ?_; rintro e w' ⟨rfl, rfl⟩))
    refine (HP.out _).mono ?_
    rintro e w' ⟨B, cap, rfl, hW, hS⟩
    have HS := Lib.hid hS
    have HW := Lib.hid hW
    clear hS hW
    go_wp2_with fail


    refine (HS.out w' (Below.refl _ _) c HC.out).mono ?_

    rw [Hres.out]
    rintro e w' ⟨rfl, rfl⟩

    go_wp2_with fail
    go_ret2
    exact ⟨rfl, HW.out⟩
theorem rdiv_any (a b : Int) (w : World) :
    Calls Tryz.prog 49 #[.int .i64 a, .int .i64 b] w fun e w' => e = .returned (.tuple #[.int .i64 (fDiv a b).1, .int .i64 (fDiv a b).2]) ∧ Below w.heap.size w w' := by
  cases ha : fitsB a <;> cases hb : fitsB b
  case true.true =>
    by_cases h0 : b = 0
    · subst h0
      have e : fDiv a 0 = (0, 12) := by simp [fDiv, ha, hb]
      rw [e]
      clear e
      go_enter Tryz.func49, Tryz.ntmps49
      go_wp2_with (first | (go_at_call 36; ((with_reducible refine (rfits_any _ _).mono ?_); rintro e w' ⟨rfl, rfl⟩)))
      go_ret2
      exact ⟨rfl, Below.refl _ _⟩
    · refine rdiv_core a b w ha hb _ rfl _ (by simp [h0]) (by omega) ?_
      have := signed_scaled a 1000000 b (!(decide (a < 0) == decide (b < 0))) h0 (by simp [signB]; cases decide (a < 0) <;> cases decide (b < 0) <;> rfl)
      rw [this]
      simp [fDiv, ha, hb, h0]
  all_goals
    have e : fDiv a b = (0, 2) := by simp [fDiv, ha, hb]
    rw [e]
    go_enter Tryz.func49, Tryz.ntmps49
    go_wp2_with (first | (go_at_call 36; ((with_reducible refine (rfits_any _ _).mono ?_); rintro e w' ⟨rfl, rfl⟩)))
    go_ret2
    exact ⟨rfl, Below.refl _ _⟩
theorem rscale_any (a b c : Int) (w : World) :
    Calls Tryz.prog 143 #[.int .i64 a, .int .i64 b, .int .i64 c] w fun e w' => e = .returned (.tuple #[.int .i64 (fScale a b c).1, .int .i64 (fScale a b c).2]) ∧ Below w.heap.size w w' := by
  cases ha : fitsB a <;> cases hb : fitsB b
  case true.true =>
    by_cases c1 : c < 1
    · have e : fScale a b c = (0, 2) := by simp [fScale, ha, hb]; omega
      rw [e]
      have e1 : decide (c < 1) = true := by simpa using c1
      clear e c1
      go_enter Tryz.func143, Tryz.ntmps143
      go_wp2_with (first | (go_at_call 36; ((with_reducible refine (rfits_any _ _).mono ?_); rintro e w' ⟨rfl, rfl⟩)))
      go_ret2
      exact ⟨rfl, Below.refl _ _⟩
    · by_cases c2 : 1152921504606846976 < c
      · have e : fScale a b c = (0, 2) := by simp [fScale, ha, hb]; omega
        rw [e]
        have e1 : decide (c < 1) = false := by simp; omega
        have e2 : decide (1152921504606846976 < c) = true := by simpa using c2
        clear e c1 c2
        go_enter Tryz.func143, Tryz.ntmps143
        go_wp2_with (first | (go_at_call 36; ((with_reducible refine (rfits_any _ _).mono ?_); rintro e w' ⟨rfl, rfl⟩)))
        go_ret2
        exact ⟨rfl, Below.refl _ _⟩
      · refine rscale_core a b w ha hb _ rfl _ c (by omega) ?_
        have := signed_scaled a b c (!(decide (a < 0) == decide (b < 0))) (by omega) (by have : ¬ c < 0 := by omega
                                                                                         simp [signB, this]; cases decide (a < 0) <;> cases decide (b < 0) <;> rfl)
        rw [show (c.natAbs : Int) = c by omega] at this
        rw [this]
        simp [fScale, ha, hb]; omega
  all_goals
    have e : fScale a b c = (0, 2) := by simp [fScale, ha, hb]
    rw [e]
    go_enter Tryz.func143, Tryz.ntmps143
    go_wp2_with (first | (go_at_call 36; ((with_reducible refine (rfits_any _ _).mono ?_); rintro e w' ⟨rfl, rfl⟩)))
    go_ret2
    exact ⟨rfl, Below.refl _ _⟩
end Go.Proofs.YtmblgaehfjheeaaGreat
