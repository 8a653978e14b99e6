/- Walks of package gaugeref03: the rest of the numbers. -/
import Derived.Test.YthbdgnmgdpbdjaaDoorProg
import Derived.WalkKit
import Derived.ProofKit
import Derived.OpenShut
import Derived.Outline
import Derived.WalkSpells
import Derived.WalkLawsBesides
import Derived.Deep.QuietTactic
import Derived.BigQuiet
import Derived.Lib.Hide
import Derived.Deep.DeepFit
import Derived.Deep.DeepMust

import Derived.Test.YthbdgnmgdpbdjaaDoorFixS
namespace Go.Proofs.YthbdgnmgdpbdjaaDoor
open Go.ChangeShapes Go.WideShapes Go.ChangeAt Go.RowKit
set_option linter.unusedVariables false
set_option maxRecDepth 100000
theorem rfits_any (n : Int) (w : World) :
    Calls Tryd.prog 18 #[.int .i64 n] w fun e w' => e = .returned (.bool (fitsB n)) ∧ w = w' := by
  go_enter Tryd.func18, Tryd.ntmps18
  go_wp2
  all_goals (go_ret; exact ⟨by simp [fitsB]; omega, rfl⟩)
theorem rsize_any (n : Int) (w : World) (h : -1152921504606846976 ≤ n ∧ n ≤ 1152921504606846976) :
    Calls Tryd.prog 32 #[.int .i64 n] w fun e w' => e = .returned (.int .i64 ((n.natAbs : Nat) : Int)) ∧ w = w' := by
  have h1 := h.1
  have h2 := h.2
  go_enter Tryd.func32, Tryd.ntmps32
  go_wp2
  all_goals (go_ret; exact ⟨ret_int (by omega), rfl⟩)
theorem radd_any (a b : Int) (w : World) :
    Calls Tryd.prog 14 #[.int .i64 a, .int .i64 b] w fun e w' => e = .returned (.tuple #[.int .i64 (fAdd a b).1, .int .i64 (fAdd a b).2]) ∧ w = w' := by
  cases ha : fitsB a <;> cases hb : fitsB b
  case true.true =>
    have ha' := fitsB_t ha
    have hb' := fitsB_t hb
    cases hs : fitsB (a + b)
    · have e : fAdd a b = (0, 11) := by simp [fAdd, fTold, ha, hb, hs]
      rw [e]
      go_enter Tryd.func14, Tryd.ntmps14
      go_wp2_with (first | (go_at_call 18; ((with_reducible refine (rfits_any _ _).mono ?_); rintro e w' ⟨rfl, rfl⟩)))
      go_ret2
      exact ⟨rfl, rfl⟩
    · have e : fAdd a b = (a + b, 0) := by simp [fAdd, fTold, ha, hb, hs]
      rw [e]
      go_enter Tryd.func14, Tryd.ntmps14
      go_wp2_with (first | (go_at_call 18; ((with_reducible refine (rfits_any _ _).mono ?_); rintro e w' ⟨rfl, rfl⟩)))
      go_ret2
      exact ⟨rfl, rfl⟩
  all_goals
    have e : fAdd a b = (0, 2) := by simp [fAdd, ha, hb]
    rw [e]
    go_enter Tryd.func14, Tryd.ntmps14
    go_wp2_with (first | (go_at_call 18; ((with_reducible refine (rfits_any _ _).mono ?_); rintro e w' ⟨rfl, rfl⟩)))
    go_ret2
    exact ⟨rfl, rfl⟩
theorem fits_neg (b : Int) : fitsB (-b) = fitsB b := by unfold fitsB; rw [decide_eq_decide]; omega
theorem rsub_any (a b : Int) (w : World) :
    Calls Tryd.prog 16 #[.int .i64 a, .int .i64 b] w fun e w' => e = .returned (.tuple #[.int .i64 (fSub a b).1, .int .i64 (fSub a b).2]) ∧ w = w' := by
  cases ha : fitsB a <;> cases hb : fitsB b
  case true.true =>
    have ha' := fitsB_t ha
    have hb' := fitsB_t hb
    have e : fAdd a (-b) = fSub a b := by simp [fAdd, fSub, fits_neg, ha, hb, Int.sub_eq_add_neg]
    have H := fun w => radd_any a (-b) w
    rw [e] at H
    have HH := Lib.hid H
    clear H e
    go_enter Tryd.func16, Tryd.ntmps16
    go_wp2_with (first | (go_at_call 18; ((with_reducible refine (rfits_any _ _).mono ?_); rintro e w' ⟨rfl, rfl⟩)) | (go_at_call 14; ((with_reducible refine (HH.out _).mono ?_); rintro e w' ⟨rfl, rfl⟩)))
    go_ret2
    exact ⟨rfl, rfl⟩
  all_goals
    have e : fSub a b = (0, 2) := by simp [fSub, ha, hb]
    rw [e]
    go_enter Tryd.func16, Tryd.ntmps16
    go_wp2_with (first | (go_at_call 18; ((with_reducible refine (rfits_any _ _).mono ?_); rintro e w' ⟨rfl, rfl⟩)))
    go_ret2
    exact ⟨rfl, rfl⟩
theorem tmod_as (a b : Int) : a - a.tdiv b * b = a.tmod b := by
  have := Int.tmod_add_mul_tdiv a b
  rw [Int.mul_comm] at this; omega
theorem rest_wrap (a b : Int) (ha : -1152921504606846976 ≤ a ∧ a ≤ 1152921504606846976) : wrap64 (a - wrap64 (wrap64 (a.tdiv b) * b)) = a.tmod b := by
  have h1 : (a.tdiv b).natAbs ≤ a.natAbs := by rw [Int.natAbs_tdiv]; exact Nat.div_le_self _ _
  have h2 : (a.tmod b).natAbs ≤ a.natAbs := by rw [Int.natAbs_tmod]; exact Nat.mod_le _ _
  have h3 := tmod_as a b
  rw [IntWalk.wrap64_in (a.tdiv b) (by omega), IntWalk.wrap64_in (a.tdiv b * b) (by omega), IntWalk.wrap64_in _ (by omega), h3]
theorem rmod_any (a b : Int) (w : World) :
    Calls Tryd.prog 24 #[.int .i64 a, .int .i64 b] w fun e w' => e = .returned (.tuple #[.int .i64 (fMod a b).1, .int .i64 (fMod a b).2]) ∧ w = w' := by
  cases ha : fitsB a <;> cases hb : fitsB b
  case true.true =>
    by_cases h0 : b = 0
    · subst h0
      have e : fMod a 0 = (0, 12) := by simp [fMod, ha, hb]
      rw [e]
      clear e
      go_enter Tryd.func24, Tryd.ntmps24
      go_wp2_with (first | (go_at_call 18; ((with_reducible refine (rfits_any _ _).mono ?_); rintro e w' ⟨rfl, rfl⟩)))
      go_ret2
      exact ⟨rfl, rfl⟩
    · have e : fMod a b = (a.tmod b, 0) := by simp [fMod, ha, hb, h0]
      rw [e]
      have e0 : (b == 0) = false := by simp [h0]
      clear e
      go_enter Tryd.func24, Tryd.ntmps24
      go_wp2_with (first | (go_at_call 18; ((with_reducible refine (rfits_any _ _).mono ?_); rintro e w' ⟨rfl, rfl⟩)))
      go_ret2
      exact ⟨ret_two (rest_wrap a b (fitsB_t ha)) rfl, rfl⟩
  all_goals
    have e : fMod a b = (0, 2) := by simp [fMod, ha, hb]
    rw [e]
    go_enter Tryd.func24, Tryd.ntmps24
    go_wp2_with (first | (go_at_call 18; ((with_reducible refine (rfits_any _ _).mono ?_); rintro e w' ⟨rfl, rfl⟩)))
    go_ret2
    exact ⟨rfl, rfl⟩
def fSigned (V b : Int) (m : Bool) : Int × Int := if V / b ≤ 1152921504606846976 then (sgn m (V / b), 0) else (0, 11)
theorem signed_any (D : List Int) (B cap : Nat) (b : Int) (m : Bool) (w : World) (hD : Row w B D) (hl : D.length = 9) (hd : ∀ j, 0 ≤ D.getD j 0 ∧ D.getD j 0 < 1048576) (hb : 1 ≤ b ∧ b ≤ 1152921504606846976) :
    Calls Tryd.prog 30 #[.slice (some ⟨B, 0, none⟩) 9 cap, .int .i64 b, .bool m] w fun e w' => e = .returned (.tuple #[.int .i64 (fSigned (val D) b m).1, .int .i64 (fSigned (val D) b m).2]) ∧ w = w' := by
  have H := Lib.hid (by_any D B cap b w hD hl hd hb)
  have h0 : 0 ≤ val D / b := Int.ediv_nonneg (val_nonneg D (fun j => (hd j).1)) (by omega)
  by_cases hle : val D / b ≤ 1152921504606846976
  · have e : fSigned (val D) b m = (sgn m (val D / b), 0) := by simp [fSigned, hle]
    rw [e]
    clear e
    obtain ⟨V, hV⟩ : ∃ V, val D / b = V := ⟨_, rfl⟩
    rw [hV] at h0 hle ⊢
    have dle : decide (V ≤ 1152921504606846976) = true := by simpa using hle
    have H' : Calls Tryd.prog 43 #[.slice (some ⟨B, 0, none⟩) 9 cap, .int .i64 b] w fun e w' => e = .returned (.tuple #[.int .i64 V, .bool true]) ∧ w = w' :=
      H.out.mono fun e w' ⟨q, ok, h1, h2, h3, h4⟩ => by
        rw [hV] at h2 h3; rw [dle] at h3; subst h3; rw [h1, h2 rfl]; exact ⟨rfl, h4⟩
    have HH := Lib.hid H'
    clear H H' hD hl hd hb dle hV
    cases m
    all_goals
      go_enter Tryd.func30, Tryd.ntmps30
      go_wp2_with (first | (go_at_call 43; ((with_reducible refine (HH.out).mono ?_); rintro e w' ⟨rfl, rfl⟩)))
      go_ret2
      exact ⟨rfl, rfl⟩
  · have e : fSigned (val D) b m = (0, 11) := by simp [fSigned, hle]
    rw [e]
    clear e
    obtain ⟨V, hV⟩ : ∃ V, val D / b = V := ⟨_, rfl⟩
    rw [hV] at h0 hle
    have dle : decide (V ≤ 1152921504606846976) = false := by simpa using hle
    have H' : Calls Tryd.prog 43 #[.slice (some ⟨B, 0, none⟩) 9 cap, .int .i64 b] w fun e w' => ∃ q, e = .returned (.tuple #[.int .i64 q, .bool false]) ∧ w = w' :=
      H.out.mono fun e w' ⟨q, ok, h1, h2, h3, h4⟩ => by
        rw [hV, dle] at h3; subst h3; exact ⟨q, h1, h4⟩
    have HH := Lib.hid H'
    clear H H' hD hl hd hb dle hV
    go_enter Tryd.func30, Tryd.ntmps30
    go_wp2_with (first | (go_at_call 43; refine HH.out.mono ?_; rintro e w' ⟨q, rfl, rfl⟩))
    go_ret2
    exact ⟨rfl, rfl⟩
theorem qinv_bd {a b : Int} {D : List Int} (h : QInv (a * b) D 8) (ha : 0 ≤ a ∧ a ≤ 1152921504606846976) (hb : 0 ≤ b ∧ b ≤ 1152921504606846976) : ∀ j, 0 ≤ D.getD j 0 ∧ D.getD j 0 < 1048576 := by
  have hle : val D ≤ 1152921504606846976 * 1152921504606846976 := by rw [h.eq]; exact Int.mul_le_mul ha.2 hb.2 hb.1 (by omega)
  intro j
  refine ⟨h.lo j, ?_⟩
  rcases Nat.lt_trichotomy j 8 with hj | hj | hj
  · exact h.done j hj
  · subst hj
    match D, h.len, h.lo, hle with
    | [d0, d1, d2, d3, d4, d5, d6, d7, d8], _, hlo, hle =>
      have h0 := hlo 0; have h1 := hlo 1; have h2 := hlo 2; have h3 := hlo 3; have h4 := hlo 4; have h5 := hlo 5; have h6 := hlo 6; have h7 := hlo 7; have h8 := hlo 8
      simp [val] at *
      omega
  · rw [List.getD_eq_getElem?_getD, List.getElem?_eq_none (by rw [h.len]; omega)]; simp
theorem natAbs_quot (a b c : Int) (_hc : c ≠ 0) : ((a.natAbs : Int) * (b.natAbs : Int)) / (c.natAbs : Int) = ((a.natAbs * b.natAbs / c.natAbs : Nat) : Int) := by
  rw [← Int.natCast_mul, ← Int.natCast_ediv]
theorem signed_scaled (a b c : Int) (m : Bool) (hc : c ≠ 0) (hm : m = signB a b c) : fSigned ((a.natAbs : Int) * (b.natAbs : Int)) (c.natAbs : Int) m = fScaled a b c := by
  unfold fSigned fScaled
  rw [natAbs_quot a b c hc, hm]
  by_cases h : a.natAbs * b.natAbs / c.natAbs ≤ 1152921504606846976
  · rw [if_pos h, if_pos (by omega)]
  · rw [if_neg h, if_neg (by omega)]
/-- The two inner calls, as one: the product of two sizes, by a third. -/
theorem prod_signed (a b c : Int) (m : Bool) (w : World) (ha : -1152921504606846976 ≤ a ∧ a ≤ 1152921504606846976) (hb : -1152921504606846976 ≤ b ∧ b ≤ 1152921504606846976) :
    Calls Tryd.prog 31 #[.int .i64 (a.natAbs : Int), .int .i64 (b.natAbs : Int)] w fun e w' => ∃ B cap, e = .returned (.slice (some ⟨B, 0, none⟩) 9 cap) ∧ Below w.heap.size w w' ∧
      (∀ w2, Below w'.heap.size w' w2 → ∀ c : Int, 1 ≤ c ∧ c ≤ 1152921504606846976 → Calls Tryd.prog 30 #[.slice (some ⟨B, 0, none⟩) 9 cap, .int .i64 c, .bool m] w2
        fun e w3 => e = .returned (.tuple #[.int .i64 (fSigned ((a.natAbs : Int) * (b.natAbs : Int)) c m).1, .int .i64 (fSigned ((a.natAbs : Int) * (b.natAbs : Int)) c m).2]) ∧ w2 = w3) := by
  refine (product_any (a.natAbs : Int) (b.natAbs : Int) w (by omega) (by omega)).mono ?_
  rintro e w' ⟨B, cap, D, rfl, hB, hR, hQ, hW⟩
  refine ⟨B, cap, rfl, hW, fun w2 h2 c hc => ?_⟩
  have := signed_any D B cap c m w2 (hR.keep h2 hR.lt) hQ.len (qinv_bd hQ (by omega) (by omega)) hc
  rw [hQ.eq] at this
  exact this
end Go.Proofs.YthbdgnmgdpbdjaaDoor
