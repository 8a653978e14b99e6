/- Walks of package fixed, third part: Mul, Div, Mod, Scale. -/
import Derived.Test.YthbdgnmgdpbdjaaDoorProg
import Derived.WalkKit
import Derived.ProofKit
import Derived.OpenShut
import Derived.Outline
import Derived.WalkSpells
import Derived.WalkLawsBesides
import Derived.Deep.QuietTactic
import Derived.BigQuiet
import Derived.Lib.Hide
import Derived.Deep.DeepFit
import Derived.Deep.DeepMust

import Derived.Test.YthbdgnmgdpbdjaaDoorFixB
namespace Go.Proofs.YthbdgnmgdpbdjaaDoor
open Go.ChangeShapes Go.WideShapes Go.ChangeAt Go.RowKit
set_option linter.unusedVariables false
set_option maxRecDepth 100000
theorem scaled_any (a b c : Int) (w : World) (ha : -1152921504606846976 ≤ a ∧ a ≤ 1152921504606846976) (hb : -1152921504606846976 ≤ b ∧ b ≤ 1152921504606846976) (hc : -1152921504606846976 ≤ c ∧ c ≤ 1152921504606846976) (hc0 : c ≠ 0) :
    Calls Tryd.prog 29 #[.int .i64 a, .int .i64 b, .int .i64 c] w fun e w' => e = .returned (.tuple #[.int .i64 (fScaled a b c).1, .int .i64 (fScaled a b c).2]) ∧ Below w.heap.size w w' := by
  obtain ⟨A, hA⟩ : ∃ A, A = a.natAbs := ⟨_, rfl⟩
  obtain ⟨B, hB⟩ : ∃ B, B = b.natAbs := ⟨_, rfl⟩
  obtain ⟨C, hC⟩ : ∃ C, C = c.natAbs := ⟨_, rfl⟩
  have bA : A < 18446744073709551616 := by omega
  have bB : B < 18446744073709551616 := by omega
  have bC : C < 18446744073709551616 := by omega
  have bC0 : 0 < C := by omega
  obtain ⟨P, hP⟩ : ∃ P, P = A * B := ⟨_, rfl⟩
  obtain ⟨hi, hhi⟩ : ∃ hi, hi = P / 18446744073709551616 := ⟨_, rfl⟩
  obtain ⟨lo, hlo⟩ : ∃ lo, lo = P % 18446744073709551616 := ⟨_, rfl⟩
  have hlo' : lo < 18446744073709551616 := by omega
  have hPe : P = hi * 18446744073709551616 + lo := by omega
  have hf : fScaled a b c = if P / C ≤ 1152921504606846976 then (sgn (signB a b c) ((P / C : Nat) : Int), 0) else (0, 11) := by
    rw [hP, hA, hB, hC]; rfl
  by_cases h1 : C ≤ hi
  · have hbig : ¬ P / C ≤ 1152921504606846976 := by
      have h2 : 18446744073709551616 ≤ P / C := by
        rw [Nat.le_div_iff_mul_le bC0]
        have := Nat.mul_le_mul_left 18446744073709551616 h1
        omega
      omega
    rw [hf, if_neg hbig]
    exact scaled_core a b c A B C hi lo w ha hb hc hA.symm hB.symm hC.symm (by rw [← hP]; exact hPe) hlo' bA bB bC (by simp [h1])
  · have hq : (hi * 18446744073709551616 + lo) / C = P / C := by rw [← hPe]
    by_cases h2 : P / C ≤ 1152921504606846976
    · rw [hf, if_pos h2]
      exact scaled_core3 a b c A B C hi lo w ha hb hc hA.symm hB.symm hC.symm (by rw [← hP]; exact hPe) hlo' bA bB bC (by simp; omega) (by omega) (P / C) hq (by simp; omega) (by omega)
    · rw [hf, if_neg h2]
      exact scaled_core2 a b c A B C hi lo w ha hb hc hA.symm hB.symm hC.symm (by rw [← hP]; exact hPe) hlo' bA bB bC (by simp; omega) (by omega) (P / C) hq (by simp; omega)
def fMul (a b : Int) : Int × Int := if fitsB a && fitsB b then fScaled a b 1000000 else (0, 2)
def fDiv (a b : Int) : Int × Int := if fitsB a && fitsB b then if b = 0 then (0, 12) else fScaled a 1000000 b else (0, 2)
def fMod (a b : Int) : Int × Int := if fitsB a && fitsB b then if b = 0 then (0, 12) else (a.tmod b, 0) else (0, 2)
def fScale (a b c : Int) : Int × Int := if fitsB a && fitsB b && decide (1 ≤ c ∧ c ≤ 1152921504606846976) then fScaled a b c else (0, 2)
theorem mul_any (a b : Int) (w : World) :
    Calls Tryd.prog 19 #[.int .i64 a, .int .i64 b] w fun e w' => e = .returned (.tuple #[.int .i64 (fMul a b).1, .int .i64 (fMul a b).2]) ∧ Below w.heap.size w w' := by
  cases ha : fitsB a <;> cases hb : fitsB b
  case true.true =>
    have H := fun w => scaled_any a b 1000000 w (fitsB_t ha) (fitsB_t hb) (by omega) (by omega)
    have e : fScaled a b 1000000 = fMul a b := by simp [fMul, ha, hb]
    rw [e] at H
    have HH := Lib.hid H
    clear H e
    go_enter Tryd.func19, Tryd.ntmps19
    go_wp2_with (first | (go_at_call 17; ((with_reducible refine (fits_any _ _).mono ?_); rintro e w' ⟨rfl, rfl⟩)) | (go_at_call 29; refine (HH.out _).mono ?_; rintro e w' ⟨rfl, hB⟩))
    go_ret2
    exact ⟨rfl, hB⟩
  all_goals
    have e : fMul a b = (0, 2) := by simp [fMul, ha, hb]
    rw [e]
    go_enter Tryd.func19, Tryd.ntmps19
    go_wp2_with (first | (go_at_call 17; ((with_reducible refine (fits_any _ _).mono ?_); rintro e w' ⟨rfl, rfl⟩)))
    go_ret2
    exact ⟨rfl, Below.refl _ _⟩
theorem div_fix (a b : Int) (w : World) :
    Calls Tryd.prog 21 #[.int .i64 a, .int .i64 b] w fun e w' => e = .returned (.tuple #[.int .i64 (fDiv a b).1, .int .i64 (fDiv a b).2]) ∧ Below w.heap.size w w' := by
  cases ha : fitsB a <;> cases hb : fitsB b
  case true.true =>
    by_cases h0 : b = 0
    · subst h0
      have e : fDiv a 0 = (0, 12) := by simp [fDiv, ha, hb]
      rw [e]
      clear e
      go_enter Tryd.func21, Tryd.ntmps21
      go_wp2_with (first | (go_at_call 17; ((with_reducible refine (fits_any _ _).mono ?_); rintro e w' ⟨rfl, rfl⟩)))
      go_ret2
      exact ⟨rfl, Below.refl _ _⟩
    · have H := fun w => scaled_any a 1000000 b w (fitsB_t ha) (by omega) (fitsB_t hb) h0
      have e : fScaled a 1000000 b = fDiv a b := by simp [fDiv, ha, hb, h0]
      rw [e] at H
      have HH := Lib.hid H
      have e0 : (b == 0) = false := by simp [h0]
      clear H e h0
      go_enter Tryd.func21, Tryd.ntmps21
      go_wp2_with (first | (go_at_call 17; ((with_reducible refine (fits_any _ _).mono ?_); rintro e w' ⟨rfl, rfl⟩)) | (go_at_call 29; refine (HH.out _).mono ?_; rintro e w' ⟨rfl, hB⟩))
      go_ret2
      exact ⟨rfl, hB⟩
  all_goals
    have e : fDiv a b = (0, 2) := by simp [fDiv, ha, hb]
    rw [e]
    go_enter Tryd.func21, Tryd.ntmps21
    go_wp2_with (first | (go_at_call 17; ((with_reducible refine (fits_any _ _).mono ?_); rintro e w' ⟨rfl, rfl⟩)))
    go_ret2
    exact ⟨rfl, Below.refl _ _⟩
theorem mod_any (a b : Int) (w : World) :
    Calls Tryd.prog 23 #[.int .i64 a, .int .i64 b] w fun e w' => e = .returned (.tuple #[.int .i64 (fMod a b).1, .int .i64 (fMod a b).2]) ∧ w = w' := by
  cases ha : fitsB a <;> cases hb : fitsB b
  case true.true =>
    by_cases h0 : b = 0
    · subst h0
      have e : fMod a 0 = (0, 12) := by simp [fMod, ha, hb]
      rw [e]
      clear e
      go_enter Tryd.func23, Tryd.ntmps23
      go_wp2_with (first | (go_at_call 17; ((with_reducible refine (fits_any _ _).mono ?_); rintro e w' ⟨rfl, rfl⟩)))
      go_ret2
      exact ⟨rfl, rfl⟩
    · have e : fMod a b = (a.tmod b, 0) := by simp [fMod, ha, hb, h0]
      rw [e]
      have e0 : (b == 0) = false := by simp [h0]
      clear e
      go_enter Tryd.func23, Tryd.ntmps23
      go_wp2_with (first | (go_at_call 17; ((with_reducible refine (fits_any _ _).mono ?_); rintro e w' ⟨rfl, rfl⟩)))
      go_ret2
      exact ⟨rfl, rfl⟩
  all_goals
    have e : fMod a b = (0, 2) := by simp [fMod, ha, hb]
    rw [e]
    go_enter Tryd.func23, Tryd.ntmps23
    go_wp2_with (first | (go_at_call 17; ((with_reducible refine (fits_any _ _).mono ?_); rintro e w' ⟨rfl, rfl⟩)))
    go_ret2
    exact ⟨rfl, rfl⟩
theorem scale_any (a b c : Int) (w : World) :
    Calls Tryd.prog 10 #[.int .i64 a, .int .i64 b, .int .i64 c] w fun e w' => e = .returned (.tuple #[.int .i64 (fScale a b c).1, .int .i64 (fScale a b c).2]) ∧ Below w.heap.size w w' := by
  cases ha : fitsB a <;> cases hb : fitsB b
  case true.true =>
    by_cases c1 : c < 1
    · have e : fScale a b c = (0, 2) := by simp [fScale, ha, hb]; omega
      rw [e]
      have e1 : decide (c < 1) = true := by simpa using c1
      clear e c1
      go_enter Tryd.func10, Tryd.ntmps10
      go_wp2_with (first | (go_at_call 17; ((with_reducible refine (fits_any _ _).mono ?_); rintro e w' ⟨rfl, rfl⟩)))
      go_ret2
      exact ⟨rfl, Below.refl _ _⟩
    · by_cases c2 : 1152921504606846976 < c
      · have e : fScale a b c = (0, 2) := by simp [fScale, ha, hb]; omega
        rw [e]
        have e1 : decide (c < 1) = false := by simp; omega
        have e2 : decide (1152921504606846976 < c) = true := by simpa using c2
        clear e c1 c2
        go_enter Tryd.func10, Tryd.ntmps10
        go_wp2_with (first | (go_at_call 17; ((with_reducible refine (fits_any _ _).mono ?_); rintro e w' ⟨rfl, rfl⟩)))
        go_ret2
        exact ⟨rfl, Below.refl _ _⟩
      · have H := fun w => scaled_any a b c w (fitsB_t ha) (fitsB_t hb) (by omega) (by omega)
        have e : fScaled a b c = fScale a b c := by simp [fScale, ha, hb]; omega
        rw [e] at H
        have HH := Lib.hid H
        have e1 : decide (c < 1) = false := by simp; omega
        have e2 : decide (1152921504606846976 < c) = false := by simp; omega
        clear H e c1 c2
        go_enter Tryd.func10, Tryd.ntmps10
        go_wp2_with (first | (go_at_call 17; ((with_reducible refine (fits_any _ _).mono ?_); rintro e w' ⟨rfl, rfl⟩)) | (go_at_call 29; refine (HH.out _).mono ?_; rintro e w' ⟨rfl, hB⟩))
        go_ret2
        exact ⟨rfl, hB⟩
  all_goals
    have e : fScale a b c = (0, 2) := by simp [fScale, ha, hb]
    rw [e]
    go_enter Tryd.func10, Tryd.ntmps10
    go_wp2_with (first | (go_at_call 17; ((with_reducible refine (fits_any _ _).mono ?_); rintro e w' ⟨rfl, rfl⟩)))
    go_ret2
    exact ⟨rfl, Below.refl _ _⟩
def fSumFrom (acc : Int) : List Int → Int × Int
  | [] => (acc, 0)
  | n :: r => if (fAdd acc n).2 = 0 then fSumFrom (fAdd acc n).1 r else (0, (fAdd acc n).2)
theorem drop_cons (zs : List Int) (k : Nat) (h : k < zs.length) : zs.drop k = zs.getD k 0 :: zs.drop (k + 1) := by
  rw [List.drop_eq_getElem_cons h]; simp [h]
theorem sum_any (zs : List Int) (b off cap : Nat) (w : World) (hm : (zs.length : Int) ≤ 9223372036854775807) (hz : ∀ i, i < zs.length → w.cell? ⟨b, off + i, none⟩ = some (.int .i64 (zs.getD i 0))) :
    Calls Tryd.prog 25 #[.slice (some ⟨b, off, none⟩) zs.length cap] w fun e w' => e = .returned (.tuple #[.int .i64 (fSumFrom 0 zs).1, .int .i64 (fSumFrom 0 zs).2]) ∧ w = w' := by
  obtain ⟨res, hres⟩ : ∃ r, fSumFrom 0 zs = r := ⟨_, rfl⟩
  rw [hres]
  have Hres := Lib.hid hres
  have Hz := Lib.hid hz
  obtain ⟨len, hlen⟩ : ∃ len, zs.length = len := ⟨_, rfl⟩
  have Hlen := Lib.hid hlen
  rw [hlen] at hm ⊢
  clear hres hz hlen
  go_enter Tryd.func25, Tryd.ntmps25
  go_wp2_with fail
  go_loop [4, 11] (fun x i => ∃ (k : Nat) (acc : Int), k ≤ len ∧ i = .int .i64 k ∧ x = .int .i64 acc ∧ Hid (fSumFrom acc (zs.drop k) = res)) (fun _ i => len - (intOf i).toNat)
  case atStart => exact ⟨0, 0, Nat.zero_le _, rfl, rfl, Hres⟩
  case round =>
    obtain ⟨k, acc, hk, rfl, rfl, hacc⟩ := hrel
    by_cases hlt : k < len
    · have hcell := Hz.out k (by rw [Hlen.out]; exact hlt)
      have hd := drop_cons zs k (by rw [Hlen.out]; exact hlt)
      have hacc' := hacc.out
      rw [hd] at hacc'
      simp only [fSumFrom] at hacc'
      generalize zs.getD k 0 = n at *
      obtain ⟨s, hs⟩ : ∃ s, fAdd acc n = s := ⟨_, rfl⟩
      have hA : ∀ w, Calls Tryd.prog 13 #[.int .i64 acc, .int .i64 n] w fun e w' => e = .returned (.tuple #[.int .i64 s.1, .int .i64 s.2]) ∧ w = w' := by rw [← hs]; exact add_any acc n
      rw [hs] at hacc'
      have HA := Lib.hid hA
      have Hacc' := Lib.hid hacc'
      clear hA hacc' hs hd hacc
      obtain ⟨s1, s2⟩ := s
      by_cases h2 : s2 = 0
      · subst h2
        go_wp2_with (first | (go_at_call 13; refine (HA.out _).mono ?_; rintro e w' ⟨rfl, rfl⟩))
        go_round
        case rel => exact ⟨k + 1, s1, by omega, by go_num, rfl, Lib.hid (by have := Hacc'.out; simpa using this)⟩
        case measure => simp [intOf]; omega
      · have e2 : (s2 != 0) = true := by simp [h2]
        have Hn := Lib.hid h2
        clear h2
        go_wp2_with (first | (go_at_call 13; refine (HA.out _).mono ?_; rintro e w' ⟨rfl, rfl⟩))
        go_ret2
        have := Hacc'.out
        rw [if_neg Hn.out] at this
        exact ⟨by rw [← this]; rfl, rfl⟩
    · have hke : k = len := by omega
      have h0 : zs.drop k = [] := by rw [List.drop_eq_nil_iff, Hlen.out]; omega
      have hacc' := hacc.out
      rw [h0] at hacc'
      have HH := Lib.hid hacc'
      clear h0 hacc' hke hacc
      go_wp2_with fail
      go_ret2
      exact ⟨by rw [← HH.out]; rfl, rfl⟩
theorem sum_nil (w : World) :
    Calls Tryd.prog 25 #[.slice none 0 0] w fun e w' => e = .returned (.tuple #[.int .i64 0, .int .i64 0]) ∧ w = w' := by
  go_enter Tryd.func25, Tryd.ntmps25
  go_wp2_with fail
  refine wp_loop_rounds 1 ?_
  rw [rounds_succ]
  go_wp2_with fail
  go_ret2
  exact ⟨rfl, rfl⟩
end Go.Proofs.YthbdgnmgdpbdjaaDoor
