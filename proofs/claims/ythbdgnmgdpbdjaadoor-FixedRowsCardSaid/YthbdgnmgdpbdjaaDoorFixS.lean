/- Walks of package gaugeref03: division by hand. -/
import Derived.Test.YthbdgnmgdpbdjaaDoorProg
import Derived.WalkKit
import Derived.ProofKit
import Derived.OpenShut
import Derived.Outline
import Derived.WalkSpells
import Derived.WalkLawsBesides
import Derived.Deep.QuietTactic
import Derived.BigQuiet
import Derived.Lib.Hide
import Derived.Deep.DeepFit
import Derived.Deep.DeepMust

import Derived.Test.YthbdgnmgdpbdjaaDoorFixR
namespace Go.Proofs.YthbdgnmgdpbdjaaDoor
open Go.ChangeShapes Go.WideShapes Go.ChangeAt Go.RowKit
set_option linter.unusedVariables false
set_option maxRecDepth 100000
/-- What 'by' tells of a value V and a divisor b. -/
def ByPost (V b : Int) (w : World) (e : Ending) (w' : World) : Prop :=
  ∃ q : Int, ∃ ok : Bool, e = .returned (.tuple #[.int .i64 q, .bool ok]) ∧ (ok = true → q = V / b) ∧ ok = decide (V / b ≤ 1152921504606846976) ∧ w = w'
def pw (k : Nat) : Nat := 2 ^ k / 2
theorem pw_succ (k : Nat) : pw (k + 1) = 2 ^ k := by simp [pw, Nat.pow_succ]
theorem pw_zero : pw 0 = 0 := rfl
theorem val_nonneg : ∀ (D : List Int), (∀ j, 0 ≤ D.getD j 0) → 0 ≤ val D
  | [], _ => by simp [val]
  | d :: r, h => by
    have h0 := h 0
    have := val_nonneg r (fun j => by have := h (j + 1); simpa using this)
    simp [val] at *; omega
theorem val_drop (D : List Int) (j : Nat) (h : j < D.length) : val (D.drop j) = D.getD j 0 + 1048576 * val (D.drop (j + 1)) := by
  rw [drop_cons D j h]; rfl
theorem val_drop_le : ∀ (j : Nat) (D : List Int), (∀ j, 0 ≤ D.getD j 0) → val (D.drop j) ≤ val D
  | 0, D, _ => by simp
  | j + 1, [], _ => by simp
  | j + 1, d :: r, h => by
    have h0 := h 0
    have hr : ∀ j, 0 ≤ r.getD j 0 := fun j => by have := h (j + 1); simpa using this
    have h1 := val_drop_le j r hr
    have h2 := val_nonneg r hr
    simp [val] at *; omega
/-- The bits of one digit e, above what T stands for: the lowest k of them are still to come. -/
def part (T e : Int) (k : Nat) : Int := T * 2 ^ (20 - k) + e / 2 ^ k
theorem part_top (T e : Int) (h : 0 ≤ e) (h' : e < 1048576) : part T e 20 = T := by
  have : e / 2 ^ 20 = 0 := Int.ediv_eq_zero_of_lt h (by simpa using h')
  simp [part] at *; omega
theorem part_end (T e : Int) : part T e 0 = T * 1048576 + e := by simp [part]
theorem part_step (T e : Int) (k : Nat) (hk : k < 20) : part T e k = 2 * part T e (k + 1) + e / 2 ^ k % 2 := by
  have e1 : 20 - k = 20 - (k + 1) + 1 := by omega
  have e2 : e / 2 ^ (k + 1) = e / 2 ^ k / 2 := by rw [Int.pow_succ, ← Int.ediv_ediv_of_nonneg (Int.pow_nonneg (by omega))]
  unfold part
  rw [e1, Int.pow_succ, e2, ← Int.mul_assoc]
  generalize T * 2 ^ (20 - (k + 1)) = g
  generalize e / 2 ^ k = f
  omega
theorem part_le (T e : Int) (hT : 0 ≤ T) (he : 0 ≤ e) (k : Nat) (hk : k ≤ 20) : part T e k ≤ part T e 0 ∧ 0 ≤ part T e k := by
  have nn : ∀ k, 0 ≤ part T e k := fun k => Int.add_nonneg (Int.mul_nonneg hT (Int.pow_nonneg (by omega))) (Int.ediv_nonneg he (Int.pow_nonneg (by omega)))
  refine ⟨?_, nn k⟩
  induction k with
  | zero => exact Int.le_refl _
  | succ k ih =>
    have h1 := part_step T e k (by omega)
    have h2 := nn (k + 1)
    have h3 := ih (by omega)
    omega
theorem over_of {V V' W b q r : Int} (hb : 1 ≤ b) (hV : V = q * b + r) (hr : 0 ≤ r) (hle : V' ≤ W) (h2 : 2 * V ≤ V') (hq : 576460752303423488 < q) : ¬ W / b ≤ 1152921504606846976 := by
  have h3 : 1152921504606846977 * b ≤ W := by
    have h4 : 576460752303423489 * b ≤ q * b := Int.mul_le_mul_of_nonneg_right (by omega) (by omega)
    omega
  have := (Int.le_ediv_iff_mul_le (by omega : 0 < b)).2 h3
  omega
theorem quot_of {V b q r : Int} (hV : V = q * b + r) (hr : 0 ≤ r) (hr' : r < b) : V / b = q := by
  rw [hV, Int.add_comm, Int.add_mul_ediv_right _ _ (by omega), Int.ediv_eq_zero_of_lt hr hr']; omega
theorem by_any (D : List Int) (B cap : Nat) (b : Int) (w : World) (hD : Row w B D) (hl : D.length = 9) (hd : ∀ j, 0 ≤ D.getD j 0 ∧ D.getD j 0 < 1048576) (hb : 1 ≤ b ∧ b ≤ 1152921504606846976) :
    Calls Tryd.prog 43 #[.slice (some ⟨B, 0, none⟩) 9 cap, .int .i64 b] w (ByPost (val D) b w) := by
  have hb1 := hb.1
  have hb2 := hb.2
  have HD := Lib.hid hD
  have Hd := Lib.hid hd
  have Hl := Lib.hid hl
  have dge := fun j => (hd j).1
  have Hn := Lib.hid dge
  clear hb hD hd hl dge
  go_enter Tryd.func43, Tryd.ntmps43
  go_wp2_with fail
  go_loop [6, 7, 8] (fun x y z => ∃ (j : Nat) (q r : Int), j ≤ 9 ∧ x = .int .i64 q ∧ y = .int .i64 r ∧ z = .int .i64 ((j : Int) - 1) ∧ Hid (val (D.drop j) = q * b + r) ∧ 0 ≤ r ∧ r < b ∧ 0 ≤ q ∧ q ≤ 1152921504606846977) (fun _ _ z => (intOf z + 1).toNat)
  case atStart => exact ⟨9, 0, 0, by omega, rfl, rfl, rfl, Lib.hid (by rw [List.drop_of_length_le (by rw [Hl.out]; omega)]; simp [val]), by omega, by omega, by omega, by omega⟩
  case round =>
    obtain ⟨j, q, r, hj, rfl, rfl, rfl, hV, hr0, hr1, hq0, hq1⟩ := hrel
    rcases j with _ | j
    · have d0 : decide ((0 : Int) ≤ ((0 : Nat) : Int) - 1) = false := by simp
      have HV := Lib.hid hV.out
      clear hV
      go_wp2_with fail
      go_ret2
      have hV := HV.out
      rw [List.drop_zero] at hV
      have hq := quot_of hV hr0 hr1
      exact ⟨q, decide (q ≤ 1152921504606846976), rfl, fun _ => hq.symm, by rw [hq], rfl⟩
    · have d0 : decide ((0 : Int) ≤ (j : Int)) = true := by simp
      have e0 : ((j + 1 : Nat) : Int) - 1 = (j : Int) := by omega
      rw [e0]
      have hj9 : (j : Int) < 9 := by omega
      have c1 := HD.out.cell j (by rw [Hl.out]; omega)
      have he := Hd.out j
      have hvd := val_drop D j (by rw [Hl.out]; omega)
      have hT0 := val_nonneg (D.drop (j + 1)) (fun i => by have := Hn.out (j + 1 + i); rw [List.getD_eq_getElem?_getD] at this ⊢; rw [List.getElem?_drop]; exact this)
      have hle := val_drop_le j D Hn.out
      generalize D.getD j 0 = ee at *
      obtain ⟨T, hT⟩ : ∃ T, val (D.drop (j + 1)) = T := ⟨_, rfl⟩
      rw [hT] at hV hvd hT0
      have HT := Lib.hid (And.intro hvd (And.intro hT0 hle))
      have Hee := Lib.hid he
      have he0 := he.1
      have he1 := he.2
      clear e0 hvd hle hT he hT0
      go_wp2_with fail
      go_loop [6, 7, 9] (fun x y z => ∃ (k : Nat) (q r : Int), k ≤ 20 ∧ x = .int .i64 q ∧ y = .int .i64 r ∧ z = .int .i64 ((pw k : Nat) : Int) ∧ Hid (part T ee k = q * b + r) ∧ 0 ≤ r ∧ r < b ∧ 0 ≤ q ∧ q ≤ 1152921504606846977) (fun _ _ z => (intOf z).toNat)
      case atStart => exact ⟨20, q, r, by omega, rfl, rfl, rfl, Lib.hid (by rw [part_top _ _ he0 he1]; exact hV.out), hr0, hr1, hq0, hq1⟩
      case round =>
        clear hV hr0 hr1 hq0 hq1
        obtain ⟨k, q, r, hk, rfl, rfl, rfl, hV, hr0, hr1, hq0, hq1⟩ := hrel
        rcases k with _ | k
        · have dm : decide ((0 : Int) < ((pw 0 : Nat) : Int)) = false := by simp [pw]
          go_wp2_with fail
          go_round
          case rel => exact ⟨j, q, r, by omega, rfl, rfl, rfl, Lib.hid (by have := hV.out; rw [part_end] at this; have h2 := HT.out.1; omega), hr0, hr1, hq0, hq1⟩
          case measure => simp [intOf]
        · have hps := part_step T ee k (by omega)
          have hpl := (part_le T ee HT.out.2.1 he0 k (by omega)).1
          obtain ⟨f, hf⟩ : ∃ f, ee / 2 ^ k = f := ⟨_, rfl⟩
          have hf0 : 0 ≤ f := by rw [← hf]; exact Int.ediv_nonneg he0 (Int.pow_nonneg (by omega))
          rw [hf] at hps
          have hm1 : 1 ≤ pw (k + 1) := by rw [pw_succ]; exact Nat.two_pow_pos k
          have hm2 : ((pw (k + 1) : Nat) : Int) / 2 = ((pw k : Nat) : Int) := by rw [pw_succ]; simp [pw]
          have hm3 : ee / ((pw (k + 1) : Nat) : Int) = f := by rw [pw_succ]; simpa using hf
          have hm4 : pw k < pw (k + 1) := by rw [pw_succ]; unfold pw; have := Nat.two_pow_pos k; omega
          have hm5 : pw (k + 1) ≤ 524288 := by rw [pw_succ]; exact Nat.pow_le_pow_right (n := 2) (by omega) (show k ≤ 19 by omega)
          generalize pw (k + 1) = m at *
          obtain ⟨m', hm'⟩ : ∃ m', pw k = m' := ⟨_, rfl⟩
          rw [hm'] at hm2 hm4
          have HM' := Lib.hid hm'
          clear hm'
          have dm : decide ((0 : Int) < (m : Int)) = true := by simp; omega
          have hm1' : (1 : Int) ≤ (m : Int) := by omega
          have HS := Lib.hid (And.intro hps hpl)
          have HM := Lib.hid hm4
          clear hps hpl hf hm4
          by_cases c1 : b ≤ 2 * r + f % 2
          · by_cases c2 : 576460752303423488 < q
            · have e1 : decide (b ≤ 2 * r + f % 2) = true := by simp; omega
              have e2 : decide ((576460752303423488 : Int) < q) = true := by simp; omega
              have HC := Lib.hid (And.intro c1 c2)
              clear c1 c2
              go_wp2_with fail
              go_ret2
              have hno := over_of (W := val D) hb1 hV.out hr0 (Int.le_trans HS.out.2 (by have h2 := HT.out; have h3 := part_end T ee; omega)) (by have := HS.out.1; omega) HC.out.2
              exact ⟨0, false, rfl, (fun h => Bool.noConfusion h), by simp [hno], rfl⟩
            · have e1 : decide (b ≤ 2 * r + f % 2) = true := by simp; omega
              have e2 : decide ((576460752303423488 : Int) < q) = false := by simp; omega
              have HC := Lib.hid (And.intro c1 c2)
              clear c1 c2
              go_wp2_with fail
              go_round
              case rel => exact ⟨k, 2 * q + 1, 2 * r + f % 2 - b, by omega, rfl, rfl, by rw [HM'.out], Lib.hid (by have h1 := HS.out.1; have h2 := hV.out; have h3 : (2 * q + 1) * b = 2 * (q * b) + b := (by rw [Int.add_mul, Int.mul_assoc, Int.one_mul]); omega), (by have := HC.out; omega), (by have := HC.out; omega), (by omega), (by have := HC.out; omega)⟩
              case measure => simp [intOf]; have := HM.out; omega
          · by_cases c2 : 576460752303423488 < q
            · have e1 : decide (b ≤ 2 * r + f % 2) = false := by simp; omega
              have e2 : decide ((576460752303423488 : Int) < q) = true := by simp; omega
              have HC := Lib.hid (And.intro c1 c2)
              clear c1 c2
              go_wp2_with fail
              go_ret2
              have hno := over_of (W := val D) hb1 hV.out hr0 (Int.le_trans HS.out.2 (by have h2 := HT.out; have h3 := part_end T ee; omega)) (by have := HS.out.1; omega) HC.out.2
              exact ⟨0, false, rfl, (fun h => Bool.noConfusion h), by simp [hno], rfl⟩
            · have e1 : decide (b ≤ 2 * r + f % 2) = false := by simp; omega
              have e2 : decide ((576460752303423488 : Int) < q) = false := by simp; omega
              have HC := Lib.hid (And.intro c1 c2)
              clear c1 c2
              go_wp2_with fail
              go_round
              case rel => exact ⟨k, 2 * q, 2 * r + f % 2, by omega, rfl, rfl, by rw [HM'.out], Lib.hid (by have h1 := HS.out.1; have h2 := hV.out; have h3 : (2 * q) * b = 2 * (q * b) + 0 := (by rw [Int.mul_assoc]; omega); omega), (by have := HC.out; omega), (by have := HC.out; omega), (by omega), (by have := HC.out; omega)⟩
              case measure => simp [intOf]; have := HM.out; omega
end Go.Proofs.YthbdgnmgdpbdjaaDoor
