/- Plain laws of the numbers of layer 3. -/
import Derived.Test.YthbdgnmgdpbdjaaDoorProg
import Derived.WalkKit
import Derived.ProofKit
import Derived.OpenShut
import Derived.Outline
import Derived.WalkSpells
import Derived.WalkLawsBesides
import Derived.Deep.QuietTactic
import Derived.BigQuiet
import Derived.Lib.Hide
import Derived.Deep.DeepFit
import Derived.Deep.DeepMust

import Derived.Test.YthbdgnmgdpbdjaaDoorFixT
namespace Go.Proofs.YthbdgnmgdpbdjaaDoor
open Go.ChangeShapes Go.WideShapes Go.ChangeAt Go.RowKit
set_option linter.unusedVariables false
theorem fAdd_comm (a b : Int) : fAdd a b = fAdd b a := by simp only [fAdd, Int.add_comm, Bool.and_comm]
theorem fAdd_back {a b : Int} (ha : fitsB a = true) (hb : fitsB b = true) (h : (fAdd a b).2 = 0) : fSub (fAdd a b).1 b = (a, 0) := by
  cases hs : fitsB (a + b)
  · simp [fAdd, fTold, ha, hb, hs] at h
  · have e : a + b - b = a := by omega
    simp [fAdd, fSub, fTold, ha, hb, hs, e]
theorem fScaled_comm (a b c : Int) : fScaled a b c = fScaled b a c := by
  unfold fScaled signB; rw [Nat.mul_comm a.natAbs, Bool.xor_comm (decide (a < 0))]
theorem fMul_comm (a b : Int) : fMul a b = fMul b a := by
  unfold fMul; rw [fScaled_comm, Bool.and_comm]
theorem sgn_not (s : Bool) (n : Int) : sgn (!s) n = -sgn s n := by cases s <;> simp [sgn]
theorem sgn_zero (s : Bool) : sgn s 0 = 0 := by cases s <;> simp [sgn]
theorem fScaled_neg (a b c : Int) : fScaled (-a) b c = (-(fScaled a b c).1, (fScaled a b c).2) := by
  by_cases h0 : a = 0
  · subst h0
    simp [fScaled, sgn_zero]
  · have e : signB (-a) b c = !signB a b c := by
      have : decide (-a < 0) = !decide (a < 0) := by
        by_cases h : a < 0
        · have : ¬ -a < 0 := by omega
          simp [h]; omega
        · have : -a < 0 := by omega
          simp [h]; omega
      unfold signB
      rw [this]; cases decide (a < 0) <;> cases decide (b < 0) <;> cases decide (c < 0) <;> rfl
    unfold fScaled
    rw [Int.natAbs_neg, e]
    split
    · simp [sgn_not]
    · simp
theorem fMul_neg (a b : Int) : fMul (-a) b = (if fitsB a && fitsB b then -(fMul a b).1 else (fMul a b).1, (fMul a b).2) := by
  unfold fMul
  rw [fits_neg]
  split
  · rw [fScaled_neg]
  · rfl
theorem fDiv_neg {a b : Int} (ha : fitsB a = true) (hb : fitsB b = true) : fDiv (-a) b = (-(fDiv a b).1, (fDiv a b).2) := by
  unfold fDiv
  rw [fits_neg, ha, hb]
  simp only [Bool.and_self, if_true]
  split
  · simp
  · rw [fScaled_neg]
theorem fMod_neg {a b : Int} (ha : fitsB a = true) (hb : fitsB b = true) : fMod (-a) b = (-(fMod a b).1, (fMod a b).2) := by
  unfold fMod
  rw [fits_neg, ha, hb]
  simp only [Bool.and_self, if_true]
  split
  · simp
  · rw [Int.neg_tmod]
theorem sgn_natAbs (s : Bool) (n : Nat) : (sgn s (n : Int)).natAbs = n := by cases s <;> simp [sgn]
theorem fScaled_bd (a b c : Int) : -1152921504606846976 ≤ (fScaled a b c).1 ∧ (fScaled a b c).1 ≤ 1152921504606846976 := by
  unfold fScaled
  split
  · rename_i h
    generalize a.natAbs * b.natAbs / c.natAbs = q at *
    cases signB a b c <;> simp [sgn] <;> omega
  · simp
theorem fMul_bd (a b : Int) : -1152921504606846976 ≤ (fMul a b).1 ∧ (fMul a b).1 ≤ 1152921504606846976 := by
  unfold fMul; split
  · exact fScaled_bd _ _ _
  · simp
theorem fDiv_bd (a b : Int) : -1152921504606846976 ≤ (fDiv a b).1 ∧ (fDiv a b).1 ≤ 1152921504606846976 := by
  unfold fDiv; split
  · split
    · simp
    · exact fScaled_bd _ _ _
  · simp
theorem fMod_bd {a b : Int} (ha : fitsB a = true) : -1152921504606846976 ≤ (fMod a b).1 ∧ (fMod a b).1 ≤ 1152921504606846976 := by
  have := fitsB_t ha
  have h2 : (a.tmod b).natAbs ≤ a.natAbs := by rw [Int.natAbs_tmod]; exact Nat.mod_le _ _
  unfold fMod; split
  · split
    · simp
    · simp; omega
  · simp
theorem tmod_facts (a b : Int) (h0 : b ≠ 0) : (a.tmod b).natAbs < b.natAbs ∧ (a.tmod b < 0 → a < 0) ∧ (0 < a.tmod b → 0 < a) ∧ (a - a.tmod b).tmod b = 0 := by
  refine ⟨?_, ?_, ?_, ?_⟩
  · rw [Int.natAbs_tmod]; exact Nat.mod_lt _ (by omega)
  · intro h
    rcases Int.lt_or_le a 0 with h' | h'
    · exact h'
    · have := Int.tmod_nonneg b h'; omega
  · intro h
    rcases Int.lt_or_le 0 a with h' | h'
    · exact h'
    · have := Int.tmod_nonneg b (show 0 ≤ -a by omega)
      rw [Int.neg_tmod] at this; omega
  · have := Int.tmod_add_mul_tdiv a b
    have e : a - a.tmod b = b * a.tdiv b := by omega
    rw [e, Int.mul_tmod_right]
/-- What is divided and multiplied again. -/
theorem nat_back (A B u : Nat) (hu : 0 < u) (hB : 0 < B) : A * u / B * B / u ≤ A ∧ A - A * u / B * B / u ≤ B / u + 1 := by
  have e1 := Nat.div_add_mod (A * u) B
  have e2 := Nat.mod_lt (A * u) hB
  generalize A * u / B = q at *
  generalize A * u % B = r at *
  have e1' : q * B + r = A * u := by rw [Nat.mul_comm q]; exact e1
  have f1 := Nat.div_add_mod (q * B) u
  have f2 := Nat.mod_lt (q * B) hu
  generalize hN : q * B = N at *
  generalize N / u = p at *
  generalize N % u = s at *
  have g1 := Nat.div_add_mod B u
  have g2 := Nat.mod_lt B hu
  generalize B / u = k at *
  generalize B % u = t at *
  have hle : u * p ≤ u * A := by rw [Nat.mul_comm u A]; omega
  have hpA : p ≤ A := Nat.le_of_mul_le_mul_left hle hu
  refine ⟨hpA, ?_⟩
  have h3 : u * (A - p) < u * (k + 2) := by
    rw [Nat.mul_sub, Nat.mul_add, Nat.mul_comm u A]
    omega
  have := Nat.lt_of_mul_lt_mul_left h3
  omega
theorem back_facts {a b : Int} (ha : fitsB a = true) (hb : fitsB b = true) (h0 : b ≠ 0) (he : (fDiv a b).2 = 0) :
    (fMul (fDiv a b).1 b).2 = 0 ∧ (fMul (fDiv a b).1 b).1.natAbs ≤ a.natAbs ∧ (a - (fMul (fDiv a b).1 b).1).natAbs ≤ b.natAbs / 1000000 + 1 := by
  have hab := fitsB_t ha
  have hbb := fitsB_t hb
  have hdiv : fDiv a b = fScaled a 1000000 b := by simp [fDiv, ha, hb, h0]
  rw [hdiv] at he ⊢
  have hnb := nat_back a.natAbs b.natAbs 1000000 (by omega) (by omega)
  have hu : (1000000 : Int).natAbs = 1000000 := rfl
  obtain ⟨Q, hQ⟩ : ∃ Q, a.natAbs * 1000000 / b.natAbs = Q := ⟨_, rfl⟩
  rw [hQ] at hnb
  by_cases hle : Q ≤ 1152921504606846976
  · have hs : fScaled a 1000000 b = (sgn (signB a 1000000 b) (Q : Int), 0) := by unfold fScaled; rw [hu, hQ, if_pos hle]
    rw [hs]
    simp only []
    have hqa : (sgn (signB a 1000000 b) (Q : Int)).natAbs = Q := sgn_natAbs _ _
    have hqf : fitsB (sgn (signB a 1000000 b) (Q : Int)) = true := by unfold fitsB; simp; omega
    obtain ⟨P, hP⟩ : ∃ P, Q * b.natAbs / 1000000 = P := ⟨_, rfl⟩
    rw [hP] at hnb
    have hm : fMul (sgn (signB a 1000000 b) (Q : Int)) b = (sgn (signB (sgn (signB a 1000000 b) (Q : Int)) b 1000000) (P : Int), 0) := by
      unfold fMul
      rw [hqf, hb]
      simp only [Bool.and_self, if_true]
      unfold fScaled
      rw [hqa, hu, hP, if_pos (by omega)]
    rw [hm]
    simp only []
    refine ⟨trivial, by rw [sgn_natAbs]; exact hnb.1, ?_⟩
    have hsign : P ≠ 0 → sgn (signB (sgn (signB a 1000000 b) (Q : Int)) b 1000000) (P : Int) = sgn (decide (a < 0)) (P : Int) := by
      intro hP0
      have hQ0 : Q ≠ 0 := by
        intro hq; subst hq; simp at hP; omega
      have e : signB (sgn (signB a 1000000 b) (Q : Int)) b 1000000 = decide (a < 0) := by
        have hneg : decide (sgn (signB a 1000000 b) (Q : Int) < 0) = signB a 1000000 b := by
          cases signB a 1000000 b <;> simp [sgn] <;> omega
        unfold signB at hneg ⊢
        rw [hneg]
        simp
      rw [e]
    by_cases hP0 : P = 0
    · subst hP0
      have z : sgn (signB (sgn (signB a 1000000 b) (Q : Int)) b 1000000) ((0 : Nat) : Int) = 0 := sgn_zero _
      rw [z]; simp; omega
    · rw [hsign hP0]
      by_cases hn : a < 0
      · simp only [hn, decide_true, sgn, if_true]; omega
      · simp only [hn, decide_false, sgn, Bool.false_eq_true, if_false]; omega
  · exfalso
    have hs : fScaled a 1000000 b = (0, 11) := by unfold fScaled; rw [hu, hQ, if_neg hle]
    rw [hs] at he; simp at he
theorem div_over {a b : Int} (ha : fitsB a = true) (hb : fitsB b = true) (h0 : b ≠ 0) (he : (fDiv a b).2 ≠ 0) : fDiv a b = (0, 11) := by
  have hdiv : fDiv a b = fScaled a 1000000 b := by simp [fDiv, ha, hb, h0]
  rw [hdiv] at he ⊢
  unfold fScaled at he ⊢
  split at he
  · simp at he
  · rename_i h; rw [if_neg h]
end Go.Proofs.YthbdgnmgdpbdjaaDoor
