/- Layer 15, plain: durations as lists of bytes. -/
import Derived.Lib.AtoiAll
import Derived.Lib.AtoiAllCases
import Derived.Test.YtdpcpnhkkedfcaaDoorLexA
namespace Go.Proofs.YtdpcpnhkkedfcaaDoor
open Go
def allDig (l : List UInt8) : Prop := ∀ c ∈ l, isDig c.toNat = true
theorem isDig_iff (c : Nat) : isDig c = true ↔ 48 ≤ c ∧ c ≤ 57 := by simp [isDig]
theorem parse_dec (l : List UInt8) : ∀ (acc : Nat), allDig l → acc < 18446744073709551616 →
    Lib.parseUint10 acc l = if decA acc l < 18446744073709551616 then .ok (decA acc l) else .range := by
  induction l with
  | nil =>
    intro acc _ ha
    unfold Lib.parseUint10 decA
    rw [if_pos ha]
  | cons c r ih =>
    intro acc hd ha
    have hc := (isDig_iff _).1 (hd c List.mem_cons_self)
    have hr : allDig r := fun x hx => hd x (List.mem_cons_of_mem _ hx)
    have hge := decA_ge r (acc * 10 + (c.toNat - 48))
    unfold Lib.parseUint10 decA
    rw [if_pos hc]
    split
    · rw [if_neg (by omega)]
    · split
      · rw [if_neg (by omega)]
      · exact ih _ hr (by omega)
theorem atoi_dec {l : List UInt8} (hd : allDig l) (hne : l ≠ []) : Lib.atoiAll l = if decA 0 l < 9223372036854775808 then .ok (decA 0 l : Int) else .range := by
  cases l with
  | nil => exact absurd rfl hne
  | cons c r =>
    have hc := (isDig_iff _).1 (hd c List.mem_cons_self)
    rw [Lib.atoiAll_plain c r (by omega) (by omega)]
    unfold Lib.parseMag
    rw [if_neg (by simp), parse_dec _ 0 hd (by omega)]
    split
    · rename_i h
      unfold Lib.signless
      simp only
      split
      · rw [if_neg (by omega)]
      · rw [if_pos (by omega)]
    · unfold Lib.signless
      simp only
      rw [if_neg (by omega)]
theorem take_pre (p : Nat → Bool) : ∀ l : List UInt8, ∀ c ∈ l.take (pre p l), p c.toNat = true
  | [], c, h => by simp [pre] at h
  | x :: l, c, h => by
    unfold pre at h
    cases hp : p x.toNat with
    | false => rw [hp] at h; simp at h
    | true =>
      rw [hp] at h
      simp only [if_true, List.take_succ_cons, List.mem_cons] at h
      rcases h with rfl | h
      · exact hp
      · exact take_pre p l c h
theorem uix_lt (name : List UInt8) : ∀ n, -1 ≤ uix name n ∧ uix name n < n
  | 0 => by unfold uix; omega
  | n + 1 => by
    have := uix_lt name n
    unfold uix
    split <;> omega
end Go.Proofs.YtdpcpnhkkedfcaaDoor
