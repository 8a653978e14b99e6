/- Layer 15, plain: durations as lists of bytes. -/
import Derived.Lib.AtoiAll
import Derived.Lib.AtoiAllCases
import Derived.Test.YtdpcpnhkkedfcaaDoorLexA
namespace Go.Proofs.YtdpcpnhkkedfcaaDoor
open Go
def uNames : List (List UInt8) := [[119], [100], [104], [109], [115], [109, 115]]
def uSizes : List Nat := [604800000, 86400000, 3600000, 60000, 1000, 1]
/-- Which of the first n units bears a name: the last one; -1: none. -/
def uix (name : List UInt8) : Nat → Int
  | 0 => -1
  | n + 1 => if uNames.getD n [] == name then (n : Int) else uix name n
/-- What digits spell, behind a number. -/
def decA (acc : Nat) : List UInt8 → Nat
  | [] => acc
  | c :: r => decA (acc * 10 + (c.toNat - 48)) r
theorem decA_ge : ∀ (l : List UInt8) (acc : Nat), acc ≤ decA acc l
  | [], acc => Nat.le_refl _
  | c :: r, acc => by
    have := decA_ge r (acc * 10 + (c.toNat - 48))
    unfold decA
    omega
def allDig (l : List UInt8) : Prop := ∀ c ∈ l, isDig c.toNat = true
theorem isDig_iff (c : Nat) : isDig c = true ↔ 48 ≤ c ∧ c ≤ 57 := by simp [isDig]
theorem parse_dec (l : List UInt8) : ∀ (acc : Nat), allDig l → acc < 18446744073709551616 →
    Lib.parseUint10 acc l = if decA acc l < 18446744073709551616 then .ok (decA acc l) else .range := by
  induction l with
  | nil =>
    intro acc _ ha
    unfold Lib.parseUint10 decA
    rw [if_pos ha]
  | cons c r ih =>
    intro acc hd ha
    have hc := (isDig_iff _).1 (hd c List.mem_cons_self)
    have hr : allDig r := fun x hx => hd x (List.mem_cons_of_mem _ hx)
    have hge := decA_ge r (acc * 10 + (c.toNat - 48))
    unfold Lib.parseUint10 decA
    rw [if_pos hc]
    split
    · rw [if_neg (by omega)]
    · split
      · rw [if_neg (by omega)]
      · exact ih _ hr (by omega)
theorem atoi_dec {l : List UInt8} (hd : allDig l) (hne : l ≠ []) : Lib.atoiAll l = if decA 0 l < 9223372036854775808 then .ok (decA 0 l : Int) else .range := by
  cases l with
  | nil => exact absurd rfl hne
  | cons c r =>
    have hc := (isDig_iff _).1 (hd c List.mem_cons_self)
    rw [Lib.atoiAll_plain c r (by omega) (by omega)]
    unfold Lib.parseMag
    rw [if_neg (by simp), parse_dec _ 0 hd (by omega)]
    split
    · rename_i h
      unfold Lib.signless
      simp only
      split
      · rw [if_neg (by omega)]
      · rw [if_pos (by omega)]
    · unfold Lib.signless
      simp only
      rw [if_neg (by omega)]
theorem take_pre (p : Nat → Bool) : ∀ l : List UInt8, ∀ c ∈ l.take (pre p l), p c.toNat = true
  | [], c, h => by simp [pre] at h
  | x :: l, c, h => by
    unfold pre at h
    cases hp : p x.toNat with
    | false => rw [hp] at h; simp at h
    | true =>
      rw [hp] at h
      simp only [if_true, List.take_succ_cons, List.mem_cons] at h
      rcases h with rfl | h
      · exact hp
      · exact take_pre p l c h
/-- A duration's parts from a unit on: the sum so far, and whether it is too great; none: it is no duration. -/
def durL : Nat → List UInt8 → Int → Nat → Bool → Option (Nat × Bool)
  | _, [], _, sum, over => some (sum, over)
  | 0, _ :: _, _, _, _ => none
  | f + 1, c :: r, start, sum, over =>
    let l := c :: r
    let k := pre isDig l
    let m := pre isLet (l.drop k)
    let a := uix ((l.drop k).take m) 6
    if k = 0 ∨ c.toNat = 48 ∨ a < start then none
    else
      let n := decA 0 (l.take k)
      let z := uSizes.getD a.toNat 1
      if n > 2147483648 / z ∨ sum + n * z > 2147483648 then durL f (l.drop (k + m)) (a + 1) sum true
      else durL f (l.drop (k + m)) (a + 1) (sum + n * z) over
/-- What Dur tells: a length and an error. -/
def durM (l : List UInt8) : Int × Int :=
  if l = [48, 115] then (0, 0)
  else if l = [] then (0, 14)
  else match durL l.length l 0 0 false with
    | none => (0, 14)
    | some (_, true) => (0, 11)
    | some (s, false) => ((s : Int), 0)
theorem uix_lt (name : List UInt8) : ∀ n, -1 ≤ uix name n ∧ uix name n < n
  | 0 => by unfold uix; omega
  | n + 1 => by
    have := uix_lt name n
    unfold uix
    split <;> omega
end Go.Proofs.YtdpcpnhkkedfcaaDoor
