/- Layer 15, plain: classes of bytes, durations. -/
import Init
namespace Go.Proofs.YtdpcpnhkkedfcaaDoor
def isDig (c : Nat) : Bool := decide (48 ≤ c) && decide (c ≤ 57)
def isLet (c : Nat) : Bool := (decide (97 ≤ c) && decide (c ≤ 122)) || (decide (65 ≤ c) && decide (c ≤ 90)) || decide (c = 95) || decide (c = 58)
/-- How many bytes a list begins with that are so. -/
def pre (p : Nat → Bool) : List UInt8 → Nat
  | [] => 0
  | c :: l => if p c.toNat then pre p l + 1 else 0
theorem pre_le (p : Nat → Bool) : ∀ l : List UInt8, pre p l ≤ l.length
  | [] => Nat.le_refl _
  | c :: l => by
    unfold pre
    have := pre_le p l
    split <;> simp <;> omega
def uNames : List (List UInt8) := [[119], [100], [104], [109], [115], [109, 115]]
def uSizes : List Nat := [604800000, 86400000, 3600000, 60000, 1000, 1]
/-- Which of the first n units bears a name: the last one; -1: none. -/
def uix (name : List UInt8) : Nat → Int
  | 0 => -1
  | n + 1 => if uNames.getD n [] == name then (n : Int) else uix name n
/-- What digits spell, behind a number. -/
def decA (acc : Nat) : List UInt8 → Nat
  | [] => acc
  | c :: r => decA (acc * 10 + (c.toNat - 48)) r
theorem decA_ge : ∀ (l : List UInt8) (acc : Nat), acc ≤ decA acc l
  | [], acc => Nat.le_refl _
  | c :: r, acc => by
    have := decA_ge r (acc * 10 + (c.toNat - 48))
    unfold decA
    omega
/-- A duration's parts from a unit on: the sum so far, and whether it is too great; none: it is no duration. -/
def durL : Nat → List UInt8 → Int → Nat → Bool → Option (Nat × Bool)
  | _, [], _, sum, over => some (sum, over)
  | 0, _ :: _, _, _, _ => none
  | f + 1, c :: r, start, sum, over =>
    let l := c :: r
    let k := pre isDig l
    let m := pre isLet (l.drop k)
    let a := uix ((l.drop k).take m) 6
    if k = 0 ∨ c.toNat = 48 ∨ a < start then none
    else
      let n := decA 0 (l.take k)
      let z := uSizes.getD a.toNat 1
      if n > 2147483648 / z ∨ sum + n * z > 2147483648 then durL f (l.drop (k + m)) (a + 1) sum true
      else durL f (l.drop (k + m)) (a + 1) (sum + n * z) over
/-- What Dur tells: a length and an error. -/
def durM (l : List UInt8) : Int × Int :=
  if l = [48, 115] then (0, 0)
  else if l = [] then (0, 14)
  else match durL l.length l 0 0 false with
    | none => (0, 14)
    | some (_, true) => (0, 11)
    | some (s, false) => ((s : Int), 0)
end Go.Proofs.YtdpcpnhkkedfcaaDoor
