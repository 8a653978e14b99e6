/- Walks over the evaluator, part 4: small things. -/
import Derived.Test.YtndhhgbpcmfeiaaGreatDoorGAwC
namespace Go.Proofs.YtndhhgbpcmfeiaaGreatDoor.Ev
open Go.RowKit
set_option linter.unusedVariables false
set_option linter.unusedSimpArgs false
noncomputable section
variable {tb : Tab} {n : Nat} {E : Env} {s : St} {hs : HSt} {R : T AV → AHeap → Prop} {ops rest : List Oper} {d : Nat} {ty : TypeId} {pos : String} {aft : Array Edge} {t : TypeId} {k : IntKind}
theorem oc {v : AV} {c : Value} (h : ofVal c = some v) : oL s (.const c) = some v := h
end
end Go.Proofs.YtndhhgbpcmfeiaaGreatDoor.Ev

/- Walks over the evaluator, part 5: lists that are a function's own, and grow. -/
namespace Go.Proofs.YtndhhgbpcmfeiaaGreatDoor.Ev
open Go.RowKit
set_option linter.unusedVariables false
set_option linter.unusedSimpArgs false
set_option maxRecDepth 100000
noncomputable section
variable {tb : Tab} {n : Nat} {E : Env} {s : St} {hs : HSt} {R : T AV → AHeap → Prop} {ops rest : List Oper} {d : Nat} {ty : TypeId} {pos : String} {aft : Array Edge} {t : TypeId} {k : IntKind}
/-- A list that is a function's own: nil, or all of a block. -/
def Own (sz : Nat) (cells : List AV) (len : Nat) (v : AV) (hp : HSt) : Prop :=
  (len = 0 ∧ cells = [] ∧ v = .nils ∧ hp = []) ∨ (∃ b ex, v = .slice b 0 len sz ∧ hp = [⟨b, ⟨sz, ex, cells⟩, true⟩] ∧ cells.length = len * sz ∧ 0 < len)
theorem Own.nil (sz : Nat) : Own sz [] 0 .nils [] := .inl ⟨rfl, rfl, rfl, rfl⟩
theorem Own.length {sz : Nat} {cells : List AV} {len : Nat} {v : AV} {hp : HSt} (h : Own sz cells len v hp) : cells.length = len * sz := by
  rcases h with ⟨rfl, rfl, _, _⟩ | ⟨b, _, _, _, h, _⟩
  · simp
  · exact h
theorem Own.w {sz : Nat} {cells : List AV} {len : Nat} {v : AV} {hp : HSt} (h : Own sz cells len v hp) : ∀ e ∈ hp, e.w = true := by
  rcases h with ⟨_, _, _, rfl⟩ | ⟨b, _, _, rfl, _, _⟩
  · intro e he; simp at he
  · intro e he; simp at he; subst he; rfl
theorem Own.len {sz : Nat} {cells : List AV} {len e : Nat} {v : AV} {hp : HSt} (h : Own sz cells len v hp) : lenA (.slice e) v = some len := by
  rcases h with ⟨rfl, _, rfl, _⟩ | ⟨b, _, rfl, _, _, _⟩ <;> rfl
theorem Own.full {sz : Nat} {cells : List AV} {len : Nat} {v : AV} {hp : HSt} (h : Own sz cells len v hp) (hl : 0 < len) : ∃ b ex, v = .slice b 0 len sz ∧ hp = [⟨b, ⟨sz, ex, cells⟩, true⟩] := by
  rcases h with ⟨h, _, _, _⟩ | ⟨b, ex, h1, h2, _, _⟩
  · omega
  · exact ⟨b, ex, h1, h2⟩
theorem sub_all {l : List AV} {m : Nat} (h : l.length = m) : sub? l 0 m = some l := by
  unfold sub?
  have : Nat.ble (0 + m) l.length = true := by simp [h]
  simp only [this]
  simp [← h]
def u8c (l : List Nat) : List AV := l.map fun c => .int .u8 ((c : Nat) : Int)
end
end Go.Proofs.YtndhhgbpcmfeiaaGreatDoor.Ev
