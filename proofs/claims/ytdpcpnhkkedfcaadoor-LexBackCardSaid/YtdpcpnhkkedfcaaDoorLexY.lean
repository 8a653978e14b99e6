/- Layer 15, the plain law: what Dur takes has a shape; what PrintDur prints, Dur reads. -/
import Derived.Test.YtdpcpnhkkedfcaaDoorProg
import Derived.WalkKit
import Derived.ProofKit
import Derived.OpenShut
import Derived.Outline
import Derived.WalkSpells
import Derived.WalkLawsBesides
import Derived.Deep.QuietTactic
import Derived.BigQuiet
import Derived.Lib.Hide
import Derived.Deep.DeepFit
import Derived.Deep.DeepMust

import Derived.Test.YtdpcpnhkkedfcaaDoorLexX
import Derived.Test.YtdpcpnhkkedfcaaDoorLexP
namespace Go.Proofs.YtdpcpnhkkedfcaaDoor
open Go.ChangeShapes Go.WideShapes Go.ChangeAt Go.RowKit
set_option linter.unusedVariables false
set_option maxRecDepth 100000
def dl (c : UInt8) : Bool := isDig c.toNat || isLet c.toNat
theorem pre_cons_pos {p : Nat → Bool} {c : UInt8} {r : List UInt8} (h : pre p (c :: r) ≠ 0) : p c.toNat = true := by
  unfold pre at h
  cases hp : p c.toNat
  · rw [hp] at h
    simp at h
  · rfl
theorem dl_take (l : List UInt8) (k m : Nat) (hk : pre isDig l = k) (hm : pre isLet (l.drop k) = m) (h : ∀ c ∈ l.drop (k + m), dl c = true) : ∀ c ∈ l, dl c = true := by
  intro c hc
  rw [← List.take_append_drop k l] at hc
  rcases List.mem_append.1 hc with hc | hc
  · rw [← hk] at hc
    have := take_pre isDig l c hc
    simp [dl, this]
  · rw [← List.take_append_drop m (l.drop k)] at hc
    rcases List.mem_append.1 hc with hc | hc
    · rw [← hm] at hc
      have := take_pre isLet _ c hc
      simp [dl, this]
    · rw [List.drop_drop] at hc
      exact h c hc
theorem durL_dl : ∀ (f : Nat) (l : List UInt8) (st : Int) (sum : Nat) (over : Bool) (r : Nat × Bool), durL f l st sum over = some r → ∀ c ∈ l, dl c = true
  | _, [], _, _, _, _, _ => fun c hc => by cases hc
  | 0, _ :: _, _, _, _, _, h => by unfold durL at h; cases h
  | f + 1, x :: q, st, sum, over, r, h => by
    unfold durL at h
    simp only at h
    split at h
    · cases h
    · apply dl_take (x :: q) _ _ rfl rfl
      split at h
      · exact durL_dl f _ _ _ _ r h
      · exact durL_dl f _ _ _ _ r h
theorem durL_head {f : Nat} {c : UInt8} {q : List UInt8} {st : Int} {sum : Nat} {over : Bool} {r : Nat × Bool} (hst : 0 ≤ st) (h : durL f (c :: q) st sum over = some r) : isDig c.toNat = true ∧ pre isDig (c :: q) < (c :: q).length := by
  cases f with
  | zero => unfold durL at h; cases h
  | succ f =>
    unfold durL at h
    simp only at h
    split at h
    · cases h
    · rename_i hn
      have h1 : pre isDig (c :: q) ≠ 0 := fun e => hn (.inl e)
      refine ⟨pre_cons_pos h1, ?_⟩
      rcases Nat.lt_or_ge (pre isDig (c :: q)) (c :: q).length with hlt | hge
      · exact hlt
      · exfalso
        apply hn
        right; right
        have hd : (c :: q).drop (pre isDig (c :: q)) = [] := List.drop_eq_nil_of_le hge
        rw [hd]
        have : uix (List.take (pre isLet []) []) 6 = -1 := by decide
        rw [this]
        omega
theorem durM_shape {l : List UInt8} {v : Int} (h : durM l = (v, 0)) : ∃ c q, l = c :: q ∧ isDig c.toNat = true ∧ pre isDig l < l.length ∧ ∀ x ∈ l, dl x = true := by
  unfold durM at h
  split at h
  · rename_i hl
    subst hl
    exact ⟨48, [115], rfl, by decide, by decide, by decide⟩
  · split at h
    · cases h
    · rename_i hne
      cases l with
      | nil => exact absurd rfl hne
      | cons c q =>
        split at h
        · cases h
        · cases h
        · rename_i s hs
          have hh := durL_head (Int.le_refl 0) hs
          exact ⟨c, q, rfl, hh.1, hh.2, durL_dl _ _ _ _ _ _ hs⟩
theorem pre_all {p : Nat → Bool} : ∀ {l : List UInt8}, (∀ x ∈ l, p x.toNat = true) → pre p l = l.length
  | [], _ => rfl
  | c :: l, h => by
    unfold pre
    rw [if_pos (h c (List.mem_cons_self ..)), pre_all fun x hx => h x (List.mem_cons_of_mem _ hx)]
    rfl
theorem dl_num {c : UInt8} (h : dl c = true) : isNum c.toNat = true := by
  unfold dl at h
  unfold isNum
  rw [h]
  rfl
theorem dl_dot {c : UInt8} (h : dl c = true) : c ≠ 46 := by
  rintro rfl
  revert h
  decide
theorem index_none : ∀ {l : List UInt8}, (∀ x ∈ l, x ≠ 46) → Lib.indexByte l 46 = -1
  | [], _ => rfl
  | b :: l, h => by
    unfold Lib.indexByte
    rw [index_none fun x hx => h x (List.mem_cons_of_mem _ hx)]
    have := h b (List.mem_cons_self ..)
    have hb : (b == (46 : UInt8)) = false := by simpa using this
    rw [hb]
    rfl
/-- What is asked of a text that is one duration. -/
structure Shape (l : List UInt8) : Prop where
  num : pre isNum l = l.length
  dot : Lib.indexByte l 46 = -1
  dig : pre isDig l < l.length
  head : ∃ c q, l = c :: q ∧ isDig c.toNat = true
theorem durM_shaped {l : List UInt8} {v : Int} (h : durM l = (v, 0)) : Shape l := by
  obtain ⟨c, q, hl, h1, h2, h3⟩ := durM_shape h
  exact ⟨pre_all fun x hx => dl_num (h3 x hx), index_none fun x hx => dl_dot (h3 x hx), h2, c, q, hl, h1⟩
end Go.Proofs.YtdpcpnhkkedfcaaDoor
