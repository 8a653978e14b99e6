/- Chapter 7, by the document: what a pattern's depth wants. -/
import Derived.Test.YtnlnmbnopdklhaaAVd
namespace Go.Proofs.Ytnlnmbnopdklhaa.Ev
open Go.RowKit
set_option linter.unusedVariables false
set_option linter.unusedSimpArgs false
set_option maxRecDepth 100000
set_option maxHeartbeats 1000000
/-- May be walked over: every class that is met has an end. -/
inductive Dep : List Nat → Prop
  | nil : Dep []
  | esc {l : List Nat} : l ≠ [] → l.getD 0 0 = 92 → Dep (l.drop 2) → Dep l
  | cls {l : List Nat} {n : Nat} : l ≠ [] → l.getD 0 0 = 91 → classL (l.drop 1) = some n → Dep (l.drop (1 + n)) → Dep l
  | oth {l : List Nat} : l ≠ [] → l.getD 0 0 ≠ 92 → l.getD 0 0 ≠ 91 → Dep (l.drop 1) → Dep l
theorem Dep.nilE {l : List Nat} (h : l = []) : Dep l := by subst h; exact .nil
theorem Dep.one {l : List Nat} (h2 : l.getD 0 0 ≠ 92) (h3 : l.getD 0 0 ≠ 91) (h4 : Dep (l.drop 1)) : Dep l := by
  by_cases h : l = []
  · exact .nilE h
  · exact .oth h h2 h3 h4
theorem drop_ne {p : List Nat} {i : Nat} (h : i < p.length) : p.drop i ≠ [] := by
  intro e
  have := congrArg List.length e
  simp at this
  omega
end Go.Proofs.Ytnlnmbnopdklhaa.Ev

/- Chapter 7, by the document: what stands in an alternative. -/
namespace Go.Proofs.Ytnlnmbnopdklhaa.Ev
open Go.RowKit
set_option linter.unusedVariables false
set_option linter.unusedSimpArgs false
def isM (c : Nat) : Prop := c = 42 ∨ c = 43 ∨ c = 63
/-- Atoms, each with its mark. -/
inductive Alt (r : List Nat → Bool) : List Nat → Prop
  | nil : Alt r []
  | mark {l : List Nat} {n : Nat} : atomF r l = some n → n < l.length → isM (l.getD n 0) → Alt r (l.drop (n + 1)) → Alt r l
  | bare {l : List Nat} {n : Nat} : atomF r l = some n → ¬ (n < l.length ∧ isM (l.getD n 0)) → Alt r (l.drop n) → Alt r l
end Go.Proofs.Ytnlnmbnopdklhaa.Ev

/- Chapter 7, by the document: where the empty text ends. -/
namespace Go.Proofs.Ytnlnmbnopdklhaa.Ev
open Go.RowKit
set_option linter.unusedVariables false
set_option linter.unusedSimpArgs false
set_option maxRecDepth 100000
set_option maxHeartbeats 1000000
/-- No place, or the first one. -/
def ZV (hs : HSt) (v : AV) : Prop := v = .nils ∨ ∃ b ex, v = .slice b 0 1 1 ∧ MemH hs b ⟨1, ex, [.int .i64 ((0 : Nat) : Int)]⟩
def ZQ (v : AV) (D : HSt) : Prop := ZV D v ∧ ∀ e ∈ D, e.w = true
theorem ZV.ro {hs : HSt} {v : AV} (h : ZV hs v) : ZV (Ev.ro hs) v := h.imp id fun ⟨b, ex, h1, h2⟩ => ⟨b, ex, h1, h2.ro⟩
theorem ZV.appr {A hs : HSt} {v : AV} (h : ZV hs v) : ZV (A ++ hs) v := h.imp id fun ⟨b, ex, h1, w, h2⟩ => ⟨b, ex, h1, w, List.mem_append_right _ h2⟩
theorem ZV.appl {A hs : HSt} {v : AV} (h : ZV hs v) : ZV (hs ++ A) v := h.imp id fun ⟨b, ex, h1, w, h2⟩ => ⟨b, ex, h1, w, List.mem_append_left _ h2⟩
def zn : AV → Nat
  | .slice _ _ n _ => n
  | _ => 0
end Go.Proofs.Ytnlnmbnopdklhaa.Ev

/- Chapter 7, by the document: where the empty text ends in an alternative. -/
namespace Go.Proofs.Ytnlnmbnopdklhaa.Ev
open Go.RowKit
set_option linter.unusedVariables false
set_option linter.unusedSimpArgs false
set_option maxRecDepth 100000
set_option maxHeartbeats 1000000
theorem Alt.at_ {r : List Nat → Bool} {p : List Nat} {i : Nat} (h : Alt r (p.drop i)) (hi : i < p.length) : ∃ n, atomF r (p.drop i) = some n ∧ 0 < n ∧ i + n ≤ p.length ∧
    (i + n < p.length → isM (p.getD (i + n) 0) → Alt r (p.drop (i + n + 1))) ∧ (¬ (i + n < p.length ∧ isM (p.getD (i + n) 0)) → Alt r (p.drop (i + n))) := by
  have hne := drop_ne hi
  have e1 : ∀ n, (p.drop i).getD n 0 = p.getD (i + n) 0 := fun n => drop_getD
  have e2 : ∀ n, (p.drop i).drop n = p.drop (i + n) := fun n => List.drop_drop ..
  have e3 : (p.drop i).length = p.length - i := List.length_drop ..
  generalize hq : p.drop i = l at h hne e1 e2 e3
  cases h with
  | nil => exact absurd rfl hne
  | @mark _ n h1 h2 h3 h4 =>
    have := atomF_len h1
    exact ⟨n, h1, this.1, by omega, fun _ _ => by rw [e2] at h4; exact h4, fun g => absurd (And.intro (by omega) (by rw [← e1]; exact h3)) g⟩
  | @bare _ n h1 h2 h3 =>
    have := atomF_len h1
    exact ⟨n, h1, this.1, by omega, fun g1 g2 => absurd (And.intro (by omega) (by rw [e1]; exact g2)) h2, fun _ => by rw [e2] at h3; exact h3⟩
end Go.Proofs.Ytnlnmbnopdklhaa.Ev

/- Chapter 7, by the document: whether the empty text fits. -/
namespace Go.Proofs.Ytnlnmbnopdklhaa.Ev
open Go.RowKit
set_option linter.unusedVariables false
set_option linter.unusedSimpArgs false
set_option maxRecDepth 100000
set_option maxHeartbeats 1000000
theorem ZV.tl {hs : HSt} {e : HE} {v : AV} (h : ZV hs v) : ZV (e :: hs) v := h.imp id fun ⟨b, ex, h1, w, h2⟩ => ⟨b, ex, h1, w, List.mem_cons_of_mem _ h2⟩
end Go.Proofs.Ytnlnmbnopdklhaa.Ev

/- Chapter 8, by the document: matchers, as far as they end. -/
namespace Go.Proofs.Ytnlnmbnopdklhaa.Ev
open Go.RowKit
set_option linter.unusedVariables false
set_option linter.unusedSimpArgs false
set_option maxRecDepth 100000
set_option maxHeartbeats 1000000
theorem bv_beqB {tb : Tab} {t : Nat} {a b : Bool} (hu : tb.und t = some .bool) : evBin tb .eql t (.bool a) (.bool b) = some (.bool (a == b)) := by
  show (match eqIn tb 20 t (.bool a) (.bool b) with | some b => some (AV.bool b) | none => none) = _
  unfold eqIn
  simp only [hu]
  rfl
abbrev MtT := Int × List Nat × List Nat
def mC (x : MtT) : List AV := [.int .i64 x.1, .str x.2.1, .str x.2.2]
def mCs (l : List MtT) : List AV := l.flatMap mC
def mg (M : List MtT) (i : Nat) : MtT := M.getD i (0, [], [])
/-- Matchers in memory. -/
def ISm (hs : HSt) (M : List MtT) (v : AV) : Prop := (v = .nils ∧ M = []) ∨ ∃ b ex, v = .slice b 0 M.length 3 ∧ MemH hs b ⟨3, ex, mCs M⟩
def MOk (M : List MtT) : Prop := ∀ x ∈ M, Bytes x.2.1 ∧ x.2.1.length ≤ 1048576 ∧ Bytes x.2.2 ∧ x.2.2.length ≤ 1048576
end Go.Proofs.Ytnlnmbnopdklhaa.Ev
