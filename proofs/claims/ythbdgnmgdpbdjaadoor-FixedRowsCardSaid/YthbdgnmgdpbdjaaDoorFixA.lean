/- Walks of package fixed, first part: each function computes its model. -/
import Derived.Test.YthbdgnmgdpbdjaaDoorProg
import Derived.WalkKit
import Derived.ProofKit
import Derived.OpenShut
import Derived.Outline
import Derived.WalkSpells
import Derived.WalkLawsBesides
import Derived.Deep.QuietTactic
import Derived.BigQuiet
import Derived.Lib.Hide
import Derived.Deep.DeepFit
import Derived.Deep.DeepMust

namespace Go.Proofs.YthbdgnmgdpbdjaaDoor
open Go.ChangeShapes Go.WideShapes Go.ChangeAt Go.RowKit
set_option linter.unusedVariables false
set_option maxRecDepth 100000
def fitsB (n : Int) : Bool := decide (-1152921504606846976 ≤ n ∧ n ≤ 1152921504606846976)
theorem fitsB_t {n : Int} (h : fitsB n = true) : -1152921504606846976 ≤ n ∧ n ≤ 1152921504606846976 := by simpa [fitsB] using h
theorem fitsB_f {n : Int} (h : fitsB n = false) : ¬ (-1152921504606846976 ≤ n ∧ n ≤ 1152921504606846976) := by simpa [fitsB] using h
theorem quiet_mine {P : Program} {f : FuncId} {args : Array Value} {w : World} {n : Nat} {v : Value}
    (h : Calls P f args (w.drewN n) fun e w' => e = .returned v ∧ w.drewN n = w') : Calls P f args (w.drewN n) fun e w'' => e = .returned v ∧ ∃ m, w'' = w.drewN m :=
  h.mono fun _ _ ⟨he, hm⟩ => ⟨he, n, hm.symm⟩
theorem ret_int {k : IntKind} {a b : Int} (h : a = b) : Ending.returned (.int k a) = .returned (.int k b) := by rw [h]
theorem ret_two {k l : IntKind} {a b c d : Int} (h : a = b) (h' : c = d) : Ending.returned (.tuple #[.int k a, .int l c]) = .returned (.tuple #[.int k b, .int l d]) := by rw [h, h']
def fTold (n : Int) : Int × Int := if fitsB n then (n, 0) else (0, 11)
def fAdd (a b : Int) : Int × Int := if fitsB a && fitsB b then fTold (a + b) else (0, 2)
def fSub (a b : Int) : Int × Int := if fitsB a && fitsB b then fTold (a - b) else (0, 2)

theorem fits_any (n : Int) (w : World) :
    Calls Tryd.prog 17 #[.int .i64 n] w fun e w' => e = .returned (.bool (fitsB n)) ∧ w = w' := by
  go_enter Tryd.func17, Tryd.ntmps17
  go_wp2
  all_goals (go_ret; exact ⟨by simp [fitsB]; omega, rfl⟩)
theorem told_any (n : Int) (w : World) :
    Calls Tryd.prog 33 #[.int .i64 n] w fun e w' => e = .returned (.tuple #[.int .i64 (fTold n).1, .int .i64 (fTold n).2]) ∧ w = w' := by
  go_enter Tryd.func33, Tryd.ntmps33
  go_wp2_with (go_at_call 17; ((with_reducible refine (fits_any _ _).mono ?_); rintro e w' ⟨rfl, rfl⟩))
  all_goals (go_tidy; try simp only [Bool.not_eq_true', Bool.not_eq_false'] at *)
  all_goals (go_ret2; exact ⟨by simp [fTold, *], rfl⟩)
theorem add_any (a b : Int) (w : World) :
    Calls Tryd.prog 13 #[.int .i64 a, .int .i64 b] w fun e w' => e = .returned (.tuple #[.int .i64 (fAdd a b).1, .int .i64 (fAdd a b).2]) ∧ w = w' := by
  go_enter Tryd.func13, Tryd.ntmps13
  cases ha : fitsB a <;> cases hb : fitsB b
  case true.true =>
    have ha' := fitsB_t ha
    have hb' := fitsB_t hb
    go_wp2_with (first | (go_at_call 17; ((with_reducible refine (fits_any _ _).mono ?_); rintro e w' ⟨rfl, rfl⟩)) | (go_at_call 33; ((with_reducible refine (told_any _ _).mono ?_); rintro e w' ⟨rfl, rfl⟩)))
    all_goals (go_tidy; try simp only [Bool.not_eq_true', Bool.not_eq_false'] at *)
    all_goals (go_ret2; exact ⟨by simp [fAdd, *], rfl⟩)
  all_goals
    go_wp2_with (first | (go_at_call 17; ((with_reducible refine (fits_any _ _).mono ?_); rintro e w' ⟨rfl, rfl⟩)))
    all_goals (go_tidy; try simp only [Bool.not_eq_true', Bool.not_eq_false'] at *)
    all_goals (go_ret2; exact ⟨by simp [fAdd, *], rfl⟩)
theorem sub_any (a b : Int) (w : World) :
    Calls Tryd.prog 15 #[.int .i64 a, .int .i64 b] w fun e w' => e = .returned (.tuple #[.int .i64 (fSub a b).1, .int .i64 (fSub a b).2]) ∧ w = w' := by
  go_enter Tryd.func15, Tryd.ntmps15
  cases ha : fitsB a <;> cases hb : fitsB b
  case true.true =>
    have ha' := fitsB_t ha
    have hb' := fitsB_t hb
    go_wp2_with (first | (go_at_call 17; ((with_reducible refine (fits_any _ _).mono ?_); rintro e w' ⟨rfl, rfl⟩)) | (go_at_call 33; ((with_reducible refine (told_any _ _).mono ?_); rintro e w' ⟨rfl, rfl⟩)))
    all_goals (go_tidy; try simp only [Bool.not_eq_true', Bool.not_eq_false'] at *)
    all_goals (go_ret2; exact ⟨by simp [fSub, *], rfl⟩)
  all_goals
    go_wp2_with (first | (go_at_call 17; ((with_reducible refine (fits_any _ _).mono ?_); rintro e w' ⟨rfl, rfl⟩)))
    all_goals (go_tidy; try simp only [Bool.not_eq_true', Bool.not_eq_false'] at *)
    all_goals (go_ret2; exact ⟨by simp [fSub, *], rfl⟩)
theorem size_any (n : Int) (w : World) (h : -1152921504606846976 ≤ n ∧ n ≤ 1152921504606846976) :
    Calls Tryd.prog 34 #[.int .i64 n] w fun e w' => e = .returned (.int .u64 ((n.natAbs : Nat) : Int)) ∧ w = w' := by
  have h1 := h.1
  have h2 := h.2
  go_enter Tryd.func34, Tryd.ntmps34
  go_wp2
  all_goals (go_ret; exact ⟨ret_int (by omega), rfl⟩)
end Go.Proofs.YthbdgnmgdpbdjaaDoor
