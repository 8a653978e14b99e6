/- Layer 15: the scanner in memory; where a text has no blank, it stays; a numeral in memory. -/
import Derived.Test.YtdpcpnhkkedfcaaDoorProg
import Derived.WalkKit
import Derived.ProofKit
import Derived.OpenShut
import Derived.Outline
import Derived.WalkSpells
import Derived.WalkLawsBesides
import Derived.Deep.QuietTactic
import Derived.BigQuiet
import Derived.Lib.Hide
import Derived.Deep.DeepFit
import Derived.Deep.DeepMust

import Derived.BigRegion
import Derived.LoopN
import Derived.Test.YtdpcpnhkkedfcaaDoorLexJ
import Derived.Test.YtdpcpnhkkedfcaaDoorLexK
namespace Go.Proofs.YtdpcpnhkkedfcaaDoor
open Go.ChangeShapes Go.WideShapes Go.ChangeAt Go.RowKit
set_option linter.unusedVariables false
set_option maxRecDepth 100000
theorem quiet_back {P : Program} {f : FuncId} {args : Array Value} {w : World} {n : Nat} {v : Value} (h : Calls P f args (w.drewN n) fun e w' => e = .returned v ∧ w.drewN n = w') :
    Calls P f args (w.drewN n) fun e w'' => e = .returned v ∧ ∃ m, w'' = w.drewN m := h.mono fun _ _ ⟨he, hm⟩ => ⟨he, n, hm.symm⟩
/-- The scanner in block B: the text and the place. -/
structure SX (w : World) (B : Nat) (s : ByteArray) (k : Nat) : Prop where
  blk : w.heap[B]? = some (.cells #[.string s, .int .i64 k] 44 (0, 0))
variable {w w' : World} {B k : Nat} {s : ByteArray}
theorem SX.c0 (h : SX w B s k) : w.cell? ⟨B, 0, none⟩ = some (.string s) := by rw [Lib.cell_of_heap h.blk]; rfl
theorem SX.c1 (h : SX w B s k) : w.cell? ⟨B, 1, none⟩ = some (.int .i64 k) := by rw [Lib.cell_of_heap h.blk]; rfl
theorem SX.lt (h : SX w B s k) : B < w.heap.size := by
  rcases Nat.lt_or_ge B w.heap.size with h' | h'
  · exact h'
  · have := h.blk
    simp [Array.getElem?_eq_none h'] at this
theorem SX.below (h : SX w B s k) (hb : Below w.heap.size w w') : SX w' B s k := ⟨by rw [hb.block _ h.lt]; exact h.blk⟩
theorem blanks_end (h : SX w B s k) (hk : k = s.size) :
    Calls Tryd.prog 15 #[.pointer (some ⟨B, 0, none⟩)] w fun e w' => e = .returned (.tuple #[]) ∧ Below w.heap.size w w' := by
  have c0 := h.c0
  have c1 := h.c1
  have hd : decide ((k : Int) < (s.size : Int)) = false := by simp; omega
  have hn : ¬ (k : Int) < (s.size : Int) := by omega
  clear h hk
  go_enter Tryd.func15, Tryd.ntmps15
  go_wp2
  refine wp_loop_rounds 1 ?_
  rw [rounds_succ]
  go_wp2_with go_quiet ((first | fail))
  go_end0
  exact ⟨rfl, (Below.refl _ _).drewN' _⟩
set_option maxHeartbeats 2000000 in
theorem blanks_at (h : SX w B s k) (c : UInt8) (hk : k < s.size) (hc : s[k]'hk = c) (h1 : c.toNat ≠ 35) (h2 : c.toNat ≠ 32) (h3 : c.toNat ≠ 9) (h4 : c.toNat ≠ 10) :
    Calls Tryd.prog 15 #[.pointer (some ⟨B, 0, none⟩)] w fun e w' => e = .returned (.tuple #[]) ∧ Below w.heap.size w w' := by
  have c0 := h.c0
  have c1 := h.c1
  have hn : (k : Int) < (s.size : Int) := by omega
  have g1 : ((c.toNat : Int) == 35) = false := by simp; omega
  have g2 : ((c.toNat : Int) == 32) = false := by simp; omega
  have g3 : ((c.toNat : Int) == 9) = false := by simp; omega
  have g4 : ((c.toNat : Int) == 10) = false := by simp; omega
  clear h h1 h2 h3 h4
  go_enter Tryd.func15, Tryd.ntmps15
  go_wp2
  refine wp_loop_rounds 1 ?_
  rw [rounds_succ]
  go_wp2_with go_quiet ((first | fail))
  refine bodyPost_ret (results_none rfl _ _ _) rfl ?_
  exact ⟨rfl, by first | exact (Below.refl _ _).drewN' _ | exact ((Below.refl _ _).drewN' _).drewN' _⟩
end Go.Proofs.YtdpcpnhkkedfcaaDoor
