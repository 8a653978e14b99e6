/- LexBack: Scan of a text that Dur takes, in one contract. -/
import Derived.Test.YtdpcpnhkkedfcaaDoorProg
import Derived.WalkKit
import Derived.ProofKit
import Derived.OpenShut
import Derived.Outline
import Derived.WalkSpells
import Derived.WalkLawsBesides
import Derived.Deep.QuietTactic
import Derived.BigQuiet
import Derived.Lib.Hide
import Derived.Deep.DeepFit
import Derived.Deep.DeepMust

import Derived.Test.YtdpcpnhkkedfcaaDoorRndA
namespace Go.Proofs.YtdpcpnhkkedfcaaDoor
open Go.ChangeShapes Go.WideShapes Go.ChangeAt Go.RowKit
set_option linter.unusedVariables false
set_option maxRecDepth 100000
theorem num_of (t : ByteArray) (ht : t.size ≤ 1024) (v : Int) (hM : durM t.data.toList = (v, 0)) (B : Nat) (w : World) (h : SX w B t 0) (hT : Tab w) :
    Calls Tryd.prog 30 #[.pointer (some ⟨B, 0, none⟩)] w fun e w' => e = .returned (.tuple #[.agg #[.int .i64 3, .string t, .int .i64 v, .int .i64 (0 : Nat)], .int .i64 0]) ∧ Below w.heap.size w w' := by
  have S := durM_shaped hM
  obtain ⟨c, q, hl, hd⟩ := S.head
  have hx : t.extract 0 (0 + t.size) = t := by
    apply ByteArray.ext
    apply Array.ext'
    rw [ext_list]
    simp only [List.drop_zero, Nat.zero_add, Nat.sub_zero]
    exact List.take_of_length_le (by rw [size_len]; exact Nat.le_refl _)
  refine numeral_dur h ht (Nat.zero_le _) t.size (by rw [List.drop_zero, S.num, size_len]) t hx hT v 0 (Lib.hid fun w => ?_) (Lib.hid fun w hT => ?_)
  · refine parse_no t (by omega) ?_ S.dot (by rw [← size_len]; exact S.dig) w
    rw [hl]
    intro e
    simp only [List.head?_cons, Option.some.injEq] at e
    rw [e] at hd
    revert hd
    decide
  · have := dur_any t (by omega) w hT
    rw [hM] at this
    exact this
theorem row_cell {w : World} {base : Nat} {e : TypeId} {G n cap : Nat} {xs : List Value} (h : w.ownsRow base e 4 (.slice (some ⟨G, 0, none⟩) n cap) n xs) (j : Nat) (u : Value) (hu : xs[j]? = some u) : w.cell? ⟨G, j, none⟩ = some u := by
  rcases h.2 with ⟨h, _⟩ | ⟨g, c, cur, h1, _, h3, _, _, _, h6⟩
  · cases h
  · cases h1
    rw [Lib.cell_of_heap h3, ← Array.getElem?_toList]
    rw [← h6] at hu
    rw [List.getElem?_take] at hu
    split at hu
    · exact hu
    · cases hu
theorem scan_of (t : ByteArray) (ht : t.size ≤ 1024) (v : Int) (hM : durM t.data.toList = (v, 0)) (w : World) (hT : Tab w) :
    Calls Tryd.prog 7 #[.string t] w fun e w' => ∃ G cap, e = .returned (.tuple #[.slice (some ⟨G, 0, none⟩) 2 cap, .int .i64 0, .int .i64 0]) ∧
      (w'.cell? ⟨G, 0, none⟩ = some (.int .i64 3) ∧ w'.cell? ⟨G, 1, none⟩ = some (.string t) ∧ w'.cell? ⟨G, 2, none⟩ = some (.int .i64 v) ∧ w'.cell? ⟨G, 3, none⟩ = some (.int .i64 0)) ∧ Below w.heap.size w w' := by
  have S := durM_shaped hM
  obtain ⟨c, q, hl, hd⟩ := S.head
  have h0 : 0 < t.size := by rw [← size_len, hl]; exact Nat.succ_pos _
  have hc : t[0]'h0 = c := by rw [byte_getD t 0 h0, hl]; rfl
  refine (scan_dur t ht c h0 hc hd v w hT (Lib.hid (num_of t ht v hM))).mono ?_
  rintro e w' ⟨G, cap, rfl, hO, hB⟩
  exact ⟨G, cap, rfl, ⟨row_cell hO 0 _ rfl, row_cell hO 1 _ rfl, row_cell hO 2 _ rfl, row_cell hO 3 _ rfl⟩, hB⟩
end Go.Proofs.YtdpcpnhkkedfcaaDoor
