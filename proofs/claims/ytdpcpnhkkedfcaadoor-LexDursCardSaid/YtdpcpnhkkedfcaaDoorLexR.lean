/- LexDurs' walk: the law's call returns true. -/
import Derived.Test.YtdpcpnhkkedfcaaDoorProg
import Derived.WalkKit
import Derived.ProofKit
import Derived.OpenShut
import Derived.Outline
import Derived.WalkSpells
import Derived.WalkLawsBesides
import Derived.Deep.QuietTactic
import Derived.BigQuiet
import Derived.Lib.Hide
import Derived.Deep.DeepFit
import Derived.Deep.DeepMust

import Derived.Test.YtdpcpnhkkedfcaaDoorLexI
import Derived.Test.YtdpcpnhkkedfcaaDoorLexQ
import Derived.Test.YtdpcpnhkkedfcaaDoorLexO
namespace Go.Proofs.YtdpcpnhkkedfcaaDoor
open Go.ChangeShapes Go.WideShapes Go.ChangeAt Go.RowKit
set_option linter.unusedVariables false
set_option maxRecDepth 100000
theorem durs_core (s T : ByteArray) (n a e g : Int) (w : World)
    (H1 : Hid (∀ w, Tab w → Calls Tryd.prog 11 #[.string s] w fun r w' => r = .returned (.tuple #[.int .i64 a, .int .i64 e]) ∧ Below w.heap.size w w'))
    (H2 : Hid (∀ w, Calls Tryd.prog 12 #[.string s] w fun r w' => r = .returned (.tuple #[.int .i64 a, .int .i64 e]) ∧ Below w.heap.size w w'))
    (H3 : Hid (∀ w, Tab w → Calls Tryd.prog 13 #[.int .i64 n] w fun r w' => r = .returned (.tuple #[.string T, .int .i64 g]) ∧ Below w.heap.size w w'))
    (H4 : Hid (∀ w, Calls Tryd.prog 14 #[.int .i64 n] w fun r w' => r = .returned (.tuple #[.string T, .int .i64 g]) ∧ Below w.heap.size w w')) (hT : Tab w) :
    Calls Tryd.prog 5 #[.string s, .int .i64 n] w fun r w' => r = .returned (.bool true) ∧ Below w.heap.size w w' := by
  have HT := Lib.hid hT
  have HB := Lib.hid (Below.refl w.heap.size w)
  have hs : (T.toList == T.toList) = true := by simp
  clear hT
  go_enter Tryd.func5, Tryd.ntmps5
  go_wp2_with (first | (go_at_call 11; ((with_reducible refine (H1.out _ HT.out).mono ?_); rintro e w' ⟨rfl, hB⟩; have HT := Lib.hid (HT.out.below hB); have HB := Lib.hid (HB.out.trans (hB.mono HB.out.size)); clear hB)) | (go_at_call 12; ((with_reducible refine (H2.out _).mono ?_); rintro e w' ⟨rfl, hB⟩; have HT := Lib.hid (HT.out.below hB); have HB := Lib.hid (HB.out.trans (hB.mono HB.out.size)); clear hB)) | (go_at_call 13; ((with_reducible refine (H3.out _ HT.out).mono ?_); rintro e w' ⟨rfl, hB⟩; have HT := Lib.hid (HT.out.below hB); have HB := Lib.hid (HB.out.trans (hB.mono HB.out.size)); clear hB)) | (go_at_call 14; ((with_reducible refine (H4.out _).mono ?_); rintro e w' ⟨rfl, hB⟩; have HT := Lib.hid (HT.out.below hB); have HB := Lib.hid (HB.out.trans (hB.mono HB.out.size)); clear hB)) | (go_at_call 8; ((with_reducible refine (lives_any _).mono ?_); rintro e w' ⟨rfl, hB⟩; have HT := Lib.hid (HT.out.below hB); have HB := Lib.hid (HB.out.trans (hB.mono HB.out.size)); clear hB)))
  go_ret
  exact ⟨rfl, HB.out⟩
theorem durs_walk (s : ByteArray) (hs : s.size ≤ 281474976710656) (n : Int) (hn : -9223372036854775808 ≤ n ∧ n ≤ 9223372036854775807) (w : World) (hT : Tab w) :
    Calls Tryd.prog 5 #[.string s, .int .i64 n] w fun r w' => r = .returned (.bool true) ∧ Below w.heap.size w w' :=
  durs_core s (bs (pdM n).1) n (durM s.data.toList).1 (durM s.data.toList).2 (pdM n).2 w (Lib.hid fun w ht => dur_any s hs w ht) (Lib.hid fun w => by rw [durs_same]; exact rdur_any s hs w) (Lib.hid fun w ht => print_any n hn w ht) (Lib.hid fun w => rprint_any n hn w) hT
end Go.Proofs.YtdpcpnhkkedfcaaDoor
