/- LexBack's walk: the law's call returns true. -/
import Derived.Test.YtdpcpnhkkedfcaaDoorProg
import Derived.WalkKit
import Derived.ProofKit
import Derived.OpenShut
import Derived.Outline
import Derived.WalkSpells
import Derived.WalkLawsBesides
import Derived.Deep.QuietTactic
import Derived.BigQuiet
import Derived.Lib.Hide
import Derived.Deep.DeepFit
import Derived.Deep.DeepMust

import Derived.Test.YtdpcpnhkkedfcaaDoorBackA
import Derived.Test.YtdpcpnhkkedfcaaDoorLexO
namespace Go.Proofs.YtdpcpnhkkedfcaaDoor
open Go.ChangeShapes Go.WideShapes Go.ChangeAt Go.RowKit
set_option linter.unusedVariables false
set_option maxRecDepth 100000
def ScanOne (t : ByteArray) (v : Int) (w : World) : Prop := Calls Tryd.prog 7 #[.string t] w fun e w' => ∃ G cap, e = .returned (.tuple #[.slice (some ⟨G, 0, none⟩) 2 cap, .int .i64 0, .int .i64 0]) ∧
      (w'.cell? ⟨G, 0, none⟩ = some (.int .i64 3) ∧ w'.cell? ⟨G, 1, none⟩ = some (.string t) ∧ w'.cell? ⟨G, 2, none⟩ = some (.int .i64 v) ∧ w'.cell? ⟨G, 3, none⟩ = some (.int .i64 0)) ∧ Below w.heap.size w w'
theorem back_bad (s : ByteArray) (n : Int) (w : World) (hn : n < 0 ∨ 2147483648 < n)
    (H1 : Hid (∀ w, Tab w → Calls Tryd.prog 13 #[.int .i64 n] w fun r w' => r = .returned (.tuple #[.string ⟨#[]⟩, .int .i64 11]) ∧ Below w.heap.size w w')) (hT : Tab w) :
    Calls Tryd.prog 6 #[.int .i64 n, .string s] w fun r w' => r = .returned (.bool true) ∧ Below w.heap.size w w' := by
  have HT := Lib.hid hT
  have HB := Lib.hid (Below.refl w.heap.size w)
  clear hT
  go_enter Tryd.func6, Tryd.ntmps6
  rcases Int.lt_or_le n 0 with h | h
  · clear hn
    go_wp2_with (first | (go_at_call 13; ((with_reducible refine (H1.out _ HT.out).mono ?_); rintro e w' ⟨rfl, hB⟩; have HT := Lib.hid (HT.out.below hB); have HB := Lib.hid (HB.out.trans (hB.mono HB.out.size)); clear hB)) | (go_at_call 8; ((with_reducible refine (lives_any _).mono ?_); rintro e w' ⟨rfl, hB⟩; have HT := Lib.hid (HT.out.below hB); have HB := Lib.hid (HB.out.trans (hB.mono HB.out.size)); clear hB)))
    go_ret
    exact ⟨rfl, HB.out⟩
  · have h2 : 2147483648 < n := by omega
    clear hn
    go_wp2_with (first | (go_at_call 13; ((with_reducible refine (H1.out _ HT.out).mono ?_); rintro e w' ⟨rfl, hB⟩; have HT := Lib.hid (HT.out.below hB); have HB := Lib.hid (HB.out.trans (hB.mono HB.out.size)); clear hB)) | (go_at_call 8; ((with_reducible refine (lives_any _).mono ?_); rintro e w' ⟨rfl, hB⟩; have HT := Lib.hid (HT.out.below hB); have HB := Lib.hid (HB.out.trans (hB.mono HB.out.size)); clear hB)))
    go_ret
    exact ⟨rfl, HB.out⟩
set_option maxHeartbeats 4000000 in
theorem back_core (T s : ByteArray) (n k h : Int) (w : World)
    (H1 : Hid (∀ w, Tab w → Calls Tryd.prog 13 #[.int .i64 n] w fun r w' => r = .returned (.tuple #[.string T, .int .i64 0]) ∧ Below w.heap.size w w'))
    (H2 : Hid (∀ w, Tab w → Calls Tryd.prog 11 #[.string T] w fun r w' => r = .returned (.tuple #[.int .i64 n, .int .i64 0]) ∧ Below w.heap.size w w'))
    (H3 : Hid (∀ w, Tab w → ScanOne T n w))
    (H4 : Hid (∀ w, Tab w → Calls Tryd.prog 11 #[.string s] w fun r w' => r = .returned (.tuple #[.int .i64 k, .int .i64 h]) ∧ Below w.heap.size w w'))
    (H5 : Hid (h = 0 → s.size ≤ 1000 → ∀ w, Tab w → ScanOne s k w)) (hT : Tab w) :
    Calls Tryd.prog 6 #[.int .i64 n, .string s] w fun r w' => r = .returned (.bool true) ∧ Below w.heap.size w w' := by
  have HT := Lib.hid hT
  have HB := Lib.hid (Below.refl w.heap.size w)
  have hs : (T.toList == T.toList) = true := by simp
  have hs2 : (s.toList == s.toList) = true := by simp
  clear hT
  go_enter Tryd.func6, Tryd.ntmps6
  by_cases hh : h = 0
  · subst hh
    by_cases hz : s.size ≤ 1000
    · have hi : ¬ (1000 : Int) < (s.size : Int) := by omega
      have H6 : Hid (∀ w, Tab w → ScanOne s k w) := Lib.hid (H5.out rfl hz)
      clear hz H5
      go_wp2_with (first | (go_at_call 13; ((with_reducible refine (H1.out _ HT.out).mono ?_); rintro e w' ⟨rfl, hB⟩; have HT := Lib.hid (HT.out.below hB); have HB := Lib.hid (HB.out.trans (hB.mono HB.out.size)); clear hB)) | (go_at_call_of 11 (Value.string T); ((with_reducible refine (H2.out _ HT.out).mono ?_); rintro e w' ⟨rfl, hB⟩; have HT := Lib.hid (HT.out.below hB); have HB := Lib.hid (HB.out.trans (hB.mono HB.out.size)); clear hB)) | (go_at_call_of 7 (Value.string T); ((refine (H3.out _ HT.out).mono ?_); rintro e w' ⟨G, cap, rfl, ⟨c0, c1, c2, c3⟩, hB⟩; have HT := Lib.hid (HT.out.below hB); have HB := Lib.hid (HB.out.trans (hB.mono HB.out.size)); clear hB)) | (go_at_call_of 11 (Value.string s); ((with_reducible refine (H4.out _ HT.out).mono ?_); rintro e w' ⟨rfl, hB⟩; have HT := Lib.hid (HT.out.below hB); have HB := Lib.hid (HB.out.trans (hB.mono HB.out.size)); clear hB)) | (go_at_call_of 7 (Value.string s); ((refine (H6.out _ HT.out).mono ?_); rintro e w' ⟨G, cap, rfl, ⟨d0, d1, d2, d3⟩, hB⟩; have HT := Lib.hid (HT.out.below hB); have HB := Lib.hid (HB.out.trans (hB.mono HB.out.size)); clear hB)) | (go_at_call 8; ((with_reducible refine (lives_any _).mono ?_); rintro e w' ⟨rfl, hB⟩; have HT := Lib.hid (HT.out.below hB); have HB := Lib.hid (HB.out.trans (hB.mono HB.out.size)); clear hB)))
      go_ret
      exact ⟨rfl, HB.out⟩
    · have hi : (1000 : Int) < (s.size : Int) := by omega
      clear hz H5
      go_wp2_with (first | (go_at_call 13; ((with_reducible refine (H1.out _ HT.out).mono ?_); rintro e w' ⟨rfl, hB⟩; have HT := Lib.hid (HT.out.below hB); have HB := Lib.hid (HB.out.trans (hB.mono HB.out.size)); clear hB)) | (go_at_call_of 11 (Value.string T); ((with_reducible refine (H2.out _ HT.out).mono ?_); rintro e w' ⟨rfl, hB⟩; have HT := Lib.hid (HT.out.below hB); have HB := Lib.hid (HB.out.trans (hB.mono HB.out.size)); clear hB)) | (go_at_call_of 7 (Value.string T); ((refine (H3.out _ HT.out).mono ?_); rintro e w' ⟨G, cap, rfl, ⟨c0, c1, c2, c3⟩, hB⟩; have HT := Lib.hid (HT.out.below hB); have HB := Lib.hid (HB.out.trans (hB.mono HB.out.size)); clear hB)) | (go_at_call_of 11 (Value.string s); ((with_reducible refine (H4.out _ HT.out).mono ?_); rintro e w' ⟨rfl, hB⟩; have HT := Lib.hid (HT.out.below hB); have HB := Lib.hid (HB.out.trans (hB.mono HB.out.size)); clear hB)) | (go_at_call 8; ((with_reducible refine (lives_any _).mono ?_); rintro e w' ⟨rfl, hB⟩; have HT := Lib.hid (HT.out.below hB); have HB := Lib.hid (HB.out.trans (hB.mono HB.out.size)); clear hB)))
      go_ret
      exact ⟨rfl, HB.out⟩
  · have hb : (h != 0) = true := by simp [hh]
    have hb2 : (h == 0) = false := by simp [hh]
    clear H5
    go_wp2_with (first | (go_at_call 13; ((with_reducible refine (H1.out _ HT.out).mono ?_); rintro e w' ⟨rfl, hB⟩; have HT := Lib.hid (HT.out.below hB); have HB := Lib.hid (HB.out.trans (hB.mono HB.out.size)); clear hB)) | (go_at_call_of 11 (Value.string T); ((with_reducible refine (H2.out _ HT.out).mono ?_); rintro e w' ⟨rfl, hB⟩; have HT := Lib.hid (HT.out.below hB); have HB := Lib.hid (HB.out.trans (hB.mono HB.out.size)); clear hB)) | (go_at_call_of 7 (Value.string T); ((refine (H3.out _ HT.out).mono ?_); rintro e w' ⟨G, cap, rfl, ⟨c0, c1, c2, c3⟩, hB⟩; have HT := Lib.hid (HT.out.below hB); have HB := Lib.hid (HB.out.trans (hB.mono HB.out.size)); clear hB)) | (go_at_call_of 11 (Value.string s); ((with_reducible refine (H4.out _ HT.out).mono ?_); rintro e w' ⟨rfl, hB⟩; have HT := Lib.hid (HT.out.below hB); have HB := Lib.hid (HB.out.trans (hB.mono HB.out.size)); clear hB)) | (go_at_call 8; ((with_reducible refine (lives_any _).mono ?_); rintro e w' ⟨rfl, hB⟩; have HT := Lib.hid (HT.out.below hB); have HB := Lib.hid (HB.out.trans (hB.mono HB.out.size)); clear hB)))
    go_ret
    exact ⟨rfl, HB.out⟩
theorem back_walk (n : Int) (hn : -9223372036854775808 ≤ n ∧ n ≤ 9223372036854775807) (s : ByteArray) (hs : s.size ≤ 281474976710656) (w : World) (hT : Tab w) :
    Calls Tryd.prog 6 #[.int .i64 n, .string s] w fun r w' => r = .returned (.bool true) ∧ Below w.heap.size w w' := by
  by_cases hb : n < 0 ∨ 2147483648 < n
  · refine back_bad s n w hb (Lib.hid fun w ht => ?_) hT
    have := print_any n hn w ht
    have e : pdM n = ([], 11) := by unfold pdM; rw [if_pos hb]
    rw [e] at this
    exact this
  · have hr := durM_pdM n (by omega) (by omega)
    have hl := pdM_len n
    have h2 : (pdM n).2 = 0 := by unfold pdM; rw [if_neg hb]; split <;> rfl
    have hbl : (bs (pdM n).1).data.toList = (pdM n).1 := bs_list _
    have hbz : (bs (pdM n).1).size ≤ 138 := by rw [bs_size]; exact hl
    refine back_core (bs (pdM n).1) s n (durM s.data.toList).1 (durM s.data.toList).2 w (Lib.hid fun w ht => ?_) (Lib.hid fun w ht => ?_) (Lib.hid fun w ht => ?_) (Lib.hid fun w ht => dur_any s hs w ht) (Lib.hid fun h0 h1 w ht => ?_) hT
    · have := print_any n hn w ht
      rw [h2] at this
      exact this
    · have := dur_any (bs (pdM n).1) (by omega) w ht
      rw [hbl, hr] at this
      exact this
    · exact scan_of _ (by omega) n (by rw [hbl]; exact hr) w ht
    · exact scan_of s (by omega) _ (by rw [← h0]) w ht
end Go.Proofs.YtdpcpnhkkedfcaaDoor
