/- Layer 15: the reference's unit: which unit a text begins with. -/
import Derived.Test.YtdpcpnhkkedfcaaDoorProg
import Derived.WalkKit
import Derived.ProofKit
import Derived.OpenShut
import Derived.Outline
import Derived.WalkSpells
import Derived.WalkLawsBesides
import Derived.Deep.QuietTactic
import Derived.BigQuiet
import Derived.Lib.Hide
import Derived.Deep.DeepFit
import Derived.Deep.DeepMust

import Derived.Test.YtdpcpnhkkedfcaaDoorLexE
namespace Go.Proofs.YtdpcpnhkkedfcaaDoor
open Go.ChangeShapes Go.WideShapes Go.ChangeAt Go.RowKit
set_option linter.unusedVariables false
set_option maxRecDepth 100000
/-- The first of the last n of five units that a text begins with. -/
def rux (l : List UInt8) : Nat → Int
  | 0 => -1
  | n + 1 => if l ≠ [] ∧ l.take 1 = uNames.getD (4 - n) [] then ((4 - n : Nat) : Int) else rux l n
def runit (l : List UInt8) : Int := if 2 ≤ l.length ∧ l.take 2 = [109, 115] then 5 else rux l 5
set_option maxHeartbeats 1000000 in
theorem runit_any (s : ByteArray) (hs : s.size ≤ 281474976710656) (w : World) :
    Calls Tryd.prog 24 #[.string s] w fun e w' => e = .returned (.int .i64 (runit s.data.toList)) ∧ Below w.heap.size w w' := by
  obtain ⟨R, hR⟩ : ∃ R, runit s.data.toList = R := ⟨_, rfl⟩
  rw [hR]
  have hsz := size_len s
  have e2 : (s.extract 0 2).toList = s.data.toList.take 2 := by rw [ByteArray.toList_eq, ext_list]; rfl
  have e1 : (s.extract 0 1).toList = s.data.toList.take 1 := by rw [ByteArray.toList_eq, ext_list]; rfl
  unfold runit at hR
  obtain ⟨l, hl⟩ : ∃ l, s.data.toList = l := ⟨_, rfl⟩
  rw [hl] at hR hsz e1 e2
  have E1 := Lib.hid e1
  go_enter Tryd.func24, Tryd.ntmps24
  by_cases h2 : 2 ≤ l.length ∧ l.take 2 = [109, 115]
  · rw [if_pos h2] at hR
    have HR := Lib.hid hR
    have f1 : (2 : Int) ≤ (s.size : Int) := by omega
    have f2 : 2 ≤ s.size := by omega
    have f3 : ((s.extract 0 2).toList == [109, 115]) = true := by rw [e2, h2.2]; rfl
    clear h2 hR e2 e1
    go_wp2_with (go_at_call 22; ((with_reducible refine (runits_any _).mono ?_); rintro e w' ⟨⟨B, p, c, C, q, d, rfl, hU⟩, hB⟩))
    go_ret
    exact ⟨by rw [← HR.out]; rfl, hB⟩
  · rw [if_neg h2] at hR
    have HR := Lib.hid hR
    have HZ := Lib.hid hsz
    have HL := Lib.hid hl
    have rest : (if 2 ≤ s.size then ((s.extract 0 2).toList == [109, 115]) else false) = false := by
      split
      · rename_i hh
        cases he : ((s.extract 0 2).toList == [109, 115])
        · rfl
        · rw [e2] at he
          exact absurd ⟨by omega, by simpa using he⟩ h2
      · rfl
    clear h2 hR e1 e2 hsz hl
    by_cases d2 : 2 ≤ s.size
    · have f1 : (2 : Int) ≤ (s.size : Int) := by omega
      have f3 : ((s.extract 0 2).toList == [109, 115]) = false := by rw [if_pos d2] at rest; exact rest
      clear rest
      go_wp2_with (go_at_call 22; ((with_reducible refine (runits_any _).mono ?_); rintro e w' ⟨⟨B, p, c, C, q, d, rfl, hU⟩, hB⟩))
      go_loopw [5] (fun j wq => ∃ (i : Nat), i ≤ 5 ∧ j = .int .i64 i ∧ Hid (rux l (5 - i) = R) ∧ Hid (RU wq B p C q) ∧ Below w.heap.size w wq) (fun j _ => 5 - (intOf j).toNat)
      case atStart => exact ⟨0, by omega, rfl, HR, Lib.hid hU, hB⟩
      case round =>
        obtain ⟨i, hi, rfl, hacc, HU, hBq⟩ := hrel
        by_cases hlt : i < 5
        · have hn := HU.out.nm i (by omega)
          have hr := hacc.out
          rw [show 5 - i = (4 - i) + 1 by omega] at hr
          unfold rux at hr
          rw [show 4 - (4 - i) = i by omega, ← uB_list] at hr
          have Hr := Lib.hid hr
          have HBq := Lib.hid hBq
          have hi5 : (i : Int) < 5 := by omega
          have hi6 : (i : Int) < 6 := by omega
          clear hr hacc hBq
          by_cases h0 : s.size = 0
          · have g1 : ¬ (0 : Int) < (s.size : Int) := by omega
            have g2 : ¬ 0 < s.size := by omega
            have hne : ¬ (l ≠ [] ∧ l.take 1 = (uB i).data.toList) := by
              intro h
              apply h.1
              exact List.eq_nil_of_length_eq_zero (by rw [HZ.out]; exact h0)
            have Hr2 := Lib.hid (by have h := Hr.out; rw [if_neg hne] at h; exact h)
            clear hne
            go_wp2_with go_quiet ((first | fail))
            go_roundw
            case rel => exact ⟨i + 1, by omega, by go_num, Lib.hid (by rw [show 5 - (i + 1) = 4 - i by omega]; exact Hr2.out), Lib.hid (HU.out.below (drewN_below _ _)), HBq.out.drewN' _⟩
            case measure => simp [intOf]; omega
          · have g1 : (0 : Int) < (s.size : Int) := by omega
            have g2 : 0 < s.size := by omega
            have g3 : (1 : Int) ≤ (s.size : Int) := by omega
            have g4 : 1 ≤ s.size := by omega
            cases he : ((s.extract 0 1).toList == (uB i).toList)
            · have hne : ¬ (l ≠ [] ∧ l.take 1 = (uB i).data.toList) := by
                intro h
                rw [E1.out, h.2, ByteArray.toList_eq] at he
                simp at he
              have Hr2 := Lib.hid (by have h := Hr.out; rw [if_neg hne] at h; exact h)
              clear hne
              go_wp2_with go_quiet ((first | fail))
              go_roundw
              case rel => exact ⟨i + 1, by omega, by go_num, Lib.hid (by rw [show 5 - (i + 1) = 4 - i by omega]; exact Hr2.out), Lib.hid (HU.out.below (drewN_below _ _)), HBq.out.drewN' _⟩
              case measure => simp [intOf]; omega
            · have hyes : l ≠ [] ∧ l.take 1 = (uB i).data.toList := by
                refine ⟨?_, ?_⟩
                · intro h
                  have := HZ.out
                  rw [h] at this
                  exact h0 this.symm
                · rw [E1.out, ByteArray.toList_eq] at he
                  simpa using he
              have Hr2 := Lib.hid (by have h := Hr.out; rw [if_pos hyes] at h; exact h)
              clear hyes
              go_wp2_with go_quiet ((first | fail))
              go_ret
              exact ⟨by rw [← Hr2.out]; rfl, HBq.out.drewN' _⟩
        · have hr := hacc.out
          rw [show 5 - i = 0 by omega] at hr
          have Hr := Lib.hid hr
          have hi5 : ¬ (i : Int) < 5 := by omega
          clear hr hacc
          go_wp2_with fail
          go_ret
          exact ⟨by rw [← Hr.out]; rfl, hBq⟩
    · have f1 : ¬ (2 : Int) ≤ (s.size : Int) := by omega
      clear rest
      go_wp2_with (go_at_call 22; ((with_reducible refine (runits_any _).mono ?_); rintro e w' ⟨⟨B, p, c, C, q, d, rfl, hU⟩, hB⟩))
      go_loopw [5] (fun j wq => ∃ (i : Nat), i ≤ 5 ∧ j = .int .i64 i ∧ Hid (rux l (5 - i) = R) ∧ Hid (RU wq B p C q) ∧ Below w.heap.size w wq) (fun j _ => 5 - (intOf j).toNat)
      case atStart => exact ⟨0, by omega, rfl, HR, Lib.hid hU, hB⟩
      case round =>
        obtain ⟨i, hi, rfl, hacc, HU, hBq⟩ := hrel
        by_cases hlt : i < 5
        · have hn := HU.out.nm i (by omega)
          have hr := hacc.out
          rw [show 5 - i = (4 - i) + 1 by omega] at hr
          unfold rux at hr
          rw [show 4 - (4 - i) = i by omega, ← uB_list] at hr
          have Hr := Lib.hid hr
          have HBq := Lib.hid hBq
          have hi5 : (i : Int) < 5 := by omega
          have hi6 : (i : Int) < 6 := by omega
          clear hr hacc hBq
          by_cases h0 : s.size = 0
          · have g1 : ¬ (0 : Int) < (s.size : Int) := by omega
            have g2 : ¬ 0 < s.size := by omega
            have hne : ¬ (l ≠ [] ∧ l.take 1 = (uB i).data.toList) := by
              intro h
              apply h.1
              exact List.eq_nil_of_length_eq_zero (by rw [HZ.out]; exact h0)
            have Hr2 := Lib.hid (by have h := Hr.out; rw [if_neg hne] at h; exact h)
            clear hne
            go_wp2_with go_quiet ((first | fail))
            go_roundw
            case rel => exact ⟨i + 1, by omega, by go_num, Lib.hid (by rw [show 5 - (i + 1) = 4 - i by omega]; exact Hr2.out), Lib.hid (HU.out.below (drewN_below _ _)), HBq.out.drewN' _⟩
            case measure => simp [intOf]; omega
          · have g1 : (0 : Int) < (s.size : Int) := by omega
            have g2 : 0 < s.size := by omega
            have g3 : (1 : Int) ≤ (s.size : Int) := by omega
            have g4 : 1 ≤ s.size := by omega
            cases he : ((s.extract 0 1).toList == (uB i).toList)
            · have hne : ¬ (l ≠ [] ∧ l.take 1 = (uB i).data.toList) := by
                intro h
                rw [E1.out, h.2, ByteArray.toList_eq] at he
                simp at he
              have Hr2 := Lib.hid (by have h := Hr.out; rw [if_neg hne] at h; exact h)
              clear hne
              go_wp2_with go_quiet ((first | fail))
              go_roundw
              case rel => exact ⟨i + 1, by omega, by go_num, Lib.hid (by rw [show 5 - (i + 1) = 4 - i by omega]; exact Hr2.out), Lib.hid (HU.out.below (drewN_below _ _)), HBq.out.drewN' _⟩
              case measure => simp [intOf]; omega
            · have hyes : l ≠ [] ∧ l.take 1 = (uB i).data.toList := by
                refine ⟨?_, ?_⟩
                · intro h
                  have := HZ.out
                  rw [h] at this
                  exact h0 this.symm
                · rw [E1.out, ByteArray.toList_eq] at he
                  simpa using he
              have Hr2 := Lib.hid (by have h := Hr.out; rw [if_pos hyes] at h; exact h)
              clear hyes
              go_wp2_with go_quiet ((first | fail))
              go_ret
              exact ⟨by rw [← Hr2.out]; rfl, HBq.out.drewN' _⟩
        · have hr := hacc.out
          rw [show 5 - i = 0 by omega] at hr
          have Hr := Lib.hid hr
          have hi5 : ¬ (i : Int) < 5 := by omega
          clear hr hacc
          go_wp2_with fail
          go_ret
          exact ⟨by rw [← Hr.out]; rfl, hBq⟩
end Go.Proofs.YtdpcpnhkkedfcaaDoor
