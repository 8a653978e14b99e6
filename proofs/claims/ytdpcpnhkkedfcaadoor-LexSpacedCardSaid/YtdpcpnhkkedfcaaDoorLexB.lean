/- Layer 15: lex.prefix tells how many bytes of a text are in a class from its front on. -/
import Derived.Test.YtdpcpnhkkedfcaaDoorProg
import Derived.WalkKit
import Derived.ProofKit
import Derived.OpenShut
import Derived.Outline
import Derived.WalkSpells
import Derived.WalkLawsBesides
import Derived.Deep.QuietTactic
import Derived.BigQuiet
import Derived.Lib.Hide
import Derived.Deep.DeepFit
import Derived.Deep.DeepMust

import Derived.Lib.Strings
import Derived.Test.YtdpcpnhkkedfcaaDoorLexA
namespace Go.Proofs.YtdpcpnhkkedfcaaDoor
open Go.ChangeShapes Go.WideShapes Go.ChangeAt Go.RowKit
set_option linter.unusedVariables false
set_option maxRecDepth 100000
theorem ret_int {k : IntKind} {a b : Int} (h : a = b) : Ending.returned (.int k a) = .returned (.int k b) := by rw [h]
theorem prefix_digit (s : ByteArray) (hs : s.size ≤ 281474976710656) (w : World) :
    Calls Tryd.prog 17 #[.string s, .func (.func 18) #[] #[]] w fun e w' => e = .returned (.int .i64 (pre isDig s.data.toList : Nat)) ∧ w = w' := by
  obtain ⟨res, hres⟩ : ∃ r, pre isDig s.data.toList = r := ⟨_, rfl⟩
  rw [hres]
  have Hres : Hid (0 + pre isDig (s.data.toList.drop 0) = res) := Lib.hid (by simpa using hres)
  obtain ⟨len, hlen⟩ : ∃ len, s.size = len := ⟨_, rfl⟩
  have HL := Lib.hid hlen
  have HZ := Lib.hid (size_len s)
  rw [hlen] at hs
  clear hres hlen
  go_enter Tryd.func17, Tryd.ntmps17
  go_wp2_with fail
  go_loop [5] (fun i => ∃ (k : Nat), k ≤ len ∧ i = .int .i64 k ∧ Hid (k + pre isDig (s.data.toList.drop k) = res)) (fun i => len - (intOf i).toNat)
  case atStart => exact ⟨0, Nat.zero_le _, rfl, Hres⟩
  case round =>
    obtain ⟨k, hk, rfl, hacc⟩ := hrel
    by_cases hlt : k < len
    · have hd := drop_cons8 s.data.toList k (by rw [HZ.out, HL.out]; exact hlt)
      have hb := byte_getD s k (by rw [HL.out]; exact hlt)
      have hacc' := hacc.out
      rw [hd] at hacc'
      unfold pre at hacc'
      generalize s.data.toList.getD k 0 = c at *
      have hc : c.toNat < 256 := c.toNat_lt
      have Hacc := Lib.hid hacc'
      have hki : (k : Int) < (s.size : Int) := by rw [HL.out]; omega
      have hki2 : k < s.size := by rw [HL.out]; exact hlt
      clear hd hacc hacc'
      cases hp : isDig c.toNat
      · go_wp2_with (go_at_call 18; ((with_reducible refine (digit_any _ hc _).mono ?_); rintro e w' ⟨rfl, rfl⟩))
        go_ret
        have h := Hacc.out
        rw [hp] at h
        exact ⟨ret_int (by simp at h; omega), rfl⟩
      · go_wp2_with (go_at_call 18; ((with_reducible refine (digit_any _ hc _).mono ?_); rintro e w' ⟨rfl, rfl⟩))
        go_round
        case rel =>
          refine ⟨k + 1, by omega, by go_num, Lib.hid ?_⟩
          have h := Hacc.out
          rw [hp] at h
          simp at h
          omega
        case measure => simp [intOf]; omega
    · have hke : k = len := by omega
      have hki : decide ((k : Int) < (s.size : Int)) = false := by rw [HL.out]; simp; omega
      have hkn : decide (k < s.size) = false := by rw [HL.out]; simp; omega
      have hkp : ¬ k < s.size := by rw [HL.out]; exact hlt
      have h0 : s.data.toList.drop k = [] := by rw [List.drop_eq_nil_iff, HZ.out, HL.out]; omega
      have h := hacc.out
      rw [h0] at h
      have HH := Lib.hid h
      clear h0 h hacc
      go_wp2_with fail
      go_ret
      exact ⟨ret_int (by have := HH.out; simp [pre] at this; omega), rfl⟩
theorem prefix_letter (s : ByteArray) (hs : s.size ≤ 281474976710656) (w : World) :
    Calls Tryd.prog 17 #[.string s, .func (.func 19) #[] #[]] w fun e w' => e = .returned (.int .i64 (pre isLet s.data.toList : Nat)) ∧ w = w' := by
  obtain ⟨res, hres⟩ : ∃ r, pre isLet s.data.toList = r := ⟨_, rfl⟩
  rw [hres]
  have Hres : Hid (0 + pre isLet (s.data.toList.drop 0) = res) := Lib.hid (by simpa using hres)
  obtain ⟨len, hlen⟩ : ∃ len, s.size = len := ⟨_, rfl⟩
  have HL := Lib.hid hlen
  have HZ := Lib.hid (size_len s)
  rw [hlen] at hs
  clear hres hlen
  go_enter Tryd.func17, Tryd.ntmps17
  go_wp2_with fail
  go_loop [5] (fun i => ∃ (k : Nat), k ≤ len ∧ i = .int .i64 k ∧ Hid (k + pre isLet (s.data.toList.drop k) = res)) (fun i => len - (intOf i).toNat)
  case atStart => exact ⟨0, Nat.zero_le _, rfl, Hres⟩
  case round =>
    obtain ⟨k, hk, rfl, hacc⟩ := hrel
    by_cases hlt : k < len
    · have hd := drop_cons8 s.data.toList k (by rw [HZ.out, HL.out]; exact hlt)
      have hb := byte_getD s k (by rw [HL.out]; exact hlt)
      have hacc' := hacc.out
      rw [hd] at hacc'
      unfold pre at hacc'
      generalize s.data.toList.getD k 0 = c at *
      have hc : c.toNat < 256 := c.toNat_lt
      have Hacc := Lib.hid hacc'
      have hki : (k : Int) < (s.size : Int) := by rw [HL.out]; omega
      have hki2 : k < s.size := by rw [HL.out]; exact hlt
      clear hd hacc hacc'
      cases hp : isLet c.toNat
      · go_wp2_with (go_at_call 19; ((with_reducible refine (letter_any _ hc _).mono ?_); rintro e w' ⟨rfl, rfl⟩))
        go_ret
        have h := Hacc.out
        rw [hp] at h
        exact ⟨ret_int (by simp at h; omega), rfl⟩
      · go_wp2_with (go_at_call 19; ((with_reducible refine (letter_any _ hc _).mono ?_); rintro e w' ⟨rfl, rfl⟩))
        go_round
        case rel =>
          refine ⟨k + 1, by omega, by go_num, Lib.hid ?_⟩
          have h := Hacc.out
          rw [hp] at h
          simp at h
          omega
        case measure => simp [intOf]; omega
    · have hke : k = len := by omega
      have hki : decide ((k : Int) < (s.size : Int)) = false := by rw [HL.out]; simp; omega
      have hkn : decide (k < s.size) = false := by rw [HL.out]; simp; omega
      have hkp : ¬ k < s.size := by rw [HL.out]; exact hlt
      have h0 : s.data.toList.drop k = [] := by rw [List.drop_eq_nil_iff, HZ.out, HL.out]; omega
      have h := hacc.out
      rw [h0] at h
      have HH := Lib.hid h
      clear h0 h hacc
      go_wp2_with fail
      go_ret
      exact ⟨ret_int (by have := HH.out; simp [pre] at this; omega), rfl⟩
end Go.Proofs.YtdpcpnhkkedfcaaDoor
