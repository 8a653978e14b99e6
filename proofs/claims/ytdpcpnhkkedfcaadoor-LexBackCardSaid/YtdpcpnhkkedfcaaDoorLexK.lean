/- Layer 15: how many bytes of a text a numeral takes. -/
import Derived.Test.YtdpcpnhkkedfcaaDoorProg
import Derived.WalkKit
import Derived.ProofKit
import Derived.OpenShut
import Derived.Outline
import Derived.WalkSpells
import Derived.WalkLawsBesides
import Derived.Deep.QuietTactic
import Derived.BigQuiet
import Derived.Lib.Hide
import Derived.Deep.DeepFit
import Derived.Deep.DeepMust

import Derived.Lib.Strings
import Derived.Test.YtdpcpnhkkedfcaaDoorLexB
namespace Go.Proofs.YtdpcpnhkkedfcaaDoor
open Go.ChangeShapes Go.WideShapes Go.ChangeAt Go.RowKit
set_option linter.unusedVariables false
set_option maxRecDepth 100000
def isNum (c : Nat) : Bool := isDig c || isLet c || decide (c = 46)
theorem num_any (c : Nat) (hc : c < 256) (w : World) : Calls Tryd.prog 38 #[.int .u8 c] w fun e w' => e = .returned (.bool (isNum c)) ∧ w = w' := by
  cases h1 : isDig c
  · cases h2 : isLet c
    · have hd : ∀ w, Calls Tryd.prog 18 #[.int .u8 c] w fun e w' => e = .returned (.bool false) ∧ w = w' := fun w => by rw [← h1]; exact digit_any c hc w
      have hl : ∀ w, Calls Tryd.prog 19 #[.int .u8 c] w fun e w' => e = .returned (.bool false) ∧ w = w' := fun w => by rw [← h2]; exact letter_any c hc w
      go_enter Tryd.func38, Tryd.ntmps38
      go_wp2_with first | (go_at_call 18; ((with_reducible refine (hd _).mono ?_); rintro e w' ⟨rfl, rfl⟩)) | (go_at_call 19; ((with_reducible refine (hl _).mono ?_); rintro e w' ⟨rfl, rfl⟩))
      all_goals (go_ret; exact ⟨ret_bool (by rw [Bool.eq_iff_iff]; simp [isNum, h1, h2]; try omega), rfl⟩)
    · have hd : ∀ w, Calls Tryd.prog 18 #[.int .u8 c] w fun e w' => e = .returned (.bool false) ∧ w = w' := fun w => by rw [← h1]; exact digit_any c hc w
      have hl : ∀ w, Calls Tryd.prog 19 #[.int .u8 c] w fun e w' => e = .returned (.bool true) ∧ w = w' := fun w => by rw [← h2]; exact letter_any c hc w
      go_enter Tryd.func38, Tryd.ntmps38
      go_wp2_with first | (go_at_call 18; ((with_reducible refine (hd _).mono ?_); rintro e w' ⟨rfl, rfl⟩)) | (go_at_call 19; ((with_reducible refine (hl _).mono ?_); rintro e w' ⟨rfl, rfl⟩))
      all_goals (go_ret; exact ⟨ret_bool (by simp [isNum, h1, h2]), rfl⟩)
  · have hd : ∀ w, Calls Tryd.prog 18 #[.int .u8 c] w fun e w' => e = .returned (.bool true) ∧ w = w' := fun w => by rw [← h1]; exact digit_any c hc w
    go_enter Tryd.func38, Tryd.ntmps38
    go_wp2_with first | (go_at_call 18; ((with_reducible refine (hd _).mono ?_); rintro e w' ⟨rfl, rfl⟩))
    all_goals (go_ret; exact ⟨ret_bool (by simp [isNum, h1]), rfl⟩)
theorem prefix_num (s : ByteArray) (hs : s.size ≤ 281474976710656) (w : World) :
    Calls Tryd.prog 17 #[.string s, .func (.func 38) #[] #[]] w fun e w' => e = .returned (.int .i64 (pre isNum s.data.toList : Nat)) ∧ w = w' := by
  obtain ⟨res, hres⟩ : ∃ r, pre isNum s.data.toList = r := ⟨_, rfl⟩
  rw [hres]
  have Hres : Hid (0 + pre isNum (s.data.toList.drop 0) = res) := Lib.hid (by simpa using hres)
  obtain ⟨len, hlen⟩ : ∃ len, s.size = len := ⟨_, rfl⟩
  have HL := Lib.hid hlen
  have HZ := Lib.hid (size_len s)
  rw [hlen] at hs
  clear hres hlen
  go_enter Tryd.func17, Tryd.ntmps17
  go_wp2_with fail
  go_loop [5] (fun i => ∃ (k : Nat), k ≤ len ∧ i = .int .i64 k ∧ Hid (k + pre isNum (s.data.toList.drop k) = res)) (fun i => len - (intOf i).toNat)
  case atStart => exact ⟨0, Nat.zero_le _, rfl, Hres⟩
  case round =>
    obtain ⟨k, hk, rfl, hacc⟩ := hrel
    by_cases hlt : k < len
    · have hd := drop_cons8 s.data.toList k (by rw [HZ.out, HL.out]; exact hlt)
      have hb := byte_getD s k (by rw [HL.out]; exact hlt)
      have hacc' := hacc.out
      rw [hd] at hacc'
      unfold pre at hacc'
      generalize s.data.toList.getD k 0 = c at *
      have hc : c.toNat < 256 := c.toNat_lt
      have Hacc := Lib.hid hacc'
      have hki : (k : Int) < (s.size : Int) := by rw [HL.out]; omega
      have hki2 : k < s.size := by rw [HL.out]; exact hlt
      clear hd hacc hacc'
      cases hp : isNum c.toNat
      · go_wp2_with (go_at_call 38; ((with_reducible refine (num_any _ hc _).mono ?_); rintro e w' ⟨rfl, rfl⟩))
        go_ret
        have h := Hacc.out
        rw [hp] at h
        exact ⟨ret_int (by simp at h; omega), rfl⟩
      · go_wp2_with (go_at_call 38; ((with_reducible refine (num_any _ hc _).mono ?_); rintro e w' ⟨rfl, rfl⟩))
        go_round
        case rel =>
          refine ⟨k + 1, by omega, by go_num, Lib.hid ?_⟩
          have h := Hacc.out
          rw [hp] at h
          simp at h
          omega
        case measure => simp [intOf]; omega
    · have hke : k = len := by omega
      have hki : decide ((k : Int) < (s.size : Int)) = false := by rw [HL.out]; simp; omega
      have hkn : decide (k < s.size) = false := by rw [HL.out]; simp; omega
      have hkp : ¬ k < s.size := by rw [HL.out]; exact hlt
      have h0 : s.data.toList.drop k = [] := by rw [List.drop_eq_nil_iff, HZ.out, HL.out]; omega
      have h := hacc.out
      rw [h0] at h
      have HH := Lib.hid h
      clear h0 h hacc
      go_wp2_with fail
      go_ret
      exact ⟨ret_int (by have := HH.out; simp [pre] at this; omega), rfl⟩
end Go.Proofs.YtdpcpnhkkedfcaaDoor
