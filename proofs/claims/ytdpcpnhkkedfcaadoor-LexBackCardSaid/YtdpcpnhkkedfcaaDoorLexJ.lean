/- Layer 15 over layer 3: a text that holds a byte that is no digit, no point, and begins with no minus is no number (fixed.Parse refuses it); and how many bytes of a text a numeral takes. -/
import Derived.Test.YtdpcpnhkkedfcaaDoorProg
import Derived.WalkKit
import Derived.ProofKit
import Derived.OpenShut
import Derived.Outline
import Derived.WalkSpells
import Derived.WalkLawsBesides
import Derived.Deep.QuietTactic
import Derived.BigQuiet
import Derived.Lib.Hide
import Derived.Deep.DeepFit
import Derived.Deep.DeepMust

import Derived.Lib.Strings
import Derived.Test.YtdpcpnhkkedfcaaDoorLexT
namespace Go.Proofs.YtdpcpnhkkedfcaaDoor
open Go.ChangeShapes Go.WideShapes Go.ChangeAt Go.RowKit
set_option linter.unusedVariables false
set_option maxRecDepth 100000
theorem plain_no (s : ByteArray) (hs : s.size ≤ 281474976710656) (hno : pre isDig s.data.toList < s.size) (w : World) :
    Calls Tryd.prog 52 #[.string s] w fun e w' => e = .returned (.bool false) ∧ w = w' := by
  obtain ⟨res, hres⟩ : ∃ r, pre isDig s.data.toList = r := ⟨_, rfl⟩
  rw [hres] at hno
  have Hres : Hid (0 + pre isDig (s.data.toList.drop 0) = res) := Lib.hid (by simpa using hres)
  obtain ⟨len, hlen⟩ : ∃ len, s.size = len := ⟨_, rfl⟩
  have HL := Lib.hid hlen
  have HZ := Lib.hid (size_len s)
  rw [hlen] at hs hno
  clear hres hlen
  go_enter Tryd.func52, Tryd.ntmps52
  go_wp2_with fail
  go_loop [6] (fun i => ∃ (k : Nat), k < len ∧ i = .int .i64 k ∧ Hid (k + pre isDig (s.data.toList.drop k) = res)) (fun i => len - (intOf i).toNat)
  case atStart => exact ⟨0, by omega, rfl, Hres⟩
  case round =>
    obtain ⟨k, hlt, rfl, hacc⟩ := hrel
    have hd := drop_cons8 s.data.toList k (by rw [HZ.out, HL.out]; exact hlt)
    have hb := byte_getD s k (by rw [HL.out]; exact hlt)
    have hacc' := hacc.out
    rw [hd] at hacc'
    unfold pre at hacc'
    generalize s.data.toList.getD k 0 = c at *
    have hc : c.toNat < 256 := c.toNat_lt
    have Hacc := Lib.hid hacc'
    have hki : (k : Int) < (s.size : Int) := by rw [HL.out]; omega
    have hki2 : k < s.size := by rw [HL.out]; exact hlt
    clear hd hacc hacc'
    cases hp : isDig c.toNat
    · have hq : c.toNat < 48 ∨ 57 < c.toNat := by
        simp only [isDig, Bool.and_eq_false_iff, decide_eq_false_iff_not] at hp
        omega
      clear hp
      rcases Nat.lt_or_ge c.toNat 48 with hq1 | hq1
      · go_wp2_with fail
        go_ret
        exact ⟨rfl, rfl⟩
      · have hq2 : 57 < c.toNat := by omega
        clear hq
        go_wp2_with fail
        go_ret
        exact ⟨rfl, rfl⟩
    · have hq := (isDig_iff _).1 hp
      obtain ⟨hq1, hq2⟩ := hq
      have Hp := Lib.hid hp
      clear hp
      go_wp2_with fail
      go_round
      case rel =>
        have h := Hacc.out
        rw [Hp.out] at h
        simp at h
        refine ⟨k + 1, by omega, by go_num, Lib.hid (by omega)⟩
      case measure => simp [intOf]; omega
theorem cutp_no (s : ByteArray) (h0 : s.data.toList.head? ≠ some 45) (w : World) :
    Calls Tryd.prog 50 #[.string s, .string ⟨#[45]⟩] w fun e w' => e = .returned (.tuple #[.string s, .bool false]) ∧ w = w' := by
  have h := Tryd.strings_CutPrefix s ⟨#[45]⟩ w
  have hh : Lib.hasPrefix s.data.toList [45] = false := by
    cases hl : s.data.toList with
    | nil => rfl
    | cons a r =>
      rw [hl] at h0
      simp [Lib.hasPrefix, List.isPrefixOf] at h0 ⊢
      exact fun h => h0 h.symm
  have ht : Lib.trimPrefix s.data.toList [45] = s.data.toList := by simp [Lib.trimPrefix, hh]
  refine h.mono ?_
  rintro e w' ⟨rfl, rfl⟩
  refine ⟨?_, rfl⟩
  show Ending.returned (.tuple #[.string ⟨(Lib.trimPrefix s.data.toList [45]).toArray⟩, .bool (Lib.hasPrefix s.data.toList [45])]) = _
  rw [ht, hh]
theorem index_no (s : ByteArray) (hd : Lib.indexByte s.data.toList 46 = -1) (w : World) :
    Calls Tryd.prog 79 #[.string s, .string ⟨#[46]⟩] w fun e w' => e = .returned (.int .i64 (-1)) ∧ w = w' := by
  refine (Tryd.stringslite_Index_one s 46 w).mono ?_
  rintro e w' ⟨rfl, rfl⟩
  exact ⟨by rw [hd], rfl⟩
theorem cut1_no (s : ByteArray) (hd : Lib.indexByte s.data.toList 46 = -1) (w : World) :
    Calls Tryd.prog 65 #[.string s, .string ⟨#[46]⟩] w fun e w' => e = .returned (.tuple #[.string s, .string ⟨#[]⟩, .bool false]) ∧ w = w' := by
  go_enter Tryd.func65, Tryd.ntmps65
  go_wp2_with (go_at_call 79; ((with_reducible refine (index_no _ hd _).mono ?_); rintro e w' ⟨rfl, rfl⟩))
  go_ret3
  exact ⟨rfl, rfl⟩
theorem cut_no (s : ByteArray) (hd : Lib.indexByte s.data.toList 46 = -1) (w : World) :
    Calls Tryd.prog 51 #[.string s, .string ⟨#[46]⟩] w fun e w' => e = .returned (.tuple #[.string s, .string ⟨#[]⟩, .bool false]) ∧ w = w' := by
  go_enter Tryd.func51, Tryd.ntmps51
  go_wp2_with (go_at_call 65; ((with_reducible refine (cut1_no _ hd _).mono ?_); rintro e w' ⟨rfl, rfl⟩))
  go_ret3
  exact ⟨rfl, rfl⟩
theorem parse_no (s : ByteArray) (hs : s.size ≤ 281474976710656) (h0 : s.data.toList.head? ≠ some 45) (hd : Lib.indexByte s.data.toList 46 = -1) (hno : pre isDig s.data.toList < s.size) (w : World) :
    Calls Tryd.prog 39 #[.string s] w fun e w' => e = .returned (.tuple #[.int .i64 0, .int .i64 14]) ∧ w = w' := by
  go_enter Tryd.func39, Tryd.ntmps39
  go_wp2_with first | (go_at_call 50; ((with_reducible refine (cutp_no _ h0 _).mono ?_); rintro e w' ⟨rfl, rfl⟩)) | (go_at_call 51; ((with_reducible refine (cut_no _ hd _).mono ?_); rintro e w' ⟨rfl, rfl⟩)) | (go_at_call 52; ((with_reducible refine (plain_no _ hs hno _).mono ?_); rintro e w' ⟨rfl, rfl⟩))
  go_ret2
  exact ⟨rfl, rfl⟩
end Go.Proofs.YtdpcpnhkkedfcaaDoor
