/- The reference's 'in': is a text one of some. -/
import Derived.Test.YtnlnmbnopdklhaaProg
import Derived.WalkKit
import Derived.ProofKit
import Derived.OpenShut
import Derived.Outline
import Derived.WalkSpells
import Derived.WalkLawsBesides
import Derived.Deep.QuietTactic
import Derived.BigQuiet
import Derived.Lib.Hide
import Derived.Deep.DeepFit
import Derived.Deep.DeepMust

namespace Go.Proofs.Ytnlnmbnopdklhaa
open Go.ChangeShapes Go.WideShapes Go.ChangeAt Go.RowKit
set_option linter.unusedVariables false
set_option maxRecDepth 100000
theorem drop_consB (zs : List ByteArray) (i : Nat) (h : i < zs.length) : zs.drop i = zs.getD i ByteArray.empty :: zs.drop (i + 1) := by
  rw [List.drop_eq_getElem_cons h]; congr 1; simp [List.getD, h]
/-- Is a text one of a list? -/
def oneB (s : ByteArray) (zs : List ByteArray) : Bool := zs.any (fun x => x.toList == s.toList)
theorem in_any (s : ByteArray) (zs : List ByteArray) (b off cap : Nat) (w : World) (hm : (zs.length : Int) ≤ 9223372036854775807) (hz : ∀ i, i < zs.length → w.cell? ⟨b, off + i, none⟩ = some (.string (zs.getD i ByteArray.empty))) :
    Calls Try.prog 26 #[.string s, .slice (some ⟨b, off, none⟩) zs.length cap] w fun e w' => e = .returned (.bool (oneB s zs)) ∧ w = w' := by
  obtain ⟨res, hres⟩ : ∃ r, oneB s zs = r := ⟨_, rfl⟩
  rw [hres]
  have Hres := Lib.hid hres
  have Hz := Lib.hid hz
  obtain ⟨len, hlen⟩ : ∃ len, zs.length = len := ⟨_, rfl⟩
  have Hlen := Lib.hid hlen
  rw [hlen] at hm ⊢
  clear hres hz hlen
  go_enter Try.func26, Try.ntmps26
  go_wp2_with fail
  go_loop [5] (fun i => ∃ (k : Nat), k ≤ len ∧ i = .int .i64 k ∧ Hid (oneB s (zs.drop k) = res)) (fun i => len - (intOf i).toNat)
  case atStart => exact ⟨0, Nat.zero_le _, rfl, Hres⟩
  case round =>
    obtain ⟨k, hk, rfl, hacc⟩ := hrel
    by_cases hlt : k < len
    · have hcell := Hz.out k (by rw [Hlen.out]; exact hlt)
      have hd := drop_consB zs k (by rw [Hlen.out]; exact hlt)
      have hacc' := hacc.out
      rw [hd] at hacc'
      simp only [oneB, List.any_cons] at hacc'
      generalize zs.getD k ByteArray.empty = n at *
      have Hacc' := Lib.hid hacc'
      clear hd hacc hacc'
      cases he : (n.toList == s.toList)
      · go_wp2_with fail
        go_round
        case rel => exact ⟨k + 1, by omega, by go_num, Lib.hid (by have := Hacc'.out; rw [he] at this; simpa [oneB] using this)⟩
        case measure => simp [intOf]; omega
      · go_wp2_with fail
        go_ret
        have := Hacc'.out
        rw [he] at this
        exact ⟨by rw [← this]; rfl, rfl⟩
    · have hke : k = len := by omega
      have h0 : zs.drop k = [] := by rw [List.drop_eq_nil_iff, Hlen.out]; omega
      have hacc' := hacc.out
      rw [h0] at hacc'
      have HH := Lib.hid hacc'
      clear h0 hacc' hke hacc
      go_wp2_with fail
      go_ret
      exact ⟨by rw [← HH.out]; rfl, rfl⟩
theorem in_anyN (s : ByteArray) (zs : List ByteArray) (n : Nat) (a : Addr) (ha : a.spot = none) (hn : zs.length = n) (cap : Nat) (w : World) (hm : (n : Int) ≤ 9223372036854775807) (hz : ∀ i, i < n → w.cell? ⟨a.block, a.off + i, none⟩ = some (.string (zs.getD i ByteArray.empty))) :
    Calls Try.prog 26 #[.string s, .slice (some a) n cap] w fun e w' => e = .returned (.bool (oneB s zs)) ∧ w = w' := by
  subst hn
  obtain ⟨b, off, pl⟩ := a
  cases ha
  exact in_any s zs b off cap w hm hz
end Go.Proofs.Ytnlnmbnopdklhaa
