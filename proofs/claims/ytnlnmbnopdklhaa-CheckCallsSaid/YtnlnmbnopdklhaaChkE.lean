/- The reference's Same of two lists of numbers. -/
import Derived.Test.YtnlnmbnopdklhaaProg
import Derived.WalkKit
import Derived.ProofKit
import Derived.OpenShut
import Derived.Outline
import Derived.WalkSpells
import Derived.WalkLawsBesides
import Derived.Deep.QuietTactic
import Derived.BigQuiet
import Derived.Lib.Hide
import Derived.Deep.DeepFit
import Derived.Deep.DeepMust

import Derived.Test.YtnlnmbnopdklhaaChkD
namespace Go.Proofs.Ytnlnmbnopdklhaa
open Go.ChangeShapes Go.WideShapes Go.ChangeAt Go.RowKit
set_option linter.unusedVariables false
set_option maxRecDepth 100000
theorem _root_.Go.RowKit.Below.drewN' {B : Nat} {a w : World} (h : Below B a w) (n : Nat) : Below B a (w.drewN n) := below_drewN h n
theorem drop_consI (zs : List Int) (k : Nat) (h : k < zs.length) : zs.drop k = zs.getD k 0 :: zs.drop (k + 1) := by
  rw [List.drop_eq_getElem_cons h]; simp [h]
theorem same_len (a b : Option Addr) (n m c d : Nat) (w : World) (h : n ≠ m) :
    Calls Try.prog 17 #[.slice a n c, .slice b m d] w fun e w' => e = .returned (.bool false) ∧ w = w' := by
  have h1 : ((n : Int) != (m : Int)) = true := by simp; omega
  have h2 : (n != m) = true := by simp; omega
  go_enter Try.func17, Try.ntmps17
  go_wp2_with fail
  go_ret
  exact ⟨rfl, rfl⟩
theorem same_some (xs ys : List Int) (a o c b p d : Nat) (w : World) (ha : a < w.heap.size) (hb : b < w.heap.size) (hl : xs.length = ys.length) (hm : (xs.length : Int) ≤ 9223372036854775807)
    (hx : ∀ i, i < xs.length → w.cell? ⟨a, o + i, none⟩ = some (.int .i64 (xs.getD i 0)))
    (hy : ∀ i, i < ys.length → w.cell? ⟨b, p + i, none⟩ = some (.int .i64 (ys.getD i 0))) :
    Calls Try.prog 17 #[.slice (some ⟨a, o, none⟩) xs.length c, .slice (some ⟨b, p, none⟩) ys.length d] w fun e w' => e = .returned (.bool (decide (xs = ys))) ∧ Below w.heap.size w w' := by
  rw [← hl] at hy ⊢
  have HA := Lib.hid ha
  have HB' := Lib.hid hb
  have HX := Lib.hid hx
  have HY := Lib.hid hy
  have HL' := Lib.hid hl
  obtain ⟨res, hres⟩ : ∃ r, decide (xs = ys) = r := ⟨_, rfl⟩
  rw [hres]
  have Hres : Hid (decide (xs.drop 0 = ys.drop 0) = res) := Lib.hid (by simpa using hres)
  obtain ⟨len, hlen⟩ : ∃ len, xs.length = len := ⟨_, rfl⟩
  have HL := Lib.hid hlen
  rw [hlen] at hm ⊢
  clear hres hx hy hl hlen ha hb
  go_enter Try.func17, Try.ntmps17
  go_wp2_with fail
  go_loopw [5] (fun i wr => ∃ (k : Nat), k ≤ len ∧ i = .int .i64 k ∧ Hid (decide (xs.drop k = ys.drop k) = res) ∧ Below w.heap.size w wr) (fun i _ => len - (intOf i).toNat)
  case atStart => exact ⟨0, Nat.zero_le _, rfl, Hres, Below.refl _ _⟩
  case round =>
    obtain ⟨k, hk, rfl, hacc, hBl⟩ := hrel
    by_cases hlt : k < len
    · have hcx := (hBl.cell (p := ⟨a, o + k, none⟩) HA.out).trans (HX.out k (by rw [HL.out]; exact hlt))
      have hcy := (hBl.cell (p := ⟨b, p + k, none⟩) HB'.out).trans (HY.out k (by rw [HL.out]; exact hlt))
      have hdx := drop_consI xs k (by rw [HL.out]; exact hlt)
      have hdy := drop_consI ys k (by rw [← HL'.out, HL.out]; exact hlt)
      have hacc' := hacc.out
      rw [hdx, hdy] at hacc'
      generalize xs.getD k 0 = x at *
      generalize ys.getD k 0 = y at *
      have Hacc' := Lib.hid hacc'
      have HBl := Lib.hid hBl
      have hki : (k : Int) < (len : Int) := by omega
      clear hdx hdy hacc hacc' hBl
      by_cases hxy : x = y
      · subst hxy
        have h1 : (x != x) = false := by simp
        go_wp2_with go_quiet ((first | fail))
        go_roundw
        case rel => exact ⟨k + 1, by omega, by go_num, Lib.hid (by have := Hacc'.out; simpa using this), HBl.out.drewN' _⟩
        case measure => simp [intOf]; omega
      · have h1 : (x != y) = true := by simp [hxy]
        have HXY := Lib.hid hxy
        clear hxy
        go_wp2_with go_quiet ((first | fail))
        go_ret
        have := Hacc'.out
        exact ⟨by rw [← this]; simp [HXY.out], HBl.out.drewN' _⟩
    · have hke : k = len := by omega
      have h0 : xs.drop k = [] := by rw [List.drop_eq_nil_iff, HL.out]; omega
      have h0' : ys.drop k = [] := by rw [List.drop_eq_nil_iff, ← HL'.out, HL.out]; omega
      have hacc' := hacc.out
      rw [h0, h0'] at hacc'
      have HH := Lib.hid hacc'
      have HBl := Lib.hid hBl
      clear h0 h0' hacc' hke hacc hBl
      go_wp2_with fail
      go_ret
      exact ⟨by rw [← HH.out]; rfl, HBl.out⟩
end Go.Proofs.Ytnlnmbnopdklhaa
