/- The law FixedRows: walks. -/
import Derived.Test.YthbdgnmgdpbdjaaDoorProg
import Derived.WalkKit
import Derived.ProofKit
import Derived.OpenShut
import Derived.Outline
import Derived.WalkSpells
import Derived.WalkLawsBesides
import Derived.Deep.QuietTactic
import Derived.BigQuiet
import Derived.Lib.Hide
import Derived.Deep.DeepFit
import Derived.Deep.DeepMust

import Derived.Test.YthbdgnmgdpbdjaaDoorFixQ
import Derived.Laws.AppendOwnNone
namespace Go.Proofs.YthbdgnmgdpbdjaaDoor
open Go.ChangeShapes Go.WideShapes Go.ChangeAt Go.RowKit
set_option linter.unusedVariables false
set_option maxRecDepth 100000
theorem rsum_any (zs : List Int) (b off cap : Nat) (w : World) (hm : (zs.length : Int) ≤ 9223372036854775807) (hz : ∀ i, i < zs.length → w.cell? ⟨b, off + i, none⟩ = some (.int .i64 (zs.getD i 0))) :
    Calls Tryd.prog 26 #[.slice (some ⟨b, off, none⟩) zs.length cap] w fun e w' => e = .returned (.tuple #[.int .i64 (fSumFrom 0 zs).1, .int .i64 (fSumFrom 0 zs).2]) ∧ w = w' := by
  obtain ⟨res, hres⟩ : ∃ r, fSumFrom 0 zs = r := ⟨_, rfl⟩
  rw [hres]
  have Hres := Lib.hid hres
  have Hz := Lib.hid hz
  obtain ⟨len, hlen⟩ : ∃ len, zs.length = len := ⟨_, rfl⟩
  have Hlen := Lib.hid hlen
  rw [hlen] at hm ⊢
  clear hres hz hlen
  go_enter Tryd.func26, Tryd.ntmps26
  go_wp2_with fail
  go_loop [4, 5] (fun x i => ∃ (k : Nat) (acc : Int), k ≤ len ∧ i = .int .i64 k ∧ x = .int .i64 acc ∧ Hid (fSumFrom acc (zs.drop k) = res)) (fun _ i => len - (intOf i).toNat)
  case atStart => exact ⟨0, 0, Nat.zero_le _, rfl, rfl, Hres⟩
  case round =>
    obtain ⟨k, acc, hk, rfl, rfl, hacc⟩ := hrel
    by_cases hlt : k < len
    · have hcell := Hz.out k (by rw [Hlen.out]; exact hlt)
      have hd := drop_cons zs k (by rw [Hlen.out]; exact hlt)
      have hacc' := hacc.out
      rw [hd] at hacc'
      simp only [fSumFrom] at hacc'
      generalize zs.getD k 0 = n at *
      obtain ⟨s, hs⟩ : ∃ s, fAdd acc n = s := ⟨_, rfl⟩
      have hA : ∀ w, Calls Tryd.prog 14 #[.int .i64 acc, .int .i64 n] w fun e w' => e = .returned (.tuple #[.int .i64 s.1, .int .i64 s.2]) ∧ w = w' := by rw [← hs]; exact radd_any acc n
      rw [hs] at hacc'
      have HA := Lib.hid hA
      have Hacc' := Lib.hid hacc'
      clear hA hacc' hs hd hacc
      obtain ⟨s1, s2⟩ := s
      by_cases h2 : s2 = 0
      · subst h2
        go_wp2_with (first | (go_at_call 14; refine (HA.out _).mono ?_; rintro e w' ⟨rfl, rfl⟩))
        go_round
        case rel => exact ⟨k + 1, s1, by omega, by go_num, rfl, Lib.hid (by have := Hacc'.out; simpa using this)⟩
        case measure => simp [intOf]; omega
      · have e2 : (s2 != 0) = true := by simp [h2]
        have Hn := Lib.hid h2
        clear h2
        go_wp2_with (first | (go_at_call 14; refine (HA.out _).mono ?_; rintro e w' ⟨rfl, rfl⟩))
        go_ret2
        have := Hacc'.out
        rw [if_neg Hn.out] at this
        exact ⟨by rw [← this]; rfl, rfl⟩
    · have hke : k = len := by omega
      have h0 : zs.drop k = [] := by rw [List.drop_eq_nil_iff, Hlen.out]; omega
      have hacc' := hacc.out
      rw [h0] at hacc'
      have HH := Lib.hid hacc'
      clear h0 hacc' hke hacc
      go_wp2_with fail
      go_ret2
      exact ⟨by rw [← HH.out]; rfl, rfl⟩
theorem sum_zero (a : Option Addr) (cap : Nat) (w : World) :
    Calls Tryd.prog 25 #[.slice a 0 cap] w fun e w' => e = .returned (.tuple #[.int .i64 0, .int .i64 0]) ∧ w = w' := by
  go_enter Tryd.func25, Tryd.ntmps25
  go_wp2_with fail
  refine wp_loop_rounds 1 ?_
  rw [rounds_succ]
  go_wp2_with fail
  go_ret2
  exact ⟨rfl, rfl⟩
theorem rsum_zero (a : Option Addr) (cap : Nat) (w : World) :
    Calls Tryd.prog 26 #[.slice a 0 cap] w fun e w' => e = .returned (.tuple #[.int .i64 0, .int .i64 0]) ∧ w = w' := by
  go_enter Tryd.func26, Tryd.ntmps26
  go_wp2_with fail
  refine wp_loop_rounds 1 ?_
  rw [rounds_succ]
  go_wp2_with fail
  go_ret2
  exact ⟨rfl, rfl⟩
theorem infoInt : (Tryd.prog.info? 3).map (fun i => (i.zero, i.size, i.bytes)) = some (some (.int .i64 0), 1, 8) := by kernel_rfl
theorem own_some {w : World} {base e : Nat} {v : Value} {n : Nat} {xs : List Value} (h : w.ownsRow base e 1 v n xs) (hn : 0 < n) :
    ∃ g cap, v = .slice (some ⟨g, 0, none⟩) n cap ∧ ∀ j u, xs[j]? = some u → w.cell? ⟨g, 0 + j, none⟩ = some u := by
  have h2 := h.2
  rcases h2 with ⟨_, h0⟩ | ⟨g, cap, cur, hv, _⟩
  · omega
  · refine ⟨g, cap, hv, fun j u hu => ?_⟩
    have := h.cells (g := g) (by rw [hv]; rfl) j u hu
    have e : (⟨g, 0, none⟩ : Addr).add j = ⟨g, 0 + j, none⟩ := by unfold Addr.add; split <;> simp_all
    rw [← e]; exact this
theorem rows_some (zs : List Int) (b off cap len : Nat) (w : World) (ht : Tab w) (hl : zs.length = len) (h0 : 0 < len) (hreach : len * 8 ≤ 140737488351232) (hb : b < w.heap.size)
    (hz : ∀ i, i < zs.length → w.cell? ⟨b, off + i, none⟩ = some (.int .i64 (zs.getD i 0))) :
    Calls Tryd.prog 7 #[.slice (some ⟨b, off, none⟩) len cap] w fun e w' => e = .returned (.bool true) ∧ Below w.heap.size w w' := by
  obtain ⟨i0, hi, hz0, hz1, hz2⟩ := info_parts infoInt
  have HT := Lib.hid ht
  have HZ := Lib.hid hz
  have HL := Lib.hid hl
  have H0 := Lib.hid h0
  have HN := Lib.hid (show ∀ j u, (zs.map (Value.int .i64))[j]? = some u → (w.alloc (.cells #[] 3)).cell? ((⟨b, off, none⟩ : Addr).add j) = some u by
    intro j u hu
    rw [List.getElem?_map] at hu
    rcases hj : zs[j]? with _ | z
    · simp [hj] at hu
    · simp [hj] at hu
      have hlt : j < zs.length := (List.getElem?_eq_some_iff.1 hj).1
      have e : (⟨b, off, none⟩ : Addr).add j = ⟨b, off + j, none⟩ := by unfold Addr.add; split <;> simp_all
      rw [e, World.cell?_alloc_past _ _ _ hb, hz j hlt, ← hu]
      simp [hj])
  clear ht hz hl h0
  go_enter Tryd.func7, Tryd.ntmps7
  go_wp2_with (at_builtin; refine wpList_append_own _ rfl _ _ 33 rfl w.heap.size 3 i0 (.int .i64 0) 1 8 Tryd.underlying33 hi hz0 hz1 hz2 rfl (by decide) _ 0 [] rfl (World.ownsRow_made w #[] 0 (Nat.le_refl _) (by decide) (by decide)) ⟨b, off, none⟩ len cap (zs.map (Value.int .i64)) rfl ?c1 ?c2 ?c3 ?c4 ?c5 ?c6 ?_)
  case c1 => rw [List.length_map, HL.out, Nat.mul_one]
  case c2 => exact HN.out
  case c3 => intro u hu; obtain ⟨z, _, rfl⟩ := List.mem_map.1 hu; rfl
  case c4 => unfold maxLen; omega
  case c5 => omega
  case c6 => simp
  intro v' w1 hown hgrow _
  obtain ⟨g, cap', hv, hcells⟩ := own_some hown (by have := H0.out; omega)
  rw [hv]
  have hg : Below w.heap.size w w1 := ((Below.refl _ _).alloc (Nat.le_refl _) _).grown hgrow (by simp) (fun k hk => by simp [Value.ownBlock] at hk; omega)
  have HB := Lib.hid hg
  have HT1 := Lib.hid (HT.out.below hg)
  have HS := Lib.hid (sum_any zs g 0 cap' w1 (by rw [HL.out]; omega) (fun i hi => by
    have := hcells i (.int .i64 (zs.getD i 0)) (by simp [hi])
    simpa using this))
  have HR := Lib.hid (rsum_any zs b off cap w1 (by rw [HL.out]; omega) (fun i hi => by rw [hg.cell (p := ⟨b, off + i, none⟩) hb]; exact HZ.out i hi))
  rw [HL.out] at HS HR
  generalize fSumFrom 0 zs = s at HS HR
  obtain ⟨s1, s2⟩ := s
  clear hown hgrow hcells hg hv
  have HT := HT1
  go_wp2_with (first | (go_at_call 25; ((with_reducible refine (HS.out).mono ?_); rintro e w' ⟨rfl, rfl⟩)) | (go_at_call 26; ((with_reducible refine (HR.out).mono ?_); rintro e w' ⟨rfl, rfl⟩)) | (go_at_call 12; ((with_reducible refine (lives_any _ HT.out).mono ?_); rintro e w' ⟨rfl, hB⟩; have HT := Lib.hid (HT.out.below hB); have HB := Lib.hid (HB.out.trans (hB.mono HB.out.size)); clear hB)))
  go_ret
  exact ⟨rfl, HB.out⟩
theorem own_zero {w : World} {base e size : Nat} {v : Value} {xs : List Value} (h : w.ownsRow base e size v 0 xs) : ∃ a cap, v = .slice a 0 cap := by
  rcases h.2 with ⟨hv, _⟩ | ⟨g, cap, cur, hv, _⟩
  · exact ⟨_, _, hv⟩
  · exact ⟨_, _, hv⟩
theorem rows_nil (w : World) (ht : Tab w) :
    Calls Tryd.prog 7 #[.slice none 0 0] w fun e w' => e = .returned (.bool true) ∧ Below w.heap.size w w' := by
  obtain ⟨i0, hi, hz0, hz1, hz2⟩ := info_parts infoInt
  have hg : Below w.heap.size w (w.alloc (.cells #[] 3)) := (Below.refl _ _).alloc (Nat.le_refl _) _
  have HT := Lib.hid (ht.below hg)
  have HB := Lib.hid hg
  clear ht hg
  go_enter Tryd.func7, Tryd.ntmps7
  go_wp2_with (first | (at_builtin; refine wpList_append_own_none rfl _ _ 33 rfl w.heap.size 3 i0 1 Tryd.underlying33 hi _ 0 [] rfl (World.ownsRow_made w #[] 0 (Nat.le_refl _) (by decide) (by decide)) rfl ?_) | (go_at_call 25; ((with_reducible refine (sum_zero _ _ _).mono ?_); rintro e w' ⟨rfl, rfl⟩)) | (go_at_call 26; ((with_reducible refine (rsum_zero _ _ _).mono ?_); rintro e w' ⟨rfl, rfl⟩)) | (go_at_call 12; ((with_reducible refine (lives_any _ HT.out).mono ?_); rintro e w' ⟨rfl, hB⟩; have HT := Lib.hid (HT.out.below hB); have HB := Lib.hid (HB.out.trans (hB.mono HB.out.size)); clear hB)))
  go_ret
  exact ⟨rfl, HB.out⟩
theorem rows_zero (ad : Addr) (cap : Nat) (w : World) (ht : Tab w) :
    Calls Tryd.prog 7 #[.slice (some ad) 0 cap] w fun e w' => e = .returned (.bool true) ∧ Below w.heap.size w w' := by
  obtain ⟨i0, hi, hz0, hz1, hz2⟩ := info_parts infoInt
  have HT := Lib.hid ht
  clear ht
  go_enter Tryd.func7, Tryd.ntmps7
  go_wp2_with (at_builtin; refine wpList_append_own _ rfl _ _ 33 rfl w.heap.size 3 i0 (.int .i64 0) 1 8 Tryd.underlying33 hi hz0 hz1 hz2 rfl (by decide) _ 0 [] rfl (World.ownsRow_made w #[] 0 (Nat.le_refl _) (by decide) (by decide)) ad 0 cap [] rfl rfl ?c2 ?c3 ?c4 ?c5 ?c6 ?_)
  case c2 => intro j u hu; simp at hu
  case c3 => intro u hu; simp at hu
  case c4 => decide
  case c5 => decide
  case c6 => simp
  intro v' w1 hown hgrow _
  obtain ⟨a', cap', hv⟩ := own_zero hown
  rw [hv]
  have hg : Below w.heap.size w w1 := ((Below.refl _ _).alloc (Nat.le_refl _) _).grown hgrow (by simp) (fun k hk => by simp [Value.ownBlock] at hk; omega)
  have HB := Lib.hid hg
  have HT := Lib.hid (HT.out.below hg)
  clear hown hgrow hg hv
  go_wp2_with (first | (go_at_call 25; ((with_reducible refine (sum_zero _ _ _).mono ?_); rintro e w' ⟨rfl, rfl⟩)) | (go_at_call 26; ((with_reducible refine (rsum_zero _ _ _).mono ?_); rintro e w' ⟨rfl, rfl⟩)) | (go_at_call 12; ((with_reducible refine (lives_any _ HT.out).mono ?_); rintro e w' ⟨rfl, hB⟩; have HT := Lib.hid (HT.out.below hB); have HB := Lib.hid (HB.out.trans (hB.mono HB.out.size)); clear hB)))
  go_ret
  exact ⟨rfl, HB.out⟩
end Go.Proofs.YthbdgnmgdpbdjaaDoor
