/- Layer 15: Scan of a text that is one duration: that token, and the end. -/
import Derived.Test.YtdpcpnhkkedfcaaDoorProg
import Derived.WalkKit
import Derived.ProofKit
import Derived.OpenShut
import Derived.Outline
import Derived.WalkSpells
import Derived.WalkLawsBesides
import Derived.Deep.QuietTactic
import Derived.BigQuiet
import Derived.Lib.Hide
import Derived.Deep.DeepFit
import Derived.Deep.DeepMust

import Derived.Deep.AppendLies
import Derived.OwnWalk
import Derived.LoopN
import Derived.Test.YtdpcpnhkkedfcaaDoorLexV
namespace Go.Proofs.YtdpcpnhkkedfcaaDoor
open Go.ChangeShapes Go.WideShapes Go.ChangeAt Go.RowKit
set_option linter.unusedVariables false
set_option maxRecDepth 100000
theorem one_new (w : World) (s : ByteArray) : SX (w.alloc (.cells #[.string s, .int .i64 0] 44)) w.heap.size s 0 :=
  ⟨by show (w.heap.push _)[w.heap.size]? = _; exact Array.getElem?_push_size⟩
theorem one_below (w : World) (o : Obj) : Below w.heap.size w (w.alloc o) := (Below.refl _ _).alloc (Nat.le_refl _) _
theorem infoTok : (Tryd.prog.info? 28).map (fun i => (i.zero, i.size, i.bytes)) = some (some (.agg #[.int .i64 0, .string ⟨#[]⟩, .int .i64 0, .int .i64 0]), 4, 40) := by kernel_rfl
theorem alloc1_new (w : World) (o : Obj) : (w.alloc o).heap[w.heap.size]? = some o := by
  show (w.heap.push o)[w.heap.size]? = some o
  exact Array.getElem?_push_size
theorem alloc2_snd (w : World) (o o' : Obj) : ((w.alloc o).alloc o').heap[w.heap.size + 1]? = some o' := by
  have := alloc1_new (w.alloc o) o'
  rw [World.size_alloc] at this
  exact this
theorem row_below {w w' : World} {base : Nat} {e : TypeId} {size n : Nat} {v : Value} {xs : List Value} (h : w.ownsRow base e size v n xs) (hb : Below w.heap.size w w') : w'.ownsRow base e size v n xs := by
  refine ⟨h.1, ?_⟩
  rcases h.2 with h | ⟨g, cap, cur, h1, h2, h3, h4⟩
  · exact .inl h
  · refine .inr ⟨g, cap, cur, h1, h2, ?_, h4⟩
    have hkl : g < w.heap.size := by
      rcases Nat.lt_or_ge g w.heap.size with h' | h'
      · exact h'
      · simp [Array.getElem?_eq_none h'] at h3
    rw [hb.block g hkl]
    exact h3
set_option maxHeartbeats 4000000 in
theorem scan_dur (s : ByteArray) (hs : s.size ≤ 1024) (c : UInt8) (h0 : 0 < s.size) (hc : s[0]'h0 = c) (hdig : isDig c.toNat = true) (v : Int) (w : World) (hT : Tab w)
    (hN : Hid (∀ B w, SX w B s 0 → Tab w → Calls Tryd.prog 30 #[.pointer (some ⟨B, 0, none⟩)] w fun e w' => e = .returned (.tuple #[.agg #[.int .i64 3, .string s, .int .i64 v, .int .i64 (0 : Nat)], .int .i64 0]) ∧ Below w.heap.size w w')) :
    Calls Tryd.prog 7 #[.string s] w fun e w' => ∃ G cap, e = .returned (.tuple #[.slice (some ⟨G, 0, none⟩) 2 cap, .int .i64 0, .int .i64 0]) ∧
      w'.ownsRow w.heap.size 28 4 (.slice (some ⟨G, 0, none⟩) 2 cap) 2 [.int .i64 3, .string s, .int .i64 v, .int .i64 0, .int .i64 6, .string ⟨#[]⟩, .int .i64 0, .int .i64 s.size] ∧ Below w.heap.size w w' := by
  obtain ⟨i0, hi, hz0, hz1, hz2⟩ := info_parts infoTok
  have HT := Lib.hid hT
  have HD := Lib.hid hdig
  have hd := (isDig_iff _).1 hdig
  have r1 : c.toNat ≠ 35 := by omega
  have r2 : c.toNat ≠ 32 := by omega
  have r3 : c.toNat ≠ 9 := by omega
  have r4 : c.toNat ≠ 10 := by omega
  have HR := Lib.hid (And.intro r1 (And.intro r2 (And.intro r3 r4)))
  have m1 : ¬ (1024 : Int) < (s.size : Int) := by omega
  have m2 : (0 : Int) < (s.size : Int) := by omega
  clear hT hdig hd r1 r2 r3 r4
  go_enter Tryd.func7, Tryd.ntmps7
  go_wp2_with (go_at_call 15; refine (blanks_at (one_new w s) c h0 hc HR.out.1 HR.out.2.1 HR.out.2.2.1 HR.out.2.2.2).mono ?_; rintro e w2 ⟨rfl, hB⟩)
  have hX2 := (one_new w s).below hB
  have hB2 := (one_below w _).trans (hB.mono (by rw [World.size_alloc]; omega))
  clear hB
  have c0 := hX2.c0
  have c1 := hX2.c1
  have hlt := hX2.lt
  have HX2 := Lib.hid hX2
  clear hX2
  go_wp2
  refine wp_loop_rounds 2 ?_
  rw [rounds_succ]
  go_wp2_with first | (at_builtin; refine wpList_append_lies _ rfl _ _ 22 rfl w.heap.size 28 i0 _ 4 40 Tryd.underlying22 hi hz0 hz1 hz2 rfl (by decide) _ 0 [] rfl (World.ownsRow_nil _ _ _ _) ⟨w3.heap.size + 1, 0, none⟩ 1 1 [.int .i64 3, .string s, .int .i64 v, .int .i64 0] rfl rfl (World.news_of_block (alloc2_snd w3 _ _)) (by simp [Value.oneCell']) (by decide) (by unfold maxLen; omega) (by omega) ?hbb _ rfl ?_) | (go_at_call 16; refine (token_dur HX2.out hs c h0 hc HD.out s v w.heap.size (Nat.le_refl _) (HT.out.below hB2) (by omega) (Lib.hid (hN.out _))).mono ?_; rintro e w3 ⟨rfl, hX3, hB3⟩)
  case hbb =>
    rw [World.size_alloc, World.size_alloc]
    have := hB3.size
    have := hB2.size
    omega
  intro g cap w4 hown hgrow hat hg4
  have hs23 : w.heap.size ≤ w3.heap.size := by
    have := hB3.size
    have := hB2.size
    omega
  have hB4 : Below w.heap.size w w4 := Below.grown (((hB2.trans hB3).alloc hs23 _).alloc (by rw [World.size_alloc]; omega) _) hgrow (by rw [World.size_alloc, World.size_alloc]; omega) (fun k hk => by cases hk)
  rw [Nat.zero_add] at hX3
  have hX4 : SX w4 w.heap.size s s.size := by
    refine ⟨?_⟩
    have := hX3.lt
    rw [hgrow.block _ (by rw [World.size_alloc, World.size_alloc]; omega) (fun e => by cases e), Below.heap_alloc _ _ _ (by rw [World.size_alloc]; omega), Below.heap_alloc _ _ _ this]
    exact hX3.blk
  have hg : w.heap.size ≤ g := (hown.lt g rfl).1
  have HO4 := Lib.hid hown
  clear hown hgrow hat hX3 HX2 c0 c1 hlt m2 hB3 hB2
  go_wp2_with (go_at_call 15; refine (blanks_end hX4 rfl).mono ?_; rintro e w5 ⟨rfl, hB5⟩)
  have hX5 := hX4.below hB5
  have e0 := hX5.c0
  have e1 := hX5.c1
  have hB6 := hB4.trans (hB5.mono hB4.size)
  have HO5 := Lib.hid (row_below HO4.out hB5)
  have hs5 : w.heap.size ≤ w5.heap.size := hB6.size
  clear hB5 hX4 hX5
  have n1 : ¬ (s.size : Int) < (s.size : Int) := by omega
  rw [rounds_succ]
  go_wp2_with (at_builtin; refine wpList_append_lies _ rfl _ _ 22 rfl w.heap.size 28 i0 _ 4 40 Tryd.underlying22 hi hz0 hz1 hz2 rfl (by decide) _ 1 [.int .i64 3, .string s, .int .i64 v, .int .i64 0] rfl (HO5.out.alloc _) ⟨w5.heap.size, 0, none⟩ 1 1 [.int .i64 6, .string ⟨#[]⟩, .int .i64 0, .int .i64 s.size] rfl rfl (World.news_of_block (alloc1_new w5 _)) (by simp [Value.oneCell']) (by decide) (by unfold maxLen; omega) (by omega) ?hbd _ rfl ?_)
  case hbd => omega
  intro g' cap' w6 hown hgrow hat hg6
  have hB7 : Below w.heap.size w w6 := Below.grown (hB6.alloc hs5 _) hgrow (by rw [World.size_alloc]; omega) (fun k hk => (HO5.out.lt k hk).1)
  clear HO4 HO5 hgrow hat
  go_wp2
  go_ret3
  exact ⟨g', cap', rfl, hown, hB7⟩
end Go.Proofs.YtdpcpnhkkedfcaaDoor
