/- Layer 15: the scanner passes over a numeral. -/
import Derived.Test.YtdpcpnhkkedfcaaDoorProg
import Derived.WalkKit
import Derived.ProofKit
import Derived.OpenShut
import Derived.Outline
import Derived.WalkSpells
import Derived.WalkLawsBesides
import Derived.Deep.QuietTactic
import Derived.BigQuiet
import Derived.Lib.Hide
import Derived.Deep.DeepFit
import Derived.Deep.DeepMust

import Derived.BigRegion
import Derived.Test.YtdpcpnhkkedfcaaDoorLexU
namespace Go.Proofs.YtdpcpnhkkedfcaaDoor
open Go.ChangeShapes Go.WideShapes Go.ChangeAt Go.RowKit
set_option linter.unusedVariables false
set_option maxRecDepth 100000
theorem SX.put {w : World} {B k : Nat} {s : ByteArray} (h : SX w B s k) (k' : Nat) : SX (w.setCell ⟨B, 1, none⟩ (.int .i64 k')) B s k' :=
  ⟨(heap_setCell_same _ _ _ _ _ _ h.blk).trans rfl⟩
theorem SX.beside {w : World} {B k : Nat} {s : ByteArray} (h : SX w B s k) (a : Addr) (x : Value) (hne : B ≠ a.block) : SX (w.setCell a x) B s k :=
  ⟨by rw [heap_setCell_other _ _ _ _ hne]; exact h.blk⟩
set_option maxHeartbeats 4000000 in
theorem token_dur {w : World} {B k : Nat} {s : ByteArray} (h : SX w B s k) (hs : s.size ≤ 1024) (c : UInt8) (hk : k < s.size) (hc : s[k]'hk = c) (hdig : isDig c.toNat = true) (t : ByteArray) (v : Int) (b0 : Nat) (hb0 : b0 ≤ B) (hT : Tab w) (hts : k + t.size ≤ 1024)
    (hN : Hid (∀ w, SX w B s k → Tab w → Calls Tryd.prog 30 #[.pointer (some ⟨B, 0, none⟩)] w fun e w' => e = .returned (.tuple #[.agg #[.int .i64 3, .string t, .int .i64 v, .int .i64 k], .int .i64 0]) ∧ Below w.heap.size w w')) :
    Calls Tryd.prog 16 #[.pointer (some ⟨B, 0, none⟩)] w fun e w' => e = .returned (.tuple #[.agg #[.int .i64 3, .string t, .int .i64 v, .int .i64 k], .int .i64 0]) ∧ SX w' B s (k + t.size) ∧ Below b0 w w' := by
  have c0 := h.c0
  have c1 := h.c1
  have hlt := h.lt
  have hHT := Lib.hid hT
  have HX := Lib.hid h
  have hd : ∀ w, Calls Tryd.prog 18 #[.int .u8 c.toNat] w fun e w' => e = .returned (.bool true) ∧ w = w' := fun w => by
    have := digit_any c.toNat c.toNat_lt w
    rw [hdig] at this
    exact this
  have HD := Lib.hid hd
  have b1 : (k : Int) < (s.size : Int) := by omega
  clear h hT hd hdig
  go_enter Tryd.func16, Tryd.ntmps16
  go_wp2
  go_quiet ((first | fail))
  go_wp2_with first | (go_at_call 18; ((with_reducible refine (HD.out _).mono ?_); rintro e w' ⟨rfl, rfl⟩)) | (go_at_call 30; refine (hN.out _ (HX.out.below (two_new w _ _ _)) (hHT.out.below (two_new w _ _ _))).mono ?_)
  rintro e w' ⟨rfl, hB⟩
  have hbl := (two_new w _ _ _).trans (hB.mono (two_size w _ _ _))
  have k0 := two_fst hB
  have k1 := two_snd hB
  have HX' := Lib.hid (HX.out.below hbl)
  have e0 := HX'.out.c0
  have e1 := HX'.out.c1
  have f1 := Lib.frozen_of_heap HX'.out.blk 1
  clear hB
  have hw0 : w.heap.size ≠ w.heap.size + 1 := by omega
  have hw1 : w.heap.size + 1 ≠ w.heap.size := by omega
  have hw2 : B ≠ w.heap.size := by omega
  have hw3 : B ≠ w.heap.size + 1 := by omega
  have d0 : w'.cell? ⟨w.heap.size + 1, 0, none⟩ = some (.int .i64 0) := by rw [Lib.cell_of_heap k1]; rfl
  have d1 : w'.cell? ⟨w.heap.size + 1, 1, none⟩ = some (.string ⟨#[]⟩) := by rw [Lib.cell_of_heap k1]; rfl
  have d2 : w'.cell? ⟨w.heap.size + 1, 2, none⟩ = some (.int .i64 0) := by rw [Lib.cell_of_heap k1]; rfl
  have d3 : w'.cell? ⟨w.heap.size + 1, 3, none⟩ = some (.int .i64 0) := by rw [Lib.cell_of_heap k1]; rfl
  have q0 := Lib.frozen_of_heap k1 0
  have q1 := Lib.frozen_of_heap k1 1
  have q2 := Lib.frozen_of_heap k1 2
  have q3 := Lib.frozen_of_heap k1 3
  have a0 : w'.cell? ⟨w.heap.size, 0, none⟩ = some (.int .i64 0) := by rw [Lib.cell_of_heap k0]; rfl
  have a1 : w'.cell? ⟨w.heap.size, 1, none⟩ = some (.string ⟨#[]⟩) := by rw [Lib.cell_of_heap k0]; rfl
  have a2 : w'.cell? ⟨w.heap.size, 2, none⟩ = some (.int .i64 0) := by rw [Lib.cell_of_heap k0]; rfl
  have a3 : w'.cell? ⟨w.heap.size, 3, none⟩ = some (.int .i64 0) := by rw [Lib.cell_of_heap k0]; rfl
  have g0 := Lib.frozen_of_heap k0 0
  have g1 := Lib.frozen_of_heap k0 1
  have g2 := Lib.frozen_of_heap k0 2
  have g3 := Lib.frozen_of_heap k0 3
  clear k0 k1 b1 c0 c1
  go_wp2
  (try simp only [Exit.inBlock, Exit.then])
  refine bodyPost_ret (v := .tuple #[.agg #[.int .i64 3, .string t, .int .i64 v, .int .i64 k], .int .i64 0]) ?_ rfl ⟨rfl, ?_, ?_⟩
  · rw [results_cell_tmp rfl]
    go_simp
  · have hz : ((k : Int) + (t.size : Int)) = ((k + t.size : Nat) : Int) := by omega
    rw [hz]
    exact ((((((((HX'.out.beside _ _ hw3).beside _ _ hw3).beside _ _ hw3).beside _ _ hw3).put (k + t.size)).beside _ _ hw2).beside _ _ hw2).beside _ _ hw2).beside _ _ hw2
  · have n0 : b0 ≤ w.heap.size := by omega
    have n1 : b0 ≤ w.heap.size + 1 := by omega
    exact (((((((((hbl.mono n0).setCell n1 _).setCell n1 _).setCell n1 _).setCell n1 _).setCell hb0 _).setCell n0 _).setCell n0 _).setCell n0 _).setCell n0 _
end Go.Proofs.YtdpcpnhkkedfcaaDoor
