/- Layer 15: a numeral in memory. -/
import Derived.Test.YtdpcpnhkkedfcaaDoorProg
import Derived.WalkKit
import Derived.ProofKit
import Derived.OpenShut
import Derived.Outline
import Derived.WalkSpells
import Derived.WalkLawsBesides
import Derived.Deep.QuietTactic
import Derived.BigQuiet
import Derived.Lib.Hide
import Derived.Deep.DeepFit
import Derived.Deep.DeepMust

import Derived.BigRegion
import Derived.Test.YtdpcpnhkkedfcaaDoorLexS
import Derived.Test.YtdpcpnhkkedfcaaDoorLexD
namespace Go.Proofs.YtdpcpnhkkedfcaaDoor
open Go.ChangeShapes Go.WideShapes Go.ChangeAt Go.RowKit
set_option linter.unusedVariables false
set_option maxRecDepth 100000
theorem two_mid (w : World) (o : Obj) (n : Nat) : ((w.alloc o).drewN n).heap.size = w.heap.size + 1 := by
  show (w.alloc o).heap.size = _
  rw [World.size_alloc]
theorem two_end (w : World) (o o' : Obj) (n : Nat) : (((w.alloc o).drewN n).alloc o').heap.size = w.heap.size + 2 := by
  rw [World.size_alloc, two_mid]
theorem two_new (w : World) (o o' : Obj) (n : Nat) : Below w.heap.size w (((w.alloc o).drewN n).alloc o') :=
  (((Below.refl _ _).alloc (Nat.le_refl _) _).drewN' _).alloc (by rw [two_mid]; omega) _
theorem two_size (w : World) (o o' : Obj) (n : Nat) : w.heap.size ≤ (((w.alloc o).drewN n).alloc o').heap.size := by rw [two_end]; omega
theorem two_fst {w w' : World} {o o' : Obj} {n : Nat} (h : Below (((w.alloc o).drewN n).alloc o').heap.size (((w.alloc o).drewN n).alloc o') w') : w'.heap[w.heap.size]? = some o := by
  rw [h.block _ (by rw [two_end]; omega), Below.heap_alloc _ _ _ (by rw [two_mid]; omega)]
  show (w.heap.push o)[w.heap.size]? = some o
  exact Array.getElem?_push_size
theorem two_snd {w w' : World} {o o' : Obj} {n : Nat} (h : Below (((w.alloc o).drewN n).alloc o').heap.size (((w.alloc o).drewN n).alloc o') w') : w'.heap[w.heap.size + 1]? = some o' := by
  rw [h.block _ (by rw [two_end]; omega), ← two_mid w o n]
  show (((w.alloc o).drewN n).heap.push o')[((w.alloc o).drewN n).heap.size]? = some o'
  exact Array.getElem?_push_size
set_option maxHeartbeats 4000000 in
theorem numeral_dur {w : World} {B k : Nat} {s : ByteArray} (h : SX w B s k) (hs : s.size ≤ 1024) (hk : k ≤ s.size) (n : Nat) (hn : pre isNum (s.data.toList.drop k) = n) (t : ByteArray) (ht : s.extract k (k + n) = t) (hT : Tab w) (v er : Int)
    (hP : Hid (∀ w, Calls Tryd.prog 39 #[.string t] w fun e w' => e = .returned (.tuple #[.int .i64 0, .int .i64 14]) ∧ w = w'))
    (hD : Hid (∀ w, Tab w → Calls Tryd.prog 11 #[.string t] w fun e w' => e = .returned (.tuple #[.int .i64 v, .int .i64 er]) ∧ Below w.heap.size w w')) :
    Calls Tryd.prog 30 #[.pointer (some ⟨B, 0, none⟩)] w fun e w' => e = .returned (.tuple #[.agg #[.int .i64 3, .string t, .int .i64 v, .int .i64 k], .int .i64 er]) ∧ Below w.heap.size w w' := by
  have c0 := h.c0
  have c1 := h.c1
  have hlt := h.lt
  have hHT := Lib.hid hT
  have hx : (s.extract k s.size).data.toList = s.data.toList.drop k := by
    rw [ext_list, ← size_len, List.take_of_length_le (by simp)]
  have hpre : ∀ w, Calls Tryd.prog 17 #[.string (s.extract k s.size), .func (.func 38) #[] #[]] w fun e w' => e = .returned (.int .i64 (n : Int)) ∧ w = w' := by
    intro w
    have hp := prefix_num (s.extract k s.size) (by have e := size_len (s.extract k s.size); rw [hx, List.length_drop, size_len] at e; omega) w
    rw [hx, hn] at hp
    exact hp
  have hnk : k + n ≤ s.size := by
    have h1 := pre_le isNum (s.data.toList.drop k)
    rw [hn, List.length_drop, size_len] at h1
    omega
  have b1 : (k : Int) ≤ (s.size : Int) := by omega
  have b2 : (k : Int) + (n : Int) ≤ (s.size : Int) := by omega
  have HP := Lib.hid hpre
  clear h hT hx hn hpre hk
  go_enter Tryd.func30, Tryd.ntmps30
  go_wp2
  go_quiet ((first | (go_at_call 17; exact quiet_back (HP.out _))))
  go_wp2
  go_region
  go_wp2_with first | (go_at_call 39; ((with_reducible refine (hP.out _).mono ?_); rintro e w' ⟨rfl, rfl⟩)) | (go_at_call 11; refine (hD.out _ ?tab).mono ?_)
  case tab => exact hHT.out.below (two_new w _ _ _)
  rintro e w' ⟨rfl, hB⟩
  have hbl := (two_new w _ _ _).trans (hB.mono (two_size w _ _ _))
  have k0 := two_fst hB
  have k1 := two_snd hB
  clear hB
  have hw0 : w.heap.size ≠ w.heap.size + 1 := by omega
  have hw1 : w.heap.size + 1 ≠ w.heap.size := by omega
  have d0 : w'.cell? ⟨w.heap.size + 1, 0, none⟩ = some (.int .i64 3) := by rw [Lib.cell_of_heap k1]; rfl
  have d1 : w'.cell? ⟨w.heap.size + 1, 1, none⟩ = some (.string t) := by rw [Lib.cell_of_heap k1]; rfl
  have d2 : w'.cell? ⟨w.heap.size + 1, 2, none⟩ = some (.int .i64 0) := by rw [Lib.cell_of_heap k1]; rfl
  have d3 : w'.cell? ⟨w.heap.size + 1, 3, none⟩ = some (.int .i64 k) := by rw [Lib.cell_of_heap k1]; rfl
  have f2 := Lib.frozen_of_heap k1 2
  have a0 : w'.cell? ⟨w.heap.size, 0, none⟩ = some (.int .i64 0) := by rw [Lib.cell_of_heap k0]; rfl
  have a1 : w'.cell? ⟨w.heap.size, 1, none⟩ = some (.string ⟨#[]⟩) := by rw [Lib.cell_of_heap k0]; rfl
  have a2 : w'.cell? ⟨w.heap.size, 2, none⟩ = some (.int .i64 0) := by rw [Lib.cell_of_heap k0]; rfl
  have a3 : w'.cell? ⟨w.heap.size, 3, none⟩ = some (.int .i64 0) := by rw [Lib.cell_of_heap k0]; rfl
  have g0 := Lib.frozen_of_heap k0 0
  have g1 := Lib.frozen_of_heap k0 1
  have g2 := Lib.frozen_of_heap k0 2
  have g3 := Lib.frozen_of_heap k0 3
  clear k0 k1 b1 b2 c0 c1
  go_wp2
  (try simp only [Exit.inBlock, Exit.then])
  refine bodyPost_ret (v := .tuple #[.agg #[.int .i64 3, .string t, .int .i64 v, .int .i64 k], .int .i64 er]) ?_ rfl ⟨rfl, ?_⟩
  · rw [results_cell_tmp rfl]
    go_simp
  · exact ((((hbl.setCell (by simp) _).setCell (by simp) _).setCell (by simp) _).setCell (by simp) _).setCell (by simp) _
end Go.Proofs.YtdpcpnhkkedfcaaDoor
