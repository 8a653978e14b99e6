/- Package check: Call. -/
import Derived.Test.YtnlnmbnopdklhaaProg
import Derived.WalkKit
import Derived.ProofKit
import Derived.OpenShut
import Derived.Outline
import Derived.WalkSpells
import Derived.WalkLawsBesides
import Derived.Deep.QuietTactic
import Derived.BigQuiet
import Derived.Lib.Hide
import Derived.Deep.DeepFit
import Derived.Deep.DeepMust

import Derived.Test.YtnlnmbnopdklhaaChkE
import Derived.Laws.AppendOwnNone
namespace Go.Proofs.Ytnlnmbnopdklhaa
open Go.ChangeShapes Go.WideShapes Go.ChangeAt Go.RowKit
set_option linter.unusedVariables false
set_option maxRecDepth 100000
theorem infoIntC : (Try.prog.info? 3).map (fun i => (i.zero, i.size, i.bytes)) = some (some (.int .i64 0), 1, 8) := by kernel_rfl
theorem ccall_none (op : ByteArray) (w : World) (hc : callM op.toList = ((0, 0, 0), 0)) :
    Calls Try.prog 15 #[.string op] w fun e w' => ∃ v, e = .returned (.tuple #[v, .int .i64 0, .bool false]) ∧ IntList v [] w' ∧ Below w.heap.size w w' := by
  have hcall := call_any op w
  rw [hc] at hcall
  have HC := Lib.hid hcall
  clear hcall hc
  go_enter Try.func15, Try.ntmps15
  go_wp2_with (go_at_call 22; ((with_reducible refine HC.out.mono ?_); rintro e w' ⟨rfl, hB⟩; have HB := Lib.hid hB; clear hB))
  refine bodyPost_ret (v := .tuple #[.slice none 0 0, .int .i64 0, .bool false]) (by simp [results, Try.results15, go_sem]) rfl ⟨_, rfl, ?_, ?_⟩
  · exact Or.inl ⟨rfl, rfl⟩
  · exact (HB.out).alloc HB.out.size _
theorem ix0 (a b c : Int) (w : World) : Sem.run Try.prog (Instr.index 60 (.agg #[.int .i64 a, .int .i64 b, .int .i64 c]) (.int .i64 0)) w = .ok (.int .i64 a) w := by kernel_rfl
theorem ix1 (a b c : Int) (w : World) : Sem.run Try.prog (Instr.index 60 (.agg #[.int .i64 a, .int .i64 b, .int .i64 c]) (.int .i64 1)) w = .ok (.int .i64 b) w := by kernel_rfl
theorem ix2 (a b c : Int) (w : World) : Sem.run Try.prog (Instr.index 60 (.agg #[.int .i64 a, .int .i64 b, .int .i64 c]) (.int .i64 2)) w = .ok (.int .i64 c) w := by kernel_rfl
theorem ccall_time (op : ByteArray) (w : World) (g : Int) (hg : (g == 0) = false) (hc : callM op.toList = ((0, 0, 0), g)) :
    Calls Try.prog 15 #[.string op] w fun e w' => ∃ v, e = .returned (.tuple #[v, .int .i64 g, .bool true]) ∧ IntList v [] w' ∧ Below w.heap.size w w' := by
  have hcall := call_any op w
  rw [hc] at hcall
  have i0 := ix0 0 0 0
  have i1 := ix1 0 0 0
  have i2 := ix2 0 0 0
  have HC := Lib.hid hcall
  clear hcall hc
  go_enter Try.func15, Try.ntmps15
  go_wp2_with (go_at_call 22; ((with_reducible refine HC.out.mono ?_); rintro e w' ⟨rfl, hB⟩; have HB := Lib.hid hB; clear hB))
  refine wp_loop_rounds 4 ?_
  rw [rounds_succ]
  go_wp2_with fail
  rw [rounds_succ]
  go_wp2_with fail
  rw [rounds_succ]
  go_wp2_with fail
  rw [rounds_succ]
  go_wp2_with fail
  refine bodyPost_ret (v := .tuple #[.slice none 0 0, .int .i64 g, .bool true]) (by simp [results, Try.results15, go_sem]) rfl ⟨_, rfl, ?_, ?_⟩
  · exact Or.inl ⟨rfl, rfl⟩
  · exact (HB.out).alloc HB.out.size _
theorem own_someC {w : World} {base e : Nat} {v : Value} {n : Nat} {xs : List Value} (h : w.ownsRow base e 1 v n xs) (hn : 0 < n) :
    ∃ g cap, v = .slice (some ⟨g, 0, none⟩) n cap ∧ ∀ j u, xs[j]? = some u → w.cell? ⟨g, 0 + j, none⟩ = some u := by
  have h2 := h.2
  rcases h2 with ⟨_, h0⟩ | ⟨g, cap, cur, hv, _⟩
  · omega
  · refine ⟨g, cap, hv, fun j u hu => ?_⟩
    have := h.cells (g := g) (by rw [hv]; rfl) j u hu
    have e : (⟨g, 0, none⟩ : Addr).add j = ⟨g, 0 + j, none⟩ := by unfold Addr.add; split <;> simp_all
    rw [← e]; exact this
open World in
theorem first_lt {w : World} {a : Addr} {v : Value} (h : w.cell? a = some v) : a.block < w.heap.size := by
  first | exact block_lt h | exact block_lt_of_cell h | exact Go.block_lt h | exact Go.World.block_lt_of_cell h
theorem one_new (w : World) (x : Value) (t : TypeId) (B : Nat) (hB : B = w.heap.size) : ∀ j u, [x][j]? = some u → (w.alloc (.cells #[x] t)).cell? ((⟨B, 0, none⟩ : Addr).add j) = some u := by
  intro j u hu
  subst hB
  have hj : j = 0 := by have := (List.getElem?_eq_some_iff.1 hu).1; simp at this; exact this
  subst hj
  have e : (⟨w.heap.size, 0, none⟩ : Addr).add 0 = ⟨w.heap.size, 0, none⟩ := by unfold Addr.add; split <;> simp_all
  rw [e, World.cell?_alloc_new]
  simpa using hu
theorem ccall_one (op : ByteArray) (w : World) (x g : Int) (hx : (x != 0) = true) (hg : (g == 0) = false) (hc : callM op.toList = ((x, 0, 0), g)) :
    Calls Try.prog 15 #[.string op] w fun e w' => ∃ v, e = .returned (.tuple #[v, .int .i64 g, .bool true]) ∧ IntList v [x] w' ∧ Below w.heap.size w w' := by
  obtain ⟨i0, hi, hz0, hz1, hz2⟩ := info_parts infoIntC
  have hcall := call_any op w
  rw [hc] at hcall
  have i0' := ix0 x 0 0
  have i1 := ix1 x 0 0
  have i2 := ix2 x 0 0
  have HC := Lib.hid hcall
  clear hcall hc
  go_enter Try.func15, Try.ntmps15
  go_wp2_with (go_at_call 22; ((with_reducible refine HC.out.mono ?_); rintro e w' ⟨rfl, hB⟩; have HB := Lib.hid hB; clear hB))
  refine wp_loop_rounds 4 ?_
  rw [rounds_succ]
  go_wp2_with (at_builtin; refine wpList_append_own _ rfl _ _ 43 rfl w.heap.size 3 i0 (.int .i64 0) 1 8 Try.underlying43 hi hz0 hz1 hz2 rfl (by decide) (.slice none 0 0) 0 [] rfl (World.ownsRow_nil _ _ _ _) _ 1 1 [.int .i64 x] rfl ?c1 ?c2 ?c3 ?c4 ?c5 ?c6 ?k)
  case c1 => rfl
  case c2 => exact one_new _ _ _ _ (by simp only [szA])
  case c3 => intro u hu; rw [List.mem_singleton] at hu; subst hu; rfl
  case c4 => decide
  case c5 => decide
  case c6 => have := HB.out.size; simp only [szA]; omega
  intro v' w1 hown hgrow _
  obtain ⟨b1, cap', hv, hcells⟩ := own_someC hown (by decide)
  have hb1 : b1 < w1.heap.size := by
    have := hcells 0 _ rfl
    exact first_lt this
  have hg : Below w.heap.size w w1 := ((HB.out.alloc HB.out.size _).alloc (by have := HB.out.size; simp only [szA]; omega) _).grown hgrow (by have := HB.out.size; simp only [szA]; omega) (fun k hk => by simp [Value.ownBlock] at hk)
  have HG := Lib.hid hg
  have HCells := Lib.hid hcells
  have HB1 := Lib.hid hb1
  clear hgrow hown hg hcells hb1
  subst hv
  go_wp2_with fail
  rw [rounds_succ]
  go_wp2_with fail
  rw [rounds_succ]
  go_wp2_with fail
  rw [rounds_succ]
  go_wp2_with fail
  refine bodyPost_ret (v := .tuple #[.slice (some ⟨b1, 0, none⟩) 1 cap', .int .i64 g, .bool true]) (by simp [results, Try.results15, go_sem]) rfl ⟨_, rfl, ?_, ?_⟩
  · refine Or.inr ⟨b1, 0, cap', rfl, HB1.out, fun i hi => ?_⟩
    have hi0 : i = 0 := by simp at hi; exact hi
    subst hi0
    exact HCells.out 0 _ rfl
  · exact HG.out
theorem ccall_clamp (op : ByteArray) (w : World) (hc : callM op.toList = ((2, 1, 1), 2)) :
    Calls Try.prog 15 #[.string op] w fun e w' => ∃ v, e = .returned (.tuple #[v, .int .i64 2, .bool true]) ∧ IntList v [2, 1, 1] w' ∧ Below w.heap.size w w' := by
  obtain ⟨i0, hi, hz0, hz1, hz2⟩ := info_parts infoIntC
  have hcall := call_any op w
  rw [hc] at hcall
  have i0' := ix0 2 1 1
  have i1 := ix1 2 1 1
  have i2 := ix2 2 1 1
  have HC := Lib.hid hcall
  clear hcall hc
  go_enter Try.func15, Try.ntmps15
  go_wp2_with (go_at_call 22; ((with_reducible refine HC.out.mono ?_); rintro e w' ⟨rfl, hB⟩; have HB := Lib.hid hB; clear hB))
  refine wp_loop_rounds 4 ?_
  rw [rounds_succ]
  go_wp2_with (at_builtin; refine wpList_append_own _ rfl _ _ 43 rfl w.heap.size 3 i0 (.int .i64 0) 1 8 Try.underlying43 hi hz0 hz1 hz2 rfl (by decide) (.slice none 0 0) 0 [] rfl (World.ownsRow_nil _ _ _ _) _ 1 1 [.int .i64 2] rfl ?c1 ?c2 ?c3 ?c4 ?c5 ?c6 ?k)
  case c1 => rfl
  case c2 => exact one_new _ _ _ _ (by first | rfl | simp only [szA])
  case c3 => intro u hu; rw [List.mem_singleton] at hu; subst hu; rfl
  case c4 => decide
  case c5 => decide
  case c6 => have := HB.out.size; simp only [szA]; omega
  intro v1 w1 hown hgrow _
  have hg1 : Below w.heap.size w w1 := ((HB.out.alloc HB.out.size _).alloc (by have := HB.out.size; simp only [szA]; omega) _).grown hgrow (by have := HB.out.size; simp only [szA]; omega) (fun k hk => by simp [Value.ownBlock] at hk)
  have HG1 := Lib.hid hg1
  have HO1 := Lib.hid hown
  clear hgrow hown hg1
  go_wp2_with fail
  rw [rounds_succ]
  go_wp2_with (at_builtin; refine wpList_append_own _ rfl _ _ 43 rfl w.heap.size 3 i0 (.int .i64 0) 1 8 Try.underlying43 hi hz0 hz1 hz2 rfl (by decide) v1 1 [.int .i64 2] rfl (HO1.out.alloc _) _ 1 1 [.int .i64 1] rfl ?d1 ?d2 ?d3 ?d4 ?d5 ?d6 ?kd)
  case d1 => rfl
  case d2 => exact one_new _ _ _ _ (by first | rfl | simp only [szA])
  case d3 => intro u hu; rw [List.mem_singleton] at hu; subst hu; rfl
  case d4 => decide
  case d5 => decide
  case d6 => have := HG1.out.size; simp only [szA]; omega
  intro v2 w2 hown hgrow _
  have hg2 : Below w.heap.size w w2 := (HG1.out.alloc HG1.out.size _).grown hgrow (by have := HG1.out.size; simp only [szA]; omega) (fun k hk => (HO1.out.lt k hk).1)
  have HG2 := Lib.hid hg2
  have HO2 := Lib.hid hown
  clear hgrow hown hg2
  go_wp2_with fail
  rw [rounds_succ]
  go_wp2_with (at_builtin; refine wpList_append_own _ rfl _ _ 43 rfl w.heap.size 3 i0 (.int .i64 0) 1 8 Try.underlying43 hi hz0 hz1 hz2 rfl (by decide) v2 2 [.int .i64 2, .int .i64 1] rfl (HO2.out.alloc _) _ 1 1 [.int .i64 1] rfl ?e1 ?e2 ?e3 ?e4 ?e5 ?e6 ?ke)
  case e1 => rfl
  case e2 => exact one_new _ _ _ _ (by first | rfl | simp only [szA])
  case e3 => intro u hu; rw [List.mem_singleton] at hu; subst hu; rfl
  case e4 => decide
  case e5 => decide
  case e6 => have := HG2.out.size; simp only [szA]; omega
  intro v3 w3 hown hgrow _
  have hg3 : Below w.heap.size w w3 := (HG2.out.alloc HG2.out.size _).grown hgrow (by have := HG2.out.size; simp only [szA]; omega) (fun k hk => (HO2.out.lt k hk).1)
  have HG3 := Lib.hid hg3
  have HO3 := Lib.hid hown
  clear hgrow hown hg3
  go_wp2_with fail
  rw [rounds_succ]
  go_wp2_with fail
  obtain ⟨b1, cap', hv, hcells⟩ := own_someC HO3.out (by decide)
  subst hv
  refine bodyPost_ret (v := .tuple #[.slice (some ⟨b1, 0, none⟩) 3 cap', .int .i64 2, .bool true]) (by simp [results, Try.results15, go_sem]) rfl ⟨_, rfl, ?_, ?_⟩
  · refine Or.inr ⟨b1, 0, cap', rfl, first_lt (hcells 0 _ rfl), fun i hi => ?_⟩
    match i, hi with
    | 0, _ => exact hcells 0 _ rfl
    | 1, _ => exact hcells 1 _ rfl
    | 2, _ => exact hcells 2 _ rfl
  · exact HG3.out
theorem ccall_any (op : ByteArray) (w : World) :
    Calls Try.prog 15 #[.string op] w fun e w' => ∃ v, e = .returned (.tuple #[v, .int .i64 (callM op.toList).2, .bool ((callM op.toList).2 != 0)]) ∧ IntList v (takesL (callM op.toList).1) w' ∧ Below w.heap.size w w' := by
  by_cases h0 : op.toList = [116, 105, 109, 101]
  · have e : callM op.toList = ((0, 0, 0), 1) := by rw [h0]; rfl
    have h := ccall_time op w 1 rfl e
    rw [e]; exact h
  by_cases h1 : op.toList = [115, 99, 97, 108, 97, 114]
  · have e : callM op.toList = ((2, 0, 0), 1) := by rw [h1]; rfl
    have h := ccall_one op w 2 1 rfl rfl e
    rw [e]; exact h
  by_cases h2 : op.toList = [118, 101, 99, 116, 111, 114]
  · have e : callM op.toList = ((1, 0, 0), 2) := by rw [h2]; rfl
    have h := ccall_one op w 1 2 rfl rfl e
    rw [e]; exact h
  by_cases h3 : op.toList = [97, 98, 115]
  · have e : callM op.toList = ((2, 0, 0), 2) := by rw [h3]; rfl
    have h := ccall_one op w 2 2 rfl rfl e
    rw [e]; exact h
  by_cases h4 : op.toList = [99, 101, 105, 108]
  · have e : callM op.toList = ((2, 0, 0), 2) := by rw [h4]; rfl
    have h := ccall_one op w 2 2 rfl rfl e
    rw [e]; exact h
  by_cases h5 : op.toList = [102, 108, 111, 111, 114]
  · have e : callM op.toList = ((2, 0, 0), 2) := by rw [h5]; rfl
    have h := ccall_one op w 2 2 rfl rfl e
    rw [e]; exact h
  by_cases h6 : op.toList = [115, 103, 110]
  · have e : callM op.toList = ((2, 0, 0), 2) := by rw [h6]; rfl
    have h := ccall_one op w 2 2 rfl rfl e
    rw [e]; exact h
  by_cases h7 : op.toList = [99, 108, 97, 109, 112]
  · have e : callM op.toList = ((2, 1, 1), 2) := by rw [h7]; rfl
    have h := ccall_clamp op w e
    rw [e]; exact h
  by_cases h8 : op.toList = [99, 111, 117, 110, 116, 95, 111, 118, 101, 114, 95, 116, 105, 109, 101]
  · have e : callM op.toList = ((3, 0, 0), 2) := by rw [h8]; rfl
    have h := ccall_one op w 3 2 rfl rfl e
    rw [e]; exact h
  by_cases h9 : op.toList = [115, 117, 109, 95, 111, 118, 101, 114, 95, 116, 105, 109, 101]
  · have e : callM op.toList = ((3, 0, 0), 2) := by rw [h9]; rfl
    have h := ccall_one op w 3 2 rfl rfl e
    rw [e]; exact h
  by_cases h10 : op.toList = [97, 118, 103, 95, 111, 118, 101, 114, 95, 116, 105, 109, 101]
  · have e : callM op.toList = ((3, 0, 0), 2) := by rw [h10]; rfl
    have h := ccall_one op w 3 2 rfl rfl e
    rw [e]; exact h
  by_cases h11 : op.toList = [109, 105, 110, 95, 111, 118, 101, 114, 95, 116, 105, 109, 101]
  · have e : callM op.toList = ((3, 0, 0), 2) := by rw [h11]; rfl
    have h := ccall_one op w 3 2 rfl rfl e
    rw [e]; exact h
  by_cases h12 : op.toList = [109, 97, 120, 95, 111, 118, 101, 114, 95, 116, 105, 109, 101]
  · have e : callM op.toList = ((3, 0, 0), 2) := by rw [h12]; rfl
    have h := ccall_one op w 3 2 rfl rfl e
    rw [e]; exact h
  by_cases h13 : op.toList = [108, 97, 115, 116, 95, 111, 118, 101, 114, 95, 116, 105, 109, 101]
  · have e : callM op.toList = ((3, 0, 0), 2) := by rw [h13]; rfl
    have h := ccall_one op w 3 2 rfl rfl e
    rw [e]; exact h
  by_cases h14 : op.toList = [100, 101, 108, 116, 97]
  · have e : callM op.toList = ((3, 0, 0), 2) := by rw [h14]; rfl
    have h := ccall_one op w 3 2 rfl rfl e
    rw [e]; exact h
  by_cases h15 : op.toList = [105, 110, 99, 114, 101, 97, 115, 101]
  · have e : callM op.toList = ((3, 0, 0), 2) := by rw [h15]; rfl
    have h := ccall_one op w 3 2 rfl rfl e
    rw [e]; exact h
  by_cases h16 : op.toList = [114, 97, 116, 101]
  · have e : callM op.toList = ((3, 0, 0), 2) := by rw [h16]; rfl
    have h := ccall_one op w 3 2 rfl rfl e
    rw [e]; exact h
  have e : callM op.toList = ((0, 0, 0), 0) := by
    simp only [callM, callTab, List.find?, beq_eq_false_iff_ne.2 h0, beq_eq_false_iff_ne.2 h1, beq_eq_false_iff_ne.2 h2, beq_eq_false_iff_ne.2 h3, beq_eq_false_iff_ne.2 h4, beq_eq_false_iff_ne.2 h5, beq_eq_false_iff_ne.2 h6, beq_eq_false_iff_ne.2 h7, beq_eq_false_iff_ne.2 h8, beq_eq_false_iff_ne.2 h9, beq_eq_false_iff_ne.2 h10, beq_eq_false_iff_ne.2 h11, beq_eq_false_iff_ne.2 h12, beq_eq_false_iff_ne.2 h13, beq_eq_false_iff_ne.2 h14, beq_eq_false_iff_ne.2 h15, beq_eq_false_iff_ne.2 h16]
  have h := ccall_none op w e
  rw [e]; exact h
end Go.Proofs.Ytnlnmbnopdklhaa
