/- Package check: what a call takes and gives. -/
import Derived.Test.YtnlnmbnopdklhaaProg
import Derived.WalkKit
import Derived.ProofKit
import Derived.OpenShut
import Derived.Outline
import Derived.WalkSpells
import Derived.WalkLawsBesides
import Derived.Deep.QuietTactic
import Derived.BigQuiet
import Derived.Lib.Hide
import Derived.Deep.DeepFit
import Derived.Deep.DeepMust

namespace Go.Proofs.Ytnlnmbnopdklhaa
open Go.ChangeShapes Go.WideShapes Go.ChangeAt Go.RowKit
set_option linter.unusedVariables false
set_option maxRecDepth 100000
/-- The names of calls, what each takes (three places, 0 where there is none) and gives. -/
def callTab : List (List UInt8 × (Int × Int × Int) × Int) := [
  ([116, 105, 109, 101], (0, 0, 0), 1),
  ([115, 99, 97, 108, 97, 114], (2, 0, 0), 1),
  ([118, 101, 99, 116, 111, 114], (1, 0, 0), 2),
  ([97, 98, 115], (2, 0, 0), 2),
  ([99, 101, 105, 108], (2, 0, 0), 2),
  ([102, 108, 111, 111, 114], (2, 0, 0), 2),
  ([115, 103, 110], (2, 0, 0), 2),
  ([99, 108, 97, 109, 112], (2, 1, 1), 2),
  ([99, 111, 117, 110, 116, 95, 111, 118, 101, 114, 95, 116, 105, 109, 101], (3, 0, 0), 2),
  ([115, 117, 109, 95, 111, 118, 101, 114, 95, 116, 105, 109, 101], (3, 0, 0), 2),
  ([97, 118, 103, 95, 111, 118, 101, 114, 95, 116, 105, 109, 101], (3, 0, 0), 2),
  ([109, 105, 110, 95, 111, 118, 101, 114, 95, 116, 105, 109, 101], (3, 0, 0), 2),
  ([109, 97, 120, 95, 111, 118, 101, 114, 95, 116, 105, 109, 101], (3, 0, 0), 2),
  ([108, 97, 115, 116, 95, 111, 118, 101, 114, 95, 116, 105, 109, 101], (3, 0, 0), 2),
  ([100, 101, 108, 116, 97], (3, 0, 0), 2),
  ([105, 110, 99, 114, 101, 97, 115, 101], (3, 0, 0), 2),
  ([114, 97, 116, 101], (3, 0, 0), 2)]
def callM (l : List UInt8) : (Int × Int × Int) × Int := match callTab.find? (fun x => l == x.1) with | some x => x.2 | none => ((0, 0, 0), 0)
def take3 (t : Int × Int × Int) : Value := .agg #[.int .i64 t.1, .int .i64 t.2.1, .int .i64 t.2.2]
theorem drewAlloc (w : World) : Below w.heap.size w w := Below.refl _ _
theorem call_w0 (op : ByteArray) (w : World) (h : op.toList = [116, 105, 109, 101]) :
    Calls Try.prog 22 #[.string op] w fun e w' => e = .returned (.tuple #[.agg #[.int .i64 0, .int .i64 0, .int .i64 0], .int .i64 1]) ∧ Below w.heap.size w w' := by
  go_enter Try.func22, Try.ntmps22
  go_wp2_with fail
  refine bodyPost_ret (v := .tuple #[.agg #[.int .i64 0, .int .i64 0, .int .i64 0], .int .i64 1]) (by simp [results, Try.results22, go_sem]) rfl ⟨rfl, ?_⟩
  exact (Below.refl _ _).alloc (Nat.le_refl _) _
theorem call_w1 (op : ByteArray) (w : World) (h : op.toList = [115, 99, 97, 108, 97, 114]) :
    Calls Try.prog 22 #[.string op] w fun e w' => e = .returned (.tuple #[.agg #[.int .i64 2, .int .i64 0, .int .i64 0], .int .i64 1]) ∧ Below w.heap.size w w' := by
  go_enter Try.func22, Try.ntmps22
  go_wp2_with fail
  refine bodyPost_ret (v := .tuple #[.agg #[.int .i64 2, .int .i64 0, .int .i64 0], .int .i64 1]) (by simp [results, Try.results22, go_sem]) rfl ⟨rfl, ?_⟩
  exact (Below.refl _ _).alloc (Nat.le_refl _) _
theorem call_w2 (op : ByteArray) (w : World) (h : op.toList = [118, 101, 99, 116, 111, 114]) :
    Calls Try.prog 22 #[.string op] w fun e w' => e = .returned (.tuple #[.agg #[.int .i64 1, .int .i64 0, .int .i64 0], .int .i64 2]) ∧ Below w.heap.size w w' := by
  go_enter Try.func22, Try.ntmps22
  go_wp2_with fail
  refine bodyPost_ret (v := .tuple #[.agg #[.int .i64 1, .int .i64 0, .int .i64 0], .int .i64 2]) (by simp [results, Try.results22, go_sem]) rfl ⟨rfl, ?_⟩
  exact (Below.refl _ _).alloc (Nat.le_refl _) _
theorem call_w3 (op : ByteArray) (w : World) (h : op.toList = [97, 98, 115]) :
    Calls Try.prog 22 #[.string op] w fun e w' => e = .returned (.tuple #[.agg #[.int .i64 2, .int .i64 0, .int .i64 0], .int .i64 2]) ∧ Below w.heap.size w w' := by
  go_enter Try.func22, Try.ntmps22
  go_wp2_with fail
  refine bodyPost_ret (v := .tuple #[.agg #[.int .i64 2, .int .i64 0, .int .i64 0], .int .i64 2]) (by simp [results, Try.results22, go_sem]) rfl ⟨rfl, ?_⟩
  exact (Below.refl _ _).alloc (Nat.le_refl _) _
theorem call_w4 (op : ByteArray) (w : World) (h : op.toList = [99, 101, 105, 108]) :
    Calls Try.prog 22 #[.string op] w fun e w' => e = .returned (.tuple #[.agg #[.int .i64 2, .int .i64 0, .int .i64 0], .int .i64 2]) ∧ Below w.heap.size w w' := by
  go_enter Try.func22, Try.ntmps22
  go_wp2_with fail
  refine bodyPost_ret (v := .tuple #[.agg #[.int .i64 2, .int .i64 0, .int .i64 0], .int .i64 2]) (by simp [results, Try.results22, go_sem]) rfl ⟨rfl, ?_⟩
  exact (Below.refl _ _).alloc (Nat.le_refl _) _
theorem call_w5 (op : ByteArray) (w : World) (h : op.toList = [102, 108, 111, 111, 114]) :
    Calls Try.prog 22 #[.string op] w fun e w' => e = .returned (.tuple #[.agg #[.int .i64 2, .int .i64 0, .int .i64 0], .int .i64 2]) ∧ Below w.heap.size w w' := by
  go_enter Try.func22, Try.ntmps22
  go_wp2_with fail
  refine bodyPost_ret (v := .tuple #[.agg #[.int .i64 2, .int .i64 0, .int .i64 0], .int .i64 2]) (by simp [results, Try.results22, go_sem]) rfl ⟨rfl, ?_⟩
  exact (Below.refl _ _).alloc (Nat.le_refl _) _
theorem call_w6 (op : ByteArray) (w : World) (h : op.toList = [115, 103, 110]) :
    Calls Try.prog 22 #[.string op] w fun e w' => e = .returned (.tuple #[.agg #[.int .i64 2, .int .i64 0, .int .i64 0], .int .i64 2]) ∧ Below w.heap.size w w' := by
  go_enter Try.func22, Try.ntmps22
  go_wp2_with fail
  refine bodyPost_ret (v := .tuple #[.agg #[.int .i64 2, .int .i64 0, .int .i64 0], .int .i64 2]) (by simp [results, Try.results22, go_sem]) rfl ⟨rfl, ?_⟩
  exact (Below.refl _ _).alloc (Nat.le_refl _) _
theorem call_w7 (op : ByteArray) (w : World) (h : op.toList = [99, 108, 97, 109, 112]) :
    Calls Try.prog 22 #[.string op] w fun e w' => e = .returned (.tuple #[.agg #[.int .i64 2, .int .i64 1, .int .i64 1], .int .i64 2]) ∧ Below w.heap.size w w' := by
  go_enter Try.func22, Try.ntmps22
  go_wp2_with fail
  refine bodyPost_ret (v := .tuple #[.agg #[.int .i64 2, .int .i64 1, .int .i64 1], .int .i64 2]) (by simp [results, Try.results22, go_sem]) rfl ⟨rfl, ?_⟩
  exact (Below.refl _ _).alloc (Nat.le_refl _) _
theorem call_w8 (op : ByteArray) (w : World) (h : op.toList = [99, 111, 117, 110, 116, 95, 111, 118, 101, 114, 95, 116, 105, 109, 101]) :
    Calls Try.prog 22 #[.string op] w fun e w' => e = .returned (.tuple #[.agg #[.int .i64 3, .int .i64 0, .int .i64 0], .int .i64 2]) ∧ Below w.heap.size w w' := by
  go_enter Try.func22, Try.ntmps22
  go_wp2_with fail
  refine bodyPost_ret (v := .tuple #[.agg #[.int .i64 3, .int .i64 0, .int .i64 0], .int .i64 2]) (by simp [results, Try.results22, go_sem]) rfl ⟨rfl, ?_⟩
  exact (Below.refl _ _).alloc (Nat.le_refl _) _
theorem call_w9 (op : ByteArray) (w : World) (h : op.toList = [115, 117, 109, 95, 111, 118, 101, 114, 95, 116, 105, 109, 101]) :
    Calls Try.prog 22 #[.string op] w fun e w' => e = .returned (.tuple #[.agg #[.int .i64 3, .int .i64 0, .int .i64 0], .int .i64 2]) ∧ Below w.heap.size w w' := by
  go_enter Try.func22, Try.ntmps22
  go_wp2_with fail
  refine bodyPost_ret (v := .tuple #[.agg #[.int .i64 3, .int .i64 0, .int .i64 0], .int .i64 2]) (by simp [results, Try.results22, go_sem]) rfl ⟨rfl, ?_⟩
  exact (Below.refl _ _).alloc (Nat.le_refl _) _
theorem call_w10 (op : ByteArray) (w : World) (h : op.toList = [97, 118, 103, 95, 111, 118, 101, 114, 95, 116, 105, 109, 101]) :
    Calls Try.prog 22 #[.string op] w fun e w' => e = .returned (.tuple #[.agg #[.int .i64 3, .int .i64 0, .int .i64 0], .int .i64 2]) ∧ Below w.heap.size w w' := by
  go_enter Try.func22, Try.ntmps22
  go_wp2_with fail
  refine bodyPost_ret (v := .tuple #[.agg #[.int .i64 3, .int .i64 0, .int .i64 0], .int .i64 2]) (by simp [results, Try.results22, go_sem]) rfl ⟨rfl, ?_⟩
  exact (Below.refl _ _).alloc (Nat.le_refl _) _
theorem call_w11 (op : ByteArray) (w : World) (h : op.toList = [109, 105, 110, 95, 111, 118, 101, 114, 95, 116, 105, 109, 101]) :
    Calls Try.prog 22 #[.string op] w fun e w' => e = .returned (.tuple #[.agg #[.int .i64 3, .int .i64 0, .int .i64 0], .int .i64 2]) ∧ Below w.heap.size w w' := by
  go_enter Try.func22, Try.ntmps22
  go_wp2_with fail
  refine bodyPost_ret (v := .tuple #[.agg #[.int .i64 3, .int .i64 0, .int .i64 0], .int .i64 2]) (by simp [results, Try.results22, go_sem]) rfl ⟨rfl, ?_⟩
  exact (Below.refl _ _).alloc (Nat.le_refl _) _
theorem call_w12 (op : ByteArray) (w : World) (h : op.toList = [109, 97, 120, 95, 111, 118, 101, 114, 95, 116, 105, 109, 101]) :
    Calls Try.prog 22 #[.string op] w fun e w' => e = .returned (.tuple #[.agg #[.int .i64 3, .int .i64 0, .int .i64 0], .int .i64 2]) ∧ Below w.heap.size w w' := by
  go_enter Try.func22, Try.ntmps22
  go_wp2_with fail
  refine bodyPost_ret (v := .tuple #[.agg #[.int .i64 3, .int .i64 0, .int .i64 0], .int .i64 2]) (by simp [results, Try.results22, go_sem]) rfl ⟨rfl, ?_⟩
  exact (Below.refl _ _).alloc (Nat.le_refl _) _
theorem call_w13 (op : ByteArray) (w : World) (h : op.toList = [108, 97, 115, 116, 95, 111, 118, 101, 114, 95, 116, 105, 109, 101]) :
    Calls Try.prog 22 #[.string op] w fun e w' => e = .returned (.tuple #[.agg #[.int .i64 3, .int .i64 0, .int .i64 0], .int .i64 2]) ∧ Below w.heap.size w w' := by
  go_enter Try.func22, Try.ntmps22
  go_wp2_with fail
  refine bodyPost_ret (v := .tuple #[.agg #[.int .i64 3, .int .i64 0, .int .i64 0], .int .i64 2]) (by simp [results, Try.results22, go_sem]) rfl ⟨rfl, ?_⟩
  exact (Below.refl _ _).alloc (Nat.le_refl _) _
theorem call_w14 (op : ByteArray) (w : World) (h : op.toList = [100, 101, 108, 116, 97]) :
    Calls Try.prog 22 #[.string op] w fun e w' => e = .returned (.tuple #[.agg #[.int .i64 3, .int .i64 0, .int .i64 0], .int .i64 2]) ∧ Below w.heap.size w w' := by
  go_enter Try.func22, Try.ntmps22
  go_wp2_with fail
  refine bodyPost_ret (v := .tuple #[.agg #[.int .i64 3, .int .i64 0, .int .i64 0], .int .i64 2]) (by simp [results, Try.results22, go_sem]) rfl ⟨rfl, ?_⟩
  exact (Below.refl _ _).alloc (Nat.le_refl _) _
theorem call_w15 (op : ByteArray) (w : World) (h : op.toList = [105, 110, 99, 114, 101, 97, 115, 101]) :
    Calls Try.prog 22 #[.string op] w fun e w' => e = .returned (.tuple #[.agg #[.int .i64 3, .int .i64 0, .int .i64 0], .int .i64 2]) ∧ Below w.heap.size w w' := by
  go_enter Try.func22, Try.ntmps22
  go_wp2_with fail
  refine bodyPost_ret (v := .tuple #[.agg #[.int .i64 3, .int .i64 0, .int .i64 0], .int .i64 2]) (by simp [results, Try.results22, go_sem]) rfl ⟨rfl, ?_⟩
  exact (Below.refl _ _).alloc (Nat.le_refl _) _
theorem call_w16 (op : ByteArray) (w : World) (h : op.toList = [114, 97, 116, 101]) :
    Calls Try.prog 22 #[.string op] w fun e w' => e = .returned (.tuple #[.agg #[.int .i64 3, .int .i64 0, .int .i64 0], .int .i64 2]) ∧ Below w.heap.size w w' := by
  go_enter Try.func22, Try.ntmps22
  go_wp2_with fail
  refine bodyPost_ret (v := .tuple #[.agg #[.int .i64 3, .int .i64 0, .int .i64 0], .int .i64 2]) (by simp [results, Try.results22, go_sem]) rfl ⟨rfl, ?_⟩
  exact (Below.refl _ _).alloc (Nat.le_refl _) _
theorem call_none (op : ByteArray) (w : World) (h0 : (op.toList == [116, 105, 109, 101]) = false) (h1 : (op.toList == [115, 99, 97, 108, 97, 114]) = false) (h2 : (op.toList == [118, 101, 99, 116, 111, 114]) = false) (h3 : (op.toList == [97, 98, 115]) = false) (h4 : (op.toList == [99, 101, 105, 108]) = false) (h5 : (op.toList == [102, 108, 111, 111, 114]) = false) (h6 : (op.toList == [115, 103, 110]) = false) (h7 : (op.toList == [99, 108, 97, 109, 112]) = false) (h8 : (op.toList == [99, 111, 117, 110, 116, 95, 111, 118, 101, 114, 95, 116, 105, 109, 101]) = false) (h9 : (op.toList == [115, 117, 109, 95, 111, 118, 101, 114, 95, 116, 105, 109, 101]) = false) (h10 : (op.toList == [97, 118, 103, 95, 111, 118, 101, 114, 95, 116, 105, 109, 101]) = false) (h11 : (op.toList == [109, 105, 110, 95, 111, 118, 101, 114, 95, 116, 105, 109, 101]) = false) (h12 : (op.toList == [109, 97, 120, 95, 111, 118, 101, 114, 95, 116, 105, 109, 101]) = false) (h13 : (op.toList == [108, 97, 115, 116, 95, 111, 118, 101, 114, 95, 116, 105, 109, 101]) = false) (h14 : (op.toList == [100, 101, 108, 116, 97]) = false) (h15 : (op.toList == [105, 110, 99, 114, 101, 97, 115, 101]) = false) (h16 : (op.toList == [114, 97, 116, 101]) = false) :
    Calls Try.prog 22 #[.string op] w fun e w' => e = .returned (.tuple #[.agg #[.int .i64 0, .int .i64 0, .int .i64 0], .int .i64 0]) ∧ Below w.heap.size w w' := by
  go_enter Try.func22, Try.ntmps22
  go_wp2_with fail
  refine bodyPost_ret (v := .tuple #[.agg #[.int .i64 0, .int .i64 0, .int .i64 0], .int .i64 0]) (by simp [results, Try.results22, go_sem]) rfl ⟨rfl, ?_⟩
  exact (Below.refl _ _).alloc (Nat.le_refl _) _
theorem call_any (op : ByteArray) (w : World) :
    Calls Try.prog 22 #[.string op] w fun e w' => e = .returned (.tuple #[.agg #[.int .i64 (callM op.toList).1.1, .int .i64 (callM op.toList).1.2.1, .int .i64 (callM op.toList).1.2.2], .int .i64 (callM op.toList).2]) ∧ Below w.heap.size w w' := by
  by_cases h0 : op.toList = [116, 105, 109, 101]
  · have e : callM op.toList = ((0, 0, 0), 1) := by rw [h0]; rfl
    rw [e]; exact call_w0 op w h0
  by_cases h1 : op.toList = [115, 99, 97, 108, 97, 114]
  · have e : callM op.toList = ((2, 0, 0), 1) := by rw [h1]; rfl
    rw [e]; exact call_w1 op w h1
  by_cases h2 : op.toList = [118, 101, 99, 116, 111, 114]
  · have e : callM op.toList = ((1, 0, 0), 2) := by rw [h2]; rfl
    rw [e]; exact call_w2 op w h2
  by_cases h3 : op.toList = [97, 98, 115]
  · have e : callM op.toList = ((2, 0, 0), 2) := by rw [h3]; rfl
    rw [e]; exact call_w3 op w h3
  by_cases h4 : op.toList = [99, 101, 105, 108]
  · have e : callM op.toList = ((2, 0, 0), 2) := by rw [h4]; rfl
    rw [e]; exact call_w4 op w h4
  by_cases h5 : op.toList = [102, 108, 111, 111, 114]
  · have e : callM op.toList = ((2, 0, 0), 2) := by rw [h5]; rfl
    rw [e]; exact call_w5 op w h5
  by_cases h6 : op.toList = [115, 103, 110]
  · have e : callM op.toList = ((2, 0, 0), 2) := by rw [h6]; rfl
    rw [e]; exact call_w6 op w h6
  by_cases h7 : op.toList = [99, 108, 97, 109, 112]
  · have e : callM op.toList = ((2, 1, 1), 2) := by rw [h7]; rfl
    rw [e]; exact call_w7 op w h7
  by_cases h8 : op.toList = [99, 111, 117, 110, 116, 95, 111, 118, 101, 114, 95, 116, 105, 109, 101]
  · have e : callM op.toList = ((3, 0, 0), 2) := by rw [h8]; rfl
    rw [e]; exact call_w8 op w h8
  by_cases h9 : op.toList = [115, 117, 109, 95, 111, 118, 101, 114, 95, 116, 105, 109, 101]
  · have e : callM op.toList = ((3, 0, 0), 2) := by rw [h9]; rfl
    rw [e]; exact call_w9 op w h9
  by_cases h10 : op.toList = [97, 118, 103, 95, 111, 118, 101, 114, 95, 116, 105, 109, 101]
  · have e : callM op.toList = ((3, 0, 0), 2) := by rw [h10]; rfl
    rw [e]; exact call_w10 op w h10
  by_cases h11 : op.toList = [109, 105, 110, 95, 111, 118, 101, 114, 95, 116, 105, 109, 101]
  · have e : callM op.toList = ((3, 0, 0), 2) := by rw [h11]; rfl
    rw [e]; exact call_w11 op w h11
  by_cases h12 : op.toList = [109, 97, 120, 95, 111, 118, 101, 114, 95, 116, 105, 109, 101]
  · have e : callM op.toList = ((3, 0, 0), 2) := by rw [h12]; rfl
    rw [e]; exact call_w12 op w h12
  by_cases h13 : op.toList = [108, 97, 115, 116, 95, 111, 118, 101, 114, 95, 116, 105, 109, 101]
  · have e : callM op.toList = ((3, 0, 0), 2) := by rw [h13]; rfl
    rw [e]; exact call_w13 op w h13
  by_cases h14 : op.toList = [100, 101, 108, 116, 97]
  · have e : callM op.toList = ((3, 0, 0), 2) := by rw [h14]; rfl
    rw [e]; exact call_w14 op w h14
  by_cases h15 : op.toList = [105, 110, 99, 114, 101, 97, 115, 101]
  · have e : callM op.toList = ((3, 0, 0), 2) := by rw [h15]; rfl
    rw [e]; exact call_w15 op w h15
  by_cases h16 : op.toList = [114, 97, 116, 101]
  · have e : callM op.toList = ((3, 0, 0), 2) := by rw [h16]; rfl
    rw [e]; exact call_w16 op w h16
  have e : callM op.toList = ((0, 0, 0), 0) := by
    simp only [callM, callTab, List.find?, beq_eq_false_iff_ne.2 h0, beq_eq_false_iff_ne.2 h1, beq_eq_false_iff_ne.2 h2, beq_eq_false_iff_ne.2 h3, beq_eq_false_iff_ne.2 h4, beq_eq_false_iff_ne.2 h5, beq_eq_false_iff_ne.2 h6, beq_eq_false_iff_ne.2 h7, beq_eq_false_iff_ne.2 h8, beq_eq_false_iff_ne.2 h9, beq_eq_false_iff_ne.2 h10, beq_eq_false_iff_ne.2 h11, beq_eq_false_iff_ne.2 h12, beq_eq_false_iff_ne.2 h13, beq_eq_false_iff_ne.2 h14, beq_eq_false_iff_ne.2 h15, beq_eq_false_iff_ne.2 h16]
  rw [e]; exact call_none op w (beq_eq_false_iff_ne.2 h0) (beq_eq_false_iff_ne.2 h1) (beq_eq_false_iff_ne.2 h2) (beq_eq_false_iff_ne.2 h3) (beq_eq_false_iff_ne.2 h4) (beq_eq_false_iff_ne.2 h5) (beq_eq_false_iff_ne.2 h6) (beq_eq_false_iff_ne.2 h7) (beq_eq_false_iff_ne.2 h8) (beq_eq_false_iff_ne.2 h9) (beq_eq_false_iff_ne.2 h10) (beq_eq_false_iff_ne.2 h11) (beq_eq_false_iff_ne.2 h12) (beq_eq_false_iff_ne.2 h13) (beq_eq_false_iff_ne.2 h14) (beq_eq_false_iff_ne.2 h15) (beq_eq_false_iff_ne.2 h16)
end Go.Proofs.Ytnlnmbnopdklhaa
