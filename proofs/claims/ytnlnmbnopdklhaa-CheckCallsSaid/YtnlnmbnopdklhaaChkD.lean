/- The reference's Call: what a name takes and gives. -/
import Derived.Test.YtnlnmbnopdklhaaProg
import Derived.WalkKit
import Derived.ProofKit
import Derived.OpenShut
import Derived.Outline
import Derived.WalkSpells
import Derived.WalkLawsBesides
import Derived.Deep.QuietTactic
import Derived.BigQuiet
import Derived.Lib.Hide
import Derived.Deep.DeepFit
import Derived.Deep.DeepMust

import Derived.Test.YtnlnmbnopdklhaaChkA
import Derived.Test.YtnlnmbnopdklhaaChkC
namespace Go.Proofs.Ytnlnmbnopdklhaa
open Go.ChangeShapes Go.WideShapes Go.ChangeAt Go.RowKit
set_option linter.unusedVariables false
set_option maxRecDepth 100000
/-- A list of numbers in memory. -/
def IntList (v : Value) (zs : List Int) (w : World) : Prop :=
  (zs = [] ∧ v = .slice none 0 0) ∨ ∃ B off cap, v = .slice (some ⟨B, off, none⟩) zs.length cap ∧ B < w.heap.size ∧ ∀ i, i < zs.length → w.cell? ⟨B, off + i, none⟩ = some (.int .i64 (zs.getD i 0))
theorem IntList.below {v : Value} {zs : List Int} {w w' : World} (h : IntList v zs w) (hb : Below w.heap.size w w') : IntList v zs w' := by
  rcases h with h | ⟨B, off, cap, rfl, hB, hz⟩
  · exact Or.inl h
  · refine Or.inr ⟨B, off, cap, rfl, Nat.lt_of_lt_of_le hB hb.size, fun i hi => ?_⟩
    rw [← hz i hi]; exact hb.cell hB
theorem szA (w : World) (o : Obj) : (w.alloc o).heap.size = w.heap.size + 1 := by
  show (w.heap.push o).size = _
  exact Array.size_push _
theorem IntList_new (w : World) (B : Nat) (hB : B = w.heap.size) (C : Array Value) (zs : List Int) (hC : C = (zs.map (Value.int .i64)).toArray) (n : Nat) (hn : n = zs.length) : IntList (.slice (some ⟨B, 0, none⟩) n n) zs (w.alloc (.cells C 3)) := by
  subst hB hC hn
  refine Or.inr ⟨_, _, _, rfl, by rw [szA]; omega, fun i hi => ?_⟩
  rw [Nat.zero_add, World.cell?_alloc_new]
  simp only [List.getElem?_toArray, List.getElem?_map, List.getElem?_eq_getElem hi, List.getD_eq_getElem?_getD, Option.map_some, Option.getD_some]
/-- What a call takes: the places that are none left out. -/
def takesL (t : Int × Int × Int) : List Int := [t.1, t.2.1, t.2.2].filter (fun x => x != 0)
def n4 : List ByteArray := [⟨#[97, 98, 115]⟩, ⟨#[99, 101, 105, 108]⟩, ⟨#[102, 108, 111, 111, 114]⟩, ⟨#[115, 103, 110]⟩]
theorem hold_n4 (w : World) : ∀ i, i < 4 → (w.alloc (.cells #[.string ⟨#[97, 98, 115]⟩, .string ⟨#[99, 101, 105, 108]⟩, .string ⟨#[102, 108, 111, 111, 114]⟩, .string ⟨#[115, 103, 110]⟩] 9)).cell? ⟨w.heap.size, 0 + i, none⟩ = some (.string (n4.getD i ByteArray.empty)) := by
  intro i hi
  rw [Nat.zero_add, World.cell?_alloc_new]
  match i, hi with
  | 0, _ => rfl
  | 1, _ => rfl
  | 2, _ => rfl
  | 3, _ => rfl
theorem in_n4 (op : ByteArray) (r : Bool) (hr : oneB op n4 = r) (w : World) (B : Nat) (hB : B = w.heap.size) :
    Calls Try.prog 26 #[.string op, .slice (some ⟨B, 0, none⟩) 4 4] (w.alloc (.cells #[.string ⟨#[97, 98, 115]⟩, .string ⟨#[99, 101, 105, 108]⟩, .string ⟨#[102, 108, 111, 111, 114]⟩, .string ⟨#[115, 103, 110]⟩] 9)) fun e w' => e = .returned (.bool r) ∧ (w.alloc (.cells #[.string ⟨#[97, 98, 115]⟩, .string ⟨#[99, 101, 105, 108]⟩, .string ⟨#[102, 108, 111, 111, 114]⟩, .string ⟨#[115, 103, 110]⟩] 9)) = w' := by
  subst hr hB
  exact in_anyN op n4 4 ⟨w.heap.size, 0, none⟩ rfl rfl 4 _ (by decide) (hold_n4 w)
def n9 : List ByteArray := [⟨#[99, 111, 117, 110, 116, 95, 111, 118, 101, 114, 95, 116, 105, 109, 101]⟩, ⟨#[115, 117, 109, 95, 111, 118, 101, 114, 95, 116, 105, 109, 101]⟩, ⟨#[97, 118, 103, 95, 111, 118, 101, 114, 95, 116, 105, 109, 101]⟩, ⟨#[109, 105, 110, 95, 111, 118, 101, 114, 95, 116, 105, 109, 101]⟩, ⟨#[109, 97, 120, 95, 111, 118, 101, 114, 95, 116, 105, 109, 101]⟩, ⟨#[108, 97, 115, 116, 95, 111, 118, 101, 114, 95, 116, 105, 109, 101]⟩, ⟨#[100, 101, 108, 116, 97]⟩, ⟨#[105, 110, 99, 114, 101, 97, 115, 101]⟩, ⟨#[114, 97, 116, 101]⟩]
theorem hold_n9 (w : World) : ∀ i, i < 9 → (w.alloc (.cells #[.string ⟨#[99, 111, 117, 110, 116, 95, 111, 118, 101, 114, 95, 116, 105, 109, 101]⟩, .string ⟨#[115, 117, 109, 95, 111, 118, 101, 114, 95, 116, 105, 109, 101]⟩, .string ⟨#[97, 118, 103, 95, 111, 118, 101, 114, 95, 116, 105, 109, 101]⟩, .string ⟨#[109, 105, 110, 95, 111, 118, 101, 114, 95, 116, 105, 109, 101]⟩, .string ⟨#[109, 97, 120, 95, 111, 118, 101, 114, 95, 116, 105, 109, 101]⟩, .string ⟨#[108, 97, 115, 116, 95, 111, 118, 101, 114, 95, 116, 105, 109, 101]⟩, .string ⟨#[100, 101, 108, 116, 97]⟩, .string ⟨#[105, 110, 99, 114, 101, 97, 115, 101]⟩, .string ⟨#[114, 97, 116, 101]⟩] 9)).cell? ⟨w.heap.size, 0 + i, none⟩ = some (.string (n9.getD i ByteArray.empty)) := by
  intro i hi
  rw [Nat.zero_add, World.cell?_alloc_new]
  match i, hi with
  | 0, _ => rfl
  | 1, _ => rfl
  | 2, _ => rfl
  | 3, _ => rfl
  | 4, _ => rfl
  | 5, _ => rfl
  | 6, _ => rfl
  | 7, _ => rfl
  | 8, _ => rfl
theorem in_n9 (op : ByteArray) (r : Bool) (hr : oneB op n9 = r) (w : World) (B : Nat) (hB : B = w.heap.size) :
    Calls Try.prog 26 #[.string op, .slice (some ⟨B, 0, none⟩) 9 9] (w.alloc (.cells #[.string ⟨#[99, 111, 117, 110, 116, 95, 111, 118, 101, 114, 95, 116, 105, 109, 101]⟩, .string ⟨#[115, 117, 109, 95, 111, 118, 101, 114, 95, 116, 105, 109, 101]⟩, .string ⟨#[97, 118, 103, 95, 111, 118, 101, 114, 95, 116, 105, 109, 101]⟩, .string ⟨#[109, 105, 110, 95, 111, 118, 101, 114, 95, 116, 105, 109, 101]⟩, .string ⟨#[109, 97, 120, 95, 111, 118, 101, 114, 95, 116, 105, 109, 101]⟩, .string ⟨#[108, 97, 115, 116, 95, 111, 118, 101, 114, 95, 116, 105, 109, 101]⟩, .string ⟨#[100, 101, 108, 116, 97]⟩, .string ⟨#[105, 110, 99, 114, 101, 97, 115, 101]⟩, .string ⟨#[114, 97, 116, 101]⟩] 9)) fun e w' => e = .returned (.bool r) ∧ (w.alloc (.cells #[.string ⟨#[99, 111, 117, 110, 116, 95, 111, 118, 101, 114, 95, 116, 105, 109, 101]⟩, .string ⟨#[115, 117, 109, 95, 111, 118, 101, 114, 95, 116, 105, 109, 101]⟩, .string ⟨#[97, 118, 103, 95, 111, 118, 101, 114, 95, 116, 105, 109, 101]⟩, .string ⟨#[109, 105, 110, 95, 111, 118, 101, 114, 95, 116, 105, 109, 101]⟩, .string ⟨#[109, 97, 120, 95, 111, 118, 101, 114, 95, 116, 105, 109, 101]⟩, .string ⟨#[108, 97, 115, 116, 95, 111, 118, 101, 114, 95, 116, 105, 109, 101]⟩, .string ⟨#[100, 101, 108, 116, 97]⟩, .string ⟨#[105, 110, 99, 114, 101, 97, 115, 101]⟩, .string ⟨#[114, 97, 116, 101]⟩] 9)) = w' := by
  subst hr hB
  exact in_anyN op n9 9 ⟨w.heap.size, 0, none⟩ rfl rfl 9 _ (by decide) (hold_n9 w)
theorem rcall_w0 (op : ByteArray) (w : World) (h : op.toList = [116, 105, 109, 101]) :
    Calls Try.prog 16 #[.string op] w fun e w' => ∃ v, e = .returned (.tuple #[v, .int .i64 1, .bool true]) ∧ IntList v [] w' ∧ Below w.heap.size w w' := by
  go_enter Try.func16, Try.ntmps16
  go_wp2_with fail
  refine bodyPost_ret (v := .tuple #[.slice none 0 0, .int .i64 1, .bool true]) (by simp [results, Try.results16, go_sem]) rfl ⟨_, rfl, ?_, ?_⟩
  · exact Or.inl ⟨rfl, rfl⟩
  · exact Below.refl _ _
theorem rcall_w1 (op : ByteArray) (w : World) (h : op.toList = [115, 99, 97, 108, 97, 114]) :
    Calls Try.prog 16 #[.string op] w fun e w' => ∃ v, e = .returned (.tuple #[v, .int .i64 1, .bool true]) ∧ IntList v [2] w' ∧ Below w.heap.size w w' := by
  go_enter Try.func16, Try.ntmps16
  go_wp2_with fail
  refine bodyPost_ret (v := .tuple #[.slice (some ⟨w.heap.size, 0, none⟩) 1 1, .int .i64 1, .bool true]) (by simp [results, Try.results16, go_sem]) rfl ⟨_, rfl, ?_, ?_⟩
  · exact IntList_new _ _ (by simp only [szA]) _ _ rfl _ rfl
  · exact (Below.refl _ _).alloc (by first | exact Nat.le_refl _ | (simp only [szA]; omega)) _
theorem rcall_w2 (op : ByteArray) (w : World) (h : op.toList = [118, 101, 99, 116, 111, 114]) :
    Calls Try.prog 16 #[.string op] w fun e w' => ∃ v, e = .returned (.tuple #[v, .int .i64 2, .bool true]) ∧ IntList v [1] w' ∧ Below w.heap.size w w' := by
  go_enter Try.func16, Try.ntmps16
  go_wp2_with fail
  refine bodyPost_ret (v := .tuple #[.slice (some ⟨w.heap.size, 0, none⟩) 1 1, .int .i64 2, .bool true]) (by simp [results, Try.results16, go_sem]) rfl ⟨_, rfl, ?_, ?_⟩
  · exact IntList_new _ _ (by simp only [szA]) _ _ rfl _ rfl
  · exact (Below.refl _ _).alloc (by first | exact Nat.le_refl _ | (simp only [szA]; omega)) _
theorem rcall_w3 (op : ByteArray) (w : World) (h : op.toList = [97, 98, 115]) :
    Calls Try.prog 16 #[.string op] w fun e w' => ∃ v, e = .returned (.tuple #[v, .int .i64 2, .bool true]) ∧ IntList v [2] w' ∧ Below w.heap.size w w' := by
  have hrn4 : oneB op n4 = true := by simp [oneB, n4, h, go_sem]
  have HRn4 := Lib.hid hrn4
  clear hrn4
  go_enter Try.func16, Try.ntmps16
  go_wp2_with (first | (go_at_call 26; (with_reducible refine (in_n4 op true HRn4.out _ _ ?hB).mono ?_); (case hB => first | rfl | simp only [szA]); rintro e w' ⟨rfl, rfl⟩))
  refine bodyPost_ret (v := .tuple #[.slice (some ⟨w.heap.size + 1, 0, none⟩) 1 1, .int .i64 2, .bool true]) (by simp [results, Try.results16, go_sem]) rfl ⟨_, rfl, ?_, ?_⟩
  · exact IntList_new _ _ (by simp only [szA]) _ _ rfl _ rfl
  · exact ((Below.refl _ _).alloc (by first | exact Nat.le_refl _ | (simp only [szA]; omega)) _).alloc (by first | exact Nat.le_refl _ | (simp only [szA]; omega)) _
theorem rcall_w4 (op : ByteArray) (w : World) (h : op.toList = [99, 101, 105, 108]) :
    Calls Try.prog 16 #[.string op] w fun e w' => ∃ v, e = .returned (.tuple #[v, .int .i64 2, .bool true]) ∧ IntList v [2] w' ∧ Below w.heap.size w w' := by
  have hrn4 : oneB op n4 = true := by simp [oneB, n4, h, go_sem]
  have HRn4 := Lib.hid hrn4
  clear hrn4
  go_enter Try.func16, Try.ntmps16
  go_wp2_with (first | (go_at_call 26; (with_reducible refine (in_n4 op true HRn4.out _ _ ?hB).mono ?_); (case hB => first | rfl | simp only [szA]); rintro e w' ⟨rfl, rfl⟩))
  refine bodyPost_ret (v := .tuple #[.slice (some ⟨w.heap.size + 1, 0, none⟩) 1 1, .int .i64 2, .bool true]) (by simp [results, Try.results16, go_sem]) rfl ⟨_, rfl, ?_, ?_⟩
  · exact IntList_new _ _ (by simp only [szA]) _ _ rfl _ rfl
  · exact ((Below.refl _ _).alloc (by first | exact Nat.le_refl _ | (simp only [szA]; omega)) _).alloc (by first | exact Nat.le_refl _ | (simp only [szA]; omega)) _
theorem rcall_w5 (op : ByteArray) (w : World) (h : op.toList = [102, 108, 111, 111, 114]) :
    Calls Try.prog 16 #[.string op] w fun e w' => ∃ v, e = .returned (.tuple #[v, .int .i64 2, .bool true]) ∧ IntList v [2] w' ∧ Below w.heap.size w w' := by
  have hrn4 : oneB op n4 = true := by simp [oneB, n4, h, go_sem]
  have HRn4 := Lib.hid hrn4
  clear hrn4
  go_enter Try.func16, Try.ntmps16
  go_wp2_with (first | (go_at_call 26; (with_reducible refine (in_n4 op true HRn4.out _ _ ?hB).mono ?_); (case hB => first | rfl | simp only [szA]); rintro e w' ⟨rfl, rfl⟩))
  refine bodyPost_ret (v := .tuple #[.slice (some ⟨w.heap.size + 1, 0, none⟩) 1 1, .int .i64 2, .bool true]) (by simp [results, Try.results16, go_sem]) rfl ⟨_, rfl, ?_, ?_⟩
  · exact IntList_new _ _ (by simp only [szA]) _ _ rfl _ rfl
  · exact ((Below.refl _ _).alloc (by first | exact Nat.le_refl _ | (simp only [szA]; omega)) _).alloc (by first | exact Nat.le_refl _ | (simp only [szA]; omega)) _
theorem rcall_w6 (op : ByteArray) (w : World) (h : op.toList = [115, 103, 110]) :
    Calls Try.prog 16 #[.string op] w fun e w' => ∃ v, e = .returned (.tuple #[v, .int .i64 2, .bool true]) ∧ IntList v [2] w' ∧ Below w.heap.size w w' := by
  have hrn4 : oneB op n4 = true := by simp [oneB, n4, h, go_sem]
  have HRn4 := Lib.hid hrn4
  clear hrn4
  go_enter Try.func16, Try.ntmps16
  go_wp2_with (first | (go_at_call 26; (with_reducible refine (in_n4 op true HRn4.out _ _ ?hB).mono ?_); (case hB => first | rfl | simp only [szA]); rintro e w' ⟨rfl, rfl⟩))
  refine bodyPost_ret (v := .tuple #[.slice (some ⟨w.heap.size + 1, 0, none⟩) 1 1, .int .i64 2, .bool true]) (by simp [results, Try.results16, go_sem]) rfl ⟨_, rfl, ?_, ?_⟩
  · exact IntList_new _ _ (by simp only [szA]) _ _ rfl _ rfl
  · exact ((Below.refl _ _).alloc (by first | exact Nat.le_refl _ | (simp only [szA]; omega)) _).alloc (by first | exact Nat.le_refl _ | (simp only [szA]; omega)) _
theorem rcall_w7 (op : ByteArray) (w : World) (h : op.toList = [99, 108, 97, 109, 112]) :
    Calls Try.prog 16 #[.string op] w fun e w' => ∃ v, e = .returned (.tuple #[v, .int .i64 2, .bool true]) ∧ IntList v [2, 1, 1] w' ∧ Below w.heap.size w w' := by
  have hrn4 : oneB op n4 = false := by simp [oneB, n4, h, go_sem]
  have HRn4 := Lib.hid hrn4
  clear hrn4
  go_enter Try.func16, Try.ntmps16
  go_wp2_with (first | (go_at_call 26; (with_reducible refine (in_n4 op false HRn4.out _ _ ?hB).mono ?_); (case hB => first | rfl | simp only [szA]); rintro e w' ⟨rfl, rfl⟩))
  refine bodyPost_ret (v := .tuple #[.slice (some ⟨w.heap.size + 1, 0, none⟩) 3 3, .int .i64 2, .bool true]) (by simp [results, Try.results16, go_sem]) rfl ⟨_, rfl, ?_, ?_⟩
  · exact IntList_new _ _ (by simp only [szA]) _ _ rfl _ rfl
  · exact ((Below.refl _ _).alloc (by first | exact Nat.le_refl _ | (simp only [szA]; omega)) _).alloc (by first | exact Nat.le_refl _ | (simp only [szA]; omega)) _
theorem rcall_w8 (op : ByteArray) (w : World) (h : op.toList = [99, 111, 117, 110, 116, 95, 111, 118, 101, 114, 95, 116, 105, 109, 101]) :
    Calls Try.prog 16 #[.string op] w fun e w' => ∃ v, e = .returned (.tuple #[v, .int .i64 2, .bool true]) ∧ IntList v [3] w' ∧ Below w.heap.size w w' := by
  have hrn4 : oneB op n4 = false := by simp [oneB, n4, h, go_sem]
  have HRn4 := Lib.hid hrn4
  clear hrn4
  have hrn9 : oneB op n9 = true := by simp [oneB, n9, h, go_sem]
  have HRn9 := Lib.hid hrn9
  clear hrn9
  go_enter Try.func16, Try.ntmps16
  go_wp2_with (first | (go_at_call 26; (with_reducible refine (in_n4 op false HRn4.out _ _ ?hB).mono ?_); (case hB => first | rfl | simp only [szA]); rintro e w' ⟨rfl, rfl⟩) | (go_at_call 26; (with_reducible refine (in_n9 op true HRn9.out _ _ ?hB).mono ?_); (case hB => first | rfl | simp only [szA]); rintro e w' ⟨rfl, rfl⟩))
  refine bodyPost_ret (v := .tuple #[.slice (some ⟨w.heap.size + 2, 0, none⟩) 1 1, .int .i64 2, .bool true]) (by simp [results, Try.results16, go_sem]) rfl ⟨_, rfl, ?_, ?_⟩
  · exact IntList_new _ _ (by simp only [szA]) _ _ rfl _ rfl
  · exact (((Below.refl _ _).alloc (by first | exact Nat.le_refl _ | (simp only [szA]; omega)) _).alloc (by first | exact Nat.le_refl _ | (simp only [szA]; omega)) _).alloc (by first | exact Nat.le_refl _ | (simp only [szA]; omega)) _
theorem rcall_w9 (op : ByteArray) (w : World) (h : op.toList = [115, 117, 109, 95, 111, 118, 101, 114, 95, 116, 105, 109, 101]) :
    Calls Try.prog 16 #[.string op] w fun e w' => ∃ v, e = .returned (.tuple #[v, .int .i64 2, .bool true]) ∧ IntList v [3] w' ∧ Below w.heap.size w w' := by
  have hrn4 : oneB op n4 = false := by simp [oneB, n4, h, go_sem]
  have HRn4 := Lib.hid hrn4
  clear hrn4
  have hrn9 : oneB op n9 = true := by simp [oneB, n9, h, go_sem]
  have HRn9 := Lib.hid hrn9
  clear hrn9
  go_enter Try.func16, Try.ntmps16
  go_wp2_with (first | (go_at_call 26; (with_reducible refine (in_n4 op false HRn4.out _ _ ?hB).mono ?_); (case hB => first | rfl | simp only [szA]); rintro e w' ⟨rfl, rfl⟩) | (go_at_call 26; (with_reducible refine (in_n9 op true HRn9.out _ _ ?hB).mono ?_); (case hB => first | rfl | simp only [szA]); rintro e w' ⟨rfl, rfl⟩))
  refine bodyPost_ret (v := .tuple #[.slice (some ⟨w.heap.size + 2, 0, none⟩) 1 1, .int .i64 2, .bool true]) (by simp [results, Try.results16, go_sem]) rfl ⟨_, rfl, ?_, ?_⟩
  · exact IntList_new _ _ (by simp only [szA]) _ _ rfl _ rfl
  · exact (((Below.refl _ _).alloc (by first | exact Nat.le_refl _ | (simp only [szA]; omega)) _).alloc (by first | exact Nat.le_refl _ | (simp only [szA]; omega)) _).alloc (by first | exact Nat.le_refl _ | (simp only [szA]; omega)) _
theorem rcall_w10 (op : ByteArray) (w : World) (h : op.toList = [97, 118, 103, 95, 111, 118, 101, 114, 95, 116, 105, 109, 101]) :
    Calls Try.prog 16 #[.string op] w fun e w' => ∃ v, e = .returned (.tuple #[v, .int .i64 2, .bool true]) ∧ IntList v [3] w' ∧ Below w.heap.size w w' := by
  have hrn4 : oneB op n4 = false := by simp [oneB, n4, h, go_sem]
  have HRn4 := Lib.hid hrn4
  clear hrn4
  have hrn9 : oneB op n9 = true := by simp [oneB, n9, h, go_sem]
  have HRn9 := Lib.hid hrn9
  clear hrn9
  go_enter Try.func16, Try.ntmps16
  go_wp2_with (first | (go_at_call 26; (with_reducible refine (in_n4 op false HRn4.out _ _ ?hB).mono ?_); (case hB => first | rfl | simp only [szA]); rintro e w' ⟨rfl, rfl⟩) | (go_at_call 26; (with_reducible refine (in_n9 op true HRn9.out _ _ ?hB).mono ?_); (case hB => first | rfl | simp only [szA]); rintro e w' ⟨rfl, rfl⟩))
  refine bodyPost_ret (v := .tuple #[.slice (some ⟨w.heap.size + 2, 0, none⟩) 1 1, .int .i64 2, .bool true]) (by simp [results, Try.results16, go_sem]) rfl ⟨_, rfl, ?_, ?_⟩
  · exact IntList_new _ _ (by simp only [szA]) _ _ rfl _ rfl
  · exact (((Below.refl _ _).alloc (by first | exact Nat.le_refl _ | (simp only [szA]; omega)) _).alloc (by first | exact Nat.le_refl _ | (simp only [szA]; omega)) _).alloc (by first | exact Nat.le_refl _ | (simp only [szA]; omega)) _
theorem rcall_w11 (op : ByteArray) (w : World) (h : op.toList = [109, 105, 110, 95, 111, 118, 101, 114, 95, 116, 105, 109, 101]) :
    Calls Try.prog 16 #[.string op] w fun e w' => ∃ v, e = .returned (.tuple #[v, .int .i64 2, .bool true]) ∧ IntList v [3] w' ∧ Below w.heap.size w w' := by
  have hrn4 : oneB op n4 = false := by simp [oneB, n4, h, go_sem]
  have HRn4 := Lib.hid hrn4
  clear hrn4
  have hrn9 : oneB op n9 = true := by simp [oneB, n9, h, go_sem]
  have HRn9 := Lib.hid hrn9
  clear hrn9
  go_enter Try.func16, Try.ntmps16
  go_wp2_with (first | (go_at_call 26; (with_reducible refine (in_n4 op false HRn4.out _ _ ?hB).mono ?_); (case hB => first | rfl | simp only [szA]); rintro e w' ⟨rfl, rfl⟩) | (go_at_call 26; (with_reducible refine (in_n9 op true HRn9.out _ _ ?hB).mono ?_); (case hB => first | rfl | simp only [szA]); rintro e w' ⟨rfl, rfl⟩))
  refine bodyPost_ret (v := .tuple #[.slice (some ⟨w.heap.size + 2, 0, none⟩) 1 1, .int .i64 2, .bool true]) (by simp [results, Try.results16, go_sem]) rfl ⟨_, rfl, ?_, ?_⟩
  · exact IntList_new _ _ (by simp only [szA]) _ _ rfl _ rfl
  · exact (((Below.refl _ _).alloc (by first | exact Nat.le_refl _ | (simp only [szA]; omega)) _).alloc (by first | exact Nat.le_refl _ | (simp only [szA]; omega)) _).alloc (by first | exact Nat.le_refl _ | (simp only [szA]; omega)) _
theorem rcall_w12 (op : ByteArray) (w : World) (h : op.toList = [109, 97, 120, 95, 111, 118, 101, 114, 95, 116, 105, 109, 101]) :
    Calls Try.prog 16 #[.string op] w fun e w' => ∃ v, e = .returned (.tuple #[v, .int .i64 2, .bool true]) ∧ IntList v [3] w' ∧ Below w.heap.size w w' := by
  have hrn4 : oneB op n4 = false := by simp [oneB, n4, h, go_sem]
  have HRn4 := Lib.hid hrn4
  clear hrn4
  have hrn9 : oneB op n9 = true := by simp [oneB, n9, h, go_sem]
  have HRn9 := Lib.hid hrn9
  clear hrn9
  go_enter Try.func16, Try.ntmps16
  go_wp2_with (first | (go_at_call 26; (with_reducible refine (in_n4 op false HRn4.out _ _ ?hB).mono ?_); (case hB => first | rfl | simp only [szA]); rintro e w' ⟨rfl, rfl⟩) | (go_at_call 26; (with_reducible refine (in_n9 op true HRn9.out _ _ ?hB).mono ?_); (case hB => first | rfl | simp only [szA]); rintro e w' ⟨rfl, rfl⟩))
  refine bodyPost_ret (v := .tuple #[.slice (some ⟨w.heap.size + 2, 0, none⟩) 1 1, .int .i64 2, .bool true]) (by simp [results, Try.results16, go_sem]) rfl ⟨_, rfl, ?_, ?_⟩
  · exact IntList_new _ _ (by simp only [szA]) _ _ rfl _ rfl
  · exact (((Below.refl _ _).alloc (by first | exact Nat.le_refl _ | (simp only [szA]; omega)) _).alloc (by first | exact Nat.le_refl _ | (simp only [szA]; omega)) _).alloc (by first | exact Nat.le_refl _ | (simp only [szA]; omega)) _
theorem rcall_w13 (op : ByteArray) (w : World) (h : op.toList = [108, 97, 115, 116, 95, 111, 118, 101, 114, 95, 116, 105, 109, 101]) :
    Calls Try.prog 16 #[.string op] w fun e w' => ∃ v, e = .returned (.tuple #[v, .int .i64 2, .bool true]) ∧ IntList v [3] w' ∧ Below w.heap.size w w' := by
  have hrn4 : oneB op n4 = false := by simp [oneB, n4, h, go_sem]
  have HRn4 := Lib.hid hrn4
  clear hrn4
  have hrn9 : oneB op n9 = true := by simp [oneB, n9, h, go_sem]
  have HRn9 := Lib.hid hrn9
  clear hrn9
  go_enter Try.func16, Try.ntmps16
  go_wp2_with (first | (go_at_call 26; (with_reducible refine (in_n4 op false HRn4.out _ _ ?hB).mono ?_); (case hB => first | rfl | simp only [szA]); rintro e w' ⟨rfl, rfl⟩) | (go_at_call 26; (with_reducible refine (in_n9 op true HRn9.out _ _ ?hB).mono ?_); (case hB => first | rfl | simp only [szA]); rintro e w' ⟨rfl, rfl⟩))
  refine bodyPost_ret (v := .tuple #[.slice (some ⟨w.heap.size + 2, 0, none⟩) 1 1, .int .i64 2, .bool true]) (by simp [results, Try.results16, go_sem]) rfl ⟨_, rfl, ?_, ?_⟩
  · exact IntList_new _ _ (by simp only [szA]) _ _ rfl _ rfl
  · exact (((Below.refl _ _).alloc (by first | exact Nat.le_refl _ | (simp only [szA]; omega)) _).alloc (by first | exact Nat.le_refl _ | (simp only [szA]; omega)) _).alloc (by first | exact Nat.le_refl _ | (simp only [szA]; omega)) _
theorem rcall_w14 (op : ByteArray) (w : World) (h : op.toList = [100, 101, 108, 116, 97]) :
    Calls Try.prog 16 #[.string op] w fun e w' => ∃ v, e = .returned (.tuple #[v, .int .i64 2, .bool true]) ∧ IntList v [3] w' ∧ Below w.heap.size w w' := by
  have hrn4 : oneB op n4 = false := by simp [oneB, n4, h, go_sem]
  have HRn4 := Lib.hid hrn4
  clear hrn4
  have hrn9 : oneB op n9 = true := by simp [oneB, n9, h, go_sem]
  have HRn9 := Lib.hid hrn9
  clear hrn9
  go_enter Try.func16, Try.ntmps16
  go_wp2_with (first | (go_at_call 26; (with_reducible refine (in_n4 op false HRn4.out _ _ ?hB).mono ?_); (case hB => first | rfl | simp only [szA]); rintro e w' ⟨rfl, rfl⟩) | (go_at_call 26; (with_reducible refine (in_n9 op true HRn9.out _ _ ?hB).mono ?_); (case hB => first | rfl | simp only [szA]); rintro e w' ⟨rfl, rfl⟩))
  refine bodyPost_ret (v := .tuple #[.slice (some ⟨w.heap.size + 2, 0, none⟩) 1 1, .int .i64 2, .bool true]) (by simp [results, Try.results16, go_sem]) rfl ⟨_, rfl, ?_, ?_⟩
  · exact IntList_new _ _ (by simp only [szA]) _ _ rfl _ rfl
  · exact (((Below.refl _ _).alloc (by first | exact Nat.le_refl _ | (simp only [szA]; omega)) _).alloc (by first | exact Nat.le_refl _ | (simp only [szA]; omega)) _).alloc (by first | exact Nat.le_refl _ | (simp only [szA]; omega)) _
theorem rcall_w15 (op : ByteArray) (w : World) (h : op.toList = [105, 110, 99, 114, 101, 97, 115, 101]) :
    Calls Try.prog 16 #[.string op] w fun e w' => ∃ v, e = .returned (.tuple #[v, .int .i64 2, .bool true]) ∧ IntList v [3] w' ∧ Below w.heap.size w w' := by
  have hrn4 : oneB op n4 = false := by simp [oneB, n4, h, go_sem]
  have HRn4 := Lib.hid hrn4
  clear hrn4
  have hrn9 : oneB op n9 = true := by simp [oneB, n9, h, go_sem]
  have HRn9 := Lib.hid hrn9
  clear hrn9
  go_enter Try.func16, Try.ntmps16
  go_wp2_with (first | (go_at_call 26; (with_reducible refine (in_n4 op false HRn4.out _ _ ?hB).mono ?_); (case hB => first | rfl | simp only [szA]); rintro e w' ⟨rfl, rfl⟩) | (go_at_call 26; (with_reducible refine (in_n9 op true HRn9.out _ _ ?hB).mono ?_); (case hB => first | rfl | simp only [szA]); rintro e w' ⟨rfl, rfl⟩))
  refine bodyPost_ret (v := .tuple #[.slice (some ⟨w.heap.size + 2, 0, none⟩) 1 1, .int .i64 2, .bool true]) (by simp [results, Try.results16, go_sem]) rfl ⟨_, rfl, ?_, ?_⟩
  · exact IntList_new _ _ (by simp only [szA]) _ _ rfl _ rfl
  · exact (((Below.refl _ _).alloc (by first | exact Nat.le_refl _ | (simp only [szA]; omega)) _).alloc (by first | exact Nat.le_refl _ | (simp only [szA]; omega)) _).alloc (by first | exact Nat.le_refl _ | (simp only [szA]; omega)) _
theorem rcall_w16 (op : ByteArray) (w : World) (h : op.toList = [114, 97, 116, 101]) :
    Calls Try.prog 16 #[.string op] w fun e w' => ∃ v, e = .returned (.tuple #[v, .int .i64 2, .bool true]) ∧ IntList v [3] w' ∧ Below w.heap.size w w' := by
  have hrn4 : oneB op n4 = false := by simp [oneB, n4, h, go_sem]
  have HRn4 := Lib.hid hrn4
  clear hrn4
  have hrn9 : oneB op n9 = true := by simp [oneB, n9, h, go_sem]
  have HRn9 := Lib.hid hrn9
  clear hrn9
  go_enter Try.func16, Try.ntmps16
  go_wp2_with (first | (go_at_call 26; (with_reducible refine (in_n4 op false HRn4.out _ _ ?hB).mono ?_); (case hB => first | rfl | simp only [szA]); rintro e w' ⟨rfl, rfl⟩) | (go_at_call 26; (with_reducible refine (in_n9 op true HRn9.out _ _ ?hB).mono ?_); (case hB => first | rfl | simp only [szA]); rintro e w' ⟨rfl, rfl⟩))
  refine bodyPost_ret (v := .tuple #[.slice (some ⟨w.heap.size + 2, 0, none⟩) 1 1, .int .i64 2, .bool true]) (by simp [results, Try.results16, go_sem]) rfl ⟨_, rfl, ?_, ?_⟩
  · exact IntList_new _ _ (by simp only [szA]) _ _ rfl _ rfl
  · exact (((Below.refl _ _).alloc (by first | exact Nat.le_refl _ | (simp only [szA]; omega)) _).alloc (by first | exact Nat.le_refl _ | (simp only [szA]; omega)) _).alloc (by first | exact Nat.le_refl _ | (simp only [szA]; omega)) _
theorem rcall_none (op : ByteArray) (w : World) (h0 : (op.toList == [116, 105, 109, 101]) = false) (h1 : (op.toList == [115, 99, 97, 108, 97, 114]) = false) (h2 : (op.toList == [118, 101, 99, 116, 111, 114]) = false) (h3 : (op.toList == [97, 98, 115]) = false) (h4 : (op.toList == [99, 101, 105, 108]) = false) (h5 : (op.toList == [102, 108, 111, 111, 114]) = false) (h6 : (op.toList == [115, 103, 110]) = false) (h7 : (op.toList == [99, 108, 97, 109, 112]) = false) (h8 : (op.toList == [99, 111, 117, 110, 116, 95, 111, 118, 101, 114, 95, 116, 105, 109, 101]) = false) (h9 : (op.toList == [115, 117, 109, 95, 111, 118, 101, 114, 95, 116, 105, 109, 101]) = false) (h10 : (op.toList == [97, 118, 103, 95, 111, 118, 101, 114, 95, 116, 105, 109, 101]) = false) (h11 : (op.toList == [109, 105, 110, 95, 111, 118, 101, 114, 95, 116, 105, 109, 101]) = false) (h12 : (op.toList == [109, 97, 120, 95, 111, 118, 101, 114, 95, 116, 105, 109, 101]) = false) (h13 : (op.toList == [108, 97, 115, 116, 95, 111, 118, 101, 114, 95, 116, 105, 109, 101]) = false) (h14 : (op.toList == [100, 101, 108, 116, 97]) = false) (h15 : (op.toList == [105, 110, 99, 114, 101, 97, 115, 101]) = false) (h16 : (op.toList == [114, 97, 116, 101]) = false) :
    Calls Try.prog 16 #[.string op] w fun e w' => ∃ v, e = .returned (.tuple #[v, .int .i64 0, .bool false]) ∧ IntList v [] w' ∧ Below w.heap.size w w' := by
  have hrn4 : oneB op n4 = false := by
    simp [oneB, n4, go_sem]
    exact ⟨fun e => (by rw [← e] at h3; simp at h3), fun e => (by rw [← e] at h4; simp at h4), fun e => (by rw [← e] at h5; simp at h5), fun e => (by rw [← e] at h6; simp at h6)⟩
  have HRn4 := Lib.hid hrn4
  clear hrn4
  have hrn9 : oneB op n9 = false := by
    simp [oneB, n9, go_sem]
    exact ⟨fun e => (by rw [← e] at h8; simp at h8), fun e => (by rw [← e] at h9; simp at h9), fun e => (by rw [← e] at h10; simp at h10), fun e => (by rw [← e] at h11; simp at h11), fun e => (by rw [← e] at h12; simp at h12), fun e => (by rw [← e] at h13; simp at h13), fun e => (by rw [← e] at h14; simp at h14), fun e => (by rw [← e] at h15; simp at h15), fun e => (by rw [← e] at h16; simp at h16)⟩
  have HRn9 := Lib.hid hrn9
  clear hrn9
  go_enter Try.func16, Try.ntmps16
  go_wp2_with (first | (go_at_call 26; (with_reducible refine (in_n4 op false HRn4.out _ _ ?hB).mono ?_); (case hB => first | rfl | simp only [szA]); rintro e w' ⟨rfl, rfl⟩) | (go_at_call 26; (with_reducible refine (in_n9 op false HRn9.out _ _ ?hB).mono ?_); (case hB => first | rfl | simp only [szA]); rintro e w' ⟨rfl, rfl⟩))
  refine bodyPost_ret (v := .tuple #[.slice none 0 0, .int .i64 0, .bool false]) (by simp [results, Try.results16, go_sem]) rfl ⟨_, rfl, ?_, ?_⟩
  · exact Or.inl ⟨rfl, rfl⟩
  · exact ((Below.refl _ _).alloc (by first | exact Nat.le_refl _ | (simp only [szA]; omega)) _).alloc (by first | exact Nat.le_refl _ | (simp only [szA]; omega)) _
theorem rcall_any (op : ByteArray) (w : World) :
    Calls Try.prog 16 #[.string op] w fun e w' => ∃ v, e = .returned (.tuple #[v, .int .i64 (callM op.toList).2, .bool ((callM op.toList).2 != 0)]) ∧ IntList v (takesL (callM op.toList).1) w' ∧ Below w.heap.size w w' := by
  by_cases h0 : op.toList = [116, 105, 109, 101]
  · have e : callM op.toList = ((0, 0, 0), 1) := by rw [h0]; rfl
    rw [e]; exact rcall_w0 op w h0
  by_cases h1 : op.toList = [115, 99, 97, 108, 97, 114]
  · have e : callM op.toList = ((2, 0, 0), 1) := by rw [h1]; rfl
    rw [e]; exact rcall_w1 op w h1
  by_cases h2 : op.toList = [118, 101, 99, 116, 111, 114]
  · have e : callM op.toList = ((1, 0, 0), 2) := by rw [h2]; rfl
    rw [e]; exact rcall_w2 op w h2
  by_cases h3 : op.toList = [97, 98, 115]
  · have e : callM op.toList = ((2, 0, 0), 2) := by rw [h3]; rfl
    rw [e]; exact rcall_w3 op w h3
  by_cases h4 : op.toList = [99, 101, 105, 108]
  · have e : callM op.toList = ((2, 0, 0), 2) := by rw [h4]; rfl
    rw [e]; exact rcall_w4 op w h4
  by_cases h5 : op.toList = [102, 108, 111, 111, 114]
  · have e : callM op.toList = ((2, 0, 0), 2) := by rw [h5]; rfl
    rw [e]; exact rcall_w5 op w h5
  by_cases h6 : op.toList = [115, 103, 110]
  · have e : callM op.toList = ((2, 0, 0), 2) := by rw [h6]; rfl
    rw [e]; exact rcall_w6 op w h6
  by_cases h7 : op.toList = [99, 108, 97, 109, 112]
  · have e : callM op.toList = ((2, 1, 1), 2) := by rw [h7]; rfl
    rw [e]; exact rcall_w7 op w h7
  by_cases h8 : op.toList = [99, 111, 117, 110, 116, 95, 111, 118, 101, 114, 95, 116, 105, 109, 101]
  · have e : callM op.toList = ((3, 0, 0), 2) := by rw [h8]; rfl
    rw [e]; exact rcall_w8 op w h8
  by_cases h9 : op.toList = [115, 117, 109, 95, 111, 118, 101, 114, 95, 116, 105, 109, 101]
  · have e : callM op.toList = ((3, 0, 0), 2) := by rw [h9]; rfl
    rw [e]; exact rcall_w9 op w h9
  by_cases h10 : op.toList = [97, 118, 103, 95, 111, 118, 101, 114, 95, 116, 105, 109, 101]
  · have e : callM op.toList = ((3, 0, 0), 2) := by rw [h10]; rfl
    rw [e]; exact rcall_w10 op w h10
  by_cases h11 : op.toList = [109, 105, 110, 95, 111, 118, 101, 114, 95, 116, 105, 109, 101]
  · have e : callM op.toList = ((3, 0, 0), 2) := by rw [h11]; rfl
    rw [e]; exact rcall_w11 op w h11
  by_cases h12 : op.toList = [109, 97, 120, 95, 111, 118, 101, 114, 95, 116, 105, 109, 101]
  · have e : callM op.toList = ((3, 0, 0), 2) := by rw [h12]; rfl
    rw [e]; exact rcall_w12 op w h12
  by_cases h13 : op.toList = [108, 97, 115, 116, 95, 111, 118, 101, 114, 95, 116, 105, 109, 101]
  · have e : callM op.toList = ((3, 0, 0), 2) := by rw [h13]; rfl
    rw [e]; exact rcall_w13 op w h13
  by_cases h14 : op.toList = [100, 101, 108, 116, 97]
  · have e : callM op.toList = ((3, 0, 0), 2) := by rw [h14]; rfl
    rw [e]; exact rcall_w14 op w h14
  by_cases h15 : op.toList = [105, 110, 99, 114, 101, 97, 115, 101]
  · have e : callM op.toList = ((3, 0, 0), 2) := by rw [h15]; rfl
    rw [e]; exact rcall_w15 op w h15
  by_cases h16 : op.toList = [114, 97, 116, 101]
  · have e : callM op.toList = ((3, 0, 0), 2) := by rw [h16]; rfl
    rw [e]; exact rcall_w16 op w h16
  have e : callM op.toList = ((0, 0, 0), 0) := by
    simp only [callM, callTab, List.find?, beq_eq_false_iff_ne.2 h0, beq_eq_false_iff_ne.2 h1, beq_eq_false_iff_ne.2 h2, beq_eq_false_iff_ne.2 h3, beq_eq_false_iff_ne.2 h4, beq_eq_false_iff_ne.2 h5, beq_eq_false_iff_ne.2 h6, beq_eq_false_iff_ne.2 h7, beq_eq_false_iff_ne.2 h8, beq_eq_false_iff_ne.2 h9, beq_eq_false_iff_ne.2 h10, beq_eq_false_iff_ne.2 h11, beq_eq_false_iff_ne.2 h12, beq_eq_false_iff_ne.2 h13, beq_eq_false_iff_ne.2 h14, beq_eq_false_iff_ne.2 h15, beq_eq_false_iff_ne.2 h16]
  rw [e]; exact rcall_none op w (beq_eq_false_iff_ne.2 h0) (beq_eq_false_iff_ne.2 h1) (beq_eq_false_iff_ne.2 h2) (beq_eq_false_iff_ne.2 h3) (beq_eq_false_iff_ne.2 h4) (beq_eq_false_iff_ne.2 h5) (beq_eq_false_iff_ne.2 h6) (beq_eq_false_iff_ne.2 h7) (beq_eq_false_iff_ne.2 h8) (beq_eq_false_iff_ne.2 h9) (beq_eq_false_iff_ne.2 h10) (beq_eq_false_iff_ne.2 h11) (beq_eq_false_iff_ne.2 h12) (beq_eq_false_iff_ne.2 h13) (beq_eq_false_iff_ne.2 h14) (beq_eq_false_iff_ne.2 h15) (beq_eq_false_iff_ne.2 h16)
end Go.Proofs.Ytnlnmbnopdklhaa
