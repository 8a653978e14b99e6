/- Walk of fixed.Print. -/
import Derived.Test.YthbdgnmgdpbdjaaDoorProg
import Derived.WalkKit
import Derived.ProofKit
import Derived.OpenShut
import Derived.Outline
import Derived.WalkSpells
import Derived.WalkLawsBesides
import Derived.Deep.QuietTactic
import Derived.BigQuiet
import Derived.Lib.Hide
import Derived.Deep.DeepFit
import Derived.Deep.DeepMust

import Derived.Test.YthbdgnmgdpbdjaaDoorFixC
import Derived.Lib.ItoaLen
import Derived.Lib.ItoaMem
namespace Go.Proofs.YthbdgnmgdpbdjaaDoor
open Go.ChangeShapes Go.WideShapes Go.ChangeAt Go.RowKit
set_option linter.unusedVariables false
set_option maxRecDepth 100000
def bs (l : List UInt8) : ByteArray := ⟨l.toArray⟩
theorem bs_size (l : List UInt8) : (bs l).size = l.length := by simp [bs, ByteArray.size]
theorem bs_list (l : List UInt8) : (bs l).data.toList = l := by simp [bs]
theorem bs_append (a b : List UInt8) : bs a ++ bs b = bs (a ++ b) := by
  apply ByteArray.ext; simp [bs]
theorem bs_of (s : ByteArray) : bs s.data.toList = s := by simp [bs]
def Tab (w : World) : Prop := Lib.TabIs Tryd.prog w "internal/strconv.uint64pow10" .u64 Lib.pow10Tab
theorem gTab : Tryd.prog.globalNamed "internal/strconv.uint64pow10" = some 3 := by kernel_rfl
theorem Tab.lt {w : World} (h : Tab w) : 3 < w.heap.size := by
  unfold Tab Lib.TabIs World.var? at h
  rw [gTab] at h
  simp only [Option.bind_some] at h
  rcases Nat.lt_or_ge 3 w.heap.size with h' | h'
  · exact h'
  · simp [Array.getElem?_eq_none h'] at h
theorem Tab.below {w w' : World} (h : Tab w) (hb : Below w.heap.size w w') : Tab w' := var?_below hb gTab h.lt h
theorem grow_below (w : World) (k : Nat) (os : Array Obj) : Below w.heap.size w (Go.Sort.grow (w.drewN k) os) :=
  ⟨rfl, rfl, rfl, by simp [Go.Sort.grow, World.drewN], fun i hi => by simp [Go.Sort.grow, World.drewN]; rw [Array.getElem?_append_left (by simpa using hi)]⟩
theorem itoa_v (n : Int) (s : ByteArray) (w : World) (h0 : 0 ≤ n ∧ n ≤ 9223372036854775807) (ht : Tab w) (hs : bs (Lib.itoa n) = s) :
    Calls Tryd.prog 35 #[.int .i64 n] w fun e w' => e = .returned (.string s) ∧ Below w.heap.size w w' :=
  (Tryd.strconv_Itoa n (by omega) (by omega) w ht).mono fun e w' ⟨he, k, os, hw⟩ => ⟨by rw [he, ← hs]; rfl, by rw [hw]; exact grow_below _ _ _⟩
/-- The text of a number of u parts, without its sign. -/
def bodyL (u : Nat) : List UInt8 :=
  Lib.itoa ((u / 1000000 : Nat) : Int) ++ if u % 1000000 = 0 then [] else 46 :: Lib.trimRightB ((Lib.itoa ((1000000 + u % 1000000 : Nat) : Int)).drop 1) 48
def printL (n : Int) : List UInt8 := if n < 0 then 45 :: bodyL n.natAbs else bodyL n.natAbs
def fPrint (n : Int) : List UInt8 × Int := if fitsB n then (printL n, 0) else ([], 2)
theorem trimRightB_length (l : List UInt8) (c : UInt8) : (Lib.trimRightB l c).length ≤ l.length := by
  unfold Lib.trimRightB
  rw [List.length_reverse]
  have := (List.dropWhile_sublist (· == c) (l := l.reverse)).length_le
  simpa using this
theorem print_whole (n : Int) (A k : Nat) (s1 : ByteArray) (w : World) (hf : fitsB n = true) (ht : Tab w) (hA : n.natAbs = A) (h0 : A % 1000000 = 0) (hk : A / 1000000 = k) (hs1 : bs (Lib.itoa (k : Int)) = s1) (b1 : s1.size ≤ 21) (neg : Bool) (hneg : decide (n < 0) = neg) :
    Calls Tryd.prog 27 #[.int .i64 n] w fun e w' => e = .returned (.tuple #[.string (if neg then bs [45] ++ s1 else s1), .int .i64 0]) ∧ Below w.heap.size w w' := by
  have hS := Lib.hid (fun w => size_any n w (fitsB_t hf))
  have bA : A ≤ 1152921504606846976 := by have := fitsB_t hf; omega
  rw [hA] at hS
  have HI := Lib.hid (fun w (h : Tab w) => itoa_v (k : Int) s1 w (by omega) h hs1)
  have HT := Lib.hid ht
  have hd : (A : Int) / 1000000 = (k : Int) := by omega
  have hk' : (k : Int) ≤ 1152921504607 := by omega
  have hm : (A : Int) % 1000000 = 0 := by omega
  have b2 : (s1.size : Int) ≤ 21 := by omega
  clear ht hA h0 hs1 hk
  cases neg
  all_goals
    go_enter Tryd.func27, Tryd.ntmps27
    go_wp2_with (first | (go_at_call 17; ((with_reducible refine (fits_any _ _).mono ?_); rintro e w' ⟨rfl, rfl⟩)) | (go_at_call 34; ((with_reducible refine (hS.out _).mono ?_); rintro e w' ⟨rfl, rfl⟩)) | (go_at_call 35; refine (HI.out _ HT.out).mono ?_; rintro e w' ⟨rfl, hB⟩))
    go_ret2
    exact ⟨rfl, hB⟩
theorem print_rest (n : Int) (A k m : Nat) (s1 s2 x2 t x3 x4 : ByteArray) (w : World) (hf : fitsB n = true) (ht : Tab w) (hA : n.natAbs = A) (h0 : A % 1000000 = m) (hm0 : m ≠ 0) (hs2 : bs (Lib.itoa ((1000000 + m : Nat) : Int)) = s2) (b0 : 1 ≤ s2.size) (bs2 : s2.size ≤ 21) (hx2 : s2.extract 1 s2.size = x2) (bx2 : x2.size ≤ 21) (htt : bs (Lib.trimRightB x2.data.toList 48) = t) (bt : t.size ≤ 21) (hx3 : (⟨#[46]⟩ : ByteArray) ++ t = x3) (bx3 : x3.size ≤ 22) (hx4 : s1 ++ x3 = x4) (bx4 : x4.size ≤ 43) (hk : A / 1000000 = k) (hs1 : bs (Lib.itoa (k : Int)) = s1) (b1 : s1.size ≤ 21) (neg : Bool) (hneg : decide (n < 0) = neg) :
    Calls Tryd.prog 27 #[.int .i64 n] w fun e w' => e = .returned (.tuple #[.string (if neg then bs [45] ++ x4 else x4), .int .i64 0]) ∧ Below w.heap.size w w' := by
  have hS := Lib.hid (fun w => size_any n w (fitsB_t hf))
  have bA : A ≤ 1152921504606846976 := by have := fitsB_t hf; omega
  rw [hA] at hS
  have HI := Lib.hid (fun w (h : Tab w) => itoa_v (k : Int) s1 w (by omega) h hs1)
  have HT := Lib.hid ht
  have hd : (A : Int) / 1000000 = (k : Int) := by omega
  have hk' : (k : Int) ≤ 1152921504607 := by omega
  have hm : (A : Int) % 1000000 = (m : Int) := by omega
  have hm1 : decide ((0 : Int) < (m : Int)) = true := by simp; omega
  have hm0' : decide (0 < m) = true := by simp; omega
  have hm2 : (m : Int) < 1000000 := by omega
  have HJ := Lib.hid (fun w (h : Tab w) => itoa_v ((1000000 + m : Nat) : Int) s2 w (by omega) h hs2)
  rw [show ((1000000 + m : Nat) : Int) = 1000000 + (m : Int) by omega] at HJ
  have HR := Lib.hid (fun w => (Tryd.strings_TrimRight_one x2 48 (by decide) w (by omega)))
  have et : (⟨(Lib.trimRightB x2.data.toList 48).toArray⟩ : ByteArray) = t := htt
  rw [et] at HR
  have bt' : (t.size : Int) ≤ 21 := by omega
  have bx3' : (x3.size : Int) ≤ 22 := by omega
  have bx4' : (x4.size : Int) ≤ 43 := by omega
  have b0' : (1 : Int) ≤ (s2.size : Int) := by omega
  have b2 : (s1.size : Int) ≤ 21 := by omega
  clear ht hA h0 hs1 hk hs2 htt et hm0
  cases neg
  all_goals
    go_enter Tryd.func27, Tryd.ntmps27
    go_wp2_with (first | (go_at_call 17; ((with_reducible refine (fits_any _ _).mono ?_); rintro e w' ⟨rfl, rfl⟩)) | (go_at_call 34; ((with_reducible refine (hS.out _).mono ?_); rintro e w' ⟨rfl, rfl⟩)) | (go_at_call 35; (with_reducible refine (HI.out _ HT.out).mono ?_); rintro e w' ⟨rfl, hB⟩; have HB := Lib.hid hB; have HT2 := Lib.hid (HT.out.below hB); clear hB))
    refine (HJ.out _ HT2.out).mono ?_
    rintro e w' ⟨rfl, hB2⟩
    have HB2 := Lib.hid (HB.out.trans (hB2.mono HB.out.size))
    clear hB2
    go_wp2_with fail
    refine (HR.out _).mono ?_
    rintro e w' ⟨rfl, rfl⟩
    go_simp
    repeat (first | go_skip | go_step)
    go_ret2
    exact ⟨rfl, HB2.out⟩
end Go.Proofs.YthbdgnmgdpbdjaaDoor
