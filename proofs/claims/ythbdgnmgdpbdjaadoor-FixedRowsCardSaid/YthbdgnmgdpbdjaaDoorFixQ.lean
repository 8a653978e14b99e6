/- fixed.Print, whole; the examples of layer 3. -/
import Derived.Test.YthbdgnmgdpbdjaaDoorProg
import Derived.WalkKit
import Derived.ProofKit
import Derived.OpenShut
import Derived.Outline
import Derived.WalkSpells
import Derived.WalkLawsBesides
import Derived.Deep.QuietTactic
import Derived.BigQuiet
import Derived.Lib.Hide
import Derived.Deep.DeepFit
import Derived.Deep.DeepMust

import Derived.Test.YthbdgnmgdpbdjaaDoorFixP
import Derived.Test.YthbdgnmgdpbdjaaDoorFixU
namespace Go.Proofs.YthbdgnmgdpbdjaaDoor
open Go.ChangeShapes Go.WideShapes Go.ChangeAt Go.RowKit
set_option linter.unusedVariables false
set_option maxRecDepth 100000
theorem print_any (n : Int) (w : World) (ht : Tab w) :
    Calls Tryd.prog 27 #[.int .i64 n] w fun e w' => e = .returned (.tuple #[.string (bs (fPrint n).1), .int .i64 (fPrint n).2]) ∧ Below w.heap.size w w' := by
  cases hf : fitsB n
  · have e : fPrint n = ([], 2) := by simp [fPrint, hf]
    rw [e]
    go_enter Tryd.func27, Tryd.ntmps27
    go_wp2_with (first | (go_at_call 17; ((with_reducible refine (fits_any _ _).mono ?_); rintro e w' ⟨rfl, rfl⟩)))
    go_ret2
    exact ⟨rfl, Below.refl _ _⟩
  · have e : fPrint n = (printL n, 0) := by simp [fPrint, hf]
    rw [e]
    obtain ⟨A, hA⟩ : ∃ A, n.natAbs = A := ⟨_, rfl⟩
    obtain ⟨m, hm⟩ : ∃ m, A % 1000000 = m := ⟨_, rfl⟩
    obtain ⟨k, hk⟩ : ∃ k, A / 1000000 = k := ⟨_, rfl⟩
    have hb := fitsB_t hf
    have l1 : (Lib.itoa (k : Int)).length ≤ 21 := Lib.itoa_length_le _ (by omega) (by omega)
    by_cases h0 : m = 0
    · subst h0
      refine (print_whole n A k (bs (Lib.itoa (k : Int))) w hf ht hA hm hk rfl (by rw [bs_size]; exact l1) (decide (n < 0)) rfl).mono ?_
      rintro e w' ⟨rfl, hB⟩
      refine ⟨?_, hB⟩
      have hbody : bodyL n.natAbs = Lib.itoa (k : Int) := by simp [bodyL, hA, hm, hk]
      unfold printL
      rw [hbody]
      by_cases hn : n < 0
      · simp only [hn, decide_true, if_true, bs_append]; rfl
      · simp only [hn, decide_false, Bool.false_eq_true, if_false]
    · have l2 : (Lib.itoa ((1000000 + m : Nat) : Int)).length ≤ 21 := Lib.itoa_length_le _ (by omega) (by omega)
      have l3 : 1 ≤ (Lib.itoa ((1000000 + m : Nat) : Int)).length := by
        rw [Lib.itoa_nonneg, Lib.decDigits_length]
        unfold Lib.nDigits
        split <;> omega
      generalize hs2 : Lib.itoa ((1000000 + m : Nat) : Int) = S2 at *
      have hx : ((bs S2).extract 1 (bs S2).size).data.toList = S2.drop 1 := by rw [Lib.extract_to_end, bs_list]
      have hxs : ((bs S2).extract 1 (bs S2).size) = bs (S2.drop 1) := by rw [← hx, bs_of]
      have l4 : (Lib.trimRightB (S2.drop 1) 48).length ≤ 21 := by
        have := trimRightB_length (S2.drop 1) 48
        rw [List.length_drop] at this; omega
      refine (print_rest n A k m (bs (Lib.itoa (k : Int))) (bs S2) (bs (S2.drop 1)) (bs (Lib.trimRightB (S2.drop 1) 48)) (bs (46 :: Lib.trimRightB (S2.drop 1) 48)) (bs (Lib.itoa (k : Int) ++ 46 :: Lib.trimRightB (S2.drop 1) 48)) w hf ht hA hm h0
        (by rw [hs2]) (by rw [bs_size]; exact l3) (by rw [bs_size]; exact l2) hxs (by rw [bs_size, List.length_drop]; omega) (by rw [bs_list]) (by rw [bs_size]; exact l4)
        (bs_append [46] _) (by rw [bs_size, List.length_cons]; omega) (bs_append _ _) (by rw [bs_size, List.length_append, List.length_cons]; omega) hk rfl (by rw [bs_size]; exact l1) (decide (n < 0)) rfl).mono ?_
      rintro e w' ⟨rfl, hB⟩
      refine ⟨?_, hB⟩
      have hbody : bodyL n.natAbs = Lib.itoa (k : Int) ++ 46 :: Lib.trimRightB (S2.drop 1) 48 := by
        unfold bodyL; rw [hA, hm, hk, if_neg h0, hs2]
      unfold printL
      rw [hbody]
      by_cases hn : n < 0
      · simp only [hn, decide_true, if_true, bs_append]; rfl
      · simp only [hn, decide_false, Bool.false_eq_true, if_false]
theorem mul_example : fMul 1500000 2000000 = (3000000, 0) := by decide
theorem print_example : fPrint (-1500000) = ([45, 49, 46, 53], 0) := by
  have h1 : Lib.itoa ((1 : Nat) : Int) = [49] := by rw [Lib.itoa_nonneg, Lib.decDigits_one (by omega)]; rfl
  have h2 : Lib.itoa ((1500000 : Nat) : Int) = [49, 53, 48, 48, 48, 48, 48] := by
    rw [Lib.itoa_nonneg]
    rw [Lib.decDigits, dif_neg (by omega), Lib.decDigits, dif_neg (by omega), Lib.decDigits, dif_neg (by omega), Lib.decDigits, dif_neg (by omega), Lib.decDigits, dif_neg (by omega), Lib.decDigits, dif_neg (by omega), Lib.decDigits, dif_pos (by omega)]
    rfl
  have h3 : bodyL 1500000 = [49, 46, 53] := by
    unfold bodyL
    rw [show 1500000 / 1000000 = 1 from rfl, show 1500000 % 1000000 = 500000 from rfl, if_neg (by omega), show 1000000 + 500000 = 1500000 from rfl, h1, h2]
    rfl
  have h4 : fitsB (-1500000) = true := by decide
  unfold fPrint printL
  rw [h4, show (-1500000 : Int).natAbs = 1500000 from rfl, h3]
  rfl
theorem lives_any (w : World) (ht : Tab w) :
    Calls Tryd.prog 12 #[] w fun e w' => e = .returned (.bool true) ∧ Below w.heap.size w w' := by
  have HM := Lib.hid (fun w => mul_any 1500000 2000000 w)
  have HP := Lib.hid (fun w h => print_any (-1500000) w h)
  rw [mul_example] at HM
  rw [print_example] at HP
  have hbl : (bs [45, 49, 46, 53]).toList = [45, 49, 46, 53] := by rw [ByteArray.toList_eq, bs_list]
  have HT := Lib.hid ht
  clear ht
  go_enter Tryd.func12, Tryd.ntmps12
  go_wp2_with (first | (go_at_call 19; refine (HM.out _).mono ?_; rintro e w' ⟨rfl, hB⟩; have HB := Lib.hid hB; have HT2 := Lib.hid (HT.out.below hB); clear hB) | (go_at_call 27; refine (HP.out _ HT2.out).mono ?_; rintro e w' ⟨rfl, hB2⟩; have HB2 := Lib.hid (HB.out.trans (hB2.mono HB.out.size)); clear hB2))
  all_goals (go_ret; exact ⟨rfl, HB2.out⟩)
end Go.Proofs.YthbdgnmgdpbdjaaDoor
