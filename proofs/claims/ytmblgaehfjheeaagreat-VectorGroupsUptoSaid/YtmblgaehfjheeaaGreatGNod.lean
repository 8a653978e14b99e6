/- Walks of package fixed, third part: Mul, Div, Mod, Scale. -/
import Derived.Test.YtmblgaehfjheeaaGreatProg
import Derived.WalkKit
import Derived.ProofKit
import Derived.OpenShut
import Derived.Outline
import Derived.WalkSpells
import Derived.WalkLawsBesides
import Derived.Deep.QuietTactic
import Derived.BigQuiet
import Derived.Lib.Hide
import Derived.Deep.DeepFit
import Derived.Deep.DeepMust
import Derived.Test.YtmblgaehfjheeaaGreatGFixB
import Derived.Test.YtmblgaehfjheeaaGreatGFixN

namespace Go.Proofs.YtmblgaehfjheeaaGreat
open Go.ChangeShapes Go.WideShapes Go.ChangeAt Go.RowKit
set_option linter.unusedVariables false
set_option maxRecDepth 100000
theorem scaled_any (a b c : Int) (w : World) (ha : -1152921504606846976 ≤ a ∧ a ≤ 1152921504606846976) (hb : -1152921504606846976 ≤ b ∧ b ≤ 1152921504606846976) (hc : -1152921504606846976 ≤ c ∧ c ≤ 1152921504606846976) (hc0 : c ≠ 0) :
  Calls Tryz.prog 85 #[.int .i64 a, .int .i64 b, .int .i64 c] w fun e w' => e = .returned (.tuple #[.int .i64 (fScaled a b c).1, .int .i64 (fScaled a b c).2]) ∧ Below w.heap.size w w' := by
 obtain ⟨A, hA⟩ : ∃ A, A = a.natAbs := ⟨_, rfl⟩
 obtain ⟨B, hB⟩ : ∃ B, B = b.natAbs := ⟨_, rfl⟩
 obtain ⟨C, hC⟩ : ∃ C, C = c.natAbs := ⟨_, rfl⟩
 have bA : A < 18446744073709551616 := by omega
 have bB : B < 18446744073709551616 := by omega
 have bC : C < 18446744073709551616 := by omega
 have bC0 : 0 < C := by omega
 obtain ⟨P, hP⟩ : ∃ P, P = A * B := ⟨_, rfl⟩
 obtain ⟨hi, hhi⟩ : ∃ hi, hi = P / 18446744073709551616 := ⟨_, rfl⟩
 obtain ⟨lo, hlo⟩ : ∃ lo, lo = P % 18446744073709551616 := ⟨_, rfl⟩
 have hlo' : lo < 18446744073709551616 := by omega
 have hPe : P = hi * 18446744073709551616 + lo := by omega
 have hf : fScaled a b c = if P / C ≤ 1152921504606846976 then (sgn (signB a b c) ((P / C : Nat) : Int), 0) else (0, 11) := by
  rw [hP, hA, hB, hC]; rfl
 by_cases h1 : C ≤ hi
 ·have hbig : ¬ P / C ≤ 1152921504606846976 := by
   have h2 : 18446744073709551616 ≤ P / C := by
    rw [Nat.le_div_iff_mul_le bC0]
    have := Nat.mul_le_mul_left 18446744073709551616 h1
    omega
   omega
  rw [hf, if_neg hbig]
  exact scaled_core a b c A B C hi lo w ha hb hc hA.symm hB.symm hC.symm (by rw [← hP]; exact hPe) hlo' bA bB bC (by simp [h1])
 ·have hq : (hi * 18446744073709551616 + lo) / C = P / C := by rw [← hPe]
  by_cases h2 : P / C ≤ 1152921504606846976
  ·rw [hf, if_pos h2]
   exact scaled_core3 a b c A B C hi lo w ha hb hc hA.symm hB.symm hC.symm (by rw [← hP]; exact hPe) hlo' bA bB bC (by simp; omega) (by omega) (P / C) hq (by simp; omega) (by omega)
  ·rw [hf, if_neg h2]
   exact scaled_core2 a b c A B C hi lo w ha hb hc hA.symm hB.symm hC.symm (by rw [← hP]; exact hPe) hlo' bA bB bC (by simp; omega) (by omega) (P / C) hq (by simp; omega)
def fMul (a b : Int) : Int × Int := if fitsB a && fitsB b then fScaled a b 1000000 else (0, 2)
def fDiv (a b : Int) : Int × Int := if fitsB a && fitsB b then if b = 0 then (0, 12) else fScaled a 1000000 b else (0, 2)
def fMod (a b : Int) : Int × Int := if fitsB a && fitsB b then if b = 0 then (0, 12) else (a.tmod b, 0) else (0, 2)
def fScale (a b c : Int) : Int × Int := if fitsB a && fitsB b && decide (1 ≤ c ∧ c ≤ 1152921504606846976) then fScaled a b c else (0, 2)
theorem mul_any (a b : Int) (w : World) :
  Calls Tryz.prog 42 #[.int .i64 a, .int .i64 b] w fun e w' => e = .returned (.tuple #[.int .i64 (fMul a b).1, .int .i64 (fMul a b).2]) ∧ Below w.heap.size w w' := by
 cases ha : fitsB a <;> cases hb : fitsB b
 case true.true =>
  have H := fun w => scaled_any a b 1000000 w (fitsB_t ha) (fitsB_t hb) (by omega) (by omega)
  have e : fScaled a b 1000000 = fMul a b := by simp [fMul, ha, hb]
  rw [e] at H
  have HH := Lib.hid H
  clear H e
  go_enter Tryz.func42, Tryz.ntmps42
  go_wp2_with (first | (go_at_call 30; ((with_reducible refine (fits_any _ _).mono ?_); rintro e w' ⟨rfl, rfl⟩)) | (go_at_call 85; refine (HH.out _).mono ?_; rintro e w' ⟨rfl, hB⟩))
  go_ret2
  exact ⟨rfl, hB⟩
 all_goals
  have e : fMul a b = (0, 2) := by simp [fMul, ha, hb]
  rw [e]
  go_enter Tryz.func42, Tryz.ntmps42
  go_wp2_with (first | (go_at_call 30; ((with_reducible refine (fits_any _ _).mono ?_); rintro e w' ⟨rfl, rfl⟩)))
  go_ret2
  exact ⟨rfl, Below.refl _ _⟩
theorem div_fix (a b : Int) (w : World) :
  Calls Tryz.prog 43 #[.int .i64 a, .int .i64 b] w fun e w' => e = .returned (.tuple #[.int .i64 (fDiv a b).1, .int .i64 (fDiv a b).2]) ∧ Below w.heap.size w w' := by
 cases ha : fitsB a <;> cases hb : fitsB b
 case true.true =>
  by_cases h0 : b = 0
  ·subst h0
   have e : fDiv a 0 = (0, 12) := by simp [fDiv, ha, hb]
   rw [e]
   clear e
   go_enter Tryz.func43, Tryz.ntmps43
   go_wp2_with (first | (go_at_call 30; ((with_reducible refine (fits_any _ _).mono ?_); rintro e w' ⟨rfl, rfl⟩)))
   go_ret2
   exact ⟨rfl, Below.refl _ _⟩
  ·have H := fun w => scaled_any a 1000000 b w (fitsB_t ha) (by omega) (fitsB_t hb) h0
   have e : fScaled a 1000000 b = fDiv a b := by simp [fDiv, ha, hb, h0]
   rw [e] at H
   have HH := Lib.hid H
   have e0 : (b == 0) = false := by simp [h0]
   clear H e h0
   go_enter Tryz.func43, Tryz.ntmps43
   go_wp2_with (first | (go_at_call 30; ((with_reducible refine (fits_any _ _).mono ?_); rintro e w' ⟨rfl, rfl⟩)) | (go_at_call 85; refine (HH.out _).mono ?_; rintro e w' ⟨rfl, hB⟩))
   go_ret2
   exact ⟨rfl, hB⟩
 all_goals
  have e : fDiv a b = (0, 2) := by simp [fDiv, ha, hb]
  rw [e]
  go_enter Tryz.func43, Tryz.ntmps43
  go_wp2_with (first | (go_at_call 30; ((with_reducible refine (fits_any _ _).mono ?_); rintro e w' ⟨rfl, rfl⟩)))
  go_ret2
  exact ⟨rfl, Below.refl _ _⟩
theorem mod_any (a b : Int) (w : World) :
  Calls Tryz.prog 44 #[.int .i64 a, .int .i64 b] w fun e w' => e = .returned (.tuple #[.int .i64 (fMod a b).1, .int .i64 (fMod a b).2]) ∧ w = w' := by
 cases ha : fitsB a <;> cases hb : fitsB b
 case true.true =>
  by_cases h0 : b = 0
  ·subst h0
   have e : fMod a 0 = (0, 12) := by simp [fMod, ha, hb]
   rw [e]
   clear e
   go_enter Tryz.func44, Tryz.ntmps44
   go_wp2_with (first | (go_at_call 30; ((with_reducible refine (fits_any _ _).mono ?_); rintro e w' ⟨rfl, rfl⟩)))
   go_ret2
   exact ⟨rfl, rfl⟩
  ·have e : fMod a b = (a.tmod b, 0) := by simp [fMod, ha, hb, h0]
   rw [e]
   have e0 : (b == 0) = false := by simp [h0]
   clear e
   go_enter Tryz.func44, Tryz.ntmps44
   go_wp2_with (first | (go_at_call 30; ((with_reducible refine (fits_any _ _).mono ?_); rintro e w' ⟨rfl, rfl⟩)))
   go_ret2
   exact ⟨rfl, rfl⟩
 all_goals
  have e : fMod a b = (0, 2) := by simp [fMod, ha, hb]
  rw [e]
  go_enter Tryz.func44, Tryz.ntmps44
  go_wp2_with (first | (go_at_call 30; ((with_reducible refine (fits_any _ _).mono ?_); rintro e w' ⟨rfl, rfl⟩)))
  go_ret2
  exact ⟨rfl, rfl⟩
theorem scale_any (a b c : Int) (w : World) :
  Calls Tryz.prog 126 #[.int .i64 a, .int .i64 b, .int .i64 c] w fun e w' => e = .returned (.tuple #[.int .i64 (fScale a b c).1, .int .i64 (fScale a b c).2]) ∧ Below w.heap.size w w' := by
 cases ha : fitsB a <;> cases hb : fitsB b
 case true.true =>
  by_cases c1 : c < 1
  ·have e : fScale a b c = (0, 2) := by simp [fScale, ha, hb]; omega
   rw [e]
   have e1 : decide (c < 1) = true := by simpa using c1
   clear e c1
   go_enter Tryz.func126, Tryz.ntmps126
   go_wp2_with (first | (go_at_call 30; ((with_reducible refine (fits_any _ _).mono ?_); rintro e w' ⟨rfl, rfl⟩)))
   go_ret2
   exact ⟨rfl, Below.refl _ _⟩
  ·by_cases c2 : 1152921504606846976 < c
   ·have e : fScale a b c = (0, 2) := by simp [fScale, ha, hb]; omega
    rw [e]
    have e1 : decide (c < 1) = false := by simp; omega
    have e2 : decide (1152921504606846976 < c) = true := by simpa using c2
    clear e c1 c2
    go_enter Tryz.func126, Tryz.ntmps126
    go_wp2_with (first | (go_at_call 30; ((with_reducible refine (fits_any _ _).mono ?_); rintro e w' ⟨rfl, rfl⟩)))
    go_ret2
    exact ⟨rfl, Below.refl _ _⟩
   ·have H := fun w => scaled_any a b c w (fitsB_t ha) (fitsB_t hb) (by omega) (by omega)
    have e : fScaled a b c = fScale a b c := by simp [fScale, ha, hb]; omega
    rw [e] at H
    have HH := Lib.hid H
    have e1 : decide (c < 1) = false := by simp; omega
    have e2 : decide (1152921504606846976 < c) = false := by simp; omega
    clear H e c1 c2
    go_enter Tryz.func126, Tryz.ntmps126
    go_wp2_with (first | (go_at_call 30; ((with_reducible refine (fits_any _ _).mono ?_); rintro e w' ⟨rfl, rfl⟩)) | (go_at_call 85; refine (HH.out _).mono ?_; rintro e w' ⟨rfl, hB⟩))
    go_ret2
    exact ⟨rfl, hB⟩
 all_goals
  have e : fScale a b c = (0, 2) := by simp [fScale, ha, hb]
  rw [e]
  go_enter Tryz.func126, Tryz.ntmps126
  go_wp2_with (first | (go_at_call 30; ((with_reducible refine (fits_any _ _).mono ?_); rintro e w' ⟨rfl, rfl⟩)))
  go_ret2
  exact ⟨rfl, Below.refl _ _⟩
theorem drop_cons (zs : List Int) (k : Nat) (h : k < zs.length) : zs.drop k = zs.getD k 0 :: zs.drop (k + 1) := by
 rw [List.drop_eq_getElem_cons h]; simp [h]
end Go.Proofs.YtmblgaehfjheeaaGreat
/- The tables of the program, with what is known of calls (chapter 19). -/
namespace Go.Proofs.YtmblgaehfjheeaaGreat.Ev
open Go.RowKit
set_option linter.unusedVariables false
noncomputable def ar2 (f : Nat) : Option (Int → Int → Int × Int) :=
 match Nat.beq f 40 with
 | true => some fAdd
 | false => match Nat.beq f 41 with
  | true => some fSub
  | false => match Nat.beq f 42 with
   | true => some fMul
   | false => match Nat.beq f 43 with
    | true => some fDiv
    | false => match Nat.beq f 44 with
     | true => some fMod
     | false => match Nat.beq f 46 with
      | true => some fAdd
      | false => match Nat.beq f 47 with
       | true => some fSub
       | false => match Nat.beq f 48 with
        | true => some fMul
        | false => match Nat.beq f 49 with
         | true => some fDiv
         | false => match Nat.beq f 50 with
          | true => some fMod
          | false => none
noncomputable def ar3 (f : Nat) : Option (Int → Int → Int → Int × Int) :=
 match Nat.beq f 126 with
 | true => some fScale
 | false => match Nat.beq f 143 with
  | true => some fScale
  | false => none
def pairA (p : Int × Int) : AV := .tuple [.int .i64 p.1, .int .i64 ((p.2.toNat : Nat) : Int)]
def strsOf : List AV → Option (List (List Nat))
 | [] => some []
 | .str s :: l => match strsOf l with
  | some m => some (s :: m)
  | none => none
 | _ :: _ => none
def joinA (l : List AV) (sep : List Nat) : Option AV :=
 match strsOf l with
 | some xs => match Nat.ble (List.intercalate sep xs).length 1073741824 with
  | true => some (.str (List.intercalate sep xs))
  | false => none
 | none => none
noncomputable def orc (f : Nat) (args : List AV) (h : AHeap) : Option AV :=
 match Nat.beq f 18 with
 | true => match args with
  | [] => some (.bool true)
  | _ => none
 | false => match ar2 f with
  | some m => match args with
   | [.int .i64 a, .int .i64 b] => some (pairA (m a b))
   | _ => none
  | none => match ar3 f with
   | some m => match args with
    | [.int .i64 a, .int .i64 b, .int .i64 c] => some (pairA (m a b c))
    | _ => none
   | none => match Nat.beq f 98 with
    | true => match args with
     | [.slice b 0 (n + 1) 1, .str sep] => match Nat.ble (n + 1) 1073741824 with
      | true => match h.objs.get b with
       | some ob => match sub? ob.cells 0 (n + 1) with
        | some l => joinA l sep
        | none => none
       | none => none
      | false => none
     | _ => none
    | false => none
noncomputable def tab : Tab := (tabOf Tryz.prog).knows (fun _ _ _ _ => none) (fun _ _ => none) orc
theorem ag128 : tab.isAgg 128 = some false := by kernel_rfl
theorem ag132 : tab.isAgg 132 = some true := by kernel_rfl
theorem ag22 : tab.isAgg 22 = some false := by kernel_rfl
theorem ag3 : tab.isAgg 3 = some false := by kernel_rfl
theorem ag33 : tab.isAgg 33 = some false := by kernel_rfl
theorem ag35 : tab.isAgg 35 = some true := by kernel_rfl
theorem ag40 : tab.isAgg 40 = some false := by kernel_rfl
theorem ag68 : tab.isAgg 68 = some true := by kernel_rfl
theorem ag9 : tab.isAgg 9 = some false := by kernel_rfl
theorem ag90 : tab.isAgg 90 = some false := by kernel_rfl
theorem ao132 : AO tab 132 = some ⟨1, true, [.str [], .str []]⟩ := by kernel_rfl
theorem ao35 : AO tab 35 = some ⟨2, true, [.nils, .int .i64 0]⟩ := by kernel_rfl
theorem ao68 : AO tab 68 = some ⟨2, true, [.str [], .str []]⟩ := by kernel_rfl
theorem ap146_146 : AP tab 146 146 = some 1 := by kernel_rfl
theorem ap22_22 : AP tab 22 22 = some 2 := by kernel_rfl
theorem ap33_33 : AP tab 33 33 = some 2 := by kernel_rfl
theorem ap40_40 : AP tab 40 40 = some 1 := by kernel_rfl
theorem ap81_81 : AP tab 81 81 = some 1 := by kernel_rfl
theorem ap89_89 : AP tab 89 89 = some 1 := by kernel_rfl
theorem ap90_90 : AP tab 90 90 = some 1 := by kernel_rfl
theorem bx130 : ∀ l : List AV, l.length = 2 → varObj tab 130 l = ⟨2, true, l⟩ := by intro l h; exact varObj_plain (by kernel_rfl) h
theorem bx35 : ∀ l : List AV, l.length = 2 → varObj tab 35 l = ⟨2, true, l⟩ := by intro l h; exact varObj_plain (by kernel_rfl) h
theorem bx40 : ∀ l : List AV, l.length = 1 → varObj tab 40 l = ⟨1, true, l⟩ := by intro l h; exact varObj_plain (by kernel_rfl) h
theorem bx68 : ∀ l : List AV, l.length = 2 → varObj tab 68 l = ⟨2, true, l⟩ := by intro l h; exact varObj_plain (by kernel_rfl) h
theorem fa130_0 : FA tab 130 0 = some (0, 0 + 1) := by kernel_rfl
theorem fa130_1 : FA tab 130 1 = some (1, 0 + 1) := by kernel_rfl
theorem fa35_0 : FA tab 35 0 = some (0, 0 + 1) := by kernel_rfl
theorem fa35_1 : FA tab 35 1 = some (1, 0 + 1) := by kernel_rfl
theorem fa68_0 : FA tab 68 0 = some (0, 0 + 1) := by kernel_rfl
theorem fa68_1 : FA tab 68 1 = some (1, 0 + 1) := by kernel_rfl
theorem mt116 : mapTypes (tab.und 116) = some (9, 3) := by kernel_rfl
theorem mt128 : mapTypes (tab.und 128) = some (132, 89) := by kernel_rfl
theorem pl130 : PL tab 130 [.nils, .nilm] [(0, 1), (1, 1)] = true := by kernel_rfl
theorem pl132 : PL tab 132 [.str [], .str []] [(0, 1), (1, 1)] = true := by kernel_rfl
theorem pl35 : PL tab 35 [.nils, .int .i64 0] [(0, 1), (1, 1)] = true := by kernel_rfl
theorem pl68 : PL tab 68 [.str [], .str []] [(0, 1), (1, 1)] = true := by kernel_rfl
theorem sz132 : tab.size 132 = some 2 := by kernel_rfl
theorem sz22 : tab.size 22 = some 1 := by kernel_rfl
theorem sz3 : tab.size 3 = some 1 := by kernel_rfl
theorem sz33 : tab.size 33 = some 1 := by kernel_rfl
theorem sz35 : tab.size 35 = some 2 := by kernel_rfl
theorem sz5 : tab.size 5 = some 1 := by kernel_rfl
theorem sz68 : tab.size 68 = some 2 := by kernel_rfl
theorem sz9 : tab.size 9 = some 1 := by kernel_rfl
theorem sz90 : tab.size 90 = some 1 := by kernel_rfl
theorem ud121 : tab.und 121 = some (.int .u64) := by kernel_rfl
theorem ud132 : tab.und 132 = some (.array 2 9) := by kernel_rfl
theorem ud146 : tab.und 146 = some (.slice 5) := by kernel_rfl
theorem ud22 : tab.und 22 = some (.slice 35) := by kernel_rfl
theorem ud3 : tab.und 3 = some (.int .i64) := by kernel_rfl
theorem ud33 : tab.und 33 = some (.slice 68) := by kernel_rfl
theorem ud4 : tab.und 4 = some .bool := by kernel_rfl
theorem ud40 : tab.und 40 = some (.slice 9) := by kernel_rfl
theorem ud5 : tab.und 5 = some (.int .u8) := by kernel_rfl
theorem ud81 : tab.und 81 = some (.slice 22) := by kernel_rfl
theorem ud89 : tab.und 89 = some (.slice 3) := by kernel_rfl
theorem ud9 : tab.und 9 = some .string := by kernel_rfl
theorem ud90 : tab.und 90 = some (.slice 33) := by kernel_rfl
theorem zr22 : tab.zero 22 = some (.nils) := by kernel_rfl
theorem zr3 : tab.zero 3 = some (.int .i64 0) := by kernel_rfl
theorem zr33 : tab.zero 33 = some (.nils) := by kernel_rfl
theorem zr35 : tab.zero 35 = some (.agg [.nils, .int .i64 0]) := by kernel_rfl
theorem zr5 : tab.zero 5 = some (.int .u8 0) := by kernel_rfl
theorem zr68 : tab.zero 68 = some (.agg [.str [], .str []]) := by kernel_rfl
theorem zr89 : tab.zero 89 = some (.nils) := by kernel_rfl
theorem zr9 : tab.zero 9 = some (.str []) := by kernel_rfl
def MemH (hs : HSt) (b : Nat) (o : AObj) : Prop := ∃ w, (⟨b, o, w⟩ : HE) ∈ hs
theorem MemH.tl {hs : HSt} {b : Nat} {o : AObj} {e : HE} (h : MemH hs b o) : MemH (e :: hs) b o := let ⟨w, g⟩ := h; ⟨w, List.mem_cons_of_mem _ g⟩
theorem MemH.app {A hs : HSt} {b : Nat} {o : AObj} (h : MemH hs b o) : MemH (A ++ hs) b o := let ⟨w, g⟩ := h; ⟨w, List.mem_append_right _ g⟩
theorem MemH.ro {hs : HSt} {b : Nat} {o : AObj} (h : MemH hs b o) : MemH (ro hs) b o := let ⟨w, g⟩ := h; ⟨false, List.mem_map.2 ⟨_, g, rfl⟩⟩
def nodeC (k : Int) (op : List Nat) (n : Int) (ms : AV) (rg off md : Int) (nm : AV) (sd : Int) (bl : Bool) (kd : AV) : List AV :=
 [.int .i64 k, .str op, .int .i64 n, ms, .int .i64 rg, .int .i64 off, .int .i64 md, nm, .int .i64 sd, .bool bl, kd]
def NRep (hs : HSt) : Nat → List AV → Prop
 | 0, _ => False
 | d + 1, c => ∃ k op n ms rg off md nm sd bl kd, c = nodeC k op n ms rg off md nm sd bl kd ∧ Bytes op ∧ op.length ≤ 281474976710656 ∧ ms.isCell = true ∧ nm.isCell = true ∧
   (kd = .nils ∨ ∃ b len ob, kd = .slice b 0 len 11 ∧ MemH hs b ob ∧ len ≤ 1048576 ∧ ∀ i, i < len → ∃ c', sub? ob.cells ((0 + i) * 11) 11 = some c' ∧ NRep hs d c')
theorem NRep.mono {hs hs' : HSt} (hm : ∀ b o, MemH hs b o → MemH hs' b o) : ∀ {d : Nat} {c : List AV}, NRep hs d c → NRep hs' d c
 | 0, _, h => h
 | d + 1, c, ⟨k, op, n, ms, rg, off, md, nm, sd, bl, kd, h1, h2, h3, h5, h6, h4⟩ => ⟨k, op, n, ms, rg, off, md, nm, sd, bl, kd, h1, h2, h3, h5, h6, h4.imp id fun ⟨b, len, ob, g1, g2, g3, g4⟩ =>
   ⟨b, len, ob, g1, hm _ _ g2, g3, fun i hi => let ⟨c', e1, e2⟩ := g4 i hi; ⟨c', e1, NRep.mono hm e2⟩⟩⟩
theorem NRep.succ {hs : HSt} : ∀ {d : Nat} {c : List AV}, NRep hs d c → NRep hs (d + 1) c
 | 0, _, h => h.elim
 | d + 1, c, ⟨k, op, n, ms, rg, off, md, nm, sd, bl, kd, h1, h2, h3, h5, h6, h4⟩ => ⟨k, op, n, ms, rg, off, md, nm, sd, bl, kd, h1, h2, h3, h5, h6, h4.imp id fun ⟨b, len, ob, g1, g2, g3, g4⟩ =>
   ⟨b, len, ob, g1, g2, g3, fun i hi => let ⟨c', e1, e2⟩ := g4 i hi; ⟨c', e1, NRep.succ e2⟩⟩⟩
theorem NRep.le {hs : HSt} {d : Nat} {c : List AV} (h : NRep hs d c) : ∀ {d' : Nat}, d ≤ d' → NRep hs d' c := by
 intro d' hd
 induction hd with
 | refl => exact h
 | step _ ih => exact ih.succ
theorem SubR.s {hs : HSt} (h : ∀ e ∈ hs, e.w = false) : SubR hs hs := ⟨fun e he => ⟨h e he, e.w, by obtain ⟨b, o, w⟩ := e; exact he⟩, id⟩
theorem SubR.t {a hs : HSt} {e : HE} (g : SubR a hs) : SubR a (e :: hs) :=
 ⟨fun x hx => let ⟨h1, w, h2⟩ := g.1 x hx; ⟨h1, w, List.mem_cons_of_mem _ h2⟩, fun hn => g.2 (by rw [List.map_cons, List.nodup_cons] at hn; exact hn.2)⟩
theorem perm_tail {N G K X : HSt} : ((N ++ K) ++ (X ++ G)).Perm ((N ++ G) ++ (K ++ X)) := by
 rw [List.append_assoc, List.append_assoc]
 refine List.Perm.append_left N ?_
 rw [← List.append_assoc]
 exact List.perm_append_comm
theorem ro_w {hs : HSt} : ∀ e ∈ ro hs, e.w = false := by
 intro e he
 obtain ⟨x, _, rfl⟩ := List.mem_map.1 he
 rfl
theorem SubR.appl {a A hs : HSt} (g : SubR a A) : SubR a (A ++ hs) :=
 ⟨fun x hx => let ⟨h1, w, h2⟩ := g.1 x hx; ⟨h1, w, List.mem_append_left _ h2⟩, fun hn => g.2 (by rw [List.map_append] at hn; exact (List.nodup_append.1 hn).1)⟩
theorem NRep.node {hs : HSt} : ∀ {d : Nat} {c : List AV}, NRep hs d c → ∃ k op n ms rg off md nm sd bl kd, c = nodeC k op n ms rg off md nm sd bl kd ∧ Bytes op ∧ ms.isCell = true ∧ nm.isCell = true ∧ kd.isCell = true
 | 0, _, h => h.elim
 | d + 1, c, ⟨k, op, n, ms, rg, off, md, nm, sd, bl, kd, h1, h2, h3, h5, h6, h4⟩ => ⟨k, op, n, ms, rg, off, md, nm, sd, bl, kd, h1, h2, h5, h6, by rcases h4 with rfl | ⟨b, len, ob, rfl, _⟩ <;> rfl⟩
end Go.Proofs.YtmblgaehfjheeaaGreat.Ev
