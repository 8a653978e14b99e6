/- Walks of package fixed, third part: Mul, Div, Mod, Scale. -/
import Derived.Test.YtndhhgbpcmfeiaaGreatDoorProg
import Derived.WalkKit
import Derived.ProofKit
import Derived.OpenShut
import Derived.Outline
import Derived.WalkSpells
import Derived.WalkLawsBesides
import Derived.Deep.QuietTactic
import Derived.BigQuiet
import Derived.Lib.Hide
import Derived.Deep.DeepFit
import Derived.Deep.DeepMust
import Derived.Test.YtndhhgbpcmfeiaaGreatDoorPFixB
import Derived.Lib.ItoaNum
import Derived.Test.YtndhhgbpcmfeiaaGreatDoorPAwJ
import Derived.Test.YtndhhgbpcmfeiaaGreatDoorPGa

namespace Go.Proofs.YtndhhgbpcmfeiaaGreatDoor
open Go.ChangeShapes Go.WideShapes Go.ChangeAt Go.RowKit
set_option maxRecDepth 100000
theorem m5 (a b c : Int) (w : World) (ha : -1152921504606846976 <= a /\ a <= 1152921504606846976) (hb : -1152921504606846976 <= b /\ b <= 1152921504606846976) (hc : -1152921504606846976 <= c /\ c <= 1152921504606846976) (hc0 : c ≠ 0) :
  Calls Tryz.prog 143 #[.int .i64 a, .int .i64 b, .int .i64 c] w fun e w' => e = .returned (.tuple #[.int .i64 (eg a b c).1, .int .i64 (eg a b c).2]) /\ Below w.heap.size w w' := by
 obtain ⟨A, hA⟩ : ∃ A, A = a.natAbs := ⟨_, rfl⟩
 obtain ⟨B, hB⟩ : ∃ B, B = b.natAbs := ⟨_, rfl⟩
 obtain ⟨C, hC⟩ : ∃ C, C = c.natAbs := ⟨_, rfl⟩
 have bA : A < 18446744073709551616 := by omega
 have bB : B < 18446744073709551616 := by omega
 have bC : C < 18446744073709551616 := by omega
 have bC0 : 0 < C := by omega
 obtain ⟨P, hP⟩ : ∃ P, P = A * B := ⟨_, rfl⟩
 obtain ⟨hi, hhi⟩ : ∃ hi, hi = P / 18446744073709551616 := ⟨_, rfl⟩
 obtain ⟨lo, hlo⟩ : ∃ lo, lo = P % 18446744073709551616 := ⟨_, rfl⟩
 have hlo' : lo < 18446744073709551616 := by omega
 have hPe : P = hi * 18446744073709551616 + lo := by omega
 have hf : eg a b c = if P / C <= 1152921504606846976 then (Ca (kf a b c) ((P / C : Nat) : Int), 0) else (0, 11) := by
  rw [hP, hA, hB, hC]; rfl
 by_cases h1 : C <= hi
 ·have hbig : ¬ P / C <= 1152921504606846976 := by
   have h2 : 18446744073709551616 <= P / C := by
    rw [Nat.le_div_iff_mul_le bC0]
    have := Nat.mul_le_mul_left 18446744073709551616 h1
    omega
   omega
  rw [hf, if_neg hbig]
  exact qS a b c A B C hi lo w ha hb hc hA.symm hB.symm hC.symm (by rw [<- hP]; exact hPe) hlo' bA bB bC (by simp [h1])
 ·have hq : (hi * 18446744073709551616 + lo) / C = P / C := by rw [<- hPe]
  by_cases h2 : P / C <= 1152921504606846976
  ·rw [hf, if_pos h2]
   exact pv a b c A B C hi lo w ha hb hc hA.symm hB.symm hC.symm (by rw [<- hP]; exact hPe) hlo' bA bB bC (by simp; omega) (by omega) (P / C) hq (by simp; omega) (by omega)
  ·rw [hf, if_neg h2]
   exact pu a b c A B C hi lo w ha hb hc hA.symm hB.symm hC.symm (by rw [<- hP]; exact hPe) hlo' bA bB bC (by simp; omega) (by omega) (P / C) hq (by simp; omega)
def iL (a b : Int) : Int × Int := if bj a && bj b then eg a b 1000000 else (0, 2)
def gv (a b : Int) : Int × Int := if bj a && bj b then if b = 0 then (0, 12) else eg a 1000000 b else (0, 2)
def fO (a b : Int) : Int × Int := if bj a && bj b then if b = 0 then (0, 12) else (a.tmod b, 0) else (0, 2)
theorem Ab (a b : Int) (w : World) :
  Calls Tryz.prog 109 #[.int .i64 a, .int .i64 b] w fun e w' => e = .returned (.tuple #[.int .i64 (iL a b).1, .int .i64 (iL a b).2]) /\ Below w.heap.size w w' := by
 cases ha : bj a <;> cases hb : bj b
 case true.true =>
  have H := fun w => m5 a b 1000000 w (cw ha) (cw hb) (by omega) (by omega)
  have e : eg a b 1000000 = iL a b := by simp [iL, ha, hb]
  rw [e] at H
  have HH := Lib.hid H
  clear H e
  go_enter Tryz.func109, Tryz.ntmps109
  go_wp2_with (first | (go_at_call 75; ((with_reducible refine (cK _ _).mono ?_); rintro e w' ⟨rfl, rfl⟩)) | (go_at_call 143; refine (HH.out _).mono ?_; rintro e w' ⟨rfl, hB⟩))
  go_ret2
  exact ⟨rfl, hB⟩
 all_goals
  have e : iL a b = (0, 2) := by simp [iL, ha, hb]
  rw [e]
  go_enter Tryz.func109, Tryz.ntmps109
  go_wp2_with (first | (go_at_call 75; ((with_reducible refine (cK _ _).mono ?_); rintro e w' ⟨rfl, rfl⟩)))
  go_ret2
  exact ⟨rfl, Below.refl _ _⟩
theorem zE (a b : Int) (w : World) :
  Calls Tryz.prog 110 #[.int .i64 a, .int .i64 b] w fun e w' => e = .returned (.tuple #[.int .i64 (gv a b).1, .int .i64 (gv a b).2]) /\ Below w.heap.size w w' := by
 cases ha : bj a <;> cases hb : bj b
 case true.true =>
  by_cases h0 : b = 0
  ·subst h0
   have e : gv a 0 = (0, 12) := by simp [gv, ha, hb]
   rw [e]
   clear e
   go_enter Tryz.func110, Tryz.ntmps110
   go_wp2_with (first | (go_at_call 75; ((with_reducible refine (cK _ _).mono ?_); rintro e w' ⟨rfl, rfl⟩)))
   go_ret2
   exact ⟨rfl, Below.refl _ _⟩
  ·have H := fun w => m5 a 1000000 b w (cw ha) (by omega) (cw hb) h0
   have e : eg a 1000000 b = gv a b := by simp [gv, ha, hb, h0]
   rw [e] at H
   have HH := Lib.hid H
   have e0 : (b == 0) = false := by simp [h0]
   clear H e h0
   go_enter Tryz.func110, Tryz.ntmps110
   go_wp2_with (first | (go_at_call 75; ((with_reducible refine (cK _ _).mono ?_); rintro e w' ⟨rfl, rfl⟩)) | (go_at_call 143; refine (HH.out _).mono ?_; rintro e w' ⟨rfl, hB⟩))
   go_ret2
   exact ⟨rfl, hB⟩
 all_goals
  have e : gv a b = (0, 2) := by simp [gv, ha, hb]
  rw [e]
  go_enter Tryz.func110, Tryz.ntmps110
  go_wp2_with (first | (go_at_call 75; ((with_reducible refine (cK _ _).mono ?_); rintro e w' ⟨rfl, rfl⟩)))
  go_ret2
  exact ⟨rfl, Below.refl _ _⟩
theorem Aa (a b : Int) (w : World) :
  Calls Tryz.prog 111 #[.int .i64 a, .int .i64 b] w fun e w' => e = .returned (.tuple #[.int .i64 (fO a b).1, .int .i64 (fO a b).2]) /\ w = w' := by
 cases ha : bj a <;> cases hb : bj b
 case true.true =>
  by_cases h0 : b = 0
  ·subst h0
   have e : fO a 0 = (0, 12) := by simp [fO, ha, hb]
   rw [e]
   clear e
   go_enter Tryz.func111, Tryz.ntmps111
   go_wp2_with (first | (go_at_call 75; ((with_reducible refine (cK _ _).mono ?_); rintro e w' ⟨rfl, rfl⟩)))
   go_ret2
   exact ⟨rfl, rfl⟩
  ·have e : fO a b = (a.tmod b, 0) := by simp [fO, ha, hb, h0]
   rw [e]
   have e0 : (b == 0) = false := by simp [h0]
   clear e
   go_enter Tryz.func111, Tryz.ntmps111
   go_wp2_with (first | (go_at_call 75; ((with_reducible refine (cK _ _).mono ?_); rintro e w' ⟨rfl, rfl⟩)))
   go_ret2
   exact ⟨rfl, rfl⟩
 all_goals
  have e : fO a b = (0, 2) := by simp [fO, ha, hb]
  rw [e]
  go_enter Tryz.func111, Tryz.ntmps111
  go_wp2_with (first | (go_at_call 75; ((with_reducible refine (cK _ _).mono ?_); rintro e w' ⟨rfl, rfl⟩)))
  go_ret2
  exact ⟨rfl, rfl⟩
theorem tY (zs : List Int) (k : Nat) (h : k < zs.length) : zs.drop k = zs.getD k 0 :: zs.drop (k + 1) := by
 rw [List.drop_eq_getElem_cons h]; simp [h]
end Go.Proofs.YtndhhgbpcmfeiaaGreatDoor
/- Numerals, and texts of instructions. -/
namespace Go.Proofs.YtndhhgbpcmfeiaaGreatDoor.Ev
def rR (a : Int) : List Nat := (Lib.itoa a).map UInt8.toNat
def rS (k : Int) (op : List Nat) (A : List Int) : List Nat := rR k ++ 32 :: (op ++ A.flatMap fun a => 32 :: rR a)
open Go.RowKit
noncomputable def Dg (f : Nat) : Option (Int -> Int -> Int × Int) :=
 match Nat.beq f 107 with
 | true => some gI
 | false => match Nat.beq f 108 with
  | true => some js
  | false => match Nat.beq f 109 with
   | true => some iL
   | false => match Nat.beq f 110 with
    | true => some gv
    | false => match Nat.beq f 111 with
     | true => some fO
     | false => match Nat.beq f 115 with
      | true => some gI
      | false => match Nat.beq f 116 with
       | true => some js
       | false => match Nat.beq f 117 with
        | true => some iL
        | false => match Nat.beq f 118 with
         | true => some gv
         | false => match Nat.beq f 119 with
          | true => some fO
          | false => none
def ae (p : Int × Int) : AV := .tuple [.int .i64 p.1, .int .i64 ((p.2.toNat : Nat) : Int)]
def jG : List AV -> Option (List Int)
 | [] => some []
 | .int .i64 a :: l => match decide (-9223372036854775808 <= a /\ a <= 9223372036854775807), jG l with
  | true, some m => some (a :: m)
  | _, _ => none
 | _ :: _ => none
noncomputable def wI (k : Int) (op : List Nat) (h : AHeap) : AV -> Option AV
 | .nils => some (.str (rS k op []))
 | .slice b 0 n 1 => match Nat.ble n 1048576, h.objs.get b with
  | true, some ob => match du ob.cells 0 n with
   | some l => match jG l with
    | some A => some (.str (rS k op A))
    | none => none
   | none => none
  | _, _ => none
 | _ => none
noncomputable def BC (h : AHeap) : List AV -> Option AV
 | [.agg [.int .i64 k, .str op, _, _, _, _, _, _, _, _, _, va]] => match Nat.ble op.length 1048576 && decide (-9223372036854775808 <= k /\ k <= 9223372036854775807) with
  | true => wI k op h va
  | false => none
 | _ => none
noncomputable def orc (f : Nat) (args : List AV) (h : AHeap) : Option AV :=
 match Nat.beq f 10 with
 | true => match args with
  | [] => some (.bool true)
  | _ => none
 | false => match Nat.beq f 44 with
  | true => BC h args
  | false => match Dg f with
   | some m => match args with
    | [.int .i64 a, .int .i64 b] => some (ae (m a b))
    | _ => none
   | none => none
noncomputable def aW : Tab := (lw Tryz.prog).knows (fun _ _ _ _ => none) (fun _ _ => none) orc
set_option maxRecDepth 100000
def jQ (i k : Int) : Bool := decide (k < 0) || decide (i <= k)
def ai (A : List Int) (q : Nat) : Int := A.getD q 0
theorem iz {A : List Int} {q : Nat} (h : q < A.length) : A[q]? = some (ai A q) := by
 unfold ai
 rw [List.getD_eq_getElem?_getD, List.getElem?_eq_getElem h]; rfl
theorem iA {A : List Int} {q : Nat} (h : q < A.length) : (cA A)[(0 + q) * 1]? = some (.int .i64 (ai A q)) := by
 rw [Nat.zero_add, Nat.mul_one, cA, List.getElem?_map, iz h]; rfl
theorem vd {A : List Int} {p : Int -> Bool} {q : Nat} (h : q < A.length) (g : p (ai A q) = true) : A.any p = true :=
 List.any_eq_true.2 ⟨_, List.mem_of_getElem? (iz h), g⟩
theorem ve {A : List Int} {p : Int -> Bool} (h : ∀ q, q < A.length -> p (ai A q) = false) : A.any p = false := by
 rw [List.any_eq_false]
 intro x hx
 obtain ⟨q, hq⟩ := List.getElem?_of_mem hx
 have hl := (List.getElem?_eq_some_iff.1 hq).1
 rw [iz hl] at hq
 rw [<- Option.some.inj hq, h q hl]; decide
theorem vj {p : Prop} [Decidable p] {b : Bool} (h : p ↔ b = true) : decide p = b := by
 cases b with
 | true => exact decide_eq_true (h.2 rfl)
 | false => exact decide_eq_false fun q => by cases h.1 q
def iD (L : List IE) (i : Nat) : Bool := decide ((ei L i).nk = 0) && !((ei L i).ars.any (jQ ((i : Nat) : Int)))
def dE (L : List IE) : Nat := if L.length = 0 then 2 else if 1024 < L.length then 3 else if ∀ i, i < L.length -> iD L i = true then 0 else 2
section
variable {L : List IE}
theorem AJ (h : L.length = 0) : dE L = 2 := if_pos h
theorem AK (h : L.length ≠ 0) (g : 1024 < L.length) : dE L = 3 := by unfold dE; rw [if_neg h, if_pos g]
theorem p6 {i : Nat} (h : L.length ≠ 0) (g : L.length <= 1024) (hi : i < L.length) (k : iD L i = false) : dE L = 2 := by
 unfold dE
 rw [if_neg h, if_neg zy, if_neg fun q => by rw [q i hi] at k; cases k]
theorem AL (h : L.length ≠ 0) (g : L.length <= 1024) (k : ∀ i, i < L.length -> iD L i = true) : dE L = 0 := by
 unfold dE
 rw [if_neg h, if_neg zy, if_pos k]
theorem iH (h : dE L = 0) : 0 < L.length /\ L.length <= 1024 /\ ∀ i, i < L.length -> iD L i = true := by
 unfold dE at h
 split at h
 ·cases h
 split at h
 ·cases h
 split at h
 ·exact ⟨by omega, by omega, by assumption⟩
 ·cases h
theorem qK {i : Nat} (h : iD L i = true) : (ei L i).nk = 0 := by
 unfold iD at h
 simp only [Bool.and_eq_true, decide_eq_true_eq] at h
 exact h.1
theorem eU {i : Nat} (h : iD L i = true) {a : Int} (ha : a ∈ (ei L i).ars) : 0 <= a /\ a < i := by
 unfold iD at h
 simp only [Bool.and_eq_true, Bool.not_eq_true', List.any_eq_false, jQ, Bool.or_eq_true, decide_eq_true_eq, not_or] at h
 have := h.2 a ha
 omega
end
theorem oG (k : IntKind) (n : Int) : cf (.int k n) (.int k n) = true := by simp [cf]
theorem oH (s : List Nat) : cf (.str s) (.str s) = true := by simp [cf]
theorem lH (b : Bool) : cf (.bool b) (.bool b) = true := by simp [cf]
theorem gD : ∀ {l : List AV}, (l.all fun v => cf v v) = true -> fz cf l l = true
 | [], _ => rfl
 | x :: l, h => by
  rw [List.all_cons, Bool.and_eq_true] at h
  show (cf x x && fz cf l l) = true
  rw [h.1, gD h.2]; rfl
theorem lY {hs : ad} {x : IE} (h : IOK hs x) : (AV.agg (x.d.c x.vm x.vn x.vk)).beq (AV.agg (x.d.c x.vm x.vn x.vk)) = true :=
 gD (by simp only [ND.c, iT, List.all_cons, List.all_nil, h.m.bq0, h.n.bq0, h.k.bq0, oG, oH, lH, Bool.and_true])
theorem jN : aW.isAgg 24 = some false := by kernel_rfl
theorem dn : aW.isAgg 3 = some false := by kernel_rfl
theorem eZ : aW.isAgg 40 = some false := by kernel_rfl
theorem cH : aW.isAgg 42 = some true := by kernel_rfl
theorem Dv : AO aW 3 = some ⟨1, true, [.int .i64 0]⟩ := by kernel_rfl
theorem pS : AO aW 42 = some ⟨12, true, [.int .i64 0, .str [], .int .i64 0, .nils, .int .i64 0, .int .i64 0, .int .i64 0, .nils, .int .i64 0, .bool false, .nils, .nils]⟩ := by kernel_rfl
theorem cG : FA aW 26 10 = some (10, 0 + 1) := by kernel_rfl
theorem aV : FA aW 42 0 = some (0, 10 + 1) := by kernel_rfl
theorem bP : FA aW 42 1 = some (11, 0 + 1) := by kernel_rfl
theorem fP : aW.size 3 = some 1 := by kernel_rfl
theorem aC : aW.size 42 = some 12 := by kernel_rfl
theorem km : aW.und 24 = some (.slice 26) := by kernel_rfl
theorem aP : aW.und 30 = some (.slice 42) := by kernel_rfl
theorem bh : aW.und 40 = some (.slice 3) := by kernel_rfl
theorem wd (hs : ad) (hro : ∀ e ∈ hs, e.w = false) (L : List IE) (v : AV) (hV : IIn hs L v) (hB : ILB L) : Spec aW 14 [v] [] hs (pP (fun u => ∃ b : Bool, u = .bool b /\ (b = true -> L.length <= 100 /\ ∀ i, i < L.length -> (ei L i).ars.length <= 3))) := by
 have hBl := hB.1
 refine ak (eX 14 Tryz.func14) rfl (m := 31) rfl (rs := [.tmp 2]) rfl (st := [(0, v)]) rfl rfl (fun _ => rfl) (fun E => zr (za rfl (zk (W.seq (zr (za (zi 0) (zk (W.block (az (fun (i : Nat) => [(0, v), (3, .int .i64 ((i : Nat) : Int))]) (fun (i : Nat) => hs) (fun (i : Nat) => i <= L.length /\ i <= 100 /\ ∀ j, j < i -> (ei L j).ars.length <= 3) (fun (i : Nat) => L.length - i) (0) ⟨Nat.zero_le _, Nat.zero_le _, fun j h => absurd h (Nat.not_lt_zero _)⟩ zv (SubH.refl _) (fun i hI0 ih0 => ?_))))))))))
 obtain ⟨h1, h2, h3⟩ := hI0
 refine W.seq (zr (zm rfl (zm rfl (zq (Q.len aP rfl hV.1.len) (zq (aa rfl rfl rfl (fi fv)) (zk (aw rfl (fun hc7 => ?_) (fun hc7 => ?_))))))))
 ·obtain ⟨bv, szv, exv, rfl, wv, mv⟩ := hV.1.full zy
  refine zw (W.seq (W.block (zr (zm rfl (zq (aa rfl (zi 100) rfl (gU BG)) (zm rfl (aR (d := 12) rfl (fun hc12 => ?_) (fun hc12 => ?_))))))))
  ·refine z2 (z2 (z2 (zG (zq (au rfl rfl) (zm rfl (z2 (z2 (z2 (z2 (zq (au rfl rfl) (zk (W.sub (zc 30 rfl (zc 0 rfl (zc 3 rfl bE))) (aO rfl (zr (za rfl (zk ?_))))))))))))))))
   refine W.ret (ah (ac (cW (ah (ac (bZ (z1 rfl) ?_))))))
   exact ⟨false, rfl, fun h => by cases h⟩
  refine zT (zm rfl (zT (zm rfl (zT (zq (aQ aP aC rfl rfl zo) (zT (zq (Q.fieldAddr bP rfl rfl) (zT (zq (ag rfl mv eZ (gG 11 zo rfl)) (zT (zq (Q.len bh rfl (hV.at zo).a.len) (zT (zq (aa rfl (zi 3) rfl (gV fv)) (zq (aG rfl rfl) (zm rfl (aR (d := 21) rfl (fun hc21 => ?_) (fun hc21 => ?_)))))))))))))))))
  ·refine z2 (z2 (z2 (z2 (zq (au rfl rfl) (zk (W.sub (zc 30 rfl (zc 0 rfl (zc 3 rfl bE))) (aO rfl (zr (za rfl (zk (W.ret (ah (ac (cW (ah (ac (bZ (z1 rfl) ?_)))))))))))))))))
   exact ⟨false, rfl, fun h => by cases h⟩
  refine zT (zm rfl (zT (zm rfl (zT (zq (aQ aP aC rfl rfl zo) (zT (zq (Q.fieldAddr aV rfl rfl) (zT (zq (Q.fieldAddr cG rfl rfl) (zT (zq (ag rfl mv jN (gG 10 zo rfl)) (zT (zq (Q.len km rfl (hV.at zo).k.len) (zT (zq (aa rfl (zi 3) rfl (gV fv)) (zq (aG rfl rfl) (zk (W.sub (zc 30 rfl (zc 0 rfl (zc 3 rfl bE))) (aw rfl (fun hc30 => ?_) (fun hc30 => ?_))))))))))))))))))))
  ·refine zr (za rfl (zk (W.ret (ah (ac (cW (ah (ac (bZ (z1 rfl) ?_)))))))))
   exact ⟨false, rfl, fun h => by cases h⟩
  refine W.skip (End.KB (End.K (ay (zm rfl (zq (aa rfl (zi 1) rfl zp) (za rfl (WO.nil (End.KL (W.sub zv (bG (SubH.refl _) (ih0 (i + 1) ?_ ?_)))))))))))
  ·exact ⟨by omega, by omega, fun j hj => by rcases Nat.lt_or_ge j i with q | q; exact h3 j q; obtain rfl : j = i := zy; omega⟩
  exact zo
 refine W.exit (aJ (aM (aI (End.K (zr (za rfl (zk (W.ret (bZ (z1 rfl) ?_)))))))))
 exact ⟨true, rfl, fun _ => ⟨by omega, fun j hj => h3 j zy⟩⟩

theorem vC (hs : ad) (hro : ∀ e ∈ hs, e.w = false) (k : Int) (i : Int) (bi : Nat) (mi : MemH hs bi ⟨1, true, [.int .i64 i]⟩) : Spec aW 51 [.int .i64 k, .ptr bi 0] [] hs (eW (.bool (jQ i k))) := by
 obtain ⟨wi, mi⟩ := mi
 refine ak (eX 51 Tryz.func51) rfl (m := 11) rfl (rs := [.tmp 3]) rfl (st := [(0, .int .i64 k), (1, .ptr bi 0)]) rfl rfl (fun _ => rfl) (fun E => zr (za rfl (zk (zr (zm rfl (zq (aa rfl (zi 0) rfl (fi (cL _ _))) (zm rfl (aR (d := 6) rfl (fun hc6 => ?_) (fun hc6 => ?_)))))))))
 ·refine z2 (zG (zq (au rfl rfl) (za rfl (zk (W.ret (ab (z1 rfl) ?_))))))
  exact congrArg AV.bool (by unfold jQ; first | (simp_all; done) | (simp_all; omega))
 refine zT (zm rfl (zT (zq (ag rfl mi dn rfl) (zT (zq (aa rfl rfl rfl (gU ey)) (zq (aG rfl rfl) (za rfl (zk (W.ret (ab (z1 rfl) ?_))))))))))
 exact congrArg AV.bool (by unfold jQ; first | (simp_all; done) | (simp_all; omega))

theorem wE (hs : ad) (hro : ∀ e ∈ hs, e.w = false) (A : List Int) (va : AV) (hA : RIn hs 1 A.length (cA A) va) (hAl : A.length <= 1048576) (i : Int) (bi : Nat) (mi : MemH hs bi ⟨1, true, [.int .i64 i]⟩) : Spec aW 45 [va, .func 51 [.ptr bi 0]] [] hs (pP (fun u => ∃ r : Int, u = .int .i64 r /\ (0 <= r ↔ A.any (jQ i) = true))) := by
 refine ak (eX 45 Tryz.func45) rfl (m := 19) rfl (rs := [.tmp 4]) rfl (st := [(0, va), (1, .func 51 [.ptr bi 0])]) rfl rfl (fun _ => rfl) (fun E => zr (za (zi 0) (zk (W.seq (zr (zm rfl (zq (Q.len bh rfl hA.len) (zq (Q.move (zi 0)) (zk (W.block (az (fun (j : Nat) => [(0, va), (1, .func 51 [.ptr bi 0]), (7, .int .i64 ((A.length : Nat) : Int)), (8, .int .i64 ((j : Nat) : Int))]) (fun _ => _) (fun (j : Nat) => j <= A.length /\ ∀ q, q < j -> jQ i (ai A q) = false) (fun (j : Nat) => A.length - j) (0) ⟨Nat.zero_le _, fun j h => by omega⟩ zv (SubH.refl _) (fun j hI0 ih0 => ?_))))))))))))
 obtain ⟨hi, hno⟩ := hI0
 refine zr (zq (aa rfl rfl rfl (fi fv)) (zk (W.seq (aw rfl (fun hc9 => ?_) (fun hc9 => ?_)))))
 ·obtain ⟨ba, sza, exa, rfl, wa, ma⟩ := hA.full zy
  refine zw (W.seq (W.block (zr (zm rfl (za rfl (zk (zr (zm rfl (zm rfl (zm rfl (zq (aQ bh fP rfl rfl zo) (zq (ag rfl ma dn (iA zo)) (aB rfl (aY rfl oz) rfl (vC hs hro _ i bi mi) (aZ hro) rfl (zk (b9 rfl (fun hc16 => ?_) (fun hc16 => ?_))))))))))))))))
  ·refine zr (zm rfl (za rfl (zk (W.sub (zc 4 rfl bE) (W.ret (ah (ac (cW (ah (ac (bZ (z1 rfl) ?_)))))))))))
   exact ⟨_, rfl, ⟨fun _ => vd zy (by simpa using hc16), fun _ => by omega⟩⟩
  refine W.skip (End.KB (End.K (ay (zq (aa rfl (zi 1) rfl zp) (zm rfl (WO.nil (End.KL (W.sub zv (ih0 (j + 1) ?_ ?_)))))))))
  ·exact ⟨by omega, fun q h => by rcases Nat.lt_or_ge q j with g | g; exact hno q g; obtain rfl : q = j := zy; simpa using hc16⟩
  exact zo
 refine W.exit (aJ (aM (aI (End.K (zr (za rfl (zk (W.ret (bZ (z1 rfl) ?_)))))))))
 exact ⟨_, rfl, ⟨fun h => by omega, fun h => absurd h (by rw [ve (fun q h => hno q zy)]; decide)⟩⟩

theorem vN (hs : ad) (hro : ∀ e ∈ hs, e.w = false) (A : List Int) (va : AV) (hA : RIn hs 1 A.length (cA A) va) (hAl : A.length <= 1048576) (i : Int) (bi : Nat) (mi : MemH hs bi ⟨1, true, [.int .i64 i]⟩) : Spec aW 50 [va, .func 51 [.ptr bi 0]] [] hs (eW (.bool (A.any (jQ i)))) := by
 refine ak (eX 50 Tryz.func50) rfl (m := 9) rfl (rs := [.tmp 4]) rfl (st := [(0, va), (1, .func 51 [.ptr bi 0])]) rfl rfl (fun _ => rfl) (fun E => zr (za rfl (zk (zr (zm rfl (zm rfl (WO.callE rfl (aY rfl (aY rfl oz)) rfl (wE hs hro A _ hA hAl i bi mi) (aZ hro) rfl (fun v7 hP7 => ?_))))))))
 obtain ⟨r, rfl, hr⟩ := hP7
 refine zq (aa rfl (zi 0) rfl (gU ey)) (za rfl (zk (W.ret (ab (z1 rfl) ?_))))
 exact congrArg AV.bool (vj hr)

theorem jT (hs : ad) (hro : ∀ e ∈ hs, e.w = false) (L : List IE) (v : AV) (hV : IIn hs L v) (hB : ILB L) : Spec aW 22 [v] [] hs (eW (.int .i64 ((dE L : Nat) : Int))) := by
 have hBl := hB.1
 refine ak (eX 22 Tryz.func22) rfl (m := 32) rfl (rs := [.tmp 2]) rfl (st := [(0, v)]) rfl rfl (fun _ => rfl) (fun E => zr (za (zi 0) (zk (W.seq (W.block (zr (zm rfl (zq (Q.len aP rfl hV.1.len) (zq (aa rfl (zi 0) rfl (bz fe)) (za rfl (zk (aw rfl (fun hc5 => ?_) (fun hc5 => ?_)))))))))))))
 ·refine zr (za (zi 2) (zk (W.ret (ah (ac (ab (z1 rfl) ?_))))))
  rw [AJ (by simpa using hc5)]; rfl
 refine zr (zm rfl (zq (Q.len aP rfl hV.1.len) (zq (aa rfl (zi 1024) rfl (gV fv)) (za rfl (zk (aw rfl (fun hc9 => ?_) (fun hc9 => ?_)))))))
 ·refine zr (za (zi 3) (zk (W.ret (ah (ac (ab (z1 rfl) ?_))))))
  rw [AK zy zy]; rfl
 refine W.skip (End.KB (End.K (W.seq (zr (zm rfl (zq (Q.len aP rfl hV.1.len) (zq (Q.move (zi 0)) (zk (W.block (az (fun (i : Nat) => [(13, v), (14, .int .i64 ((L.length : Nat) : Int)), (15, .int .i64 ((i : Nat) : Int))]) (fun (i : Nat) => hs) (fun (i : Nat) => i <= L.length /\ ∀ j, j < i -> iD L j = true) (fun (i : Nat) => L.length - i) (0) ⟨Nat.zero_le _, fun j h => absurd h (Nat.not_lt_zero _)⟩ zv (SubH.refl _) (fun i hI0 ih0 => ?_)))))))))))
 obtain ⟨h1, h2⟩ := hI0
 refine zr (zq (aa rfl rfl rfl (fi fv)) (zk (W.seq (aw rfl (fun hc16 => ?_) (fun hc16 => ?_)))))
 ·obtain ⟨bv, szv, exv, rfl, wv, mv⟩ := hV.1.full zy
  refine zw (W.seq (W.block (zr (zm rfl (zq (aQ aP aC rfl rfl zo) (zq (aD rfl mv cH aC (fT zo)) (WO.alloc Dv rfl (fun b1 => WO.alloc pS rfl (fun b2 => WO.store fP rfl rfl (i := 1) rfl rfl (cs := [_]) rfl (hs' := _ :: _ :: _) rfl (WO.store aC rfl rfl (i := 0) rfl (dp rfl (IOK.cells (hV.at zy))) (cs := [_, _, _, _, _, _, _, _, _, _, _, _]) rfl (hs' := _ :: _ :: _) rfl (zk (zr (zf aV rfl 0 (zf cG rfl 10 (zq (ag rfl (zt 0 rfl) jN rfl) (zq (Q.len km rfl (hV.at zo).k.len) (zq (aa rfl (zi 0) rfl (gV fv)) (zm rfl (aR (d := 25) rfl (fun hc25 => ?_) (fun hc25 => ?_))))))))))))))))))))
  ·refine z2 (z2 (zq (au rfl rfl) (zk (W.sub (zc 30 rfl (zc 13 rfl (zc 14 rfl (zc 15 rfl bE)))) (aO rfl (zr (za (zi 2) (zk (W.ret (ah (ac (cW (ah (ac (ab (z1 rfl) ?_)))))))))))))))
   rw [p6 (i := i) zy zy zy (by unfold iD; simp_all; omega)]; rfl
  refine zT (zf bP rfl 11 (zT (zq (ag rfl (zt 0 rfl) eZ rfl) (zT (zq (sK (aY rfl oz)) (zT (aB rfl (aY rfl (aY rfl oz)) rfl (vN (ro [⟨b1, ⟨1, true, [.int .i64 ((i : Nat) : Int)]⟩, true⟩] ++ hs) (gy hro) _ _ (hV.at zy).a.app (hB.at zy).a _ b1 ⟨_, List.mem_cons_self⟩) (dH gc hro) rfl (zq (aG rfl rfl) (zk (W.sub (zc 30 rfl (zc 13 rfl (zc 14 rfl (zc 15 rfl bE)))) (b9 rfl (fun hc30 => ?_) (fun hc30 => ?_))))))))))))
  ·refine zr (za (zi 2) (zk (W.ret (ah (ac (cW (ah (ac (ab (z1 rfl) ?_)))))))))
   rw [p6 (i := i) zy zy zy (by unfold iD; simp_all)]; rfl
  refine W.skip (End.KB (End.K (ay (zq (aa rfl (zi 1) rfl zp) (zm rfl (WO.nil (End.KL (W.sub zv (bG gc (ih0 (i + 1) ?_ ?_))))))))))
  ·exact ⟨by omega, fun j hj => by rcases Nat.lt_or_ge j i with q | q; exact h2 j q; obtain rfl : j = i := zy; unfold iD; simp_all⟩
  exact zo
 refine W.exit (aJ (aM (aI (End.K (zr (za (zi 0) (zk (W.ret (ab (z1 rfl) ?_)))))))))
 rw [AL zy zy (fun j hj => h2 j zy)]; rfl
end Go.Proofs.YtndhhgbpcmfeiaaGreatDoor.Ev
