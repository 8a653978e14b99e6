/- Walks of package fixed, third part: Mul, Div, Mod, Scale. -/
import Derived.Test.YtndhhgbpcmfeiaaGreatDoorProg
import Derived.WalkKit
import Derived.ProofKit
import Derived.OpenShut
import Derived.Outline
import Derived.WalkSpells
import Derived.WalkLawsBesides
import Derived.Deep.QuietTactic
import Derived.BigQuiet
import Derived.Lib.Hide
import Derived.Deep.DeepFit
import Derived.Deep.DeepMust
import Derived.Test.YtndhhgbpcmfeiaaGreatDoorNFixB
import Derived.Lib.ItoaNum
import Derived.Test.YtndhhgbpcmfeiaaGreatDoorNAwJ
import Derived.Test.YtndhhgbpcmfeiaaGreatDoorNGa

namespace Go.Proofs.YtndhhgbpcmfeiaaGreatDoor
open Go.ChangeShapes Go.WideShapes Go.ChangeAt Go.RowKit
set_option maxRecDepth 100000
theorem mN (a b c : Int) (w : World) (ha : -1152921504606846976 <= a /\ a <= 1152921504606846976) (hb : -1152921504606846976 <= b /\ b <= 1152921504606846976) (hc : -1152921504606846976 <= c /\ c <= 1152921504606846976) (hc0 : c ≠ 0) :
  Calls Tryz.prog 143 #[.int .i64 a, .int .i64 b, .int .i64 c] w fun e w' => e = .returned (.tuple #[.int .i64 (dc a b c).1, .int .i64 (dc a b c).2]) /\ Below w.heap.size w w' := by
 obtain ⟨A, hA⟩ : ∃ A, A = a.natAbs := ⟨_, rfl⟩
 obtain ⟨B, hB⟩ : ∃ B, B = b.natAbs := ⟨_, rfl⟩
 obtain ⟨C, hC⟩ : ∃ C, C = c.natAbs := ⟨_, rfl⟩
 have bA : A < 18446744073709551616 := by omega
 have bB : B < 18446744073709551616 := by omega
 have bC : C < 18446744073709551616 := by omega
 have bC0 : 0 < C := by omega
 obtain ⟨P, hP⟩ : ∃ P, P = A * B := ⟨_, rfl⟩
 obtain ⟨hi, hhi⟩ : ∃ hi, hi = P / 18446744073709551616 := ⟨_, rfl⟩
 obtain ⟨lo, hlo⟩ : ∃ lo, lo = P % 18446744073709551616 := ⟨_, rfl⟩
 have hlo' : lo < 18446744073709551616 := by omega
 have hPe : P = hi * 18446744073709551616 + lo := by omega
 have hf : dc a b c = if P / C <= 1152921504606846976 then (AS (n8 a b c) ((P / C : Nat) : Int), 0) else (0, 11) := by
  rw [hP, hA, hB, hC]; rfl
 by_cases h1 : C <= hi
 ·have hbig : ¬ P / C <= 1152921504606846976 := by
   have h2 : 18446744073709551616 <= P / C := by
    rw [Nat.le_div_iff_mul_le bC0]
    have := Nat.mul_le_mul_left 18446744073709551616 h1
    omega
   omega
  rw [hf, if_neg hbig]
  exact qJ a b c A B C hi lo w ha hb hc hA.symm hB.symm hC.symm (by rw [<- hP]; exact hPe) hlo' bA bB bC (by simp [h1])
 ·have hq : (hi * 18446744073709551616 + lo) / C = P / C := by rw [<- hPe]
  by_cases h2 : P / C <= 1152921504606846976
  ·rw [hf, if_pos h2]
   exact pC a b c A B C hi lo w ha hb hc hA.symm hB.symm hC.symm (by rw [<- hP]; exact hPe) hlo' bA bB bC (by simp; omega) (by omega) (P / C) hq (by simp; omega) (by omega)
  ·rw [hf, if_neg h2]
   exact pA a b c A B C hi lo w ha hb hc hA.symm hB.symm hC.symm (by rw [<- hP]; exact hPe) hlo' bA bB bC (by simp; omega) (by omega) (P / C) hq (by simp; omega)
def li (a b : Int) : Int × Int := if cC a && cC b then dc a b 1000000 else (0, 2)
def jN (a b : Int) : Int × Int := if cC a && cC b then if b = 0 then (0, 12) else dc a 1000000 b else (0, 2)
def jO (a b : Int) : Int × Int := if cC a && cC b then if b = 0 then (0, 12) else (a.tmod b, 0) else (0, 2)
theorem zE (a b : Int) (w : World) :
  Calls Tryz.prog 109 #[.int .i64 a, .int .i64 b] w fun e w' => e = .returned (.tuple #[.int .i64 (li a b).1, .int .i64 (li a b).2]) /\ Below w.heap.size w w' := by
 cases ha : cC a <;> cases hb : cC b
 case true.true =>
  have H := fun w => mN a b 1000000 w (fW ha) (fW hb) (by omega) (by omega)
  have e : dc a b 1000000 = li a b := by simp [li, ha, hb]
  rw [e] at H
  have HH := Lib.hid H
  clear H e
  go_enter Tryz.func109, Tryz.ntmps109
  go_wp2_with (first | (go_at_call 75; ((with_reducible refine (cL _ _).mono ?_); rintro e w' ⟨rfl, rfl⟩)) | (go_at_call 143; refine (HH.out _).mono ?_; rintro e w' ⟨rfl, hB⟩))
  go_ret2
  exact ⟨rfl, hB⟩
 all_goals
  have e : li a b = (0, 2) := by simp [li, ha, hb]
  rw [e]
  go_enter Tryz.func109, Tryz.ntmps109
  go_wp2_with (first | (go_at_call 75; ((with_reducible refine (cL _ _).mono ?_); rintro e w' ⟨rfl, rfl⟩)))
  go_ret2
  exact ⟨rfl, Below.refl _ _⟩
theorem yV (a b : Int) (w : World) :
  Calls Tryz.prog 110 #[.int .i64 a, .int .i64 b] w fun e w' => e = .returned (.tuple #[.int .i64 (jN a b).1, .int .i64 (jN a b).2]) /\ Below w.heap.size w w' := by
 cases ha : cC a <;> cases hb : cC b
 case true.true =>
  by_cases h0 : b = 0
  ·subst h0
   have e : jN a 0 = (0, 12) := by simp [jN, ha, hb]
   rw [e]
   clear e
   go_enter Tryz.func110, Tryz.ntmps110
   go_wp2_with (first | (go_at_call 75; ((with_reducible refine (cL _ _).mono ?_); rintro e w' ⟨rfl, rfl⟩)))
   go_ret2
   exact ⟨rfl, Below.refl _ _⟩
  ·have H := fun w => mN a 1000000 b w (fW ha) (by omega) (fW hb) h0
   have e : dc a 1000000 b = jN a b := by simp [jN, ha, hb, h0]
   rw [e] at H
   have HH := Lib.hid H
   have e0 : (b == 0) = false := by simp [h0]
   clear H e h0
   go_enter Tryz.func110, Tryz.ntmps110
   go_wp2_with (first | (go_at_call 75; ((with_reducible refine (cL _ _).mono ?_); rintro e w' ⟨rfl, rfl⟩)) | (go_at_call 143; refine (HH.out _).mono ?_; rintro e w' ⟨rfl, hB⟩))
   go_ret2
   exact ⟨rfl, hB⟩
 all_goals
  have e : jN a b = (0, 2) := by simp [jN, ha, hb]
  rw [e]
  go_enter Tryz.func110, Tryz.ntmps110
  go_wp2_with (first | (go_at_call 75; ((with_reducible refine (cL _ _).mono ?_); rintro e w' ⟨rfl, rfl⟩)))
  go_ret2
  exact ⟨rfl, Below.refl _ _⟩
theorem zD (a b : Int) (w : World) :
  Calls Tryz.prog 111 #[.int .i64 a, .int .i64 b] w fun e w' => e = .returned (.tuple #[.int .i64 (jO a b).1, .int .i64 (jO a b).2]) /\ w = w' := by
 cases ha : cC a <;> cases hb : cC b
 case true.true =>
  by_cases h0 : b = 0
  ·subst h0
   have e : jO a 0 = (0, 12) := by simp [jO, ha, hb]
   rw [e]
   clear e
   go_enter Tryz.func111, Tryz.ntmps111
   go_wp2_with (first | (go_at_call 75; ((with_reducible refine (cL _ _).mono ?_); rintro e w' ⟨rfl, rfl⟩)))
   go_ret2
   exact ⟨rfl, rfl⟩
  ·have e : jO a b = (a.tmod b, 0) := by simp [jO, ha, hb, h0]
   rw [e]
   have e0 : (b == 0) = false := by simp [h0]
   clear e
   go_enter Tryz.func111, Tryz.ntmps111
   go_wp2_with (first | (go_at_call 75; ((with_reducible refine (cL _ _).mono ?_); rintro e w' ⟨rfl, rfl⟩)))
   go_ret2
   exact ⟨rfl, rfl⟩
 all_goals
  have e : jO a b = (0, 2) := by simp [jO, ha, hb]
  rw [e]
  go_enter Tryz.func111, Tryz.ntmps111
  go_wp2_with (first | (go_at_call 75; ((with_reducible refine (cL _ _).mono ?_); rintro e w' ⟨rfl, rfl⟩)))
  go_ret2
  exact ⟨rfl, rfl⟩
theorem Cm (zs : List Int) (k : Nat) (h : k < zs.length) : zs.drop k = zs.getD k 0 :: zs.drop (k + 1) := by
 rw [List.drop_eq_getElem_cons h]; simp [h]
end Go.Proofs.YtndhhgbpcmfeiaaGreatDoor
/- Numerals, and texts of instructions. -/
namespace Go.Proofs.YtndhhgbpcmfeiaaGreatDoor.Ev
def DW (a : Int) : List Nat := (Lib.itoa a).map UInt8.toNat
def wg (k : Int) (op : List Nat) (A : List Int) : List Nat := DW k ++ 32 :: (op ++ A.flatMap fun a => 32 :: DW a)
open Go.RowKit
noncomputable def DM (f : Nat) : Option (Int -> Int -> Int × Int) :=
 match Nat.beq f 107 with
 | true => some nh
 | false => match Nat.beq f 108 with
  | true => some ni
  | false => match Nat.beq f 109 with
   | true => some li
   | false => match Nat.beq f 110 with
    | true => some jN
    | false => match Nat.beq f 111 with
     | true => some jO
     | false => none
def aO (p : Int × Int) : AV := .tuple [.int .i64 p.1, .int .i64 ((p.2.toNat : Nat) : Int)]
def mf : List AV -> Option (List Int)
 | [] => some []
 | .int .i64 a :: l => match decide (-9223372036854775808 <= a /\ a <= 9223372036854775807), mf l with
  | true, some m => some (a :: m)
  | _, _ => none
 | _ :: _ => none
noncomputable def CP (k : Int) (op : List Nat) (h : AHeap) : AV -> Option AV
 | .nils => some (.str (wg k op []))
 | .slice b 0 n 1 => match Nat.ble n 1048576, h.objs.get b with
  | true, some ob => match ch ob.cells 0 n with
   | some l => match mf l with
    | some A => some (.str (wg k op A))
    | none => none
   | none => none
  | _, _ => none
 | _ => none
noncomputable def BC (h : AHeap) : List AV -> Option AV
 | [.agg [.int .i64 k, .str op, _, _, _, _, _, _, _, _, _, va]] => match Nat.ble op.length 1048576 && decide (-9223372036854775808 <= k /\ k <= 9223372036854775807) with
  | true => CP k op h va
  | false => none
 | _ => none
noncomputable def orc (f : Nat) (args : List AV) (h : AHeap) : Option AV :=
 match Nat.beq f 10 with
 | true => match args with
  | [] => some (.bool true)
  | _ => none
 | false => match Nat.beq f 44 with
  | true => BC h args
  | false => match DM f with
   | some m => match args with
    | [.int .i64 a, .int .i64 b] => some (aO (m a b))
    | _ => none
   | none => none
noncomputable def aA : Tab := (kX Tryz.prog).knows (fun _ _ _ _ => none) (fun _ _ => none) orc
set_option maxRecDepth 100000
def oF (i k : Int) : Bool := decide (k < 0) || decide (i <= k)
def ai (A : List Int) (q : Nat) : Int := A.getD q 0
theorem jC {A : List Int} {q : Nat} (h : q < A.length) : A[q]? = some (ai A q) := by
 unfold ai
 rw [List.getD_eq_getElem?_getD, List.getElem?_eq_getElem h]; rfl
theorem sN {A : List Int} {q : Nat} (h : q < A.length) : (cA A)[(0 + q) * 1]? = some (.int .i64 (ai A q)) := by
 rw [Nat.zero_add, Nat.mul_one, cA, List.getElem?_map, jC h]; rfl
theorem Bd {A : List Int} {p : Int -> Bool} {q : Nat} (h : q < A.length) (g : p (ai A q) = true) : A.any p = true :=
 List.any_eq_true.2 ⟨_, List.mem_of_getElem? (jC h), g⟩
theorem uK {A : List Int} {p : Int -> Bool} (h : ∀ q, q < A.length -> p (ai A q) = false) : A.any p = false := by
 rw [List.any_eq_false]
 intro x hx
 obtain ⟨q, hq⟩ := List.getElem?_of_mem hx
 have hl := (List.getElem?_eq_some_iff.1 hq).1
 rw [jC hl] at hq
 rw [<- Option.some.inj hq, h q hl]; decide
theorem uQ {p : Prop} [Decidable p] {b : Bool} (h : p ↔ b = true) : decide p = b := by
 cases b with
 | true => exact decide_eq_true (h.2 rfl)
 | false => exact decide_eq_false fun q => by cases h.1 q
def qE (L : List IE) (i : Nat) : Bool := decide ((ei L i).nk = 0) && !((ei L i).ars.any (oF ((i : Nat) : Int)))
def eW (L : List IE) : Nat := if L.length = 0 then 2 else if 1024 < L.length then 3 else if ∀ i, i < L.length -> qE L i = true then 0 else 2
section
variable {L : List IE}
theorem CH (h : L.length = 0) : eW L = 2 := if_pos h
theorem CI (h : L.length ≠ 0) (g : 1024 < L.length) : eW L = 3 := by unfold eW; rw [if_neg h, if_pos g]
theorem AD {i : Nat} (h : L.length ≠ 0) (g : L.length <= 1024) (hi : i < L.length) (k : qE L i = false) : eW L = 2 := by
 unfold eW
 rw [if_neg h, if_neg zy, if_neg fun q => by rw [q i hi] at k; cases k]
theorem AE (h : L.length ≠ 0) (g : L.length <= 1024) (k : ∀ i, i < L.length -> qE L i = true) : eW L = 0 := by
 unfold eW
 rw [if_neg h, if_neg zy, if_pos k]
theorem lL (h : eW L = 0) : 0 < L.length /\ L.length <= 1024 /\ ∀ i, i < L.length -> qE L i = true := by
 unfold eW at h
 split at h
 ·cases h
 split at h
 ·cases h
 split at h
 ·exact ⟨by omega, by omega, by assumption⟩
 ·cases h
theorem mE {i : Nat} (h : qE L i = true) {a : Int} (ha : a ∈ (ei L i).ars) : 0 <= a /\ a < i := by
 unfold qE at h
 simp only [Bool.and_eq_true, Bool.not_eq_true', List.any_eq_false, oF, Bool.or_eq_true, decide_eq_true_eq, not_or] at h
 have := h.2 a ha
 omega
end
theorem re (k : IntKind) (n : Int) : cH (.int k n) (.int k n) = true := by simp [cH]
theorem rf (s : List Nat) : cH (.str s) (.str s) = true := by simp [cH]
theorem oI (b : Bool) : cH (.bool b) (.bool b) = true := by simp [cH]
theorem iR : ∀ {l : List AV}, (l.all fun v => cH v v) = true -> fw cH l l = true
 | [], _ => rfl
 | x :: l, h => by
  rw [List.all_cons, Bool.and_eq_true] at h
  show (cH x x && fw cH l l) = true
  rw [h.1, iR h.2]; rfl
theorem pX {hs : af} {x : IE} (h : IOK hs x) : (AV.agg (x.d.c x.vm x.vn x.vk)).beq (AV.agg (x.d.c x.vm x.vn x.vk)) = true :=
 iR (by simp only [ND.c, b7, List.all_cons, List.all_nil, h.m.bq0, h.n.bq0, h.k.bq0, re, rf, oI, Bool.and_true])
theorem uH : aA.isAgg 24 = some false := by kernel_rfl
theorem d7 : aA.isAgg 3 = some false := by kernel_rfl
theorem oC : aA.isAgg 40 = some false := by kernel_rfl
theorem yK : aA.isAgg 42 = some true := by kernel_rfl
theorem Ej : AO aA 3 = some ⟨1, true, [.int .i64 0]⟩ := by kernel_rfl
theorem Be : AO aA 42 = some ⟨12, true, [.int .i64 0, .str [], .int .i64 0, .nils, .int .i64 0, .int .i64 0, .int .i64 0, .nils, .int .i64 0, .bool false, .nils, .nils]⟩ := by kernel_rfl
theorem gV : FA aA 26 10 = some (10, 0 + 1) := by kernel_rfl
theorem fE : FA aA 42 0 = some (0, 10 + 1) := by kernel_rfl
theorem gW : FA aA 42 1 = some (11, 0 + 1) := by kernel_rfl
theorem i8 : aA.size 3 = some 1 := by kernel_rfl
theorem gp : aA.size 42 = some 12 := by kernel_rfl
theorem pG : aA.und 24 = some (.slice 26) := by kernel_rfl
theorem ez : aA.und 30 = some (.slice 42) := by kernel_rfl
theorem dh : aA.und 40 = some (.slice 3) := by kernel_rfl
theorem CM (hs : af) (hro : ∀ e ∈ hs, e.w = false) (L : List IE) (v : AV) (hV : IIn hs L v) (hB : ILB L) : Spec aA 14 [v] [] hs (m6 (fun u => ∃ b : Bool, u = .bool b /\ (b = true -> L.length <= 100 /\ ∀ i, i < L.length -> (ei L i).ars.length <= 3))) := by
 have hBl := hB.1
 refine aj (dW 14 Tryz.func14) rfl (m := 31) rfl (rs := [.tmp 2]) rfl (st := [(0, v)]) rfl rfl (fun _ => rfl) (fun E => zr (za rfl (zk (W.seq (zr (za (zi 0) (zk (W.block (bF (fun (i : Nat) => [(0, v), (3, .int .i64 ((i : Nat) : Int))]) (fun (i : Nat) => hs) (fun (i : Nat) => i <= L.length /\ i <= 100 /\ ∀ j, j < i -> (ei L j).ars.length <= 3) (fun (i : Nat) => L.length - i) (0) ⟨Nat.zero_le _, Nat.zero_le _, fun j h => absurd h (Nat.not_lt_zero _)⟩ zv (SubH.refl _) (fun i hI0 ih0 => ?_))))))))))
 obtain ⟨h1, h2, h3⟩ := hI0
 refine W.seq (zr (zm rfl (zm rfl (zq (Q.len ez rfl hV.1.len) (zq (Q.bin rfl rfl rfl (ec jr)) (zk (ax rfl (fun hc7 => ?_) (fun hc7 => ?_))))))))
 ·obtain ⟨bv, szv, exv, rfl, wv, mv⟩ := hV.1.full zy
  refine zw (W.seq (W.block (zr (zm rfl (zq (Q.bin rfl (zi 100) rfl (dS fI)) (zm rfl (aQ (d := 12) rfl (fun hc12 => ?_) (fun hc12 => ?_))))))))
  ·refine z2 (z2 (z2 (zG (zq (aC rfl rfl) (zm rfl (z2 (z2 (z2 (z2 (zq (aC rfl rfl) (zk (W.sub (zc 30 rfl (zc 0 rfl (zc 3 rfl aU))) (ah rfl (zr (za rfl (zk ?_))))))))))))))))
   refine W.ret (ae (aa (gh (ae (aa (b9 (z1 rfl) ?_))))))
   exact ⟨false, rfl, fun h => by cases h⟩
  refine zT (zm rfl (zT (zm rfl (zT (zq (ee ez gp rfl rfl zo) (zT (zq (Q.fieldAddr gW rfl rfl) (zT (zq (aG rfl mv oC (rl 11 zo rfl)) (zT (zq (Q.len dh rfl (hV.at zo).a.len) (zT (zq (Q.bin rfl (zi 3) rfl (bf jr)) (zq (aH rfl rfl) (zm rfl (aQ (d := 21) rfl (fun hc21 => ?_) (fun hc21 => ?_)))))))))))))))))
  ·refine z2 (z2 (z2 (z2 (zq (aC rfl rfl) (zk (W.sub (zc 30 rfl (zc 0 rfl (zc 3 rfl aU))) (ah rfl (zr (za rfl (zk (W.ret (ae (aa (gh (ae (aa (b9 (z1 rfl) ?_)))))))))))))))))
   exact ⟨false, rfl, fun h => by cases h⟩
  refine zT (zm rfl (zT (zm rfl (zT (zq (ee ez gp rfl rfl zo) (zT (zq (Q.fieldAddr fE rfl rfl) (zT (zq (Q.fieldAddr gV rfl rfl) (zT (zq (aG rfl mv uH (rl 10 zo rfl)) (zT (zq (Q.len pG rfl (hV.at zo).k.len) (zT (zq (Q.bin rfl (zi 3) rfl (bf jr)) (zq (aH rfl rfl) (zk (W.sub (zc 30 rfl (zc 0 rfl (zc 3 rfl aU))) (ax rfl (fun hc30 => ?_) (fun hc30 => ?_))))))))))))))))))))
  ·refine zr (za rfl (zk (W.ret (ae (aa (gh (ae (aa (b9 (z1 rfl) ?_)))))))))
   exact ⟨false, rfl, fun h => by cases h⟩
  refine W.skip (End.KB (End.K (aF (zm rfl (zq (Q.bin rfl (zi 1) rfl zp) (za rfl (WO.nil (End.KL (W.sub zv (gM (SubH.refl _) (ih0 (i + 1) ?_ ?_)))))))))))
  ·exact ⟨by omega, by omega, fun j hj => by rcases Nat.lt_or_ge j i with q | q; exact h3 j q; obtain rfl : j = i := zy; omega⟩
  exact zo
 refine W.exit (av (aL (aq (End.K (zr (za rfl (zk (W.ret (b9 (z1 rfl) ?_)))))))))
 exact ⟨true, rfl, fun _ => ⟨by omega, fun j hj => h3 j zy⟩⟩

theorem vd (hs : af) (hro : ∀ e ∈ hs, e.w = false) (k : Int) (i : Int) (bi : Nat) (mi : MemH hs bi ⟨1, true, [.int .i64 i]⟩) : Spec aA 51 [.int .i64 k, .ptr bi 0] [] hs (eA (.bool (oF i k))) := by
 obtain ⟨wi, mi⟩ := mi
 refine aj (dW 51 Tryz.func51) rfl (m := 11) rfl (rs := [.tmp 3]) rfl (st := [(0, .int .i64 k), (1, .ptr bi 0)]) rfl rfl (fun _ => rfl) (fun E => zr (za rfl (zk (zr (zm rfl (zq (Q.bin rfl (zi 0) rfl (ec (dX _ _))) (zm rfl (aQ (d := 6) rfl (fun hc6 => ?_) (fun hc6 => ?_)))))))))
 ·refine z2 (zG (zq (aC rfl rfl) (za rfl (zk (W.ret (ab (z1 rfl) ?_))))))
  exact congrArg AV.bool (by unfold oF; first | (simp_all; done) | (simp_all; omega))
 refine zT (zm rfl (zT (zq (aG rfl mi d7 rfl) (zT (zq (Q.bin rfl rfl rfl (dS kq)) (zq (aH rfl rfl) (za rfl (zk (W.ret (ab (z1 rfl) ?_))))))))))
 exact congrArg AV.bool (by unfold oF; first | (simp_all; done) | (simp_all; omega))

theorem wf (hs : af) (hro : ∀ e ∈ hs, e.w = false) (A : List Int) (va : AV) (hA : RIn hs 1 A.length (cA A) va) (hAl : A.length <= 1048576) (i : Int) (bi : Nat) (mi : MemH hs bi ⟨1, true, [.int .i64 i]⟩) : Spec aA 45 [va, .func 51 [.ptr bi 0]] [] hs (m6 (fun u => ∃ r : Int, u = .int .i64 r /\ (0 <= r ↔ A.any (oF i) = true))) := by
 refine aj (dW 45 Tryz.func45) rfl (m := 19) rfl (rs := [.tmp 4]) rfl (st := [(0, va), (1, .func 51 [.ptr bi 0])]) rfl rfl (fun _ => rfl) (fun E => zr (za (zi 0) (zk (W.seq (zr (zm rfl (zq (Q.len dh rfl hA.len) (zq (Q.move (zi 0)) (zk (W.block (bF (fun (j : Nat) => [(0, va), (1, .func 51 [.ptr bi 0]), (7, .int .i64 ((A.length : Nat) : Int)), (8, .int .i64 ((j : Nat) : Int))]) (fun _ => _) (fun (j : Nat) => j <= A.length /\ ∀ q, q < j -> oF i (ai A q) = false) (fun (j : Nat) => A.length - j) (0) ⟨Nat.zero_le _, fun j h => by omega⟩ zv (SubH.refl _) (fun j hI0 ih0 => ?_))))))))))))
 obtain ⟨hi, hno⟩ := hI0
 refine zr (zq (Q.bin rfl rfl rfl (ec jr)) (zk (W.seq (ax rfl (fun hc9 => ?_) (fun hc9 => ?_)))))
 ·obtain ⟨ba, sza, exa, rfl, wa, ma⟩ := hA.full zy
  refine zw (W.seq (W.block (zr (zm rfl (za rfl (zk (zr (zm rfl (zm rfl (zm rfl (zq (ee dh i8 rfl rfl zo) (zq (aG rfl ma d7 (sN zo)) (az rfl (aX rfl oz) rfl (vd hs hro _ i bi mi) (dF hro) rfl (zk (aM rfl (fun hc16 => ?_) (fun hc16 => ?_))))))))))))))))
  ·refine zr (zm rfl (za rfl (zk (W.sub (zc 4 rfl aU) (W.ret (ae (aa (gh (ae (aa (b9 (z1 rfl) ?_)))))))))))
   exact ⟨_, rfl, ⟨fun _ => Bd zy (by simpa using hc16), fun _ => by omega⟩⟩
  refine W.skip (End.KB (End.K (aF (zq (Q.bin rfl (zi 1) rfl zp) (zm rfl (WO.nil (End.KL (W.sub zv (ih0 (j + 1) ?_ ?_)))))))))
  ·exact ⟨by omega, fun q h => by rcases Nat.lt_or_ge q j with g | g; exact hno q g; obtain rfl : q = j := zy; simpa using hc16⟩
  exact zo
 refine W.exit (av (aL (aq (End.K (zr (za rfl (zk (W.ret (b9 (z1 rfl) ?_)))))))))
 exact ⟨_, rfl, ⟨fun h => by omega, fun h => absurd h (by rw [uK (fun q h => hno q zy)]; decide)⟩⟩

theorem vq (hs : af) (hro : ∀ e ∈ hs, e.w = false) (A : List Int) (va : AV) (hA : RIn hs 1 A.length (cA A) va) (hAl : A.length <= 1048576) (i : Int) (bi : Nat) (mi : MemH hs bi ⟨1, true, [.int .i64 i]⟩) : Spec aA 50 [va, .func 51 [.ptr bi 0]] [] hs (eA (.bool (A.any (oF i)))) := by
 refine aj (dW 50 Tryz.func50) rfl (m := 9) rfl (rs := [.tmp 4]) rfl (st := [(0, va), (1, .func 51 [.ptr bi 0])]) rfl rfl (fun _ => rfl) (fun E => zr (za rfl (zk (zr (zm rfl (zm rfl (WO.callE rfl (aX rfl (aX rfl oz)) rfl (wf hs hro A _ hA hAl i bi mi) (dF hro) rfl (fun v7 hP7 => ?_))))))))
 obtain ⟨r, rfl, hr⟩ := hP7
 refine zq (Q.bin rfl (zi 0) rfl (dS kq)) (za rfl (zk (W.ret (ab (z1 rfl) ?_))))
 exact congrArg AV.bool (uQ hr)

theorem pZ (hs : af) (hro : ∀ e ∈ hs, e.w = false) (L : List IE) (v : AV) (hV : IIn hs L v) (hB : ILB L) : Spec aA 22 [v] [] hs (eA (.int .i64 ((eW L : Nat) : Int))) := by
 have hBl := hB.1
 refine aj (dW 22 Tryz.func22) rfl (m := 32) rfl (rs := [.tmp 2]) rfl (st := [(0, v)]) rfl rfl (fun _ => rfl) (fun E => zr (za (zi 0) (zk (W.seq (W.block (zr (zm rfl (zq (Q.len ez rfl hV.1.len) (zq (Q.bin rfl (zi 0) rfl (ag aD)) (za rfl (zk (ax rfl (fun hc5 => ?_) (fun hc5 => ?_)))))))))))))
 ·refine zr (za (zi 2) (zk (W.ret (ae (aa (ab (z1 rfl) ?_))))))
  rw [CH (by simpa using hc5)]; rfl
 refine zr (zm rfl (zq (Q.len ez rfl hV.1.len) (zq (Q.bin rfl (zi 1024) rfl (bf jr)) (za rfl (zk (ax rfl (fun hc9 => ?_) (fun hc9 => ?_)))))))
 ·refine zr (za (zi 3) (zk (W.ret (ae (aa (ab (z1 rfl) ?_))))))
  rw [CI zy zy]; rfl
 refine W.skip (End.KB (End.K (W.seq (zr (zm rfl (zq (Q.len ez rfl hV.1.len) (zq (Q.move (zi 0)) (zk (W.block (bF (fun (i : Nat) => [(13, v), (14, .int .i64 ((L.length : Nat) : Int)), (15, .int .i64 ((i : Nat) : Int))]) (fun (i : Nat) => hs) (fun (i : Nat) => i <= L.length /\ ∀ j, j < i -> qE L j = true) (fun (i : Nat) => L.length - i) (0) ⟨Nat.zero_le _, fun j h => absurd h (Nat.not_lt_zero _)⟩ zv (SubH.refl _) (fun i hI0 ih0 => ?_)))))))))))
 obtain ⟨h1, h2⟩ := hI0
 refine zr (zq (Q.bin rfl rfl rfl (ec jr)) (zk (W.seq (ax rfl (fun hc16 => ?_) (fun hc16 => ?_)))))
 ·obtain ⟨bv, szv, exv, rfl, wv, mv⟩ := hV.1.full zy
  refine zw (W.seq (W.block (zr (zm rfl (zq (ee ez gp rfl rfl zo) (zq (cj rfl mv yK gp (uV zo)) (WO.alloc Ej rfl (fun b1 => WO.alloc Be rfl (fun b2 => WO.store i8 rfl rfl (i := 1) rfl rfl (cs := [_]) rfl (hs' := _ :: _ :: _) rfl (WO.store gp rfl rfl (i := 0) rfl (bG rfl (IOK.cells (hV.at zy))) (cs := [_, _, _, _, _, _, _, _, _, _, _, _]) rfl (hs' := _ :: _ :: _) rfl (zk (zr (zf fE rfl 0 (zf gV rfl 10 (zq (aG rfl (zt 0 rfl) uH rfl) (zq (Q.len pG rfl (hV.at zo).k.len) (zq (Q.bin rfl (zi 0) rfl (bf jr)) (zm rfl (aQ (d := 25) rfl (fun hc25 => ?_) (fun hc25 => ?_))))))))))))))))))))
  ·refine z2 (z2 (zq (aC rfl rfl) (zk (W.sub (zc 30 rfl (zc 13 rfl (zc 14 rfl (zc 15 rfl aU)))) (ah rfl (zr (za (zi 2) (zk (W.ret (ae (aa (gh (ae (aa (ab (z1 rfl) ?_)))))))))))))))
   rw [AD (i := i) zy zy zy (by unfold qE; simp_all; omega)]; rfl
  refine zT (zf gW rfl 11 (zT (zq (aG rfl (zt 0 rfl) oC rfl) (zT (zq (sq (aX rfl oz)) (zT (az rfl (aX rfl (aX rfl oz)) rfl (vq (ro [⟨b1, ⟨1, true, [.int .i64 ((i : Nat) : Int)]⟩, true⟩] ++ hs) (py hro) _ _ (hV.at zy).a.app (hB.at zy).a _ b1 ⟨_, List.mem_cons_self⟩) (jy gc hro) rfl (zq (aH rfl rfl) (zk (W.sub (zc 30 rfl (zc 13 rfl (zc 14 rfl (zc 15 rfl aU)))) (aM rfl (fun hc30 => ?_) (fun hc30 => ?_))))))))))))
  ·refine zr (za (zi 2) (zk (W.ret (ae (aa (gh (ae (aa (ab (z1 rfl) ?_)))))))))
   rw [AD (i := i) zy zy zy (by unfold qE; simp_all)]; rfl
  refine W.skip (End.KB (End.K (aF (zq (Q.bin rfl (zi 1) rfl zp) (zm rfl (WO.nil (End.KL (W.sub zv (gM gc (ih0 (i + 1) ?_ ?_))))))))))
  ·exact ⟨by omega, fun j hj => by rcases Nat.lt_or_ge j i with q | q; exact h2 j q; obtain rfl : j = i := zy; unfold qE; simp_all⟩
  exact zo
 refine W.exit (av (aL (aq (End.K (zr (za (zi 0) (zk (W.ret (ab (z1 rfl) ?_)))))))))
 rw [AE zy zy (fun j hj => h2 j zy)]; rfl
end Go.Proofs.YtndhhgbpcmfeiaaGreatDoor.Ev
