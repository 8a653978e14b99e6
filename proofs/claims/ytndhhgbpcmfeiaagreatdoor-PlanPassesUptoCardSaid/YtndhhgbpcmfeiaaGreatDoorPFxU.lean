/- Walks of package gaugeref03: division by hand. -/
import Derived.Test.YtndhhgbpcmfeiaaGreatDoorProg
import Derived.WalkKit
import Derived.ProofKit
import Derived.OpenShut
import Derived.Outline
import Derived.WalkSpells
import Derived.WalkLawsBesides
import Derived.Deep.QuietTactic
import Derived.BigQuiet
import Derived.Lib.Hide
import Derived.Deep.DeepFit
import Derived.Deep.DeepMust
import Derived.Test.YtndhhgbpcmfeiaaGreatDoorPFxR

namespace Go.Proofs.YtndhhgbpcmfeiaaGreatDoor
open Go.ChangeShapes Go.WideShapes Go.ChangeAt Go.RowKit
set_option maxRecDepth 100000
def A6 (V b : Int) (w : World) (e : Ending) (w' : World) : Prop :=
 ∃ q : Int, ∃ ok : Bool, e = .returned (.tuple #[.int .i64 q, .bool ok]) /\ (ok = true -> q = V / b) /\ ok = decide (V / b <= 1152921504606846976) /\ w = w'
def pw (k : Nat) : Nat := 2 ^ k / 2
theorem ka (k : Nat) : pw (k + 1) = 2 ^ k := by simp [pw, Nat.pow_succ]
theorem iw : ∀ (D : List Int), (∀ j, 0 <= D.getD j 0) -> 0 <= val D
 | [], _ => by simp [val]
 | d :: r, h => by
  have h0 := h 0
  have := iw r (fun j => by have := h (j + 1); simpa using this)
  simp [val] at *; omega
theorem yM (D : List Int) (j : Nat) (h : j < D.length) : val (D.drop j) = D.getD j 0 + 1048576 * val (D.drop (j + 1)) := by
 rw [tY D j h]; rfl
theorem lx : ∀ (j : Nat) (D : List Int), (∀ j, 0 <= D.getD j 0) -> val (D.drop j) <= val D
 | 0, D, _ => by simp
 | j + 1, [], _ => by simp
 | j + 1, d :: r, h => by
  have h0 := h 0
  have hr : ∀ j, 0 <= r.getD j 0 := fun j => by have := h (j + 1); simpa using this
  have h1 := lx j r hr
  have h2 := iw r hr
  simp [val] at *; omega
def bS (T e : Int) (k : Nat) : Int := T * 2 ^ (20 - k) + e / 2 ^ k
theorem yi (T e : Int) (h : 0 <= e) (h' : e < 1048576) : bS T e 20 = T := by
 have : e / 2 ^ 20 = 0 := Int.ediv_eq_zero_of_lt h (by simpa using h')
 simp [bS] at *; omega
theorem mS (T e : Int) : bS T e 0 = T * 1048576 + e := by simp [bS]
theorem nY (T e : Int) (k : Nat) (hk : k < 20) : bS T e k = 2 * bS T e (k + 1) + e / 2 ^ k % 2 := by
 have e1 : 20 - k = 20 - (k + 1) + 1 := by omega
 have e2 : e / 2 ^ (k + 1) = e / 2 ^ k / 2 := by rw [Int.pow_succ, <- Int.ediv_ediv_of_nonneg (Int.pow_nonneg (by omega))]
 unfold bS
 rw [e1, Int.pow_succ, e2, <- Int.mul_assoc]
 generalize T * 2 ^ (20 - (k + 1)) = g
 generalize e / 2 ^ k = f
 omega
theorem Ak (T e : Int) (hT : 0 <= T) (he : 0 <= e) (k : Nat) (hk : k <= 20) : bS T e k <= bS T e 0 /\ 0 <= bS T e k := by
 have nn : ∀ k, 0 <= bS T e k := fun k => Int.add_nonneg (Int.mul_nonneg hT (Int.pow_nonneg (by omega))) (Int.ediv_nonneg he (Int.pow_nonneg (by omega)))
 refine ⟨?_, nn k⟩
 induction k with
 | zero => exact Int.le_refl _
 | succ k ih =>
  have h1 := nY T e k (by omega)
  have h2 := nn (k + 1)
  have h3 := ih (by omega)
  omega
theorem tG {V V' W b q r : Int} (hb : 1 <= b) (hV : V = q * b + r) (hr : 0 <= r) (hle : V' <= W) (h2 : 2 * V <= V') (hq : 576460752303423488 < q) : ¬ W / b <= 1152921504606846976 := by
 have h3 : 1152921504606846977 * b <= W := by
  have h4 : 576460752303423489 * b <= q * b := Int.mul_le_mul_of_nonneg_right (by omega) (by omega)
  omega
 have := (Int.le_ediv_iff_mul_le (by omega : 0 < b)).2 h3
 omega
theorem Ar {V b q r : Int} (hV : V = q * b + r) (hr : 0 <= r) (hr' : r < b) : V / b = q := by
 rw [hV, Int.add_comm, Int.add_mul_ediv_right _ _ (by omega), Int.ediv_eq_zero_of_lt hr hr']; omega
theorem Bo (D : List Int) (B cap : Nat) (b : Int) (w : World) (hD : Row w B D) (hl : D.length = 9) (hd : ∀ j, 0 <= D.getD j 0 /\ D.getD j 0 < 1048576) (hb : 1 <= b /\ b <= 1152921504606846976) :
  Calls Tryz.prog 170 #[.slice (some ⟨B, 0, none⟩) 9 cap, .int .i64 b] w (A6 (val D) b w) := by
 have hb1 := hb.1
 have hb2 := hb.2
 have HD := Lib.hid hD
 have Hd := Lib.hid hd
 have Hl := Lib.hid hl
 have dge := fun j => (hd j).1
 have Hn := Lib.hid dge
 clear hb hD hd hl dge
 go_enter Tryz.func170, Tryz.ntmps170
 go_wp2_with fail
 go_loop [6, 7, 8] (fun x y z => ∃ (j : Nat) (q r : Int), j <= 9 /\ x = .int .i64 q /\ y = .int .i64 r /\ z = .int .i64 ((j : Int) - 1) /\ Hid (val (D.drop j) = q * b + r) /\ 0 <= r /\ r < b /\ 0 <= q /\ q <= 1152921504606846977) (fun _ _ z => (intOf z + 1).toNat)
 case atStart => exact ⟨9, 0, 0, by omega, rfl, rfl, rfl, Lib.hid (by rw [List.drop_of_length_le (by rw [Hl.out]; omega)]; simp [val]), by omega, by omega, by omega, by omega⟩
 case round =>
  obtain ⟨j, q, r, hj, rfl, rfl, rfl, hV, hr0, hr1, hq0, hq1⟩ := hrel
  rcases j with _ | j
  ·have d0 : decide ((0 : Int) <= ((0 : Nat) : Int) - 1) = false := by simp
   have HV := Lib.hid hV.out
   clear hV
   go_wp2_with fail
   go_ret2
   have hV := HV.out
   rw [List.drop_zero] at hV
   have hq := Ar hV hr0 hr1
   exact ⟨q, decide (q <= 1152921504606846976), rfl, fun _ => hq.symm, by rw [hq], rfl⟩
  ·have d0 : decide ((0 : Int) <= (j : Int)) = true := by simp
   have e0 : ((j + 1 : Nat) : Int) - 1 = (j : Int) := by omega
   rw [e0]
   have hj9 : (j : Int) < 9 := by omega
   have c1 := HD.out.cell j (by rw [Hl.out]; omega)
   have he := Hd.out j
   have hvd := yM D j (by rw [Hl.out]; omega)
   have hT0 := iw (D.drop (j + 1)) (fun i => by have := Hn.out (j + 1 + i); rw [List.getD_eq_getElem?_getD] at this ⊢; rw [List.getElem?_drop]; exact this)
   have hle := lx j D Hn.out
   generalize D.getD j 0 = ee at *
   obtain ⟨T, hT⟩ : ∃ T, val (D.drop (j + 1)) = T := ⟨_, rfl⟩
   rw [hT] at hV hvd hT0
   have HT := Lib.hid (And.intro hvd (And.intro hT0 hle))
   have Hee := Lib.hid he
   have he0 := he.1
   have he1 := he.2
   clear e0 hvd hle hT he hT0
   go_wp2_with fail
   go_loop [6, 7, 9] (fun x y z => ∃ (k : Nat) (q r : Int), k <= 20 /\ x = .int .i64 q /\ y = .int .i64 r /\ z = .int .i64 ((pw k : Nat) : Int) /\ Hid (bS T ee k = q * b + r) /\ 0 <= r /\ r < b /\ 0 <= q /\ q <= 1152921504606846977) (fun _ _ z => (intOf z).toNat)
   case atStart => exact ⟨20, q, r, by omega, rfl, rfl, rfl, Lib.hid (by rw [yi _ _ he0 he1]; exact hV.out), hr0, hr1, hq0, hq1⟩
   case round =>
    clear hV hr0 hr1 hq0 hq1
    obtain ⟨k, q, r, hk, rfl, rfl, rfl, hV, hr0, hr1, hq0, hq1⟩ := hrel
    rcases k with _ | k
    ·have dm : decide ((0 : Int) < ((pw 0 : Nat) : Int)) = false := by simp [pw]
     go_wp2_with fail
     go_round
     case rel => exact ⟨j, q, r, by omega, rfl, rfl, rfl, Lib.hid (by have := hV.out; rw [mS] at this; have h2 := HT.out.1; omega), hr0, hr1, hq0, hq1⟩
     case measure => simp [intOf]
    ·have hps := nY T ee k (by omega)
     have hpl := (Ak T ee HT.out.2.1 he0 k (by omega)).1
     obtain ⟨f, hf⟩ : ∃ f, ee / 2 ^ k = f := ⟨_, rfl⟩
     have hf0 : 0 <= f := by rw [<- hf]; exact Int.ediv_nonneg he0 (Int.pow_nonneg (by omega))
     rw [hf] at hps
     have hm1 : 1 <= pw (k + 1) := by rw [ka]; exact Nat.two_pow_pos k
     have hm2 : ((pw (k + 1) : Nat) : Int) / 2 = ((pw k : Nat) : Int) := by rw [ka]; simp [pw]
     have hm3 : ee / ((pw (k + 1) : Nat) : Int) = f := by rw [ka]; simpa using hf
     have hm4 : pw k < pw (k + 1) := by rw [ka]; unfold pw; have := Nat.two_pow_pos k; omega
     have hm5 : pw (k + 1) <= 524288 := by rw [ka]; exact Nat.pow_le_pow_right (n := 2) (by omega) (show k <= 19 by omega)
     generalize pw (k + 1) = m at *
     obtain ⟨m', hm'⟩ : ∃ m', pw k = m' := ⟨_, rfl⟩
     rw [hm'] at hm2 hm4
     have HM' := Lib.hid hm'
     clear hm'
     have dm : decide ((0 : Int) < (m : Int)) = true := by simp; omega
     have hm1' : (1 : Int) <= (m : Int) := by omega
     have HS := Lib.hid (And.intro hps hpl)
     have HM := Lib.hid hm4
     clear hps hpl hf hm4
     by_cases c1 : b <= 2 * r + f % 2
     ·by_cases c2 : 576460752303423488 < q
      ·have e1 : decide (b <= 2 * r + f % 2) = true := by simp; omega
       have e2 : decide ((576460752303423488 : Int) < q) = true := by simp; omega
       have HC := Lib.hid (And.intro c1 c2)
       clear c1 c2
       go_wp2_with fail
       go_ret2
       have hno := tG (W := val D) hb1 hV.out hr0 (Int.le_trans HS.out.2 (by have h2 := HT.out; have h3 := mS T ee; omega)) (by have := HS.out.1; omega) HC.out.2
       exact ⟨0, false, rfl, (fun h => Bool.noConfusion h), by simp [hno], rfl⟩
      ·have e1 : decide (b <= 2 * r + f % 2) = true := by simp; omega
       have e2 : decide ((576460752303423488 : Int) < q) = false := by simp; omega
       have HC := Lib.hid (And.intro c1 c2)
       clear c1 c2
       go_wp2_with fail
       go_round
       case rel => exact ⟨k, 2 * q + 1, 2 * r + f % 2 - b, by omega, rfl, rfl, by rw [HM'.out], Lib.hid (by have h1 := HS.out.1; have h2 := hV.out; have h3 : (2 * q + 1) * b = 2 * (q * b) + b := (by rw [Int.add_mul, Int.mul_assoc, Int.one_mul]); omega), (by have := HC.out; omega), (by have := HC.out; omega), (by omega), (by have := HC.out; omega)⟩
       case measure => simp [intOf]; have := HM.out; omega
     ·by_cases c2 : 576460752303423488 < q
      ·have e1 : decide (b <= 2 * r + f % 2) = false := by simp; omega
       have e2 : decide ((576460752303423488 : Int) < q) = true := by simp; omega
       have HC := Lib.hid (And.intro c1 c2)
       clear c1 c2
       go_wp2_with fail
       go_ret2
       have hno := tG (W := val D) hb1 hV.out hr0 (Int.le_trans HS.out.2 (by have h2 := HT.out; have h3 := mS T ee; omega)) (by have := HS.out.1; omega) HC.out.2
       exact ⟨0, false, rfl, (fun h => Bool.noConfusion h), by simp [hno], rfl⟩
      ·have e1 : decide (b <= 2 * r + f % 2) = false := by simp; omega
       have e2 : decide ((576460752303423488 : Int) < q) = false := by simp; omega
       have HC := Lib.hid (And.intro c1 c2)
       clear c1 c2
       go_wp2_with fail
       go_round
       case rel => exact ⟨k, 2 * q, 2 * r + f % 2, by omega, rfl, rfl, by rw [HM'.out], Lib.hid (by have h1 := HS.out.1; have h2 := hV.out; have h3 : (2 * q) * b = 2 * (q * b) + 0 := (by rw [Int.mul_assoc]; omega); omega), (by have := HC.out; omega), (by have := HC.out; omega), (by omega), (by have := HC.out; omega)⟩
       case measure => simp [intOf]; have := HM.out; omega
theorem ch (n : Int) (w : World) :
  Calls Tryz.prog 78 #[.int .i64 n] w fun e w' => e = .returned (.bool (bj n)) /\ w = w' := by
 go_enter Tryz.func78, Tryz.ntmps78
 go_wp2
 all_goals (go_ret; exact ⟨by simp [bj]; omega, rfl⟩)
theorem jl (n : Int) (w : World) (h : -1152921504606846976 <= n /\ n <= 1152921504606846976) :
  Calls Tryz.prog 146 #[.int .i64 n] w fun e w' => e = .returned (.int .i64 ((n.natAbs : Nat) : Int)) /\ w = w' := by
 have h1 := h.1
 have h2 := h.2
 go_enter Tryz.func146, Tryz.ntmps146
 go_wp2
 all_goals (go_ret; exact ⟨pp (by omega), rfl⟩)
theorem qP (a b : Int) (w : World) :
  Calls Tryz.prog 115 #[.int .i64 a, .int .i64 b] w fun e w' => e = .returned (.tuple #[.int .i64 (gI a b).1, .int .i64 (gI a b).2]) /\ w = w' := by
 cases ha : bj a <;> cases hb : bj b
 case true.true =>
  have ha' := cw ha
  have hb' := cw hb
  cases hs : bj (a + b)
  ·have e : gI a b = (0, 11) := by simp [gI, jZ, ha, hb, hs]
   rw [e]
   go_enter Tryz.func115, Tryz.ntmps115
   go_wp2_with (first | (go_at_call 78; ((with_reducible refine (ch _ _).mono ?_); rintro e w' ⟨rfl, rfl⟩)))
   go_ret2
   exact ⟨rfl, rfl⟩
  ·have e : gI a b = (a + b, 0) := by simp [gI, jZ, ha, hb, hs]
   rw [e]
   go_enter Tryz.func115, Tryz.ntmps115
   go_wp2_with (first | (go_at_call 78; ((with_reducible refine (ch _ _).mono ?_); rintro e w' ⟨rfl, rfl⟩)))
   go_ret2
   exact ⟨rfl, rfl⟩
 all_goals
  have e : gI a b = (0, 2) := by simp [gI, ha, hb]
  rw [e]
  go_enter Tryz.func115, Tryz.ntmps115
  go_wp2_with (first | (go_at_call 78; ((with_reducible refine (ch _ _).mono ?_); rintro e w' ⟨rfl, rfl⟩)))
  go_ret2
  exact ⟨rfl, rfl⟩
theorem we (b : Int) : bj (-b) = bj b := by unfold bj; rw [decide_eq_decide]; omega
theorem yv (a b : Int) (w : World) :
  Calls Tryz.prog 116 #[.int .i64 a, .int .i64 b] w fun e w' => e = .returned (.tuple #[.int .i64 (js a b).1, .int .i64 (js a b).2]) /\ w = w' := by
 cases ha : bj a <;> cases hb : bj b
 case true.true =>
  have ha' := cw ha
  have hb' := cw hb
  have e : gI a (-b) = js a b := by simp [gI, js, we, ha, hb, Int.sub_eq_add_neg]
  have H := fun w => qP a (-b) w
  rw [e] at H
  have HH := Lib.hid H
  clear H e
  go_enter Tryz.func116, Tryz.ntmps116
  go_wp2_with (first | (go_at_call 78; ((with_reducible refine (ch _ _).mono ?_); rintro e w' ⟨rfl, rfl⟩)) | (go_at_call 115; ((with_reducible refine (HH.out _).mono ?_); rintro e w' ⟨rfl, rfl⟩)))
  go_ret2
  exact ⟨rfl, rfl⟩
 all_goals
  have e : js a b = (0, 2) := by simp [js, ha, hb]
  rw [e]
  go_enter Tryz.func116, Tryz.ntmps116
  go_wp2_with (first | (go_at_call 78; ((with_reducible refine (ch _ _).mono ?_); rintro e w' ⟨rfl, rfl⟩)))
  go_ret2
  exact ⟨rfl, rfl⟩
theorem AC (a b : Int) : a - a.tdiv b * b = a.tmod b := by
 have := Int.tmod_add_mul_tdiv a b
 rw [Int.mul_comm] at this; omega
theorem uB (a b : Int) (ha : -1152921504606846976 <= a /\ a <= 1152921504606846976) : wrap64 (a - wrap64 (wrap64 (a.tdiv b) * b)) = a.tmod b := by
 have h1 : (a.tdiv b).natAbs <= a.natAbs := by rw [Int.natAbs_tdiv]; exact Nat.div_le_self _ _
 have h2 : (a.tmod b).natAbs <= a.natAbs := by rw [Int.natAbs_tmod]; exact Nat.mod_le _ _
 have h3 := AC a b
 rw [IntWalk.wrap64_in (a.tdiv b) (by omega), IntWalk.wrap64_in (a.tdiv b * b) (by omega), IntWalk.wrap64_in _ (by omega), h3]
theorem yo (a b : Int) (w : World) :
  Calls Tryz.prog 119 #[.int .i64 a, .int .i64 b] w fun e w' => e = .returned (.tuple #[.int .i64 (fO a b).1, .int .i64 (fO a b).2]) /\ w = w' := by
 cases ha : bj a <;> cases hb : bj b
 case true.true =>
  by_cases h0 : b = 0
  ·subst h0
   have e : fO a 0 = (0, 12) := by simp [fO, ha, hb]
   rw [e]
   clear e
   go_enter Tryz.func119, Tryz.ntmps119
   go_wp2_with (first | (go_at_call 78; ((with_reducible refine (ch _ _).mono ?_); rintro e w' ⟨rfl, rfl⟩)))
   go_ret2
   exact ⟨rfl, rfl⟩
  ·have e : fO a b = (a.tmod b, 0) := by simp [fO, ha, hb, h0]
   rw [e]
   have e0 : (b == 0) = false := by simp [h0]
   clear e
   go_enter Tryz.func119, Tryz.ntmps119
   go_wp2_with (first | (go_at_call 78; ((with_reducible refine (ch _ _).mono ?_); rintro e w' ⟨rfl, rfl⟩)))
   go_ret2
   exact ⟨At (uB a b (cw ha)) rfl, rfl⟩
 all_goals
  have e : fO a b = (0, 2) := by simp [fO, ha, hb]
  rw [e]
  go_enter Tryz.func119, Tryz.ntmps119
  go_wp2_with (first | (go_at_call 78; ((with_reducible refine (ch _ _).mono ?_); rintro e w' ⟨rfl, rfl⟩)))
  go_ret2
  exact ⟨rfl, rfl⟩
def dO (V b : Int) (m : Bool) : Int × Int := if V / b <= 1152921504606846976 then (Ca m (V / b), 0) else (0, 11)
theorem sx (D : List Int) (B cap : Nat) (b : Int) (m : Bool) (w : World) (hD : Row w B D) (hl : D.length = 9) (hd : ∀ j, 0 <= D.getD j 0 /\ D.getD j 0 < 1048576) (hb : 1 <= b /\ b <= 1152921504606846976) :
  Calls Tryz.prog 144 #[.slice (some ⟨B, 0, none⟩) 9 cap, .int .i64 b, .bool m] w fun e w' => e = .returned (.tuple #[.int .i64 (dO (val D) b m).1, .int .i64 (dO (val D) b m).2]) /\ w = w' := by
 have H := Lib.hid (Bo D B cap b w hD hl hd hb)
 have h0 : 0 <= val D / b := Int.ediv_nonneg (iw D (fun j => (hd j).1)) (by omega)
 by_cases hle : val D / b <= 1152921504606846976
 ·have e : dO (val D) b m = (Ca m (val D / b), 0) := by simp [dO, hle]
  rw [e]
  clear e
  obtain ⟨V, hV⟩ : ∃ V, val D / b = V := ⟨_, rfl⟩
  rw [hV] at h0 hle ⊢
  have dle : decide (V <= 1152921504606846976) = true := by simpa using hle
  have H' : Calls Tryz.prog 170 #[.slice (some ⟨B, 0, none⟩) 9 cap, .int .i64 b] w fun e w' => e = .returned (.tuple #[.int .i64 V, .bool true]) /\ w = w' :=
   H.out.mono fun e w' ⟨q, ok, h1, h2, h3, h4⟩ => by
    rw [hV] at h2 h3; rw [dle] at h3; subst h3; rw [h1, h2 rfl]; exact ⟨rfl, h4⟩
  have HH := Lib.hid H'
  clear H H' hD hl hd hb dle hV
  cases m
  all_goals
   go_enter Tryz.func144, Tryz.ntmps144
   go_wp2_with (first | (go_at_call 170; ((with_reducible refine (HH.out).mono ?_); rintro e w' ⟨rfl, rfl⟩)))
   go_ret2
   exact ⟨rfl, rfl⟩
 ·have e : dO (val D) b m = (0, 11) := by simp [dO, hle]
  rw [e]
  clear e
  obtain ⟨V, hV⟩ : ∃ V, val D / b = V := ⟨_, rfl⟩
  rw [hV] at h0 hle
  have dle : decide (V <= 1152921504606846976) = false := by simpa using hle
  have H' : Calls Tryz.prog 170 #[.slice (some ⟨B, 0, none⟩) 9 cap, .int .i64 b] w fun e w' => ∃ q, e = .returned (.tuple #[.int .i64 q, .bool false]) /\ w = w' :=
   H.out.mono fun e w' ⟨q, ok, h1, h2, h3, h4⟩ => by
    rw [hV, dle] at h3; subst h3; exact ⟨q, h1, h4⟩
  have HH := Lib.hid H'
  clear H H' hD hl hd hb dle hV
  go_enter Tryz.func144, Tryz.ntmps144
  go_wp2_with (first | (go_at_call 170; refine HH.out.mono ?_; rintro e w' ⟨q, rfl, rfl⟩))
  go_ret2
  exact ⟨rfl, rfl⟩
theorem Aq {a b : Int} {D : List Int} (h : QInv (a * b) D 8) (ha : 0 <= a /\ a <= 1152921504606846976) (hb : 0 <= b /\ b <= 1152921504606846976) : ∀ j, 0 <= D.getD j 0 /\ D.getD j 0 < 1048576 := by
 have hle : val D <= 1152921504606846976 * 1152921504606846976 := by rw [h.eq]; exact Int.mul_le_mul ha.2 hb.2 hb.1 (by omega)
 intro j
 refine ⟨h.lo j, ?_⟩
 rcases Nat.lt_trichotomy j 8 with hj | hj | hj
 ·exact h.done j hj
 ·subst hj
  match D, h.len, h.lo, hle with
  | [d0, d1, d2, d3, d4, d5, d6, d7, d8], _, hlo, hle =>
   have h0 := hlo 0; have h1 := hlo 1; have h2 := hlo 2; have h3 := hlo 3; have h4 := hlo 4; have h5 := hlo 5; have h6 := hlo 6; have h7 := hlo 7; have h8 := hlo 8
   simp [val] at *
   omega
 ·rw [List.getD_eq_getElem?_getD, List.getElem?_eq_none (by rw [h.len]; omega)]; simp
theorem qE (a b c : Int) (_hc : c ≠ 0) : ((a.natAbs : Int) * (b.natAbs : Int)) / (c.natAbs : Int) = ((a.natAbs * b.natAbs / c.natAbs : Nat) : Int) := by
 rw [<- Int.natCast_mul, <- Int.natCast_ediv]
theorem jB (a b c : Int) (m : Bool) (hc : c ≠ 0) (hm : m = kf a b c) : dO ((a.natAbs : Int) * (b.natAbs : Int)) (c.natAbs : Int) m = eg a b c := by
 unfold dO eg
 rw [qE a b c hc, hm]
 by_cases h : a.natAbs * b.natAbs / c.natAbs <= 1152921504606846976
 ·rw [if_pos h, if_pos (by omega)]
 ·rw [if_neg h, if_neg (by omega)]
theorem lu (a b c : Int) (m : Bool) (w : World) (ha : -1152921504606846976 <= a /\ a <= 1152921504606846976) (hb : -1152921504606846976 <= b /\ b <= 1152921504606846976) :
  Calls Tryz.prog 145 #[.int .i64 (a.natAbs : Int), .int .i64 (b.natAbs : Int)] w fun e w' => ∃ B cap, e = .returned (.slice (some ⟨B, 0, none⟩) 9 cap) /\ Below w.heap.size w w' /\
   (∀ w2, Below w'.heap.size w' w2 -> ∀ c : Int, 1 <= c /\ c <= 1152921504606846976 -> Calls Tryz.prog 144 #[.slice (some ⟨B, 0, none⟩) 9 cap, .int .i64 c, .bool m] w2
    fun e w3 => e = .returned (.tuple #[.int .i64 (dO ((a.natAbs : Int) * (b.natAbs : Int)) c m).1, .int .i64 (dO ((a.natAbs : Int) * (b.natAbs : Int)) c m).2]) /\ w2 = w3) := by
 refine (qN (a.natAbs : Int) (b.natAbs : Int) w (by omega) (by omega)).mono ?_
 rintro e w' ⟨B, cap, D, rfl, hB, hR, hQ, hW⟩
 refine ⟨B, cap, rfl, hW, fun w2 h2 c hc => ?_⟩
 have := sx D B cap c m w2 (hR.keep h2 hR.lt) hQ.len (Aq hQ (by omega) (by omega)) hc
 rw [hQ.eq] at this
 exact this
set_option maxHeartbeats 400000 in
theorem uE (a b : Int) (w : World) (ha : bj a = true) (hb : bj b = true) (m : Bool) (dm : (!(decide (a < 0) == decide (b < 0))) = m) (res : Int × Int) (hres : dO ((a.natAbs : Int) * (b.natAbs : Int)) 1000000 m = res) :
  Calls Tryz.prog 117 #[.int .i64 a, .int .i64 b] w fun e w' => e = .returned (.tuple #[.int .i64 res.1, .int .i64 res.2]) /\ Below w.heap.size w w' := by
 have ha' := cw ha
 have hb' := cw hb
 have HP := Lib.hid (fun w => lu a b 1000000 m w ha' hb')
 have HA := Lib.hid (fun w => jl a w ha')
 have HB := Lib.hid (fun w => jl b w hb')
 have Hres := Lib.hid hres
 clear hres ha' hb'
 cases da : decide (a < 0) <;> cases db : decide (b < 0) <;> rw [da, db] at dm <;> cases m
 all_goals first | (exact absurd dm (by decide)) | skip
 all_goals
  clear dm
  go_enter Tryz.func117, Tryz.ntmps117
  go_wp2_with (first | (go_at_call 78; ((with_reducible refine (ch _ _).mono ?_); rintro e w' ⟨rfl, rfl⟩)) | (go_at_call_of 146 (Value.int IntKind.i64 a); refine (HA.out _).mono ?_; rintro e w' ⟨rfl, rfl⟩) | (go_at_call_of 146 (Value.int IntKind.i64 b); refine (HB.out _).mono ?_; rintro e w' ⟨rfl, rfl⟩))
  refine (HP.out _).mono ?_
  rintro e w' ⟨B, cap, rfl, hW, hS⟩
  have HS := Lib.hid hS
  have HW := Lib.hid hW
  clear hS hW
  go_wp2_with fail


  refine (HS.out w' (Below.refl _ _) 1000000 (by omega)).mono ?_

  rw [Hres.out]
  rintro e w' ⟨rfl, rfl⟩

  go_wp2_with fail
  go_ret2
  exact ⟨rfl, HW.out⟩
theorem yp (a b : Int) (w : World) :
  Calls Tryz.prog 117 #[.int .i64 a, .int .i64 b] w fun e w' => e = .returned (.tuple #[.int .i64 (iL a b).1, .int .i64 (iL a b).2]) /\ Below w.heap.size w w' := by
 cases ha : bj a <;> cases hb : bj b
 case true.true =>
  refine uE a b w ha hb _ rfl _ ?_
  have := jB a b 1000000 (!(decide (a < 0) == decide (b < 0))) (by omega) (by simp [kf]; cases decide (a < 0) <;> cases decide (b < 0) <;> rfl)
  simp [iL, ha, hb]
  simpa using this
 all_goals
  have e : iL a b = (0, 2) := by simp [iL, ha, hb]
  rw [e]
  go_enter Tryz.func117, Tryz.ntmps117
  go_wp2_with (first | (go_at_call 78; ((with_reducible refine (ch _ _).mono ?_); rintro e w' ⟨rfl, rfl⟩)))
  go_ret2
  exact ⟨rfl, Below.refl _ _⟩
set_option maxHeartbeats 400000 in
theorem uA (a b : Int) (w : World) (ha : bj a = true) (hb : bj b = true) (m : Bool) (dm : (!(decide (a < 0) == decide (b < 0))) = m) (res : Int × Int) (h0 : (b == 0) = false) (hb0 : 1 <= b.natAbs) (hres : dO ((a.natAbs : Int) * ((1000000 : Int).natAbs : Int)) (b.natAbs : Int) m = res) :
  Calls Tryz.prog 118 #[.int .i64 a, .int .i64 b] w fun e w' => e = .returned (.tuple #[.int .i64 res.1, .int .i64 res.2]) /\ Below w.heap.size w w' := by
 have ha' := cw ha
 have hb' := cw hb
 have HP := Lib.hid (fun w => lu a 1000000 b m w ha' (by omega))
 have HA := Lib.hid (fun w => jl a w ha')
 have HB := Lib.hid (fun w => jl b w hb')
 have Hres := Lib.hid hres
 have bb : 1 <= (b.natAbs : Int) /\ (b.natAbs : Int) <= 1152921504606846976 := by omega
 have HBB := Lib.hid bb
 have em : ((1000000 : Int).natAbs : Int) = 1000000 := rfl
 rw [em] at HP Hres
 clear hres ha' hb' bb hb0 em
 cases da : decide (a < 0) <;> cases db : decide (b < 0) <;> rw [da, db] at dm <;> cases m
 all_goals first | (exact absurd dm (by decide)) | skip
 all_goals
  clear dm
  go_enter Tryz.func118, Tryz.ntmps118
  go_wp2_with (first | (go_at_call 78; ((with_reducible refine (ch _ _).mono ?_); rintro e w' ⟨rfl, rfl⟩)) | (go_at_call_of 146 (Value.int IntKind.i64 a); refine (HA.out _).mono ?_; rintro e w' ⟨rfl, rfl⟩) | (go_at_call_of 146 (Value.int IntKind.i64 b); refine (HB.out _).mono ?_; rintro e w' ⟨rfl, rfl⟩))
  refine (HP.out _).mono ?_
  rintro e w' ⟨B, cap, rfl, hW, hS⟩
  have HS := Lib.hid hS
  have HW := Lib.hid hW
  clear hS hW
  go_wp2_with (go_at_call 146; refine (HB.out _).mono ?_; rintro e w' ⟨rfl, rfl⟩)
  refine (HS.out _ (Below.refl _ _) (b.natAbs : Int) HBB.out).mono ?_

  rw [Hres.out]
  rintro e w' ⟨rfl, rfl⟩

  go_wp2_with fail
  go_ret2
  exact ⟨rfl, HW.out⟩
theorem yl (a b : Int) (w : World) :
  Calls Tryz.prog 118 #[.int .i64 a, .int .i64 b] w fun e w' => e = .returned (.tuple #[.int .i64 (gv a b).1, .int .i64 (gv a b).2]) /\ Below w.heap.size w w' := by
 cases ha : bj a <;> cases hb : bj b
 case true.true =>
  by_cases h0 : b = 0
  ·subst h0
   have e : gv a 0 = (0, 12) := by simp [gv, ha, hb]
   rw [e]
   clear e
   go_enter Tryz.func118, Tryz.ntmps118
   go_wp2_with (first | (go_at_call 78; ((with_reducible refine (ch _ _).mono ?_); rintro e w' ⟨rfl, rfl⟩)))
   go_ret2
   exact ⟨rfl, Below.refl _ _⟩
  ·refine uA a b w ha hb _ rfl _ (by simp [h0]) (by omega) ?_
   have := jB a 1000000 b (!(decide (a < 0) == decide (b < 0))) h0 (by simp [kf]; cases decide (a < 0) <;> cases decide (b < 0) <;> rfl)
   rw [this]
   simp [gv, ha, hb, h0]
 all_goals
  have e : gv a b = (0, 2) := by simp [gv, ha, hb]
  rw [e]
  go_enter Tryz.func118, Tryz.ntmps118
  go_wp2_with (first | (go_at_call 78; ((with_reducible refine (ch _ _).mono ?_); rintro e w' ⟨rfl, rfl⟩)))
  go_ret2
  exact ⟨rfl, Below.refl _ _⟩
end Go.Proofs.YtndhhgbpcmfeiaaGreatDoor
