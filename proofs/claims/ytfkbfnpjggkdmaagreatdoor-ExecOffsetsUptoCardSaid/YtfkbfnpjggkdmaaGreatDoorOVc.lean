/- Chapter 7, by the document: parentheses. -/
import Derived.Test.YtfkbfnpjggkdmaaGreatDoorOVb
namespace Go.Proofs.YtfkbfnpjggkdmaaGreatDoor.Ev.P7
open Go.RowKit
set_option maxRecDepth 100000
set_option maxHeartbeats 1000000
theorem clsF_len : ∀ {k : Nat} {ne : Bool} {l : List Nat} {n : Nat}, clsF k ne l = some n → 0 < n ∧ n ≤ l.length
 | 0, _, _, _, h => by simp [clsF] at h
 | k + 1, ne, l, n, h => by
  unfold clsF at h
  by_cases h0 : l = []
  ·rw [if_pos h0] at h; exact absurd h (by simp)
  rw [if_neg h0] at h
  have hp : 0 < l.length := List.length_pos_iff.2 h0
  by_cases h1 : l.getD 0 0 = 93
  ·rw [if_pos h1] at h
   split at h
   ·have := Option.some.inj h; omega
   ·exact absurd h (by simp)
  rw [if_neg h1] at h
  by_cases h2 : itemB (l.getD 0 0) = false
  ·rw [if_pos h2] at h; exact absurd h (by simp)
  rw [if_neg h2] at h
  by_cases h3 : 1 < l.length ∧ l.getD 1 0 = 45
  ·rw [if_pos h3] at h
   split at h
   ·rename_i g
    obtain ⟨m, hm, rfl⟩ := Option.map_eq_some_iff.1 h
    have := clsF_len hm
    rw [List.length_drop] at this
    omega
   ·exact absurd h (by simp)
  ·rw [if_neg h3] at h
   obtain ⟨m, hm, rfl⟩ := Option.map_eq_some_iff.1 h
   have := clsF_len hm
   rw [List.length_drop] at this
   omega
theorem classL_len {l : List Nat} {n : Nat} (h : classL l = some n) : 0 < n ∧ n ≤ l.length := by
 unfold classL at h
 split at h
 ·rename_i g
  obtain ⟨m, hm, rfl⟩ := Option.map_eq_some_iff.1 h
  have := clsF_len hm
  have hp : 0 < l.length := List.length_pos_iff.2 g.1
  rw [List.length_drop] at this
  omega
 ·exact clsF_len h
theorem cls_some {p : List Nat} {i : Nat} (h : ¬ clsEnd p i = 0) : ∃ n, classL (p.drop (i + 1)) = some n ∧ clsEnd p i = i + 1 + n := by
 unfold clsEnd at h ⊢
 cases e : classL (p.drop (i + 1)) with
 | none => rw [e] at h; exact absurd rfl h
 | some n => exact ⟨n, rfl, rfl⟩
def cloF : Nat → Nat → List Nat → Option Nat
 | 0, _, _ => none
 | k + 1, o, l =>
  if l = [] then none
  else if l.getD 0 0 = 92 then (cloF k o (l.drop 2)).map (· + 2)
  else if l.getD 0 0 = 91 then (match classL (l.drop 1) with
   | none => none
   | some n => (cloF k o (l.drop (1 + n))).map (· + (1 + n)))
  else if l.getD 0 0 = 40 then (cloF k (o + 1) (l.drop 1)).map (· + 1)
  else if l.getD 0 0 = 41 then (if o = 1 then some 0 else (cloF k (o - 1) (l.drop 1)).map (· + 1))
  else (cloF k o (l.drop 1)).map (· + 1)
def cloV (i : Nat) : Option Nat → Int
 | none => -1
 | some n => ((i + n : Nat) : Int)
theorem cloV_map {i m : Nat} {o : Option Nat} : cloV i (o.map (· + m)) = cloV (i + m) o := by
 cases o with
 | none => rfl
 | some n => show ((i + (n + m) : Nat) : Int) = ((i + m + n : Nat) : Int); congr 1; omega
theorem cloF_at {p : List Nat} {i k o : Nat} (h : i < p.length) : cloF (k + 1) o (p.drop i) =
  if p.getD i 0 = 92 then (cloF k o (p.drop (i + 2))).map (· + 2)
  else if p.getD i 0 = 91 then (match classL (p.drop (i + 1)) with
   | none => none
   | some n => (cloF k o (p.drop (i + (1 + n)))).map (· + (1 + n)))
  else if p.getD i 0 = 40 then (cloF k (o + 1) (p.drop (i + 1))).map (· + 1)
  else if p.getD i 0 = 41 then (if o = 1 then some 0 else (cloF k (o - 1) (p.drop (i + 1))).map (· + 1))
  else (cloF k o (p.drop (i + 1))).map (· + 1) := by
 have hne : ¬ p.drop i = [] := by
  intro e
  have := congrArg List.length e
  simp at this
  omega
 conv => lhs; unfold cloF
 rw [if_neg hne]
 simp only [drop_getD, List.drop_drop, Nat.add_zero]
theorem cloF_nil {p : List Nat} {i k o : Nat} (h : p.length ≤ i) : cloF k o (p.drop i) = none := by
 rw [List.drop_eq_nil_of_le h]
 cases k <;> rfl
theorem cls_none {p : List Nat} {i : Nat} (h : clsEnd p i = 0) : classL (p.drop (i + 1)) = none := by
 unfold clsEnd at h
 cases e : classL (p.drop (i + 1)) with
 | none => rfl
 | some n => rw [e] at h; exact absurd h (by simp [clsE])
theorem clo_ret {x y : Int} (h : y = x) : oneOf [AV.int .i64 x] = .int .i64 y := by rw [h]; rfl
theorem closing_spec (p : List Nat) (hs : Bytes p) (hl : p.length ≤ 64) (i : Nat) (hi : i < p.length) (h40 : p.getD i 0 = 40) : Spec tab 278 [.str p, .int .i64 ((i : Nat) : Int)] [] [] (Val (.int .i64 (cloV i (cloF 100 0 (p.drop i))))) := by
 refine Spec.en (ftg 278 Tryz.func278) rfl (m := 46) rfl (rs := [.tmp 4]) rfl (st := [(0, .str p), (1, .int .i64 ((i : Nat) : Int))]) rfl rfl (fun _ => rfl) (fun E => ?_)
 refine W.seq ?_
 refine W.reg ?_
 refine WO.q (Q.assign (oc (v := .int .i64 ((0 : Nat) : Int)) rfl)) rfl ?_
 refine WO.nil ?_
 refine End.K ?_
 refine W.seq ?_
 refine W.reg ?_
 refine WO.q (Q.assign (oc (v := .int .i64 ((0 : Nat) : Int)) rfl)) rfl ?_
 refine WO.nil ?_
 refine End.K ?_
 refine W.seq ?_
 refine W.seq ?_
 refine W.reg ?_
 refine WO.q (Q.move rfl) rfl ?_
 refine WO.q (Q.assign rfl) rfl ?_
 refine WO.nil ?_
 refine End.K ?_
 refine W.block ?_
 refine W.loop_ind3 (fun (j : Nat) (o : Nat) (k : Nat) => [(0, .str p), (5, .int .i64 ((o : Nat) : Int)), (6, .int .i64 ((j : Nat) : Int))]) (fun _ _ _ => _) (fun (j : Nat) (o : Nat) (k : Nat) => cloV i (cloF 100 0 (p.drop i)) = cloV j (cloF k o (p.drop j)) ∧ j ≤ p.length + 1 ∧ p.length + 1 - j < k ∧ (0 < o ∨ p.getD j 0 = 40) ∧ o ≤ j) (fun (j : Nat) (o : Nat) (k : Nat) => p.length + 1 - j) (i) (0) (100) ⟨rfl, by omega, by omega, .inr h40, Nat.zero_le _⟩ (SubS.cons rfl (SubS.cons rfl (SubS.cons rfl (SubS.nil _)))) (SubH.refl _) (fun j o k hI0 ih0 => ?_)
 obtain ⟨hv, hj, hk, ho, hoj⟩ := hI0
 obtain ⟨k, rfl⟩ : ∃ q, k = q + 1 := ⟨k - 1, by omega⟩
 refine W.seq ?_
 refine W.seq ?_
 refine W.reg ?_
 refine WO.q (Q.move rfl) rfl ?_
 refine WO.q (Q.move rfl) rfl ?_
 refine WO.q (Q.len ud9 rfl rfl) rfl ?_
 refine WO.q (Q.bin rfl rfl rfl (bvl ltn)) rfl ?_
 refine WO.nil ?_
 refine End.K ?_
 refine W.cD rfl (fun hc13 => ?_) (fun hc13 => ?_)
 ·skip -- L0T
  refine W.skip ?_
  refine End.K ?_
  refine W.seqK2 (fun (q : Nat) (u : Nat) => [(0, .str p), (5, .int .i64 ((u : Nat) : Int)), (6, .int .i64 ((q : Nat) : Int))]) (fun (q : Nat) (u : Nat) => cloV i (cloF 100 0 (p.drop i)) = cloV (q + 1) (cloF k u (p.drop (q + 1))) ∧ q ≤ p.length ∧ j ≤ q ∧ 0 < u ∧ u ≤ q + 1) (fun q u hI4 => ?_) (fun hJ4 => ?_)
  ·skip -- L0TJ4
   obtain ⟨hv2, hq, hjq, hu, huq⟩ := hI4
   refine W.reg ?_
   refine WO.q (Q.move rfl) rfl ?_
   refine WO.q (Q.bin rfl (oc (v := .int .i64 ((1 : Nat) : Int)) rfl) rfl (bv_add (wna zo))) rfl ?_
   refine WO.q (Q.assign rfl) rfl ?_
   refine WO.nil ?_
   refine End.KL ?_
   refine W.sub (SubS.cons rfl (SubS.cons rfl (SubS.cons rfl (SubS.nil _)))) (ih0 (q + 1) (u) (k) ?_ ?_)
   ·exact ⟨hv2, by omega, by omega, .inl hu, by omega⟩
   ·exact zo
  ·skip
   refine W.block ?_
   refine W.seq ?_
   refine W.reg ?_
   refine WO.q (Q.move rfl) rfl ?_
   refine WO.q (Q.move rfl) rfl ?_
   refine WO.indexB hs ud9 rfl rfl zo rfl (fun c18 hd18 hb18 => ?_)
   refine WO.nil ?_
   refine End.K ?_
   refine W.block ?_
   refine W.seq ?_
   refine W.reg ?_
   refine WO.q (Q.bin rfl (oc (v := .int .u8 ((92 : Nat) : Int)) rfl) rfl (bv_eql eq_nat)) rfl ?_
   refine WO.q (Q.assign rfl) rfl ?_
   refine WO.nil ?_
   refine End.K ?_
   refine W.cD rfl (fun hc19 => ?_) (fun hc19 => ?_)
   ·skip -- L0TT
    refine W.reg ?_
    refine WO.q (Q.move rfl) rfl ?_
    refine WO.q (Q.bin rfl (oc (v := .int .i64 ((1 : Nat) : Int)) rfl) rfl (bv_add (wna zo))) rfl ?_
    refine WO.q (Q.assign rfl) rfl ?_
    refine WO.nil ?_
    refine End.KB (End.KB (End.K (W.sub (SubS.cons rfl (SubS.cons rfl (SubS.cons rfl (SubS.nil _)))) (hJ4 (_) (_) ?_))))
    exact ⟨by rw [hv, cloF_at (by omega), if_pos (by omega), cloV_map], by omega, by omega, by omega, by omega⟩
   ·skip -- L0TF
    refine W.seq ?_
    refine W.reg ?_
    refine WO.q (Q.bin rfl (oc (v := .int .u8 ((91 : Nat) : Int)) rfl) rfl (bv_eql eq_nat)) rfl ?_
    refine WO.q (Q.assign rfl) rfl ?_
    refine WO.nil ?_
    refine End.K ?_
    refine W.cD rfl (fun hc23 => ?_) (fun hc23 => ?_)
    ·skip -- L0TFT
     refine W.seq ?_
     refine W.reg ?_
     refine WO.q (Q.move rfl) rfl ?_
     refine WO.q (Q.move rfl) rfl ?_
     refine WO.callE rfl (oLc rfl (oLc rfl (oLc (oc (v := .int .u8 ((0 : Nat) : Int)) rfl) oz))) rfl (class_spec _ hs (by omega) _ (by omega) _ (by omega)) SubR.nil rfl (fun v28 hP28 => ?_)
     obtain ⟨h28, rfl⟩ := hP28
     refine WO.q (Q.move rfl) rfl ?_
     refine WO.q (Q.extract rfl rfl) rfl ?_
     refine WO.q (Q.extract rfl rfl) rfl ?_
     refine WO.q (Q.assign rfl) rfl ?_
     refine WO.q (Q.assign rfl) rfl ?_
     refine WO.nil ?_
     refine End.K ?_
     refine W.sub (SubS.cons (k := 7) rfl (SubS.cons (k := 0) rfl (SubS.cons (k := 5) rfl (SubS.nil _)))) ?_
     refine W.seq ?_
     refine W.seq ?_
     refine W.reg ?_
     refine WO.q (Q.move rfl) rfl ?_
     refine WO.q (Q.bin rfl (oc (v := .int .i64 ((0 : Nat) : Int)) rfl) rfl (bv_eql eq_nat)) rfl ?_
     refine WO.nil ?_
     refine End.K ?_
     refine W.cD rfl (fun hc32 => ?_) (fun hc32 => ?_)
     ·skip -- L0TFTT
      refine W.seq ?_
      refine W.reg ?_
      refine WO.q (Q.assign rfl) rfl ?_
      refine WO.nil ?_
      refine End.K ?_
      refine W.ret ?_
      refine End.Kr (End.Br (End.Br (End.Kr (End.Lr (End.Br (End.Kr (End.rV (ResL.tmp rfl ResL.nil) ?_)))))))
      exact clo_ret (by rw [hv, cloF_at (by omega), if_neg (by omega), if_pos (by omega), cls_none (by omega)]; rfl)
     ·skip -- L0TFTF
      obtain ⟨m, hm, hcm⟩ := cls_some (p := p) (i := j) (by omega)
      have hml := classL_len hm
      simp only [List.length_drop] at hml
      refine W.skip ?_
      refine End.K ?_
      refine W.reg ?_
      refine WO.q (Q.move rfl) rfl ?_
      refine WO.q (Q.bin rfl (oc (v := .int .i64 ((1 : Nat) : Int)) rfl) rfl (bv_sub (wns zo))) rfl ?_
      refine WO.q (Q.assign rfl) rfl ?_
      refine WO.nil ?_
      refine End.KB (End.KB (End.K (W.sub (SubS.cons rfl (SubS.cons rfl (SubS.cons rfl (SubS.nil _)))) (hJ4 (_) (_) ?_))))
      exact ⟨by rw [hv, cloF_at (by omega), if_neg (by omega), if_pos (by omega), hm]; show cloV j ((cloF k o (p.drop (j + (1 + m)))).map (· + (1 + m))) = _; rw [cloV_map, hcm, show j + (1 + m) = j + 1 + m - 1 + 1 from by omega], by omega, by omega, by omega, by omega⟩
    ·skip -- L0TFF
     refine W.seq ?_
     refine W.reg ?_
     refine WO.q (Q.bin rfl (oc (v := .int .u8 ((40 : Nat) : Int)) rfl) rfl (bv_eql eq_nat)) rfl ?_
     refine WO.q (Q.assign rfl) rfl ?_
     refine WO.nil ?_
     refine End.K ?_
     refine W.cD rfl (fun hc35 => ?_) (fun hc35 => ?_)
     ·skip -- L0TFFT
      refine W.reg ?_
      refine WO.q (Q.move rfl) rfl ?_
      refine WO.q (Q.bin rfl (oc (v := .int .i64 ((1 : Nat) : Int)) rfl) rfl (bv_add (wna zo))) rfl ?_
      refine WO.q (Q.assign rfl) rfl ?_
      refine WO.nil ?_
      refine End.KB (End.KB (End.K (W.sub (SubS.cons rfl (SubS.cons rfl (SubS.cons rfl (SubS.nil _)))) (hJ4 (_) (_) ?_))))
      exact ⟨by rw [hv, cloF_at (by omega), if_neg (by omega), if_neg (by omega), if_pos (by omega), cloV_map], by omega, by omega, by omega, by omega⟩
     ·skip -- L0TFFF
      refine W.seq ?_
      refine W.reg ?_
      refine WO.q (Q.bin rfl (oc (v := .int .u8 ((41 : Nat) : Int)) rfl) rfl (bv_eql eq_nat)) rfl ?_
      refine WO.q (Q.assign rfl) rfl ?_
      refine WO.nil ?_
      refine End.K ?_
      refine W.sub (SubS.cons (k := 39) rfl (SubS.cons (k := 0) rfl (SubS.cons (k := 5) rfl (SubS.cons (k := 6) rfl (SubS.nil _))))) ?_
      refine W.cD rfl (fun hc39 => ?_) (fun hc39 => ?_)
      ·skip -- L0TFFFT
       refine W.seq ?_
       refine W.reg ?_
       refine WO.q (Q.move rfl) rfl ?_
       refine WO.q (Q.bin rfl (oc (v := .int .i64 ((1 : Nat) : Int)) rfl) rfl (bv_sub (wns zo))) rfl ?_
       refine WO.q (Q.assign rfl) rfl ?_
       refine WO.nil ?_
       refine End.K ?_
       refine W.seq ?_
       refine W.reg ?_
       refine WO.q (Q.move rfl) rfl ?_
       refine WO.q (Q.bin rfl (oc (v := .int .i64 ((0 : Nat) : Int)) rfl) rfl (bv_eql eq_nat)) rfl ?_
       refine WO.nil ?_
       refine End.K ?_
       refine W.cD rfl (fun hc44 => ?_) (fun hc44 => ?_)
       ·skip -- L0TFFFTT
        refine W.seq ?_
        refine W.reg ?_
        refine WO.q (Q.move rfl) rfl ?_
        refine WO.q (Q.assign rfl) rfl ?_
        refine WO.nil ?_
        refine End.K ?_
        refine W.ret ?_
        refine End.Br (End.Br (End.Kr (End.Lr (End.Br (End.Kr (End.rV (ResL.tmp rfl ResL.nil) ?_))))))
        exact clo_ret (by rw [hv, cloF_at (by omega), if_neg (by omega), if_neg (by omega), if_neg (by omega), if_pos (by omega), if_pos (by omega)]; rfl)
       ·skip -- L0TFFFTF
        refine W.skip ?_
        refine End.KB (End.KB (End.K (W.sub (SubS.cons rfl (SubS.cons rfl (SubS.cons rfl (SubS.nil _)))) (hJ4 (_) (_) ?_))))
        exact ⟨by rw [hv, cloF_at (by omega), if_neg (by omega), if_neg (by omega), if_neg (by omega), if_pos (by omega), if_neg (by omega), cloV_map], by omega, by omega, by omega, by omega⟩
      ·skip -- L0TFFFF
       refine W.skip ?_
       refine End.KB (End.KB (End.K (W.sub (SubS.cons rfl (SubS.cons rfl (SubS.cons rfl (SubS.nil _)))) (hJ4 (_) (_) ?_))))
       exact ⟨by rw [hv, cloF_at (by omega), if_neg (by omega), if_neg (by omega), if_neg (by omega), if_neg (by omega), cloV_map], by omega, by omega, by omega, by omega⟩
 ·skip -- L0F
  refine W.exit ?_
  refine End.Kx (End.Lx (End.Bh (End.K ?_)))
  refine W.seq ?_
  refine W.reg ?_
  refine WO.q (Q.assign rfl) rfl ?_
  refine WO.nil ?_
  refine End.K ?_
  refine W.ret ?_
  refine End.rV (ResL.tmp rfl ResL.nil) ?_
  exact clo_ret (by rw [hv, cloF_nil (by omega)]; rfl)
end Go.Proofs.YtfkbfnpjggkdmaaGreatDoor.Ev.P7
