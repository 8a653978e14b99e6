/- Chapter 7, by the document: what a pattern's depth wants. -/
import Derived.Test.YtfkbfnpjggkdmaaGreatDoorOVd
namespace Go.Proofs.YtfkbfnpjggkdmaaGreatDoor.Ev.P7
open Go.RowKit
set_option maxRecDepth 100000
set_option maxHeartbeats 1000000
theorem mm_maxI {k : IntKind} {a b : Int} : minmaxA true (.int k a) [.int k b] = some (.int k (if ltA a b = true then b else a)) := by
 unfold minmaxA
 simp only [if_true]
 cases ltA a b <;> rfl
inductive Dep : List Nat → Prop
 | nil : Dep []
 | esc {l : List Nat} : l ≠ [] → l.getD 0 0 = 92 → Dep (l.drop 2) → Dep l
 | cls {l : List Nat} {n : Nat} : l ≠ [] → l.getD 0 0 = 91 → classL (l.drop 1) = some n → Dep (l.drop (1 + n)) → Dep l
 | oth {l : List Nat} : l ≠ [] → l.getD 0 0 ≠ 92 → l.getD 0 0 ≠ 91 → Dep (l.drop 1) → Dep l
theorem Dep.nilE {l : List Nat} (h : l = []) : Dep l := by subst h; exact .nil
theorem Dep.one {l : List Nat} (h2 : l.getD 0 0 ≠ 92) (h3 : l.getD 0 0 ≠ 91) (h4 : Dep (l.drop 1)) : Dep l := by
 by_cases h : l = []
 ·exact .nilE h
 ·exact .oth h h2 h3 h4
theorem drop_ne {p : List Nat} {i : Nat} (h : i < p.length) : p.drop i ≠ [] := by
 intro e
 have := congrArg List.length e
 simp at this
 omega
theorem Dep.at_esc {p : List Nat} {i : Nat} (h : Dep (p.drop i)) (hi : i < p.length) (hc : p.getD i 0 = 92) : Dep (p.drop (i + 1 + 1)) := by
 have hc' : (p.drop i).getD 0 0 = 92 := by rw [drop_getD]; exact hc
 have hne := drop_ne hi
 generalize hq : p.drop i = l at h hc' hne
 cases h with
 | nil => exact absurd rfl hne
 | esc _ _ g => rw [← hq, List.drop_drop] at g; exact g
 | cls _ g _ _ => omega
 | oth _ g _ _ => omega
theorem Dep.at_cls {p : List Nat} {i : Nat} (h : Dep (p.drop i)) (hi : i < p.length) (hc : p.getD i 0 = 91) : ∃ n, classL (p.drop (i + 1)) = some n ∧ Dep (p.drop (i + (1 + n))) := by
 have hc' : (p.drop i).getD 0 0 = 91 := by rw [drop_getD]; exact hc
 have hne := drop_ne hi
 generalize hq : p.drop i = l at h hc' hne
 cases h with
 | nil => exact absurd rfl hne
 | esc _ g _ => omega
 | @cls _ n _ _ g1 g2 => rw [← hq, List.drop_drop] at g1 g2; exact ⟨n, g1, g2⟩
 | oth _ _ g _ => omega
theorem Dep.at_oth {p : List Nat} {i : Nat} (h : Dep (p.drop i)) (hi : i < p.length) (h2 : p.getD i 0 ≠ 92) (h3 : p.getD i 0 ≠ 91) : Dep (p.drop (i + 1)) := by
 have h2' : (p.drop i).getD 0 0 ≠ 92 := by rw [drop_getD]; exact h2
 have h3' : (p.drop i).getD 0 0 ≠ 91 := by rw [drop_getD]; exact h3
 have hne := drop_ne hi
 generalize hq : p.drop i = l at h h2' h3' hne
 cases h with
 | nil => exact absurd rfl hne
 | esc _ g _ => exact absurd g h2'
 | cls _ g _ _ => exact absurd g h3'
 | oth _ _ _ g => rw [← hq, List.drop_drop] at g; exact g
theorem clo_dep : ∀ {k o : Nat} {l : List Nat} {n : Nat}, cloF k o l = some n → Dep (l.drop (n + 1)) → Dep l
 | 0, _, _, _, h, _ => by simp [cloF] at h
 | k + 1, o, l, n, h, hd => by
  unfold cloF at h
  by_cases h0 : l = []
  ·exact .nilE h0
  rw [if_neg h0] at h
  by_cases h1 : l.getD 0 0 = 92
  ·rw [if_pos h1] at h
   obtain ⟨m, hm, rfl⟩ := Option.map_eq_some_iff.1 h
   exact .esc h0 h1 (clo_dep hm (by rw [List.drop_drop, show 2 + (m + 1) = m + 2 + 1 from by omega]; exact hd))
  rw [if_neg h1] at h
  by_cases h2 : l.getD 0 0 = 91
  ·rw [if_pos h2] at h
   cases e : classL (l.drop 1) with
   | none => rw [e] at h; exact absurd h (by simp)
   | some q =>
    rw [e] at h
    obtain ⟨m, hm, rfl⟩ := Option.map_eq_some_iff.1 h
    exact .cls h0 h2 e (clo_dep hm (by rw [List.drop_drop, show 1 + q + (m + 1) = m + (1 + q) + 1 from by omega]; exact hd))
  rw [if_neg h2] at h
  have st : ∀ m, cloF k (o + 1) (l.drop 1) = some m ∨ cloF k (o - 1) (l.drop 1) = some m ∨ cloF k o (l.drop 1) = some m → m + 1 = n → Dep l := by
   intro m hm e
   subst e
   have hd' : Dep ((l.drop 1).drop (m + 1)) := by rw [List.drop_drop, show 1 + (m + 1) = m + 1 + 1 from by omega]; exact hd
   refine .oth h0 h1 h2 ?_
   rcases hm with hm | hm | hm
   ·exact clo_dep hm hd'
   ·exact clo_dep hm hd'
   ·exact clo_dep hm hd'
  by_cases h3 : l.getD 0 0 = 40
  ·rw [if_pos h3] at h
   obtain ⟨m, hm, e⟩ := Option.map_eq_some_iff.1 h
   exact st m (.inl hm) e
  rw [if_neg h3] at h
  by_cases h4 : l.getD 0 0 = 41
  ·rw [if_pos h4] at h
   split at h
   ·have := Option.some.inj h
    subst this
    exact .oth h0 h1 h2 hd
   ·obtain ⟨m, hm, e⟩ := Option.map_eq_some_iff.1 h
    exact st m (.inr (.inl hm)) e
  ·rw [if_neg h4] at h
   obtain ⟨m, hm, e⟩ := Option.map_eq_some_iff.1 h
   exact st m (.inr (.inr hm)) e
theorem plain_ne {c : Nat} (h : c = 46 ∨ plainB c = true) : c ≠ 92 ∧ c ≠ 91 := by
 rcases h with rfl | h
 ·exact ⟨by decide, by decide⟩
 ·have := of_decide_eq_true h
  simp at this
  omega
theorem atom_dep {r : List Nat → Bool} {l : List Nat} {n : Nat} (h : atomF r l = some n) (hd : Dep (l.drop n)) : Dep l := by
 unfold atomF at h
 by_cases h0 : l = []
 ·exact .nilE h0
 rw [if_neg h0] at h
 by_cases h1 : l.getD 0 0 = 46 ∨ plainB (l.getD 0 0) = true
 ·rw [if_pos h1] at h
  have := Option.some.inj h
  subst this
  exact .oth h0 (plain_ne h1).1 (plain_ne h1).2 hd
 rw [if_neg h1] at h
 by_cases h2 : l.getD 0 0 = 92 ∧ 1 < l.length ∧ plainB (l.getD 1 0) = false
 ·rw [if_pos h2] at h
  have := Option.some.inj h
  subst this
  exact .esc h0 h2.1 hd
 rw [if_neg h2] at h
 by_cases h3 : l.getD 0 0 = 91
 ·rw [if_pos h3] at h
  obtain ⟨m, hm, rfl⟩ := Option.map_eq_some_iff.1 h
  exact .cls h0 h3 hm (by rw [Nat.add_comm]; exact hd)
 rw [if_neg h3] at h
 by_cases h4 : l.getD 0 0 = 40
 ·rw [if_pos h4] at h
  cases e : cloF 100 0 l with
  | none => rw [e] at h; exact absurd h (by simp)
  | some q =>
   rw [e] at h
   simp only at h
   split at h
   ·have := Option.some.inj h
    subst this
    exact clo_dep e hd
   ·exact absurd h (by simp)
 ·rw [if_neg h4] at h
  exact absurd h (by simp)
theorem cut_dep {r : List Nat → Bool} : ∀ {k : Nat} {cur l : List Nat} {L : List (List Nat)}, cutF r k cur l = some L → Dep l
 | 0, _, _, _, h => by simp [cutF] at h
 | k + 1, cur, l, L, h => by
  unfold cutF at h
  by_cases h0 : l = []
  ·exact .nilE h0
  rw [if_neg h0] at h
  by_cases h1 : l.getD 0 0 = 124
  ·rw [if_pos h1] at h
   obtain ⟨M, hM, _⟩ := Option.map_eq_some_iff.1 h
   exact .oth h0 (by omega) (by omega) (cut_dep hM)
  rw [if_neg h1] at h
  cases e : atomF r l with
  | none => rw [e] at h; exact absurd h (by simp)
  | some n =>
   rw [e] at h
   simp only at h
   split at h
   ·rename_i g
    have hc : (l.drop n).getD 0 0 = l.getD n 0 := by rw [drop_getD, Nat.add_zero]
    refine atom_dep e (Dep.one (by rw [hc]; omega) (by rw [hc]; omega) ?_)
    rw [List.drop_drop]
    exact cut_dep h
   ·exact atom_dep e (cut_dep h)
theorem right_dep {d : Nat} {p : List Nat} (h : rightF d p = true) : Dep p := by
 cases d with
 | zero => simp [rightF] at h
 | succ d =>
  unfold rightF at h
  obtain ⟨L, hL⟩ := Option.isSome_iff_exists.1 h
  exact cut_dep hL
theorem right_is : ∀ (d : Nat) (p : List Nat), Bytes p → p.length ≤ 64 → p.length < d → Spec tab 162 [.str p] [] [] (Val (.bool (rightF d p)))
 | 0, _, _, _, h => absurd h (Nat.not_lt_zero _)
 | d + 1, p, hs, hl, h => rightS_spec p hs hl d (right_is d) (by omega)
theorem depth_spec (p : List Nat) (hs : Bytes p) (hl : p.length ≤ 64) (hD : Dep p) : Spec tab 163 [.str p] [] [] (ValE (fun v => ∃ x : Int, v = .int .i64 x)) := by
 refine Spec.en (ftg 163 Tryz.func163) rfl (m := 43) rfl (rs := [.tmp 2]) rfl (st := [(0, .str p)]) rfl rfl (fun _ => rfl) (fun E => ?_)
 refine W.seq ?_
 refine W.reg ?_
 refine WO.q (Q.assign (oc (v := .int .i64 ((0 : Nat) : Int)) rfl)) rfl ?_
 refine WO.nil ?_
 refine End.K ?_
 refine W.seq ?_
 refine W.reg ?_
 refine WO.q (Q.assign (oc (v := .int .i64 ((0 : Nat) : Int)) rfl)) rfl ?_
 refine WO.q (Q.assign (oc (v := .int .i64 ((0 : Nat) : Int)) rfl)) rfl ?_
 refine WO.nil ?_
 refine End.K ?_
 refine W.seq ?_
 refine W.seq ?_
 refine W.reg ?_
 refine WO.q (Q.assign (oc (v := .int .i64 ((0 : Nat) : Int)) rfl)) rfl ?_
 refine WO.nil ?_
 refine End.K ?_
 refine W.block ?_
 refine W.loop_ind3 (fun (i : Nat) (op : Int) (mo : Int) => [(0, .str p), (3, .int .i64 op), (4, .int .i64 mo), (5, .int .i64 ((i : Nat) : Int))]) (fun _ _ _ => _) (fun (i : Nat) (op : Int) (mo : Int) => Dep (p.drop i) ∧ i ≤ p.length + 1) (fun (i : Nat) (op : Int) (mo : Int) => p.length + 1 - i) (0) (0) (0) ⟨hD, by omega⟩ (SubS.cons rfl (SubS.cons rfl (SubS.cons rfl (SubS.cons rfl (SubS.nil _))))) (SubH.refl _) (fun i op mo hI0 ih0 => ?_)
 obtain ⟨hD, hi⟩ := hI0
 refine W.seq ?_
 refine W.seq ?_
 refine W.reg ?_
 refine WO.q (Q.move rfl) rfl ?_
 refine WO.q (Q.move rfl) rfl ?_
 refine WO.q (Q.len ud9 rfl rfl) rfl ?_
 refine WO.q (Q.bin rfl rfl rfl (bvl ltn)) rfl ?_
 refine WO.nil ?_
 refine End.K ?_
 refine W.cD rfl (fun hc11 => ?_) (fun hc11 => ?_)
 ·skip -- L0T
  refine W.skip ?_
  refine End.K ?_
  refine W.seqK3 (fun (q : Nat) (op : Int) (mo : Int) => [(0, .str p), (3, .int .i64 op), (4, .int .i64 mo), (5, .int .i64 ((q : Nat) : Int))]) (fun (q : Nat) (op : Int) (mo : Int) => Dep (p.drop (q + 1)) ∧ q ≤ p.length ∧ i ≤ q) (fun q op mo hI4 => ?_) (fun hJ4 => ?_)
  ·skip -- L0TJ4
   obtain ⟨hD, hq, hiq⟩ := hI4
   refine W.reg ?_
   refine WO.q (Q.move rfl) rfl ?_
   refine WO.q (Q.bin rfl (oc (v := .int .i64 ((1 : Nat) : Int)) rfl) rfl (bv_add (wna zo))) rfl ?_
   refine WO.q (Q.assign rfl) rfl ?_
   refine WO.nil ?_
   refine End.KL ?_
   refine W.sub (SubS.cons rfl (SubS.cons rfl (SubS.cons rfl (SubS.cons rfl (SubS.nil _))))) (ih0 (q + 1) (op) (mo) ?_ ?_)
   ·exact ⟨hD, by omega⟩
   ·exact zo
  ·skip
   refine W.block ?_
   refine W.seq ?_
   refine W.reg ?_
   refine WO.q (Q.move rfl) rfl ?_
   refine WO.q (Q.move rfl) rfl ?_
   refine WO.indexB hs ud9 rfl rfl zo rfl (fun c16 hd16 hb16 => ?_)
   refine WO.nil ?_
   refine End.K ?_
   refine W.block ?_
   refine W.seq ?_
   refine W.reg ?_
   refine WO.q (Q.bin rfl (oc (v := .int .u8 ((92 : Nat) : Int)) rfl) rfl (bv_eql eq_nat)) rfl ?_
   refine WO.q (Q.assign rfl) rfl ?_
   refine WO.nil ?_
   refine End.K ?_
   refine W.cD rfl (fun hc17 => ?_) (fun hc17 => ?_)
   ·skip -- L0TT
    refine W.reg ?_
    refine WO.q (Q.move rfl) rfl ?_
    refine WO.q (Q.bin rfl (oc (v := .int .i64 ((1 : Nat) : Int)) rfl) rfl (bv_add (wna zo))) rfl ?_
    refine WO.q (Q.assign rfl) rfl ?_
    refine WO.nil ?_
    refine End.KB (End.KB (End.K (W.sub (SubS.cons rfl (SubS.cons rfl (SubS.cons rfl (SubS.cons rfl (SubS.nil _))))) (hJ4 (_) (_) (_) ?_))))
    exact ⟨hD.at_esc (by omega) (by omega), by omega, by omega⟩
   ·skip -- L0TF
    refine W.seq ?_
    refine W.reg ?_
    refine WO.q (Q.bin rfl (oc (v := .int .u8 ((91 : Nat) : Int)) rfl) rfl (bv_eql eq_nat)) rfl ?_
    refine WO.q (Q.assign rfl) rfl ?_
    refine WO.nil ?_
    refine End.K ?_
    refine W.cD rfl (fun hc21 => ?_) (fun hc21 => ?_)
    ·skip -- L0TFT
     obtain ⟨m, hm, hD2⟩ := hD.at_cls (by omega) (by omega)
     have hcm : clsEnd p i = i + 1 + m := (by unfold clsEnd; rw [hm]; rfl)
     have hml := classL_len hm
     simp only [List.length_drop] at hml
     refine W.seq ?_
     refine W.reg ?_
     refine WO.q (Q.move rfl) rfl ?_
     refine WO.q (Q.move rfl) rfl ?_
     refine WO.callE rfl (oLc rfl (oLc rfl (oLc (oc (v := .int .u8 ((0 : Nat) : Int)) rfl) oz))) rfl (class_spec _ hs (by omega) _ (by omega) _ (by omega)) SubR.nil rfl (fun v26 hP26 => ?_)
     obtain ⟨h26, rfl⟩ := hP26
     refine WO.q (Q.move rfl) rfl ?_
     refine WO.q (Q.extract rfl rfl) rfl ?_
     refine WO.q (Q.extract rfl rfl) rfl ?_
     refine WO.q (Q.assign rfl) rfl ?_
     refine WO.q (Q.assign rfl) rfl ?_
     refine WO.nil ?_
     refine End.K ?_
     refine W.sub (SubS.cons (k := 6) rfl (SubS.cons (k := 0) rfl (SubS.cons (k := 3) rfl (SubS.cons (k := 4) rfl (SubS.nil _))))) ?_
     refine W.reg ?_
     refine WO.q (Q.move rfl) rfl ?_
     refine WO.q (Q.bin rfl (oc (v := .int .i64 ((1 : Nat) : Int)) rfl) rfl (bv_sub (wns zo))) rfl ?_
     refine WO.q (Q.assign rfl) rfl ?_
     refine WO.nil ?_
     refine End.KB (End.KB (End.K (W.sub (SubS.cons rfl (SubS.cons rfl (SubS.cons rfl (SubS.cons rfl (SubS.nil _))))) (hJ4 (_) (_) (_) ?_))))
     exact ⟨by rw [hcm, show i + 1 + m - 1 + 1 = i + (1 + m) from by omega]; exact hD2, by omega, by omega⟩
    ·skip -- L0TFF
     refine W.seq ?_
     refine W.reg ?_
     refine WO.q (Q.bin rfl (oc (v := .int .u8 ((40 : Nat) : Int)) rfl) rfl (bv_eql eq_nat)) rfl ?_
     refine WO.q (Q.assign rfl) rfl ?_
     refine WO.nil ?_
     refine End.K ?_
     refine W.cD rfl (fun hc31 => ?_) (fun hc31 => ?_)
     ·skip -- L0TFFT
      refine W.seq ?_
      refine W.reg ?_
      refine WO.q (Q.move rfl) rfl ?_
      refine WO.q (Q.bin rfl (oc (v := .int .i64 ((1 : Nat) : Int)) rfl) rfl (bv_add rfl)) rfl ?_
      refine WO.q (Q.assign rfl) rfl ?_
      refine WO.nil ?_
      refine End.K ?_
      refine W.sub (SubS.cons (k := 3) rfl (SubS.cons (k := 0) rfl (SubS.cons (k := 4) rfl (SubS.cons (k := 5) rfl (SubS.nil _))))) ?_
      refine W.reg ?_
      refine WO.q (Q.move rfl) rfl ?_
      refine WO.q (Q.move rfl) rfl ?_
      refine WO.q (Q.minmax true (oLc rfl (oLc rfl oz)) mm_maxI) rfl ?_
      refine WO.q (Q.assign rfl) rfl ?_
      refine WO.nil ?_
      refine End.KB (End.KB (End.K (W.sub (SubS.cons rfl (SubS.cons rfl (SubS.cons rfl (SubS.cons rfl (SubS.nil _))))) (hJ4 (_) (_) (_) ?_))))
      exact ⟨hD.at_oth (by omega) (by omega) (by omega), by omega, by omega⟩
     ·skip -- L0TFFF
      refine W.seq ?_
      refine W.reg ?_
      refine WO.q (Q.bin rfl (oc (v := .int .u8 ((41 : Nat) : Int)) rfl) rfl (bv_eql eq_nat)) rfl ?_
      refine WO.q (Q.assign rfl) rfl ?_
      refine WO.nil ?_
      refine End.K ?_
      refine W.sub (SubS.cons (k := 38) rfl (SubS.cons (k := 0) rfl (SubS.cons (k := 3) rfl (SubS.cons (k := 4) rfl (SubS.cons (k := 5) rfl (SubS.nil _)))))) ?_
      refine W.cD rfl (fun hc38 => ?_) (fun hc38 => ?_)
      ·skip -- L0TFFFT
       refine W.reg ?_
       refine WO.q (Q.move rfl) rfl ?_
       refine WO.q (Q.bin rfl (oc (v := .int .i64 ((1 : Nat) : Int)) rfl) rfl (bv_sub rfl)) rfl ?_
       refine WO.q (Q.assign rfl) rfl ?_
       refine WO.nil ?_
       refine End.KB (End.KB (End.K (W.sub (SubS.cons rfl (SubS.cons rfl (SubS.cons rfl (SubS.cons rfl (SubS.nil _))))) (hJ4 (_) (_) (_) ?_))))
       exact ⟨hD.at_oth (by omega) (by omega) (by omega), by omega, by omega⟩
      ·skip -- L0TFFFF
       refine W.skip ?_
       refine End.KB (End.KB (End.K (W.sub (SubS.cons rfl (SubS.cons rfl (SubS.cons rfl (SubS.cons rfl (SubS.nil _))))) (hJ4 (_) (_) (_) ?_))))
       exact ⟨hD.at_oth (by omega) (by omega) (by omega), by omega, by omega⟩
 ·skip -- L0F
  refine W.exit ?_
  refine End.Kx (End.Lx (End.Bh (End.K ?_)))
  refine W.seq ?_
  refine W.reg ?_
  refine WO.q (Q.move rfl) rfl ?_
  refine WO.q (Q.assign rfl) rfl ?_
  refine WO.nil ?_
  refine End.K ?_
  refine W.ret ?_
  refine End.retE (ResL.tmp rfl ResL.nil) ?_
  exact ⟨_, rfl⟩

theorem rcheck_spec (p : List Nat) (hs : Bytes p) (hl : p.length ≤ 1048576) : Spec tab 127 [.str p] [] [] (ValE (fun v => ∃ x : Int, v = .int .i64 x ∧ (x = 0 → p.length ≤ 64 ∧ rightF 100 p = true))) := by
 refine Spec.en (ftg 127 Tryz.func127) rfl (m := 12) rfl (rs := [.tmp 2]) rfl (st := [(0, .str p)]) rfl rfl (fun _ => rfl) (fun E => ?_)
 refine W.seq ?_
 refine W.reg ?_
 refine WO.q (Q.assign (oc (v := .int .i64 ((0 : Nat) : Int)) rfl)) rfl ?_
 refine WO.nil ?_
 refine End.K ?_
 refine W.seq ?_
 refine W.seq ?_
 refine W.reg ?_
 refine WO.q (Q.move rfl) rfl ?_
 refine WO.q (Q.len ud9 rfl rfl) rfl ?_
 refine WO.q (Q.bin rfl (oc (v := .int .i64 ((64 : Nat) : Int)) rfl) rfl (bv_gtr ltn)) rfl ?_
 refine WO.nil ?_
 refine End.K ?_
 refine W.cD rfl (fun hc5 => ?_) (fun hc5 => ?_)
 ·skip -- T
  refine W.seq ?_
  refine W.reg ?_
  refine WO.q (Q.assign (oc (v := .int .i64 ((3 : Nat) : Int)) rfl)) rfl ?_
  refine WO.nil ?_
  refine End.K ?_
  refine W.ret ?_
  refine End.Kr (End.retE (ResL.tmp rfl ResL.nil) ?_)
  exact ⟨3, rfl, fun h => absurd h (by decide)⟩
 ·skip -- F
  refine W.skip ?_
  refine End.K ?_
  refine W.seq ?_
  refine W.seq ?_
  refine W.reg ?_
  refine WO.q (Q.move rfl) rfl ?_
  refine WO.cV rfl (oLc rfl oz) rfl (right_is 100 p hs (by omega) (by omega)) SubR.nil rfl ?_
  refine WO.q (Q.not rfl rfl) rfl ?_
  refine WO.nil ?_
  refine End.K ?_
  refine W.condS rfl (fun hc8 => ?_) (fun hc8 => ?_)
  ·skip -- FT
   refine W.seq ?_
   refine W.reg ?_
   refine WO.q (Q.assign (oc (v := .int .i64 ((14 : Nat) : Int)) rfl)) rfl ?_
   refine WO.nil ?_
   refine End.K ?_
   refine W.ret ?_
   refine End.Kr (End.retE (ResL.tmp rfl ResL.nil) ?_)
   exact ⟨14, rfl, fun h => absurd h (by decide)⟩
  ·skip -- FF
   refine W.skip ?_
   refine End.K ?_
   refine W.seq ?_
   refine W.seq ?_
   refine W.reg ?_
   refine WO.q (Q.move rfl) rfl ?_
   refine WO.callE rfl (oLc rfl oz) rfl (depth_spec p hs (by omega) (right_dep (by simpa using hc8))) SubR.nil rfl (fun v10 hP10 => ?_)
   obtain ⟨x10, rfl⟩ := hP10
   refine WO.q (Q.bin rfl (oc (v := .int .i64 ((8 : Nat) : Int)) rfl) rfl (bv_gtr (ltA_eq _ _))) rfl ?_
   refine WO.nil ?_
   refine End.K ?_
   refine W.cD rfl (fun hc11 => ?_) (fun hc11 => ?_)
   ·skip -- FFT
    refine W.seq ?_
    refine W.reg ?_
    refine WO.q (Q.assign (oc (v := .int .i64 ((15 : Nat) : Int)) rfl)) rfl ?_
    refine WO.nil ?_
    refine End.K ?_
    refine W.ret ?_
    refine End.Kr (End.retE (ResL.tmp rfl ResL.nil) ?_)
    exact ⟨15, rfl, fun h => absurd h (by decide)⟩
   ·skip -- FFF
    refine W.skip ?_
    refine End.K ?_
    refine W.seq ?_
    refine W.reg ?_
    refine WO.q (Q.assign (oc (v := .int .i64 ((0 : Nat) : Int)) rfl)) rfl ?_
    refine WO.nil ?_
    refine End.K ?_
    refine W.ret ?_
    refine End.retE (ResL.tmp rfl ResL.nil) ?_
    exact ⟨0, rfl, fun _ => ⟨by omega, by simpa using hc8⟩⟩
theorem take_getD {l : List Nat} {m j : Nat} (h : j < m) : (l.take m).getD j 0 = l.getD j 0 := by
 rw [List.getD_eq_getElem?_getD, List.getD_eq_getElem?_getD, List.getElem?_take, if_pos h]
theorem take_ne {l : List Nat} {m : Nat} (h0 : l ≠ []) (h : 0 < m) : l.take m ≠ [] := by
 intro e
 have := congrArg List.length e
 have hp : 0 < l.length := List.length_pos_iff.2 h0
 rw [List.length_take, List.length_nil] at this
 omega
theorem clsF_loc : ∀ {k : Nat} {ne : Bool} {l : List Nat} {n m : Nat}, clsF k ne l = some n → n ≤ m → clsF k ne (l.take m) = some n
 | 0, _, _, _, _, h, _ => by simp [clsF] at h
 | k + 1, ne, l, n, m, h, hm => by
  have hn := clsF_len h
  unfold clsF at h ⊢
  by_cases h0 : l = []
  ·rw [if_pos h0] at h; exact absurd h (by simp)
  rw [if_neg h0] at h
  rw [if_neg (take_ne h0 (by omega)), take_getD (by omega)]
  by_cases h1 : l.getD 0 0 = 93
  ·rw [if_pos h1] at h ⊢
   exact h
  rw [if_neg h1] at h ⊢
  by_cases h2 : itemB (l.getD 0 0) = false
  ·rw [if_pos h2] at h; exact absurd h (by simp)
  rw [if_neg h2] at h ⊢
  by_cases h3 : 1 < l.length ∧ l.getD 1 0 = 45
  ·rw [if_pos h3] at h
   by_cases h4 : 3 ≤ l.length ∧ itemB (l.getD 2 0) = true ∧ l.getD 0 0 ≤ l.getD 2 0
   ·rw [if_pos h4] at h
    obtain ⟨q, hq, rfl⟩ := Option.map_eq_some_iff.1 h
    rw [if_pos ⟨by rw [List.length_take]; omega, by rw [take_getD (by omega)]; exact h3.2⟩, if_pos ⟨by rw [List.length_take]; omega, by rw [take_getD (by omega)]; exact h4.2.1, by rw [take_getD (by omega)]; exact h4.2.2⟩,
     List.drop_take, clsF_loc hq (by omega)]
    rfl
   ·rw [if_neg h4] at h; exact absurd h (by simp)
  ·rw [if_neg h3] at h
   obtain ⟨q, hq, rfl⟩ := Option.map_eq_some_iff.1 h
   have hq1 := (clsF_len hq).1
   rw [if_neg (fun g => h3 ⟨by have := g.1; rw [List.length_take] at this; omega, by have := g.2; rw [take_getD (by omega)] at this; exact this⟩), List.drop_take, clsF_loc hq (by omega)]
   rfl
theorem classL_loc {l : List Nat} {n m : Nat} (h : classL l = some n) (hm : n ≤ m) : classL (l.take m) = some n := by
 have hn := classL_len h
 have h0 : l ≠ [] := by intro e; subst e; simp at hn; omega
 unfold classL at h ⊢
 by_cases h1 : l ≠ [] ∧ l.getD 0 0 = 94
 ·rw [if_pos h1] at h
  rw [if_pos ⟨take_ne h0 (by omega), by rw [take_getD (by omega)]; exact h1.2⟩]
  obtain ⟨q, hq, rfl⟩ := Option.map_eq_some_iff.1 h
  rw [List.drop_take, clsF_loc hq (by omega)]
  rfl
 ·rw [if_neg h1] at h
  rw [if_neg (fun g => h1 ⟨h0, by have := g.2; rw [take_getD (by omega)] at this; exact this⟩)]
  exact clsF_loc h hm
theorem cloF_loc : ∀ {k o : Nat} {l : List Nat} {n m : Nat}, cloF k o l = some n → n < m → cloF k o (l.take m) = some n
 | 0, _, _, _, _, h, _ => by simp [cloF] at h
 | k + 1, o, l, n, m, h, hm => by
  have hn := cloF_len h
  unfold cloF at h ⊢
  by_cases h0 : l = []
  ·rw [if_pos h0] at h; exact absurd h (by simp)
  rw [if_neg h0] at h
  rw [if_neg (take_ne h0 (by omega)), take_getD (by omega)]
  by_cases h1 : l.getD 0 0 = 92
  ·rw [if_pos h1] at h ⊢
   obtain ⟨q, hq, rfl⟩ := Option.map_eq_some_iff.1 h
   rw [List.drop_take, cloF_loc hq (by omega)]
   rfl
  rw [if_neg h1] at h ⊢
  by_cases h2 : l.getD 0 0 = 91
  ·rw [if_pos h2] at h ⊢
   cases e : classL (l.drop 1) with
   | none => rw [e] at h; exact absurd h (by simp)
   | some w =>
    rw [e] at h
    obtain ⟨q, hq, rfl⟩ := Option.map_eq_some_iff.1 h
    rw [List.drop_take, classL_loc e (by omega)]
    simp only
    rw [List.drop_take, cloF_loc hq (by omega)]
    rfl
  rw [if_neg h2] at h ⊢
  by_cases h3 : l.getD 0 0 = 40
  ·rw [if_pos h3] at h ⊢
   obtain ⟨q, hq, rfl⟩ := Option.map_eq_some_iff.1 h
   rw [List.drop_take, cloF_loc hq (by omega)]
   rfl
  rw [if_neg h3] at h ⊢
  by_cases h4 : l.getD 0 0 = 41
  ·rw [if_pos h4] at h ⊢
   by_cases h5 : o = 1
   ·rw [if_pos h5] at h ⊢
    exact h
   ·rw [if_neg h5] at h ⊢
    obtain ⟨q, hq, rfl⟩ := Option.map_eq_some_iff.1 h
    rw [List.drop_take, cloF_loc hq (by omega)]
    rfl
  ·rw [if_neg h4] at h ⊢
   obtain ⟨q, hq, rfl⟩ := Option.map_eq_some_iff.1 h
   rw [List.drop_take, cloF_loc hq (by omega)]
   rfl
theorem atom_loc {r : List Nat → Bool} {l : List Nat} {n m : Nat} (h : atomF r l = some n) (hm : n ≤ m) : atomF r (l.take m) = some n := by
 have hn := atomF_len h
 unfold atomF at h ⊢
 by_cases h0 : l = []
 ·rw [if_pos h0] at h; exact absurd h (by simp)
 rw [if_neg h0] at h
 rw [if_neg (take_ne h0 (by omega)), take_getD (by omega)]
 by_cases h1 : l.getD 0 0 = 46 ∨ plainB (l.getD 0 0) = true
 ·rw [if_pos h1] at h ⊢
  exact h
 rw [if_neg h1] at h ⊢
 by_cases h2 : l.getD 0 0 = 92 ∧ 1 < l.length ∧ plainB (l.getD 1 0) = false
 ·rw [if_pos h2] at h
  have := Option.some.inj h
  rw [if_pos ⟨h2.1, by rw [List.length_take]; omega, by rw [take_getD (by omega)]; exact h2.2.2⟩]
  exact h
 rw [if_neg h2] at h
 have h92 : l.getD 0 0 ≠ 92 := by
  intro g
  rw [if_neg (by omega), if_neg (by omega)] at h
  exact absurd h (by simp)
 rw [if_neg (fun g => h92 g.1)]
 by_cases h3 : l.getD 0 0 = 91
 ·rw [if_pos h3] at h ⊢
  obtain ⟨q, hq, rfl⟩ := Option.map_eq_some_iff.1 h
  rw [List.drop_take, classL_loc hq (by omega)]
  rfl
 rw [if_neg h3] at h ⊢
 by_cases h4 : l.getD 0 0 = 40
 ·rw [if_pos h4] at h ⊢
  cases e : cloF 100 0 l with
  | none => rw [e] at h; exact absurd h (by simp)
  | some q =>
   rw [e] at h
   simp only at h
   by_cases h5 : r ((l.drop 1).take (q - 1)) = true
   ·rw [if_pos h5] at h
    have := Option.some.inj h
    rw [cloF_loc e (by omega)]
    simp only
    rw [List.drop_take, List.take_take, show min (q - 1) (m - 1) = q - 1 from by omega, if_pos h5]
    exact h
   ·rw [if_neg h5] at h; exact absurd h (by simp)
 ·rw [if_neg h4] at h; exact absurd h (by simp)
def isM (c : Nat) : Prop := c = 42 ∨ c = 43 ∨ c = 63
inductive Alt (r : List Nat → Bool) : List Nat → Prop
 | nil : Alt r []
 | mark {l : List Nat} {n : Nat} : atomF r l = some n → n < l.length → isM (l.getD n 0) → Alt r (l.drop (n + 1)) → Alt r l
 | bare {l : List Nat} {n : Nat} : atomF r l = some n → ¬ (n < l.length ∧ isM (l.getD n 0)) → Alt r (l.drop n) → Alt r l
theorem cut_alt {r : List Nat → Bool} : ∀ {k : Nat} {cur l : List Nat} {L : List (List Nat)}, cutF r k cur l = some L → ∃ m tail, L = (cur ++ l.take m) :: tail ∧ Alt r (l.take m) ∧ ∀ x ∈ tail, Alt r x
 | 0, _, _, _, h => by simp [cutF] at h
 | k + 1, cur, l, L, h => by
  unfold cutF at h
  by_cases h0 : l = []
  ·rw [if_pos h0] at h
   subst h0
   have := Option.some.inj h
   subst this
   exact ⟨0, [], by simp, .nil, by simp⟩
  rw [if_neg h0] at h
  by_cases h1 : l.getD 0 0 = 124
  ·rw [if_pos h1] at h
   obtain ⟨M, hM, rfl⟩ := Option.map_eq_some_iff.1 h
   obtain ⟨m, tail, rfl, h2, h3⟩ := cut_alt hM
   refine ⟨0, _, by simp; rfl, .nil, ?_⟩
   intro x hx
   rcases List.mem_cons.1 hx with rfl | hx
   ·simpa using h2
   ·exact h3 x hx
  rw [if_neg h1] at h
  cases e : atomF r l with
  | none => rw [e] at h; exact absurd h (by simp)
  | some n =>
   have hn := atomF_len e
   rw [e] at h
   simp only at h
   by_cases g : n < l.length ∧ (l.getD n 0 = 42 ∨ l.getD n 0 = 43 ∨ l.getD n 0 = 63)
   ·rw [if_pos g] at h
    obtain ⟨m, tail, rfl, h2, h3⟩ := cut_alt h
    refine ⟨n + 1 + m, tail, by rw [List.append_assoc, ← List.take_add], ?_, h3⟩
    refine .mark (atom_loc e (by omega)) (by rw [List.length_take]; omega) (by rw [take_getD (by omega)]; exact g.2) ?_
    rw [List.drop_take, show n + 1 + m - (n + 1) = m from by omega]
    exact h2
   ·rw [if_neg g] at h
    obtain ⟨m, tail, rfl, h2, h3⟩ := cut_alt h
    refine ⟨n + m, tail, by rw [List.append_assoc, ← List.take_add], ?_, h3⟩
    refine .bare (atom_loc e (by omega)) (fun g2 => g ⟨by have := g2.1; rw [List.length_take] at this; omega, by
     have h5 := g2.1
     rw [List.length_take] at h5
     have h4 := g2.2
     rw [take_getD (by omega)] at h4
     exact h4⟩) ?_
    rw [List.drop_take, show n + m - n = m from by omega]
    exact h2
end Go.Proofs.YtfkbfnpjggkdmaaGreatDoor.Ev.P7
