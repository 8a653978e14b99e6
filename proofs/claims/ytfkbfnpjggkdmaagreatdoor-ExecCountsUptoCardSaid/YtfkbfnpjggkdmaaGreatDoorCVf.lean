/- Chapter 7, by the document: what a pattern's depth wants. -/
import Derived.Test.YtfkbfnpjggkdmaaGreatDoorCVd
namespace Go.Proofs.YtfkbfnpjggkdmaaGreatDoor.Ev.P7
open Go.RowKit
set_option maxRecDepth 100000
set_option maxHeartbeats 1000000
theorem sw {k : IntKind} {a b : Int} : dh true (.int k a) [.int k b] = some (.int k (if qc a b = true then b else a)) := by
 unfold dh
 simp only [if_true]
 cases qc a b <;> rfl
inductive Dep : List Nat -> Prop
 | nil : Dep []
 | esc {l : List Nat} : l ≠ [] -> l.getD 0 0 = 92 -> Dep (l.drop 2) -> Dep l
 | cls {l : List Nat} {n : Nat} : l ≠ [] -> l.getD 0 0 = 91 -> dx (l.drop 1) = some n -> Dep (l.drop (1 + n)) -> Dep l
 | oth {l : List Nat} : l ≠ [] -> l.getD 0 0 ≠ 92 -> l.getD 0 0 ≠ 91 -> Dep (l.drop 1) -> Dep l
theorem Dep.nilE {l : List Nat} (h : l = []) : Dep l := by subst h; exact .nil
theorem Dep.one {l : List Nat} (h2 : l.getD 0 0 ≠ 92) (h3 : l.getD 0 0 ≠ 91) (h4 : Dep (l.drop 1)) : Dep l := by
 by_cases h : l = []
 ·exact .nilE h
 ·exact .oth h h2 h3 h4
theorem nT {p : List Nat} {i : Nat} (h : i < p.length) : p.drop i ≠ [] := by
 intro e
 have := congrArg List.length e
 simp at this
 omega
theorem Dep.at_esc {p : List Nat} {i : Nat} (h : Dep (p.drop i)) (hi : i < p.length) (hc : p.getD i 0 = 92) : Dep (p.drop (i + 1 + 1)) := by
 have hc' : (p.drop i).getD 0 0 = 92 := by rw [cx]; exact hc
 have hne := nT hi
 generalize hq : p.drop i = l at h hc' hne
 cases h with
 | nil => exact absurd rfl hne
 | esc _ _ g => rw [<- hq, List.drop_drop] at g; exact g
 | cls _ g _ _ => omega
 | oth _ g _ _ => omega
theorem Dep.at_cls {p : List Nat} {i : Nat} (h : Dep (p.drop i)) (hi : i < p.length) (hc : p.getD i 0 = 91) : ∃ n, dx (p.drop (i + 1)) = some n /\ Dep (p.drop (i + (1 + n))) := by
 have hc' : (p.drop i).getD 0 0 = 91 := by rw [cx]; exact hc
 have hne := nT hi
 generalize hq : p.drop i = l at h hc' hne
 cases h with
 | nil => exact absurd rfl hne
 | esc _ g _ => omega
 | @cls _ n _ _ g1 g2 => rw [<- hq, List.drop_drop] at g1 g2; exact ⟨n, g1, g2⟩
 | oth _ _ g _ => omega
theorem Dep.at_oth {p : List Nat} {i : Nat} (h : Dep (p.drop i)) (hi : i < p.length) (h2 : p.getD i 0 ≠ 92) (h3 : p.getD i 0 ≠ 91) : Dep (p.drop (i + 1)) := by
 have h2' : (p.drop i).getD 0 0 ≠ 92 := by rw [cx]; exact h2
 have h3' : (p.drop i).getD 0 0 ≠ 91 := by rw [cx]; exact h3
 have hne := nT hi
 generalize hq : p.drop i = l at h h2' h3' hne
 cases h with
 | nil => exact absurd rfl hne
 | esc _ g _ => exact absurd g h2'
 | cls _ g _ _ => exact absurd g h3'
 | oth _ _ _ g => rw [<- hq, List.drop_drop] at g; exact g
theorem kc : ∀ {k o : Nat} {l : List Nat} {n : Nat}, dk k o l = some n -> Dep (l.drop (n + 1)) -> Dep l
 | 0, _, _, _, h, _ => by simp [dk] at h
 | k + 1, o, l, n, h, hd => by
  unfold dk at h
  by_cases h0 : l = []
  ·exact .nilE h0
  rw [if_neg h0] at h
  by_cases h1 : l.getD 0 0 = 92
  ·rw [if_pos h1] at h
   obtain ⟨m, hm, rfl⟩ := Option.map_eq_some_iff.1 h
   exact .esc h0 h1 (kc hm (by rw [List.drop_drop, show 2 + (m + 1) = m + 2 + 1 from by omega]; exact hd))
  rw [if_neg h1] at h
  by_cases h2 : l.getD 0 0 = 91
  ·rw [if_pos h2] at h
   cases e : dx (l.drop 1) with
   | none => rw [e] at h; exact absurd h (by simp)
   | some q =>
    rw [e] at h
    obtain ⟨m, hm, rfl⟩ := Option.map_eq_some_iff.1 h
    exact .cls h0 h2 e (kc hm (by rw [List.drop_drop, show 1 + q + (m + 1) = m + (1 + q) + 1 from by omega]; exact hd))
  rw [if_neg h2] at h
  have st : ∀ m, dk k (o + 1) (l.drop 1) = some m \/ dk k (o - 1) (l.drop 1) = some m \/ dk k o (l.drop 1) = some m -> m + 1 = n -> Dep l := by
   intro m hm e
   subst e
   have hd' : Dep ((l.drop 1).drop (m + 1)) := by rw [List.drop_drop, show 1 + (m + 1) = m + 1 + 1 from by omega]; exact hd
   refine .oth h0 h1 h2 ?_
   rcases hm with hm | hm | hm
   ·exact kc hm hd'
   ·exact kc hm hd'
   ·exact kc hm hd'
  by_cases h3 : l.getD 0 0 = 40
  ·rw [if_pos h3] at h
   obtain ⟨m, hm, e⟩ := Option.map_eq_some_iff.1 h
   exact st m (.inl hm) e
  rw [if_neg h3] at h
  by_cases h4 : l.getD 0 0 = 41
  ·rw [if_pos h4] at h
   split at h
   ·have := Option.some.inj h
    subst this
    exact .oth h0 h1 h2 hd
   ·obtain ⟨m, hm, e⟩ := Option.map_eq_some_iff.1 h
    exact st m (.inr (.inl hm)) e
  ·rw [if_neg h4] at h
   obtain ⟨m, hm, e⟩ := Option.map_eq_some_iff.1 h
   exact st m (.inr (.inr hm)) e
theorem ui {c : Nat} (h : c = 46 \/ dL c = true) : c ≠ 92 /\ c ≠ 91 := by
 rcases h with rfl | h
 ·exact ⟨by decide, by decide⟩
 ·have := of_decide_eq_true h
  simp at this
  omega
theorem s9 {r : List Nat -> Bool} {l : List Nat} {n : Nat} (h : cG r l = some n) (hd : Dep (l.drop n)) : Dep l := by
 unfold cG at h
 by_cases h0 : l = []
 ·exact .nilE h0
 rw [if_neg h0] at h
 by_cases h1 : l.getD 0 0 = 46 \/ dL (l.getD 0 0) = true
 ·rw [if_pos h1] at h
  have := Option.some.inj h
  subst this
  exact .oth h0 (ui h1).1 (ui h1).2 hd
 rw [if_neg h1] at h
 by_cases h2 : l.getD 0 0 = 92 /\ 1 < l.length /\ dL (l.getD 1 0) = false
 ·rw [if_pos h2] at h
  have := Option.some.inj h
  subst this
  exact .esc h0 h2.1 hd
 rw [if_neg h2] at h
 by_cases h3 : l.getD 0 0 = 91
 ·rw [if_pos h3] at h
  obtain ⟨m, hm, rfl⟩ := Option.map_eq_some_iff.1 h
  exact .cls h0 h3 hm (by rw [Nat.add_comm]; exact hd)
 rw [if_neg h3] at h
 by_cases h4 : l.getD 0 0 = 40
 ·rw [if_pos h4] at h
  cases e : dk 100 0 l with
  | none => rw [e] at h; exact absurd h (by simp)
  | some q =>
   rw [e] at h
   simp only at h
   split at h
   ·have := Option.some.inj h
    subst this
    exact kc e hd
   ·exact absurd h (by simp)
 ·rw [if_neg h4] at h
  exact absurd h (by simp)
theorem nR {r : List Nat -> Bool} : ∀ {k : Nat} {cur l : List Nat} {L : List (List Nat)}, eY r k cur l = some L -> Dep l
 | 0, _, _, _, h => by simp [eY] at h
 | k + 1, cur, l, L, h => by
  unfold eY at h
  by_cases h0 : l = []
  ·exact .nilE h0
  rw [if_neg h0] at h
  by_cases h1 : l.getD 0 0 = 124
  ·rw [if_pos h1] at h
   obtain ⟨M, hM, _⟩ := Option.map_eq_some_iff.1 h
   exact .oth h0 zy zy (nR hM)
  rw [if_neg h1] at h
  cases e : cG r l with
  | none => rw [e] at h; exact absurd h (by simp)
  | some n =>
   rw [e] at h
   simp only at h
   split at h
   ·rename_i g
    have hc : (l.drop n).getD 0 0 = l.getD n 0 := by rw [cx, Nat.add_zero]
    refine s9 e (Dep.one (by rw [hc]; omega) (by rw [hc]; omega) ?_)
    rw [List.drop_drop]
    exact nR h
   ·exact s9 e (nR h)
theorem Aa {d : Nat} {p : List Nat} (h : dm d p = true) : Dep p := by
 cases d with
 | zero => simp [dm] at h
 | succ d =>
  unfold dm at h
  obtain ⟨L, hL⟩ := Option.isSome_iff_exists.1 h
  exact nR hL
theorem ic : ∀ (d : Nat) (p : List Nat), Bytes p -> p.length <= 64 -> p.length < d -> Spec tab 162 [.str p] [] [] (bN (.bool (dm d p)))
 | 0, _, _, _, h => absurd h (Nat.not_lt_zero _)
 | d + 1, p, hs, hl, h => um p hs hl d (ic d) zy
theorem ve (p : List Nat) (hs : Bytes p) (hl : p.length <= 64) (hD : Dep p) : Spec tab 163 [.str p] [] [] (ij (fun v => ∃ x : Int, v = .int .i64 x)) := by
 refine ac (bz 163 Tryz.func163) rfl (m := 43) rfl (rs := [.tmp 2]) rfl (st := [(0, .str p)]) rfl rfl (fun _ => rfl) (fun E => zr (za (zi 0) (zk (zr (za (zi 0) (za (zi 0) (zk (W.seq (zr (za (zi 0) (zk (W.block (bI (fun (i : Nat) (op : Int) (mo : Int) => [(0, .str p), (3, .int .i64 op), (4, .int .i64 mo), (5, .int .i64 ((i : Nat) : Int))]) (fun _ _ _ => _) (fun (i : Nat) (op : Int) (mo : Int) => Dep (p.drop i) /\ i <= p.length + 1) (fun (i : Nat) (op : Int) (mo : Int) => p.length + 1 - i) (0) (0) (0) ⟨hD, by omega⟩ zv (SubH.refl _) (fun i op mo hI0 ih0 => ?_))))))))))))))
 obtain ⟨hD, hi⟩ := hI0
 refine W.seq (zr (zm rfl (zm rfl (zq (Q.len cf rfl rfl) (zq (aa rfl rfl rfl (bu bY)) (zk (aB rfl (fun hc11 => ?_) (fun hc11 => ?_))))))))
 ·refine zw (DD (fun (q : Nat) (op : Int) (mo : Int) => [(0, .str p), (3, .int .i64 op), (4, .int .i64 mo), (5, .int .i64 ((q : Nat) : Int))]) (fun (q : Nat) (op : Int) (mo : Int) => Dep (p.drop (q + 1)) /\ q <= p.length /\ i <= q) (fun q op mo hI4 => ?_) (fun hJ4 => ?_))
  ·obtain ⟨hD, hq, hiq⟩ := hI4
   refine W.reg (zm rfl (zq (aa rfl (zi 1) rfl zp) (za rfl (WO.nil (End.KL (W.sub zv (ih0 (q + 1) (op) (mo) ?_ ?_)))))))
   ·exact ⟨hD, by omega⟩
   exact zo
  refine W.block (zr (zm rfl (zm rfl (aE hs cf rfl rfl zo rfl (fun c16 hd16 hb16 => zk (W.block (zr (zq (aa rfl (zu 92) rfl (ai aG)) (za rfl (zk (aB rfl (fun hc17 => ?_) (fun hc17 => ?_))))))))))))
  ·refine W.reg (zm rfl (zq (aa rfl (zi 1) rfl zp) (za rfl (WO.nil (End.KB (End.KB (End.K (W.sub zv (hJ4 (_) (_) (_) ?_)))))))))
   exact ⟨hD.at_esc zy zy, by omega, by omega⟩
  refine zr (zq (aa rfl (zu 91) rfl (ai aG)) (za rfl (zk (aB rfl (fun hc21 => ?_) (fun hc21 => ?_)))))
  ·obtain ⟨m, hm, hD2⟩ := hD.at_cls zy zy
   have hcm : eE p i = i + 1 + m := (by unfold eE; rw [hm]; rfl)
   have hml := je hm
   simp only [List.length_drop] at hml
   refine zr (zm rfl (zm rfl (WO.callE rfl (aj rfl (aj rfl (aj (zu 0) oz))) rfl (fV _ hs zy _ zy _ zy) SubR.nil rfl (fun v26 hP26 => ?_))))
   obtain ⟨h26, rfl⟩ := hP26
   refine zm rfl (zq (Q.extract rfl rfl) (zq (Q.extract rfl rfl) (za rfl (za rfl (zk (W.sub (zc 6 rfl (zc 0 rfl (zc 3 rfl (zc 4 rfl aI)))) (W.reg (zm rfl (zq (aa rfl (zi 1) rfl (bM (oe zo))) (za rfl (WO.nil (End.KB (End.KB (End.K (W.sub zv (hJ4 (_) (_) (_) ?_))))))))))))))))
   exact ⟨by rw [hcm, show i + 1 + m - 1 + 1 = i + (1 + m) from by omega]; exact hD2, by omega, by omega⟩
  refine zr (zq (aa rfl (zu 40) rfl (ai aG)) (za rfl (zk (aB rfl (fun hc31 => ?_) (fun hc31 => ?_)))))
  ·refine zr (zm rfl (zq (aa rfl (zi 1) rfl (bc rfl)) (za rfl (zk (W.sub (zc 3 rfl (zc 0 rfl (zc 4 rfl (zc 5 rfl aI)))) (W.reg (zm rfl (zm rfl (zq (jD true (aj rfl (aj rfl oz)) sw) (za rfl (WO.nil (End.KB (End.KB (End.K (W.sub zv (hJ4 (_) (_) (_) ?_))))))))))))))))
   exact ⟨hD.at_oth zy zy zy, by omega, by omega⟩
  refine zr (zq (aa rfl (zu 41) rfl (ai aG)) (za rfl (zk (W.sub (zc 38 rfl (zc 0 rfl (zc 3 rfl (zc 4 rfl (zc 5 rfl aI))))) (aB rfl (fun hc38 => ?_) (fun hc38 => ?_))))))
  ·refine W.reg (zm rfl (zq (aa rfl (zi 1) rfl (bM rfl)) (za rfl (WO.nil (End.KB (End.KB (End.K (W.sub zv (hJ4 (_) (_) (_) ?_)))))))))
   exact ⟨hD.at_oth zy zy zy, by omega, by omega⟩
  refine W.skip (End.KB (End.KB (End.K (W.sub zv (hJ4 (_) (_) (_) ?_)))))
  exact ⟨hD.at_oth zy zy zy, by omega, by omega⟩
 refine W.exit (am (aq (ap (End.K (zr (zm rfl (za rfl (zk (W.ret (ar (z1 rfl) ?_))))))))))
 exact ⟨_, rfl⟩

theorem nx (p : List Nat) (hs : Bytes p) (hl : p.length <= 1048576) : Spec tab 127 [.str p] [] [] (ij (fun v => ∃ x : Int, v = .int .i64 x /\ (x = 0 -> p.length <= 64 /\ dm 100 p = true))) := by
 refine ac (bz 127 Tryz.func127) rfl (m := 12) rfl (rs := [.tmp 2]) rfl (st := [(0, .str p)]) rfl rfl (fun _ => rfl) (fun E => zr (za (zi 0) (zk (W.seq (zr (zm rfl (zq (Q.len cf rfl rfl) (zq (aa rfl (zi 64) rfl (aJ bY)) (zk (aB rfl (fun hc5 => ?_) (fun hc5 => ?_)))))))))))
 ·refine zr (za (zi 3) (zk (W.ret (ad (ar (z1 rfl) ?_)))))
  exact ⟨3, rfl, fun h => absurd h (by decide)⟩
 refine zw (W.seq (zr (zm rfl (ak rfl (aj rfl oz) rfl (ic 100 p hs zy zy) SubR.nil rfl (zq (Q.not rfl rfl) (zk (W.condS rfl (fun hc8 => ?_) (fun hc8 => ?_))))))))
 ·refine zr (za (zi 14) (zk (W.ret (ad (ar (z1 rfl) ?_)))))
  exact ⟨14, rfl, fun h => absurd h (by decide)⟩
 refine zw (W.seq (zr (zm rfl (WO.callE rfl (aj rfl oz) rfl (ve p hs zy (Aa (by simpa using hc8))) SubR.nil rfl (fun v10 hP10 => ?_)))))
 obtain ⟨x10, rfl⟩ := hP10
 refine zq (aa rfl (zi 8) rfl (aJ (bS _ _))) (zk (aB rfl (fun hc11 => ?_) (fun hc11 => ?_)))
 ·refine zr (za (zi 15) (zk (W.ret (ad (ar (z1 rfl) ?_)))))
  exact ⟨15, rfl, fun h => absurd h (by decide)⟩
 refine zw (zr (za (zi 0) (zk (W.ret (ar (z1 rfl) ?_)))))
 exact ⟨0, rfl, fun _ => ⟨by omega, by simpa using hc8⟩⟩
theorem cK {l : List Nat} {m j : Nat} (h : j < m) : (l.take m).getD j 0 = l.getD j 0 := by
 rw [List.getD_eq_getElem?_getD, List.getD_eq_getElem?_getD, List.getElem?_take, if_pos h]
theorem n7 {l : List Nat} {m : Nat} (h0 : l ≠ []) (h : 0 < m) : l.take m ≠ [] := by
 intro e
 have := congrArg List.length e
 have hp : 0 < l.length := List.length_pos_iff.2 h0
 rw [List.length_take, List.length_nil] at this
 omega
theorem lA : ∀ {k : Nat} {ne : Bool} {l : List Nat} {n m : Nat}, iJ k ne l = some n -> n <= m -> iJ k ne (l.take m) = some n
 | 0, _, _, _, _, h, _ => by simp [iJ] at h
 | k + 1, ne, l, n, m, h, hm => by
  have hn := iX h
  unfold iJ at h ⊢
  by_cases h0 : l = []
  ·rw [if_pos h0] at h; exact absurd h (by simp)
  rw [if_neg h0] at h
  rw [if_neg (n7 h0 zy), cK zy]
  by_cases h1 : l.getD 0 0 = 93
  ·rw [if_pos h1] at h ⊢
   exact h
  rw [if_neg h1] at h ⊢
  by_cases h2 : gY (l.getD 0 0) = false
  ·rw [if_pos h2] at h; exact absurd h (by simp)
  rw [if_neg h2] at h ⊢
  by_cases h3 : 1 < l.length /\ l.getD 1 0 = 45
  ·rw [if_pos h3] at h
   by_cases h4 : 3 <= l.length /\ gY (l.getD 2 0) = true /\ l.getD 0 0 <= l.getD 2 0
   ·rw [if_pos h4] at h
    obtain ⟨q, hq, rfl⟩ := Option.map_eq_some_iff.1 h
    rw [if_pos ⟨by rw [List.length_take]; omega, by rw [cK zy]; exact h3.2⟩, if_pos ⟨by rw [List.length_take]; omega, by rw [cK zy]; exact h4.2.1, by rw [cK zy]; exact h4.2.2⟩,
     List.drop_take, lA hq zy]
    rfl
   ·rw [if_neg h4] at h; exact absurd h (by simp)
  ·rw [if_neg h3] at h
   obtain ⟨q, hq, rfl⟩ := Option.map_eq_some_iff.1 h
   have hq1 := (iX hq).1
   rw [if_neg (fun g => h3 ⟨by have := g.1; rw [List.length_take] at this; omega, by have := g.2; rw [cK zy] at this; exact this⟩), List.drop_take, lA hq zy]
   rfl
theorem oK {l : List Nat} {n m : Nat} (h : dx l = some n) (hm : n <= m) : dx (l.take m) = some n := by
 have hn := je h
 have h0 : l ≠ [] := by intro e; subst e; simp at hn; omega
 unfold dx at h ⊢
 by_cases h1 : l ≠ [] /\ l.getD 0 0 = 94
 ·rw [if_pos h1] at h
  rw [if_pos ⟨n7 h0 zy, by rw [cK zy]; exact h1.2⟩]
  obtain ⟨q, hq, rfl⟩ := Option.map_eq_some_iff.1 h
  rw [List.drop_take, lA hq zy]
  rfl
 ·rw [if_neg h1] at h
  rw [if_neg (fun g => h1 ⟨h0, by have := g.2; rw [cK zy] at this; exact this⟩)]
  exact lA h hm
theorem iW : ∀ {k o : Nat} {l : List Nat} {n m : Nat}, dk k o l = some n -> n < m -> dk k o (l.take m) = some n
 | 0, _, _, _, _, h, _ => by simp [dk] at h
 | k + 1, o, l, n, m, h, hm => by
  have hn := fg h
  unfold dk at h ⊢
  by_cases h0 : l = []
  ·rw [if_pos h0] at h; exact absurd h (by simp)
  rw [if_neg h0] at h
  rw [if_neg (n7 h0 zy), cK zy]
  by_cases h1 : l.getD 0 0 = 92
  ·rw [if_pos h1] at h ⊢
   obtain ⟨q, hq, rfl⟩ := Option.map_eq_some_iff.1 h
   rw [List.drop_take, iW hq zy]
   rfl
  rw [if_neg h1] at h ⊢
  by_cases h2 : l.getD 0 0 = 91
  ·rw [if_pos h2] at h ⊢
   cases e : dx (l.drop 1) with
   | none => rw [e] at h; exact absurd h (by simp)
   | some w =>
    rw [e] at h
    obtain ⟨q, hq, rfl⟩ := Option.map_eq_some_iff.1 h
    rw [List.drop_take, oK e zy]
    simp only
    rw [List.drop_take, iW hq zy]
    rfl
  rw [if_neg h2] at h ⊢
  by_cases h3 : l.getD 0 0 = 40
  ·rw [if_pos h3] at h ⊢
   obtain ⟨q, hq, rfl⟩ := Option.map_eq_some_iff.1 h
   rw [List.drop_take, iW hq zy]
   rfl
  rw [if_neg h3] at h ⊢
  by_cases h4 : l.getD 0 0 = 41
  ·rw [if_pos h4] at h ⊢
   by_cases h5 : o = 1
   ·rw [if_pos h5] at h ⊢
    exact h
   ·rw [if_neg h5] at h ⊢
    obtain ⟨q, hq, rfl⟩ := Option.map_eq_some_iff.1 h
    rw [List.drop_take, iW hq zy]
    rfl
  ·rw [if_neg h4] at h ⊢
   obtain ⟨q, hq, rfl⟩ := Option.map_eq_some_iff.1 h
   rw [List.drop_take, iW hq zy]
   rfl
theorem tc {r : List Nat -> Bool} {l : List Nat} {n m : Nat} (h : cG r l = some n) (hm : n <= m) : cG r (l.take m) = some n := by
 have hn := fE h
 unfold cG at h ⊢
 by_cases h0 : l = []
 ·rw [if_pos h0] at h; exact absurd h (by simp)
 rw [if_neg h0] at h
 rw [if_neg (n7 h0 zy), cK zy]
 by_cases h1 : l.getD 0 0 = 46 \/ dL (l.getD 0 0) = true
 ·rw [if_pos h1] at h ⊢
  exact h
 rw [if_neg h1] at h ⊢
 by_cases h2 : l.getD 0 0 = 92 /\ 1 < l.length /\ dL (l.getD 1 0) = false
 ·rw [if_pos h2] at h
  have := Option.some.inj h
  rw [if_pos ⟨h2.1, by rw [List.length_take]; omega, by rw [cK zy]; exact h2.2.2⟩]
  exact h
 rw [if_neg h2] at h
 have h92 : l.getD 0 0 ≠ 92 := by
  intro g
  rw [if_neg zy, if_neg zy] at h
  exact absurd h (by simp)
 rw [if_neg (fun g => h92 g.1)]
 by_cases h3 : l.getD 0 0 = 91
 ·rw [if_pos h3] at h ⊢
  obtain ⟨q, hq, rfl⟩ := Option.map_eq_some_iff.1 h
  rw [List.drop_take, oK hq zy]
  rfl
 rw [if_neg h3] at h ⊢
 by_cases h4 : l.getD 0 0 = 40
 ·rw [if_pos h4] at h ⊢
  cases e : dk 100 0 l with
  | none => rw [e] at h; exact absurd h (by simp)
  | some q =>
   rw [e] at h
   simp only at h
   by_cases h5 : r ((l.drop 1).take (q - 1)) = true
   ·rw [if_pos h5] at h
    have := Option.some.inj h
    rw [iW e zy]
    simp only
    rw [List.drop_take, List.take_take, show min (q - 1) (m - 1) = q - 1 from by omega, if_pos h5]
    exact h
   ·rw [if_neg h5] at h; exact absurd h (by simp)
 ·rw [if_neg h4] at h; exact absurd h (by simp)
def Et (c : Nat) : Prop := c = 42 \/ c = 43 \/ c = 63
inductive Alt (r : List Nat -> Bool) : List Nat -> Prop
 | nil : Alt r []
 | mark {l : List Nat} {n : Nat} : cG r l = some n -> n < l.length -> Et (l.getD n 0) -> Alt r (l.drop (n + 1)) -> Alt r l
 | bare {l : List Nat} {n : Nat} : cG r l = some n -> ¬ (n < l.length /\ Et (l.getD n 0)) -> Alt r (l.drop n) -> Alt r l
theorem nQ {r : List Nat -> Bool} : ∀ {k : Nat} {cur l : List Nat} {L : List (List Nat)}, eY r k cur l = some L -> ∃ m tail, L = (cur ++ l.take m) :: tail /\ Alt r (l.take m) /\ ∀ x ∈ tail, Alt r x
 | 0, _, _, _, h => by simp [eY] at h
 | k + 1, cur, l, L, h => by
  unfold eY at h
  by_cases h0 : l = []
  ·rw [if_pos h0] at h
   subst h0
   have := Option.some.inj h
   subst this
   exact ⟨0, [], by simp, .nil, by simp⟩
  rw [if_neg h0] at h
  by_cases h1 : l.getD 0 0 = 124
  ·rw [if_pos h1] at h
   obtain ⟨M, hM, rfl⟩ := Option.map_eq_some_iff.1 h
   obtain ⟨m, tail, rfl, h2, h3⟩ := nQ hM
   refine ⟨0, _, by simp; rfl, .nil, ?_⟩
   intro x hx
   rcases List.mem_cons.1 hx with rfl | hx
   ·simpa using h2
   ·exact h3 x hx
  rw [if_neg h1] at h
  cases e : cG r l with
  | none => rw [e] at h; exact absurd h (by simp)
  | some n =>
   have hn := fE e
   rw [e] at h
   simp only at h
   by_cases g : n < l.length /\ (l.getD n 0 = 42 \/ l.getD n 0 = 43 \/ l.getD n 0 = 63)
   ·rw [if_pos g] at h
    obtain ⟨m, tail, rfl, h2, h3⟩ := nQ h
    refine ⟨n + 1 + m, tail, by rw [List.append_assoc, <- List.take_add], ?_, h3⟩
    refine .mark (tc e zy) (by rw [List.length_take]; omega) (by rw [cK zy]; exact g.2) ?_
    rw [List.drop_take, show n + 1 + m - (n + 1) = m from by omega]
    exact h2
   ·rw [if_neg g] at h
    obtain ⟨m, tail, rfl, h2, h3⟩ := nQ h
    refine ⟨n + m, tail, by rw [List.append_assoc, <- List.take_add], ?_, h3⟩
    refine .bare (tc e zy) (fun g2 => g ⟨by have := g2.1; rw [List.length_take] at this; omega, by
     have h5 := g2.1
     rw [List.length_take] at h5
     have h4 := g2.2
     rw [cK zy] at h4
     exact h4⟩) ?_
    rw [List.drop_take, show n + m - n = m from by omega]
    exact h2
end Go.Proofs.YtfkbfnpjggkdmaaGreatDoor.Ev.P7
