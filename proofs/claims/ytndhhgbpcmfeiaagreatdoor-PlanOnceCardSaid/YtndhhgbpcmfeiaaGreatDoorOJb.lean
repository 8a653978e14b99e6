/- Chapter 20, walks: nodes without parts, compared. -/
import Derived.Test.YtndhhgbpcmfeiaaGreatDoorOHe
namespace Go.Proofs.YtndhhgbpcmfeiaaGreatDoor.Ev
open Go.RowKit
set_option maxRecDepth 100000
set_option maxHeartbeats 1000000
theorem px {α : Type} {A B : List α} (h : A.length = B.length) (g : ∀ j, j < A.length -> A[j]? = B[j]?) : A = B := by
 apply List.ext_getElem?
 intro j
 rcases Nat.lt_or_ge j A.length with q | q
 ·exact g j q
 ·rw [List.getElem?_eq_none q, List.getElem?_eq_none zy]
theorem Fj {m m' : Mt} : co aN .neq 91 (.agg (mC m)) (.agg (mC m')) = some (.bool (decide (m ≠ m'))) := by
 obtain ⟨k, a, b⟩ := m
 obtain ⟨k', a', b'⟩ := m'
 show (match kp aN 91 (.agg [.int .i64 k, .str a, .str b]) (.agg [.int .i64 k', .str a', .str b']) with
  | some b => some (AV.bool (!b))
  | none => none) = _
 have e : kp aN 91 (.agg [.int .i64 k, .str a, .str b]) (.agg [.int .i64 k', .str a', .str b']) = (match oG k k' with | true => (match dL a a' with | true => (match dL b b' with | true => some true | false => some false) | false => some false) | false => some false) := by kernel_rfl
 rw [e, bj, pg, pg]
 by_cases h1 : k = k' <;> by_cases h2 : a = a' <;> by_cases h3 : b = b' <;> simp [h1, h2, h3]

theorem Ck (hs : ak) (hro : ∀ e ∈ hs, e.w = false) (A B : List Mt) (va vb : AV) (hA : RIn hs 3 A.length (cM A) va) (hB : RIn hs 3 B.length (cM B) vb) (hAl : A.length <= 1048576) (hBl : B.length <= 1048576) (bA : DI A) (bB : DI B) : Spec aN 81 [va, vb] [] hs (fJ (.bool (decide (A = B)))) := by
 refine av (cX 81 Tryz.func81) rfl (m := 26) rfl (rs := [.tmp 4]) rfl (st := [(0, va), (1, vb)]) rfl rfl (fun _ => rfl) (fun E => zr (za rfl (zk (W.seq (zr (zm rfl (zq (Q.len jh rfl hA.len) (zm rfl (zq (Q.len jh rfl hB.len) (zq (aa rfl rfl rfl (aR cf)) (zk (aw rfl (fun hc10 => ?_) (fun hc10 => ?_)))))))))))))
 ·refine zr (za rfl (zk (W.ret (ac (ae (z1 rfl) ?_)))))
  exact congrArg AV.bool (decide_eq_false (fun e => by subst e; simp_all)).symm
 refine zw (W.seq (zr (zm rfl (zq (Q.len jh rfl hA.len) (zq (Q.move (zi 0)) (zk (W.block (aM (fun (i : Nat) => [(0, va), (1, vb), (12, .int .i64 ((A.length : Nat) : Int)), (13, .int .i64 ((i : Nat) : Int))]) (fun (i : Nat) => hs) (fun (i : Nat) => i <= A.length /\ ∀ j, j < i -> A[j]? = B[j]?) (fun (i : Nat) => A.length - i) (0) ⟨Nat.zero_le _, fun j h => absurd h (Nat.not_lt_zero _)⟩ zv (SubH.refl _) (fun i hI0 ih0 => ?_)))))))))
 obtain ⟨h1, hq⟩ := hI0
 refine zr (zq (aa rfl rfl rfl (ec dM)) (zk (W.seq (aw rfl (fun hc14 => ?_) (fun hc14 => ?_)))))
 ·obtain ⟨ba, sza, exa, rfl, wa_, ma⟩ := hA.full zy
  obtain ⟨bb, szb, exb, rfl, wb_, mb⟩ := hB.full zy
  refine zw (W.seq (W.block (zr (zm rfl (za rfl (zk (W.seq (dz (by kernel_rfl) (zm rfl (zm rfl (zq (ci jh eA rfl rfl zo) (zq (aU rfl ma iE eA (ya zo)) (zm rfl (zm rfl (zq (ci jh eA rfl rfl zo) (zq (aU rfl mb iE eA (ya zo)) (zq (aa rfl rfl rfl Fj) (zk (aw rfl (fun hc24 => ?_) (fun hc24 => ?_))))))))))))))))))))
  ·refine zr (za rfl (zk (W.sub (zc 4 rfl aI) (W.ret (ad (ac (bE (ad (ac (ae (z1 rfl) ?_))))))))))
   exact congrArg AV.bool (decide_eq_false (fun e => by subst e; simp_all)).symm
  refine W.skip (End.KB (End.K (am (zq (aa rfl (zi 1) rfl zp) (zm rfl (WO.nil (End.KL (W.sub zv (bX (SubH.refl _) (ih0 (i + 1) ?_ ?_))))))))))
  ·exact ⟨by omega, fun j hj => by rcases Nat.lt_or_ge j i with q | q; exact hq j q; obtain rfl : j = i := zy; rw [uj zy, uj zy]; simp_all⟩
  exact zo
 refine W.exit (aC (aK (aB (End.K (zr (za rfl (zk (W.ret (ae (z1 rfl) ?_)))))))))
 exact congrArg AV.bool (decide_eq_true (px zy fun j hj => hq j zy)).symm

theorem C1 (hs : ak) (hro : ∀ e ∈ hs, e.w = false) (A B : List (List Nat)) (va vb : AV) (hA : RIn hs 1 A.length (cS A) va) (hB : RIn hs 1 B.length (cS B) vb) (hAl : A.length <= 2097152) (hBl : B.length <= 2097152) (bA : DL A) (bB : DL B) : Spec aN 82 [va, vb] [] hs (fJ (.bool (decide (A = B)))) := by
 refine av (cX 82 Tryz.func82) rfl (m := 26) rfl (rs := [.tmp 4]) rfl (st := [(0, va), (1, vb)]) rfl rfl (fun _ => rfl) (fun E => zr (za rfl (zk (W.seq (zr (zm rfl (zq (Q.len dk rfl hA.len) (zm rfl (zq (Q.len dk rfl hB.len) (zq (aa rfl rfl rfl (aR cf)) (zk (aw rfl (fun hc10 => ?_) (fun hc10 => ?_)))))))))))))
 ·refine zr (za rfl (zk (W.ret (ac (ae (z1 rfl) ?_)))))
  exact congrArg AV.bool (decide_eq_false (fun e => by subst e; simp_all)).symm
 refine zw (W.seq (zr (zm rfl (zq (Q.len dk rfl hA.len) (zq (Q.move (zi 0)) (zk (W.block (aM (fun (i : Nat) => [(0, va), (1, vb), (12, .int .i64 ((A.length : Nat) : Int)), (13, .int .i64 ((i : Nat) : Int))]) (fun (i : Nat) => hs) (fun (i : Nat) => i <= A.length /\ ∀ j, j < i -> A[j]? = B[j]?) (fun (i : Nat) => A.length - i) (0) ⟨Nat.zero_le _, fun j h => absurd h (Nat.not_lt_zero _)⟩ zv (SubH.refl _) (fun i hI0 ih0 => ?_)))))))))
 obtain ⟨h1, hq⟩ := hI0
 refine zr (zq (aa rfl rfl rfl (ec dM)) (zk (W.seq (aw rfl (fun hc14 => ?_) (fun hc14 => ?_)))))
 ·obtain ⟨ba, sza, exa, rfl, wa_, ma⟩ := hA.full zy
  obtain ⟨bb, szb, exb, rfl, wb_, mb⟩ := hB.full zy
  refine zw (W.seq (W.block (zr (zm rfl (za rfl (zk (W.seq (dz (by kernel_rfl) (zm rfl (zm rfl (zq (ci dk kb rfl rfl zo) (zq (ap rfl ma fW (yb zo)) (zm rfl (zm rfl (zq (ci dk kb rfl rfl zo) (zq (ap rfl mb fW (yb zo)) (zq (aa rfl rfl rfl iK) (zk (aw rfl (fun hc24 => ?_) (fun hc24 => ?_))))))))))))))))))))
  ·refine zr (za rfl (zk (W.sub (zc 4 rfl aI) (W.ret (ad (ac (bE (ad (ac (ae (z1 rfl) ?_))))))))))
   exact congrArg AV.bool (decide_eq_false (fun e => by subst e; simp_all)).symm
  refine W.skip (End.KB (End.K (am (zq (aa rfl (zi 1) rfl zp) (zm rfl (WO.nil (End.KL (W.sub zv (bX (SubH.refl _) (ih0 (i + 1) ?_ ?_))))))))))
  ·exact ⟨by omega, fun j hj => by rcases Nat.lt_or_ge j i with q | q; exact hq j q; obtain rfl : j = i := zy; rw [uN zy, uN zy]; simp_all⟩
  exact zo
 refine W.exit (aC (aK (aB (End.K (zr (za rfl (zk (W.ret (ae (z1 rfl) ?_)))))))))
 exact congrArg AV.bool (decide_eq_true (px zy fun j hj => hq j zy)).symm

theorem Am (hs : ak) (hro : ∀ e ∈ hs, e.w = false) (A B : List Int) (va vb : AV) (hA : RIn hs 1 A.length (cA A) va) (hB : RIn hs 1 B.length (cA B) vb) (hAl : A.length <= 1048576) (hBl : B.length <= 1048576) : Spec aN 52 [va, vb] [] hs (fJ (.bool (decide (A = B)))) := by
 refine av (cX 52 Tryz.func52) rfl (m := 26) rfl (rs := [.tmp 4]) rfl (st := [(0, va), (1, vb)]) rfl rfl (fun _ => rfl) (fun E => zr (za rfl (zk (W.seq (zr (zm rfl (zq (Q.len bc rfl hA.len) (zm rfl (zq (Q.len bc rfl hB.len) (zq (aa rfl rfl rfl (aR cf)) (zk (aw rfl (fun hc10 => ?_) (fun hc10 => ?_)))))))))))))
 ·refine zr (za rfl (zk (W.ret (ac (ae (z1 rfl) ?_)))))
  exact congrArg AV.bool (decide_eq_false (fun e => by subst e; simp_all)).symm
 refine zw (W.seq (zr (za (zi 0) (zk (W.block (aM (fun (i : Nat) => [(0, va), (1, vb), (5, .int .i64 ((i : Nat) : Int))]) (fun (i : Nat) => hs) (fun (i : Nat) => i <= A.length /\ ∀ j, j < i -> A[j]? = B[j]?) (fun (i : Nat) => A.length - i) (0) ⟨Nat.zero_le _, fun j h => absurd h (Nat.not_lt_zero _)⟩ zv (SubH.refl _) (fun i hI0 ih0 => ?_)))))))
 obtain ⟨h1, hq⟩ := hI0
 refine W.seq (zr (zm rfl (zm rfl (zq (Q.len bc rfl hA.len) (zq (aa rfl rfl rfl (ec dM)) (zk (aw rfl (fun hc14 => ?_) (fun hc14 => ?_))))))))
 ·obtain ⟨ba, sza, exa, rfl, wa_, ma⟩ := hA.full zy
  obtain ⟨bb, szb, exb, rfl, wb_, mb⟩ := hB.full zy
  refine zw (W.seq (W.block (W.seq (dz (by kernel_rfl) (zm rfl (zm rfl (zq (ci bc di rfl rfl zo) (zq (ap rfl ma bU (o6 zo)) (zm rfl (zm rfl (zq (ci bc di rfl rfl zo) (zq (ap rfl mb bU (o6 zo)) (zq (aa rfl rfl rfl (aR cP)) (zk (aw rfl (fun hc25 => ?_) (fun hc25 => ?_))))))))))))))))
  ·refine zr (za rfl (zk (W.sub (zc 4 rfl aI) (W.ret (ad (ac (bE (ad (ac (ae (z1 rfl) ?_))))))))))
   exact congrArg AV.bool (decide_eq_false (fun e => by subst e; simp_all)).symm
  refine W.skip (End.KB (End.K (am (zm rfl (zq (aa rfl (zi 1) rfl zp) (za rfl (WO.nil (End.KL (W.sub zv (bX (SubH.refl _) (ih0 (i + 1) ?_ ?_)))))))))))
  ·exact ⟨by omega, fun j hj => by rcases Nat.lt_or_ge j i with q | q; exact hq j q; obtain rfl : j = i := zy; rw [jo zy, jo zy]; simp_all⟩
  exact zo
 refine W.exit (aC (aK (aB (End.K (zr (za rfl (zk (W.ret (ae (z1 rfl) ?_)))))))))
 exact congrArg AV.bool (decide_eq_true (px zy fun j hj => hq j zy)).symm

theorem Ed (hs : ak) (hro : ∀ e ∈ hs, e.w = false) (vk vk' : AV) (hk : KLn vk 0) (hk' : KLn vk' 0) (F : AV) : Spec aN 83 [vk, vk', F] [] hs (fJ (.bool true)) := by
 refine av (cX 83 Tryz.func83) rfl (m := 32) rfl (rs := [.tmp 6]) rfl (st := [(0, vk), (1, vk'), (2, F)]) rfl rfl (fun _ => rfl) (fun E => zr (za rfl (zk (W.seq (zr (zm rfl (zq (Q.len ke rfl hk.len) (zm rfl (zq (Q.len ke rfl hk'.len) (zq (aa rfl rfl rfl FO) (zk (az rfl (zw (W.seq (zr (zm rfl (zq (Q.len ke rfl hk.len) (zq (Q.move (zi 0)) (zk (W.block (aM (fun (i : Nat) => [(15, vk), (1, vk'), (2, F), (16, .int .i64 ((0 : Nat) : Int)), (17, .int .i64 ((i : Nat) : Int))]) (fun (i : Nat) => hs) (fun (i : Nat) => True) (fun (i : Nat) => 0 - i) (0) trivial zv (SubH.refl _) (fun i hI0 ih0 => zr (zq (aa rfl rfl rfl (ec dM)) ?_)))))))))))))))))))))))
 refine zk (W.seq (aw rfl (fun hc18 => ?_) (fun hc18 => ?_)))
 ·(exfalso; omega)
 refine W.exit (aC (aK (aB (End.K (zr (za rfl (zk (W.ret (ae (z1 rfl) ?_)))))))))
 rfl

theorem wF (hs : ak) (hro : ∀ e ∈ hs, e.w = false) (d d' : ND) (vm vn vk vm' vn' vk' : AV)
 (hm : RIn hs 3 d.ms.length (cM d.ms) vm) (hn : RIn hs 1 d.nm.length (cS d.nm) vn) (hk : KLn vk 0) (hd : d.bd)
 (hm' : RIn hs 3 d'.ms.length (cM d'.ms) vm') (hn' : RIn hs 1 d'.nm.length (cS d'.nm) vn') (hk' : KLn vk' 0) (hd' : d'.bd) : Spec aN 47 [.agg (d.c vm vn vk), (.agg (d'.c vm' vn' vk'))] [] hs (fJ (.bool (decide (d = d')))) := by
 have hd1 := hd.2.1.1
 have hd2 := hd.2.2.1
 have hd1' := hd'.2.1.1
 have hd2' := hd'.2.2.1
 refine av (cX 47 Tryz.func47) rfl (m := 81) rfl (rs := [.tmp 4]) rfl (st := [(0, .agg (d.c vm vn vk)), (1, (.agg (d'.c vm' vn' vk')))]) rfl rfl (fun _ => rfl) (fun E => zr (WO.box rfl (gC hm.cell hn.cell hk.cell) (l0 _ rfl) rfl (fun b1 => WO.box rfl (gC hm'.cell hn'.cell hk'.cell) (l0 _ rfl) rfl (fun b2 => za rfl (zk (W.seq (zr (zf fQ rfl 3 (zq (ap rfl (zt 1 rfl) oR rfl) (zf fQ rfl 3 (zq (ap rfl (zt 0 rfl) oR rfl) (aJ rfl (aD rfl (aD rfl oz)) rfl (Ck hs hro d.ms d'.ms _ _ hm hm' hd1 hd1' hd.2.1 hd'.2.1) (SubR.t (SubR.t (cw hro))) rfl (zq (Q.not rfl oK) (zm rfl (ay (d := 11) rfl (fun hc11 => ?_) (fun hc11 => ?_))))))))))))))))
 ·refine z2 (z2 (z2 (zq (aj rfl rfl) (zm rfl (z2 (z2 (z2 (zq (aj rfl rfl) (zk (W.sub (zc 26 rfl (zc 3 rfl (zc 2 rfl aI))) (au rfl (zr (za rfl (zk (W.ret (ac (ae (z1 rfl) ?_)))))))))))))))))
  exact congrArg AV.bool (decide_eq_false (fun e => by subst e; simp_all)).symm
 refine zT (zf fR rfl 7 (zT (zq (ap rfl (zt 1 rfl) tE rfl) (zT (zf fR rfl 7 (zT (zq (ap rfl (zt 0 rfl) tE rfl) (zT (aJ rfl (aD rfl (aD rfl oz)) rfl (C1 hs hro d.nm d'.nm _ _ hn hn' zy zy hd.2.2 hd'.2.2) (SubR.t (SubR.t (cw hro))) rfl (zT (zq (Q.not rfl oK) (zq (ax rfl rfl) (zm rfl (ay (d := 19) rfl (fun hc19 => ?_) (fun hc19 => ?_)))))))))))))))
 ·refine z2 (z2 (z2 (zq (aj rfl rfl) (zk (W.sub (zc 26 rfl (zc 3 rfl (zc 2 rfl aI))) (au rfl (zr (za rfl (zk (W.ret (ac (ae (z1 rfl) ?_))))))))))))
  exact congrArg AV.bool (decide_eq_false (fun e => by subst e; simp_all)).symm
 refine zT (zf eW rfl 10 (zT (zq (ap rfl (zt 1 rfl) qA rfl) (zT (zf eW rfl 10 (zT (zq (ap rfl (zt 0 rfl) qA rfl) (zT (aJ rfl (aD rfl (aD rfl (aD rfl oz))) rfl (Ed hs hro _ _ hk hk' _) (SubR.t (SubR.t (cw hro))) rfl (zT (zq (Q.not rfl rfl) (zq (ax rfl rfl) (zk (W.sub (zc 26 rfl (zc 3 rfl (zc 2 rfl aI))) (az rfl (zw (zr (zf ij rfl 0 (zq (ap rfl (zt 1 rfl) bU rfl) (zf ij rfl 0 (zq (ap rfl (zt 0 rfl) bU rfl) (zq (aa rfl rfl rfl (ag bj)) (zm rfl ?_)))))))))))))))))))))))
 refine ay (d := 32) rfl (fun hc32 => ?_) (fun hc32 => ?_)
 ·refine zT (zf ik rfl 1 (zT (zq (ap rfl (zt 1 rfl) fW rfl) (zT (zf ik rfl 1 (zT (zq (ap rfl (zt 0 rfl) fW rfl) (zT (zq (aa rfl rfl rfl aH) (zq (aj rfl rfl) (zm rfl (ay (d := 39) rfl (fun hc39 => ?_) (fun hc39 => ?_)))))))))))))
  ·refine zT (zf pA rfl 2 (zT (zq (ap rfl (zt 1 rfl) bU rfl) (zT (zf pA rfl 2 (zT (zq (ap rfl (zt 0 rfl) bU rfl) (zT (zq (aa rfl rfl rfl (ag bj)) (zq (aj rfl rfl) (zm rfl (ay (d := 46) rfl (fun hc46 => ?_) (fun hc46 => ?_)))))))))))))
   ·refine zT (zf lw rfl 4 (zT (zq (ap rfl (zt 1 rfl) bU rfl) (zT (zf lw rfl 4 (zT (zq (ap rfl (zt 0 rfl) bU rfl) (zT (zq (aa rfl rfl rfl (ag bj)) (zq (aj rfl rfl) (zm rfl (ay (d := 53) rfl (fun hc53 => ?_) (fun hc53 => ?_)))))))))))))
    ·refine zT (zf m9 rfl 5 (zT (zq (ap rfl (zt 1 rfl) bU rfl) (zT (zf m9 rfl 5 (zT (zq (ap rfl (zt 0 rfl) bU rfl) (zT (zq (aa rfl rfl rfl (ag bj)) (zq (aj rfl rfl) (zm rfl (ay (d := 60) rfl (fun hc60 => ?_) (fun hc60 => ?_)))))))))))))
     ·refine zT (zf il rfl 6 (zT (zq (ap rfl (zt 1 rfl) bU rfl) (zT (zf il rfl 6 (zT (zq (ap rfl (zt 0 rfl) bU rfl) (zT (zq (aa rfl rfl rfl (ag bj)) (zq (aj rfl rfl) (zm rfl (ay (d := 67) rfl (fun hc67 => ?_) (fun hc67 => ?_)))))))))))))
      ·refine zT (zf gI rfl 8 (zT (zq (ap rfl (zt 1 rfl) bU rfl) (zT (zf gI rfl 8 (zT (zq (ap rfl (zt 0 rfl) bU rfl) (zT (zq (aa rfl rfl rfl (ag bj)) (zq (aj rfl rfl) (zm rfl (ay (d := 74) rfl (fun hc74 => ?_) (fun hc74 => ?_)))))))))))))
       ·refine zT (zf gJ rfl 9 (zT (zq (ap rfl (zt 1 rfl) wV rfl) (zT (zf gJ rfl 9 (zT (zq (ap rfl (zt 0 rfl) wV rfl) (zT (zq (aa rfl rfl rfl (oA GG)) (zq (aj rfl rfl) (za rfl (zk (W.sub (zc 4 rfl aI) (W.ret (ae (z1 rfl) ?_)))))))))))))))
        exact congrArg AV.bool (by obtain ⟨k, o, n, m, r, f, e, s, i, b⟩ := d; obtain ⟨k', o', n', m', r', f', e', s', i', b'⟩ := d'; simp_all; try (cases b <;> cases b' <;> rfl))
       refine z2 (z2 (zG (zq (ax rfl rfl) (za rfl (zk (W.sub (zc 4 rfl aI) (W.ret (ae (z1 rfl) ?_))))))))
       exact congrArg AV.bool (decide_eq_false (fun e => by subst e; simp_all)).symm
      refine z2 (z2 (zG (zq (ax rfl rfl) (zm rfl (z2 (z2 (zG (zq (ax rfl rfl) (za rfl (zk (W.sub (zc 4 rfl aI) (W.ret (ae (z1 rfl) ?_)))))))))))))
      exact congrArg AV.bool (decide_eq_false (fun e => by subst e; simp_all)).symm
     refine z2 (z2 (zG (zq (ax rfl rfl) (zm rfl (z2 (z2 (zG (zq (ax rfl rfl) (zm rfl (z2 (z2 (zG (zq (ax rfl rfl) (za rfl (zk (W.sub (zc 4 rfl aI) (W.ret ?_)))))))))))))))))
     refine ae (z1 rfl) ?_
     exact congrArg AV.bool (decide_eq_false (fun e => by subst e; simp_all)).symm
    refine z2 (z2 (zG (zq (ax rfl rfl) (zm rfl (z2 (z2 (zG (zq (ax rfl rfl) (zm rfl (z2 (z2 (zG (zq (ax rfl rfl) (zm rfl (z2 (zg rfl rfl ?_))))))))))))))))
    refine z2 (zq (ax rfl rfl) (za rfl (zk (W.sub (zc 4 rfl aI) (W.ret (ae (z1 rfl) ?_))))))
    exact congrArg AV.bool (decide_eq_false (fun e => by subst e; simp_all)).symm
   refine z2 (z2 (zG (zq (ax rfl rfl) (zm rfl (z2 (z2 (zG (zq (ax rfl rfl) (zm rfl (z2 (z2 (zG (zq (ax rfl rfl) (zm rfl (z2 (zg rfl rfl ?_))))))))))))))))
   refine z2 (zq (ax rfl rfl) (zm rfl (z2 (z2 (zG (zq (ax rfl rfl) (za rfl (zk (W.sub (zc 4 rfl aI) (W.ret (ae (z1 rfl) ?_)))))))))))
   exact congrArg AV.bool (decide_eq_false (fun e => by subst e; simp_all)).symm
  refine z2 (z2 (zG (zq (ax rfl rfl) (zm rfl (z2 (z2 (zG (zq (ax rfl rfl) (zm rfl (z2 (z2 (zG (zq (ax rfl rfl) (zm rfl (z2 (zg rfl rfl ?_))))))))))))))))
  refine z2 (zq (ax rfl rfl) (zm rfl (z2 (z2 (zG (zq (ax rfl rfl) (zm rfl (z2 (z2 (zG (zq (ax rfl rfl) (za rfl (zk (W.sub (zc 4 rfl aI) (W.ret (ae (z1 rfl) ?_))))))))))))))))
  exact congrArg AV.bool (decide_eq_false (fun e => by subst e; simp_all)).symm
 refine z2 (z2 (zG (zq (ax rfl rfl) (zm rfl (z2 (z2 (zG (zq (ax rfl rfl) (zm rfl (z2 (z2 (zG (zq (ax rfl rfl) (zm rfl (z2 (zg rfl rfl ?_))))))))))))))))
 refine z2 (zq (ax rfl rfl) (zm rfl (z2 (z2 (zG (zq (ax rfl rfl) (zm rfl (z2 (z2 (zG (zq (ax rfl rfl) (zm rfl (z2 (z2 (zG (zq (ax rfl rfl) ?_))))))))))))))))
 refine za rfl (zk (W.sub (zc 4 rfl aI) (W.ret (ae (z1 rfl) ?_))))
 exact congrArg AV.bool (decide_eq_false (fun e => by subst e; simp_all)).symm

theorem CX (hs : ak) (hro : ∀ e ∈ hs, e.w = false) (d d' : ND) (vm vn vk vm' vn' vk' : AV)
 (hm : RIn hs 3 d.ms.length (cM d.ms) vm) (hn : RIn hs 1 d.nm.length (cS d.nm) vn) (hk : KLn vk 0) (hd : d.bd)
 (hm' : RIn hs 3 d'.ms.length (cM d'.ms) vm') (hn' : RIn hs 1 d'.nm.length (cS d'.nm) vn') (hk' : KLn vk' 0) (hd' : d'.bd) : Spec aN 29 [.agg (d.c vm vn vk), (.agg (d'.c vm' vn' vk'))] [] hs (fJ (.bool (decide (d = d')))) := by
 have hd1 := hd.2.1.1
 have hd2 := hd.2.2.1
 have hd1' := hd'.2.1.1
 have hd2' := hd'.2.2.1
 refine av (cX 29 Tryz.func29) rfl (m := 144) rfl (rs := [.tmp 4]) rfl (st := [(0, .agg (d.c vm vn vk)), (1, (.agg (d'.c vm' vn' vk')))]) rfl rfl (fun _ => rfl) (fun E => zr (WO.box rfl (gC hm.cell hn.cell hk.cell) (l0 _ rfl) rfl (fun b1 => WO.box rfl (gC hm'.cell hn'.cell hk'.cell) (l0 _ rfl) rfl (fun b2 => za rfl (zk (W.seq (zr (zf ij rfl 0 (zq (ap rfl (zt 1 rfl) bU rfl) (zf ij rfl 0 (zq (ap rfl (zt 0 rfl) bU rfl) (zq (aa rfl rfl rfl (aR cP)) (zm rfl (ay (d := 13) rfl (fun hc13 => ?_) (fun hc13 => ?_)))))))))))))))
 ·refine z2 (z2 (zG (zq (aj rfl rfl) (zm rfl (z2 (z2 (zG (zq (aj rfl rfl) (zm rfl (z2 (z2 (zG (zq (aj rfl rfl) (zm rfl (z2 (zg rfl rfl ?_))))))))))))))))
  refine z2 (zq (aj rfl rfl) (zm rfl (z2 (z2 (zG (zq (aj rfl rfl) (zm rfl (z2 (z2 (zG (zq (aj rfl rfl) (zm rfl (z2 (z2 (zG (zq (aj rfl rfl) ?_))))))))))))))))
  refine zm rfl (z2 (z2 (z2 (zG (zq (aj rfl rfl) (zm rfl (z2 (z2 (z2 (zG (zq (aj rfl rfl) (zm rfl (z2 (z2 (zg rfl rfl ?_)))))))))))))))
  refine z2 (zq (aj rfl rfl) (zk (W.sub (zc 88 rfl (zc 3 rfl (zc 2 rfl aI))) (au rfl (zr (za rfl (zk (W.ret (ac (ae (z1 rfl) ?_))))))))))
  exact congrArg AV.bool (decide_eq_false (fun e => by subst e; simp_all)).symm
 refine zT (zf ik rfl 1 (zT (zq (ap rfl (zt 1 rfl) fW rfl) (zT (zf ik rfl 1 (zT (zq (ap rfl (zt 0 rfl) fW rfl) (zT (zq (aa rfl rfl rfl iK) (zq (ax rfl rfl) (zm rfl (ay (d := 20) rfl (fun hc20 => ?_) (fun hc20 => ?_)))))))))))))
 ·refine z2 (z2 (zG (zq (aj rfl rfl) (zm rfl (z2 (z2 (zG (zq (aj rfl rfl) (zm rfl (z2 (z2 (zG (zq (aj rfl rfl) (zm rfl (z2 (zg rfl rfl ?_))))))))))))))))
  refine z2 (zq (aj rfl rfl) (zm rfl (z2 (z2 (zG (zq (aj rfl rfl) (zm rfl (z2 (z2 (zG (zq (aj rfl rfl) (zm rfl (z2 (z2 (zG (zg rfl rfl ?_))))))))))))))))
  refine zG (zq (aj rfl rfl) (zm rfl (z2 (z2 (z2 (zG (zq (aj rfl rfl) (zm rfl (z2 (z2 (z2 (zG (zq (aj rfl rfl) (zk (W.sub (zc 88 rfl (zc 3 rfl (zc 2 rfl aI))) (au rfl (zr ?_)))))))))))))))))
  refine za rfl (zk (W.ret (ac (ae (z1 rfl) ?_))))
  exact congrArg AV.bool (decide_eq_false (fun e => by subst e; simp_all)).symm
 refine zT (zf pA rfl 2 (zT (zq (ap rfl (zt 1 rfl) bU rfl) (zT (zf pA rfl 2 (zT (zq (ap rfl (zt 0 rfl) bU rfl) (zT (zq (aa rfl rfl rfl (aR cP)) (zq (ax rfl rfl) (zm rfl (ay (d := 27) rfl (fun hc27 => ?_) (fun hc27 => ?_)))))))))))))
 ·refine z2 (z2 (zG (zq (aj rfl rfl) (zm rfl (z2 (z2 (zG (zq (aj rfl rfl) (zm rfl (z2 (z2 (zG (zq (aj rfl rfl) (zm rfl (z2 (zg rfl rfl ?_))))))))))))))))
  refine z2 (zq (aj rfl rfl) (zm rfl (z2 (z2 (zG (zq (aj rfl rfl) (zm rfl (z2 (z2 (z2 (zG (zq (aj rfl rfl) (zm rfl (z2 (zG (zg rfl rfl ?_))))))))))))))))
  refine z2 (zG (zq (aj rfl rfl) (zm rfl (z2 (z2 (z2 (zG (zq (aj rfl rfl) (zk (W.sub (zc 88 rfl (zc 3 rfl (zc 2 rfl aI))) (au rfl (zr (za rfl (zk (W.ret (ac (ae (z1 rfl) ?_)))))))))))))))))
  exact congrArg AV.bool (decide_eq_false (fun e => by subst e; simp_all)).symm
 refine zT (zf lw rfl 4 (zT (zq (ap rfl (zt 1 rfl) bU rfl) (zT (zf lw rfl 4 (zT (zq (ap rfl (zt 0 rfl) bU rfl) (zT (zq (aa rfl rfl rfl (aR cP)) (zq (ax rfl rfl) (zm rfl (ay (d := 34) rfl (fun hc34 => ?_) (fun hc34 => ?_)))))))))))))
 ·refine z2 (z2 (zG (zq (aj rfl rfl) (zm rfl (z2 (z2 (zG (zq (aj rfl rfl) (zm rfl (z2 (z2 (zG (zq (aj rfl rfl) (zm rfl (z2 (zg rfl rfl ?_))))))))))))))))
  refine z2 (zq (aj rfl rfl) (zm rfl (z2 (z2 (z2 (zG (zq (aj rfl rfl) (zm rfl (z2 (z2 (z2 (zG (zq (aj rfl rfl) (zm rfl (zG (zg rfl rfl ?_))))))))))))))))
  refine z2 (z2 (zG (zq (aj rfl rfl) (zk (W.sub (zc 88 rfl (zc 3 rfl (zc 2 rfl aI))) (au rfl (zr (za rfl (zk (W.ret (ac (ae (z1 rfl) ?_))))))))))))
  exact congrArg AV.bool (decide_eq_false (fun e => by subst e; simp_all)).symm
 refine zT (zf m9 rfl 5 (zT (zq (ap rfl (zt 1 rfl) bU rfl) (zT (zf m9 rfl 5 (zT (zq (ap rfl (zt 0 rfl) bU rfl) (zT (zq (aa rfl rfl rfl (aR cP)) (zq (ax rfl rfl) (zm rfl (ay (d := 41) rfl (fun hc41 => ?_) (fun hc41 => ?_)))))))))))))
 ·refine z2 (z2 (zG (zq (aj rfl rfl) (zm rfl (z2 (z2 (zG (zq (aj rfl rfl) (zm rfl (z2 (z2 (zG (zq (aj rfl rfl) (zm rfl (z2 (zg rfl rfl ?_))))))))))))))))
  refine z2 (z2 (zq (aj rfl rfl) (zm rfl (z2 (z2 (z2 (zG (zq (aj rfl rfl) (zm rfl (z2 (z2 (z2 (zG (zq (aj rfl rfl) (zk ?_)))))))))))))))
  refine W.sub (zc 88 rfl (zc 3 rfl (zc 2 rfl aI))) (au rfl (zr (za rfl (zk (W.ret (ac (ae (z1 rfl) ?_)))))))
  exact congrArg AV.bool (decide_eq_false (fun e => by subst e; simp_all)).symm
 refine zT (zf il rfl 6 (zT (zq (ap rfl (zt 1 rfl) bU rfl) (zT (zf il rfl 6 (zT (zq (ap rfl (zt 0 rfl) bU rfl) (zT (zq (aa rfl rfl rfl (aR cP)) (zq (ax rfl rfl) (zm rfl (ay (d := 48) rfl (fun hc48 => ?_) (fun hc48 => ?_)))))))))))))
 ·refine z2 (z2 (zG (zq (aj rfl rfl) (zm rfl (z2 (z2 (zG (zq (aj rfl rfl) (zm rfl (z2 (z2 (z2 (zG (zq (aj rfl rfl) (zm rfl (zg rfl rfl ?_))))))))))))))))
  refine z2 (z2 (z2 (zq (aj rfl rfl) (zm rfl (z2 (z2 (z2 (zG (zq (aj rfl rfl) (zk (W.sub (zc 88 rfl (zc 3 rfl (zc 2 rfl aI))) (au rfl (zr (za rfl (zk (W.ret (ac (ae (z1 rfl) ?_))))))))))))))))))
  exact congrArg AV.bool (decide_eq_false (fun e => by subst e; simp_all)).symm
 refine zT (zf gI rfl 8 (zT (zq (ap rfl (zt 1 rfl) bU rfl) (zT (zf gI rfl 8 (zT (zq (ap rfl (zt 0 rfl) bU rfl) (zT (zq (aa rfl rfl rfl (aR cP)) (zq (ax rfl rfl) (zm rfl (ay (d := 55) rfl (fun hc55 => ?_) (fun hc55 => ?_)))))))))))))
 ·refine z2 (z2 (zG (zq (aj rfl rfl) (zm rfl (z2 (z2 (z2 (zG (zq (aj rfl rfl) (zm rfl (z2 (z2 (z2 (zG (zq (aj rfl rfl) ?_)))))))))))))))
  refine zm rfl (z2 (z2 (z2 (zG (zq (aj rfl rfl) (zk (W.sub (zc 88 rfl (zc 3 rfl (zc 2 rfl aI))) (au rfl (zr (za rfl (zk (W.ret (ac (ae (z1 rfl) ?_))))))))))))))
  exact congrArg AV.bool (decide_eq_false (fun e => by subst e; simp_all)).symm
 refine zT (zf gJ rfl 9 (zT (zq (ap rfl (zt 1 rfl) wV rfl) (zT (zf gJ rfl 9 (zT (zq (ap rfl (zt 0 rfl) wV rfl) (zT (zq (aa rfl rfl rfl (sf GG)) (zq (ax rfl rfl) (zm rfl (WO.split (d := 62) rfl (fun hc62 => ?_) (fun hc62 => ?_)))))))))))))
 ·refine z2 (z2 (z2 (zG (zq (aj rfl rfl) (zm rfl (z2 (z2 (z2 (zG (zq (aj rfl rfl) (zm rfl (z2 (z2 (zG (zg rfl rfl ?_)))))))))))))))
  refine zG (zq (aj rfl rfl) (zk (W.sub (zc 88 rfl (zc 3 rfl (zc 2 rfl aI))) (au rfl (zr (za rfl (zk (W.ret (ac (ae (z1 rfl) ?_))))))))))
  exact congrArg AV.bool (decide_eq_false (fun e => by subst e; simp_all)).symm
 refine zT (zf fQ rfl 3 (zT (zq (ap rfl (zt 1 rfl) oR rfl) (zT (zq (Q.len jh rfl hm.len) (zT (zf fQ rfl 3 (zT (zq (ap rfl (zt 0 rfl) oR rfl) (zT (zq (Q.len jh rfl hm'.len) (zT (zq (aa rfl rfl rfl (aR cf)) (zq (ax rfl rfl) (zm rfl (ay (d := 71) rfl (fun hc71 => ?_) (fun hc71 => ?_)))))))))))))))))
 ·refine z2 (z2 (z2 (zG (zq (aj rfl rfl) (zm rfl (z2 (z2 (z2 (zG (zq (aj rfl rfl) (zk (W.sub (zc 88 rfl (zc 3 rfl (zc 2 rfl aI))) (au rfl (zr (za rfl (zk (W.ret ?_)))))))))))))))))
  refine ac (ae (z1 rfl) ?_)
  exact congrArg AV.bool (decide_eq_false (fun e => by subst e; simp_all)).symm
 refine zT (zf fR rfl 7 (zT (zq (ap rfl (zt 1 rfl) tE rfl) (zT (zq (Q.len dk rfl hn.len) (zT (zf fR rfl 7 (zT (zq (ap rfl (zt 0 rfl) tE rfl) (zT (zq (Q.len dk rfl hn'.len) (zT (zq (aa rfl rfl rfl (aR cf)) (zq (ax rfl rfl) (zm rfl (ay (d := 80) rfl (fun hc80 => ?_) (fun hc80 => ?_)))))))))))))))))
 ·refine z2 (z2 (z2 (zG (zq (aj rfl rfl) (zk (W.sub (zc 88 rfl (zc 3 rfl (zc 2 rfl aI))) (au rfl (zr (za rfl (zk (W.ret (ac (ae (z1 rfl) ?_)))))))))))))
  exact congrArg AV.bool (decide_eq_false (fun e => by subst e; simp_all)).symm
 refine zT (zf eW rfl 10 (zT (zq (ap rfl (zt 1 rfl) qA rfl) (zT (zq (Q.len ke rfl hk.len) (zT (zf eW rfl 10 (zT (zq (ap rfl (zt 0 rfl) qA rfl) (zT (zq (Q.len ke rfl hk'.len) (zT (zq (aa rfl rfl rfl (aR cf)) (zq (ax rfl rfl) (zk (W.sub (zc 88 rfl (zc 3 rfl (zc 2 rfl aI))) (aw rfl (fun hc88 => ?_) (fun hc88 => ?_))))))))))))))))))
 ·refine zr (za rfl (zk (W.ret (ac (ae (z1 rfl) ?_)))))
  exact congrArg AV.bool (decide_eq_false (fun e => by subst e; simp_all)).symm
 refine zw (W.seq (zr (za (zi 0) (zk (W.block (aM (fun (i : Nat) => [(2, .ptr b1 0), (3, .ptr b2 0), (5, .int .i64 ((i : Nat) : Int))]) (fun (i : Nat) => (⟨b2, ⟨11, true, d'.c vm' vn' vk'⟩, true⟩ :: ⟨b1, ⟨11, true, d.c vm vn vk⟩, true⟩ :: hs)) (fun (i : Nat) => i <= d.ms.length /\ ∀ j, j < i -> d.ms[j]? = d'.ms[j]?) (fun (i : Nat) => d.ms.length - i) (0) ⟨Nat.zero_le _, fun j h => absurd h (Nat.not_lt_zero _)⟩ zv (SubH.refl _) (fun i hI0 ih0 => ?_)))))))
 obtain ⟨h1, hqm⟩ := hI0
 refine W.seq (zr (zm rfl (zf fQ rfl 3 (zq (ap rfl (zt 1 rfl) oR rfl) (zq (Q.len jh rfl hm.len) (zq (aa rfl rfl rfl (ec dM)) (zk (aw rfl (fun hc93 => ?_) (fun hc93 => ?_)))))))))
 ·obtain ⟨bm, szm, exm, rfl, wm, mm⟩ := hm.full zy
  obtain ⟨bm2, szm2, exm2, rfl, wm2, mm2⟩ := hm'.full zy
  refine zw (W.seq (W.block (W.seq (dz (by kernel_rfl) (zf fQ rfl 3 (zq (ap rfl (zt 1 rfl) oR rfl) (zm rfl (zq (ci jh eA rfl rfl zo) (zq (aU rfl (List.mem_cons_of_mem _ (List.mem_cons_of_mem _ mm)) iE eA (ya zo)) (zf fQ rfl 3 (zq (ap rfl (zt 0 rfl) oR rfl) (zm rfl (zq (ci jh eA rfl rfl zo) (zq (aU rfl (List.mem_cons_of_mem _ (List.mem_cons_of_mem _ mm2)) iE eA (ya zo)) (zq (aa rfl rfl rfl Fj) (zk (W.sub (zc 106 rfl (zc 2 rfl (zc 3 rfl (zc 5 rfl aI)))) (aw rfl (fun hc106 => ?_) (fun hc106 => ?_)))))))))))))))))))
  ·refine zr (za rfl (zk (W.ret (ad (ac (bE (ad (ac (ae (z1 rfl) ?_)))))))))
   exact congrArg AV.bool (decide_eq_false (fun e => by subst e; simp_all)).symm
  refine W.skip (End.KB (End.K (am (zm rfl (zq (aa rfl (zi 1) rfl zp) (za rfl (WO.nil (End.KL (W.sub zv (bX gc (ih0 (i + 1) ?_ ?_)))))))))))
  ·exact ⟨by omega, fun j hj => by rcases Nat.lt_or_ge j i with q | q; exact hqm j q; obtain rfl : j = i := zy; rw [uj zy, uj zy]; simp_all⟩
  exact zo
 have hM : d.ms = d'.ms := px zy fun j hj => hqm j zy
 refine W.exit (aC (aK (aB (End.K (W.seq (zr (za (zi 0) (zk (W.block (aM (fun (i : Nat) => [(2, .ptr b1 0), (3, .ptr b2 0), (6, .int .i64 ((i : Nat) : Int))]) (fun (i : Nat) => (⟨b2, ⟨11, true, d'.c vm' vn' vk'⟩, true⟩ :: ⟨b1, ⟨11, true, d.c vm vn vk⟩, true⟩ :: hs)) (fun (i : Nat) => i <= d.nm.length /\ ∀ j, j < i -> d.nm[j]? = d'.nm[j]?) (fun (i : Nat) => d.nm.length - i) (0) ⟨Nat.zero_le _, fun j h => absurd h (Nat.not_lt_zero _)⟩ zv (SubH.refl _) (fun i hI1 ih1 => ?_)))))))))))
 obtain ⟨h1, hqn⟩ := hI1
 refine W.seq (zr (zm rfl (zf fR rfl 7 (zq (ap rfl (zt 1 rfl) tE rfl) (zq (Q.len dk rfl hn.len) (zq (aa rfl rfl rfl (ec dM)) (zk (aw rfl (fun hc111 => ?_) (fun hc111 => ?_)))))))))
 ·obtain ⟨bn, szn, exn, rfl, wn, mn⟩ := hn.full zy
  obtain ⟨bn2, szn2, exn2, rfl, wn2, mn2⟩ := hn'.full zy
  refine zw (W.seq (W.block (W.seq (dz (by kernel_rfl) (zf fR rfl 7 (zq (ap rfl (zt 1 rfl) tE rfl) (zm rfl (zq (ci dk kb rfl rfl zo) (zq (ap rfl (List.mem_cons_of_mem _ (List.mem_cons_of_mem _ mn)) fW (yb zo)) (zf fR rfl 7 (zq (ap rfl (zt 0 rfl) tE rfl) (zm rfl (zq (ci dk kb rfl rfl zo) (zq (ap rfl (List.mem_cons_of_mem _ (List.mem_cons_of_mem _ mn2)) fW (yb zo)) (zq (aa rfl rfl rfl iK) (zk (W.sub (zc 124 rfl (zc 2 rfl (zc 3 rfl (zc 6 rfl aI)))) (aw rfl (fun hc124 => ?_) (fun hc124 => ?_)))))))))))))))))))
  ·refine zr (za rfl (zk (W.ret (ad (ac (bE (ad (ac (ae (z1 rfl) ?_)))))))))
   exact congrArg AV.bool (decide_eq_false (fun e => by subst e; simp_all)).symm
  refine W.skip (End.KB (End.K (am (zm rfl (zq (aa rfl (zi 1) rfl zp) (za rfl (WO.nil (End.KL (W.sub zv (bX gc (ih1 (i + 1) ?_ ?_)))))))))))
  ·exact ⟨by omega, fun j hj => by rcases Nat.lt_or_ge j i with q | q; exact hqn j q; obtain rfl : j = i := zy; rw [uN zy, uN zy]; simp_all⟩
  exact zo
 have hN : d.nm = d'.nm := px zy fun j hj => hqn j zy
 refine W.exit (aC (aK (aB (End.K (W.seq (zr (za (zi 0) (zk (W.block (aM (fun (i : Nat) => [(2, .ptr b1 0), (3, .ptr b2 0), (7, .int .i64 ((i : Nat) : Int))]) (fun (i : Nat) => (⟨b2, ⟨11, true, d'.c vm' vn' vk'⟩, true⟩ :: ⟨b1, ⟨11, true, d.c vm vn vk⟩, true⟩ :: hs)) (fun (i : Nat) => i = 0) (fun (i : Nat) => 0 - i) (0) rfl zv (SubH.refl _) (fun i hI2 ih2 => ?_)))))))))))
 have h1 := hI2
 refine W.seq (zr (zm rfl (zf eW rfl 10 (zq (ap rfl (zt 1 rfl) qA rfl) (zq (Q.len ke rfl hk.len) (zq (aa rfl rfl rfl (ec dM)) (zk (aw rfl (fun hc129 => ?_) (fun hc129 => ?_)))))))))
 ·(exfalso; omega)
 refine W.exit (aC (aK (aB (End.K (zr (za rfl (zk (W.ret (ae (z1 rfl) ?_)))))))))
 exact congrArg AV.bool (by obtain ⟨k, o, n, m, r, f, e, s, i, b⟩ := d; obtain ⟨k', o', n', m', r', f', e', s', i', b'⟩ := d'; simp_all; try (cases b <;> cases b' <;> rfl))

theorem AM (hs : ak) (hro : ∀ e ∈ hs, e.w = false) (d d' : ND) (A A' : List Int) (nk nk' : Nat) (vm vn vk va vm' vn' vk' va' : AV) (hx : IOK hs (⟨d, A, nk, vm, vn, vk, va⟩ : IE)) (hy : IOK hs (⟨d', A', nk', vm', vn', vk', va'⟩ : IE)) (hk : KLn vk 0) (hk' : KLn vk' 0) (hb : IBd (⟨d, A, nk, vm, vn, vk, va⟩ : IE)) (hb' : IBd (⟨d', A', nk', vm', vn', vk', va'⟩ : IE)) : Spec aN 26 [.agg (IE.c (⟨d, A, nk, vm, vn, vk, va⟩ : IE)), (.agg (IE.c (⟨d', A', nk', vm', vn', vk', va'⟩ : IE)))] [] hs (fJ (.bool (decide ((d, A) = (d', A'))))) := by
 refine av (cX 26 Tryz.func26) rfl (m := 17) rfl (rs := [.tmp 4]) rfl (st := [(0, .agg (IE.c (⟨d, A, nk, vm, vn, vk, va⟩ : IE))), (1, (.agg (IE.c (⟨d', A', nk', vm', vn', vk', va'⟩ : IE))))]) rfl rfl (fun _ => rfl) (fun E => zr (WO.box rfl hx.cells (FP _ rfl) rfl (fun b1 => WO.box rfl hy.cells (FP _ rfl) rfl (fun b2 => za rfl (zk (zr (zf fB rfl 0 (zq (zL rfl (zt 1 rfl) bh aL rfl) (zf fB rfl 0 (zq (zL rfl (zt 0 rfl) bh aL rfl) (aJ rfl (aD rfl (aD rfl oz)) rfl (CX hs hro d d' _ _ _ _ _ _ hx.m hx.n hk hb.d hy.m hy.n hk' hb'.d) (SubR.t (SubR.t (cw hro))) rfl (zm rfl (ay (d := 10) rfl (fun hc10 => ?_) (fun hc10 => ?_))))))))))))))
 ·refine zT (zf im rfl 11 (zT (zq (ap rfl (zt 1 rfl) oS rfl) (zT (zf im rfl 11 (zT (zq (ap rfl (zt 0 rfl) oS rfl) (zT (aJ rfl (aD rfl (aD rfl oz)) rfl (Am hs hro A A' _ _ hx.a hy.a hb.a hb'.a) (SubR.t (SubR.t (cw hro))) rfl (zq (aj rfl rfl) (za rfl (zk (W.sub (zc 4 rfl aI) (W.ret (ae (z1 rfl) ?_)))))))))))))))
  exact congrArg AV.bool (by simp_all)
 refine z2 (z2 (zG (zq (ax rfl rfl) (za rfl (zk (W.sub (zc 4 rfl aI) (W.ret (ae (z1 rfl) ?_))))))))
 exact congrArg AV.bool (by simp_all)
end Go.Proofs.YtndhhgbpcmfeiaaGreatDoor.Ev
