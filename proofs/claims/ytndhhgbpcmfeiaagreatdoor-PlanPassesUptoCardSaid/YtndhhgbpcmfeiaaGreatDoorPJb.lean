/- Chapter 20, walks: nodes without parts, compared. -/
import Derived.Test.YtndhhgbpcmfeiaaGreatDoorPHh
namespace Go.Proofs.YtndhhgbpcmfeiaaGreatDoor.Ev
open Go.RowKit
set_option maxRecDepth 100000
set_option maxHeartbeats 1000000
theorem mz {α : Type} {A B : List α} (h : A.length = B.length) (g : ∀ j, j < A.length -> A[j]? = B[j]?) : A = B := by
 apply List.ext_getElem?
 intro j
 rcases Nat.lt_or_ge j A.length with q | q
 ·exact g j q
 ·rw [List.getElem?_eq_none q, List.getElem?_eq_none zy]
theorem AI {m m' : Mt} : bO aW .neq 91 (.agg (mC m)) (.agg (mC m')) = some (.bool (decide (m ≠ m'))) := by
 obtain ⟨k, a, b⟩ := m
 obtain ⟨k', a', b'⟩ := m'
 show (match jy aW 91 (.agg [.int .i64 k, .str a, .str b]) (.agg [.int .i64 k', .str a', .str b']) with
  | some b => some (AV.bool (!b))
  | none => none) = _
 have e : jy aW 91 (.agg [.int .i64 k, .str a, .str b]) (.agg [.int .i64 k', .str a', .str b']) = (match p9 k k' with | true => (match bN a a' with | true => (match bN b b' with | true => some true | false => some false) | false => some false) | false => some false) := by kernel_rfl
 rw [e, bW, jE, jE]
 by_cases h1 : k = k' <;> by_cases h2 : a = a' <;> by_cases h3 : b = b' <;> simp [h1, h2, h3]

theorem wT (hs : ad) (hro : ∀ e ∈ hs, e.w = false) (A B : List Mt) (va vb : AV) (hA : RIn hs 3 A.length (cM A) va) (hB : RIn hs 3 B.length (cM B) vb) (hAl : A.length <= 1048576) (hBl : B.length <= 1048576) (bA : A9 A) (bB : A9 B) : Spec aW 81 [va, vb] [] hs (eW (.bool (decide (A = B)))) := by
 refine ak (eX 81 Tryz.func81) rfl (m := 26) rfl (rs := [.tmp 4]) rfl (st := [(0, va), (1, vb)]) rfl rfl (fun _ => rfl) (fun E => zr (za rfl (zk (W.seq (zr (zm rfl (zq (Q.len gz rfl hA.len) (zm rfl (zq (Q.len gz rfl hB.len) (zq (aa rfl rfl rfl (bV er)) (zk (aw rfl (fun hc10 => ?_) (fun hc10 => ?_)))))))))))))
 ·refine zr (za rfl (zk (W.ret (ac (ab (z1 rfl) ?_)))))
  exact congrArg AV.bool (decide_eq_false (fun e => by subst e; simp_all)).symm
 refine zw (W.seq (zr (zm rfl (zq (Q.len gz rfl hA.len) (zq (Q.move (zi 0)) (zk (W.block (az (fun (i : Nat) => [(0, va), (1, vb), (12, .int .i64 ((A.length : Nat) : Int)), (13, .int .i64 ((i : Nat) : Int))]) (fun (i : Nat) => hs) (fun (i : Nat) => i <= A.length /\ ∀ j, j < i -> A[j]? = B[j]?) (fun (i : Nat) => A.length - i) (0) ⟨Nat.zero_le _, fun j h => absurd h (Nat.not_lt_zero _)⟩ zv (SubH.refl _) (fun i hI0 ih0 => ?_)))))))))
 obtain ⟨h1, hq⟩ := hI0
 refine zr (zq (aa rfl rfl rfl (fi fv)) (zk (W.seq (aw rfl (fun hc14 => ?_) (fun hc14 => ?_)))))
 ·obtain ⟨ba, sza, exa, rfl, wa_, ma⟩ := hA.full zy
  obtain ⟨bb, szb, exb, rfl, wb_, mb⟩ := hB.full zy
  refine zw (W.seq (W.block (zr (zm rfl (za rfl (zk (W.seq (dD (by kernel_rfl) (zm rfl (zm rfl (zq (aQ gz jt rfl rfl zo) (zq (aD rfl ma tU jt (nF zo)) (zm rfl (zm rfl (zq (aQ gz jt rfl rfl zo) (zq (aD rfl mb tU jt (nF zo)) (zq (aa rfl rfl rfl AI) (zk (aw rfl (fun hc24 => ?_) (fun hc24 => ?_))))))))))))))))))))
  ·refine zr (za rfl (zk (W.sub (zc 4 rfl bE) (W.ret (ah (ac (cW (ah (ac (ab (z1 rfl) ?_))))))))))
   exact congrArg AV.bool (decide_eq_false (fun e => by subst e; simp_all)).symm
  refine W.skip (End.KB (End.K (ay (zq (aa rfl (zi 1) rfl zp) (zm rfl (WO.nil (End.KL (W.sub zv (bG (SubH.refl _) (ih0 (i + 1) ?_ ?_))))))))))
  ·exact ⟨by omega, fun j hj => by rcases Nat.lt_or_ge j i with q | q; exact hq j q; obtain rfl : j = i := zy; rw [qB zy, qB zy]; simp_all⟩
  exact zo
 refine W.exit (aJ (aM (aI (End.K (zr (za rfl (zk (W.ret (ab (z1 rfl) ?_)))))))))
 exact congrArg AV.bool (decide_eq_true (mz zy fun j hj => hq j zy)).symm

theorem yx (hs : ad) (hro : ∀ e ∈ hs, e.w = false) (A B : List (List Nat)) (va vb : AV) (hA : RIn hs 1 A.length (cS A) va) (hB : RIn hs 1 B.length (cS B) vb) (hAl : A.length <= 2097152) (hBl : B.length <= 2097152) (bA : Bd A) (bB : Bd B) : Spec aW 82 [va, vb] [] hs (eW (.bool (decide (A = B)))) := by
 refine ak (eX 82 Tryz.func82) rfl (m := 26) rfl (rs := [.tmp 4]) rfl (st := [(0, va), (1, vb)]) rfl rfl (fun _ => rfl) (fun E => zr (za rfl (zk (W.seq (zr (zm rfl (zq (Q.len gA rfl hA.len) (zm rfl (zq (Q.len gA rfl hB.len) (zq (aa rfl rfl rfl (bV er)) (zk (aw rfl (fun hc10 => ?_) (fun hc10 => ?_)))))))))))))
 ·refine zr (za rfl (zk (W.ret (ac (ab (z1 rfl) ?_)))))
  exact congrArg AV.bool (decide_eq_false (fun e => by subst e; simp_all)).symm
 refine zw (W.seq (zr (zm rfl (zq (Q.len gA rfl hA.len) (zq (Q.move (zi 0)) (zk (W.block (az (fun (i : Nat) => [(0, va), (1, vb), (12, .int .i64 ((A.length : Nat) : Int)), (13, .int .i64 ((i : Nat) : Int))]) (fun (i : Nat) => hs) (fun (i : Nat) => i <= A.length /\ ∀ j, j < i -> A[j]? = B[j]?) (fun (i : Nat) => A.length - i) (0) ⟨Nat.zero_le _, fun j h => absurd h (Nat.not_lt_zero _)⟩ zv (SubH.refl _) (fun i hI0 ih0 => ?_)))))))))
 obtain ⟨h1, hq⟩ := hI0
 refine zr (zq (aa rfl rfl rfl (fi fv)) (zk (W.seq (aw rfl (fun hc14 => ?_) (fun hc14 => ?_)))))
 ·obtain ⟨ba, sza, exa, rfl, wa_, ma⟩ := hA.full zy
  obtain ⟨bb, szb, exb, rfl, wb_, mb⟩ := hB.full zy
  refine zw (W.seq (W.block (zr (zm rfl (za rfl (zk (W.seq (dD (by kernel_rfl) (zm rfl (zm rfl (zq (aQ gA yO rfl rfl zo) (zq (ag rfl ma sN (nG zo)) (zm rfl (zm rfl (zq (aQ gA yO rfl rfl zo) (zq (ag rfl mb sN (nG zo)) (zq (aa rfl rfl rfl lI) (zk (aw rfl (fun hc24 => ?_) (fun hc24 => ?_))))))))))))))))))))
  ·refine zr (za rfl (zk (W.sub (zc 4 rfl bE) (W.ret (ah (ac (cW (ah (ac (ab (z1 rfl) ?_))))))))))
   exact congrArg AV.bool (decide_eq_false (fun e => by subst e; simp_all)).symm
  refine W.skip (End.KB (End.K (ay (zq (aa rfl (zi 1) rfl zp) (zm rfl (WO.nil (End.KL (W.sub zv (bG (SubH.refl _) (ih0 (i + 1) ?_ ?_))))))))))
  ·exact ⟨by omega, fun j hj => by rcases Nat.lt_or_ge j i with q | q; exact hq j q; obtain rfl : j = i := zy; rw [qV zy, qV zy]; simp_all⟩
  exact zo
 refine W.exit (aJ (aM (aI (End.K (zr (za rfl (zk (W.ret (ab (z1 rfl) ?_)))))))))
 exact congrArg AV.bool (decide_eq_true (mz zy fun j hj => hq j zy)).symm

theorem uI (hs : ad) (hro : ∀ e ∈ hs, e.w = false) (A B : List Int) (va vb : AV) (hA : RIn hs 1 A.length (cA A) va) (hB : RIn hs 1 B.length (cA B) vb) (hAl : A.length <= 1048576) (hBl : B.length <= 1048576) : Spec aW 52 [va, vb] [] hs (eW (.bool (decide (A = B)))) := by
 refine ak (eX 52 Tryz.func52) rfl (m := 26) rfl (rs := [.tmp 4]) rfl (st := [(0, va), (1, vb)]) rfl rfl (fun _ => rfl) (fun E => zr (za rfl (zk (W.seq (zr (zm rfl (zq (Q.len bh rfl hA.len) (zm rfl (zq (Q.len bh rfl hB.len) (zq (aa rfl rfl rfl (bV er)) (zk (aw rfl (fun hc10 => ?_) (fun hc10 => ?_)))))))))))))
 ·refine zr (za rfl (zk (W.ret (ac (ab (z1 rfl) ?_)))))
  exact congrArg AV.bool (decide_eq_false (fun e => by subst e; simp_all)).symm
 refine zw (W.seq (zr (za (zi 0) (zk (W.block (az (fun (i : Nat) => [(0, va), (1, vb), (5, .int .i64 ((i : Nat) : Int))]) (fun (i : Nat) => hs) (fun (i : Nat) => i <= A.length /\ ∀ j, j < i -> A[j]? = B[j]?) (fun (i : Nat) => A.length - i) (0) ⟨Nat.zero_le _, fun j h => absurd h (Nat.not_lt_zero _)⟩ zv (SubH.refl _) (fun i hI0 ih0 => ?_)))))))
 obtain ⟨h1, hq⟩ := hI0
 refine W.seq (zr (zm rfl (zm rfl (zq (Q.len bh rfl hA.len) (zq (aa rfl rfl rfl (fi fv)) (zk (aw rfl (fun hc14 => ?_) (fun hc14 => ?_))))))))
 ·obtain ⟨ba, sza, exa, rfl, wa_, ma⟩ := hA.full zy
  obtain ⟨bb, szb, exb, rfl, wb_, mb⟩ := hB.full zy
  refine zw (W.seq (W.block (W.seq (dD (by kernel_rfl) (zm rfl (zm rfl (zq (aQ bh fP rfl rfl zo) (zq (ag rfl ma dn (iA zo)) (zm rfl (zm rfl (zq (aQ bh fP rfl rfl zo) (zq (ag rfl mb dn (iA zo)) (zq (aa rfl rfl rfl (bV fH)) (zk (aw rfl (fun hc25 => ?_) (fun hc25 => ?_))))))))))))))))
  ·refine zr (za rfl (zk (W.sub (zc 4 rfl bE) (W.ret (ah (ac (cW (ah (ac (ab (z1 rfl) ?_))))))))))
   exact congrArg AV.bool (decide_eq_false (fun e => by subst e; simp_all)).symm
  refine W.skip (End.KB (End.K (ay (zm rfl (zq (aa rfl (zi 1) rfl zp) (za rfl (WO.nil (End.KL (W.sub zv (bG (SubH.refl _) (ih0 (i + 1) ?_ ?_)))))))))))
  ·exact ⟨by omega, fun j hj => by rcases Nat.lt_or_ge j i with q | q; exact hq j q; obtain rfl : j = i := zy; rw [iz zy, iz zy]; simp_all⟩
  exact zo
 refine W.exit (aJ (aM (aI (End.K (zr (za rfl (zk (W.ret (ab (z1 rfl) ?_)))))))))
 exact congrArg AV.bool (decide_eq_true (mz zy fun j hj => hq j zy)).symm

theorem zH (hs : ad) (hro : ∀ e ∈ hs, e.w = false) (vk vk' : AV) (hk : KLn vk 0) (hk' : KLn vk' 0) (F : AV) : Spec aW 83 [vk, vk', F] [] hs (eW (.bool true)) := by
 refine ak (eX 83 Tryz.func83) rfl (m := 32) rfl (rs := [.tmp 6]) rfl (st := [(0, vk), (1, vk'), (2, F)]) rfl rfl (fun _ => rfl) (fun E => zr (za rfl (zk (W.seq (zr (zm rfl (zq (Q.len km rfl hk.len) (zm rfl (zq (Q.len km rfl hk'.len) (zq (aa rfl rfl rfl ew) (zk (aN rfl (zw (W.seq (zr (zm rfl (zq (Q.len km rfl hk.len) (zq (Q.move (zi 0)) (zk (W.block (az (fun (i : Nat) => [(15, vk), (1, vk'), (2, F), (16, .int .i64 ((0 : Nat) : Int)), (17, .int .i64 ((i : Nat) : Int))]) (fun (i : Nat) => hs) (fun (i : Nat) => True) (fun (i : Nat) => 0 - i) (0) trivial zv (SubH.refl _) (fun i hI0 ih0 => zr (zq (aa rfl rfl rfl (fi fv)) ?_)))))))))))))))))))))))
 refine zk (W.seq (aw rfl (fun hc18 => ?_) (fun hc18 => ?_)))
 ·(exfalso; omega)
 refine W.exit (aJ (aM (aI (End.K (zr (za rfl (zk (W.ret (ab (z1 rfl) ?_)))))))))
 rfl

theorem sm (hs : ad) (hro : ∀ e ∈ hs, e.w = false) (d d' : ND) (vm vn vk vm' vn' vk' : AV)
 (hm : RIn hs 3 d.ms.length (cM d.ms) vm) (hn : RIn hs 1 d.nm.length (cS d.nm) vn) (hk : KLn vk 0) (hd : d.bd)
 (hm' : RIn hs 3 d'.ms.length (cM d'.ms) vm') (hn' : RIn hs 1 d'.nm.length (cS d'.nm) vn') (hk' : KLn vk' 0) (hd' : d'.bd) : Spec aW 47 [.agg (d.c vm vn vk), (.agg (d'.c vm' vn' vk'))] [] hs (eW (.bool (decide (d = d')))) := by
 have hd1 := hd.2.1.1
 have hd2 := hd.2.2.1
 have hd1' := hd'.2.1.1
 have hd2' := hd'.2.2.1
 refine ak (eX 47 Tryz.func47) rfl (m := 81) rfl (rs := [.tmp 4]) rfl (st := [(0, .agg (d.c vm vn vk)), (1, (.agg (d'.c vm' vn' vk')))]) rfl rfl (fun _ => rfl) (fun E => zr (WO.box rfl (ep hm.cell hn.cell hk.cell) (rz _ rfl) rfl (fun b1 => WO.box rfl (ep hm'.cell hn'.cell hk'.cell) (rz _ rfl) rfl (fun b2 => za rfl (zk (W.seq (zr (zf dr rfl 3 (zq (ag rfl (zt 1 rfl) jp rfl) (zf dr rfl 3 (zq (ag rfl (zt 0 rfl) jp rfl) (aB rfl (aY rfl (aY rfl oz)) rfl (wT hs hro d.ms d'.ms _ _ hm hm' hd1 hd1' hd.2.1 hd'.2.1) (SubR.t (SubR.t (aZ hro))) rfl (zq (Q.not rfl pi) (zm rfl (aR (d := 11) rfl (fun hc11 => ?_) (fun hc11 => ?_))))))))))))))))
 ·refine z2 (z2 (z2 (zq (au rfl rfl) (zm rfl (z2 (z2 (z2 (zq (au rfl rfl) (zk (W.sub (zc 26 rfl (zc 3 rfl (zc 2 rfl bE))) (aO rfl (zr (za rfl (zk (W.ret (ac (ab (z1 rfl) ?_)))))))))))))))))
  exact congrArg AV.bool (decide_eq_false (fun e => by subst e; simp_all)).symm
 refine zT (zf dt rfl 7 (zT (zq (ag rfl (zt 1 rfl) jq rfl) (zT (zf dt rfl 7 (zT (zq (ag rfl (zt 0 rfl) jq rfl) (zT (aB rfl (aY rfl (aY rfl oz)) rfl (yx hs hro d.nm d'.nm _ _ hn hn' zy zy hd.2.2 hd'.2.2) (SubR.t (SubR.t (aZ hro))) rfl (zT (zq (Q.not rfl pi) (zq (aG rfl rfl) (zm rfl (aR (d := 19) rfl (fun hc19 => ?_) (fun hc19 => ?_)))))))))))))))
 ·refine z2 (z2 (z2 (zq (au rfl rfl) (zk (W.sub (zc 26 rfl (zc 3 rfl (zc 2 rfl bE))) (aO rfl (zr (za rfl (zk (W.ret (ac (ab (z1 rfl) ?_))))))))))))
  exact congrArg AV.bool (decide_eq_false (fun e => by subst e; simp_all)).symm
 refine zT (zf cG rfl 10 (zT (zq (ag rfl (zt 1 rfl) jN rfl) (zT (zf cG rfl 10 (zT (zq (ag rfl (zt 0 rfl) jN rfl) (zT (aB rfl (aY rfl (aY rfl (aY rfl oz))) rfl (zH hs hro _ _ hk hk' _) (SubR.t (SubR.t (aZ hro))) rfl (zT (zq (Q.not rfl rfl) (zq (aG rfl rfl) (zk (W.sub (zc 26 rfl (zc 3 rfl (zc 2 rfl bE))) (aN rfl (zw (zr (zf dq rfl 0 (zq (ag rfl (zt 1 rfl) dn rfl) (zf dq rfl 0 (zq (ag rfl (zt 0 rfl) dn rfl) (zq (aa rfl rfl rfl (bz bW)) (zm rfl ?_)))))))))))))))))))))))
 refine aR (d := 32) rfl (fun hc32 => ?_) (fun hc32 => ?_)
 ·refine zT (zf iM rfl 1 (zT (zq (ag rfl (zt 1 rfl) sN rfl) (zT (zf iM rfl 1 (zT (zq (ag rfl (zt 0 rfl) sN rfl) (zT (zq (aa rfl rfl rfl aq) (zq (au rfl rfl) (zm rfl (aR (d := 39) rfl (fun hc39 => ?_) (fun hc39 => ?_)))))))))))))
  ·refine zT (zf iN rfl 2 (zT (zq (ag rfl (zt 1 rfl) dn rfl) (zT (zf iN rfl 2 (zT (zq (ag rfl (zt 0 rfl) dn rfl) (zT (zq (aa rfl rfl rfl (bz bW)) (zq (au rfl rfl) (zm rfl (aR (d := 46) rfl (fun hc46 => ?_) (fun hc46 => ?_)))))))))))))
   ·refine zT (zf kC rfl 4 (zT (zq (ag rfl (zt 1 rfl) dn rfl) (zT (zf kC rfl 4 (zT (zq (ag rfl (zt 0 rfl) dn rfl) (zT (zq (aa rfl rfl rfl (bz bW)) (zq (au rfl rfl) (zm rfl (aR (d := 53) rfl (fun hc53 => ?_) (fun hc53 => ?_)))))))))))))
    ·refine zT (zf kD rfl 5 (zT (zq (ag rfl (zt 1 rfl) dn rfl) (zT (zf kD rfl 5 (zT (zq (ag rfl (zt 0 rfl) dn rfl) (zT (zq (aa rfl rfl rfl (bz bW)) (zq (au rfl rfl) (zm rfl (aR (d := 60) rfl (fun hc60 => ?_) (fun hc60 => ?_)))))))))))))
     ·refine zT (zf kE rfl 6 (zT (zq (ag rfl (zt 1 rfl) dn rfl) (zT (zf kE rfl 6 (zT (zq (ag rfl (zt 0 rfl) dn rfl) (zT (zq (aa rfl rfl rfl (bz bW)) (zq (au rfl rfl) (zm rfl (aR (d := 67) rfl (fun hc67 => ?_) (fun hc67 => ?_)))))))))))))
      ·refine zT (zf kF rfl 8 (zT (zq (ag rfl (zt 1 rfl) dn rfl) (zT (zf kF rfl 8 (zT (zq (ag rfl (zt 0 rfl) dn rfl) (zT (zq (aa rfl rfl rfl (bz bW)) (zq (au rfl rfl) (zm rfl (aR (d := 74) rfl (fun hc74 => ?_) (fun hc74 => ?_)))))))))))))
       ·refine zT (zf kG rfl 9 (zT (zq (ag rfl (zt 1 rfl) uX rfl) (zT (zf kG rfl 9 (zT (zq (ag rfl (zt 0 rfl) uX rfl) (zT (zq (aa rfl rfl rfl (zb Dr)) (zq (au rfl rfl) (za rfl (zk (W.sub (zc 4 rfl bE) (W.ret (ab (z1 rfl) ?_)))))))))))))))
        exact congrArg AV.bool (by obtain ⟨k, o, n, m, r, f, e, s, i, b⟩ := d; obtain ⟨k', o', n', m', r', f', e', s', i', b'⟩ := d'; simp_all; try (cases b <;> cases b' <;> rfl))
       refine z2 (z2 (zG (zq (aG rfl rfl) (za rfl (zk (W.sub (zc 4 rfl bE) (W.ret (ab (z1 rfl) ?_))))))))
       exact congrArg AV.bool (decide_eq_false (fun e => by subst e; simp_all)).symm
      refine z2 (z2 (zG (zq (aG rfl rfl) (zm rfl (z2 (z2 (zG (zq (aG rfl rfl) (za rfl (zk (W.sub (zc 4 rfl bE) (W.ret (ab (z1 rfl) ?_)))))))))))))
      exact congrArg AV.bool (decide_eq_false (fun e => by subst e; simp_all)).symm
     refine z2 (z2 (zG (zq (aG rfl rfl) (zm rfl (z2 (z2 (zG (zq (aG rfl rfl) (zm rfl (z2 (z2 (zG (zq (aG rfl rfl) (za rfl (zk (W.sub (zc 4 rfl bE) (W.ret ?_)))))))))))))))))
     refine ab (z1 rfl) ?_
     exact congrArg AV.bool (decide_eq_false (fun e => by subst e; simp_all)).symm
    refine z2 (z2 (zG (zq (aG rfl rfl) (zm rfl (z2 (z2 (zG (zq (aG rfl rfl) (zm rfl (z2 (z2 (zG (zq (aG rfl rfl) (zm rfl (z2 (zg rfl rfl ?_))))))))))))))))
    refine z2 (zq (aG rfl rfl) (za rfl (zk (W.sub (zc 4 rfl bE) (W.ret (ab (z1 rfl) ?_))))))
    exact congrArg AV.bool (decide_eq_false (fun e => by subst e; simp_all)).symm
   refine z2 (z2 (zG (zq (aG rfl rfl) (zm rfl (z2 (z2 (zG (zq (aG rfl rfl) (zm rfl (z2 (z2 (zG (zq (aG rfl rfl) (zm rfl (z2 (zg rfl rfl ?_))))))))))))))))
   refine z2 (zq (aG rfl rfl) (zm rfl (z2 (z2 (zG (zq (aG rfl rfl) (za rfl (zk (W.sub (zc 4 rfl bE) (W.ret (ab (z1 rfl) ?_)))))))))))
   exact congrArg AV.bool (decide_eq_false (fun e => by subst e; simp_all)).symm
  refine z2 (z2 (zG (zq (aG rfl rfl) (zm rfl (z2 (z2 (zG (zq (aG rfl rfl) (zm rfl (z2 (z2 (zG (zq (aG rfl rfl) (zm rfl (z2 (zg rfl rfl ?_))))))))))))))))
  refine z2 (zq (aG rfl rfl) (zm rfl (z2 (z2 (zG (zq (aG rfl rfl) (zm rfl (z2 (z2 (zG (zq (aG rfl rfl) (za rfl (zk (W.sub (zc 4 rfl bE) (W.ret (ab (z1 rfl) ?_))))))))))))))))
  exact congrArg AV.bool (decide_eq_false (fun e => by subst e; simp_all)).symm
 refine z2 (z2 (zG (zq (aG rfl rfl) (zm rfl (z2 (z2 (zG (zq (aG rfl rfl) (zm rfl (z2 (z2 (zG (zq (aG rfl rfl) (zm rfl (z2 (zg rfl rfl ?_))))))))))))))))
 refine z2 (zq (aG rfl rfl) (zm rfl (z2 (z2 (zG (zq (aG rfl rfl) (zm rfl (z2 (z2 (zG (zq (aG rfl rfl) (zm rfl (z2 (z2 (zG (zq (aG rfl rfl) ?_))))))))))))))))
 refine za rfl (zk (W.sub (zc 4 rfl bE) (W.ret (ab (z1 rfl) ?_))))
 exact congrArg AV.bool (decide_eq_false (fun e => by subst e; simp_all)).symm

theorem yu (hs : ad) (hro : ∀ e ∈ hs, e.w = false) (d d' : ND) (vm vn vk vm' vn' vk' : AV)
 (hm : RIn hs 3 d.ms.length (cM d.ms) vm) (hn : RIn hs 1 d.nm.length (cS d.nm) vn) (hk : KLn vk 0) (hd : d.bd)
 (hm' : RIn hs 3 d'.ms.length (cM d'.ms) vm') (hn' : RIn hs 1 d'.nm.length (cS d'.nm) vn') (hk' : KLn vk' 0) (hd' : d'.bd) : Spec aW 29 [.agg (d.c vm vn vk), (.agg (d'.c vm' vn' vk'))] [] hs (eW (.bool (decide (d = d')))) := by
 have hd1 := hd.2.1.1
 have hd2 := hd.2.2.1
 have hd1' := hd'.2.1.1
 have hd2' := hd'.2.2.1
 refine ak (eX 29 Tryz.func29) rfl (m := 144) rfl (rs := [.tmp 4]) rfl (st := [(0, .agg (d.c vm vn vk)), (1, (.agg (d'.c vm' vn' vk')))]) rfl rfl (fun _ => rfl) (fun E => zr (WO.box rfl (ep hm.cell hn.cell hk.cell) (rz _ rfl) rfl (fun b1 => WO.box rfl (ep hm'.cell hn'.cell hk'.cell) (rz _ rfl) rfl (fun b2 => za rfl (zk (W.seq (zr (zf dq rfl 0 (zq (ag rfl (zt 1 rfl) dn rfl) (zf dq rfl 0 (zq (ag rfl (zt 0 rfl) dn rfl) (zq (aa rfl rfl rfl (bV fH)) (zm rfl (aR (d := 13) rfl (fun hc13 => ?_) (fun hc13 => ?_)))))))))))))))
 ·refine z2 (z2 (zG (zq (au rfl rfl) (zm rfl (z2 (z2 (zG (zq (au rfl rfl) (zm rfl (z2 (z2 (zG (zq (au rfl rfl) (zm rfl (z2 (zg rfl rfl ?_))))))))))))))))
  refine z2 (zq (au rfl rfl) (zm rfl (z2 (z2 (zG (zq (au rfl rfl) (zm rfl (z2 (z2 (zG (zq (au rfl rfl) (zm rfl (z2 (z2 (zG (zq (au rfl rfl) ?_))))))))))))))))
  refine zm rfl (z2 (z2 (z2 (zG (zq (au rfl rfl) (zm rfl (z2 (z2 (z2 (zG (zq (au rfl rfl) (zm rfl (z2 (z2 (zg rfl rfl ?_)))))))))))))))
  refine z2 (zq (au rfl rfl) (zk (W.sub (zc 88 rfl (zc 3 rfl (zc 2 rfl bE))) (aO rfl (zr (za rfl (zk (W.ret (ac (ab (z1 rfl) ?_))))))))))
  exact congrArg AV.bool (decide_eq_false (fun e => by subst e; simp_all)).symm
 refine zT (zf iM rfl 1 (zT (zq (ag rfl (zt 1 rfl) sN rfl) (zT (zf iM rfl 1 (zT (zq (ag rfl (zt 0 rfl) sN rfl) (zT (zq (aa rfl rfl rfl lI) (zq (aG rfl rfl) (zm rfl (aR (d := 20) rfl (fun hc20 => ?_) (fun hc20 => ?_)))))))))))))
 ·refine z2 (z2 (zG (zq (au rfl rfl) (zm rfl (z2 (z2 (zG (zq (au rfl rfl) (zm rfl (z2 (z2 (zG (zq (au rfl rfl) (zm rfl (z2 (zg rfl rfl ?_))))))))))))))))
  refine z2 (zq (au rfl rfl) (zm rfl (z2 (z2 (zG (zq (au rfl rfl) (zm rfl (z2 (z2 (zG (zq (au rfl rfl) (zm rfl (z2 (z2 (zG (zg rfl rfl ?_))))))))))))))))
  refine zG (zq (au rfl rfl) (zm rfl (z2 (z2 (z2 (zG (zq (au rfl rfl) (zm rfl (z2 (z2 (z2 (zG (zq (au rfl rfl) (zk (W.sub (zc 88 rfl (zc 3 rfl (zc 2 rfl bE))) (aO rfl (zr ?_)))))))))))))))))
  refine za rfl (zk (W.ret (ac (ab (z1 rfl) ?_))))
  exact congrArg AV.bool (decide_eq_false (fun e => by subst e; simp_all)).symm
 refine zT (zf iN rfl 2 (zT (zq (ag rfl (zt 1 rfl) dn rfl) (zT (zf iN rfl 2 (zT (zq (ag rfl (zt 0 rfl) dn rfl) (zT (zq (aa rfl rfl rfl (bV fH)) (zq (aG rfl rfl) (zm rfl (aR (d := 27) rfl (fun hc27 => ?_) (fun hc27 => ?_)))))))))))))
 ·refine z2 (z2 (zG (zq (au rfl rfl) (zm rfl (z2 (z2 (zG (zq (au rfl rfl) (zm rfl (z2 (z2 (zG (zq (au rfl rfl) (zm rfl (z2 (zg rfl rfl ?_))))))))))))))))
  refine z2 (zq (au rfl rfl) (zm rfl (z2 (z2 (zG (zq (au rfl rfl) (zm rfl (z2 (z2 (z2 (zG (zq (au rfl rfl) (zm rfl (z2 (zG (zg rfl rfl ?_))))))))))))))))
  refine z2 (zG (zq (au rfl rfl) (zm rfl (z2 (z2 (z2 (zG (zq (au rfl rfl) (zk (W.sub (zc 88 rfl (zc 3 rfl (zc 2 rfl bE))) (aO rfl (zr (za rfl (zk (W.ret (ac (ab (z1 rfl) ?_)))))))))))))))))
  exact congrArg AV.bool (decide_eq_false (fun e => by subst e; simp_all)).symm
 refine zT (zf kC rfl 4 (zT (zq (ag rfl (zt 1 rfl) dn rfl) (zT (zf kC rfl 4 (zT (zq (ag rfl (zt 0 rfl) dn rfl) (zT (zq (aa rfl rfl rfl (bV fH)) (zq (aG rfl rfl) (zm rfl (aR (d := 34) rfl (fun hc34 => ?_) (fun hc34 => ?_)))))))))))))
 ·refine z2 (z2 (zG (zq (au rfl rfl) (zm rfl (z2 (z2 (zG (zq (au rfl rfl) (zm rfl (z2 (z2 (zG (zq (au rfl rfl) (zm rfl (z2 (zg rfl rfl ?_))))))))))))))))
  refine z2 (zq (au rfl rfl) (zm rfl (z2 (z2 (z2 (zG (zq (au rfl rfl) (zm rfl (z2 (z2 (z2 (zG (zq (au rfl rfl) (zm rfl (zG (zg rfl rfl ?_))))))))))))))))
  refine z2 (z2 (zG (zq (au rfl rfl) (zk (W.sub (zc 88 rfl (zc 3 rfl (zc 2 rfl bE))) (aO rfl (zr (za rfl (zk (W.ret (ac (ab (z1 rfl) ?_))))))))))))
  exact congrArg AV.bool (decide_eq_false (fun e => by subst e; simp_all)).symm
 refine zT (zf kD rfl 5 (zT (zq (ag rfl (zt 1 rfl) dn rfl) (zT (zf kD rfl 5 (zT (zq (ag rfl (zt 0 rfl) dn rfl) (zT (zq (aa rfl rfl rfl (bV fH)) (zq (aG rfl rfl) (zm rfl (aR (d := 41) rfl (fun hc41 => ?_) (fun hc41 => ?_)))))))))))))
 ·refine z2 (z2 (zG (zq (au rfl rfl) (zm rfl (z2 (z2 (zG (zq (au rfl rfl) (zm rfl (z2 (z2 (zG (zq (au rfl rfl) (zm rfl (z2 (zg rfl rfl ?_))))))))))))))))
  refine z2 (z2 (zq (au rfl rfl) (zm rfl (z2 (z2 (z2 (zG (zq (au rfl rfl) (zm rfl (z2 (z2 (z2 (zG (zq (au rfl rfl) (zk ?_)))))))))))))))
  refine W.sub (zc 88 rfl (zc 3 rfl (zc 2 rfl bE))) (aO rfl (zr (za rfl (zk (W.ret (ac (ab (z1 rfl) ?_)))))))
  exact congrArg AV.bool (decide_eq_false (fun e => by subst e; simp_all)).symm
 refine zT (zf kE rfl 6 (zT (zq (ag rfl (zt 1 rfl) dn rfl) (zT (zf kE rfl 6 (zT (zq (ag rfl (zt 0 rfl) dn rfl) (zT (zq (aa rfl rfl rfl (bV fH)) (zq (aG rfl rfl) (zm rfl (aR (d := 48) rfl (fun hc48 => ?_) (fun hc48 => ?_)))))))))))))
 ·refine z2 (z2 (zG (zq (au rfl rfl) (zm rfl (z2 (z2 (zG (zq (au rfl rfl) (zm rfl (z2 (z2 (z2 (zG (zq (au rfl rfl) (zm rfl (zg rfl rfl ?_))))))))))))))))
  refine z2 (z2 (z2 (zq (au rfl rfl) (zm rfl (z2 (z2 (z2 (zG (zq (au rfl rfl) (zk (W.sub (zc 88 rfl (zc 3 rfl (zc 2 rfl bE))) (aO rfl (zr (za rfl (zk (W.ret (ac (ab (z1 rfl) ?_))))))))))))))))))
  exact congrArg AV.bool (decide_eq_false (fun e => by subst e; simp_all)).symm
 refine zT (zf kF rfl 8 (zT (zq (ag rfl (zt 1 rfl) dn rfl) (zT (zf kF rfl 8 (zT (zq (ag rfl (zt 0 rfl) dn rfl) (zT (zq (aa rfl rfl rfl (bV fH)) (zq (aG rfl rfl) (zm rfl (aR (d := 55) rfl (fun hc55 => ?_) (fun hc55 => ?_)))))))))))))
 ·refine z2 (z2 (zG (zq (au rfl rfl) (zm rfl (z2 (z2 (z2 (zG (zq (au rfl rfl) (zm rfl (z2 (z2 (z2 (zG (zq (au rfl rfl) ?_)))))))))))))))
  refine zm rfl (z2 (z2 (z2 (zG (zq (au rfl rfl) (zk (W.sub (zc 88 rfl (zc 3 rfl (zc 2 rfl bE))) (aO rfl (zr (za rfl (zk (W.ret (ac (ab (z1 rfl) ?_))))))))))))))
  exact congrArg AV.bool (decide_eq_false (fun e => by subst e; simp_all)).symm
 refine zT (zf kG rfl 9 (zT (zq (ag rfl (zt 1 rfl) uX rfl) (zT (zf kG rfl 9 (zT (zq (ag rfl (zt 0 rfl) uX rfl) (zT (zq (aa rfl rfl rfl (vp Dr)) (zq (aG rfl rfl) (zm rfl (WO.split (d := 62) rfl (fun hc62 => ?_) (fun hc62 => ?_)))))))))))))
 ·refine z2 (z2 (z2 (zG (zq (au rfl rfl) (zm rfl (z2 (z2 (z2 (zG (zq (au rfl rfl) (zm rfl (z2 (z2 (zG (zg rfl rfl ?_)))))))))))))))
  refine zG (zq (au rfl rfl) (zk (W.sub (zc 88 rfl (zc 3 rfl (zc 2 rfl bE))) (aO rfl (zr (za rfl (zk (W.ret (ac (ab (z1 rfl) ?_))))))))))
  exact congrArg AV.bool (decide_eq_false (fun e => by subst e; simp_all)).symm
 refine zT (zf dr rfl 3 (zT (zq (ag rfl (zt 1 rfl) jp rfl) (zT (zq (Q.len gz rfl hm.len) (zT (zf dr rfl 3 (zT (zq (ag rfl (zt 0 rfl) jp rfl) (zT (zq (Q.len gz rfl hm'.len) (zT (zq (aa rfl rfl rfl (bV er)) (zq (aG rfl rfl) (zm rfl (aR (d := 71) rfl (fun hc71 => ?_) (fun hc71 => ?_)))))))))))))))))
 ·refine z2 (z2 (z2 (zG (zq (au rfl rfl) (zm rfl (z2 (z2 (z2 (zG (zq (au rfl rfl) (zk (W.sub (zc 88 rfl (zc 3 rfl (zc 2 rfl bE))) (aO rfl (zr (za rfl (zk (W.ret ?_)))))))))))))))))
  refine ac (ab (z1 rfl) ?_)
  exact congrArg AV.bool (decide_eq_false (fun e => by subst e; simp_all)).symm
 refine zT (zf dt rfl 7 (zT (zq (ag rfl (zt 1 rfl) jq rfl) (zT (zq (Q.len gA rfl hn.len) (zT (zf dt rfl 7 (zT (zq (ag rfl (zt 0 rfl) jq rfl) (zT (zq (Q.len gA rfl hn'.len) (zT (zq (aa rfl rfl rfl (bV er)) (zq (aG rfl rfl) (zm rfl (aR (d := 80) rfl (fun hc80 => ?_) (fun hc80 => ?_)))))))))))))))))
 ·refine z2 (z2 (z2 (zG (zq (au rfl rfl) (zk (W.sub (zc 88 rfl (zc 3 rfl (zc 2 rfl bE))) (aO rfl (zr (za rfl (zk (W.ret (ac (ab (z1 rfl) ?_)))))))))))))
  exact congrArg AV.bool (decide_eq_false (fun e => by subst e; simp_all)).symm
 refine zT (zf cG rfl 10 (zT (zq (ag rfl (zt 1 rfl) jN rfl) (zT (zq (Q.len km rfl hk.len) (zT (zf cG rfl 10 (zT (zq (ag rfl (zt 0 rfl) jN rfl) (zT (zq (Q.len km rfl hk'.len) (zT (zq (aa rfl rfl rfl (bV er)) (zq (aG rfl rfl) (zk (W.sub (zc 88 rfl (zc 3 rfl (zc 2 rfl bE))) (aw rfl (fun hc88 => ?_) (fun hc88 => ?_))))))))))))))))))
 ·refine zr (za rfl (zk (W.ret (ac (ab (z1 rfl) ?_)))))
  exact congrArg AV.bool (decide_eq_false (fun e => by subst e; simp_all)).symm
 refine zw (W.seq (zr (za (zi 0) (zk (W.block (az (fun (i : Nat) => [(2, .ptr b1 0), (3, .ptr b2 0), (5, .int .i64 ((i : Nat) : Int))]) (fun (i : Nat) => (⟨b2, ⟨11, true, d'.c vm' vn' vk'⟩, true⟩ :: ⟨b1, ⟨11, true, d.c vm vn vk⟩, true⟩ :: hs)) (fun (i : Nat) => i <= d.ms.length /\ ∀ j, j < i -> d.ms[j]? = d'.ms[j]?) (fun (i : Nat) => d.ms.length - i) (0) ⟨Nat.zero_le _, fun j h => absurd h (Nat.not_lt_zero _)⟩ zv (SubH.refl _) (fun i hI0 ih0 => ?_)))))))
 obtain ⟨h1, hqm⟩ := hI0
 refine W.seq (zr (zm rfl (zf dr rfl 3 (zq (ag rfl (zt 1 rfl) jp rfl) (zq (Q.len gz rfl hm.len) (zq (aa rfl rfl rfl (fi fv)) (zk (aw rfl (fun hc93 => ?_) (fun hc93 => ?_)))))))))
 ·obtain ⟨bm, szm, exm, rfl, wm, mm⟩ := hm.full zy
  obtain ⟨bm2, szm2, exm2, rfl, wm2, mm2⟩ := hm'.full zy
  refine zw (W.seq (W.block (W.seq (dD (by kernel_rfl) (zf dr rfl 3 (zq (ag rfl (zt 1 rfl) jp rfl) (zm rfl (zq (aQ gz jt rfl rfl zo) (zq (aD rfl (List.mem_cons_of_mem _ (List.mem_cons_of_mem _ mm)) tU jt (nF zo)) (zf dr rfl 3 (zq (ag rfl (zt 0 rfl) jp rfl) (zm rfl (zq (aQ gz jt rfl rfl zo) (zq (aD rfl (List.mem_cons_of_mem _ (List.mem_cons_of_mem _ mm2)) tU jt (nF zo)) (zq (aa rfl rfl rfl AI) (zk (W.sub (zc 106 rfl (zc 2 rfl (zc 3 rfl (zc 5 rfl bE)))) (aw rfl (fun hc106 => ?_) (fun hc106 => ?_)))))))))))))))))))
  ·refine zr (za rfl (zk (W.ret (ah (ac (cW (ah (ac (ab (z1 rfl) ?_)))))))))
   exact congrArg AV.bool (decide_eq_false (fun e => by subst e; simp_all)).symm
  refine W.skip (End.KB (End.K (ay (zm rfl (zq (aa rfl (zi 1) rfl zp) (za rfl (WO.nil (End.KL (W.sub zv (bG gc (ih0 (i + 1) ?_ ?_)))))))))))
  ·exact ⟨by omega, fun j hj => by rcases Nat.lt_or_ge j i with q | q; exact hqm j q; obtain rfl : j = i := zy; rw [qB zy, qB zy]; simp_all⟩
  exact zo
 have hM : d.ms = d'.ms := mz zy fun j hj => hqm j zy
 refine W.exit (aJ (aM (aI (End.K (W.seq (zr (za (zi 0) (zk (W.block (az (fun (i : Nat) => [(2, .ptr b1 0), (3, .ptr b2 0), (6, .int .i64 ((i : Nat) : Int))]) (fun (i : Nat) => (⟨b2, ⟨11, true, d'.c vm' vn' vk'⟩, true⟩ :: ⟨b1, ⟨11, true, d.c vm vn vk⟩, true⟩ :: hs)) (fun (i : Nat) => i <= d.nm.length /\ ∀ j, j < i -> d.nm[j]? = d'.nm[j]?) (fun (i : Nat) => d.nm.length - i) (0) ⟨Nat.zero_le _, fun j h => absurd h (Nat.not_lt_zero _)⟩ zv (SubH.refl _) (fun i hI1 ih1 => ?_)))))))))))
 obtain ⟨h1, hqn⟩ := hI1
 refine W.seq (zr (zm rfl (zf dt rfl 7 (zq (ag rfl (zt 1 rfl) jq rfl) (zq (Q.len gA rfl hn.len) (zq (aa rfl rfl rfl (fi fv)) (zk (aw rfl (fun hc111 => ?_) (fun hc111 => ?_)))))))))
 ·obtain ⟨bn, szn, exn, rfl, wn, mn⟩ := hn.full zy
  obtain ⟨bn2, szn2, exn2, rfl, wn2, mn2⟩ := hn'.full zy
  refine zw (W.seq (W.block (W.seq (dD (by kernel_rfl) (zf dt rfl 7 (zq (ag rfl (zt 1 rfl) jq rfl) (zm rfl (zq (aQ gA yO rfl rfl zo) (zq (ag rfl (List.mem_cons_of_mem _ (List.mem_cons_of_mem _ mn)) sN (nG zo)) (zf dt rfl 7 (zq (ag rfl (zt 0 rfl) jq rfl) (zm rfl (zq (aQ gA yO rfl rfl zo) (zq (ag rfl (List.mem_cons_of_mem _ (List.mem_cons_of_mem _ mn2)) sN (nG zo)) (zq (aa rfl rfl rfl lI) (zk (W.sub (zc 124 rfl (zc 2 rfl (zc 3 rfl (zc 6 rfl bE)))) (aw rfl (fun hc124 => ?_) (fun hc124 => ?_)))))))))))))))))))
  ·refine zr (za rfl (zk (W.ret (ah (ac (cW (ah (ac (ab (z1 rfl) ?_)))))))))
   exact congrArg AV.bool (decide_eq_false (fun e => by subst e; simp_all)).symm
  refine W.skip (End.KB (End.K (ay (zm rfl (zq (aa rfl (zi 1) rfl zp) (za rfl (WO.nil (End.KL (W.sub zv (bG gc (ih1 (i + 1) ?_ ?_)))))))))))
  ·exact ⟨by omega, fun j hj => by rcases Nat.lt_or_ge j i with q | q; exact hqn j q; obtain rfl : j = i := zy; rw [qV zy, qV zy]; simp_all⟩
  exact zo
 have hN : d.nm = d'.nm := mz zy fun j hj => hqn j zy
 refine W.exit (aJ (aM (aI (End.K (W.seq (zr (za (zi 0) (zk (W.block (az (fun (i : Nat) => [(2, .ptr b1 0), (3, .ptr b2 0), (7, .int .i64 ((i : Nat) : Int))]) (fun (i : Nat) => (⟨b2, ⟨11, true, d'.c vm' vn' vk'⟩, true⟩ :: ⟨b1, ⟨11, true, d.c vm vn vk⟩, true⟩ :: hs)) (fun (i : Nat) => i = 0) (fun (i : Nat) => 0 - i) (0) rfl zv (SubH.refl _) (fun i hI2 ih2 => ?_)))))))))))
 have h1 := hI2
 refine W.seq (zr (zm rfl (zf cG rfl 10 (zq (ag rfl (zt 1 rfl) jN rfl) (zq (Q.len km rfl hk.len) (zq (aa rfl rfl rfl (fi fv)) (zk (aw rfl (fun hc129 => ?_) (fun hc129 => ?_)))))))))
 ·(exfalso; omega)
 refine W.exit (aJ (aM (aI (End.K (zr (za rfl (zk (W.ret (ab (z1 rfl) ?_)))))))))
 exact congrArg AV.bool (by obtain ⟨k, o, n, m, r, f, e, s, i, b⟩ := d; obtain ⟨k', o', n', m', r', f', e', s', i', b'⟩ := d'; simp_all; try (cases b <;> cases b' <;> rfl))

theorem vc (hs : ad) (hro : ∀ e ∈ hs, e.w = false) (d d' : ND) (A A' : List Int) (nk nk' : Nat) (vm vn vk va vm' vn' vk' va' : AV) (hx : IOK hs (⟨d, A, nk, vm, vn, vk, va⟩ : IE)) (hy : IOK hs (⟨d', A', nk', vm', vn', vk', va'⟩ : IE)) (hk : KLn vk 0) (hk' : KLn vk' 0) (hb : IBd (⟨d, A, nk, vm, vn, vk, va⟩ : IE)) (hb' : IBd (⟨d', A', nk', vm', vn', vk', va'⟩ : IE)) : Spec aW 26 [.agg (IE.c (⟨d, A, nk, vm, vn, vk, va⟩ : IE)), (.agg (IE.c (⟨d', A', nk', vm', vn', vk', va'⟩ : IE)))] [] hs (eW (.bool (decide ((d, A) = (d', A'))))) := by
 refine ak (eX 26 Tryz.func26) rfl (m := 17) rfl (rs := [.tmp 4]) rfl (st := [(0, .agg (IE.c (⟨d, A, nk, vm, vn, vk, va⟩ : IE))), (1, (.agg (IE.c (⟨d', A', nk', vm', vn', vk', va'⟩ : IE))))]) rfl rfl (fun _ => rfl) (fun E => zr (WO.box rfl hx.cells (pX _ rfl) rfl (fun b1 => WO.box rfl hy.cells (pX _ rfl) rfl (fun b2 => za rfl (zk (zr (zf aV rfl 0 (zq (zL rfl (zt 1 rfl) jD iu rfl) (zf aV rfl 0 (zq (zL rfl (zt 0 rfl) jD iu rfl) (aB rfl (aY rfl (aY rfl oz)) rfl (yu hs hro d d' _ _ _ _ _ _ hx.m hx.n hk hb.d hy.m hy.n hk' hb'.d) (SubR.t (SubR.t (aZ hro))) rfl (zm rfl (aR (d := 10) rfl (fun hc10 => ?_) (fun hc10 => ?_))))))))))))))
 ·refine zT (zf bP rfl 11 (zT (zq (ag rfl (zt 1 rfl) eZ rfl) (zT (zf bP rfl 11 (zT (zq (ag rfl (zt 0 rfl) eZ rfl) (zT (aB rfl (aY rfl (aY rfl oz)) rfl (uI hs hro A A' _ _ hx.a hy.a hb.a hb'.a) (SubR.t (SubR.t (aZ hro))) rfl (zq (au rfl rfl) (za rfl (zk (W.sub (zc 4 rfl bE) (W.ret (ab (z1 rfl) ?_)))))))))))))))
  exact congrArg AV.bool (by simp_all)
 refine z2 (z2 (zG (zq (aG rfl rfl) (za rfl (zk (W.sub (zc 4 rfl bE) (W.ret (ab (z1 rfl) ?_))))))))
 exact congrArg AV.bool (by simp_all)
end Go.Proofs.YtndhhgbpcmfeiaaGreatDoor.Ev
