/- ExecCounts, as a walk. -/
import Derived.Test.YtfkbfnpjggkdmaaGreatDoorCEax
namespace Go.Proofs.YtfkbfnpjggkdmaaGreatDoor.Ev
open Go.RowKit
set_option maxRecDepth 100000
set_option maxHeartbeats 1000000
theorem IV {R : List bV} (h : ∀ j, j < R.length -> JH (rg R j)) : rj (aV R) := fun x hx => by
 obtain ⟨y, hy, rfl⟩ := List.mem_map.1 hx
 obtain ⟨i, hi, e⟩ := List.getElem_of_mem hy
 have h := h i hi
 have e2 : rg R i = y := by
  unfold rg
  rw [List.getD_eq_getElem?_getD, List.getElem?_eq_getElem hi]
  exact e
 rw [e2] at h
 exact ⟨h.1, h.2.1⟩
theorem Da {L : List (List bA × List bP)} {e r : Int} : (i6 L e r).length <= 1 := by
 unfold i6
 split <;> simp
theorem B2 {S : List bP} {z : Int} {k : Nat} (h : k < S.length) (h1 : 0 < (sg S (0 + k)).1) (h2 : (sg S (0 + k)).1 <= z) : uH S z (k + 1) = uH S z k + 1 := by
 rw [Nat.zero_add] at h1 h2
 exact Eo h h1 h2
theorem ya {S : List bP} {z : Int} {k : Nat} (h : k < S.length) (h1 : ¬ (0 < (sg S (0 + k)).1 /\ (sg S (0 + k)).1 <= z)) : uH S z (k + 1) = uH S z k := by
 rw [Nat.zero_add] at h1
 exact GB h h1
theorem rh {R : List bV} {i c d k : Nat} {z : Int} {has : Bool} (hi : i < R.length) (hc : c = kG (aV (R.take i)) z) (hd : d = c + uH (rg R (0 + i)).2.2.2 z k) (hh : has = rD (rg R (0 + i)).2.1 (rg R (0 + i)).2.1.length) (h : (has = false /\ k = 0) \/ ((rg R (0 + i)).2.2.2.length = k /\ (has = false -> k = 0))) : d = kG (aV (R.take (i + 1))) z := by
 rw [Nat.zero_add] at hd hh h
 rw [Di hi, <- hc, <- hh, hd]
 have h0 : uH (rg R i).2.2.2 z 0 = 0 := rfl
 cases has with
 | false =>
  have e : k = 0 := by rcases h with h | h; exact h.2; exact h.2 rfl
  rw [e, h0, if_neg (by simp)]
 | true =>
  rcases h with h | h
  ·cases h.1
  ·rw [if_pos rfl, h.1]
theorem J6 : PL tab 62 [.int .i64 0, .str [], .str []] [(0, 1), (1, 1), (2, 1)] = true := by kernel_rfl
theorem counts_spec (hs : af) (hro : ∀ e ∈ hs, e.w = false) (R : List bV) (v : AV) (hR : RSl hs R 0 v) (hRA : RAll hs R) (hRb : kp R) (ri ni : Int) : SpecX jC tab 6 [v, .int .i64 ri, .int .i64 ni] [] hs (fun u D => u = .bool true /\ D = []) (fun _ => False) := by
 refine SpecX.enter (bz 6 Tryz.func6) rfl (m := 187) rfl (rs := [.tmp 6]) rfl (st := [(0, v), (1, .int .i64 ri), (2, .int .i64 ni)]) rfl rfl (fun _ => rfl) Ff (fun E => Ev.X.seq (Ev.X.w (W.reg (za rfl (WO.nil (XEnd.K (Ev.X.seq (Ev.X.seq (Ev.X.w (W.reg (zm rfl (WO.callE rfl (aj rfl oz) rfl (Hh hs hro R v hR hRA hRb) (aN hro) rfl (fun v20 hP20 => ?_)))))))))))))
 obtain ⟨ce, rfl, hce⟩ := hP20
 refine zq (aa rfl (zi 0) rfl (bd f5)) (zm rfl (aC (d := 22) rfl (fun hc22 => ?_) (fun hc22 => ?_)))
 ·refine z2 (zq (aA rfl rfl) (zm rfl (z2 (zq (aA rfl rfl) (zm rfl (z2 (zq (aA rfl rfl) (zm rfl (z2 (zq (aA rfl rfl) (zm rfl (z2 (zG (zq (aA rfl rfl) (zm rfl (z2 (zg rfl rfl ?_)))))))))))))))))
  refine zq (aA rfl rfl) (WO.nil (XEnd.K (Ev.X.sub (zc 47 rfl (zc 0 rfl (zc 1 rfl (zc 2 rfl aI)))) (Ev.X.condT rfl (Ev.X.seq (Ev.X.w (W.reg (ak rfl oz rfl dV SubR.nil rfl (za rfl (WO.nil (XEnd.K (Ev.X.ret ?_))))))))))))
  refine eA (XEnd.ret (z1 rfl) (hs' := []) ⟨rfl, rfl⟩ dB (SubH.nil _))
 refine zT (zm rfl (zT (zq (aa rfl (zi 1) rfl (bu (bS _ _))) (zq (aF rfl rfl) (zm rfl (aC (d := 26) rfl (fun hc26 => ?_) (fun hc26 => ?_)))))))
 ·refine z2 (zq (aA rfl rfl) (zm rfl (z2 (zq (aA rfl rfl) (zm rfl (z2 (zq (aA rfl rfl) (zm rfl (z2 (zG (zq (aA rfl rfl) (zm rfl (z2 (zG (zq (aA rfl rfl) (WO.nil (XEnd.K (Ev.X.sub (zc 47 rfl (zc 0 rfl (zc 1 rfl (zc 2 rfl aI)))) ?_))))))))))))))))))
  refine Ev.X.condT rfl (Ev.X.seq (Ev.X.w (W.reg (ak rfl oz rfl dV SubR.nil rfl (za rfl (WO.nil (XEnd.K (Ev.X.ret ?_))))))))
  refine eA (XEnd.ret (z1 rfl) (hs' := []) ⟨rfl, rfl⟩ dB (SubH.nil _))
 refine zT (zm rfl (zT (zq (aa rfl (zi 1000000) rfl (aJ (bS _ _))) (zq (aF rfl rfl) (zm rfl (aC (d := 30) rfl (fun hc30 => ?_) (fun hc30 => ?_)))))))
 ·refine z2 (zq (aA rfl rfl) (zm rfl (z2 (zq (aA rfl rfl) (zm rfl (z2 (zG (zq (aA rfl rfl) (zm rfl (z2 (zG (zq (aA rfl rfl) (WO.nil (XEnd.K (Ev.X.sub (zc 47 rfl (zc 0 rfl (zc 1 rfl (zc 2 rfl aI)))) (Ev.X.condT rfl (Ev.X.seq (Ev.X.w (W.reg (ak rfl oz rfl dV SubR.nil rfl ?_))))))))))))))))))))
  refine za rfl (WO.nil (XEnd.K (Ev.X.ret ?_)))
  refine eA (XEnd.ret (z1 rfl) (hs' := []) ⟨rfl, rfl⟩ dB (SubH.nil _))
 refine zT (zm rfl (zT (zq (aa rfl (zi 1) rfl (bu (bS _ _))) (zq (aF rfl rfl) (zm rfl (aC (d := 34) rfl (fun hc34 => ?_) (fun hc34 => ?_)))))))
 ·refine z2 (zq (aA rfl rfl) (zm rfl (z2 (zG (zq (aA rfl rfl) (zm rfl (z2 (zG (zq (aA rfl rfl) (WO.nil (XEnd.K (Ev.X.sub (zc 47 rfl (zc 0 rfl (zc 1 rfl (zc 2 rfl aI)))) (Ev.X.condT rfl (Ev.X.seq (Ev.X.w (W.reg (ak rfl oz rfl dV SubR.nil rfl (za rfl (WO.nil (XEnd.K (Ev.X.ret ?_)))))))))))))))))))))
  refine eA (XEnd.ret (z1 rfl) (hs' := []) ⟨rfl, rfl⟩ dB (SubH.nil _))
 refine zT (zm rfl (zT (zq (aa rfl (zi 30) rfl (aJ (bS _ _))) (zq (aF rfl rfl) (zm rfl (aC (d := 38) rfl (fun hc38 => ?_) (fun hc38 => ?_)))))))
 ·refine z2 (zG (zq (aA rfl rfl) (zm rfl (z2 (zG (zq (aA rfl rfl) (WO.nil (XEnd.K (Ev.X.sub (zc 47 rfl (zc 0 rfl (zc 1 rfl (zc 2 rfl aI)))) (Ev.X.condT rfl (Ev.X.seq (Ev.X.w (W.reg (ak rfl oz rfl dV SubR.nil rfl (za rfl (WO.nil (XEnd.K (Ev.X.ret ?_))))))))))))))))))
  refine eA (XEnd.ret (z1 rfl) (hs' := []) ⟨rfl, rfl⟩ dB (SubH.nil _))
 refine zT (zm rfl (zT (zq (Q.len dA rfl (RSl.len hR)) (zT (zq (aa rfl (zi 40) rfl (aJ bY)) (zq (aF rfl rfl) (zm rfl (aC (d := 43) rfl (fun hc43 => ?_) (fun hc43 => ?_)))))))))
 ·refine z2 (zG (zq (aA rfl rfl) (WO.nil (XEnd.K (Ev.X.sub (zc 47 rfl (zc 0 rfl (zc 1 rfl (zc 2 rfl aI)))) (Ev.X.condT rfl (Ev.X.seq (Ev.X.w (W.reg (ak rfl oz rfl dV SubR.nil rfl (za rfl (WO.nil (XEnd.K (Ev.X.ret ?_))))))))))))))
  refine eA (XEnd.ret (z1 rfl) (hs' := []) ⟨rfl, rfl⟩ dB (SubH.nil _))
 refine zT (zm rfl (zT (WO.callE rfl (aj rfl oz) rfl (tA hs hro R v hR hRA hRb) (aN hro) rfl (fun v45 hP45 => ?_))))
 obtain ⟨cn, rfl⟩ := hP45
 refine zT (zq (aa rfl (zi 400) rfl (aJ (bS _ _))) (zq (aF rfl rfl) (WO.nil (XEnd.K (Ev.X.sub (zc 47 rfl (zc 0 rfl (zc 1 rfl (zc 2 rfl aI)))) (Ev.X.condDS rfl (fun hc47 => ?_) (fun hc47 => ?_)))))))
 ·refine Ev.X.seq (Ev.X.w (W.reg (ak rfl oz rfl dV SubR.nil rfl (za rfl (WO.nil (XEnd.K (Ev.X.ret ?_)))))))
  refine eA (XEnd.ret (z1 rfl) (hs' := []) ⟨rfl, rfl⟩ dB (SubH.nil _))
 obtain ⟨r, rfl⟩ : ∃ r : Nat, ri = (r : Int) := ⟨ri.toNat, by omega⟩
 obtain ⟨n, rfl⟩ : ∃ n : Nat, ni = (n : Int) := ⟨ni.toNat, by omega⟩
 have hr0 : 0 < r := by omega
 have hrb : r <= 1000000 := by omega
 have hn1 : 1 <= n := by omega
 have hn30 : n <= 30 := by omega
 have hR40 : R.length <= 40 := by omega
 have hRok := hce zy
 have hLS := IV hRok
 have hnr : n * r <= 30000000 := Nat.le_trans (Nat.mul_le_mul hn30 hrb) (by decide)
 have hzr : r <= n * r := Nat.le_mul_of_pos_left _ hn1
 refine Ev.X.skip (XEnd.K (Ev.X.seq (Ev.X.w (W.reg (zq (Q.build J6 (cy (zi 3) (cy (oc (v := .str [97]) (by kernel_rfl)) (cy (oc (v := .str [46, 43]) (by kernel_rfl)) dE))) rfl (cs := [_, _, _]) rfl) (WO.bslice v8 vY JD rfl (cy rfl dE) rfl (cs := [_, _, _]) rfl rfl rfl (fun b1 => zm rfl (zq (zB Hc (cy (zi 2) (cy rfl (cy rfl dE))) rfl rfl) (zq (Q.build Hd (cy rfl dE) rfl (cs := [_, _, _, _, _, _, _, _, _, _, _, _]) rfl) (zq (zB Hc (cy (zi 3) (cy (oc (v := .str [99, 111, 117, 110, 116, 95, 111, 118, 101, 114, 95, 116, 105, 109, 101]) (by kernel_rfl)) dE)) rfl rfl) (WO.bslice aP dn sS rfl (cy (zi 0) dE) rfl (cs := [_]) rfl rfl rfl (fun b2 => zq (Q.build Hd (cy rfl (cy rfl dE)) rfl (cs := [_, _, _, _, _, _, _, _, _, _, _, _]) rfl) (zq (zB Hc (cy (zi 4) (cy (oc (v := .str [115, 117, 109]) (by kernel_rfl)) dE)) rfl rfl) (WO.bslice aP dn sS rfl (cy (zi 1) dE) rfl (cs := [_]) rfl rfl rfl (fun b3 => zq (Q.build Hd (cy rfl (cy rfl dE)) rfl (cs := [_, _, _, _, _, _, _, _, _, _, _, _]) rfl) (WO.bslice fR dz Kk rfl (cy rfl (cy rfl (cy rfl dE))) rfl (cs := [_, _, _, _, _, _, _, _, _, _, _, _, _, _, _, _, _, _, _, _, _, _, _, _, _, _, _, _, _, _, _, _, _, _, _, _]) rfl rfl rfl (fun b4 => za rfl (WO.nil (XEnd.K (Ev.X.seq (Ev.X.reg (XO.pre 9 (zm rfl (zm rfl ?_))))))))))))))))))))))))
 refine WO.call0 rfl (aj rfl oz) rfl (Ac v (RSl.cell hR)) SubR.nil rfl (fun v64 D64 hP64 => ?_)
 obtain ⟨bx64, xx64, rfl, rfl⟩ := hP64
 refine zm rfl (zm rfl (zm rfl (zq (aa rfl rfl rfl (oF (pP zo))) (zm rfl (zq (Q.build J4 (cy rfl (cy rfl (cy rfl (cy (zi 1099511627776) dE)))) rfl (cs := [_, _, _, _]) rfl) (WO.nil (eC (XO.call (M := []) (A := _) rfl (aj rfl (aj rfl (aj rfl oz))) rfl dB (SubH.refl _) (Jm (⟨b1, ⟨3, true, qP [mA]⟩, false⟩ :: hs) (fO hro) R v (hR.mono fun b o h => MemH.tl h) (hRA.mono fun b o h => MemH.tl h) hRb [mA] (.slice b1 0 1 3) (.inr ⟨b1, 3, true, rfl, _, List.mem_cons_self⟩) GT b4 true b2 b3 true true bx64 r (n * r) n hr0 hrb hn1 hn30 rfl hnr hzr xx64 Il hLS zy) (SubR.ix (K := [_, _, _, _, _]) (ix := [1, 3, 2, 0, 4]) (A := [_, _, _, _, _]) rfl (by decide) (aN hro)) rfl (fun l hB => False.elim hB) (fun v71 D71 hP71 => ?_)))))))))
 obtain ⟨k9, e9, rv, m, cells, H, G, rfl, rfl, hO, hRn, hG⟩ := hP71
 refine XO.subH (hs' := _ :: _ :: _ :: _ :: _ :: (hs ++ (G ++ H))) (SubH.op (aw (N := []) (G := (G ++ H)) (K := [_, _, _, _, _]) (X := hs))) (XO.pre 6 (zm rfl (zq (Q.extract rfl rfl) (zq (Q.extract rfl rfl) (WO.alloc DK rfl (fun b5 => WO.store sK rfl rfl (i := 0) rfl (au rfl (au rfl (au (OwnE.cell hO) rfl))) (cs := [_, _]) rfl (hs' := _ :: _ :: _ :: _ :: _ :: _ :: _) rfl (za rfl (WO.nil (eC (XO.nil (XEnd.K (Ev.X.sub (zc 9 rfl (zc 8 rfl (zc 0 rfl (zc 1 rfl (zc 2 rfl aI))))) (Ev.X.seq (Ev.X.seq (Ev.X.w (W.reg (zm rfl (zq (aa rfl (zi 17) rfl (ai oR)) (WO.nil (XEnd.K (Ev.X.condDS rfl (fun hc75 => ?_) (fun hc75 => ?_))))))))))))))))))))))
 ·refine Ev.X.seq (Ev.X.w (W.reg (ak rfl oz rfl dV SubR.nil rfl (za rfl (WO.nil (XEnd.K (Ev.X.ret ?_)))))))
  refine eA (XEnd.ret (z1 rfl) (hs' := []) ⟨rfl, rfl⟩ dB (SubH.nil _))
 obtain ⟨rfl, MO, rfl, rfl, hMo⟩ := hRn.resolve_left hc75
 have hMl := hMo.1
 refine Ev.X.skip (XEnd.K (Ev.X.seq (Ev.X.w (W.reg (za (zi 0) (za (zi 0) (WO.nil (XEnd.K (Ev.X.seq (Ev.X.seq (Ev.X.w (W.reg (za (zi 0) (WO.nil (XEnd.K (Ev.X.block (Ev.X.loop_ind2 (fun (i : Nat) (s : Nat) => [(0, v), (1, .int .i64 ((r : Nat) : Int)), (2, .int .i64 ((n : Nat) : Int)), (8, .ptr b5 0), (9, .int .i64 0), (10, .int .i64 ((s : Nat) : Int)), (11, .int .i64 ((0 : Nat) : Int)), (12, .int .i64 ((i : Nat) : Int))]) (fun _ _ => _) (fun (i : Nat) (s : Nat) => i <= n /\ s = ut (fb [mA] 1 ((n * r : Nat) : Int) (aV R)) r i /\ s <= i * 268435456000000) (fun (i : Nat) (s : Nat) => n - i) (0) (0) ⟨Nat.zero_le _, rfl, Nat.zero_le _⟩ zv (SubH.refl _) (fun i s hI0 ih0 => ?_))))))))))))))))))
 obtain ⟨hi1, hs1, hsb⟩ := hI0
 refine Ev.X.seq (Ev.X.seq (Ev.X.w (W.reg (zm rfl (zf mz rfl 1 (zq (ag rfl (zt 0 rfl) AA rfl) (zq (Q.len Df rfl hO.len) (zq (aa rfl rfl rfl (bu bY)) (WO.nil (XEnd.K (Ev.X.condDS rfl (fun hc81 => ?_) (fun hc81 => ?_))))))))))))
 ·obtain ⟨brv, xrv, rfl, mrv⟩ := z5 hO zy
  obtain ⟨hme, hmn⟩ := hMo.2 i zy
  have hml := GR hmn
  have htl : (i6 (fb [mA] 1 ((n * r : Nat) : Int) (aV R)) (((i + 1) * r : Nat) : Int) ((r : Nat) : Int)).length <= 1 := Da
  have hTb : (i6 (fb [mA] 1 ((n * r : Nat) : Int) (aV R)) (((i + 1) * r : Nat) : Int) ((r : Nat) : Int)).sum <= 268435456000000 := E1 hRb zy
  refine Ev.X.skip (XEnd.K (Ev.X.seq (Ev.X.block (Ev.X.seq (Ev.X.w (W.reg (za (zi 0) (WO.nil (XEnd.K (Ev.X.block (Ev.X.loop_ind2 (fun (k : Nat) (t : Nat) => [(0, v), (1, .int .i64 ((r : Nat) : Int)), (2, .int .i64 ((n : Nat) : Int)), (8, .ptr b5 0), (9, .int .i64 0), (10, .int .i64 ((t : Nat) : Int)), (11, .int .i64 ((0 : Nat) : Int)), (12, .int .i64 ((i : Nat) : Int)), (13, .int .i64 ((k : Nat) : Int))]) (fun _ _ => _) (fun (k : Nat) (t : Nat) => k <= (ym MO i).2.2.length /\ t = s + ((i6 (fb [mA] 1 ((n * r : Nat) : Int) (aV R)) (((i + 1) * r : Nat) : Int) ((r : Nat) : Int)).take k).sum) (fun (k : Nat) (t : Nat) => (ym MO i).2.2.length - k) (0) (s) ⟨Nat.zero_le _, rfl⟩ zv (SubH.refl _) (fun k t hI1 ih1 => ?_))))))))))))
  obtain ⟨hk1, ht1⟩ := hI1
  have hts := j3 (i6 (fb [mA] 1 ((n * r : Nat) : Int) (aV R)) (((i + 1) * r : Nat) : Int) ((r : Nat) : Int)) k
  refine Ev.X.seq (Ev.X.seq (Ev.X.w (W.reg (zm rfl (zf mz rfl 1 (zq (ag rfl (zt 0 rfl) AA rfl) (zm rfl (zq (bj Df HB rfl rfl zo) (zq (Q.fieldAddr BJ rfl rfl) (zq (ag rfl (List.mem_cons_of_mem _ (List.mem_cons_of_mem _ (List.mem_cons_of_mem _ (List.mem_cons_of_mem _ (List.mem_cons_of_mem _ (List.mem_cons_of_mem _ (List.mem_append_right _ (List.mem_append_right _ mrv)))))))) uT (A0 zo)) (zq (Q.len eW rfl (EIn.len hme)) (zq (aa rfl rfl rfl (bu bY)) (WO.nil (XEnd.K (Ev.X.condDS rfl (fun hc92 => ?_) (fun hc92 => ?_))))))))))))))))
  ·obtain ⟨be, sze, exe, hbe, we, me⟩ := EIn.full hme zy
   have hgd := j3 (i6 (fb [mA] 1 ((n * r : Nat) : Int) (aV R)) (((i + 1) * r : Nat) : Int) ((r : Nat) : Int)) (k + 1)
   have hga := uA (N := (i6 (fb [mA] 1 ((n * r : Nat) : Int) (aV R)) (((i + 1) * r : Nat) : Int) ((r : Nat) : Int))) (k := k) zy
   rw [hga] at hgd
   refine Ev.X.skip (XEnd.K (Ev.X.seq (Ev.X.block (Ev.X.w (W.reg (zm rfl (zf mz rfl 1 (zq (ag rfl (zt 0 rfl) AA rfl) (zm rfl (zq (bj Df HB rfl rfl zo) (zq (Q.fieldAddr BJ rfl rfl) (zq (ag rfl (List.mem_cons_of_mem _ (List.mem_cons_of_mem _ (List.mem_cons_of_mem _ (List.mem_cons_of_mem _ (List.mem_cons_of_mem _ (List.mem_cons_of_mem _ (List.mem_append_right _ (List.mem_append_right _ mrv)))))))) uT (F7 zo hbe)) (zm rfl (zq (bj eW dN rfl rfl zo) (zq (Q.fieldAddr o7 rfl rfl) (zq (ag rfl (List.mem_cons_of_mem _ (List.mem_cons_of_mem _ (List.mem_cons_of_mem _ (List.mem_cons_of_mem _ (List.mem_cons_of_mem _ (List.mem_cons_of_mem _ (List.mem_append_right _ (List.mem_append_left _ me)))))))) bH (F6 hmn zo)) (zq (aa rfl rfl rfl zp) (za rfl (WO.nil (XEnd.KB (XEnd.K (Ev.X.sub (zc 10 rfl (zc 0 rfl (zc 1 rfl (zc 2 rfl (zc 8 rfl (zc 9 rfl (zc 11 rfl (zc 12 rfl (zc 13 rfl aI))))))))) (Ev.X.w (W.reg (zm rfl (zq (aa rfl (zi 1) rfl zp) ?_))))))))))))))))))))))))))
   refine za rfl (WO.nil (XEnd.KL (Ev.X.sub zv (ih1 (k + 1) (t + (i6 (fb [mA] 1 ((n * r : Nat) : Int) (aV R)) (((i + 1) * r : Nat) : Int) ((r : Nat) : Int)).getD k 0) ?_ ?_))))
   ·exact ⟨by omega, by omega⟩
   exact zo
  refine Ev.X.exit (bF (bD (bJ (XEnd.KB (XEnd.K (Ev.X.w (W.reg (zm rfl (zq (aa rfl (zi 1) rfl zp) (za rfl (WO.nil (XEnd.KL (Ev.X.sub zv (ih0 (i + 1) (t) ?_ ?_))))))))))))))
  ·exact ⟨by omega, by rw [E8, <- hs1, ht1, List.take_of_length_le zy], by omega⟩
  exact zo
 have hsn : s = ut (fb [mA] 1 ((n * r : Nat) : Int) (aV R)) r n := hs1.trans (congrArg (ut (fb [mA] 1 ((n * r : Nat) : Int) (aV R)) r) zy)
 have hsb2 : s <= 8053063680000000 := by omega
 refine Ev.X.exit (bF (bD (bJ (XEnd.K (Ev.X.seq (Ev.X.seq (Ev.X.w (W.reg (za (zi 0) (WO.nil (XEnd.K (Ev.X.block (Ev.X.loop_ind2 (fun (i : Nat) (c : Nat) => [(0, v), (1, .int .i64 ((r : Nat) : Int)), (2, .int .i64 ((n : Nat) : Int)), (8, .ptr b5 0), (9, .int .i64 0), (10, .int .i64 ((s : Nat) : Int)), (11, .int .i64 ((c : Nat) : Int)), (14, .int .i64 ((i : Nat) : Int))]) (fun _ _ => _) (fun (i : Nat) (c : Nat) => i <= R.length /\ c = kG (aV (R.take i)) ((n * r : Nat) : Int) /\ c <= i * 1048576) (fun (i : Nat) (c : Nat) => R.length - i) (0) (0) ⟨Nat.zero_le _, rfl, Nat.zero_le _⟩ zv (SubH.refl _) (fun i c hI2 ih2 => ?_))))))))))))))
 clear hi1 hs1 hsb
 obtain ⟨hi1, hcc, hcb⟩ := hI2
 refine Ev.X.seq (Ev.X.seq (Ev.X.w (W.reg (zm rfl (zm rfl (zq (Q.len dA rfl (RSl.len hR)) (zq (aa rfl rfl rfl (bu bY)) (WO.nil (XEnd.K (Ev.X.condDS rfl (fun hc110 => ?_) (fun hc110 => ?_)))))))))))
 ·obtain ⟨br, szr, exr, rfl, wr, mr⟩ := RSl.full hR zy
  have hm0 := eZ (R := R) (i := 0 + i) zy
  have hx := hRA _ hm0
  have hxb := hRb.2 _ hm0
  have hxS : (rg R (0 + i)).2.2.2.length <= 1048576 := hxb.2
  have hxl : (rg R (0 + i)).2.1.length <= 1048576 := hxb.1.1
  refine Ev.X.skip (XEnd.K (Ev.X.seq (Ev.X.block (Ev.X.seq (Ev.X.w (W.reg (za rfl (WO.nil (XEnd.K (Ev.X.seq (Ev.X.seq (Ev.X.w (W.reg (za (zi 0) (WO.nil (XEnd.K (Ev.X.block (Ev.X.loop_ind2 (fun (k : Nat) (has : Bool) => [(0, .slice br 0 (R.length - 0) 2), (1, .int .i64 ((r : Nat) : Int)), (2, .int .i64 ((n : Nat) : Int)), (8, .ptr b5 0), (9, .int .i64 0), (10, .int .i64 ((s : Nat) : Int)), (11, .int .i64 ((c : Nat) : Int)), (14, .int .i64 ((i : Nat) : Int)), (15, .bool has), (16, .int .i64 ((k : Nat) : Int))]) (fun _ _ => _) (fun (k : Nat) (has : Bool) => k <= (rg R (0 + i)).2.1.length /\ has = rD (rg R (0 + i)).2.1 k) (fun (k : Nat) (has : Bool) => (rg R (0 + i)).2.1.length - k) (0) (false) ⟨Nat.zero_le _, rfl⟩ zv (SubH.refl _) (fun k has hI3 ih3 => ?_)))))))))))))))))))
  obtain ⟨hk1, hh1⟩ := hI3
  refine Ev.X.seq (Ev.X.seq (Ev.X.w (W.reg (zm rfl (zm rfl (zm rfl (zq (bj dA fk rfl rfl zo) (zq (Q.fieldAddr jJ rfl rfl) (zq (ag rfl (List.mem_cons_of_mem _ (List.mem_cons_of_mem _ (List.mem_cons_of_mem _ (List.mem_cons_of_mem _ (List.mem_cons_of_mem _ (List.mem_cons_of_mem _ (List.mem_append_left _ mr))))))) jA (qm zo)) (zq (Q.len cW rfl (LIn.len hx.1)) (zq (aa rfl rfl rfl (bu bY)) (WO.nil (XEnd.K (Ev.X.condDS rfl (fun hc120 => ?_) (fun hc120 => ?_)))))))))))))))
  ·obtain ⟨bl, szl, exl, hla, wl, ml⟩ := LIn.full hx.1 zy
   refine Ev.X.skip (XEnd.K (Ev.X.seq (Ev.X.block (Ev.X.w (W.reg (zm rfl (zm rfl (WO.split (d := 124) rfl (fun hc124 => ?_) (fun hc124 => ?_)))))))))
   ·refine z2 (z2 (z2 (z2 (z2 (zq (aA rfl rfl) (za rfl (WO.nil (XEnd.KB (XEnd.K (Ev.X.sub (zc 15 rfl (zc 0 rfl (zc 1 rfl (zc 2 rfl (zc 8 rfl (zc 9 rfl (zc 10 rfl (zc 11 rfl (zc 14 rfl (zc 16 rfl aI)))))))))) (Ev.X.w (W.reg (zm rfl (zq (aa rfl (zi 1) rfl zp) (za rfl (WO.nil (XEnd.KL (Ev.X.sub zv (ih3 (k + 1) (true) ?_ ?_)))))))))))))))))))
    ·exact ⟨by omega, by rw [wq zy, <- hh1, hc124]; rfl⟩
    exact zo
   refine zT (zm rfl (zT (zm rfl (zT (zq (bj dA fk rfl rfl zo) (zT (zq (Q.fieldAddr jJ rfl rfl) (zT (zq (ag rfl (List.mem_cons_of_mem _ (List.mem_cons_of_mem _ (List.mem_cons_of_mem _ (List.mem_cons_of_mem _ (List.mem_cons_of_mem _ (List.mem_cons_of_mem _ (List.mem_append_left _ mr))))))) jA (F8 zo hla)) (zT (zm rfl (zT (zq (bj cW eo rfl rfl zo) (zT (zq (Q.fieldAddr fw rfl rfl) (zT (zq (ag rfl (List.mem_cons_of_mem _ (List.mem_cons_of_mem _ (List.mem_cons_of_mem _ (List.mem_cons_of_mem _ (List.mem_cons_of_mem _ (List.mem_cons_of_mem _ (List.mem_append_left _ ml))))))) gP (m9 zo)) (zT (zq (aa rfl (oc (v := .str [97]) (by kernel_rfl)) rfl jb) (zq (aF rfl rfl) (za rfl (WO.nil (XEnd.KB (XEnd.K ?_))))))))))))))))))))))))
   refine Ev.X.sub (zc 15 rfl (zc 0 rfl (zc 1 rfl (zc 2 rfl (zc 8 rfl (zc 9 rfl (zc 10 rfl (zc 11 rfl (zc 14 rfl (zc 16 rfl aI)))))))))) (Ev.X.w (W.reg (zm rfl (zq (aa rfl (zi 1) rfl zp) (za rfl (WO.nil (XEnd.KL (Ev.X.sub zv (ih3 (k + 1) (decide ((lg (rg R (0 + i)).2.1 k).1 = [97])) ?_ ?_)))))))))
   ·exact ⟨by omega, by rw [wq zy, <- hh1, hc124]; rfl⟩
   exact zo
  have hhA : has = rD (rg R (0 + i)).2.1 (rg R (0 + i)).2.1.length := (by have e : k = (rg R (0 + i)).2.1.length := zy; rw [<- e]; exact hh1)
  refine Ev.X.exit (bF (bD (bJ (XEnd.K (Ev.X.seq (Ev.X.w (W.reg (za (zi 0) (WO.nil (XEnd.K (Ev.X.block (Ev.X.loop_ind2 (fun (k : Nat) (d : Nat) => [(0, .slice br 0 (R.length - 0) 2), (1, .int .i64 ((r : Nat) : Int)), (2, .int .i64 ((n : Nat) : Int)), (8, .ptr b5 0), (9, .int .i64 0), (10, .int .i64 ((s : Nat) : Int)), (11, .int .i64 ((d : Nat) : Int)), (14, .int .i64 ((i : Nat) : Int)), (15, .bool has), (17, .int .i64 ((k : Nat) : Int))]) (fun _ _ => _) (fun (k : Nat) (d : Nat) => k <= (rg R (0 + i)).2.2.2.length /\ d = c + uH (rg R (0 + i)).2.2.2 ((n * r : Nat) : Int) k /\ (has = false -> k = 0)) (fun (k : Nat) (d : Nat) => (rg R (0 + i)).2.2.2.length - k) (0) (c) ⟨Nat.zero_le _, rfl, fun _ => rfl⟩ zv (SubH.refl _) (fun k d hI4 ih4 => ?_)))))))))))))
  obtain ⟨hk1, hd1, hd2⟩ := hI4
  have hnl := GA (rg R (0 + i)).2.2.2 ((n * r : Nat) : Int) k
  refine Ev.X.seq (Ev.X.seq (Ev.X.w (W.reg (zm rfl (zm rfl (zm rfl (zq (bj dA fk rfl rfl zo) (zq (Q.fieldAddr jm rfl rfl) (zq (ag rfl (List.mem_cons_of_mem _ (List.mem_cons_of_mem _ (List.mem_cons_of_mem _ (List.mem_cons_of_mem _ (List.mem_cons_of_mem _ (List.mem_cons_of_mem _ (List.mem_append_left _ mr))))))) l8 (oI zo)) (zq (Q.len fm rfl (SIn.len hx.2)) (zq (aa rfl rfl rfl (bu bY)) (zm rfl (aC (d := 144) rfl (fun hc144 => ?_) (fun hc144 => ?_))))))))))))))
  ·refine zT (zm rfl (zq (aA rfl rfl) (WO.nil (XEnd.K (Ev.X.condS rfl (fun hc146 => ?_) (fun hc146 => ?_))))))
   ·obtain ⟨bs, szs, exs, hsa, ws, ms⟩ := SIn.full hx.2 zy
    refine Ev.X.skip (XEnd.K (Ev.X.seq (Ev.X.block (Ev.X.seq (Ev.X.w (W.reg (zm rfl (zm rfl (zq (bj dA fk rfl rfl zo) (zq (Q.fieldAddr jm rfl rfl) (zq (ag rfl (List.mem_cons_of_mem _ (List.mem_cons_of_mem _ (List.mem_cons_of_mem _ (List.mem_cons_of_mem _ (List.mem_cons_of_mem _ (List.mem_cons_of_mem _ (List.mem_append_left _ mr))))))) l8 (F9 zo hsa)) (zm rfl (zq (bj fm ik rfl rfl zo) (zq (Q.fieldAddr fX rfl rfl) (zq (ag rfl (List.mem_cons_of_mem _ (List.mem_cons_of_mem _ (List.mem_cons_of_mem _ (List.mem_cons_of_mem _ (List.mem_cons_of_mem _ (List.mem_cons_of_mem _ (List.mem_append_left _ ms))))))) bH (na zo)) (za rfl (WO.nil (XEnd.K (Ev.X.sub (zc 18 rfl (zc 0 rfl (zc 1 rfl (zc 2 rfl (zc 8 rfl (zc 9 rfl (zc 10 rfl (zc 11 rfl (zc 14 rfl (zc 15 rfl (zc 17 rfl aI))))))))))) (Ev.X.seq (Ev.X.w (W.reg (zm rfl (zq (aa rfl (zi 0) rfl (aJ (bS _ _))) (zm rfl ?_)))))))))))))))))))))))))
    refine aC (d := 160) rfl (fun hc160 => ?_) (fun hc160 => ?_)
    ·refine zT (zm rfl (zT (zm rfl (zT (zm rfl (zT (zq (aa rfl rfl rfl (oF (pP zo))) (zT (zq (aa rfl rfl rfl (aZ dc)) (zq (aA rfl rfl) (WO.nil (XEnd.K (Ev.X.condDS rfl (fun hc166 => ?_) (fun hc166 => ?_))))))))))))))
     ·refine Ev.X.w (W.reg (zm rfl (zq (aa rfl (zi 1) rfl zp) (za rfl (WO.nil (XEnd.KB (XEnd.K (Ev.X.w (W.reg (zm rfl (zq (aa rfl (zi 1) rfl zp) (za rfl (WO.nil (XEnd.KL (Ev.X.sub zv (ih4 (k + 1) (d + 1) ?_ ?_))))))))))))))))
      ·exact ⟨by omega, by rw [B2 zy zy zy]; omega, fun h => by rw [hc146] at h; cases h⟩
      exact zo
     refine Ev.X.skip (XEnd.KB (XEnd.K (Ev.X.w (W.reg (zm rfl (zq (aa rfl (zi 1) rfl zp) (za rfl (WO.nil (XEnd.KL (Ev.X.sub zv (ih4 (k + 1) (d) ?_ ?_)))))))))))
     ·exact ⟨by omega, by rw [ya zy zy]; exact hd1, fun h => by rw [hc146] at h; cases h⟩
     exact zo
    refine z2 (z2 (zG (zq (aF rfl rfl) (WO.nil (XEnd.K (Ev.X.condF rfl (Ev.X.skip (XEnd.KB (XEnd.K (Ev.X.w (W.reg (zm rfl (zq (aa rfl (zi 1) rfl zp) (za rfl (WO.nil (XEnd.KL (Ev.X.sub zv (ih4 (k + 1) (d) ?_ ?_))))))))))))))))))
    ·exact ⟨by omega, by rw [ya zy zy]; exact hd1, fun h => by rw [hc146] at h; cases h⟩
    exact zo
   refine Ev.X.exit (bF (bD (bJ (XEnd.KB (XEnd.K (Ev.X.w (W.reg (zm rfl (zq (aa rfl (zi 1) rfl zp) (za rfl (WO.nil (XEnd.KL (Ev.X.sub zv (ih2 (i + 1) (d) ?_ ?_))))))))))))))
   ·exact ⟨by omega, rh zy hcc hd1 hhA (.inl ⟨hc146, hd2 hc146⟩), by omega⟩
   exact zo
  refine zG (zq (aF rfl rfl) (WO.nil (XEnd.K (Ev.X.condF rfl (Ev.X.exit (bF (bD (bJ (XEnd.KB (XEnd.K (Ev.X.w (W.reg (zm rfl (zq (aa rfl (zi 1) rfl zp) (za rfl (WO.nil (XEnd.KL (Ev.X.sub zv (ih2 (i + 1) (d) ?_ ?_)))))))))))))))))))
  ·exact ⟨by omega, rh zy hcc hd1 hhA (.inr ⟨by omega, hd2⟩), by omega⟩
  exact zo
 have hcw : c = kG (aV R) ((n * r : Nat) : Int) := (by have e : R.take i = R := List.take_of_length_le zy; rw [e] at hcc; exact hcc)
 have hfin : s = c * 1000000 := (by rw [hsn, hcw]; exact EE hr0 zy zy hRb hRok)
 refine Ev.X.exit (bF (bD (bJ (XEnd.K (Ev.X.seq (Ev.X.w (W.reg (zm rfl (zq (aa rfl (zi 0) rfl (ai (p := true) rfl)) (zm rfl (zT (zf mz rfl 1 (zT (zq (ag rfl (zt 0 rfl) AA rfl) (zT (zq (Q.len Df rfl hO.len) (zT (zm rfl (zT (zq (aa rfl rfl rfl (ai aG)) (zq (aA rfl rfl) (zm rfl (aC (d := 178) rfl (fun hc178 => ?_) (fun hc178 => ?_))))))))))))))))))))))))
 ·refine zT (zm rfl (zT (zm rfl (zT (zq (aa rfl (zi 1000000) rfl (oF (pP zo))) (zT (zq (aa rfl rfl rfl (ai aG)) (zq (aA rfl rfl) (zm rfl (aC (d := 184) rfl (fun hc184 => ?_) (fun hc184 => ?_)))))))))))
  ·refine zT (ak rfl oz rfl dV SubR.nil rfl (zq (aA rfl rfl) (za rfl (WO.nil (XEnd.K (Ev.X.sub (zc 6 rfl aI) (Ev.X.ret ?_)))))))
   refine XEnd.ret (z1 rfl) (hs' := []) ⟨rfl, rfl⟩ dB (SubH.nil _)
  exfalso; omega
 exfalso; omega

end Go.Proofs.YtfkbfnpjggkdmaaGreatDoor.Ev
