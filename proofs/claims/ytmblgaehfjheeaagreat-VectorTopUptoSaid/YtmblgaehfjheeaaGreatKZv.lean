/- Chapter 19, walks: what topk and bottomk make of a vector, all of it. -/
import Derived.Test.YtmblgaehfjheeaaGreatKZu
namespace Go.Proofs.YtmblgaehfjheeaaGreat.Ev
open Go.RowKit
set_option linter.unusedVariables false
set_option linter.unusedSimpArgs false
set_option maxRecDepth 100000
set_option maxHeartbeats 1000000
theorem agg3_any {hs : HSt} (hro : ∀ e ∈ hs, e.w = false) {X Y : List El} {vx vy : AV} (hX : EIn hs X vx) (hY : EIn hs Y vy) (hXB : EBd X) (hYB : EBd Y) (hx0 : 0 < X.length) (hy0 : 0 < Y.length) (N : List (List Nat)) (vn : AV) (hN : SIn hs N vn) (hNb : SBd N) (md : Int) (bM bN : Nat) (m1 : MemH hs bM ⟨1, true, [.int .i64 md]⟩) (mN : MemH hs bN ⟨1, true, [vn]⟩) (bL : Nat) (m4 : MemH hs bL ⟨1, true, [.func 54 [.ptr bM 0, .ptr bN 0]]⟩) : ∃ c : Int, Spec tab 60 ([vx, vy] ++ [.ptr bL 0]) [] hs (Val (.int .i64 c)) := by
  obtain ⟨bx, szx, exx, rfl, mx⟩ := EIn.full hX hx0
  obtain ⟨by_, szy, exy, rfl, my⟩ := EIn.full hY hy0
  exact ⟨_, agg3_spec hs hro X Y bx by_ szx szy exx exy mx my hX.2 hY.2 hXB hYB hx0 hy0 N vn hN hNb md bM bN m1 mN bL m4⟩
theorem mem_s1 {SB L hs : HSt} {b : Nat} {o : AObj} {w : Bool} (h : SB = L) (i : Nat) (hi : L[i]? = some ⟨b, o, w⟩) : MemH (ro SB ++ hs) b o := by
  subst h
  refine ⟨false, List.mem_append_left _ ?_⟩
  exact List.mem_map.2 ⟨_, List.mem_of_getElem? hi, rfl⟩
theorem mem_sb {SB L D hs : HSt} {b : Nat} {o : AObj} {w : Bool} (h : SB = L) (i : Nat) (hi : L[i]? = some ⟨b, o, w⟩) : MemH (ro (SB ++ D) ++ hs) b o := by
  subst h
  refine ⟨false, List.mem_append_left _ ?_⟩
  exact List.mem_map.2 ⟨_, List.mem_append_left _ (List.mem_of_getElem? hi), rfl⟩
theorem quo_k {k : Int} (h : fitB k = true) : IntKind.i64.wrap (k.tdiv ((1000000 : Nat) : Int)) = k.tdiv 1000000 := by
  have hb : -1152921504606846976 ≤ k ∧ k ≤ 1152921504606846976 := by unfold fitB at h; simpa using h
  obtain ⟨h1, h2⟩ := tdiv_m k
  refine wr64 ?_
  show -9223372036854775808 ≤ k.tdiv 1000000 ∧ k.tdiv 1000000 ≤ 9223372036854775807
  rcases Int.lt_or_le k 0 with g | g
  · rw [h2 g]; omega
  · rw [h1 g]; omega
section
variable {X Y : List El} {hs hl D : HSt} {u : AV}
theorem p2_append : P2 (X ++ Y) = P2 X ++ P2 Y := by unfold P2; rw [List.map_append]
theorem take_ge {G : List Ge} {i : Nat} {g : Ge} (h : G[i]? = some g) : G.take (i + 1) = G.take i ++ [g] := by rw [List.take_add_one, h]; rfl
theorem own_cat {hp : HSt} (h : OwnE 2 (cE X ++ cE Y) (X.length + Y.length) u hp) : OwnE 2 (cE (X ++ Y)) (X ++ Y).length u hp := by
  rw [cE_append, List.length_append]; exact h
theorem lin_cat (h : ∀ x ∈ X, LIn hl x.2.1 x.1) (g : ∀ x ∈ Y, LIn D x.2.1 x.1) : ∀ x ∈ X ++ Y, LIn (hl ++ D) x.2.1 x.1 := fun x hx => (List.mem_append.1 hx).elim (fun q => (h x q).mono fun b o m => m.appl) (fun q => (g x q).mono fun b o m => m.app)
theorem ebd_cat (h : EBd X) (g : EBd Y) (hn : X.length + Y.length ≤ 1048576) : EBd (X ++ Y) := ⟨by rw [List.length_append]; exact hn, fun x hx => (List.mem_append.1 hx).elim (h.2 x) (g.2 x)⟩
theorem VOwn.wz (h : VOwn X u D) : WZ D := by
  obtain ⟨hp, hl, rfl, h1, h2, h3, h4⟩ := h
  exact WZ.app (OwnE.wz h1) h3
end
theorem ag74 : tab.isAgg 74 = some false := by kernel_rfl
theorem ao80 : AO tab 80 = some ⟨1, true, [.nilf]⟩ := by kernel_rfl
theorem bx3 : ∀ l : List AV, l.length = 1 → varObj tab 3 l = ⟨1, true, l⟩ := by intro l h; exact varObj_plain (by kernel_rfl) h
theorem fa76_0 : FA tab 76 0 = some (0, 0 + 1) := by kernel_rfl
theorem sz80 : tab.size 80 = some 1 := by kernel_rfl
theorem agg_top (hs : HSt) (hro : ∀ e ∈ hs, e.w = false) (V : List El) (v : AV) (hV : EIn hs V v) (hB : EBd V) (op : List Nat) (ho : Bytes op) (md k : Int) (N : List (List Nat)) (vn : AV) (hN : SIn hs N vn) (hNb : SBd N) (M : Nat) (hSrt : SrtOK M) (hM : vchk V = 0 → 0 ≤ md → md ≤ 2 → ∀ G : List Ge, GInv (fun x : PE => prM (aggKey md N x.1)) V G → G.length ≤ V.length → G.length ≤ M) (hag : agB op = false) : Spec tab 19 [.str op, .int .i64 md, vn, .int .i64 k, v] [] hs (fun u D => ∃ (e : Nat) (W : List El) (w : AV), TopR op md N k V e (P2 W) ∧ VOwn W w D ∧ u = .tuple [w, .int .i64 (e : Nat)]) := by
 have hBl := hB.1
 refine Spec.enter' (ft_get 19 Tryz.func19) rfl (m := 109) rfl (rs := [.tmp 10, .tmp 11]) rfl (st := [(0, .str op), (1, .int .i64 md), (2, vn), (3, .int .i64 k), (4, v)]) rfl rfl (fun _ => rfl) (fun E => zr (WO.box rfl rfl (bx3 _ rfl) rfl (fun b1 => WO.box1 rfl (SIn.cell hN) (bx40 _ rfl) rfl (fun bN => za rfl (za (zi 0) (zk (W.seq (zr (zm rfl (WO.callV rfl (oLs_cons rfl oLs_nil) rfl (vck_spec hs hro V _ hV hB) (SubR.tl (SubR.tl (SubR.self hro))) rfl (za rfl (zk (zr (zm rfl (zq (Q.bin rfl (zi 0) rfl (bv_neq ne_nat)) (zk (W.condDS rfl (fun hc28 => ?_) (fun hc28 => ?_))))))))))))))))))
 · refine zr (zm rfl (za rfl (za rfl (zk (W.ret ?_)))))
   refine End.K_ret (End.ret (ResL.tmp rfl (z1 rfl)) (hs' := []) ⟨_, [], .nils, .inl ⟨ag_1 (by simpa using hc28), rfl⟩, VOwn.nil, rfl⟩ no_wl (SubH.nil _))
 refine zw (zr (zm rfl (WO.callV rfl (oLs_cons rfl oLs_nil) rfl (known_top op ho hag) SubR.nil rfl (zm rfl (zq (Q.extract rfl rfl) (zq (Q.extract rfl rfl) (WO.alloc ao76 rfl (fun b2 => WO.store sz76 rfl rfl (i := 0) rfl rfl (cs := [_]) rfl (hs' := _ :: _ :: _ :: _) rfl (za rfl (zk (W.sub (zc 14 rfl (zc 13 rfl (zc 7 rfl (zc 6 rfl (zc 0 rfl (zc 3 rfl (zc 4 rfl zzn))))))) (W.seq (W.block (zr (zm rfl (WO.callV rfl (oLs_cons rfl oLs_nil) rfl (fits_spec _) SubR.nil rfl (zq (Q.not rfl rfl) (za rfl (zk (W.condS rfl (fun hc35 => ?_) (fun hc35 => ?_)))))))))))))))))))))
 · refine zr (za rfl (za (zi 2) (zk (W.ret ?_))))
   refine End.KB_ret (End.K_ret (End.ret (ResL.tmp rfl (z1 rfl)) (hs' := []) ⟨_, [], .nils, .inl ⟨ag_2 (Classical.not_not.1 hc28) (by simpa using hc35), rfl⟩, VOwn.nil, rfl⟩ no_wl (SubH.nil _)))
 refine zr (zm rfl (zq (Q.not rfl rfl) (za rfl (zk (W.condS rfl (fun hc39 => ?_) (fun hc39 => ?_))))))
 · refine zr (za rfl (za (zi 9) (zk (W.sub (zc 11 rfl (zc 10 rfl zzn)) (W.ret ?_)))))
   refine End.KB_ret (End.K_ret (End.ret (ResL.tmp rfl (z1 rfl)) (hs' := []) ⟨_, [], .nils, .inl ⟨ag_9 (Classical.not_not.1 hc28) (by simpa using hc35) ⟨hag, by simpa using hc39⟩, rfl⟩, VOwn.nil, rfl⟩ no_wl (SubH.nil _)))
 refine zr (zq (Q.load1 rfl (zt 2 rfl) ag3 rfl) (zq (Q.bin rfl (zi 0) rfl (bv_lss (ltA_eq _ _))) (zm rfl (WO.splitD (d := 45) rfl (fun hc45 => ?_) (fun hc45 => ?_)))))
 · refine zg rfl rfl (zg rfl rfl (zq (Q.pickT rfl rfl) (za rfl (zk (W.sub (zc 42 rfl (zc 13 rfl (zc 7 rfl (zc 6 rfl (zc 0 rfl (zc 3 rfl (zc 4 rfl zzn))))))) (W.condT rfl (zr (za rfl (za (zi 2) (zk (W.ret ?_)))))))))))
   refine End.KB_ret (End.K_ret (End.ret (ResL.tmp rfl (z1 rfl)) (hs' := []) ⟨_, [], .nils, .inl ⟨ag_r (Classical.not_not.1 hc28) (by simpa using hc35) (.inr (by simpa using hc39)) (.inl (by simpa using hc45)), rfl⟩, VOwn.nil, rfl⟩ no_wl (SubH.nil _)))
 refine WO.gT rfl rfl (zq (Q.load1 rfl (zt 2 rfl) ag3 rfl) (WO.gT rfl rfl (zq (Q.bin rfl (zi 2) rfl (bv_gtr (ltA_eq _ _))) (zq (Q.pickF rfl rfl) (za rfl (zk (W.sub (zc 42 rfl (zc 13 rfl (zc 7 rfl (zc 6 rfl (zc 0 rfl (zc 3 rfl (zc 4 rfl zzn))))))) (W.condDS rfl (fun hc42 => ?_) (fun hc42 => ?_)))))))))
 · refine zr (za rfl (za (zi 2) (zk (W.ret ?_))))
   refine End.KB_ret (End.K_ret (End.ret (ResL.tmp rfl (z1 rfl)) (hs' := []) ⟨_, [], .nils, .inl ⟨ag_r (Classical.not_not.1 hc28) (by simpa using hc35) (.inr (by simpa using hc39)) (.inr (by simpa using hc42)), rfl⟩, VOwn.nil, rfl⟩ no_wl (SubH.nil _)))
 have hck : vchk V = 0 := Classical.not_not.1 hc28
 have hfit : fitB k = true := (by simpa using hc35)
 have hmd : 0 ≤ md ∧ md ≤ 2 := (by first | (constructor <;> omega) | (simp at *; constructor <;> omega))
 have hK : ∀ i, i < V.length → KeyOK (eg V i).2.1 := fun i hi => vchk_key hB hck hi
 have hVl := vchk_len hck
 have hS := vchk_srt hck
 have hkq := quo_k hfit
 refine W.skip (End.KB (End.K (zr (zq (Q.makeF (oLs_cons rfl (oLs_cons rfl oLs_nil))) (WO.alloc ao80 rfl (fun b3 => WO.store sz80 rfl rfl (i := 0) rfl rfl (cs := [_]) rfl (hs' := _ :: _ :: _ :: _ :: _) rfl (zk (zr (zm rfl (zq (Q.makeF (oLs_cons rfl oLs_nil)) ?_))))))))))
 (obtain ⟨SB, hSB⟩ : ∃ SB : HSt, SB = [⟨b3, ⟨1, true, [.func 54 [.ptr b1 0, .ptr bN 0]]⟩, true⟩, ⟨b2, ⟨1, true, [.nilf]⟩, true⟩, ⟨bN, ⟨1, true, [vn]⟩, true⟩, ⟨b1, ⟨1, true, (AV.int .i64 md).cells⟩, true⟩] := ⟨_, rfl⟩; refine WO.subH (hs' := hs ++ SB) (by subst hSB; exact gc) ?_)
 have m1 : MemH (ro SB ++ hs) b1 ⟨1, true, [.int .i64 md]⟩ := mem_s1 hSB 3 rfl
 have mN : MemH (ro SB ++ hs) bN ⟨1, true, [vn]⟩ := mem_s1 hSB 2 rfl
 have m4 : MemH (ro SB ++ hs) b3 ⟨1, true, [.func 54 [.ptr b1 0, .ptr bN 0]]⟩ := mem_s1 hSB 0 rfl
 refine WO.call0 rfl (oLs_cons rfl (oLs_cons rfl oLs_nil)) rfl (grp_spec (ro SB ++ hs) (ro_app hro) V v (hV.mono fun b o h => h.app) hB 57 [.ptr b3 0] (fun x : PE => prM (aggKey md N x.1)) (fun i hi => prM_bytes (ak_key (hK i hi) md N)) (fun i hi => agg2_spec (ro SB ++ hs) (ro_app hro) _ _ ((hV.at hi).mono fun b o h => h.app) (hK i hi) _ N vn (hN.mono fun b o h => h.app) hNb md b1 bN m1 mN b3 m4)) (SubR.mix gc hro) rfl (fun v52 D52 hP52 => ?_)
 obtain ⟨G, hpg, Dg, rfl, hG, hOg, hGB, hGl⟩ := hP52
 have hsub : ∀ x ∈ G, ∀ z ∈ x.1.2, z ∈ V := (fun x hx z hz => by rw [(hG.2.1 x hx).1] at hz; exact fl_mem hz)
 have hLm : ∀ x ∈ G, ∀ z ∈ x.1.2, LIn hs z.2.1 z.1 := fun x hx z hz => hV.2 z (hsub x hx z hz)
 have hpos : ∀ x ∈ G, 0 < x.1.2.length := fun x hx => List.length_pos_iff.2 (hG.2.1 x hx).2
 have hml : ∀ x ∈ G, x.1.2.length ≤ 256 := (fun x hx => by rw [(hG.2.1 x hx).1]; exact Nat.le_trans (List.length_filter_le _ _) hVl)
 have hmb : ∀ x ∈ G, EBd x.1.2 := fun x hx => ⟨Nat.le_trans (hml x hx) (by omega), fun z hz => hB.2 z (hsub x hx z hz)⟩
 have hEm : ∀ x ∈ G, EIn (ro (SB ++ Dg) ++ hs) x.1.2 x.2 := fun x hx => (GB.ein hGB hx (hLm x hx)).mono fun b o h => MemH.mixd2 h
 refine WO.subH (hs' := (hs ++ SB ++ (hpg ++ Dg))) (SubH.of_perm (perm_tail (N := []) (G := (hpg ++ Dg)) (K := []) (X := hs ++ SB))) (za rfl (zk (zr (zm rfl (zq (Q.makeF (oLs_cons rfl oLs_nil)) (WO.subH (hs' := hs ++ SB ++ Dg ++ hpg) gc (WO.callS (M := hpg) (A := (hs ++ SB ++ Dg)) rfl (oLs_cons rfl (oLs_cons rfl oLs_nil)) rfl (OwnE.w (OwnE.of hOg)) gc (hSrt G _ hpg (ro (SB ++ Dg) ++ hs) (ro_app hro) 60 [.ptr b3 0] hOg (hM hck hmd.1 hmd.2 G hG hGl) (fun x hx y hy => agg3_any (ro_app hro) (hEm x hx) (hEm y hy) (hmb x hx) (hmb y hy) (hpos x hx) (hpos y hy) N vn (hN.mono fun b o h => h.app) hNb md b1 bN (mem_sb hSB 3 rfl) (mem_sb hSB 2 rfl) b3 (mem_sb hSB 0 rfl))) (SubR.mix gc hro) rfl (fun v55 D55 hP55 => ?_))))))))
 obtain ⟨G', pG, hO5⟩ := hP55
 have hG' := hG.perm pG
 have hlen : G'.length = G.length := pG.length_eq
 have hGl' : G'.length ≤ 256 := (by rw [pG.length_eq]; omega)
 refine WO.subH (hs' := (hs ++ SB ++ Dg ++ D55)) (SubH.of_perm (perm_tail (N := []) (G := D55) (K := []) (X := hs ++ SB ++ Dg))) (zk (zr (za rfl (zk (W.seq (zr (zm rfl (zq (Q.len ud81 rfl hOg.len) (zq (Q.move (zi 0)) (zk (W.block (W.loop_ind5 (fun (i : Nat) (X : List El) (u : AV) (hp : HSt) (hl : HSt) => [(0, .str op), (3, .int .i64 k), (13, .ptr b2 0), (15, .ptr b3 0), (17, u), (56, v52), (57, .int .i64 ((G.length : Nat) : Int)), (58, .int .i64 ((i : Nat) : Int))]) (fun (i : Nat) (X : List El) (u : AV) (hp : HSt) (hl : HSt) => (hs ++ SB ++ Dg ++ D55 ++ hp ++ hl)) (fun (i : Nat) (X : List El) (u : AV) (hp : HSt) (hl : HSt) => i ≤ G'.length ∧ (P2 X).Perm ((G'.take i).flatMap fun g => (P2 g.1.2).filter (stP op (k.tdiv 1000000) (P2 g.1.2))) ∧ X.length ≤ 256 * i ∧ OwnE 2 (cE X) X.length u hp ∧ (∀ x ∈ X, LIn hl x.2.1 x.1) ∧ WZ hl ∧ EBd X) (fun (i : Nat) (X : List El) (u : AV) (hp : HSt) (hl : HSt) => G'.length - i) (0) ([]) (.nils) ([]) ([]) ⟨Nat.zero_le _, List.Perm.refl _, Nat.zero_le _, OwnE.nil 2, fun x hx => by simp at hx, WZ.nil, ebd_nil⟩ zv (by rw [List.append_nil, List.append_nil]; exact SubH.refl _) (fun i X u hp hl hI0 ih0 => ?_)))))))))))))
 obtain ⟨h1, h2, h3, hO, hL, hwz, hXB⟩ := hI0
 have hw := hwz.w
 have hXl := hXB.1
 refine zr (zq (Q.bin rfl rfl rfl (bv_lss lt_nat)) (zk (W.seq (W.condDS rfl (fun hc59 => ?_) (fun hc59 => ?_)))))
 · obtain ⟨bo, exo, rfl, hho⟩ := Own.full hO5 (by omega)
   have mo : (⟨bo, ⟨1, exo, G'.map (·.2)⟩, true⟩ : HE) ∈ D55 := (by rw [hho]; exact List.mem_cons_self)
   obtain ⟨g, hgj⟩ : ∃ g, G'[i]? = some g := ⟨_, List.getElem?_eq_getElem (by omega)⟩
   have hgm := pG.mem_iff.1 (List.mem_of_getElem? hgj)
   have hEi : EIn (ro Dg ++ hs) g.1.2 g.2 := GB.ein hGB hgm (hLm g hgm)
   have hEb := hmb g hgm
   have hgl := hml g hgm
   have hSm : Srt (P2 g.1.2) := (by rw [(hG.2.1 g hgm).1, p2_fl]; exact srt_filter hS _)
   have mT := hSB
   refine zw (W.seq (W.block (zr (zq (Q.iaddrS ud81 sz22 rfl rfl zo) (zq (Q.load1 rfl (List.mem_append_left _ (List.mem_append_left _ (List.mem_append_right _ mo))) ag22 (gmap_at hgj)) (za rfl (zk (W.seq (zr (zf fa76_0 rfl 0 (zq (Q.load1 rfl (List.mem_append_left _ (List.mem_append_left _ (List.mem_append_left _ (List.mem_append_left _ (List.mem_append_right _ (by rw [hSB]; exact List.mem_cons_of_mem _ List.mem_cons_self)))))) ag74 rfl) (zq (Q.bin rfl rfl rfl eq74n) (zk (W.condT rfl (zr (zm rfl (zm rfl (zm rfl (zm rfl (zq (Q.bin rfl (zi 1000000) rfl (bv_quo (by decide) hkq)) (WO.call0 rfl (oLs_cons rfl (oLs_cons rfl (oLs_cons rfl oLs_nil))) rfl (best_spec (ro Dg ++ hs) (ro_app hro) g.1.2 g.2 hEi hEb op ho (k.tdiv 1000000)) (SubR.mix gc hro) rfl (fun v70 D70 hP70 => ?_))))))))))))))))))))))
   obtain ⟨g70, X70, pg70, sg70, hX70, hO70⟩ := hP70
   have hl70 : X70.length ≤ 256 := (by rw [← p2_ln (F := X70), hX70, List.length_take, p2_ln, vF_len]; omega)
   refine WO.subH (hs' := (hs ++ SB ++ Dg ++ D55 ++ hp ++ hl ++ D70)) (SubH.of_perm (perm_tail (N := []) (G := D70) (K := []) (X := hs ++ SB ++ Dg ++ D55 ++ hp ++ hl))) (WO.appAny (A := ([] ++ hs ++ SB ++ Dg ++ D55 ++ hl ++ D70)) ap22_22 hO rfl rfl (VOwn.src hO70 (fun e he => ⟨e.w, by obtain ⟨b, o, w⟩ := e; simp [he]⟩)) (cE_len _) (by omega) (by decide) gc rfl (fun v71 hp71 hO71 => za rfl (zk (W.sub (zc 17 rfl (zc 0 rfl (zc 3 rfl (zc 13 rfl (zc 15 rfl (zc 56 rfl (zc 57 rfl (zc 58 rfl zzn)))))))) (W.exit (End.K_exit (End.KB_hit (End.K (W.reg (zq (Q.bin rfl (zi 1) rfl zp) (zm rfl (WO.nil (End.KL (W.sub zv (W.subH gc (ih0 (i + 1) (X ++ X70) (v71) (hp71) (hl ++ D70) ?_ ?_))))))))))))))))
   · exact ⟨by omega, by rw [p2_append, take_ge hgj, List.flatMap_append]; exact h2.append (by rw [List.flatMap_cons, List.flatMap_nil, List.append_nil, hX70]; exact best_perm hSm pg70 sg70), by rw [List.length_append]; omega, own_cat hO71, lin_cat hL (VOwn.lin hO70), WZ.app hwz (VOwn.wz hO70), ebd_cat hXB (VOwn.ebd hO70) (by omega)⟩
   exact zo
 refine W.exit (End.K_exit (End.KL_exit (End.KB_hit (End.K (zr (zm rfl (WO.callS (M := hp) (A := (hs ++ SB ++ Dg ++ D55 ++ hl)) rfl (oLs_cons rfl oLs_nil) rfl (OwnE.w hO) gc (ord_spec (ro hl) ro_w X u hp hO (fun x hx => (hL x hx).mono fun b o h => h.ro) hXB) (SubR.ro gc) rfl (fun v106 D106 hP106 => ?_))))))))
 obtain ⟨e106, W106, w106, hR106, hM106, hO106, rfl⟩ := hP106
 refine WO.subH (hs' := (hs ++ SB ++ Dg ++ D55 ++ hl ++ D106)) (SubH.of_perm (perm_tail (N := []) (G := D106) (K := []) (X := hs ++ SB ++ Dg ++ D55 ++ hl))) (zq (Q.extract rfl rfl) (zq (Q.extract rfl rfl) (za rfl (za rfl (zk (W.ret ?_))))))
 refine End.ret (ResL.tmp rfl (z1 rfl)) (hs' := D106 ++ hl) ⟨e106, W106, w106, .inr ⟨ag_no hck hfit (.inr (by simpa using hc39)) hmd, ord_pm (h2.trans (by rw [List.take_of_length_le (by omega)]; exact grp_perm hG')) hR106⟩, ⟨D106, hl, rfl, hO106, fun x hx => hL x (hM106 x hx), hwz, ord_ebd hR106 hM106 hXB⟩, rfl⟩ (wa (OwnE.w hO106) hw) gc
end Go.Proofs.YtmblgaehfjheeaaGreat.Ev
