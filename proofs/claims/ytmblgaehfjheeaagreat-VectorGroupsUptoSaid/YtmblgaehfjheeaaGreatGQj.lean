/- Chapter 19, walks: what topk and bottomk make of a vector, all of it. -/
import Derived.Test.YtmblgaehfjheeaaGreatGQe
import Derived.Test.YtmblgaehfjheeaaGreatGZr
namespace Go.Proofs.YtmblgaehfjheeaaGreat.Ev
open Go.RowKit
set_option linter.unusedVariables false
set_option linter.unusedSimpArgs false
set_option maxRecDepth 100000
set_option maxHeartbeats 1000000
theorem agg3_any {hs : HSt} (hro : ∀ e ∈ hs, e.w = false) {X Y : List El} {vx vy : AV} (hX : EIn hs X vx) (hY : EIn hs Y vy) (hXB : EBd X) (hYB : EBd Y) (hx0 : 0 < X.length) (hy0 : 0 < Y.length) (N : List (List Nat)) (vn : AV) (hN : SIn hs N vn) (hNb : SBd N) (md : Int) (bM bN : Nat) (m1 : MemH hs bM ⟨1, true, [.int .i64 md]⟩) (mN : MemH hs bN ⟨1, true, [vn]⟩) (bL : Nat) (m4 : MemH hs bL ⟨1, true, [.func 54 [.ptr bM 0, .ptr bN 0]]⟩) : ∃ c : Int, Spec tab 60 ([vx, vy] ++ [.ptr bL 0]) [] hs (Val (.int .i64 c)) := by
 obtain ⟨bx, szx, exx, rfl, mx⟩ := EIn.full hX hx0
 obtain ⟨by_, szy, exy, rfl, my⟩ := EIn.full hY hy0
 exact ⟨_, agg3_spec hs hro X Y bx by_ szx szy exx exy mx my hX.2 hY.2 hXB hYB hx0 hy0 N vn hN hNb md bM bN m1 mN bL m4⟩
theorem mem_s1 {SB L hs : HSt} {b : Nat} {o : AObj} {w : Bool} (h : SB = L) (i : Nat) (hi : L[i]? = some ⟨b, o, w⟩) : MemH (ro SB ++ hs) b o := by
 subst h
 refine ⟨false, List.mem_append_left _ ?_⟩
 exact List.mem_map.2 ⟨_, List.mem_of_getElem? hi, rfl⟩
theorem mem_sb {SB L D hs : HSt} {b : Nat} {o : AObj} {w : Bool} (h : SB = L) (i : Nat) (hi : L[i]? = some ⟨b, o, w⟩) : MemH (ro (SB ++ D) ++ hs) b o := by
 subst h
 refine ⟨false, List.mem_append_left _ ?_⟩
 exact List.mem_map.2 ⟨_, List.mem_append_left _ (List.mem_of_getElem? hi), rfl⟩
theorem quo_k {k : Int} (h : fitB k = true) : IntKind.i64.wrap (k.tdiv ((1000000 : Nat) : Int)) = k.tdiv 1000000 := by
 have hb : -1152921504606846976 ≤ k ∧ k ≤ 1152921504606846976 := by unfold fitB at h; simpa using h
 obtain ⟨h1, h2⟩ := tdiv_m k
 refine wr64 ?_
 show -9223372036854775808 ≤ k.tdiv 1000000 ∧ k.tdiv 1000000 ≤ 9223372036854775807
 rcases Int.lt_or_le k 0 with g | g
 ·rw [h2 g]; omega
 ·rw [h1 g]; omega
section
variable {X Y : List El} {hs hl D : HSt} {u : AV}
theorem p2_append : P2 (X ++ Y) = P2 X ++ P2 Y := by unfold P2; rw [List.map_append]
theorem take_ge {G : List Ge} {i : Nat} {g : Ge} (h : G[i]? = some g) : G.take (i + 1) = G.take i ++ [g] := by rw [List.take_add_one, h]; rfl
theorem own_cat {hp : HSt} (h : OwnE 2 (cE X ++ cE Y) (X.length + Y.length) u hp) : OwnE 2 (cE (X ++ Y)) (X ++ Y).length u hp := by
 rw [cE_append, List.length_append]; exact h
theorem lin_cat (h : ∀ x ∈ X, LIn hl x.2.1 x.1) (g : ∀ x ∈ Y, LIn D x.2.1 x.1) : ∀ x ∈ X ++ Y, LIn (hl ++ D) x.2.1 x.1 := fun x hx => (List.mem_append.1 hx).elim (fun q => (h x q).mono fun b o m => m.appl) (fun q => (g x q).mono fun b o m => m.app)
theorem ebd_cat (h : EBd X) (g : EBd Y) (hn : X.length + Y.length ≤ 1048576) : EBd (X ++ Y) := ⟨by rw [List.length_append]; exact hn, fun x hx => (List.mem_append.1 hx).elim (h.2 x) (g.2 x)⟩
theorem VOwn.wz (h : VOwn X u D) : WZ D := by
 obtain ⟨hp, hl, rfl, h1, h2, h3, h4⟩ := h
 exact WZ.app (OwnE.wz h1) h3
end
theorem ag74 : tab.isAgg 74 = some false := by kernel_rfl
theorem ao80 : AO tab 80 = some ⟨1, true, [.nilf]⟩ := by kernel_rfl
theorem bx3 : ∀ l : List AV, l.length = 1 → varObj tab 3 l = ⟨1, true, l⟩ := by intro l h; exact varObj_plain (by kernel_rfl) h
theorem fa76_0 : FA tab 76 0 = some (0, 0 + 1) := by kernel_rfl
theorem sz80 : tab.size 80 = some 1 := by kernel_rfl
theorem agg_top (hs : HSt) (hro : ∀ e ∈ hs, e.w = false) (V : List El) (v : AV) (hV : EIn hs V v) (hB : EBd V) (op : List Nat) (ho : Bytes op) (md k : Int) (N : List (List Nat)) (vn : AV) (hN : SIn hs N vn) (hNb : SBd N) (M : Nat) (hSrt : SrtOK M) (hM : vchk V = 0 → 0 ≤ md → md ≤ 2 → ∀ G : List Ge, GInv (fun x : PE => prM (aggKey md N x.1)) V G → G.length ≤ V.length → G.length ≤ M) (hag : agB op = false) : Spec tab 19 [.str op, .int .i64 md, vn, .int .i64 k, v] [] hs (fun u D => ∃ (e : Nat) (W : List El) (w : AV), TopR op md N k V e (P2 W) ∧ VOwn W w D ∧ u = .tuple [w, .int .i64 (e : Nat)]) := by
 have hBl := hB.1
 refine Spec.en (ftg 19 Tryz.func19) rfl (m := 109) rfl (rs := [.tmp 10, .tmp 11]) rfl (st := [(0, .str op), (1, .int .i64 md), (2, vn), (3, .int .i64 k), (4, v)]) rfl rfl (fun _ => rfl) (fun E => zr (WO.box rfl rfl (bx3 _ rfl) rfl (fun b1 => WO.box1 rfl (SIn.cell hN) (bx40 _ rfl) rfl (fun bN => za rfl (za (zi 0) (zk (W.seq (zr (zm rfl (WO.cV rfl (oLc rfl oz) rfl (vck_spec hs hro V _ hV hB) (SubR.t (SubR.t (SubR.s hro))) rfl (za rfl (zk (zr (zm rfl (zq (Q.bin rfl (zi 0) rfl (bv_neq ne_nat)) (zk (W.cD rfl (fun hc28 => ?_) (fun hc28 => ?_))))))))))))))))))
 ·refine zr (zm rfl (za rfl (za rfl (zk (W.ret ?_)))))
  refine End.Kr (End.ret (ResL.tmp rfl (z1 rfl)) (hs' := []) ⟨_, [], .nils, .inl ⟨ag_1 (by simpa using hc28), rfl⟩, VOwn.nil, rfl⟩ no_wl (SubH.nil _))
 refine zw (zr (zm rfl (WO.cV rfl (oLc rfl oz) rfl (known_top op ho hag) SubR.nil rfl (zm rfl (zq (Q.extract rfl rfl) (zq (Q.extract rfl rfl) (WO.alloc ao76 rfl (fun b2 => WO.store sz76 rfl rfl (i := 0) rfl rfl (cs := [_]) rfl (hs' := _ :: _ :: _ :: _) rfl (za rfl (zk (W.sub (zc 14 rfl (zc 13 rfl (zc 7 rfl (zc 6 rfl (zc 0 rfl (zc 3 rfl (zc 4 rfl zzn))))))) (W.seq (W.block (zr (zm rfl (WO.cV rfl (oLc rfl oz) rfl (fits_spec _) SubR.nil rfl (zq (Q.not rfl rfl) (za rfl (zk (W.condS rfl (fun hc35 => ?_) (fun hc35 => ?_)))))))))))))))))))))
 ·refine zr (za rfl (za (zi 2) (zk (W.ret ?_))))
  refine End.Br (End.Kr (End.ret (ResL.tmp rfl (z1 rfl)) (hs' := []) ⟨_, [], .nils, .inl ⟨ag_2 (Classical.not_not.1 hc28) (by simpa using hc35), rfl⟩, VOwn.nil, rfl⟩ no_wl (SubH.nil _)))
 refine zr (zm rfl (zq (Q.not rfl rfl) (za rfl (zk (W.condS rfl (fun hc39 => ?_) (fun hc39 => ?_))))))
 ·refine zr (za rfl (za (zi 9) (zk (W.sub (zc 11 rfl (zc 10 rfl zzn)) (W.ret ?_)))))
  refine End.Br (End.Kr (End.ret (ResL.tmp rfl (z1 rfl)) (hs' := []) ⟨_, [], .nils, .inl ⟨ag_9 (Classical.not_not.1 hc28) (by simpa using hc35) ⟨hag, by simpa using hc39⟩, rfl⟩, VOwn.nil, rfl⟩ no_wl (SubH.nil _)))
 refine zr (zq (Q.l1 rfl (zt 2 rfl) ag3 rfl) (zq (Q.bin rfl (zi 0) rfl (bvl (ltA_eq _ _))) (zm rfl (WO.sD (d := 45) rfl (fun hc45 => ?_) (fun hc45 => ?_)))))
 ·refine zg rfl rfl (zg rfl rfl (zq (Q.pT rfl rfl) (za rfl (zk (W.sub (zc 42 rfl (zc 13 rfl (zc 7 rfl (zc 6 rfl (zc 0 rfl (zc 3 rfl (zc 4 rfl zzn))))))) (W.condT rfl (zr (za rfl (za (zi 2) (zk (W.ret ?_)))))))))))
  refine End.Br (End.Kr (End.ret (ResL.tmp rfl (z1 rfl)) (hs' := []) ⟨_, [], .nils, .inl ⟨ag_r (Classical.not_not.1 hc28) (by simpa using hc35) (.inr (by simpa using hc39)) (.inl (by simpa using hc45)), rfl⟩, VOwn.nil, rfl⟩ no_wl (SubH.nil _)))
 refine WO.gT rfl rfl (zq (Q.l1 rfl (zt 2 rfl) ag3 rfl) (WO.gT rfl rfl (zq (Q.bin rfl (zi 2) rfl (bv_gtr (ltA_eq _ _))) (zq (Q.pF rfl rfl) (za rfl (zk (W.sub (zc 42 rfl (zc 13 rfl (zc 7 rfl (zc 6 rfl (zc 0 rfl (zc 3 rfl (zc 4 rfl zzn))))))) (W.cD rfl (fun hc42 => ?_) (fun hc42 => ?_)))))))))
 ·refine zr (za rfl (za (zi 2) (zk (W.ret ?_))))
  refine End.Br (End.Kr (End.ret (ResL.tmp rfl (z1 rfl)) (hs' := []) ⟨_, [], .nils, .inl ⟨ag_r (Classical.not_not.1 hc28) (by simpa using hc35) (.inr (by simpa using hc39)) (.inr (by simpa using hc42)), rfl⟩, VOwn.nil, rfl⟩ no_wl (SubH.nil _)))
 have hck : vchk V = 0 := Classical.not_not.1 hc28
 have hfit : fitB k = true := (by simpa using hc35)
 have hmd : 0 ≤ md ∧ md ≤ 2 := (by first | (constructor <;> omega) | (simp at *; constructor <;> omega))
 have hK : ∀ i, i < V.length → KeyOK (eg V i).2.1 := fun i hi => vchk_key hB hck hi
 have hVl := vchk_len hck
 have hS := vchk_srt hck
 have hkq := quo_k hfit
 refine W.skip (End.KB (End.K (zr (zq (Q.makeF (oLc rfl (oLc rfl oz))) (WO.alloc ao80 rfl (fun b3 => WO.store sz80 rfl rfl (i := 0) rfl rfl (cs := [_]) rfl (hs' := _ :: _ :: _ :: _ :: _) rfl (zk (zr (zm rfl (zq (Q.makeF (oLc rfl oz)) ?_))))))))))
 (obtain ⟨SB, hSB⟩ : ∃ SB : HSt, SB = [⟨b3, ⟨1, true, [.func 54 [.ptr b1 0, .ptr bN 0]]⟩, true⟩, ⟨b2, ⟨1, true, [.nilf]⟩, true⟩, ⟨bN, ⟨1, true, [vn]⟩, true⟩, ⟨b1, ⟨1, true, (AV.int .i64 md).cells⟩, true⟩] := ⟨_, rfl⟩; refine WO.subH (hs' := hs ++ SB) (by subst hSB; exact gc) ?_)
 have m1 : MemH (ro SB ++ hs) b1 ⟨1, true, [.int .i64 md]⟩ := mem_s1 hSB 3 rfl
 have mN : MemH (ro SB ++ hs) bN ⟨1, true, [vn]⟩ := mem_s1 hSB 2 rfl
 have m4 : MemH (ro SB ++ hs) b3 ⟨1, true, [.func 54 [.ptr b1 0, .ptr bN 0]]⟩ := mem_s1 hSB 0 rfl
 refine WO.call0 rfl (oLc rfl (oLc rfl oz)) rfl (grp_spec (ro SB ++ hs) (ro_app hro) V v (hV.mono fun b o h => h.app) hB 57 [.ptr b3 0] (fun x : PE => prM (aggKey md N x.1)) (fun i hi => prM_bytes (ak_key (hK i hi) md N)) (fun i hi => agg2_spec (ro SB ++ hs) (ro_app hro) _ _ ((hV.at hi).mono fun b o h => h.app) (hK i hi) _ N vn (hN.mono fun b o h => h.app) hNb md b1 bN m1 mN b3 m4)) (SubR.mix gc hro) rfl (fun v52 D52 hP52 => ?_)
 obtain ⟨G, hpg, Dg, rfl, hG, hOg, hGB, hGl⟩ := hP52
 have hsub : ∀ x ∈ G, ∀ z ∈ x.1.2, z ∈ V := (fun x hx z hz => by rw [(hG.2.1 x hx).1] at hz; exact fl_mem hz)
 have hLm : ∀ x ∈ G, ∀ z ∈ x.1.2, LIn hs z.2.1 z.1 := fun x hx z hz => hV.2 z (hsub x hx z hz)
 have hpos : ∀ x ∈ G, 0 < x.1.2.length := fun x hx => List.length_pos_iff.2 (hG.2.1 x hx).2
 have hml : ∀ x ∈ G, x.1.2.length ≤ 256 := (fun x hx => by rw [(hG.2.1 x hx).1]; exact Nat.le_trans (List.length_filter_le _ _) hVl)
 have hmb : ∀ x ∈ G, EBd x.1.2 := fun x hx => ⟨Nat.le_trans (hml x hx) zy, fun z hz => hB.2 z (hsub x hx z hz)⟩
 have hEm : ∀ x ∈ G, EIn (ro (SB ++ Dg) ++ hs) x.1.2 x.2 := fun x hx => (GB.ein hGB hx (hLm x hx)).mono fun b o h => MemH.mixd2 h
 refine WO.subH (hs' := (hs ++ SB ++ (hpg ++ Dg))) (SubH.op (perm_tail (N := []) (G := (hpg ++ Dg)) (K := []) (X := hs ++ SB))) (za rfl (zk (zr (zm rfl (zq (Q.makeF (oLc rfl oz)) (WO.subH (hs' := hs ++ SB ++ Dg ++ hpg) gc (WO.callS (M := hpg) (A := (hs ++ SB ++ Dg)) rfl (oLc rfl (oLc rfl oz)) rfl (OwnE.w (OwnE.of hOg)) gc (hSrt G _ hpg (ro (SB ++ Dg) ++ hs) (ro_app hro) 60 [.ptr b3 0] hOg (hM hck hmd.1 hmd.2 G hG hGl) (fun x hx => ⟨EIn.cell (hEm x hx), EIn.bq (hEm x hx)⟩) (fun x hx y hy => agg3_any (ro_app hro) (hEm x hx) (hEm y hy) (hmb x hx) (hmb y hy) (hpos x hx) (hpos y hy) N vn (hN.mono fun b o h => h.app) hNb md b1 bN (mem_sb hSB 3 rfl) (mem_sb hSB 2 rfl) b3 (mem_sb hSB 0 rfl))) (SubR.mix gc hro) rfl (fun v55 D55 hP55 => ?_))))))))
 obtain ⟨G', pG, hO5⟩ := hP55
 have hG' := hG.perm pG
 have hlen : G'.length = G.length := pG.length_eq
 have hGl' : G'.length ≤ 256 := (by rw [pG.length_eq]; omega)
 refine WO.subH (hs' := (hs ++ SB ++ Dg ++ D55)) (SubH.op (perm_tail (N := []) (G := D55) (K := []) (X := hs ++ SB ++ Dg))) (zk (zr (za rfl (zk (W.seq (zr (zm rfl (zq (Q.len ud81 rfl hOg.len) (zq (Q.move (zi 0)) (zk (W.block (W.loop_ind5 (fun (i : Nat) (X : List El) (u : AV) (hp : HSt) (hl : HSt) => [(0, .str op), (3, .int .i64 k), (13, .ptr b2 0), (15, .ptr b3 0), (17, u), (56, v52), (57, .int .i64 ((G.length : Nat) : Int)), (58, .int .i64 ((i : Nat) : Int))]) (fun (i : Nat) (X : List El) (u : AV) (hp : HSt) (hl : HSt) => (hs ++ SB ++ Dg ++ D55 ++ hp ++ hl)) (fun (i : Nat) (X : List El) (u : AV) (hp : HSt) (hl : HSt) => i ≤ G'.length ∧ (P2 X).Perm ((G'.take i).flatMap fun g => (P2 g.1.2).filter (stP op (k.tdiv 1000000) (P2 g.1.2))) ∧ X.length ≤ 256 * i ∧ OwnE 2 (cE X) X.length u hp ∧ (∀ x ∈ X, LIn hl x.2.1 x.1) ∧ WZ hl ∧ EBd X) (fun (i : Nat) (X : List El) (u : AV) (hp : HSt) (hl : HSt) => G'.length - i) (0) ([]) (.nils) ([]) ([]) ⟨Nat.zero_le _, List.Perm.refl _, Nat.zero_le _, OwnE.nil 2, fun x hx => by simp at hx, WZ.nil, ebd_nil⟩ zv (by rw [List.append_nil, List.append_nil]; exact SubH.refl _) (fun i X u hp hl hI0 ih0 => ?_)))))))))))))
 obtain ⟨h1, h2, h3, hO, hL, hwz, hXB⟩ := hI0
 have hw := hwz.w
 have hXl := hXB.1
 refine zr (zq (Q.bin rfl rfl rfl (bvl ltn)) (zk (W.seq (W.cD rfl (fun hc59 => ?_) (fun hc59 => ?_)))))
 ·obtain ⟨bo, exo, rfl, hho⟩ := Own.full hO5 zy
  have mo : (⟨bo, ⟨1, exo, G'.map (·.2)⟩, true⟩ : HE) ∈ D55 := (by rw [hho]; exact List.mem_cons_self)
  obtain ⟨g, hgj⟩ : ∃ g, G'[i]? = some g := ⟨_, List.getElem?_eq_getElem zy⟩
  have hgm := pG.mem_iff.1 (List.mem_of_getElem? hgj)
  have hEi : EIn (ro Dg ++ hs) g.1.2 g.2 := GB.ein hGB hgm (hLm g hgm)
  have hEb := hmb g hgm
  have hgl := hml g hgm
  have hSm : Srt (P2 g.1.2) := (by rw [(hG.2.1 g hgm).1, p2_fl]; exact srt_filter hS _)
  have mT := hSB
  refine zw (W.seq (W.block (zr (zq (Q.iS ud81 sz22 rfl rfl zo) (zq (Q.l1 rfl (List.mem_append_left _ (List.mem_append_left _ (List.mem_append_right _ mo))) ag22 (gmap_at hgj)) (za rfl (zk (W.seq (zr (zf fa76_0 rfl 0 (zq (Q.l1 rfl (List.mem_append_left _ (List.mem_append_left _ (List.mem_append_left _ (List.mem_append_left _ (List.mem_append_right _ (by rw [hSB]; exact List.mem_cons_of_mem _ List.mem_cons_self)))))) ag74 rfl) (zq (Q.bin rfl rfl rfl eq74n) (zk (W.condT rfl (zr (zm rfl (zm rfl (zm rfl (zm rfl (zq (Q.bin rfl (zi 1000000) rfl (bv_quo (by decide) hkq)) (WO.call0 rfl (oLc rfl (oLc rfl (oLc rfl oz))) rfl (best_spec (ro Dg ++ hs) (ro_app hro) g.1.2 g.2 hEi hEb op ho (k.tdiv 1000000)) (SubR.mix gc hro) rfl (fun v70 D70 hP70 => ?_))))))))))))))))))))))
  obtain ⟨g70, X70, pg70, sg70, hX70, hO70⟩ := hP70
  have hl70 : X70.length ≤ 256 := (by rw [← p2_ln (F := X70), hX70, List.length_take, p2_ln, vF_len]; omega)
  refine WO.subH (hs' := (hs ++ SB ++ Dg ++ D55 ++ hp ++ hl ++ D70)) (SubH.op (perm_tail (N := []) (G := D70) (K := []) (X := hs ++ SB ++ Dg ++ D55 ++ hp ++ hl))) (WO.appAny (A := ([] ++ hs ++ SB ++ Dg ++ D55 ++ hl ++ D70)) ap22_22 hO rfl rfl (VOwn.src hO70 (fun e he => ⟨e.w, by obtain ⟨b, o, w⟩ := e; simp [he]⟩)) (cE_len _) zy (by decide) gc rfl (fun v71 hp71 hO71 => za rfl (zk (W.sub (zc 17 rfl (zc 0 rfl (zc 3 rfl (zc 13 rfl (zc 15 rfl (zc 56 rfl (zc 57 rfl (zc 58 rfl zzn)))))))) (W.exit (End.Kx (End.Bh (End.K (W.reg (zq (Q.bin rfl (zi 1) rfl zp) (zm rfl (WO.nil (End.KL (W.sub zv (W.sH gc (ih0 (i + 1) (X ++ X70) (v71) (hp71) (hl ++ D70) ?_ ?_))))))))))))))))
  ·exact ⟨by omega, by rw [p2_append, take_ge hgj, List.flatMap_append]; exact h2.append (by rw [List.flatMap_cons, List.flatMap_nil, List.append_nil, hX70]; exact best_perm hSm pg70 sg70), by rw [List.length_append]; omega, own_cat hO71, lin_cat hL (VOwn.lin hO70), WZ.app hwz (VOwn.wz hO70), ebd_cat hXB (VOwn.ebd hO70) zy⟩
  exact zo
 refine W.exit (End.Kx (End.Lx (End.Bh (End.K (zr (zm rfl (WO.callS (M := hp) (A := (hs ++ SB ++ Dg ++ D55 ++ hl)) rfl (oLc rfl oz) rfl (OwnE.w hO) gc (ord_spec (ro hl) ro_w X u hp hO (fun x hx => (hL x hx).mono fun b o h => h.ro) hXB) (SubR.ro gc) rfl (fun v106 D106 hP106 => ?_))))))))
 obtain ⟨e106, W106, w106, hR106, hM106, hO106, rfl⟩ := hP106
 refine WO.subH (hs' := (hs ++ SB ++ Dg ++ D55 ++ hl ++ D106)) (SubH.op (perm_tail (N := []) (G := D106) (K := []) (X := hs ++ SB ++ Dg ++ D55 ++ hl))) (zq (Q.extract rfl rfl) (zq (Q.extract rfl rfl) (za rfl (za rfl (zk (W.ret ?_))))))
 refine End.ret (ResL.tmp rfl (z1 rfl)) (hs' := D106 ++ hl) ⟨e106, W106, w106, .inr ⟨ag_no hck hfit (.inr (by simpa using hc39)) hmd, ord_pm (h2.trans (by rw [List.take_of_length_le zy]; exact grp_perm hG')) hR106⟩, ⟨D106, hl, rfl, hO106, fun x hx => hL x (hM106 x hx), hwz, ord_ebd hR106 hM106 hXB⟩, rfl⟩ (wa (OwnE.w hO106) hw) gc
def vsE (M : List El) : List Int := M.map (·.2.2)
noncomputable def vlA (op : List Nat) (md : Int) (N : List (List Nat)) (L : List PE) (x : PE) : Int × Nat := toldM op ((L.filter fun y => decide (prM (aggKey md N y.1) = prM (aggKey md N x.1))).map (·.2))
def TellR (op : List Nat) (md : Int) (N : List (List Nat)) (k : Int) (V : List El) (e : Nat) (W : List PE) : Prop :=
 (aggPre op md k V = some e ∧ W = []) ∨ (aggPre op md k V = none ∧ (((∃ x ∈ P2 V, (vlA op md N (P2 V) x).2 ≠ 0 ∧ e = (vlA op md N (P2 V) x).2) ∧ W = []) ∨
  ((∀ x ∈ P2 V, (vlA op md N (P2 V) x).2 = 0) ∧ e = 0 ∧ Srt W ∧ ∀ p, p ∈ W ↔ ∃ x ∈ P2 V, p = (aggKey md N x.1, (vlA op md N (P2 V) x).1))))
section
variable {op : List Nat} {md : Int} {N : List (List Nat)} {V : List El} {G : List Ge}
theorem vs_len {M : List El} : (vsE M).length = M.length := List.length_map _
theorem vs_at {M : List El} {j : Nat} (h : j < M.length) : (vsE M).take (j + 1) = (vsE M).take j ++ [(eg M j).2.2] := by
 rw [List.take_add_one]
 congr 1
 unfold vsE eg
 rw [List.getElem?_map, List.getElem?_eq_getElem h, List.getD_eq_getElem?_getD, List.getElem?_eq_getElem h]
 rfl
theorem vs_p2 {M : List El} : vsE M = (P2 M).map (·.2) := by unfold vsE P2; rw [List.map_map]; rfl
theorem grp_key (h : GInv (fun x : PE => prM (aggKey md N x.1)) V G) {g : Ge} (hg : g ∈ G) {z : El} (hz : z ∈ g.1.2) : prM (aggKey md N z.2.1) = g.1.1 := by
 rw [(h.2.1 g hg).1] at hz
 exact of_decide_eq_true (List.mem_filter.1 hz).2
theorem grp_val (h : GInv (fun x : PE => prM (aggKey md N x.1)) V G) {g : Ge} (hg : g ∈ G) {z : El} (hz : z ∈ g.1.2) : toldM op (vsE g.1.2) = vlA op md N (P2 V) z.2 := by
 unfold vlA
 rw [grp_key h hg hz, vs_p2]
 conv => lhs; rw [(h.2.1 g hg).1]
 rw [p2_fl]
theorem grp_hd (h : GInv (fun x : PE => prM (aggKey md N x.1)) V G) {g : Ge} (hg : g ∈ G) : eg g.1.2 0 ∈ g.1.2 := eg_mem (List.length_pos_iff.2 (h.2.1 g hg).2)
theorem grp_in (h : GInv (fun x : PE => prM (aggKey md N x.1)) V G) {g : Ge} (hg : g ∈ G) {z : El} (hz : z ∈ g.1.2) : z.2 ∈ P2 V := by
 rw [(h.2.1 g hg).1] at hz
 exact List.mem_map.2 ⟨z, fl_mem hz, rfl⟩
noncomputable def grpE (op : List Nat) (md : Int) (N : List (List Nat)) (g : Ge) : PE := (aggKey md N (eg g.1.2 0).2.1, (toldM op (vsE g.1.2)).1)
theorem tell_fin {e : Nat} {W : List PE} (h : GInv (fun x : PE => prM (aggKey md N x.1)) V G) (hK : ∀ i, i < V.length → KeyOK (eg V i).2.1) (hz : ∀ g ∈ G, (toldM op (vsE g.1.2)).2 = 0) (hR : OrdR (G.map (grpE op md N)) e W) :
  (∀ x ∈ P2 V, (vlA op md N (P2 V) x).2 = 0) ∧ e = 0 ∧ Srt W ∧ ∀ p, p ∈ W ↔ ∃ x ∈ P2 V, p = (aggKey md N x.1, (vlA op md N (P2 V) x).1) := by
 have hx : ∀ x ∈ P2 V, ∃ g ∈ G, ∃ z ∈ g.1.2, z.2 = x := by
  intro x hx
  obtain ⟨y, hy, rfl⟩ := List.mem_map.1 hx
  obtain ⟨g, hg, e⟩ := h.2.2 y hy
  refine ⟨g, hg, y, ?_, rfl⟩
  rw [(h.2.1 g hg).1]
  exact List.mem_filter.2 ⟨hy, decide_eq_true e.symm⟩
 have hn : ((G.map (grpE op md N)).map (·.1)).Nodup := by
  rw [List.map_map]
  have h1 := h.1
  unfold List.Nodup at h1 ⊢
  rw [List.pairwise_map] at h1 ⊢
  refine List.Pairwise.imp_of_mem ?_ h1
  intro a b ha hb hab e
  refine hab ?_
  rw [← grp_key h ha (grp_hd h ha), ← grp_key h hb (grp_hd h hb)]
  exact congrArg prM e
 refine ⟨fun x hx' => ?_, ?_⟩
 ·obtain ⟨g, hg, z, hz', rfl⟩ := hx x hx'
  rw [← grp_val h hg hz']
  exact hz g hg
 rcases hR with ⟨_, _, h3⟩ | ⟨h1, h2, h3⟩
 ·exact absurd hn h3
 refine ⟨h1, h3, fun p => ?_⟩
 rw [h2.mem_iff, List.mem_map]
 constructor
 ·rintro ⟨g, hg, rfl⟩
  refine ⟨(eg g.1.2 0).2, grp_in h hg (grp_hd h hg), ?_⟩
  unfold grpE
  rw [grp_val h hg (grp_hd h hg)]
 ·rintro ⟨x, hx', rfl⟩
  obtain ⟨g, hg, z, hz', rfl⟩ := hx x hx'
  refine ⟨g, hg, ?_⟩
  have hkz : KeyOK z.2.1 := key_mem hK (by rw [(h.2.1 g hg).1] at hz'; exact fl_mem hz')
  have hkh : KeyOK (eg g.1.2 0).2.1 := key_mem hK (by have := grp_hd h hg; rw [(h.2.1 g hg).1] at this ⊢; exact fl_mem this)
  have e : aggKey md N (eg g.1.2 0).2.1 = aggKey md N z.2.1 := pr_inj (ak_key hkh md N).lab (ak_key hkz md N).lab ((grp_key h hg (grp_hd h hg)).trans (grp_key h hg hz').symm)
  unfold grpE
  rw [e, grp_val h hg hz']
end
theorem told_add {a b : Int} : I64 (fAdd a b).1 := by
 unfold fAdd fTold
 split
 ·split
  ·rename_i h
   unfold fitsB at h
   simp only [Bool.and_eq_true, decide_eq_true_eq] at h
   unfold I64; omega
  ·unfold I64; decide
 ·unfold I64; decide
theorem sum_i64 : ∀ (l : List Int) (a : Int), I64 a → I64 (sumG a l).1
 | [], a, h => h
 | n :: l, a, h => by
  rw [sumG]
  split
  ·show I64 0; unfold I64; decide
  ·exact sum_i64 l _ told_add
theorem scale_i64 {a b c : Int} : I64 (fScale a b c).1 := by
 unfold fScale fScaled
 split
 ·split
  ·rename_i h
   show I64 (sgn _ _)
   unfold sgn I64
   generalize hq : a.natAbs * b.natAbs / c.natAbs = q at *
   split <;> omega
  ·unfold I64; decide
 ·unfold I64; decide
theorem mm_i64 {f : Int → Int → Int} (hf : ∀ a b, I64 a → I64 b → I64 (f a b)) : ∀ (l : List Int) (a : Int), I64 a → (∀ n ∈ l, I64 n) → I64 (l.foldl f a)
 | [], a, h, _ => h
 | n :: l, a, h, g => mm_i64 hf l _ (hf _ _ h (g n (by simp))) fun m hm => g m (by simp [hm])
theorem told_i64 {op : List Nat} {L : List Int} (h : ∀ n ∈ L, I64 n) (hl : L.length ≤ 256) : I64 (toldM op L).1 := by
 have h0 : I64 (il L 0) := by
  unfold il
  rw [List.getD_eq_getElem?_getD]
  cases e : L[0]? with
  | none => unfold I64; decide
  | some n => exact h n (List.mem_of_getElem? e)
 have hd : ∀ n ∈ L.drop 1, I64 n := fun n hn => h n (List.mem_of_mem_drop hn)
 unfold toldM
 split
 ·exact sum_i64 _ _ (by unfold I64; decide)
 split
 ·unfold meanM
  split
  ·show I64 0; unfold I64; decide
  ·exact scale_i64
 split
 ·show I64 ((L.length * 1000000 : Nat) : Int)
  unfold I64; omega
 split
 ·exact mm_i64 (fun a b ha hb => by unfold I64 at *; omega) _ _ h0 hd
 ·exact mm_i64 (fun a b ha hb => by unfold I64 at *; omega) _ _ h0 hd
theorem eq74f {F : Nat} : evBin tab .eql 74 (.func F []) .nilf = some (.bool false) := by rfl
theorem told_mm {op : List Nat} {L : List Int} (h1 : op ≠ [115, 117, 109]) (h2 : op ≠ [97, 118, 103]) (h3 : op ≠ [99, 111, 117, 110, 116]) : toldM op L = if op = [109, 105, 110] then (minM L, 0) else (maxM L, 0) := by
 unfold toldM
 rw [if_neg h1, if_neg h2, if_neg h3]
def betB (op : List Nat) (n m : Int) : Bool := if op = [98, 111, 116, 116, 111, 109, 107] then decide (n < m) else decide (m < n)
def ahB (op : List Nat) (K V : List El) (i j : Nat) : Bool := decide ((eg K i).2.1 = (eg K j).2.1) && !(decide (i = j)) && (betB op (eg V j).2.2 (eg V i).2.2 || (decide ((eg V j).2.2 = (eg V i).2.2) && decide (j < i)))
def cA (op : List Nat) (K V : List El) (i j : Nat) : Nat := ((List.range j).filter (ahB op K V i)).length
section
variable {op : List Nat} {K V : List El} {i j : Nat}
theorem ca_y (h : ahB op K V i j = true) : cA op K V i (j + 1) = cA op K V i j + 1 := by
 unfold cA
 rw [List.range_succ, List.filter_append, List.length_append]
 simp [h]
theorem ca_n (h : ahB op K V i j = false) : cA op K V i (j + 1) = cA op K V i j := by
 unfold cA
 rw [List.range_succ, List.filter_append, List.length_append]
 simp [h]
theorem ca_le (j : Nat) : cA op K V i j ≤ j := Nat.le_trans (List.length_filter_le _ _) (by rw [List.length_range]; exact Nat.le_refl _)
theorem kread (h : i < K.length) : (K.map (·.1))[(0 + i) * 1]? = some (eg K i).1 := by
 rw [Nat.zero_add, Nat.mul_one, List.getElem?_map, List.getElem?_eq_getElem h]
 unfold eg
 rw [List.getD_eq_getElem?_getD, List.getElem?_eq_getElem h]; rfl
end

theorem told_spec (op : List Nat) (ho : Bytes op) (hop : agB op = true) (hs : HSt) (hro : ∀ e ∈ hs, e.w = false) (L : List Int) (b sz : Nat) (ex : Bool) (m : MemH hs b ⟨sz, ex, L.map (AV.int .i64)⟩) (h0 : 0 < L.length) (hl : L.length ≤ 256) : Spec tab 107 [.str op, .slice b 0 L.length 1] [] hs (Val (.tuple [.int .i64 (toldM op L).1, .int .i64 (((toldM op L).2 : Nat) : Int)])) := by
 have mo := m
 obtain ⟨wb, mb⟩ := m
 refine Spec.en (ftg 107 Tryz.func107) rfl (m := 62) rfl (rs := [.tmp 4, .tmp 5]) rfl (st := [(0, .str op), (1, .slice b 0 L.length 1)]) rfl rfl (fun _ => rfl) (fun E => zr (za (zi 0) (za (zi 0) (zk (zr (zm rfl (zq (Q.iaddrL ud89 sz3 rfl (zi 0) zo (o' := 0) rfl) (zq (Q.l1 rfl mb ag3 (iread zo)) (za rfl (zk (W.seq (zr (zm rfl (zk (W.block (zr (zq (Q.bin rfl (oc (v := .str [115, 117, 109]) (by kernel_rfl)) rfl bv_seql) (za rfl (zk (W.cD rfl (fun hc14 => ?_) (fun hc14 => ?_)))))))))))))))))))))
 ·refine zr (zm rfl (WO.cV rfl (oLc rfl oz) rfl (rsum_spec hs hro L b sz ex mo h0 hl) (SubR.s hro) rfl (zq (Q.extract rfl rfl) (zq (Q.extract rfl rfl) (za rfl (za rfl (zk (W.ret (End.Br (End.Kr (End.rV (ResL.tmp rfl (z1 rfl)) ?_)))))))))))
  have e0 : op = [115, 117, 109] := (by assumption)
  subst e0
  rw [told_sum]; rfl
 refine zr (zq (Q.bin rfl (oc (v := .str [97, 118, 103]) (by kernel_rfl)) rfl bv_seql) (za rfl (zk (W.cD rfl (fun hc20 => ?_) (fun hc20 => ?_)))))
 ·refine zr (zm rfl (WO.cV rfl (oLc rfl oz) rfl (rsum_spec hs hro L b sz ex mo h0 hl) (SubR.s hro) rfl (zm rfl (zq (Q.extract rfl rfl) (zq (Q.extract rfl rfl) (za rfl (za rfl (zk (W.sub (zc 8 rfl (zc 7 rfl (zc 1 rfl zzn))) (W.seq (zr (zm rfl (zq (Q.bin rfl (zi 0) rfl (bv_neq ne_nat)) (zk (W.cD rfl (fun hc28 => ?_) (fun hc28 => ?_))))))))))))))))
  ·refine zr (zm rfl (za (zi 0) (za rfl (zk (W.ret (End.Kr (End.Br (End.Kr (End.rV (ResL.tmp rfl (z1 rfl)) ?_)))))))))
   have he : (sumM L).2 ≠ 0 := zy
   have e0 : op = [97, 118, 103] := (by assumption)
   subst e0
   rw [told_avg]
   unfold meanM; rw [if_pos he]; rfl
  refine zw (zr (zm rfl (zm rfl (zq (Q.len ud89 rfl rfl) (WO.cV rfl (oLc rfl (oLc (zi 1) (oLc rfl oz))) rfl (Spec.known (fun _ => rfl)) SubR.nil rfl (zq (Q.extract rfl rfl) (zq (Q.extract rfl rfl) (za rfl (za rfl (zk (W.ret (End.Br (End.Kr (End.rV (ResL.tmp rfl (z1 rfl)) ?_))))))))))))))
  have he : ¬ (sumM L).2 ≠ 0 := zy
  have e0 : op = [97, 118, 103] := (by assumption)
  subst e0
  rw [told_avg]
  unfold meanM; rw [if_neg he]; rfl
 refine zr (zq (Q.bin rfl (oc (v := .str [99, 111, 117, 110, 116]) (by kernel_rfl)) rfl bv_seql) (za rfl (zk (W.cD rfl (fun hc36 => ?_) (fun hc36 => ?_)))))
 ·refine zr (zm rfl (zq (Q.len ud89 rfl rfl) (zq (Q.bin rfl (zi 1000000) rfl (bv_mul (wn_mul zo))) (za rfl (za (zi 0) (zk (W.sub (zc 5 rfl (zc 4 rfl zzn)) (W.ret (End.Br (End.Kr (End.rV (ResL.tmp rfl (z1 rfl)) ?_)))))))))))
  have e0 : op = [99, 111, 117, 110, 116] := (by assumption)
  subst e0
  rw [told_count]; rfl
 refine W.skip (End.KB (End.K (W.seq (zr (za (zi 1) (zk (W.block (W.loop_ind2 (fun (i : Nat) (a : Int) => [(0, .str op), (1, .slice b 0 L.length 1), (6, .int .i64 a), (9, .int .i64 ((i : Nat) : Int))]) (fun (i : Nat) (a : Int) => hs) (fun (i : Nat) (a : Int) => 1 ≤ i ∧ i ≤ L.length ∧ minM L = (if op = [109, 105, 110] then (L.drop i).foldl min a else minM L) ∧ maxM L = (if op = [109, 105, 110] then maxM L else (L.drop i).foldl max a)) (fun (i : Nat) (a : Int) => L.length - i) (1) (il L 0) ⟨Nat.le_refl _, by omega, by split <;> rfl, by split <;> rfl⟩ zv (SubH.refl _) (fun i a hI0 ih0 => ?_)))))))))
 obtain ⟨h1, h2, h3, h4⟩ := hI0
 refine W.seq (zr (zm rfl (zm rfl (zq (Q.len ud89 rfl rfl) (zq (Q.bin rfl rfl rfl (bvl ltn)) (zk (W.cD rfl (fun hc44 => ?_) (fun hc44 => ?_))))))))
 ·refine zw (W.seq (W.block (zr (zm rfl (zq (Q.bin rfl (oc (v := .str [109, 105, 110]) (by kernel_rfl)) rfl bv_seql) (zk (W.cD rfl (fun hc48 => ?_) (fun hc48 => ?_))))))))
  ·refine W.reg (zm rfl (zm rfl (zm rfl (zq (Q.iS ud89 sz3 rfl rfl zo) (zq (Q.l1 rfl mb ag3 (iread zo)) (zq (Q.minmax false (oLc rfl (oLc rfl oz)) mm_minI) (za rfl (WO.nil (End.KB (End.K (W.reg (zm rfl (zq (Q.bin rfl (zi 1) rfl zp) (za rfl (WO.nil (End.KL (W.sub zv (W.sH (SubH.refl _) (ih0 (i + 1) (min a (il L i)) ?_ ?_)))))))))))))))))))
   ·exact ⟨by omega, by omega, by rw [if_pos (by assumption)] at h3 ⊢; rw [h3, drop_il zy]; rfl, by rw [if_pos (by assumption)]⟩
   exact zo
  refine W.reg (zm rfl (zm rfl (zm rfl (zq (Q.iS ud89 sz3 rfl rfl zo) (zq (Q.l1 rfl mb ag3 (iread zo)) (zq (Q.minmax true (oLc rfl (oLc rfl oz)) mm_maxI) (za rfl (WO.nil (End.KB (End.K (W.reg (zm rfl (zq (Q.bin rfl (zi 1) rfl zp) (za rfl (WO.nil (End.KL (W.sub zv (W.sH (SubH.refl _) (ih0 (i + 1) (max a (il L i)) ?_ ?_)))))))))))))))))))
  ·exact ⟨by omega, by omega, by rw [if_neg (by assumption)], by rw [if_neg (by assumption)] at h4 ⊢; rw [h4, drop_il zy]; rfl⟩
  exact zo
 refine W.exit (End.Kx (End.Lx (End.Bh (End.K (zr (zm rfl (za rfl (za (zi 0) (zk (W.ret (End.rV (ResL.tmp rfl (z1 rfl)) ?_)))))))))))
 rw [told_mm (by assumption) (by assumption) (by assumption)]
 by_cases q : op = [109, 105, 110]
 ·rw [if_pos q] at h3 ⊢; rw [h3, List.drop_of_length_le zy]; rfl
 rw [if_neg q] at h4 ⊢; rw [h4, List.drop_of_length_le zy]; rfl

theorem stays_spec (hs : HSt) (hro : ∀ e ∈ hs, e.w = false) (V : List El) (bv szv : Nat) (exv : Bool) (mvv : MemH hs bv ⟨szv, exv, cE V⟩) (hVL : ∀ x ∈ V, LIn hs x.2.1 x.1) (hB : EBd V) (K : List El) (bk szk : Nat) (exk : Bool) (mkk : MemH hs bk ⟨szk, exk, K.map (·.1)⟩) (hKL : ∀ x ∈ K, LIn hs x.2.1 x.1) (hKl : K.length = V.length) (hKb : ∀ x ∈ K, LBd x.2.1) (op : List Nat) (ho : Bytes op) (i : Nat) (hi : i < V.length) (k : Int) : Spec tab 64 [.str op, .slice bk 0 K.length 1, .slice bv 0 V.length 2, .int .i64 ((i : Nat) : Int), .int .i64 k] [] hs (Val (.bool (decide (((cA op K V i V.length : Nat) : Int) < k)))) := by
 have hV : EIn hs V (.slice bv 0 V.length 2) := ⟨.inr ⟨_, _, _, rfl, mvv⟩, hVL⟩
 have hKk : TIn hs K (.slice bk 0 K.length 1) := ⟨.inr ⟨_, _, _, rfl, mkk⟩, hKL⟩
 have hBl := hB.1
 obtain ⟨wk, mk_⟩ := mkk
 obtain ⟨wv, mv⟩ := mvv
 refine Spec.en (ftg 64 Tryz.func64) rfl (m := 83) rfl (rs := [.tmp 10]) rfl (st := [(0, .str op), (1, .slice bk 0 K.length 1), (2, .slice bv 0 V.length 2), (3, .int .i64 ((i : Nat) : Int)), (4, .int .i64 k)]) rfl rfl (fun _ => rfl) (fun E => zr (za rfl (zk (zr (za (zi 0) (zk (W.seq (zr (za (zi 0) (zk (W.block (W.loop_ind (fun (j : Nat) => [(0, .str op), (1, .slice bk 0 K.length 1), (2, .slice bv 0 V.length 2), (3, .int .i64 ((i : Nat) : Int)), (4, .int .i64 k), (11, .int .i64 ((cA op K V i j : Nat) : Int)), (12, .int .i64 ((j : Nat) : Int))]) (fun (j : Nat) => hs) (fun (j : Nat) => j ≤ V.length) (fun (j : Nat) => V.length - j) (0) (Nat.zero_le _) zv (SubH.refl _) (fun j hI0 ih0 => ?_)))))))))))))
 have h1 := hI0
 have hcl := ca_le (op := op) (K := K) (V := V) (i := i) j
 refine W.seq (zr (zm rfl (zm rfl (zq (Q.len ud22 rfl rfl) (zq (Q.bin rfl rfl rfl (bvl ltn)) (zk (W.cD rfl (fun hc17 => ?_) (fun hc17 => ?_))))))))
 ·refine zw (W.seq (W.block (W.seq (W.seq (W.regT (by kernel_rfl) (zm rfl (zm rfl (zq (Q.iS ud90 sz33 rfl rfl zo) (zq (Q.l1 rfl mk_ ag33 (kread zo)) (zm rfl (zm rfl (zq (Q.iS ud90 sz33 rfl rfl zo) (zq (Q.l1 rfl mk_ ag33 (kread zo)) (WO.cV rfl (oLc rfl (oLc rfl oz)) rfl (rsame_spec hs hro _ _ _ _ (hKk.2 _ (eg_mem zy)) (hKk.2 _ (eg_mem zy)) (hKb _ (eg_mem zy)) (hKb _ (eg_mem zy))) (SubR.s hro) rfl (zq (Q.not rfl not_dec) (zm rfl (WO.sD (d := 30) rfl (fun hc30 => ?_) (fun hc30 => ?_))))))))))))))))))
  ·refine zg rfl rfl (zg rfl rfl (zg rfl rfl (zq (Q.pT rfl rfl) (zk (W.sub (zc 34 rfl (zc 0 rfl (zc 1 rfl (zc 2 rfl (zc 3 rfl (zc 4 rfl (zc 11 rfl (zc 12 rfl zzn)))))))) (W.condT rfl (W.exit (End.Kx (End.Bh (End.K (W.reg (zm rfl (zq (Q.bin rfl (zi 1) rfl zp) (za rfl (WO.nil (End.KL (W.sub (zd rfl (zd rfl (zd rfl (zd rfl (zd rfl (SubS.cons (by rw [ca_n (by unfold ahB; simp_all)]; rfl) (zd rfl zzn))))))) (W.sH (SubH.refl _) (ih0 (j + 1) ?_ ?_)))))))))))))))))))
   ·exact zy
   exact zo
  refine WO.gT rfl rfl (zm rfl (WO.gT rfl rfl (zm rfl (WO.gT rfl rfl (zq (Q.bin rfl rfl rfl (bv_eql eq_nat)) (zq (Q.pF rfl rfl) (zk (W.sub (zc 34 rfl (zc 0 rfl (zc 1 rfl (zc 2 rfl (zc 3 rfl (zc 4 rfl (zc 11 rfl (zc 12 rfl zzn)))))))) (W.cD rfl (fun hc34 => ?_) (fun hc34 => ?_))))))))))
  ·refine W.exit (End.Kx (End.Bh (End.K (W.reg (zm rfl (zq (Q.bin rfl (zi 1) rfl zp) (za rfl (WO.nil (End.KL (W.sub (zd rfl (zd rfl (zd rfl (zd rfl (zd rfl (SubS.cons (by rw [ca_n (by unfold ahB; simp_all)]; rfl) (zd rfl zzn))))))) (W.sH (SubH.refl _) (ih0 (j + 1) ?_ ?_))))))))))))
   ·exact zy
   exact zo
  refine zw (W.seq (W.regT (by kernel_rfl) (zm rfl (zm rfl (zq (Q.iS ud22 sz35 rfl rfl zo) (zq (Q.fieldAddr fa35_1 rfl rfl) (zq (Q.l1 rfl mv ag3 (cE_f1 zo)) (zm rfl (zm rfl (zq (Q.iS ud22 sz35 rfl rfl zo) (zq (Q.fieldAddr fa35_1 rfl rfl) (zq (Q.l1 rfl mv ag3 (cE_f1 zo)) (zq (Q.bin rfl rfl rfl (bv_gtr (ltA_eq _ _))) (za rfl (zk (W.seqJ1 (fun (bt : Bool) => [(0, .str op), (1, .slice bk 0 K.length 1), (2, .slice bv 0 V.length 2), (3, .int .i64 ((i : Nat) : Int)), (4, .int .i64 k), (11, .int .i64 ((cA op K V i j : Nat) : Int)), (12, .int .i64 ((j : Nat) : Int)), (13, .bool bt)]) (fun (bt : Bool) => hs) (fun (bt : Bool) => bt = betB op (eg V j).2.2 (eg V i).2.2) (fun bt hI9 => ?_) (fun hJ9 => ?_)))))))))))))))))
  ·have hbt := hI9
   refine W.seq (W.regT (by kernel_rfl) (zm rfl (zm rfl (WO.split (d := 60) rfl (fun hc60 => ?_) (fun hc60 => ?_)))))
   ·refine zg rfl rfl (zg rfl rfl (zg rfl rfl (zg rfl rfl (zg rfl rfl (zg rfl rfl (zg rfl rfl (zg rfl rfl (zg rfl rfl (zg rfl rfl (zg rfl rfl (zg rfl rfl (WO.gF rfl rfl (.inr rfl) rfl (WO.gF rfl rfl (.inr rfl) rfl (WO.gF rfl rfl (.inr rfl) rfl (zg rfl rfl (zq (Q.pT rfl rfl) (zk (W.sub (zc 77 rfl (zc 0 rfl (zc 1 rfl (zc 2 rfl (zc 3 rfl (zc 4 rfl (zc 11 rfl (zc 12 rfl zzn)))))))) (W.condT rfl (W.reg (zm rfl (zq (Q.bin rfl (zi 1) rfl zp) (za rfl ?_)))))))))))))))))))))))
    refine WO.nil (End.KB (End.K (W.reg (zm rfl (zq (Q.bin rfl (zi 1) rfl zp) (za rfl (WO.nil (End.KL (W.sub (zd rfl (zd rfl (zd rfl (zd rfl (zd rfl (SubS.cons (by rw [ca_y (by unfold ahB; simp_all)]; rfl) (zd rfl zzn))))))) (W.sH (SubH.refl _) (ih0 (j + 1) ?_ ?_)))))))))))
    ·exact zy
    exact zo
   refine WO.gT rfl rfl (zm rfl (WO.gT rfl rfl (zm rfl (WO.gT rfl rfl (zq (Q.iS ud22 sz35 rfl rfl zo) (WO.gT rfl rfl (zq (Q.fieldAddr fa35_1 rfl rfl) (WO.gT rfl rfl (zq (Q.l1 rfl mv ag3 (cE_f1 zo)) (WO.gT rfl rfl (zm rfl (WO.gT rfl rfl (zm rfl (WO.gT rfl rfl (zq (Q.iS ud22 sz35 rfl rfl zo) (WO.gT rfl rfl (zq (Q.fieldAddr fa35_1 rfl rfl) (WO.gT rfl rfl (zq (Q.l1 rfl mv ag3 (cE_f1 zo)) (WO.gT rfl rfl (zq (Q.bin rfl rfl rfl (bv_eql eq_int)) (WO.gT rfl rfl (zm rfl ?_)))))))))))))))))))))))
   refine WO.sD (d := 72) rfl (fun hc72 => ?_) (fun hc72 => ?_)
   ·refine WO.gT rfl rfl (zm rfl (WO.gT rfl rfl (zm rfl (WO.gT rfl rfl (zq (Q.bin rfl rfl rfl (bvl ltn)) (WO.gT rfl rfl (zq (Q.pT rfl rfl) (zq (Q.pF rfl rfl) (zk (W.sub (zc 77 rfl (zc 0 rfl (zc 1 rfl (zc 2 rfl (zc 3 rfl (zc 4 rfl (zc 11 rfl (zc 12 rfl zzn)))))))) (W.cD rfl (fun hc77 => ?_) (fun hc77 => ?_))))))))))))
    ·refine W.reg (zm rfl (zq (Q.bin rfl (zi 1) rfl zp) (za rfl (WO.nil (End.KB (End.K (W.reg (zm rfl (zq (Q.bin rfl (zi 1) rfl zp) (za rfl (WO.nil (End.KL (W.sub (zd rfl (zd rfl (zd rfl (zd rfl (zd rfl (SubS.cons (by rw [ca_y (by unfold ahB; simp_all)]; rfl) (zd rfl zzn))))))) (W.sH (SubH.refl _) (ih0 (j + 1) ?_ ?_)))))))))))))))
     ·exact zy
     exact zo
    refine W.skip (End.KB (End.K (W.reg (zm rfl (zq (Q.bin rfl (zi 1) rfl zp) (za rfl (WO.nil (End.KL (W.sub (zd rfl (zd rfl (zd rfl (zd rfl (zd rfl (SubS.cons (by rw [ca_n (by unfold ahB; first | (simp_all; done) | (simp_all; omega))]; rfl) (zd rfl zzn))))))) (W.sH (SubH.refl _) (ih0 (j + 1) ?_ ?_)))))))))))
    ·exact zy
    exact zo
   refine zg rfl rfl (zg rfl rfl (zg rfl rfl (WO.gT rfl rfl (zq (Q.pF rfl rfl) (zq (Q.pF rfl rfl) (zk (W.sub (zc 77 rfl (zc 0 rfl (zc 1 rfl (zc 2 rfl (zc 3 rfl (zc 4 rfl (zc 11 rfl (zc 12 rfl zzn)))))))) (W.condF rfl (W.skip (End.KB (End.K (W.reg (zm rfl (zq (Q.bin rfl (zi 1) rfl zp) (za rfl (WO.nil (End.KL (W.sub (zd rfl (zd rfl (zd rfl (zd rfl (zd rfl (SubS.cons (by rw [ca_n (by unfold ahB; simp_all)]; rfl) (zd rfl zzn))))))) (W.sH (SubH.refl _) (ih0 (j + 1) ?_ ?_))))))))))))))))))))
   ·exact zy
   exact zo
  refine zr (zm rfl (zq (Q.bin rfl (oc (v := .str [98, 111, 116, 116, 111, 109, 107]) (by kernel_rfl)) rfl bv_seql) (zk (W.cD rfl (fun hc47 => ?_) (fun hc47 => ?_)))))
  ·refine W.regT (by kernel_rfl) (zm rfl (zm rfl (zq (Q.iS ud22 sz35 rfl rfl zo) (zq (Q.fieldAddr fa35_1 rfl rfl) (zq (Q.l1 rfl mv ag3 (cE_f1 zo)) (zm rfl (zm rfl (zq (Q.iS ud22 sz35 rfl rfl zo) (zq (Q.fieldAddr fa35_1 rfl rfl) (zq (Q.l1 rfl mv ag3 (cE_f1 zo)) (zq (Q.bin rfl rfl rfl (bvl (ltA_eq _ _))) (za rfl (WO.nil (End.K (W.sub zv (W.sH (SubH.refl _) (hJ9 (_) ?_)))))))))))))))))
   exact (by unfold betB; rw [if_pos (by assumption)])
  refine W.skip (End.K (W.sub zv (W.sH (SubH.refl _) (hJ9 (_) ?_))))
  exact (by unfold betB; rw [if_neg (by assumption)])
 refine W.exit (End.Kx (End.Lx (End.Bh (End.K (zr (zm rfl (zm rfl (zq (Q.bin rfl rfl rfl (bvl (ltA_eq _ _))) (za rfl (zk (W.sub (zc 10 rfl zzn) (W.ret (End.rV (z1 rfl) ?_)))))))))))))
 obtain rfl : j = V.length := zy
 rfl
end Go.Proofs.YtmblgaehfjheeaaGreat.Ev
