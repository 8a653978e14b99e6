/- Chapter 19, walks: what an aggregation makes of a vector. -/
import Derived.Test.YtmblgaehfjheeaaGreatMQf
import Derived.Test.YtmblgaehfjheeaaGreatMZj
import Derived.Test.YtmblgaehfjheeaaGreatMZu
namespace Go.Proofs.YtmblgaehfjheeaaGreat.Ev
open Go.RowKit
set_option linter.unusedVariables false
set_option linter.unusedSimpArgs false
set_option maxRecDepth 100000
set_option maxHeartbeats 1000000

theorem agg_tell (hs : HSt) (hro : ∀ e ∈ hs, e.w = false) (V : List El) (v : AV) (hV : EIn hs V v) (hB : EBd V) (op : List Nat) (ho : Bytes op) (md k : Int) (N : List (List Nat)) (vn : AV) (hN : SIn hs N vn) (hNb : SBd N) (M : Nat) (hSrt : SrtOK M) (hM : vchk V = 0 → 0 ≤ md → md ≤ 2 → ∀ G : List Ge, GInv (fun x : PE => prM (aggKey md N x.1)) V G → G.length ≤ V.length → G.length ≤ M) (hag : agB op = true) : Spec tab 19 [.str op, .int .i64 md, vn, .int .i64 k, v] [] hs (fun u D => ∃ (e : Nat) (W : List El) (w : AV), TellR op md N k V e (P2 W) ∧ VOwn W w D ∧ u = .tuple [w, .int .i64 (e : Nat)]) := by
 have hBl := hB.1
 refine Spec.enter' (ft_get 19 Tryz.func19) rfl (m := 109) rfl (rs := [.tmp 10, .tmp 11]) rfl (st := [(0, .str op), (1, .int .i64 md), (2, vn), (3, .int .i64 k), (4, v)]) rfl rfl (fun _ => rfl) (fun E => zr (WO.box rfl rfl (bx3 _ rfl) rfl (fun b1 => WO.box1 rfl (SIn.cell hN) (bx40 _ rfl) rfl (fun bN => za rfl (za (zi 0) (zk (W.seq (zr (zm rfl (WO.callV rfl (oLs_cons rfl oLs_nil) rfl (vck_spec hs hro V _ hV hB) (SubR.tl (SubR.tl (SubR.self hro))) rfl (za rfl (zk (zr (zm rfl (zq (Q.bin rfl (zi 0) rfl (bv_neq ne_nat)) (zk (W.condDS rfl (fun hc28 => ?_) (fun hc28 => ?_))))))))))))))))))
 · refine zr (zm rfl (za rfl (za rfl (zk (W.ret ?_)))))
   refine End.K_ret (End.ret (ResL.tmp rfl (z1 rfl)) (hs' := []) ⟨_, [], .nils, .inl ⟨ag_1 (by simpa using hc28), rfl⟩, VOwn.nil, rfl⟩ no_wl (SubH.nil _))
 refine zw (zr (zm rfl (WO.callE rfl (oLs_cons rfl oLs_nil) rfl (known_tell op ho hag) SubR.nil rfl (fun v32 hP32 => ?_))))
 obtain ⟨F, rfl, hT⟩ := hP32
 refine zm rfl (zq (Q.extract rfl rfl) (zq (Q.extract rfl rfl) (WO.alloc ao76 rfl (fun b2 => WO.store sz76 rfl rfl (i := 0) rfl rfl (cs := [_]) rfl (hs' := _ :: _ :: _ :: _) rfl (za rfl (zk (W.sub (zc 14 rfl (zc 13 rfl (zc 7 rfl (zc 6 rfl (zc 0 rfl (zc 3 rfl (zc 4 rfl zzn))))))) (W.seq (W.block (zr (zm rfl (WO.callV rfl (oLs_cons rfl oLs_nil) rfl (fits_spec _) SubR.nil rfl (zq (Q.not rfl rfl) (za rfl (zk (W.condS rfl (fun hc35 => ?_) (fun hc35 => ?_)))))))))))))))))
 · refine zr (za rfl (za (zi 2) (zk (W.ret ?_))))
   refine End.KB_ret (End.K_ret (End.ret (ResL.tmp rfl (z1 rfl)) (hs' := []) ⟨_, [], .nils, .inl ⟨ag_2 (Classical.not_not.1 hc28) (by simpa using hc35), rfl⟩, VOwn.nil, rfl⟩ no_wl (SubH.nil _)))
 refine zr (zm rfl (zq (Q.not rfl rfl) (za rfl (zk (W.condF rfl (zr (zq (Q.load1 rfl (zt 2 rfl) ag3 rfl) (zq (Q.bin rfl (zi 0) rfl (bv_lss (ltA_eq _ _))) (zm rfl (WO.splitD (d := 45) rfl (fun hc45 => ?_) (fun hc45 => ?_)))))))))))
 · refine zg rfl rfl (zg rfl rfl (zq (Q.pickT rfl rfl) (za rfl (zk (W.sub (zc 42 rfl (zc 13 rfl (zc 7 rfl (zc 6 rfl (zc 0 rfl (zc 3 rfl (zc 4 rfl zzn))))))) (W.condT rfl (zr (za rfl (za (zi 2) (zk (W.ret ?_)))))))))))
   refine End.KB_ret (End.K_ret (End.ret (ResL.tmp rfl (z1 rfl)) (hs' := []) ⟨_, [], .nils, .inl ⟨ag_r (Classical.not_not.1 hc28) (by simpa using hc35) (.inl hag) (.inl (by simpa using hc45)), rfl⟩, VOwn.nil, rfl⟩ no_wl (SubH.nil _)))
 refine WO.gT rfl rfl (zq (Q.load1 rfl (zt 2 rfl) ag3 rfl) (WO.gT rfl rfl (zq (Q.bin rfl (zi 2) rfl (bv_gtr (ltA_eq _ _))) (zq (Q.pickF rfl rfl) (za rfl (zk (W.sub (zc 42 rfl (zc 13 rfl (zc 7 rfl (zc 6 rfl (zc 0 rfl (zc 3 rfl (zc 4 rfl zzn))))))) (W.condDS rfl (fun hc42 => ?_) (fun hc42 => ?_)))))))))
 · refine zr (za rfl (za (zi 2) (zk (W.ret ?_))))
   refine End.KB_ret (End.K_ret (End.ret (ResL.tmp rfl (z1 rfl)) (hs' := []) ⟨_, [], .nils, .inl ⟨ag_r (Classical.not_not.1 hc28) (by simpa using hc35) (.inl hag) (.inr (by simpa using hc42)), rfl⟩, VOwn.nil, rfl⟩ no_wl (SubH.nil _)))
 have hck : vchk V = 0 := Classical.not_not.1 hc28
 have hfit : fitB k = true := (by simpa using hc35)
 have hmd : 0 ≤ md ∧ md ≤ 2 := (by first | (constructor <;> omega) | (simp at *; constructor <;> omega))
 have hK : ∀ i, i < V.length → KeyOK (eg V i).2.1 := fun i hi => vchk_key hB hck hi
 have hVl := vchk_len hck
 have hS := vchk_srt hck
 have hkq := quo_k hfit
 refine W.skip (End.KB (End.K (zr (zq (Q.makeF (oLs_cons rfl (oLs_cons rfl oLs_nil))) (WO.alloc ao80 rfl (fun b3 => WO.store sz80 rfl rfl (i := 0) rfl rfl (cs := [_]) rfl (hs' := _ :: _ :: _ :: _ :: _) rfl (zk (zr (zm rfl (zq (Q.makeF (oLs_cons rfl oLs_nil)) ?_))))))))))
 (obtain ⟨SB, hSB⟩ : ∃ SB : HSt, SB = [⟨b3, ⟨1, true, [.func 54 [.ptr b1 0, .ptr bN 0]]⟩, true⟩, ⟨b2, ⟨1, true, [.func F []]⟩, true⟩, ⟨bN, ⟨1, true, [vn]⟩, true⟩, ⟨b1, ⟨1, true, (AV.int .i64 md).cells⟩, true⟩] := ⟨_, rfl⟩; refine WO.subH (hs' := hs ++ SB) (by subst hSB; exact gc) ?_)
 have m1 : MemH (ro SB ++ hs) b1 ⟨1, true, [.int .i64 md]⟩ := mem_s1 hSB 3 rfl
 have mN : MemH (ro SB ++ hs) bN ⟨1, true, [vn]⟩ := mem_s1 hSB 2 rfl
 have m4 : MemH (ro SB ++ hs) b3 ⟨1, true, [.func 54 [.ptr b1 0, .ptr bN 0]]⟩ := mem_s1 hSB 0 rfl
 refine WO.call0 rfl (oLs_cons rfl (oLs_cons rfl oLs_nil)) rfl (grp_spec (ro SB ++ hs) (ro_app hro) V v (hV.mono fun b o h => h.app) hB 57 [.ptr b3 0] (fun x : PE => prM (aggKey md N x.1)) (fun i hi => prM_bytes (ak_key (hK i hi) md N)) (fun i hi => agg2_spec (ro SB ++ hs) (ro_app hro) _ _ ((hV.at hi).mono fun b o h => h.app) (hK i hi) _ N vn (hN.mono fun b o h => h.app) hNb md b1 bN m1 mN b3 m4)) (SubR.mix gc hro) rfl (fun v52 D52 hP52 => ?_)
 obtain ⟨G, hpg, Dg, rfl, hG, hOg, hGB, hGl⟩ := hP52
 have hsub : ∀ x ∈ G, ∀ z ∈ x.1.2, z ∈ V := (fun x hx z hz => by rw [(hG.2.1 x hx).1] at hz; exact fl_mem hz)
 have hLm : ∀ x ∈ G, ∀ z ∈ x.1.2, LIn hs z.2.1 z.1 := fun x hx z hz => hV.2 z (hsub x hx z hz)
 have hpos : ∀ x ∈ G, 0 < x.1.2.length := fun x hx => List.length_pos_iff.2 (hG.2.1 x hx).2
 have hml : ∀ x ∈ G, x.1.2.length ≤ 256 := (fun x hx => by rw [(hG.2.1 x hx).1]; exact Nat.le_trans (List.length_filter_le _ _) hVl)
 have hmb : ∀ x ∈ G, EBd x.1.2 := fun x hx => ⟨Nat.le_trans (hml x hx) (by omega), fun z hz => hB.2 z (hsub x hx z hz)⟩
 have hEm : ∀ x ∈ G, EIn (ro (SB ++ Dg) ++ hs) x.1.2 x.2 := fun x hx => (GB.ein hGB hx (hLm x hx)).mono fun b o h => MemH.mixd2 h
 refine WO.subH (hs' := (hs ++ SB ++ (hpg ++ Dg))) (SubH.of_perm (perm_tail (N := []) (G := (hpg ++ Dg)) (K := []) (X := hs ++ SB))) (za rfl (zk (zr (zm rfl (zq (Q.makeF (oLs_cons rfl oLs_nil)) (WO.subH (hs' := hs ++ (SB ++ Dg) ++ hpg) gc (WO.callS (M := hpg) (A := (hs ++ (SB ++ Dg))) rfl (oLs_cons rfl (oLs_cons rfl oLs_nil)) rfl (OwnE.w (OwnE.of hOg)) gc (hSrt G _ hpg (ro (SB ++ Dg) ++ hs) (ro_app hro) 60 [.ptr b3 0] hOg (hM hck hmd.1 hmd.2 G hG hGl) (fun x hx => ⟨EIn.cell (hEm x hx), EIn.bq (hEm x hx)⟩) (fun x hx y hy => agg3_any (ro_app hro) (hEm x hx) (hEm y hy) (hmb x hx) (hmb y hy) (hpos x hx) (hpos y hy) N vn (hN.mono fun b o h => h.app) hNb md b1 bN (mem_sb hSB 3 rfl) (mem_sb hSB 2 rfl) b3 (mem_sb hSB 0 rfl))) (SubR.mix gc hro) rfl (fun v55 D55 hP55 => ?_))))))))
 obtain ⟨G', pG, hO5⟩ := hP55
 have hG' := hG.perm pG
 have hlen : G'.length = G.length := pG.length_eq
 have hGl' : G'.length ≤ 256 := (by rw [pG.length_eq]; omega)
 refine WO.subH (hs' := (hs ++ (SB ++ Dg) ++ D55)) (SubH.of_perm (perm_tail (N := []) (G := D55) (K := []) (X := hs ++ (SB ++ Dg)))) (zk (zr (za rfl (zk (W.seq (zr (zm rfl (zq (Q.len ud81 rfl hOg.len) (zq (Q.move (zi 0)) (zk (W.block (W.loop_ind5 (fun (i : Nat) (X : List El) (u : AV) (hp : HSt) (hl : HSt) => [(0, .str op), (3, .int .i64 k), (13, .ptr b2 0), (15, .ptr b3 0), (17, u), (56, v52), (57, .int .i64 ((G.length : Nat) : Int)), (58, .int .i64 ((i : Nat) : Int))]) (fun (i : Nat) (X : List El) (u : AV) (hp : HSt) (hl : HSt) => (hs ++ (SB ++ Dg) ++ D55 ++ hp ++ hl)) (fun (i : Nat) (X : List El) (u : AV) (hp : HSt) (hl : HSt) => i ≤ G'.length ∧ P2 X = (G'.take i).map (grpE op md N) ∧ (∀ g ∈ G'.take i, (toldM op (vsE g.1.2)).2 = 0) ∧ X.length ≤ i ∧ OwnE 2 (cE X) X.length u hp ∧ (∀ x ∈ X, LIn hl x.2.1 x.1) ∧ WZ hl ∧ EBd X) (fun (i : Nat) (X : List El) (u : AV) (hp : HSt) (hl : HSt) => G'.length - i) (0) ([]) (.nils) ([]) ([]) ⟨Nat.zero_le _, rfl, fun g hg => by simp at hg, Nat.zero_le _, OwnE.nil 2, fun x hx => by simp at hx, WZ.nil, ebd_nil⟩ zv (by rw [List.append_nil, List.append_nil]; exact SubH.refl _) (fun i X u hp hl hI0 ih0 => ?_)))))))))))))
 obtain ⟨h1, h2, h2z, h3, hO, hL, hwz, hXB⟩ := hI0
 have hw := hwz.w
 have hXl := hXB.1
 refine zr (zq (Q.bin rfl rfl rfl (bv_lss lt_nat)) (zk (W.seq (W.condDS rfl (fun hc59 => ?_) (fun hc59 => ?_)))))
 · obtain ⟨bo, exo, rfl, hho⟩ := Own.full hO5 (by omega)
   have mo : (⟨bo, ⟨1, exo, G'.map (·.2)⟩, true⟩ : HE) ∈ D55 := (by rw [hho]; exact List.mem_cons_self)
   obtain ⟨⟨⟨key, mem⟩, gv⟩, hgj⟩ : ∃ g, G'[i]? = some g := ⟨_, List.getElem?_eq_getElem (by omega)⟩
   have hgm' := List.mem_of_getElem? hgj
   have hgm := pG.mem_iff.1 hgm'
   have hmp : 0 < mem.length := hpos _ hgm
   have hgl : mem.length ≤ 256 := hml _ hgm
   have hEb : EBd mem := hmb _ hgm
   have hLz : ∀ z ∈ mem, LIn hs z.2.1 z.1 := hLm _ hgm
   obtain ⟨jg, hjg⟩ := List.getElem?_of_mem hgm
   obtain ⟨PA, hpj, PB, hDe, hOj, _⟩ := GB.at hGB hjg
   replace hOj : OwnE 2 (cE mem) mem.length gv hpj := hOj
   obtain ⟨bg, exg, rfl, hh2⟩ := OwnE.full hOj hmp
   have mg : (⟨bg, ⟨2, exg, cE mem⟩, true⟩ : HE) ∈ (SB ++ Dg) := (by rw [hDe, hh2]; simp)
   have hgE : grpE op md N ((key, mem), .slice bg 0 mem.length 2) = (aggKey md N (eg mem 0).2.1, (toldM op (vsE mem)).1) := rfl
   refine zw (W.seq (W.block (zr (zq (Q.iaddrS ud81 sz22 rfl rfl zo) (zq (Q.load1 rfl (List.mem_append_left _ (List.mem_append_left _ (List.mem_append_right _ mo))) ag22 (gmap_at hgj)) (za rfl (zk (W.seq (zr (zf fa76_0 rfl 0 (zq (Q.load1 rfl (List.mem_append_left _ (List.mem_append_left _ (List.mem_append_left _ (List.mem_append_right _ (List.mem_append_left Dg (by rw [hSB]; exact List.mem_cons_of_mem _ List.mem_cons_self)))))) ag74 rfl) (zq (Q.bin rfl rfl rfl eq74f) (zk (W.condF rfl (zw (zr (za rfl (zk (W.seq (zr (zm rfl (zq (Q.len ud22 rfl rfl) (zq (Q.move (zi 0)) ?_)))))))))))))))))))))))
   refine zk (W.block (W.loop_ind3 (fun (j : Nat) (ul : AV) (hq : HSt) => [(0, .str op), (3, .int .i64 k), (13, .ptr b2 0), (15, .ptr b3 0), (17, u), (56, (.slice bo 0 G'.length 1)), (57, .int .i64 ((G.length : Nat) : Int)), (58, .int .i64 ((i : Nat) : Int)), (19, .slice bg 0 mem.length 2), (20, ul), (72, .slice bg 0 mem.length 2), (73, .int .i64 ((mem.length : Nat) : Int)), (74, .int .i64 ((j : Nat) : Int))]) (fun (j : Nat) (ul : AV) (hq : HSt) => (hs ++ (SB ++ Dg) ++ D55 ++ hp ++ hl ++ hq)) (fun (j : Nat) (ul : AV) (hq : HSt) => j ≤ mem.length ∧ Own 1 (((vsE mem).take j).map (AV.int .i64)) j ul hq) (fun (j : Nat) (ul : AV) (hq : HSt) => mem.length - j) (0) (.nils) ([]) ⟨Nat.zero_le _, Own.nil 1⟩ zv (by rw [List.append_nil]; exact SubH.refl _) (fun j ul hq hI1 ih1 => ?_)))
   obtain ⟨k1, hOl⟩ := hI1
   refine zr (zq (Q.bin rfl rfl rfl (bv_lss lt_nat)) (zk (W.seq (W.condDS rfl (fun hc75 => ?_) (fun hc75 => ?_)))))
   · refine zw (W.seq (W.block (zr (zq (Q.iaddrS ud22 sz35 rfl rfl zo) (zq (Q.loadN rfl (List.mem_append_left _ (List.mem_append_left _ (List.mem_append_left _ (List.mem_append_left _ (List.mem_append_right _ mg))))) ag35 sz35 (cE_at (V := mem) (i := _) zo)) (WO.alloc ao35 rfl (fun b4 => WO.store sz35 rfl rfl (i := 0) rfl (and_tt rfl (and_tt (LIn.cell (lin_any hLz _)) rfl)) (cs := [_, _]) rfl (hs' := _ :: _) rfl (zk (W.reg (zm rfl (zf fa35_1 rfl 1 (zq (Q.load1 rfl (zt 0 rfl) ag3 rfl) (WO.bslice ud89 sz3 zr3 rfl (oPs_cons rfl oPs_nil) rfl (cs := [_]) rfl rfl rfl (fun b5 => WO.appOwn (e := ⟨b5, _, true⟩) (A := ([_] ++ hs ++ (SB ++ Dg) ++ D55 ++ hp ++ hl)) ap89_89 hOl rfl rfl rfl rfl ⟨by first | omega | (simp at * <;> omega), by first | omega | (simp at * <;> omega)⟩ (by decide) rfl rfl (fun v82 hp82 hO82 => za rfl (WO.nil (End.KB (End.K (W.reg (zq (Q.bin rfl (zi 1) rfl zp) (zm rfl (WO.nil (End.KL (W.sub zv (W.subH gc (ih1 (j + 1) (v82) (hp82) ?_ ?_))))))))))))))))))))))))))
     · exact ⟨by omega, by rw [vs_at (by omega), List.map_append]; exact hO82⟩
     exact zo
   obtain rfl : j = (vsE mem).length := (by rw [vs_len]; omega)
   rw [List.take_of_length_le (Nat.le_refl _)] at hOl
   obtain ⟨bq, exq, rfl, hhq⟩ := Own.full hOl (by rw [vs_len]; omega)
   refine W.exit (End.K_exit (End.KL_exit (End.KB_hit (End.K (zr (zf fa76_0 rfl 0 (zq (Q.load1 rfl (List.mem_append_left _ (List.mem_append_left _ (List.mem_append_left _ (List.mem_append_left _ (List.mem_append_right _ (List.mem_append_left Dg (by rw [hSB]; exact List.mem_cons_of_mem _ List.mem_cons_self))))))) ag74 rfl) (zm rfl (WO.callV rfl (oLs_cons rfl oLs_nil) rfl (hT (ro hq) ro_w (vsE mem) bq 1 exq ⟨false, by rw [hhq]; simp [ro]⟩ (by rw [vs_len]; omega) (by rw [vs_len]; omega)) (SubR.ro gc) rfl (zm rfl (zq (Q.extract rfl rfl) (zq (Q.extract rfl rfl) (za rfl (za rfl (zk (W.seq (zr (zm rfl (zq (Q.bin rfl (zi 0) rfl (bv_neq ne_nat)) (zk (W.sub (zc 92 rfl (zc 24 rfl (zc 23 rfl (zc 0 rfl (zc 3 rfl (zc 13 rfl (zc 15 rfl (zc 17 rfl (zc 56 rfl (zc 57 rfl (zc 58 rfl (zc 19 rfl zzn)))))))))))) (W.condDS rfl (fun hc92 => ?_) (fun hc92 => ?_)))))))))))))))))))))))
   · refine zr (zm rfl (za rfl (za rfl (zk (W.ret ?_)))))
     refine End.K_ret (End.KB_ret (End.K_ret (End.KL_ret (End.KB_ret (End.K_ret (End.ret (ResL.tmp rfl (z1 rfl)) (hs' := []) ⟨_, [], .nils, .inr ⟨ag_no hck hfit (.inl hag) hmd, .inl ⟨⟨(eg mem 0).2, grp_in hG hgm (grp_hd hG hgm), by rw [← grp_val hG hgm (grp_hd hG hgm)]; show (toldM op (vsE mem)).2 ≠ 0; omega, grp_val hG hgm (grp_hd hG hgm) ▸ rfl⟩, rfl⟩⟩, VOwn.nil, rfl⟩ no_wl (SubH.nil _)))))))
   have hz0 : (toldM op (vsE mem)).2 = 0 := (by omega)
   refine zw (W.regD 9 ((SB ++ Dg)) (by kernel_rfl) (fun e he => ⟨e.w, by obtain ⟨b, o, w⟩ := e; rcases List.mem_append.1 he with he | he <;> simp [he]⟩) (WD.q (Q.move rfl) (OwnE.bq hO) rfl (WD.q (Q.load1 rfl (List.mem_append_left Dg (by rw [hSB]; exact List.mem_cons_self)) ag80 rfl) (by simp [AV.beq, beq1, beq0, beqL]) rfl (WD.q (Q.move rfl) bq_slice rfl (WD.q (Q.iaddrL ud22 sz35 rfl (zi 0) zo (o' := 0) rfl) bq_ptr rfl (WD.q (Q.loadN rfl mg ag35 sz35 (cE_at (V := mem) (i := 0) zo)) (bq_agg2 (LIn.bq0 (lin_any hLz _))) rfl (WD.call0 rfl (oLs_cons rfl oLs_nil) rfl (agg1_spec (ro SB ++ hs) (ro_app hro) _ _ ((lin_any hLz _).mono fun b o h => h.app) (lbd_any hEb _) _ N vn (hN.mono fun b o h => h.app) hNb md b1 bN m1 mN) (SubR.mix gc hro) (fun e he => ⟨e.w, by obtain ⟨b, o, w⟩ := e; rcases List.mem_append.1 he with he | he <;> simp [he]⟩) rfl (fun v99 D99 hP99 => WD.subH (hs' := (hs ++ (SB ++ Dg) ++ D55 ++ hp ++ hl ++ hq ++ D99)) (SubH.of_perm (perm_tail (N := []) (G := D99) (K := []) (X := hs ++ (SB ++ Dg) ++ D55 ++ hp ++ hl ++ hq))) (WD.q (Q.move rfl) bq_int rfl (WD.q (Q.build pl35 (oPs_cons rfl (oPs_cons rfl oPs_nil)) rfl (cs := [_, _]) (fillE2 (OwnE.cell hP99))) (bq_agg2 (OwnE.bq0 hP99)) rfl (WD.bslice ud22 sz35 zr35 rfl (oPs_cons rfl oPs_nil) rfl (cs := [_, _]) rfl (and_tt (OwnE.cell hP99) rfl) rfl (fun e he => ⟨e.w, by obtain ⟨b, o, w⟩ := e; rcases List.mem_append.1 he with he | he <;> simp [he]⟩) (fun b7 => WD.appAny (A := ([] ++ hs ++ (SB ++ Dg) ++ D55 ++ hl ++ hq ++ D99)) ap22_22 hO rfl rfl (Src.slice (zt 0 rfl) rfl) rfl (by omega) (by decide) gc rfl (fun e he => ⟨e.w, by obtain ⟨b, o, w⟩ := e; rcases List.mem_append.1 he with he | he <;> simp [he]⟩) (fun v103 hp103 hO103 => WD.q (Q.assign rfl) (OwnE.bq hO103) rfl (WD.nil (End.KB (End.K (W.sub (zc 17 rfl (zc 0 rfl (zc 3 rfl (zc 13 rfl (zc 15 rfl (zc 56 rfl (zc 57 rfl (zc 58 rfl zzn)))))))) (W.reg (zq (Q.bin rfl (zi 1) rfl zp) (zm rfl (WO.nil (End.KL (W.sub zv (W.subH gc (ih0 (i + 1) (X ++ [(v99, (aggKey md N (eg mem 0).2.1, (toldM op (vsE mem)).1))]) (v103) (hp103) (hl ++ D99) ?_ ?_)))))))))))))))))))))))))
   · exact ⟨by omega, by rw [p2_snoc, take_ge hgj, List.map_append, h2]; rfl, fun g hg => by rw [take_ge hgj] at hg; rcases List.mem_append.1 hg with hg | hg; exact h2z g hg; rw [List.mem_singleton.1 hg]; exact hz0, by simp; omega, own_snoc hO103, lin_snoc hL (LIn.own hP99), WZ.app hwz (OwnE.wz hP99), ebd_put hXB (by omega) ⟨ak_bd (lbd_any hEb _) md N, told_i64 (fun n hn => by obtain ⟨z, hz, rfl⟩ := List.mem_map.1 hn; exact (hEb.2 z hz).2) (by rw [vs_len]; omega)⟩⟩
   exact zo
 refine W.exit (End.K_exit (End.KL_exit (End.KB_hit (End.K (zr (zm rfl (WO.callS (M := hp) (A := (hs ++ (SB ++ Dg) ++ D55 ++ hl)) rfl (oLs_cons rfl oLs_nil) rfl (OwnE.w hO) gc (ord_spec (ro hl) ro_w X u hp hO (fun x hx => (hL x hx).mono fun b o h => h.ro) hXB) (SubR.ro gc) rfl (fun v106 D106 hP106 => ?_))))))))
 obtain ⟨e106, W106, w106, hR106, hM106, hO106, rfl⟩ := hP106
 refine WO.subH (hs' := (hs ++ (SB ++ Dg) ++ D55 ++ hl ++ D106)) (SubH.of_perm (perm_tail (N := []) (G := D106) (K := []) (X := hs ++ (SB ++ Dg) ++ D55 ++ hl))) (zq (Q.extract rfl rfl) (zq (Q.extract rfl rfl) (za rfl (za rfl (zk (W.ret ?_))))))
 refine End.ret (ResL.tmp rfl (z1 rfl)) (hs' := D106 ++ hl) ⟨e106, W106, w106, .inr ⟨ag_no hck hfit (.inl hag) hmd, .inr (tell_fin hG' hK (by rw [List.take_of_length_le (by omega)] at h2z; exact h2z) (by rw [List.take_of_length_le (by omega)] at h2; exact h2 ▸ hR106))⟩, ⟨D106, hl, rfl, hO106, fun x hx => hL x (hM106 x hx), hwz, ord_ebd hR106 hM106 hXB⟩, rfl⟩ (wa (OwnE.w hO106) hw) gc
def isum : List Int → Int
  | [] => 0
  | n :: l => n + isum l
theorem isum_app : ∀ (l m : List Int), isum (l ++ m) = isum l + isum m
  | [], m => by simp [isum]
  | n :: l, m => by rw [List.cons_append, isum, isum, isum_app l m]; omega
theorem isum_perm {l m : List Int} (h : l.Perm m) : isum l = isum m := by
  induction h with
  | nil => rfl
  | cons x _ ih => rw [isum, isum, ih]
  | swap x y l => rw [isum, isum, isum, isum]; omega
  | trans _ _ a b => exact a.trans b
theorem isum_bd : ∀ (l : List Int), (∀ n ∈ l, -1125899906842624 ≤ n ∧ n ≤ 1125899906842624) → -(1125899906842624 * (l.length : Int)) ≤ isum l ∧ isum l ≤ 1125899906842624 * (l.length : Int)
  | [], _ => by simp [isum]
  | n :: l, h => by
    have h1 := h n (by simp)
    have h2 := isum_bd l fun m hm => h m (by simp [hm])
    rw [isum, List.length_cons]
    omega
theorem sum_ok : ∀ (l : List Int) (a : Int), (∀ n ∈ l, -1125899906842624 ≤ n ∧ n ≤ 1125899906842624) → 1125899906842624 * (l.length : Int) + a ≤ 1152921504606846976 → -1152921504606846976 ≤ a - 1125899906842624 * (l.length : Int) → sumG a l = (a + isum l, 0)
  | [], a, _, _, _ => by simp [sumG, isum]
  | n :: l, a, h, h1, h2 => by
    have hn := h n (by simp)
    rw [List.length_cons] at h1 h2
    have hl : (0 : Int) ≤ (l.length : Int) := by omega
    have f1 : fitsB a = true := by unfold fitsB; simp only [Bool.and_eq_true, decide_eq_true_eq]; omega
    have f2 : fitsB n = true := by unfold fitsB; simp only [Bool.and_eq_true, decide_eq_true_eq]; omega
    have f3 : fitsB (a + n) = true := by unfold fitsB; simp only [Bool.and_eq_true, decide_eq_true_eq]; omega
    have e : fAdd a n = (a + n, 0) := by unfold fAdd fTold; rw [f1, f2, f3]; rfl
    rw [sumG, e, if_neg (by show ¬ (0 : Int).toNat ≠ 0; decide), sum_ok l (a + n) (fun m hm => h m (by simp [hm])) (by omega) (by omega), isum]
    rw [show a + n + isum l = a + (n + isum l) by omega]
def FMs (kf : PE → List Nat) (L : List PE) (ks : List (List Nat)) : List PE := ks.flatMap fun c => L.filter fun x => decide (kf x = c)
section
variable {kf : PE → List Nat} {L : List PE} {ks : List (List Nat)}
theorem fms_len (hn : ks.Nodup) : (FMs kf L ks).length ≤ L.length := by
  have e : FMs kf L ks = FMs kf (L.filter fun x => decide (kf x ∈ ks)) ks := by
    unfold FMs
    rw [List.flatMap_def, List.flatMap_def, List.map_congr_left fun c hc => ?_]
    rw [List.filter_filter]
    refine List.filter_congr fun x _ => ?_
    by_cases q : kf x = c
    · simp [q, hc]
    · simp [q]
  rw [e]
  unfold FMs
  rw [(part_perm kf ks hn _ fun x hx => of_decide_eq_true (List.mem_filter.1 hx).2).length_eq]
  exact List.length_filter_le _ _
theorem fms_sub {x : PE} (h : x ∈ FMs kf L ks) : x ∈ L := by
  obtain ⟨c, _, hx⟩ := List.mem_flatMap.1 h
  exact (List.mem_filter.1 hx).1
theorem fms_snoc {c : List Nat} : FMs kf L (ks ++ [c]) = FMs kf L ks ++ L.filter fun x => decide (kf x = c) := by
  unfold FMs
  rw [List.flatMap_append, List.flatMap_cons, List.flatMap_nil, List.append_nil]
end
theorem p2_nth {W : List El} {i : Nat} (h : i < W.length) : (eg W i).2 ∈ P2 W := List.mem_of_getElem? (p2_eg h)
theorem sums_law {V WA WB WC : List El} {md : Int} {N : List (List Nat)} {e f g : Nat} (hck : vchk V = 0) (hK : ∀ i, i < V.length → KeyOK (eg V i).2.1) (hbd : ∀ i, i < V.length → -1125899906842624 ≤ (eg V i).2.2 ∧ (eg V i).2.2 ≤ 1125899906842624) (h0 : 0 < V.length) (hmd : 0 ≤ md ∧ md ≤ 2)
    (hA : TellR [115, 117, 109] md N ((0 : Nat) : Int) V e (P2 WA)) (hB : TellR [99, 111, 117, 110, 116] md N ((0 : Nat) : Int) V f (P2 WB)) (hC : TellR [115, 117, 109] ((0 : Nat) : Int) [] ((0 : Nat) : Int) V g (P2 WC)) :
    e = 0 ∧ f = 0 ∧ g = 0 ∧ WA.length = WB.length ∧ WC.length = 1 ∧ (eg WC 0).2.1 = [] ∧ ∃ (S : Nat → Int) (Q : Nat → Nat), S 0 = 0 ∧ Q 0 = 0 ∧
      (∀ i, i < WA.length → (eg WA i).2.1 = (eg WB i).2.1 ∧ S (i + 1) = S i + (eg WA i).2.2 ∧ ∃ q : Nat, 1 ≤ q ∧ (eg WB i).2.2 = ((q * 1000000 : Nat) : Int) ∧ Q (i + 1) = Q i + q) ∧
      (∀ i, -288230376151711744 ≤ S i ∧ S i ≤ 288230376151711744 ∧ Q i ≤ 256) ∧ S WA.length = (eg WC 0).2.2 ∧ Q WA.length = V.length := by
  have hVl := vchk_len hck
  have hL : ∀ x ∈ P2 V, KeyOK x.1 ∧ -1125899906842624 ≤ x.2 ∧ x.2 ≤ 1125899906842624 := by
    intro x hx
    obtain ⟨i, hi⟩ := List.getElem?_of_mem hx
    have hl : i < V.length := by have := (List.getElem?_eq_some_iff.1 hi).1; rwa [p2_ln] at this
    rw [p2_eg hl] at hi
    cases hi
    exact ⟨hK i hl, hbd i hl⟩
  have hsum : ∀ M : List PE, (∀ x ∈ M, x ∈ P2 V) → M.length ≤ 256 → toldM [115, 117, 109] (M.map (·.2)) = (isum (M.map (·.2)), 0) := by
    intro M hM hl
    rw [told_sum]
    unfold sumM
    have hl' : (M.map (·.2)).length ≤ 256 := by rw [List.length_map]; exact hl
    rw [sum_ok _ _ (fun n hn => by obtain ⟨x, hx, rfl⟩ := List.mem_map.1 hn; exact (hL x (hM x hx)).2) (by omega) (by omega)]
    rw [show ((0 : Nat) : Int) + isum (M.map (·.2)) = isum (M.map (·.2)) by omega]
  have hfl : ∀ p : PE → Bool, ((P2 V).filter p).length ≤ 256 := fun p => Nat.le_trans (List.length_filter_le _ _) (by rw [p2_ln]; exact hVl)
  have hfs : ∀ p : PE → Bool, ∀ x ∈ (P2 V).filter p, x ∈ P2 V := fun p x hx => (List.mem_filter.1 hx).1
  have hpre : ∀ op, agB op = true → ∀ m : Int, 0 ≤ m ∧ m ≤ 2 → aggPre op m ((0 : Nat) : Int) V = none := fun op h m hm => ag_no hck (by decide) (.inl h) hm
  have hvS : ∀ (m : Int) (N' : List (List Nat)) (x : PE), vlA [115, 117, 109] m N' (P2 V) x = (isum (((P2 V).filter fun y => decide (prM (aggKey m N' y.1) = prM (aggKey m N' x.1))).map (·.2)), 0) := fun m N' x => by unfold vlA; exact hsum _ (hfs _) (hfl _)
  have hvC : ∀ (x : PE), vlA [99, 111, 117, 110, 116] md N (P2 V) x = (((((P2 V).filter fun y => decide (prM (aggKey md N y.1) = prM (aggKey md N x.1))).length * 1000000 : Nat) : Int), 0) := fun x => by unfold vlA; rw [told_count, List.length_map]
  have hA' : e = 0 ∧ Srt (P2 WA) ∧ ∀ p, p ∈ P2 WA ↔ ∃ x ∈ P2 V, p = (aggKey md N x.1, (vlA [115, 117, 109] md N (P2 V) x).1) := by
    rcases hA with ⟨a, _⟩ | ⟨_, ⟨⟨x, _, hx, _⟩, _⟩ | ⟨_, h⟩⟩
    · rw [hpre _ (by decide) _ hmd] at a; cases a
    · rw [hvS] at hx; exact absurd rfl hx
    · exact h
  have hB' : f = 0 ∧ Srt (P2 WB) ∧ ∀ p, p ∈ P2 WB ↔ ∃ x ∈ P2 V, p = (aggKey md N x.1, (vlA [99, 111, 117, 110, 116] md N (P2 V) x).1) := by
    rcases hB with ⟨a, _⟩ | ⟨_, ⟨⟨x, _, hx, _⟩, _⟩ | ⟨_, h⟩⟩
    · rw [hpre _ (by decide) _ hmd] at a; cases a
    · rw [hvC] at hx; exact absurd rfl hx
    · exact h
  have hC' : g = 0 ∧ Srt (P2 WC) ∧ ∀ p, p ∈ P2 WC ↔ ∃ x ∈ P2 V, p = (aggKey ((0 : Nat) : Int) [] x.1, (vlA [115, 117, 109] ((0 : Nat) : Int) [] (P2 V) x).1) := by
    rcases hC with ⟨a, _⟩ | ⟨_, ⟨⟨x, _, hx, _⟩, _⟩ | ⟨_, h⟩⟩
    · rw [hpre _ (by decide) _ ⟨by omega, by omega⟩] at a; cases a
    · rw [hvS] at hx; exact absurd rfl hx
    · exact h
  obtain ⟨a1, a2, a3⟩ := hA'
  obtain ⟨b1, b2, b3⟩ := hB'
  obtain ⟨c1, c2, c3⟩ := hC'
  have hkeys : (P2 WA).map (·.1) = (P2 WB).map (·.1) := by
    have s1 : ((P2 WA).map (·.1)).Pairwise fun x y => cmpL x y < 0 := List.pairwise_map.2 a2
    have s2 : ((P2 WB).map (·.1)).Pairwise fun x y => cmpL x y < 0 := List.pairwise_map.2 b2
    refine List.Perm.eq_of_pairwise (fun x y _ _ q1 q2 => ?_) s1 s2 ((List.perm_ext_iff_of_nodup (srt_nodup a2) (srt_nodup b2)).2 fun k => ?_)
    · have := cmpL_swap x y
      omega
    · constructor
      · intro hk
        obtain ⟨p, hp, rfl⟩ := List.mem_map.1 hk
        obtain ⟨x, hx, rfl⟩ := (a3 p).1 hp
        exact List.mem_map.2 ⟨_, (b3 _).2 ⟨x, hx, rfl⟩, rfl⟩
      · intro hk
        obtain ⟨p, hp, rfl⟩ := List.mem_map.1 hk
        obtain ⟨x, hx, rfl⟩ := (b3 p).1 hp
        exact List.mem_map.2 ⟨_, (a3 _).2 ⟨x, hx, rfl⟩, rfl⟩
  have hlen : WA.length = WB.length := by
    have := congrArg List.length hkeys
    rw [List.length_map, List.length_map, p2_ln, p2_ln] at this
    exact this
  have hlab : ∀ i, i < WA.length → (eg WA i).2.1 = (eg WB i).2.1 := by
    intro i hi
    have q := congrArg (fun l : List (List Lab) => l[i]?) hkeys
    simp only [List.getElem?_map] at q
    rw [p2_eg hi, p2_eg (by omega)] at q
    exact Option.some.inj q
  have hall : ∀ x : PE, (P2 V).filter (fun y => decide (prM (aggKey ((0 : Nat) : Int) [] y.1) = prM (aggKey ((0 : Nat) : Int) [] x.1))) = P2 V := fun x => List.filter_eq_self.2 fun y _ => decide_eq_true rfl
  have hc : ∀ p ∈ P2 WC, p = ([], isum ((P2 V).map (·.2))) := by
    intro p hp
    obtain ⟨x, _, rfl⟩ := (c3 p).1 hp
    rw [hvS, hall]; rfl
  have hne : P2 WC ≠ [] := by
    have := (c3 _).2 ⟨(eg V 0).2, p2_nth h0, rfl⟩
    exact List.ne_nil_of_mem this
  have hc1 : WC.length = 1 := by
    rw [← p2_ln (F := WC)]
    match hw : P2 WC, hne, hc, c2 with
    | [p], _, _, _ => rfl
    | p :: q :: r, _, hc, c2 =>
      exfalso
      have h1 := hc p (by simp)
      have h2 := hc q (by simp)
      have h3 := (List.pairwise_cons.1 c2).1 q (by simp)
      rw [h1, h2, cmpL_self] at h3
      omega
  have hc0 := hc _ (p2_nth (W := WC) (i := 0) (by omega))
  obtain ⟨kf, hkf⟩ : ∃ kf : PE → List Nat, kf = fun x => prM (aggKey md N x.1) := ⟨_, rfl⟩
  obtain ⟨ks, hks⟩ : ∃ ks : List (List Nat), ks = (P2 WA).map fun p => prM p.1 := ⟨_, rfl⟩
  have hkok : ∀ p ∈ P2 WA, KeyOK p.1 := by
    intro p hp
    obtain ⟨x, hx, rfl⟩ := (a3 p).1 hp
    exact ak_key (hL x hx).1 md N
  have hkn : ks.Nodup := by
    rw [hks]
    unfold List.Nodup
    rw [List.pairwise_map]
    refine List.Pairwise.imp_of_mem ?_ a2
    intro p q hp hq hpq he
    have := pr_inj (hkok p hp).lab (hkok q hq).lab he
    rw [this, cmpL_self] at hpq
    omega
  have hcov : ∀ x ∈ P2 V, kf x ∈ ks := by
    intro x hx
    rw [hks, hkf]
    exact List.mem_map.2 ⟨_, (a3 _).2 ⟨x, hx, rfl⟩, rfl⟩
  have hkl : ks.length = WA.length := by rw [hks, List.length_map, p2_ln]
  have hknt : ∀ i, (ks.take i).Nodup := fun i => List.Nodup.sublist (List.take_sublist _ _) hkn
  refine ⟨a1, b1, c1, hlen, hc1, congrArg Prod.fst hc0, fun i => isum ((FMs kf (P2 V) (ks.take i)).map (·.2)), fun i => (FMs kf (P2 V) (ks.take i)).length, rfl, rfl, fun i hi => ?_, fun i => ?_, ?_, ?_⟩
  · have hp := p2_nth hi
    obtain ⟨x, hx, hxe⟩ := (a3 _).1 hp
    have hk1 : (eg WA i).2.1 = aggKey md N x.1 := congrArg Prod.fst hxe
    have hki : ks[i]? = some (kf x) := by rw [hks, List.getElem?_map, p2_eg hi, hkf]; show some (prM (eg WA i).2.1) = _; rw [hk1]
    have htk : ks.take (i + 1) = ks.take i ++ [kf x] := by rw [List.take_add_one, hki]; rfl
    obtain ⟨x', hx', hxe'⟩ := (b3 _).1 (p2_nth (W := WB) (i := i) (by omega))
    have hk2 : aggKey md N x'.1 = aggKey md N x.1 := by
      have q1 : (eg WB i).2.1 = aggKey md N x'.1 := congrArg Prod.fst hxe'
      rw [← q1, ← hlab i hi, hk1]
    refine ⟨hlab i hi, ?_, ((P2 V).filter fun y => decide (kf y = kf x)).length, ?_, ?_, ?_⟩
    · show isum ((FMs kf (P2 V) (ks.take (i + 1))).map (·.2)) = _
      rw [htk, fms_snoc, List.map_append, isum_app]
      congr 1
      have q2 : (eg WA i).2.2 = (vlA [115, 117, 109] md N (P2 V) x).1 := congrArg Prod.snd hxe
      rw [q2, hvS, hkf]
    · exact List.length_pos_of_mem (List.mem_filter.2 ⟨hx, decide_eq_true rfl⟩)
    · have q2 : (eg WB i).2.2 = (vlA [99, 111, 117, 110, 116] md N (P2 V) x').1 := congrArg Prod.snd hxe'
      rw [q2, hvC, hkf, hk2]
    · show (FMs kf (P2 V) (ks.take (i + 1))).length = _
      rw [htk, fms_snoc, List.length_append]
  · have h1 := fms_len (kf := kf) (L := P2 V) (hknt i)
    rw [p2_ln] at h1
    have h2 := isum_bd ((FMs kf (P2 V) (ks.take i)).map (·.2)) fun n hn => by obtain ⟨x, hx, rfl⟩ := List.mem_map.1 hn; exact (hL x (fms_sub hx)).2
    rw [List.length_map] at h2
    show -288230376151711744 ≤ isum ((FMs kf (P2 V) (ks.take i)).map (·.2)) ∧ isum ((FMs kf (P2 V) (ks.take i)).map (·.2)) ≤ 288230376151711744 ∧ (FMs kf (P2 V) (ks.take i)).length ≤ 256
    omega
  · show isum ((FMs kf (P2 V) (ks.take WA.length)).map (·.2)) = _
    rw [List.take_of_length_le (by omega), show (eg WC 0).2.2 = isum ((P2 V).map (·.2)) from congrArg Prod.snd hc0]
    exact isum_perm ((part_perm kf ks hkn _ hcov).map _)
  · show (FMs kf (P2 V) (ks.take WA.length)).length = _
    rw [List.take_of_length_le (by omega)]
    exact (part_perm kf ks hkn _ hcov).length_eq.trans p2_ln
end Go.Proofs.YtmblgaehfjheeaaGreat.Ev
