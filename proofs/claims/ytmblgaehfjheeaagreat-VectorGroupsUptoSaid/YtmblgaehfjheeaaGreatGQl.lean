/- Chapter 19, walks: what an aggregation makes of a vector. -/
import Derived.Test.YtmblgaehfjheeaaGreatGQj
import Derived.Test.YtmblgaehfjheeaaGreatGAwM
import Derived.Test.YtmblgaehfjheeaaGreatGQk
namespace Go.Proofs.YtmblgaehfjheeaaGreat.Ev
open Go.RowKit
set_option linter.unusedVariables false
set_option linter.unusedSimpArgs false
set_option maxRecDepth 100000
set_option maxHeartbeats 1000000

theorem agg_tell (hs : HSt) (hro : ∀ e ∈ hs, e.w = false) (V : List El) (v : AV) (hV : EIn hs V v) (hB : EBd V) (op : List Nat) (ho : Bytes op) (md k : Int) (N : List (List Nat)) (vn : AV) (hN : SIn hs N vn) (hNb : SBd N) (M : Nat) (hSrt : SrtOK M) (hM : vchk V = 0 → 0 ≤ md → md ≤ 2 → ∀ G : List Ge, GInv (fun x : PE => prM (aggKey md N x.1)) V G → G.length ≤ V.length → G.length ≤ M) (hag : agB op = true) : Spec tab 19 [.str op, .int .i64 md, vn, .int .i64 k, v] [] hs (fun u D => ∃ (e : Nat) (W : List El) (w : AV), TellR op md N k V e (P2 W) ∧ VOwn W w D ∧ u = .tuple [w, .int .i64 (e : Nat)]) := by
 have hBl := hB.1
 refine Spec.en (ftg 19 Tryz.func19) rfl (m := 109) rfl (rs := [.tmp 10, .tmp 11]) rfl (st := [(0, .str op), (1, .int .i64 md), (2, vn), (3, .int .i64 k), (4, v)]) rfl rfl (fun _ => rfl) (fun E => zr (WO.box rfl rfl (bx3 _ rfl) rfl (fun b1 => WO.box1 rfl (SIn.cell hN) (bx40 _ rfl) rfl (fun bN => za rfl (za (zi 0) (zk (W.seq (zr (zm rfl (WO.cV rfl (oLc rfl oz) rfl (vck_spec hs hro V _ hV hB) (SubR.t (SubR.t (SubR.s hro))) rfl (za rfl (zk (zr (zm rfl (zq (Q.bin rfl (zi 0) rfl (bv_neq ne_nat)) (zk (W.cD rfl (fun hc28 => ?_) (fun hc28 => ?_))))))))))))))))))
 ·refine zr (zm rfl (za rfl (za rfl (zk (W.ret ?_)))))
  refine End.Kr (End.ret (ResL.tmp rfl (z1 rfl)) (hs' := []) ⟨_, [], .nils, .inl ⟨ag_1 (by simpa using hc28), rfl⟩, VOwn.nil, rfl⟩ no_wl (SubH.nil _))
 refine zw (zr (zm rfl (WO.callE rfl (oLc rfl oz) rfl (known_tell op ho hag) SubR.nil rfl (fun v32 hP32 => ?_))))
 obtain ⟨F, rfl, hT⟩ := hP32
 refine zm rfl (zq (Q.extract rfl rfl) (zq (Q.extract rfl rfl) (WO.alloc ao76 rfl (fun b2 => WO.store sz76 rfl rfl (i := 0) rfl rfl (cs := [_]) rfl (hs' := _ :: _ :: _ :: _) rfl (za rfl (zk (W.sub (zc 14 rfl (zc 13 rfl (zc 7 rfl (zc 6 rfl (zc 0 rfl (zc 3 rfl (zc 4 rfl zzn))))))) (W.seq (W.block (zr (zm rfl (WO.cV rfl (oLc rfl oz) rfl (fits_spec _) SubR.nil rfl (zq (Q.not rfl rfl) (za rfl (zk (W.condS rfl (fun hc35 => ?_) (fun hc35 => ?_)))))))))))))))))
 ·refine zr (za rfl (za (zi 2) (zk (W.ret ?_))))
  refine End.Br (End.Kr (End.ret (ResL.tmp rfl (z1 rfl)) (hs' := []) ⟨_, [], .nils, .inl ⟨ag_2 (Classical.not_not.1 hc28) (by simpa using hc35), rfl⟩, VOwn.nil, rfl⟩ no_wl (SubH.nil _)))
 refine zr (zm rfl (zq (Q.not rfl rfl) (za rfl (zk (W.condF rfl (zr (zq (Q.l1 rfl (zt 2 rfl) ag3 rfl) (zq (Q.bin rfl (zi 0) rfl (bvl (ltA_eq _ _))) (zm rfl (WO.sD (d := 45) rfl (fun hc45 => ?_) (fun hc45 => ?_)))))))))))
 ·refine zg rfl rfl (zg rfl rfl (zq (Q.pT rfl rfl) (za rfl (zk (W.sub (zc 42 rfl (zc 13 rfl (zc 7 rfl (zc 6 rfl (zc 0 rfl (zc 3 rfl (zc 4 rfl zzn))))))) (W.condT rfl (zr (za rfl (za (zi 2) (zk (W.ret ?_)))))))))))
  refine End.Br (End.Kr (End.ret (ResL.tmp rfl (z1 rfl)) (hs' := []) ⟨_, [], .nils, .inl ⟨ag_r (Classical.not_not.1 hc28) (by simpa using hc35) (.inl hag) (.inl (by simpa using hc45)), rfl⟩, VOwn.nil, rfl⟩ no_wl (SubH.nil _)))
 refine WO.gT rfl rfl (zq (Q.l1 rfl (zt 2 rfl) ag3 rfl) (WO.gT rfl rfl (zq (Q.bin rfl (zi 2) rfl (bv_gtr (ltA_eq _ _))) (zq (Q.pF rfl rfl) (za rfl (zk (W.sub (zc 42 rfl (zc 13 rfl (zc 7 rfl (zc 6 rfl (zc 0 rfl (zc 3 rfl (zc 4 rfl zzn))))))) (W.cD rfl (fun hc42 => ?_) (fun hc42 => ?_)))))))))
 ·refine zr (za rfl (za (zi 2) (zk (W.ret ?_))))
  refine End.Br (End.Kr (End.ret (ResL.tmp rfl (z1 rfl)) (hs' := []) ⟨_, [], .nils, .inl ⟨ag_r (Classical.not_not.1 hc28) (by simpa using hc35) (.inl hag) (.inr (by simpa using hc42)), rfl⟩, VOwn.nil, rfl⟩ no_wl (SubH.nil _)))
 have hck : vchk V = 0 := Classical.not_not.1 hc28
 have hfit : fitB k = true := (by simpa using hc35)
 have hmd : 0 ≤ md ∧ md ≤ 2 := (by first | (constructor <;> omega) | (simp at *; constructor <;> omega))
 have hK : ∀ i, i < V.length → KeyOK (eg V i).2.1 := fun i hi => vchk_key hB hck hi
 have hVl := vchk_len hck
 have hS := vchk_srt hck
 have hkq := quo_k hfit
 refine W.skip (End.KB (End.K (zr (zq (Q.makeF (oLc rfl (oLc rfl oz))) (WO.alloc ao80 rfl (fun b3 => WO.store sz80 rfl rfl (i := 0) rfl rfl (cs := [_]) rfl (hs' := _ :: _ :: _ :: _ :: _) rfl (zk (zr (zm rfl (zq (Q.makeF (oLc rfl oz)) ?_))))))))))
 (obtain ⟨SB, hSB⟩ : ∃ SB : HSt, SB = [⟨b3, ⟨1, true, [.func 54 [.ptr b1 0, .ptr bN 0]]⟩, true⟩, ⟨b2, ⟨1, true, [.func F []]⟩, true⟩, ⟨bN, ⟨1, true, [vn]⟩, true⟩, ⟨b1, ⟨1, true, (AV.int .i64 md).cells⟩, true⟩] := ⟨_, rfl⟩; refine WO.subH (hs' := hs ++ SB) (by subst hSB; exact gc) ?_)
 have m1 : MemH (ro SB ++ hs) b1 ⟨1, true, [.int .i64 md]⟩ := mem_s1 hSB 3 rfl
 have mN : MemH (ro SB ++ hs) bN ⟨1, true, [vn]⟩ := mem_s1 hSB 2 rfl
 have m4 : MemH (ro SB ++ hs) b3 ⟨1, true, [.func 54 [.ptr b1 0, .ptr bN 0]]⟩ := mem_s1 hSB 0 rfl
 refine WO.call0 rfl (oLc rfl (oLc rfl oz)) rfl (grp_spec (ro SB ++ hs) (ro_app hro) V v (hV.mono fun b o h => h.app) hB 57 [.ptr b3 0] (fun x : PE => prM (aggKey md N x.1)) (fun i hi => prM_bytes (ak_key (hK i hi) md N)) (fun i hi => agg2_spec (ro SB ++ hs) (ro_app hro) _ _ ((hV.at hi).mono fun b o h => h.app) (hK i hi) _ N vn (hN.mono fun b o h => h.app) hNb md b1 bN m1 mN b3 m4)) (SubR.mix gc hro) rfl (fun v52 D52 hP52 => ?_)
 obtain ⟨G, hpg, Dg, rfl, hG, hOg, hGB, hGl⟩ := hP52
 have hsub : ∀ x ∈ G, ∀ z ∈ x.1.2, z ∈ V := (fun x hx z hz => by rw [(hG.2.1 x hx).1] at hz; exact fl_mem hz)
 have hLm : ∀ x ∈ G, ∀ z ∈ x.1.2, LIn hs z.2.1 z.1 := fun x hx z hz => hV.2 z (hsub x hx z hz)
 have hpos : ∀ x ∈ G, 0 < x.1.2.length := fun x hx => List.length_pos_iff.2 (hG.2.1 x hx).2
 have hml : ∀ x ∈ G, x.1.2.length ≤ 256 := (fun x hx => by rw [(hG.2.1 x hx).1]; exact Nat.le_trans (List.length_filter_le _ _) hVl)
 have hmb : ∀ x ∈ G, EBd x.1.2 := fun x hx => ⟨Nat.le_trans (hml x hx) zy, fun z hz => hB.2 z (hsub x hx z hz)⟩
 have hEm : ∀ x ∈ G, EIn (ro (SB ++ Dg) ++ hs) x.1.2 x.2 := fun x hx => (GB.ein hGB hx (hLm x hx)).mono fun b o h => MemH.mixd2 h
 refine WO.subH (hs' := (hs ++ SB ++ (hpg ++ Dg))) (SubH.op (perm_tail (N := []) (G := (hpg ++ Dg)) (K := []) (X := hs ++ SB))) (za rfl (zk (zr (zm rfl (zq (Q.makeF (oLc rfl oz)) (WO.subH (hs' := hs ++ (SB ++ Dg) ++ hpg) gc (WO.callS (M := hpg) (A := (hs ++ (SB ++ Dg))) rfl (oLc rfl (oLc rfl oz)) rfl (OwnE.w (OwnE.of hOg)) gc (hSrt G _ hpg (ro (SB ++ Dg) ++ hs) (ro_app hro) 60 [.ptr b3 0] hOg (hM hck hmd.1 hmd.2 G hG hGl) (fun x hx => ⟨EIn.cell (hEm x hx), EIn.bq (hEm x hx)⟩) (fun x hx y hy => agg3_any (ro_app hro) (hEm x hx) (hEm y hy) (hmb x hx) (hmb y hy) (hpos x hx) (hpos y hy) N vn (hN.mono fun b o h => h.app) hNb md b1 bN (mem_sb hSB 3 rfl) (mem_sb hSB 2 rfl) b3 (mem_sb hSB 0 rfl))) (SubR.mix gc hro) rfl (fun v55 D55 hP55 => ?_))))))))
 obtain ⟨G', pG, hO5⟩ := hP55
 have hG' := hG.perm pG
 have hlen : G'.length = G.length := pG.length_eq
 have hGl' : G'.length ≤ 256 := (by rw [pG.length_eq]; omega)
 refine WO.subH (hs' := (hs ++ (SB ++ Dg) ++ D55)) (SubH.op (perm_tail (N := []) (G := D55) (K := []) (X := hs ++ (SB ++ Dg)))) (zk (zr (za rfl (zk (W.seq (zr (zm rfl (zq (Q.len ud81 rfl hOg.len) (zq (Q.move (zi 0)) (zk (W.block (W.loop_ind5 (fun (i : Nat) (X : List El) (u : AV) (hp : HSt) (hl : HSt) => [(0, .str op), (3, .int .i64 k), (13, .ptr b2 0), (15, .ptr b3 0), (17, u), (56, v52), (57, .int .i64 ((G.length : Nat) : Int)), (58, .int .i64 ((i : Nat) : Int))]) (fun (i : Nat) (X : List El) (u : AV) (hp : HSt) (hl : HSt) => (hs ++ (SB ++ Dg) ++ D55 ++ hp ++ hl)) (fun (i : Nat) (X : List El) (u : AV) (hp : HSt) (hl : HSt) => i ≤ G'.length ∧ P2 X = (G'.take i).map (grpE op md N) ∧ (∀ g ∈ G'.take i, (toldM op (vsE g.1.2)).2 = 0) ∧ X.length ≤ i ∧ OwnE 2 (cE X) X.length u hp ∧ (∀ x ∈ X, LIn hl x.2.1 x.1) ∧ WZ hl ∧ EBd X) (fun (i : Nat) (X : List El) (u : AV) (hp : HSt) (hl : HSt) => G'.length - i) (0) ([]) (.nils) ([]) ([]) ⟨Nat.zero_le _, rfl, fun g hg => by simp at hg, Nat.zero_le _, OwnE.nil 2, fun x hx => by simp at hx, WZ.nil, ebd_nil⟩ zv (by rw [List.append_nil, List.append_nil]; exact SubH.refl _) (fun i X u hp hl hI0 ih0 => ?_)))))))))))))
 obtain ⟨h1, h2, h2z, h3, hO, hL, hwz, hXB⟩ := hI0
 have hw := hwz.w
 have hXl := hXB.1
 refine zr (zq (Q.bin rfl rfl rfl (bvl ltn)) (zk (W.seq (W.cD rfl (fun hc59 => ?_) (fun hc59 => ?_)))))
 ·obtain ⟨bo, exo, rfl, hho⟩ := Own.full hO5 zy
  have mo : (⟨bo, ⟨1, exo, G'.map (·.2)⟩, true⟩ : HE) ∈ D55 := (by rw [hho]; exact List.mem_cons_self)
  obtain ⟨⟨⟨key, mem⟩, gv⟩, hgj⟩ : ∃ g, G'[i]? = some g := ⟨_, List.getElem?_eq_getElem zy⟩
  have hgm' := List.mem_of_getElem? hgj
  have hgm := pG.mem_iff.1 hgm'
  have hmp : 0 < mem.length := hpos _ hgm
  have hgl : mem.length ≤ 256 := hml _ hgm
  have hEb : EBd mem := hmb _ hgm
  have hLz : ∀ z ∈ mem, LIn hs z.2.1 z.1 := hLm _ hgm
  obtain ⟨jg, hjg⟩ := List.getElem?_of_mem hgm
  obtain ⟨PA, hpj, PB, hDe, hOj, _⟩ := GB.at hGB hjg
  replace hOj : OwnE 2 (cE mem) mem.length gv hpj := hOj
  obtain ⟨bg, exg, rfl, hh2⟩ := OwnE.full hOj hmp
  have mg : (⟨bg, ⟨2, exg, cE mem⟩, true⟩ : HE) ∈ (SB ++ Dg) := (by rw [hDe, hh2]; simp)
  have hgE : grpE op md N ((key, mem), .slice bg 0 mem.length 2) = (aggKey md N (eg mem 0).2.1, (toldM op (vsE mem)).1) := rfl
  refine zw (W.seq (W.block (zr (zq (Q.iS ud81 sz22 rfl rfl zo) (zq (Q.l1 rfl (List.mem_append_left _ (List.mem_append_left _ (List.mem_append_right _ mo))) ag22 (gmap_at hgj)) (za rfl (zk (W.seq (zr (zf fa76_0 rfl 0 (zq (Q.l1 rfl (List.mem_append_left _ (List.mem_append_left _ (List.mem_append_left _ (List.mem_append_right _ (List.mem_append_left Dg (by rw [hSB]; exact List.mem_cons_of_mem _ List.mem_cons_self)))))) ag74 rfl) (zq (Q.bin rfl rfl rfl eq74f) (zk (W.condF rfl (zw (zr (za rfl (zk (W.seq (zr (zm rfl (zq (Q.len ud22 rfl rfl) (zq (Q.move (zi 0)) ?_)))))))))))))))))))))))
  refine zk (W.block (W.loop_ind3 (fun (j : Nat) (ul : AV) (hq : HSt) => [(0, .str op), (3, .int .i64 k), (13, .ptr b2 0), (15, .ptr b3 0), (17, u), (56, (.slice bo 0 G'.length 1)), (57, .int .i64 ((G.length : Nat) : Int)), (58, .int .i64 ((i : Nat) : Int)), (19, .slice bg 0 mem.length 2), (20, ul), (72, .slice bg 0 mem.length 2), (73, .int .i64 ((mem.length : Nat) : Int)), (74, .int .i64 ((j : Nat) : Int))]) (fun (j : Nat) (ul : AV) (hq : HSt) => (hs ++ (SB ++ Dg) ++ D55 ++ hp ++ hl ++ hq)) (fun (j : Nat) (ul : AV) (hq : HSt) => j ≤ mem.length ∧ Own 1 (((vsE mem).take j).map (AV.int .i64)) j ul hq) (fun (j : Nat) (ul : AV) (hq : HSt) => mem.length - j) (0) (.nils) ([]) ⟨Nat.zero_le _, Own.nil 1⟩ zv (by rw [List.append_nil]; exact SubH.refl _) (fun j ul hq hI1 ih1 => ?_)))
  obtain ⟨k1, hOl⟩ := hI1
  refine zr (zq (Q.bin rfl rfl rfl (bvl ltn)) (zk (W.seq (W.cD rfl (fun hc75 => ?_) (fun hc75 => ?_)))))
  ·refine zw (W.seq (W.block (zr (zq (Q.iS ud22 sz35 rfl rfl zo) (zq (Q.loadN rfl (List.mem_append_left _ (List.mem_append_left _ (List.mem_append_left _ (List.mem_append_left _ (List.mem_append_right _ mg))))) ag35 sz35 (cE_at (V := mem) (i := _) zo)) (WO.alloc ao35 rfl (fun b4 => WO.store sz35 rfl rfl (i := 0) rfl (and_tt rfl (and_tt (LIn.cell (lin_any hLz _)) rfl)) (cs := [_, _]) rfl (hs' := _ :: _) rfl (zk (W.reg (zm rfl (zf fa35_1 rfl 1 (zq (Q.l1 rfl (zt 0 rfl) ag3 rfl) (WO.bslice ud89 sz3 zr3 rfl (opc rfl opn) rfl (cs := [_]) rfl rfl rfl (fun b5 => WO.appOwn (e := ⟨b5, _, true⟩) (A := ([_] ++ hs ++ (SB ++ Dg) ++ D55 ++ hp ++ hl)) ap89_89 hOl rfl rfl rfl rfl ⟨by first | omega | (simp at * <;> omega), by first | omega | (simp at * <;> omega)⟩ (by decide) rfl rfl (fun v82 hp82 hO82 => za rfl (WO.nil (End.KB (End.K (W.reg (zq (Q.bin rfl (zi 1) rfl zp) (zm rfl (WO.nil (End.KL (W.sub zv (W.sH gc (ih1 (j + 1) (v82) (hp82) ?_ ?_))))))))))))))))))))))))))
   ·exact ⟨by omega, by rw [vs_at zy, List.map_append]; exact hO82⟩
   exact zo
  obtain rfl : j = (vsE mem).length := (by rw [vs_len]; omega)
  rw [List.take_of_length_le (Nat.le_refl _)] at hOl
  obtain ⟨bq, exq, rfl, hhq⟩ := Own.full hOl (by rw [vs_len]; omega)
  refine W.exit (End.Kx (End.Lx (End.Bh (End.K (zr (zf fa76_0 rfl 0 (zq (Q.l1 rfl (List.mem_append_left _ (List.mem_append_left _ (List.mem_append_left _ (List.mem_append_left _ (List.mem_append_right _ (List.mem_append_left Dg (by rw [hSB]; exact List.mem_cons_of_mem _ List.mem_cons_self))))))) ag74 rfl) (zm rfl (WO.cV rfl (oLc rfl oz) rfl (hT (ro hq) ro_w (vsE mem) bq 1 exq ⟨false, by rw [hhq]; simp [ro]⟩ (by rw [vs_len]; omega) (by rw [vs_len]; omega)) (SubR.ro gc) rfl (zm rfl (zq (Q.extract rfl rfl) (zq (Q.extract rfl rfl) (za rfl (za rfl (zk (W.seq (zr (zm rfl (zq (Q.bin rfl (zi 0) rfl (bv_neq ne_nat)) (zk (W.sub (zc 92 rfl (zc 24 rfl (zc 23 rfl (zc 0 rfl (zc 3 rfl (zc 13 rfl (zc 15 rfl (zc 17 rfl (zc 56 rfl (zc 57 rfl (zc 58 rfl (zc 19 rfl zzn)))))))))))) (W.cD rfl (fun hc92 => ?_) (fun hc92 => ?_)))))))))))))))))))))))
  ·refine zr (zm rfl (za rfl (za rfl (zk (W.ret ?_)))))
   refine End.Kr (End.Br (End.Kr (End.Lr (End.Br (End.Kr (End.ret (ResL.tmp rfl (z1 rfl)) (hs' := []) ⟨_, [], .nils, .inr ⟨ag_no hck hfit (.inl hag) hmd, .inl ⟨⟨(eg mem 0).2, grp_in hG hgm (grp_hd hG hgm), by rw [← grp_val hG hgm (grp_hd hG hgm)]; show (toldM op (vsE mem)).2 ≠ 0; omega, grp_val hG hgm (grp_hd hG hgm) ▸ rfl⟩, rfl⟩⟩, VOwn.nil, rfl⟩ no_wl (SubH.nil _)))))))
  have hz0 : (toldM op (vsE mem)).2 = 0 := zy
  refine zw (W.regD 9 ((SB ++ Dg)) (by kernel_rfl) (fun e he => ⟨e.w, by obtain ⟨b, o, w⟩ := e; rcases List.mem_append.1 he with he | he <;> simp [he]⟩) (WD.q (Q.move rfl) (OwnE.bq hO) rfl (WD.q (Q.l1 rfl (List.mem_append_left Dg (by rw [hSB]; exact List.mem_cons_self)) ag80 rfl) (by simp [AV.beq, beq1, beq0, beqL]) rfl (WD.q (Q.move rfl) bqs rfl (WD.q (Q.iaddrL ud22 sz35 rfl (zi 0) zo (o' := 0) rfl) bqp rfl (WD.q (Q.loadN rfl mg ag35 sz35 (cE_at (V := mem) (i := 0) zo)) (bq_agg2 (LIn.bq0 (lin_any hLz _))) rfl (WD.call0 rfl (oLc rfl oz) rfl (agg1_spec (ro SB ++ hs) (ro_app hro) _ _ ((lin_any hLz _).mono fun b o h => h.app) (lbd_any hEb _) _ N vn (hN.mono fun b o h => h.app) hNb md b1 bN m1 mN) (SubR.mix gc hro) (fun e he => ⟨e.w, by obtain ⟨b, o, w⟩ := e; rcases List.mem_append.1 he with he | he <;> simp [he]⟩) rfl (fun v99 D99 hP99 => WD.subH (hs' := (hs ++ (SB ++ Dg) ++ D55 ++ hp ++ hl ++ hq ++ D99)) (SubH.op (perm_tail (N := []) (G := D99) (K := []) (X := hs ++ (SB ++ Dg) ++ D55 ++ hp ++ hl ++ hq))) (WD.q (Q.move rfl) bqi rfl (WD.q (Q.build pl35 (opc rfl (opc rfl opn)) rfl (cs := [_, _]) (fillE2 (OwnE.cell hP99))) (bq_agg2 (OwnE.bq0 hP99)) rfl (WD.bslice ud22 sz35 zr35 rfl (opc rfl opn) rfl (cs := [_, _]) rfl (and_tt (OwnE.cell hP99) rfl) rfl (fun e he => ⟨e.w, by obtain ⟨b, o, w⟩ := e; rcases List.mem_append.1 he with he | he <;> simp [he]⟩) (fun b7 => WD.appAny (A := ([] ++ hs ++ (SB ++ Dg) ++ D55 ++ hl ++ hq ++ D99)) ap22_22 hO rfl rfl (Src.slice (zt 0 rfl) rfl) rfl zy (by decide) gc rfl (fun e he => ⟨e.w, by obtain ⟨b, o, w⟩ := e; rcases List.mem_append.1 he with he | he <;> simp [he]⟩) (fun v103 hp103 hO103 => WD.q (Q.assign rfl) (OwnE.bq hO103) rfl (WD.nil (End.KB (End.K (W.sub (zc 17 rfl (zc 0 rfl (zc 3 rfl (zc 13 rfl (zc 15 rfl (zc 56 rfl (zc 57 rfl (zc 58 rfl zzn)))))))) (W.reg (zq (Q.bin rfl (zi 1) rfl zp) (zm rfl (WO.nil (End.KL (W.sub zv (W.sH gc (ih0 (i + 1) (X ++ [(v99, (aggKey md N (eg mem 0).2.1, (toldM op (vsE mem)).1))]) (v103) (hp103) (hl ++ D99) ?_ ?_)))))))))))))))))))))))))
  ·exact ⟨by omega, by rw [p2_snoc, take_ge hgj, List.map_append, h2]; rfl, fun g hg => by rw [take_ge hgj] at hg; rcases List.mem_append.1 hg with hg | hg; exact h2z g hg; rw [List.mem_singleton.1 hg]; exact hz0, by simp; omega, own_snoc hO103, lin_snoc hL (LIn.own hP99), WZ.app hwz (OwnE.wz hP99), ebd_put hXB zy ⟨ak_bd (lbd_any hEb _) md N, told_i64 (fun n hn => by obtain ⟨z, hz, rfl⟩ := List.mem_map.1 hn; exact (hEb.2 z hz).2) (by rw [vs_len]; omega)⟩⟩
  exact zo
 refine W.exit (End.Kx (End.Lx (End.Bh (End.K (zr (zm rfl (WO.callS (M := hp) (A := (hs ++ (SB ++ Dg) ++ D55 ++ hl)) rfl (oLc rfl oz) rfl (OwnE.w hO) gc (ord_spec (ro hl) ro_w X u hp hO (fun x hx => (hL x hx).mono fun b o h => h.ro) hXB) (SubR.ro gc) rfl (fun v106 D106 hP106 => ?_))))))))
 obtain ⟨e106, W106, w106, hR106, hM106, hO106, rfl⟩ := hP106
 refine WO.subH (hs' := (hs ++ (SB ++ Dg) ++ D55 ++ hl ++ D106)) (SubH.op (perm_tail (N := []) (G := D106) (K := []) (X := hs ++ (SB ++ Dg) ++ D55 ++ hl))) (zq (Q.extract rfl rfl) (zq (Q.extract rfl rfl) (za rfl (za rfl (zk (W.ret ?_))))))
 refine End.ret (ResL.tmp rfl (z1 rfl)) (hs' := D106 ++ hl) ⟨e106, W106, w106, .inr ⟨ag_no hck hfit (.inl hag) hmd, .inr (tell_fin hG' hK (by rw [List.take_of_length_le zy] at h2z; exact h2z) (by rw [List.take_of_length_le zy] at h2; exact h2 ▸ hR106))⟩, ⟨D106, hl, rfl, hO106, fun x hx => hL x (hM106 x hx), hwz, ord_ebd hR106 hM106 hXB⟩, rfl⟩ (wa (OwnE.w hO106) hw) gc
def stL (op : List Nat) (K V : List El) (k : Int) (i : Nat) : List PE := ((List.range i).filter fun j => decide (((cA op K V j V.length : Nat) : Int) < k)).map fun j => (eg V j).2
def RAggR (op : List Nat) (md : Int) (N : List (List Nat)) (k : Int) (V : List El) (e : Nat) (W : List PE) : Prop :=
 (aggPre op md k V = some e ∧ W = []) ∨ (aggPre op md k V = none ∧ ((tkB op = true ∧ e = 0 ∧ ∃ K : List El, K.map (·.2.1) = V.map (fun x => aggKey md N x.2.1) ∧ W = stL op K V (k.tdiv 1000000) V.length) ∨
  (agB op = true ∧ ∃ K : List El, K.map (·.2.1) = V.map (fun x => aggKey md N x.2.1) ∧ GrpR op K V e W)))
section
variable {op : List Nat} {md k : Int} {N : List (List Nat)} {K V X : List El} {A : List Lab} {i : Nat} {hs hp hl : HSt} {u v : AV}
theorem rk_ak {D : HSt} (hm : 0 ≤ md ∧ md ≤ 2) (h : md ≠ 0) (g : OwnE 2 (cL (rkeyM md N A)) (rkeyM md N A).length v D) : OwnE 2 (cL (aggKey md N A)) (aggKey md N A).length v D := by
 have e : rkeyM md N A = aggKey md N A := by
  have := rkey_eq (N := N) (A := A) hm
  rw [mdN, if_neg h] at this
  rw [this, ak_1 h]
 rw [e] at g; exact g
theorem tin_ownE (h : OwnE 1 (K.map (·.1)) K.length u hp) (g : ∀ x ∈ K, LIn hl x.2.1 x.1) : TIn (ro (hp ++ hl) ++ hs) K u := by
 refine ⟨?_, fun x hx => (g x hx).mono fun b o h => MemH.mixd h.app⟩
 rcases h with ⟨h1, _, h2, _⟩ | ⟨b, ex, h1, rfl, _⟩
 ·exact .inl ⟨h2, List.length_eq_zero_iff.1 h1⟩
 ·exact .inr ⟨b, 1, ex, h1, ⟨false, by simp [ro]⟩⟩
theorem kl_len (h : K.map (·.2.1) = (V.take i).map (fun x => aggKey md N x.2.1)) (hi : i ≤ V.length) : K.length = i := by
 have := congrArg List.length h
 rw [List.length_map, List.length_map, List.length_take] at this
 omega
theorem kl_snoc {kv : AV} {n : Int} (h : K.map (·.2.1) = (V.take i).map (fun x => aggKey md N x.2.1)) (hi : i < V.length) : (K ++ [(kv, (aggKey md N (eg V i).2.1, n))]).map (·.2.1) = (V.take (i + 1)).map (fun x => aggKey md N x.2.1) := by
 rw [take_eg hi, List.map_append, List.map_append, h]; rfl
theorem kl_own {x : El} (h : OwnE 1 (K.map (·.1) ++ [x.1]) (K.length + 1) u hp) : OwnE 1 ((K ++ [x]).map (·.1)) (K ++ [x]).length u hp := by
 rw [List.map_append, List.length_append]; exact h
theorem kl_lin {x : El} {hk : HSt} (h : ∀ y ∈ K, LIn hl y.2.1 y.1) (g : LIn hk x.2.1 x.1) : ∀ y ∈ K ++ [x], LIn (hl ++ hk) y.2.1 y.1 := by
 intro y hy
 rcases List.mem_append.1 hy with hy | hy
 ·exact (h y hy).mono fun b o q => q.appl
 ·rw [List.mem_singleton.1 hy]; exact g.mono fun b o q => q.app
theorem kl_bd {x : El} (h : ∀ y ∈ K, LBd y.2.1) (g : LBd x.2.1) : ∀ y ∈ K ++ [x], LBd y.2.1 := by
 intro y hy
 rcases List.mem_append.1 hy with hy | hy
 ·exact h y hy
 ·rw [List.mem_singleton.1 hy]; exact g
theorem st_y (h : P2 X = stL op K V k i) (hi : i < V.length) (g : ((cA op K V i V.length : Nat) : Int) < k) : P2 (X ++ [eg V i]) = stL op K V k (i + 1) := by
 unfold stL at h ⊢
 rw [p2_snoc, List.range_succ, List.filter_append, List.map_append, h]
 simp [g]
theorem st_n (h : P2 X = stL op K V k i) (g : ¬ ((cA op K V i V.length : Nat) : Int) < k) : P2 X = stL op K V k (i + 1) := by
 unfold stL at h ⊢
 rw [List.range_succ, List.filter_append, List.map_append, h]
 simp [g]
theorem VRes.w {W : List El} {w : AV} {D : HSt} (h : VRes hs W w D) : ∀ e ∈ D, e.w = true := by
 obtain ⟨hp, hl, rfl, hO, hL, hw, h⟩ := h
 exact wa (OwnE.w hO) hw
theorem vres_put {W : List El} {w : AV} {D E : HSt} (hE : ∀ e ∈ E, e.w = true) (h : VRes (ro E ++ hs) W w D) : VRes hs W w (D ++ E) := by
 obtain ⟨p, l, rfl, hO, hL, hw, hB⟩ := h
 refine ⟨p, l ++ E, List.append_assoc _ _ _, hO, fun x hx => (hL x hx).mono fun b o hm => ?_, wa hw hE, hB⟩
 obtain ⟨w, hm⟩ := hm
 rcases List.mem_append.1 hm with hm | hm
 ·rcases List.mem_append.1 hm with hm | hm
  ·obtain ⟨e, he, q⟩ := List.mem_map.1 hm
   obtain ⟨b', o', w'⟩ := e
   cases q
   exact ⟨w', List.mem_append_right _ (List.mem_append_right _ he)⟩
  ·exact ⟨w, List.mem_append_left _ hm⟩
 ·exact ⟨w, List.mem_append_right _ (List.mem_append_left _ hm)⟩
end

theorem ragg_spec (hs : HSt) (hro : ∀ e ∈ hs, e.w = false) (V : List El) (v : AV) (hV : EIn hs V v) (hB : EBd V) (op : List Nat) (ho : Bytes op) (md k : Int) (N : List (List Nat)) (vn : AV) (hN : SIn hs N vn) (hNb : SBd N) : Spec tab 20 [.str op, .int .i64 md, vn, .int .i64 k, v] [] hs (fun u D => ∃ (e : Nat) (W : List El) (w : AV), RAggR op md N k V e (P2 W) ∧ VRes hs W w D ∧ u = .tuple [w, .int .i64 (e : Nat)]) := by
 have hBl := hB.1
 refine Spec.en (ftg 20 Tryz.func20) rfl (m := 94) rfl (rs := [.tmp 10, .tmp 11]) rfl (st := [(0, .str op), (1, .int .i64 md), (2, vn), (3, .int .i64 k), (4, v)]) rfl rfl (fun _ => rfl) (fun E => zr (za rfl (za (zi 0) (zk (W.seq (zr (zm rfl (WO.cV rfl (oLc rfl oz) rfl (rvck_spec hs hro V _ hV hB) (SubR.s hro) rfl (za rfl (zk (zr (zm rfl (zq (Q.bin rfl (zi 0) rfl (bv_neq ne_nat)) (zk (W.cD rfl (fun hc21 => ?_) (fun hc21 => ?_))))))))))))))))
 ·refine zr (zm rfl (za rfl (za rfl (zk (W.ret ?_)))))
  refine End.Kr (End.ret (ResL.tmp rfl (z1 rfl)) (hs' := []) ⟨_, [], .nils, .inl ⟨ag_1 (by simpa using hc21), rfl⟩, VRes.nil, rfl⟩ no_wl (SubH.nil _))
 have hck : vchk V = 0 := (by have := Classical.not_not.1 hc21; omega)
 have hVl := vchk_len hck
 refine zw (W.seq (zr (zm rfl (WO.cV rfl (oLc rfl oz) rfl (rfits_spec _) SubR.nil rfl (zq (Q.not rfl rfl) (zk (W.condS rfl (fun hc25 => ?_) (fun hc25 => ?_))))))))
 ·refine zr (za rfl (za (zi 2) (zk (W.ret ?_))))
  refine End.Kr (End.ret (ResL.tmp rfl (z1 rfl)) (hs' := []) ⟨_, [], .nils, .inl ⟨ag_2 hck (by simpa using hc25), rfl⟩, VRes.nil, rfl⟩ no_wl (SubH.nil _))
 have hfit : fitB k = true := (by simpa using hc25)
 refine zw (W.seqJ1 (fun (q : Unit) => [(0, .str op), (1, .int .i64 md), (2, vn), (3, .int .i64 k), (4, v)]) (fun (q : Unit) => hs) (fun (q : Unit) => agB op = true ∨ tkB op = true) (fun q hI15 => ?_) (fun hJ15 => ?_))
 ·have hko := hI15
  refine W.seq (zr (zm rfl (zq (Q.bin rfl (zi 0) rfl (bvl (ltA_eq _ _))) (zm rfl (WO.sD (d := 37) rfl (fun hc37 => ?_) (fun hc37 => ?_))))))
  ·refine zg rfl rfl (zg rfl rfl (zq (Q.pT rfl rfl) (zk (W.condT rfl (zr (za rfl (za (zi 2) (zk (W.ret ?_)))))))))
   refine End.Kr (End.ret (ResL.tmp rfl (z1 rfl)) (hs' := []) ⟨_, [], .nils, .inl ⟨ag_r hck hfit hko (.inl (by simpa using hc37)), rfl⟩, VRes.nil, rfl⟩ no_wl (SubH.nil _))
  refine WO.gT rfl rfl (zm rfl (WO.gT rfl rfl (zq (Q.bin rfl (zi 2) rfl (bv_gtr (ltA_eq _ _))) (zq (Q.pF rfl rfl) (zk (W.cD rfl (fun hc40 => ?_) (fun hc40 => ?_)))))))
  ·refine zr (za rfl (za (zi 2) (zk (W.ret ?_))))
   refine End.Kr (End.ret (ResL.tmp rfl (z1 rfl)) (hs' := []) ⟨_, [], .nils, .inl ⟨ag_r hck hfit hko (.inr (by simpa using hc40)), rfl⟩, VRes.nil, rfl⟩ no_wl (SubH.nil _))
  have hmd : 0 ≤ md ∧ md ≤ 2 := zy
  refine zw (zr (za rfl (zk (W.seq (zr (za (zi 0) (zk (W.block (W.loop_ind5 (fun (i : Nat) (K : List El) (u : AV) (hp : HSt) (hl : HSt) => [(0, .str op), (1, .int .i64 md), (2, vn), (3, .int .i64 k), (4, v), (13, u), (14, .int .i64 ((i : Nat) : Int))]) (fun (i : Nat) (K : List El) (u : AV) (hp : HSt) (hl : HSt) => (hs ++ hp ++ hl)) (fun (i : Nat) (K : List El) (u : AV) (hp : HSt) (hl : HSt) => i ≤ V.length ∧ K.map (·.2.1) = (V.take i).map (fun x => aggKey md N x.2.1) ∧ OwnE 1 (K.map (·.1)) K.length u hp ∧ (∀ x ∈ K, LIn hl x.2.1 x.1) ∧ (∀ e ∈ hl, e.w = true) ∧ (∀ x ∈ K, LBd x.2.1)) (fun (i : Nat) (K : List El) (u : AV) (hp : HSt) (hl : HSt) => V.length - i) (0) ([]) (.nils) ([]) ([]) ⟨Nat.zero_le _, rfl, OwnE.nil 1, fun x hx => by simp at hx, no_wl, fun x hx => by simp at hx⟩ zv (by rw [List.append_nil, List.append_nil]; exact SubH.refl _) (fun i K u hp hl hI0 ih0 => ?_))))))))))
  obtain ⟨h1, hK1, hO, hL, hw, hKb⟩ := hI0
  have hKi : K.length = i := kl_len hK1 h1
  refine W.seq (zr (zm rfl (zm rfl (zq (Q.len ud22 rfl (EIn.len hV)) (zq (Q.bin rfl rfl rfl (bvl ltn)) (zk (W.cD rfl (fun hc44 => ?_) (fun hc44 => ?_))))))))
  ·obtain ⟨bv, szv, exv, rfl, wv, mv⟩ := EIn.full hV zy
   refine zw (W.seq (W.block (zr (za rfl (zk (W.seqJ2 (fun (kv : AV) (Dk : HSt) => [(0, .str op), (1, .int .i64 md), (2, vn), (3, .int .i64 k), (4, .slice bv 0 V.length 2), (13, u), (14, .int .i64 ((i : Nat) : Int)), (15, kv)]) (fun (kv : AV) (Dk : HSt) => (hs ++ hp ++ hl ++ Dk)) (fun (kv : AV) (Dk : HSt) => OwnE 2 (cL (aggKey md N (eg V i).2.1)) (aggKey md N (eg V i).2.1).length kv Dk) (fun kv Dk hI24 => ?_) (fun hJ24 => ?_)))))))
   ·have hOk := hI24
    refine W.reg (zm rfl (zm rfl (WO.bslice ud90 sz33 zr33 rfl (opc rfl opn) rfl (cs := [_]) (fillE1 (OwnE.cell hOk)) (and_tt (OwnE.cell hOk) rfl) rfl (fun b1 => WO.appAny (A := ([] ++ hs ++ hl ++ Dk)) ap90_90 hO rfl rfl (Src.slice (zt 0 rfl) rfl) rfl (by rw [hKi]; omega) (by decide) gc rfl (fun v60 hp60 hO60 => za rfl (WO.nil (End.KB (End.K (W.reg (zm rfl (zq (Q.bin rfl (zi 1) rfl zp) (za rfl (WO.nil (End.KL (W.sub zv (W.sH gc (ih0 (i + 1) (K ++ [(kv, ((aggKey md N (eg V i).2.1), 0))]) (v60) (hp60) (hl ++ Dk) ?_ ?_)))))))))))))))))
    ·exact ⟨by omega, kl_snoc hK1 zy, kl_own hO60, kl_lin hL (LIn.own hOk), wa hw (OwnE.w hOk), kl_bd hKb (ak_bd (hB.at zy).1 md N)⟩
    exact zo
   refine zr (zm rfl (zq (Q.bin rfl (zi 0) rfl (bv_neq ne_int)) (zk (W.cD rfl (fun hc48 => ?_) (fun hc48 => ?_)))))
   ·refine W.reg (zm rfl (zm rfl (zm rfl (zm rfl (zq (Q.iS ud22 sz35 rfl rfl zo) (zq (Q.fieldAddr fa35_0 rfl rfl) (zq (Q.l1 rfl (List.mem_append_left _ (List.mem_append_left _ mv)) ag33 (cE_f0 zo)) (WO.call0 rfl (oLc rfl (oLc rfl (oLc rfl oz))) rfl (rkey_spec hs hro (eg V i).2.1 _ (hV.at zy) (hB.at zy).1 N _ hN hNb md) (SubR.appl (SubR.appl (SubR.s hro))) rfl (fun v56 D56 hP56 => ?_)))))))))
    replace hP56 := rk_ak (N := N) (A := (eg V i).2.1) hmd (by assumption) hP56
    refine WO.subH (hs' := (hs ++ hp ++ hl ++ D56)) (SubH.op (perm_tail (N := []) (G := D56) (K := []) (X := hs ++ hp ++ hl))) (za rfl (WO.nil (End.K (W.sub zv (W.sH gc (hJ24 (v56) (D56) ?_))))))
    exact hP56
   refine W.skip (End.K (W.sub zv (W.sH gc (hJ24 (.nils) ([]) ?_))))
   exact (by rw [ak_0 (Classical.not_not.1 hc48)]; exact OwnE.nil 2)
  obtain rfl : i = V.length := zy
  rw [List.take_length] at hK1
  have hKl := hKi
  have hT : TIn (ro (hp ++ hl) ++ hs) K u := tin_ownE hO hL
  refine W.exit (End.Kx (End.Lx (End.Bh (End.K (zr (za rfl (zk (W.seq (W.seqJ1 (fun (q : Bool) => [(0, .str op), (3, .int .i64 k), (4, v), (13, u), (16, .nils), (66, .bool q)]) (fun (q : Bool) => (hs ++ hp ++ hl)) (fun (q : Bool) => (q = true → tkB op = true) ∧ (q = false → agB op = true)) (fun q hIc66 => ?_) (fun hJc66 => ?_))))))))))
  ·obtain ⟨hq1, hq2⟩ := hIc66
   refine W.condS rfl (fun hc66 => ?_) (fun hc66 => ?_)
   ·obtain ⟨kq, hkq, hqk⟩ : ∃ kq, k.tdiv 1000000 = kq ∧ IntKind.i64.wrap (k.tdiv ((1000000 : Nat) : Int)) = kq := ⟨_, rfl, quo_k hfit⟩
    refine W.seq (zr (za (zi 0) (zk (W.block (W.loop_ind4 (fun (i : Nat) (X : List El) (u2 : AV) (hp2 : HSt) => [(0, .str op), (3, .int .i64 k), (4, v), (13, u), (16, u2), (17, .int .i64 ((i : Nat) : Int))]) (fun (i : Nat) (X : List El) (u2 : AV) (hp2 : HSt) => (hs ++ hp ++ hl ++ hp2)) (fun (i : Nat) (X : List El) (u2 : AV) (hp2 : HSt) => i ≤ V.length ∧ P2 X = stL op K V kq i ∧ X.length ≤ i ∧ OwnE 2 (cE X) X.length u2 hp2 ∧ (∀ x ∈ X, LIn hs x.2.1 x.1) ∧ EBd X) (fun (i : Nat) (X : List El) (u2 : AV) (hp2 : HSt) => V.length - i) (0) ([]) (.nils) ([]) ⟨Nat.zero_le _, rfl, Nat.zero_le _, OwnE.nil 2, fun x hx => by simp at hx, ebd_nil⟩ zv (by rw [List.append_nil]; exact SubH.refl _) (fun i X u2 hp2 hI1 ih1 => ?_))))))
    obtain ⟨h2, h3, h4, hO2, hL2, hXB⟩ := hI1
    refine W.seq (zr (zm rfl (zm rfl (zq (Q.len ud22 rfl (EIn.len hV)) (zq (Q.bin rfl rfl rfl (bvl ltn)) (zk (W.cD rfl (fun hc70 => ?_) (fun hc70 => ?_))))))))
    ·obtain ⟨bv, szv, exv, rfl, wv, mv⟩ := EIn.full hV zy
     obtain ⟨bk, szk, exk, rfl, mk0⟩ := hT.full zy
     refine zw (W.seq (W.block (zr (zm rfl (zm rfl (zm rfl (zm rfl (zm rfl (zq (Q.bin rfl (zi 1000000) rfl (bv_quo (by decide) hqk)) (WO.cV rfl (oLc rfl (oLc rfl (oLc rfl (oLc rfl (oLc rfl oz))))) rfl (stays_spec (ro (hp ++ hl) ++ hs) (ro_app hro) V bv szv exv (MemH.app ⟨wv, mv⟩) (fun x hx => (hV.2 x hx).mono fun b o h => h.app) hB K bk szk exk mk0 hT.2 hKl hKb op ho i zy kq) (SubR.mix gc hro) rfl (zk (W.cD rfl (fun hc79 => ?_) (fun hc79 => ?_)))))))))))))
     ·refine W.reg (zm rfl (zm rfl (zm rfl (zq (Q.iS ud22 sz35 rfl rfl zo) (zq (Q.loadN rfl (List.mem_append_left _ (List.mem_append_left _ (List.mem_append_left _ mv))) ag35 sz35 (cE_at zo)) (WO.bslice ud22 sz35 zr35 rfl (opc rfl opn) rfl (cs := [_, _]) rfl (and_tt (LIn.cell (hV.at zy)) rfl) rfl (fun b2 => WO.appAny (A := ([] ++ hs ++ hp ++ hl)) ap22_22 hO2 rfl rfl (Src.slice (zt 0 rfl) rfl) rfl zy (by decide) (SubH.of_sublist (List.sublist_cons_self _ _)) rfl (fun v86 hp86 hO86 => za rfl (WO.nil (End.KB (End.K (W.sub (zc 16 rfl (zc 0 rfl (zc 3 rfl (zc 4 rfl (zc 13 rfl (zc 17 rfl zzn)))))) (W.reg (zm rfl (zq (Q.bin rfl (zi 1) rfl zp) (za rfl (WO.nil (End.KL (W.sub zv (W.sH gc (ih1 (i + 1) (X ++ [eg V i]) (v86) (hp86) ?_ ?_)))))))))))))))))))))
      ·exact ⟨by omega, st_y h3 zy (by simpa using hc79), by simp; omega, own_snoc hO86, (fun x hx => by rcases List.mem_append.1 hx with hx | hx; exact hL2 x hx; rw [List.mem_singleton.1 hx]; exact hV.at zy), ebd_put hXB zy (hB.at zy)⟩
      exact zo
     refine W.skip (End.KB (End.K (W.reg (zm rfl (zq (Q.bin rfl (zi 1) rfl zp) (za rfl (WO.nil (End.KL (W.sub zv (W.sH gc (ih1 (i + 1) (X) (u2) (hp2) ?_ ?_)))))))))))
     ·exact ⟨by omega, st_n h3 (by simpa using hc79), by omega, hO2, hL2, hXB⟩
     exact zo
    refine W.exit (End.Kx (End.Lx (End.Bh (End.K (zr (zm rfl (za rfl (za (zi 0) (zk (W.ret ?_))))))))))
    refine End.Kr (End.ret (ResL.tmp rfl (z1 rfl)) (hs' := hp2) ⟨0, X, u2, .inr ⟨ag_no hck hfit hko hmd, .inl ⟨hq1 hc66, rfl, K, hK1, by rw [hkq, h3, show i = V.length by omega]⟩⟩, ⟨hp2, [], (List.append_nil _).symm, hO2, fun x hx => by rw [List.append_nil]; exact hL2 x hx, no_wl, hXB⟩, rfl⟩ (OwnE.w hO2) gc)
   refine zw (zr (zm rfl (zm rfl (zm rfl (WO.call0 rfl (oLc rfl (oLc rfl (oLc rfl oz))) rfl (groups_spec (ro (hp ++ hl) ++ hs) (ro_app hro) V v (hV.mono fun b o h => h.app) hB K u hT hKl hKb op ho (hq2 (by simpa using hc66)) hVl) (SubR.mix gc hro) rfl (fun v91 D91 hP91 => ?_))))))
   obtain ⟨e91, W91, w91, hR91, hO91, rfl⟩ := hP91
   refine WO.subH (hs' := (hs ++ hp ++ hl ++ D91)) (SubH.op (perm_tail (N := []) (G := D91) (K := []) (X := hs ++ hp ++ hl))) (zq (Q.extract rfl rfl) (zq (Q.extract rfl rfl) (za rfl (za rfl (zk (W.ret ?_))))))
   refine End.ret (ResL.tmp rfl (z1 rfl)) (hs' := D91 ++ (hp ++ hl)) ⟨e91, W91, w91, .inr ⟨ag_no hck hfit hko hmd, .inr ⟨hq2 (by simpa using hc66), K, hK1, hR91⟩⟩, vres_put (wa (OwnE.w hO) hw) hO91, rfl⟩ (wa (VRes.w hO91) (wa (OwnE.w hO) hw)) gc
  refine W.reg (zm rfl (zq (Q.bin rfl (oc (v := .str [116, 111, 112, 107]) (by kernel_rfl)) rfl bv_seql) (zm rfl (WO.sD (d := 63) rfl (fun hc63 => ?_) (fun hc63 => ?_)))))
  ·refine zg rfl rfl (zg rfl rfl (zq (Q.pT rfl rfl) (WO.nil (End.K (W.sub zv (W.sH (SubH.refl _) (hJc66 (_) ?_)))))))
   exact ⟨fun _ => (by unfold tkB; simp_all), fun h => by cases h⟩
  refine WO.gT rfl rfl (zm rfl (WO.gT rfl rfl (zq (Q.bin rfl (oc (v := .str [98, 111, 116, 116, 111, 109, 107]) (by kernel_rfl)) rfl bv_seql) (zq (Q.pF rfl rfl) (WO.nil (End.K (W.sub zv (W.sH (SubH.refl _) (hJc66 (_) ?_)))))))))
  exact ⟨fun h => (by unfold tkB; simp_all), fun h => (by unfold agB tkB at *; simp_all)⟩
 refine zr (zm rfl (zk (W.block (W.seq (zr (zq (Q.bin rfl (oc (v := .str [115, 117, 109]) (by kernel_rfl)) rfl bv_seql) (za rfl (zk (W.cD rfl (fun hc27 => ?_) (fun hc27 => ?_))))))))))
 ·refine zw (W.condT rfl (W.skip (End.KB (End.K (W.sub zv (W.sH (SubH.refl _) (hJ15 (()) ?_)))))))
  exact (by unfold agB tkB; simp_all)
 refine zr (zq (Q.bin rfl (oc (v := .str [97, 118, 103]) (by kernel_rfl)) rfl bv_seql) (za rfl (zk (W.cD rfl (fun hc27 => ?_) (fun hc27 => ?_)))))
 ·refine zw (W.condT rfl (W.skip (End.KB (End.K (W.sub zv (W.sH (SubH.refl _) (hJ15 (()) ?_)))))))
  exact (by unfold agB tkB; simp_all)
 refine zr (zq (Q.bin rfl (oc (v := .str [109, 105, 110]) (by kernel_rfl)) rfl bv_seql) (za rfl (zk (W.cD rfl (fun hc27 => ?_) (fun hc27 => ?_)))))
 ·refine zw (W.sub (zc 27 rfl (zc 0 rfl (zc 1 rfl (zc 2 rfl (zc 3 rfl (zc 4 rfl zzn)))))) (W.condT rfl (W.skip (End.KB (End.K (W.sub zv (W.sH (SubH.refl _) (hJ15 (()) ?_))))))))
  exact (by unfold agB tkB; simp_all)
 refine zr (zq (Q.bin rfl (oc (v := .str [109, 97, 120]) (by kernel_rfl)) rfl bv_seql) (za rfl (zk (W.sub (zc 27 rfl (zc 26 rfl (zc 0 rfl (zc 1 rfl (zc 2 rfl (zc 3 rfl (zc 4 rfl zzn))))))) (W.cD rfl (fun hc27 => ?_) (fun hc27 => ?_))))))
 ·refine zw (W.condT rfl (W.skip (End.KB (End.K (W.sub zv (W.sH (SubH.refl _) (hJ15 (()) ?_)))))))
  exact (by unfold agB tkB; simp_all)
 refine zr (zq (Q.bin rfl (oc (v := .str [99, 111, 117, 110, 116]) (by kernel_rfl)) rfl bv_seql) (za rfl (zk (W.cD rfl (fun hc27 => ?_) (fun hc27 => ?_)))))
 ·refine zw (W.condT rfl (W.skip (End.KB (End.K (W.sub zv (W.sH (SubH.refl _) (hJ15 (()) ?_)))))))
  exact (by unfold agB tkB; simp_all)
 refine zr (zq (Q.bin rfl (oc (v := .str [116, 111, 112, 107]) (by kernel_rfl)) rfl bv_seql) (za rfl (zk (W.cD rfl (fun hc27 => ?_) (fun hc27 => ?_)))))
 ·refine zw (W.condT rfl (W.skip (End.KB (End.K (W.sub zv (W.sH (SubH.refl _) (hJ15 (()) ?_)))))))
  exact (by unfold agB tkB; simp_all)
 refine W.reg (zq (Q.bin rfl (oc (v := .str [98, 111, 116, 116, 111, 109, 107]) (by kernel_rfl)) rfl bv_seql) (za rfl (zk (W.cD rfl (fun hc27 => ?_) (fun hc27 => ?_)))))
 ·refine W.skip (End.KB (End.K (W.sub zv (W.sH (SubH.refl _) (hJ15 (()) ?_)))))
  exact (by unfold agB tkB; simp_all)
 refine zr (za rfl (za (zi 9) (zk (W.ret ?_))))
 refine End.Br (End.Kr (End.ret (ResL.tmp rfl (z1 rfl)) (hs' := []) ⟨_, [], .nils, .inl ⟨ag_9 hck hfit (by unfold agB tkB; simp_all), rfl⟩, VRes.nil, rfl⟩ no_wl (SubH.nil _)))
end Go.Proofs.YtmblgaehfjheeaaGreat.Ev
