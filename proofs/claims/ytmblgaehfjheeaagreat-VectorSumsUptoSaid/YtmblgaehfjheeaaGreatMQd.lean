/- The standard library's sort of groups, walks: all of it. -/
import Derived.Test.YtmblgaehfjheeaaGreatMQc
namespace Go.Proofs.YtmblgaehfjheeaaGreat.Ev
open Go.RowKit
set_option linter.unusedVariables false
set_option linter.unusedSimpArgs false
set_option maxRecDepth 100000
set_option maxHeartbeats 1000000

theorem gpdq_step (G : List Ge) (B : Nat) (ex : Bool) (hN : G.length ≤ 256) (c : Ge → Ge → Int) (F : Nat) (caps : List AV) (hs : HSt) (hro : ∀ e ∈ hs, e.w = false) (hQ : ∀ x ∈ G, x.2.isCell = true ∧ x.2.beq x.2 = true) (hC : ∀ x ∈ G, ∀ y ∈ G, Spec tab F ([x.2, y.2] ++ caps) [] hs (Val (.int .i64 (c x y)))) (l : List Ge) (pl : l.Perm G) (a b : Nat) (hab : a ≤ b) (hb : b ≤ G.length) (lim : Nat) (hlim : lim ≤ 1000) (ih : ∀ (l' : List Ge) (pl' : l'.Perm G) (a' b' lim' : Nat), lim' ≤ 1000 → b' - a' < b - a → a' ≤ b' → b' ≤ G.length → Spec tab 99 [.slice B 0 G.length 1, .int .i64 ((a' : Nat) : Int), .int .i64 ((b' : Nat) : Int), .int .i64 ((lim' : Nat) : Int), .func F caps] [B] (⟨B, ⟨1, ex, (l').map (·.2)⟩, true⟩ :: hs) (fun v D => ∃ g : List Ge, g.Perm G ∧ D = [⟨B, ⟨1, ex, (g).map (·.2)⟩, true⟩])) : Spec tab 99 [.slice B 0 G.length 1, .int .i64 ((a : Nat) : Int), .int .i64 ((b : Nat) : Int), .int .i64 ((lim : Nat) : Int), .func F caps] [B] (⟨B, ⟨1, ex, (l).map (·.2)⟩, true⟩ :: hs) (fun v D => ∃ g : List Ge, g.Perm G ∧ D = [⟨B, ⟨1, ex, (g).map (·.2)⟩, true⟩]) := by
 refine Spec.enter' (ft_get 99 Tryz.func99) rfl (m := 148) rfl (rs := []) rfl (st := [(0, .slice B 0 G.length 1), (1, .int .i64 ((a : Nat) : Int)), (2, .int .i64 ((b : Nat) : Int)), (3, .int .i64 ((lim : Nat) : Int)), (4, .func F caps)]) rfl rfl (fun _ => rfl) (fun E => zr (za rfl (zk (zr (za rfl (zk (W.block (W.loop_ind6 (fun (ai : Nat) (bi : Nat) (li : Nat) (wb : Bool) (wp : Bool) (g : List Ge) => [(0, .slice B 0 G.length 1), (1, .int .i64 ((ai : Nat) : Int)), (2, .int .i64 ((bi : Nat) : Int)), (3, .int .i64 ((li : Nat) : Int)), (4, .func F caps), (10, .bool wb), (11, .bool wp)]) (fun (ai : Nat) (bi : Nat) (li : Nat) (wb : Bool) (wp : Bool) (g : List Ge) => (⟨B, ⟨1, ex, (g).map (·.2)⟩, true⟩ :: hs)) (fun (ai : Nat) (bi : Nat) (li : Nat) (wb : Bool) (wp : Bool) (g : List Ge) => a ≤ ai ∧ ai ≤ bi ∧ bi ≤ b ∧ li ≤ 1000 ∧ g.Perm G) (fun (ai : Nat) (bi : Nat) (li : Nat) (wb : Bool) (wp : Bool) (g : List Ge) => bi - ai) (a) (b) (lim) (true) (true) (l) ⟨Nat.le_refl _, hab, Nat.le_refl _, hlim, pl⟩ zv (SubH.refl _) (fun ai bi li wb wp g hI0 ih0 => ?_)))))))))
 obtain ⟨h1, h2, h3, hl1, pg⟩ := hI0
 refine W.block (zr (zm rfl (zm rfl (zq (Q.bin rfl rfl rfl (bv_sub (wn_sub zo))) (za rfl (zk (W.seq (zr (zm rfl (zq (Q.bin rfl (zi 12) rfl (bv_leq le_nat)) (zk (W.condDS rfl (fun hc25 => ?_) (fun hc25 => ?_)))))))))))))
 · refine zr (zm rfl (zm rfl (zm rfl (zm rfl (WO.call1 rfl (oLs_cons rfl (oLs_cons rfl (oLs_cons rfl (oLs_cons rfl oLs_nil)))) rfl (i := 0) rfl (gins_spec G B ex hN c F caps hs hro hQ hC g pg ai bi (by omega) (by omega)) (SubR.self hro) (hs' := _) rfl rfl (fun v30 D30 hP30 => ?_))))))
   obtain ⟨g1, pg1, rfl⟩ := hP30
   refine zk (W.sub zzn (W.ret ?_))
   refine End.K_ret (End.KB_ret (End.KL_ret (End.KB_ret (End.ret ResL.nil (hs' := [⟨B, ⟨1, ex, (g1).map (·.2)⟩, true⟩]) ⟨g1, pg1, rfl⟩ (ww no_wl) (SubH.of_sublist (List.Sublist.cons_cons _ (List.nil_sublist _)))))))
 have h13 : ai + 13 ≤ bi := (by omega)
 refine zw (W.seq (zr (zm rfl (zq (Q.bin rfl (zi 0) rfl (bv_eql eq_nat)) (zk (W.condDS rfl (fun hc32 => ?_) (fun hc32 => ?_)))))))
 · refine zr (zm rfl (zm rfl (zm rfl (zm rfl (WO.call1 rfl (oLs_cons rfl (oLs_cons rfl (oLs_cons rfl (oLs_cons rfl oLs_nil)))) rfl (i := 0) rfl (gheap_spec G B ex hN c F caps hs hro hQ hC g pg ai bi (by omega) (by omega) (by omega)) (SubR.self hro) (hs' := _) rfl rfl (fun v37 D37 hP37 => ?_))))))
   obtain ⟨g1, pg1, rfl⟩ := hP37
   refine zk (W.sub zzn (W.ret ?_))
   refine End.K_ret (End.KB_ret (End.KL_ret (End.KB_ret (End.ret ResL.nil (hs' := [⟨B, ⟨1, ex, (g1).map (·.2)⟩, true⟩]) ⟨g1, pg1, rfl⟩ (ww no_wl) (SubH.of_sublist (List.Sublist.cons_cons _ (List.nil_sublist _)))))))
 have hli : 1 ≤ li := (by omega)
 refine zw (W.seqJ2 (fun (li2 : Nat) (g2 : List Ge) => [(0, .slice B 0 G.length 1), (1, .int .i64 ((ai : Nat) : Int)), (2, .int .i64 ((bi : Nat) : Int)), (3, .int .i64 ((li2 : Nat) : Int)), (4, .func F caps), (10, .bool wb), (11, .bool wp), (12, .int .i64 ((bi - ai : Nat) : Int))]) (fun (li2 : Nat) (g2 : List Ge) => (⟨B, ⟨1, ex, (g2).map (·.2)⟩, true⟩ :: hs)) (fun (li2 : Nat) (g2 : List Ge) => li2 ≤ 1000 ∧ g2.Perm G) (fun li2 g2 hI10 => ?_) (fun hJ10 => ?_))
 · obtain ⟨hl2, pg2⟩ := hI10
   refine zr (zm rfl (zm rfl (zm rfl (zm rfl (WO.callE rfl (oLs_cons rfl (oLs_cons rfl (oLs_cons rfl (oLs_cons rfl oLs_nil)))) rfl (gchp_spec G B ex hN c F caps hs hro hQ hC g2 pg2 ai bi (by omega) (by omega) (by omega)) (sub_f1 hro) rfl (fun v52 hP52 => ?_))))))
   obtain ⟨p, hh, rfl, hp1, hp2⟩ := hP52
   refine zm rfl (zq (Q.extract rfl rfl) (zq (Q.extract rfl rfl) (za rfl (za rfl (zk (W.seqJ3 (fun (p2 : Nat) (hn2 : Nat) (g3 : List Ge) => [(0, .slice B 0 G.length 1), (1, .int .i64 ((ai : Nat) : Int)), (2, .int .i64 ((bi : Nat) : Int)), (3, .int .i64 ((li2 : Nat) : Int)), (4, .func F caps), (10, .bool wb), (11, .bool wp), (12, .int .i64 ((bi - ai : Nat) : Int)), (13, .int .i64 ((p2 : Nat) : Int)), (14, .int .i64 ((hn2 : Nat) : Int))]) (fun (p2 : Nat) (hn2 : Nat) (g3 : List Ge) => (⟨B, ⟨1, ex, (g3).map (·.2)⟩, true⟩ :: hs)) (fun (p2 : Nat) (hn2 : Nat) (g3 : List Ge) => ai ≤ p2 ∧ p2 < bi ∧ g3.Perm G) (fun p2 hn2 g3 hI15 => ?_) (fun hJ15 => ?_)))))))
   · obtain ⟨hp3, hp4, pg3⟩ := hI15
     refine W.seqJ1 (fun (g4 : List Ge) => [(0, .slice B 0 G.length 1), (1, .int .i64 ((ai : Nat) : Int)), (2, .int .i64 ((bi : Nat) : Int)), (3, .int .i64 ((li2 : Nat) : Int)), (4, .func F caps), (10, .bool wb), (11, .bool wp), (12, .int .i64 ((bi - ai : Nat) : Int)), (13, .int .i64 ((p2 : Nat) : Int))]) (fun (g4 : List Ge) => (⟨B, ⟨1, ex, (g4).map (·.2)⟩, true⟩ :: hs)) (fun (g4 : List Ge) => g4.Perm G) (fun g4 hI17 => ?_) (fun hJ17 => ?_)
     · have pg4 := hI17
       refine W.seq (W.seq (W.regT (by kernel_rfl) (zm rfl (zq (Q.bin rfl (zi 0) rfl (bv_gtr lt_nat)) (zm rfl (WO.splitD (d := 83) rfl (fun hc83 => ?_) (fun hc83 => ?_)))))))
       · refine WO.gT rfl rfl (zm rfl (WO.gT rfl rfl (zm rfl (WO.gT rfl rfl (zm rfl (WO.gT rfl rfl (zq (Q.bin rfl (zi 1) rfl (bv_sub (wn_sub zo))) (WO.gT rfl rfl (zq (Q.iaddrS ud81 sz22 rfl rfl zo) (WO.gT rfl rfl (zq (Q.load1 rfl (zt 0 rfl) ag22 (gread pg4 zo)) (WO.gT rfl rfl (zm rfl (WO.gT rfl rfl (zm rfl (WO.gT rfl rfl (zq (Q.iaddrS ud81 sz22 rfl rfl zo) (WO.gT rfl rfl (zq (Q.load1 rfl (zt 0 rfl) ag22 (gread pg4 zo)) (WO.gT rfl rfl (WO.callV rfl (oLs_cons rfl (oLs_cons rfl oLs_nil)) rfl (hC _ (gmem pg4 (by omega)) _ (gmem pg4 (by omega))) (SubR.tl (SubR.self hro)) rfl (WO.gT rfl rfl (zq (Q.bin rfl (zi 0) rfl (bv_lss (ltA_eq _ _))) ?_)))))))))))))))))))))))
         refine WO.gT rfl rfl (zq (Q.not rfl not_dec) (zq (Q.pickT rfl rfl) (zk (W.sub (zc 97 rfl (zc 0 rfl (zc 1 rfl (zc 2 rfl (zc 3 rfl (zc 4 rfl (zc 10 rfl (zc 11 rfl (zc 12 rfl (zc 13 rfl zzn)))))))))) (W.condDS rfl (fun hc97 => ?_) (fun hc97 => ?_))))))
         · refine zr (zm rfl (zm rfl (zm rfl (zm rfl (zm rfl (WO.call1 rfl (oLs_cons rfl (oLs_cons rfl (oLs_cons rfl (oLs_cons rfl (oLs_cons rfl oLs_nil))))) rfl (i := 0) rfl (gpeq_spec G B ex hN c F caps hs hro hQ hC g4 pg4 ai bi (by omega) (by omega) p2 (by omega) (by omega)) (SubR.self hro) (hs' := _) rfl rfl (fun v103 D103 hP103 => ?_)))))))
           obtain ⟨g5, pg5, rfl, r, rfl, hr1, hr2⟩ := hP103
           refine za rfl (zk (zr (zm rfl (za rfl (zk (W.exit (End.K_exit (End.KB_hit (End.KL (W.sub zv (W.subH (SubH.refl _) (ih0 (r) (bi) (li2) (wb) (wp) (g5) ?_ ?_))))))))))))
           · exact ⟨by omega, by omega, by omega, hl2, pg5⟩
           exact zo
         refine zw (zr (zm rfl (zm rfl (zm rfl (zm rfl (zm rfl (WO.call1 rfl (oLs_cons rfl (oLs_cons rfl (oLs_cons rfl (oLs_cons rfl (oLs_cons rfl oLs_nil))))) rfl (i := 0) rfl (gparti_spec G B ex hN c F caps hs hro hQ hC g4 pg4 ai bi (by omega) (by omega) p2 (by omega) (by omega)) (SubR.self hro) (hs' := _) rfl rfl (fun v111 D111 hP111 => ?_))))))))
         obtain ⟨g5, pg5, rfl, r, q, rfl, hr1, hr2⟩ := hP111
         refine zm rfl (zq (Q.extract rfl rfl) (zq (Q.extract rfl rfl) (za rfl (za rfl (zk (zr (zm rfl (za rfl (zk (W.sub (zc 11 rfl (zc 16 rfl (zc 0 rfl (zc 1 rfl (zc 2 rfl (zc 3 rfl (zc 4 rfl (zc 12 rfl zzn)))))))) (zr (zm rfl (zm rfl (zq (Q.bin rfl rfl rfl (bv_sub (wn_sub zo))) (zm rfl (zm rfl (zq (Q.bin rfl rfl rfl (bv_sub (wn_sub zo))) (za rfl (za rfl (zk (zr (zm rfl (zq (Q.bin rfl (zi 8) rfl (bv_quo (by decide) (qn (by decide) (by omega)))) ?_)))))))))))))))))))))))
         refine za rfl (zk (zr (zm rfl (zm rfl (zq (Q.bin rfl rfl rfl (bv_lss lt_nat)) (zk (W.condDS rfl (fun hc125 => ?_) (fun hc125 => ?_))))))))
         · refine zr (zm rfl (zm rfl (zq (Q.bin rfl rfl rfl (bv_geq le_nat)) (za rfl (zk (W.sub (zc 10 rfl (zc 11 rfl (zc 16 rfl (zc 0 rfl (zc 1 rfl (zc 2 rfl (zc 3 rfl (zc 4 rfl zzn)))))))) (zr (zm rfl (zm rfl (zm rfl (zm rfl (zm rfl (WO.call1 rfl (oLs_cons rfl (oLs_cons rfl (oLs_cons rfl (oLs_cons rfl (oLs_cons rfl oLs_nil))))) rfl (i := 0) rfl (ih g5 pg5 ai r li2 hl2 (by omega) (by omega) (by omega)) (SubR.self hro) (hs' := _) rfl rfl (fun v134 D134 hP134 => ?_))))))))))))))
           obtain ⟨g6, pg6, rfl⟩ := hP134
           refine zk (W.reg (zm rfl (zq (Q.bin rfl (zi 1) rfl zp) (za rfl (WO.nil (End.KB (End.KL (W.sub zv (W.subH (SubH.refl _) (ih0 (r + 1) (bi) (li2) (_) (q) (g6) ?_ ?_))))))))))
           · exact ⟨by omega, by omega, by omega, hl2, pg6⟩
           exact zo
         refine zr (zm rfl (zm rfl (zq (Q.bin rfl rfl rfl (bv_geq le_nat)) (za rfl (zk (W.sub (zc 10 rfl (zc 11 rfl (zc 16 rfl (zc 0 rfl (zc 1 rfl (zc 2 rfl (zc 3 rfl (zc 4 rfl zzn)))))))) (zr (zm rfl (zm rfl (zq (Q.bin rfl (zi 1) rfl zp) (zm rfl (zm rfl (zm rfl (WO.call1 rfl (oLs_cons rfl (oLs_cons rfl (oLs_cons rfl (oLs_cons rfl (oLs_cons rfl oLs_nil))))) rfl (i := 0) rfl (ih g5 pg5 (r + 1) bi li2 hl2 (by omega) (by omega) (by omega)) (SubR.self hro) (hs' := _) rfl rfl (fun v146 D146 hP146 => ?_)))))))))))))))
         obtain ⟨g6, pg6, rfl⟩ := hP146
         refine zk (W.reg (zm rfl (za rfl (WO.nil (End.KB (End.KL (W.sub zv (W.subH (SubH.refl _) (ih0 (ai) (r) (li2) (_) (q) (g6) ?_ ?_)))))))))
         · exact ⟨by omega, by omega, by omega, hl2, pg6⟩
         exact zo
       refine zg rfl rfl (zg rfl rfl (zg rfl rfl (zg rfl rfl (zg rfl rfl (zg rfl rfl (zg rfl rfl (zg rfl rfl (zg rfl rfl (zg rfl rfl (zg rfl rfl (zg rfl rfl (zg rfl rfl (zq (Q.pickF rfl rfl) (zk (W.sub (zc 97 rfl (zc 0 rfl (zc 1 rfl (zc 2 rfl (zc 3 rfl (zc 4 rfl (zc 10 rfl (zc 11 rfl (zc 12 rfl (zc 13 rfl zzn)))))))))) (W.condF rfl (zw (zr (zm rfl (zm rfl (zm rfl (zm rfl (zm rfl ?_)))))))))))))))))))))))
       refine WO.call1 rfl (oLs_cons rfl (oLs_cons rfl (oLs_cons rfl (oLs_cons rfl (oLs_cons rfl oLs_nil))))) rfl (i := 0) rfl (gparti_spec G B ex hN c F caps hs hro hQ hC g4 pg4 ai bi (by omega) (by omega) p2 (by omega) (by omega)) (SubR.self hro) (hs' := _) rfl rfl (fun v111 D111 hP111 => ?_)
       obtain ⟨g5, pg5, rfl, r, q, rfl, hr1, hr2⟩ := hP111
       refine zm rfl (zq (Q.extract rfl rfl) (zq (Q.extract rfl rfl) (za rfl (za rfl (zk (zr (zm rfl (za rfl (zk (W.sub (zc 11 rfl (zc 16 rfl (zc 0 rfl (zc 1 rfl (zc 2 rfl (zc 3 rfl (zc 4 rfl (zc 12 rfl zzn)))))))) (zr (zm rfl (zm rfl (zq (Q.bin rfl rfl rfl (bv_sub (wn_sub zo))) (zm rfl (zm rfl (zq (Q.bin rfl rfl rfl (bv_sub (wn_sub zo))) (za rfl (za rfl (zk (zr (zm rfl (zq (Q.bin rfl (zi 8) rfl (bv_quo (by decide) (qn (by decide) (by omega)))) ?_)))))))))))))))))))))))
       refine za rfl (zk (zr (zm rfl (zm rfl (zq (Q.bin rfl rfl rfl (bv_lss lt_nat)) (zk (W.condDS rfl (fun hc125 => ?_) (fun hc125 => ?_))))))))
       · refine zr (zm rfl (zm rfl (zq (Q.bin rfl rfl rfl (bv_geq le_nat)) (za rfl (zk (W.sub (zc 10 rfl (zc 11 rfl (zc 16 rfl (zc 0 rfl (zc 1 rfl (zc 2 rfl (zc 3 rfl (zc 4 rfl zzn)))))))) (zr (zm rfl (zm rfl (zm rfl (zm rfl (zm rfl (WO.call1 rfl (oLs_cons rfl (oLs_cons rfl (oLs_cons rfl (oLs_cons rfl (oLs_cons rfl oLs_nil))))) rfl (i := 0) rfl (ih g5 pg5 ai r li2 hl2 (by omega) (by omega) (by omega)) (SubR.self hro) (hs' := _) rfl rfl (fun v134 D134 hP134 => ?_))))))))))))))
         obtain ⟨g6, pg6, rfl⟩ := hP134
         refine zk (W.reg (zm rfl (zq (Q.bin rfl (zi 1) rfl zp) (za rfl (WO.nil (End.KB (End.KL (W.sub zv (W.subH (SubH.refl _) (ih0 (r + 1) (bi) (li2) (_) (q) (g6) ?_ ?_))))))))))
         · exact ⟨by omega, by omega, by omega, hl2, pg6⟩
         exact zo
       refine zr (zm rfl (zm rfl (zq (Q.bin rfl rfl rfl (bv_geq le_nat)) (za rfl (zk (W.sub (zc 10 rfl (zc 11 rfl (zc 16 rfl (zc 0 rfl (zc 1 rfl (zc 2 rfl (zc 3 rfl (zc 4 rfl zzn)))))))) (zr (zm rfl (zm rfl (zq (Q.bin rfl (zi 1) rfl zp) (zm rfl (zm rfl (zm rfl (WO.call1 rfl (oLs_cons rfl (oLs_cons rfl (oLs_cons rfl (oLs_cons rfl (oLs_cons rfl oLs_nil))))) rfl (i := 0) rfl (ih g5 pg5 (r + 1) bi li2 hl2 (by omega) (by omega) (by omega)) (SubR.self hro) (hs' := _) rfl rfl (fun v146 D146 hP146 => ?_)))))))))))))))
       obtain ⟨g6, pg6, rfl⟩ := hP146
       refine zk (W.reg (zm rfl (za rfl (WO.nil (End.KB (End.KL (W.sub zv (W.subH (SubH.refl _) (ih0 (ai) (r) (li2) (_) (q) (g6) ?_ ?_)))))))))
       · exact ⟨by omega, by omega, by omega, hl2, pg6⟩
       exact zo
     refine zr (zm rfl (zm rfl (WO.split (d := 69) rfl (fun hc69 => ?_) (fun hc69 => ?_))))
     · refine WO.gT rfl rfl (zm rfl (zq (Q.pickT rfl rfl) (zm rfl (WO.split (d := 72) rfl (fun hc72 => ?_) (fun hc72 => ?_)))))
       · refine WO.gT rfl rfl (zm rfl (WO.gT rfl rfl (zq (Q.bin rfl (zi 1) rfl (bv_eql eq_nat)) (zq (Q.pickT rfl rfl) (zk (W.condDS rfl (fun hc75 => ?_) (fun hc75 => ?_)))))))
         · refine zr (zm rfl (zm rfl (zm rfl (zm rfl (WO.call1 rfl (oLs_cons rfl (oLs_cons rfl (oLs_cons rfl (oLs_cons rfl oLs_nil)))) rfl (i := 0) rfl (gpart_spec G B ex hN c F caps hs hro hQ hC g3 pg3 ai bi (by omega) (by omega) (by omega)) (SubR.self hro) (hs' := _) rfl rfl (fun v80 D80 hP80 => ?_))))))
           obtain ⟨g4, pg4, rfl, q, rfl⟩ := hP80
           refine zk (W.condS rfl (fun hc80 => ?_) (fun hc80 => ?_))
           · refine W.ret ?_
             refine End.K_ret (End.KB_ret (End.KL_ret (End.KB_ret (End.ret ResL.nil (hs' := [⟨B, ⟨1, ex, (g4).map (·.2)⟩, true⟩]) ⟨g4, pg4, rfl⟩ (ww no_wl) (SubH.of_sublist (List.Sublist.cons_cons _ (List.nil_sublist _)))))))
           refine W.skip (End.K (W.sub zv (W.subH (SubH.refl _) (hJ17 (g4) ?_))))
           exact pg4
         refine W.skip (End.K (W.sub zv (W.subH (SubH.refl _) (hJ17 (g3) ?_))))
         exact pg3
       refine zg rfl rfl (zg rfl rfl (zq (Q.pickF rfl rfl) (zk (W.condF rfl (W.skip (End.K (W.sub zv (W.subH (SubH.refl _) (hJ17 (g3) ?_)))))))))
       exact pg3
     refine zg rfl rfl (zq (Q.pickF rfl rfl) (zm rfl (zg rfl rfl (zg rfl rfl (zq (Q.pickF rfl rfl) (zk (W.condF rfl (W.skip (End.K (W.sub zv (W.subH (SubH.refl _) (hJ17 (g3) ?_))))))))))))
     exact pg3
   refine zr (zm rfl (zq (Q.bin rfl (zi 2) rfl (bv_eql eq_nat)) (zk (W.condDS rfl (fun hc56 => ?_) (fun hc56 => ?_)))))
   · refine zr (zm rfl (zm rfl (zm rfl (zm rfl (WO.call1 rfl (oLs_cons rfl (oLs_cons rfl (oLs_cons rfl (oLs_cons rfl oLs_nil)))) rfl (i := 0) rfl (grev_spec G B ex hN c F caps hs hro hQ hC g2 pg2 ai bi (by omega) (by omega) (by omega)) (SubR.self hro) (hs' := _) rfl rfl (fun v61 D61 hP61 => ?_))))))
     obtain ⟨g3, pg3, rfl⟩ := hP61
     refine zk (W.sub (zc 13 rfl (zc 0 rfl (zc 1 rfl (zc 2 rfl (zc 3 rfl (zc 4 rfl (zc 10 rfl (zc 11 rfl (zc 12 rfl zzn))))))))) (zr (zm rfl (zq (Q.bin rfl (zi 1) rfl (bv_sub (wn_sub zo))) (zm rfl (zm rfl (zq (Q.bin rfl rfl rfl (bv_sub (wn_sub zo))) (zq (Q.bin rfl rfl rfl (bv_sub (wn_sub zo))) (za rfl (zk (W.reg (za (zi 1) (WO.nil (End.K (W.sub zv (W.subH (SubH.refl _) (hJ15 (bi - 1 - (p - ai)) (1) (g3) ?_)))))))))))))))))
     exact ⟨by omega, by omega, pg3⟩
   refine W.skip (End.K (W.sub zv (W.subH (SubH.refl _) (hJ15 (p) (hh) (g2) ?_))))
   exact ⟨by omega, by omega, pg2⟩
 refine zr (zm rfl (zq (Q.not rfl rfl) (zk (W.condS rfl (fun hc39 => ?_) (fun hc39 => ?_)))))
 · refine zr (zm rfl (zm rfl (zm rfl (zm rfl (WO.call1 rfl (oLs_cons rfl (oLs_cons rfl (oLs_cons rfl (oLs_cons rfl oLs_nil)))) rfl (i := 0) rfl (gbrk_spec G B ex hN c F caps hs hro hQ hC g pg ai bi (by omega) (by omega) (by omega)) (SubR.self hro) (hs' := _) rfl rfl (fun v44 D44 hP44 => ?_))))))
   obtain ⟨g1, pg1, rfl⟩ := hP44
   refine zk (W.sub (zc 12 rfl (zc 0 rfl (zc 1 rfl (zc 2 rfl (zc 3 rfl (zc 4 rfl (zc 10 rfl (zc 11 rfl zzn)))))))) (W.reg (zm rfl (zq (Q.bin rfl (zi 1) rfl (bv_sub (wn_sub zo))) (za rfl (WO.nil (End.K (W.sub zv (W.subH (SubH.refl _) (hJ10 (li - 1) (g1) ?_))))))))))
   exact ⟨by omega, pg1⟩
 refine W.skip (End.K (W.sub zv (W.subH (SubH.refl _) (hJ10 (li) (g) ?_))))
 exact ⟨hl1, pg⟩
theorem gpdq_spec (G : List Ge) (B : Nat) (ex : Bool) (hN : G.length ≤ 256) (c : Ge → Ge → Int) (F : Nat) (caps : List AV) (hs : HSt) (hro : ∀ e ∈ hs, e.w = false) (hQ : ∀ x ∈ G, x.2.isCell = true ∧ x.2.beq x.2 = true) (hC : ∀ x ∈ G, ∀ y ∈ G, Spec tab F ([x.2, y.2] ++ caps) [] hs (Val (.int .i64 (c x y)))) : ∀ (d : Nat) (l : List Ge) (pl : l.Perm G) (a b lim : Nat), lim ≤ 1000 → b - a ≤ d → a ≤ b → b ≤ G.length → Spec tab 99 [.slice B 0 G.length 1, .int .i64 ((a : Nat) : Int), .int .i64 ((b : Nat) : Int), .int .i64 ((lim : Nat) : Int), .func F caps] [B] (⟨B, ⟨1, ex, (l).map (·.2)⟩, true⟩ :: hs) (fun v D => ∃ g : List Ge, g.Perm G ∧ D = [⟨B, ⟨1, ex, (g).map (·.2)⟩, true⟩]) := by
  intro d
  induction d with
  | zero => intro l pl a b lim hm hd hab hb; exact gpdq_step G B ex hN c F caps hs hro hQ hC l pl a b hab hb lim hm fun l' pl' a' b' lim' q0 q1 q2 q3 => by omega
  | succ d ihd => intro l pl a b lim hm hd hab hb; exact gpdq_step G B ex hN c F caps hs hro hQ hC l pl a b hab hb lim hm fun l' pl' a' b' lim' q0 q1 q2 q3 => ihd l' pl' a' b' lim' q0 (by omega) q2 q3
theorem gsrt_spec (G : List Ge) (B : Nat) (ex : Bool) (hN : G.length ≤ 256) (c : Ge → Ge → Int) (F : Nat) (caps : List AV) (hs : HSt) (hro : ∀ e ∈ hs, e.w = false) (hQ : ∀ x ∈ G, x.2.isCell = true ∧ x.2.beq x.2 = true) (hC : ∀ x ∈ G, ∀ y ∈ G, Spec tab F ([x.2, y.2] ++ caps) [] hs (Val (.int .i64 (c x y)))) (l : List Ge) (pl : l.Perm G) : Spec tab 59 [.slice B 0 G.length 1, .func F caps] [B] (⟨B, ⟨1, ex, (l).map (·.2)⟩, true⟩ :: hs) (fun v D => ∃ g : List Ge, g.Perm G ∧ D = [⟨B, ⟨1, ex, (g).map (·.2)⟩, true⟩]) := by
 refine Spec.enter' (ft_get 59 Tryz.func59) rfl (m := 14) rfl (rs := []) rfl (st := [(0, .slice B 0 G.length 1), (1, .func F caps)]) rfl rfl (fun _ => rfl) (fun E => zr (zm rfl (zq (Q.len ud81 rfl rfl) (za rfl (zk (W.reg (zm rfl (zm rfl (zm rfl (zq (Q.convI ud3 ud121 rfl (wru64 zo)) (WO.callE rfl (oLs_cons rfl oLs_nil) rfl (lenb_spec G.length (by omega)) SubR.nil rfl (fun v11 hP11 => ?_))))))))))))
 obtain ⟨lim, hlim, rfl⟩ := hP11
 refine zm rfl (WO.call1 rfl (oLs_cons rfl (oLs_cons (zi 0) (oLs_cons rfl (oLs_cons rfl (oLs_cons rfl oLs_nil))))) rfl (i := 0) rfl (gpdq_spec G B ex hN c F caps hs hro hQ hC (G.length - 0) l pl 0 G.length lim (by omega) (Nat.le_refl _) (Nat.zero_le _) (Nat.le_refl _)) (SubR.self hro) (hs' := _) rfl rfl (fun v13 D13 hP13 => ?_))
 obtain ⟨g1, pg1, rfl⟩ := hP13
 refine WO.nil ?_
 refine End.fall ResL.nil (hs' := [⟨B, ⟨1, ex, (g1).map (·.2)⟩, true⟩]) ⟨g1, pg1, rfl⟩ (ww no_wl) (SubH.of_sublist (List.Sublist.cons_cons _ (List.nil_sublist _)))
open Classical in
theorem srt_all : SrtOK 256 := by
  intro G v hp hs hro F caps hO hM hQ hC
  rcases id hO with ⟨h1, h2, rfl, rfl⟩ | ⟨b, ex, rfl, rfl, h3, h4⟩
  · intro h hh
    obtain ⟨v, h', hs', g1, ⟨g2, g3⟩, g4, g5⟩ := gsrt_nil F caps h (hh.sub (SubH.nil _))
    exact ⟨v, h', hs', g1, ⟨G, List.Perm.refl _, by subst g3; exact hO⟩, g4, g5⟩
  · have hC' : ∃ c : Ge → Ge → Int, ∀ x ∈ G, ∀ y ∈ G, Spec tab F ([x.2, y.2] ++ caps) [] hs (Val (.int .i64 (c x y))) := by
      refine ⟨fun x y => if h : x ∈ G ∧ y ∈ G then (hC x h.1 y h.2).choose else 0, fun x hx y hy => ?_⟩
      simp only [hx, hy, and_self, dite_true]
      exact (hC x hx y hy).choose_spec
    obtain ⟨c, hc⟩ := hC'
    refine (gsrt_spec G b ex hM c F caps hs hro hQ hc G (List.Perm.refl _)).mono fun u D hD => ?_
    obtain ⟨g, pg, rfl⟩ := hD
    refine ⟨g, pg, .inr ⟨b, ex, by rw [pg.length_eq], rfl, ?_, ?_⟩⟩
    · rw [List.length_map]; omega
    · rw [pg.length_eq]; exact h4
end Go.Proofs.YtmblgaehfjheeaaGreat.Ev
