/- The standard library's sort of groups, walks: all of it. -/
import Derived.Test.YtmblgaehfjheeaaGreatGQc
import Derived.Test.YtmblgaehfjheeaaGreatGQl
import Derived.Test.YtmblgaehfjheeaaGreatGZt
import Derived.Test.YtmblgaehfjheeaaGreatGQj
import Derived.Test.YtmblgaehfjheeaaGreatGAwA
import Derived.Test.YtmblgaehfjheeaaGreatProg
namespace Go.Proofs.YtmblgaehfjheeaaGreat.Ev
open Go.RowKit
set_option linter.unusedVariables false
set_option linter.unusedSimpArgs false
set_option maxRecDepth 100000
set_option maxHeartbeats 1000000

theorem gpdq_step (G : List Ge) (B : Nat) (ex : Bool) (hN : G.length ≤ 256) (c : Ge → Ge → Int) (F : Nat) (caps : List AV) (hs : HSt) (hro : ∀ e ∈ hs, e.w = false) (hQ : ∀ x ∈ G, x.2.isCell = true ∧ x.2.beq x.2 = true) (hC : ∀ x ∈ G, ∀ y ∈ G, Spec tab F ([x.2, y.2] ++ caps) [] hs (Val (.int .i64 (c x y)))) (l : List Ge) (pl : l.Perm G) (a b : Nat) (hab : a ≤ b) (hb : b ≤ G.length) (lim : Nat) (hlim : lim ≤ 1000) (ih : ∀ (l' : List Ge) (pl' : l'.Perm G) (a' b' lim' : Nat), lim' ≤ 1000 → b' - a' < b - a → a' ≤ b' → b' ≤ G.length → Spec tab 99 [.slice B 0 G.length 1, .int .i64 ((a' : Nat) : Int), .int .i64 ((b' : Nat) : Int), .int .i64 ((lim' : Nat) : Int), .func F caps] [B] (⟨B, ⟨1, ex, (l').map (·.2)⟩, true⟩ :: hs) (fun v D => ∃ g : List Ge, g.Perm G ∧ D = [⟨B, ⟨1, ex, (g).map (·.2)⟩, true⟩])) : Spec tab 99 [.slice B 0 G.length 1, .int .i64 ((a : Nat) : Int), .int .i64 ((b : Nat) : Int), .int .i64 ((lim : Nat) : Int), .func F caps] [B] (⟨B, ⟨1, ex, (l).map (·.2)⟩, true⟩ :: hs) (fun v D => ∃ g : List Ge, g.Perm G ∧ D = [⟨B, ⟨1, ex, (g).map (·.2)⟩, true⟩]) := by
 refine Spec.en (ftg 99 Tryz.func99) rfl (m := 148) rfl (rs := []) rfl (st := [(0, .slice B 0 G.length 1), (1, .int .i64 ((a : Nat) : Int)), (2, .int .i64 ((b : Nat) : Int)), (3, .int .i64 ((lim : Nat) : Int)), (4, .func F caps)]) rfl rfl (fun _ => rfl) (fun E => zr (za rfl (zk (zr (za rfl (zk (W.block (W.loop_ind6 (fun (ai : Nat) (bi : Nat) (li : Nat) (wb : Bool) (wp : Bool) (g : List Ge) => [(0, .slice B 0 G.length 1), (1, .int .i64 ((ai : Nat) : Int)), (2, .int .i64 ((bi : Nat) : Int)), (3, .int .i64 ((li : Nat) : Int)), (4, .func F caps), (10, .bool wb), (11, .bool wp)]) (fun (ai : Nat) (bi : Nat) (li : Nat) (wb : Bool) (wp : Bool) (g : List Ge) => (⟨B, ⟨1, ex, (g).map (·.2)⟩, true⟩ :: hs)) (fun (ai : Nat) (bi : Nat) (li : Nat) (wb : Bool) (wp : Bool) (g : List Ge) => a ≤ ai ∧ ai ≤ bi ∧ bi ≤ b ∧ li ≤ 1000 ∧ g.Perm G) (fun (ai : Nat) (bi : Nat) (li : Nat) (wb : Bool) (wp : Bool) (g : List Ge) => bi - ai) (a) (b) (lim) (true) (true) (l) ⟨Nat.le_refl _, hab, Nat.le_refl _, hlim, pl⟩ zv (SubH.refl _) (fun ai bi li wb wp g hI0 ih0 => ?_)))))))))
 obtain ⟨h1, h2, h3, hl1, pg⟩ := hI0
 refine W.block (zr (zm rfl (zm rfl (zq (Q.bin rfl rfl rfl (bv_sub (wns zo))) (za rfl (zk (W.seq (zr (zm rfl (zq (Q.bin rfl (zi 12) rfl (bv_leq le_nat)) (zk (W.cD rfl (fun hc25 => ?_) (fun hc25 => ?_)))))))))))))
 ·refine zr (zm rfl (zm rfl (zm rfl (zm rfl (WO.call1 rfl (oLc rfl (oLc rfl (oLc rfl (oLc rfl oz)))) rfl (i := 0) rfl (gins_spec G B ex hN c F caps hs hro hQ hC g pg ai bi zy zy) (SubR.s hro) (hs' := _) rfl rfl (fun v30 D30 hP30 => ?_))))))
  obtain ⟨g1, pg1, rfl⟩ := hP30
  refine zk (W.sub zzn (W.ret ?_))
  refine End.Kr (End.Br (End.Lr (End.Br (End.ret ResL.nil (hs' := [⟨B, ⟨1, ex, (g1).map (·.2)⟩, true⟩]) ⟨g1, pg1, rfl⟩ (ww no_wl) (SubH.of_sublist (List.Sublist.cons_cons _ (List.nil_sublist _)))))))
 have h13 : ai + 13 ≤ bi := zy
 refine zw (W.seq (zr (zm rfl (zq (Q.bin rfl (zi 0) rfl (bv_eql eq_nat)) (zk (W.cD rfl (fun hc32 => ?_) (fun hc32 => ?_)))))))
 ·refine zr (zm rfl (zm rfl (zm rfl (zm rfl (WO.call1 rfl (oLc rfl (oLc rfl (oLc rfl (oLc rfl oz)))) rfl (i := 0) rfl (gheap_spec G B ex hN c F caps hs hro hQ hC g pg ai bi zy zy zy) (SubR.s hro) (hs' := _) rfl rfl (fun v37 D37 hP37 => ?_))))))
  obtain ⟨g1, pg1, rfl⟩ := hP37
  refine zk (W.sub zzn (W.ret ?_))
  refine End.Kr (End.Br (End.Lr (End.Br (End.ret ResL.nil (hs' := [⟨B, ⟨1, ex, (g1).map (·.2)⟩, true⟩]) ⟨g1, pg1, rfl⟩ (ww no_wl) (SubH.of_sublist (List.Sublist.cons_cons _ (List.nil_sublist _)))))))
 have hli : 1 ≤ li := zy
 refine zw (W.seqJ2 (fun (li2 : Nat) (g2 : List Ge) => [(0, .slice B 0 G.length 1), (1, .int .i64 ((ai : Nat) : Int)), (2, .int .i64 ((bi : Nat) : Int)), (3, .int .i64 ((li2 : Nat) : Int)), (4, .func F caps), (10, .bool wb), (11, .bool wp), (12, .int .i64 ((bi - ai : Nat) : Int))]) (fun (li2 : Nat) (g2 : List Ge) => (⟨B, ⟨1, ex, (g2).map (·.2)⟩, true⟩ :: hs)) (fun (li2 : Nat) (g2 : List Ge) => li2 ≤ 1000 ∧ g2.Perm G) (fun li2 g2 hI10 => ?_) (fun hJ10 => ?_))
 ·obtain ⟨hl2, pg2⟩ := hI10
  refine zr (zm rfl (zm rfl (zm rfl (zm rfl (WO.callE rfl (oLc rfl (oLc rfl (oLc rfl (oLc rfl oz)))) rfl (gchp_spec G B ex hN c F caps hs hro hQ hC g2 pg2 ai bi zy zy zy) (sub_f1 hro) rfl (fun v52 hP52 => ?_))))))
  obtain ⟨p, hh, rfl, hp1, hp2⟩ := hP52
  refine zm rfl (zq (Q.extract rfl rfl) (zq (Q.extract rfl rfl) (za rfl (za rfl (zk (W.seqJ3 (fun (p2 : Nat) (hn2 : Nat) (g3 : List Ge) => [(0, .slice B 0 G.length 1), (1, .int .i64 ((ai : Nat) : Int)), (2, .int .i64 ((bi : Nat) : Int)), (3, .int .i64 ((li2 : Nat) : Int)), (4, .func F caps), (10, .bool wb), (11, .bool wp), (12, .int .i64 ((bi - ai : Nat) : Int)), (13, .int .i64 ((p2 : Nat) : Int)), (14, .int .i64 ((hn2 : Nat) : Int))]) (fun (p2 : Nat) (hn2 : Nat) (g3 : List Ge) => (⟨B, ⟨1, ex, (g3).map (·.2)⟩, true⟩ :: hs)) (fun (p2 : Nat) (hn2 : Nat) (g3 : List Ge) => ai ≤ p2 ∧ p2 < bi ∧ g3.Perm G) (fun p2 hn2 g3 hI15 => ?_) (fun hJ15 => ?_)))))))
  ·obtain ⟨hp3, hp4, pg3⟩ := hI15
   refine W.seqJ1 (fun (g4 : List Ge) => [(0, .slice B 0 G.length 1), (1, .int .i64 ((ai : Nat) : Int)), (2, .int .i64 ((bi : Nat) : Int)), (3, .int .i64 ((li2 : Nat) : Int)), (4, .func F caps), (10, .bool wb), (11, .bool wp), (12, .int .i64 ((bi - ai : Nat) : Int)), (13, .int .i64 ((p2 : Nat) : Int))]) (fun (g4 : List Ge) => (⟨B, ⟨1, ex, (g4).map (·.2)⟩, true⟩ :: hs)) (fun (g4 : List Ge) => g4.Perm G) (fun g4 hI17 => ?_) (fun hJ17 => ?_)
   ·have pg4 := hI17
    refine W.seq (W.seq (W.regT (by kernel_rfl) (zm rfl (zq (Q.bin rfl (zi 0) rfl (bv_gtr ltn)) (zm rfl (WO.sD (d := 83) rfl (fun hc83 => ?_) (fun hc83 => ?_)))))))
    ·refine WO.gT rfl rfl (zm rfl (WO.gT rfl rfl (zm rfl (WO.gT rfl rfl (zm rfl (WO.gT rfl rfl (zq (Q.bin rfl (zi 1) rfl (bv_sub (wns zo))) (WO.gT rfl rfl (zq (Q.iS ud81 sz22 rfl rfl zo) (WO.gT rfl rfl (zq (Q.l1 rfl (zt 0 rfl) ag22 (gread pg4 zo)) (WO.gT rfl rfl (zm rfl (WO.gT rfl rfl (zm rfl (WO.gT rfl rfl (zq (Q.iS ud81 sz22 rfl rfl zo) (WO.gT rfl rfl (zq (Q.l1 rfl (zt 0 rfl) ag22 (gread pg4 zo)) (WO.gT rfl rfl (WO.cV rfl (oLc rfl (oLc rfl oz)) rfl (hC _ (gmem pg4 zy) _ (gmem pg4 zy)) (SubR.t (SubR.s hro)) rfl (WO.gT rfl rfl (zq (Q.bin rfl (zi 0) rfl (bvl (ltA_eq _ _))) ?_)))))))))))))))))))))))
     refine WO.gT rfl rfl (zq (Q.not rfl not_dec) (zq (Q.pT rfl rfl) (zk (W.sub (zc 97 rfl (zc 0 rfl (zc 1 rfl (zc 2 rfl (zc 3 rfl (zc 4 rfl (zc 10 rfl (zc 11 rfl (zc 12 rfl (zc 13 rfl zzn)))))))))) (W.cD rfl (fun hc97 => ?_) (fun hc97 => ?_))))))
     ·refine zr (zm rfl (zm rfl (zm rfl (zm rfl (zm rfl (WO.call1 rfl (oLc rfl (oLc rfl (oLc rfl (oLc rfl (oLc rfl oz))))) rfl (i := 0) rfl (gpeq_spec G B ex hN c F caps hs hro hQ hC g4 pg4 ai bi zy zy p2 zy zy) (SubR.s hro) (hs' := _) rfl rfl (fun v103 D103 hP103 => ?_)))))))
      obtain ⟨g5, pg5, rfl, r, rfl, hr1, hr2⟩ := hP103
      refine za rfl (zk (zr (zm rfl (za rfl (zk (W.exit (End.Kx (End.Bh (End.KL (W.sub zv (W.sH (SubH.refl _) (ih0 (r) (bi) (li2) (wb) (wp) (g5) ?_ ?_))))))))))))
      ·exact ⟨by omega, by omega, by omega, hl2, pg5⟩
      exact zo
     refine zw (zr (zm rfl (zm rfl (zm rfl (zm rfl (zm rfl (WO.call1 rfl (oLc rfl (oLc rfl (oLc rfl (oLc rfl (oLc rfl oz))))) rfl (i := 0) rfl (gparti_spec G B ex hN c F caps hs hro hQ hC g4 pg4 ai bi zy zy p2 zy zy) (SubR.s hro) (hs' := _) rfl rfl (fun v111 D111 hP111 => ?_))))))))
     obtain ⟨g5, pg5, rfl, r, q, rfl, hr1, hr2⟩ := hP111
     refine zm rfl (zq (Q.extract rfl rfl) (zq (Q.extract rfl rfl) (za rfl (za rfl (zk (zr (zm rfl (za rfl (zk (W.sub (zc 11 rfl (zc 16 rfl (zc 0 rfl (zc 1 rfl (zc 2 rfl (zc 3 rfl (zc 4 rfl (zc 12 rfl zzn)))))))) (zr (zm rfl (zm rfl (zq (Q.bin rfl rfl rfl (bv_sub (wns zo))) (zm rfl (zm rfl (zq (Q.bin rfl rfl rfl (bv_sub (wns zo))) (za rfl (za rfl (zk (zr (zm rfl (zq (Q.bin rfl (zi 8) rfl (bv_quo (by decide) (qn (by decide) zy))) ?_)))))))))))))))))))))))
     refine za rfl (zk (zr (zm rfl (zm rfl (zq (Q.bin rfl rfl rfl (bvl ltn)) (zk (W.cD rfl (fun hc125 => ?_) (fun hc125 => ?_))))))))
     ·refine zr (zm rfl (zm rfl (zq (Q.bin rfl rfl rfl (bv_geq le_nat)) (za rfl (zk (W.sub (zc 10 rfl (zc 11 rfl (zc 16 rfl (zc 0 rfl (zc 1 rfl (zc 2 rfl (zc 3 rfl (zc 4 rfl zzn)))))))) (zr (zm rfl (zm rfl (zm rfl (zm rfl (zm rfl (WO.call1 rfl (oLc rfl (oLc rfl (oLc rfl (oLc rfl (oLc rfl oz))))) rfl (i := 0) rfl (ih g5 pg5 ai r li2 hl2 zy zy zy) (SubR.s hro) (hs' := _) rfl rfl (fun v134 D134 hP134 => ?_))))))))))))))
      obtain ⟨g6, pg6, rfl⟩ := hP134
      refine zk (W.reg (zm rfl (zq (Q.bin rfl (zi 1) rfl zp) (za rfl (WO.nil (End.KB (End.KL (W.sub zv (W.sH (SubH.refl _) (ih0 (r + 1) (bi) (li2) (_) (q) (g6) ?_ ?_))))))))))
      ·exact ⟨by omega, by omega, by omega, hl2, pg6⟩
      exact zo
     refine zr (zm rfl (zm rfl (zq (Q.bin rfl rfl rfl (bv_geq le_nat)) (za rfl (zk (W.sub (zc 10 rfl (zc 11 rfl (zc 16 rfl (zc 0 rfl (zc 1 rfl (zc 2 rfl (zc 3 rfl (zc 4 rfl zzn)))))))) (zr (zm rfl (zm rfl (zq (Q.bin rfl (zi 1) rfl zp) (zm rfl (zm rfl (zm rfl (WO.call1 rfl (oLc rfl (oLc rfl (oLc rfl (oLc rfl (oLc rfl oz))))) rfl (i := 0) rfl (ih g5 pg5 (r + 1) bi li2 hl2 zy zy zy) (SubR.s hro) (hs' := _) rfl rfl (fun v146 D146 hP146 => ?_)))))))))))))))
     obtain ⟨g6, pg6, rfl⟩ := hP146
     refine zk (W.reg (zm rfl (za rfl (WO.nil (End.KB (End.KL (W.sub zv (W.sH (SubH.refl _) (ih0 (ai) (r) (li2) (_) (q) (g6) ?_ ?_)))))))))
     ·exact ⟨by omega, by omega, by omega, hl2, pg6⟩
     exact zo
    refine zg rfl rfl (zg rfl rfl (zg rfl rfl (zg rfl rfl (zg rfl rfl (zg rfl rfl (zg rfl rfl (zg rfl rfl (zg rfl rfl (zg rfl rfl (zg rfl rfl (zg rfl rfl (zg rfl rfl (zq (Q.pF rfl rfl) (zk (W.sub (zc 97 rfl (zc 0 rfl (zc 1 rfl (zc 2 rfl (zc 3 rfl (zc 4 rfl (zc 10 rfl (zc 11 rfl (zc 12 rfl (zc 13 rfl zzn)))))))))) (W.condF rfl (zw (zr (zm rfl (zm rfl (zm rfl (zm rfl (zm rfl ?_)))))))))))))))))))))))
    refine WO.call1 rfl (oLc rfl (oLc rfl (oLc rfl (oLc rfl (oLc rfl oz))))) rfl (i := 0) rfl (gparti_spec G B ex hN c F caps hs hro hQ hC g4 pg4 ai bi zy zy p2 zy zy) (SubR.s hro) (hs' := _) rfl rfl (fun v111 D111 hP111 => ?_)
    obtain ⟨g5, pg5, rfl, r, q, rfl, hr1, hr2⟩ := hP111
    refine zm rfl (zq (Q.extract rfl rfl) (zq (Q.extract rfl rfl) (za rfl (za rfl (zk (zr (zm rfl (za rfl (zk (W.sub (zc 11 rfl (zc 16 rfl (zc 0 rfl (zc 1 rfl (zc 2 rfl (zc 3 rfl (zc 4 rfl (zc 12 rfl zzn)))))))) (zr (zm rfl (zm rfl (zq (Q.bin rfl rfl rfl (bv_sub (wns zo))) (zm rfl (zm rfl (zq (Q.bin rfl rfl rfl (bv_sub (wns zo))) (za rfl (za rfl (zk (zr (zm rfl (zq (Q.bin rfl (zi 8) rfl (bv_quo (by decide) (qn (by decide) zy))) ?_)))))))))))))))))))))))
    refine za rfl (zk (zr (zm rfl (zm rfl (zq (Q.bin rfl rfl rfl (bvl ltn)) (zk (W.cD rfl (fun hc125 => ?_) (fun hc125 => ?_))))))))
    ·refine zr (zm rfl (zm rfl (zq (Q.bin rfl rfl rfl (bv_geq le_nat)) (za rfl (zk (W.sub (zc 10 rfl (zc 11 rfl (zc 16 rfl (zc 0 rfl (zc 1 rfl (zc 2 rfl (zc 3 rfl (zc 4 rfl zzn)))))))) (zr (zm rfl (zm rfl (zm rfl (zm rfl (zm rfl (WO.call1 rfl (oLc rfl (oLc rfl (oLc rfl (oLc rfl (oLc rfl oz))))) rfl (i := 0) rfl (ih g5 pg5 ai r li2 hl2 zy zy zy) (SubR.s hro) (hs' := _) rfl rfl (fun v134 D134 hP134 => ?_))))))))))))))
     obtain ⟨g6, pg6, rfl⟩ := hP134
     refine zk (W.reg (zm rfl (zq (Q.bin rfl (zi 1) rfl zp) (za rfl (WO.nil (End.KB (End.KL (W.sub zv (W.sH (SubH.refl _) (ih0 (r + 1) (bi) (li2) (_) (q) (g6) ?_ ?_))))))))))
     ·exact ⟨by omega, by omega, by omega, hl2, pg6⟩
     exact zo
    refine zr (zm rfl (zm rfl (zq (Q.bin rfl rfl rfl (bv_geq le_nat)) (za rfl (zk (W.sub (zc 10 rfl (zc 11 rfl (zc 16 rfl (zc 0 rfl (zc 1 rfl (zc 2 rfl (zc 3 rfl (zc 4 rfl zzn)))))))) (zr (zm rfl (zm rfl (zq (Q.bin rfl (zi 1) rfl zp) (zm rfl (zm rfl (zm rfl (WO.call1 rfl (oLc rfl (oLc rfl (oLc rfl (oLc rfl (oLc rfl oz))))) rfl (i := 0) rfl (ih g5 pg5 (r + 1) bi li2 hl2 zy zy zy) (SubR.s hro) (hs' := _) rfl rfl (fun v146 D146 hP146 => ?_)))))))))))))))
    obtain ⟨g6, pg6, rfl⟩ := hP146
    refine zk (W.reg (zm rfl (za rfl (WO.nil (End.KB (End.KL (W.sub zv (W.sH (SubH.refl _) (ih0 (ai) (r) (li2) (_) (q) (g6) ?_ ?_)))))))))
    ·exact ⟨by omega, by omega, by omega, hl2, pg6⟩
    exact zo
   refine zr (zm rfl (zm rfl (WO.split (d := 69) rfl (fun hc69 => ?_) (fun hc69 => ?_))))
   ·refine WO.gT rfl rfl (zm rfl (zq (Q.pT rfl rfl) (zm rfl (WO.split (d := 72) rfl (fun hc72 => ?_) (fun hc72 => ?_)))))
    ·refine WO.gT rfl rfl (zm rfl (WO.gT rfl rfl (zq (Q.bin rfl (zi 1) rfl (bv_eql eq_nat)) (zq (Q.pT rfl rfl) (zk (W.cD rfl (fun hc75 => ?_) (fun hc75 => ?_)))))))
     ·refine zr (zm rfl (zm rfl (zm rfl (zm rfl (WO.call1 rfl (oLc rfl (oLc rfl (oLc rfl (oLc rfl oz)))) rfl (i := 0) rfl (gpart_spec G B ex hN c F caps hs hro hQ hC g3 pg3 ai bi zy zy zy) (SubR.s hro) (hs' := _) rfl rfl (fun v80 D80 hP80 => ?_))))))
      obtain ⟨g4, pg4, rfl, q, rfl⟩ := hP80
      refine zk (W.condS rfl (fun hc80 => ?_) (fun hc80 => ?_))
      ·refine W.ret ?_
       refine End.Kr (End.Br (End.Lr (End.Br (End.ret ResL.nil (hs' := [⟨B, ⟨1, ex, (g4).map (·.2)⟩, true⟩]) ⟨g4, pg4, rfl⟩ (ww no_wl) (SubH.of_sublist (List.Sublist.cons_cons _ (List.nil_sublist _)))))))
      refine W.skip (End.K (W.sub zv (W.sH (SubH.refl _) (hJ17 (g4) ?_))))
      exact pg4
     refine W.skip (End.K (W.sub zv (W.sH (SubH.refl _) (hJ17 (g3) ?_))))
     exact pg3
    refine zg rfl rfl (zg rfl rfl (zq (Q.pF rfl rfl) (zk (W.condF rfl (W.skip (End.K (W.sub zv (W.sH (SubH.refl _) (hJ17 (g3) ?_)))))))))
    exact pg3
   refine zg rfl rfl (zq (Q.pF rfl rfl) (zm rfl (zg rfl rfl (zg rfl rfl (zq (Q.pF rfl rfl) (zk (W.condF rfl (W.skip (End.K (W.sub zv (W.sH (SubH.refl _) (hJ17 (g3) ?_))))))))))))
   exact pg3
  refine zr (zm rfl (zq (Q.bin rfl (zi 2) rfl (bv_eql eq_nat)) (zk (W.cD rfl (fun hc56 => ?_) (fun hc56 => ?_)))))
  ·refine zr (zm rfl (zm rfl (zm rfl (zm rfl (WO.call1 rfl (oLc rfl (oLc rfl (oLc rfl (oLc rfl oz)))) rfl (i := 0) rfl (grev_spec G B ex hN c F caps hs hro hQ hC g2 pg2 ai bi zy zy zy) (SubR.s hro) (hs' := _) rfl rfl (fun v61 D61 hP61 => ?_))))))
   obtain ⟨g3, pg3, rfl⟩ := hP61
   refine zk (W.sub (zc 13 rfl (zc 0 rfl (zc 1 rfl (zc 2 rfl (zc 3 rfl (zc 4 rfl (zc 10 rfl (zc 11 rfl (zc 12 rfl zzn))))))))) (zr (zm rfl (zq (Q.bin rfl (zi 1) rfl (bv_sub (wns zo))) (zm rfl (zm rfl (zq (Q.bin rfl rfl rfl (bv_sub (wns zo))) (zq (Q.bin rfl rfl rfl (bv_sub (wns zo))) (za rfl (zk (W.reg (za (zi 1) (WO.nil (End.K (W.sub zv (W.sH (SubH.refl _) (hJ15 (bi - 1 - (p - ai)) (1) (g3) ?_)))))))))))))))))
   exact ⟨by omega, by omega, pg3⟩
  refine W.skip (End.K (W.sub zv (W.sH (SubH.refl _) (hJ15 (p) (hh) (g2) ?_))))
  exact ⟨by omega, by omega, pg2⟩
 refine zr (zm rfl (zq (Q.not rfl rfl) (zk (W.condS rfl (fun hc39 => ?_) (fun hc39 => ?_)))))
 ·refine zr (zm rfl (zm rfl (zm rfl (zm rfl (WO.call1 rfl (oLc rfl (oLc rfl (oLc rfl (oLc rfl oz)))) rfl (i := 0) rfl (gbrk_spec G B ex hN c F caps hs hro hQ hC g pg ai bi zy zy zy) (SubR.s hro) (hs' := _) rfl rfl (fun v44 D44 hP44 => ?_))))))
  obtain ⟨g1, pg1, rfl⟩ := hP44
  refine zk (W.sub (zc 12 rfl (zc 0 rfl (zc 1 rfl (zc 2 rfl (zc 3 rfl (zc 4 rfl (zc 10 rfl (zc 11 rfl zzn)))))))) (W.reg (zm rfl (zq (Q.bin rfl (zi 1) rfl (bv_sub (wns zo))) (za rfl (WO.nil (End.K (W.sub zv (W.sH (SubH.refl _) (hJ10 (li - 1) (g1) ?_))))))))))
  exact ⟨by omega, pg1⟩
 refine W.skip (End.K (W.sub zv (W.sH (SubH.refl _) (hJ10 (li) (g) ?_))))
 exact ⟨hl1, pg⟩
theorem gpdq_spec (G : List Ge) (B : Nat) (ex : Bool) (hN : G.length ≤ 256) (c : Ge → Ge → Int) (F : Nat) (caps : List AV) (hs : HSt) (hro : ∀ e ∈ hs, e.w = false) (hQ : ∀ x ∈ G, x.2.isCell = true ∧ x.2.beq x.2 = true) (hC : ∀ x ∈ G, ∀ y ∈ G, Spec tab F ([x.2, y.2] ++ caps) [] hs (Val (.int .i64 (c x y)))) : ∀ (d : Nat) (l : List Ge) (pl : l.Perm G) (a b lim : Nat), lim ≤ 1000 → b - a ≤ d → a ≤ b → b ≤ G.length → Spec tab 99 [.slice B 0 G.length 1, .int .i64 ((a : Nat) : Int), .int .i64 ((b : Nat) : Int), .int .i64 ((lim : Nat) : Int), .func F caps] [B] (⟨B, ⟨1, ex, (l).map (·.2)⟩, true⟩ :: hs) (fun v D => ∃ g : List Ge, g.Perm G ∧ D = [⟨B, ⟨1, ex, (g).map (·.2)⟩, true⟩]) := by
 intro d
 induction d with
 | zero => intro l pl a b lim hm hd hab hb; exact gpdq_step G B ex hN c F caps hs hro hQ hC l pl a b hab hb lim hm fun l' pl' a' b' lim' q0 q1 q2 q3 => by omega
 | succ d ihd => intro l pl a b lim hm hd hab hb; exact gpdq_step G B ex hN c F caps hs hro hQ hC l pl a b hab hb lim hm fun l' pl' a' b' lim' q0 q1 q2 q3 => ihd l' pl' a' b' lim' q0 zy q2 q3
theorem gsrt_spec (G : List Ge) (B : Nat) (ex : Bool) (hN : G.length ≤ 256) (c : Ge → Ge → Int) (F : Nat) (caps : List AV) (hs : HSt) (hro : ∀ e ∈ hs, e.w = false) (hQ : ∀ x ∈ G, x.2.isCell = true ∧ x.2.beq x.2 = true) (hC : ∀ x ∈ G, ∀ y ∈ G, Spec tab F ([x.2, y.2] ++ caps) [] hs (Val (.int .i64 (c x y)))) (l : List Ge) (pl : l.Perm G) : Spec tab 59 [.slice B 0 G.length 1, .func F caps] [B] (⟨B, ⟨1, ex, (l).map (·.2)⟩, true⟩ :: hs) (fun v D => ∃ g : List Ge, g.Perm G ∧ D = [⟨B, ⟨1, ex, (g).map (·.2)⟩, true⟩]) := by
 refine Spec.en (ftg 59 Tryz.func59) rfl (m := 14) rfl (rs := []) rfl (st := [(0, .slice B 0 G.length 1), (1, .func F caps)]) rfl rfl (fun _ => rfl) (fun E => zr (zm rfl (zq (Q.len ud81 rfl rfl) (za rfl (zk (W.reg (zm rfl (zm rfl (zm rfl (zq (Q.convI ud3 ud121 rfl (wru64 zo)) (WO.callE rfl (oLc rfl oz) rfl (lenb_spec G.length zy) SubR.nil rfl (fun v11 hP11 => ?_))))))))))))
 obtain ⟨lim, hlim, rfl⟩ := hP11
 refine zm rfl (WO.call1 rfl (oLc rfl (oLc (zi 0) (oLc rfl (oLc rfl (oLc rfl oz))))) rfl (i := 0) rfl (gpdq_spec G B ex hN c F caps hs hro hQ hC (G.length - 0) l pl 0 G.length lim zy (Nat.le_refl _) (Nat.zero_le _) (Nat.le_refl _)) (SubR.s hro) (hs' := _) rfl rfl (fun v13 D13 hP13 => ?_))
 obtain ⟨g1, pg1, rfl⟩ := hP13
 refine WO.nil ?_
 refine End.fall ResL.nil (hs' := [⟨B, ⟨1, ex, (g1).map (·.2)⟩, true⟩]) ⟨g1, pg1, rfl⟩ (ww no_wl) (SubH.of_sublist (List.Sublist.cons_cons _ (List.nil_sublist _)))
open Classical in
theorem srt_all : SrtOK 256 := by
 intro G v hp hs hro F caps hO hM hQ hC
 rcases id hO with ⟨h1, h2, rfl, rfl⟩ | ⟨b, ex, rfl, rfl, h3, h4⟩
 ·intro h hh
  obtain ⟨v, h', hs', g1, ⟨g2, g3⟩, g4, g5⟩ := gsrt_nil F caps h (hh.sub (SubH.nil _))
  exact ⟨v, h', hs', g1, ⟨G, List.Perm.refl _, by subst g3; exact hO⟩, g4, g5⟩
 ·have hC' : ∃ c : Ge → Ge → Int, ∀ x ∈ G, ∀ y ∈ G, Spec tab F ([x.2, y.2] ++ caps) [] hs (Val (.int .i64 (c x y))) := by
   refine ⟨fun x y => if h : x ∈ G ∧ y ∈ G then (hC x h.1 y h.2).choose else 0, fun x hx y hy => ?_⟩
   simp only [hx, hy, and_self, dite_true]
   exact (hC x hx y hy).choose_spec
  obtain ⟨c, hc⟩ := hC'
  refine (gsrt_spec G b ex hM c F caps hs hro hQ hc G (List.Perm.refl _)).mono fun u D hD => ?_
  obtain ⟨g, pg, rfl⟩ := hD
  refine ⟨g, pg, .inr ⟨b, ex, by rw [pg.length_eq], rfl, ?_, ?_⟩⟩
  ·rw [List.length_map]; omega
  ·rw [pg.length_eq]; exact h4
section
variable {kf : PE → List Nat} {L : List PE} {ks : List (List Nat)}
end
section
variable {op : List Nat} {V W : List El} {L M : List PE} {k : Int}
end
theorem srt_eq {A B : List PE} (hA : Srt A) (hB : Srt B) (h : ∀ x, x ∈ A ↔ x ∈ B) : A = B :=
 (sub_flt hA hB fun x hx => (h x).1 hx).symm.trans (List.filter_eq_self.2 fun x hx => decide_eq_true ((h x).2 hx))
theorem sumG_err : ∀ (L : List Int) (a : Int), fitsB a = true → (∀ n ∈ L, fitsB n = true) → ((sumG a L).2 = 0 ∧ fitsB (sumG a L).1 = true) ∨ (sumG a L).2 = 11
 | [], a, h, _ => .inl ⟨rfl, h⟩
 | n :: l, a, h, g => by
  have hn := g n (by simp)
  by_cases q : fitsB (a + n) = true
  ·have e : fAdd a n = (a + n, 0) := by unfold fAdd fTold; rw [h, hn, q]; rfl
   rw [sumG, e, if_neg (by show ¬ (0 : Int).toNat ≠ 0; decide)]
   exact sumG_err l (a + n) q fun m hm => g m (by simp [hm])
  ·have e : fAdd a n = (0, 11) := by unfold fAdd fTold; rw [h, hn, if_neg q]; rfl
   rw [sumG, e, if_pos (by show (11 : Int).toNat ≠ 0; decide)]
   exact .inr rfl
theorem scaled_err (a b c : Int) : (fScaled a b c).2.toNat = 0 ∨ (fScaled a b c).2.toNat = 11 := by
 unfold fScaled
 split
 ·exact .inl rfl
 ·exact .inr rfl
theorem told_err {op : List Nat} {L : List Int} (hf : ∀ n ∈ L, fitsB n = true) (h1 : 1 ≤ L.length) (h2 : L.length ≤ 256) : (toldM op L).2 = 0 ∨ (toldM op L).2 = 11 := by
 have hs := sumG_err L ((0 : Nat) : Int) (by decide) hf
 unfold toldM
 split
 ·rcases hs with h | h
  ·exact .inl h.1
  ·exact .inr h
 split
 ·unfold meanM
  split
  ·rcases hs with h | h
   ·exact .inl h.1
   ·exact .inr h
  ·rename_i q
   have h : fitsB (sumM L).1 = true := by
    rcases hs with h | h
    ·exact h.2
    ·exact absurd (show (sumM L).2 ≠ 0 by unfold sumM; omega) q
   have e : fScale (sumM L).1 ((1 : Nat) : Int) ((L.length : Nat) : Int) = fScaled (sumM L).1 ((1 : Nat) : Int) ((L.length : Nat) : Int) := by
    unfold fScale
    rw [h, show fitsB ((1 : Nat) : Int) = true by decide, decide_eq_true zy]; rfl
   rw [e]
   exact scaled_err _ _ _
 split
 ·exact .inl rfl
 split
 ·exact .inl rfl
 ·exact .inl rfl
def AggR (op : List Nat) (md : Int) (N : List (List Nat)) (k : Int) (V : List El) (e : Nat) (W : List PE) : Prop :=
 if agB op = true then TellR op md N k V e W else TopR op md N k V e W
section
variable {op : List Nat} {md k : Int} {N : List (List Nat)} {K V X : List El} {e f i j : Nat} {W W' : List PE}
theorem pre_p2 (h : P2 X = P2 V) : aggPre op md k X = aggPre op md k V := by unfold aggPre; rw [vchk_p2 h]
theorem agg_p2 (h : P2 X = P2 V) : AggR op md N k X = AggR op md N k V := by
 funext e W
 unfold AggR TellR TopR
 rw [pre_p2 h, h]
theorem ag_ck (h : aggPre op md k V = none) : vchk V = 0 := by
 by_cases q : vchk V = 0
 ·exact q
 ·rw [ag_1 q] at h; cases h
theorem ag_tk (h : agB op = true) (g : tkB op = true) : False := by
 unfold agB tkB at *
 rw [decide_eq_true_eq] at h g
 rcases g with rfl | rfl <;> revert h <;> decide
theorem p2_range : P2 V = (List.range V.length).map fun j => (eg V j).2 := by
 apply List.ext_getElem?
 intro i
 by_cases hi : i < V.length
 ·rw [p2_eg hi, List.getElem?_map, List.getElem?_range hi]; rfl
 ·rw [List.getElem?_eq_none (by rw [p2_ln]; omega), List.getElem?_eq_none (by simp; omega)]
theorem p2_flr (p : PE → Bool) : (P2 V).filter p = ((List.range V.length).filter fun j => p (eg V j).2).map fun j => (eg V j).2 := by
 rw [p2_range, List.filter_map]; rfl
theorem kat (h : K.map (·.2.1) = V.map (fun x => aggKey md N x.2.1)) (hj : j < V.length) : (eg K j).2.1 = aggKey md N (eg V j).2.1 := by
 have hk : K.length = V.length := by have := congrArg List.length h; rwa [List.length_map, List.length_map] at this
 have h1 := congrArg (fun l => l[j]?) h
 simp only [List.getElem?_map] at h1
 rw [List.getElem?_eq_getElem hj, List.getElem?_eq_getElem (show j < K.length by omega)] at h1
 unfold eg
 rw [List.getD_eq_getElem?_getD, List.getD_eq_getElem?_getD, List.getElem?_eq_getElem hj, List.getElem?_eq_getElem (show j < K.length by omega)]
 exact Option.some.inj h1
theorem key_iff (hB : EBd V) (hck : vchk V = 0) (h : K.map (·.2.1) = V.map (fun x => aggKey md N x.2.1)) (hi : i < V.length) (hj : j < V.length) : ((eg K i).2.1 = (eg K j).2.1) ↔ prM (aggKey md N (eg V i).2.1) = prM (aggKey md N (eg V j).2.1) := by
 rw [kat h hi, kat h hj]
 constructor
 ·exact congrArg prM
 ·refine pr_inj (fun x hx => ?_) (fun x hx => ?_)
  ·exact ((ak_key (vchk_key hB hck hi) md N).2 x hx).2.2.2.2
  ·exact ((ak_key (vchk_key hB hck hj) md N).2 x hx).2.2.2.2
theorem nl_vl (hB : EBd V) (hck : vchk V = 0) (h : K.map (·.2.1) = V.map (fun x => aggKey md N x.2.1)) (hj : j < V.length) : toldM op (nlL K V (eg K j).2.1) = vlA op md N (P2 V) (eg V j).2 := by
 unfold vlA nlL nlN
 rw [p2_flr, List.map_map]
 congr 2
 refine List.filter_congr fun i hi => ?_
 exact decide_eq_decide.2 (key_iff hB hck h (List.mem_range.1 hi) hj)
theorem srt_lt (hS : Srt (P2 V)) (hi : i < V.length) (hj : j < V.length) : cmpL (eg V i).2.1 (eg V j).2.1 < 0 ↔ i < j := by
 have hp : ∀ a b, a < b → b < V.length → cmpL (eg V a).2.1 (eg V b).2.1 < 0 := by
  intro a b hab hb
  have := List.pairwise_iff_getElem.1 hS a b (by rw [p2_ln]; omega) (by rw [p2_ln]; omega) hab
  have ea : (P2 V)[a]'(by rw [p2_ln]; omega) = (eg V a).2 := Option.some.inj ((List.getElem?_eq_getElem _).symm.trans (p2_eg zy))
  have eb : (P2 V)[b]'(by rw [p2_ln]; omega) = (eg V b).2 := Option.some.inj ((List.getElem?_eq_getElem _).symm.trans (p2_eg hb))
  rw [ea, eb] at this
  exact this
 constructor
 ·intro h
  rcases Nat.lt_trichotomy i j with q | q | q
  ·exact q
  ·subst q; rw [cmpL_self] at h; omega
  ·have h2 := hp j i q hi
   rw [cmpL_swap] at h2; omega
 ·intro h; exact hp i j h hj
theorem ah_bef (hS : Srt (P2 V)) (hop : tkB op = true) (hB : EBd V) (hck : vchk V = 0) (h : K.map (·.2.1) = V.map (fun x => aggKey md N x.2.1)) (hi : i < V.length) (hj : j < V.length) :
  (befP op (eg V i).2 (eg V j).2 && decide (prM (aggKey md N (eg V i).2.1) = prM (aggKey md N (eg V j).2.1))) = ahB op K V j i := by
 have hk := key_iff hB hck h hj hi
 have hl := srt_lt hS hi hj
 unfold tkB at hop
 rw [decide_eq_true_eq] at hop
 unfold befP ahB betB
 rw [Bool.eq_iff_iff]
 rcases hop with rfl | rfl
 ·rw [if_pos rfl, if_neg (by decide)]
  simp only [Bool.and_eq_true, Bool.or_eq_true, Bool.not_eq_true', decide_eq_true_eq, decide_eq_false_iff_not, hl, hk]
  constructor
  ·rintro ⟨q, r⟩
   refine ⟨⟨r.symm, fun c => ?_⟩, q⟩
   subst c
   omega
  ·rintro ⟨⟨r, _⟩, q⟩
   exact ⟨q, r.symm⟩
 ·rw [if_neg (by decide), if_pos rfl]
  simp only [Bool.and_eq_true, Bool.or_eq_true, Bool.not_eq_true', decide_eq_true_eq, decide_eq_false_iff_not, hl, hk]
  constructor
  ·rintro ⟨q, r⟩
   refine ⟨⟨r.symm, fun c => ?_⟩, q⟩
   subst c
   omega
  ·rintro ⟨⟨r, _⟩, q⟩
   exact ⟨q, r.symm⟩
theorem st_top (hS : Srt (P2 V)) (hop : tkB op = true) (hB : EBd V) (hck : vchk V = 0) (h : K.map (·.2.1) = V.map (fun x => aggKey md N x.2.1)) : stL op K V k V.length = topL op k (fun x : PE => prM (aggKey md N x.1)) (P2 V) := by
 unfold stL topL
 rw [p2_flr (fun x => stP op k ((P2 V).filter fun y => decide (prM (aggKey md N y.1) = prM (aggKey md N x.1))) x)]
 congr 1
 refine List.filter_congr fun j hj => ?_
 unfold stP cA
 rw [List.filter_filter, p2_flr, List.length_map]
 congr 4
 refine List.filter_congr fun i hi => ?_
 exact (ah_bef hS hop hB hck h (List.mem_range.1 hi) (List.mem_range.1 hj)).symm
theorem top_law2 (hB : EBd V) (hg : agB op = false) (h : TopR op md N k V e W) (g : RAggR op md N k V f W') : e = f ∧ W = W' := by
 rcases h with ⟨a, rfl⟩ | ⟨a, b⟩
 ·rcases g with ⟨c, rfl⟩ | ⟨c, _⟩
  ·rw [a] at c; exact ⟨Option.some.inj c, rfl⟩
  ·rw [a] at c; cases c
 ·rcases g with ⟨c, rfl⟩ | ⟨c, ⟨ht, rfl, K, hK, rfl⟩ | ⟨ht, _⟩⟩
  ·rw [a] at c; cases c
  ·have hck := ag_ck a
   have hS := vchk_srt hck
   rw [st_top hS ht hB hck hK]
   exact ord_one (srt_filter hS _) (List.Perm.refl _) b
  ·rw [hg] at ht; cases ht
theorem tell_law (hB : EBd V) (hg : agB op = true) (h : TellR op md N k V e W) (g : RAggR op md N k V f W') : e = f ∧ W = W' := by
 rcases h with ⟨a, rfl⟩ | ⟨a, b⟩
 ·rcases g with ⟨c, rfl⟩ | ⟨c, _⟩
  ·rw [a] at c; exact ⟨Option.some.inj c, rfl⟩
  ·rw [a] at c; cases c
 ·rcases g with ⟨c, rfl⟩ | ⟨c, ⟨ht, _⟩ | ⟨_, K, hK, g⟩⟩
  ·rw [a] at c; cases c
  ·exact (ag_tk hg ht).elim
  have hck := ag_ck a
  have hVl := vchk_len hck
  have hat : ∀ x ∈ P2 V, ∃ j, j < V.length ∧ x = (eg V j).2 := by
   intro x hx
   obtain ⟨j, hj⟩ := List.getElem?_of_mem hx
   have hjl : j < V.length := by have := (List.getElem?_eq_some_iff.1 hj).1; rwa [p2_ln] at this
   rw [p2_eg hjl] at hj
   exact ⟨j, hjl, (Option.some.inj hj).symm⟩
  have hin : ∀ j, j < V.length → (eg V j).2 ∈ P2 V := fun j hj => List.mem_of_getElem? (p2_eg hj)
  have he : ∀ j, j < V.length → (vlA op md N (P2 V) (eg V j).2).2 = 0 ∨ (vlA op md N (P2 V) (eg V j).2).2 = 11 := by
   intro j hj
   rw [← nl_vl hB hck hK hj]
   refine told_err (fun n hn => ?_) (nl_pos hj rfl) (Nat.le_trans nl_le hVl)
   obtain ⟨q, hq, rfl⟩ := List.mem_map.1 hn
   have hf := vchk_fit hck (List.mem_range.1 (List.mem_filter.1 hq).1)
   unfold fitB at hf
   unfold fitsB
   simp only [Bool.and_eq_true, decide_eq_true_eq] at hf ⊢
   exact hf
  have hKv : ∀ j, j < V.length → toldM op (nlL K V (eg K j).2.1) = vlA op md N (P2 V) (eg V j).2 := fun j hj => nl_vl hB hck hK hj
  rcases b with ⟨⟨x, hx, h1, h2⟩, rfl⟩ | ⟨h1, rfl, h3, h4⟩
  ·obtain ⟨j, hj, rfl⟩ := hat x hx
   rcases g with ⟨⟨i, hi, g1, g2⟩, rfl⟩ | ⟨g1, _, _, _⟩
   ·rw [hKv i hi] at g1 g2
    have := he i hi
    have := he j hj
    exact ⟨by omega, rfl⟩
   ·have := g1 j hj
    rw [hKv j hj] at this
    exact absurd this h1
  ·rcases g with ⟨⟨i, hi, g1, g2⟩, rfl⟩ | ⟨g1, rfl, g3, g4⟩
   ·rw [hKv i hi] at g1
    exact absurd (h1 _ (hin i hi)) g1
   ·refine ⟨rfl, srt_eq h3 g3 fun p => ?_⟩
    rw [h4, g4]
    constructor
    ·rintro ⟨x, hx, rfl⟩
     obtain ⟨j, hj, rfl⟩ := hat x hx
     exact ⟨j, hj, by rw [hKv j hj, kat hK hj]⟩
    ·rintro ⟨j, hj, rfl⟩
     exact ⟨_, hin j hj, by rw [hKv j hj, kat hK hj]⟩
theorem agg_law (hB : EBd V) (h : AggR op md N k V e W) (g : RAggR op md N k V f W') : W = W' ∧ e = f := by
 unfold AggR at h
 split at h
 ·exact (tell_law hB ‹_› h g).symm
 ·exact (top_law2 hB (by simpa using ‹¬ agB op = true›) h g).symm
end
theorem agg_all (hs : HSt) (hro : ∀ e ∈ hs, e.w = false) (V : List El) (v : AV) (hV : EIn hs V v) (hB : EBd V) (op : List Nat) (ho : Bytes op) (md k : Int) (N : List (List Nat)) (vn : AV) (hN : SIn hs N vn) (hNb : SBd N) :
  Spec tab 19 [.str op, .int .i64 md, vn, .int .i64 k, v] [] hs (fun u D => ∃ (e : Nat) (W : List El) (w : AV), AggR op md N k V e (P2 W) ∧ VOwn W w D ∧ u = .tuple [w, .int .i64 (e : Nat)]) := by
 have hM : vchk V = 0 → 0 ≤ md → md ≤ 2 → ∀ G : List Ge, GInv (fun x : PE => prM (aggKey md N x.1)) V G → G.length ≤ V.length → G.length ≤ 256 := fun hc _ _ G _ hl => Nat.le_trans hl (vchk_len hc)
 by_cases h : agB op = true
 ·refine (agg_tell hs hro V v hV hB op ho md k N vn hN hNb 256 srt_all hM h).mono fun u D ⟨e, W, w, h1, h2, h3⟩ => ⟨e, W, w, ?_, h2, h3⟩
  unfold AggR; rw [if_pos h]; exact h1
 ·refine (agg_top hs hro V v hV hB op ho md k N vn hN hNb 256 srt_all hM (by simpa using h)).mono fun u D ⟨e, W, w, h1, h2, h3⟩ => ⟨e, W, w, ?_, h2, h3⟩
  unfold AggR; rw [if_neg h]; exact h1
theorem src_sin {hs : HSt} {N : List (List Nat)} {v : AV} (h : SIn hs N v) : Src hs 1 v N.length (N.map AV.str) := by
 rcases h with ⟨rfl, rfl⟩ | ⟨b, sz, ex, rfl, hm⟩
 ·exact Src.nils
 ·exact Src.all hm (by show (N.map AV.str).length = _; simp)
theorem sin_own {A hp : HSt} {N : List (List Nat)} {v : AV} {n : Nat} (h : OwnE 1 ([] ++ N.map AV.str) n v hp) : SIn (ro (A ++ hp)) N v := by
 have hn : n = N.length := by have := h.length; simpa using this.symm
 subst hn
 rcases h with ⟨h1, _, h2, _⟩ | ⟨b, ex, h1, rfl, _⟩
 ·exact .inl ⟨h2, List.length_eq_zero_iff.1 h1⟩
 ·exact .inr ⟨b, 1, ex, h1, ⟨false, by simp [ro]⟩⟩

theorem law_groups (hs : HSt) (hro : ∀ e ∈ hs, e.w = false) (V : List El) (v : AV) (hV : EIn hs V v) (hB : EBd V) (op : List Nat) (ho : Bytes op) (md k : Int) (N : List (List Nat)) (vn : AV) (hN : SIn hs N vn) (hNb : SBd N) : Spec tab 4 [.str op, .int .i64 md, vn, .int .i64 k, v] [] hs (Val (.bool true)) := by
 refine Spec.en (ftg 4 Tryz.func4) rfl (m := 55) rfl (rs := [.tmp 10]) rfl (st := [(0, .str op), (1, .int .i64 md), (2, vn), (3, .int .i64 k), (4, v)]) rfl rfl (fun _ => rfl) (fun E => zr (za rfl (zk (zr (zm rfl (WO.call0 rfl (oLc rfl oz) rfl (own_spec hs hro V v hV hB) (SubR.s hro) rfl (fun v17 D17 hP17 => ?_)))))))
 obtain ⟨X, hX2, hO17⟩ := hP17
 have hI17 := VOwn.ein hO17
 have hXB := VOwn.ebd hO17
 have hck : vchk X = vchk V := vchk_p2 hX2
 refine WO.subH (hs' := (hs ++ D17)) (SubH.op (perm_tail (N := []) (G := D17) (K := []) (X := hs))) (za rfl (zk (zr (zm rfl (zm rfl (WO.bslice ud40 sz9 zr9 rfl opn rfl (cs := []) rfl rfl rfl (fun b1 => zm rfl (WO.appAny (A := _) ap40_40 (OwnE.cons rfl) rfl rfl (Src.mono (fun e he => ⟨e.w, by obtain ⟨b, o, w⟩ := e; simp [he]⟩) (src_sin hN)) (by simp) (by have := hNb.1; omega) (by decide) (SubH.op (List.perm_append_singleton _ _)) rfl (fun v23 hp23 hO23 => zm rfl (zm rfl (WO.call0 rfl (oLc rfl (oLc rfl (oLc rfl (oLc rfl (oLc rfl oz))))) rfl (agg_all (ro (D17 ++ hp23)) ro_w X _ (hI17.mono fun b o h => MemH.ro_l h) hXB op ho md k N _ (sin_own hO23) hNb) (SubR.ro gc) rfl (fun v26 D26 hP26 => ?_))))))))))))
 obtain ⟨e26, W26, w26, hR26, hO26, rfl⟩ := hP26
 refine WO.subH (hs' := (hs ++ D17 ++ hp23 ++ D26)) (SubH.op (perm_tail (N := []) (G := D26) (K := []) (X := hs ++ D17 ++ hp23))) (zm rfl (zq (Q.extract rfl rfl) (zq (Q.extract rfl rfl) (za rfl (za rfl (zk (W.sub (zc 13 rfl (zc 12 rfl (zc 11 rfl (zc 0 rfl (zc 1 rfl (zc 2 rfl (zc 3 rfl (zc 4 rfl zzn)))))))) (zr (zm rfl (zm rfl (zm rfl (zm rfl (zm rfl (WO.call0 rfl (oLc rfl (oLc rfl (oLc rfl (oLc rfl (oLc rfl oz))))) rfl (ragg_spec hs hro V v hV hB op ho md k N vn hN hNb) (SubR.appl (SubR.appl (SubR.appl (SubR.s hro)))) rfl (fun v35 D35 hP35 => ?_)))))))))))))))
 obtain ⟨e35, W35, w35, hR35, hO35, rfl⟩ := hP35
 obtain ⟨hWW, hee⟩ := agg_law hB (agg_p2 hX2 ▸ hR26) hR35
 refine WO.subH (hs' := (hs ++ D17 ++ hp23 ++ D26 ++ D35)) (SubH.op (perm_tail (N := []) (G := D35) (K := []) (X := hs ++ D17 ++ hp23 ++ D26))) (zm rfl (zq (Q.extract rfl rfl) (zq (Q.extract rfl rfl) (za rfl (za rfl (zk (W.seq (zr (zm rfl (zm rfl (WO.cV rfl (oLc rfl (oLc rfl oz)) rfl (vsame_spec (ro (D26 ++ D35) ++ hs) (ro_app hro) W26 W35 _ _ (hO26.ein.mono fun b o h => (MemH.ro_l h).appl) (hO35.ein.mono fun b o h => MemH.mixd2 h) hO26.ebd hO35.ebd) (SubR.mix gc hro) rfl (zq (Q.not rfl not_dec) (zm rfl (WO.sD (d := 42) rfl (fun hc42 => ?_) (fun hc42 => ?_)))))))))))))))
 ·exact absurd hWW (by simpa using hc42)
 refine WO.gT rfl rfl (zm rfl (WO.gT rfl rfl (zm rfl (WO.gT rfl rfl (zq (Q.bin rfl rfl rfl (bv_neq ne_nat)) (zq (Q.pF rfl rfl) (zk (W.sub (zc 46 rfl (zc 12 rfl (zc 11 rfl (zc 4 rfl zzn)))) (W.cD rfl (fun hc46 => ?_) (fun hc46 => ?_))))))))))
 ·exact absurd hee (by simpa using hc46)
 refine zw (zr (zm rfl (WO.callS (M := D26) (A := (hs ++ D17 ++ hp23 ++ D35)) rfl (oLc rfl oz) rfl hO26.w gc (spl_spec W26 w26 D26 hO26) SubR.nil rfl (fun v48 D48 hP48 => ?_))))
 obtain ⟨rfl, rfl⟩ := hP48
 refine WO.subH (hs' := (hs ++ D17 ++ hp23 ++ D35)) (SubH.refl _) (zk (zr (zm rfl (zm rfl (WO.cV rfl (oLc rfl (oLc rfl oz)) rfl (vsame_spec (ro D17 ++ hs) (ro_app hro) X V _ _ (hI17.mono fun b o h => h.appl) (hV.mono fun b o h => h.app) hXB hB) (SubR.mix gc hro) rfl (zm rfl (WO.sD (d := 52) rfl (fun hc52 => ?_) (fun hc52 => ?_))))))))
 ·refine WO.gT rfl rfl (WO.cV rfl oz rfl (Spec.known (fun _ => rfl)) SubR.nil rfl (zq (Q.pT rfl rfl) (za rfl (zk (W.ret (End.rV (z1 rfl) ?_))))))
  rfl
 exact absurd hX2 (by simpa using hc52)
set_option maxRecDepth 1000000
noncomputable def tabP : Tab := tabOf Tryz.prog
theorem tabP_is (J : Ctx) : TabOK Tryz.prog tabP J := tab_ok (by kernel_rfl) (by kernel_rfl)
theorem lives_ev : givesQ (callQ tabP (qFns tabP Tryz.prog.funcs.toList) 3000 300 18 [] ⟨0, .leaf⟩) (.bool true) = true := by kernel_rfl
theorem lives_any (w : World) : Calls Tryz.prog 18 #[] w fun e w' => e = .returned (.bool true) ∧ Below w.heap.size w w' :=
 quick_call (l := []) (tabP_is _) (qFns_ok tabP _ rfl) (v := .bool true) rfl lives_ev (.nil _) w
end Go.Proofs.YtmblgaehfjheeaaGreat.Ev
