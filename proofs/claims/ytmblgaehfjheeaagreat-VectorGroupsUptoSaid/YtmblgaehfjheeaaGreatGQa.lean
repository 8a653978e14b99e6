/- The standard library's sort of groups, walks: insertion, heap, turning round. -/
import Derived.Test.YtmblgaehfjheeaaGreatGZt
import Derived.Test.YtmblgaehfjheeaaGreatGYm
namespace Go.Proofs.YtmblgaehfjheeaaGreat.Ev
open Go.RowKit
set_option linter.unusedVariables false
set_option linter.unusedSimpArgs false
set_option maxRecDepth 100000
set_option maxHeartbeats 1000000
def ge (l : List Ge) (i : Nat) : Ge := l.getD i (([], []), .nils)
def swp (l : List Ge) (i j : Nat) : List Ge := (l.set i (ge l j)).set j (ge l i)
section
variable {l G : List Ge} {i j : Nat}
theorem ge_at (h : i < l.length) : l[i]? = some (ge l i) := by
 unfold ge
 rw [List.getD_eq_getElem?_getD, List.getElem?_eq_getElem h]; rfl
theorem gmem (p : l.Perm G) (h : i < G.length) : ge l i ∈ G := p.mem_iff.1 (List.mem_of_getElem? (ge_at (by rw [p.length_eq]; exact h)))
theorem gq (hQ : ∀ x ∈ G, x.2.isCell = true ∧ x.2.beq x.2 = true) (p : l.Perm G) (h : i < G.length) : (ge l i).2.isCell = true ∧ (ge l i).2.beq (ge l i).2 = true := hQ _ (gmem p h)
theorem gread (p : l.Perm G) (h : i < G.length) : (l.map (·.2))[(0 + i) * 1]? = some (ge l i).2 := by
 rw [Nat.zero_add, Nat.mul_one, List.getElem?_map, ge_at (by rw [p.length_eq]; exact h)]; rfl
theorem swp_pm (p : l.Perm G) (h : i < G.length) (g : j < G.length) : (swp l i j).Perm G := by
 have hi : i < l.length := by rw [p.length_eq]; exact h
 have hj : j < l.length := by rw [p.length_eq]; exact g
 have e1 : ge l i = l[i] := Option.some.inj ((ge_at hi).symm.trans (List.getElem?_eq_getElem hi))
 have e2 : ge l j = l[j] := Option.some.inj ((ge_at hj).symm.trans (List.getElem?_eq_getElem hj))
 unfold swp
 rw [e1, e2]
 exact (List.set_set_perm hi hj).trans p
theorem qn {m d : Nat} (hd : (d : Int) ≠ 0) (hm : m ≤ 1048576) : IntKind.i64.wrap (((m : Nat) : Int).tdiv ((d : Nat) : Int)) = ((m / d : Nat) : Int) := by
 have e : ((m : Nat) : Int).tdiv ((d : Nat) : Int) = ((m / d : Nat) : Int) := rfl
 rw [e]
 have := Nat.div_le_self m d
 generalize m / d = q at *
 exact wr64 zy
end

theorem gins_spec (G : List Ge) (B : Nat) (ex : Bool) (hN : G.length ≤ 256) (c : Ge → Ge → Int) (F : Nat) (caps : List AV) (hs : HSt) (hro : ∀ e ∈ hs, e.w = false) (hQ : ∀ x ∈ G, x.2.isCell = true ∧ x.2.beq x.2 = true) (hC : ∀ x ∈ G, ∀ y ∈ G, Spec tab F ([x.2, y.2] ++ caps) [] hs (Val (.int .i64 (c x y)))) (l : List Ge) (pl : l.Perm G) (a b : Nat) (hab : a ≤ b) (hb : b ≤ G.length) : Spec tab 131 [.slice B 0 G.length 1, .int .i64 ((a : Nat) : Int), .int .i64 ((b : Nat) : Int), .func F caps] [B] (⟨B, ⟨1, ex, (l).map (·.2)⟩, true⟩ :: hs) (fun v D => ∃ g : List Ge, g.Perm G ∧ D = [⟨B, ⟨1, ex, (g).map (·.2)⟩, true⟩]) := by
 refine Spec.en (ftg 131 Tryz.func131) rfl (m := 53) rfl (rs := []) rfl (st := [(0, .slice B 0 G.length 1), (1, .int .i64 ((a : Nat) : Int)), (2, .int .i64 ((b : Nat) : Int)), (3, .func F caps)]) rfl rfl (fun _ => rfl) (fun E => zr (zm rfl (zq (Q.bin rfl (zi 1) rfl zp) (za rfl (zk (W.block (W.loop_ind2 (fun (i : Nat) (g : List Ge) => [(0, .slice B 0 G.length 1), (1, .int .i64 ((a : Nat) : Int)), (2, .int .i64 ((b : Nat) : Int)), (3, .func F caps), (8, .int .i64 ((i : Nat) : Int))]) (fun (i : Nat) (g : List Ge) => (⟨B, ⟨1, ex, (g).map (·.2)⟩, true⟩ :: hs)) (fun (i : Nat) (g : List Ge) => a + 1 ≤ i ∧ (i ≤ b ∨ i = a + 1) ∧ g.Perm G) (fun (i : Nat) (g : List Ge) => b - i) (a + 1) (l) ⟨Nat.le_refl _, .inr rfl, pl⟩ zv (SubH.refl _) (fun i g hI0 ih0 => ?_))))))))
 obtain ⟨h1, h2, pg⟩ := hI0
 refine W.seq (zr (zm rfl (zm rfl (zq (Q.bin rfl rfl rfl (bvl ltn)) (zk (W.cD rfl (fun hc14 => ?_) (fun hc14 => ?_)))))))
 ·refine zw (W.seq (W.block (zr (zm rfl (za rfl (zk (W.block (W.loop_ind2 (fun (j : Nat) (h : List Ge) => [(0, .slice B 0 G.length 1), (1, .int .i64 ((a : Nat) : Int)), (2, .int .i64 ((b : Nat) : Int)), (3, .func F caps), (8, .int .i64 ((i : Nat) : Int)), (9, .int .i64 ((j : Nat) : Int))]) (fun (j : Nat) (h : List Ge) => (⟨B, ⟨1, ex, (h).map (·.2)⟩, true⟩ :: hs)) (fun (j : Nat) (h : List Ge) => a ≤ j ∧ j ≤ i ∧ h.Perm G) (fun (j : Nat) (h : List Ge) => j) (i) (g) ⟨by omega, Nat.le_refl _, pg⟩ zv (SubH.refl _) (fun j h hI1 ih1 => ?_)))))))))
  obtain ⟨h3, h4, ph⟩ := hI1
  refine W.seq (W.seq (W.regT (by kernel_rfl) (zm rfl (zm rfl (zq (Q.bin rfl rfl rfl (bv_gtr ltn)) (zm rfl (WO.sD (d := 21) rfl (fun hc21 => ?_) (fun hc21 => ?_))))))))
  ·refine WO.gT rfl rfl (zm rfl (WO.gT rfl rfl (zm rfl (WO.gT rfl rfl (zm rfl (WO.gT rfl rfl (zq (Q.iS ud81 sz22 rfl rfl zo) (WO.gT rfl rfl (zq (Q.l1 rfl (zt 0 rfl) ag22 (gread ph zo)) (WO.gT rfl rfl (zm rfl (WO.gT rfl rfl (zm rfl (WO.gT rfl rfl (zq (Q.bin rfl (zi 1) rfl (bv_sub (wns zo))) (WO.gT rfl rfl (zq (Q.iS ud81 sz22 rfl rfl zo) (WO.gT rfl rfl (zq (Q.l1 rfl (zt 0 rfl) ag22 (gread ph zo)) (WO.gT rfl rfl (WO.cV rfl (oLc rfl (oLc rfl oz)) rfl (hC _ (gmem ph zy) _ (gmem ph zy)) (SubR.t (SubR.s hro)) rfl (WO.gT rfl rfl (zq (Q.bin rfl (zi 0) rfl (bvl (ltA_eq _ _))) ?_)))))))))))))))))))))))
   refine zq (Q.pT rfl rfl) (zk (W.sub (zc 34 rfl (zc 0 rfl (zc 1 rfl (zc 2 rfl (zc 3 rfl (zc 8 rfl (zc 9 rfl zzn))))))) (W.cD rfl (fun hc34 => ?_) (fun hc34 => ?_))))
   ·refine zw (W.seq (W.block (W.regX (by kernel_rfl) (WX.f (Q.move rfl) bqs rfl (WX.f (Q.move rfl) bqi rfl (WX.f (Q.move rfl) bqs rfl (WX.f (Q.move rfl) bqi rfl (WX.f (Q.bin rfl (zi 1) rfl (bv_sub (wns zo))) bqi rfl (WX.f (Q.move rfl) bqs rfl (WX.f (Q.move rfl) bqi rfl (WX.f (Q.bin rfl (zi 1) rfl (bv_sub (wns zo))) bqi rfl (WX.f (Q.iS ud81 sz22 rfl rfl zo) bqp rfl (WX.q (by kernel_rfl) (Q.l1 rfl (zt 0 rfl) ag22 (gread ph zo)) (gq hQ ph zo).2 rfl (WX.f (Q.move rfl) bqs rfl (WX.f (Q.move rfl) bqi rfl (WX.f (Q.iS ud81 sz22 rfl rfl zo) bqp rfl (WX.q (by kernel_rfl) (Q.l1 rfl (zt 0 rfl) ag22 (gread ph zo)) (gq hQ ph zo).2 rfl (WX.f (Q.iS ud81 sz22 rfl rfl zo) bqp rfl (WX.store sz22 rfl rfl (j := 0) rfl (ck1 (gq (i := j - 1) hQ ph zy).1 (gset_le (by rw [(ph).length_eq]; omega))) (gset_lay (k := (ge (h) (j - 1)).1) (by rw [(ph).length_eq]; omega) (gq (i := j - 1) hQ ph zy).1) (hs' := _ :: _) rfl (WX.f (Q.iS ud81 sz22 rfl rfl zo) bqp rfl (WX.store sz22 rfl rfl (j := 0) rfl (ck1 (gq (i := j) hQ ph zy).1 (gset_le (by rw [List.length_set, (ph).length_eq]; omega))) (gset_lay (k := (ge (h) (j)).1) (by rw [List.length_set, (ph).length_eq]; omega) (gq (i := j) hQ ph zy).1) (hs' := _ :: _) rfl (WX.nil (End.KB (End.K ?_))))))))))))))))))))))))
    refine W.sub (zc 0 rfl (zc 1 rfl (zc 2 rfl (zc 3 rfl (zc 8 rfl (zc 9 rfl zzn)))))) (W.reg (zm rfl (zq (Q.bin rfl (zi 1) rfl (bv_sub (wns zo))) (za rfl (WO.nil (End.KL (W.sub zv (W.sH (SubH.refl _) (ih1 (j - 1) (swp (h) (j) (j - 1)) ?_ ?_)))))))))
    ·exact ⟨by omega, by omega, swp_pm ph zy zy⟩
    exact zo
   refine W.exit (End.Kx (End.Lx (End.Bh (End.KB (End.K (W.reg (zm rfl (zq (Q.bin rfl (zi 1) rfl zp) (za rfl (WO.nil (End.KL (W.sub zv (W.sH (SubH.refl _) (ih0 (i + 1) (h) ?_ ?_))))))))))))))
   ·exact ⟨by omega, by omega, ph⟩
   exact zo
  refine zg rfl rfl (zg rfl rfl (zg rfl rfl (zg rfl rfl (zg rfl rfl (zg rfl rfl (zg rfl rfl (zg rfl rfl (zg rfl rfl (zg rfl rfl (zg rfl rfl (zg rfl rfl (zq (Q.pF rfl rfl) (zk (W.sub (zc 34 rfl (zc 0 rfl (zc 1 rfl (zc 2 rfl (zc 3 rfl (zc 8 rfl (zc 9 rfl zzn))))))) (W.condF rfl (W.exit (End.Kx (End.Lx (End.Bh (End.KB (End.K (W.reg (zm rfl (zq (Q.bin rfl (zi 1) rfl zp) (za rfl (WO.nil (End.KL ?_)))))))))))))))))))))))))))
  refine W.sub zv (W.sH (SubH.refl _) (ih0 (i + 1) (h) ?_ ?_))
  ·exact ⟨by omega, by omega, ph⟩
  exact zo
 refine W.exit ?_
 refine End.Kx (End.Lx (End.Bh (End.fall ResL.nil (hs' := [⟨B, ⟨1, ex, (g).map (·.2)⟩, true⟩]) ⟨g, pg, rfl⟩ (ww no_wl) (SubH.of_sublist (List.Sublist.cons_cons _ (List.nil_sublist _))))))

theorem gsift_spec (G : List Ge) (B : Nat) (ex : Bool) (hN : G.length ≤ 256) (c : Ge → Ge → Int) (F : Nat) (caps : List AV) (hs : HSt) (hro : ∀ e ∈ hs, e.w = false) (hQ : ∀ x ∈ G, x.2.isCell = true ∧ x.2.beq x.2 = true) (hC : ∀ x ∈ G, ∀ y ∈ G, Spec tab F ([x.2, y.2] ++ caps) [] hs (Val (.int .i64 (c x y)))) (l : List Ge) (pl : l.Perm G) (lo hi fst : Nat) (hlo : lo ≤ 256) (hh : fst + hi ≤ G.length) : Spec tab 152 [.slice B 0 G.length 1, .int .i64 ((lo : Nat) : Int), .int .i64 ((hi : Nat) : Int), .int .i64 ((fst : Nat) : Int), .func F caps] [B] (⟨B, ⟨1, ex, (l).map (·.2)⟩, true⟩ :: hs) (fun v D => ∃ g : List Ge, g.Perm G ∧ D = [⟨B, ⟨1, ex, (g).map (·.2)⟩, true⟩]) := by
 refine Spec.en (ftg 152 Tryz.func152) rfl (m := 82) rfl (rs := []) rfl (st := [(0, .slice B 0 G.length 1), (1, .int .i64 ((lo : Nat) : Int)), (2, .int .i64 ((hi : Nat) : Int)), (3, .int .i64 ((fst : Nat) : Int)), (4, .func F caps)]) rfl rfl (fun _ => rfl) (fun E => zr (zm rfl (za rfl (zk (W.block (W.loop_ind2 (fun (r : Nat) (g : List Ge) => [(0, .slice B 0 G.length 1), (2, .int .i64 ((hi : Nat) : Int)), (3, .int .i64 ((fst : Nat) : Int)), (4, .func F caps), (10, .int .i64 ((r : Nat) : Int))]) (fun (r : Nat) (g : List Ge) => (⟨B, ⟨1, ex, (g).map (·.2)⟩, true⟩ :: hs)) (fun (r : Nat) (g : List Ge) => r ≤ 256 ∧ g.Perm G) (fun (r : Nat) (g : List Ge) => hi - r) (lo) (l) ⟨hlo, pl⟩ zv (SubH.refl _) (fun r g hI0 ih0 => ?_)))))))
 obtain ⟨h1, pg⟩ := hI0
 refine W.block (zr (zm rfl (zq (Q.bin (zi 2) rfl rfl (bv_mul (wn_mul zo))) (zq (Q.bin rfl (zi 1) rfl zp) (za rfl (zk (W.seq (zr (zm rfl (zm rfl (zq (Q.bin rfl rfl rfl (bv_geq le_nat)) (zk (W.cD rfl (fun hc18 => ?_) (fun hc18 => ?_))))))))))))))
 ·refine W.exit ?_
  refine End.Kx (End.KB_miss rfl (End.Lx (End.Bh (End.fall ResL.nil (hs' := [⟨B, ⟨1, ex, (g).map (·.2)⟩, true⟩]) ⟨g, pg, rfl⟩ (ww no_wl) (SubH.of_sublist (List.Sublist.cons_cons _ (List.nil_sublist _)))))))
 refine zw (W.seqJ1 (fun (ch : Nat) => [(0, .slice B 0 G.length 1), (2, .int .i64 ((hi : Nat) : Int)), (3, .int .i64 ((fst : Nat) : Int)), (4, .func F caps), (10, .int .i64 ((r : Nat) : Int)), (11, .int .i64 ((ch : Nat) : Int))]) (fun (ch : Nat) => (⟨B, ⟨1, ex, (g).map (·.2)⟩, true⟩ :: hs)) (fun (ch : Nat) => 2 * r + 1 ≤ ch ∧ ch < hi) (fun ch hI5 => ?_) (fun hJ5 => ?_))
 ·obtain ⟨h2, h3⟩ := hI5
  refine W.seq (W.seq (W.regT (by kernel_rfl) (zm rfl (zm rfl (zm rfl (zm rfl (zq (Q.bin rfl rfl rfl zp) (zq (Q.iS ud81 sz22 rfl rfl zo) (zq (Q.l1 rfl (zt 0 rfl) ag22 (gread pg zo)) (zm rfl (zm rfl (zm rfl (zq (Q.bin rfl rfl rfl zp) (zq (Q.iS ud81 sz22 rfl rfl zo) (zq (Q.l1 rfl (zt 0 rfl) ag22 (gread pg zo)) (WO.cV rfl (oLc rfl (oLc rfl oz)) rfl (hC _ (gmem pg zy) _ (gmem pg zy)) (SubR.t (SubR.s hro)) rfl (zq (Q.bin rfl (zi 0) rfl (bvl (ltA_eq _ _))) (zq (Q.not rfl not_dec) (zk (W.sub (zc 58 rfl (zc 0 rfl (zc 2 rfl (zc 3 rfl (zc 4 rfl (zc 10 rfl (zc 11 rfl zzn))))))) (W.cD rfl (fun hc58 => ?_) (fun hc58 => ?_))))))))))))))))))))))
  ·refine W.ret ?_
   refine End.Kr (End.Br (End.Lr (End.Br (End.ret ResL.nil (hs' := [⟨B, ⟨1, ex, (g).map (·.2)⟩, true⟩]) ⟨g, pg, rfl⟩ (ww no_wl) (SubH.of_sublist (List.Sublist.cons_cons _ (List.nil_sublist _)))))))
  refine zw (W.seq (W.regX (by kernel_rfl) (WX.f (Q.move rfl) bqs rfl (WX.f (Q.move rfl) bqi rfl (WX.f (Q.move rfl) bqi rfl (WX.f (Q.bin rfl rfl rfl zp) bqi rfl (WX.f (Q.move rfl) bqs rfl (WX.f (Q.move rfl) bqi rfl (WX.f (Q.move rfl) bqi rfl (WX.f (Q.bin rfl rfl rfl zp) bqi rfl (WX.f (Q.move rfl) bqs rfl (WX.f (Q.move rfl) bqi rfl (WX.f (Q.move rfl) bqi rfl (WX.f (Q.bin rfl rfl rfl zp) bqi rfl (WX.f (Q.iS ud81 sz22 rfl rfl zo) bqp rfl (WX.q (by kernel_rfl) (Q.l1 rfl (zt 0 rfl) ag22 (gread pg zo)) (gq hQ pg zo).2 rfl (WX.f (Q.move rfl) bqs rfl (WX.f (Q.move rfl) bqi rfl (WX.f (Q.move rfl) bqi rfl (WX.f (Q.bin rfl rfl rfl zp) bqi rfl (WX.f (Q.iS ud81 sz22 rfl rfl zo) bqp rfl (WX.q (by kernel_rfl) (Q.l1 rfl (zt 0 rfl) ag22 (gread pg zo)) (gq hQ pg zo).2 rfl (WX.f (Q.iS ud81 sz22 rfl rfl zo) bqp rfl ?_)))))))))))))))))))))))
  refine WX.store sz22 rfl rfl (j := 0) rfl (ck1 (gq (i := fst + ch) hQ pg zy).1 (gset_le (by rw [(pg).length_eq]; omega))) (gset_lay (k := (ge (g) (fst + ch)).1) (by rw [(pg).length_eq]; omega) (gq (i := fst + ch) hQ pg zy).1) (hs' := _ :: _) rfl (WX.f (Q.iS ud81 sz22 rfl rfl zo) bqp rfl (WX.store sz22 rfl rfl (j := 0) rfl (ck1 (gq (i := fst + r) hQ pg zy).1 (gset_le (by rw [List.length_set, (pg).length_eq]; omega))) (gset_lay (k := (ge (g) (fst + r)).1) (by rw [List.length_set, (pg).length_eq]; omega) (gq (i := fst + r) hQ pg zy).1) (hs' := _ :: _) rfl (WX.nil (End.K (W.sub (zc 0 rfl (zc 2 rfl (zc 3 rfl (zc 4 rfl (zc 11 rfl zzn))))) (W.reg (zm rfl (za rfl (WO.nil (End.KB (End.KL (W.sub zv (W.sH (SubH.refl _) (ih0 (ch) (swp (g) (fst + r) (fst + ch)) ?_ ?_))))))))))))))
  ·exact ⟨by omega, swp_pm pg zy zy⟩
  exact zo
 refine W.seq (W.regT (by kernel_rfl) (zm rfl (zq (Q.bin rfl (zi 1) rfl zp) (zm rfl (zq (Q.bin rfl rfl rfl (bvl ltn)) (zm rfl (WO.sD (d := 23) rfl (fun hc23 => ?_) (fun hc23 => ?_))))))))
 ·refine WO.gT rfl rfl (zm rfl (WO.gT rfl rfl (zm rfl (WO.gT rfl rfl (zm rfl (WO.gT rfl rfl (zm rfl (WO.gT rfl rfl (zq (Q.bin rfl rfl rfl zp) (WO.gT rfl rfl (zq (Q.iS ud81 sz22 rfl rfl zo) (WO.gT rfl rfl (zq (Q.l1 rfl (zt 0 rfl) ag22 (gread pg zo)) (WO.gT rfl rfl (zm rfl (WO.gT rfl rfl (zm rfl (WO.gT rfl rfl (zm rfl (WO.gT rfl rfl (zq (Q.bin rfl rfl rfl zp) (WO.gT rfl rfl (zq (Q.bin rfl (zi 1) rfl zp) ?_)))))))))))))))))))))))
  refine WO.gT rfl rfl (zq (Q.iS ud81 sz22 rfl rfl zo) (WO.gT rfl rfl (zq (Q.l1 rfl (zt 0 rfl) ag22 (gread pg zo)) (WO.gT rfl rfl (WO.cV rfl (oLc rfl (oLc rfl oz)) rfl (hC _ (gmem pg zy) _ (gmem pg zy)) (SubR.t (SubR.s hro)) rfl (WO.gT rfl rfl (zq (Q.bin rfl (zi 0) rfl (bvl (ltA_eq _ _))) (zq (Q.pT rfl rfl) (zk (W.sub (zc 40 rfl (zc 11 rfl (zc 0 rfl (zc 2 rfl (zc 3 rfl (zc 4 rfl (zc 10 rfl zzn))))))) (W.cD rfl (fun hc40 => ?_) (fun hc40 => ?_))))))))))))
  ·refine W.reg (zm rfl (zq (Q.bin rfl (zi 1) rfl zp) (za rfl (WO.nil (End.K (W.sub zv (W.sH (SubH.refl _) (hJ5 (2 * r + 1 + 1) ?_))))))))
   exact ⟨by omega, by omega⟩
  refine W.skip (End.K (W.sub zv (W.sH (SubH.refl _) (hJ5 (2 * r + 1) ?_))))
  exact ⟨by omega, by omega⟩
 refine zg rfl rfl (zg rfl rfl (zg rfl rfl (zg rfl rfl (zg rfl rfl (zg rfl rfl (zg rfl rfl (zg rfl rfl (zg rfl rfl (zg rfl rfl (zg rfl rfl (zg rfl rfl (zg rfl rfl (zg rfl rfl (zg rfl rfl (zg rfl rfl (zq (Q.pF rfl rfl) (zk (W.sub (zc 40 rfl (zc 11 rfl (zc 0 rfl (zc 2 rfl (zc 3 rfl (zc 4 rfl (zc 10 rfl zzn))))))) (W.condF rfl (W.skip (End.K (W.sub zv (W.sH (SubH.refl _) (hJ5 (2 * r + 1) ?_))))))))))))))))))))))))
 exact ⟨by omega, by omega⟩

theorem gheap_spec (G : List Ge) (B : Nat) (ex : Bool) (hN : G.length ≤ 256) (c : Ge → Ge → Int) (F : Nat) (caps : List AV) (hs : HSt) (hro : ∀ e ∈ hs, e.w = false) (hQ : ∀ x ∈ G, x.2.isCell = true ∧ x.2.beq x.2 = true) (hC : ∀ x ∈ G, ∀ y ∈ G, Spec tab F ([x.2, y.2] ++ caps) [] hs (Val (.int .i64 (c x y)))) (l : List Ge) (pl : l.Perm G) (a b : Nat) (hab : a ≤ b) (hb : b ≤ G.length) (h13 : a + 13 ≤ b) : Spec tab 132 [.slice B 0 G.length 1, .int .i64 ((a : Nat) : Int), .int .i64 ((b : Nat) : Int), .func F caps] [B] (⟨B, ⟨1, ex, (l).map (·.2)⟩, true⟩ :: hs) (fun v D => ∃ g : List Ge, g.Perm G ∧ D = [⟨B, ⟨1, ex, (g).map (·.2)⟩, true⟩]) := by
 refine Spec.en (ftg 132 Tryz.func132) rfl (m := 60) rfl (rs := []) rfl (st := [(0, .slice B 0 G.length 1), (1, .int .i64 ((a : Nat) : Int)), (2, .int .i64 ((b : Nat) : Int)), (3, .func F caps)]) rfl rfl (fun _ => rfl) (fun E => zr (zm rfl (za rfl (zk (zr (za (zi 0) (zk (zr (zm rfl (zm rfl (zq (Q.bin rfl rfl rfl (bv_sub (wns zo))) (za rfl (zk (W.seq (zr (zm rfl (zq (Q.bin rfl (zi 1) rfl (bv_sub (wns zo))) (zq (Q.bin rfl (zi 2) rfl (bv_quo (by decide) (qn (by decide) zy))) (za rfl (zk (W.block (W.loop_ind2 (fun (i : Int) (g : List Ge) => [(0, .slice B 0 G.length 1), (3, .func F caps), (8, .int .i64 ((a : Nat) : Int)), (9, .int .i64 ((0 : Nat) : Int)), (10, .int .i64 ((b - a : Nat) : Int)), (11, .int .i64 i)]) (fun (i : Int) (g : List Ge) => (⟨B, ⟨1, ex, (g).map (·.2)⟩, true⟩ :: hs)) (fun (i : Int) (g : List Ge) => -1 ≤ i ∧ i < ((b - a : Nat) : Int) ∧ g.Perm G) (fun (i : Int) (g : List Ge) => (i + 1).toNat) ((((b - a - 1) / 2 : Nat) : Int)) (l) ⟨by omega, by omega, pl⟩ zv (SubH.refl _) (fun i g hI0 ih0 => ?_)))))))))))))))))))))))
 obtain ⟨h1, h2, pg⟩ := hI0
 refine W.seq (zr (zm rfl (zq (Q.bin rfl (zi 0) rfl (bv_geq le_int)) (zk (W.cD rfl (fun hc21 => ?_) (fun hc21 => ?_))))))
 ·obtain ⟨n, rfl⟩ : ∃ n : Nat, i = n := ⟨i.toNat, by have := of_decide_eq_true (p := 0 ≤ i) (by simpa using hc21); omega⟩
  refine zw (W.seq (W.block (W.reg (zm rfl (zm rfl (zm rfl (zm rfl (zm rfl (WO.call1 rfl (oLc rfl (oLc rfl (oLc rfl (oLc rfl (oLc rfl oz))))) rfl (i := 0) rfl (gsift_spec G B ex hN c F caps hs hro hQ hC g pg n (b - a) a zy zy) (SubR.s hro) (hs' := _) rfl rfl (fun v29 D29 hP29 => ?_))))))))))
  obtain ⟨g2, pg2, rfl⟩ := hP29
  refine WO.nil (End.KB (End.K (W.reg (zm rfl (zq (Q.bin rfl (zi 1) rfl (bv_sub (wr64 zo))) (za rfl (WO.nil (End.KL (W.sub zv (W.sH (SubH.refl _) (ih0 ((n : Int) - 1) (g2) ?_ ?_)))))))))))
  ·exact ⟨by omega, by omega, pg2⟩
  exact zo
 refine W.exit (End.Kx (End.Lx (End.Bh (End.K (zr (zm rfl (zq (Q.bin rfl (zi 1) rfl (bv_sub (wns zo))) (za rfl (zk (W.block (W.loop_ind2 (fun (i : Int) (g : List Ge) => [(0, .slice B 0 G.length 1), (3, .func F caps), (8, .int .i64 ((a : Nat) : Int)), (9, .int .i64 ((0 : Nat) : Int)), (12, .int .i64 i)]) (fun (i : Int) (g : List Ge) => (⟨B, ⟨1, ex, (g).map (·.2)⟩, true⟩ :: hs)) (fun (i : Int) (g : List Ge) => -1 ≤ i ∧ i < ((b - a : Nat) : Int) ∧ g.Perm G) (fun (i : Int) (g : List Ge) => (i + 1).toNat) (((b - a - 1 : Nat) : Int)) (g) ⟨by omega, by omega, pg⟩ zv (SubH.refl _) (fun i g hI1 ih1 => ?_))))))))))))
 obtain ⟨h1, h2, pg⟩ := hI1
 refine W.seq (zr (zm rfl (zq (Q.bin rfl (zi 0) rfl (bv_geq le_int)) (zk (W.cD rfl (fun hc33 => ?_) (fun hc33 => ?_))))))
 ·obtain ⟨n, rfl⟩ : ∃ n : Nat, i = n := ⟨i.toNat, by have := of_decide_eq_true (p := 0 ≤ i) (by simpa using hc33); omega⟩
  refine zw (W.seq (W.block (W.seq (W.regX (by kernel_rfl) (WX.f (Q.move rfl) bqs rfl (WX.f (Q.move rfl) bqi rfl (WX.f (Q.move rfl) bqs rfl (WX.f (Q.move rfl) bqi rfl (WX.f (Q.move rfl) bqi rfl (WX.f (Q.bin rfl rfl rfl zp) bqi rfl (WX.f (Q.move rfl) bqs rfl (WX.f (Q.move rfl) bqi rfl (WX.f (Q.move rfl) bqi rfl (WX.f (Q.bin rfl rfl rfl zp) bqi rfl (WX.f (Q.iS ud81 sz22 rfl rfl zo) bqp rfl (WX.q (by kernel_rfl) (Q.l1 rfl (zt 0 rfl) ag22 (gread pg zo)) (gq hQ pg zo).2 rfl (WX.f (Q.move rfl) bqs rfl (WX.f (Q.move rfl) bqi rfl (WX.f (Q.iS ud81 sz22 rfl rfl zo) bqp rfl (WX.q (by kernel_rfl) (Q.l1 rfl (zt 0 rfl) ag22 (gread pg zo)) (gq hQ pg zo).2 rfl (WX.f (Q.iS ud81 sz22 rfl rfl zo) bqp rfl (WX.store sz22 rfl rfl (j := 0) rfl (ck1 (gq (i := a + n) hQ pg zy).1 (gset_le (by rw [(pg).length_eq]; omega))) (gset_lay (k := (ge (g) (a + n)).1) (by rw [(pg).length_eq]; omega) (gq (i := a + n) hQ pg zy).1) (hs' := _ :: _) rfl (WX.f (Q.iS ud81 sz22 rfl rfl zo) bqp rfl ?_)))))))))))))))))))))))
  refine WX.store sz22 rfl rfl (j := 0) rfl (ck1 (gq (i := a) hQ pg zy).1 (gset_le (by rw [List.length_set, (pg).length_eq]; omega))) (gset_lay (k := (ge (g) (a)).1) (by rw [List.length_set, (pg).length_eq]; omega) (gq (i := a) hQ pg zy).1) (hs' := _ :: _) rfl (WX.nil (End.K (W.sub (zc 0 rfl (zc 3 rfl (zc 8 rfl (zc 9 rfl (zc 12 rfl zzn))))) (W.reg (zm rfl (zm rfl (zm rfl (zm rfl (zm rfl (WO.call1 rfl (oLc rfl (oLc rfl (oLc rfl (oLc rfl (oLc rfl oz))))) rfl (i := 0) rfl (gsift_spec G B ex hN c F caps hs hro hQ hC (swp (g) (a) (a + n)) (swp_pm pg zy zy) 0 (n) a zy zy) (SubR.s hro) (hs' := _) rfl rfl (fun v59 D59 hP59 => ?_)))))))))))
  obtain ⟨g2, pg2, rfl⟩ := hP59
  refine WO.nil (End.KB (End.K (W.reg (zm rfl (zq (Q.bin rfl (zi 1) rfl (bv_sub (wr64 zy))) (za rfl (WO.nil (End.KL (W.sub zv (W.sH (SubH.refl _) (ih1 ((n : Int) - 1) (g2) ?_ ?_)))))))))))
  ·exact ⟨by omega, by omega, pg2⟩
  exact zo
 refine W.exit ?_
 refine End.Kx (End.Lx (End.Bh (End.fall ResL.nil (hs' := [⟨B, ⟨1, ex, (g).map (·.2)⟩, true⟩]) ⟨g, pg, rfl⟩ (ww no_wl) (SubH.of_sublist (List.Sublist.cons_cons _ (List.nil_sublist _))))))

theorem grev_spec (G : List Ge) (B : Nat) (ex : Bool) (hN : G.length ≤ 256) (c : Ge → Ge → Int) (F : Nat) (caps : List AV) (hs : HSt) (hro : ∀ e ∈ hs, e.w = false) (hQ : ∀ x ∈ G, x.2.isCell = true ∧ x.2.beq x.2 = true) (hC : ∀ x ∈ G, ∀ y ∈ G, Spec tab F ([x.2, y.2] ++ caps) [] hs (Val (.int .i64 (c x y)))) (l : List Ge) (pl : l.Perm G) (a b : Nat) (hab : a ≤ b) (hb : b ≤ G.length) (h1 : a < b) : Spec tab 135 [.slice B 0 G.length 1, .int .i64 ((a : Nat) : Int), .int .i64 ((b : Nat) : Int), .func F caps] [B] (⟨B, ⟨1, ex, (l).map (·.2)⟩, true⟩ :: hs) (fun v D => ∃ g : List Ge, g.Perm G ∧ D = [⟨B, ⟨1, ex, (g).map (·.2)⟩, true⟩]) := by
 refine Spec.en (ftg 135 Tryz.func135) rfl (m := 34) rfl (rs := []) rfl (st := [(0, .slice B 0 G.length 1), (1, .int .i64 ((a : Nat) : Int)), (2, .int .i64 ((b : Nat) : Int)), (3, .func F caps)]) rfl rfl (fun _ => rfl) (fun E => zr (zm rfl (za rfl (zk (zr (zm rfl (zq (Q.bin rfl (zi 1) rfl (bv_sub (wns zo))) (za rfl (zk (W.block (W.loop_ind3 (fun (i : Nat) (j : Nat) (g : List Ge) => [(0, .slice B 0 G.length 1), (8, .int .i64 ((i : Nat) : Int)), (9, .int .i64 ((j : Nat) : Int))]) (fun (i : Nat) (j : Nat) (g : List Ge) => (⟨B, ⟨1, ex, (g).map (·.2)⟩, true⟩ :: hs)) (fun (i : Nat) (j : Nat) (g : List Ge) => a ≤ i ∧ j < b ∧ i ≤ j + 1 ∧ g.Perm G) (fun (i : Nat) (j : Nat) (g : List Ge) => j + 1 - i) (a) (b - 1) (l) ⟨by omega, by omega, by omega, pl⟩ zv (SubH.refl _) (fun i j g hI0 ih0 => ?_))))))))))))
 obtain ⟨h2, h3, h4, pg⟩ := hI0
 refine W.seq (zr (zm rfl (zm rfl (zq (Q.bin rfl rfl rfl (bvl ltn)) (zk (W.cD rfl (fun hc15 => ?_) (fun hc15 => ?_)))))))
 ·refine zw (W.block (W.seq (W.regX (by kernel_rfl) (WX.f (Q.move rfl) bqs rfl (WX.f (Q.move rfl) bqi rfl (WX.f (Q.move rfl) bqs rfl (WX.f (Q.move rfl) bqi rfl (WX.f (Q.move rfl) bqs rfl (WX.f (Q.move rfl) bqi rfl (WX.f (Q.iS ud81 sz22 rfl rfl zo) bqp rfl (WX.q (by kernel_rfl) (Q.l1 rfl (zt 0 rfl) ag22 (gread pg zo)) (gq hQ pg zo).2 rfl (WX.f (Q.move rfl) bqs rfl (WX.f (Q.move rfl) bqi rfl (WX.f (Q.iS ud81 sz22 rfl rfl zo) bqp rfl (WX.q (by kernel_rfl) (Q.l1 rfl (zt 0 rfl) ag22 (gread pg zo)) (gq hQ pg zo).2 rfl (WX.f (Q.iS ud81 sz22 rfl rfl zo) bqp rfl (WX.store sz22 rfl rfl (j := 0) rfl (ck1 (gq (i := j) hQ pg zy).1 (gset_le (by rw [(pg).length_eq]; omega))) (gset_lay (k := (ge (g) (j)).1) (by rw [(pg).length_eq]; omega) (gq (i := j) hQ pg zy).1) (hs' := _ :: _) rfl (WX.f (Q.iS ud81 sz22 rfl rfl zo) bqp rfl (WX.store sz22 rfl rfl (j := 0) rfl (ck1 (gq (i := i) hQ pg zy).1 (gset_le (by rw [List.length_set, (pg).length_eq]; omega))) (gset_lay (k := (ge (g) (i)).1) (by rw [List.length_set, (pg).length_eq]; omega) (gq (i := i) hQ pg zy).1) (hs' := _ :: _) rfl (WX.nil (End.K (W.sub (zc 0 rfl (zc 8 rfl (zc 9 rfl zzn))) (zr ?_)))))))))))))))))))))))
  refine zm rfl (zq (Q.bin rfl (zi 1) rfl zp) (za rfl (zk (W.reg (zm rfl (zq (Q.bin rfl (zi 1) rfl (bv_sub (wns zo))) (za rfl (WO.nil (End.KB (End.KL (W.sub zv (W.sH (SubH.refl _) (ih0 (i + 1) (j - 1) (swp (g) (i) (j)) ?_ ?_)))))))))))))
  ·exact ⟨by omega, by omega, by omega, swp_pm pg zy zy⟩
  exact zo
 refine W.exit ?_
 refine End.Kx (End.Lx (End.Bh (End.fall ResL.nil (hs' := [⟨B, ⟨1, ex, (g).map (·.2)⟩, true⟩]) ⟨g, pg, rfl⟩ (ww no_wl) (SubH.of_sublist (List.Sublist.cons_cons _ (List.nil_sublist _))))))
end Go.Proofs.YtmblgaehfjheeaaGreat.Ev
