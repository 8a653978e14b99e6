/- Chapter 21: a run as a whole. -/
import Derived.Test.YtfkbfnpjggkdmaaGreatDoorOExG
namespace Go.Proofs.YtfkbfnpjggkdmaaGreatDoor.Ev
open Go.RowKit
set_option maxRecDepth 100000
set_option maxHeartbeats 1000000
theorem SubR.ix {K A S S' : HSt} {ix : List Nat} (hA : (ix.filterMap fun i => K[i]?).map (fun e : HE => (⟨e.b, e.o, false⟩ : HE)) = A) (hn : ix.Nodup) (h : SubR S S') : SubR (A ++ S) (K ++ S') := by
 subst hA
 have hm : ∀ x ∈ ix.filterMap (fun i => K[i]?), x ∈ K := by
  intro x hx
  obtain ⟨i, _, hi⟩ := List.mem_filterMap.1 hx
  exact List.mem_of_getElem? hi
 refine ⟨fun e he => ?_, fun hd => ?_⟩
 ·rcases List.mem_append.1 he with he | he
  ·obtain ⟨x, hx, rfl⟩ := List.mem_map.1 he
   exact ⟨rfl, x.w, List.mem_append_left _ (hm x hx)⟩
  ·obtain ⟨h1, w, h2⟩ := h.1 e he
   exact ⟨h1, w, List.mem_append_right _ h2⟩
 ·rw [List.map_append] at hd ⊢
  obtain ⟨n1, n2, n3⟩ := List.nodup_append.1 hd
  refine List.nodup_append.2 ⟨?_, h.2 n2, fun x hx y hy => ?_⟩
  ·rw [List.map_map]
   unfold List.Nodup
   rw [List.pairwise_map, List.pairwise_filterMap]
   refine List.Pairwise.imp ?_ hn
   intro i j hij a ha b hb hab
   have hab : a.b = b.b := hab
   exact hij (nodup_at n1 (x := a.b) (by rw [List.getElem?_map, ha]; rfl) (by rw [List.getElem?_map, hb, hab]; rfl))
  ·obtain ⟨e, he, rfl⟩ := List.mem_map.1 hx
   obtain ⟨x, hx2, rfl⟩ := List.mem_map.1 he
   obtain ⟨z, hz, rfl⟩ := List.mem_map.1 hy
   obtain ⟨_, w, h2⟩ := h.1 z hz
   exact n3 x.b (List.mem_map.2 ⟨x, hm x hx2, rfl⟩) z.b (List.mem_map.2 ⟨_, h2, rfl⟩)
def momC (L : List (List Lab × List Smp)) (e : Int) : List (List Lab × Int) := L.filterMap fun x => (insO x.2 e).map fun s => (x.1, s.2)
theorem momC_eq (R : List Ser) (e : Int) : (momE R e).map (·.2) = momC (conR R) e := by
 unfold momE momC conR
 rw [List.map_filterMap, List.filterMap_map]
 congr 1
 funext x
 show Option.map _ (Option.map _ (insO x.2.2.2 e)) = Option.map _ (insO x.2.2.2 e)
 cases insO x.2.2.2 e <;> rfl
theorem sel_mem {M : List MtT} {lo hi : Int} {R R2 : List Ser} (h : conR R2 = selS M lo hi (conR R)) {y : Ser} (hy : y ∈ R2) : ∃ x ∈ R, y.2.1 = x.2.1 ∧ y.2.2.2 = x.2.2.2.filter (btS lo hi) ∧ 0 < y.2.2.2.length := by
 have hm : (y.2.1, y.2.2.2) ∈ selS M lo hi (conR R) := by rw [← h]; exact List.mem_map.2 ⟨y, hy, rfl⟩
 unfold selS at hm
 split at hm
 ·simp at hm
 ·unfold selR at hm
  obtain ⟨z, hz, e⟩ := List.mem_filterMap.1 hm
  obtain ⟨x, hx, rfl⟩ := List.mem_map.1 hz
  split at e
  ·rename_i g
   simp only [Option.some.injEq, Prod.mk.injEq] at e
   exact ⟨x, hx, e.1.symm, e.2.symm, by rw [← e.2]; exact g.2⟩
  ·cases e
theorem sel_pos {M : List MtT} {lo hi : Int} {R R2 : List Ser} (h : conR R2 = selS M lo hi (conR R)) : RPos R2 := fun y hy => let ⟨_, _, _, _, g⟩ := sel_mem h hy; g
theorem sel_bd {M : List MtT} {lo hi : Int} {R R2 : List Ser} (hb : RBd R) (h : conR R2 = selS M lo hi (conR R)) (hl : R2.length ≤ R.length) : RBd R2 := by
 refine ⟨Nat.le_trans hl hb.1, fun y hy => ?_⟩
 obtain ⟨x, hx, e1, e2, _⟩ := sel_mem h hy
 refine ⟨by rw [e1]; exact (hb.2 x hx).1, ?_⟩
 unfold SBd
 rw [e2]
 exact Nat.le_trans (List.length_filter_le _ _) (hb.2 x hx).2
theorem app_nil_sub1 {A : HSt} {e : HE} : SubH (A ++ []) (e :: A) := by
 rw [List.append_nil]
 exact SubH.of_sublist (List.sublist_cons_self _ _)
theorem OwnE.bq2i {sz : Nat} {cells : List AV} {len : Nat} {v : AV} {hp : HSt} {n : Int} (h : OwnE sz cells len v hp) : (AV.agg [.int .i64 n, v]).beq (.agg [.int .i64 n, v]) = true := by
 rcases h with ⟨_, _, rfl, _⟩ | ⟨b, ex, rfl, _, _⟩ <;> simp [AV.beq, beq1, beq0, beqz, beqL]
theorem mom_mem {R : List Ser} {e : Int} {x : El} (h : x ∈ momE R e) : ∃ y ∈ R, x.1 = y.1 ∧ x.2.1 = y.2.1 := by
 obtain ⟨y, hy, g⟩ := List.mem_filterMap.1 h
 cases hi : insO y.2.2.2 e with
 | none => rw [hi] at g; cases g
 | some s => rw [hi] at g; cases g; exact ⟨y, hy, rfl, rfl⟩
theorem mom_all {hs hs' : HSt} {R : List Ser} {e : Int} (h : RAll hs R) (hm : ∀ b o, MemH hs b o → MemH hs' b o) : EAll hs' (momE R e) := fun x hx => by
 obtain ⟨y, hy, e1, e2⟩ := mom_mem hx
 rw [e1, e2]
 exact (h y hy).1.mono hm
theorem mom_bd {R : List Ser} {e : Int} (h : RBd R) : EBd (momE R e) := by
 refine ⟨Nat.le_trans (List.length_filterMap_le _ _) h.1, fun x hx => ?_⟩
 obtain ⟨y, hy, _, e2⟩ := mom_mem hx
 rw [e2]
 exact (h.2 y hy).1
theorem ag24 : tab.isAgg 24 = some true := by kernel_rfl
theorem ag35 : tab.isAgg 35 = some false := by kernel_rfl
theorem ag37 : tab.isAgg 37 = some true := by kernel_rfl
theorem ag38 : tab.isAgg 38 = some false := by kernel_rfl
theorem ao37 : AO tab 37 = some ⟨2, true, [.int .i64 0, .nils]⟩ := by kernel_rfl
theorem ao38 : AO tab 38 = some ⟨1, true, [.int .i64 0]⟩ := by kernel_rfl
theorem ap35_35 : AP tab 35 35 = some 3 := by kernel_rfl
theorem bx132 : ∀ l : List AV, l.length = 3 → varObj tab 132 l = ⟨3, true, l⟩ := by intro l h; exact varObj_plain (by kernel_rfl) h
theorem fa136_1 : FA tab 136 1 = some (1, 0 + 1) := by kernel_rfl
theorem fa37_0 : FA tab 37 0 = some (0, 0 + 1) := by kernel_rfl
theorem fa37_1 : FA tab 37 1 = some (1, 0 + 1) := by kernel_rfl
theorem pl132 : PL tab 132 [.nils, .int .i64 0, .int .i64 0] [(0, 1), (1, 1), (2, 1)] = true := by kernel_rfl
theorem pl59 : PL tab 59 [.int .i64 0, .int .i64 0, .nils] [(0, 1), (1, 1), (2, 1)] = true := by kernel_rfl
theorem sz24 : tab.size 24 = some 4 := by kernel_rfl
theorem sz35 : tab.size 35 = some 1 := by kernel_rfl
theorem sz37 : tab.size 37 = some 2 := by kernel_rfl
theorem sz38 : tab.size 38 = some 1 := by kernel_rfl
theorem sz59 : tab.size 59 = some 3 := by kernel_rfl
theorem ud35 : tab.und 35 = some (.slice 59) := by kernel_rfl
theorem zr59 : tab.zero 59 = some (.agg [.int .i64 0, .int .i64 0, .nils]) := by kernel_rfl
theorem whole_spec (hs : HSt) (hro : ∀ e ∈ hs, e.w = false) (R : List Ser) (v : AV) (hR : RSl hs R 0 v) (hRA : RAll hs R) (hRb : RBd R) (M : List MtT) (vm : AV) (hM : ISm hs M vm) (hok : MOk M) (o : Nat) (pb : Nat) (xpb : Bool) (bx : Nat) (exx : Bool) (t : Nat) (hot : o ≤ t) (ho : o ≤ 2147483648) (ht : t ≤ 1099511627776) (hR2 : R.length ≤ 256) : SpecX xcfg tab 33 [.slice pb 0 1 12, .func 34 [.ptr bx 0], .agg [.int .i64 ((t : Nat) : Int), .int .i64 ((t : Nat) : Int), .int .i64 ((1 : Nat) : Int), .int .i64 ((1099511627776 : Nat) : Int)], .bool false] [] (⟨pb, ⟨12, xpb, [.int .i64 ((2 : Nat) : Int), .str [], .int .i64 0, vm, .int .i64 0, .int .i64 ((o : Nat) : Int), .int .i64 0, .nils, .int .i64 0, .bool false, .nils, .nils]⟩, false⟩ :: ⟨bx, ⟨1, exx, [v]⟩, false⟩ :: hs) (fun u D => (caV M ≠ 0 ∧ u = .tuple [.agg [.int .i64 0, .nils], .int .i64 0, .int .i64 (caV M)] ∧ D = []) ∨ (caV M = 0 ∧ ∃ (rv ev : AV) (O2 : List El) (c : Int) (H G : HSt), u = .tuple [.agg [.int .i64 ((2 : Nat) : Int), rv], .int .i64 c, .int .i64 0] ∧ D = G ++ H ∧ OwnE 3 [.int .i64 ((t : Nat) : Int), .int .i64 0, ev] 1 rv H ∧ EIn G O2 ev ∧ EAll G O2 ∧ O2.map (·.2) = (momC (selS M (loE ((t - o : Nat) : Int)) ((t - o : Nat) : Int) (conR R)) ((t - o : Nat) : Int)) ∧ (∀ e ∈ G, e.w = true))) (fun _ => False) := by
 refine SpecX.enterR (ftg 33 Tryz.func33) rfl (m := 76) rfl (rs := [.cell 8 37, .cell 9 3, .cell 10 38]) rfl (st := [(0, .slice pb 0 1 12), (1, .func 34 [.ptr bx 0]), (2, .agg [.int .i64 ((t : Nat) : Int), .int .i64 ((t : Nat) : Int), .int .i64 ((1 : Nat) : Int), .int .i64 ((1099511627776 : Nat) : Int)]), (3, .bool false)]) rfl rfl (fun _ => rfl) rfl (fun E => ?_)
 refine Ev.X.seq ?_
 refine Ev.X.w (W.reg ?_)
 refine WO.box rfl rfl (bx24 _ rfl) rfl (fun b1 => ?_)
 refine WO.alloc ao37 rfl (fun b2 => ?_)
 refine WO.alloc ao3 rfl (fun b3 => ?_)
 refine WO.alloc ao38 rfl (fun b4 => ?_)
 refine WO.nil ?_
 refine XEnd.K ?_
 refine Ev.X.seq ?_
 refine Ev.X.reg ?_
 refine XO.pre 1 ?_
 refine WO.q (Q.makeF (oLc rfl (oLc rfl (oLc rfl oz)))) rfl ?_
 refine WO.nil ?_
 refine XEnd.O ?_
 refine XO.defer rfl rfl rfl ?_
 refine XO.nil ?_
 refine XEnd.K ?_
 refine Ev.X.seq ?_
 refine Ev.X.w (W.reg ?_)
 refine WO.q (Q.move rfl) rfl ?_
 refine WO.q (Q.move rfl) rfl ?_
 refine WO.q (Q.loadN rfl (mem_at (i := 3) rfl) ag24 sz24 (l := [_, _, _, _]) rfl) rfl ?_
 refine WO.cV rfl (oLc rfl (oLc rfl (oLc rfl oz))) rfl (right_spec hs hro M vm hM hok o pb xpb bx t hot ho ht) (SubR.t (SubR.t (SubR.t (SubR.t (SubR.cons0 (SubR.t (SubR.s hro))))))) rfl ?_
 refine WO.q (Q.fieldAddr fa37_0 rfl (o' := 0) rfl) rfl ?_
 refine WO.store sz3 rfl rfl (i := 2) rfl rfl (cs := [_, _]) rfl (hs' := _ :: _ :: _ :: _ :: _ :: _ :: _) rfl ?_
 refine WO.nil ?_
 refine XEnd.K ?_
 refine Ev.X.seq ?_
 refine Ev.X.w (W.reg ?_)
 refine WO.q (Q.fieldAddr fa24_3 rfl (o' := 3) rfl) rfl ?_
 refine WO.q (Q.l1 rfl (mem_at (i := 3) rfl) ag3 rfl) rfl ?_
 refine WO.q (Q.build pl132 (opc rfl opn) rfl (cs := [_, _, _]) rfl) rfl ?_
 refine WO.box rfl rfl (bx132 _ rfl) rfl (fun b5 => ?_)
 refine WO.q (Q.assign rfl) rfl ?_
 refine WO.nil ?_
 refine XEnd.K ?_
 refine Ev.X.seq ?_
 refine Ev.X.seq ?_
 refine Ev.X.w (W.reg ?_)
 refine WO.q (Q.move rfl) rfl ?_
 refine WO.nil ?_
 refine XEnd.K ?_
 refine Ev.X.condF rfl ?_
 refine Ev.X.skip ?_
 refine XEnd.K ?_
 refine Ev.X.seq ?_
 refine Ev.X.w (W.reg ?_)
 refine WO.q (Q.move rfl) rfl ?_
 refine WO.q (Q.move rfl) rfl ?_
 refine WO.call1 rfl (oLc rfl (oLc rfl oz)) rfl (i := 0) rfl (load_spec hs hro M vm hM hok o pb xpb b5 true _) (SubR.t (SubR.t (SubR.t (SubR.t (SubR.cons0 (SubR.t (SubR.s hro))))))) (hs' := _ :: _ :: _ :: _ :: _ :: _ :: _) rfl rfl (fun v31 D31 hP31 => ?_)
 obtain ⟨rfl, lb, ob, xl, rfl⟩ := hP31
 refine WO.nil ?_
 refine XEnd.K ?_
 refine Ev.X.sub (SubS.cons (k := 11) rfl (SubS.cons (k := 10) rfl (SubS.cons (k := 9) rfl (SubS.cons (k := 8) rfl (SubS.cons (k := 6) rfl (SubS.cons (k := 1) rfl (SubS.nil _))))))) ?_
 refine Ev.X.seq ?_
 refine Ev.X.reg ?_
 refine XO.pre 3 ?_
 refine WO.q (Q.move rfl) rfl ?_
 refine WO.q (Q.move rfl) rfl ?_
 refine WO.q (Q.loadN rfl (mem_at (i := 6) rfl) ag24 sz24 (l := [_, _, _, _]) rfl) rfl ?_
 refine WO.nil ?_
 refine XEnd.O ?_
 refine XO.call1 rfl (oLc rfl (oLc rfl (oLc rfl oz))) rfl (i := 2) rfl (ask_spec hs hro R v hR hRA hRb M vm hM hok o b5 true xl exx lb ob bx t hot ht) (SubR.ix (K := [_, _, _, _, _, _, _, _]) (ix := [1, 0, 7]) (A := [_, _, _]) rfl (by decide) (SubR.s hro)) (hs' := _ :: _ :: _ :: _ :: _ :: _ :: _ :: _ :: _) rfl rfl (fun l hB tm h ht hh => by obtain ⟨rfl, hca⟩ := hB; exact End.rcv (i := 4) (j := 3) (k := 2) rfl rfl rfl rfl rfl rfl (End.ret (ResL.agg (c := [_, _]) rfl (mem_at (i := 4) rfl) ag37 sz37 rfl (ResL.one rfl (mem_at (i := 3) rfl) ag3 rfl (ResL.one rfl (mem_at (i := 2) rfl) ag38 rfl ResL.nil))) (hs' := []) (.inl ⟨hca, rfl, rfl⟩) no_wl (SubH.nil _)) tm h ht hh) (fun v35 D35 hP35 => ?_)
 obtain ⟨rfl, u2, R2, G, rfl, hR2, hR2A, hR2c, hR2l, hG, hca⟩ := hP35
 have hRb2 := sel_bd hRb hR2c hR2l
 have hRp2 := sel_pos hR2c
 refine XO.subH (hs' := _ :: _ :: _ :: _ :: _ :: _ :: _ :: _ :: _ :: (hs ++ G)) (SubH.op (perm_tail (N := [_]) (G := G) (K := [_, _, _, _, _, _, _, _]) (X := hs))) ?_
 refine XO.nil ?_
 refine XEnd.K ?_
 refine Ev.X.seq ?_
 refine Ev.X.seq ?_
 refine Ev.X.w (W.reg ?_)
 refine WO.q (Q.fieldAddr fa24_1 rfl (o' := 1) rfl) rfl ?_
 refine WO.q (Q.l1 rfl (mem_at (i := 6) rfl) ag3 rfl) rfl ?_
 refine WO.q (Q.fieldAddr fa24_0 rfl (o' := 0) rfl) rfl ?_
 refine WO.q (Q.l1 rfl (mem_at (i := 6) rfl) ag3 rfl) rfl ?_
 refine WO.q (Q.bin rfl rfl rfl (bv_sub (c := ((0 : Nat) : Int)) (by rw [Int.sub_self]; decide))) rfl ?_
 refine WO.q (Q.fieldAddr fa24_2 rfl (o' := 2) rfl) rfl ?_
 refine WO.q (Q.l1 rfl (mem_at (i := 6) rfl) ag3 rfl) rfl ?_
 refine WO.q (Q.bin rfl rfl rfl (bv_quo (by decide) (c := (((0 : Nat)) : Int)) (by decide))) rfl ?_
 refine WO.q (Q.bin rfl (oc (v := .int .i64 ((1 : Nat) : Int)) rfl) rfl (bv_add (c := (((1 : Nat)) : Int)) (by decide))) rfl ?_
 refine WO.q (Q.move (oc (v := .int .i64 ((0 : Nat) : Int)) rfl)) rfl ?_
 refine WO.nil ?_
 refine XEnd.K ?_
 refine Ev.X.block ?_
 refine Ev.X.loop ?_
 refine Ev.X.seq ?_
 refine Ev.X.w (W.reg ?_)
 refine WO.q (Q.bin rfl rfl rfl (bvl (p := true) rfl)) rfl ?_
 refine WO.nil ?_
 refine XEnd.K ?_
 refine Ev.X.seq ?_
 refine Ev.X.condT rfl ?_
 refine Ev.X.skip ?_
 refine XEnd.K ?_
 refine Ev.X.sub (SubS.cons (k := 45) rfl (SubS.cons (k := 44) rfl (SubS.cons (k := 11) rfl (SubS.cons (k := 10) rfl (SubS.cons (k := 9) rfl (SubS.cons (k := 8) rfl (SubS.cons (k := 6) rfl (SubS.nil _)))))))) ?_
 refine Ev.X.seq ?_
 refine Ev.X.block ?_
 refine Ev.X.seq ?_
 refine Ev.X.w (W.reg ?_)
 refine WO.q (Q.move rfl) rfl ?_
 refine WO.q (Q.assign rfl) rfl ?_
 refine WO.nil ?_
 refine XEnd.K ?_
 refine Ev.X.seq ?_
 refine Ev.X.w (W.reg ?_)
 refine WO.q (Q.fieldAddr fa24_0 rfl (o' := 0) rfl) rfl ?_
 refine WO.q (Q.l1 rfl (mem_at (i := 6) rfl) ag3 rfl) rfl ?_
 refine WO.q (Q.move rfl) rfl ?_
 refine WO.q (Q.fieldAddr fa24_2 rfl (o' := 2) rfl) rfl ?_
 refine WO.q (Q.l1 rfl (mem_at (i := 6) rfl) ag3 rfl) rfl ?_
 refine WO.q (Q.bin rfl rfl rfl (bv_mul (c := (((0 : Nat)) : Int)) (by decide))) rfl ?_
 refine WO.q (Q.bin rfl rfl rfl (bv_add (wna zo))) rfl ?_
 refine WO.q (Q.assign rfl) rfl ?_
 refine WO.nil ?_
 refine XEnd.K ?_
 refine Ev.X.seq ?_
 refine Ev.X.w (W.reg ?_)
 refine WO.q (Q.move rfl) rfl ?_
 refine WO.q (Q.move rfl) rfl ?_
 refine WO.call1 rfl (oLc rfl (oLc rfl oz)) rfl (i := 2) rfl (at_spec (ro (hs ++ G)) ro_w M vm (hM.mono (fun b o h => h.ap1.ro)) hok o R2 u2 (RSl.inR hR2) (hR2A.mono (fun b o h => h.app.ro)) hRb2 hRp2 b5 true xl lb ob 0 (by omega) (by omega) t hot ht) (SubR.ix (K := [_, _, _, _, _, _, _, _]) (ix := [1, 0]) (A := [_, _]) rfl (by decide) (SubR.ro (SubH.refl _))) (hs' := _ :: _ :: _ :: _ :: _ :: _ :: _ :: _ :: _) rfl rfl (fun v57 D57 hP57 => ?_)
 obtain ⟨ov, G2, rfl, rfl, hG2⟩ := hP57
 refine WO.subH (hs' := _ :: _ :: _ :: _ :: _ :: _ :: _ :: _ :: _ :: (hs ++ G ++ G2)) (SubH.op (perm_tail (N := [_]) (G := G2) (K := [_, _, _, _, _, _, _, _]) (X := hs ++ G))) ?_
 refine WO.alloc ao136 rfl (fun b6 => ?_)
 refine WO.store sz136 rfl rfl (i := 0) rfl (andb rfl (andb rfl (andb rfl (andb (OwnE.cell hG2) rfl)))) (cs := [_, _, _, _]) rfl (hs' := _ :: _ :: _ :: _ :: _ :: _ :: _ :: _ :: _ :: _ :: _) rfl ?_
 refine WO.nil ?_
 refine XEnd.K ?_
 refine Ev.X.w (W.regD 10 [⟨b6, _, false⟩, ⟨b2, _, false⟩] (by kernel_rfl) (KIn.cons (mem_at (i := 0) rfl) (KIn.cons (mem_at (i := 6) rfl) KIn.nil)) ?_)
 refine WD.q (Q.fieldAddr fa37_1 rfl (o' := 1) rfl) bqp rfl ?_
 refine WD.q (Q.l1 rfl (mem_at (i := 1) rfl) ag35 rfl) rfl rfl ?_
 refine WD.q (Q.move rfl) bq_int rfl ?_
 refine WD.q (Q.fieldAddr fa136_1 rfl (o' := 1) rfl) bqp rfl ?_
 refine WD.q (Q.l1 rfl (mem_at (i := 0) rfl) ag3 rfl) bq_int rfl ?_
 refine WD.q (Q.fieldAddr fa136_2 rfl (o' := 2) rfl) bqp rfl ?_
 refine WD.q (Q.l1 rfl (mem_at (i := 0) rfl) ag57 rfl) (OwnE.bq hG2) rfl ?_
 refine WD.call0 rfl (oLc rfl oz) rfl (cpy_spec (ro ((hs ++ G) ++ G2)) ro_w (momE R2 ((t - o : Nat) : Int)) ov ((EIn.own hG2).mono (fun b o h => h.app.ro)) (mom_all hR2A (fun b o h => (MemH.app h).ap1.ro)) (mom_bd hRb2)) (SubR.ro gc) (KIn.cons (mem_at (i := 0) rfl) (KIn.cons (mem_at (i := 6) rfl) KIn.nil)) rfl (fun v65 D65 hP65 => ?_)
 obtain ⟨O2, hO2, hO2A, hO2c, hD65⟩ := hP65
 refine WD.subH (hs' := _ :: _ :: _ :: _ :: _ :: _ :: _ :: _ :: _ :: _ :: (hs ++ G ++ G2 ++ D65)) (SubH.op (perm_tail (N := []) (G := D65) (K := [_, _, _, _, _, _, _, _, _, _]) (X := hs ++ G ++ G2))) ?_
 refine WD.q (Q.build pl59 (opc rfl (opc rfl (opc rfl opn))) rfl (cs := [_, _, _]) (by simp only [fillA, cells_of (EIn.cell hO2)]; rfl)) (by rcases hO2 with ⟨rfl, _⟩ | ⟨b, sz, ex, rfl, _⟩ <;> simp [AV.beq, beq1, beq0, beqz, beqL]) rfl ?_
 refine WD.bslice ud35 sz59 zr59 rfl (opc rfl opn) rfl (cs := [_, _, _]) rfl (andb rfl (andb rfl (andb (EIn.cell hO2) rfl))) rfl (KIn.cons (mem_at (i := 0) rfl) (KIn.cons (mem_at (i := 6) rfl) KIn.nil)) (fun b7 => ?_)
 refine WD.appAny (A := _) ap35_35 (OwnE.nil 3) rfl rfl (Src.slice (mem_at (i := 0) rfl) rfl) rfl zo (by decide) app_nil_sub1 rfl (KIn.cons (mem_at (i := 0) rfl) (KIn.cons (mem_at (i := 6) rfl) KIn.nil)) (fun v68 hp68 hO68 => ?_)
 refine WD.q (Q.fieldAddr fa37_1 rfl (o' := 1) rfl) bqp rfl ?_
 refine WD.store sz35 rfl rfl (j := 6) rfl (ck1 (OwnE.cell hO68) rfl) (cs := [_, _]) (by rw [cells_of (OwnE.cell hO68)]; rfl) (hs' := _ :: _ :: _ :: _ :: _ :: _ :: _ :: _ :: _ :: _ :: _) rfl (fun h => by cases h) ?_
 refine WD.nil ?_
 refine XEnd.KB (XEnd.K ?_)
 refine Ev.X.sub (SubS.cons (k := 45) rfl (SubS.cons (k := 44) rfl (SubS.cons (k := 11) rfl (SubS.cons (k := 10) rfl (SubS.cons (k := 9) rfl (SubS.cons (k := 8) rfl (SubS.cons (k := 6) rfl (SubS.nil _)))))))) ?_
 refine Ev.X.w (W.reg ?_)
 refine WO.q (Q.bin rfl (oc (v := .int .i64 ((1 : Nat) : Int)) rfl) rfl (bv_add (c := (((1 : Nat)) : Int)) (by decide))) rfl ?_
 refine WO.q (Q.move rfl) rfl ?_
 refine WO.nil ?_
 refine XEnd.KL ?_
 refine Ev.X.loop ?_
 refine Ev.X.seq ?_
 refine Ev.X.w (W.reg ?_)
 refine WO.q (Q.bin rfl rfl rfl (bvl (p := false) rfl)) rfl ?_
 refine WO.nil ?_
 refine XEnd.K ?_
 refine Ev.X.seq ?_
 refine Ev.X.condF rfl ?_
 refine Ev.X.exit ?_
 refine XEnd.K_exit (XEnd.KL_exit (XEnd.KB_hit (XEnd.K ?_)))
 refine Ev.X.seq ?_
 refine Ev.X.w (W.regD 6 [⟨b5, _, false⟩, ⟨b2, _, false⟩] (by kernel_rfl) (KIn.cons (mem_at (i := 1) rfl) (KIn.cons (mem_at (i := 6) rfl) KIn.nil)) ?_)
 refine WD.q (Q.loadN rfl (mem_at (i := 1) rfl) ag37 sz37 (l := [_, _]) rfl) (OwnE.bq2i hO68) rfl ?_
 refine WD.q (Q.move rfl) bqp rfl ?_
 refine WD.q (Q.nilP rfl) bqp rfl ?_
 refine WD.q (Q.fieldAddr fa132_2 rfl (o' := 2) rfl) bqp rfl ?_
 refine WD.q (Q.l1 rfl (mem_at (i := 0) rfl) ag3 rfl) bq_int rfl ?_
 refine WD.store sz37 rfl rfl (j := 6) rfl (andb rfl (andb rfl (andb (OwnE.cell hO68) rfl))) (cs := [_, _]) rfl (hs' := _ :: _ :: _ :: _ :: _ :: _ :: _ :: _ :: _ :: _ :: _) rfl (fun _ => (KIn.cons (mem_at (i := 1) rfl) (KIn.cons (mem_at (i := 6) rfl) KIn.nil))) ?_
 refine WD.store sz3 rfl rfl (j := 5) rfl rfl (cs := [_]) rfl (hs' := _ :: _ :: _ :: _ :: _ :: _ :: _ :: _ :: _ :: _ :: _) rfl (fun h => by cases h) ?_
 refine WD.store sz38 rfl (oc (v := .int .i64 ((0 : Nat) : Int)) rfl) (j := 4) rfl rfl (cs := [_]) rfl (hs' := _ :: _ :: _ :: _ :: _ :: _ :: _ :: _ :: _ :: _ :: _) rfl (fun h => by cases h) ?_
 refine WD.nil ?_
 refine XEnd.K ?_
 refine Ev.X.ret ?_
 refine XEnd.retR (ResL.agg (c := [_, _]) rfl (mem_at (i := 6) rfl) ag37 sz37 rfl (ResL.one rfl (mem_at (i := 5) rfl) ag3 rfl (ResL.one rfl (mem_at (i := 4) rfl) ag38 rfl ResL.nil))) (hs' := D65 ++ hp68) (.inr ⟨hca, v68, v65, O2, _, hp68, D65, rfl, rfl, hO68, hO2, hO2A, by rw [hO2c, momC_eq, hR2c], hD65⟩) (wa hD65 hO68.w) gc

end Go.Proofs.YtfkbfnpjggkdmaaGreatDoor.Ev
