/- Chapter 14: what a store of one block tells. -/
import Derived.Test.YtfkbfnpjggkdmaaGreatDoorOEa2
import Derived.Test.YtfkbfnpjggkdmaaGreatDoorOAwR
namespace Go.Proofs.YtfkbfnpjggkdmaaGreatDoor.Ev
open Go.RowKit
set_option maxRecDepth 100000
set_option maxHeartbeats 1000000
theorem RSl.inR {hs D : HSt} {R : List Ser} {i : Nat} {v : AV} (h : RSl D R i v) : RSl (ro (hs ++ D)) R i v := h.mono fun b o g => g.app.ro
theorem RAll.inL {hs D : HSt} {R : List Ser} (h : RAll hs R) : RAll (ro (hs ++ D)) R := h.mono fun b o g => g.ap1.ro
theorem cells_of {v : AV} (h : v.isCell = true) : v.cells = [v] := by cases v <;> first | rfl | (cases h)
theorem fill2 {a b : AV} (ha : a.isCell = true) (hb : b.isCell = true) : fillA (fun i => [(0, 1), (1, 1)][i]?) [.nils, .nils] [(0, a), (1, b)] = some [a, b] := by
 simp [fillA, cells_of ha, cells_of hb, layL]
theorem fill1 {v : AV} (h : v.isCell = true) : fillA (fun i => some (i * 1, 1)) (repl 1 AV.nils.cells) [(0, v)] = some [v] := by
 simp only [fillA, cells_of h]; rfl
noncomputable def selR (M : List MtT) (lo hi : Int) (L : List (List Lab × List Smp)) : List (List Lab × List Smp) := L.filterMap fun x => if allB M x.1 = true ∧ 0 < (x.2.filter (btS lo hi)).length then some (x.1, x.2.filter (btS lo hi)) else none
theorem conR_snoc {O : List Ser} {x : Ser} : conR (O ++ [x]) = conR O ++ [(x.2.1, x.2.2.2)] := by unfold conR; rw [List.map_append]; rfl
theorem cR_snoc {O : List Ser} {x : Ser} : cR (O ++ [x]) = cR O ++ [x.1, x.2.2.1] := by rw [cR, c2_append]; rfl
theorem selR_at {R : List Ser} {i : Nat} {M : List MtT} {lo hi : Int} (h : i < R.length) : selR M lo hi (conR (R.take (i + 1))) = selR M lo hi (conR (R.take i)) ++ (if allB M (rg R i).2.1 = true ∧ 0 < ((rg R i).2.2.2.filter (btS lo hi)).length then [((rg R i).2.1, (rg R i).2.2.2.filter (btS lo hi))] else []) := by
 rw [take_snoc R sd0 h, conR_snoc]
 unfold selR
 rw [List.filterMap_append]
 congr 1
 by_cases g : allB M (rg R i).2.1 = true ∧ 0 < ((rg R i).2.2.2.filter (btS lo hi)).length
 ·rw [if_pos g, List.filterMap_cons_some (b := ((rg R i).2.1, (rg R i).2.2.2.filter (btS lo hi))) (by exact if_pos g)]
  rfl
 ·rw [if_neg g, List.filterMap_cons_none (by exact if_neg g)]
  rfl
theorem selR_no {R : List Ser} {i : Nat} {M : List MtT} {lo hi : Int} (h : i < R.length) (g : ¬ (allB M (rg R (0 + i)).2.1 = true ∧ 0 < ((rg R (0 + i)).2.2.2.filter (btS lo hi)).length)) : selR M lo hi (conR (R.take (i + 1))) = selR M lo hi (conR (R.take i)) := by
 rw [Nat.zero_add] at g
 rw [selR_at h, if_neg g, List.append_nil]
theorem selR_yes {R : List Ser} {i : Nat} {M : List MtT} {lo hi : Int} (h : i < R.length) (g : allB M (rg R (0 + i)).2.1 = true) (g2 : 0 < ((rg R (0 + i)).2.2.2.filter (btS lo hi)).length) : selR M lo hi (conR (R.take (i + 1))) = selR M lo hi (conR (R.take i)) ++ [((rg R (0 + i)).2.1, (rg R (0 + i)).2.2.2.filter (btS lo hi))] := by
 rw [Nat.zero_add] at g g2 ⊢
 rw [selR_at h, if_pos ⟨g, g2⟩]
theorem pick_x {O R : List Ser} {G D : HSt} {x : Ser} (h : ∀ x ∈ O, (∃ y ∈ R, x.1 = y.1 ∧ x.2.1 = y.2.1) ∧ SIn G x.2.2.2 x.2.2.1 ∧ SBd x.2.2.2) (h1 : ∃ y ∈ R, x.1 = y.1 ∧ x.2.1 = y.2.1) (h2 : SIn D x.2.2.2 x.2.2.1) (h3 : SBd x.2.2.2) :
  ∀ z ∈ O ++ [x], (∃ y ∈ R, z.1 = y.1 ∧ z.2.1 = y.2.1) ∧ SIn (G ++ D) z.2.2.2 z.2.2.1 ∧ SBd z.2.2.2 := by
 intro z hz
 rcases List.mem_append.1 hz with hz | hz
 ·exact ⟨(h z hz).1, (h z hz).2.1.mono fun b o g => g.ap1, (h z hz).2.2⟩
 ·rw [List.mem_singleton.1 hz]
  exact ⟨h1, h2.mono fun b o g => g.app, h3⟩
theorem all_spec (hs : HSt) (hro : ∀ e ∈ hs, e.w = false) (R : List Ser) (v : AV) (hR : RSl hs R 0 v) (hRA : RAll hs R) (hRb : RBd R) (bB : Nat) (exB : Bool) : Spec tab 60 [.agg [.slice bB 0 1 1, .nils]] [] (⟨bB, ⟨1, exB, [v]⟩, false⟩ :: hs) (fun v D => Own 2 (cR R) R.length v D) := by
 refine Spec.en (ftg 60 Tryz.func60) rfl (m := 24) rfl (rs := [.tmp 2]) rfl (st := [(0, .agg [.slice bB 0 1 1, .nils])]) rfl rfl (fun _ => rfl) (fun E => ?_)
 refine W.seq ?_
 refine W.reg ?_
 refine WO.box rfl rfl (bx95 _ rfl) rfl (fun b1 => ?_)
 refine WO.q (Q.assign rfl) rfl ?_
 refine WO.nil ?_
 refine End.K ?_
 refine W.seq ?_
 refine W.reg ?_
 refine WO.q (Q.assign rfl) rfl ?_
 refine WO.nil ?_
 refine End.K ?_
 refine W.seq ?_
 refine W.seq ?_
 refine W.reg ?_
 refine WO.q (Q.assign (oc (v := .int .i64 ((0 : Nat) : Int)) rfl)) rfl ?_
 refine WO.nil ?_
 refine End.K ?_
 refine W.block ?_
 refine W.loop ?_
 refine W.seq ?_
 refine W.seq ?_
 refine W.reg ?_
 refine WO.q (Q.move rfl) rfl ?_
 refine WO.q (Q.fieldAddr fa95_0 rfl (o' := 0) rfl) rfl ?_
 refine WO.q (Q.l1 rfl (mem_at (i := 0) rfl) ag93 rfl) rfl ?_
 refine WO.q (Q.len ud93 rfl rfl) rfl ?_
 refine WO.q (Q.bin rfl rfl rfl (bvl (p := true) rfl)) rfl ?_
 refine WO.nil ?_
 refine End.K ?_
 refine W.condT rfl ?_
 refine W.skip ?_
 refine End.K ?_
 refine W.seq ?_
 refine W.block ?_
 refine W.reg ?_
 refine WO.q (Q.move rfl) rfl ?_
 refine WO.q (Q.fieldAddr fa95_0 rfl (o' := 0) rfl) rfl ?_
 refine WO.q (Q.l1 rfl (mem_at (i := 0) rfl) ag93 rfl) rfl ?_
 refine WO.q (Q.move rfl) rfl ?_
 refine WO.q (Q.iaddrL ud93 sz22 rfl rfl zo (o' := 0) rfl) rfl ?_
 refine WO.q (Q.l1 rfl (mem_at (i := 1) rfl) ag22 rfl) rfl ?_
 refine WO.call0 rfl (oLc rfl (oLc rfl oz)) rfl (join_nb hs hro R v hR hRA hRb) (SubR.t (SubR.t (SubR.s hro))) rfl (fun v18 D18 hP18 => ?_)
 refine WO.subH (hs' := _ :: _ :: (hs ++ D18)) (SubH.op (perm_tail (N := []) (G := D18) (K := [_, _]) (X := hs))) ?_
 refine WO.q (Q.assign rfl) rfl ?_
 refine WO.nil ?_
 refine End.KB (End.K ?_)
 refine W.sub (SubS.cons (k := 3) rfl (SubS.cons (k := 4) rfl (SubS.cons (k := 1) rfl (SubS.nil _)))) ?_
 refine W.reg ?_
 refine WO.q (Q.move rfl) rfl ?_
 refine WO.q (Q.bin rfl (oc (v := .int .i64 ((1 : Nat) : Int)) rfl) rfl (bv_add (c := (((1 : Nat)) : Int)) (by decide))) rfl ?_
 refine WO.q (Q.assign rfl) rfl ?_
 refine WO.nil ?_
 refine End.KL ?_
 refine W.loop ?_
 refine W.seq ?_
 refine W.seq ?_
 refine W.reg ?_
 refine WO.q (Q.move rfl) rfl ?_
 refine WO.q (Q.fieldAddr fa95_0 rfl (o' := 0) rfl) rfl ?_
 refine WO.q (Q.l1 rfl (mem_at (i := 0) rfl) ag93 rfl) rfl ?_
 refine WO.q (Q.len ud93 rfl rfl) rfl ?_
 refine WO.q (Q.bin rfl rfl rfl (bvl (p := false) rfl)) rfl ?_
 refine WO.nil ?_
 refine End.K ?_
 refine W.condF rfl ?_
 refine W.exit ?_
 refine End.Kx (End.Lx (End.Bh (End.K ?_)))
 refine W.seq ?_
 refine W.reg ?_
 refine WO.q (Q.move rfl) rfl ?_
 refine WO.q (Q.fieldAddr fa95_1 rfl (o' := 1) rfl) rfl ?_
 refine WO.q (Q.l1 rfl (mem_at (i := 0) rfl) ag22 rfl) rfl ?_
 refine WO.cV rfl (oLc rfl oz) rfl ser_nil SubR.nil rfl ?_
 refine WO.call0 rfl (oLc rfl (oLc rfl oz)) rfl (join_an (ro (hs ++ D18)) ro_w R _ (RSl.inR (RSl.own (OwnE.of hP18))) (RAll.inL hRA) hRb) (SubR.ro gc) rfl (fun v23 D23 hP23 => ?_)
 refine WO.subH (hs' := _ :: _ :: (hs ++ D18 ++ D23)) (SubH.op (perm_tail (N := []) (G := D23) (K := [_, _]) (X := hs ++ D18))) ?_
 refine WO.q (Q.assign rfl) rfl ?_
 refine WO.nil ?_
 refine End.K ?_
 refine W.sub (SubS.cons (k := 2) rfl (SubS.nil _)) ?_
 refine W.ret ?_
 refine End.ret (ResL.tmp rfl ResL.nil) (hs' := D23) hP23 hP23.w gc

theorem pick_spec (hs : HSt) (hro : ∀ e ∈ hs, e.w = false) (R : List Ser) (v : AV) (hR : RSl hs R 0 v) (hRA : RAll hs R) (hRb : RBd R) (M : List MtT) (vm : AV) (hM : ISm hs M vm) (hok : MOk M) (lo hi : Int) : Spec tab 59 [v, vm, .int .i64 lo, .int .i64 hi] [] hs (fun v D => ∃ R2, RSl D R2 0 v ∧ (∀ x ∈ R2, (∃ y ∈ R, x.1 = y.1 ∧ x.2.1 = y.2.1) ∧ SIn D x.2.2.2 x.2.2.1 ∧ SBd x.2.2.2) ∧ conR R2 = selR M lo hi (conR R) ∧ R2.length ≤ R.length ∧ ∀ e ∈ D, e.w = true) := by
 have hRl := hRb.1
 refine Spec.en (ftg 59 Tryz.func59) rfl (m := 49) rfl (rs := [.tmp 8]) rfl (st := [(0, v), (1, vm), (2, .int .i64 lo), (3, .int .i64 hi)]) rfl rfl (fun _ => rfl) (fun E => ?_)
 refine W.seq ?_
 refine W.reg ?_
 refine WO.q (Q.assign rfl) rfl ?_
 refine WO.nil ?_
 refine End.K ?_
 refine W.seq ?_
 refine W.reg ?_
 refine WO.q (Q.assign rfl) rfl ?_
 refine WO.nil ?_
 refine End.K ?_
 refine W.seq ?_
 refine W.seq ?_
 refine W.reg ?_
 refine WO.q (Q.assign (oc (v := .int .i64 ((0 : Nat) : Int)) rfl)) rfl ?_
 refine WO.nil ?_
 refine End.K ?_
 refine W.block ?_
 refine W.loop_ind5 (fun (i : Nat) (O : List Ser) (o : AV) (ho : HSt) (G : HSt) => [(0, v), (1, vm), (2, .int .i64 lo), (3, .int .i64 hi), (9, o), (10, .int .i64 ((i : Nat) : Int))]) (fun (i : Nat) (O : List Ser) (o : AV) (ho : HSt) (G : HSt) => (hs ++ G) ++ ho) (fun (i : Nat) (O : List Ser) (o : AV) (ho : HSt) (G : HSt) => i ≤ R.length ∧ OwnE 2 (cR O) O.length o ho ∧ (∀ x ∈ O, (∃ y ∈ R, x.1 = y.1 ∧ x.2.1 = y.2.1) ∧ SIn G x.2.2.2 x.2.2.1 ∧ SBd x.2.2.2) ∧ conR O = selR M lo hi (conR (R.take i)) ∧ (∀ e ∈ G, e.w = true) ∧ O.length ≤ i) (fun (i : Nat) (O : List Ser) (o : AV) (ho : HSt) (G : HSt) => R.length - i) (0) ([]) (.nils) ([]) ([]) ⟨Nat.zero_le _, OwnE.nil 2, fun x h => (by simp at h), rfl, fun e h => no_w h, Nat.zero_le _⟩ (SubS.cons rfl (SubS.cons rfl (SubS.cons rfl (SubS.cons rfl (SubS.cons rfl (SubS.cons rfl (SubS.nil _))))))) gc (fun i O o ho G hI0 ih0 => ?_)
 obtain ⟨hi1, hO, hOx, hOc, hG, hOl⟩ := hI0
 refine W.seq ?_
 refine W.seq ?_
 refine W.reg ?_
 refine WO.q (Q.move rfl) rfl ?_
 refine WO.q (Q.move rfl) rfl ?_
 refine WO.q (Q.len ud22 rfl (RSl.len hR)) rfl ?_
 refine WO.q (Q.bin rfl rfl rfl (bvl ltn)) rfl ?_
 refine WO.nil ?_
 refine End.K ?_
 refine W.cD rfl (fun hc15 => ?_) (fun hc15 => ?_)
 ·skip -- L0T
  obtain ⟨br, szr, exr, rfl, wr, mr⟩ := RSl.full hR (by omega)
  have hm0 := rg_mem (R := R) (i := 0 + i) (by omega)
  have hx := hRA _ hm0
  have hxb := hRb.2 _ hm0
  refine W.skip ?_
  refine End.K ?_
  refine W.seq ?_
  refine W.block ?_
  refine W.seq ?_
  refine W.reg ?_
  refine WO.q (Q.move rfl) rfl ?_
  refine WO.q (Q.move rfl) rfl ?_
  refine WO.q (Q.iS ud22 sz68 rfl rfl zo) rfl ?_
  refine WO.q (Q.fieldAddr fa68_1 rfl rfl) rfl ?_
  refine WO.q (Q.l1 rfl (List.mem_append_left _ (List.mem_append_left _ mr)) ag66 (cR_f1 zo)) rfl ?_
  refine WO.q (Q.move rfl) rfl ?_
  refine WO.q (Q.move rfl) rfl ?_
  refine WO.call0 rfl (oLc rfl (oLc rfl (oLc rfl oz))) rfl (betw_spec hs hro _ _ hx.2 hxb.2 lo hi) (SubR.appl (SubR.appl (SubR.s hro))) rfl (fun v25 D25 hP25 => ?_)
  refine WO.subH (hs' := (hs ++ G ++ ho ++ D25)) (SubH.op (perm_tail (N := []) (G := D25) (K := []) (X := hs ++ G ++ ho))) ?_
  refine WO.q (Q.assign rfl) rfl ?_
  refine WO.nil ?_
  refine End.K ?_
  refine W.seq ?_
  refine W.reg ?_
  refine WO.q (Q.move rfl) rfl ?_
  refine WO.q (Q.move rfl) rfl ?_
  refine WO.q (Q.move rfl) rfl ?_
  refine WO.q (Q.iS ud22 sz68 rfl rfl zo) rfl ?_
  refine WO.q (Q.fieldAddr fa68_0 rfl rfl) rfl ?_
  refine WO.q (Q.l1 rfl (List.mem_append_left _ (List.mem_append_left _ (List.mem_append_left _ mr))) ag63 (cR_f0 zo)) rfl ?_
  refine WO.cV rfl (oLc rfl (oLc rfl oz)) rfl (mall_spec hs hro _ _ hx.1 hxb.1 M _ hM hok) (SubR.appl (SubR.appl (SubR.appl (SubR.s hro)))) rfl ?_
  refine WO.q (Q.move rfl) rfl ?_
  refine WO.split (d := 33) rfl (fun hc33 => ?_) (fun hc33 => ?_)
  ·skip -- L0Tt
   refine WO.gT rfl rfl ?_
   refine WO.q (Q.move rfl) rfl ?_
   refine WO.gT rfl rfl ?_
   refine WO.q (Q.len ud66 rfl hP25.len) rfl ?_
   refine WO.gT rfl rfl ?_
   refine WO.q (Q.bin rfl (oc (v := .int .i64 ((0 : Nat) : Int)) rfl) rfl (bv_gtr ltn)) rfl ?_
   refine WO.q (Q.pT rfl rfl) rfl ?_
   refine WO.nil ?_
   refine End.K ?_
   refine W.sub (SubS.cons (k := 37) rfl (SubS.cons (k := 11) rfl (SubS.cons (k := 0) rfl (SubS.cons (k := 1) rfl (SubS.cons (k := 2) rfl (SubS.cons (k := 3) rfl (SubS.cons (k := 9) rfl (SubS.cons (k := 10) rfl (SubS.nil _))))))))) ?_
   refine W.cD rfl (fun hc37 => ?_) (fun hc37 => ?_)
   ·skip -- L0TtT
    refine W.reg ?_
    refine WO.q (Q.move rfl) rfl ?_
    refine WO.q (Q.move rfl) rfl ?_
    refine WO.q (Q.move rfl) rfl ?_
    refine WO.q (Q.iS ud22 sz68 rfl rfl zo) rfl ?_
    refine WO.q (Q.fieldAddr fa68_0 rfl rfl) rfl ?_
    refine WO.q (Q.l1 rfl (List.mem_append_left _ (List.mem_append_left _ (List.mem_append_left _ mr))) ag63 (cR_f0 zo)) rfl ?_
    refine WO.q (Q.move rfl) rfl ?_
    refine WO.q (Q.build pl68 (opc rfl (opc rfl opn)) rfl (cs := [_, _]) (fill2 (LIn.cell hx.1) (OwnE.of hP25).cell)) rfl ?_
    refine WO.bslice ud22 sz68 zr68 rfl (opc rfl opn) rfl (cs := [_, _]) rfl (ck2 (LIn.cell hx.1) (OwnE.of hP25).cell) rfl (fun b1 => ?_)
    refine WO.subH (hs' := _ :: (hs ++ G ++ D25 ++ ho)) (SubH.op (List.Perm.append_left [_] (List.perm_iff_count.2 (by intro z; simp only [List.append_eq, List.count_append, List.count_nil]; omega)))) ?_
    refine WO.appAny (A := ([] ++ hs ++ G ++ D25)) ap22_22 hO rfl rfl (Src.slice (mem_at (i := 0) rfl) rfl) rfl zo (by decide) (SubH.of_sublist (List.sublist_cons_self _ _)) rfl (fun v47 hp47 hO47 => ?_)
    refine WO.q (Q.assign rfl) rfl ?_
    refine WO.nil ?_
    refine End.KB (End.K ?_)
    refine W.reg ?_
    refine WO.q (Q.move rfl) rfl ?_
    refine WO.q (Q.bin rfl (oc (v := .int .i64 ((1 : Nat) : Int)) rfl) rfl (bv_add (wna zo))) rfl ?_
    refine WO.q (Q.assign rfl) rfl ?_
    refine WO.nil ?_
    refine End.KL ?_
    refine W.sub (SubS.cons rfl (SubS.cons rfl (SubS.cons rfl (SubS.cons rfl (SubS.cons rfl (SubS.cons rfl (SubS.nil _))))))) (W.sH gc (ih0 (i + 1) (O ++ [((rg R (0 + i)).1, (rg R (0 + i)).2.1, v25, (rg R (0 + i)).2.2.2.filter (btS lo hi))]) (v47) (hp47) (G ++ D25) ?_ ?_))
    ·exact ⟨by omega, by rw [cR_snoc, List.length_append]; exact hO47, pick_x hOx ⟨_, hm0, rfl, rfl⟩ (SIn.own (OwnE.of hP25)) (Nat.le_trans (List.length_filter_le _ _) hxb.2), by rw [conR_snoc, hOc, selR_yes (by omega) (by simp_all) (by omega)], wa hG hP25.w, by rw [List.length_append]; simp; omega⟩
    ·exact zo
   ·skip -- L0TtF
    refine W.skip ?_
    refine End.KB (End.K ?_)
    refine W.reg ?_
    refine WO.q (Q.move rfl) rfl ?_
    refine WO.q (Q.bin rfl (oc (v := .int .i64 ((1 : Nat) : Int)) rfl) rfl (bv_add (wna zo))) rfl ?_
    refine WO.q (Q.assign rfl) rfl ?_
    refine WO.nil ?_
    refine End.KL ?_
    refine W.sub (SubS.cons rfl (SubS.cons rfl (SubS.cons rfl (SubS.cons rfl (SubS.cons rfl (SubS.cons rfl (SubS.nil _))))))) (W.sH gc (ih0 (i + 1) (O) (o) (ho) (G) ?_ ?_))
    ·exact ⟨by omega, hO, hOx, by rw [hOc, selR_no (by omega) (by simp_all)], hG, by omega⟩
    ·exact zo
  ·skip -- L0Tf
   refine WO.gF rfl rfl (.inl rfl) rfl ?_
   refine WO.gF rfl rfl (.inl rfl) rfl ?_
   refine WO.gF rfl rfl (.inl rfl) rfl ?_
   refine WO.q (Q.pF rfl rfl) rfl ?_
   refine WO.nil ?_
   refine End.K ?_
   refine W.sub (SubS.cons (k := 37) rfl (SubS.cons (k := 11) rfl (SubS.cons (k := 0) rfl (SubS.cons (k := 1) rfl (SubS.cons (k := 2) rfl (SubS.cons (k := 3) rfl (SubS.cons (k := 9) rfl (SubS.cons (k := 10) rfl (SubS.nil _))))))))) ?_
   refine W.condF rfl ?_
   refine W.skip ?_
   refine End.KB (End.K ?_)
   refine W.reg ?_
   refine WO.q (Q.move rfl) rfl ?_
   refine WO.q (Q.bin rfl (oc (v := .int .i64 ((1 : Nat) : Int)) rfl) rfl (bv_add (wna zo))) rfl ?_
   refine WO.q (Q.assign rfl) rfl ?_
   refine WO.nil ?_
   refine End.KL ?_
   refine W.sub (SubS.cons rfl (SubS.cons rfl (SubS.cons rfl (SubS.cons rfl (SubS.cons rfl (SubS.cons rfl (SubS.nil _))))))) (W.sH gc (ih0 (i + 1) (O) (o) (ho) (G) ?_ ?_))
   ·exact ⟨by omega, hO, hOx, by rw [hOc, selR_no (by omega) (by simp_all)], hG, by omega⟩
   ·exact zo
 ·skip -- L0F
  refine W.exit ?_
  refine End.Kx (End.Lx (End.Bh (End.K ?_)))
  refine W.seq ?_
  refine W.reg ?_
  refine WO.q (Q.move rfl) rfl ?_
  refine WO.q (Q.assign rfl) rfl ?_
  refine WO.nil ?_
  refine End.K ?_
  refine W.ret ?_
  refine End.ret (ResL.tmp rfl ResL.nil) (hs' := G ++ ho) ⟨O, (RSl.own hO).mono (fun b o h => h.app), fun x hx => ⟨(hOx x hx).1, (hOx x hx).2.1.mono (fun b o h => h.ap1), (hOx x hx).2.2⟩, by rw [hOc, List.take_of_length_le (by omega)], by omega, wa hG hO.w⟩ (wa hG hO.w) gc
theorem and1 {v : AV} (h : v.isCell = true) : (v.isCell && true) = true := by rw [h]; rfl
theorem SubR.cons0 {b : Nat} {o : AObj} {w : Bool} {a hs : HSt} (g : SubR a hs) : SubR (⟨b, o, false⟩ :: a) (⟨b, o, w⟩ :: hs) := by
 refine ⟨fun e he => ?_, fun hn => ?_⟩
 ·rcases List.mem_cons.1 he with rfl | he
  ·exact ⟨rfl, w, List.mem_cons_self⟩
  ·obtain ⟨h1, w', h2⟩ := g.1 e he
   exact ⟨h1, w', List.mem_cons_of_mem _ h2⟩
 ·rw [List.map_cons, List.nodup_cons] at hn ⊢
  refine ⟨fun hm => hn.1 ?_, g.2 hn.2⟩
  obtain ⟨e, he, hb⟩ := List.mem_map.1 hm
  obtain ⟨_, w', h2⟩ := g.1 e he
  exact List.mem_map.2 ⟨_, h2, hb⟩
theorem OwnE.bq2 {sz sz' : Nat} {cells cells' : List AV} {len len' : Nat} {v u : AV} {hp hp' : HSt} (h : OwnE sz cells len v hp) (g : OwnE sz' cells' len' u hp') : (AV.agg [v, u]).beq (.agg [v, u]) = true := by
 rcases h with ⟨_, _, rfl, _⟩ | ⟨b, ex, rfl, _, _⟩ <;> rcases g with ⟨_, _, rfl, _⟩ | ⟨c, ex', rfl, _, _⟩ <;> simp [AV.beq, beq1, beq0, beqz, beqL]
theorem src_x {O : List Ser} {G D1 D2 : HSt} {x : Ser} (h : RAll G O) (h1 : LIn D1 x.2.1 x.1) (h2 : SIn D2 x.2.2.2 x.2.2.1) : RAll ((G ++ D1) ++ D2) (O ++ [x]) := by
 intro z hz
 rcases List.mem_append.1 hz with hz | hz
 ·exact ⟨(h z hz).1.mono fun b o g => g.ap1.ap1, (h z hz).2.mono fun b o g => g.ap1.ap1⟩
 ·rw [List.mem_singleton.1 hz]
  exact ⟨h1.mono fun b o g => g.app.ap1, h2.mono fun b o g => g.app⟩
noncomputable def selS (M : List MtT) (lo hi : Int) (L : List (List Lab × List Smp)) : List (List Lab × List Smp) := if caV M ≠ 0 then [] else selR M lo hi L
theorem sel_spec (hs : HSt) (hro : ∀ e ∈ hs, e.w = false) (R : List Ser) (v : AV) (hR : RSl hs R 0 v) (hRA : RAll hs R) (hRb : RBd R) (M : List MtT) (vm : AV) (hM : ISm hs M vm) (hok : MOk M) (lo hi : Int) (bB : Nat) (exB : Bool) : Spec tab 35 [.agg [.slice bB 0 1 1, .nils], vm, .int .i64 lo, .int .i64 hi] [] (⟨bB, ⟨1, exB, [v]⟩, false⟩ :: hs) (fun v D => ∃ u R2, v = .tuple [u, .int .i64 (caV M)] ∧ RSl D R2 0 u ∧ (∀ x ∈ R2, (∃ y ∈ R, x.1 = y.1 ∧ x.2.1 = y.2.1) ∧ SIn D x.2.2.2 x.2.2.1 ∧ SBd x.2.2.2) ∧ conR R2 = selS M lo hi (conR R) ∧ R2.length ≤ R.length ∧ ∀ e ∈ D, e.w = true) := by
 refine Spec.en (ftg 35 Tryz.func35) rfl (m := 22) rfl (rs := [.tmp 8, .tmp 9]) rfl (st := [(0, .agg [.slice bB 0 1 1, .nils]), (1, vm), (2, .int .i64 lo), (3, .int .i64 hi)]) rfl rfl (fun _ => rfl) (fun E => ?_)
 refine W.seq ?_
 refine W.reg ?_
 refine WO.box rfl rfl (bx95 _ rfl) rfl (fun b1 => ?_)
 refine WO.q (Q.assign rfl) rfl ?_
 refine WO.q (Q.assign (oc (v := .int .i64 ((0 : Nat) : Int)) rfl)) rfl ?_
 refine WO.nil ?_
 refine End.K ?_
 refine W.seq ?_
 refine W.seq ?_
 refine W.reg ?_
 refine WO.q (Q.move rfl) rfl ?_
 refine WO.cV rfl (oLc rfl oz) rfl (mca_spec hs hro M _ hM hok) (SubR.t (SubR.t (SubR.s hro))) rfl ?_
 refine WO.q (Q.assign rfl) rfl ?_
 refine WO.nil ?_
 refine End.K ?_
 refine W.seq ?_
 refine W.reg ?_
 refine WO.q (Q.move rfl) rfl ?_
 refine WO.q (Q.bin rfl (oc (v := .int .i64 ((0 : Nat) : Int)) rfl) rfl (bv_neq ne_int)) rfl ?_
 refine WO.nil ?_
 refine End.K ?_
 refine W.cD rfl (fun hc14 => ?_) (fun hc14 => ?_)
 ·skip -- T
  refine W.seq ?_
  refine W.reg ?_
  refine WO.q (Q.move rfl) rfl ?_
  refine WO.q (Q.assign rfl) rfl ?_
  refine WO.q (Q.assign rfl) rfl ?_
  refine WO.nil ?_
  refine End.K ?_
  refine W.ret ?_
  refine End.Kr (End.ret (ResL.tmp rfl (ResL.tmp rfl ResL.nil)) (hs' := []) ⟨_, [], rfl, .inl ⟨rfl, rfl⟩, fun x h => (by simp at h), (by unfold selS; rw [if_pos (by simp_all)]; rfl), Nat.zero_le _, no_wl⟩ no_wl gc)
 ·skip -- F
  refine W.skip ?_
  refine End.K ?_
  refine W.seq ?_
  refine W.reg ?_
  refine WO.q (Q.loadN rfl (mem_at (i := 0) rfl) ag95 sz95 (l := [_, _]) rfl) rfl ?_
  refine WO.call0 rfl (oLc rfl oz) rfl (all_spec hs hro R v hR hRA hRb bB exB) (SubR.t (SubR.cons0 (SubR.s hro))) rfl (fun v17 D17 hP17 => ?_)
  refine WO.subH (hs' := _ :: _ :: (hs ++ D17)) (SubH.op (perm_tail (N := []) (G := D17) (K := [_, _]) (X := hs))) ?_
  refine WO.q (Q.move rfl) rfl ?_
  refine WO.q (Q.move rfl) rfl ?_
  refine WO.q (Q.move rfl) rfl ?_
  refine WO.call0 rfl (oLc rfl (oLc rfl (oLc rfl (oLc rfl oz)))) rfl (pick_spec (ro (hs ++ D17)) ro_w R _ (RSl.inR (RSl.own (OwnE.of hP17))) (RAll.inL hRA) hRb M _ (hM.mono (fun b o h => h.ap1.ro)) hok lo hi) (SubR.ro gc) rfl (fun v21 D21 hP21 => ?_)
  refine WO.subH (hs' := _ :: _ :: (hs ++ D17 ++ D21)) (SubH.op (perm_tail (N := []) (G := D21) (K := [_, _]) (X := hs ++ D17))) ?_
  refine WO.q (Q.assign rfl) rfl ?_
  refine WO.q (Q.assign (oc (v := .int .i64 ((0 : Nat) : Int)) rfl)) rfl ?_
  refine WO.nil ?_
  refine End.K ?_
  refine W.sub (SubS.cons (k := 9) rfl (SubS.cons (k := 8) rfl (SubS.nil _))) ?_
  refine W.ret ?_
  refine End.ret (ResL.tmp rfl (ResL.tmp rfl ResL.nil)) (hs' := D21) (by obtain ⟨R2, g1, g2, g3, g4, g5⟩ := hP21; exact ⟨_, R2, by simp_all; rfl, g1, g2, by unfold selS; rw [if_neg (by simp_all)]; exact g3, g4, g5⟩) (by obtain ⟨_, _, _, _, _, g5⟩ := hP21; exact g5) gc

theorem src_spec (hs : HSt) (hro : ∀ e ∈ hs, e.w = false) (R : List Ser) (v : AV) (hR : RSl hs R 0 v) (hRA : RAll hs R) (hRb : RBd R) (M : List MtT) (vm : AV) (hM : ISm hs M vm) (hok : MOk M) (lo hi : Int) (bx : Nat) (exx : Bool) : Spec tab 34 [vm, .int .i64 lo, .int .i64 hi, .ptr bx 0] [] (⟨bx, ⟨1, exx, [v]⟩, false⟩ :: hs) (fun v D => ∃ u R2, v = .tuple [u, .int .i64 (caV M)] ∧ RSl D R2 0 u ∧ RAll D R2 ∧ conR R2 = selS M lo hi (conR R) ∧ R2.length ≤ R.length ∧ ∀ e ∈ D, e.w = true) := by
 have hRl := hRb.1
 refine Spec.en (ftg 34 Tryz.func34) rfl (m := 49) rfl (rs := [.tmp 7, .tmp 8]) rfl (st := [(0, vm), (1, .int .i64 lo), (2, .int .i64 hi), (3, .ptr bx 0)]) rfl rfl (fun _ => rfl) (fun E => ?_)
 refine W.seq ?_
 refine W.reg ?_
 refine WO.q (Q.assign rfl) rfl ?_
 refine WO.q (Q.assign (oc (v := .int .i64 ((0 : Nat) : Int)) rfl)) rfl ?_
 refine WO.nil ?_
 refine End.K ?_
 refine W.seq ?_
 refine W.reg ?_
 refine WO.q (Q.l1 rfl (mem_at (i := 0) rfl) ag22 rfl) rfl ?_
 refine WO.bslice ud93 sz22 zr22 rfl (opc rfl opn) rfl (cs := [_]) (fill1 (RSl.cell hR)) (and1 (RSl.cell hR)) rfl (fun b1 => ?_)
 refine WO.q (Q.build pl95 (opc rfl opn) rfl (cs := [_, _]) rfl) rfl ?_
 refine WO.q (Q.move rfl) rfl ?_
 refine WO.q (Q.move rfl) rfl ?_
 refine WO.q (Q.move rfl) rfl ?_
 refine WO.call0 rfl (oLc rfl (oLc rfl (oLc rfl (oLc rfl oz)))) rfl (sel_spec hs hro R v hR hRA hRb M vm hM hok lo hi b1 true) (SubR.cons0 (SubR.t (SubR.s hro))) rfl (fun v20 D20 hP20 => ?_)
 obtain ⟨u, R2, rfl, hR2, hR2x, hR2c, hR2l, hD20⟩ := hP20
 refine WO.subH (hs' := _ :: _ :: (hs ++ D20)) (SubH.op (perm_tail (N := []) (G := D20) (K := [_, _]) (X := hs))) ?_
 refine WO.q (Q.move rfl) rfl ?_
 refine WO.q (Q.extract rfl rfl) rfl ?_
 refine WO.q (Q.extract rfl rfl) rfl ?_
 refine WO.q (Q.assign rfl) rfl ?_
 refine WO.q (Q.assign rfl) rfl ?_
 refine WO.nil ?_
 refine End.K ?_
 refine W.sub (SubS.cons (k := 10) rfl (SubS.cons (k := 9) rfl (SubS.nil _))) ?_
 refine W.seq ?_
 refine W.reg ?_
 refine WO.q (Q.assign rfl) rfl ?_
 refine WO.nil ?_
 refine End.K ?_
 refine W.seq ?_
 refine W.seq ?_
 refine W.reg ?_
 refine WO.q (Q.assign (oc (v := .int .i64 ((0 : Nat) : Int)) rfl)) rfl ?_
 refine WO.nil ?_
 refine End.K ?_
 refine W.block ?_
 refine W.loop_ind5 (fun (i : Nat) (O : List Ser) (o : AV) (ho : HSt) (G : HSt) => [(9, u), (10, .int .i64 (caV M)), (11, o), (12, .int .i64 ((i : Nat) : Int))]) (fun (i : Nat) (O : List Ser) (o : AV) (ho : HSt) (G : HSt) => ((hs ++ D20) ++ G) ++ ho) (fun (i : Nat) (O : List Ser) (o : AV) (ho : HSt) (G : HSt) => i ≤ R2.length ∧ OwnE 2 (cR O) O.length o ho ∧ RAll G O ∧ conR O = conR (R2.take i) ∧ (∀ e ∈ G, e.w = true) ∧ O.length = i) (fun (i : Nat) (O : List Ser) (o : AV) (ho : HSt) (G : HSt) => R2.length - i) (0) ([]) (.nils) ([]) ([]) ⟨Nat.zero_le _, OwnE.nil 2, fun x h => (by simp at h), rfl, no_wl, rfl⟩ (SubS.cons rfl (SubS.cons rfl (SubS.cons rfl (SubS.cons rfl (SubS.nil _))))) gc (fun i O o ho G hI0 ih0 => ?_)
 obtain ⟨hi1, hO, hOx, hOc, hG, hOl⟩ := hI0
 refine W.seq ?_
 refine W.seq ?_
 refine W.reg ?_
 refine WO.q (Q.move rfl) rfl ?_
 refine WO.q (Q.move rfl) rfl ?_
 refine WO.q (Q.len ud22 rfl (RSl.len hR2)) rfl ?_
 refine WO.q (Q.bin rfl rfl rfl (bvl ltn)) rfl ?_
 refine WO.nil ?_
 refine End.K ?_
 refine W.cD rfl (fun hc26 => ?_) (fun hc26 => ?_)
 ·skip -- L0T
  have hm0 := rg_mem (R := R2) (i := 0 + i) (by omega)
  obtain ⟨⟨y, hy, hy1, hy2⟩, hx2, hx3⟩ := hR2x _ hm0
  have hx4 : (rg R2 (0 + i)).2.2.2.length ≤ 1048576 := hx3
  have hx1 : LIn hs (rg R2 (0 + i)).2.1 (rg R2 (0 + i)).1 := by rw [hy1, hy2]; exact (hRA y hy).1
  have hxl := (hRb.2 y hy).1.1
  rw [← hy2] at hxl
  obtain ⟨bl, szl, exl, rfl, wl, ml⟩ := RSl.full hR2 (by omega)
  refine W.skip ?_
  refine End.K ?_
  refine W.seq ?_
  refine W.block ?_
  refine W.regG (D20) [1, 2, 3, 4, 5, 6, 7, 8, 9, 10, 11, 12, 13, 14, 0, 15, 16, 17, 18] (by kernel_rfl) (fun e he => ⟨e.w, by obtain ⟨b, o, w⟩ := e; simp [he]⟩) (fun base => ?_)
  refine WG.bslice ud63 sz70 zr70 rfl opn rfl (cs := []) rfl rfl rfl (fun e he => ⟨e.w, by obtain ⟨b, o, w⟩ := e; simp [he]⟩) rfl (fun b2 => ?_)
  refine WG.q (Q.move rfl) bqs rfl ?_
  refine WG.q (Q.move rfl) bq_int rfl ?_
  refine WG.q (Q.iS ud22 sz68 rfl rfl zo) bqp rfl ?_
  refine WG.q (Q.fieldAddr fa68_0 rfl rfl) bqp rfl ?_
  refine WG.q (Q.l1 rfl ml ag63 (cR_f0 zo)) (LIn.bq hx1) rfl ?_
  refine WG.appAny (A := _) ap63_63 (OwnE.cons rfl) rfl rfl (Src.mono (fun e he => ⟨e.w, by obtain ⟨b, o, w⟩ := e; simp [he]⟩) (Src.lin hx1)) (cL_len _) (by omega) (by decide) (SubH.op (List.perm_append_singleton _ _)) rfl (fun e he => ⟨e.w, by obtain ⟨b, o, w⟩ := e; simp [he]⟩) (fun v36 hp36 hO36 => ?_)
  refine WG.bslice ud66 sz72 zr72 rfl opn rfl (cs := []) rfl rfl rfl (fun e he => ⟨e.w, by obtain ⟨b, o, w⟩ := e; simp [he]⟩) rfl (fun b3 => ?_)
  refine WG.q (Q.move rfl) bqs rfl ?_
  refine WG.q (Q.move rfl) bq_int rfl ?_
  refine WG.q (Q.iS ud22 sz68 rfl rfl zo) bqp rfl ?_
  refine WG.q (Q.fieldAddr fa68_1 rfl rfl) bqp rfl ?_
  refine WG.q (Q.l1 rfl ml ag66 (cR_f1 zo)) (SIn.bq hx2) rfl ?_
  refine WG.appAny (A := _) ap66_66 (OwnE.cons rfl) rfl rfl (Src.mono (fun e he => ⟨e.w, by obtain ⟨b, o, w⟩ := e; simp [he]⟩) (Src.sin hx2)) (cS_len _) (by omega) (by decide) (SubH.op (List.perm_append_singleton _ _)) rfl (fun e he => ⟨e.w, by obtain ⟨b, o, w⟩ := e; simp [he]⟩) (fun v43 hp43 hO43 => ?_)
  refine WG.q (Q.move rfl) (OwnE.bq hO) rfl ?_
  refine WG.q (Q.build pl68 (opc rfl (opc rfl opn)) rfl (cs := [_, _]) (fill2 (OwnE.cell hO36) (OwnE.cell hO43))) (OwnE.bq2 hO36 hO43) rfl ?_
  refine WG.bslice ud22 sz68 zr68 rfl (opc rfl opn) rfl (cs := [_, _]) rfl (ck2 (OwnE.cell hO36) (OwnE.cell hO43)) rfl (fun e he => ⟨e.w, by obtain ⟨b, o, w⟩ := e; simp [he]⟩) rfl (fun b4 => ?_)
  refine WG.subH (hs' := _ :: (hs ++ D20 ++ G ++ hp36 ++ hp43 ++ ho)) (SubH.op (List.Perm.append_left [_] (List.perm_iff_count.2 (by intro z; simp only [List.append_eq, List.count_append, List.count_nil]; omega)))) ?_
  refine WG.appAny (A := ([] ++ hs ++ D20 ++ G ++ hp36 ++ hp43)) ap22_22 hO rfl rfl (Src.slice (mem_at (i := 0) rfl) rfl) rfl (by omega) (by decide) (SubH.of_sublist (List.sublist_cons_self _ _)) rfl (fun e he => ⟨e.w, by obtain ⟨b, o, w⟩ := e; simp [he]⟩) (fun v46 hp46 hO46 => ?_)
  refine WG.q (Q.assign rfl) (OwnE.bq hO46) rfl ?_
  refine WG.nil ?_
  refine End.KB (End.K ?_)
  refine W.sub (SubS.cons (k := 11) rfl (SubS.cons (k := 9) rfl (SubS.cons (k := 10) rfl (SubS.cons (k := 12) rfl (SubS.nil _))))) ?_
  refine W.reg ?_
  refine WO.q (Q.move rfl) rfl ?_
  refine WO.q (Q.bin rfl (oc (v := .int .i64 ((1 : Nat) : Int)) rfl) rfl (bv_add (wna zo))) rfl ?_
  refine WO.q (Q.assign rfl) rfl ?_
  refine WO.nil ?_
  refine End.KL ?_
  refine W.sub (SubS.cons rfl (SubS.cons rfl (SubS.cons rfl (SubS.cons rfl (SubS.nil _))))) (W.sH gc (ih0 (i + 1) (O ++ [(v36, (rg R2 (0 + i)).2.1, v43, (rg R2 (0 + i)).2.2.2)]) (v46) (hp46) ((G ++ hp36) ++ hp43) ?_ ?_))
  ·exact ⟨by omega, by rw [cR_snoc, List.length_append]; exact hO46, src_x hOx (LIn.own (by simpa using hO36)) (SIn.own (by simpa using hO43)), by rw [conR_snoc, hOc, Nat.zero_add, take_snoc R2 sd0 (by omega), conR_snoc]; rfl, wa (wa hG hO36.w) hO43.w, by simp; omega⟩
  ·exact zo
 ·skip -- L0F
  refine W.exit ?_
  refine End.Kx (End.Lx (End.Bh (End.K ?_)))
  refine W.seq ?_
  refine W.reg ?_
  refine WO.q (Q.move rfl) rfl ?_
  refine WO.q (Q.move rfl) rfl ?_
  refine WO.q (Q.assign rfl) rfl ?_
  refine WO.q (Q.assign rfl) rfl ?_
  refine WO.nil ?_
  refine End.K ?_
  refine W.ret ?_
  refine End.ret (ResL.tmp rfl (ResL.tmp rfl ResL.nil)) (hs' := G ++ ho) ⟨_, O, rfl, (RSl.own hO).mono (fun b o h => h.app), hOx.mono (fun b o h => h.ap1), by rw [hOc, List.take_of_length_le (by omega), hR2c], by omega, wa hG hO.w⟩ (wa hG hO.w) gc
noncomputable section
variable {tb : Tab} {n : Nat} {E : Env} {s : St} {hs : HSt} {R : T AV → AHeap → Prop} {ops rest : List Oper} {d : Nat} {ty : TypeId} {pos : String} {aft : Array Edge} {i : Nat}
def WC (tb : Tab) (n : Nat) (ops : List Oper) (i : Nat) (rest : List Oper) (E : Env) (s : St) (hs : HSt) (R : T AV → AHeap → Prop) : Prop :=
 ∀ tm h, Has tm s → HS E hs h → ∃ es tm', evTrace tb (callOf (callE tb)) n ops i rest tm h = some (es, [], tm', h) ∧ ∀ TM, SubT tm' TM → R TM h
theorem WC.nil (h : End E s hs R) : WC tb n ops i [] E s hs R := fun tm hp ht hh => ⟨[], tm, rfl, fun TM hT => h TM hp (ht.mono hT) hh⟩
theorem WC.q {op : Op} {v : AV} (hq : QV tb s hs op v) (hd : Nat.blt d n = true) (hk : WC tb n ops (i + 1) rest E ((d, v) :: s) hs R) : WC tb n ops i (⟨some d, op, ty, pos, aft, none⟩ :: rest) E s hs R := by
 intro tm h ht hh
 obtain ⟨es, tm', he, hR⟩ := hk _ _ (ht.set d v) hh
 refine ⟨⟨i, ⟨some d, op, ty, pos, aft, none⟩, tm, v, 1⟩ :: es, tm', ?_, hR⟩
 have h1 : ev1 tb (callOf (callE tb)) ops tm h ⟨some d, op, ty, pos, aft, none⟩ = some (v, h, 1) := by
  unfold ev1
  have : wantedA ops tm ⟨some d, op, ty, pos, aft, none⟩ = some true := rfl
  rw [this]
  simp only [hq tm h ht hh.keep (callOf (callE tb))]
 unfold evTrace
 simp only [h1, putDst_at hd, he]
 rfl
theorem W.regC {Q : Ex → T AV → AHeap → Prop} {id : Nat} {l : List Oper} (hst : (drawOk l && !(drawFree l) && !(wantsFloat l)) = true) (h : WC tb n l 0 l E s hs (Q .normal)) : W tb n (.region id l.toArray true) E s hs Q := by
 intro tm hp ht hh
 obtain ⟨es, tm1, he, hR⟩ := h tm hp ht hh
 simp only [Bool.and_eq_true, Bool.not_eq_true'] at hst
 have hd : evDraw tb (callOf (callE tb)) n l tm hp = some (tm1, hp) := by
  unfold evDraw
  simp only [hst.1.1, hst.1.2, hst.2, he]
 obtain ⟨TM, g1, g2⟩ := evDraw_mono (callE_ok tb) (SubT.refl tm) hd
 refine ⟨.normal, TM, hp, g2.step fun K hK => ?_, hR TM g1⟩
 rw [run_succ]
 unfold evCode
 simp only [hK]
theorem WD.box {keep : HSt} {m : Nat} {t : TypeId} {ox : Operand} {v : AV} {ob : AObj} (hx : oL s ox = some v) (hc : v.cells.all AV.isCell = true) (ho : varObj tb t v.cells = ob) (hd : Nat.blt d n = true) (hkp : KIn keep hs) (hk : ∀ b, WD tb n ops keep m (i + 1) rest E ((d, .ptr b 0) :: s) (⟨b, ob, true⟩ :: hs) R) :
  WD tb n ops keep m i (⟨some d, .box t ox, ty, pos, aft, none⟩ :: rest) E s hs R :=
 WD.l (C := fun v' hs' => ∃ b, v' = .ptr b 0 ∧ hs' = ⟨b, ob, true⟩ :: hs) (fun tm h r e => by cases e) (fun R hR => WO.box hx hc ho hd fun b => WO.nil (hR _ _ ⟨b, rfl, rfl⟩))
  (fun v' hs' ⟨b, _, h2⟩ _ => by subst h2; exact fun e he => let ⟨w, hm⟩ := hkp e he; ⟨w, List.mem_cons_of_mem _ hm⟩) (fun v' hs' ⟨b, h1, h2⟩ => by subst h1 h2; exact hk b)
end
end Go.Proofs.YtfkbfnpjggkdmaaGreatDoor.Ev
