/- Chapter 20, walks: what a plan means. -/
import Derived.Test.YtndhhgbpcmfeiaaGreatDoorGGg
import Derived.Test.YtndhhgbpcmfeiaaGreatDoorGGf
namespace Go.Proofs.YtndhhgbpcmfeiaaGreatDoor.Ev
open Go.RowKit
set_option linter.unusedVariables false
set_option linter.unusedSimpArgs false
set_option maxRecDepth 100000
set_option maxHeartbeats 1000000
theorem WO.box1 {tb : Tab} {n : Nat} {E : Env} {s : St} {hs : HSt} {R : T AV → AHeap → Prop} {ops rest : List Oper} {d : Nat} {t : TypeId} {ty : TypeId} {pos : String} {aft : Array Edge} {ox : Operand} {v : AV} {ob : AObj} (hx : oL s ox = some v) (hc : v.isCell = true) (ho : varObj tb t [v] = ob) (hd : Nat.blt d n = true)
    (hk : ∀ b, WO tb n ops rest E ((d, .ptr b 0) :: s) (⟨b, ob, true⟩ :: hs) R) : WO tb n ops (⟨some d, .box t ox, ty, pos, aft, none⟩ :: rest) E s hs R := by
  have e : v.cells = [v] := cells_cell hc
  exact WO.box hx (by rw [e]; simp [hc]) (by rw [e]; exact ho) hd hk
/-- One cell, that is like itself. -/
structure CQ (v : AV) : Prop where
  cell : v.isCell = true
  bq0 : beq0 v v = true
theorem CQ.bq {v : AV} (h : CQ v) : v.beq v = true := by
  have h1 := h.cell
  have h2 := h.bq0
  cases v <;> first | exact h2 | cases h1 | (simp [AV.beq, beq1, beq0] at *; done) | skip
  all_goals (rename_i fn l; cases l <;> simp [AV.beq, beq1, beq0, beqL] at *)
theorem RIn.cq {hs : HSt} {sz n : Nat} {cells : List AV} {v : AV} (h : RIn hs sz n cells v) : CQ v := ⟨h.cell, h.bq0⟩
section
variable {d : ND} {vm vn vk : AV} {hs Dm Dn D13 hp hl D : HSt} {L : List IE} {i j q k : Nat} {t : TD} {c : List AV} {cs : List (List AV)} {u v : AV}
theorem nd_all (hm : vm.isCell = true) (hn : vn.isCell = true) (hk : vk.isCell = true) : ((d.c vm vn vk).all AV.isCell) = true := nd_cells hm hn hk
theorem TRep.opn (h : TRep hs t c) : ∃ (d : ND) (vm vn vk : AV), c = d.c vm vn vk ∧ CQ vm ∧ CQ vn ∧ CQ vk ∧ Bytes d.op := by
  cases t with
  | node d ks =>
    rw [TRep] at h
    obtain ⟨vm, vn, vk, cs, rfl, h2, h3, h4, h5, _⟩ := h
    exact ⟨d, vm, vn, vk, rfl, h2.cq, h3.cq, h4.cq, h5.1⟩
theorem treps_nil : TReps hs [] [] := by rw [TReps]
theorem kids_own {x : List AV} (h : OwnE 11 (cs.flatMap id ++ x) (cs.length + 1) v hp) : OwnE 11 ((cs ++ [x]).flatMap id) (cs ++ [x]).length v hp := by
  rw [List.flatMap_append, List.length_append]
  simpa using h
theorem kids_snoc (hj : j < (ei L i).ars.length) (hR : TReps hl (((ei L i).ars.take j).map fun a => treeM L a.toNat) cs) (h : TRep D (treeM L (ai (ei L i).ars j).toNat) c) :
    TReps (hl ++ D) (((ei L i).ars.take (j + 1)).map fun a => treeM L a.toNat) (cs ++ [c]) := by
  rw [List.take_add_one, ai_at hj, List.map_append]
  exact TReps.snoc (TReps.mono (fun b o q => q.appl') hR) (TRep.mono (fun b o q => q.app) h)
theorem grow_fin (hok : ∀ i, i < L.length → okI L i = true) (hi : i < L.length) (hB : IBd (ei L i)) (hm : OwnE 3 (cM (ei L i).d.ms) (ei L i).d.ms.length vm Dm) (hn : OwnE 1 (cS (ei L i).d.nm) (ei L i).d.nm.length vn Dn) (hD : D13 = Dm ++ Dn) (hO : OwnE 11 (cs.flatMap id) cs.length u hp)
    (hR : TReps hl ((ei L i).ars.map fun a => treeM L a.toNat) cs) : TRep (D13 ++ hp ++ hl) (treeM L i) ((ei L i).d.c vm vn u) := by
  rw [treeM_eq hok hi, TRep, hD]
  have hl' := hR.length
  refine ⟨vm, vn, u, cs, rfl, (RIn.own hm).appl.appl.appl, (RIn.own hn).app.appl.appl, ?_, hB.d, ?_, TReps.mono (fun b o q => q.app) hR⟩
  · rw [← hl']; exact (RIn.own hO).app.appl
  · have := hB.a; rw [List.length_map]; exact this
theorem zero_rep : TRep [] zeroT [.int .i64 0, .str [], .int .i64 0, .nils, .int .i64 0, .int .i64 0, .int .i64 0, .nils, .int .i64 0, .bool false, .nils] := by
  rw [zeroT, TRep]
  exact ⟨.nils, .nils, .nils, [], rfl, RIn.nil, RIn.nil, RIn.nil, ⟨by unfold Bytes; simp [ND.zero], ⟨by simp [ND.zero], fun m hm => by simp [ND.zero] at hm⟩, ⟨by simp [ND.zero], fun m hm => by simp [ND.zero] at hm⟩⟩, by simp, by rw [TReps]⟩
/-- How many nodes, as far as they were counted. -/
def szA (L : List IE) (i j : Nat) : Nat := if j < i then szM L j else 0
def szP (L : List IE) (i q : Nat) : Nat := ((ei L i).ars.take q).foldl (fun n a => min 4097 (n + szM L a.toNat)) 1
def szB (L : List IE) (i q j : Nat) : Nat := if j = i then szP L i q else szA L i j
theorem sz_0 : cN (fun _ => 0) L.length = cN (fun j => ((szA L 0 j : Nat) : Int)) L.length := cN_congr fun j _ => by unfold szA; rw [if_neg (by omega)]; rfl
theorem sz_lay0 (h : i < L.length) : layL (cN (fun j => ((szA L i j : Nat) : Int)) L.length) ((0 + i) * 1) (AV.int .i64 ((1 : Nat) : Int)).cells = cN (fun j => ((szB L i 0 j : Nat) : Int)) L.length := by
  rw [cN_lay h]
  refine cN_congr fun j _ => ?_
  unfold szB
  by_cases e : j = i
  · rw [if_pos e, if_pos e]; rfl
  · rw [if_neg e, if_neg e]
theorem fold_le {f : Int → Nat} : ∀ {l : List Int} {n : Nat}, n ≤ 4097 → l.foldl (fun n a => min 4097 (n + f a)) n ≤ 4097
  | [], n, h => h
  | a :: l, n, h => by rw [List.foldl_cons]; exact fold_le (by omega)
theorem szP_le : szP L i q ≤ 4097 := fold_le (by omega)
theorem szM_le : szM L j ≤ 4097 := by
  unfold szM
  exact fold_le (f := fun a => szF L j a.toNat) (by omega)
theorem szB_le (j : Nat) : szB L i q j ≤ 4097 := by
  unfold szB
  split
  · exact szP_le
  · unfold szA
    split
    · exact szM_le
    · omega
theorem sz_lay (hok : ∀ i, i < L.length → okI L i = true) (h : i < L.length) (hq : q < (ei L i).ars.length) : layL (cN (fun j => ((szB L i q j : Nat) : Int)) L.length) ((0 + i) * 1) (AV.int .i64 ((min 4097 (szB L i q i + szB L i q (ai (ei L i).ars q).toNat) : Nat) : Int)).cells = cN (fun j => ((szB L i (q + 1) j : Nat) : Int)) L.length := by
  rw [cN_lay h]
  refine cN_congr fun j _ => ?_
  have ha := ok_ar (hok i h) (ai_mem hq)
  by_cases e : j = i
  · subst e
    rw [if_pos rfl]
    have e1 : szB L j q j = szP L j q := if_pos rfl
    have e2 : szB L j (q + 1) j = szP L j (q + 1) := if_pos rfl
    have e3 : szB L j q (ai (ei L j).ars q).toNat = szM L (ai (ei L j).ars q).toNat := by
      unfold szB szA
      rw [if_neg (by omega), if_pos (by omega)]
    rw [e1, e2, e3]
    unfold szP
    rw [List.take_add_one, ai_at hq, List.foldl_append]; rfl
  · rw [if_neg e]
    unfold szB
    rw [if_neg e, if_neg e]
theorem sz_end (hok : ∀ i, i < L.length → okI L i = true) (h : i < L.length) : cN (fun j => ((szB L i (ei L i).ars.length j : Nat) : Int)) L.length = cN (fun j => ((szA L (i + 1) j : Nat) : Int)) L.length := by
  refine cN_congr fun j _ => ?_
  unfold szB szA
  by_cases e : j = i
  · subst e
    rw [if_pos rfl, if_pos (by omega), szM_eq hok h]
    unfold szP
    rw [List.take_length]
  · rw [if_neg e]
    by_cases g : j < i
    · rw [if_pos g, if_pos (by omega)]
    · rw [if_neg g, if_neg (by omega)]
theorem szA_last (h : 0 < L.length) : szA L L.length (L.length - 1) = szM L (L.length - 1) := by unfold szA; rw [if_pos (by omega)]
end
theorem ag30 : tab.isAgg 30 = some false := by kernel_rfl
theorem ag65 : tab.isAgg 65 = some false := by kernel_rfl
theorem ao65 : AO tab 65 = some ⟨1, true, [.nilf]⟩ := by kernel_rfl
theorem ap24_24 : AP tab 24 24 = some 11 := by kernel_rfl
theorem bx30 : ∀ l : List AV, l.length = 1 → varObj tab 30 l = ⟨1, true, l⟩ := by intro l h; exact varObj_plain (by kernel_rfl) h
theorem pl26 : PL tab 26 [.int .i64 0, .str [], .int .i64 0, .nils, .int .i64 0, .int .i64 0, .int .i64 0, .nils, .int .i64 0, .bool false, .nils] [(0, 1), (1, 1), (2, 1), (3, 1), (4, 1), (5, 1), (6, 1), (7, 1), (8, 1), (9, 1), (10, 1)] = true := by kernel_rfl
theorem sz65 : tab.size 65 = some 1 := by kernel_rfl
theorem zr26 : tab.zero 26 = some (.agg [.int .i64 0, .str [], .int .i64 0, .nils, .int .i64 0, .int .i64 0, .int .i64 0, .nils, .int .i64 0, .bool false, .nils]) := by kernel_rfl
theorem grow_step (hs : HSt) (hro : ∀ e ∈ hs, e.w = false) (L : List IE) (v : AV) (hV : IIn hs L v) (hB : ILB L) (hok : ∀ i, i < L.length → okI L i = true) (bl bg : Nat) (ml : MemH hs bl ⟨1, true, [v]⟩) (mg : MemH hs bg ⟨1, true, [.func 53 [.ptr bl 0, .ptr bg 0]]⟩) (i : Nat) (hi : i < L.length) (ih : ∀ k : Nat, k < i → Spec tab 53 [.int .i64 ((k : Nat) : Int), .ptr bl 0, .ptr bg 0] [] hs (fun r D => ∃ c, r = .agg c ∧ TRep D (treeM L (k)) c ∧ ∀ e ∈ D, e.w = true)) : Spec tab 53 [.int .i64 ((i : Nat) : Int), .ptr bl 0, .ptr bg 0] [] hs (fun r D => ∃ c, r = .agg c ∧ TRep D (treeM L i) c ∧ ∀ e ∈ D, e.w = true) := by
  have hBl := hB.1
  obtain ⟨bv, szv, exv, rfl, wv, mv⟩ := hV.1.full (by omega)
  obtain ⟨wl, ml⟩ := ml
  obtain ⟨wg, mg⟩ := mg
  have hal := (hB.at (i := i) hi).a
  refine Spec.enter' (ft_get 53 Tryz.func53) rfl (m := 34) rfl (rs := [.cell 4 26]) rfl (st := [(0, .int .i64 ((i : Nat) : Int)), (1, .ptr bl 0), (2, .ptr bg 0)]) rfl rfl (fun _ => rfl) (fun E => ?_)
  refine W.seq ?_
  refine W.reg ?_
  refine WO.alloc ao26 rfl (fun b1 => ?_)
  refine WO.nil ?_
  refine End.K ?_
  refine W.seq ?_
  refine W.reg ?_
  refine WO.q (Q.load1 rfl (List.mem_cons_of_mem _ ml) ag30 rfl) rfl ?_
  refine WO.q (Q.move rfl) rfl ?_
  refine WO.q (Q.iaddrS ud30 sz42 rfl rfl (by first | omega | (simp at * <;> omega))) rfl ?_
  refine WO.q (Q.fieldAddr fa42_0 rfl rfl) rfl ?_
  refine WO.q (Q.loadN rfl (List.mem_cons_of_mem _ mv) ag26 sz26 (cI_n (by first | omega | (simp at * <;> omega)))) rfl ?_
  refine WO.call0 rfl (oLs_cons rfl oLs_nil) rfl (bare_spec hs hro (ei L i).d _ _ _ (hV.at (by omega)).m (hV.at (by omega)).n _ (hV.at (by omega)).k (hB.at (by omega)).d) (SubR.tl (SubR.self hro)) rfl (fun v13 D13 hP13 => ?_)
  obtain ⟨vm2, vn2, Dm, Dn, rfl, hOm, hOn, hDD⟩ := hP13
  have hwD : ∀ e ∈ D13, e.w = true := (by rw [hDD]; exact wa (OwnE.w hOm) (OwnE.w hOn))
  refine WO.subH (hs' := _ :: (hs ++ D13)) (SubH.of_perm (perm_tail (N := []) (G := D13) (K := [_]) (X := hs))) ?_
  refine WO.alloc ao26 rfl (fun b2 => ?_)
  refine WO.store sz26 rfl rfl (i := 0) rfl (nd_ck (OwnE.cell hOm) (OwnE.cell hOn)) (cs := [_, _, _, _, _, _, _, _, _, _, _]) rfl (hs' := _ :: _ :: _) rfl ?_
  refine WO.nil ?_
  refine End.K ?_
  refine W.seq ?_
  refine W.seq ?_
  refine W.reg ?_
  refine WO.q (Q.load1 rfl (List.mem_cons_of_mem _ (List.mem_cons_of_mem _ (List.mem_append_left _ ml))) ag30 rfl) rfl ?_
  refine WO.q (Q.move rfl) rfl ?_
  refine WO.q (Q.iaddrS ud30 sz42 rfl rfl (by first | omega | (simp at * <;> omega))) rfl ?_
  refine WO.q (Q.fieldAddr fa42_1 rfl rfl) rfl ?_
  refine WO.q (Q.load1 rfl (List.mem_cons_of_mem _ (List.mem_cons_of_mem _ (List.mem_append_left _ mv))) ag40 (cI_f 11 (by first | omega | (simp at * <;> omega)) rfl)) rfl ?_
  refine WO.q (Q.len ud40 rfl (hV.at (by first | omega | (simp at * <;> omega))).a.len) rfl ?_
  refine WO.q (Q.move (oc (v := .int .i64 ((0 : Nat) : Int)) rfl)) rfl ?_
  refine WO.nil ?_
  refine End.K ?_
  refine W.block ?_
  refine W.loop_ind6 (fun (j : Nat) (xa : AV) (cs : List (List AV)) (u : AV) (hp : HSt) (hl : HSt) => [(2, .ptr bg 0), (4, .ptr b1 0), (5, .ptr b2 0), (18, xa), (19, .int .i64 (((ei L i).ars.length : Nat) : Int)), (20, .int .i64 ((j : Nat) : Int))]) (fun (j : Nat) (xa : AV) (cs : List (List AV)) (u : AV) (hp : HSt) (hl : HSt) => (⟨b2, ⟨11, true, (ei L i).d.c vm2 vn2 u⟩, true⟩ :: ⟨b1, ⟨11, true, [.int .i64 0, .str [], .int .i64 0, .nils, .int .i64 0, .int .i64 0, .int .i64 0, .nils, .int .i64 0, .bool false, .nils]⟩, true⟩ :: (hs ++ D13 ++ hp ++ hl))) (fun (j : Nat) (xa : AV) (cs : List (List AV)) (u : AV) (hp : HSt) (hl : HSt) => j ≤ (ei L i).ars.length ∧ RIn hs 1 (ei L i).ars.length (cA (ei L i).ars) xa ∧ OwnE 11 (cs.flatMap id) cs.length u hp ∧ TReps hl (((ei L i).ars.take j).map fun a => treeM L a.toNat) cs ∧ (∀ e ∈ hl, e.w = true) ∧ cs.length = j) (fun (j : Nat) (xa : AV) (cs : List (List AV)) (u : AV) (hp : HSt) (hl : HSt) => (ei L i).ars.length - j) (0) (_) ([]) (.nils) ([]) ([]) ⟨Nat.zero_le _, (hV.at (by omega)).a, OwnE.nil 11, treps_nil, no_wl, rfl⟩ (SubS.cons rfl (SubS.cons rfl (SubS.cons rfl (SubS.cons rfl (SubS.cons rfl (SubS.cons rfl (SubS.nil _))))))) (by rw [List.append_nil, List.append_nil]; exact SubH.refl _) (fun j xa cs u hp hl hI0 ih0 => ?_)
  obtain ⟨h1, hxa, hO, hR, hw, hcl⟩ := hI0
  refine W.seq ?_
  refine W.reg ?_
  refine WO.q (Q.bin rfl rfl rfl (bv_lss lt_nat)) rfl ?_
  refine WO.nil ?_
  refine End.K ?_
  refine W.seq ?_
  refine W.condDS rfl (fun hc21 => ?_) (fun hc21 => ?_)
  · skip -- L0T
    have hq1 := ok_ar (hok i hi) (ai_mem (A := (ei L i).ars) (q := j) (by omega))
    obtain ⟨ba, sza, exa, rfl, wa_, ma⟩ := hxa.full (by omega)
    refine W.skip ?_
    refine End.K ?_
    refine W.seq ?_
    refine W.block ?_
    refine W.seq ?_
    refine W.reg ?_
    refine WO.q (Q.iaddrS ud40 sz3 rfl rfl (by first | omega | (simp at * <;> omega))) rfl ?_
    refine WO.q (Q.load1 rfl (List.mem_cons_of_mem _ (List.mem_cons_of_mem _ (List.mem_append_left _ (List.mem_append_left _ (List.mem_append_left _ ma))))) ag3 (cA_atN (by first | omega | (simp at * <;> omega)) hq1.1)) rfl ?_
    refine WO.q (Q.assign rfl) rfl ?_
    refine WO.nil ?_
    refine End.K ?_
    refine W.regD 6 (⟨b2, _, false⟩ :: hs) (by kernel_rfl) (KIn.cons (mem_at (i := 0) rfl) (fun e he => ⟨e.w, by obtain ⟨b, o, w⟩ := e; simp [he]⟩)) ?_
    refine WD.q (Q.fieldAddr fa26_10 rfl (o' := 10) rfl) bq_ptr rfl ?_
    refine WD.q (Q.load1 rfl (mem_at (i := 0) rfl) ag24 rfl) (OwnE.bq hO) rfl ?_
    refine WD.q (Q.load1 rfl (List.mem_cons_of_mem _ mg) ag65 rfl) (by simp [AV.beq, beq1, beq0, beqL]) rfl ?_
    refine WD.q (Q.move rfl) bq_int rfl ?_
    refine WD.call0 rfl (oLs_cons rfl oLs_nil) rfl (ih _ (by omega)) (SubR.tl (SubR.tl (SubR.appl (SubR.appl (SubR.appl (SubR.self hro)))))) (KIn.cons (mem_at (i := 0) rfl) (fun e he => ⟨e.w, by obtain ⟨b, o, w⟩ := e; simp [he]⟩)) rfl (fun v28 D28 hP28 => ?_)
    obtain ⟨c28, rfl, hT28, hw28⟩ := hP28
    obtain ⟨dk, vmk, vnk, vkk, rfl, hqm, hqn, hqk, hqo⟩ := TRep.opn hT28
    refine WD.subH (hs' := _ :: _ :: (hs ++ D13 ++ hl ++ D28 ++ hp)) (SubH.of_perm (perm_tailO (N := []) (G := D28) (K := [_, _]) (X := hs ++ D13 ++ hp ++ hl) (by simp only [List.append_assoc, List.nil_append]; exact List.perm_iff_count.2 (by intro z; simp only [List.append_eq, List.count_append, List.count_nil]; omega)))) ?_
    refine WD.bslice ud24 sz26 zr26 rfl (oPs_cons rfl oPs_nil) rfl (cs := [_, _, _, _, _, _, _, _, _, _, _]) rfl (nd_all hqm.cell hqn.cell hqk.cell) rfl (KIn.cons (mem_at (i := 0) rfl) (fun e he => ⟨e.w, by obtain ⟨b, o, w⟩ := e; simp [he]⟩)) (fun b3 => ?_)
    refine WD.appAny (A := ([_, _] ++ hs ++ D13 ++ hl ++ D28)) ap24_24 hO rfl rfl (Src.slice (mem_at (i := 0) rfl) rfl) rfl (by omega) (by decide) (SubH.of_sublist (List.sublist_cons_self _ _)) rfl (KIn.cons (mem_at (i := 0) rfl) (fun e he => ⟨e.w, by obtain ⟨b, o, w⟩ := e; simp [he]⟩)) (fun v30 hp30 hO30 => ?_)
    refine WD.q (Q.fieldAddr fa26_10 rfl (o' := 10) rfl) bq_ptr rfl ?_
    refine WD.store sz24 rfl rfl (j := 0) rfl (ck1 (OwnE.cell hO30) rfl) (cs := [_, _, _, _, _, _, _, _, _, _, _]) (lay_10 (OwnE.cell hO30)) (hs' := _ :: _ :: _) rfl (fun h => by cases h) ?_
    refine WD.nil ?_
    refine End.KB (End.K ?_)
    refine W.reg ?_
    refine WO.q (Q.bin rfl (oc (v := .int .i64 ((1 : Nat) : Int)) rfl) rfl (bv_add (wn_add (by first | omega | (simp at * <;> omega))))) rfl ?_
    refine WO.q (Q.move rfl) rfl ?_
    refine WO.nil ?_
    refine End.KL ?_
    refine W.sub (SubS.cons rfl (SubS.cons rfl (SubS.cons rfl (SubS.cons rfl (SubS.cons rfl (SubS.cons rfl (SubS.nil _))))))) (W.subH (SubH.of_count (by intro x; simp only [ND.c, nodeC, List.append_eq, List.cons_append, List.nil_append, List.append_nil, List.append_assoc, List.count_append, List.count_cons, List.count_nil]; omega)) (ih0 (j + 1) (_) (cs ++ [dk.c vmk vnk vkk]) (v30) (hp30) (hl ++ D28) ?_ ?_))
    · exact ⟨by omega, hxa, kids_own hO30, kids_snoc (by omega) hR hT28, wa hw hw28, by rw [List.length_append, hcl]; rfl⟩
    · exact (by first | omega | (simp at * <;> omega))
  · skip -- L0F
    refine W.exit ?_
    refine End.K_exit (End.KL_exit (End.KB_hit (End.K ?_)))
    refine W.seq ?_
    refine W.reg ?_
    refine WO.q (Q.loadN rfl (mem_at (i := 0) rfl) ag26 sz26 (l := [_, _, _, _, _, _, _, _, _, _, _]) rfl) rfl ?_
    refine WO.store sz26 rfl rfl (i := 1) rfl (and_tt rfl (nd_all (OwnE.cell hOm) (OwnE.cell hOn) (OwnE.cell hO))) (cs := [_, _, _, _, _, _, _, _, _, _, _]) rfl (hs' := _ :: _ :: _) rfl ?_
    refine WO.nil ?_
    refine End.K ?_
    refine W.ret ?_
    refine End.ret (ResL.agg (c := [_, _, _, _, _, _, _, _, _, _, _]) rfl (mem_at (i := 1) rfl) ag26 sz26 rfl ResL.nil) (hs' := D13 ++ hp ++ hl) ⟨(ei L i).d.c vm2 vn2 u, rfl, grow_fin hok hi (hB.at hi) hOm hOn hDD hO (by rw [List.take_of_length_le (by omega)] at hR; exact hR), wa (wa hwD (OwnE.w hO)) hw⟩ (wa (wa hwD (OwnE.w hO)) hw) gc
theorem grow_spec (hs : HSt) (hro : ∀ e ∈ hs, e.w = false) (L : List IE) (v : AV) (hV : IIn hs L v) (hB : ILB L) (hok : ∀ i, i < L.length → okI L i = true) (bl bg : Nat) (ml : MemH hs bl ⟨1, true, [v]⟩) (mg : MemH hs bg ⟨1, true, [.func 53 [.ptr bl 0, .ptr bg 0]]⟩) : ∀ (i : Nat) (hi : i < L.length), Spec tab 53 [.int .i64 ((i : Nat) : Int), .ptr bl 0, .ptr bg 0] [] hs (fun r D => ∃ c, r = .agg c ∧ TRep D (treeM L (i)) c ∧ ∀ e ∈ D, e.w = true) := by
  intro i
  induction i using Nat.strongRecOn with
  | _ i ih => exact fun hi => grow_step hs hro L v hV hB hok bl bg ml mg i hi fun k hk => ih k hk (by omega)
theorem tree_spec (hs : HSt) (hro : ∀ e ∈ hs, e.w = false) (L : List IE) (v : AV) (hV : IIn hs L v) (hB : ILB L) : Spec tab 27 [v] [] hs (fun r D => ∃ (e : Nat) (t : TD) (c : List AV), TreeR L e t ∧ TRep D t c ∧ (∀ x ∈ D, x.w = true) ∧ r = .tuple [.agg c, .int .i64 ((e : Nat) : Int)]) := by
  have hBl := hB.1
  refine Spec.enter' (ft_get 27 Tryz.func27) rfl (m := 66) rfl (rs := [.cell 2 26, .tmp 3]) rfl (st := [(0, v)]) rfl rfl (fun _ => rfl) (fun E => ?_)
  refine W.seq ?_
  refine W.reg ?_
  refine WO.box1 rfl hV.1.cell (bx30 _ rfl) rfl (fun bx => ?_)
  refine WO.alloc ao26 rfl (fun b1 => ?_)
  refine WO.q (Q.assign (oc (v := .int .i64 ((0 : Nat) : Int)) rfl)) rfl ?_
  refine WO.nil ?_
  refine End.K ?_
  refine W.seq ?_
  refine W.seq ?_
  refine W.reg ?_
  refine WO.q (Q.load1 rfl (mem_at (i := 1) rfl) ag30 rfl) rfl ?_
  refine WO.callV rfl (oLs_cons rfl oLs_nil) rfl (chk_spec hs hro L _ hV hB) (SubR.tl (SubR.tl (SubR.self hro))) rfl ?_
  refine WO.q (Q.assign rfl) rfl ?_
  refine WO.nil ?_
  refine End.K ?_
  refine W.seq ?_
  refine W.reg ?_
  refine WO.q (Q.move rfl) rfl ?_
  refine WO.q (Q.bin rfl (oc (v := .int .i64 ((0 : Nat) : Int)) rfl) rfl (bv_neq ne_nat)) rfl ?_
  refine WO.nil ?_
  refine End.K ?_
  refine W.condDS rfl (fun hc14 => ?_) (fun hc14 => ?_)
  · skip -- T
    refine W.seq ?_
    refine W.reg ?_
    refine WO.q (Q.build pl26 oPs_nil rfl (cs := [_, _, _, _, _, _, _, _, _, _, _]) rfl) rfl ?_
    refine WO.q (Q.move rfl) rfl ?_
    refine WO.store sz26 rfl rfl (i := 0) rfl rfl (cs := [_, _, _, _, _, _, _, _, _, _, _]) rfl (hs' := _ :: _ :: _) rfl ?_
    refine WO.q (Q.assign rfl) rfl ?_
    refine WO.nil ?_
    refine End.K ?_
    refine W.ret ?_
    refine End.K_ret (End.ret (ResL.agg (c := [_, _, _, _, _, _, _, _, _, _, _]) rfl (mem_at (i := 0) rfl) ag26 sz26 rfl (ResL.tmp rfl ResL.nil)) (hs' := []) ⟨chkI L, zeroT, [.int .i64 0, .str [], .int .i64 0, .nils, .int .i64 0, .int .i64 0, .int .i64 0, .nils, .int .i64 0, .bool false, .nils], .inl ⟨by omega, rfl, rfl⟩, zero_rep, no_wl, rfl⟩ no_wl (SubH.nil _))
  · skip -- F
    obtain ⟨h0, hL, hok⟩ := chk_ok (L := L) (by omega)
    refine W.skip ?_
    refine End.K ?_
    refine W.seq ?_
    refine W.reg ?_
    refine WO.q (Q.load1 rfl (mem_at (i := 1) rfl) ag30 rfl) rfl ?_
    refine WO.q (Q.len ud30 rfl hV.1.len) rfl ?_
    refine WO.mslice ms40 rfl rfl (by omega) (repl_n _) rfl (fun bs => ?_)
    refine WO.q (Q.assign rfl) rfl ?_
    refine WO.nil ?_
    refine End.K ?_
    refine W.seq ?_
    refine W.seq ?_
    refine W.reg ?_
    refine WO.q (Q.load1 rfl (mem_at (i := 2) rfl) ag30 rfl) rfl ?_
    refine WO.q (Q.len ud30 rfl hV.1.len) rfl ?_
    refine WO.q (Q.move (oc (v := .int .i64 ((0 : Nat) : Int)) rfl)) rfl ?_
    refine WO.nil ?_
    refine End.K ?_
    refine W.block ?_
    refine W.loop_ind (fun (i : Nat) => [(1, .ptr bx 0), (2, .ptr b1 0), (5, .slice bs 0 L.length 1), (20, v), (21, .int .i64 ((L.length : Nat) : Int)), (22, .int .i64 ((i : Nat) : Int))]) (fun (i : Nat) => (⟨bs, ⟨1, true, cN (fun j => ((szA L i j : Nat) : Int)) L.length⟩, true⟩ :: ⟨b1, ⟨11, true, [.int .i64 0, .str [], .int .i64 0, .nils, .int .i64 0, .int .i64 0, .int .i64 0, .nils, .int .i64 0, .bool false, .nils]⟩, true⟩ :: ⟨bx, ⟨1, true, [v]⟩, true⟩ :: hs)) (fun (i : Nat) => i ≤ L.length) (fun (i : Nat) => L.length - i) (0) (Nat.zero_le _) (SubS.cons rfl (SubS.cons rfl (SubS.cons rfl (SubS.cons rfl (SubS.cons rfl (SubS.cons rfl (SubS.nil _))))))) (by rw [← sz_0]; exact SubH.refl _) (fun i hI0 ih0 => ?_)
    have h1 := hI0
    refine W.seq ?_
    refine W.reg ?_
    refine WO.q (Q.bin rfl rfl rfl (bv_lss lt_nat)) rfl ?_
    refine WO.nil ?_
    refine End.K ?_
    refine W.seq ?_
    refine W.condDS rfl (fun hc23 => ?_) (fun hc23 => ?_)
    · skip -- FL0T
      obtain ⟨bv, szv, exv, rfl, wv, mv⟩ := hV.1.full (by omega)
      have hal := (hB.at (i := i) (by omega)).a
      refine W.skip ?_
      refine End.K ?_
      refine W.seq ?_
      refine W.block ?_
      refine W.seq ?_
      refine W.reg ?_
      refine WO.q (Q.move rfl) rfl ?_
      refine WO.q (Q.iaddrS ud30 sz42 rfl rfl (by first | omega | (simp at * <;> omega))) rfl ?_
      refine WO.q (Q.loadN rfl (List.mem_cons_of_mem _ (List.mem_cons_of_mem _ (List.mem_cons_of_mem _ mv))) ag42 sz42 (cI_at (by first | omega | (simp at * <;> omega)))) rfl ?_
      refine WO.alloc ao42 rfl (fun b2 => ?_)
      refine WO.q (Q.assign rfl) rfl ?_
      refine WO.store sz42 rfl rfl (i := 0) rfl (and_tt rfl (IOK.cells (hV.at (by omega)))) (cs := [_, _, _, _, _, _, _, _, _, _, _, _]) rfl (hs' := _ :: _ :: _ :: _ :: _) rfl ?_
      refine WO.nil ?_
      refine End.K ?_
      refine W.seq ?_
      refine W.reg ?_
      refine WO.q (Q.move rfl) rfl ?_
      refine WO.q (Q.move rfl) rfl ?_
      refine WO.q (Q.iaddrS ud40 sz3 rfl rfl (by first | omega | (simp at * <;> omega))) rfl ?_
      refine WO.store sz3 rfl (oc (v := .int .i64 ((1 : Nat) : Int)) rfl) (i := 1) rfl (ck1 rfl (cN_le (by omega))) (sz_lay0 (by omega)) (hs' := _ :: _ :: _ :: _ :: _) rfl ?_
      refine WO.nil ?_
      refine End.K ?_
      refine W.seq ?_
      refine W.reg ?_
      refine WO.q (Q.fieldAddr fa42_1 rfl (o' := 11) rfl) rfl ?_
      refine WO.q (Q.load1 rfl (mem_at (i := 0) rfl) ag40 rfl) rfl ?_
      refine WO.q (Q.len ud40 rfl (hV.at (by first | omega | (simp at * <;> omega))).a.len) rfl ?_
      refine WO.q (Q.move (oc (v := .int .i64 ((0 : Nat) : Int)) rfl)) rfl ?_
      refine WO.nil ?_
      refine End.K ?_
      refine W.block ?_
      refine W.loop_ind2 (fun (q : Nat) (xa : AV) => [(1, .ptr bx 0), (2, .ptr b1 0), (5, .slice bs 0 L.length 1), (6, .int .i64 ((i : Nat) : Int)), (20, .slice bv 0 L.length 12), (21, .int .i64 ((L.length : Nat) : Int)), (22, .int .i64 ((i : Nat) : Int)), (31, xa), (32, .int .i64 (((ei L i).ars.length : Nat) : Int)), (33, .int .i64 ((q : Nat) : Int))]) (fun (q : Nat) (xa : AV) => (⟨bs, ⟨1, true, cN (fun j => ((szB L i q j : Nat) : Int)) L.length⟩, true⟩ :: ⟨b1, ⟨11, true, [.int .i64 0, .str [], .int .i64 0, .nils, .int .i64 0, .int .i64 0, .int .i64 0, .nils, .int .i64 0, .bool false, .nils]⟩, true⟩ :: ⟨bx, ⟨1, true, [.slice bv 0 L.length 12]⟩, true⟩ :: hs)) (fun (q : Nat) (xa : AV) => q ≤ (ei L i).ars.length ∧ RIn hs 1 (ei L i).ars.length (cA (ei L i).ars) xa) (fun (q : Nat) (xa : AV) => (ei L i).ars.length - q) (0) (_) ⟨Nat.zero_le _, (hV.at (by omega)).a⟩ (SubS.cons rfl (SubS.cons rfl (SubS.cons rfl (SubS.cons rfl (SubS.cons rfl (SubS.cons rfl (SubS.cons rfl (SubS.cons rfl (SubS.cons rfl (SubS.cons rfl (SubS.nil _))))))))))) gc (fun q xa hI1 ih1 => ?_)
      obtain ⟨h2, hxa⟩ := hI1
      refine W.seq ?_
      refine W.reg ?_
      refine WO.q (Q.bin rfl rfl rfl (bv_lss lt_nat)) rfl ?_
      refine WO.nil ?_
      refine End.K ?_
      refine W.seq ?_
      refine W.condDS rfl (fun hc34 => ?_) (fun hc34 => ?_)
      · skip -- FL0TL1T
        have hq1 := ok_ar (hok i (by omega)) (ai_mem (A := (ei L i).ars) (q := q) (by omega))
        have hz1 := szB_le (L := L) (i := i) (q := q) i
        have hz2 := szB_le (L := L) (i := i) (q := q) (ai (ei L i).ars q).toNat
        obtain ⟨ba, sza, exa, rfl, wa_, ma⟩ := hxa.full (by omega)
        refine W.skip ?_
        refine End.K ?_
        refine W.seq ?_
        refine W.block ?_
        refine W.seq ?_
        refine W.reg ?_
        refine WO.q (Q.iaddrS ud40 sz3 rfl rfl (by first | omega | (simp at * <;> omega))) rfl ?_
        refine WO.q (Q.load1 rfl (List.mem_cons_of_mem _ (List.mem_cons_of_mem _ (List.mem_cons_of_mem _ ma))) ag3 (cA_atN (by first | omega | (simp at * <;> omega)) hq1.1)) rfl ?_
        refine WO.q (Q.assign rfl) rfl ?_
        refine WO.nil ?_
        refine End.K ?_
        refine W.regT (by kernel_rfl) ?_
        refine WO.q (Q.move rfl) rfl ?_
        refine WO.q (Q.move rfl) rfl ?_
        refine WO.q (Q.move rfl) rfl ?_
        refine WO.q (Q.move rfl) rfl ?_
        refine WO.q (Q.iaddrS ud40 sz3 rfl rfl (by first | omega | (simp at * <;> omega))) rfl ?_
        refine WO.q (Q.load1 rfl (mem_at (i := 0) rfl) ag3 (cN_at (by first | omega | (simp at * <;> omega)))) rfl ?_
        refine WO.q (Q.move rfl) rfl ?_
        refine WO.q (Q.move rfl) rfl ?_
        refine WO.q (Q.iaddrS ud40 sz3 rfl rfl (by first | omega | (simp at * <;> omega))) rfl ?_
        refine WO.q (Q.load1 rfl (mem_at (i := 0) rfl) ag3 (cN_at (by first | omega | (simp at * <;> omega)))) rfl ?_
        refine WO.q (Q.bin rfl rfl rfl (bv_add (wn_add (by first | omega | (simp at * <;> omega))))) rfl ?_
        refine WO.q (Q.minmax false (oLs_cons (oc (v := .int .i64 ((4097 : Nat) : Int)) rfl) (oLs_cons rfl oLs_nil)) mm_min) rfl ?_
        refine WO.q (Q.iaddrS ud40 sz3 rfl rfl (by first | omega | (simp at * <;> omega))) rfl ?_
        refine WO.store sz3 rfl rfl (i := 0) rfl (ck1 rfl (cN_le (by omega))) (sz_lay hok (by omega) (by omega)) (hs' := _ :: _ :: _ :: _) rfl ?_
        refine WO.nil ?_
        refine End.KB (End.K ?_)
        refine W.sub (SubS.cons (k := 1) rfl (SubS.cons (k := 2) rfl (SubS.cons (k := 5) rfl (SubS.cons (k := 6) rfl (SubS.cons (k := 20) rfl (SubS.cons (k := 21) rfl (SubS.cons (k := 22) rfl (SubS.cons (k := 31) rfl (SubS.cons (k := 32) rfl (SubS.cons (k := 33) rfl (SubS.nil _))))))))))) ?_
        refine W.reg ?_
        refine WO.q (Q.bin rfl (oc (v := .int .i64 ((1 : Nat) : Int)) rfl) rfl (bv_add (wn_add (by first | omega | (simp at * <;> omega))))) rfl ?_
        refine WO.q (Q.move rfl) rfl ?_
        refine WO.nil ?_
        refine End.KL ?_
        refine W.sub (SubS.cons rfl (SubS.cons rfl (SubS.cons rfl (SubS.cons rfl (SubS.cons rfl (SubS.cons rfl (SubS.cons rfl (SubS.cons rfl (SubS.cons rfl (SubS.cons rfl (SubS.nil _))))))))))) (W.subH gc (ih1 (q + 1) (_) ?_ ?_))
        · exact ⟨by omega, hxa⟩
        · exact (by first | omega | (simp at * <;> omega))
      · skip -- FL0TL1F
        obtain rfl : q = (ei L i).ars.length := (by omega)
        rw [sz_end hok (by omega)]
        refine W.exit ?_
        refine End.K_exit (End.KL_exit (End.KB_hit (End.KB (End.K ?_))))
        refine W.reg ?_
        refine WO.q (Q.bin rfl (oc (v := .int .i64 ((1 : Nat) : Int)) rfl) rfl (bv_add (wn_add (by first | omega | (simp at * <;> omega))))) rfl ?_
        refine WO.q (Q.move rfl) rfl ?_
        refine WO.nil ?_
        refine End.KL ?_
        refine W.sub (SubS.cons rfl (SubS.cons rfl (SubS.cons rfl (SubS.cons rfl (SubS.cons rfl (SubS.cons rfl (SubS.nil _))))))) (W.subH gc (ih0 (i + 1) ?_ ?_))
        · exact (by omega)
        · exact (by first | omega | (simp at * <;> omega))
    · skip -- FL0F
      obtain rfl : i = L.length := (by omega)
      have hzl := szA_last (L := L) h0
      refine W.exit ?_
      refine End.K_exit (End.KL_exit (End.KB_hit (End.K ?_)))
      refine W.seq ?_
      refine W.seq ?_
      refine W.reg ?_
      refine WO.q (Q.move rfl) rfl ?_
      refine WO.q (Q.load1 rfl (mem_at (i := 2) rfl) ag30 rfl) rfl ?_
      refine WO.q (Q.len ud30 rfl hV.1.len) rfl ?_
      refine WO.q (Q.bin rfl (oc (v := .int .i64 ((1 : Nat) : Int)) rfl) rfl (bv_sub (wn_sub (by first | omega | (simp at * <;> omega))))) rfl ?_
      refine WO.q (Q.iaddrS ud40 sz3 rfl rfl (by first | omega | (simp at * <;> omega))) rfl ?_
      refine WO.q (Q.load1 rfl (mem_at (i := 0) rfl) ag3 (cN_at (by first | omega | (simp at * <;> omega)))) rfl ?_
      refine WO.q (Q.bin rfl (oc (v := .int .i64 ((4096 : Nat) : Int)) rfl) rfl (bv_gtr lt_nat)) rfl ?_
      refine WO.nil ?_
      refine End.K ?_
      refine W.condDS rfl (fun hc58 => ?_) (fun hc58 => ?_)
      · skip -- FL0FT
        refine W.seq ?_
        refine W.reg ?_
        refine WO.q (Q.build pl26 oPs_nil rfl (cs := [_, _, _, _, _, _, _, _, _, _, _]) rfl) rfl ?_
        refine WO.store sz26 rfl rfl (i := 1) rfl rfl (cs := [_, _, _, _, _, _, _, _, _, _, _]) rfl (hs' := _ :: _ :: _ :: _) rfl ?_
        refine WO.q (Q.assign (oc (v := .int .i64 ((3 : Nat) : Int)) rfl)) rfl ?_
        refine WO.nil ?_
        refine End.K ?_
        refine W.sub (SubS.cons (k := 3) rfl (SubS.cons (k := 2) rfl (SubS.nil _))) ?_
        refine W.ret ?_
        refine End.K_ret (End.ret (ResL.agg (c := [_, _, _, _, _, _, _, _, _, _, _]) rfl (mem_at (i := 1) rfl) ag26 sz26 rfl (ResL.tmp rfl ResL.nil)) (hs' := []) ⟨3, zeroT, [.int .i64 0, .str [], .int .i64 0, .nils, .int .i64 0, .int .i64 0, .int .i64 0, .nils, .int .i64 0, .bool false, .nils], .inr (.inl ⟨by omega, by omega, rfl, rfl⟩), zero_rep, no_wl, rfl⟩ no_wl (SubH.nil _))
      · skip -- FL0FF
        refine W.skip ?_
        refine End.K ?_
        refine W.seq ?_
        refine W.reg ?_
        refine WO.alloc ao65 rfl (fun b3 => ?_)
        refine WO.nil ?_
        refine End.K ?_
        refine W.seq ?_
        refine W.reg ?_
        refine WO.q (Q.makeF (oLs_cons rfl (oLs_cons rfl oLs_nil))) rfl ?_
        refine WO.store sz65 rfl rfl (i := 0) rfl rfl (cs := [_]) rfl (hs' := _ :: _ :: _ :: _ :: _) rfl ?_
        refine WO.nil ?_
        refine End.K ?_
        refine W.seq ?_
        refine W.reg ?_
        refine WO.q (Q.load1 rfl (mem_at (i := 0) rfl) ag65 rfl) rfl ?_
        refine WO.q (Q.load1 rfl (mem_at (i := 3) rfl) ag30 rfl) rfl ?_
        refine WO.q (Q.len ud30 rfl hV.1.len) rfl ?_
        refine WO.q (Q.bin rfl (oc (v := .int .i64 ((1 : Nat) : Int)) rfl) rfl (bv_sub (wn_sub (by first | omega | (simp at * <;> omega))))) rfl ?_
        refine WO.call0 rfl (oLs_cons rfl oLs_nil) rfl (grow_spec (ro [⟨b3, ⟨1, true, [.func 53 [.ptr bx 0, .ptr b3 0]]⟩, true⟩, ⟨bx, ⟨1, true, [v]⟩, true⟩] ++ hs) (ro_app hro) L v hV.app hB hok bx b3 ⟨false, by simp [ro]⟩ ⟨false, by simp [ro]⟩ (L.length - 1) (by omega)) (SubR.mix gc hro) rfl (fun v65 D65 hP65 => ?_)
        obtain ⟨c65, rfl, hT65, hw65⟩ := hP65
        obtain ⟨dk, vmk, vnk, vkk, rfl, hqm, hqn, hqk, hqo⟩ := TRep.opn hT65
        refine WO.subH (hs' := _ :: _ :: _ :: _ :: (hs ++ D65)) (SubH.of_perm (perm_tail (N := []) (G := D65) (K := [_, _, _, _]) (X := hs))) ?_
        refine WO.store sz26 rfl rfl (i := 2) rfl (and_tt rfl (nd_all hqm.cell hqn.cell hqk.cell)) (cs := [_, _, _, _, _, _, _, _, _, _, _]) rfl (hs' := _ :: _ :: _ :: _ :: _) rfl ?_
        refine WO.q (Q.assign (oc (v := .int .i64 ((0 : Nat) : Int)) rfl)) rfl ?_
        refine WO.nil ?_
        refine End.K ?_
        refine W.sub (SubS.cons (k := 3) rfl (SubS.cons (k := 2) rfl (SubS.nil _))) ?_
        refine W.ret ?_
        refine End.ret (ResL.agg (c := [_, _, _, _, _, _, _, _, _, _, _]) rfl (mem_at (i := 2) rfl) ag26 sz26 rfl (ResL.tmp rfl ResL.nil)) (hs' := D65) ⟨0, _, _, .inr (.inr ⟨by omega, by omega, rfl, rfl⟩), hT65, hw65, rfl⟩ hw65 gc
end Go.Proofs.YtndhhgbpcmfeiaaGreatDoor.Ev
