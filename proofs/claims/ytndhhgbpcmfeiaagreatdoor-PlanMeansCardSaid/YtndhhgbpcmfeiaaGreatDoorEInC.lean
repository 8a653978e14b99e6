/- Chapter 20, walks: what a plan means. -/
import Derived.Test.YtndhhgbpcmfeiaaGreatDoorEGf
import Derived.Test.YtndhhgbpcmfeiaaGreatDoorEAwJ
namespace Go.Proofs.YtndhhgbpcmfeiaaGreatDoor.Ev
open Go.RowKit
set_option maxRecDepth 100000
set_option maxHeartbeats 1000000
theorem WO.box1 {tb : Tab} {n : Nat} {E : Env} {s : St} {hs : HSt} {R : T AV → AHeap → Prop} {ops rest : List Oper} {d : Nat} {t : TypeId} {ty : TypeId} {pos : String} {aft : Array Edge} {ox : Operand} {v : AV} {ob : AObj} (hx : oL s ox = some v) (hc : v.isCell = true) (ho : varObj tb t [v] = ob) (hd : Nat.blt d n = true)
  (hk : ∀ b, WO tb n ops rest E ((d, .ptr b 0) :: s) (⟨b, ob, true⟩ :: hs) R) : WO tb n ops (⟨some d, .box t ox, ty, pos, aft, none⟩ :: rest) E s hs R := by
 have e : v.cells = [v] := cells_cell hc
 exact WO.box hx (by rw [e]; simp [hc]) (by rw [e]; exact ho) hd hk
structure CQ (v : AV) : Prop where
 cell : v.isCell = true
 bq0 : beq0 v v = true
theorem RIn.cq {hs : HSt} {sz n : Nat} {cells : List AV} {v : AV} (h : RIn hs sz n cells v) : CQ v := ⟨h.cell, h.bq0⟩
section
variable {d : ND} {vm vn vk : AV} {hs Dm Dn D13 hp hl D : HSt} {L : List IE} {i j q k : Nat} {t : TD} {c : List AV} {cs : List (List AV)} {u v : AV}
theorem nd_all (hm : vm.isCell = true) (hn : vn.isCell = true) (hk : vk.isCell = true) : ((d.c vm vn vk).all AV.isCell) = true := nd_cells hm hn hk
theorem nd_bqk (hm : CQ vm) (hn : CQ vn) (hk : CQ vk) : (AV.agg (d.c vm vn vk)).beq (AV.agg (d.c vm vn vk)) = true :=
 beqL_self (by simp only [ND.c, nodeC, List.all_cons, List.all_nil, hm.bq0, hn.bq0, hk.bq0, bi_int, bi_str, bi_bool, Bool.and_true])
theorem TRep.opn (h : TRep hs t c) : ∃ (d : ND) (vm vn vk : AV), c = d.c vm vn vk ∧ CQ vm ∧ CQ vn ∧ CQ vk ∧ Bytes d.op := by
 cases t with
 | node d ks =>
  rw [TRep] at h
  obtain ⟨vm, vn, vk, cs, rfl, h2, h3, h4, h5, _⟩ := h
  exact ⟨d, vm, vn, vk, rfl, h2.cq, h3.cq, h4.cq, h5.1⟩
theorem treps_nil : TReps hs [] [] := by rw [TReps]
theorem kids_own {x : List AV} (h : OwnE 11 (cs.flatMap id ++ x) (cs.length + 1) v hp) : OwnE 11 ((cs ++ [x]).flatMap id) (cs ++ [x]).length v hp := by
 rw [List.flatMap_append, List.length_append]
 simpa using h
theorem kids_snoc (hj : j < (ei L i).ars.length) (hR : TReps hl (((ei L i).ars.take j).map fun a => treeM L a.toNat) cs) (h : TRep D (treeM L (ai (ei L i).ars j).toNat) c) :
  TReps (hl ++ D) (((ei L i).ars.take (j + 1)).map fun a => treeM L a.toNat) (cs ++ [c]) := by
 rw [List.take_add_one, ai_at hj, List.map_append]
 exact TReps.snoc (TReps.mono (fun b o q => q.appl') hR) (TRep.mono (fun b o q => q.app) h)
theorem grow_fin (hok : ∀ i, i < L.length → okI L i = true) (hi : i < L.length) (hB : IBd (ei L i)) (hm : OwnE 3 (cM (ei L i).d.ms) (ei L i).d.ms.length vm Dm) (hn : OwnE 1 (cS (ei L i).d.nm) (ei L i).d.nm.length vn Dn) (hD : D13 = Dm ++ Dn) (hO : OwnE 11 (cs.flatMap id) cs.length u hp)
  (hR : TReps hl ((ei L i).ars.map fun a => treeM L a.toNat) cs) : TRep (D13 ++ hp ++ hl) (treeM L i) ((ei L i).d.c vm vn u) := by
 rw [treeM_eq hok hi, TRep, hD]
 have hl' := hR.length
 refine ⟨vm, vn, u, cs, rfl, (RIn.own hm).appl.appl.appl, (RIn.own hn).app.appl.appl, ?_, hB.d, ?_, TReps.mono (fun b o q => q.app) hR⟩
 ·rw [← hl']; exact (RIn.own hO).app.appl
 ·have := hB.a; rw [List.length_map]; exact this
theorem zero_rep : TRep [] zeroT [.int .i64 0, .str [], .int .i64 0, .nils, .int .i64 0, .int .i64 0, .int .i64 0, .nils, .int .i64 0, .bool false, .nils] := by
 rw [zeroT, TRep]
 exact ⟨.nils, .nils, .nils, [], rfl, RIn.nil, RIn.nil, RIn.nil, ⟨by unfold Bytes; simp [ND.zero], ⟨by simp [ND.zero], fun m hm => by simp [ND.zero] at hm⟩, ⟨by simp [ND.zero], fun m hm => by simp [ND.zero] at hm⟩⟩, by simp, by rw [TReps]⟩
def szA (L : List IE) (i j : Nat) : Nat := if j < i then szM L j else 0
def szP (L : List IE) (i q : Nat) : Nat := ((ei L i).ars.take q).foldl (fun n a => min 4097 (n + szM L a.toNat)) 1
def szB (L : List IE) (i q j : Nat) : Nat := if j = i then szP L i q else szA L i j
theorem sz_0 : cN (fun _ => 0) L.length = cN (fun j => ((szA L 0 j : Nat) : Int)) L.length := cN_congr fun j _ => by unfold szA; rw [if_neg zy]; rfl
theorem sz_lay0 (h : i < L.length) : layL (cN (fun j => ((szA L i j : Nat) : Int)) L.length) ((0 + i) * 1) (AV.int .i64 ((1 : Nat) : Int)).cells = cN (fun j => ((szB L i 0 j : Nat) : Int)) L.length := by
 rw [cN_lay h]
 refine cN_congr fun j _ => ?_
 unfold szB
 by_cases e : j = i
 ·rw [if_pos e, if_pos e]; rfl
 ·rw [if_neg e, if_neg e]
theorem fold_le {f : Int → Nat} : ∀ {l : List Int} {n : Nat}, n ≤ 4097 → l.foldl (fun n a => min 4097 (n + f a)) n ≤ 4097
 | [], n, h => h
 | a :: l, n, h => by rw [List.foldl_cons]; exact fold_le zy
theorem szP_le : szP L i q ≤ 4097 := fold_le zy
theorem szM_le : szM L j ≤ 4097 := by
 unfold szM
 exact fold_le (f := fun a => szF L j a.toNat) zy
theorem szB_le (j : Nat) : szB L i q j ≤ 4097 := by
 unfold szB
 split
 ·exact szP_le
 ·unfold szA
  split
  ·exact szM_le
  ·omega
theorem sz_lay (hok : ∀ i, i < L.length → okI L i = true) (h : i < L.length) (hq : q < (ei L i).ars.length) : layL (cN (fun j => ((szB L i q j : Nat) : Int)) L.length) ((0 + i) * 1) (AV.int .i64 ((min 4097 (szB L i q i + szB L i q (ai (ei L i).ars q).toNat) : Nat) : Int)).cells = cN (fun j => ((szB L i (q + 1) j : Nat) : Int)) L.length := by
 rw [cN_lay h]
 refine cN_congr fun j _ => ?_
 have ha := ok_ar (hok i h) (ai_mem hq)
 by_cases e : j = i
 ·subst e
  rw [if_pos rfl]
  have e1 : szB L j q j = szP L j q := if_pos rfl
  have e2 : szB L j (q + 1) j = szP L j (q + 1) := if_pos rfl
  have e3 : szB L j q (ai (ei L j).ars q).toNat = szM L (ai (ei L j).ars q).toNat := by
   unfold szB szA
   rw [if_neg zy, if_pos zy]
  rw [e1, e2, e3]
  unfold szP
  rw [List.take_add_one, ai_at hq, List.foldl_append]; rfl
 ·rw [if_neg e]
  unfold szB
  rw [if_neg e, if_neg e]
theorem sz_end (hok : ∀ i, i < L.length → okI L i = true) (h : i < L.length) : cN (fun j => ((szB L i (ei L i).ars.length j : Nat) : Int)) L.length = cN (fun j => ((szA L (i + 1) j : Nat) : Int)) L.length := by
 refine cN_congr fun j _ => ?_
 unfold szB szA
 by_cases e : j = i
 ·subst e
  rw [if_pos rfl, if_pos zy, szM_eq hok h]
  unfold szP
  rw [List.take_length]
 ·rw [if_neg e]
  by_cases g : j < i
  ·rw [if_pos g, if_pos zy]
  ·rw [if_neg g, if_neg zy]
theorem szA_last (h : 0 < L.length) : szA L L.length (L.length - 1) = szM L (L.length - 1) := by unfold szA; rw [if_pos zy]
end
theorem ag30 : tab.isAgg 30 = some false := by kernel_rfl
theorem ag65 : tab.isAgg 65 = some false := by kernel_rfl
theorem ao65 : AO tab 65 = some ⟨1, true, [.nilf]⟩ := by kernel_rfl
theorem ap24_24 : AP tab 24 24 = some 11 := by kernel_rfl
theorem bx30 : ∀ l : List AV, l.length = 1 → varObj tab 30 l = ⟨1, true, l⟩ := by intro l h; exact varObj_plain (by kernel_rfl) h
theorem pl26 : PL tab 26 [.int .i64 0, .str [], .int .i64 0, .nils, .int .i64 0, .int .i64 0, .int .i64 0, .nils, .int .i64 0, .bool false, .nils] [(0, 1), (1, 1), (2, 1), (3, 1), (4, 1), (5, 1), (6, 1), (7, 1), (8, 1), (9, 1), (10, 1)] = true := by kernel_rfl
theorem sz65 : tab.size 65 = some 1 := by kernel_rfl
theorem zr26 : tab.zero 26 = some (.agg [.int .i64 0, .str [], .int .i64 0, .nils, .int .i64 0, .int .i64 0, .int .i64 0, .nils, .int .i64 0, .bool false, .nils]) := by kernel_rfl
theorem grow_step (hs : HSt) (hro : ∀ e ∈ hs, e.w = false) (L : List IE) (v : AV) (hV : IIn hs L v) (hB : ILB L) (hok : ∀ i, i < L.length → okI L i = true) (bl bg : Nat) (ml : MemH hs bl ⟨1, true, [v]⟩) (mg : MemH hs bg ⟨1, true, [.func 53 [.ptr bl 0, .ptr bg 0]]⟩) (i : Nat) (hi : i < L.length) (ih : ∀ k : Nat, k < i → Spec tab 53 [.int .i64 ((k : Nat) : Int), .ptr bl 0, .ptr bg 0] [] hs (fun r D => ∃ c, r = .agg c ∧ TRep D (treeM L (k)) c ∧ ∀ e ∈ D, e.w = true)) : Spec tab 53 [.int .i64 ((i : Nat) : Int), .ptr bl 0, .ptr bg 0] [] hs (fun r D => ∃ c, r = .agg c ∧ TRep D (treeM L i) c ∧ ∀ e ∈ D, e.w = true) := by
 have hBl := hB.1
 obtain ⟨bv, szv, exv, rfl, wv, mv⟩ := hV.1.full zy
 obtain ⟨wl, ml⟩ := ml
 obtain ⟨wg, mg⟩ := mg
 have hal := (hB.at (i := i) hi).a
 refine Spec.en (ftg 53 Tryz.func53) rfl (m := 34) rfl (rs := [.cell 4 26]) rfl (st := [(0, .int .i64 ((i : Nat) : Int)), (1, .ptr bl 0), (2, .ptr bg 0)]) rfl rfl (fun _ => rfl) (fun E => zr (WO.alloc ao26 rfl (fun b1 => zk (zr (zq (Q.l1 rfl (List.mem_cons_of_mem _ ml) ag30 rfl) (zm rfl (zq (Q.iS ud30 sz42 rfl rfl zo) (zq (Q.fieldAddr fa42_0 rfl rfl) (zq (Q.loadN rfl (List.mem_cons_of_mem _ mv) ag26 sz26 (cI_n zo)) (WO.call0 rfl (oLc rfl oz) rfl (bare_spec hs hro (ei L i).d _ _ _ (hV.at zy).m (hV.at zy).n _ (hV.at zy).k (hB.at zy).d) (SubR.t (SubR.s hro)) rfl (fun v13 D13 hP13 => ?_)))))))))))
 obtain ⟨vm2, vn2, Dm, Dn, rfl, hOm, hOn, hDD⟩ := hP13
 have hwD : ∀ e ∈ D13, e.w = true := (by rw [hDD]; exact wa (OwnE.w hOm) (OwnE.w hOn))
 refine WO.subH (hs' := _ :: (hs ++ D13)) (SubH.op (perm_tail (N := []) (G := D13) (K := [_]) (X := hs))) (WO.alloc ao26 rfl (fun b2 => zS sz26 rfl rfl (i := 0) rfl (nd_ck (OwnE.cell hOm) (OwnE.cell hOn)) rfl (hs' := _ :: _ :: _) rfl (zk (W.seq (zr (zq (Q.l1 rfl (List.mem_cons_of_mem _ (List.mem_cons_of_mem _ (List.mem_append_left _ ml))) ag30 rfl) (zm rfl (zq (Q.iS ud30 sz42 rfl rfl zo) (zq (Q.fieldAddr fa42_1 rfl rfl) (zq (Q.l1 rfl (List.mem_cons_of_mem _ (List.mem_cons_of_mem _ (List.mem_append_left _ mv))) ag40 (cI_f 11 zo rfl)) (zq (Q.len ud40 rfl (hV.at zo).a.len) (zq (Q.move (zi 0)) (zk (W.block (W.loop_ind6 (fun (j : Nat) (xa : AV) (cs : List (List AV)) (u : AV) (hp : HSt) (hl : HSt) => [(2, .ptr bg 0), (4, .ptr b1 0), (5, .ptr b2 0), (18, xa), (19, .int .i64 (((ei L i).ars.length : Nat) : Int)), (20, .int .i64 ((j : Nat) : Int))]) (fun (j : Nat) (xa : AV) (cs : List (List AV)) (u : AV) (hp : HSt) (hl : HSt) => (⟨b2, ⟨11, true, (ei L i).d.c vm2 vn2 u⟩, true⟩ :: ⟨b1, ⟨11, true, [.int .i64 0, .str [], .int .i64 0, .nils, .int .i64 0, .int .i64 0, .int .i64 0, .nils, .int .i64 0, .bool false, .nils]⟩, true⟩ :: (hs ++ D13 ++ hp ++ hl))) (fun (j : Nat) (xa : AV) (cs : List (List AV)) (u : AV) (hp : HSt) (hl : HSt) => j ≤ (ei L i).ars.length ∧ RIn hs 1 (ei L i).ars.length (cA (ei L i).ars) xa ∧ OwnE 11 (cs.flatMap id) cs.length u hp ∧ TReps hl (((ei L i).ars.take j).map fun a => treeM L a.toNat) cs ∧ (∀ e ∈ hl, e.w = true) ∧ cs.length = j) (fun (j : Nat) (xa : AV) (cs : List (List AV)) (u : AV) (hp : HSt) (hl : HSt) => (ei L i).ars.length - j) (0) (_) ([]) (.nils) ([]) ([]) ⟨Nat.zero_le _, (hV.at zy).a, OwnE.nil 11, treps_nil, no_wl, rfl⟩ zv (by rw [List.append_nil, List.append_nil]; exact SubH.refl _) (fun j xa cs u hp hl hI0 ih0 => ?_))))))))))))))))
 obtain ⟨h1, hxa, hO, hR, hw, hcl⟩ := hI0
 refine zr (zq (Q.bin rfl rfl rfl (bvl ltn)) (zk (W.seq (W.cD rfl (fun hc21 => ?_) (fun hc21 => ?_)))))
 ·have hq1 := ok_ar (hok i hi) (ai_mem (A := (ei L i).ars) (q := j) zy)
  obtain ⟨ba, sza, exa, rfl, wa_, ma⟩ := hxa.full zy
  refine zw (W.seq (W.block (zr (zq (Q.iS ud40 sz3 rfl rfl zo) (zq (Q.l1 rfl (List.mem_cons_of_mem _ (List.mem_cons_of_mem _ (List.mem_append_left _ (List.mem_append_left _ (List.mem_append_left _ ma))))) ag3 (cA_atN zo hq1.1)) (za rfl (zk (W.regD 6 (⟨b2, _, false⟩ :: hs) (by kernel_rfl) (KIn.cons (zt 0 rfl) (fun e he => ⟨e.w, by obtain ⟨b, o, w⟩ := e; simp [he]⟩)) (WD.q (Q.fieldAddr fa26_10 rfl (o' := 10) rfl) bqp rfl (WD.q (Q.l1 rfl (zt 0 rfl) ag24 rfl) (OwnE.bq hO) rfl (WD.q (Q.l1 rfl (List.mem_cons_of_mem _ mg) ag65 rfl) (by simp [AV.beq, beq1, beq0, beqL]) rfl (WD.q (Q.move rfl) bqi rfl (WD.call0 rfl (oLc rfl oz) rfl (ih _ zy) (SubR.t (SubR.t (SubR.appl (SubR.appl (SubR.appl (SubR.s hro)))))) (KIn.cons (zt 0 rfl) (fun e he => ⟨e.w, by obtain ⟨b, o, w⟩ := e; simp [he]⟩)) rfl (fun v28 D28 hP28 => ?_))))))))))))))
  obtain ⟨c28, rfl, hT28, hw28⟩ := hP28
  obtain ⟨dk, vmk, vnk, vkk, rfl, hqm, hqn, hqk, hqo⟩ := TRep.opn hT28
  refine WD.subH (hs' := _ :: _ :: (hs ++ D13 ++ hl ++ D28 ++ hp)) (SubH.op (perm_tailO (N := []) (G := D28) (K := [_, _]) (X := hs ++ D13 ++ hp ++ hl) (by simp only [List.append_assoc, List.nil_append]; exact List.perm_iff_count.2 (by intro z; simp only [List.append_eq, List.count_append, List.count_nil]; omega)))) (WD.bslice ud24 sz26 zr26 rfl (opc rfl oPs_nil) rfl (cs := [_, _, _, _, _, _, _, _, _, _, _]) rfl (nd_all hqm.cell hqn.cell hqk.cell) rfl (KIn.cons (zt 0 rfl) (fun e he => ⟨e.w, by obtain ⟨b, o, w⟩ := e; simp [he]⟩)) (fun b3 => WD.appAny (A := ([_, _] ++ hs ++ D13 ++ hl ++ D28)) ap24_24 hO rfl rfl (Src.slice (zt 0 rfl) rfl) rfl zy (by decide) (SubH.of_sublist (List.sublist_cons_self _ _)) rfl (KIn.cons (zt 0 rfl) (fun e he => ⟨e.w, by obtain ⟨b, o, w⟩ := e; simp [he]⟩)) (fun v30 hp30 hO30 => WD.q (Q.fieldAddr fa26_10 rfl (o' := 10) rfl) bqp rfl (WD.store sz24 rfl rfl (j := 0) rfl (ck1 (OwnE.cell hO30) rfl) (cs := [_, _, _, _, _, _, _, _, _, _, _]) (lay_10 (OwnE.cell hO30)) (hs' := _ :: _ :: _) rfl (fun h => by cases h) (WD.nil (End.KB (End.K (W.reg (zq (Q.bin rfl (zi 1) rfl zp) (zm rfl (WO.nil (End.KL (W.sub zv (W.sH (SubH.of_count (by intro x; simp only [ND.c, nodeC, List.append_eq, List.cons_append, List.nil_append, List.append_nil, List.append_assoc, List.count_append, List.count_cons, List.count_nil]; omega)) (ih0 (j + 1) (_) (cs ++ [dk.c vmk vnk vkk]) (v30) (hp30) (hl ++ D28) ?_ ?_)))))))))))))))
  ·exact ⟨by omega, hxa, kids_own hO30, kids_snoc zy hR hT28, wa hw hw28, by rw [List.length_append, hcl]; rfl⟩
  exact zo
 refine W.exit (End.Kx (End.Lx (End.Bh (End.K (zr (zq (zL rfl (zt 0 rfl) ag26 sz26 rfl) (zS sz26 rfl rfl (i := 1) rfl (and_tt rfl (nd_all (OwnE.cell hOm) (OwnE.cell hOn) (OwnE.cell hO))) rfl (hs' := _ :: _ :: _) rfl (zk (W.ret ?_)))))))))
 refine End.ret (zA rfl (zt 1 rfl) ag26 sz26 rfl ResL.nil) (hs' := D13 ++ hp ++ hl) ⟨(ei L i).d.c vm2 vn2 u, rfl, grow_fin hok hi (hB.at hi) hOm hOn hDD hO (by rw [List.take_of_length_le zy] at hR; exact hR), wa (wa hwD (OwnE.w hO)) hw⟩ (wa (wa hwD (OwnE.w hO)) hw) gc
theorem grow_spec (hs : HSt) (hro : ∀ e ∈ hs, e.w = false) (L : List IE) (v : AV) (hV : IIn hs L v) (hB : ILB L) (hok : ∀ i, i < L.length → okI L i = true) (bl bg : Nat) (ml : MemH hs bl ⟨1, true, [v]⟩) (mg : MemH hs bg ⟨1, true, [.func 53 [.ptr bl 0, .ptr bg 0]]⟩) : ∀ (i : Nat) (hi : i < L.length), Spec tab 53 [.int .i64 ((i : Nat) : Int), .ptr bl 0, .ptr bg 0] [] hs (fun r D => ∃ c, r = .agg c ∧ TRep D (treeM L (i)) c ∧ ∀ e ∈ D, e.w = true) := by
 intro i
 induction i using Nat.strongRecOn with
 | _ i ih => exact fun hi => grow_step hs hro L v hV hB hok bl bg ml mg i hi fun k hk => ih k hk zy
theorem tree_spec (hs : HSt) (hro : ∀ e ∈ hs, e.w = false) (L : List IE) (v : AV) (hV : IIn hs L v) (hB : ILB L) : Spec tab 27 [v] [] hs (fun r D => ∃ (e : Nat) (t : TD) (c : List AV), TreeR L e t ∧ TRep D t c ∧ (∀ x ∈ D, x.w = true) ∧ r = .tuple [.agg c, .int .i64 ((e : Nat) : Int)]) := by
 have hBl := hB.1
 refine Spec.en (ftg 27 Tryz.func27) rfl (m := 66) rfl (rs := [.cell 2 26, .tmp 3]) rfl (st := [(0, v)]) rfl rfl (fun _ => rfl) (fun E => zr (WO.box1 rfl hV.1.cell (bx30 _ rfl) rfl (fun bx => WO.alloc ao26 rfl (fun b1 => za (zi 0) (zk (W.seq (zr (zq (Q.l1 rfl (zt 1 rfl) ag30 rfl) (WO.cV rfl (oLc rfl oz) rfl (chk_spec hs hro L _ hV hB) (SubR.t (SubR.t (SubR.s hro))) rfl (za rfl (zk (zr (zm rfl (zq (Q.bin rfl (zi 0) rfl (bv_neq ne_nat)) (zk (W.cD rfl (fun hc14 => ?_) (fun hc14 => ?_)))))))))))))))))
 ·refine zr (zq (zB pl26 oPs_nil rfl rfl) (zm rfl (zS sz26 rfl rfl (i := 0) rfl rfl rfl (hs' := _ :: _ :: _) rfl (za rfl (zk (W.ret ?_))))))
  refine End.Kr (End.ret (zA rfl (zt 0 rfl) ag26 sz26 rfl (z1 rfl)) (hs' := []) ⟨chkI L, zeroT, [.int .i64 0, .str [], .int .i64 0, .nils, .int .i64 0, .int .i64 0, .int .i64 0, .nils, .int .i64 0, .bool false, .nils], .inl ⟨by omega, rfl, rfl⟩, zero_rep, no_wl, rfl⟩ no_wl (SubH.nil _))
 obtain ⟨h0, hL, hok⟩ := chk_ok (L := L) zy
 refine zw (zr (zq (Q.l1 rfl (zt 1 rfl) ag30 rfl) (zq (Q.len ud30 rfl hV.1.len) (WO.mslice ms40 rfl rfl zy (repl_n _) rfl (fun bs => za rfl (zk (W.seq (zr (zq (Q.l1 rfl (zt 2 rfl) ag30 rfl) (zq (Q.len ud30 rfl hV.1.len) (zq (Q.move (zi 0)) (zk (W.block (W.loop_ind (fun (i : Nat) => [(1, .ptr bx 0), (2, .ptr b1 0), (5, .slice bs 0 L.length 1), (20, v), (21, .int .i64 ((L.length : Nat) : Int)), (22, .int .i64 ((i : Nat) : Int))]) (fun (i : Nat) => (⟨bs, ⟨1, true, cN (fun j => ((szA L i j : Nat) : Int)) L.length⟩, true⟩ :: ⟨b1, ⟨11, true, [.int .i64 0, .str [], .int .i64 0, .nils, .int .i64 0, .int .i64 0, .int .i64 0, .nils, .int .i64 0, .bool false, .nils]⟩, true⟩ :: ⟨bx, ⟨1, true, [v]⟩, true⟩ :: hs)) (fun (i : Nat) => i ≤ L.length) (fun (i : Nat) => L.length - i) (0) (Nat.zero_le _) zv (by rw [← sz_0]; exact SubH.refl _) (fun i hI0 ih0 => ?_)))))))))))))))
 have h1 := hI0
 refine zr (zq (Q.bin rfl rfl rfl (bvl ltn)) (zk (W.seq (W.cD rfl (fun hc23 => ?_) (fun hc23 => ?_)))))
 ·obtain ⟨bv, szv, exv, rfl, wv, mv⟩ := hV.1.full zy
  have hal := (hB.at (i := i) zy).a
  refine zw (W.seq (W.block (zr (zm rfl (zq (Q.iS ud30 sz42 rfl rfl zo) (zq (Q.loadN rfl (List.mem_cons_of_mem _ (List.mem_cons_of_mem _ (List.mem_cons_of_mem _ mv))) ag42 sz42 (cI_at zo)) (WO.alloc ao42 rfl (fun b2 => za rfl (WO.store sz42 rfl rfl (i := 0) rfl (and_tt rfl (IOK.cells (hV.at zy))) (cs := [_, _, _, _, _, _, _, _, _, _, _, _]) rfl (hs' := _ :: _ :: _ :: _ :: _) rfl (zk (zr (zm rfl (zm rfl (zq (Q.iS ud40 sz3 rfl rfl zo) (WO.store sz3 rfl (zi 1) (i := 1) rfl (ck1 rfl (cN_le zy)) (sz_lay0 zy) (hs' := _ :: _ :: _ :: _ :: _) rfl (zk (zr (zf fa42_1 rfl 11 (zq (Q.l1 rfl (zt 0 rfl) ag40 rfl) (zq (Q.len ud40 rfl (hV.at zo).a.len) (zq (Q.move (zi 0)) (zk (W.block ?_)))))))))))))))))))))))
  refine W.loop_ind2 (fun (q : Nat) (xa : AV) => [(1, .ptr bx 0), (2, .ptr b1 0), (5, .slice bs 0 L.length 1), (6, .int .i64 ((i : Nat) : Int)), (20, .slice bv 0 L.length 12), (21, .int .i64 ((L.length : Nat) : Int)), (22, .int .i64 ((i : Nat) : Int)), (31, xa), (32, .int .i64 (((ei L i).ars.length : Nat) : Int)), (33, .int .i64 ((q : Nat) : Int))]) (fun (q : Nat) (xa : AV) => (⟨bs, ⟨1, true, cN (fun j => ((szB L i q j : Nat) : Int)) L.length⟩, true⟩ :: ⟨b1, ⟨11, true, [.int .i64 0, .str [], .int .i64 0, .nils, .int .i64 0, .int .i64 0, .int .i64 0, .nils, .int .i64 0, .bool false, .nils]⟩, true⟩ :: ⟨bx, ⟨1, true, [.slice bv 0 L.length 12]⟩, true⟩ :: hs)) (fun (q : Nat) (xa : AV) => q ≤ (ei L i).ars.length ∧ RIn hs 1 (ei L i).ars.length (cA (ei L i).ars) xa) (fun (q : Nat) (xa : AV) => (ei L i).ars.length - q) (0) (_) ⟨Nat.zero_le _, (hV.at zy).a⟩ zv gc (fun q xa hI1 ih1 => ?_)
  obtain ⟨h2, hxa⟩ := hI1
  refine zr (zq (Q.bin rfl rfl rfl (bvl ltn)) (zk (W.seq (W.cD rfl (fun hc34 => ?_) (fun hc34 => ?_)))))
  ·have hq1 := ok_ar (hok i zy) (ai_mem (A := (ei L i).ars) (q := q) zy)
   have hz1 := szB_le (L := L) (i := i) (q := q) i
   have hz2 := szB_le (L := L) (i := i) (q := q) (ai (ei L i).ars q).toNat
   obtain ⟨ba, sza, exa, rfl, wa_, ma⟩ := hxa.full zy
   refine zw (W.seq (W.block (zr (zq (Q.iS ud40 sz3 rfl rfl zo) (zq (Q.l1 rfl (List.mem_cons_of_mem _ (List.mem_cons_of_mem _ (List.mem_cons_of_mem _ ma))) ag3 (cA_atN zo hq1.1)) (za rfl (zk (W.regT (by kernel_rfl) (zm rfl (zm rfl (zm rfl (zm rfl (zq (Q.iS ud40 sz3 rfl rfl zo) (zq (Q.l1 rfl (zt 0 rfl) ag3 (cN_at zo)) (zm rfl (zm rfl (zq (Q.iS ud40 sz3 rfl rfl zo) (zq (Q.l1 rfl (zt 0 rfl) ag3 (cN_at zo)) (zq (Q.bin rfl rfl rfl zp) (zq (Q.minmax false (oLc (zi 4097) (oLc rfl oz)) mm_min) (zq (Q.iS ud40 sz3 rfl rfl zo) (WO.store sz3 rfl rfl (i := 0) rfl (ck1 rfl (cN_le zy)) (sz_lay hok zy zy) (hs' := _ :: _ :: _ :: _) rfl (WO.nil ?_)))))))))))))))))))))))
   refine End.KB (End.K (W.sub (zc 1 rfl (zc 2 rfl (zc 5 rfl (zc 6 rfl (zc 20 rfl (zc 21 rfl (zc 22 rfl (zc 31 rfl (zc 32 rfl (zc 33 rfl zzn)))))))))) (W.reg (zq (Q.bin rfl (zi 1) rfl zp) (zm rfl (WO.nil (End.KL (W.sub zv (W.sH gc (ih1 (q + 1) (_) ?_ ?_))))))))))
   ·exact ⟨by omega, hxa⟩
   exact zo
  obtain rfl : q = (ei L i).ars.length := zy
  rw [sz_end hok zy]
  refine W.exit (End.Kx (End.Lx (End.Bh (End.KB (End.K (W.reg (zq (Q.bin rfl (zi 1) rfl zp) (zm rfl (WO.nil (End.KL (W.sub zv (W.sH gc (ih0 (i + 1) ?_ ?_)))))))))))))
  ·exact zy
  exact zo
 obtain rfl : i = L.length := zy
 have hzl := szA_last (L := L) h0
 refine W.exit (End.Kx (End.Lx (End.Bh (End.K (W.seq (zr (zm rfl (zq (Q.l1 rfl (zt 2 rfl) ag30 rfl) (zq (Q.len ud30 rfl hV.1.len) (zq (Q.bin rfl (zi 1) rfl (bv_sub (wns zo))) (zq (Q.iS ud40 sz3 rfl rfl zo) (zq (Q.l1 rfl (zt 0 rfl) ag3 (cN_at zo)) (zq (Q.bin rfl (zi 4096) rfl (bv_gtr ltn)) (zk (W.cD rfl (fun hc58 => ?_) (fun hc58 => ?_))))))))))))))))
 ·refine zr (zq (zB pl26 oPs_nil rfl rfl) (zS sz26 rfl rfl (i := 1) rfl rfl rfl (hs' := _ :: _ :: _ :: _) rfl (za (zi 3) (zk (W.sub (zc 3 rfl (zc 2 rfl zzn)) (W.ret ?_))))))
  refine End.Kr (End.ret (zA rfl (zt 1 rfl) ag26 sz26 rfl (z1 rfl)) (hs' := []) ⟨3, zeroT, [.int .i64 0, .str [], .int .i64 0, .nils, .int .i64 0, .int .i64 0, .int .i64 0, .nils, .int .i64 0, .bool false, .nils], .inr (.inl ⟨by omega, by omega, rfl, rfl⟩), zero_rep, no_wl, rfl⟩ no_wl (SubH.nil _))
 refine zw (zr (WO.alloc ao65 rfl (fun b3 => zk (zr (zq (Q.makeF (oLc rfl (oLc rfl oz))) (WO.store sz65 rfl rfl (i := 0) rfl rfl (cs := [_]) rfl (hs' := _ :: _ :: _ :: _ :: _) rfl (zk (zr (zq (Q.l1 rfl (zt 0 rfl) ag65 rfl) (zq (Q.l1 rfl (zt 3 rfl) ag30 rfl) (zq (Q.len ud30 rfl hV.1.len) (zq (Q.bin rfl (zi 1) rfl (bv_sub (wns zo))) (WO.call0 rfl (oLc rfl oz) rfl (grow_spec (ro [⟨b3, ⟨1, true, [.func 53 [.ptr bx 0, .ptr b3 0]]⟩, true⟩, ⟨bx, ⟨1, true, [v]⟩, true⟩] ++ hs) (ro_app hro) L v hV.app hB hok bx b3 ⟨false, by simp [ro]⟩ ⟨false, by simp [ro]⟩ (L.length - 1) zy) (SubR.mix gc hro) rfl (fun v65 D65 hP65 => ?_))))))))))))))
 obtain ⟨c65, rfl, hT65, hw65⟩ := hP65
 obtain ⟨dk, vmk, vnk, vkk, rfl, hqm, hqn, hqk, hqo⟩ := TRep.opn hT65
 refine WO.subH (hs' := _ :: _ :: _ :: _ :: (hs ++ D65)) (SubH.op (perm_tail (N := []) (G := D65) (K := [_, _, _, _]) (X := hs))) (zS sz26 rfl rfl (i := 2) rfl (and_tt rfl (nd_all hqm.cell hqn.cell hqk.cell)) rfl (hs' := _ :: _ :: _ :: _ :: _) rfl (za (zi 0) (zk (W.sub (zc 3 rfl (zc 2 rfl zzn)) (W.ret ?_)))))
 refine End.ret (zA rfl (zt 2 rfl) ag26 sz26 rfl (z1 rfl)) (hs' := D65) ⟨0, _, _, .inr (.inr ⟨by omega, by omega, rfl, rfl⟩), hT65, hw65, rfl⟩ hw65 gc
theorem bs_int {k : IntKind} {a : Int} {t : TypeId} {tb : Tab} : evBin tb .neq t (.int k a) (.int k a) = some (.bool false) := bv_neq (by rw [ne_int]; simp)
theorem bs_str {x : List Nat} {t : TypeId} {tb : Tab} : evBin tb .neq t (.str x) (.str x) = some (.bool false) := by rw [bv_sneq]; simp
theorem bs_bool {tb : Tab} {t : TypeId} (h : tb.und t = some .bool) {b : Bool} : evBin tb .neq t (.bool b) (.bool b) = some (.bool false) := by rw [bv_bne h]; cases b <;> rfl
theorem bs_mt {m : Mt} : evBin tab .neq 91 (.agg (mC m)) (.agg (mC m)) = some (.bool false) := by
 obtain ⟨k, a, b⟩ := m
 have h1 : eqA k k = true := by rw [eq_int]; simp
 have h2 : listBeq a a = true := by rw [eq_str]; simp
 have h3 : listBeq b b = true := by rw [eq_str]; simp
 show (match eqTop tab 91 (.agg [.int .i64 k, .str a, .str b]) (.agg [.int .i64 k, .str a, .str b]) with
  | some b => some (AV.bool (!b))
  | none => none) = _
 have e : eqTop tab 91 (.agg [.int .i64 k, .str a, .str b]) (.agg [.int .i64 k, .str a, .str b]) = (match eqA k k with | true => (match listBeq a a with | true => (match listBeq b b with | true => some true | false => some false) | false => some false) | false => some false) := by kernel_rfl
 rw [e, h1, h2, h3]; rfl
def mi (l : List Mt) (i : Nat) : Mt := l.getD i default
theorem mi_at {l : List Mt} {i : Nat} (h : i < l.length) : l[i]? = some (mi l i) := by
 unfold mi
 rw [List.getD_eq_getElem?_getD, List.getElem?_eq_getElem h]; rfl
theorem cM_at {l : List Mt} {i : Nat} (h : i < l.length) : sub? (cM l) ((0 + i) * 3) 3 = some (mC (mi l i)) := by
 rw [Nat.zero_add]; exact flat_sub (f := mC) (fun _ => rfl) l i _ (mi_at h)
def si (l : List (List Nat)) (i : Nat) : List Nat := l.getD i []
theorem si_at {l : List (List Nat)} {i : Nat} (h : i < l.length) : l[i]? = some (si l i) := by
 unfold si
 rw [List.getD_eq_getElem?_getD, List.getElem?_eq_getElem h]; rfl
theorem cS_at {l : List (List Nat)} {i : Nat} (h : i < l.length) : (cS l)[(0 + i) * 1]? = some (.str (si l i)) := by
 rw [Nat.zero_add, Nat.mul_one, cS, List.getElem?_map, si_at h]; rfl
def kd (l : List TD) (i : Nat) : TD := l.getD i zeroT
theorem kd_at {l : List TD} {i : Nat} (h : i < l.length) : l[i]? = some (kd l i) := by
 unfold kd
 rw [List.getD_eq_getElem?_getD, List.getElem?_eq_getElem h]; rfl
theorem kd_mem {l : List TD} {i : Nat} (h : i < l.length) : kd l i ∈ l := List.mem_of_getElem? (kd_at h)
theorem ag9 : tab.isAgg 9 = some false := by kernel_rfl
theorem ag91 : tab.isAgg 91 = some true := by kernel_rfl
theorem fa26_0 : FA tab 26 0 = some (0, 0 + 1) := by kernel_rfl
theorem fa26_1 : FA tab 26 1 = some (1, 0 + 1) := by kernel_rfl
theorem fa26_2 : FA tab 26 2 = some (2, 0 + 1) := by kernel_rfl
theorem fa26_4 : FA tab 26 4 = some (4, 0 + 1) := by kernel_rfl
theorem fa26_5 : FA tab 26 5 = some (5, 0 + 1) := by kernel_rfl
theorem fa26_6 : FA tab 26 6 = some (6, 0 + 1) := by kernel_rfl
theorem fa26_8 : FA tab 26 8 = some (8, 0 + 1) := by kernel_rfl
theorem fa26_9 : FA tab 26 9 = some (9, 0 + 1) := by kernel_rfl
theorem ud4 : tab.und 4 = some .bool := by kernel_rfl
theorem same_step (hs : HSt) (hro : ∀ e ∈ hs, e.w = false) (d : ND) (ks : List TD) (vm vn vk vm' vn' vk' : AV) (cs cs' : List (List AV))
 (hm : RIn hs 3 d.ms.length (cM d.ms) vm) (hn : RIn hs 1 d.nm.length (cS d.nm) vn) (hk : RIn hs 11 ks.length (cs.flatMap id) vk) (hd : d.bd) (hks : ks.length ≤ 1048576) (hR : TReps hs ks cs)
 (hm' : RIn hs 3 d.ms.length (cM d.ms) vm') (hn' : RIn hs 1 d.nm.length (cS d.nm) vn') (hk' : RIn hs 11 ks.length (cs'.flatMap id) vk') (hR' : TReps hs ks cs')
 (ih : ∀ k ∈ ks, ∀ c c', TRep hs k c → TRep hs k c' → Spec tab 29 [.agg c, .agg c'] [] hs (Val (.bool true))) : Spec tab 29 [.agg (d.c vm vn vk), (.agg (d.c vm' vn' vk'))] [] hs (Val (.bool true)) := by
 have hd1 := hd.2.1.1
 have hd2 := hd.2.2.1
 refine Spec.en (ftg 29 Tryz.func29) rfl (m := 144) rfl (rs := [.tmp 4]) rfl (st := [(0, .agg (d.c vm vn vk)), (1, (.agg (d.c vm' vn' vk')))]) rfl rfl (fun _ => rfl) (fun E => zr (WO.box rfl (nd_cells hm.cell hn.cell hk.cell) (bx26 _ rfl) rfl (fun b1 => WO.box rfl (nd_cells hm'.cell hn'.cell hk'.cell) (bx26 _ rfl) rfl (fun b2 => za rfl (zk (W.seq (zr (zf fa26_0 rfl 0 (zq (Q.l1 rfl (zt 1 rfl) ag3 rfl) (zf fa26_0 rfl 0 (zq (Q.l1 rfl (zt 0 rfl) ag3 rfl) (zq (Q.bin rfl rfl rfl bs_int) (zm rfl (zT (zf fa26_1 rfl 1 (zT (zq (Q.l1 rfl (zt 1 rfl) ag9 rfl) (zT (zf fa26_1 rfl 1 (zT (zq (Q.l1 rfl (zt 0 rfl) ag9 rfl) (zT (zq (Q.bin rfl rfl rfl bs_str) ?_)))))))))))))))))))))))
 refine zq (Q.pF rfl rfl) (zm rfl (zT (zf fa26_2 rfl 2 (zT (zq (Q.l1 rfl (zt 1 rfl) ag3 rfl) (zT (zf fa26_2 rfl 2 (zT (zq (Q.l1 rfl (zt 0 rfl) ag3 rfl) (zT (zq (Q.bin rfl rfl rfl bs_int) (zq (Q.pF rfl rfl) (zm rfl (zT (zf fa26_4 rfl 4 (zT (zq (Q.l1 rfl (zt 1 rfl) ag3 rfl) (zT (zf fa26_4 rfl 4 (zT (zq (Q.l1 rfl (zt 0 rfl) ag3 rfl) (zT (zq (Q.bin rfl rfl rfl bs_int) ?_)))))))))))))))))))))))
 refine zq (Q.pF rfl rfl) (zm rfl (zT (zf fa26_5 rfl 5 (zT (zq (Q.l1 rfl (zt 1 rfl) ag3 rfl) (zT (zf fa26_5 rfl 5 (zT (zq (Q.l1 rfl (zt 0 rfl) ag3 rfl) (zT (zq (Q.bin rfl rfl rfl bs_int) (zq (Q.pF rfl rfl) (zm rfl (zT (zf fa26_6 rfl 6 (zT (zq (Q.l1 rfl (zt 1 rfl) ag3 rfl) (zT (zf fa26_6 rfl 6 (zT (zq (Q.l1 rfl (zt 0 rfl) ag3 rfl) (zT (zq (Q.bin rfl rfl rfl bs_int) ?_)))))))))))))))))))))))
 refine zq (Q.pF rfl rfl) (zm rfl (zT (zf fa26_8 rfl 8 (zT (zq (Q.l1 rfl (zt 1 rfl) ag3 rfl) (zT (zf fa26_8 rfl 8 (zT (zq (Q.l1 rfl (zt 0 rfl) ag3 rfl) (zT (zq (Q.bin rfl rfl rfl bs_int) (zq (Q.pF rfl rfl) (zm rfl (zT (zf fa26_9 rfl 9 (zT (zq (Q.l1 rfl (zt 1 rfl) ag4 rfl) (zT (zf fa26_9 rfl 9 (zT (zq (Q.l1 rfl (zt 0 rfl) ag4 rfl) (zT (zq (Q.bin rfl rfl rfl (bs_bool ud4)) ?_)))))))))))))))))))))))
 refine zq (Q.pF rfl rfl) (zm rfl (zT (zf fa26_3 rfl 3 (zT (zq (Q.l1 rfl (zt 1 rfl) ag22 rfl) (zT (zq (Q.len ud22 rfl hm.len) (zT (zf fa26_3 rfl 3 (zT (zq (Q.l1 rfl (zt 0 rfl) ag22 rfl) (zT (zq (Q.len ud22 rfl hm'.len) (zT (zq (Q.bin rfl rfl rfl bs_int) (zq (Q.pF rfl rfl) (zm rfl (zT (zf fa26_7 rfl 7 (zT (zq (Q.l1 rfl (zt 1 rfl) ag23 rfl) (zT (zq (Q.len ud23 rfl hn.len) ?_)))))))))))))))))))))))
 refine zT (zf fa26_7 rfl 7 (zT (zq (Q.l1 rfl (zt 0 rfl) ag23 rfl) (zT (zq (Q.len ud23 rfl hn'.len) (zT (zq (Q.bin rfl rfl rfl bs_int) (zq (Q.pF rfl rfl) (zm rfl (zT (zf fa26_10 rfl 10 (zT (zq (Q.l1 rfl (zt 1 rfl) ag24 rfl) (zT (zq (Q.len ud24 rfl hk.len) (zT (zf fa26_10 rfl 10 (zT (zq (Q.l1 rfl (zt 0 rfl) ag24 rfl) (zT (zq (Q.len ud24 rfl hk'.len) (zT (zq (Q.bin rfl rfl rfl bs_int) ?_)))))))))))))))))))))))
 refine zq (Q.pF rfl rfl) (zk (W.sub (zc 88 rfl (zc 3 rfl (zc 2 rfl zzn))) (W.condF rfl (zw (W.seq (zr (za (zi 0) (zk (W.block (W.loop_ind (fun (i : Nat) => [(2, .ptr b1 0), (3, .ptr b2 0), (5, .int .i64 ((i : Nat) : Int))]) (fun (i : Nat) => (⟨b2, ⟨11, true, d.c vm' vn' vk'⟩, true⟩ :: ⟨b1, ⟨11, true, d.c vm vn vk⟩, true⟩ :: hs)) (fun (i : Nat) => i ≤ d.ms.length) (fun (i : Nat) => d.ms.length - i) (0) (Nat.zero_le _) zv (SubH.refl _) (fun i hI0 ih0 => ?_)))))))))))
 have h1 := hI0
 refine W.seq (zr (zm rfl (zf fa26_3 rfl 3 (zq (Q.l1 rfl (zt 1 rfl) ag22 rfl) (zq (Q.len ud22 rfl hm.len) (zq (Q.bin rfl rfl rfl (bvl ltn)) (zk (W.cD rfl (fun hc93 => ?_) (fun hc93 => ?_)))))))))
 ·obtain ⟨bm, szm, exm, rfl, wm, mm⟩ := hm.full zy
  obtain ⟨bm2, szm2, exm2, rfl, wm2, mm2⟩ := hm'.full zy
  refine zw (W.seq (W.block (W.seq (W.regT (by kernel_rfl) (zf fa26_3 rfl 3 (zq (Q.l1 rfl (zt 1 rfl) ag22 rfl) (zm rfl (zq (Q.iS ud22 sz91 rfl rfl zo) (zq (Q.loadN rfl (List.mem_cons_of_mem _ (List.mem_cons_of_mem _ mm)) ag91 sz91 (cM_at zo)) (zf fa26_3 rfl 3 (zq (Q.l1 rfl (zt 0 rfl) ag22 rfl) (zm rfl (zq (Q.iS ud22 sz91 rfl rfl zo) (zq (Q.loadN rfl (List.mem_cons_of_mem _ (List.mem_cons_of_mem _ mm2)) ag91 sz91 (cM_at zo)) (zq (Q.bin rfl rfl rfl bs_mt) (zk (W.sub (zc 106 rfl (zc 2 rfl (zc 3 rfl (zc 5 rfl zzn)))) (W.condF rfl (W.skip (End.KB (End.K (W.reg (zm rfl (zq (Q.bin rfl (zi 1) rfl zp) ?_))))))))))))))))))))))))
  refine za rfl (WO.nil (End.KL (W.sub zv (W.sH gc (ih0 (i + 1) ?_ ?_)))))
  ·exact zy
  exact zo
 refine W.exit (End.Kx (End.Lx (End.Bh (End.K (W.seq (zr (za (zi 0) (zk (W.block (W.loop_ind (fun (i : Nat) => [(2, .ptr b1 0), (3, .ptr b2 0), (6, .int .i64 ((i : Nat) : Int))]) (fun (i : Nat) => (⟨b2, ⟨11, true, d.c vm' vn' vk'⟩, true⟩ :: ⟨b1, ⟨11, true, d.c vm vn vk⟩, true⟩ :: hs)) (fun (i : Nat) => i ≤ d.nm.length) (fun (i : Nat) => d.nm.length - i) (0) (Nat.zero_le _) zv (SubH.refl _) (fun i hI1 ih1 => ?_)))))))))))
 have h1 := hI1
 refine W.seq (zr (zm rfl (zf fa26_7 rfl 7 (zq (Q.l1 rfl (zt 1 rfl) ag23 rfl) (zq (Q.len ud23 rfl hn.len) (zq (Q.bin rfl rfl rfl (bvl ltn)) (zk (W.cD rfl (fun hc111 => ?_) (fun hc111 => ?_)))))))))
 ·obtain ⟨bn, szn, exn, rfl, wn, mn⟩ := hn.full zy
  obtain ⟨bn2, szn2, exn2, rfl, wn2, mn2⟩ := hn'.full zy
  refine zw (W.seq (W.block (W.seq (W.regT (by kernel_rfl) (zf fa26_7 rfl 7 (zq (Q.l1 rfl (zt 1 rfl) ag23 rfl) (zm rfl (zq (Q.iS ud23 sz9 rfl rfl zo) (zq (Q.l1 rfl (List.mem_cons_of_mem _ (List.mem_cons_of_mem _ mn)) ag9 (cS_at zo)) (zf fa26_7 rfl 7 (zq (Q.l1 rfl (zt 0 rfl) ag23 rfl) (zm rfl (zq (Q.iS ud23 sz9 rfl rfl zo) (zq (Q.l1 rfl (List.mem_cons_of_mem _ (List.mem_cons_of_mem _ mn2)) ag9 (cS_at zo)) (zq (Q.bin rfl rfl rfl bs_str) (zk (W.sub (zc 124 rfl (zc 2 rfl (zc 3 rfl (zc 6 rfl zzn)))) (W.condF rfl (W.skip (End.KB (End.K (W.reg (zm rfl (zq (Q.bin rfl (zi 1) rfl zp) ?_))))))))))))))))))))))))
  refine za rfl (WO.nil (End.KL (W.sub zv (W.sH gc (ih1 (i + 1) ?_ ?_)))))
  ·exact zy
  exact zo
 refine W.exit (End.Kx (End.Lx (End.Bh (End.K (W.seq (zr (za (zi 0) (zk (W.block (W.loop_ind (fun (i : Nat) => [(2, .ptr b1 0), (3, .ptr b2 0), (7, .int .i64 ((i : Nat) : Int))]) (fun (i : Nat) => (⟨b2, ⟨11, true, d.c vm' vn' vk'⟩, true⟩ :: ⟨b1, ⟨11, true, d.c vm vn vk⟩, true⟩ :: hs)) (fun (i : Nat) => i ≤ ks.length) (fun (i : Nat) => ks.length - i) (0) (Nat.zero_le _) zv (SubH.refl _) (fun i hI2 ih2 => ?_)))))))))))
 have h1 := hI2
 refine W.seq (zr (zm rfl (zf fa26_10 rfl 10 (zq (Q.l1 rfl (zt 1 rfl) ag24 rfl) (zq (Q.len ud24 rfl hk.len) (zq (Q.bin rfl rfl rfl (bvl ltn)) (zk (W.cD rfl (fun hc129 => ?_) (fun hc129 => ?_)))))))))
 ·obtain ⟨bk, szk, exk, rfl, wk, mk⟩ := hk.full zy
  obtain ⟨bk2, szk2, exk2, rfl, wk2, mk2⟩ := hk'.full zy
  obtain ⟨c1, hc1, hT1⟩ := hR.at (kd_at (i := i) zy)
  obtain ⟨c2, hc2, hT2⟩ := hR'.at (kd_at (i := i) zy)
  obtain ⟨d1, um, un, uk, rfl, qm, qn, qk, qo⟩ := TRep.opn hT1
  obtain ⟨d2, um2, un2, uk2, rfl, qm2, qn2, qk2, qo2⟩ := TRep.opn hT2
  refine zw (W.seq (W.block (W.seq (W.regT (by kernel_rfl) (zf fa26_10 rfl 10 (zq (Q.l1 rfl (zt 1 rfl) ag24 rfl) (zm rfl (zq (Q.iS ud24 sz26 rfl rfl zo) (zq (Q.loadN rfl (List.mem_cons_of_mem _ (List.mem_cons_of_mem _ mk)) ag26 sz26 (by rw [Nat.zero_add]; exact flat_id_sub hR.lens hc1)) (zf fa26_10 rfl 10 (zq (Q.l1 rfl (zt 0 rfl) ag24 rfl) (zm rfl (zq (Q.iS ud24 sz26 rfl rfl zo) (zq (Q.loadN rfl (List.mem_cons_of_mem _ (List.mem_cons_of_mem _ mk2)) ag26 sz26 (by rw [Nat.zero_add]; exact flat_id_sub hR'.lens hc2)) (WO.cV rfl (oLc rfl (oLc rfl oz)) rfl (ih _ (kd_mem zy) _ _ hT1 hT2) (SubR.t (SubR.t (SubR.s hro))) rfl (zq (Q.not rfl rfl) (zk (W.sub (zc 143 rfl (zc 2 rfl (zc 3 rfl (zc 7 rfl zzn)))) (W.condF rfl (W.skip (End.KB (End.K (W.reg (zm rfl ?_))))))))))))))))))))))))
  refine zq (Q.bin rfl (zi 1) rfl zp) (za rfl (WO.nil (End.KL (W.sub zv (W.sH gc (ih2 (i + 1) ?_ ?_))))))
  ·exact zy
  exact zo
 refine W.exit (End.Kx (End.Lx (End.Bh (End.K (zr (za rfl (zk (W.ret (End.rV (z1 rfl) ?_)))))))))
 rfl
mutual
theorem same_spec (hs : HSt) (hro : ∀ e ∈ hs, e.w = false) : ∀ (t : TD) (c c' : List AV), TRep hs t c → TRep hs t c' → Spec tab 29 [.agg c, .agg c'] [] hs (Val (.bool true))
 | .node d ks, c, c', h, h' => by
  rw [TRep] at h h'
  obtain ⟨vm, vn, vk, cs, rfl, h1, h2, h3, h4, h5, h6⟩ := h
  obtain ⟨vm', vn', vk', cs', rfl, g1, g2, g3, _, _, g6⟩ := h'
  exact same_step hs hro d ks vm vn vk vm' vn' vk' cs cs' h1 h2 h3 h4 h5 h6 g1 g2 g3 g6 (same_specs hs hro ks)
theorem same_specs (hs : HSt) (hro : ∀ e ∈ hs, e.w = false) : ∀ (ks : List TD), ∀ k ∈ ks, ∀ c c', TRep hs k c → TRep hs k c' → Spec tab 29 [.agg c, .agg c'] [] hs (Val (.bool true))
 | [], k, h, _, _, _, _ => by cases h
 | x :: ks, k, h, c, c', h1, h2 => by
  rcases List.mem_cons.1 h with e | h
  ·exact same_spec hs hro x c c' (e ▸ h1) (e ▸ h2)
  ·exact same_specs hs hro ks k h c c' h1 h2
end
open Go.RowKit Go.ChangeShapes Go.WideShapes
section
variable {H : Type} {enc : TypeId × Value → H} {P : Program} {w : World} {held : Bool}
end
def RowI (k : Nat) {α : Type} (sz : Nat) (f : List α → List AV) (X : List α) (va : AV) (x : InB) : Prop := (va = .nils ∧ X = []) ∨ (va = .slice k 0 X.length sz ∧ x.cells = f X)
theorem RowI.cell {k sz : Nat} {α : Type} {f : List α → List AV} {X : List α} {va : AV} {x : InB} (h : RowI k sz f X va x) : va.isCell = true := by
 rcases h with ⟨rfl, _⟩ | ⟨rfl, _⟩ <;> rfl
section
variable {H : Type} {enc : TypeId × Value → H} {W : World}
end
end Go.Proofs.YtndhhgbpcmfeiaaGreatDoor.Ev
