/- Chapter 20, walks: the program lays a tree. -/
import Derived.Test.YtndhhgbpcmfeiaaGreatDoorMHe
import Derived.Test.YtndhhgbpcmfeiaaGreatDoorMHb
namespace Go.Proofs.YtndhhgbpcmfeiaaGreatDoor.Ev
open Go.RowKit
set_option linter.unusedVariables false
set_option linter.unusedSimpArgs false
set_option maxRecDepth 100000
set_option maxHeartbeats 1000000
def MkP (hs : HSt) (t : TD) (Z : List IE) (bo : Nat) (v : AV) (D : HSt) : Prop := ∃ (W2 : List IE) (w2 : AV) (hp2 hl2 : HSt), v = .int .i64 (((Z ++ W2).length - 1 : Nat) : Int) ∧ OwnE 12 (cI (Z ++ W2)) (Z ++ W2).length w2 hp2 ∧ (∀ x ∈ W2, IOK ([] ++ hl2) x ∧ x.vk = .nils ∧ IBd x) ∧ D2 (Z ++ W2) = layT t (D2 Z) ∧ (∀ y ∈ hl2, y.w = true) ∧ D = ⟨bo, ⟨1, true, [w2]⟩, true⟩ :: (hp2 ++ hl2)
theorem rin_kln {hs : HSt} {n : Nat} {cells : List AV} {v : AV} (h : RIn hs 11 n cells v) : KLn v n := h.imp (fun ⟨a, b, _⟩ => ⟨a, b⟩) fun ⟨b, z, ex, e, _⟩ => ⟨b, 0, 11, e⟩
theorem lay_0 {u v : AV} (h : v.isCell = true) : layL [u] 0 v.cells = [v] := by rw [cells_cell h]; rfl
theorem mk_fin {hl ha Dm Dn D : HSt} {W2 : List IE} {ks : List TD} {L : List (ND × List Int)} {d : ND} {vm vn ar : AV} (h : ∀ x ∈ W2, IOK ([] ++ hl) x ∧ x.vk = .nils ∧ IBd x) (hm : OwnE 3 (cM d.ms) d.ms.length vm Dm) (hn : OwnE 1 (cS d.nm) d.nm.length vn Dn) (hD : D = Dm ++ Dn) (hA : OwnE 1 (cA (layK ks L []).2) ks.length ar ha) (hd : d.bd) (hks : ks.length ≤ 1048576) (hb : L.length + szK ks ≤ 2097152) :
  ∀ x ∈ W2 ++ [⟨d, (layK ks L []).2, 0, vm, vn, .nils, ar⟩], IOK ([] ++ ((hl ++ ha) ++ D)) x ∧ x.vk = .nils ∧ IBd x := fun x hx => by
 have h2 := lay_fin (hs := Dm ++ Dn) (W2 := []) (hl := hl) (d := d) (vm := vm) (vn := vn) (ar := ar) (ha := ha) (fun x hx => by simp at hx) (RIn.own hm).appl (RIn.own hn).app hA hd hks hb
 rcases List.mem_append.1 hx with hx | hx
 ·exact ⟨(h x hx).1.mono fun b o ⟨w, q⟩ => ⟨w, by simp only [List.mem_append] at q ⊢; exact q.elim .inl fun r => .inr (.inl (.inl r))⟩, (h x hx).2⟩
 ·obtain ⟨g1, g2⟩ := h2 x (by simpa using hx)
  rw [hD]
  exact ⟨g1.mono fun b o ⟨w, q⟩ => ⟨w, by simp only [List.mem_append] at q ⊢; exact q.elim (fun r => .inr (.inr r)) fun r => .inr (.inl r)⟩, g2⟩
theorem ag57 : tab.isAgg 57 = some false := by kernel_rfl
theorem sz30 : tab.size 30 = some 1 := by kernel_rfl
theorem mk_step (hs : HSt) (hro : ∀ e ∈ hs, e.w = false) (bl bo : Nat) (ml : MemH hs bl ⟨1, true, [.func 36 [.ptr bl 0, .ptr bo 0]]⟩) (d : ND) (ks : List TD) (vm vn vk : AV) (cs : List (List AV))
 (hm : RIn hs 3 d.ms.length (cM d.ms) vm) (hn : RIn hs 1 d.nm.length (cS d.nm) vn) (hk : RIn hs 11 ks.length (cs.flatMap id) vk) (hd : d.bd) (hks : ks.length ≤ 1048576) (hR : TReps hs ks cs)
 (Z : List IE) (w : AV) (hp : HSt) (hO : OwnE 12 (cI Z) Z.length w hp) (hsz : Z.length + szT (.node d ks) ≤ 2097152)
 (ih : ∀ k ∈ ks, ∀ (c : List AV) (Z : List IE) (w : AV) (hp : HSt), TRep hs k c → OwnE 12 (cI Z) Z.length w hp → Z.length + szT k ≤ 2097152 → Spec tab 36 [.agg c, .ptr bl 0, .ptr bo 0] (bo :: hp.map (·.b)) (⟨bo, ⟨1, true, [w]⟩, true⟩ :: (hp ++ hs)) (MkP hs k Z bo)) : Spec tab 36 [.agg (d.c vm vn vk), .ptr bl 0, .ptr bo 0] (bo :: hp.map (·.b)) (⟨bo, ⟨1, true, [w]⟩, true⟩ :: (hp ++ hs)) (MkP hs (.node d ks) Z bo) := by
 obtain ⟨wl_, ml⟩ := ml
 refine Spec.en (ftg 36 Tryz.func36) rfl (m := 32) rfl (rs := [.tmp 4]) rfl (st := [(0, .agg (d.c vm vn vk)), (1, .ptr bl 0), (2, .ptr bo 0)]) rfl rfl (fun _ => rfl) (fun E => zr (WO.box rfl (nd_cells hm.cell hn.cell hk.cell) (bx26 _ rfl) rfl (fun b1 => za (zi 0) (zk (zr (za rfl (zk (W.seq (zr (zf fa26_10 rfl 10 (zq (Q.l1 rfl (zt 0 rfl) ag24 rfl) (zq (Q.len ud24 rfl hk.len) (zq (Q.move (zi 0)) (zk (W.block (W.loop_ind7 (fun (i : Nat) (W2 : List IE) (u : AV) (hq : HSt) (hl : HSt) (ar : AV) (ha : HSt) => [(1, .ptr bl 0), (2, .ptr bo 0), (3, .ptr b1 0), (5, ar), (9, vk), (10, .int .i64 ((ks.length : Nat) : Int)), (11, .int .i64 ((i : Nat) : Int))]) (fun (i : Nat) (W2 : List IE) (u : AV) (hq : HSt) (hl : HSt) (ar : AV) (ha : HSt) => (⟨b1, ⟨11, true, d.c vm vn (vk)⟩, true⟩ :: ⟨bo, ⟨1, true, [u]⟩, true⟩ :: (hs ++ hl ++ ha ++ hq))) (fun (i : Nat) (W2 : List IE) (u : AV) (hq : HSt) (hl : HSt) (ar : AV) (ha : HSt) => i ≤ ks.length ∧ OwnE 12 (cI (Z ++ W2)) (Z ++ W2).length u hq ∧ (∀ x ∈ W2, IOK ([] ++ hl) x ∧ x.vk = .nils ∧ IBd x) ∧ D2 (Z ++ W2) = (layK (ks.take i) (D2 Z) []).1 ∧ (∀ y ∈ hl, y.w = true) ∧ OwnE 1 (cA (layK (ks.take i) (D2 Z) []).2) i ar ha) (fun (i : Nat) (W2 : List IE) (u : AV) (hq : HSt) (hl : HSt) (ar : AV) (ha : HSt) => ks.length - i) (0) ([]) (w) (hp) ([]) (.nils) ([]) ⟨Nat.zero_le _, by rw [List.append_nil]; exact hO, fun x hx => by simp at hx, by rw [List.append_nil, List.take_zero, layK], no_wl, by rw [List.take_zero, layK]; exact OwnE.nil 1⟩ zv (show SubH _ (⟨b1, ⟨11, true, d.c vm vn vk⟩, true⟩ :: ⟨bo, ⟨1, true, [w]⟩, true⟩ :: (hp ++ hs)) from gc) (fun i W2 u hq hl ar ha hI0 ih0 => ?_)))))))))))))))))
 obtain ⟨h1, hO1, hX1, hD1, hw1, hA1⟩ := hI0
 have hlen1 : (Z ++ W2).length = Z.length + szK (ks.take i) := (by rw [← d2_len, hD1, layK_len, d2_len])
 have hszn : szT (.node d ks) = szK ks + 1 := (by rw [szT])
 have hzt := szK_take (ks := ks) (i := i)
 refine zr (zq (Q.bin rfl rfl rfl (bvl ltn)) (zk (W.seq (W.cD rfl (fun hc12 => ?_) (fun hc12 => ?_)))))
 ·have hzk := szK_step (ks := ks) (i := i) zy
  obtain ⟨bk, szk, exk, rfl, wk, mk⟩ := hk.full zy
  obtain ⟨c1, hc1, hT1⟩ := hR.at (kd_at (i := i) zy)
  obtain ⟨d1, um, un, uk, rfl, qm, qn, qk, qo⟩ := TRep.opn hT1
  refine zw (W.seq (W.block (zr (zq (Q.iS ud24 sz26 rfl rfl zo) (zq (Q.loadN rfl (List.mem_cons_of_mem _ (List.mem_cons_of_mem _ (List.mem_append_left _ (List.mem_append_left _ (List.mem_append_left _ mk))))) ag26 sz26 (by rw [Nat.zero_add]; exact flat_id_sub hR.lens hc1)) (WO.alloc ao26 rfl (fun b2 => WO.store sz26 rfl rfl (i := 0) rfl (and_tt rfl (nd_all qm.cell qn.cell qk.cell)) (cs := [_, _, _, _, _, _, _, _, _, _, _]) rfl (hs' := _ :: _ :: _ :: _) rfl (zk (W.reg (zm rfl (zq (Q.l1 rfl (List.mem_cons_of_mem _ (List.mem_cons_of_mem _ (List.mem_cons_of_mem _ (List.mem_append_left _ (List.mem_append_left _ (List.mem_append_left _ ml)))))) ag57 rfl) (zq (Q.loadN rfl (zt 0 rfl) ag26 sz26 (l := [_, _, _, _, _, _, _, _, _, _, _]) rfl) (WO.callS (M := ⟨bo, ⟨1, true, [u]⟩, true⟩ :: hq) (A := (⟨b1, ⟨11, true, d.c vm vn (.slice bk 0 ks.length 11)⟩, true⟩ :: (hs ++ hl ++ ha))) rfl (oLc rfl oz) rfl (ww (OwnE.w hO1)) gc (ih _ (kd_mem zy) _ (Z ++ W2) u hq hT1 hO1 zy) (SubR.t (SubR.appl (SubR.appl (SubR.s hro)))) rfl (fun v18 D18 hP18 => ?_))))))))))))))
  obtain ⟨W3, u3, hp3, hl3, rfl, hO3, hX3, hD3, hw3, rfl⟩ := hP18; have hl3' : (Z ++ W2 ++ W3).length = (Z ++ W2).length + szT (kd ks i) := (by rw [← d2_len, hD3, layT_len, d2_len]); have hz3 := szT_pos (t := kd ks i); refine WO.subH (hs' := ⟨b1, ⟨11, true, d.c vm vn (.slice bk 0 ks.length 11)⟩, true⟩ :: ⟨bo, ⟨1, true, [u3]⟩, true⟩ :: (hs ++ hl ++ hl3 ++ hp3 ++ ha)) gc ?_
  refine WO.bslice ud40 sz3 zr3 rfl (opc rfl oPs_nil) rfl (cs := [_]) rfl rfl rfl (fun b3 => WO.appAny (A := ([_, _] ++ hs ++ hl ++ hl3 ++ hp3)) ap40_40 hA1 rfl rfl (Src.slice (zt 0 rfl) rfl) rfl zy (by decide) (SubH.of_sublist (List.sublist_cons_self _ _)) rfl (fun v20 hp20 hO20 => za rfl (WO.nil (End.KB (End.K (W.reg (zq (Q.bin rfl (zi 1) rfl zp) (zm rfl (WO.nil (End.KL (W.sub zv (W.sH gc (ih0 (i + 1) (W2 ++ W3) (u3) (hp3) (hl ++ hl3) (v20) (hp20) ?_ ?_)))))))))))))
  ·exact ⟨by omega, by rw [← List.append_assoc]; exact hO3, lay_rows hX1 hX3, by rw [← List.append_assoc, hD3, hD1, lay_take zy], wa hw1 hw3, by rw [lay_take2 zy, ← hD1, ← hD3, d2_len]; exact lay_own hO20⟩
  exact zo
 obtain rfl : i = ks.length := zy
 rw [List.take_length] at hD1 hA1 hlen1
 refine W.exit (End.Kx (End.Lx (End.Bh (End.K (W.seq (W.regD 6 (⟨b1, _, false⟩ :: ⟨bo, _, false⟩ :: hs) (by kernel_rfl) (KIn.cons (zt 0 rfl) (KIn.cons (zt 1 rfl) (fun e he => ⟨e.w, by obtain ⟨b, o, w⟩ := e; simp [he]⟩))) (WD.q (Q.l1 rfl (zt 1 rfl) ag30 rfl) (OwnE.bq hO1) rfl (WD.q (Q.loadN rfl (zt 0 rfl) ag26 sz26 (l := [_, _, _, _, _, _, _, _, _, _, _]) rfl) (nd_bqk hm.cq hn.cq hk.cq) rfl (WD.call0 rfl (oLc rfl oz) rfl (bare_spec hs hro d _ _ _ hm hn _ (rin_kln hk) hd) (SubR.t (SubR.t (SubR.appl (SubR.appl (SubR.appl (SubR.s hro)))))) (KIn.cons (zt 0 rfl) (KIn.cons (zt 1 rfl) (fun e he => ⟨e.w, by obtain ⟨b, o, w⟩ := e; simp [he]⟩))) rfl (fun v24 D24 hP24 => ?_))))))))))
 obtain ⟨vm2, vn2, Dm, Dn, rfl, hOm, hOn, hDD⟩ := hP24
 have hwD : ∀ e ∈ D24, e.w = true := (by rw [hDD]; exact wa (OwnE.w hOm) (OwnE.w hOn))
 refine WD.subH (hs' := _ :: _ :: (hs ++ hl ++ ha ++ D24 ++ hq)) (SubH.op (perm_tailO (N := []) (G := D24) (K := [_, _]) (X := hs ++ hl ++ ha ++ hq) (by simp only [List.append_assoc, List.nil_append]; exact List.perm_iff_count.2 (by intro z; simp only [List.append_eq, List.count_append, List.count_nil]; omega)))) (WD.q (Q.move rfl) (OwnE.bq hA1) rfl (WD.q (Q.build pl42 (opc rfl (opc rfl oPs_nil)) rfl (cs := [_, _, _, _, _, _, _, _, _, _, _, _]) (fill12 (OwnE.cell hA1))) (bq12o (OwnE.bq0 hOm) (OwnE.bq0 hOn) (OwnE.bq0 hA1)) rfl (WD.bslice ud30 sz42 zr42 rfl (opc rfl oPs_nil) rfl (cs := [_, _, _, _, _, _, _, _, _, _, _, _]) rfl (all12 (OwnE.cell hOm) (OwnE.cell hOn) (OwnE.cell hA1)) rfl (KIn.cons (zt 0 rfl) (KIn.cons (zt 1 rfl) (fun e he => ⟨e.w, by obtain ⟨b, o, w⟩ := e; simp [he]⟩))) (fun b4 => WD.appAny (A := ([_, _] ++ hs ++ hl ++ ha ++ D24)) ap30_30 hO1 rfl rfl (Src.slice (zt 0 rfl) rfl) rfl zy (by decide) (SubH.of_sublist (List.sublist_cons_self _ _)) rfl (KIn.cons (zt 0 rfl) (KIn.cons (zt 1 rfl) (fun e he => ⟨e.w, by obtain ⟨b, o, w⟩ := e; simp [he]⟩))) (fun v28 hp28 hO28 => WD.store sz30 rfl rfl (j := 1) rfl (ck1 (OwnE.cell hO28) rfl) (cs := [_]) (lay_0 (OwnE.cell hO28)) (hs' := _ :: _ :: _) rfl (fun h => by cases h) (WD.nil (End.K (W.sub (zc 2 rfl zzn) (zr (zq (Q.l1 rfl (zt 1 rfl) ag30 rfl) (zq (Q.len ud30 rfl hO28.len) (zq (Q.bin rfl (zi 1) rfl (bv_sub (wns zo))) (za rfl (zk (W.ret ?_)))))))))))))))
 refine End.ret (z1 rfl) (hs' := ⟨bo, ⟨1, true, [v28]⟩, true⟩ :: (hp28 ++ ((hl ++ ha) ++ D24))) ⟨W2 ++ [⟨d, (layK ks (D2 Z) []).2, 0, vm2, vn2, .nils, ar⟩], v28, hp28, (hl ++ ha) ++ D24, by (show AV.int .i64 _ = AV.int .i64 _; congr 1; simp only [List.length_append, List.length_cons, List.length_nil]; omega), by rw [← List.append_assoc, cI_snoc, List.length_append]; exact hO28, mk_fin hX1 hOm hOn hDD hA1 hd hks (by rw [d2_len]; omega), by rw [← List.append_assoc, d2_snoc, hD1, layT], wa (wa hw1 (OwnE.w hA1)) hwD, rfl⟩ (ww (wa (OwnE.w hO28) (wa (wa hw1 (OwnE.w hA1)) hwD))) gc
mutual
theorem mk_spec (hs : HSt) (hro : ∀ e ∈ hs, e.w = false) (bl bo : Nat) (ml : MemH hs bl ⟨1, true, [.func 36 [.ptr bl 0, .ptr bo 0]]⟩) : ∀ (k : TD) (c : List AV) (Z : List IE) (w : AV) (hp : HSt), TRep hs k c → OwnE 12 (cI Z) Z.length w hp → Z.length + szT k ≤ 2097152 → Spec tab 36 [.agg c, .ptr bl 0, .ptr bo 0] (bo :: hp.map (·.b)) (⟨bo, ⟨1, true, [w]⟩, true⟩ :: (hp ++ hs)) (MkP hs k Z bo)
 | .node d ks, c, Z, w, hp, h, hO, hz => by
  rw [TRep] at h
  obtain ⟨vm, vn, vk, cs, rfl, h1, h2, h3, h4, h5, h6⟩ := h
  exact mk_step hs hro bl bo ml d ks vm vn vk cs h1 h2 h3 h4 h5 h6 Z w hp hO hz (mk_specs hs hro bl bo ml ks)
theorem mk_specs (hs : HSt) (hro : ∀ e ∈ hs, e.w = false) (bl bo : Nat) (ml : MemH hs bl ⟨1, true, [.func 36 [.ptr bl 0, .ptr bo 0]]⟩) : ∀ (ks : List TD), ∀ k ∈ ks, ∀ (c : List AV) (Z : List IE) (w : AV) (hp : HSt), TRep hs k c → OwnE 12 (cI Z) Z.length w hp → Z.length + szT k ≤ 2097152 → Spec tab 36 [.agg c, .ptr bl 0, .ptr bo 0] (bo :: hp.map (·.b)) (⟨bo, ⟨1, true, [w]⟩, true⟩ :: (hp ++ hs)) (MkP hs k Z bo)
 | [], k, h, _, _, _, _, _, _, _ => by cases h
 | x :: ks, k, h, c, Z, w, hp, h1, h2, h3 => by
  rcases List.mem_cons.1 h with e | h
  ·exact e ▸ mk_spec hs hro bl bo ml x c Z w hp (e ▸ h1) h2 (e ▸ h3)
  ·exact mk_specs hs hro bl bo ml ks k h c Z w hp h1 h2 h3
end
theorem ao30 : AO tab 30 = some ⟨1, true, [.nils]⟩ := by kernel_rfl
theorem ao57 : AO tab 57 = some ⟨1, true, [.nilf]⟩ := by kernel_rfl
theorem sz57 : tab.size 57 = some 1 := by kernel_rfl
theorem make_spec (hs : HSt) (hro : ∀ e ∈ hs, e.w = false) (k : TD) (d : ND) (vm vn vk : AV) (qm : CQ vm) (qn : CQ vn) (qk : CQ vk) (qo : Bytes d.op) (hT0 : TRep hs k (d.c vm vn vk)) (hsz : szT k ≤ 1048576) (tt er : Nat) (hTy : Spec tab 35 [.agg (d.c vm vn vk)] [] hs (Val (.tuple [.int .i64 ((tt : Nat) : Int), .int .i64 ((er : Nat) : Int)]))) : Spec tab 11 [.agg (d.c vm vn vk)] [] hs (MakeP hs k (mkE tt er)) := by
 refine Spec.en (ftg 11 Tryz.func11) rfl (m := 27) rfl (rs := [.tmp 2, .tmp 3]) rfl (st := [(0, .agg (d.c vm vn vk))]) rfl rfl (fun _ => rfl) (fun E => zr (WO.box rfl (nd_all qm.cell qn.cell qk.cell) (bx26 _ rfl) rfl (fun b1 => za rfl (za (zi 0) (zk (zr (zq (Q.loadN rfl (zt 0 rfl) ag26 sz26 (l := [_, _, _, _, _, _, _, _, _, _, _]) rfl) (WO.cV rfl (oLc rfl oz) rfl hTy (SubR.t (SubR.s hro)) rfl (zm rfl (zq (Q.extract rfl rfl) (zq (Q.extract rfl rfl) (za rfl (za rfl (zk (W.seq (zr (zm rfl (zq (Q.bin rfl (zi 0) rfl (bv_eql eq_nat)) (zm rfl (WO.sD (d := 15) rfl (fun hc15 => ?_) (fun hc15 => ?_)))))))))))))))))))))
 ·refine WO.gT rfl rfl (zm rfl (WO.gT rfl rfl (zq (Q.bin rfl (zi 3) rfl (bv_eql eq_nat)) (zq (Q.pT rfl rfl) (zk (W.sub (zc 18 rfl (zc 5 rfl (zc 1 rfl zzn))) (W.cD rfl (fun hc18 => ?_) (fun hc18 => ?_))))))))
  ·refine W.reg (za (zi 16) (zk (W.seq (zr (zm rfl (zq (Q.bin rfl (zi 0) rfl (bv_neq (p := true) rfl)) (zk (W.condT rfl (zr (zm rfl (za rfl (za rfl (zk (W.ret ?_))))))))))))))
   refine End.Kr (End.ret (ResL.tmp rfl (z1 rfl)) (hs' := []) ⟨16, (by unfold mkE; rw [if_pos ⟨by omega, by omega⟩]), [], .nils, [], [], rfl, OwnE.nil 12, (fun x hx => by simp at hx), fun h => absurd h zy, (fun _ => rfl), no_wl, rfl⟩ no_wl (SubH.nil _))
  refine zw (W.seq (zr (zm rfl (zq (Q.bin rfl (zi 0) rfl (bv_neq ne_nat)) (zk (W.cD rfl (fun hc20 => ?_) (fun hc20 => ?_)))))))
  ·(exfalso; omega)
  refine zw (zr (WO.alloc ao30 rfl (fun b2 => zk (zr (WO.alloc ao57 rfl (fun b3 => zk (zr (zq (Q.makeF (oLc rfl (oLc rfl oz))) (WO.store sz57 rfl rfl (i := 0) rfl rfl (cs := [_]) rfl (hs' := _ :: _ :: _ :: _) rfl (zk (zr (zq (Q.l1 rfl (zt 0 rfl) ag57 rfl) (zq (Q.loadN rfl (zt 2 rfl) ag26 sz26 (l := [_, _, _, _, _, _, _, _, _, _, _]) rfl) (WO.callS (M := [⟨b2, ⟨1, true, [.nils]⟩, true⟩]) (A := (⟨b3, ⟨1, true, [.func 36 [.ptr b3 0, .ptr b2 0]]⟩, true⟩ :: hs)) rfl (oLc rfl oz) rfl (fun e he => by rw [List.mem_singleton.1 he]) gc (mk_spec (ro [⟨b3, ⟨1, true, [.func 36 [.ptr b3 0, .ptr b2 0]]⟩, true⟩] ++ hs) (ro_app hro) b3 b2 ⟨false, List.mem_cons_self⟩ k _ [] .nils [] (TRep.mono (fun b o q => q.app) hT0) (OwnE.nil 12) (Nat.le_trans (Nat.le_of_eq (Nat.zero_add _)) (Nat.le_trans hsz (by decide)))) (SubR.mix gc hro) rfl (fun v25 D25 hP25 => ?_)))))))))))))))
  obtain ⟨W2, w2, hp2, hl2, rfl, hO2, hX2, hD2, hw2, rfl⟩ := hP25; refine WO.subH (hs' := ⟨b2, ⟨1, true, [w2]⟩, true⟩ :: (hs ++ hl2 ++ hp2)) gc ?_
  refine zk (zr (zq (Q.l1 rfl (zt 0 rfl) ag30 rfl) (za rfl (za (zi 0) (zk (W.ret ?_))))))
  refine End.ret (ResL.tmp rfl (z1 rfl)) (hs' := hp2 ++ hl2) ⟨0, (by unfold mkE; rw [if_neg (fun h => by omega)]; omega), W2, w2, hp2, hl2, rfl, hO2, (fun x hx => ⟨(hX2 x hx).1.mono fun b o ⟨w, q⟩ => ⟨w, List.mem_append_right _ q⟩, (hX2 x hx).2⟩), fun _ => hD2, (fun h => absurd rfl h), hw2, rfl⟩ (wa (OwnE.w hO2) hw2) gc
 refine zg rfl rfl (zg rfl rfl (zq (Q.pF rfl rfl) (zk (W.sub (zc 18 rfl (zc 5 rfl (zc 1 rfl zzn))) (W.condF rfl (zw (W.seq (zr (zm rfl (zq (Q.bin rfl (zi 0) rfl (bv_neq ne_nat)) (zk (W.cD rfl (fun hc20 => ?_) (fun hc20 => ?_)))))))))))))
 ·refine zr (zm rfl (za rfl (za rfl (zk (W.ret ?_)))))
  refine End.Kr (End.ret (ResL.tmp rfl (z1 rfl)) (hs' := []) ⟨er, (by unfold mkE; rw [if_neg (fun h => by omega)]), [], .nils, [], [], rfl, OwnE.nil 12, (fun x hx => by simp at hx), fun h => absurd h zy, (fun _ => rfl), no_wl, rfl⟩ no_wl (SubH.nil _))
 (exfalso; omega)
theorem make_c (hs : HSt) (hro : ∀ e ∈ hs, e.w = false) (k : TD) (c : List AV) (hT0 : TRep hs k c) (hsz : szT k ≤ 1048576) (tt er : Nat) (hTy : Spec tab 35 [.agg c] [] hs (Val (P16.tpair tt er))) : Spec tab 11 [.agg c] [] hs (MakeP hs k (mkE tt er)) := by
 obtain ⟨d, vm, vn, vk, rfl, qm, qn, qk, qo⟩ := TRep.opn hT0
 exact make_spec hs hro k d vm vn vk qm qn qk qo hT0 hsz tt er hTy
theorem rmake_c (hs : HSt) (hro : ∀ e ∈ hs, e.w = false) (k : TD) (c : List AV) (hT0 : TRep hs k c) (hsz : szT k ≤ 1048576) (tt er : Nat) (hTy : Spec tab 38 [.agg c] [] hs (Val (P16.tpair tt er))) : Spec tab 12 [.agg c] [] hs (MakeP hs k (mkE tt er)) := by
 obtain ⟨d, vm, vn, vk, rfl, qm, qn, qk, qo⟩ := TRep.opn hT0
 exact rmake_spec hs hro k d vm vn vk qm qn qk qo hT0 hsz tt er hTy
section
variable {Z : List IE} {w : AV} {hp hl D D0 T0 : HSt}
theorem mk_iin (hO : OwnE 12 (cI Z) Z.length w hp) (hX : ∀ x ∈ Z, IOK (ro D0 ++ hl) x ∧ x.vk = .nils ∧ IBd x) (hD : D = hp ++ hl) (h0 : ∀ e ∈ D0, e ∈ T0) (h1 : ∀ e ∈ D, e ∈ T0) : IIn (ro T0) Z w := by
 subst hD
 refine ⟨((RIn.own hO).mono fun b o ⟨w, q⟩ => ⟨w, h1 _ (List.mem_append_left _ q)⟩).ro, fun x hx => (hX x hx).1.mono fun b o ⟨w, q⟩ => ?_⟩
 rcases List.mem_append.1 q with q | q
 ·obtain ⟨e, he, e2⟩ := List.mem_map.1 q
  exact ⟨w, List.mem_map.2 ⟨e, h0 e he, e2⟩⟩
 ·exact MemH.ro ⟨w, h1 _ (List.mem_append_right _ q)⟩
theorem mk_ilb (hX : ∀ x ∈ Z, IOK (ro D0 ++ hl) x ∧ x.vk = .nils ∧ IBd x) (h : Z.length ≤ 1048576) : ILB Z := ⟨h, fun x hx => (hX x hx).2.2⟩
end
theorem law_makes (s : List Nat) (hs0 : Bytes s) : Spec tab 3 [.str s] [] [] (Val (.bool true)) := by
 refine Spec.en (ftg 3 Tryz.func3) rfl (m := 40) rfl (rs := [.tmp 2]) rfl (st := [(0, .str s)]) rfl rfl (fun _ => rfl) (fun E => zr (za rfl (zk (zr (zm rfl (WO.call0 rfl (oLc rfl oz) rfl (P16.parse_spec s hs0) SubR.nil rfl (fun v12 D12 hP12 => ?_)))))))
 obtain ⟨x, hq, m, at_, e0, rfl, nk, nw, hm, rfl⟩ := hP12
 refine WO.subH (hs' := (D12)) (SubH.op (perm_tail (N := []) (G := D12) (K := []) (X := []))) (zm rfl (zq (Q.extract rfl rfl) (zq (Q.extract rfl rfl) (zq (Q.extract rfl rfl) (WO.alloc ao26 rfl (fun b1 => WO.store sz26 rfl rfl (i := 0) rfl (and_tt rfl (P16.ckA nk.ms nk.nm nk.kd)) (cs := [_, _, _, _, _, _, _, _, _, _, _]) rfl (hs' := _ :: _) rfl (za rfl (za rfl (zk (W.seq (zr (zm rfl (zq (Q.bin rfl (zi 0) rfl (bv_neq ne_int)) (zk (W.cD rfl (fun hc17 => ?_) (fun hc17 => ?_))))))))))))))))
 ·refine zr (WO.cV rfl oz rfl (Spec.known (fun _ => rfl)) SubR.nil rfl (za rfl (zk (W.ret (End.Kr (End.rV (z1 rfl) ?_))))))
  rfl
 obtain ⟨dd, hdd⟩ := nk.nr
 obtain ⟨tt, er, hT1, hT2, _⟩ := P16.types_eq (hs := ro D12) ro_w dd _ (hdd.mono (fun b o h => h.ro)).nrep
 obtain ⟨t, ht, hz⟩ := rrep_t (hs := ro D12) (hdd.mono (fun b o h => h.ro))
 refine zw (zr (zq (Q.loadN rfl (zt 0 rfl) ag26 sz26 (l := [_, _, _, _, _, _, _, _, _, _, _]) rfl) (WO.call0 rfl (oLc rfl oz) rfl (make_c (ro D12) ro_w t _ ht zy tt er hT1) (SubR.ro gc) rfl (fun v21 D21 hP21 => ?_))))
 obtain ⟨ee1, he1, Z1, w1, hp1, hl1, rfl, hO1, hX1, hD1, hE1, hw1, hDD1⟩ := hP21
 have hl1' : Z1.length ≤ 1048576 := (by by_cases q : mkE tt er = 0 <;> first | (rw [← d2_len, hD1 (he1.trans q), layT_len]; simp; omega) | (rw [hE1 zy]; simp))
 refine WO.subH (hs' := _ :: (D12 ++ D21)) (SubH.op (perm_tail (N := []) (G := D21) (K := [_]) (X := D12))) (zm rfl (zq (Q.extract rfl rfl) (zq (Q.extract rfl rfl) (za rfl (za rfl (zk (W.sub (zc 7 rfl (zc 6 rfl (zc 3 rfl zzn))) (zr (zq (Q.loadN rfl (zt 0 rfl) ag26 sz26 (l := [_, _, _, _, _, _, _, _, _, _, _]) rfl) (WO.call0 rfl (oLc rfl oz) rfl (rmake_c (ro D12) ro_w t _ ht zy tt er hT2) (SubR.ro gc) rfl (fun v26 D26 hP26 => ?_)))))))))))
 obtain ⟨ee2, he2, Z2, w2, hp2, hl2, rfl, hO2, hX2, hD2, hE2, hw2, hDD2⟩ := hP26
 have hl2' : Z2.length ≤ 1048576 := (by by_cases q : mkE tt er = 0 <;> first | (rw [← d2_len, hD2 (he2.trans q), layT_len]; simp; omega) | (rw [hE2 zy]; simp))
 have hDZ : D2 Z1 = D2 Z2 := (by by_cases q : mkE tt er = 0 <;> first | (rw [hD1 (he1.trans q), hD2 (he2.trans q)]; done) | rw [hE1 zy, hE2 zy])
 refine WO.subH (hs' := _ :: (D12 ++ D21 ++ D26)) (SubH.op (perm_tail (N := []) (G := D26) (K := [_]) (X := D12 ++ D21))) (zm rfl (zq (Q.extract rfl rfl) (zq (Q.extract rfl rfl) (za rfl (za rfl (zk (zr (zm rfl (zm rfl (WO.cV rfl (oLc rfl (oLc rfl oz)) rfl (rsame_spec (ro (D12 ++ D21 ++ D26)) ro_w Z1 Z2 _ _ (mk_iin hO1 hX1 hDD1 (fun e h => by simp [h]) (fun e h => by simp [h])) (mk_iin hO2 hX2 hDD2 (fun e h => by simp [h]) (fun e h => by simp [h])) (mk_ilb hX1 hl1') (mk_ilb hX2 hl2') (fun x hx => (hX1 x hx).2.1) (fun x hx => (hX2 x hx).2.1) hDZ) (SubR.ro gc) rfl (zm rfl (WO.gT rfl rfl (zm rfl (WO.gT rfl rfl (zm rfl (WO.gT rfl rfl (zq (Q.bin rfl rfl rfl (bv_eql (p := true) (by rw [he1, he2, eq_int]; simp))) (zq (Q.pT rfl rfl) (zm rfl (WO.gT rfl rfl (WO.cV rfl oz rfl (Spec.known (fun _ => rfl)) SubR.nil rfl (zq (Q.pT rfl rfl) (za rfl ?_)))))))))))))))))))))))
 refine zk (W.sub (zc 2 rfl zzn) (W.ret (End.rV (z1 rfl) ?_)))
 rfl
end Go.Proofs.YtndhhgbpcmfeiaaGreatDoor.Ev
