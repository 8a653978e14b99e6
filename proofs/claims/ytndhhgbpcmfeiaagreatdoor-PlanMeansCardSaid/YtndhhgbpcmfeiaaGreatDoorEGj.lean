/- Chapter 20, walks: the program lays a tree. -/
import Derived.Test.YtndhhgbpcmfeiaaGreatDoorEHe
import Derived.Test.YtndhhgbpcmfeiaaGreatDoorEHc
import Derived.Test.YtndhhgbpcmfeiaaGreatDoorEGf
namespace Go.Proofs.YtndhhgbpcmfeiaaGreatDoor.Ev
open Go.RowKit
set_option maxRecDepth 100000
set_option maxHeartbeats 1000000
def MkP (hs : HSt) (t : TD) (Z : List IE) (bo : Nat) (v : AV) (D : HSt) : Prop := ∃ (W2 : List IE) (w2 : AV) (hp2 hl2 : HSt), v = .int .i64 (((Z ++ W2).length - 1 : Nat) : Int) ∧ OwnE 12 (cI (Z ++ W2)) (Z ++ W2).length w2 hp2 ∧ (∀ x ∈ W2, IOK ([] ++ hl2) x ∧ x.vk = .nils ∧ IBd x) ∧ D2 (Z ++ W2) = layT t (D2 Z) ∧ (∀ y ∈ hl2, y.w = true) ∧ D = ⟨bo, ⟨1, true, [w2]⟩, true⟩ :: (hp2 ++ hl2)
theorem rin_kln {hs : HSt} {n : Nat} {cells : List AV} {v : AV} (h : RIn hs 11 n cells v) : KLn v n := h.imp (fun ⟨a, b, _⟩ => ⟨a, b⟩) fun ⟨b, z, ex, e, _⟩ => ⟨b, 0, 11, e⟩
theorem lay_0 {u v : AV} (h : v.isCell = true) : layL [u] 0 v.cells = [v] := by rw [cells_cell h]; rfl
theorem mk_fin {hl ha Dm Dn D : HSt} {W2 : List IE} {ks : List TD} {L : List (ND × List Int)} {d : ND} {vm vn ar : AV} (h : ∀ x ∈ W2, IOK ([] ++ hl) x ∧ x.vk = .nils ∧ IBd x) (hm : OwnE 3 (cM d.ms) d.ms.length vm Dm) (hn : OwnE 1 (cS d.nm) d.nm.length vn Dn) (hD : D = Dm ++ Dn) (hA : OwnE 1 (cA (layK ks L []).2) ks.length ar ha) (hd : d.bd) (hks : ks.length ≤ 1048576) (hb : L.length + szK ks ≤ 2097152) :
  ∀ x ∈ W2 ++ [⟨d, (layK ks L []).2, 0, vm, vn, .nils, ar⟩], IOK ([] ++ ((hl ++ ha) ++ D)) x ∧ x.vk = .nils ∧ IBd x := fun x hx => by
 have h2 := lay_fin (hs := Dm ++ Dn) (W2 := []) (hl := hl) (d := d) (vm := vm) (vn := vn) (ar := ar) (ha := ha) (fun x hx => by simp at hx) (RIn.own hm).appl (RIn.own hn).app hA hd hks hb
 rcases List.mem_append.1 hx with hx | hx
 ·exact ⟨(h x hx).1.mono fun b o ⟨w, q⟩ => ⟨w, by simp only [List.mem_append] at q ⊢; exact q.elim .inl fun r => .inr (.inl (.inl r))⟩, (h x hx).2⟩
 ·obtain ⟨g1, g2⟩ := h2 x (by simpa using hx)
  rw [hD]
  exact ⟨g1.mono fun b o ⟨w, q⟩ => ⟨w, by simp only [List.mem_append] at q ⊢; exact q.elim (fun r => .inr (.inr r)) fun r => .inr (.inl r)⟩, g2⟩
theorem ag57 : tab.isAgg 57 = some false := by kernel_rfl
theorem sz30 : tab.size 30 = some 1 := by kernel_rfl
theorem mk_step (hs : HSt) (hro : ∀ e ∈ hs, e.w = false) (bl bo : Nat) (ml : MemH hs bl ⟨1, true, [.func 36 [.ptr bl 0, .ptr bo 0]]⟩) (d : ND) (ks : List TD) (vm vn vk : AV) (cs : List (List AV))
 (hm : RIn hs 3 d.ms.length (cM d.ms) vm) (hn : RIn hs 1 d.nm.length (cS d.nm) vn) (hk : RIn hs 11 ks.length (cs.flatMap id) vk) (hd : d.bd) (hks : ks.length ≤ 1048576) (hR : TReps hs ks cs)
 (Z : List IE) (w : AV) (hp : HSt) (hO : OwnE 12 (cI Z) Z.length w hp) (hsz : Z.length + szT (.node d ks) ≤ 2097152)
 (ih : ∀ k ∈ ks, ∀ (c : List AV) (Z : List IE) (w : AV) (hp : HSt), TRep hs k c → OwnE 12 (cI Z) Z.length w hp → Z.length + szT k ≤ 2097152 → Spec tab 36 [.agg c, .ptr bl 0, .ptr bo 0] (bo :: hp.map (·.b)) (⟨bo, ⟨1, true, [w]⟩, true⟩ :: (hp ++ hs)) (MkP hs k Z bo)) : Spec tab 36 [.agg (d.c vm vn vk), .ptr bl 0, .ptr bo 0] (bo :: hp.map (·.b)) (⟨bo, ⟨1, true, [w]⟩, true⟩ :: (hp ++ hs)) (MkP hs (.node d ks) Z bo) := by
 obtain ⟨wl_, ml⟩ := ml
 refine Spec.en (ftg 36 Tryz.func36) rfl (m := 32) rfl (rs := [.tmp 4]) rfl (st := [(0, .agg (d.c vm vn vk)), (1, .ptr bl 0), (2, .ptr bo 0)]) rfl rfl (fun _ => rfl) (fun E => zr (WO.box rfl (nd_cells hm.cell hn.cell hk.cell) (bx26 _ rfl) rfl (fun b1 => za (zi 0) (zk (zr (za rfl (zk (W.seq (zr (zf fa26_10 rfl 10 (zq (Q.l1 rfl (zt 0 rfl) ag24 rfl) (zq (Q.len ud24 rfl hk.len) (zq (Q.move (zi 0)) (zk (W.block (W.loop_ind7 (fun (i : Nat) (W2 : List IE) (u : AV) (hq : HSt) (hl : HSt) (ar : AV) (ha : HSt) => [(1, .ptr bl 0), (2, .ptr bo 0), (3, .ptr b1 0), (5, ar), (9, vk), (10, .int .i64 ((ks.length : Nat) : Int)), (11, .int .i64 ((i : Nat) : Int))]) (fun (i : Nat) (W2 : List IE) (u : AV) (hq : HSt) (hl : HSt) (ar : AV) (ha : HSt) => (⟨b1, ⟨11, true, d.c vm vn (vk)⟩, true⟩ :: ⟨bo, ⟨1, true, [u]⟩, true⟩ :: (hs ++ hl ++ ha ++ hq))) (fun (i : Nat) (W2 : List IE) (u : AV) (hq : HSt) (hl : HSt) (ar : AV) (ha : HSt) => i ≤ ks.length ∧ OwnE 12 (cI (Z ++ W2)) (Z ++ W2).length u hq ∧ (∀ x ∈ W2, IOK ([] ++ hl) x ∧ x.vk = .nils ∧ IBd x) ∧ D2 (Z ++ W2) = (layK (ks.take i) (D2 Z) []).1 ∧ (∀ y ∈ hl, y.w = true) ∧ OwnE 1 (cA (layK (ks.take i) (D2 Z) []).2) i ar ha) (fun (i : Nat) (W2 : List IE) (u : AV) (hq : HSt) (hl : HSt) (ar : AV) (ha : HSt) => ks.length - i) (0) ([]) (w) (hp) ([]) (.nils) ([]) ⟨Nat.zero_le _, by rw [List.append_nil]; exact hO, fun x hx => by simp at hx, by rw [List.append_nil, List.take_zero, layK], no_wl, by rw [List.take_zero, layK]; exact OwnE.nil 1⟩ zv (show SubH _ (⟨b1, ⟨11, true, d.c vm vn vk⟩, true⟩ :: ⟨bo, ⟨1, true, [w]⟩, true⟩ :: (hp ++ hs)) from gc) (fun i W2 u hq hl ar ha hI0 ih0 => ?_)))))))))))))))))
 obtain ⟨h1, hO1, hX1, hD1, hw1, hA1⟩ := hI0
 have hlen1 : (Z ++ W2).length = Z.length + szK (ks.take i) := (by rw [← d2_len, hD1, layK_len, d2_len])
 have hszn : szT (.node d ks) = szK ks + 1 := (by rw [szT])
 have hzt := szK_take (ks := ks) (i := i)
 refine zr (zq (Q.bin rfl rfl rfl (bvl ltn)) (zk (W.seq (W.cD rfl (fun hc12 => ?_) (fun hc12 => ?_)))))
 ·have hzk := szK_step (ks := ks) (i := i) zy
  obtain ⟨bk, szk, exk, rfl, wk, mk⟩ := hk.full zy
  obtain ⟨c1, hc1, hT1⟩ := hR.at (kd_at (i := i) zy)
  obtain ⟨d1, um, un, uk, rfl, qm, qn, qk, qo⟩ := TRep.opn hT1
  refine zw (W.seq (W.block (zr (zq (Q.iS ud24 sz26 rfl rfl zo) (zq (Q.loadN rfl (List.mem_cons_of_mem _ (List.mem_cons_of_mem _ (List.mem_append_left _ (List.mem_append_left _ (List.mem_append_left _ mk))))) ag26 sz26 (by rw [Nat.zero_add]; exact flat_id_sub hR.lens hc1)) (WO.alloc ao26 rfl (fun b2 => zS sz26 rfl rfl (i := 0) rfl (and_tt rfl (nd_all qm.cell qn.cell qk.cell)) rfl (hs' := _ :: _ :: _ :: _) rfl (zk (W.reg (zm rfl (zq (Q.l1 rfl (List.mem_cons_of_mem _ (List.mem_cons_of_mem _ (List.mem_cons_of_mem _ (List.mem_append_left _ (List.mem_append_left _ (List.mem_append_left _ ml)))))) ag57 rfl) (zq (zL rfl (zt 0 rfl) ag26 sz26 rfl) (WO.callS (M := ⟨bo, ⟨1, true, [u]⟩, true⟩ :: hq) (A := (⟨b1, ⟨11, true, d.c vm vn (.slice bk 0 ks.length 11)⟩, true⟩ :: (hs ++ hl ++ ha))) rfl (oLc rfl oz) rfl (ww (OwnE.w hO1)) gc (ih _ (kd_mem zy) _ (Z ++ W2) u hq hT1 hO1 zy) (SubR.t (SubR.appl (SubR.appl (SubR.s hro)))) rfl (fun v18 D18 hP18 => ?_))))))))))))))
  obtain ⟨W3, u3, hp3, hl3, rfl, hO3, hX3, hD3, hw3, rfl⟩ := hP18; have hl3' : (Z ++ W2 ++ W3).length = (Z ++ W2).length + szT (kd ks i) := (by rw [← d2_len, hD3, layT_len, d2_len]); have hz3 := szT_pos (t := kd ks i); refine WO.subH (hs' := ⟨b1, ⟨11, true, d.c vm vn (.slice bk 0 ks.length 11)⟩, true⟩ :: ⟨bo, ⟨1, true, [u3]⟩, true⟩ :: (hs ++ hl ++ hl3 ++ hp3 ++ ha)) gc ?_
  refine WO.bslice ud40 sz3 zr3 rfl (opc rfl oPs_nil) rfl (cs := [_]) rfl rfl rfl (fun b3 => WO.appAny (A := ([_, _] ++ hs ++ hl ++ hl3 ++ hp3)) ap40_40 hA1 rfl rfl (Src.slice (zt 0 rfl) rfl) rfl zy (by decide) (SubH.of_sublist (List.sublist_cons_self _ _)) rfl (fun v20 hp20 hO20 => za rfl (WO.nil (End.KB (End.K (W.reg (zq (Q.bin rfl (zi 1) rfl zp) (zm rfl (WO.nil (End.KL (W.sub zv (W.sH gc (ih0 (i + 1) (W2 ++ W3) (u3) (hp3) (hl ++ hl3) (v20) (hp20) ?_ ?_)))))))))))))
  ·exact ⟨by omega, by rw [← List.append_assoc]; exact hO3, lay_rows hX1 hX3, by rw [← List.append_assoc, hD3, hD1, lay_take zy], wa hw1 hw3, by rw [lay_take2 zy, ← hD1, ← hD3, d2_len]; exact lay_own hO20⟩
  exact zo
 obtain rfl : i = ks.length := zy
 rw [List.take_length] at hD1 hA1 hlen1
 refine W.exit (End.Kx (End.Lx (End.Bh (End.K (W.seq (W.regD 6 (⟨b1, _, false⟩ :: ⟨bo, _, false⟩ :: hs) (by kernel_rfl) (KIn.cons (zt 0 rfl) (KIn.cons (zt 1 rfl) (fun e he => ⟨e.w, by obtain ⟨b, o, w⟩ := e; simp [he]⟩))) (WD.q (Q.l1 rfl (zt 1 rfl) ag30 rfl) (OwnE.bq hO1) rfl (WD.q (zL rfl (zt 0 rfl) ag26 sz26 rfl) (nd_bqk hm.cq hn.cq hk.cq) rfl (WD.call0 rfl (oLc rfl oz) rfl (bare_spec hs hro d _ _ _ hm hn _ (rin_kln hk) hd) (SubR.t (SubR.t (SubR.appl (SubR.appl (SubR.appl (SubR.s hro)))))) (KIn.cons (zt 0 rfl) (KIn.cons (zt 1 rfl) (fun e he => ⟨e.w, by obtain ⟨b, o, w⟩ := e; simp [he]⟩))) rfl (fun v24 D24 hP24 => ?_))))))))))
 obtain ⟨vm2, vn2, Dm, Dn, rfl, hOm, hOn, hDD⟩ := hP24
 have hwD : ∀ e ∈ D24, e.w = true := (by rw [hDD]; exact wa (OwnE.w hOm) (OwnE.w hOn))
 refine WD.subH (hs' := _ :: _ :: (hs ++ hl ++ ha ++ D24 ++ hq)) (SubH.op (perm_tailO (N := []) (G := D24) (K := [_, _]) (X := hs ++ hl ++ ha ++ hq) (by simp only [List.append_assoc, List.nil_append]; exact List.perm_iff_count.2 (by intro z; simp only [List.append_eq, List.count_append, List.count_nil]; omega)))) (WD.q (Q.move rfl) (OwnE.bq hA1) rfl (WD.q (Q.build pl42 (opc rfl (opc rfl oPs_nil)) rfl (cs := [_, _, _, _, _, _, _, _, _, _, _, _]) (fill12 (OwnE.cell hA1))) (bq12o (OwnE.bq0 hOm) (OwnE.bq0 hOn) (OwnE.bq0 hA1)) rfl (WD.bslice ud30 sz42 zr42 rfl (opc rfl oPs_nil) rfl (cs := [_, _, _, _, _, _, _, _, _, _, _, _]) rfl (all12 (OwnE.cell hOm) (OwnE.cell hOn) (OwnE.cell hA1)) rfl (KIn.cons (zt 0 rfl) (KIn.cons (zt 1 rfl) (fun e he => ⟨e.w, by obtain ⟨b, o, w⟩ := e; simp [he]⟩))) (fun b4 => WD.appAny (A := ([_, _] ++ hs ++ hl ++ ha ++ D24)) ap30_30 hO1 rfl rfl (Src.slice (zt 0 rfl) rfl) rfl zy (by decide) (SubH.of_sublist (List.sublist_cons_self _ _)) rfl (KIn.cons (zt 0 rfl) (KIn.cons (zt 1 rfl) (fun e he => ⟨e.w, by obtain ⟨b, o, w⟩ := e; simp [he]⟩))) (fun v28 hp28 hO28 => WD.store sz30 rfl rfl (j := 1) rfl (ck1 (OwnE.cell hO28) rfl) (cs := [_]) (lay_0 (OwnE.cell hO28)) (hs' := _ :: _ :: _) rfl (fun h => by cases h) (WD.nil (End.K (W.sub (zc 2 rfl zzn) (zr (zq (Q.l1 rfl (zt 1 rfl) ag30 rfl) (zq (Q.len ud30 rfl hO28.len) (zq (Q.bin rfl (zi 1) rfl (bv_sub (wns zo))) (za rfl (zk (W.ret ?_)))))))))))))))
 refine End.ret (z1 rfl) (hs' := ⟨bo, ⟨1, true, [v28]⟩, true⟩ :: (hp28 ++ ((hl ++ ha) ++ D24))) ⟨W2 ++ [⟨d, (layK ks (D2 Z) []).2, 0, vm2, vn2, .nils, ar⟩], v28, hp28, (hl ++ ha) ++ D24, by (show AV.int .i64 _ = AV.int .i64 _; congr 1; simp only [List.length_append, List.length_cons, List.length_nil]; omega), by rw [← List.append_assoc, cI_snoc, List.length_append]; exact hO28, mk_fin hX1 hOm hOn hDD hA1 hd hks (by rw [d2_len]; omega), by rw [← List.append_assoc, d2_snoc, hD1, layT], wa (wa hw1 (OwnE.w hA1)) hwD, rfl⟩ (ww (wa (OwnE.w hO28) (wa (wa hw1 (OwnE.w hA1)) hwD))) gc
mutual
theorem mk_spec (hs : HSt) (hro : ∀ e ∈ hs, e.w = false) (bl bo : Nat) (ml : MemH hs bl ⟨1, true, [.func 36 [.ptr bl 0, .ptr bo 0]]⟩) : ∀ (k : TD) (c : List AV) (Z : List IE) (w : AV) (hp : HSt), TRep hs k c → OwnE 12 (cI Z) Z.length w hp → Z.length + szT k ≤ 2097152 → Spec tab 36 [.agg c, .ptr bl 0, .ptr bo 0] (bo :: hp.map (·.b)) (⟨bo, ⟨1, true, [w]⟩, true⟩ :: (hp ++ hs)) (MkP hs k Z bo)
 | .node d ks, c, Z, w, hp, h, hO, hz => by
  rw [TRep] at h
  obtain ⟨vm, vn, vk, cs, rfl, h1, h2, h3, h4, h5, h6⟩ := h
  exact mk_step hs hro bl bo ml d ks vm vn vk cs h1 h2 h3 h4 h5 h6 Z w hp hO hz (mk_specs hs hro bl bo ml ks)
theorem mk_specs (hs : HSt) (hro : ∀ e ∈ hs, e.w = false) (bl bo : Nat) (ml : MemH hs bl ⟨1, true, [.func 36 [.ptr bl 0, .ptr bo 0]]⟩) : ∀ (ks : List TD), ∀ k ∈ ks, ∀ (c : List AV) (Z : List IE) (w : AV) (hp : HSt), TRep hs k c → OwnE 12 (cI Z) Z.length w hp → Z.length + szT k ≤ 2097152 → Spec tab 36 [.agg c, .ptr bl 0, .ptr bo 0] (bo :: hp.map (·.b)) (⟨bo, ⟨1, true, [w]⟩, true⟩ :: (hp ++ hs)) (MkP hs k Z bo)
 | [], k, h, _, _, _, _, _, _, _ => by cases h
 | x :: ks, k, h, c, Z, w, hp, h1, h2, h3 => by
  rcases List.mem_cons.1 h with e | h
  ·exact e ▸ mk_spec hs hro bl bo ml x c Z w hp (e ▸ h1) h2 (e ▸ h3)
  ·exact mk_specs hs hro bl bo ml ks k h c Z w hp h1 h2 h3
end
theorem ao30 : AO tab 30 = some ⟨1, true, [.nils]⟩ := by kernel_rfl
theorem ao57 : AO tab 57 = some ⟨1, true, [.nilf]⟩ := by kernel_rfl
theorem sz57 : tab.size 57 = some 1 := by kernel_rfl
theorem make_spec (hs : HSt) (hro : ∀ e ∈ hs, e.w = false) (k : TD) (d : ND) (vm vn vk : AV) (qm : CQ vm) (qn : CQ vn) (qk : CQ vk) (qo : Bytes d.op) (hT0 : TRep hs k (d.c vm vn vk)) (hsz : szT k ≤ 1048576) (tt er : Nat) (hTy : Spec tab 35 [.agg (d.c vm vn vk)] [] hs (Val (.tuple [.int .i64 ((tt : Nat) : Int), .int .i64 ((er : Nat) : Int)]))) : Spec tab 11 [.agg (d.c vm vn vk)] [] hs (MakeP hs k (mkE tt er)) := by
 refine Spec.en (ftg 11 Tryz.func11) rfl (m := 27) rfl (rs := [.tmp 2, .tmp 3]) rfl (st := [(0, .agg (d.c vm vn vk))]) rfl rfl (fun _ => rfl) (fun E => zr (WO.box rfl (nd_all qm.cell qn.cell qk.cell) (bx26 _ rfl) rfl (fun b1 => za rfl (za (zi 0) (zk (zr (zq (zL rfl (zt 0 rfl) ag26 sz26 rfl) (WO.cV rfl (oLc rfl oz) rfl hTy (SubR.t (SubR.s hro)) rfl (zm rfl (zq (Q.extract rfl rfl) (zq (Q.extract rfl rfl) (za rfl (za rfl (zk (W.seq (zr (zm rfl (zq (Q.bin rfl (zi 0) rfl (bv_eql eq_nat)) (zm rfl (WO.sD (d := 15) rfl (fun hc15 => ?_) (fun hc15 => ?_)))))))))))))))))))))
 ·refine zT (zm rfl (zT (zq (Q.bin rfl (zi 3) rfl (bv_eql eq_nat)) (zq (Q.pT rfl rfl) (zk (W.sub (zc 18 rfl (zc 5 rfl (zc 1 rfl zzn))) (W.cD rfl (fun hc18 => ?_) (fun hc18 => ?_))))))))
  ·refine W.reg (za (zi 16) (zk (W.seq (zr (zm rfl (zq (Q.bin rfl (zi 0) rfl (bv_neq (p := true) rfl)) (zk (W.condT rfl (zr (zm rfl (za rfl (za rfl (zk (W.ret ?_))))))))))))))
   refine End.Kr (End.ret (ResL.tmp rfl (z1 rfl)) (hs' := []) ⟨16, (by unfold mkE; rw [if_pos ⟨by omega, by omega⟩]), [], .nils, [], [], rfl, OwnE.nil 12, (fun x hx => by simp at hx), fun h => absurd h zy, (fun _ => rfl), no_wl, rfl⟩ no_wl (SubH.nil _))
  refine zw (W.seq (zr (zm rfl (zq (Q.bin rfl (zi 0) rfl (bv_neq ne_nat)) (zk (W.cD rfl (fun hc20 => ?_) (fun hc20 => ?_)))))))
  ·(exfalso; omega)
  refine zw (zr (WO.alloc ao30 rfl (fun b2 => zk (zr (WO.alloc ao57 rfl (fun b3 => zk (zr (zq (Q.makeF (oLc rfl (oLc rfl oz))) (WO.store sz57 rfl rfl (i := 0) rfl rfl (cs := [_]) rfl (hs' := _ :: _ :: _ :: _) rfl (zk (zr (zq (Q.l1 rfl (zt 0 rfl) ag57 rfl) (zq (zL rfl (zt 2 rfl) ag26 sz26 rfl) (WO.callS (M := [⟨b2, ⟨1, true, [.nils]⟩, true⟩]) (A := (⟨b3, ⟨1, true, [.func 36 [.ptr b3 0, .ptr b2 0]]⟩, true⟩ :: hs)) rfl (oLc rfl oz) rfl (fun e he => by rw [List.mem_singleton.1 he]) gc (mk_spec (ro [⟨b3, ⟨1, true, [.func 36 [.ptr b3 0, .ptr b2 0]]⟩, true⟩] ++ hs) (ro_app hro) b3 b2 ⟨false, List.mem_cons_self⟩ k _ [] .nils [] (TRep.mono (fun b o q => q.app) hT0) (OwnE.nil 12) (Nat.le_trans (Nat.le_of_eq (Nat.zero_add _)) (Nat.le_trans hsz (by decide)))) (SubR.mix gc hro) rfl (fun v25 D25 hP25 => ?_)))))))))))))))
  obtain ⟨W2, w2, hp2, hl2, rfl, hO2, hX2, hD2, hw2, rfl⟩ := hP25; refine WO.subH (hs' := ⟨b2, ⟨1, true, [w2]⟩, true⟩ :: (hs ++ hl2 ++ hp2)) gc ?_
  refine zk (zr (zq (Q.l1 rfl (zt 0 rfl) ag30 rfl) (za rfl (za (zi 0) (zk (W.ret ?_))))))
  refine End.ret (ResL.tmp rfl (z1 rfl)) (hs' := hp2 ++ hl2) ⟨0, (by unfold mkE; rw [if_neg (fun h => by omega)]; omega), W2, w2, hp2, hl2, rfl, hO2, (fun x hx => ⟨(hX2 x hx).1.mono fun b o ⟨w, q⟩ => ⟨w, List.mem_append_right _ q⟩, (hX2 x hx).2⟩), fun _ => hD2, (fun h => absurd rfl h), hw2, rfl⟩ (wa (OwnE.w hO2) hw2) gc
 refine zG (zG (zq (Q.pF rfl rfl) (zk (W.sub (zc 18 rfl (zc 5 rfl (zc 1 rfl zzn))) (W.condF rfl (zw (W.seq (zr (zm rfl (zq (Q.bin rfl (zi 0) rfl (bv_neq ne_nat)) (zk (W.cD rfl (fun hc20 => ?_) (fun hc20 => ?_)))))))))))))
 ·refine zr (zm rfl (za rfl (za rfl (zk (W.ret ?_)))))
  refine End.Kr (End.ret (ResL.tmp rfl (z1 rfl)) (hs' := []) ⟨er, (by unfold mkE; rw [if_neg (fun h => by omega)]), [], .nils, [], [], rfl, OwnE.nil 12, (fun x hx => by simp at hx), fun h => absurd h zy, (fun _ => rfl), no_wl, rfl⟩ no_wl (SubH.nil _))
 (exfalso; omega)
theorem make_c (hs : HSt) (hro : ∀ e ∈ hs, e.w = false) (k : TD) (c : List AV) (hT0 : TRep hs k c) (hsz : szT k ≤ 1048576) (tt er : Nat) (hTy : Spec tab 35 [.agg c] [] hs (Val (P16.tpair tt er))) : Spec tab 11 [.agg c] [] hs (MakeP hs k (mkE tt er)) := by
 obtain ⟨d, vm, vn, vk, rfl, qm, qn, qk, qo⟩ := TRep.opn hT0
 exact make_spec hs hro k d vm vn vk qm qn qk qo hT0 hsz tt er hTy
section
variable {Z : List IE} {w : AV} {hp hl D D0 T0 : HSt}
theorem mk_ilb (hX : ∀ x ∈ Z, IOK (ro D0 ++ hl) x ∧ x.vk = .nils ∧ IBd x) (h : Z.length ≤ 1048576) : ILB Z := ⟨h, fun x hx => (hX x hx).2.2⟩
end
theorem ext_of {α : Type} {A B : List α} (h : A.length = B.length) (g : ∀ j, j < A.length → A[j]? = B[j]?) : A = B := by
 apply List.ext_getElem?
 intro j
 rcases Nat.lt_or_ge j A.length with q | q
 ·exact g j q
 ·rw [List.getElem?_eq_none q, List.getElem?_eq_none zy]
theorem bn_mt {m m' : Mt} : evBin tab .neq 91 (.agg (mC m)) (.agg (mC m')) = some (.bool (decide (m ≠ m'))) := by
 obtain ⟨k, a, b⟩ := m
 obtain ⟨k', a', b'⟩ := m'
 show (match eqTop tab 91 (.agg [.int .i64 k, .str a, .str b]) (.agg [.int .i64 k', .str a', .str b']) with
  | some b => some (AV.bool (!b))
  | none => none) = _
 have e : eqTop tab 91 (.agg [.int .i64 k, .str a, .str b]) (.agg [.int .i64 k', .str a', .str b']) = (match eqA k k' with | true => (match listBeq a a' with | true => (match listBeq b b' with | true => some true | false => some false) | false => some false) | false => some false) := by kernel_rfl
 rw [e, eq_int, eq_str, eq_str]
 by_cases h1 : k = k' <;> by_cases h2 : a = a' <;> by_cases h3 : b = b' <;> simp [h1, h2, h3]

theorem meq_spec (hs : HSt) (hro : ∀ e ∈ hs, e.w = false) (A B : List Mt) (va vb : AV) (hA : RIn hs 3 A.length (cM A) va) (hB : RIn hs 3 B.length (cM B) vb) (hAl : A.length ≤ 1048576) (hBl : B.length ≤ 1048576) (bA : MtBd A) (bB : MtBd B) : Spec tab 81 [va, vb] [] hs (Val (.bool (decide (A = B)))) := by
 refine Spec.en (ftg 81 Tryz.func81) rfl (m := 26) rfl (rs := [.tmp 4]) rfl (st := [(0, va), (1, vb)]) rfl rfl (fun _ => rfl) (fun E => zr (za rfl (zk (W.seq (zr (zm rfl (zq (Q.len ud22 rfl hA.len) (zm rfl (zq (Q.len ud22 rfl hB.len) (zq (Q.bin rfl rfl rfl (bv_neq ne_nat)) (zk (W.cD rfl (fun hc10 => ?_) (fun hc10 => ?_)))))))))))))
 ·refine zr (za rfl (zk (W.ret (End.Kr (End.rV (z1 rfl) ?_)))))
  exact congrArg AV.bool (decide_eq_false (fun e => by subst e; simp_all)).symm
 refine zw (W.seq (zr (zm rfl (zq (Q.len ud22 rfl hA.len) (zq (Q.move (zi 0)) (zk (W.block (W.loop_ind (fun (i : Nat) => [(0, va), (1, vb), (12, .int .i64 ((A.length : Nat) : Int)), (13, .int .i64 ((i : Nat) : Int))]) (fun (i : Nat) => hs) (fun (i : Nat) => i ≤ A.length ∧ ∀ j, j < i → A[j]? = B[j]?) (fun (i : Nat) => A.length - i) (0) ⟨Nat.zero_le _, fun j h => absurd h (Nat.not_lt_zero _)⟩ zv (SubH.refl _) (fun i hI0 ih0 => ?_)))))))))
 obtain ⟨h1, hq⟩ := hI0
 refine zr (zq (Q.bin rfl rfl rfl (bvl ltn)) (zk (W.seq (W.cD rfl (fun hc14 => ?_) (fun hc14 => ?_)))))
 ·obtain ⟨ba, sza, exa, rfl, wa_, ma⟩ := hA.full zy
  obtain ⟨bb, szb, exb, rfl, wb_, mb⟩ := hB.full zy
  refine zw (W.seq (W.block (zr (zm rfl (za rfl (zk (W.seq (W.regT (by kernel_rfl) (zm rfl (zm rfl (zq (Q.iS ud22 sz91 rfl rfl zo) (zq (Q.loadN rfl ma ag91 sz91 (cM_at zo)) (zm rfl (zm rfl (zq (Q.iS ud22 sz91 rfl rfl zo) (zq (Q.loadN rfl mb ag91 sz91 (cM_at zo)) (zq (Q.bin rfl rfl rfl bn_mt) (zk (W.cD rfl (fun hc24 => ?_) (fun hc24 => ?_))))))))))))))))))))
  ·refine zr (za rfl (zk (W.sub (zc 4 rfl zzn) (W.ret (End.Br (End.Kr (End.Lr (End.Br (End.Kr (End.rV (z1 rfl) ?_))))))))))
   exact congrArg AV.bool (decide_eq_false (fun e => by subst e; simp_all)).symm
  refine W.skip (End.KB (End.K (W.reg (zq (Q.bin rfl (zi 1) rfl zp) (zm rfl (WO.nil (End.KL (W.sub zv (W.sH (SubH.refl _) (ih0 (i + 1) ?_ ?_))))))))))
  ·exact ⟨by omega, fun j hj => by rcases Nat.lt_or_ge j i with q | q; exact hq j q; obtain rfl : j = i := zy; rw [mi_at zy, mi_at zy]; simp_all⟩
  exact zo
 refine W.exit (End.Kx (End.Lx (End.Bh (End.K (zr (za rfl (zk (W.ret (End.rV (z1 rfl) ?_)))))))))
 exact congrArg AV.bool (decide_eq_true (ext_of zy fun j hj => hq j zy)).symm

theorem seq_spec (hs : HSt) (hro : ∀ e ∈ hs, e.w = false) (A B : List (List Nat)) (va vb : AV) (hA : RIn hs 1 A.length (cS A) va) (hB : RIn hs 1 B.length (cS B) vb) (hAl : A.length ≤ 2097152) (hBl : B.length ≤ 2097152) (bA : StBd A) (bB : StBd B) : Spec tab 82 [va, vb] [] hs (Val (.bool (decide (A = B)))) := by
 refine Spec.en (ftg 82 Tryz.func82) rfl (m := 26) rfl (rs := [.tmp 4]) rfl (st := [(0, va), (1, vb)]) rfl rfl (fun _ => rfl) (fun E => zr (za rfl (zk (W.seq (zr (zm rfl (zq (Q.len ud23 rfl hA.len) (zm rfl (zq (Q.len ud23 rfl hB.len) (zq (Q.bin rfl rfl rfl (bv_neq ne_nat)) (zk (W.cD rfl (fun hc10 => ?_) (fun hc10 => ?_)))))))))))))
 ·refine zr (za rfl (zk (W.ret (End.Kr (End.rV (z1 rfl) ?_)))))
  exact congrArg AV.bool (decide_eq_false (fun e => by subst e; simp_all)).symm
 refine zw (W.seq (zr (zm rfl (zq (Q.len ud23 rfl hA.len) (zq (Q.move (zi 0)) (zk (W.block (W.loop_ind (fun (i : Nat) => [(0, va), (1, vb), (12, .int .i64 ((A.length : Nat) : Int)), (13, .int .i64 ((i : Nat) : Int))]) (fun (i : Nat) => hs) (fun (i : Nat) => i ≤ A.length ∧ ∀ j, j < i → A[j]? = B[j]?) (fun (i : Nat) => A.length - i) (0) ⟨Nat.zero_le _, fun j h => absurd h (Nat.not_lt_zero _)⟩ zv (SubH.refl _) (fun i hI0 ih0 => ?_)))))))))
 obtain ⟨h1, hq⟩ := hI0
 refine zr (zq (Q.bin rfl rfl rfl (bvl ltn)) (zk (W.seq (W.cD rfl (fun hc14 => ?_) (fun hc14 => ?_)))))
 ·obtain ⟨ba, sza, exa, rfl, wa_, ma⟩ := hA.full zy
  obtain ⟨bb, szb, exb, rfl, wb_, mb⟩ := hB.full zy
  refine zw (W.seq (W.block (zr (zm rfl (za rfl (zk (W.seq (W.regT (by kernel_rfl) (zm rfl (zm rfl (zq (Q.iS ud23 sz9 rfl rfl zo) (zq (Q.l1 rfl ma ag9 (cS_at zo)) (zm rfl (zm rfl (zq (Q.iS ud23 sz9 rfl rfl zo) (zq (Q.l1 rfl mb ag9 (cS_at zo)) (zq (Q.bin rfl rfl rfl bv_sneq) (zk (W.cD rfl (fun hc24 => ?_) (fun hc24 => ?_))))))))))))))))))))
  ·refine zr (za rfl (zk (W.sub (zc 4 rfl zzn) (W.ret (End.Br (End.Kr (End.Lr (End.Br (End.Kr (End.rV (z1 rfl) ?_))))))))))
   exact congrArg AV.bool (decide_eq_false (fun e => by subst e; simp_all)).symm
  refine W.skip (End.KB (End.K (W.reg (zq (Q.bin rfl (zi 1) rfl zp) (zm rfl (WO.nil (End.KL (W.sub zv (W.sH (SubH.refl _) (ih0 (i + 1) ?_ ?_))))))))))
  ·exact ⟨by omega, fun j hj => by rcases Nat.lt_or_ge j i with q | q; exact hq j q; obtain rfl : j = i := zy; rw [si_at zy, si_at zy]; simp_all⟩
  exact zo
 refine W.exit (End.Kx (End.Lx (End.Bh (End.K (zr (za rfl (zk (W.ret (End.rV (z1 rfl) ?_)))))))))
 exact congrArg AV.bool (decide_eq_true (ext_of zy fun j hj => hq j zy)).symm

theorem ef_spec (hs : HSt) (hro : ∀ e ∈ hs, e.w = false) (vk vk' : AV) (hk : KLn vk 0) (hk' : KLn vk' 0) (F : AV) : Spec tab 83 [vk, vk', F] [] hs (Val (.bool true)) := by
 refine Spec.en (ftg 83 Tryz.func83) rfl (m := 32) rfl (rs := [.tmp 6]) rfl (st := [(0, vk), (1, vk'), (2, F)]) rfl rfl (fun _ => rfl) (fun E => zr (za rfl (zk (W.seq (zr (zm rfl (zq (Q.len ud24 rfl hk.len) (zm rfl (zq (Q.len ud24 rfl hk'.len) (zq (Q.bin rfl rfl rfl bs_int) (zk (W.condF rfl (zw (W.seq (zr (zm rfl (zq (Q.len ud24 rfl hk.len) (zq (Q.move (zi 0)) (zk (W.block (W.loop_ind (fun (i : Nat) => [(15, vk), (1, vk'), (2, F), (16, .int .i64 ((0 : Nat) : Int)), (17, .int .i64 ((i : Nat) : Int))]) (fun (i : Nat) => hs) (fun (i : Nat) => True) (fun (i : Nat) => 0 - i) (0) trivial zv (SubH.refl _) (fun i hI0 ih0 => zr (zq (Q.bin rfl rfl rfl (bvl ltn)) ?_)))))))))))))))))))))))
 refine zk (W.seq (W.cD rfl (fun hc18 => ?_) (fun hc18 => ?_)))
 ·(exfalso; omega)
 refine W.exit (End.Kx (End.Lx (End.Bh (End.K (zr (za rfl (zk (W.ret (End.rV (z1 rfl) ?_)))))))))
 rfl

theorem psame_spec (hs : HSt) (hro : ∀ e ∈ hs, e.w = false) (d d' : ND) (vm vn vk vm' vn' vk' : AV)
 (hm : RIn hs 3 d.ms.length (cM d.ms) vm) (hn : RIn hs 1 d.nm.length (cS d.nm) vn) (hk : KLn vk 0) (hd : d.bd)
 (hm' : RIn hs 3 d'.ms.length (cM d'.ms) vm') (hn' : RIn hs 1 d'.nm.length (cS d'.nm) vn') (hk' : KLn vk' 0) (hd' : d'.bd) : Spec tab 47 [.agg (d.c vm vn vk), (.agg (d'.c vm' vn' vk'))] [] hs (Val (.bool (decide (d = d')))) := by
 have hd1 := hd.2.1.1
 have hd2 := hd.2.2.1
 have hd1' := hd'.2.1.1
 have hd2' := hd'.2.2.1
 refine Spec.en (ftg 47 Tryz.func47) rfl (m := 81) rfl (rs := [.tmp 4]) rfl (st := [(0, .agg (d.c vm vn vk)), (1, (.agg (d'.c vm' vn' vk')))]) rfl rfl (fun _ => rfl) (fun E => zr (WO.box rfl (nd_cells hm.cell hn.cell hk.cell) (bx26 _ rfl) rfl (fun b1 => WO.box rfl (nd_cells hm'.cell hn'.cell hk'.cell) (bx26 _ rfl) rfl (fun b2 => za rfl (zk (W.seq (zr (zf fa26_3 rfl 3 (zq (Q.l1 rfl (zt 1 rfl) ag22 rfl) (zf fa26_3 rfl 3 (zq (Q.l1 rfl (zt 0 rfl) ag22 rfl) (WO.cV rfl (oLc rfl (oLc rfl oz)) rfl (meq_spec hs hro d.ms d'.ms _ _ hm hm' hd1 hd1' hd.2.1 hd'.2.1) (SubR.t (SubR.t (SubR.s hro))) rfl (zq (Q.not rfl not_dec) (zm rfl (WO.sD (d := 11) rfl (fun hc11 => ?_) (fun hc11 => ?_))))))))))))))))
 ·refine zG (zG (zG (zG (zG (zG (zq (Q.pT rfl rfl) (zm rfl (zG (zG (zG (zG (zG (zG (zq (Q.pT rfl rfl) (zk (W.sub (zc 26 rfl (zc 3 rfl (zc 2 rfl zzn))) (W.condT rfl (zr (za rfl (zk (W.ret (End.Kr (End.rV (z1 rfl) ?_)))))))))))))))))))))))
  exact congrArg AV.bool (decide_eq_false (fun e => by subst e; simp_all)).symm
 refine zT (zf fa26_7 rfl 7 (zT (zq (Q.l1 rfl (zt 1 rfl) ag23 rfl) (zT (zf fa26_7 rfl 7 (zT (zq (Q.l1 rfl (zt 0 rfl) ag23 rfl) (zT (WO.cV rfl (oLc rfl (oLc rfl oz)) rfl (seq_spec hs hro d.nm d'.nm _ _ hn hn' zy zy hd.2.2 hd'.2.2) (SubR.t (SubR.t (SubR.s hro))) rfl (zT (zq (Q.not rfl not_dec) (zq (Q.pF rfl rfl) (zm rfl (WO.sD (d := 19) rfl (fun hc19 => ?_) (fun hc19 => ?_)))))))))))))))
 ·refine zG (zG (zG (zG (zG (zG (zq (Q.pT rfl rfl) (zk (W.sub (zc 26 rfl (zc 3 rfl (zc 2 rfl zzn))) (W.condT rfl (zr (za rfl (zk (W.ret (End.Kr (End.rV (z1 rfl) ?_)))))))))))))))
  exact congrArg AV.bool (decide_eq_false (fun e => by subst e; simp_all)).symm
 refine zT (zf fa26_10 rfl 10 (zT (zq (Q.l1 rfl (zt 1 rfl) ag24 rfl) (zT (zf fa26_10 rfl 10 (zT (zq (Q.l1 rfl (zt 0 rfl) ag24 rfl) (zT (WO.cV rfl (oLc rfl (oLc rfl (oLc rfl oz))) rfl (ef_spec hs hro _ _ hk hk' _) (SubR.t (SubR.t (SubR.s hro))) rfl (zT (zq (Q.not rfl rfl) (zq (Q.pF rfl rfl) (zk (W.sub (zc 26 rfl (zc 3 rfl (zc 2 rfl zzn))) (W.condF rfl (zw (zr (zf fa26_0 rfl 0 (zq (Q.l1 rfl (zt 1 rfl) ag3 rfl) (zf fa26_0 rfl 0 (zq (Q.l1 rfl (zt 0 rfl) ag3 rfl) (zq (Q.bin rfl rfl rfl (bv_eql eq_int)) (zm rfl ?_)))))))))))))))))))))))
 refine WO.sD (d := 32) rfl (fun hc32 => ?_) (fun hc32 => ?_)
 ·refine zT (zf fa26_1 rfl 1 (zT (zq (Q.l1 rfl (zt 1 rfl) ag9 rfl) (zT (zf fa26_1 rfl 1 (zT (zq (Q.l1 rfl (zt 0 rfl) ag9 rfl) (zT (zq (Q.bin rfl rfl rfl bv_seql) (zq (Q.pT rfl rfl) (zm rfl (WO.sD (d := 39) rfl (fun hc39 => ?_) (fun hc39 => ?_)))))))))))))
  ·refine zT (zf fa26_2 rfl 2 (zT (zq (Q.l1 rfl (zt 1 rfl) ag3 rfl) (zT (zf fa26_2 rfl 2 (zT (zq (Q.l1 rfl (zt 0 rfl) ag3 rfl) (zT (zq (Q.bin rfl rfl rfl (bv_eql eq_int)) (zq (Q.pT rfl rfl) (zm rfl (WO.sD (d := 46) rfl (fun hc46 => ?_) (fun hc46 => ?_)))))))))))))
   ·refine zT (zf fa26_4 rfl 4 (zT (zq (Q.l1 rfl (zt 1 rfl) ag3 rfl) (zT (zf fa26_4 rfl 4 (zT (zq (Q.l1 rfl (zt 0 rfl) ag3 rfl) (zT (zq (Q.bin rfl rfl rfl (bv_eql eq_int)) (zq (Q.pT rfl rfl) (zm rfl (WO.sD (d := 53) rfl (fun hc53 => ?_) (fun hc53 => ?_)))))))))))))
    ·refine zT (zf fa26_5 rfl 5 (zT (zq (Q.l1 rfl (zt 1 rfl) ag3 rfl) (zT (zf fa26_5 rfl 5 (zT (zq (Q.l1 rfl (zt 0 rfl) ag3 rfl) (zT (zq (Q.bin rfl rfl rfl (bv_eql eq_int)) (zq (Q.pT rfl rfl) (zm rfl (WO.sD (d := 60) rfl (fun hc60 => ?_) (fun hc60 => ?_)))))))))))))
     ·refine zT (zf fa26_6 rfl 6 (zT (zq (Q.l1 rfl (zt 1 rfl) ag3 rfl) (zT (zf fa26_6 rfl 6 (zT (zq (Q.l1 rfl (zt 0 rfl) ag3 rfl) (zT (zq (Q.bin rfl rfl rfl (bv_eql eq_int)) (zq (Q.pT rfl rfl) (zm rfl (WO.sD (d := 67) rfl (fun hc67 => ?_) (fun hc67 => ?_)))))))))))))
      ·refine zT (zf fa26_8 rfl 8 (zT (zq (Q.l1 rfl (zt 1 rfl) ag3 rfl) (zT (zf fa26_8 rfl 8 (zT (zq (Q.l1 rfl (zt 0 rfl) ag3 rfl) (zT (zq (Q.bin rfl rfl rfl (bv_eql eq_int)) (zq (Q.pT rfl rfl) (zm rfl (WO.sD (d := 74) rfl (fun hc74 => ?_) (fun hc74 => ?_)))))))))))))
       ·refine zT (zf fa26_9 rfl 9 (zT (zq (Q.l1 rfl (zt 1 rfl) ag4 rfl) (zT (zf fa26_9 rfl 9 (zT (zq (Q.l1 rfl (zt 0 rfl) ag4 rfl) (zT (zq (Q.bin rfl rfl rfl (bv_beqB ud4)) (zq (Q.pT rfl rfl) (za rfl (zk (W.sub (zc 4 rfl zzn) (W.ret (End.rV (z1 rfl) ?_)))))))))))))))
        exact congrArg AV.bool (by obtain ⟨k, o, n, m, r, f, e, s, i, b⟩ := d; obtain ⟨k', o', n', m', r', f', e', s', i', b'⟩ := d'; simp_all; try (cases b <;> cases b' <;> rfl))
       refine zG (zG (zG (zG (zG (zq (Q.pF rfl rfl) (za rfl (zk (W.sub (zc 4 rfl zzn) (W.ret (End.rV (z1 rfl) ?_))))))))))
       exact congrArg AV.bool (decide_eq_false (fun e => by subst e; simp_all)).symm
      refine zG (zG (zG (zG (zG (zq (Q.pF rfl rfl) (zm rfl (zG (zG (zG (zG (zG (zq (Q.pF rfl rfl) (za rfl (zk (W.sub (zc 4 rfl zzn) (W.ret (End.rV (z1 rfl) ?_)))))))))))))))))
      exact congrArg AV.bool (decide_eq_false (fun e => by subst e; simp_all)).symm
     refine zG (zG (zG (zG (zG (zq (Q.pF rfl rfl) (zm rfl (zG (zG (zG (zG (zG (zq (Q.pF rfl rfl) (zm rfl (zG (zG (zG (zG (zG (zq (Q.pF rfl rfl) (za rfl (zk (W.sub (zc 4 rfl zzn) (W.ret ?_)))))))))))))))))))))))
     refine End.rV (z1 rfl) ?_
     exact congrArg AV.bool (decide_eq_false (fun e => by subst e; simp_all)).symm
    refine zG (zG (zG (zG (zG (zq (Q.pF rfl rfl) (zm rfl (zG (zG (zG (zG (zG (zq (Q.pF rfl rfl) (zm rfl (zG (zG (zG (zG (zG (zq (Q.pF rfl rfl) (zm rfl (zG (zG (zg rfl rfl ?_)))))))))))))))))))))))
    refine zG (zG (zq (Q.pF rfl rfl) (za rfl (zk (W.sub (zc 4 rfl zzn) (W.ret (End.rV (z1 rfl) ?_)))))))
    exact congrArg AV.bool (decide_eq_false (fun e => by subst e; simp_all)).symm
   refine zG (zG (zG (zG (zG (zq (Q.pF rfl rfl) (zm rfl (zG (zG (zG (zG (zG (zq (Q.pF rfl rfl) (zm rfl (zG (zG (zG (zG (zG (zq (Q.pF rfl rfl) (zm rfl (zG (zG (zg rfl rfl ?_)))))))))))))))))))))))
   refine zG (zG (zq (Q.pF rfl rfl) (zm rfl (zG (zG (zG (zG (zG (zq (Q.pF rfl rfl) (za rfl (zk (W.sub (zc 4 rfl zzn) (W.ret (End.rV (z1 rfl) ?_))))))))))))))
   exact congrArg AV.bool (decide_eq_false (fun e => by subst e; simp_all)).symm
  refine zG (zG (zG (zG (zG (zq (Q.pF rfl rfl) (zm rfl (zG (zG (zG (zG (zG (zq (Q.pF rfl rfl) (zm rfl (zG (zG (zG (zG (zG (zq (Q.pF rfl rfl) (zm rfl (zG (zG (zg rfl rfl ?_)))))))))))))))))))))))
  refine zG (zG (zq (Q.pF rfl rfl) (zm rfl (zG (zG (zG (zG (zG (zq (Q.pF rfl rfl) (zm rfl (zG (zG (zG (zG (zG (zq (Q.pF rfl rfl) (za rfl (zk (W.sub (zc 4 rfl zzn) (W.ret (End.rV (z1 rfl) ?_)))))))))))))))))))))
  exact congrArg AV.bool (decide_eq_false (fun e => by subst e; simp_all)).symm
 refine zG (zG (zG (zG (zG (zq (Q.pF rfl rfl) (zm rfl (zG (zG (zG (zG (zG (zq (Q.pF rfl rfl) (zm rfl (zG (zG (zG (zG (zG (zq (Q.pF rfl rfl) (zm rfl (zG (zG (zg rfl rfl ?_)))))))))))))))))))))))
 refine zG (zG (zq (Q.pF rfl rfl) (zm rfl (zG (zG (zG (zG (zG (zq (Q.pF rfl rfl) (zm rfl (zG (zG (zG (zG (zG (zq (Q.pF rfl rfl) (zm rfl (zG (zG (zG (zG (zG (zq (Q.pF rfl rfl) ?_)))))))))))))))))))))))
 refine za rfl (zk (W.sub (zc 4 rfl zzn) (W.ret (End.rV (z1 rfl) ?_))))
 exact congrArg AV.bool (decide_eq_false (fun e => by subst e; simp_all)).symm

section
variable {L Y : List IE} {i j k n p q : Nat}
theorem pos_lt (h : nb L j = true) : ∀ {k : Nat}, j < k → posN L j < posN L k := by
 intro k hk
 induction k with
 | zero => omega
 | succ k ih =>
  rcases Nat.lt_or_ge j k with g | g
  ·have := ih g
   cases e : nb L k with
   | true => rw [pos_y e]; omega
   | false => rw [pos_n e]; exact this
  ·obtain rfl : j = k := by omega
   rw [pos_y h]; omega
theorem pos_on : ∀ {n p : Nat}, p < posN L n → ∃ j, j < n ∧ nb L j = true ∧ posN L j = p
 | 0, p, h => by unfold posN at h; simp at h
 | n + 1, p, h => by
  cases e : nb L n with
  | true =>
   rw [pos_y e] at h
   rcases Nat.lt_or_ge p (posN L n) with g | g
   ·obtain ⟨j, h1, h2⟩ := pos_on g; exact ⟨j, by omega, h2⟩
   ·exact ⟨n, by omega, e, by omega⟩
  | false =>
   rw [pos_n e] at h
   obtain ⟨j, h1, h2⟩ := pos_on h; exact ⟨j, by omega, h2⟩
theorem tp_at (h : nb L j = true) : ∀ {n : Nat}, j < n → (trimP L n)[posN L j]? = some ((ei L j).d, trimA L (ei L j).ars)
 | 0, hn => by omega
 | n + 1, hn => by
  rcases Nat.lt_or_ge j n with g | g
  ·have ih := tp_at h g
   cases e : nb L n with
   | true => rw [tp_y e, List.getElem?_append_left (by rw [tp_len]; exact pos_lt h g)]; exact ih
   | false => rw [tp_n e]; exact ih
  ·obtain rfl : j = n := by omega
   rw [tp_y h, List.getElem?_append_right (by rw [tp_len]; exact Nat.le_refl _), tp_len, Nat.sub_self]; rfl
structure TrY (L Y : List IE) : Prop where
 ok : chkI L = 0
 y : D2 Y = trimP L L.length
 nk : ∀ x ∈ Y, x.nk = 0
theorem TrY.len (h : TrY L Y) : Y.length = posN L L.length := by rw [← d2_len, h.y, tp_len]
theorem TrY.le (h : TrY L Y) : Y.length ≤ L.length := by rw [h.len]; exact pos_le
theorem TrY.nbl (h : TrY L Y) : nb L (L.length - 1) = true := nb_is.2 .last
theorem TrY.pos (h : TrY L Y) : Y.length = posN L (L.length - 1) + 1 := by
 obtain ⟨h0, _, _⟩ := chk_ok h.ok
 rw [h.len, ← pos_y h.nbl]; congr 1; omega
theorem TrY.at (h : TrY L Y) (hj : nb L j = true) (hl : j < L.length) : posN L j < Y.length ∧ (ei Y (posN L j)).d = (ei L j).d ∧ (ei Y (posN L j)).ars = trimA L (ei L j).ars := by
 have hp := pos_lt hj hl
 rw [← h.len] at hp
 have h1 := tp_at hj hl
 rw [← h.y, D2, List.getElem?_map, ei_at hp] at h1
 have h2 := Option.some.inj h1
 exact ⟨hp, congrArg Prod.fst h2, congrArg Prod.snd h2⟩
theorem TrY.from (h : TrY L Y) (hi : i < Y.length) : ∃ j, j < L.length ∧ nb L j = true ∧ posN L j = i := pos_on (by rw [← h.len]; exact hi)
theorem TrY.low (h : TrY L Y) (hi : i < Y.length) (hq : q < (ei Y i).ars.length) : 0 ≤ ai (ei Y i).ars q ∧ ai (ei Y i).ars q < i := by
 obtain ⟨_, _, hok⟩ := chk_ok h.ok
 obtain ⟨j, h1, h2, rfl⟩ := h.from hi
 have hm := ai_mem hq
 rw [(h.at h2 h1).2.2] at hm ⊢
 obtain ⟨a, ha, e⟩ := List.mem_map.1 hm
 rw [← e]
 have hr := ok_ar (hok j h1) ha
 have := pos_lt (nb_is.2 (.arg (nb_is.1 h2) h1 ha)) (k := j) zy
 omega
theorem TrY.okY (h : TrY L Y) (hi : i < Y.length) : okI Y i = true := by
 unfold okI
 rw [Bool.and_eq_true, decide_eq_true_eq, Bool.not_eq_true']
 refine ⟨h.nk _ (ei_mem hi), any_no fun q hq => ?_⟩
 have := h.low hi hq
 unfold badK
 rw [Bool.or_eq_false_iff, decide_eq_false_iff_not, decide_eq_false_iff_not]
 omega
theorem TrY.chk (h : TrY L Y) : chkI Y = 0 := by
 obtain ⟨h0, h1, hok⟩ := chk_ok h.ok
 have := h.le
 have := h.pos
 exact chk_d zy zy fun i hi => h.okY hi
theorem TrY.tree (h : TrY L Y) : ∀ (j : Nat), nb L j = true → j < L.length → treeM Y (posN L j) = treeM L j ∧ szM Y (posN L j) = szM L j := by
 obtain ⟨_, _, hok⟩ := chk_ok h.ok
 intro j
 induction j using Nat.strongRecOn with
 | _ j ih =>
  intro hj hl
  obtain ⟨y1, y2, y3⟩ := h.at hj hl
  have hm : ∀ a ∈ (ei L j).ars, treeM Y (posN L a.toNat) = treeM L a.toNat ∧ szM Y (posN L a.toNat) = szM L a.toNat := fun a ha => by
   have := ok_ar (hok j hl) ha
   exact ih a.toNat zy (nb_is.2 (.arg (nb_is.1 hj) hl ha)) zy
  constructor
  ·rw [treeM_eq (fun i hi => h.okY hi) y1, treeM_eq hok hl, y2, y3, trimA, List.map_map]
   congr 1
   exact List.map_congr_left fun a ha => (hm a ha).1
  ·rw [szM_eq (fun i hi => h.okY hi) y1, szM_eq hok hl, y3, trimA, List.foldl_map]
   exact szF_eq.fold_congr fun n a ha => by
    show min 4097 (n + szM Y (posN L a.toNat)) = _
    rw [(hm a ha).2]
theorem TrY.last (h : TrY L Y) : treeM Y (Y.length - 1) = treeM L (L.length - 1) ∧ szM Y (Y.length - 1) = szM L (L.length - 1) := by
 obtain ⟨h0, _, _⟩ := chk_ok h.ok
 have := h.tree (L.length - 1) h.nbl zy
 have hp := h.pos
 rw [show Y.length - 1 = posN L (L.length - 1) by omega]
 exact this
end
section
variable {L Y : List IE} {i j q : Nat}
end
end Go.Proofs.YtndhhgbpcmfeiaaGreatDoor.Ev
