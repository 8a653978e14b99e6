/- Chapter 20, walks: how many nodes a tree has; the plan of a text's tree. -/
import Derived.Test.YtndhhgbpcmfeiaaGreatDoorEGj
import Derived.Test.YtndhhgbpcmfeiaaGreatDoorEJg
import Derived.Test.YtndhhgbpcmfeiaaGreatDoorEInC
namespace Go.Proofs.YtndhhgbpcmfeiaaGreatDoor.Ev
open Go.RowKit
set_option maxRecDepth 100000
set_option maxHeartbeats 1000000
def OfP (v : AV) (D : HSt) : Prop := ∃ (t : TD) (c : List AV) (b : Bool) (w : AV) (Z : List IE), v = .tuple [w, .agg c, .bool b] ∧ TRep D t c ∧ szT t ≤ 1024 ∧ TKy t ∧ (b = false → Z = []) ∧ IIn D Z w ∧ ILB Z ∧ (b = true → D2 Z = layT t []) ∧ (∀ x ∈ Z, x.vk = .nils) ∧ ∀ e ∈ D, e.w = true
theorem MemH.unro {hs : HSt} {b : Nat} {o : AObj} (h : MemH (Ev.ro hs) b o) : MemH hs b o := by
 obtain ⟨w, h⟩ := h
 obtain ⟨e, he, e2⟩ := List.mem_map.1 h
 cases e2
 exact ⟨e.w, he⟩
theorem of_iin {Z : List IE} {w : AV} {hp hl D D0 : HSt} (hO : OwnE 12 (cI Z) Z.length w hp) (hX : ∀ x ∈ Z, IOK (ro D0 ++ hl) x ∧ x.vk = .nils ∧ IBd x) (hD : D = hp ++ hl) : IIn (D0 ++ D) Z w := by
 subst hD
 refine ⟨(RIn.own hO).mono fun b o ⟨w, q⟩ => ⟨w, by simp [q]⟩, fun x hx => (hX x hx).1.mono fun b o ⟨w, q⟩ => ?_⟩
 rcases List.mem_append.1 q with q | q
 ·exact (MemH.unro ⟨w, q⟩).appl'
 ·exact ⟨w, by simp [q]⟩
theorem of_no {e : Nat} {Z : List IE} (hE : e ≠ 0 → Z = []) : decide (e = 0) = false → Z = [] := fun h => hE (of_decide_eq_false h)
theorem of_bq {hs : HSt} {t : TD} {c : List AV} (h : TRep hs t c) : (AV.agg c).beq (AV.agg c) = true := by
 obtain ⟨d, vm, vn, vk, rfl, h1, h2, h3, _⟩ := TRep.opn h
 exact nd_bqk h1 h2 h3
theorem types_one {hs : HSt} (hro : ∀ e ∈ hs, e.w = false) : ∀ (d : Nat) (c : List AV), NRep hs d c →
  ∃ t e : Nat, Spec tab 35 [.agg c] [] hs (Val (P16.tpair t e)) ∧ (e = 0 → 1 ≤ t ∧ t ≤ 3)
 | 0, _, h => h.elim
 | d + 1, c, ⟨k, op, n, ms, rg, off, md, nm, sd, bl, kd, h1, h2, h3, h5, h6, h4⟩ => by
  subst h1
  rcases h4 with rfl | ⟨b, len, ob, rfl, hm, hl, hk⟩
  ·have hty : ∀ i, i < 0 → (fun _ : Nat => (0 : Nat)) i = 0 → 1 ≤ (fun _ : Nat => (1 : Nat)) i ∧ (fun _ : Nat => (1 : Nat)) i ≤ 3 := fun i hi => absurd hi (Nat.not_lt_zero _)
   exact ⟨_, _, P16.type_spec k op h2 n ms rg off md nm sd bl h5 h6 hs hro d .nils 0 rfl rfl zy (fun _ => []) (fun i hi => absurd hi (Nat.not_lt_zero _)) _ _ (fun i hi => absurd hi (Nat.not_lt_zero _)) hty, P16.typeM_ok hty⟩
  ·have hk2 : ∀ i, ∃ c' : List AV, ∃ t e : Nat, i < len → (sub? ob.cells ((0 + i) * 11) 11 = some c' ∧ NRep hs d c' ∧ Spec tab 35 [.agg c'] [] hs (Val (P16.tpair t e)) ∧ (e = 0 → 1 ≤ t ∧ t ≤ 3)) := by
    intro i
    by_cases hi : i < len
    ·obtain ⟨c', g1, g2⟩ := hk i hi
     obtain ⟨t, e, g3, g5⟩ := types_one hro d c' g2
     exact ⟨c', t, e, fun _ => ⟨g1, g2, g3, g5⟩⟩
    ·exact ⟨[], 0, 0, fun h => absurd h hi⟩
   refine Exists.elim (Classical.skolem.1 hk2) fun kc hk3 => ?_
   refine Exists.elim (Classical.skolem.1 hk3) fun ty hk4 => ?_
   refine Exists.elim (Classical.skolem.1 hk4) fun er hk5 => ?_
   have hty : ∀ i, i < len → er i = 0 → 1 ≤ ty i ∧ ty i ≤ 3 := fun i hi => (hk5 i hi).2.2.2
   have hK : ∀ i, i < len → ∃ b' ob', AV.slice b 0 len 11 = .slice b' 0 len 11 ∧ MemH hs b' ob' ∧ sub? ob'.cells ((0 + i) * 11) 11 = some (kc i) ∧ NRep hs d (kc i) :=
    fun i hi => ⟨b, ob, rfl, hm, (hk5 i hi).1, (hk5 i hi).2.1⟩
   exact ⟨_, _, P16.type_spec k op h2 n ms rg off md nm sd bl h5 h6 hs hro d (.slice b 0 len 11) len rfl rfl hl kc hK ty er (fun i hi => (hk5 i hi).2.2.1) hty, P16.typeM_ok hty⟩

theorem nodes_step (hs : HSt) (hro : ∀ e ∈ hs, e.w = false) (d : ND) (ks : List TD) (vm vn vk : AV) (cs : List (List AV))
 (hm : RIn hs 3 d.ms.length (cM d.ms) vm) (hn : RIn hs 1 d.nm.length (cS d.nm) vn) (hk : RIn hs 11 ks.length (cs.flatMap id) vk) (hd : d.bd) (hks : ks.length ≤ 1048576) (hR : TReps hs ks cs) (hz : szT (.node d ks) ≤ 1048576)
 (ih : ∀ k ∈ ks, ∀ c, TRep hs k c → Spec tab 28 [.agg c] [] hs (Val (.int .i64 ((szT k : Nat) : Int)))) : Spec tab 28 [.agg (d.c vm vn vk)] [] hs (Val (.int .i64 ((szT (.node d ks) : Nat) : Int))) := by
 have hszn : szT (.node d ks) = szK ks + 1 := (by rw [szT])
 refine Spec.en (ftg 28 Tryz.func28) rfl (m := 21) rfl (rs := [.tmp 2]) rfl (st := [(0, .agg (d.c vm vn vk))]) rfl rfl (fun _ => rfl) (fun E => zr (WO.box rfl (nd_cells hm.cell hn.cell hk.cell) (bx26 _ rfl) rfl (fun b1 => za (zi 0) (zk (zr (za (zi 1) (zk (W.seq (zr (za (zi 0) (zk (W.block (W.loop_ind2 (fun (i : Nat) (k : Nat) => [(1, .ptr b1 0), (3, .int .i64 ((k : Nat) : Int)), (4, .int .i64 ((i : Nat) : Int))]) (fun (i : Nat) (k : Nat) => (⟨b1, ⟨11, true, d.c vm vn vk⟩, true⟩ :: hs)) (fun (i : Nat) (k : Nat) => i ≤ ks.length ∧ k = szK (ks.take i) + 1) (fun (i : Nat) (k : Nat) => ks.length - i) (0) (1) ⟨Nat.zero_le _, by rw [List.take_zero, szK]⟩ zv (SubH.refl _) (fun i k hI0 ih0 => ?_))))))))))))))
 obtain ⟨h1, h2⟩ := hI0
 have hzt := szK_take (ks := ks) (i := i)
 refine W.seq (zr (zm rfl (zf fa26_10 rfl 10 (zq (Q.l1 rfl (zt 0 rfl) ag24 rfl) (zq (Q.len ud24 rfl hk.len) (zq (Q.bin rfl rfl rfl (bvl ltn)) (zk (W.cD rfl (fun hc9 => ?_) (fun hc9 => ?_)))))))))
 ·have hzk := szK_step (ks := ks) (i := i) zy
  obtain ⟨bk, szk, exk, rfl, wk, mk⟩ := hk.full zy
  obtain ⟨c1, hc1, hT1⟩ := hR.at (kd_at (i := i) zy)
  obtain ⟨d1, um, un, uk, rfl, qm, qn, qk, qo⟩ := TRep.opn hT1
  refine zw (W.seq (W.block (W.reg (zm rfl (zf fa26_10 rfl 10 (zq (Q.l1 rfl (zt 0 rfl) ag24 rfl) (zm rfl (zq (Q.iS ud24 sz26 rfl rfl zo) (zq (Q.loadN rfl (List.mem_cons_of_mem _ mk) ag26 sz26 (by rw [Nat.zero_add]; exact flat_id_sub hR.lens hc1)) (WO.cV rfl (oLc rfl oz) rfl (ih _ (kd_mem zy) _ hT1) (SubR.t (SubR.s hro)) rfl (zq (Q.bin rfl rfl rfl zp) (za rfl (WO.nil (End.KB (End.K (W.reg (zm rfl (zq (Q.bin rfl (zi 1) rfl zp) (za rfl (WO.nil (End.KL (W.sub zv (W.sH gc (ih0 (i + 1) (k + szT (kd ks i)) ?_ ?_))))))))))))))))))))))))
  ·exact ⟨by omega, by rw [take_kd zy, szK_app, szK, szK, h2]; omega⟩
  exact zo
 refine W.exit (End.Kx (End.Lx (End.Bh (End.K (zr (zm rfl (za rfl (zk (W.ret (End.rV (z1 rfl) ?_))))))))))
 exact congrArg (fun n : Nat => AV.int .i64 ((n : Nat) : Int)) (by rw [h2, List.take_of_length_le zy, hszn])
mutual
theorem nodes_spec (hs : HSt) (hro : ∀ e ∈ hs, e.w = false) : ∀ (t : TD) (c : List AV), TRep hs t c → szT t ≤ 1048576 → Spec tab 28 [.agg c] [] hs (Val (.int .i64 ((szT t : Nat) : Int)))
 | .node d ks, c, h, hz => by
  rw [TRep] at h
  obtain ⟨vm, vn, vk, cs, rfl, h1, h2, h3, h4, h5, h6⟩ := h
  exact nodes_step hs hro d ks vm vn vk cs h1 h2 h3 h4 h5 h6 hz (nodes_specs hs hro ks (by rw [szT] at hz; omega))
theorem nodes_specs (hs : HSt) (hro : ∀ e ∈ hs, e.w = false) : ∀ (ks : List TD), szK ks ≤ 1048576 → ∀ k ∈ ks, ∀ c, TRep hs k c → Spec tab 28 [.agg c] [] hs (Val (.int .i64 ((szT k : Nat) : Int)))
 | [], _, k, h, _, _ => by cases h
 | x :: ks, hz, k, h, c, h1 => by
  rw [szK] at hz
  rcases List.mem_cons.1 h with e | h
  ·exact e ▸ nodes_spec hs hro x c (e ▸ h1) zy
  ·exact nodes_specs hs hro ks zy k h c h1
end
theorem of_spec (s : List Nat) (hs0 : Bytes s) : Spec tab 25 [.str s] [] [] (OfP) := by
 refine Spec.en (ftg 25 Tryz.func25) rfl (m := 28) rfl (rs := [.tmp 2, .cell 3 26, .tmp 4]) rfl (st := [(0, .str s)]) rfl rfl (fun _ => rfl) (fun E => zr (za rfl (WO.alloc ao26 rfl (fun b1 => za rfl (zk (zr (zm rfl (WO.call0 rfl (oLc rfl oz) rfl (P16.parse_spec s hs0) SubR.nil rfl (fun v12 D12 hP12 => ?_)))))))))
 obtain ⟨x, hq, m, at_, e0, rfl, nk, nw, hm, rfl⟩ := hP12
 obtain ⟨dd, hdd⟩ := nk.nr
 obtain ⟨t, ht, hz, hky⟩ := rrep_k hdd
 obtain ⟨tt, er, hT1, _⟩ := types_one (hs := ro D12) ro_w dd _ (hdd.mono (fun b o h => h.ro)).nrep
 refine WO.subH (hs' := _ :: (D12)) (SubH.op (perm_tail (N := []) (G := D12) (K := [_]) (X := []))) (zm rfl (zq (Q.extract rfl rfl) (zq (Q.extract rfl rfl) (zq (Q.extract rfl rfl) (WO.alloc ao26 rfl (fun b2 => zS sz26 rfl rfl (i := 0) rfl (and_tt rfl (P16.ckA nk.ms nk.nm nk.kd)) rfl (hs' := _ :: _ :: _) rfl (za rfl (za rfl (zk (W.seq (zr (zm rfl (zq (Q.bin rfl (zi 0) rfl (bv_neq ne_int)) (zk (W.cD rfl (fun hc17 => ?_) (fun hc17 => ?_))))))))))))))))
 ·refine W.seq (W.regT (by kernel_rfl) (zq (zL rfl (zt 0 rfl) ag26 sz26 rfl) (za rfl (zS sz26 rfl rfl (i := 1) rfl (and_tt rfl (P16.ckA nk.ms nk.nm nk.kd)) rfl (hs' := _ :: _ :: _) rfl (za rfl (zk (W.ret ?_)))))))
  refine End.Kr (End.ret (ResL.tmp rfl (zA rfl (zt 1 rfl) ag26 sz26 rfl (z1 rfl))) (hs' := D12) ⟨t, _, false, .nils, [], rfl, ht, by omega, hky, fun _ => rfl, ⟨RIn.nil, fun x hx => by simp at hx⟩, ⟨by simp, fun x hx => by simp at hx⟩, fun h => by (cases h), fun x hx => by simp at hx, nw⟩ nw gc)
 refine zw (zr (zq (zL rfl (zt 0 rfl) ag26 sz26 rfl) (WO.call0 rfl (oLc rfl oz) rfl (make_c (ro D12) ro_w t _ (TRep.mono (fun b o h => h.ro) ht) zy tt er hT1) (SubR.ro gc) rfl (fun v21 D21 hP21 => ?_))))
 obtain ⟨ee1, he1, Z1, w1, hp1, hl1, rfl, hO1, hX1, hD1, hE1, hw1, hDD1⟩ := hP21
 have hl1' : Z1.length ≤ 1048576 := (by by_cases q : mkE tt er = 0 <;> first | (rw [← d2_len, hD1 (he1.trans q), layT_len]; simp; omega) | (rw [hE1 zy]; simp))
 refine WO.subH (hs' := _ :: _ :: (D12 ++ D21)) (SubH.op (perm_tail (N := []) (G := D21) (K := [_, _]) (X := D12))) (zm rfl (zq (Q.extract rfl rfl) (zq (Q.extract rfl rfl) (za rfl (za rfl (zk (W.sub (zc 9 rfl (zc 8 rfl (zc 5 rfl (zc 3 rfl zzn)))) (W.seq (W.regX (by kernel_rfl) (WX.f (Q.move rfl) (OwnE.bq hO1) rfl (WX.q (by kernel_rfl) (zL rfl (zt 0 rfl) ag26 sz26 rfl) (of_bq ht) rfl (WX.f (Q.move rfl) bqi rfl (WX.f (Q.bin rfl (zi 0) rfl (bv_eql eq_nat)) bq_bool rfl (WX.f (Q.assign rfl) (OwnE.bq hO1) rfl (WX.store sz26 rfl rfl (j := 1) rfl (and_tt rfl (P16.ckA nk.ms nk.nm nk.kd)) (cs := [_, _, _, _, _, _, _, _, _, _, _]) rfl (hs' := _ :: _ :: _) rfl (WX.f (Q.assign rfl) bq_bool rfl (WX.nil (End.K (W.ret ?_)))))))))))))))))))
 refine End.ret (ResL.tmp rfl (zA rfl (zt 1 rfl) ag26 sz26 rfl (z1 rfl))) (hs' := D12 ++ D21) ⟨t, _, decide (ee1 = 0), w1, Z1, rfl, TRep.mono (fun b o q => q.appl') ht, by omega, hky, of_no hE1, of_iin hO1 hX1 hDD1, mk_ilb hX1 hl1', fun h => hD1 (of_decide_eq_true h), fun x hx => (hX1 x hx).2.1, wa nw (by rw [hDD1]; exact wa (OwnE.w hO1) hw1)⟩ (wa nw (by rw [hDD1]; exact wa (OwnE.w hO1) hw1)) gc
mutual
theorem layT_ky : ∀ (t : TD) (P : List PI), TKy t → (∀ p ∈ P, KyOK p.1) → ∀ p ∈ layT t P, KyOK p.1
 | .node d ks, P, h, hP, p, hp => by
  rw [TKy] at h
  rw [layT] at hp
  rcases List.mem_append.1 hp with hp | hp
  ·exact layK_ky ks P [] h.2 hP p hp
  ·rw [List.mem_singleton.1 hp]; exact h.1
theorem layK_ky : ∀ (ks : List TD) (P : List PI) (A : List Int), TKys ks → (∀ p ∈ P, KyOK p.1) → ∀ p ∈ (layK ks P A).1, KyOK p.1
 | [], P, A, _, hP, p, hp => by rw [layK] at hp; exact hP p hp
 | k :: ks, P, A, h, hP, p, hp => by
  rw [TKys] at h
  rw [layK] at hp
  exact layK_ky ks _ _ h.2 (layT_ky k P h.1 hP) p hp
end
theorem of_all {D : HSt} {Z : List IE} {w : AV} {t : TD} (hZ : IIn D Z w) (hvk : ∀ x ∈ Z, x.vk = .nils) (hD : D2 Z = layT t []) (hz : szT t ≤ 1024) (hky : TKy t) :
  Z.length = szT t ∧ chkI Z = 0 ∧ OKP (D2 Z) ∧ trP (D2 Z) ((D2 Z).length - 1) = t ∧ treeM Z (Z.length - 1) = t ∧ ∀ x ∈ Z, KyOK x.d := by
 obtain ⟨hOK, _, _, hTr⟩ := layT_tree t [] OKP.nil fun j hj => absurd hj (Nat.not_lt_zero _)
 rw [← hD] at hOK hTr
 have hl : Z.length = szT t := by rw [← d2_len, hD, layT_len]; simp
 have hp := szT_pos (t := t)
 have hnk : ∀ x ∈ Z, x.nk = 0 := fun x hx => by
  have h1 := (hZ.2 x hx).k
  rw [hvk x hx] at h1
  rcases h1 with ⟨_, h⟩ | ⟨b, o, z, h⟩
  ·exact h
  ·cases h
 refine ⟨hl, chk_okp hOK hnk zy zy, hOK, hTr, ?_, fun x hx => ?_⟩
 ·rw [trP_of]
  rw [d2_len] at hTr
  exact hTr
 ·have : (x.d, x.ars) ∈ D2 Z := List.mem_map.2 ⟨x, hx, rfl⟩
  rw [hD] at this
  exact layT_ky t [] hky (fun p hp => by simp at hp) _ this
theorem share_is {L : List IE} {e : Nat} {Q : List PI} (hc : chkI L = 0) (h : ShareR L e Q) : e = 0 ∧ Q = shareP (D2 L) := by
 rcases h with ⟨g, _⟩ | ⟨_, h1, h2⟩
 ·exact absurd hc g
 ·exact ⟨h1, h2⟩
theorem share_all {Z Y : List IE} {t : TD} (hOK : OKP (D2 Z)) (hc : chkI Z = 0) (hn : ∀ x ∈ Y, x.nk = 0) (hY : D2 Y = shareP (D2 Z)) (hT : trP (D2 Z) ((D2 Z).length - 1) = t) : chkI Y = 0 ∧ treeM Y (Y.length - 1) = t ∧ Y.length ≤ Z.length := by
 obtain ⟨h0, h1, _⟩ := chk_ok hc
 have hle := share_le hOK
 have hpos := share_pos hOK (by rw [d2_len]; exact h0)
 have hla := share_last hOK (by rw [d2_len]; exact h0)
 rw [← hY] at hle hpos hla
 rw [d2_len, d2_len] at hle
 rw [d2_len] at hpos
 refine ⟨chk_okp (by rw [hY]; exact share_ok hOK) hn hpos zy, ?_, hle⟩
 rw [trP_of, ← hT, ← hla, d2_len]
theorem trim_all {Y Y3 : List IE} {e : Nat} {t : TD} (hc : chkI Y = 0) (h : TrimR Y e (D2 Y3)) (hn : ∀ x ∈ Y3, x.nk = 0) (hT : treeM Y (Y.length - 1) = t) : e = 0 ∧ chkI Y3 = 0 ∧ treeM Y3 (Y3.length - 1) = t := by
 rcases h with ⟨g, _⟩ | ⟨_, h1, h2⟩
 ·exact absurd hc g
 ·have hTY : TrY Y Y3 := ⟨hc, h2, hn⟩
  exact ⟨h1, hTY.chk, hTY.last.1.trans hT⟩

theorem law_means (s : List Nat) (hs0 : Bytes s) : Spec tab 7 [.str s] [] [] (Val (.bool true)) := by
 refine Spec.en (ftg 7 Tryz.func7) rfl (m := 105) rfl (rs := [.tmp 2]) rfl (st := [(0, .str s)]) rfl rfl (fun _ => rfl) (fun E => zr (za rfl (zk (zr (zm rfl (WO.call0 rfl (oLc rfl oz) rfl (of_spec s hs0) SubR.nil rfl (fun v18 D18 hP18 => ?_)))))))
 obtain ⟨t, c0, b, w0, Z, rfl, hT0, hz, hky, hZn, hZ, hZb, hDz, hvk, hw0⟩ := hP18
 obtain ⟨d0, vm0, vn0, vk0, rfl, hqm0, hqn0, hqk0, hqo0⟩ := TRep.opn hT0
 refine WO.subH (hs' := (D18)) (SubH.op (perm_tail (N := []) (G := D18) (K := []) (X := []))) (zm rfl (zq (Q.extract rfl rfl) (zq (Q.extract rfl rfl) (zq (Q.extract rfl rfl) (WO.alloc ao26 rfl (fun b1 => za rfl (zS sz26 rfl rfl (i := 0) rfl (and_tt rfl (nd_all hqm0.cell hqn0.cell hqk0.cell)) rfl (hs' := _ :: _) rfl (za rfl (zk (W.seq (zr (zm rfl (zq (Q.not rfl rfl) (zk (W.condS rfl (fun hc23 => ?_) (fun hc23 => ?_))))))))))))))))
 ·have hz0 : Z.length = 0 := (by rw [hZn (by simpa using hc23)]; rfl)
  refine zr (zm rfl (zq (Q.len ud30 rfl hZ.1.len) (zq (Q.bin rfl (zi 0) rfl (bv_eql (p := true) (by rw [hz0]; rfl))) (zm rfl (zT (WO.cV rfl oz rfl (Spec.known (fun _ => rfl)) SubR.nil rfl (zq (Q.pT rfl rfl) (za rfl (zk (W.sub (zc 2 rfl zzn) (W.ret (End.Kr (End.rV (z1 rfl) ?_)))))))))))))
  rfl
 obtain ⟨hZl, hck, hOK, hTr, htm, hKy⟩ := of_all hZ hvk (hDz (by simpa using hc23)) hz hky
 refine zw (zr (zm rfl (WO.call0 rfl (oLc rfl oz) rfl (tree_spec (ro D18) ro_w Z _ hZ.ro hZb) (SubR.ro gc) rfl (fun v32 D32 hP32 => ?_))))
 obtain ⟨e1, tr1, c1, hR1, hT1, hw1, rfl⟩ := hP32
 obtain ⟨rfl, rfl⟩ := tree_of hck htm zy hR1
 obtain ⟨d1, vm1, vn1, vk1, rfl, hqm1, hqn1, hqk1, hqo1⟩ := TRep.opn hT1
 refine WO.subH (hs' := _ :: (D18 ++ D32)) (SubH.op (perm_tail (N := []) (G := D32) (K := [_]) (X := D18))) (zm rfl (zq (Q.extract rfl rfl) (zq (Q.extract rfl rfl) (WO.alloc ao26 rfl (fun b2 => zS sz26 rfl rfl (i := 0) rfl (and_tt rfl (nd_all hqm1.cell hqn1.cell hqk1.cell)) rfl (hs' := _ :: _ :: _) rfl (za rfl (zk (W.sub (zc 7 rfl (zc 6 rfl (zc 3 rfl (zc 4 rfl zzn)))) (zr (zm rfl (WO.call0 rfl (oLc rfl oz) rfl (share_spec (ro D18) ro_w Z _ hZ.ro hZb hKy) (SubR.ro gc) rfl (fun v37 D37 hP37 => ?_))))))))))))
 obtain ⟨e9, Y, w2, hSR, hOY, rfl⟩ := hP37
 obtain ⟨rfl, hDY⟩ := share_is hck hSR
 have hY := hOY.iin
 obtain ⟨hckY, htY, hYl⟩ := share_all hOK hck hOY.nk hDY hTr
 refine WO.subH (hs' := _ :: _ :: (D18 ++ D32 ++ D37)) (SubH.op (perm_tail (N := []) (G := D37) (K := [_, _]) (X := D18 ++ D32))) (zm rfl (zq (Q.extract rfl rfl) (zq (Q.extract rfl rfl) (za rfl (za rfl (zk (zr (zm rfl (WO.call0 rfl (oLc rfl oz) rfl (tree_spec (ro D37) ro_w Y _ hY.ro hOY.lb) (SubR.ro gc) rfl (fun v42 D42 hP42 => ?_))))))))))
 obtain ⟨e2, tr2, c2, hR2, hT2, hw2, rfl⟩ := hP42
 obtain ⟨rfl, rfl⟩ := tree_of hckY htY zy hR2
 obtain ⟨d2, vm2, vn2, vk2, rfl, hqm2, hqn2, hqk2, hqo2⟩ := TRep.opn hT2
 refine WO.subH (hs' := _ :: _ :: (D18 ++ D32 ++ D37 ++ D42)) (SubH.op (perm_tail (N := []) (G := D42) (K := [_, _]) (X := D18 ++ D32 ++ D37))) (zm rfl (zq (Q.extract rfl rfl) (zq (Q.extract rfl rfl) (WO.alloc ao26 rfl (fun b3 => zS sz26 rfl rfl (i := 0) rfl (and_tt rfl (nd_all hqm2.cell hqn2.cell hqk2.cell)) rfl (hs' := _ :: _ :: _ :: _) rfl (za rfl (zk (zr (zm rfl (WO.call0 rfl (oLc rfl oz) rfl (trim_spec (ro D37) ro_w Y _ hY.ro hOY.lb) (SubR.ro gc) rfl (fun v47 D47 hP47 => ?_)))))))))))
 obtain ⟨e8, Y3, w3, hTR, hO3, rfl⟩ := hP47
 have hY3 := hO3.iin
 obtain ⟨rfl, hck3, ht3⟩ := trim_all hckY hTR hO3.nk htY
 refine WO.subH (hs' := _ :: _ :: _ :: (D18 ++ D32 ++ D37 ++ D42 ++ D47)) (SubH.op (perm_tail (N := []) (G := D47) (K := [_, _, _]) (X := D18 ++ D32 ++ D37 ++ D42))) (zm rfl (zq (Q.extract rfl rfl) (zq (Q.extract rfl rfl) (za rfl (za rfl (zk (W.sub (zc 13 rfl (zc 12 rfl (zc 11 rfl (zc 10 rfl (zc 9 rfl (zc 8 rfl (zc 7 rfl (zc 6 rfl (zc 3 rfl (zc 4 rfl zzn)))))))))) (zr (zm rfl (WO.call0 rfl (oLc rfl oz) rfl (tree_spec (ro D47) ro_w Y3 _ hY3.ro hO3.lb) (SubR.ro gc) rfl (fun v52 D52 hP52 => ?_)))))))))))
 obtain ⟨e3, tr3, c3, hR3, hT3, hw3, rfl⟩ := hP52
 obtain ⟨rfl, rfl⟩ := tree_of hck3 ht3 zy hR3
 obtain ⟨d3, vm3, vn3, vk3, rfl, hqm3, hqn3, hqk3, hqo3⟩ := TRep.opn hT3
 refine WO.subH (hs' := _ :: _ :: _ :: (D18 ++ D32 ++ D37 ++ D42 ++ D47 ++ D52)) (SubH.op (perm_tail (N := []) (G := D52) (K := [_, _, _]) (X := D18 ++ D32 ++ D37 ++ D42 ++ D47))) (zm rfl (zq (Q.extract rfl rfl) (zq (Q.extract rfl rfl) (WO.alloc ao26 rfl (fun b4 => zS sz26 rfl rfl (i := 0) rfl (and_tt rfl (nd_all hqm3.cell hqn3.cell hqk3.cell)) rfl (hs' := _ :: _ :: _ :: _ :: _) rfl (za rfl (zk (zr (zm rfl (zq (Q.len ud30 rfl hZ.1.len) (zq (zL rfl (zt 3 rfl) ag26 sz26 rfl) (WO.cV rfl (oLc rfl oz) rfl (nodes_spec (ro D18) ro_w _ _ (TRep.mono (fun b o q => q.ro) hT0) zy) (SubR.ro gc) rfl (zq (Q.bin rfl rfl rfl (bv_eql (p := true) (by rw [hZl, eq_int]; simp))) (zm rfl (zT (zm rfl (zT (zq (Q.bin rfl (zi 0) rfl (bv_eql (p := true) rfl)) (zq (Q.pT rfl rfl) (zm rfl (zT (zm rfl (WO.gT rfl rfl ?_)))))))))))))))))))))))
 refine zq (Q.bin rfl (zi 0) rfl (bv_eql (p := true) rfl)) (zq (Q.pT rfl rfl) (zm rfl (zT (zm rfl (zT (zq (Q.bin rfl (zi 0) rfl (bv_eql (p := true) rfl)) (zq (Q.pT rfl rfl) (zm rfl (zT (zm rfl (zT (zq (Q.bin rfl (zi 0) rfl (bv_eql (p := true) rfl)) (zq (Q.pT rfl rfl) (zm rfl (zT (zm rfl (zT (zq (Q.bin rfl (zi 0) rfl (bv_eql (p := true) rfl)) (zq (Q.pT rfl rfl) (zm rfl (zT (zq (zL rfl (zt 2 rfl) ag26 sz26 rfl) (WO.gT rfl rfl ?_)))))))))))))))))))))))
 refine zq (zL rfl (zt 3 rfl) ag26 sz26 rfl) (zT (WO.cV rfl (oLc rfl (oLc rfl oz)) rfl (same_spec (ro (D32 ++ D18)) ro_w _ _ _ (TRep.mono (fun b o q => q.appl'.ro) hT1) (TRep.mono (fun b o q => q.app.ro) hT0)) (SubR.ro gc) rfl (zq (Q.pT rfl rfl) (zm rfl (zT (zq (zL rfl (zt 1 rfl) ag26 sz26 rfl) (zT (zq (zL rfl (zt 3 rfl) ag26 sz26 rfl) (zT (WO.cV rfl (oLc rfl (oLc rfl oz)) rfl (same_spec (ro (D42 ++ D18)) ro_w _ _ _ (TRep.mono (fun b o q => q.appl'.ro) hT2) (TRep.mono (fun b o q => q.app.ro) hT0)) (SubR.ro gc) rfl (zq (Q.pT rfl rfl) (zm rfl (zT (zq (zL rfl (zt 0 rfl) ag26 sz26 rfl) (zT (zq (zL rfl (zt 3 rfl) ag26 sz26 rfl) (zT (WO.cV rfl (oLc rfl (oLc rfl oz)) rfl (same_spec (ro (D52 ++ D18)) ro_w _ _ _ (TRep.mono (fun b o q => q.appl'.ro) hT3) (TRep.mono (fun b o q => q.app.ro) hT0)) (SubR.ro gc) rfl (zq (Q.pT rfl rfl) (zm rfl (zT (zm rfl (WO.gT rfl rfl ?_)))))))))))))))))))))))
 refine zq (Q.len ud30 rfl hY.1.len) (zT (zm rfl (zT (zq (Q.len ud30 rfl hZ.1.len) (zT (zq (Q.bin rfl rfl rfl (bv_leq (le_nat.trans (decide_eq_true hYl)))) (zq (Q.pT rfl rfl) (zm rfl (zT (WO.cV rfl oz rfl (Spec.known (fun _ => rfl)) SubR.nil rfl (zq (Q.pT rfl rfl) (za rfl (zk (W.sub (zc 2 rfl zzn) (W.ret (End.rV (z1 rfl) ?_))))))))))))))))
 rfl
end Go.Proofs.YtndhhgbpcmfeiaaGreatDoor.Ev
