/- Chapter 19, walks: what an operator makes of two vectors, by the document. -/
import Derived.Test.YtmblgaehfjheeaaGreatPZj
import Derived.Test.YtmblgaehfjheeaaGreatPZd
namespace Go.Proofs.YtmblgaehfjheeaaGreat.Ev
open Go.RowKit
set_option maxRecDepth 100000
set_option maxHeartbeats 1000000
def mdN (md : Int) (N : List (List Nat)) : List (List Nat) := if md = 0 then [] else N
def mdV (md : Int) (v : AV) : AV := if md = 0 then .nils else v
theorem mdV_0 {md : Int} {v : AV} (h : md = 0) : mdV md v = .nils := if_pos h
theorem mdV_1 {md : Int} {v : AV} (h : md ≠ 0) : mdV md v = v := if_neg h
theorem sin_md {hs : HSt} {N : List (List Nat)} {v : AV} {md : Int} (h : SIn hs N v) : SIn hs (mdN md N) (mdV md v) := by
  unfold mdN mdV
  split
  · exact .inl ⟨rfl, rfl⟩
  · exact h
theorem sbd_md {N : List (List Nat)} {md : Int} (h : SBd N) : SBd (mdN md N) := by
  unfold mdN
  split
  · exact ⟨by simp, fun x hx => by simp at hx⟩
  · exact h
def rkeyM (md : Int) (N : List (List Nat)) (A : List Lab) : List Lab := if md = 1 then A.filter (pickP N true) else (A.filter (dropP N)).filter (dropP [[95, 95, 110, 97, 109, 101, 95, 95]])
theorem rkeyM_1 {md : Int} {N : List (List Nat)} {A : List Lab} (h : md = 1) : rkeyM md N A = A.filter (pickP N true) := if_pos h
theorem rkeyM_0 {md : Int} {N : List (List Nat)} {A : List Lab} (h : md ≠ 1) : rkeyM md N A = (A.filter (dropP N)).filter (dropP [[95, 95, 110, 97, 109, 101, 95, 95]]) := if_neg h
theorem rkey_eq {md : Int} {N : List (List Nat)} {A : List Lab} (h : 0 ≤ md ∧ md ≤ 2) : rkeyM md (mdN md N) A = keyM md N A := by
  by_cases h1 : md = 1
  · rw [rkeyM_1 h1, keyM_1 h1, mdN, if_neg (by omega)]
  · rw [rkeyM_0 h1]
    by_cases h2 : md = 2
    · rw [keyM_2 h2, mdN, if_neg (by omega)]
    · rw [keyM_0 h1 h2, mdN, if_pos (by omega)]
      congr 1
      apply List.filter_eq_self.2
      intro x _
      simp [dropP]
theorem rkey_own {md : Int} {N : List (List Nat)} {A : List Lab} {v : AV} {D : HSt} (hm : 0 ≤ md ∧ md ≤ 2) (h : OwnE 2 (cL (rkeyM md (mdN md N) A)) (rkeyM md (mdN md N) A).length v D) : OwnE 2 (cL (keyM md N A)) (keyM md N A).length v D := by
  rw [rkey_eq hm] at h; exact h
theorem mm_maxI0 {md : Int} (h : 0 ≤ md) : max ((0 : Nat) : Int) md = md := by omega
def hvL (md : Int) (N : List (List Nat)) (V : List El) (k : List Lab) : List El := V.filter fun y => decide (keyM md N y.2.1 = k)
section
variable {op : List Nat} {md : Int} {N : List (List Nat)} {V : List El} {k : List Lab} {i : Nat}
theorem hvl_p2 : P2 (hvL md N V k) = hvP md N (P2 V) k := by
  unfold hvL hvP P2
  rw [List.filter_map]; rfl
theorem hvl_len (md : Int) (N : List (List Nat)) (V : List El) (k : List Lab) (i : Nat) : (hvL md N (V.take i) k).length ≤ i := Nat.le_trans (List.length_filter_le _ _) (by simp; omega)
theorem hvl_yes (hi : i < V.length) (h : keyM md N (eg V i).2.1 = k) : hvL md N (V.take (i + 1)) k = hvL md N (V.take i) k ++ [eg V i] := by
  rw [take_el hi]; unfold hvL; rw [List.filter_append]; simp [h]
theorem hvl_no (hi : i < V.length) (h : ¬ keyM md N (eg V i).2.1 = k) : hvL md N (V.take (i + 1)) k = hvL md N (V.take i) k := by
  rw [take_el hi]; unfold hvL; rw [List.filter_append]; simp [h]
theorem hvl_ne : (hvP md N (P2 V) k ≠ []) = (0 < (hvL md N V k).length) := by
  rw [← hvl_p2]
  apply propext
  rw [List.length_pos_iff]
  exact not_congr List.map_eq_nil_iff
theorem st2_off {L M : List PE} (h : op ≠ [111, 114]) : M.flatMap (st2 op md N L) = [] := by
  rw [List.flatMap_eq_nil_iff]
  intro x _
  unfold st2; exact if_neg fun g => h g.1
theorem EIn.ownh {hs hp : HSt} {X : List El} {u : AV} (h : OwnE 2 (cE X) X.length u hp) (g : ∀ x ∈ X, LIn hs x.2.1 x.1) : EIn (ro hp ++ hs) X u := by
  have := EIn.mixd (hl := []) h (hs := hs) (fun x hx => by rw [List.append_nil]; exact g x hx)
  rw [List.append_nil] at this
  exact this
end

theorem modal_spec (hs : HSt) (hro : ∀ e ∈ hs, e.w = false) (kd nn rg off md sd : Int) (op : List Nat) (ho : Bytes op) (bl : Bool) (mt kids : AV) (hmt : CellQ mt) (hkds : CellQ kids) (N : List (List Nat)) (vn : AV) (hN : SIn hs N vn) (hNb : SBd N) : Spec tab 70 [.agg [.int .i64 kd, .str op, .int .i64 nn, mt, .int .i64 rg, .int .i64 off, .int .i64 md, vn, .int .i64 sd, .bool bl, kids]] [] hs (Val ((mdV md vn))) := by
 refine Spec.enter' (ft_get 70 Tryz.func70) rfl (m := 8) rfl (rs := [.tmp 2]) rfl (st := [(0, .agg [.int .i64 kd, .str op, .int .i64 nn, mt, .int .i64 rg, .int .i64 off, .int .i64 md, vn, .int .i64 sd, .bool bl, kids])]) rfl rfl (fun _ => rfl) (fun E => zr (WO.box rfl (cells_node hmt hkds hN) (bx47 _ rfl) rfl (fun b1 => za rfl (zk (W.seq (zr (zf fa47_6 rfl 6 (zq (Q.load1 rfl (zt 0 rfl) ag3 rfl) (zq (Q.bin rfl (zi 0) rfl (bv_eql eq_int)) (zk (W.condDS rfl (fun hc5 => ?_) (fun hc5 => ?_))))))))))))
 · refine zr (za rfl (zk (W.ret (End.K_ret (End.retV (z1 rfl) ?_)))))
   rw [mdV_0 (by simpa using hc5)]; rfl
 refine zw (zr (zf fa47_7 rfl 7 (zq (Q.load1 rfl (zt 0 rfl) ag40 rfl) (za rfl (zk (W.ret (End.retV (z1 rfl) ?_)))))))
 rw [mdV_1 (by simpa using hc5)]; rfl

theorem rkey_spec (hs : HSt) (hro : ∀ e ∈ hs, e.w = false) (A : List Lab) (va : AV) (ha : LIn hs A va) (hA : LBd A) (N : List (List Nat)) (vn : AV) (hN : SIn hs N vn) (hNb : SBd N) (md : Int) : Spec tab 63 [.int .i64 md, vn, va] [] hs (fun v D => OwnE 2 (cL (rkeyM md N A)) (rkeyM md N A).length v D) := by
 refine Spec.enter' (ft_get 63 Tryz.func63) rfl (m := 16) rfl (rs := [.tmp 6]) rfl (st := [(0, .int .i64 md), (1, vn), (2, va)]) rfl rfl (fun _ => rfl) (fun E => zr (za rfl (zk (W.seq (zr (zm rfl (zq (Q.bin rfl (zi 1) rfl (bv_eql eq_int)) (zk (W.condDS rfl (fun hc8 => ?_) (fun hc8 => ?_))))))))))
 · refine zr (zm rfl (zm rfl (WO.call0 rfl (oLs_cons rfl (oLs_cons rfl (oLs_cons rfl oLs_nil))) rfl (pick_spec hs hro A _ ha hA N _ hN hNb true) (SubR.self hro) rfl (fun v11 D11 hP11 => WO.subH (hs' := (hs ++ D11)) (SubH.of_perm (perm_tail (N := []) (G := D11) (K := []) (X := hs))) (za rfl (zk (W.ret ?_)))))))
   refine End.K_ret (End.ret (z1 rfl) (hs' := D11) (by rw [rkeyM_1 (by simpa using hc8)]; exact hP11) (OwnE.w hP11) gc)
 refine zw (zr (zm rfl (zm rfl (WO.call0 rfl (oLs_cons rfl (oLs_cons rfl (oLs_cons rfl oLs_nil))) rfl (pick_spec hs hro A _ ha hA N _ hN hNb false) (SubR.self hro) rfl (fun v14 D14 hP14 => WO.subH (hs' := (hs ++ D14)) (SubH.of_perm (perm_tail (N := []) (G := D14) (K := []) (X := hs))) (WO.call0 rfl (oLs_cons rfl oLs_nil) rfl (rnless_spec (ro D14) ro_w _ _ ((LIn.own hP14).mono fun b o h => h.ro) (LBd.filter hA _)) (SubR.ro gc) rfl (fun v15 D15 hP15 => WO.subH (hs' := (hs ++ D14 ++ D15)) (SubH.of_perm (perm_tail (N := []) (G := D15) (K := []) (X := hs ++ D14))) (za rfl (zk (W.ret ?_))))))))))
 refine End.ret (z1 rfl) (hs' := D15) (by rw [rkeyM_0 (by simpa using hc8), ← pick_drop (N := N)]; exact hP15) (OwnE.w hP15) gc

theorem hav_spec (hs : HSt) (hro : ∀ e ∈ hs, e.w = false) (V : List El) (v : AV) (hV : EIn hs V v) (hB : EBd V) (kd nn rg off md sd : Int) (op : List Nat) (ho : Bytes op) (bl : Bool) (mt kids : AV) (hmt : CellQ mt) (hkds : CellQ kids) (N : List (List Nat)) (vn : AV) (hN : SIn hs N vn) (hNb : SBd N) (k : List Lab) (vk : AV) (hk : LIn hs k vk) (hkB : LBd k) (hmd : 0 ≤ md ∧ md ≤ 2) : Spec tab 71 [.agg [.int .i64 kd, .str op, .int .i64 nn, mt, .int .i64 rg, .int .i64 off, .int .i64 md, vn, .int .i64 sd, .bool bl, kids], v, vk] [] hs (fun u D => OwnE 2 (cE (hvL md N V k)) (hvL md N V k).length u D) := by
 have hBl := hB.1
 refine Spec.enter' (ft_get 71 Tryz.func71) rfl (m := 36) rfl (rs := [.tmp 6]) rfl (st := [(0, .agg [.int .i64 kd, .str op, .int .i64 nn, mt, .int .i64 rg, .int .i64 off, .int .i64 md, vn, .int .i64 sd, .bool bl, kids]), (1, v), (2, vk)]) rfl rfl (fun _ => rfl) (fun E => zr (WO.box rfl (cells_node hmt hkds hN) (bx47 _ rfl) rfl (fun b1 => za rfl (zk (zr (za rfl (zk (W.seq (zr (za (zi 0) (zk (W.block (W.loop_ind3 (fun (i : Nat) (u : AV) (hp : HSt) => [(1, v), (2, vk), (3, .ptr b1 0), (7, u), (8, .int .i64 ((i : Nat) : Int))]) (fun (i : Nat) (u : AV) (hp : HSt) => (⟨b1, ⟨11, true, [.int .i64 kd, .str op, .int .i64 nn, mt, .int .i64 rg, .int .i64 off, .int .i64 md, vn, .int .i64 sd, .bool bl, kids]⟩, true⟩ :: (hs ++ hp))) (fun (i : Nat) (u : AV) (hp : HSt) => i ≤ V.length ∧ OwnE 2 (cE (hvL md N (V.take i) k)) (hvL md N (V.take i) k).length u hp) (fun (i : Nat) (u : AV) (hp : HSt) => V.length - i) (0) (.nils) ([]) ⟨Nat.zero_le _, OwnE.nil 2⟩ zv (by rw [List.append_nil]; exact SubH.refl _) (fun i u hp hI0 ih0 => ?_))))))))))))))
 obtain ⟨h1, hO⟩ := hI0
 refine W.seq (zr (zm rfl (zm rfl (zq (Q.len ud22 rfl (EIn.len hV)) (zq (Q.bin rfl rfl rfl (bv_lss lt_nat)) (zk (W.condDS rfl (fun hc12 => ?_) (fun hc12 => ?_))))))))
 · obtain ⟨bv, szv, exv, rfl, wv, mv⟩ := EIn.full hV (by omega)
   refine zw (W.seq (W.block (W.seq (W.regD 12 _ (by kernel_rfl) (KIn.refl _) (WD.q (Q.fieldAddr fa47_6 rfl (o' := 6) rfl) bq_ptr rfl (WD.q (Q.load1 rfl (zt 0 rfl) ag3 rfl) bq_int rfl (WD.q (Q.minmax true (oLs_cons (zi 0) (oLs_cons rfl oLs_nil)) mm_maxI) bq_int rfl (WD.q (Q.loadN rfl (zt 0 rfl) ag47 sz47 (l := [.int .i64 kd, .str op, .int .i64 nn, mt, .int .i64 rg, .int .i64 off, .int .i64 md, vn, .int .i64 sd, .bool bl, kids]) rfl) (bq_node hmt hkds hN) rfl (WD.callV rfl (oLs_cons rfl oLs_nil) rfl (modal_spec hs hro kd nn rg off md sd op ho bl mt kids hmt hkds N vn hN hNb) (SubR.tl (SubR.appl (SubR.self hro))) (KIn.refl _) rfl (WD.q (Q.move rfl) bq_slice rfl (WD.q (Q.move rfl) bq_int rfl (WD.q (Q.iaddrS ud22 sz35 rfl rfl zo) bq_ptr rfl (WD.q (Q.fieldAddr fa35_0 rfl rfl) bq_ptr rfl (WD.q (Q.load1 rfl (List.mem_cons_of_mem _ (List.mem_append_left _ mv)) ag33 (cE_f0 zo)) (LIn.bq (hV.at zo)) rfl (WD.call0 rfl (oLs_cons rfl (oLs_cons rfl (oLs_cons rfl oLs_nil))) rfl (rkey_spec hs hro (eg V i).2.1 _ (hV.at (by omega)) (hB.at (by omega)).1 _ _ (sin_md hN) (sbd_md hNb) _) (SubR.tl (SubR.appl (SubR.self hro))) (KIn.refl _) rfl (fun v25 D25 hP25 => ?_))))))))))))))))
   replace hP25 := rkey_own (N := N) (A := (eg V i).2.1) hmd (by have q := hP25; rw [mm_maxI0 hmd.1] at q; exact q)
   refine WD.subH (hs' := _ :: (hs ++ D25 ++ hp)) (SubH.of_perm (perm_tailO (N := []) (G := D25) (K := [_]) (X := hs ++ hp) (by simp only [List.append_assoc, List.nil_append]; exact List.perm_iff_count.2 (by intro z; simp only [List.append_eq, List.count_append, List.count_nil]; omega)))) (WD.q (Q.move rfl) (LIn.bq hk) rfl (WD.callV rfl (oLs_cons rfl (oLs_cons rfl oLs_nil)) rfl (rsame_spec (ro D25 ++ hs) (ro_app hro) _ _ _ _ ((LIn.own hP25).mono fun b o h => h.ro.appl) (hk.mono fun b o h => h.app) (lbd_key (hB.at (by omega)).1) hkB) (SubR.mix gc hro) (KIn.ofH gc) rfl (WD.nil (End.K (W.sub (zc 27 rfl (zc 1 rfl (zc 2 rfl (zc 3 rfl (zc 7 rfl (zc 8 rfl zzn)))))) (W.condDS rfl (fun hc27 => ?_) (fun hc27 => ?_)))))))
   · refine W.reg (zm rfl (zm rfl (zm rfl (zq (Q.iaddrS ud22 sz35 rfl rfl zo) (zq (Q.loadN rfl (List.mem_cons_of_mem _ (List.mem_append_left _ (List.mem_append_left _ mv))) ag35 sz35 (cE_at zo)) (WO.bslice ud22 sz35 zr35 rfl (oPs_cons rfl oPs_nil) rfl (cs := [_, _]) rfl (and_tt (LIn.cell (hV.at (by omega))) rfl) rfl (fun b2 => WO.appAny (A := ([_] ++ hs ++ D25)) ap22_22 hO rfl rfl (Src.slice (zt 0 rfl) rfl) rfl (by have := hvl_len md N V k i; omega) (by decide) (SubH.of_sublist (List.sublist_cons_self _ _)) rfl (fun v34 hp34 hO34 => za rfl (WO.nil (End.KB (End.K (W.reg (zm rfl (zq (Q.bin rfl (zi 1) rfl zp) (za rfl (WO.nil (End.KL (W.sub zv (W.subH gc (ih0 (i + 1) (v34) (hp34) ?_ ?_))))))))))))))))))))
     · exact ⟨by omega, by rw [hvl_yes (by omega) hc27]; exact own_snoc hO34⟩
     exact zo
   refine W.skip (End.KB (End.K (W.reg (zm rfl (zq (Q.bin rfl (zi 1) rfl zp) (za rfl (WO.nil (End.KL (W.sub zv (W.subH gc (ih0 (i + 1) (u) (hp) ?_ ?_)))))))))))
   · exact ⟨by omega, by rw [hvl_no (by omega) hc27]; exact hO⟩
   exact zo
 refine W.exit (End.K_exit (End.KL_exit (End.KB_hit (End.K (zr (zm rfl (za rfl (zk (W.ret ?_)))))))))
 refine End.ret (z1 rfl) (hs' := hp) (by rw [List.take_of_length_le (by omega)] at hO; exact hO) (OwnE.w hO) gc

theorem rsets_spec (hs : HSt) (hro : ∀ e ∈ hs, e.w = false) (V : List El) (v : AV) (hV : EIn hs V v) (hB : EBd V) (U : List El) (vu : AV) (hU : EIn hs U vu) (hUB : EBd U) (kd nn rg off md sd : Int) (op : List Nat) (ho : Bytes op) (bl : Bool) (mt kids : AV) (hmt : CellQ mt) (hkds : CellQ kids) (N : List (List Nat)) (vn : AV) (hN : SIn hs N vn) (hNb : SBd N) (hmd : 0 ≤ md ∧ md ≤ 2) (hVl : V.length ≤ 256) (hUl : U.length ≤ 256) : Spec tab 69 [.agg [.int .i64 kd, .str op, .int .i64 nn, mt, .int .i64 rg, .int .i64 off, .int .i64 md, vn, .int .i64 sd, .bool bl, kids], v, vu] [] hs (fun u D => ∃ (e : Nat) (W : List El) (w : AV), OrdR (setL op md N (P2 V) (P2 U)) e (P2 W) ∧ VRes hs W w D ∧ u = .tuple [w, .int .i64 (e : Nat)]) := by
 have hBl := hB.1
 have hUl2 := hUB.1
 refine Spec.enter' (ft_get 69 Tryz.func69) rfl (m := 87) rfl (rs := [.tmp 6, .tmp 7]) rfl (st := [(0, .agg [.int .i64 kd, .str op, .int .i64 nn, mt, .int .i64 rg, .int .i64 off, .int .i64 md, vn, .int .i64 sd, .bool bl, kids]), (1, v), (2, vu)]) rfl rfl (fun _ => rfl) (fun E => zr (WO.box rfl (cells_node hmt hkds hN) (bx47 _ rfl) rfl (fun b1 => za rfl (za (zi 0) (zk (zr (za rfl (zk (W.seq (zr (za (zi 0) (zk (W.block (W.loop_ind4 (fun (i : Nat) (X : List El) (u : AV) (hp : HSt) => [(1, v), (2, vu), (3, .ptr b1 0), (8, u), (9, .int .i64 ((i : Nat) : Int))]) (fun (i : Nat) (X : List El) (u : AV) (hp : HSt) => (⟨b1, ⟨11, true, [.int .i64 kd, .str op, .int .i64 nn, mt, .int .i64 rg, .int .i64 off, .int .i64 md, vn, .int .i64 sd, .bool bl, kids]⟩, true⟩ :: (hs ++ hp))) (fun (i : Nat) (X : List El) (u : AV) (hp : HSt) => i ≤ V.length ∧ P2 X = [] ++ ((P2 V).take i).flatMap (st1 op md N (P2 U)) ∧ X.length ≤ i ∧ OwnE 2 (cE X) X.length u hp ∧ (∀ x ∈ X, LIn hs x.2.1 x.1) ∧ EBd X) (fun (i : Nat) (X : List El) (u : AV) (hp : HSt) => V.length - i) (0) ([]) (.nils) ([]) ⟨Nat.zero_le _, rfl, Nat.zero_le _, OwnE.nil 2, fun x hx => by simp at hx, ebd_nil⟩ zv (by rw [List.append_nil]; exact SubH.refl _) (fun i X u hp hI0 ih0 => ?_)))))))))))))))
 obtain ⟨h1, h2, h3, hO, hL, hXB⟩ := hI0
 refine W.seq (zr (zm rfl (zm rfl (zq (Q.len ud22 rfl (EIn.len hV)) (zq (Q.bin rfl rfl rfl (bv_lss lt_nat)) (zk (W.condDS rfl (fun hc15 => ?_) (fun hc15 => ?_))))))))
 · obtain ⟨bv, szv, exv, rfl, wv, mv⟩ := EIn.full hV (by omega)
   refine zw (W.seq (W.block (W.seq (W.regD 12 _ (by kernel_rfl) (KIn.refl _) (WD.q (Q.loadN rfl (zt 0 rfl) ag47 sz47 (l := [.int .i64 kd, .str op, .int .i64 nn, mt, .int .i64 rg, .int .i64 off, .int .i64 md, vn, .int .i64 sd, .bool bl, kids]) rfl) (bq_node hmt hkds hN) rfl (WD.q (Q.move rfl) (EIn.bq hU) rfl (WD.q (Q.fieldAddr fa47_6 rfl (o' := 6) rfl) bq_ptr rfl (WD.q (Q.load1 rfl (zt 0 rfl) ag3 rfl) bq_int rfl (WD.q (Q.loadN rfl (zt 0 rfl) ag47 sz47 (l := [.int .i64 kd, .str op, .int .i64 nn, mt, .int .i64 rg, .int .i64 off, .int .i64 md, vn, .int .i64 sd, .bool bl, kids]) rfl) (bq_node hmt hkds hN) rfl (WD.callV rfl (oLs_cons rfl oLs_nil) rfl (modal_spec hs hro kd nn rg off md sd op ho bl mt kids hmt hkds N vn hN hNb) (SubR.tl (SubR.appl (SubR.self hro))) (KIn.refl _) rfl (WD.q (Q.move rfl) bq_slice rfl (WD.q (Q.move rfl) bq_int rfl (WD.q (Q.iaddrS ud22 sz35 rfl rfl zo) bq_ptr rfl (WD.q (Q.fieldAddr fa35_0 rfl rfl) bq_ptr rfl (WD.q (Q.load1 rfl (List.mem_cons_of_mem _ (List.mem_append_left _ mv)) ag33 (cE_f0 zo)) (LIn.bq (hV.at zo)) rfl (WD.call0 rfl (oLs_cons rfl (oLs_cons rfl (oLs_cons rfl oLs_nil))) rfl (rkey_spec hs hro (eg V i).2.1 _ (hV.at (by omega)) (hB.at (by omega)).1 _ _ (sin_md hN) (sbd_md hNb) md) (SubR.tl (SubR.appl (SubR.self hro))) (KIn.refl _) rfl (fun v29 D29 hP29 => ?_)))))))))))))))))
   replace hP29 := rkey_own (N := N) (A := (eg V i).2.1) hmd hP29
   refine WD.subH (hs' := _ :: (hs ++ D29 ++ hp)) (SubH.of_perm (perm_tailO (N := []) (G := D29) (K := [_]) (X := hs ++ hp) (by simp only [List.append_assoc, List.nil_append]; exact List.perm_iff_count.2 (by intro z; simp only [List.append_eq, List.count_append, List.count_nil]; omega)))) (WD.call0 rfl (oLs_cons rfl (oLs_cons rfl (oLs_cons rfl oLs_nil))) rfl (hav_spec (ro D29 ++ hs) (ro_app hro) U vu (hU.mono fun b o h => h.app) hUB kd nn rg off md sd op ho bl mt kids hmt hkds N vn (hN.mono fun b o h => h.app) hNb (keyM md N (eg V i).2.1) _ ((LIn.own hP29).mono fun b o h => h.ro.appl) (lbd_key (hB.at (by omega)).1) hmd) (SubR.mix gc hro) (KIn.ofH gc) rfl (fun v30 D30 hP30 => WD.subH (hs' := _ :: (hs ++ D29 ++ D30 ++ hp)) (SubH.of_perm (perm_tailO (N := []) (G := D30) (K := [_]) (X := hs ++ D29 ++ hp) (by simp only [List.append_assoc, List.nil_append]; exact List.perm_iff_count.2 (by intro z; simp only [List.append_eq, List.count_append, List.count_nil]; omega)))) (WD.q (Q.len ud22 rfl hP30.len) bq_int rfl (WD.q (Q.bin rfl (zi 0) rfl (bv_gtr lt_nat)) bq_bool rfl (WD.q (Q.assign rfl) bq_bool rfl (WD.nil (End.K (W.sub (zc 10 rfl (zc 1 rfl (zc 2 rfl (zc 3 rfl (zc 8 rfl (zc 9 rfl zzn)))))) (zr (zf fa47_1 rfl 1 (zq (Q.load1 rfl (zt 0 rfl) ag9 rfl) (zq (Q.bin rfl (oc (v := .str [111, 114]) (by kernel_rfl)) rfl bv_seql) (zm rfl (WO.splitD (d := 36) rfl (fun hc36 => ?_) (fun hc36 => ?_)))))))))))))))
   · refine zg rfl rfl (zg rfl rfl (zg rfl rfl (zg rfl rfl (zg rfl rfl (zq (Q.pickT rfl rfl) (zk (W.condT rfl (W.reg (zm rfl (zm rfl (zm rfl (zq (Q.iaddrS ud22 sz35 rfl rfl zo) (zq (Q.loadN rfl (List.mem_cons_of_mem _ (List.mem_append_left _ (List.mem_append_left _ (List.mem_append_left _ mv)))) ag35 sz35 (cE_at zo)) (WO.bslice ud22 sz35 zr35 rfl (oPs_cons rfl oPs_nil) rfl (cs := [_, _]) rfl (and_tt (LIn.cell (hV.at (by omega))) rfl) rfl (fun b2 => WO.appAny (A := ([_] ++ hs ++ D29 ++ D30)) ap22_22 hO rfl rfl (Src.slice (zt 0 rfl) rfl) rfl (by omega) (by decide) (SubH.of_sublist (List.sublist_cons_self _ _)) rfl (fun v49 hp49 hO49 => za rfl (WO.nil (End.KB (End.K (W.sub (zc 8 rfl (zc 1 rfl (zc 2 rfl (zc 3 rfl (zc 9 rfl zzn))))) (W.reg (zm rfl (zq (Q.bin rfl (zi 1) rfl zp) (za rfl ?_))))))))))))))))))))))))
     refine WO.nil (End.KL (W.sub zv (W.subH gc (ih0 (i + 1) (X ++ [eg V i]) (v49) (hp49) ?_ ?_))))
     · exact ⟨by omega, fm_next h2 (by omega) (by rw [st1_y (hvl_ne (md := md) (N := N) (V := U) (k := keyM md N (eg V i).2.1)) (by simp_all)]; rfl), by simp; omega, own_snoc hO49, (fun x hx => by rcases List.mem_append.1 hx with hx | hx; exact hL x hx; rw [List.mem_singleton.1 hx]; exact hV.at (by omega)), ebd_put hXB (by omega) (hB.at (by omega))⟩
     exact zo
   refine WO.gT rfl rfl (zm rfl (WO.gT rfl rfl (zf fa47_1 rfl 1 (WO.gT rfl rfl (zq (Q.load1 rfl (zt 0 rfl) ag9 rfl) (WO.gT rfl rfl (zq (Q.bin rfl (oc (v := .str [97, 110, 100]) (by kernel_rfl)) rfl bv_seql) (WO.gT rfl rfl (zq (Q.bin rfl rfl rfl (bv_beqB ud4)) (zq (Q.pickF rfl rfl) (zk (W.condS rfl (fun hc42 => ?_) (fun hc42 => ?_)))))))))))))
   · refine W.reg (zm rfl (zm rfl (zm rfl (zq (Q.iaddrS ud22 sz35 rfl rfl zo) (zq (Q.loadN rfl (List.mem_cons_of_mem _ (List.mem_append_left _ (List.mem_append_left _ (List.mem_append_left _ mv)))) ag35 sz35 (cE_at zo)) (WO.bslice ud22 sz35 zr35 rfl (oPs_cons rfl oPs_nil) rfl (cs := [_, _]) rfl (and_tt (LIn.cell (hV.at (by omega))) rfl) rfl (fun b3 => WO.appAny (A := ([_] ++ hs ++ D29 ++ D30)) ap22_22 hO rfl rfl (Src.slice (zt 0 rfl) rfl) rfl (by omega) (by decide) (SubH.of_sublist (List.sublist_cons_self _ _)) rfl (fun v49 hp49 hO49 => za rfl (WO.nil (End.KB (End.K (W.sub (zc 8 rfl (zc 1 rfl (zc 2 rfl (zc 3 rfl (zc 9 rfl zzn))))) (W.reg (zm rfl (zq (Q.bin rfl (zi 1) rfl zp) (za rfl (WO.nil (End.KL (W.sub zv (W.subH gc (ih0 (i + 1) (X ++ [eg V i]) (v49) (hp49) ?_ ?_)))))))))))))))))))))
     · exact ⟨by omega, fm_next h2 (by omega) (by rw [st1_y (hvl_ne (md := md) (N := N) (V := U) (k := keyM md N (eg V i).2.1)) (by simp_all)]; rfl), by simp; omega, own_snoc hO49, (fun x hx => by rcases List.mem_append.1 hx with hx | hx; exact hL x hx; rw [List.mem_singleton.1 hx]; exact hV.at (by omega)), ebd_put hXB (by omega) (hB.at (by omega))⟩
     exact zo
   refine W.skip (End.KB (End.K (W.reg (zm rfl (zq (Q.bin rfl (zi 1) rfl zp) (za rfl (WO.nil (End.KL (W.sub zv (W.subH gc (ih0 (i + 1) (X) (u) (hp) ?_ ?_)))))))))))
   · exact ⟨by omega, fm_none h2 (by omega) (st1_n (hvl_ne (md := md) (N := N) (V := U) (k := keyM md N (eg V i).2.1)) (by simp_all)).symm, by omega, hO, hL, hXB⟩
   exact zo
 refine W.exit (End.K_exit (End.KL_exit (End.KB_hit (End.K (W.seq (zr (za (zi 0) (zk (W.block (W.loop_ind4 (fun (i : Nat) (X : List El) (u : AV) (hp : HSt) => [(1, v), (2, vu), (3, .ptr b1 0), (8, u), (11, .int .i64 ((i : Nat) : Int))]) (fun (i : Nat) (X : List El) (u : AV) (hp : HSt) => (⟨b1, ⟨11, true, [.int .i64 kd, .str op, .int .i64 nn, mt, .int .i64 rg, .int .i64 off, .int .i64 md, vn, .int .i64 sd, .bool bl, kids]⟩, true⟩ :: (hs ++ hp))) (fun (i : Nat) (X : List El) (u : AV) (hp : HSt) => i ≤ U.length ∧ P2 X = (P2 V).flatMap (st1 op md N (P2 U)) ++ ((P2 U).take i).flatMap (st2 op md N (P2 V)) ∧ X.length ≤ V.length + i ∧ OwnE 2 (cE X) X.length u hp ∧ (∀ x ∈ X, LIn hs x.2.1 x.1) ∧ EBd X) (fun (i : Nat) (X : List El) (u : AV) (hp : HSt) => U.length - i) (0) (X) (u) (hp) ⟨Nat.zero_le _, by rw [h2, List.take_of_length_le (by simp [P2]; omega)]; simp, by omega, hO, hL, hXB⟩ zv gc (fun i X u hp hI1 ih1 => ?_)))))))))))
 obtain ⟨h1, h2, h3, hO, hL, hXB⟩ := hI1
 refine W.seq (zr (zm rfl (zm rfl (zq (Q.len ud22 rfl (EIn.len hU)) (zq (Q.bin rfl rfl rfl (bv_lss lt_nat)) (zm rfl (WO.splitD (d := 54) rfl (fun hc54 => ?_) (fun hc54 => ?_))))))))
 · refine WO.gT rfl rfl (zf fa47_1 rfl 1 (WO.gT rfl rfl (zq (Q.load1 rfl (zt 0 rfl) ag9 rfl) (WO.gT rfl rfl (zq (Q.bin rfl (oc (v := .str [111, 114]) (by kernel_rfl)) rfl bv_seql) (zq (Q.pickT rfl rfl) (zk (W.condDS rfl (fun hc58 => ?_) (fun hc58 => ?_)))))))))
   · obtain ⟨bu, szu, exu, rfl, wu, mu⟩ := EIn.full hU (by omega)
     refine zw (W.seq (W.block (W.seq (W.regD 12 _ (by kernel_rfl) (KIn.refl _) (WD.q (Q.loadN rfl (zt 0 rfl) ag47 sz47 (l := [.int .i64 kd, .str op, .int .i64 nn, mt, .int .i64 rg, .int .i64 off, .int .i64 md, vn, .int .i64 sd, .bool bl, kids]) rfl) (bq_node hmt hkds hN) rfl (WD.q (Q.move rfl) (EIn.bq hV) rfl (WD.q (Q.fieldAddr fa47_6 rfl (o' := 6) rfl) bq_ptr rfl (WD.q (Q.load1 rfl (zt 0 rfl) ag3 rfl) bq_int rfl (WD.q (Q.loadN rfl (zt 0 rfl) ag47 sz47 (l := [.int .i64 kd, .str op, .int .i64 nn, mt, .int .i64 rg, .int .i64 off, .int .i64 md, vn, .int .i64 sd, .bool bl, kids]) rfl) (bq_node hmt hkds hN) rfl (WD.callV rfl (oLs_cons rfl oLs_nil) rfl (modal_spec hs hro kd nn rg off md sd op ho bl mt kids hmt hkds N vn hN hNb) (SubR.tl (SubR.appl (SubR.self hro))) (KIn.refl _) rfl (WD.q (Q.move rfl) bq_slice rfl (WD.q (Q.move rfl) bq_int rfl (WD.q (Q.iaddrS ud22 sz35 rfl rfl zo) bq_ptr rfl (WD.q (Q.fieldAddr fa35_0 rfl rfl) bq_ptr rfl (WD.q (Q.load1 rfl (List.mem_cons_of_mem _ (List.mem_append_left _ mu)) ag33 (cE_f0 zo)) (LIn.bq (hU.at zo)) rfl (WD.call0 rfl (oLs_cons rfl (oLs_cons rfl (oLs_cons rfl oLs_nil))) rfl (rkey_spec hs hro (eg U i).2.1 _ (hU.at (by omega)) (hUB.at (by omega)).1 _ _ (sin_md hN) (sbd_md hNb) md) (SubR.tl (SubR.appl (SubR.self hro))) (KIn.refl _) rfl (fun v72 D72 hP72 => ?_)))))))))))))))))
     replace hP72 := rkey_own (N := N) (A := (eg U i).2.1) hmd hP72
     refine WD.subH (hs' := _ :: (hs ++ D72 ++ hp)) (SubH.of_perm (perm_tailO (N := []) (G := D72) (K := [_]) (X := hs ++ hp) (by simp only [List.append_assoc, List.nil_append]; exact List.perm_iff_count.2 (by intro z; simp only [List.append_eq, List.count_append, List.count_nil]; omega)))) (WD.call0 rfl (oLs_cons rfl (oLs_cons rfl (oLs_cons rfl oLs_nil))) rfl (hav_spec (ro D72 ++ hs) (ro_app hro) V v (hV.mono fun b o h => h.app) hB kd nn rg off md sd op ho bl mt kids hmt hkds N vn (hN.mono fun b o h => h.app) hNb (keyM md N (eg U i).2.1) _ ((LIn.own hP72).mono fun b o h => h.ro.appl) (lbd_key (hUB.at (by omega)).1) hmd) (SubR.mix gc hro) (KIn.ofH gc) rfl (fun v73 D73 hP73 => WD.subH (hs' := _ :: (hs ++ D72 ++ D73 ++ hp)) (SubH.of_perm (perm_tailO (N := []) (G := D73) (K := [_]) (X := hs ++ D72 ++ hp) (by simp only [List.append_assoc, List.nil_append]; exact List.perm_iff_count.2 (by intro z; simp only [List.append_eq, List.count_append, List.count_nil]; omega)))) (WD.q (Q.len ud22 rfl hP73.len) bq_int rfl (WD.q (Q.bin rfl (zi 0) rfl (bv_eql eq_nat)) bq_bool rfl (WD.nil (End.K (W.sub (zc 75 rfl (zc 1 rfl (zc 2 rfl (zc 3 rfl (zc 8 rfl (zc 11 rfl zzn)))))) (W.condDS rfl (fun hc75 => ?_) (fun hc75 => ?_)))))))))
     · refine W.reg (zm rfl (zm rfl (zm rfl (zq (Q.iaddrS ud22 sz35 rfl rfl zo) (zq (Q.loadN rfl (List.mem_cons_of_mem _ (List.mem_append_left _ (List.mem_append_left _ (List.mem_append_left _ mu)))) ag35 sz35 (cE_at zo)) (WO.bslice ud22 sz35 zr35 rfl (oPs_cons rfl oPs_nil) rfl (cs := [_, _]) rfl (and_tt (LIn.cell (hU.at (by omega))) rfl) rfl (fun b4 => WO.appAny (A := ([_] ++ hs ++ D72 ++ D73)) ap22_22 hO rfl rfl (Src.slice (zt 0 rfl) rfl) rfl (by omega) (by decide) (SubH.of_sublist (List.sublist_cons_self _ _)) rfl (fun v82 hp82 hO82 => za rfl (WO.nil (End.KB (End.K (W.reg (zm rfl (zq (Q.bin rfl (zi 1) rfl zp) (za rfl (WO.nil (End.KL (W.sub zv (W.subH gc (ih1 (i + 1) (X ++ [eg U i]) (v82) (hp82) ?_ ?_))))))))))))))))))))
       · exact ⟨by omega, fm_next h2 (by omega) (by rw [st2_y (hvl_ne (md := md) (N := N) (V := V) (k := keyM md N (eg U i).2.1)) (by simp_all)]; rfl), by simp; omega, own_snoc hO82, (fun x hx => by rcases List.mem_append.1 hx with hx | hx; exact hL x hx; rw [List.mem_singleton.1 hx]; exact hU.at (by omega)), ebd_put hXB (by omega) (hUB.at (by omega))⟩
       exact zo
     refine W.skip (End.KB (End.K (W.reg (zm rfl (zq (Q.bin rfl (zi 1) rfl zp) (za rfl (WO.nil (End.KL (W.sub zv (W.subH gc (ih1 (i + 1) (X) (u) (hp) ?_ ?_)))))))))))
     · exact ⟨by omega, fm_none h2 (by omega) (st2_n (hvl_ne (md := md) (N := N) (V := V) (k := keyM md N (eg U i).2.1)) (by simp_all)).symm, by omega, hO, hL, hXB⟩
     exact zo
   have hXe : P2 X = setL op md N (P2 V) (P2 U) := (by rw [h2, st2_off (by simpa using hc58), setL, st2_off (by simpa using hc58)])
   refine W.exit (End.K_exit (End.KL_exit (End.KB_hit (End.K (zr (zm rfl (WO.call0 rfl (oLs_cons rfl oLs_nil) rfl (rord_spec (ro hp ++ hs) (ro_app hro) X u (EIn.ownh hO hL) hXB) (SubR.mix gc hro) rfl (fun v84 D84 hP84 => ?_))))))))
   obtain ⟨e84, W84, w84, hR84, hM84, hO84, rfl⟩ := hP84
   refine WO.subH (hs' := _ :: (hs ++ hp ++ D84)) (SubH.of_perm (perm_tail (N := []) (G := D84) (K := [_]) (X := hs ++ hp))) (zq (Q.extract rfl rfl) (zq (Q.extract rfl rfl) (za rfl (za rfl (zk (W.sub (zc 7 rfl (zc 6 rfl zzn)) (W.ret ?_)))))))
   refine End.ret (ResL.tmp rfl (z1 rfl)) (hs' := D84) ⟨e84, W84, w84, hXe ▸ hR84, ⟨D84, [], by rw [List.append_nil], hO84, fun x hx => by rw [List.append_nil]; exact hL x (hM84 x hx), no_wl, ord_ebd hR84 hM84 hXB⟩, rfl⟩ (OwnE.w hO84) gc
 have hXe : P2 X = setL op md N (P2 V) (P2 U) := (by rw [h2, List.take_of_length_le (by simp [P2]; omega)]; rfl)
 refine zg rfl rfl (zg rfl rfl (zg rfl rfl (zq (Q.pickF rfl rfl) (zk (W.condF rfl (W.exit (End.K_exit (End.KL_exit (End.KB_hit (End.K (zr (zm rfl (WO.call0 rfl (oLs_cons rfl oLs_nil) rfl (rord_spec (ro hp ++ hs) (ro_app hro) X u (EIn.ownh hO hL) hXB) (SubR.mix gc hro) rfl (fun v84 D84 hP84 => ?_))))))))))))))
 obtain ⟨e84, W84, w84, hR84, hM84, hO84, rfl⟩ := hP84
 refine WO.subH (hs' := _ :: (hs ++ hp ++ D84)) (SubH.of_perm (perm_tail (N := []) (G := D84) (K := [_]) (X := hs ++ hp))) (zq (Q.extract rfl rfl) (zq (Q.extract rfl rfl) (za rfl (za rfl (zk (W.sub (zc 7 rfl (zc 6 rfl zzn)) (W.ret ?_)))))))
 refine End.ret (ResL.tmp rfl (z1 rfl)) (hs' := D84) ⟨e84, W84, w84, hXe ▸ hR84, ⟨D84, [], by rw [List.append_nil], hO84, fun x hx => by rw [List.append_nil]; exact hL x (hM84 x hx), no_wl, ord_ebd hR84 hM84 hXB⟩, rfl⟩ (OwnE.w hO84) gc
end Go.Proofs.YtmblgaehfjheeaaGreat.Ev
