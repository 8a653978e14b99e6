/- Chapter 19: VectorTurned, of any node and any two vectors in memory. -/
import Derived.Test.YtmblgaehfjheeaaGreatUZp
namespace Go.Proofs.YtmblgaehfjheeaaGreat.Ev
open Go.RowKit
set_option linter.unusedVariables false
set_option linter.unusedSimpArgs false
set_option maxRecDepth 100000
set_option maxHeartbeats 1000000
theorem tn_bytes {op : List Nat} (h : Bytes op) : Bytes (tnB op) := by
  rcases tn_cases op with ⟨_, e⟩ | ⟨_, e⟩ | ⟨_, e⟩ | ⟨_, e⟩ | ⟨_, _, _, _, e⟩ <;> rw [e]
  · unfold Bytes; decide
  · unfold Bytes; decide
  · unfold Bytes; decide
  · unfold Bytes; decide
  · exact h
theorem sd_turn {sd : Int} (h0 : 0 ≤ sd) (h1 : sd ≤ 2) : ∃ sd2 : Int, (sd = 0 ∧ sd2 = 0 ∨ sd = 1 ∧ sd2 = 2 ∨ sd = 2 ∧ sd2 = 1) ∧ (((3 : Nat) : Int) - sd).tmod ((3 : Nat) : Int) = sd2 := by
  have : sd = 0 ∨ sd = 1 ∨ sd = 2 := by omega
  rcases this with rfl | rfl | rfl
  · exact ⟨0, by decide, by decide⟩
  · exact ⟨2, by decide, by decide⟩
  · exact ⟨1, by decide, by decide⟩
theorem p2_nil0 {W : List El} (h : P2 W = []) : W.length = 0 := by rw [← p2_ln (F := W), h]; rfl
theorem ao47 : AO tab 47 = some ⟨11, true, [.int .i64 0, .str [], .int .i64 0, .nils, .int .i64 0, .int .i64 0, .int .i64 0, .nils, .int .i64 0, .bool false, .nils]⟩ := by kernel_rfl
theorem sz4 : tab.size 4 = some 1 := by kernel_rfl
theorem turned_spec (op : List Nat) (ho : Bytes op) : Spec tab 26 [.str op] [] [] (Val (.str (tnB op))) := by
 refine Spec.enter' (ft_get 26 Tryz.func26) rfl (m := 13) rfl (rs := [.tmp 2]) rfl (st := [(0, .str op)]) rfl rfl (fun _ => rfl) (fun E => zr (zq (Q.assign (oc (v := .str []) (by kernel_rfl))) (zk (W.seq (zr (zm rfl (zk (W.block (zr (zq (Q.bin rfl (oc (v := .str [60]) (by kernel_rfl)) rfl bv_seql) (za rfl (zk (W.condDS rfl (fun hc4 => ?_) (fun hc4 => ?_))))))))))))))
 · refine zr (zq (Q.assign (oc (v := .str [62]) (by kernel_rfl))) (zk (W.ret (End.KB_ret (End.K_ret (End.retV (z1 rfl) (congrArg AV.str ?_)))))))
   unfold tnB; simp_all
 refine zr (zq (Q.bin rfl (oc (v := .str [62]) (by kernel_rfl)) rfl bv_seql) (za rfl (zk (W.condDS rfl (fun hc6 => ?_) (fun hc6 => ?_)))))
 · refine zr (zq (Q.assign (oc (v := .str [60]) (by kernel_rfl))) (zk (W.ret (End.KB_ret (End.K_ret (End.retV (z1 rfl) (congrArg AV.str ?_)))))))
   unfold tnB; simp_all
 refine zr (zq (Q.bin rfl (oc (v := .str [60, 61]) (by kernel_rfl)) rfl bv_seql) (za rfl (zk (W.condDS rfl (fun hc8 => ?_) (fun hc8 => ?_)))))
 · refine zr (zq (Q.assign (oc (v := .str [62, 61]) (by kernel_rfl))) (zk (W.ret (End.KB_ret (End.K_ret (End.retV (z1 rfl) (congrArg AV.str ?_)))))))
   unfold tnB; simp_all
 refine zr (zq (Q.bin rfl (oc (v := .str [62, 61]) (by kernel_rfl)) rfl bv_seql) (za rfl (zk (W.condDS rfl (fun hc10 => ?_) (fun hc10 => ?_)))))
 · refine zr (zq (Q.assign (oc (v := .str [60, 61]) (by kernel_rfl))) (zk (W.ret (End.KB_ret (End.K_ret (End.retV (z1 rfl) (congrArg AV.str ?_)))))))
   unfold tnB; simp_all
 refine W.skip (End.KB (End.K (zr (zm rfl (za rfl (zk (W.ret (End.retV (z1 rfl) (congrArg AV.str ?_)))))))))
 unfold tnB; simp_all

theorem law_turned (hs : HSt) (hro : ∀ e ∈ hs, e.w = false) (V : List El) (v : AV) (hV : EIn hs V v) (hB : EBd V) (U : List El) (vu : AV) (hU : EIn hs U vu) (hUB : EBd U) (kd nn rg off md sd : Int) (op : List Nat) (ho : Bytes op) (bl : Bool) (mt kids : AV) (hmt : CellQ mt) (hkds : CellQ kids) (N : List (List Nat)) (vn : AV) (hN : SIn hs N vn) (hNb : SBd N) : Spec tab 9 [.agg [.int .i64 kd, .str op, .int .i64 nn, mt, .int .i64 rg, .int .i64 off, .int .i64 md, vn, .int .i64 sd, .bool bl, kids], v, vu] [] hs (Val (.bool true)) := by
 have hBl := hB.1
 have hUl2 := hUB.1
 refine Spec.enter' (ft_get 9 Tryz.func9) rfl (m := 115) rfl (rs := [.tmp 6]) rfl (st := [(0, .agg [.int .i64 kd, .str op, .int .i64 nn, mt, .int .i64 rg, .int .i64 off, .int .i64 md, vn, .int .i64 sd, .bool bl, kids]), (1, v), (2, vu)]) rfl rfl (fun _ => rfl) (fun E => zr (WO.box rfl (cells_node hmt hkds hN) (bx47 _ rfl) rfl (fun b1 => za rfl (zk (W.seq (W.seqJ1 (fun (q : Bool) => [(1, v), (2, vu), (3, .ptr b1 0), (49, .bool q)]) (fun (q : Bool) => (⟨b1, ⟨11, true, [.int .i64 kd, .str op, .int .i64 nn, mt, .int .i64 rg, .int .i64 off, .int .i64 md, vn, .int .i64 sd, .bool bl, kids]⟩, true⟩ :: hs)) (fun (q : Bool) => q = false → (op ≠ [45] ∧ op ≠ [47] ∧ op ≠ [37]) ∧ (op ≠ [97, 110, 100] ∧ op ≠ [111, 114] ∧ op ≠ [117, 110, 108, 101, 115, 115]) ∧ 0 ≤ sd ∧ sd ≤ 2) (fun q hIc49 => ?_) (fun hJc49 => ?_)))))))
 · have hq := hIc49
   refine W.condS rfl (fun hc49 => ?_) (fun hc49 => ?_)
   · refine zr (WO.callV rfl oLs_nil rfl (Spec.known (fun _ => rfl)) SubR.nil rfl (za rfl (zk (W.ret (End.K_ret (End.retV (z1 rfl) ?_))))))
     rfl
   obtain ⟨⟨hn1, hn2, hn3⟩, ⟨hn4, hn5, hn6⟩, hsd0, hsd1⟩ := hq (by simpa using hc49)
   obtain ⟨sd2, hs2, hm2⟩ := sd_turn hsd0 hsd1
   have hTn : TnOK op := ⟨hn1, hn2, hn3, decide_eq_false (by rintro (k | k | k); exact hn4 k; exact hn5 k; exact hn6 k)⟩
   refine zw (zr (zf fa47_9 rfl 9 (WO.store sz4 rfl rfl (i := 0) rfl rfl (cs := [_, _, _, _, _, _, _, _, _, _, _]) rfl (hs' := _ :: _) rfl (zk (zr (zq (Q.loadN rfl (zt 0 rfl) ag47 sz47 (l := [_, _, _, _, _, _, _, _, _, _, _]) rfl) (WO.alloc ao47 rfl (fun b2 => WO.store sz47 rfl rfl (i := 0) rfl (cells_node (kd := kd) (nn := nn) (op := op) hmt hkds hN) (cs := [_, _, _, _, _, _, _, _, _, _, _]) rfl (hs' := _ :: _ :: _) rfl (zk (W.seq (W.regD 9 [⟨b1, _, false⟩] (by kernel_rfl) (KIn.cons (zt 1 rfl) KIn.nil) (WD.q (Q.fieldAddr fa47_1 rfl (o' := 1) rfl) bq_ptr rfl (WD.q (Q.load1 rfl (zt 0 rfl) ag9 rfl) bq_str rfl (WD.callV rfl (oLs_cons rfl oLs_nil) rfl (turned_spec op ho) SubR.nil (KIn.cons (zt 1 rfl) KIn.nil) rfl (WD.q (Q.fieldAddr fa47_8 rfl (o' := 8) rfl) bq_ptr rfl (WD.q (Q.load1 rfl (zt 0 rfl) ag3 rfl) bq_int rfl (WD.q (Q.bin (zi 3) rfl rfl (bv_sub (wr64 zo))) bq_int rfl (WD.q (Q.bin rfl (zi 3) rfl (bv_rem (by decide) hm2)) bq_int rfl (WD.q (Q.fieldAddr fa47_1 rfl (o' := 1) rfl) bq_ptr rfl (WD.store sz9 rfl rfl (j := 0) rfl rfl (cs := [_, _, _, _, _, _, _, _, _, _, _]) rfl (hs' := _ :: _ :: _) rfl (fun _ => (KIn.cons (zt 1 rfl) KIn.nil)) (WD.q (Q.fieldAddr fa47_8 rfl (o' := 8) rfl) bq_ptr rfl (WD.store sz3 rfl rfl (j := 0) rfl rfl (cs := [_, _, _, _, _, _, _, _, _, _, _]) rfl (hs' := _ :: _ :: _) rfl (fun h => by cases h) (WD.nil ?_)))))))))))))))))))))))
   refine End.K (zr (zq (Q.loadN rfl (zt 1 rfl) ag47 sz47 (l := [_, _, _, _, _, _, _, _, _, _, _]) rfl) (zm rfl (zm rfl (WO.call0 rfl (oLs_cons rfl (oLs_cons rfl (oLs_cons rfl oLs_nil))) rfl (bin_spec hs hro V v hV hB U vu hU hUB kd nn rg off md sd op ho true mt kids hmt hkds N vn hN hNb) (SubR.tl (SubR.tl (SubR.self hro))) rfl (fun v66 D66 hP66 => ?_))))))
   obtain ⟨e66, W66, w66, hR66, hO66, rfl⟩ := hP66
   have hl66 := hO66.ebd.1
   refine WO.subH (hs' := _ :: _ :: (hs ++ D66)) (SubH.of_perm (perm_tail (N := []) (G := D66) (K := [_, _]) (X := hs))) (zm rfl (zq (Q.extract rfl rfl) (zq (Q.extract rfl rfl) (za rfl (za rfl (zk (W.sub (zc 9 rfl (zc 8 rfl (zc 7 rfl (zc 1 rfl (zc 2 rfl zzn))))) (zr (zq (Q.loadN rfl (zt 0 rfl) ag47 sz47 (l := [_, _, _, _, _, _, _, _, _, _, _]) rfl) (zm rfl (zm rfl (WO.call0 rfl (oLs_cons rfl (oLs_cons rfl (oLs_cons rfl oLs_nil))) rfl (bin_spec hs hro U vu hU hUB V v hV hB kd nn rg off md sd2 (tnB op) (tn_bytes ho) true mt kids hmt hkds N vn hN hNb) (SubR.tl (SubR.tl (SubR.appl (SubR.self hro)))) rfl (fun v73 D73 hP73 => ?_)))))))))))))
   obtain ⟨e73, W73, w73, hR73, hO73, rfl⟩ := hP73
   have hl73 := hO73.ebd.1
   refine WO.subH (hs' := _ :: _ :: (hs ++ D66 ++ D73)) (SubH.of_perm (perm_tail (N := []) (G := D73) (K := [_, _]) (X := hs ++ D66))) (zm rfl (zq (Q.extract rfl rfl) (zq (Q.extract rfl rfl) (za rfl (za rfl (zk (W.seq (zr (zm rfl (WO.callV rfl (oLs_cons rfl oLs_nil) rfl (vck_spec hs hro V _ hV hB) (SubR.tl (SubR.tl (SubR.appl (SubR.appl (SubR.self hro))))) rfl (zq (Q.bin rfl (zi 0) rfl (bv_neq ne_nat)) (zm rfl (WO.splitD (d := 79) rfl (fun hc79 => ?_) (fun hc79 => ?_))))))))))))))
   · have hz66 := p2_nil0 (bin_bad (Or.inl (by simpa using hc79)) hR66)
     have hz73 := p2_nil0 (bin_bad ((Or.inl (by simpa using hc79))).symm hR73)
     refine zg rfl rfl (zg rfl rfl (zg rfl rfl (zq (Q.pickT rfl rfl) (zk (W.sub (zc 83 rfl (zc 11 rfl (zc 10 rfl (zc 9 rfl (zc 8 rfl zzn))))) (W.condT rfl (zr (zm rfl (zq (Q.len ud22 rfl (EIn.len (VOwn.ein hO66))) (zq (Q.bin rfl (zi 0) rfl (bv_eql eq_nat)) (zm rfl (WO.splitD (d := 87) rfl (fun hc87 => ?_) (fun hc87 => ?_)))))))))))))
     · refine WO.gT rfl rfl (zm rfl (WO.gT rfl rfl (zq (Q.len ud22 rfl (EIn.len (VOwn.ein hO73))) (WO.gT rfl rfl (zq (Q.bin rfl (zi 0) rfl (bv_eql eq_nat)) (zq (Q.pickT rfl rfl) (zm rfl (WO.splitD (d := 92) rfl (fun hc92 => ?_) (fun hc92 => ?_)))))))))
       · refine WO.gT rfl rfl (WO.callV rfl oLs_nil rfl (Spec.known (fun _ => rfl)) SubR.nil rfl (zq (Q.pickT rfl rfl) (za rfl (zk (W.sub (zc 6 rfl zzn) (W.ret (End.K_ret (End.retV (z1 rfl) ?_))))))))
         rfl
       exact absurd hz73 (by simpa using hc92)
     exact absurd hz66 (by simpa using hc87)
   refine WO.gT rfl rfl (zm rfl (WO.gT rfl rfl (WO.callV rfl (oLs_cons rfl oLs_nil) rfl (vck_spec hs hro U _ hU hUB) (SubR.tl (SubR.tl (SubR.appl (SubR.appl (SubR.self hro))))) rfl (WO.gT rfl rfl (zq (Q.bin rfl (zi 0) rfl (bv_neq ne_nat)) (zq (Q.pickF rfl rfl) (zk (W.sub (zc 83 rfl (zc 11 rfl (zc 10 rfl (zc 9 rfl (zc 8 rfl zzn))))) (W.condDS rfl (fun hc83 => ?_) (fun hc83 => ?_))))))))))
   · have hz66 := p2_nil0 (bin_bad (Or.inr (by simpa using hc83)) hR66)
     have hz73 := p2_nil0 (bin_bad ((Or.inr (by simpa using hc83))).symm hR73)
     refine zr (zm rfl (zq (Q.len ud22 rfl (EIn.len (VOwn.ein hO66))) (zq (Q.bin rfl (zi 0) rfl (bv_eql eq_nat)) (zm rfl (WO.splitD (d := 87) rfl (fun hc87 => ?_) (fun hc87 => ?_))))))
     · refine WO.gT rfl rfl (zm rfl (WO.gT rfl rfl (zq (Q.len ud22 rfl (EIn.len (VOwn.ein hO73))) (WO.gT rfl rfl (zq (Q.bin rfl (zi 0) rfl (bv_eql eq_nat)) (zq (Q.pickT rfl rfl) (zm rfl (WO.splitD (d := 92) rfl (fun hc92 => ?_) (fun hc92 => ?_)))))))))
       · refine WO.gT rfl rfl (WO.callV rfl oLs_nil rfl (Spec.known (fun _ => rfl)) SubR.nil rfl (zq (Q.pickT rfl rfl) (za rfl (zk (W.sub (zc 6 rfl zzn) (W.ret (End.K_ret (End.retV (z1 rfl) ?_))))))))
         rfl
       exact absurd hz73 (by simpa using hc92)
     exact absurd hz66 (by simpa using hc87)
   have hv0 : vchk V = 0 := (by simpa using hc79)
   have hu0 : vchk U = 0 := (by simpa using hc83)
   obtain ⟨hie, hiw⟩ := bin_turn hTn hv0 hu0 hs2 hR66 hR73
   refine zw (W.seq (zr (zm rfl (zq (Q.bin rfl (zi 0) rfl (bv_neq ne_nat)) (zm rfl (WO.splitD (d := 97) rfl (fun hc97 => ?_) (fun hc97 => ?_)))))))
   · refine zg rfl rfl (zg rfl rfl (zq (Q.pickT rfl rfl) (zk (W.condT rfl (zr (zm rfl (zq (Q.bin rfl (zi 0) rfl (bv_eql eq_nat)) (zm rfl (zq (Q.bin rfl (zi 0) rfl (bv_eql eq_nat)) (zq (Q.bin rfl rfl rfl (bv_beqB ud4)) (zm rfl (WO.split (d := 106) rfl (fun hc106 => ?_) (fun hc106 => ?_)))))))))))))
     · refine WO.gT rfl rfl (WO.callV rfl oLs_nil rfl (Spec.known (fun _ => rfl)) SubR.nil rfl (zq (Q.pickT rfl rfl) (za rfl (zk (W.sub (zc 6 rfl zzn) (W.ret (End.K_ret (End.retV (z1 rfl) ?_))))))))
       rfl
     (exfalso; by_cases k : e66 = 0 <;> simp_all)
   refine WO.gT rfl rfl (zm rfl (WO.gT rfl rfl (zq (Q.bin rfl (zi 0) rfl (bv_neq ne_nat)) (zq (Q.pickF rfl rfl) (zk (W.condDS rfl (fun hc100 => ?_) (fun hc100 => ?_)))))))
   · refine zr (zm rfl (zq (Q.bin rfl (zi 0) rfl (bv_eql eq_nat)) (zm rfl (zq (Q.bin rfl (zi 0) rfl (bv_eql eq_nat)) (zq (Q.bin rfl rfl rfl (bv_beqB ud4)) (zm rfl (WO.split (d := 106) rfl (fun hc106 => ?_) (fun hc106 => ?_))))))))
     · refine WO.gT rfl rfl (WO.callV rfl oLs_nil rfl (Spec.known (fun _ => rfl)) SubR.nil rfl (zq (Q.pickT rfl rfl) (za rfl (zk (W.sub (zc 6 rfl zzn) (W.ret (End.K_ret (End.retV (z1 rfl) ?_))))))))
       rfl
     (exfalso; by_cases k : e66 = 0 <;> simp_all)
   refine zw (zr (zm rfl (zm rfl (WO.callV rfl (oLs_cons rfl (oLs_cons rfl oLs_nil)) rfl (vsame_spec (ro (D66 ++ D73) ++ hs) (ro_app hro) W66 W73 _ _ (hO66.ein.mono fun b o h => (MemH.ro_l h).appl) (hO73.ein.mono fun b o h => (MemH.ro_r h).appl) hO66.ebd hO73.ebd) (SubR.mix gc hro) rfl (zm rfl (WO.splitD (d := 112) rfl (fun hc112 => ?_) (fun hc112 => ?_)))))))
   · refine WO.gT rfl rfl (WO.callV rfl oLs_nil rfl (Spec.known (fun _ => rfl)) SubR.nil rfl (zq (Q.pickT rfl rfl) (za rfl (zk (W.sub (zc 6 rfl zzn) (W.ret (End.retV (z1 rfl) ?_)))))))
     rfl
   exact absurd (hiw (by simpa using hc97)) (by simpa using hc112)
 refine W.reg (zf fa47_1 rfl 1 (zq (Q.load1 rfl (zt 0 rfl) ag9 rfl) (zq (Q.bin rfl (oc (v := .str [45]) (by kernel_rfl)) rfl bv_seql) (zm rfl (WO.splitD (d := 15) rfl (fun hc15 => ?_) (fun hc15 => ?_))))))
 · refine zg rfl rfl (zg rfl rfl (zg rfl rfl (zq (Q.pickT rfl rfl) (zm rfl (zg rfl rfl (zg rfl rfl (zg rfl rfl (zq (Q.pickT rfl rfl) (zm rfl (zg rfl rfl (zg rfl rfl (zg rfl rfl (zq (Q.pickT rfl rfl) (zm rfl (zg rfl rfl (zg rfl rfl (zg rfl rfl (zq (Q.pickT rfl rfl) (zm rfl (zg rfl rfl (zg rfl rfl (zg rfl rfl (zq (Q.pickT rfl rfl) ?_)))))))))))))))))))))))
   refine zm rfl (zg rfl rfl (zg rfl rfl (zg rfl rfl (zq (Q.pickT rfl rfl) (zm rfl (zg rfl rfl (zg rfl rfl (zg rfl rfl (zq (Q.pickT rfl rfl) (WO.nil (End.K (W.sub zv (W.subH (by first | exact SubH.refl _ | exact SubH.of_sublist (List.sublist_cons_self _ _) | exact gc) (hJc49 (_) ?_))))))))))))))
   exact (by intro h; first | (simp_all; done) | (simp_all; omega))
 refine WO.gT rfl rfl (zf fa47_1 rfl 1 (WO.gT rfl rfl (zq (Q.load1 rfl (zt 0 rfl) ag9 rfl) (WO.gT rfl rfl (zq (Q.bin rfl (oc (v := .str [47]) (by kernel_rfl)) rfl bv_seql) (zq (Q.pickF rfl rfl) (zm rfl (WO.splitD (d := 20) rfl (fun hc20 => ?_) (fun hc20 => ?_)))))))))
 · refine zg rfl rfl (zg rfl rfl (zg rfl rfl (zq (Q.pickT rfl rfl) (zm rfl (zg rfl rfl (zg rfl rfl (zg rfl rfl (zq (Q.pickT rfl rfl) (zm rfl (zg rfl rfl (zg rfl rfl (zg rfl rfl (zq (Q.pickT rfl rfl) (zm rfl (zg rfl rfl (zg rfl rfl (zg rfl rfl (zq (Q.pickT rfl rfl) (zm rfl (zg rfl rfl (zg rfl rfl (zg rfl rfl (zq (Q.pickT rfl rfl) ?_)))))))))))))))))))))))
   refine zm rfl (zg rfl rfl (zg rfl rfl (zg rfl rfl (zq (Q.pickT rfl rfl) (WO.nil (End.K (W.sub zv (W.subH (by first | exact SubH.refl _ | exact SubH.of_sublist (List.sublist_cons_self _ _) | exact gc) (hJc49 (_) ?_)))))))))
   exact (by intro h; first | (simp_all; done) | (simp_all; omega))
 refine WO.gT rfl rfl (zf fa47_1 rfl 1 (WO.gT rfl rfl (zq (Q.load1 rfl (zt 0 rfl) ag9 rfl) (WO.gT rfl rfl (zq (Q.bin rfl (oc (v := .str [37]) (by kernel_rfl)) rfl bv_seql) (zq (Q.pickF rfl rfl) (zm rfl (WO.splitD (d := 25) rfl (fun hc25 => ?_) (fun hc25 => ?_)))))))))
 · refine zg rfl rfl (zg rfl rfl (zg rfl rfl (zq (Q.pickT rfl rfl) (zm rfl (zg rfl rfl (zg rfl rfl (zg rfl rfl (zq (Q.pickT rfl rfl) (zm rfl (zg rfl rfl (zg rfl rfl (zg rfl rfl (zq (Q.pickT rfl rfl) (zm rfl (zg rfl rfl (zg rfl rfl (zg rfl rfl (zq (Q.pickT rfl rfl) (zm rfl (zg rfl rfl (zg rfl rfl (zg rfl rfl (zq (Q.pickT rfl rfl) ?_)))))))))))))))))))))))
   refine WO.nil (End.K (W.sub zv (W.subH (by first | exact SubH.refl _ | exact SubH.of_sublist (List.sublist_cons_self _ _) | exact gc) (hJc49 (_) ?_))))
   exact (by intro h; first | (simp_all; done) | (simp_all; omega))
 refine WO.gT rfl rfl (zf fa47_1 rfl 1 (WO.gT rfl rfl (zq (Q.load1 rfl (zt 0 rfl) ag9 rfl) (WO.gT rfl rfl (zq (Q.bin rfl (oc (v := .str [97, 110, 100]) (by kernel_rfl)) rfl bv_seql) (zq (Q.pickF rfl rfl) (zm rfl (WO.splitD (d := 30) rfl (fun hc30 => ?_) (fun hc30 => ?_)))))))))
 · refine zg rfl rfl (zg rfl rfl (zg rfl rfl (zq (Q.pickT rfl rfl) (zm rfl (zg rfl rfl (zg rfl rfl (zg rfl rfl (zq (Q.pickT rfl rfl) (zm rfl (zg rfl rfl (zg rfl rfl (zg rfl rfl (zq (Q.pickT rfl rfl) (zm rfl (zg rfl rfl (zg rfl rfl (zg rfl rfl (zq (Q.pickT rfl rfl) (WO.nil (End.K (W.sub zv (W.subH (by first | exact SubH.refl _ | exact SubH.of_sublist (List.sublist_cons_self _ _) | exact gc) (hJc49 (_) ?_)))))))))))))))))))))))
   exact (by intro h; first | (simp_all; done) | (simp_all; omega))
 refine WO.gT rfl rfl (zf fa47_1 rfl 1 (WO.gT rfl rfl (zq (Q.load1 rfl (zt 0 rfl) ag9 rfl) (WO.gT rfl rfl (zq (Q.bin rfl (oc (v := .str [111, 114]) (by kernel_rfl)) rfl bv_seql) (zq (Q.pickF rfl rfl) (zm rfl (WO.splitD (d := 35) rfl (fun hc35 => ?_) (fun hc35 => ?_)))))))))
 · refine zg rfl rfl (zg rfl rfl (zg rfl rfl (zq (Q.pickT rfl rfl) (zm rfl (zg rfl rfl (zg rfl rfl (zg rfl rfl (zq (Q.pickT rfl rfl) (zm rfl (zg rfl rfl (zg rfl rfl (zg rfl rfl (zq (Q.pickT rfl rfl) (WO.nil (End.K (W.sub zv (W.subH (by first | exact SubH.refl _ | exact SubH.of_sublist (List.sublist_cons_self _ _) | exact gc) (hJc49 (_) ?_))))))))))))))))))
   exact (by intro h; first | (simp_all; done) | (simp_all; omega))
 refine WO.gT rfl rfl (zf fa47_1 rfl 1 (WO.gT rfl rfl (zq (Q.load1 rfl (zt 0 rfl) ag9 rfl) (WO.gT rfl rfl (zq (Q.bin rfl (oc (v := .str [117, 110, 108, 101, 115, 115]) (by kernel_rfl)) rfl bv_seql) (zq (Q.pickF rfl rfl) (zm rfl (WO.splitD (d := 40) rfl (fun hc40 => ?_) (fun hc40 => ?_)))))))))
 · refine zg rfl rfl (zg rfl rfl (zg rfl rfl (zq (Q.pickT rfl rfl) (zm rfl (zg rfl rfl (zg rfl rfl (zg rfl rfl (zq (Q.pickT rfl rfl) (WO.nil (End.K (W.sub zv (W.subH (by first | exact SubH.refl _ | exact SubH.of_sublist (List.sublist_cons_self _ _) | exact gc) (hJc49 (_) ?_)))))))))))))
   exact (by intro h; first | (simp_all; done) | (simp_all; omega))
 refine WO.gT rfl rfl (zf fa47_8 rfl 8 (WO.gT rfl rfl (zq (Q.load1 rfl (zt 0 rfl) ag3 rfl) (WO.gT rfl rfl (zq (Q.bin rfl (zi 0) rfl (bv_lss (ltA_eq _ _))) (zq (Q.pickF rfl rfl) (zm rfl (WO.splitD (d := 45) rfl (fun hc45 => ?_) (fun hc45 => ?_)))))))))
 · refine zg rfl rfl (zg rfl rfl (zg rfl rfl (zq (Q.pickT rfl rfl) (WO.nil (End.K (W.sub zv (W.subH (by first | exact SubH.refl _ | exact SubH.of_sublist (List.sublist_cons_self _ _) | exact gc) (hJc49 (_) ?_))))))))
   exact (by intro h; first | (simp_all; done) | (simp_all; omega))
 refine WO.gT rfl rfl (zf fa47_8 rfl 8 (WO.gT rfl rfl (zq (Q.load1 rfl (zt 0 rfl) ag3 rfl) (WO.gT rfl rfl (zq (Q.bin rfl (zi 2) rfl (bv_gtr (ltA_eq _ _))) (zq (Q.pickF rfl rfl) (WO.nil (End.K (W.sub zv (W.subH (by first | exact SubH.refl _ | exact SubH.of_sublist (List.sublist_cons_self _ _) | exact gc) (hJc49 (_) ?_)))))))))))
 exact (by intro h; first | (simp_all; done) | (simp_all; omega))
end Go.Proofs.YtmblgaehfjheeaaGreat.Ev
