/- Chapter 10, a walk: an index of sets of labels. -/
import Derived.Test.YtmblgaehfjheeaaGreatMYg
namespace Go.Proofs.YtmblgaehfjheeaaGreat.Ev
open Go.RowKit
set_option linter.unusedVariables false
set_option linter.unusedSimpArgs false
set_option maxRecDepth 100000
set_option maxHeartbeats 1000000
theorem key_ok {tb : Tab} {kt e : Nat} (hu : tb.und kt = some (.array 2 e)) (hs : tb.und e = some .string) (hz : tb.size e = some 1) (k : Lab) : keyOk tb (tb.und kt) (kA k) = true := by
  unfold keyOk kA
  simp only [hu, hs, hz]
  rfl
theorem ichk1_len {V : List El} {i : Nat} (h : ichk1 V i = 0) : (eg V i).2.1.length ≤ 8 := by
  unfold ichk1 at h
  split at h
  · rename_i g; exact absurd h g
  · rename_i g
    have g : lchk (eg V i).2.1 = 0 := Classical.not_not.1 g
    unfold lchk at g
    split at g
    · cases g
    · omega
theorem ck1 {v : AV} {o n : Nat} (h : v.isCell = true) (hle : Nat.ble (o + 1) n = true) : (Nat.beq v.cells.length 1 && Nat.ble (o + 1) n && v.cells.all AV.isCell) = true := by
  rw [cells_cell h, hle]; simp [h]
theorem lay1 {a v : AV} {b : List AV} (h : v.isCell = true) : layL (a :: b) 0 v.cells = v :: b := by
  rw [cells_cell h]; simp [layL]
theorem gcs {a c : HSt} (h : ∀ x, a.count x ≤ c.count x := by intro x; simp only [List.length_set, List.length_append, List.length_cons, List.length_nil, Nat.zero_add, List.append_eq, List.cons_append, List.nil_append, List.append_nil, List.append_assoc, List.count_append, List.count_cons, List.count_nil]; omega) : SubH a c := SubH.of_count h
theorem new_spec (hs : HSt) (hro : ∀ e ∈ hs, e.w = false) (V : List El) (v : AV) (hT : TIn hs V v) (hB : EBd V) : Spec tab 72 [v] [] hs (ValE (fun u => ∃ p, u = .tuple [p, .int .i64 ((ichk V : Nat) : Int)])) := by
 have hBl := hB.1
 refine Spec.enter' (ft_get 72 Tryz.func72) rfl (m := 77) rfl (rs := [.tmp 2, .tmp 3]) rfl (st := [(0, v)]) rfl rfl (fun _ => rfl) (fun E => zr (za rfl (za (zi 0) (zk (W.seq (zr (zm rfl (zq (Q.len ud90 rfl (TIn.len hT)) (zq (Q.bin rfl (zi 256) rfl (bv_gtr lt_nat)) (zk (W.condDS rfl (fun hc13 => ?_) (fun hc13 => ?_))))))))))))
 · refine zr (za rfl (za (zi 3) (zk (W.ret (End.K_ret (End.retE (ResL.tmp rfl (z1 rfl)) (⟨.nilp, ?_⟩)))))))
   show AV.tuple _ = _; rw [ichk_big (by omega)]
 refine zw (zr (WO.makeMap mt128 rfl (fun mb => zq (Q.build pl130 (oPs_cons rfl oPs_nil) rfl (cs := [_, _]) rfl) (WO.box rfl rfl (bx130 _ rfl) rfl (fun xb => za rfl (zk (W.seq (zr (zm rfl (zq (Q.len ud90 rfl (TIn.len hT)) (zq (Q.move (zi 0)) (zk (W.block (W.loop_ind6 (fun (i : Nat) (cs : List AV) (sv : AV) (hp : HSt) (M : List Me) (PD : HSt) => [(0, v), (4, .ptr xb 0), (17, v), (18, .int .i64 ((V.length : Nat) : Int)), (19, .int .i64 ((i : Nat) : Int))]) (fun (i : Nat) (cs : List AV) (sv : AV) (hp : HSt) (M : List Me) (PD : HSt) => ⟨xb, ⟨2, true, [sv, .map mb]⟩, true⟩ :: ⟨mb, ⟨M.length, true, mapC 0 M⟩, true⟩ :: ((hs ++ hp) ++ PD)) (fun (i : Nat) (cs : List AV) (sv : AV) (hp : HSt) (M : List Me) (PD : HSt) => i ≤ V.length ∧ V.length ≤ 256 ∧ ichk V = fstE (ichk1 V) (V.length - i) i ∧ OwnE 1 cs cs.length sv hp ∧ cs.length = i ∧ MB (8 * i) M PD) (fun (i : Nat) (cs : List AV) (sv : AV) (hp : HSt) (M : List Me) (PD : HSt) => V.length - i) (0) ([]) (.nils) ([]) ([]) ([]) ⟨Nat.zero_le _, by omega, ichk_go (by omega), OwnE.nil 1, rfl, rfl⟩ zv (by rw [List.append_nil, List.append_nil]; exact SubH.refl _) (fun i cs sv hp M PD hI0 ih0 => ?_)))))))))))))))
 obtain ⟨h1, h256, h3, hO, hcs, hMB⟩ := hI0
 refine zr (zq (Q.bin rfl rfl rfl (bv_lss lt_nat)) (zk (W.seq (W.condDS rfl (fun hc20 => ?_) (fun hc20 => ?_)))))
 · obtain ⟨bt, szt, ext, rfl, wt, mt⟩ := TIn.full hT (by omega)
   refine zw (W.seq (W.block (zr (zm rfl (zq (Q.iaddrS ud90 sz33 rfl rfl zo) (zq (Q.load1 rfl (List.mem_cons_of_mem _ (List.mem_cons_of_mem _ (List.mem_append_left _ (List.mem_append_left _ mt)))) ag33 (cT_at zo)) (za rfl (za rfl (zk (W.seq (zr (zm rfl (WO.callV rfl (oLs_cons rfl oLs_nil) rfl (lchk_spec hs hro _ _ (hT.at zo) (hB.at zo).1) (SubR.tl (SubR.tl (SubR.appl (SubR.appl (SubR.self hro))))) rfl (za rfl (zk (zr (zm rfl (zq (Q.bin rfl (zi 0) rfl (bv_neq ne_nat)) (zk (W.condDS rfl (fun hc27 => ?_) (fun hc27 => ?_)))))))))))))))))))))
   · refine zr (zm rfl (za rfl (za rfl (zk (W.sub (zc 3 rfl (zc 2 rfl zzn)) (W.ret (End.K_ret (End.KB_ret (End.K_ret (End.KL_ret (End.KB_ret (End.K_ret (End.retE (ResL.tmp rfl (z1 rfl)) (⟨.nilp, ?_⟩))))))))))))))
     show AV.tuple _ = _; rw [h3, fst_hit (e := lchk (eg V i).2.1) (by omega) (by unfold ichk1; simp_all <;> omega) (by omega)]
   refine zw (W.seqK1 (fun (q : Unit) => [(0, .slice bt 0 V.length 1), (4, .ptr xb 0), (5, .int .i64 ((i : Nat) : Int)), (6, (eg V i).1), (17, .slice bt 0 V.length 1), (18, .int .i64 ((V.length : Nat) : Int)), (19, .int .i64 ((i : Nat) : Int))]) (fun (q : Unit) => ichk1 V i = 0) (fun q hI12 => ?_) (fun hJ12 => ?_))
   · refine W.seq (W.regD 9 [⟨xb, _, false⟩] (by kernel_rfl) (KIn.cons (zt 0 rfl) KIn.nil) (WD.q (Q.move rfl) bq_ptr rfl (WD.q (Q.move rfl) bq_ptr rfl (WD.q (Q.nilP rfl) bq_ptr rfl (WD.q (Q.fieldAddr fa130_0 rfl (o' := 0) rfl) bq_ptr rfl (WD.q (Q.load1 rfl (zt 0 rfl) ag90 rfl) (OwnE.bq hO) rfl (WD.q (Q.move rfl) (LIn.bq (hT.at zo)) rfl (WD.call0 rfl (oLs_cons rfl oLs_nil) rfl (clone_spec hs hro _ _ (hT.at zo) (hB.at zo).1) (SubR.tl (SubR.tl (SubR.appl (SubR.appl (SubR.self hro))))) (KIn.cons (zt 0 rfl) KIn.nil) rfl (fun v47 D47 hP47 => WD.subH (hs' := _ :: _ :: (hs ++ PD ++ D47 ++ hp)) (SubH.of_perm (perm_tailO (N := []) (G := D47) (K := [_, _]) (X := hs ++ hp ++ PD) (by simp only [List.append_assoc, List.nil_append]; exact List.perm_iff_count.2 (by intro z; simp only [List.append_eq, List.count_append, List.count_nil]; omega)))) (WD.bslice ud90 sz33 zr33 rfl (oPs_cons rfl oPs_nil) rfl (cs := [_]) (fillE1 (OwnE.cell hP47)) (and_tt (OwnE.cell hP47) rfl) rfl (KIn.cons (zt 0 rfl) KIn.nil) (fun b2 => WD.appAny (A := ([_, _] ++ hs ++ PD ++ D47)) ap90_90 hO rfl rfl (Src.slice (zt 0 rfl) rfl) rfl zo (by decide) (SubH.of_sublist (List.sublist_cons_self _ _)) rfl (KIn.cons (zt 0 rfl) KIn.nil) (fun v49 hp49 hO49 => WD.q (Q.nilP rfl) bq_ptr rfl (WD.q (Q.fieldAddr fa130_0 rfl (o' := 0) rfl) bq_ptr rfl (WD.store sz90 rfl rfl (j := 0) rfl (ck1 (OwnE.cell hO49) rfl) (cs := [_, _]) (lay1 (OwnE.cell hO49)) (hs' := _ :: _ :: _) rfl (fun h => by cases h) (WD.nil (End.K (zr (zm rfl (zq (Q.len ud33 rfl (LIn.len (hT.at zo))) (zq (Q.move (zi 0)) (zk (W.block (W.loop_ind3 (fun (k : Nat) (M : List Me) (PD : HSt) => [(0, .slice bt 0 V.length 1), (4, .ptr xb 0), (5, .int .i64 ((i : Nat) : Int)), (17, .slice bt 0 V.length 1), (18, .int .i64 ((V.length : Nat) : Int)), (19, .int .i64 ((i : Nat) : Int)), (52, (eg V i).1), (53, .int .i64 (((eg V i).2.1.length : Nat) : Int)), (54, .int .i64 ((k : Nat) : Int))]) (fun (k : Nat) (M : List Me) (PD : HSt) => ⟨xb, ⟨2, true, [v49, .map mb]⟩, true⟩ :: ⟨mb, ⟨M.length, true, mapC 0 M⟩, true⟩ :: ((hs ++ hp49) ++ PD)) (fun (k : Nat) (M : List Me) (PD : HSt) => k ≤ (eg V i).2.1.length ∧ MB (8 * i + k) M PD) (fun (k : Nat) (M : List Me) (PD : HSt) => (eg V i).2.1.length - k) (0) (M) (PD) ⟨Nat.zero_le _, hMB.mono (by omega)⟩ zv gcs (fun k M PD hI1 ih1 => ?_))))))))))))))))))))))))
     obtain ⟨hk, hMB⟩ := hI1
     refine zr (zq (Q.bin rfl rfl rfl (bv_lss lt_nat)) (zk (W.seq (W.condDS rfl (fun hc55 => ?_) (fun hc55 => ?_)))))
     · obtain ⟨ba, sza, exa, hva, wa, ma⟩ := LIn.full (hT.at (i := i) (by omega)) (by omega)
       rw [hva]
       have hAi := (hB.at (i := i) (by omega)).1
       have hAil := hAi.1
       refine zw (W.seq (W.block (zr (zq (Q.iaddrS ud33 sz68 rfl rfl zo) (zq (Q.loadN rfl (List.mem_cons_of_mem _ (List.mem_cons_of_mem _ (List.mem_append_left _ (List.mem_append_left _ ma)))) ag68 sz68 (cL_at zo)) (WO.alloc ao68 rfl (fun b3 => WO.store sz68 rfl rfl (i := 0) rfl rfl (cs := [_, _]) rfl (hs' := _ :: _ :: _ :: _) rfl (zk (zr (zf fa68_0 rfl 0 (zq (Q.load1 rfl (zt 0 rfl) ag9 rfl) (zf fa68_1 rfl 1 (zq (Q.load1 rfl (zt 0 rfl) ag9 rfl) (zq (Q.build pl132 (oPs_cons rfl (oPs_cons rfl oPs_nil)) rfl (cs := [_, _]) rfl) (WO.alloc ao132 rfl (fun b4 => WO.store sz132 rfl rfl (i := 0) rfl rfl (cs := [_, _]) rfl (hs' := _ :: _ :: _ :: _ :: _) rfl (zk (W.regD 11 [⟨b4, _, false⟩, ⟨xb, _, false⟩] (by kernel_rfl) (KIn.cons (zt 0 rfl) (KIn.cons (zt 2 rfl) KIn.nil)) (WD.q (Q.move rfl) bq_ptr rfl (WD.q (Q.nilP rfl) bq_ptr rfl (WD.q (Q.fieldAddr fa130_1 rfl (o' := 1) rfl) bq_ptr rfl (WD.q (Q.load1 rfl (zt 1 rfl) ag128 rfl) (by simp [AV.beq, beq1, beq0, beqL]) rfl (WD.q (Q.loadN rfl (zt 0 rfl) ag132 sz132 (l := [_, _]) rfl) (by simp [AV.beq, beq1, beq0, beqL]) rfl ?_)))))))))))))))))))))))
       refine WD.q (Q.move rfl) bq_int rfl (WD.bslice ud89 sz3 zr3 rfl (oPs_cons rfl oPs_nil) rfl (cs := [_]) rfl rfl rfl (KIn.cons (zt 0 rfl) (KIn.cons (zt 2 rfl) KIn.nil)) (fun b5 => ?_))
       rcases map_find (key_eq ud132 sz9 ud9 ag9) (lg (eg V i).2.1 k) M 0 0 with ⟨hfn, hnew⟩ | ⟨j, vj, hj, hfj⟩
       · refine WD.entryN mt128 rfl rfl (i := 4) rfl (key_ok ud132 ud9 sz9 (lg (eg V i).2.1 k)) zr89 hfn (mapC_push M _ _) (hs' := _ :: _ :: _ :: _ :: _ :: _) rfl rfl (KIn.cons (zt 1 rfl) (KIn.cons (zt 3 rfl) KIn.nil)) (WD.q (Q.extract rfl rfl) (by simp [AV.beq, beq1, beq0, beqL]) rfl (WD.appAny (A := _) ap89_89 (OwnE.nil 1) rfl rfl (Src.slice (zt 0 rfl) rfl) rfl zo (by decide) app_nil_sub1 rfl (KIn.cons (zt 0 rfl) (KIn.cons (zt 2 rfl) KIn.nil)) (fun v72 hp72 hO72 => WD.q (Q.extract rfl rfl) bq_int rfl (WD.entryPut rfl rfl rfl (i := 3) rfl map_newB map_new (hs' := _ :: _ :: _ :: _ :: _) rfl (fun h => by cases h) (WD.nil (End.KB (End.K (W.sub (zc 0 rfl (zc 4 rfl (zc 5 rfl (zc 17 rfl (zc 18 rfl (zc 19 rfl (zc 52 rfl (zc 53 rfl (zc 54 rfl zzn))))))))) (W.reg (zq (Q.bin rfl (zi 1) rfl zp) (zm rfl (WO.nil (End.KL (W.sub (zd rfl (zd rfl (zd rfl (zd rfl (zd rfl (zd rfl (SubS.cons (by rw [hva]; rfl) zv))))))) (W.subH gcs (ih1 (k + 1) (M ++ [(lg (eg V i).2.1 k, v72)]) (PD ++ hp72) ?_ ?_))))))))))))))))
         · exact ⟨by omega, MB.push (by omega) hO72 (by omega) hMB⟩
         exact (by omega)
       rw [Nat.zero_add] at hfj
       obtain ⟨h0j, h1j, h2j⟩ := mapC_get M 0 j _ hj
       obtain ⟨PA, csj, lj, hpj, PB, rfl, hOj, hlj, hset⟩ := MB.at hMB hj
       refine WD.subH (hs' := _ :: _ :: _ :: _ :: _ :: (hs ++ hp49 ++ PA ++ PB ++ hpj)) (SubH.of_perm (List.Perm.append_left [_, _, _, _, _] (List.perm_iff_count.2 (by intro z; simp only [List.append_eq, List.count_append, List.count_nil]; omega)))) (WD.entryS mt128 rfl rfl (i := 4) rfl (key_ok ud132 ud9 sz9 (lg (eg V i).2.1 k)) zr89 hfj h0j (kA_beq _) h1j h2j rfl (KIn.cons (zt 1 rfl) (KIn.cons (zt 3 rfl) KIn.nil)) (WD.q (Q.extract rfl rfl) (OwnE.bq hOj) rfl (WD.appAny (A := ([_, _, _, _] ++ hs ++ hp49 ++ PA ++ PB)) ap89_89 hOj rfl rfl (Src.slice (zt 0 rfl) rfl) rfl zo (by decide) (SubH.of_sublist (List.sublist_cons_self _ _)) rfl (KIn.cons (zt 0 rfl) (KIn.cons (zt 2 rfl) KIn.nil)) (fun v72 hp72 hO72 => WD.q (Q.extract rfl rfl) bq_int rfl (WD.entryPut rfl rfl rfl (i := 3) rfl (map_oldB hj) (mapC_set M 0 j _ _ hj) (hs' := _ :: _ :: _ :: _ :: _) rfl (fun h => by cases h) (WD.nil (End.KB (End.K (W.sub (zc 0 rfl (zc 4 rfl (zc 5 rfl (zc 17 rfl (zc 18 rfl (zc 19 rfl (zc 52 rfl (zc 53 rfl (zc 54 rfl zzn))))))))) (W.reg (zq (Q.bin rfl (zi 1) rfl zp) (zm rfl (WO.nil (End.KL (W.sub (zd rfl (zd rfl (zd rfl (zd rfl (zd rfl (zd rfl (SubS.cons (by rw [hva]; rfl) zv))))))) (W.subH gcs (ih1 (k + 1) (M.set j (lg (eg V i).2.1 k, v72)) (PA ++ (hp72 ++ PB)) ?_ ?_)))))))))))))))))
       · exact ⟨by omega, hset _ v72 _ _ hp72 (by omega) hO72 (by omega)⟩
       exact (by omega)
     refine W.exit (End.K_exit (End.KL_exit (End.KB_hit (End.KB (End.K (W.reg (zq (Q.bin rfl (zi 1) rfl zp) (zm rfl (WO.nil (End.KL (W.sub zv (W.subH gcs (ih0 (i + 1) (cs ++ [v47]) (v49) (hp49) (M) (PD) ?_ ?_)))))))))))))
     · exact ⟨by omega, h256, by rw [h3, fst_next (by omega) hI12], by rw [List.length_append]; exact hO49, by rw [List.length_append, hcs]; rfl, hMB.mono (by have := ichk1_len hI12; omega)⟩
     exact zo
   refine zr (zm rfl (zq (Q.bin rfl (zi 0) rfl (bv_gtr lt_nat)) (zm rfl (WO.splitD (d := 31) rfl (fun hc31 => ?_) (fun hc31 => ?_)))))
   · refine WO.gT rfl rfl (zm rfl (WO.gT rfl rfl (zm rfl (WO.gT rfl rfl (zq (Q.bin rfl (zi 1) rfl (bv_sub (wn_sub zo))) (WO.gT rfl rfl (zq (Q.iaddrS ud90 sz33 rfl rfl zo) (WO.gT rfl rfl (zq (Q.load1 rfl (List.mem_cons_of_mem _ (List.mem_cons_of_mem _ (List.mem_append_left _ (List.mem_append_left _ mt)))) ag33 (cT_at zo)) (WO.gT rfl rfl (zm rfl (WO.gT rfl rfl (WO.callV rfl (oLs_cons rfl (oLs_cons rfl oLs_nil)) rfl (cmp_spec hs hro _ _ _ _ (hT.at zo) (hT.at zo) (hB.at zo).1 (hB.at zo).1) (SubR.tl (SubR.tl (SubR.appl (SubR.appl (SubR.self hro))))) rfl (WO.gT rfl rfl (zq (Q.bin rfl (zi 0) rfl (bv_geq le_int)) (zq (Q.pickT rfl rfl) (zk (W.sub (zc 40 rfl (zc 6 rfl (zc 5 rfl (zc 0 rfl (zc 4 rfl (zc 17 rfl (zc 18 rfl (zc 19 rfl zzn)))))))) (W.condDS rfl (fun hc40 => ?_) (fun hc40 => ?_))))))))))))))))))))
     · refine zr (za rfl (za (zi 13) (zk (W.ret (End.K_ret (End.KB_ret (End.K_ret (End.KL_ret (End.KB_ret (End.K_ret (End.retE (ResL.tmp rfl (z1 rfl)) (⟨.nilp, ?_⟩))))))))))))
       show AV.tuple _ = _; rw [h3, fst_hit (e := 13) (by omega) (by unfold ichk1; simp_all <;> omega) (by decide)]
     refine W.skip (End.K (W.sub zv (hJ12 (()) ?_)))
     exact (by unfold ichk1; simp_all <;> omega)
   refine zg rfl rfl (zg rfl rfl (zg rfl rfl (zg rfl rfl (zg rfl rfl (zg rfl rfl (zg rfl rfl (zg rfl rfl (zq (Q.pickF rfl rfl) (zk (W.sub (zc 40 rfl (zc 6 rfl (zc 5 rfl (zc 0 rfl (zc 4 rfl (zc 17 rfl (zc 18 rfl (zc 19 rfl zzn)))))))) (W.condF rfl (W.skip (End.K (W.sub zv (hJ12 (()) ?_)))))))))))))))
   exact (by unfold ichk1; simp_all <;> omega)
 refine W.exit (End.K_exit (End.KL_exit (End.KB_hit (End.K (zr (zm rfl (za rfl (za (zi 0) (zk (W.ret (End.retE (ResL.tmp rfl (z1 rfl)) (⟨.ptr xb 0, ?_⟩))))))))))))
 show AV.tuple _ = _; rw [h3, fst_done (by omega)]
theorem vck_spec (hs : HSt) (hro : ∀ e ∈ hs, e.w = false) (V : List El) (v : AV) (hV : EIn hs V v) (hB : EBd V) : Spec tab 23 [v] [] hs (Val (.int .i64 ((vchk V : Nat) : Int))) := by
 have hBl := hB.1
 refine Spec.enter' (ft_get 23 Tryz.func23) rfl (m := 33) rfl (rs := [.tmp 2]) rfl (st := [(0, v)]) rfl rfl (fun _ => rfl) (fun E => zr (za (zi 0) (zk (W.seq (zr (zm rfl (zq (Q.len ud22 rfl (EIn.len hV)) (zq (Q.bin rfl (zi 256) rfl (bv_gtr lt_nat)) (zk (W.condDS rfl (fun hc10 => ?_) (fun hc10 => ?_)))))))))))
 · refine zr (za (zi 3) (zk (W.ret (End.K_ret (End.retV (z1 rfl) ?_)))))
   show AV.int .i64 _ = _; rw [vchk_e (by rw [ichk_big (by omega)]; decide), ichk_big (by omega)]
 refine zw (zr (za rfl (zk (W.seq (zr (zm rfl (zq (Q.len ud22 rfl (EIn.len hV)) (zq (Q.move (zi 0)) (zk (W.block (W.loop_ind3 (fun (i : Nat) (u : AV) (hp : HSt) => [(0, v), (3, u), (11, v), (12, .int .i64 ((V.length : Nat) : Int)), (13, .int .i64 ((i : Nat) : Int))]) (fun (i : Nat) (u : AV) (hp : HSt) => (hs ++ hp)) (fun (i : Nat) (u : AV) (hp : HSt) => i ≤ V.length ∧ Own 1 ((V.take i).map (·.1)) (V.take i).length u hp) (fun (i : Nat) (u : AV) (hp : HSt) => V.length - i) (0) (.nils) ([]) ⟨Nat.zero_le _, Own.nil 1⟩ zv app_nil_sub (fun i u hp hI0 ih0 => ?_))))))))))))
 obtain ⟨h1, hO⟩ := hI0
 refine zr (zq (Q.bin rfl rfl rfl (bv_lss lt_nat)) (zk (W.seq (W.condDS rfl (fun hc14 => ?_) (fun hc14 => ?_)))))
 · obtain ⟨bv, szv, exv, rfl, wv, mv⟩ := EIn.full hV (by omega)
   refine zw (W.seq (W.block (zr (zq (Q.iaddrS ud22 sz35 rfl rfl zo) (zq (Q.loadN rfl (List.mem_append_left _ mv) ag35 sz35 (cE_at zo)) (WO.alloc ao35 rfl (fun b1 => WO.store sz35 rfl rfl (i := 0) rfl (and_tt rfl (and_tt (LIn.cell (hV.at (by omega))) rfl)) (cs := [_, _]) rfl (hs' := _ :: _) rfl (zk (W.reg (zm rfl (zf fa35_0 rfl 0 (zq (Q.load1 rfl (zt 0 rfl) ag33 rfl) (WO.bslice ud90 sz33 zr33 rfl (oPs_cons rfl oPs_nil) rfl (cs := [_]) (fillE1 (LIn.cell (hV.at (by omega)))) (and_tt (LIn.cell (hV.at (by omega))) rfl) rfl (fun b2 => WO.appOwn (e := ⟨b2, _, true⟩) (A := ([_] ++ hs)) ap90_90 hO rfl rfl rfl rfl ⟨by first | omega | (simp at * <;> omega), by first | omega | (simp at * <;> omega)⟩ (by decide) rfl rfl (fun v21 hp21 hO21 => za rfl (WO.nil (End.KB (End.K (W.reg (zq (Q.bin rfl (zi 1) rfl zp) (zm rfl (WO.nil (End.KL (W.sub zv (W.subH gc (ih0 (i + 1) (v21) (hp21) ?_ ?_))))))))))))))))))))))))))
   · exact ⟨by omega, by rw [take_el (by omega), List.map_append, List.length_append]; exact hO21⟩
   exact zo
 have ht : V.take i = V := List.take_of_length_le (by omega)
 rw [ht] at hO
 refine W.exit (End.K_exit (End.KL_exit (End.KB_hit (End.K (W.seq (zr (zm rfl (WO.callE rfl (oLs_cons rfl oLs_nil) rfl (new_spec (ro hp ++ hs) (ro_app hro) V u (TIn.own hO hV.2) hB) (sub_ro hro) rfl (fun v25 hP25 => ?_)))))))))
 obtain ⟨pn, rfl⟩ := hP25
 refine zm rfl (zq (Q.extract rfl rfl) (zq (Q.extract rfl rfl) (za rfl (za rfl (zk (zr (zm rfl (zq (Q.bin rfl (zi 0) rfl (bv_neq ne_nat)) (zk (W.condDS rfl (fun hc29 => ?_) (fun hc29 => ?_)))))))))))
 · refine zr (zm rfl (za rfl (zk (W.sub (zc 2 rfl zzn) (W.ret (End.K_ret (End.retV (z1 rfl) ?_)))))))
   show AV.int .i64 _ = _; rw [vchk_e (by simpa using hc29)]
 refine zw (W.sub (zc 0 rfl zzn) (W.seq (zr (zm rfl (WO.callV rfl (oLs_cons rfl (oLs_cons rfl oLs_nil)) rfl (ctf_spec hs hro V _ hV hB) (SubR.appl (SubR.self hro)) rfl (zk (W.condS rfl (fun hc32 => ?_) (fun hc32 => ?_))))))))
 · refine zr (za (zi 11) (zk (W.ret (End.K_ret (End.retV (z1 rfl) ?_)))))
   show AV.int .i64 _ = _; unfold vchk; rw [if_neg (by simpa using hc29)]; simp_all
 refine zw (zr (za (zi 0) (zk (W.ret (End.retV (z1 rfl) ?_)))))
 show AV.int .i64 _ = _; unfold vchk; rw [if_neg (by simpa using hc29)]; simp_all
theorem mm_minI {k : IntKind} {a b : Int} : minmaxA false (.int k a) [.int k b] = some (.int k (min a b)) := by
  unfold minmaxA
  simp only [Bool.false_eq_true, if_false, ltA_eq]
  unfold minmaxA
  by_cases h : b < a
  · have e : min a b = b := by omega
    simp only [h, decide_true, e]
  · have e : min a b = a := by omega
    simp only [h, decide_false, e]
theorem mm_maxI {k : IntKind} {a b : Int} : minmaxA true (.int k a) [.int k b] = some (.int k (max a b)) := by
  unfold minmaxA
  simp only [if_true, ltA_eq]
  unfold minmaxA
  by_cases h : a < b
  · have e : max a b = b := by omega
    simp only [h, decide_true, e]
  · have e : max a b = a := by omega
    simp only [h, decide_false, e]
def flM (v : Int) : Int := v - v % 1000000
theorem tdiv_m (v : Int) : (0 ≤ v → v.tdiv 1000000 = v / 1000000) ∧ (v < 0 → v.tdiv 1000000 = -((-v) / 1000000)) := by
  refine ⟨fun h => Int.tdiv_eq_ediv_of_nonneg h, fun h => ?_⟩
  have := Int.neg_tdiv (-v) 1000000
  rw [Int.neg_neg] at this
  rw [this, Int.tdiv_eq_ediv_of_nonneg (by omega)]
def oneM (op : List Nat) (v low high : Int) : Int :=
  if op = [110, 101, 103] then -v else if op = [97, 98, 115] then max v (-v) else if op = [99, 101, 105, 108] then -(flM (0 - v)) else if op = [102, 108, 111, 111, 114] then flM v else if op = [99, 108, 97, 109, 112] then min high (max low v) else 1000000 * min 1 (max (-1) v)
def opK (op : List Nat) : Prop := op = [110, 101, 103] ∨ op = [97, 98, 115] ∨ op = [99, 101, 105, 108] ∨ op = [102, 108, 111, 111, 114] ∨ op = [115, 103, 110] ∨ op = [99, 108, 97, 109, 112]
def PermOn {α : Type} (a b : Nat) (f g : Nat → α) : Prop := ∃ σ τ : Nat → Nat, (∀ i, σ (τ i) = i) ∧ (∀ i, τ (σ i) = i) ∧ (∀ i, ¬ (a ≤ i ∧ i < b) → σ i = i) ∧ ∀ i, g i = f (σ i)
theorem PermOn.refl {α : Type} (a b : Nat) (f : Nat → α) : PermOn a b f f := ⟨id, id, fun _ => rfl, fun _ => rfl, fun _ _ => rfl, fun _ => rfl⟩
theorem PermOn.trans {α : Type} {a b : Nat} {f g h : Nat → α} (p : PermOn a b f g) (q : PermOn a b g h) : PermOn a b f h := by
  obtain ⟨s, t, h1, h2, h3, h4⟩ := p
  obtain ⟨u, v, g1, g2, g3, g4⟩ := q
  refine ⟨fun i => s (u i), fun i => v (t i), fun i => by simp [g1, h1], fun i => by simp [h2, g2], fun i hi => ?_, fun i => by rw [g4, h4]⟩
  show s (u i) = i
  rw [g3 i hi, h3 i hi]
theorem PermOn.mono {α : Type} {a b a' b' : Nat} {f g : Nat → α} (ha : a' ≤ a) (hb : b ≤ b') (p : PermOn a b f g) : PermOn a' b' f g := by
  obtain ⟨s, t, h1, h2, h3, h4⟩ := p
  exact ⟨s, t, h1, h2, fun i hi => h3 i (fun h => hi ⟨by omega, by omega⟩), h4⟩
theorem PermOn.out {α : Type} {a b : Nat} {f g : Nat → α} (p : PermOn a b f g) {i : Nat} (hi : ¬ (a ≤ i ∧ i < b)) : g i = f i := by
  obtain ⟨s, t, h1, h2, h3, h4⟩ := p
  rw [h4, h3 i hi]
theorem perm_in {a b : Nat} {s t : Nat → Nat} (h1 : ∀ i, s (t i) = i) (h2 : ∀ i, t (s i) = i) (h3 : ∀ i, ¬ (a ≤ i ∧ i < b) → s i = i) {i : Nat} (hi : a ≤ i ∧ i < b) : a ≤ s i ∧ s i < b := by
  by_cases h : a ≤ s i ∧ s i < b
  · exact h
  · have e := h3 _ h
    have : t (s (s i)) = t (s i) := by rw [e]
    rw [h2, h2] at this
    rw [this]; exact hi
theorem PermOn.get {α : Type} {a b : Nat} {f g : Nat → α} (p : PermOn a b f g) {i : Nat} (hi : a ≤ i ∧ i < b) : ∃ j, (a ≤ j ∧ j < b) ∧ g i = f j := by
  obtain ⟨s, t, h1, h2, h3, h4⟩ := p
  exact ⟨s i, perm_in h1 h2 h3 hi, h4 i⟩
theorem PermOn.back {α : Type} {a b : Nat} {f g : Nat → α} (p : PermOn a b f g) {i : Nat} (hi : a ≤ i ∧ i < b) : ∃ j, (a ≤ j ∧ j < b) ∧ f i = g j := by
  obtain ⟨s, t, h1, h2, h3, h4⟩ := p
  have h3' : ∀ i, ¬ (a ≤ i ∧ i < b) → t i = i := fun i hi => by have := h2 i; rw [h3 i hi] at this; exact this
  exact ⟨t i, perm_in h2 h1 h3' hi, by rw [h4, h1]⟩
def sw {α : Type} (f : Nat → α) (i j : Nat) : Nat → α := fun x => if x = i then f j else if x = j then f i else f x
theorem PermOn.sw {α : Type} {a b : Nat} {f : Nat → α} {i j : Nat} (hi : a ≤ i ∧ i < b) (hj : a ≤ j ∧ j < b) : PermOn a b f (Ev.sw f i j) := by
  have hs : ∀ x, (fun x => if x = i then j else if x = j then i else x) ((fun x => if x = i then j else if x = j then i else x) x) = x := by
    intro x
    by_cases h1 : x = i
    · subst h1; simp
    · by_cases h2 : x = j
      · subst h2; simp [h1]
      · simp [h1, h2]
  refine ⟨fun x => if x = i then j else if x = j then i else x, fun x => if x = i then j else if x = j then i else x, hs, hs, fun x hx => ?_, fun x => ?_⟩
  · have h1 : x ≠ i := fun e => hx (e ▸ hi)
    have h2 : x ≠ j := fun e => hx (e ▸ hj)
    simp [h1, h2]
  · unfold Ev.sw
    by_cases h1 : x = i
    · simp [h1]
    · by_cases h2 : x = j
      · simp [h2]; split <;> rfl
      · simp [h1, h2]
def vF {α : Type} (raw : α → El) (f : Nat → α) (n : Nat) : List El := (List.range n).map fun i => raw (f i)
theorem vF_len {α : Type} (raw : α → El) (f : Nat → α) (n : Nat) : (vF raw f n).length = n := by simp [vF]
theorem vF_eg {α : Type} {raw : α → El} {f : Nat → α} {n i : Nat} (h : i < n) : eg (vF raw f n) i = raw (f i) := by
  unfold eg vF
  simp [List.getD_eq_getElem?_getD, h]
theorem vF_at {α : Type} {raw : α → El} {f : Nat → α} {n i : Nat} (h : i < n) : sub? (cE (vF raw f n)) ((0 + i) * 2) 2 = some [(raw (f i)).1, .int .i64 (raw (f i)).2.2] := by
  rw [cE_at (by rw [vF_len]; exact h), vF_eg h]
theorem vF_f0 {α : Type} {raw : α → El} {f : Nat → α} {n i : Nat} (h : i < n) : (cE (vF raw f n))[(0 + i) * 2 + 0]? = some (raw (f i)).1 := by
  rw [cE_f0 (by rw [vF_len]; exact h), vF_eg h]
theorem cE_lay : ∀ (V : List El) (i : Nat) (x : El), i < V.length → layL (cE V) (i * 2) [x.1, .int .i64 x.2.2] = cE (V.set i x)
  | y :: V, 0, x, _ => by simp [cE_cons, layL]
  | y :: V, i + 1, x, h => by
    have e : (i + 1) * 2 = i * 2 + 1 + 1 := by omega
    rw [e, cE_cons]
    simp only [layL, List.set_cons_succ, cE_cons, cE_lay V i x (by simpa using h)]
def upd {α : Type} (f : Nat → α) (i : Nat) (x : α) : Nat → α := fun k => if k = i then x else f k
theorem vF_set {α : Type} {raw : α → El} {f : Nat → α} {n i : Nat} {x : α} (h : i < n) : (vF raw f n).set i (raw x) = vF raw (upd f i x) n := by
  unfold vF upd
  apply List.ext_getElem?
  intro k
  rw [List.getElem?_set]
  by_cases e : i = k
  · subst e; simp [h]
  · rw [if_neg e]
    simp only [List.getElem?_map]
    by_cases hk : k < n
    · simp [List.getElem?_range hk, Ne.symm e]
    · have : (List.range n)[k]? = none := List.getElem?_eq_none (by simp; omega)
      simp only [this, Option.map_none]
theorem vF_lay {α : Type} {raw : α → El} {f : Nat → α} {n i : Nat} {x : α} (h : i < n) : layL (cE (vF raw f n)) ((0 + i) * 2) [(raw x).1, .int .i64 (raw x).2.2] = cE (vF raw (upd f i x) n) := by
  rw [Nat.zero_add, cE_lay _ _ _ (by rw [vF_len]; exact h), vF_set h]
theorem upd_sw {α : Type} {f : Nat → α} {i j : Nat} : upd (upd f i (f j)) j (f i) = sw f i j := by
  funext x
  unfold upd sw
  by_cases h1 : x = i
  · by_cases h2 : x = j
    · subst h1; subst h2; simp
    · simp [h1]
      intro h; exact absurd (h1.trans h) h2
  · simp [h1]
end Go.Proofs.YtmblgaehfjheeaaGreat.Ev
