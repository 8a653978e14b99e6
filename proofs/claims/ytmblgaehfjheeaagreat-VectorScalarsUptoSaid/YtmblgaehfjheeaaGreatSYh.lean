/- Chapter 10, a walk: an index of sets of labels. -/
import Derived.Test.YtmblgaehfjheeaaGreatSYg
namespace Go.Proofs.YtmblgaehfjheeaaGreat.Ev
open Go.RowKit
set_option linter.unusedVariables false
set_option linter.unusedSimpArgs false
set_option maxRecDepth 100000
set_option maxHeartbeats 1000000
theorem key_ok {tb : Tab} {kt e : Nat} (hu : tb.und kt = some (.array 2 e)) (hs : tb.und e = some .string) (hz : tb.size e = some 1) (k : Lab) : keyOk tb (tb.und kt) (kA k) = true := by
  unfold keyOk kA
  simp only [hu, hs, hz]
  rfl
theorem ichk1_len {V : List El} {i : Nat} (h : ichk1 V i = 0) : (eg V i).2.1.length ≤ 8 := by
  unfold ichk1 at h
  split at h
  · rename_i g; exact absurd h g
  · rename_i g
    have g : lchk (eg V i).2.1 = 0 := Classical.not_not.1 g
    unfold lchk at g
    split at g
    · cases g
    · omega
theorem ck1 {v : AV} {o n : Nat} (h : v.isCell = true) (hle : Nat.ble (o + 1) n = true) : (Nat.beq v.cells.length 1 && Nat.ble (o + 1) n && v.cells.all AV.isCell) = true := by
  rw [cells_cell h, hle]; simp [h]
theorem lay1 {a v : AV} {b : List AV} (h : v.isCell = true) : layL (a :: b) 0 v.cells = v :: b := by
  rw [cells_cell h]; simp [layL]
theorem gcs {a c : HSt} (h : ∀ x, a.count x ≤ c.count x := by intro x; simp only [List.length_set, List.length_append, List.length_cons, List.length_nil, Nat.zero_add, List.append_eq, List.cons_append, List.nil_append, List.append_nil, List.append_assoc, List.count_append, List.count_cons, List.count_nil]; omega) : SubH a c := SubH.of_count h
theorem new_spec (hs : HSt) (hro : ∀ e ∈ hs, e.w = false) (V : List El) (v : AV) (hT : TIn hs V v) (hB : EBd V) : Spec tab 72 [v] [] hs (ValE (fun u => ∃ p, u = .tuple [p, .int .i64 ((ichk V : Nat) : Int)])) := by
  have hBl := hB.1
  refine Spec.enter' (ft_get 72 Tryz.func72) rfl (m := 77) rfl (rs := [.tmp 2, .tmp 3]) rfl (st := [(0, v)]) rfl rfl (fun _ => rfl) (fun E => ?_)
  refine W.seq ?_
  refine W.reg ?_
  refine WO.q (Q.assign rfl) rfl ?_
  refine WO.q (Q.assign (oc (v := .int .i64 ((0 : Nat) : Int)) rfl)) rfl ?_
  refine WO.nil ?_
  refine End.K ?_
  refine W.seq ?_
  refine W.seq ?_
  refine W.reg ?_
  refine WO.q (Q.move rfl) rfl ?_
  refine WO.q (Q.len ud90 rfl (TIn.len hT)) rfl ?_
  refine WO.q (Q.bin rfl (oc (v := .int .i64 ((256 : Nat) : Int)) rfl) rfl (bv_gtr lt_nat)) rfl ?_
  refine WO.nil ?_
  refine End.K ?_
  refine W.condDS rfl (fun hc13 => ?_) (fun hc13 => ?_)
  · skip -- T
    refine W.seq ?_
    refine W.reg ?_
    refine WO.q (Q.assign rfl) rfl ?_
    refine WO.q (Q.assign (oc (v := .int .i64 ((3 : Nat) : Int)) rfl)) rfl ?_
    refine WO.nil ?_
    refine End.K ?_
    refine W.ret ?_
    refine End.K_ret (End.retE (ResL.tmp rfl (ResL.tmp rfl ResL.nil)) ?_)
    refine ⟨.nilp, ?_⟩; show AV.tuple _ = _; rw [ichk_big (by omega)]
  · skip -- F
    refine W.skip ?_
    refine End.K ?_
    refine W.seq ?_
    refine W.reg ?_
    refine WO.makeMap mt128 rfl (fun mb => ?_)
    refine WO.q (Q.build pl130 (oPs_cons rfl oPs_nil) rfl (cs := [_, _]) rfl) rfl ?_
    refine WO.box rfl rfl (bx130 _ rfl) rfl (fun xb => ?_)
    refine WO.q (Q.assign rfl) rfl ?_
    refine WO.nil ?_
    refine End.K ?_
    refine W.seq ?_
    refine W.seq ?_
    refine W.reg ?_
    refine WO.q (Q.move rfl) rfl ?_
    refine WO.q (Q.len ud90 rfl (TIn.len hT)) rfl ?_
    refine WO.q (Q.move (oc (v := .int .i64 ((0 : Nat) : Int)) rfl)) rfl ?_
    refine WO.nil ?_
    refine End.K ?_
    refine W.block ?_
    refine W.loop_ind6 (fun (i : Nat) (cs : List AV) (sv : AV) (hp : HSt) (M : List Me) (PD : HSt) => [(0, v), (4, .ptr xb 0), (17, v), (18, .int .i64 ((V.length : Nat) : Int)), (19, .int .i64 ((i : Nat) : Int))]) (fun (i : Nat) (cs : List AV) (sv : AV) (hp : HSt) (M : List Me) (PD : HSt) => ⟨xb, ⟨2, true, [sv, .map mb]⟩, true⟩ :: ⟨mb, ⟨M.length, true, mapC 0 M⟩, true⟩ :: ((hs ++ hp) ++ PD)) (fun (i : Nat) (cs : List AV) (sv : AV) (hp : HSt) (M : List Me) (PD : HSt) => i ≤ V.length ∧ V.length ≤ 256 ∧ ichk V = fstE (ichk1 V) (V.length - i) i ∧ OwnE 1 cs cs.length sv hp ∧ cs.length = i ∧ MB (8 * i) M PD) (fun (i : Nat) (cs : List AV) (sv : AV) (hp : HSt) (M : List Me) (PD : HSt) => V.length - i) (0) ([]) (.nils) ([]) ([]) ([]) ⟨Nat.zero_le _, by omega, ichk_go (by omega), OwnE.nil 1, rfl, rfl⟩ (SubS.cons rfl (SubS.cons rfl (SubS.cons rfl (SubS.cons rfl (SubS.cons rfl (SubS.nil _)))))) (by rw [List.append_nil, List.append_nil]; exact SubH.refl _) (fun i cs sv hp M PD hI0 ih0 => ?_)
    obtain ⟨h1, h256, h3, hO, hcs, hMB⟩ := hI0
    refine W.seq ?_
    refine W.reg ?_
    refine WO.q (Q.bin rfl rfl rfl (bv_lss lt_nat)) rfl ?_
    refine WO.nil ?_
    refine End.K ?_
    refine W.seq ?_
    refine W.condDS rfl (fun hc20 => ?_) (fun hc20 => ?_)
    · skip -- FL0T
      obtain ⟨bt, szt, ext, rfl, wt, mt⟩ := TIn.full hT (by omega)
      refine W.skip ?_
      refine End.K ?_
      refine W.seq ?_
      refine W.block ?_
      refine W.seq ?_
      refine W.reg ?_
      refine WO.q (Q.move rfl) rfl ?_
      refine WO.q (Q.iaddrS ud90 sz33 rfl rfl (by first | omega | (simp at * <;> omega))) rfl ?_
      refine WO.q (Q.load1 rfl (List.mem_cons_of_mem _ (List.mem_cons_of_mem _ (List.mem_append_left _ (List.mem_append_left _ mt)))) ag33 (cT_at (by first | omega | (simp at * <;> omega)))) rfl ?_
      refine WO.q (Q.assign rfl) rfl ?_
      refine WO.q (Q.assign rfl) rfl ?_
      refine WO.nil ?_
      refine End.K ?_
      refine W.seq ?_
      refine W.seq ?_
      refine W.reg ?_
      refine WO.q (Q.move rfl) rfl ?_
      refine WO.callV rfl (oLs_cons rfl oLs_nil) rfl (lchk_spec hs hro _ _ (hT.at (by first | omega | (simp at * <;> omega))) (hB.at (by first | omega | (simp at * <;> omega))).1) (SubR.tl (SubR.tl (SubR.appl (SubR.appl (SubR.self hro))))) rfl ?_
      refine WO.q (Q.assign rfl) rfl ?_
      refine WO.nil ?_
      refine End.K ?_
      refine W.seq ?_
      refine W.reg ?_
      refine WO.q (Q.move rfl) rfl ?_
      refine WO.q (Q.bin rfl (oc (v := .int .i64 ((0 : Nat) : Int)) rfl) rfl (bv_neq ne_nat)) rfl ?_
      refine WO.nil ?_
      refine End.K ?_
      refine W.condDS rfl (fun hc27 => ?_) (fun hc27 => ?_)
      · skip -- FL0TT
        refine W.seq ?_
        refine W.reg ?_
        refine WO.q (Q.move rfl) rfl ?_
        refine WO.q (Q.assign rfl) rfl ?_
        refine WO.q (Q.assign rfl) rfl ?_
        refine WO.nil ?_
        refine End.K ?_
        refine W.sub (SubS.cons (k := 3) rfl (SubS.cons (k := 2) rfl (SubS.nil _))) ?_
        refine W.ret ?_
        refine End.K_ret (End.KB_ret (End.K_ret (End.KL_ret (End.KB_ret (End.K_ret (End.retE (ResL.tmp rfl (ResL.tmp rfl ResL.nil)) ?_))))))
        refine ⟨.nilp, ?_⟩; show AV.tuple _ = _; rw [h3, fst_hit (e := lchk (eg V i).2.1) (by omega) (by unfold ichk1; simp_all <;> omega) (by omega)]
      · skip -- FL0TF
        refine W.skip ?_
        refine End.K ?_
        refine W.seqK1 (fun (q : Unit) => [(0, .slice bt 0 V.length 1), (4, .ptr xb 0), (5, .int .i64 ((i : Nat) : Int)), (6, (eg V i).1), (17, .slice bt 0 V.length 1), (18, .int .i64 ((V.length : Nat) : Int)), (19, .int .i64 ((i : Nat) : Int))]) (fun (q : Unit) => ichk1 V i = 0) (fun q hI12 => ?_) (fun hJ12 => ?_)
        · skip -- FL0TFJ12
          refine W.seq ?_
          refine W.regD 9 [⟨xb, _, false⟩] (by kernel_rfl) (KIn.cons (mem_at (i := 0) rfl) KIn.nil) ?_
          refine WD.q (Q.move rfl) bq_ptr rfl ?_
          refine WD.q (Q.move rfl) bq_ptr rfl ?_
          refine WD.q (Q.nilP rfl) bq_ptr rfl ?_
          refine WD.q (Q.fieldAddr fa130_0 rfl (o' := 0) rfl) bq_ptr rfl ?_
          refine WD.q (Q.load1 rfl (mem_at (i := 0) rfl) ag90 rfl) (OwnE.bq hO) rfl ?_
          refine WD.q (Q.move rfl) (LIn.bq (hT.at (by first | omega | (simp at * <;> omega)))) rfl ?_
          refine WD.call0 rfl (oLs_cons rfl oLs_nil) rfl (clone_spec hs hro _ _ (hT.at (by first | omega | (simp at * <;> omega))) (hB.at (by first | omega | (simp at * <;> omega))).1) (SubR.tl (SubR.tl (SubR.appl (SubR.appl (SubR.self hro))))) (KIn.cons (mem_at (i := 0) rfl) KIn.nil) rfl (fun v47 D47 hP47 => ?_)
          refine WD.subH (hs' := _ :: _ :: (hs ++ PD ++ D47 ++ hp)) (SubH.of_perm (perm_tailO (N := []) (G := D47) (K := [_, _]) (X := hs ++ hp ++ PD) (by simp only [List.append_assoc, List.nil_append]; exact List.perm_iff_count.2 (by intro z; simp only [List.append_eq, List.count_append, List.count_nil]; omega)))) ?_
          refine WD.bslice ud90 sz33 zr33 rfl (oPs_cons rfl oPs_nil) rfl (cs := [_]) (fillE1 (OwnE.cell hP47)) (and_tt (OwnE.cell hP47) rfl) rfl (KIn.cons (mem_at (i := 0) rfl) KIn.nil) (fun b2 => ?_)
          refine WD.appAny (A := ([_, _] ++ hs ++ PD ++ D47)) ap90_90 hO rfl rfl (Src.slice (mem_at (i := 0) rfl) rfl) rfl (by first | omega | (simp at * <;> omega)) (by decide) (SubH.of_sublist (List.sublist_cons_self _ _)) rfl (KIn.cons (mem_at (i := 0) rfl) KIn.nil) (fun v49 hp49 hO49 => ?_)
          refine WD.q (Q.nilP rfl) bq_ptr rfl ?_
          refine WD.q (Q.fieldAddr fa130_0 rfl (o' := 0) rfl) bq_ptr rfl ?_
          refine WD.store sz90 rfl rfl (j := 0) rfl (ck1 (OwnE.cell hO49) rfl) (cs := [_, _]) (lay1 (OwnE.cell hO49)) (hs' := _ :: _ :: _) rfl (fun h => by cases h) ?_
          refine WD.nil ?_
          refine End.K ?_
          refine W.seq ?_
          refine W.reg ?_
          refine WO.q (Q.move rfl) rfl ?_
          refine WO.q (Q.len ud33 rfl (LIn.len (hT.at (by first | omega | (simp at * <;> omega))))) rfl ?_
          refine WO.q (Q.move (oc (v := .int .i64 ((0 : Nat) : Int)) rfl)) rfl ?_
          refine WO.nil ?_
          refine End.K ?_
          refine W.block ?_
          refine W.loop_ind3 (fun (k : Nat) (M : List Me) (PD : HSt) => [(0, .slice bt 0 V.length 1), (4, .ptr xb 0), (5, .int .i64 ((i : Nat) : Int)), (17, .slice bt 0 V.length 1), (18, .int .i64 ((V.length : Nat) : Int)), (19, .int .i64 ((i : Nat) : Int)), (52, (eg V i).1), (53, .int .i64 (((eg V i).2.1.length : Nat) : Int)), (54, .int .i64 ((k : Nat) : Int))]) (fun (k : Nat) (M : List Me) (PD : HSt) => ⟨xb, ⟨2, true, [v49, .map mb]⟩, true⟩ :: ⟨mb, ⟨M.length, true, mapC 0 M⟩, true⟩ :: ((hs ++ hp49) ++ PD)) (fun (k : Nat) (M : List Me) (PD : HSt) => k ≤ (eg V i).2.1.length ∧ MB (8 * i + k) M PD) (fun (k : Nat) (M : List Me) (PD : HSt) => (eg V i).2.1.length - k) (0) (M) (PD) ⟨Nat.zero_le _, hMB.mono (by omega)⟩ (SubS.cons rfl (SubS.cons rfl (SubS.cons rfl (SubS.cons rfl (SubS.cons rfl (SubS.cons rfl (SubS.cons rfl (SubS.cons rfl (SubS.cons rfl (SubS.nil _)))))))))) gcs (fun k M PD hI1 ih1 => ?_)
          obtain ⟨hk, hMB⟩ := hI1
          refine W.seq ?_
          refine W.reg ?_
          refine WO.q (Q.bin rfl rfl rfl (bv_lss lt_nat)) rfl ?_
          refine WO.nil ?_
          refine End.K ?_
          refine W.seq ?_
          refine W.condDS rfl (fun hc55 => ?_) (fun hc55 => ?_)
          · skip -- FL0TFJ12L1T
            obtain ⟨ba, sza, exa, hva, wa, ma⟩ := LIn.full (hT.at (i := i) (by omega)) (by omega)
            rw [hva]
            have hAi := (hB.at (i := i) (by omega)).1
            have hAil := hAi.1
            refine W.skip ?_
            refine End.K ?_
            refine W.seq ?_
            refine W.block ?_
            refine W.seq ?_
            refine W.reg ?_
            refine WO.q (Q.iaddrS ud33 sz68 rfl rfl (by first | omega | (simp at * <;> omega))) rfl ?_
            refine WO.q (Q.loadN rfl (List.mem_cons_of_mem _ (List.mem_cons_of_mem _ (List.mem_append_left _ (List.mem_append_left _ ma)))) ag68 sz68 (cL_at (by first | omega | (simp at * <;> omega)))) rfl ?_
            refine WO.alloc ao68 rfl (fun b3 => ?_)
            refine WO.store sz68 rfl rfl (i := 0) rfl rfl (cs := [_, _]) rfl (hs' := _ :: _ :: _ :: _) rfl ?_
            refine WO.nil ?_
            refine End.K ?_
            refine W.seq ?_
            refine W.reg ?_
            refine WO.q (Q.fieldAddr fa68_0 rfl (o' := 0) rfl) rfl ?_
            refine WO.q (Q.load1 rfl (mem_at (i := 0) rfl) ag9 rfl) rfl ?_
            refine WO.q (Q.fieldAddr fa68_1 rfl (o' := 1) rfl) rfl ?_
            refine WO.q (Q.load1 rfl (mem_at (i := 0) rfl) ag9 rfl) rfl ?_
            refine WO.q (Q.build pl132 (oPs_cons rfl (oPs_cons rfl oPs_nil)) rfl (cs := [_, _]) rfl) rfl ?_
            refine WO.alloc ao132 rfl (fun b4 => ?_)
            refine WO.store sz132 rfl rfl (i := 0) rfl rfl (cs := [_, _]) rfl (hs' := _ :: _ :: _ :: _ :: _) rfl ?_
            refine WO.nil ?_
            refine End.K ?_
            refine W.regD 11 [⟨b4, _, false⟩, ⟨xb, _, false⟩] (by kernel_rfl) (KIn.cons (mem_at (i := 0) rfl) (KIn.cons (mem_at (i := 2) rfl) KIn.nil)) ?_
            refine WD.q (Q.move rfl) bq_ptr rfl ?_
            refine WD.q (Q.nilP rfl) bq_ptr rfl ?_
            refine WD.q (Q.fieldAddr fa130_1 rfl (o' := 1) rfl) bq_ptr rfl ?_
            refine WD.q (Q.load1 rfl (mem_at (i := 1) rfl) ag128 rfl) (by simp [AV.beq, beq1, beq0, beqL]) rfl ?_
            refine WD.q (Q.loadN rfl (mem_at (i := 0) rfl) ag132 sz132 (l := [_, _]) rfl) (by simp [AV.beq, beq1, beq0, beqL]) rfl ?_
            refine WD.q (Q.move rfl) bq_int rfl ?_
            refine WD.bslice ud89 sz3 zr3 rfl (oPs_cons rfl oPs_nil) rfl (cs := [_]) rfl rfl rfl (KIn.cons (mem_at (i := 0) rfl) (KIn.cons (mem_at (i := 2) rfl) KIn.nil)) (fun b5 => ?_)
            rcases map_find (key_eq ud132 sz9 ud9 ag9) (lg (eg V i).2.1 k) M 0 0 with ⟨hfn, hnew⟩ | ⟨j, vj, hj, hfj⟩
            · skip -- FL0TFJ12L1TN
              refine WD.entryN mt128 rfl rfl (i := 4) rfl (key_ok ud132 ud9 sz9 (lg (eg V i).2.1 k)) zr89 hfn (mapC_push M _ _) (hs' := _ :: _ :: _ :: _ :: _ :: _) rfl rfl (KIn.cons (mem_at (i := 1) rfl) (KIn.cons (mem_at (i := 3) rfl) KIn.nil)) ?_
              refine WD.q (Q.extract rfl rfl) (by simp [AV.beq, beq1, beq0, beqL]) rfl ?_
              refine WD.appAny (A := _) ap89_89 (OwnE.nil 1) rfl rfl (Src.slice (mem_at (i := 0) rfl) rfl) rfl (by first | omega | (simp at * <;> omega)) (by decide) app_nil_sub1 rfl (KIn.cons (mem_at (i := 0) rfl) (KIn.cons (mem_at (i := 2) rfl) KIn.nil)) (fun v72 hp72 hO72 => ?_)
              refine WD.q (Q.extract rfl rfl) bq_int rfl ?_
              refine WD.entryPut rfl rfl rfl (i := 3) rfl map_newB map_new (hs' := _ :: _ :: _ :: _ :: _) rfl (fun h => by cases h) ?_
              refine WD.nil ?_
              refine End.KB (End.K ?_)
              refine W.sub (SubS.cons (k := 0) rfl (SubS.cons (k := 4) rfl (SubS.cons (k := 5) rfl (SubS.cons (k := 17) rfl (SubS.cons (k := 18) rfl (SubS.cons (k := 19) rfl (SubS.cons (k := 52) rfl (SubS.cons (k := 53) rfl (SubS.cons (k := 54) rfl (SubS.nil _)))))))))) ?_
              refine W.reg ?_
              refine WO.q (Q.bin rfl (oc (v := .int .i64 ((1 : Nat) : Int)) rfl) rfl (bv_add (wn_add (by first | omega | (simp at * <;> omega))))) rfl ?_
              refine WO.q (Q.move rfl) rfl ?_
              refine WO.nil ?_
              refine End.KL ?_
              refine W.sub (SubS.cons rfl (SubS.cons rfl (SubS.cons rfl (SubS.cons rfl (SubS.cons rfl (SubS.cons rfl (SubS.cons (by rw [hva]; rfl) (SubS.cons rfl (SubS.cons rfl (SubS.nil _)))))))))) (W.subH gcs (ih1 (k + 1) (M ++ [(lg (eg V i).2.1 k, v72)]) (PD ++ hp72) ?_ ?_))
              · exact ⟨by omega, MB.push (by omega) hO72 (by omega) hMB⟩
              · exact (by omega)
            · skip -- FL0TFJ12L1TS
              rw [Nat.zero_add] at hfj
              obtain ⟨h0j, h1j, h2j⟩ := mapC_get M 0 j _ hj
              obtain ⟨PA, csj, lj, hpj, PB, rfl, hOj, hlj, hset⟩ := MB.at hMB hj
              refine WD.subH (hs' := _ :: _ :: _ :: _ :: _ :: (hs ++ hp49 ++ PA ++ PB ++ hpj)) (SubH.of_perm (List.Perm.append_left [_, _, _, _, _] (List.perm_iff_count.2 (by intro z; simp only [List.append_eq, List.count_append, List.count_nil]; omega)))) ?_
              refine WD.entryS mt128 rfl rfl (i := 4) rfl (key_ok ud132 ud9 sz9 (lg (eg V i).2.1 k)) zr89 hfj h0j (kA_beq _) h1j h2j rfl (KIn.cons (mem_at (i := 1) rfl) (KIn.cons (mem_at (i := 3) rfl) KIn.nil)) ?_
              refine WD.q (Q.extract rfl rfl) (OwnE.bq hOj) rfl ?_
              refine WD.appAny (A := ([_, _, _, _] ++ hs ++ hp49 ++ PA ++ PB)) ap89_89 hOj rfl rfl (Src.slice (mem_at (i := 0) rfl) rfl) rfl (by first | omega | (simp at * <;> omega)) (by decide) (SubH.of_sublist (List.sublist_cons_self _ _)) rfl (KIn.cons (mem_at (i := 0) rfl) (KIn.cons (mem_at (i := 2) rfl) KIn.nil)) (fun v72 hp72 hO72 => ?_)
              refine WD.q (Q.extract rfl rfl) bq_int rfl ?_
              refine WD.entryPut rfl rfl rfl (i := 3) rfl (map_oldB hj) (mapC_set M 0 j _ _ hj) (hs' := _ :: _ :: _ :: _ :: _) rfl (fun h => by cases h) ?_
              refine WD.nil ?_
              refine End.KB (End.K ?_)
              refine W.sub (SubS.cons (k := 0) rfl (SubS.cons (k := 4) rfl (SubS.cons (k := 5) rfl (SubS.cons (k := 17) rfl (SubS.cons (k := 18) rfl (SubS.cons (k := 19) rfl (SubS.cons (k := 52) rfl (SubS.cons (k := 53) rfl (SubS.cons (k := 54) rfl (SubS.nil _)))))))))) ?_
              refine W.reg ?_
              refine WO.q (Q.bin rfl (oc (v := .int .i64 ((1 : Nat) : Int)) rfl) rfl (bv_add (wn_add (by first | omega | (simp at * <;> omega))))) rfl ?_
              refine WO.q (Q.move rfl) rfl ?_
              refine WO.nil ?_
              refine End.KL ?_
              refine W.sub (SubS.cons rfl (SubS.cons rfl (SubS.cons rfl (SubS.cons rfl (SubS.cons rfl (SubS.cons rfl (SubS.cons (by rw [hva]; rfl) (SubS.cons rfl (SubS.cons rfl (SubS.nil _)))))))))) (W.subH gcs (ih1 (k + 1) (M.set j (lg (eg V i).2.1 k, v72)) (PA ++ (hp72 ++ PB)) ?_ ?_))
              · exact ⟨by omega, hset _ v72 _ _ hp72 (by omega) hO72 (by omega)⟩
              · exact (by omega)
          · skip -- FL0TFJ12L1F
            refine W.exit ?_
            refine End.K_exit (End.KL_exit (End.KB_hit (End.KB (End.K ?_))))
            refine W.reg ?_
            refine WO.q (Q.bin rfl (oc (v := .int .i64 ((1 : Nat) : Int)) rfl) rfl (bv_add (wn_add (by first | omega | (simp at * <;> omega))))) rfl ?_
            refine WO.q (Q.move rfl) rfl ?_
            refine WO.nil ?_
            refine End.KL ?_
            refine W.sub (SubS.cons rfl (SubS.cons rfl (SubS.cons rfl (SubS.cons rfl (SubS.cons rfl (SubS.nil _)))))) (W.subH gcs (ih0 (i + 1) (cs ++ [v47]) (v49) (hp49) (M) (PD) ?_ ?_))
            · exact ⟨by omega, h256, by rw [h3, fst_next (by omega) hI12], by rw [List.length_append]; exact hO49, by rw [List.length_append, hcs]; rfl, hMB.mono (by have := ichk1_len hI12; omega)⟩
            · exact (by first | omega | (simp at * <;> omega))
        · skip
          refine W.seq ?_
          refine W.reg ?_
          refine WO.q (Q.move rfl) rfl ?_
          refine WO.q (Q.bin rfl (oc (v := .int .i64 ((0 : Nat) : Int)) rfl) rfl (bv_gtr lt_nat)) rfl ?_
          refine WO.q (Q.move rfl) rfl ?_
          refine WO.splitD (d := 31) rfl (fun hc31 => ?_) (fun hc31 => ?_)
          · skip -- FL0TFt
            refine WO.gT rfl rfl ?_
            refine WO.q (Q.move rfl) rfl ?_
            refine WO.gT rfl rfl ?_
            refine WO.q (Q.move rfl) rfl ?_
            refine WO.gT rfl rfl ?_
            refine WO.q (Q.bin rfl (oc (v := .int .i64 ((1 : Nat) : Int)) rfl) rfl (bv_sub (wn_sub (by first | omega | (simp at * <;> omega))))) rfl ?_
            refine WO.gT rfl rfl ?_
            refine WO.q (Q.iaddrS ud90 sz33 rfl rfl (by first | omega | (simp at * <;> omega))) rfl ?_
            refine WO.gT rfl rfl ?_
            refine WO.q (Q.load1 rfl (List.mem_cons_of_mem _ (List.mem_cons_of_mem _ (List.mem_append_left _ (List.mem_append_left _ mt)))) ag33 (cT_at (by first | omega | (simp at * <;> omega)))) rfl ?_
            refine WO.gT rfl rfl ?_
            refine WO.q (Q.move rfl) rfl ?_
            refine WO.gT rfl rfl ?_
            refine WO.callV rfl (oLs_cons rfl (oLs_cons rfl oLs_nil)) rfl (cmp_spec hs hro _ _ _ _ (hT.at (by first | omega | (simp at * <;> omega))) (hT.at (by first | omega | (simp at * <;> omega))) (hB.at (by first | omega | (simp at * <;> omega))).1 (hB.at (by first | omega | (simp at * <;> omega))).1) (SubR.tl (SubR.tl (SubR.appl (SubR.appl (SubR.self hro))))) rfl ?_
            refine WO.gT rfl rfl ?_
            refine WO.q (Q.bin rfl (oc (v := .int .i64 ((0 : Nat) : Int)) rfl) rfl (bv_geq le_int)) rfl ?_
            refine WO.q (Q.pickT rfl rfl) rfl ?_
            refine WO.nil ?_
            refine End.K ?_
            refine W.sub (SubS.cons (k := 40) rfl (SubS.cons (k := 6) rfl (SubS.cons (k := 5) rfl (SubS.cons (k := 0) rfl (SubS.cons (k := 4) rfl (SubS.cons (k := 17) rfl (SubS.cons (k := 18) rfl (SubS.cons (k := 19) rfl (SubS.nil _))))))))) ?_
            refine W.condDS rfl (fun hc40 => ?_) (fun hc40 => ?_)
            · skip -- FL0TFtT
              refine W.seq ?_
              refine W.reg ?_
              refine WO.q (Q.assign rfl) rfl ?_
              refine WO.q (Q.assign (oc (v := .int .i64 ((13 : Nat) : Int)) rfl)) rfl ?_
              refine WO.nil ?_
              refine End.K ?_
              refine W.ret ?_
              refine End.K_ret (End.KB_ret (End.K_ret (End.KL_ret (End.KB_ret (End.K_ret (End.retE (ResL.tmp rfl (ResL.tmp rfl ResL.nil)) ?_))))))
              refine ⟨.nilp, ?_⟩; show AV.tuple _ = _; rw [h3, fst_hit (e := 13) (by omega) (by unfold ichk1; simp_all <;> omega) (by decide)]
            · skip -- FL0TFtF
              refine W.skip ?_
              refine End.K (W.sub (SubS.cons rfl (SubS.cons rfl (SubS.cons rfl (SubS.cons rfl (SubS.cons rfl (SubS.cons rfl (SubS.cons rfl (SubS.nil _)))))))) (hJ12 (()) ?_))
              exact (by unfold ichk1; simp_all <;> omega)
          · skip -- FL0TFf
            refine WO.gF rfl rfl (.inl rfl) rfl ?_
            refine WO.gF rfl rfl (.inl rfl) rfl ?_
            refine WO.gF rfl rfl (.inl rfl) rfl ?_
            refine WO.gF rfl rfl (.inl rfl) rfl ?_
            refine WO.gF rfl rfl (.inl rfl) rfl ?_
            refine WO.gF rfl rfl (.inl rfl) rfl ?_
            refine WO.gF rfl rfl (.inl rfl) rfl ?_
            refine WO.gF rfl rfl (.inl rfl) rfl ?_
            refine WO.q (Q.pickF rfl rfl) rfl ?_
            refine WO.nil ?_
            refine End.K ?_
            refine W.sub (SubS.cons (k := 40) rfl (SubS.cons (k := 6) rfl (SubS.cons (k := 5) rfl (SubS.cons (k := 0) rfl (SubS.cons (k := 4) rfl (SubS.cons (k := 17) rfl (SubS.cons (k := 18) rfl (SubS.cons (k := 19) rfl (SubS.nil _))))))))) ?_
            refine W.condF rfl ?_
            refine W.skip ?_
            refine End.K (W.sub (SubS.cons rfl (SubS.cons rfl (SubS.cons rfl (SubS.cons rfl (SubS.cons rfl (SubS.cons rfl (SubS.cons rfl (SubS.nil _)))))))) (hJ12 (()) ?_))
            exact (by unfold ichk1; simp_all <;> omega)
    · skip -- FL0F
      refine W.exit ?_
      refine End.K_exit (End.KL_exit (End.KB_hit (End.K ?_)))
      refine W.seq ?_
      refine W.reg ?_
      refine WO.q (Q.move rfl) rfl ?_
      refine WO.q (Q.assign rfl) rfl ?_
      refine WO.q (Q.assign (oc (v := .int .i64 ((0 : Nat) : Int)) rfl)) rfl ?_
      refine WO.nil ?_
      refine End.K ?_
      refine W.ret ?_
      refine End.retE (ResL.tmp rfl (ResL.tmp rfl ResL.nil)) ?_
      refine ⟨.ptr xb 0, ?_⟩; show AV.tuple _ = _; rw [h3, fst_done (by omega)]
end Go.Proofs.YtmblgaehfjheeaaGreat.Ev
