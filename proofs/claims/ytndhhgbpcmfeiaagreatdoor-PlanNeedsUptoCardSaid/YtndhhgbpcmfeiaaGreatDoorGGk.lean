/- Chapter 20, walks: the law of what is needed. -/
import Derived.Test.YtndhhgbpcmfeiaaGreatDoorGGi
import Derived.Test.YtndhhgbpcmfeiaaGreatDoorGGj
namespace Go.Proofs.YtndhhgbpcmfeiaaGreatDoor.Ev
open Go.RowKit
set_option linter.unusedVariables false
set_option linter.unusedSimpArgs false
set_option maxRecDepth 100000
set_option maxHeartbeats 1000000
theorem be_int {k : IntKind} {a : Int} {t : TypeId} {tb : Tab} : evBin tb .eql t (.int k a) (.int k a) = some (.bool true) := bv_eql (by rw [eq_int]; simp)

theorem law_needs (hs : HSt) (hro : ∀ e ∈ hs, e.w = false) (L : List IE) (v : AV) (hV : IIn hs L v) (hB : ILB L) : Spec tab 8 [v] [] hs (Val (.bool true)) := by
  have hBl := hB.1
  refine Spec.enter' (ft_get 8 Tryz.func8) rfl (m := 126) rfl (rs := [.tmp 2]) rfl (st := [(0, v)]) rfl rfl (fun _ => rfl) (fun E => ?_)
  refine W.seq ?_
  refine W.reg ?_
  refine WO.q (Q.assign rfl) rfl ?_
  refine WO.nil ?_
  refine End.K ?_
  refine W.seq ?_
  refine W.seq ?_
  refine W.reg ?_
  refine WO.q (Q.move rfl) rfl ?_
  refine WO.callE rfl (oLs_cons rfl oLs_nil) rfl (few_spec hs hro L _ hV hB) (SubR.self hro) rfl (fun v14 hP14 => ?_)
  obtain ⟨bf, rfl, hfw⟩ := hP14
  refine WO.q (Q.not rfl rfl) rfl ?_
  refine WO.nil ?_
  refine End.K ?_
  refine W.condS rfl (fun hc15 => ?_) (fun hc15 => ?_)
  · skip -- T
    refine W.seq ?_
    refine W.reg ?_
    refine WO.callV rfl oLs_nil rfl (Spec.known (fun _ => rfl)) SubR.nil rfl ?_
    refine WO.q (Q.assign rfl) rfl ?_
    refine WO.nil ?_
    refine End.K ?_
    refine W.ret ?_
    refine End.K_ret (End.retV (ResL.tmp rfl ResL.nil) ?_)
    rfl
  · skip -- F
    obtain ⟨hL1, hL2⟩ := hfw (by simpa using hc15)
    refine W.skip ?_
    refine End.K ?_
    refine W.seq ?_
    refine W.reg ?_
    refine WO.q (Q.move rfl) rfl ?_
    refine WO.call0 rfl (oLs_cons rfl oLs_nil) rfl (trim_spec hs hro L _ hV hB) (SubR.self hro) rfl (fun v19 D19 hP19 => ?_)
    obtain ⟨eE, Y, w, hTR, hO, rfl⟩ := hP19
    have hY := hO.iin
    refine WO.subH (hs' := (hs ++ D19)) (SubH.of_perm (perm_tail (N := []) (G := D19) (K := []) (X := hs))) ?_
    refine WO.q (Q.move rfl) rfl ?_
    refine WO.q (Q.extract rfl rfl) rfl ?_
    refine WO.q (Q.extract rfl rfl) rfl ?_
    refine WO.q (Q.assign rfl) rfl ?_
    refine WO.q (Q.assign rfl) rfl ?_
    refine WO.nil ?_
    refine End.K ?_
    refine W.seq ?_
    refine W.seq ?_
    refine W.reg ?_
    refine WO.q (Q.move rfl) rfl ?_
    refine WO.q (Q.bin rfl (oc (v := .int .i64 ((0 : Nat) : Int)) rfl) rfl (bv_neq ne_nat)) rfl ?_
    refine WO.nil ?_
    refine End.K ?_
    refine W.condDS rfl (fun hc23 => ?_) (fun hc23 => ?_)
    · skip -- FT
      obtain ⟨hc0, rfl, hY0⟩ : chkI L ≠ 0 ∧ eE = chkI L ∧ D2 Y = [] := (by rcases hTR with q | ⟨_, q, _⟩; exact q; omega)
      have hy0 : Y.length = 0 := (by rw [← d2_len, hY0]; rfl)
      refine W.seq ?_
      refine W.reg ?_
      refine WO.q (Q.move rfl) rfl ?_
      refine WO.callV rfl (oLs_cons rfl oLs_nil) rfl (chk_spec hs hro L _ hV hB) (SubR.appl (SubR.self hro)) rfl ?_
      refine WO.q (Q.move rfl) rfl ?_
      refine WO.q (Q.bin rfl rfl rfl be_int) rfl ?_
      refine WO.q (Q.move rfl) rfl ?_
      refine WO.gT rfl rfl ?_
      refine WO.q (Q.move rfl) rfl ?_
      refine WO.gT rfl rfl ?_
      refine WO.q (Q.len ud30 rfl hY.1.len) rfl ?_
      refine WO.gT rfl rfl ?_
      refine WO.q (Q.bin rfl (oc (v := .int .i64 ((0 : Nat) : Int)) rfl) rfl (bv_eql (p := true) (by rw [hy0]; rfl))) rfl ?_
      refine WO.q (Q.pickT rfl rfl) rfl ?_
      refine WO.q (Q.move rfl) rfl ?_
      refine WO.gT rfl rfl ?_
      refine WO.callV rfl oLs_nil rfl (Spec.known (fun _ => rfl)) SubR.nil rfl ?_
      refine WO.q (Q.pickT rfl rfl) rfl ?_
      refine WO.q (Q.assign rfl) rfl ?_
      refine WO.nil ?_
      refine End.K ?_
      refine W.sub (SubS.cons (k := 2) rfl (SubS.nil _)) ?_
      refine W.ret ?_
      refine End.K_ret (End.retV (ResL.tmp rfl ResL.nil) ?_)
      rfl
    · skip -- FF
      obtain ⟨hk, rfl, hYt⟩ : chkI L = 0 ∧ eE = 0 ∧ D2 Y = trimP L L.length := (by rcases hTR with ⟨q, q2, _⟩ | q; omega; exact q)
      have hTY : TrY L Y := ⟨hk, hYt, hO.nk⟩
      have hyl := hTY.le
      refine W.skip ?_
      refine End.K ?_
      refine W.seq ?_
      refine W.reg ?_
      refine WO.q (Q.move rfl) rfl ?_
      refine WO.q (Q.len ud30 rfl hY.1.len) rfl ?_
      refine WO.mslice ms52 rfl rfl (by omega) (repl_b _) rfl (fun bs => ?_)
      refine WO.q (Q.assign rfl) rfl ?_
      refine WO.nil ?_
      refine End.K ?_
      refine W.sub (SubS.cons (k := 5) rfl (SubS.cons (k := 3) rfl (SubS.cons (k := 0) rfl (SubS.nil _)))) ?_
      refine W.seq ?_
      refine W.seq ?_
      refine W.reg ?_
      refine WO.q (Q.assign (oc (v := .int .i64 ((0 : Nat) : Int)) rfl)) rfl ?_
      refine WO.nil ?_
      refine End.K ?_
      refine W.block ?_
      refine W.loop_ind (fun (i : Nat) => [(0, v), (3, w), (5, .slice bs 0 Y.length 1), (6, .int .i64 ((i : Nat) : Int))]) (fun (i : Nat) => (⟨bs, ⟨1, true, cB (usF Y i 0) Y.length⟩, true⟩ :: (hs ++ D19))) (fun (i : Nat) => i ≤ Y.length) (fun (i : Nat) => Y.length - i) (0) (Nat.zero_le _) (SubS.cons rfl (SubS.cons rfl (SubS.cons rfl (SubS.cons rfl (SubS.nil _))))) (by rw [← us_0]; exact SubH.refl _) (fun i hI0 ih0 => ?_)
      have h1 := hI0
      refine W.seq ?_
      refine W.seq ?_
      refine W.reg ?_
      refine WO.q (Q.move rfl) rfl ?_
      refine WO.q (Q.move rfl) rfl ?_
      refine WO.q (Q.len ud30 rfl hY.1.len) rfl ?_
      refine WO.q (Q.bin rfl rfl rfl (bv_lss lt_nat)) rfl ?_
      refine WO.nil ?_
      refine End.K ?_
      refine W.condDS rfl (fun hc42 => ?_) (fun hc42 => ?_)
      · skip -- FFL0T
        obtain ⟨bw, szw, exw, rfl, ww, mw⟩ := hY.1.full (by omega)
        have hal := (hO.lb.at (i := i) (by omega)).a
        refine W.skip ?_
        refine End.K ?_
        refine W.seq ?_
        refine W.block ?_
        refine W.seq ?_
        refine W.reg ?_
        refine WO.q (Q.assign (oc (v := .int .i64 ((0 : Nat) : Int)) rfl)) rfl ?_
        refine WO.nil ?_
        refine End.K ?_
        refine W.block ?_
        refine W.loop_ind (fun (q : Nat) => [(0, v), (3, .slice bw 0 Y.length 12), (5, .slice bs 0 Y.length 1), (6, .int .i64 ((i : Nat) : Int)), (7, .int .i64 ((q : Nat) : Int))]) (fun (q : Nat) => (⟨bs, ⟨1, true, cB (usF Y i q) Y.length⟩, true⟩ :: (hs ++ D19))) (fun (q : Nat) => q ≤ (ei Y i).ars.length) (fun (q : Nat) => (ei Y i).ars.length - q) (0) (Nat.zero_le _) (SubS.cons rfl (SubS.cons rfl (SubS.cons rfl (SubS.cons rfl (SubS.cons rfl (SubS.nil _)))))) (SubH.refl _) (fun q hI1 ih1 => ?_)
        have h2 := hI1
        refine W.seq ?_
        refine W.seq ?_
        refine W.reg ?_
        refine WO.q (Q.move rfl) rfl ?_
        refine WO.q (Q.move rfl) rfl ?_
        refine WO.q (Q.move rfl) rfl ?_
        refine WO.q (Q.iaddrS ud30 sz42 rfl rfl (by first | omega | (simp at * <;> omega))) rfl ?_
        refine WO.q (Q.fieldAddr fa42_1 rfl rfl) rfl ?_
        refine WO.q (Q.load1 rfl (List.mem_cons_of_mem _ (List.mem_append_right _ mw)) ag40 (cI_f 11 (by first | omega | (simp at * <;> omega)) rfl)) rfl ?_
        refine WO.q (Q.len ud40 rfl (hY.at (by first | omega | (simp at * <;> omega))).a.len) rfl ?_
        refine WO.q (Q.bin rfl rfl rfl (bv_lss lt_nat)) rfl ?_
        refine WO.nil ?_
        refine End.K ?_
        refine W.condDS rfl (fun hc52 => ?_) (fun hc52 => ?_)
        · skip -- FFL0TL1T
          obtain ⟨ba, sza, exa, hva, wa_, ma⟩ := (hY.at (i := i) (by omega)).a.full (by omega)
          have hq1 := hTY.low (i := i) (q := q) (by omega) (by omega)
          refine W.skip ?_
          refine End.K ?_
          refine W.seq ?_
          refine W.block ?_
          refine W.seq ?_
          refine W.seq ?_
          refine W.reg ?_
          refine WO.q (Q.move rfl) rfl ?_
          refine WO.q (Q.move rfl) rfl ?_
          refine WO.q (Q.iaddrS ud30 sz42 rfl rfl (by first | omega | (simp at * <;> omega))) rfl ?_
          refine WO.q (Q.fieldAddr fa42_1 rfl rfl) rfl ?_
          refine WO.q (Q.load1 rfl (List.mem_cons_of_mem _ (List.mem_append_right _ mw)) ag40 (cI_f 11 (by first | omega | (simp at * <;> omega)) (congrArg some hva))) rfl ?_
          refine WO.q (Q.move rfl) rfl ?_
          refine WO.q (Q.iaddrS ud40 sz3 rfl rfl (by first | omega | (simp at * <;> omega))) rfl ?_
          refine WO.q (Q.load1 rfl (List.mem_cons_of_mem _ (List.mem_append_right _ ma)) ag3 (cA_atN (by first | omega | (simp at * <;> omega)) hq1.1)) rfl ?_
          refine WO.q (Q.bin rfl (oc (v := .int .i64 ((0 : Nat) : Int)) rfl) rfl (bv_lss lt_nat)) rfl ?_
          refine WO.q (Q.move rfl) rfl ?_
          refine WO.splitD (d := 64) rfl (fun hc64 => ?_) (fun hc64 => ?_)
          · (exfalso; omega)
          · skip -- FFL0TL1Tf
            refine WO.gT rfl rfl ?_
            refine WO.q (Q.move rfl) rfl ?_
            refine WO.gT rfl rfl ?_
            refine WO.q (Q.move rfl) rfl ?_
            refine WO.gT rfl rfl ?_
            refine WO.q (Q.iaddrS ud30 sz42 rfl rfl (by first | omega | (simp at * <;> omega))) rfl ?_
            refine WO.gT rfl rfl ?_
            refine WO.q (Q.fieldAddr fa42_1 rfl rfl) rfl ?_
            refine WO.gT rfl rfl ?_
            refine WO.q (Q.load1 rfl (List.mem_cons_of_mem _ (List.mem_append_right _ mw)) ag40 (cI_f 11 (by first | omega | (simp at * <;> omega)) (congrArg some hva))) rfl ?_
            refine WO.gT rfl rfl ?_
            refine WO.q (Q.move rfl) rfl ?_
            refine WO.gT rfl rfl ?_
            refine WO.q (Q.iaddrS ud40 sz3 rfl rfl (by first | omega | (simp at * <;> omega))) rfl ?_
            refine WO.gT rfl rfl ?_
            refine WO.q (Q.load1 rfl (List.mem_cons_of_mem _ (List.mem_append_right _ ma)) ag3 (cA_atN (by first | omega | (simp at * <;> omega)) hq1.1)) rfl ?_
            refine WO.gT rfl rfl ?_
            refine WO.q (Q.move rfl) rfl ?_
            refine WO.gT rfl rfl ?_
            refine WO.q (Q.bin rfl rfl rfl (bv_geq le_nat)) rfl ?_
            refine WO.q (Q.pickF rfl rfl) rfl ?_
            refine WO.nil ?_
            refine End.K ?_
            refine W.sub (SubS.cons (k := 75) rfl (SubS.cons (k := 0) rfl (SubS.cons (k := 3) rfl (SubS.cons (k := 5) rfl (SubS.cons (k := 6) rfl (SubS.cons (k := 7) rfl (SubS.nil _))))))) ?_
            refine W.condDS rfl (fun hc75 => ?_) (fun hc75 => ?_)
            · (exfalso; omega)
            · skip -- FFL0TL1TfF
              refine W.skip ?_
              refine End.K ?_
              refine W.reg ?_
              refine WO.q (Q.move rfl) rfl ?_
              refine WO.q (Q.move rfl) rfl ?_
              refine WO.q (Q.move rfl) rfl ?_
              refine WO.q (Q.iaddrS ud30 sz42 rfl rfl (by first | omega | (simp at * <;> omega))) rfl ?_
              refine WO.q (Q.fieldAddr fa42_1 rfl rfl) rfl ?_
              refine WO.q (Q.load1 rfl (List.mem_cons_of_mem _ (List.mem_append_right _ mw)) ag40 (cI_f 11 (by first | omega | (simp at * <;> omega)) (congrArg some hva))) rfl ?_
              refine WO.q (Q.move rfl) rfl ?_
              refine WO.q (Q.iaddrS ud40 sz3 rfl rfl (by first | omega | (simp at * <;> omega))) rfl ?_
              refine WO.q (Q.load1 rfl (List.mem_cons_of_mem _ (List.mem_append_right _ ma)) ag3 (cA_atN (by first | omega | (simp at * <;> omega)) hq1.1)) rfl ?_
              refine WO.q (Q.iaddrS ud52 sz4 rfl rfl (by first | omega | (simp at * <;> omega))) rfl ?_
              refine WO.store sz4 rfl rfl (i := 0) rfl (ck1 rfl (cB_le (by omega))) (cB_lay (by omega)) (hs' := _ :: _) rfl ?_
              refine WO.nil ?_
              refine End.KB (End.K ?_)
              refine W.reg ?_
              refine WO.q (Q.move rfl) rfl ?_
              refine WO.q (Q.bin rfl (oc (v := .int .i64 ((1 : Nat) : Int)) rfl) rfl (bv_add (wn_add (by first | omega | (simp at * <;> omega))))) rfl ?_
              refine WO.q (Q.assign rfl) rfl ?_
              refine WO.nil ?_
              refine End.KL ?_
              refine W.sub (SubS.cons rfl (SubS.cons rfl (SubS.cons rfl (SubS.cons rfl (SubS.cons rfl (SubS.nil _)))))) (W.subH (by rw [← us_step (by omega) (by omega)]; exact SubH.refl _) (ih1 (q + 1) ?_ ?_))
              · exact (by omega)
              · exact (by first | omega | (simp at * <;> omega))
        · skip -- FFL0TL1F
          obtain rfl : q = (ei Y i).ars.length := (by omega)
          rw [us_end (by omega)]
          refine W.exit ?_
          refine End.K_exit (End.KL_exit (End.KB_hit (End.KB (End.K ?_))))
          refine W.reg ?_
          refine WO.q (Q.move rfl) rfl ?_
          refine WO.q (Q.bin rfl (oc (v := .int .i64 ((1 : Nat) : Int)) rfl) rfl (bv_add (wn_add (by first | omega | (simp at * <;> omega))))) rfl ?_
          refine WO.q (Q.assign rfl) rfl ?_
          refine WO.nil ?_
          refine End.KL ?_
          refine W.sub (SubS.cons rfl (SubS.cons rfl (SubS.cons rfl (SubS.cons rfl (SubS.nil _))))) (W.subH gc (ih0 (i + 1) ?_ ?_))
          · exact (by omega)
          · exact (by first | omega | (simp at * <;> omega))
      · skip -- FFL0F
        obtain rfl : i = Y.length := (by omega)
        refine W.exit ?_
        refine End.K_exit (End.KL_exit (End.KB_hit (End.K ?_)))
        refine W.seq ?_
        refine W.seq ?_
        refine W.reg ?_
        refine WO.q (Q.assign (oc (v := .int .i64 ((0 : Nat) : Int)) rfl)) rfl ?_
        refine WO.nil ?_
        refine End.K ?_
        refine W.block ?_
        refine W.loop_ind (fun (j : Nat) => [(0, v), (3, w), (5, .slice bs 0 Y.length 1), (8, .int .i64 ((j : Nat) : Int))]) (fun (j : Nat) => (⟨bs, ⟨1, true, cB (usF Y Y.length 0) Y.length⟩, true⟩ :: (hs ++ D19))) (fun (j : Nat) => j ≤ Y.length) (fun (j : Nat) => Y.length - j) (0) (Nat.zero_le _) (SubS.cons rfl (SubS.cons rfl (SubS.cons rfl (SubS.cons rfl (SubS.nil _))))) (SubH.refl _) (fun j hI2 ih2 => ?_)
        have h3 := hI2
        refine W.seq ?_
        refine W.seq ?_
        refine W.reg ?_
        refine WO.q (Q.move rfl) rfl ?_
        refine WO.q (Q.bin rfl (oc (v := .int .i64 ((1 : Nat) : Int)) rfl) rfl (bv_add (wn_add (by first | omega | (simp at * <;> omega))))) rfl ?_
        refine WO.q (Q.move rfl) rfl ?_
        refine WO.q (Q.len ud30 rfl hY.1.len) rfl ?_
        refine WO.q (Q.bin rfl rfl rfl (bv_lss lt_nat)) rfl ?_
        refine WO.nil ?_
        refine End.K ?_
        refine W.condDS rfl (fun hc90 => ?_) (fun hc90 => ?_)
        · skip -- FFL0FL2T
          refine W.skip ?_
          refine End.K ?_
          refine W.seq ?_
          refine W.block ?_
          refine W.seq ?_
          refine W.reg ?_
          refine WO.q (Q.move rfl) rfl ?_
          refine WO.q (Q.move rfl) rfl ?_
          refine WO.q (Q.iaddrS ud52 sz4 rfl rfl (by first | omega | (simp at * <;> omega))) rfl ?_
          refine WO.q (Q.load1 rfl (mem_at (i := 0) rfl) ag4 (cB_at (by first | omega | (simp at * <;> omega)))) rfl ?_
          refine WO.q (Q.not rfl rfl) rfl ?_
          refine WO.nil ?_
          refine End.K ?_
          refine W.condS rfl (fun hc97 => ?_) (fun hc97 => ?_)
          · (exfalso; rw [hTY.us (by omega)] at hc97; cases hc97)
          · skip -- FFL0FL2TF
            refine W.skip ?_
            refine End.KB (End.K ?_)
            refine W.reg ?_
            refine WO.q (Q.move rfl) rfl ?_
            refine WO.q (Q.bin rfl (oc (v := .int .i64 ((1 : Nat) : Int)) rfl) rfl (bv_add (wn_add (by first | omega | (simp at * <;> omega))))) rfl ?_
            refine WO.q (Q.assign rfl) rfl ?_
            refine WO.nil ?_
            refine End.KL ?_
            refine W.sub (SubS.cons rfl (SubS.cons rfl (SubS.cons rfl (SubS.cons rfl (SubS.nil _))))) (W.subH gc (ih2 (j + 1) ?_ ?_))
            · exact (by omega)
            · exact (by first | omega | (simp at * <;> omega))
        · skip -- FFL0FL2F
          refine W.exit ?_
          refine End.K_exit (End.KL_exit (End.KB_hit (End.K ?_)))
          refine W.seq ?_
          refine W.reg ?_
          refine WO.q (Q.move rfl) rfl ?_
          refine WO.call0 rfl (oLs_cons rfl oLs_nil) rfl (tree_spec hs hro L _ hV hB) (SubR.tl (SubR.appl (SubR.self hro))) rfl (fun v100 D100 hP100 => ?_)
          obtain ⟨e1, tr1, c1, hR1, hT1, hw1, rfl⟩ := hP100
          obtain ⟨d1, vm1, vn1, vk1, rfl, hqm1, hqn1, hqk1, hqo1⟩ := TRep.opn hT1
          refine WO.subH (hs' := _ :: (hs ++ D19 ++ D100)) (SubH.of_perm (perm_tail (N := []) (G := D100) (K := [_]) (X := hs ++ D19))) ?_
          refine WO.q (Q.move rfl) rfl ?_
          refine WO.q (Q.extract rfl rfl) rfl ?_
          refine WO.q (Q.extract rfl rfl) rfl ?_
          refine WO.alloc ao26 rfl (fun b1 => ?_)
          refine WO.store sz26 rfl rfl (i := 0) rfl (and_tt rfl (nd_all hqm1.cell hqn1.cell hqk1.cell)) (cs := [_, _, _, _, _, _, _, _, _, _, _]) rfl (hs' := _ :: _ :: _) rfl ?_
          refine WO.q (Q.assign rfl) rfl ?_
          refine WO.nil ?_
          refine End.K ?_
          refine W.seq ?_
          refine W.reg ?_
          refine WO.q (Q.move rfl) rfl ?_
          refine WO.call0 rfl (oLs_cons rfl oLs_nil) rfl (tree_spec (ro D19 ++ hs) (ro_app hro) Y _ hY.ro.appl hO.lb) (SubR.mix gc hro) rfl (fun v105 D105 hP105 => ?_)
          obtain ⟨e2, tr2, c2, hR2, hT2, hw2, rfl⟩ := hP105
          obtain ⟨rfl, rfl⟩ := hTY.trees hR1 hR2
          obtain ⟨d2, vm2, vn2, vk2, rfl, hqm2, hqn2, hqk2, hqo2⟩ := TRep.opn hT2
          refine WO.subH (hs' := _ :: _ :: (hs ++ D19 ++ D100 ++ D105)) (SubH.of_perm (perm_tail (N := []) (G := D105) (K := [_, _]) (X := hs ++ D19 ++ D100))) ?_
          refine WO.q (Q.move rfl) rfl ?_
          refine WO.q (Q.extract rfl rfl) rfl ?_
          refine WO.q (Q.extract rfl rfl) rfl ?_
          refine WO.alloc ao26 rfl (fun b2 => ?_)
          refine WO.store sz26 rfl rfl (i := 0) rfl (and_tt rfl (nd_all hqm2.cell hqn2.cell hqk2.cell)) (cs := [_, _, _, _, _, _, _, _, _, _, _]) rfl (hs' := _ :: _ :: _ :: _) rfl ?_
          refine WO.q (Q.assign rfl) rfl ?_
          refine WO.nil ?_
          refine End.K ?_
          refine W.sub (SubS.cons (k := 12) rfl (SubS.cons (k := 11) rfl (SubS.cons (k := 10) rfl (SubS.cons (k := 9) rfl (SubS.cons (k := 0) rfl (SubS.cons (k := 3) rfl (SubS.nil _))))))) ?_
          refine W.seq ?_
          refine W.reg ?_
          refine WO.q (Q.move rfl) rfl ?_
          refine WO.q (Q.move rfl) rfl ?_
          refine WO.q (Q.bin rfl rfl rfl be_int) rfl ?_
          refine WO.q (Q.move rfl) rfl ?_
          refine WO.gT rfl rfl ?_
          refine WO.q (Q.loadN rfl (mem_at (i := 1) rfl) ag26 sz26 (l := [_, _, _, _, _, _, _, _, _, _, _]) rfl) rfl ?_
          refine WO.gT rfl rfl ?_
          refine WO.q (Q.loadN rfl (mem_at (i := 0) rfl) ag26 sz26 (l := [_, _, _, _, _, _, _, _, _, _, _]) rfl) rfl ?_
          refine WO.gT rfl rfl ?_
          refine WO.callV rfl (oLs_cons rfl (oLs_cons rfl oLs_nil)) rfl (same_spec (ro (D100 ++ D105) ++ hs) (ro_app hro) tr1 _ _ (TRep.mono (fun b o q => q.appl'.ro.appl') hT1) (TRep.mono (fun b o q => q.app.ro.appl') hT2)) (SubR.mix gc hro) rfl ?_
          refine WO.q (Q.pickT rfl rfl) rfl ?_
          refine WO.q (Q.move rfl) rfl ?_
          refine WO.gT rfl rfl ?_
          refine WO.q (Q.move rfl) rfl ?_
          refine WO.gT rfl rfl ?_
          refine WO.q (Q.len ud30 rfl hY.1.len) rfl ?_
          refine WO.gT rfl rfl ?_
          refine WO.q (Q.move rfl) rfl ?_
          refine WO.gT rfl rfl ?_
          refine WO.q (Q.len ud30 rfl hV.1.len) rfl ?_
          refine WO.gT rfl rfl ?_
          refine WO.q (Q.bin rfl rfl rfl (bv_leq (le_nat.trans (decide_eq_true hyl)))) rfl ?_
          refine WO.q (Q.pickT rfl rfl) rfl ?_
          refine WO.q (Q.move rfl) rfl ?_
          refine WO.gT rfl rfl ?_
          refine WO.callV rfl oLs_nil rfl (Spec.known (fun _ => rfl)) SubR.nil rfl ?_
          refine WO.q (Q.pickT rfl rfl) rfl ?_
          refine WO.q (Q.assign rfl) rfl ?_
          refine WO.nil ?_
          refine End.K ?_
          refine W.sub (SubS.cons (k := 2) rfl (SubS.nil _)) ?_
          refine W.ret ?_
          refine End.retV (ResL.tmp rfl ResL.nil) ?_
          rfl
end Go.Proofs.YtndhhgbpcmfeiaaGreatDoor.Ev
