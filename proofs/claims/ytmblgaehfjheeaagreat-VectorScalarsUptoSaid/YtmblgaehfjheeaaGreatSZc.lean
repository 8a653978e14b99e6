/- Chapter 19, walks: a vector and a number, by the document. -/
import Derived.Test.YtmblgaehfjheeaaGreatSZb
import Derived.Test.YtmblgaehfjheeaaGreatSYw
namespace Go.Proofs.YtmblgaehfjheeaaGreat.Ev
open Go.RowKit
set_option linter.unusedVariables false
set_option linter.unusedSimpArgs false
set_option maxRecDepth 100000
set_option maxHeartbeats 1000000
theorem rscl_spec (hs : HSt) (hro : ∀ e ∈ hs, e.w = false) (V : List El) (v : AV) (hV : EIn hs V v) (hB : EBd V) (op : List Nat) (ho : Bytes op) (bl : Bool) (n : Int) (lf : Bool) : Spec tab 13 [.str op, .bool bl, v, .int .i64 n, .bool lf] [] hs (fun u D => ∃ (e : Nat) (W : List El) (w : AV), SclR op bl n lf V e (P2 W) ∧ VRes hs W w D ∧ u = .tuple [w, .int .i64 (e : Nat)]) := by
  have hBl := hB.1
  refine Spec.enter' (ft_get 13 Tryz.func13) rfl (m := 94) rfl (rs := [.tmp 10, .tmp 11]) rfl (st := [(0, .str op), (1, .bool bl), (2, v), (3, .int .i64 n), (4, .bool lf)]) rfl rfl (fun _ => rfl) (fun E => ?_)
  refine W.seq ?_
  refine W.reg ?_
  refine WO.q (Q.assign rfl) rfl ?_
  refine WO.q (Q.assign (oc (v := .int .i64 ((0 : Nat) : Int)) rfl)) rfl ?_
  refine WO.nil ?_
  refine End.K ?_
  refine W.seq ?_
  refine W.seq ?_
  refine W.reg ?_
  refine WO.q (Q.move rfl) rfl ?_
  refine WO.callV rfl (oLs_cons rfl oLs_nil) rfl (rvck_spec hs hro V _ hV hB) (SubR.self hro) rfl ?_
  refine WO.q (Q.assign rfl) rfl ?_
  refine WO.nil ?_
  refine End.K ?_
  refine W.seq ?_
  refine W.reg ?_
  refine WO.q (Q.move rfl) rfl ?_
  refine WO.q (Q.bin rfl (oc (v := .int .i64 ((0 : Nat) : Int)) rfl) rfl (bv_neq ne_nat)) rfl ?_
  refine WO.nil ?_
  refine End.K ?_
  refine W.condDS rfl (fun hc22 => ?_) (fun hc22 => ?_)
  · skip -- T
    refine W.seq ?_
    refine W.reg ?_
    refine WO.q (Q.move rfl) rfl ?_
    refine WO.q (Q.assign rfl) rfl ?_
    refine WO.q (Q.assign rfl) rfl ?_
    refine WO.nil ?_
    refine End.K ?_
    refine W.ret ?_
    refine End.K_ret (End.ret (ResL.tmp rfl (ResL.tmp rfl ResL.nil)) (hs' := []) ⟨_, [], .nils, scl_pre (sclPre_1 (by simpa using hc22)), VRes.nil, rfl⟩ no_wl (SubH.nil _))
  · skip -- F
    have hck : vchk V = 0 := (by have := Classical.not_not.1 hc22; omega)
    refine W.skip ?_
    refine End.K ?_
    refine W.seq ?_
    refine W.seq ?_
    refine W.reg ?_
    refine WO.q (Q.move rfl) rfl ?_
    refine WO.callV rfl (oLs_cons rfl oLs_nil) rfl (rfits_spec _) SubR.nil rfl ?_
    refine WO.q (Q.not rfl rfl) rfl ?_
    refine WO.nil ?_
    refine End.K ?_
    refine W.condS rfl (fun hc26 => ?_) (fun hc26 => ?_)
    · skip -- FT
      refine W.seq ?_
      refine W.reg ?_
      refine WO.q (Q.assign rfl) rfl ?_
      refine WO.q (Q.assign (oc (v := .int .i64 ((2 : Nat) : Int)) rfl)) rfl ?_
      refine WO.nil ?_
      refine End.K ?_
      refine W.ret ?_
      refine End.K_ret (End.ret (ResL.tmp rfl (ResL.tmp rfl ResL.nil)) (hs' := []) ⟨_, [], .nils, scl_pre (sclPre_2 hck (by simpa using hc26)), VRes.nil, rfl⟩ no_wl (SubH.nil _))
    · skip -- FF
      have hfn : fitB n = true := (by simpa using hc26)
      refine W.skip ?_
      refine End.K ?_
      refine W.seqJ1 (fun (q : Unit) => [(0, .str op), (1, .bool bl), (2, v), (3, .int .i64 n), (4, .bool lf)]) (fun (q : Unit) => hs) (fun (q : Unit) => ariB op = true ∨ cmpB op = true) (fun q hI8 => ?_) (fun hJ8 => ?_)
      · skip -- FFJ8
        have hop := hI8
        refine W.seq ?_
        refine W.reg ?_
        refine WO.q (Q.assign rfl) rfl ?_
        refine WO.nil ?_
        refine End.K ?_
        refine W.seq ?_
        refine W.seq ?_
        refine W.reg ?_
        refine WO.q (Q.assign (oc (v := .int .i64 ((0 : Nat) : Int)) rfl)) rfl ?_
        refine WO.nil ?_
        refine End.K ?_
        refine W.block ?_
        refine W.loop_ind5 (fun (i : Nat) (X : List El) (u : AV) (hp : HSt) (hl : HSt) => [(0, .str op), (1, .bool bl), (2, v), (3, .int .i64 n), (4, .bool lf), (13, u), (14, .int .i64 ((i : Nat) : Int))]) (fun (i : Nat) (X : List El) (u : AV) (hp : HSt) (hl : HSt) => ((hs ++ hp) ++ hl)) (fun (i : Nat) (X : List El) (u : AV) (hp : HSt) (hl : HSt) => i ≤ V.length ∧ P2 X = sclL (sclF op n lf) (cmpB op && !bl) ((P2 V).take i) ∧ X.length ≤ i ∧ OwnE 2 (cE X) X.length u hp ∧ (∀ x ∈ X, LIn (hs ++ hl) x.2.1 x.1) ∧ WZ hl ∧ EBd X ∧ fstE (sclG (sclF op n lf) V) V.length 0 = fstE (sclG (sclF op n lf) V) (V.length - i) i) (fun (i : Nat) (X : List El) (u : AV) (hp : HSt) (hl : HSt) => V.length - i) (0) ([]) (.nils) ([]) ([]) ⟨Nat.zero_le _, rfl, Nat.zero_le _, OwnE.nil 2, fun x hx => by simp at hx, WZ.nil, ebd_nil, rfl⟩ (SubS.cons rfl (SubS.cons rfl (SubS.cons rfl (SubS.cons rfl (SubS.cons rfl (SubS.cons rfl (SubS.cons rfl (SubS.nil _)))))))) gc (fun i X u hp hl hI0 ih0 => ?_)
        obtain ⟨h1, h2, h3, hO, hL, hwz, hXB, hfi⟩ := hI0
        have hw := hwz.w
        refine W.seq ?_
        refine W.seq ?_
        refine W.reg ?_
        refine WO.q (Q.move rfl) rfl ?_
        refine WO.q (Q.move rfl) rfl ?_
        refine WO.q (Q.len ud22 rfl (EIn.len hV)) rfl ?_
        refine WO.q (Q.bin rfl rfl rfl (bv_lss lt_nat)) rfl ?_
        refine WO.nil ?_
        refine End.K ?_
        refine W.condDS rfl (fun hc38 => ?_) (fun hc38 => ?_)
        · skip -- FFJ8L0T
          obtain ⟨bv, szv, exv, rfl, wv, mv⟩ := EIn.full hV (by omega)
          refine W.skip ?_
          refine End.K ?_
          refine W.seq ?_
          refine W.block ?_
          refine W.seq ?_
          refine W.reg ?_
          refine WO.q (Q.move rfl) rfl ?_
          refine WO.q (Q.move rfl) rfl ?_
          refine WO.q (Q.iaddrS ud22 sz35 rfl rfl (by first | omega | (simp at * <;> omega))) rfl ?_
          refine WO.q (Q.fieldAddr fa35_1 rfl rfl) rfl ?_
          refine WO.q (Q.load1 rfl (List.mem_append_left _ (List.mem_append_left _ mv)) ag3 (cE_f1 (by first | omega | (simp at * <;> omega)))) rfl ?_
          refine WO.q (Q.move rfl) rfl ?_
          refine WO.q (Q.assign rfl) rfl ?_
          refine WO.q (Q.assign rfl) rfl ?_
          refine WO.nil ?_
          refine End.K ?_
          refine W.seq ?_
          refine W.seq ?_
          refine W.reg ?_
          refine WO.q (Q.move rfl) rfl ?_
          refine WO.nil ?_
          refine End.K ?_
          refine W.condS rfl (fun hc47 => ?_) (fun hc47 => ?_)
          · skip -- FFJ8L0TT
            have hF : sclF op n lf (eg V i).2.2 = numM op n (eg V i).2.2 := (by simp [sclF, hc47])
            have hfz : fitB (numM op n (eg V i).2.2).1 = true := num_fit _ _ _
            refine W.regT (by kernel_rfl) ?_
            refine WO.q (Q.move rfl) rfl ?_
            refine WO.q (Q.move rfl) rfl ?_
            refine WO.q (Q.move rfl) rfl ?_
            refine WO.q (Q.iaddrS ud22 sz35 rfl rfl (by first | omega | (simp at * <;> omega))) rfl ?_
            refine WO.q (Q.fieldAddr fa35_1 rfl rfl) rfl ?_
            refine WO.q (Q.load1 rfl (List.mem_append_left _ (List.mem_append_left _ mv)) ag3 (cE_f1 (by first | omega | (simp at * <;> omega)))) rfl ?_
            refine WO.q (Q.assign rfl) rfl ?_
            refine WO.q (Q.assign rfl) rfl ?_
            refine WO.nil ?_
            refine End.K ?_
            refine W.sub (SubS.cons (k := 16) rfl (SubS.cons (k := 15) rfl (SubS.cons (k := 0) rfl (SubS.cons (k := 1) rfl (SubS.cons (k := 2) rfl (SubS.cons (k := 3) rfl (SubS.cons (k := 4) rfl (SubS.cons (k := 13) rfl (SubS.cons (k := 14) rfl (SubS.nil _)))))))))) ?_
            refine W.seq ?_
            refine W.reg ?_
            refine WO.q (Q.move rfl) rfl ?_
            refine WO.q (Q.move rfl) rfl ?_
            refine WO.q (Q.move rfl) rfl ?_
            refine WO.callV rfl (oLs_cons rfl (oLs_cons rfl (oLs_cons rfl oLs_nil))) rfl (rnum_spec op ho _ _) SubR.nil rfl ?_
            refine WO.q (Q.move rfl) rfl ?_
            refine WO.q (Q.extract rfl rfl) rfl ?_
            refine WO.q (Q.extract rfl rfl) rfl ?_
            refine WO.q (Q.assign rfl) rfl ?_
            refine WO.q (Q.assign rfl) rfl ?_
            refine WO.nil ?_
            refine End.K ?_
            refine W.seq ?_
            refine W.seq ?_
            refine W.reg ?_
            refine WO.q (Q.move rfl) rfl ?_
            refine WO.q (Q.bin rfl (oc (v := .int .i64 ((0 : Nat) : Int)) rfl) rfl (bv_neq ne_nat)) rfl ?_
            refine WO.nil ?_
            refine End.K ?_
            refine W.condDS rfl (fun hc62 => ?_) (fun hc62 => ?_)
            · skip -- FFJ8L0TTT
              refine W.seq ?_
              refine W.reg ?_
              refine WO.q (Q.move rfl) rfl ?_
              refine WO.q (Q.assign rfl) rfl ?_
              refine WO.q (Q.assign rfl) rfl ?_
              refine WO.nil ?_
              refine End.K ?_
              refine W.sub (SubS.cons (k := 11) rfl (SubS.cons (k := 10) rfl (SubS.nil _))) ?_
              refine W.ret ?_
              refine End.K_ret (End.KB_ret (End.K_ret (End.KL_ret (End.KB_ret (End.K_ret (End.ret (ResL.tmp rfl (ResL.tmp rfl ResL.nil)) (hs' := []) ⟨_, [], .nils, scl_pre (sclPre_e hck hfn hop (by rw [hfi]; exact fst_hit (by omega) (by unfold sclG; rw [hF]) hc62) hc62), VRes.nil, rfl⟩ no_wl (SubH.nil _)))))))
            · skip -- FFJ8L0TTF
              have hg0 : sclG (sclF op n lf) V i = 0 := (by unfold sclG; rw [hF]; exact Classical.not_not.1 hc62)
              refine W.skip ?_
              refine End.K ?_
              refine W.seq ?_
              refine W.seq ?_
              refine W.reg ?_
              refine WO.q (Q.move rfl) rfl ?_
              refine WO.callV rfl (oLs_cons rfl oLs_nil) rfl (rcps_spec _ ho) SubR.nil rfl ?_
              refine WO.q (Q.move rfl) rfl ?_
              refine WO.split (d := 66) rfl (fun hc66 => ?_) (fun hc66 => ?_)
              · skip -- FFJ8L0TTFt
                refine WO.gT rfl rfl ?_
                refine WO.q (Q.move rfl) rfl ?_
                refine WO.gT rfl rfl ?_
                refine WO.q (Q.not rfl rfl) rfl ?_
                refine WO.q (Q.pickT rfl rfl) rfl ?_
                refine WO.nil ?_
                refine End.K ?_
                refine W.sub (SubS.cons (k := 69) rfl (SubS.cons (k := 17) rfl (SubS.cons (k := 0) rfl (SubS.cons (k := 1) rfl (SubS.cons (k := 2) rfl (SubS.cons (k := 3) rfl (SubS.cons (k := 4) rfl (SubS.cons (k := 13) rfl (SubS.cons (k := 14) rfl (SubS.nil _)))))))))) ?_
                refine W.condS rfl (fun hc69 => ?_) (fun hc69 => ?_)
                · skip -- FFJ8L0TTFtT
                  refine W.seq ?_
                  refine W.seq ?_
                  refine W.reg ?_
                  refine WO.q (Q.move rfl) rfl ?_
                  refine WO.q (Q.bin rfl (oc (v := .int .i64 ((0 : Nat) : Int)) rfl) rfl (bv_neq ne_int)) rfl ?_
                  refine WO.nil ?_
                  refine End.K ?_
                  refine W.condDS rfl (fun hc71 => ?_) (fun hc71 => ?_)
                  · skip -- FFJ8L0TTFtTT
                    refine W.reg ?_
                    refine WO.q (Q.move rfl) rfl ?_
                    refine WO.q (Q.move rfl) rfl ?_
                    refine WO.q (Q.move rfl) rfl ?_
                    refine WO.q (Q.iaddrS ud22 sz35 rfl rfl (by first | omega | (simp at * <;> omega))) rfl ?_
                    refine WO.q (Q.loadN rfl (List.mem_append_left _ (List.mem_append_left _ mv)) ag35 sz35 (cE_at (by first | omega | (simp at * <;> omega)))) rfl ?_
                    refine WO.bslice ud22 sz35 zr35 rfl (oPs_cons rfl oPs_nil) rfl (cs := [_, _]) rfl (and_tt (LIn.cell (hV.at (by omega))) rfl) rfl (fun b1 => ?_)
                    refine WO.appAny (A := ([] ++ hs ++ hl)) ap22_22 hO rfl rfl (Src.slice (mem_at (i := 0) rfl) rfl) rfl (by omega) (by decide) gc rfl (fun v78 hp78 hO78 => ?_)
                    refine WO.q (Q.assign rfl) rfl ?_
                    refine WO.nil ?_
                    refine End.K ?_
                    refine W.exit ?_
                    refine End.K_exit (End.KB_hit (End.K ?_))
                    refine W.reg ?_
                    refine WO.q (Q.move rfl) rfl ?_
                    refine WO.q (Q.bin rfl (oc (v := .int .i64 ((1 : Nat) : Int)) rfl) rfl (bv_add (wn_add (by first | omega | (simp at * <;> omega))))) rfl ?_
                    refine WO.q (Q.assign rfl) rfl ?_
                    refine WO.nil ?_
                    refine End.KL ?_
                    refine W.sub (SubS.cons rfl (SubS.cons rfl (SubS.cons rfl (SubS.cons rfl (SubS.cons rfl (SubS.cons rfl (SubS.cons rfl (SubS.nil _)))))))) (W.subH gc (ih0 (i + 1) (X ++ [eg V i]) (v78) (hp78) (hl) ?_ ?_))
                    · exact ⟨by omega, scl_next h2 (by omega) (scl_yes hF (by simp_all) (by simpa using hc71)), by simp <;> omega, own_snoc hO78, lin_snocL hL (hV.at (by omega)), hwz, ebd_put hXB (by omega) (hB.at (by omega)), by rw [hfi, fst_next (by omega) hg0]⟩
                    · exact (by first | omega | (simp at * <;> omega))
                  · skip -- FFJ8L0TTFtTF
                    refine W.skip ?_
                    refine End.K ?_
                    refine W.exit ?_
                    refine End.K_exit (End.KB_hit (End.K ?_))
                    refine W.reg ?_
                    refine WO.q (Q.move rfl) rfl ?_
                    refine WO.q (Q.bin rfl (oc (v := .int .i64 ((1 : Nat) : Int)) rfl) rfl (bv_add (wn_add (by first | omega | (simp at * <;> omega))))) rfl ?_
                    refine WO.q (Q.assign rfl) rfl ?_
                    refine WO.nil ?_
                    refine End.KL ?_
                    refine W.sub (SubS.cons rfl (SubS.cons rfl (SubS.cons rfl (SubS.cons rfl (SubS.cons rfl (SubS.cons rfl (SubS.cons rfl (SubS.nil _)))))))) (W.subH gc (ih0 (i + 1) (X) (u) (hp) (hl) ?_ ?_))
                    · exact ⟨by omega, scl_none h2 (by omega) (scl_nil hF (by simp_all) (by simpa using hc71)), by omega, hO, hL, hwz, hXB, by rw [hfi, fst_next (by omega) hg0]⟩
                    · exact (by first | omega | (simp at * <;> omega))
                · skip -- FFJ8L0TTFtF
                  refine W.skip ?_
                  refine End.K ?_
                  refine W.reg ?_
                  refine WO.q (Q.move rfl) rfl ?_
                  refine WO.q (Q.move rfl) rfl ?_
                  refine WO.q (Q.move rfl) rfl ?_
                  refine WO.q (Q.iaddrS ud22 sz35 rfl rfl (by first | omega | (simp at * <;> omega))) rfl ?_
                  refine WO.q (Q.fieldAddr fa35_0 rfl rfl) rfl ?_
                  refine WO.q (Q.load1 rfl (List.mem_append_left _ (List.mem_append_left _ mv)) ag33 (cE_f0 (by first | omega | (simp at * <;> omega)))) rfl ?_
                  refine WO.call0 rfl (oLs_cons rfl oLs_nil) rfl (rnless_spec hs hro _ _ (hV.at (by omega)) (hB.at (by omega)).1) (SubR.appl (SubR.appl (SubR.self hro))) rfl (fun v85 D85 hP85 => ?_)
                  refine WO.subH (hs' := (hs ++ hl ++ D85 ++ hp)) (SubH.of_perm (perm_tailO (N := []) (G := D85) (K := []) (X := hs ++ hp ++ hl) (by simp only [List.append_assoc, List.nil_append]; exact List.perm_iff_count.2 (by intro z; simp only [List.append_eq, List.count_append, List.count_nil]; omega)))) ?_
                  refine WO.q (Q.move rfl) rfl ?_
                  refine WO.q (Q.build pl35 (oPs_cons rfl (oPs_cons rfl oPs_nil)) rfl (cs := [_, _]) (fillE2 (OwnE.cell hP85))) rfl ?_
                  refine WO.bslice ud22 sz35 zr35 rfl (oPs_cons rfl oPs_nil) rfl (cs := [_, _]) rfl (and_tt (OwnE.cell hP85) rfl) rfl (fun b2 => ?_)
                  refine WO.appAny (A := ([] ++ hs ++ hl ++ D85)) ap22_22 hO rfl rfl (Src.slice (mem_at (i := 0) rfl) rfl) rfl (by omega) (by decide) (SubH.of_sublist (List.sublist_cons_self _ _)) rfl (fun v89 hp89 hO89 => ?_)
                  refine WO.q (Q.assign rfl) rfl ?_
                  refine WO.nil ?_
                  refine End.KB (End.K ?_)
                  refine W.reg ?_
                  refine WO.q (Q.move rfl) rfl ?_
                  refine WO.q (Q.bin rfl (oc (v := .int .i64 ((1 : Nat) : Int)) rfl) rfl (bv_add (wn_add (by first | omega | (simp at * <;> omega))))) rfl ?_
                  refine WO.q (Q.assign rfl) rfl ?_
                  refine WO.nil ?_
                  refine End.KL ?_
                  refine W.sub (SubS.cons rfl (SubS.cons rfl (SubS.cons rfl (SubS.cons rfl (SubS.cons rfl (SubS.cons rfl (SubS.cons rfl (SubS.nil _)))))))) (W.subH gc (ih0 (i + 1) (X ++ [(v85, (eg V i).2.1.filter (dropP [[95, 95, 110, 97, 109, 101, 95, 95]]), (numM op n (eg V i).2.2).1)]) (v89) (hp89) (hl ++ D85) ?_ ?_))
                  · exact ⟨by omega, scl_next h2 (by omega) (scl_no hF (by simp_all)), by simp <;> omega, own_snoc hO89, lin_snocR hL (LIn.own hP85), WZ.app hwz (OwnE.wz hP85), ebd_snoc hXB (by omega) (hB.at (by omega)).1 hfz, by rw [hfi, fst_next (by omega) hg0]⟩
                  · exact (by first | omega | (simp at * <;> omega))
              · skip -- FFJ8L0TTFf
                refine WO.gF rfl rfl (.inl rfl) rfl ?_
                refine WO.gF rfl rfl (.inl rfl) rfl ?_
                refine WO.q (Q.pickF rfl rfl) rfl ?_
                refine WO.nil ?_
                refine End.K ?_
                refine W.sub (SubS.cons (k := 69) rfl (SubS.cons (k := 17) rfl (SubS.cons (k := 0) rfl (SubS.cons (k := 1) rfl (SubS.cons (k := 2) rfl (SubS.cons (k := 3) rfl (SubS.cons (k := 4) rfl (SubS.cons (k := 13) rfl (SubS.cons (k := 14) rfl (SubS.nil _)))))))))) ?_
                refine W.condF rfl ?_
                refine W.skip ?_
                refine End.K ?_
                refine W.reg ?_
                refine WO.q (Q.move rfl) rfl ?_
                refine WO.q (Q.move rfl) rfl ?_
                refine WO.q (Q.move rfl) rfl ?_
                refine WO.q (Q.iaddrS ud22 sz35 rfl rfl (by first | omega | (simp at * <;> omega))) rfl ?_
                refine WO.q (Q.fieldAddr fa35_0 rfl rfl) rfl ?_
                refine WO.q (Q.load1 rfl (List.mem_append_left _ (List.mem_append_left _ mv)) ag33 (cE_f0 (by first | omega | (simp at * <;> omega)))) rfl ?_
                refine WO.call0 rfl (oLs_cons rfl oLs_nil) rfl (rnless_spec hs hro _ _ (hV.at (by omega)) (hB.at (by omega)).1) (SubR.appl (SubR.appl (SubR.self hro))) rfl (fun v85 D85 hP85 => ?_)
                refine WO.subH (hs' := (hs ++ hl ++ D85 ++ hp)) (SubH.of_perm (perm_tailO (N := []) (G := D85) (K := []) (X := hs ++ hp ++ hl) (by simp only [List.append_assoc, List.nil_append]; exact List.perm_iff_count.2 (by intro z; simp only [List.append_eq, List.count_append, List.count_nil]; omega)))) ?_
                refine WO.q (Q.move rfl) rfl ?_
                refine WO.q (Q.build pl35 (oPs_cons rfl (oPs_cons rfl oPs_nil)) rfl (cs := [_, _]) (fillE2 (OwnE.cell hP85))) rfl ?_
                refine WO.bslice ud22 sz35 zr35 rfl (oPs_cons rfl oPs_nil) rfl (cs := [_, _]) rfl (and_tt (OwnE.cell hP85) rfl) rfl (fun b3 => ?_)
                refine WO.appAny (A := ([] ++ hs ++ hl ++ D85)) ap22_22 hO rfl rfl (Src.slice (mem_at (i := 0) rfl) rfl) rfl (by omega) (by decide) (SubH.of_sublist (List.sublist_cons_self _ _)) rfl (fun v89 hp89 hO89 => ?_)
                refine WO.q (Q.assign rfl) rfl ?_
                refine WO.nil ?_
                refine End.KB (End.K ?_)
                refine W.reg ?_
                refine WO.q (Q.move rfl) rfl ?_
                refine WO.q (Q.bin rfl (oc (v := .int .i64 ((1 : Nat) : Int)) rfl) rfl (bv_add (wn_add (by first | omega | (simp at * <;> omega))))) rfl ?_
                refine WO.q (Q.assign rfl) rfl ?_
                refine WO.nil ?_
                refine End.KL ?_
                refine W.sub (SubS.cons rfl (SubS.cons rfl (SubS.cons rfl (SubS.cons rfl (SubS.cons rfl (SubS.cons rfl (SubS.cons rfl (SubS.nil _)))))))) (W.subH gc (ih0 (i + 1) (X ++ [(v85, (eg V i).2.1.filter (dropP [[95, 95, 110, 97, 109, 101, 95, 95]]), (numM op n (eg V i).2.2).1)]) (v89) (hp89) (hl ++ D85) ?_ ?_))
                · exact ⟨by omega, scl_next h2 (by omega) (scl_no hF (by simp_all)), by simp <;> omega, own_snoc hO89, lin_snocR hL (LIn.own hP85), WZ.app hwz (OwnE.wz hP85), ebd_snoc hXB (by omega) (hB.at (by omega)).1 hfz, by rw [hfi, fst_next (by omega) hg0]⟩
                · exact (by first | omega | (simp at * <;> omega))
          · skip -- FFJ8L0TF
            have hF : sclF op n lf (eg V i).2.2 = numM op (eg V i).2.2 n := (by simp [sclF, hc47])
            have hfz : fitB (numM op (eg V i).2.2 n).1 = true := num_fit _ _ _
            refine W.skip ?_
            refine End.K ?_
            refine W.seq ?_
            refine W.reg ?_
            refine WO.q (Q.move rfl) rfl ?_
            refine WO.q (Q.move rfl) rfl ?_
            refine WO.q (Q.move rfl) rfl ?_
            refine WO.callV rfl (oLs_cons rfl (oLs_cons rfl (oLs_cons rfl oLs_nil))) rfl (rnum_spec op ho _ _) SubR.nil rfl ?_
            refine WO.q (Q.move rfl) rfl ?_
            refine WO.q (Q.extract rfl rfl) rfl ?_
            refine WO.q (Q.extract rfl rfl) rfl ?_
            refine WO.q (Q.assign rfl) rfl ?_
            refine WO.q (Q.assign rfl) rfl ?_
            refine WO.nil ?_
            refine End.K ?_
            refine W.sub (SubS.cons (k := 18) rfl (SubS.cons (k := 17) rfl (SubS.cons (k := 0) rfl (SubS.cons (k := 1) rfl (SubS.cons (k := 2) rfl (SubS.cons (k := 3) rfl (SubS.cons (k := 4) rfl (SubS.cons (k := 13) rfl (SubS.cons (k := 14) rfl (SubS.nil _)))))))))) ?_
            refine W.seq ?_
            refine W.seq ?_
            refine W.reg ?_
            refine WO.q (Q.move rfl) rfl ?_
            refine WO.q (Q.bin rfl (oc (v := .int .i64 ((0 : Nat) : Int)) rfl) rfl (bv_neq ne_nat)) rfl ?_
            refine WO.nil ?_
            refine End.K ?_
            refine W.condDS rfl (fun hc62 => ?_) (fun hc62 => ?_)
            · skip -- FFJ8L0TFT
              refine W.seq ?_
              refine W.reg ?_
              refine WO.q (Q.move rfl) rfl ?_
              refine WO.q (Q.assign rfl) rfl ?_
              refine WO.q (Q.assign rfl) rfl ?_
              refine WO.nil ?_
              refine End.K ?_
              refine W.ret ?_
              refine End.K_ret (End.KB_ret (End.K_ret (End.KL_ret (End.KB_ret (End.K_ret (End.ret (ResL.tmp rfl (ResL.tmp rfl ResL.nil)) (hs' := []) ⟨_, [], .nils, scl_pre (sclPre_e hck hfn hop (by rw [hfi]; exact fst_hit (by omega) (by unfold sclG; rw [hF]) hc62) hc62), VRes.nil, rfl⟩ no_wl (SubH.nil _)))))))
            · skip -- FFJ8L0TFF
              have hg0 : sclG (sclF op n lf) V i = 0 := (by unfold sclG; rw [hF]; exact Classical.not_not.1 hc62)
              refine W.skip ?_
              refine End.K ?_
              refine W.seq ?_
              refine W.seq ?_
              refine W.reg ?_
              refine WO.q (Q.move rfl) rfl ?_
              refine WO.callV rfl (oLs_cons rfl oLs_nil) rfl (rcps_spec _ ho) SubR.nil rfl ?_
              refine WO.q (Q.move rfl) rfl ?_
              refine WO.split (d := 66) rfl (fun hc66 => ?_) (fun hc66 => ?_)
              · skip -- FFJ8L0TFFt
                refine WO.gT rfl rfl ?_
                refine WO.q (Q.move rfl) rfl ?_
                refine WO.gT rfl rfl ?_
                refine WO.q (Q.not rfl rfl) rfl ?_
                refine WO.q (Q.pickT rfl rfl) rfl ?_
                refine WO.nil ?_
                refine End.K ?_
                refine W.condS rfl (fun hc69 => ?_) (fun hc69 => ?_)
                · skip -- FFJ8L0TFFtT
                  refine W.seq ?_
                  refine W.seq ?_
                  refine W.reg ?_
                  refine WO.q (Q.move rfl) rfl ?_
                  refine WO.q (Q.bin rfl (oc (v := .int .i64 ((0 : Nat) : Int)) rfl) rfl (bv_neq ne_int)) rfl ?_
                  refine WO.nil ?_
                  refine End.K ?_
                  refine W.condDS rfl (fun hc71 => ?_) (fun hc71 => ?_)
                  · skip -- FFJ8L0TFFtTT
                    refine W.reg ?_
                    refine WO.q (Q.move rfl) rfl ?_
                    refine WO.q (Q.move rfl) rfl ?_
                    refine WO.q (Q.move rfl) rfl ?_
                    refine WO.q (Q.iaddrS ud22 sz35 rfl rfl (by first | omega | (simp at * <;> omega))) rfl ?_
                    refine WO.q (Q.loadN rfl (List.mem_append_left _ (List.mem_append_left _ mv)) ag35 sz35 (cE_at (by first | omega | (simp at * <;> omega)))) rfl ?_
                    refine WO.bslice ud22 sz35 zr35 rfl (oPs_cons rfl oPs_nil) rfl (cs := [_, _]) rfl (and_tt (LIn.cell (hV.at (by omega))) rfl) rfl (fun b4 => ?_)
                    refine WO.appAny (A := ([] ++ hs ++ hl)) ap22_22 hO rfl rfl (Src.slice (mem_at (i := 0) rfl) rfl) rfl (by omega) (by decide) gc rfl (fun v78 hp78 hO78 => ?_)
                    refine WO.q (Q.assign rfl) rfl ?_
                    refine WO.nil ?_
                    refine End.K ?_
                    refine W.sub (SubS.cons (k := 13) rfl (SubS.cons (k := 0) rfl (SubS.cons (k := 1) rfl (SubS.cons (k := 2) rfl (SubS.cons (k := 3) rfl (SubS.cons (k := 4) rfl (SubS.cons (k := 14) rfl (SubS.nil _)))))))) ?_
                    refine W.exit ?_
                    refine End.K_exit (End.KB_hit (End.K ?_))
                    refine W.reg ?_
                    refine WO.q (Q.move rfl) rfl ?_
                    refine WO.q (Q.bin rfl (oc (v := .int .i64 ((1 : Nat) : Int)) rfl) rfl (bv_add (wn_add (by first | omega | (simp at * <;> omega))))) rfl ?_
                    refine WO.q (Q.assign rfl) rfl ?_
                    refine WO.nil ?_
                    refine End.KL ?_
                    refine W.sub (SubS.cons rfl (SubS.cons rfl (SubS.cons rfl (SubS.cons rfl (SubS.cons rfl (SubS.cons rfl (SubS.cons rfl (SubS.nil _)))))))) (W.subH gc (ih0 (i + 1) (X ++ [eg V i]) (v78) (hp78) (hl) ?_ ?_))
                    · exact ⟨by omega, scl_next h2 (by omega) (scl_yes hF (by simp_all) (by simpa using hc71)), by simp <;> omega, own_snoc hO78, lin_snocL hL (hV.at (by omega)), hwz, ebd_put hXB (by omega) (hB.at (by omega)), by rw [hfi, fst_next (by omega) hg0]⟩
                    · exact (by first | omega | (simp at * <;> omega))
                  · skip -- FFJ8L0TFFtTF
                    refine W.skip ?_
                    refine End.K ?_
                    refine W.exit ?_
                    refine End.K_exit (End.KB_hit (End.K ?_))
                    refine W.reg ?_
                    refine WO.q (Q.move rfl) rfl ?_
                    refine WO.q (Q.bin rfl (oc (v := .int .i64 ((1 : Nat) : Int)) rfl) rfl (bv_add (wn_add (by first | omega | (simp at * <;> omega))))) rfl ?_
                    refine WO.q (Q.assign rfl) rfl ?_
                    refine WO.nil ?_
                    refine End.KL ?_
                    refine W.sub (SubS.cons rfl (SubS.cons rfl (SubS.cons rfl (SubS.cons rfl (SubS.cons rfl (SubS.cons rfl (SubS.cons rfl (SubS.nil _)))))))) (W.subH gc (ih0 (i + 1) (X) (u) (hp) (hl) ?_ ?_))
                    · exact ⟨by omega, scl_none h2 (by omega) (scl_nil hF (by simp_all) (by simpa using hc71)), by omega, hO, hL, hwz, hXB, by rw [hfi, fst_next (by omega) hg0]⟩
                    · exact (by first | omega | (simp at * <;> omega))
                · skip -- FFJ8L0TFFtF
                  refine W.skip ?_
                  refine End.K ?_
                  refine W.reg ?_
                  refine WO.q (Q.move rfl) rfl ?_
                  refine WO.q (Q.move rfl) rfl ?_
                  refine WO.q (Q.move rfl) rfl ?_
                  refine WO.q (Q.iaddrS ud22 sz35 rfl rfl (by first | omega | (simp at * <;> omega))) rfl ?_
                  refine WO.q (Q.fieldAddr fa35_0 rfl rfl) rfl ?_
                  refine WO.q (Q.load1 rfl (List.mem_append_left _ (List.mem_append_left _ mv)) ag33 (cE_f0 (by first | omega | (simp at * <;> omega)))) rfl ?_
                  refine WO.call0 rfl (oLs_cons rfl oLs_nil) rfl (rnless_spec hs hro _ _ (hV.at (by omega)) (hB.at (by omega)).1) (SubR.appl (SubR.appl (SubR.self hro))) rfl (fun v85 D85 hP85 => ?_)
                  refine WO.subH (hs' := (hs ++ hl ++ D85 ++ hp)) (SubH.of_perm (perm_tailO (N := []) (G := D85) (K := []) (X := hs ++ hp ++ hl) (by simp only [List.append_assoc, List.nil_append]; exact List.perm_iff_count.2 (by intro z; simp only [List.append_eq, List.count_append, List.count_nil]; omega)))) ?_
                  refine WO.q (Q.move rfl) rfl ?_
                  refine WO.q (Q.build pl35 (oPs_cons rfl (oPs_cons rfl oPs_nil)) rfl (cs := [_, _]) (fillE2 (OwnE.cell hP85))) rfl ?_
                  refine WO.bslice ud22 sz35 zr35 rfl (oPs_cons rfl oPs_nil) rfl (cs := [_, _]) rfl (and_tt (OwnE.cell hP85) rfl) rfl (fun b5 => ?_)
                  refine WO.appAny (A := ([] ++ hs ++ hl ++ D85)) ap22_22 hO rfl rfl (Src.slice (mem_at (i := 0) rfl) rfl) rfl (by omega) (by decide) (SubH.of_sublist (List.sublist_cons_self _ _)) rfl (fun v89 hp89 hO89 => ?_)
                  refine WO.q (Q.assign rfl) rfl ?_
                  refine WO.nil ?_
                  refine End.KB (End.K ?_)
                  refine W.sub (SubS.cons (k := 13) rfl (SubS.cons (k := 0) rfl (SubS.cons (k := 1) rfl (SubS.cons (k := 2) rfl (SubS.cons (k := 3) rfl (SubS.cons (k := 4) rfl (SubS.cons (k := 14) rfl (SubS.nil _)))))))) ?_
                  refine W.reg ?_
                  refine WO.q (Q.move rfl) rfl ?_
                  refine WO.q (Q.bin rfl (oc (v := .int .i64 ((1 : Nat) : Int)) rfl) rfl (bv_add (wn_add (by first | omega | (simp at * <;> omega))))) rfl ?_
                  refine WO.q (Q.assign rfl) rfl ?_
                  refine WO.nil ?_
                  refine End.KL ?_
                  refine W.sub (SubS.cons rfl (SubS.cons rfl (SubS.cons rfl (SubS.cons rfl (SubS.cons rfl (SubS.cons rfl (SubS.cons rfl (SubS.nil _)))))))) (W.subH gc (ih0 (i + 1) (X ++ [(v85, (eg V i).2.1.filter (dropP [[95, 95, 110, 97, 109, 101, 95, 95]]), (numM op (eg V i).2.2 n).1)]) (v89) (hp89) (hl ++ D85) ?_ ?_))
                  · exact ⟨by omega, scl_next h2 (by omega) (scl_no hF (by simp_all)), by simp <;> omega, own_snoc hO89, lin_snocR hL (LIn.own hP85), WZ.app hwz (OwnE.wz hP85), ebd_snoc hXB (by omega) (hB.at (by omega)).1 hfz, by rw [hfi, fst_next (by omega) hg0]⟩
                  · exact (by first | omega | (simp at * <;> omega))
              · skip -- FFJ8L0TFFf
                refine WO.gF rfl rfl (.inl rfl) rfl ?_
                refine WO.gF rfl rfl (.inl rfl) rfl ?_
                refine WO.q (Q.pickF rfl rfl) rfl ?_
                refine WO.nil ?_
                refine End.K ?_
                refine W.condF rfl ?_
                refine W.skip ?_
                refine End.K ?_
                refine W.reg ?_
                refine WO.q (Q.move rfl) rfl ?_
                refine WO.q (Q.move rfl) rfl ?_
                refine WO.q (Q.move rfl) rfl ?_
                refine WO.q (Q.iaddrS ud22 sz35 rfl rfl (by first | omega | (simp at * <;> omega))) rfl ?_
                refine WO.q (Q.fieldAddr fa35_0 rfl rfl) rfl ?_
                refine WO.q (Q.load1 rfl (List.mem_append_left _ (List.mem_append_left _ mv)) ag33 (cE_f0 (by first | omega | (simp at * <;> omega)))) rfl ?_
                refine WO.call0 rfl (oLs_cons rfl oLs_nil) rfl (rnless_spec hs hro _ _ (hV.at (by omega)) (hB.at (by omega)).1) (SubR.appl (SubR.appl (SubR.self hro))) rfl (fun v85 D85 hP85 => ?_)
                refine WO.subH (hs' := (hs ++ hl ++ D85 ++ hp)) (SubH.of_perm (perm_tailO (N := []) (G := D85) (K := []) (X := hs ++ hp ++ hl) (by simp only [List.append_assoc, List.nil_append]; exact List.perm_iff_count.2 (by intro z; simp only [List.append_eq, List.count_append, List.count_nil]; omega)))) ?_
                refine WO.q (Q.move rfl) rfl ?_
                refine WO.q (Q.build pl35 (oPs_cons rfl (oPs_cons rfl oPs_nil)) rfl (cs := [_, _]) (fillE2 (OwnE.cell hP85))) rfl ?_
                refine WO.bslice ud22 sz35 zr35 rfl (oPs_cons rfl oPs_nil) rfl (cs := [_, _]) rfl (and_tt (OwnE.cell hP85) rfl) rfl (fun b6 => ?_)
                refine WO.appAny (A := ([] ++ hs ++ hl ++ D85)) ap22_22 hO rfl rfl (Src.slice (mem_at (i := 0) rfl) rfl) rfl (by omega) (by decide) (SubH.of_sublist (List.sublist_cons_self _ _)) rfl (fun v89 hp89 hO89 => ?_)
                refine WO.q (Q.assign rfl) rfl ?_
                refine WO.nil ?_
                refine End.KB (End.K ?_)
                refine W.sub (SubS.cons (k := 13) rfl (SubS.cons (k := 0) rfl (SubS.cons (k := 1) rfl (SubS.cons (k := 2) rfl (SubS.cons (k := 3) rfl (SubS.cons (k := 4) rfl (SubS.cons (k := 14) rfl (SubS.nil _)))))))) ?_
                refine W.reg ?_
                refine WO.q (Q.move rfl) rfl ?_
                refine WO.q (Q.bin rfl (oc (v := .int .i64 ((1 : Nat) : Int)) rfl) rfl (bv_add (wn_add (by first | omega | (simp at * <;> omega))))) rfl ?_
                refine WO.q (Q.assign rfl) rfl ?_
                refine WO.nil ?_
                refine End.KL ?_
                refine W.sub (SubS.cons rfl (SubS.cons rfl (SubS.cons rfl (SubS.cons rfl (SubS.cons rfl (SubS.cons rfl (SubS.cons rfl (SubS.nil _)))))))) (W.subH gc (ih0 (i + 1) (X ++ [(v85, (eg V i).2.1.filter (dropP [[95, 95, 110, 97, 109, 101, 95, 95]]), (numM op (eg V i).2.2 n).1)]) (v89) (hp89) (hl ++ D85) ?_ ?_))
                · exact ⟨by omega, scl_next h2 (by omega) (scl_no hF (by simp_all)), by simp <;> omega, own_snoc hO89, lin_snocR hL (LIn.own hP85), WZ.app hwz (OwnE.wz hP85), ebd_snoc hXB (by omega) (hB.at (by omega)).1 hfz, by rw [hfi, fst_next (by omega) hg0]⟩
                · exact (by first | omega | (simp at * <;> omega))
        · skip -- FFJ8L0F
          have hXe : P2 X = sclL (sclF op n lf) (cmpB op && !bl) (P2 V) := (by rw [h2, List.take_of_length_le (by simp [P2]; omega)])
          have hf0 : fstE (sclG (sclF op n lf) V) V.length 0 = 0 := (by rw [hfi]; exact fst_done (by omega))
          refine W.exit ?_
          refine End.K_exit (End.KL_exit (End.KB_hit (End.K ?_)))
          refine W.seq ?_
          refine W.reg ?_
          refine WO.q (Q.move rfl) rfl ?_
          refine WO.call0 rfl (oLs_cons rfl oLs_nil) rfl (rord_spec (ro (hp ++ hl) ++ hs) (ro_app hro) X u (EIn.mixd hO hL) hXB) (SubR.mix gc hro) rfl (fun v91 D91 hP91 => ?_)
          obtain ⟨e91, W91, w91, hR91, hM91, hO91, rfl⟩ := hP91
          refine WO.subH (hs' := (hs ++ hp ++ hl ++ D91)) (SubH.of_perm (perm_tail (N := []) (G := D91) (K := []) (X := hs ++ hp ++ hl))) ?_
          refine WO.q (Q.extract rfl rfl) rfl ?_
          refine WO.q (Q.extract rfl rfl) rfl ?_
          refine WO.q (Q.assign rfl) rfl ?_
          refine WO.q (Q.assign rfl) rfl ?_
          refine WO.nil ?_
          refine End.K ?_
          refine W.sub (SubS.cons (k := 11) rfl (SubS.cons (k := 10) rfl (SubS.nil _))) ?_
          refine W.ret ?_
          refine End.ret (ResL.tmp rfl (ResL.tmp rfl ResL.nil)) (hs' := D91 ++ hl) ⟨e91, W91, w91, scl_go (sclPre_no hck hfn hop hf0) (hXe ▸ hR91), ⟨D91, hl, rfl, hO91, fun x hx => hL x (hM91 x hx), hw, ord_ebd hR91 hM91 hXB⟩, rfl⟩ (wa (OwnE.w hO91) hw) gc
      · skip
        refine W.seq ?_
        refine W.reg ?_
        refine WO.q (Q.move rfl) rfl ?_
        refine WO.callV rfl (oLs_cons rfl oLs_nil) rfl (rari_spec _ ho) SubR.nil rfl ?_
        refine WO.q (Q.not rfl rfl) rfl ?_
        refine WO.q (Q.move rfl) rfl ?_
        refine WO.split (d := 30) rfl (fun hc30 => ?_) (fun hc30 => ?_)
        · skip -- FFt
          refine WO.gT rfl rfl ?_
          refine WO.q (Q.move rfl) rfl ?_
          refine WO.gT rfl rfl ?_
          refine WO.callV rfl (oLs_cons rfl oLs_nil) rfl (rcps_spec _ ho) SubR.nil rfl ?_
          refine WO.gT rfl rfl ?_
          refine WO.q (Q.not rfl rfl) rfl ?_
          refine WO.q (Q.pickT rfl rfl) rfl ?_
          refine WO.nil ?_
          refine End.K ?_
          refine W.sub (SubS.cons (k := 34) rfl (SubS.cons (k := 0) rfl (SubS.cons (k := 1) rfl (SubS.cons (k := 2) rfl (SubS.cons (k := 3) rfl (SubS.cons (k := 4) rfl (SubS.nil _))))))) ?_
          refine W.condS rfl (fun hc34 => ?_) (fun hc34 => ?_)
          · skip -- FFtT
            refine W.seq ?_
            refine W.reg ?_
            refine WO.q (Q.assign rfl) rfl ?_
            refine WO.q (Q.assign (oc (v := .int .i64 ((9 : Nat) : Int)) rfl)) rfl ?_
            refine WO.nil ?_
            refine End.K ?_
            refine W.ret ?_
            refine End.K_ret (End.ret (ResL.tmp rfl (ResL.tmp rfl ResL.nil)) (hs' := []) ⟨_, [], .nils, scl_pre (sclPre_9 hck hfn (by simp_all) (by simp_all)), VRes.nil, rfl⟩ no_wl (SubH.nil _))
          · skip -- FFtF
            refine W.skip ?_
            refine End.K (W.sub (SubS.cons rfl (SubS.cons rfl (SubS.cons rfl (SubS.cons rfl (SubS.cons rfl (SubS.nil _)))))) (W.subH (SubH.refl _) (hJ8 (()) ?_)))
            exact (by simp_all)
        · skip -- FFf
          refine WO.gF rfl rfl (.inl rfl) rfl ?_
          refine WO.gF rfl rfl (.inl rfl) rfl ?_
          refine WO.gF rfl rfl (.inl rfl) rfl ?_
          refine WO.q (Q.pickF rfl rfl) rfl ?_
          refine WO.nil ?_
          refine End.K ?_
          refine W.sub (SubS.cons (k := 34) rfl (SubS.cons (k := 0) rfl (SubS.cons (k := 1) rfl (SubS.cons (k := 2) rfl (SubS.cons (k := 3) rfl (SubS.cons (k := 4) rfl (SubS.nil _))))))) ?_
          refine W.condF rfl ?_
          refine W.skip ?_
          refine End.K (W.sub (SubS.cons rfl (SubS.cons rfl (SubS.cons rfl (SubS.cons rfl (SubS.cons rfl (SubS.nil _)))))) (W.subH (SubH.refl _) (hJ8 (()) ?_)))
          exact (by simp_all)
end Go.Proofs.YtmblgaehfjheeaaGreat.Ev
