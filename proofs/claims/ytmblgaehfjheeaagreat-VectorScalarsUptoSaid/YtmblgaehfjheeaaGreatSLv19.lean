/- Chapter 19: VectorScalars, of any vector in memory. -/
import Derived.Test.YtmblgaehfjheeaaGreatSZc
import Derived.Test.YtmblgaehfjheeaaGreatSAwA
import Derived.Test.YtmblgaehfjheeaaGreatProg
namespace Go.Proofs.YtmblgaehfjheeaaGreat.Ev
open Go.RowKit
set_option linter.unusedVariables false
set_option linter.unusedSimpArgs false
set_option maxRecDepth 100000
set_option maxHeartbeats 1000000
theorem VRes.ein {hs : HSt} {W : List El} {w : AV} {D : HSt} (h : VRes hs W w D) : EIn (ro D ++ hs) W w := by
  obtain ⟨hp, hl, rfl, hO, hL, _, _⟩ := h
  exact EIn.mixd hO hL
theorem VRes.ebd {hs : HSt} {W : List El} {w : AV} {D : HSt} (h : VRes hs W w D) : EBd W := by
  obtain ⟨hp, hl, rfl, hO, hL, _, h⟩ := h
  exact h
theorem MemH.mixd2 {A D hs : HSt} {b : Nat} {o : AObj} (h : MemH (Ev.ro D ++ hs) b o) : MemH (Ev.ro (A ++ D) ++ hs) b o := by
  obtain ⟨w, g⟩ := h
  rcases List.mem_append.1 g with g | g
  · exact (MemH.ro_r ⟨w, g⟩).appl
  · exact ⟨w, List.mem_append_right _ g⟩
theorem scl_p2 {op : List Nat} {bl lf : Bool} {n : Int} {X V : List El} (h : P2 X = P2 V) : SclR op bl n lf V = SclR op bl n lf X := by
  have e2 : sclG (sclF op n lf) V = sclG (sclF op n lf) X := by funext i; unfold sclG; rw [p2_at h i]
  have e1 : sclPre op n lf V = sclPre op n lf X := by unfold sclPre; rw [vchk_p2 h, e2, p2_length h]
  funext e W
  unfold SclR
  rw [e1, h]
theorem law_scalars (hs : HSt) (hro : ∀ e ∈ hs, e.w = false) (V : List El) (v : AV) (hV : EIn hs V v) (hB : EBd V) (op : List Nat) (ho : Bytes op) (bl : Bool) (n : Int) (lf : Bool) : Spec tab 3 [.str op, .bool bl, v, .int .i64 n, .bool lf] [] hs (Val (.bool true)) := by
  have hBl := hB.1
  refine Spec.enter' (ft_get 3 Tryz.func3) rfl (m := 88) rfl (rs := [.tmp 10]) rfl (st := [(0, .str op), (1, .bool bl), (2, v), (3, .int .i64 n), (4, .bool lf)]) rfl rfl (fun _ => rfl) (fun E => ?_)
  refine W.seq ?_
  refine W.reg ?_
  refine WO.q (Q.assign rfl) rfl ?_
  refine WO.nil ?_
  refine End.K ?_
  refine W.seq ?_
  refine W.reg ?_
  refine WO.q (Q.move rfl) rfl ?_
  refine WO.call0 rfl (oLs_cons rfl oLs_nil) rfl (own_spec hs hro V v hV hB) (SubR.self hro) rfl (fun v21 D21 hP21 => ?_)
  obtain ⟨X, hX2, hO21⟩ := hP21
  have hI21 := VOwn.ein hO21
  have hXB := VOwn.ebd hO21
  have hck : vchk X = vchk V := vchk_p2 hX2
  refine WO.subH (hs' := (hs ++ D21)) (SubH.of_perm (perm_tail (N := []) (G := D21) (K := []) (X := hs))) ?_
  refine WO.q (Q.assign rfl) rfl ?_
  refine WO.nil ?_
  refine End.K ?_
  refine W.seq ?_
  refine W.reg ?_
  refine WO.q (Q.move rfl) rfl ?_
  refine WO.q (Q.move rfl) rfl ?_
  refine WO.q (Q.move rfl) rfl ?_
  refine WO.q (Q.move rfl) rfl ?_
  refine WO.q (Q.move rfl) rfl ?_
  refine WO.call0 rfl (oLs_cons rfl (oLs_cons rfl (oLs_cons rfl (oLs_cons rfl (oLs_cons rfl oLs_nil))))) rfl (scl_spec (ro D21) ro_w X _ hI21 hXB op ho bl n lf) (SubR.ro gc) rfl (fun v28 D28 hP28 => ?_)
  obtain ⟨e28, W28, w28, hR28, hO28, rfl⟩ := hP28
  refine WO.subH (hs' := (hs ++ D21 ++ D28)) (SubH.of_perm (perm_tail (N := []) (G := D28) (K := []) (X := hs ++ D21))) ?_
  refine WO.q (Q.move rfl) rfl ?_
  refine WO.q (Q.extract rfl rfl) rfl ?_
  refine WO.q (Q.extract rfl rfl) rfl ?_
  refine WO.q (Q.assign rfl) rfl ?_
  refine WO.q (Q.assign rfl) rfl ?_
  refine WO.nil ?_
  refine End.K ?_
  refine W.seq ?_
  refine W.reg ?_
  refine WO.q (Q.move rfl) rfl ?_
  refine WO.q (Q.move rfl) rfl ?_
  refine WO.q (Q.move rfl) rfl ?_
  refine WO.q (Q.move rfl) rfl ?_
  refine WO.q (Q.move rfl) rfl ?_
  refine WO.call0 rfl (oLs_cons rfl (oLs_cons rfl (oLs_cons rfl (oLs_cons rfl (oLs_cons rfl oLs_nil))))) rfl (rscl_spec hs hro V v hV hB op ho bl n lf) (SubR.appl (SubR.appl (SubR.self hro))) rfl (fun v37 D37 hP37 => ?_)
  obtain ⟨e37, W37, w37, hR37, hO37, rfl⟩ := hP37
  refine WO.subH (hs' := (hs ++ D21 ++ D28 ++ D37)) (SubH.of_perm (perm_tail (N := []) (G := D37) (K := []) (X := hs ++ D21 ++ D28))) ?_
  refine WO.q (Q.move rfl) rfl ?_
  refine WO.q (Q.extract rfl rfl) rfl ?_
  refine WO.q (Q.extract rfl rfl) rfl ?_
  refine WO.q (Q.assign rfl) rfl ?_
  refine WO.q (Q.assign rfl) rfl ?_
  refine WO.nil ?_
  refine End.K ?_
  refine W.sub (SubS.cons (k := 15) rfl (SubS.cons (k := 14) rfl (SubS.cons (k := 13) rfl (SubS.cons (k := 12) rfl (SubS.cons (k := 11) rfl (SubS.cons (k := 0) rfl (SubS.cons (k := 2) rfl (SubS.cons (k := 3) rfl (SubS.nil _))))))))) ?_
  refine W.seq ?_
  refine W.seq ?_
  refine W.reg ?_
  refine WO.q (Q.move rfl) rfl ?_
  refine WO.q (Q.move rfl) rfl ?_
  refine WO.callV rfl (oLs_cons rfl (oLs_cons rfl oLs_nil)) rfl (vsame_spec (ro (D28 ++ D37) ++ hs) (ro_app hro) W28 W37 _ _ (hO28.ein.mono fun b o h => (MemH.ro_l h).appl) (hO37.ein.mono fun b o h => MemH.mixd2 h) hO28.ebd hO37.ebd) (SubR.mix gc hro) rfl ?_
  refine WO.q (Q.not rfl not_dec) rfl ?_
  refine WO.q (Q.move rfl) rfl ?_
  refine WO.splitD (d := 44) rfl (fun hc44 => ?_) (fun hc44 => ?_)
  · exact absurd (hR28.fn ((scl_p2 hX2) ▸ hR37)).2 (by simpa using hc44)
  · skip -- f
    refine WO.gT rfl rfl ?_
    refine WO.q (Q.move rfl) rfl ?_
    refine WO.gT rfl rfl ?_
    refine WO.q (Q.move rfl) rfl ?_
    refine WO.gT rfl rfl ?_
    refine WO.q (Q.bin rfl rfl rfl (bv_neq ne_nat)) rfl ?_
    refine WO.q (Q.pickF rfl rfl) rfl ?_
    refine WO.nil ?_
    refine End.K ?_
    refine W.condDS rfl (fun hc48 => ?_) (fun hc48 => ?_)
    · exact absurd (hR28.fn ((scl_p2 hX2) ▸ hR37)).1 (by simpa using hc48)
    · skip -- fF
      refine W.skip ?_
      refine End.K ?_
      refine W.seq ?_
      refine W.reg ?_
      refine WO.q (Q.move rfl) rfl ?_
      refine WO.callS (M := D28) (A := (hs ++ D21 ++ D37)) rfl (oLs_cons rfl oLs_nil) rfl hO28.w gc (spl_spec W28 w28 D28 hO28) SubR.nil rfl (fun v50 D50 hP50 => ?_)
      obtain ⟨rfl, rfl⟩ := hP50
      refine WO.subH (hs' := (hs ++ D21 ++ D37)) (SubH.refl _) ?_
      refine WO.nil ?_
      refine End.K ?_
      refine W.sub (SubS.cons (k := 11) rfl (SubS.cons (k := 0) rfl (SubS.cons (k := 2) rfl (SubS.cons (k := 3) rfl (SubS.nil _))))) ?_
      refine W.seqJ1 (fun (q : Unit) => [(2, v), (11, v21)]) (fun (q : Unit) => (hs ++ D37 ++ D21)) (fun (q : Unit) => True) (fun q hI12 => ?_) (fun hJ12 => ?_)
      · skip -- fFJ12
        refine W.seq ?_
        refine W.reg ?_
        refine WO.q (Q.move rfl) rfl ?_
        refine WO.q (Q.move rfl) rfl ?_
        refine WO.callV rfl (oLs_cons rfl (oLs_cons rfl oLs_nil)) rfl (vsame_spec (ro D21 ++ hs) (ro_app hro) X V _ _ (hI21.mono fun b o h => h.appl) (hV.mono fun b o h => h.app) hXB hB) (SubR.mix gc hro) rfl ?_
        refine WO.q (Q.move rfl) rfl ?_
        refine WO.splitD (d := 85) rfl (fun hc85 => ?_) (fun hc85 => ?_)
        · skip -- fFJ12t
          refine WO.gT rfl rfl ?_
          refine WO.callV rfl oLs_nil rfl (Spec.known (fun _ => rfl)) SubR.nil rfl ?_
          refine WO.q (Q.pickT rfl rfl) rfl ?_
          refine WO.q (Q.assign rfl) rfl ?_
          refine WO.nil ?_
          refine End.K ?_
          refine W.ret ?_
          refine End.retV (ResL.tmp rfl ResL.nil) ?_
          rfl
        · exact absurd hX2 (by simpa using hc85)
      · skip
        refine W.seq ?_
        refine W.reg ?_
        refine WO.q (Q.move rfl) rfl ?_
        refine WO.q (Q.len ud22 rfl (EIn.len hV)) rfl ?_
        refine WO.q (Q.bin rfl (oc (v := .int .i64 ((0 : Nat) : Int)) rfl) rfl (bv_gtr lt_nat)) rfl ?_
        refine WO.nil ?_
        refine End.K ?_
        refine W.condDS rfl (fun hc53 => ?_) (fun hc53 => ?_)
        · skip -- fFT
          obtain ⟨bv, szv, exv, rfl, wv, mv⟩ := EIn.full hV (by omega)
          refine W.seq ?_
          refine W.reg ?_
          refine WO.q (Q.move rfl) rfl ?_
          refine WO.q (Q.move rfl) rfl ?_
          refine WO.q (Q.iaddrL ud22 sz35 rfl (oc (v := .int .i64 ((0 : Nat) : Int)) rfl) (by first | omega | (simp at * <;> omega)) (o' := 0) rfl) rfl ?_
          refine WO.q (Q.fieldAddr fa35_1 rfl (o' := 1) rfl) rfl ?_
          refine WO.q (Q.load1 rfl (List.mem_append_left _ (List.mem_append_left _ mv)) ag3 (cE_f1 (i := 0) (by first | omega | (simp at * <;> omega)))) rfl ?_
          refine WO.q (Q.move rfl) rfl ?_
          refine WO.callV rfl (oLs_cons rfl (oLs_cons rfl (oLs_cons rfl oLs_nil))) rfl (num_spec op ho _ _) SubR.nil rfl ?_
          refine WO.q (Q.move rfl) rfl ?_
          refine WO.q (Q.extract rfl rfl) rfl ?_
          refine WO.q (Q.extract rfl rfl) rfl ?_
          refine WO.q (Q.assign rfl) rfl ?_
          refine WO.q (Q.assign rfl) rfl ?_
          refine WO.nil ?_
          refine End.K ?_
          refine W.seq ?_
          refine W.reg ?_
          refine WO.q (Q.move rfl) rfl ?_
          refine WO.q (Q.move rfl) rfl ?_
          refine WO.q (Q.iaddrL ud22 sz35 rfl (oc (v := .int .i64 ((0 : Nat) : Int)) rfl) (by first | omega | (simp at * <;> omega)) (o' := 0) rfl) rfl ?_
          refine WO.q (Q.fieldAddr fa35_1 rfl (o' := 1) rfl) rfl ?_
          refine WO.q (Q.load1 rfl (List.mem_append_left _ (List.mem_append_left _ mv)) ag3 (cE_f1 (i := 0) (by first | omega | (simp at * <;> omega)))) rfl ?_
          refine WO.q (Q.move rfl) rfl ?_
          refine WO.callV rfl (oLs_cons rfl (oLs_cons rfl (oLs_cons rfl oLs_nil))) rfl (rnum_spec op ho _ _) SubR.nil rfl ?_
          refine WO.q (Q.move rfl) rfl ?_
          refine WO.q (Q.extract rfl rfl) rfl ?_
          refine WO.q (Q.extract rfl rfl) rfl ?_
          refine WO.q (Q.assign rfl) rfl ?_
          refine WO.q (Q.assign rfl) rfl ?_
          refine WO.nil ?_
          refine End.K ?_
          refine W.sub (SubS.cons (k := 19) rfl (SubS.cons (k := 18) rfl (SubS.cons (k := 17) rfl (SubS.cons (k := 16) rfl (SubS.cons (k := 11) rfl (SubS.cons (k := 2) rfl (SubS.nil _))))))) ?_
          refine W.seq ?_
          refine W.reg ?_
          refine WO.q (Q.move rfl) rfl ?_
          refine WO.q (Q.move rfl) rfl ?_
          refine WO.q (Q.bin rfl rfl rfl (bv_neq ne_int)) rfl ?_
          refine WO.q (Q.move rfl) rfl ?_
          refine WO.splitD (d := 77) rfl (fun hc77 => ?_) (fun hc77 => ?_)
          · exact absurd rfl hc77
          · skip -- fFTf
            refine WO.gT rfl rfl ?_
            refine WO.q (Q.move rfl) rfl ?_
            refine WO.gT rfl rfl ?_
            refine WO.q (Q.move rfl) rfl ?_
            refine WO.gT rfl rfl ?_
            refine WO.q (Q.bin rfl rfl rfl (bv_neq ne_nat)) rfl ?_
            refine WO.q (Q.pickF rfl rfl) rfl ?_
            refine WO.nil ?_
            refine End.K ?_
            refine W.condDS rfl (fun hc81 => ?_) (fun hc81 => ?_)
            · exact absurd rfl hc81
            · skip -- fFTfF
              refine W.skip ?_
              refine End.K (W.sub (SubS.cons rfl (SubS.cons rfl (SubS.nil _))) (W.subH gc (hJ12 (()) ?_)))
              exact trivial
        · skip -- fFF
          refine W.skip ?_
          refine End.K (W.sub (SubS.cons rfl (SubS.cons rfl (SubS.nil _))) (W.subH gc (hJ12 (()) ?_)))
          exact trivial
end Go.Proofs.YtmblgaehfjheeaaGreat.Ev

/- The layer's examples hold (lives). -/
namespace Go.Proofs.YtmblgaehfjheeaaGreat.Ev
open Go.RowKit
set_option maxRecDepth 1000000
noncomputable def tabP : Tab := tabOf Tryz.prog
theorem tabP_is (J : Ctx) : TabOK Tryz.prog tabP J := tab_ok (by kernel_rfl) (by kernel_rfl)
theorem lives_ev : givesQ (callQ tabP (qFns tabP Tryz.prog.funcs.toList) 3000 300 18 [] ⟨0, .leaf⟩) (.bool true) = true := by kernel_rfl
theorem lives_any (w : World) : Calls Tryz.prog 18 #[] w fun e w' => e = .returned (.bool true) ∧ Below w.heap.size w w' :=
  quick_call (l := []) (tabP_is _) (qFns_ok tabP _ rfl) (v := .bool true) rfl lives_ev (.nil _) w
end Go.Proofs.YtmblgaehfjheeaaGreat.Ev
