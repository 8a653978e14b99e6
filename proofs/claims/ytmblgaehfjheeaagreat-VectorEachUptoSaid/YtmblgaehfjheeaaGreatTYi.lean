/- Chapter 19, walks: what is wrong with a vector, by the program. -/
import Derived.Test.YtmblgaehfjheeaaGreatTYh
namespace Go.Proofs.YtmblgaehfjheeaaGreat.Ev
open Go.RowKit
set_option linter.unusedVariables false
set_option linter.unusedSimpArgs false
set_option maxRecDepth 100000
set_option maxHeartbeats 1000000
theorem vck_spec (hs : HSt) (hro : ∀ e ∈ hs, e.w = false) (V : List El) (v : AV) (hV : EIn hs V v) (hB : EBd V) : Spec tab 23 [v] [] hs (Val (.int .i64 ((vchk V : Nat) : Int))) := by
  have hBl := hB.1
  refine Spec.enter' (ft_get 23 Tryz.func23) rfl (m := 33) rfl (rs := [.tmp 2]) rfl (st := [(0, v)]) rfl rfl (fun _ => rfl) (fun E => ?_)
  refine W.seq ?_
  refine W.reg ?_
  refine WO.q (Q.assign (oc (v := .int .i64 ((0 : Nat) : Int)) rfl)) rfl ?_
  refine WO.nil ?_
  refine End.K ?_
  refine W.seq ?_
  refine W.seq ?_
  refine W.reg ?_
  refine WO.q (Q.move rfl) rfl ?_
  refine WO.q (Q.len ud22 rfl (EIn.len hV)) rfl ?_
  refine WO.q (Q.bin rfl (oc (v := .int .i64 ((256 : Nat) : Int)) rfl) rfl (bv_gtr lt_nat)) rfl ?_
  refine WO.nil ?_
  refine End.K ?_
  refine W.condDS rfl (fun hc10 => ?_) (fun hc10 => ?_)
  · skip -- T
    refine W.seq ?_
    refine W.reg ?_
    refine WO.q (Q.assign (oc (v := .int .i64 ((3 : Nat) : Int)) rfl)) rfl ?_
    refine WO.nil ?_
    refine End.K ?_
    refine W.ret ?_
    refine End.K_ret (End.retV (ResL.tmp rfl ResL.nil) ?_)
    show AV.int .i64 _ = _; rw [vchk_e (by rw [ichk_big (by omega)]; decide), ichk_big (by omega)]
  · skip -- F
    refine W.skip ?_
    refine End.K ?_
    refine W.seq ?_
    refine W.reg ?_
    refine WO.q (Q.assign rfl) rfl ?_
    refine WO.nil ?_
    refine End.K ?_
    refine W.seq ?_
    refine W.seq ?_
    refine W.reg ?_
    refine WO.q (Q.move rfl) rfl ?_
    refine WO.q (Q.len ud22 rfl (EIn.len hV)) rfl ?_
    refine WO.q (Q.move (oc (v := .int .i64 ((0 : Nat) : Int)) rfl)) rfl ?_
    refine WO.nil ?_
    refine End.K ?_
    refine W.block ?_
    refine W.loop_ind3 (fun (i : Nat) (u : AV) (hp : HSt) => [(0, v), (3, u), (11, v), (12, .int .i64 ((V.length : Nat) : Int)), (13, .int .i64 ((i : Nat) : Int))]) (fun (i : Nat) (u : AV) (hp : HSt) => (hs ++ hp)) (fun (i : Nat) (u : AV) (hp : HSt) => i ≤ V.length ∧ Own 1 ((V.take i).map (·.1)) (V.take i).length u hp) (fun (i : Nat) (u : AV) (hp : HSt) => V.length - i) (0) (.nils) ([]) ⟨Nat.zero_le _, Own.nil 1⟩ (SubS.cons rfl (SubS.cons rfl (SubS.cons rfl (SubS.cons rfl (SubS.cons rfl (SubS.nil _)))))) app_nil_sub (fun i u hp hI0 ih0 => ?_)
    obtain ⟨h1, hO⟩ := hI0
    refine W.seq ?_
    refine W.reg ?_
    refine WO.q (Q.bin rfl rfl rfl (bv_lss lt_nat)) rfl ?_
    refine WO.nil ?_
    refine End.K ?_
    refine W.seq ?_
    refine W.condDS rfl (fun hc14 => ?_) (fun hc14 => ?_)
    · skip -- FL0T
      obtain ⟨bv, szv, exv, rfl, wv, mv⟩ := EIn.full hV (by omega)
      refine W.skip ?_
      refine End.K ?_
      refine W.seq ?_
      refine W.block ?_
      refine W.seq ?_
      refine W.reg ?_
      refine WO.q (Q.iaddrS ud22 sz35 rfl rfl (by first | omega | (simp at * <;> omega))) rfl ?_
      refine WO.q (Q.loadN rfl (List.mem_append_left _ mv) ag35 sz35 (cE_at (by first | omega | (simp at * <;> omega)))) rfl ?_
      refine WO.alloc ao35 rfl (fun b1 => ?_)
      refine WO.store sz35 rfl rfl (i := 0) rfl (and_tt rfl (and_tt (LIn.cell (hV.at (by omega))) rfl)) (cs := [_, _]) rfl (hs' := _ :: _) rfl ?_
      refine WO.nil ?_
      refine End.K ?_
      refine W.reg ?_
      refine WO.q (Q.move rfl) rfl ?_
      refine WO.q (Q.fieldAddr fa35_0 rfl (o' := 0) rfl) rfl ?_
      refine WO.q (Q.load1 rfl (mem_at (i := 0) rfl) ag33 rfl) rfl ?_
      refine WO.bslice ud90 sz33 zr33 rfl (oPs_cons rfl oPs_nil) rfl (cs := [_]) (fillE1 (LIn.cell (hV.at (by omega)))) (and_tt (LIn.cell (hV.at (by omega))) rfl) rfl (fun b2 => ?_)
      refine WO.appOwn (e := ⟨b2, _, true⟩) (A := ([_] ++ hs)) ap90_90 hO rfl rfl rfl rfl ⟨by first | omega | (simp at * <;> omega), by first | omega | (simp at * <;> omega)⟩ (by decide) rfl rfl (fun v21 hp21 hO21 => ?_)
      refine WO.q (Q.assign rfl) rfl ?_
      refine WO.nil ?_
      refine End.KB (End.K ?_)
      refine W.reg ?_
      refine WO.q (Q.bin rfl (oc (v := .int .i64 ((1 : Nat) : Int)) rfl) rfl (bv_add (wn_add (by first | omega | (simp at * <;> omega))))) rfl ?_
      refine WO.q (Q.move rfl) rfl ?_
      refine WO.nil ?_
      refine End.KL ?_
      refine W.sub (SubS.cons rfl (SubS.cons rfl (SubS.cons rfl (SubS.cons rfl (SubS.cons rfl (SubS.nil _)))))) (W.subH gc (ih0 (i + 1) (v21) (hp21) ?_ ?_))
      · exact ⟨by omega, by rw [take_el (by omega), List.map_append, List.length_append]; exact hO21⟩
      · exact (by first | omega | (simp at * <;> omega))
    · skip -- FL0F
      have ht : V.take i = V := List.take_of_length_le (by omega)
      rw [ht] at hO
      refine W.exit ?_
      refine End.K_exit (End.KL_exit (End.KB_hit (End.K ?_)))
      refine W.seq ?_
      refine W.seq ?_
      refine W.reg ?_
      refine WO.q (Q.move rfl) rfl ?_
      refine WO.callE rfl (oLs_cons rfl oLs_nil) rfl (new_spec (ro hp ++ hs) (ro_app hro) V u (TIn.own hO hV.2) hB) (sub_ro hro) rfl (fun v25 hP25 => ?_)
      obtain ⟨pn, rfl⟩ := hP25
      refine WO.q (Q.move rfl) rfl ?_
      refine WO.q (Q.extract rfl rfl) rfl ?_
      refine WO.q (Q.extract rfl rfl) rfl ?_
      refine WO.q (Q.assign rfl) rfl ?_
      refine WO.q (Q.assign rfl) rfl ?_
      refine WO.nil ?_
      refine End.K ?_
      refine W.seq ?_
      refine W.reg ?_
      refine WO.q (Q.move rfl) rfl ?_
      refine WO.q (Q.bin rfl (oc (v := .int .i64 ((0 : Nat) : Int)) rfl) rfl (bv_neq ne_nat)) rfl ?_
      refine WO.nil ?_
      refine End.K ?_
      refine W.condDS rfl (fun hc29 => ?_) (fun hc29 => ?_)
      · skip -- FL0FT
        refine W.seq ?_
        refine W.reg ?_
        refine WO.q (Q.move rfl) rfl ?_
        refine WO.q (Q.assign rfl) rfl ?_
        refine WO.nil ?_
        refine End.K ?_
        refine W.sub (SubS.cons (k := 2) rfl (SubS.nil _)) ?_
        refine W.ret ?_
        refine End.K_ret (End.retV (ResL.tmp rfl ResL.nil) ?_)
        show AV.int .i64 _ = _; rw [vchk_e (by simpa using hc29)]
      · skip -- FL0FF
        refine W.skip ?_
        refine End.K ?_
        refine W.sub (SubS.cons (k := 0) rfl (SubS.nil _)) ?_
        refine W.seq ?_
        refine W.seq ?_
        refine W.reg ?_
        refine WO.q (Q.move rfl) rfl ?_
        refine WO.callV rfl (oLs_cons rfl (oLs_cons rfl oLs_nil)) rfl (ctf_spec hs hro V _ hV hB) (SubR.appl (SubR.self hro)) rfl ?_
        refine WO.nil ?_
        refine End.K ?_
        refine W.condS rfl (fun hc32 => ?_) (fun hc32 => ?_)
        · skip -- FL0FFT
          refine W.seq ?_
          refine W.reg ?_
          refine WO.q (Q.assign (oc (v := .int .i64 ((11 : Nat) : Int)) rfl)) rfl ?_
          refine WO.nil ?_
          refine End.K ?_
          refine W.ret ?_
          refine End.K_ret (End.retV (ResL.tmp rfl ResL.nil) ?_)
          show AV.int .i64 _ = _; unfold vchk; rw [if_neg (by simpa using hc29)]; simp_all
        · skip -- FL0FFF
          refine W.skip ?_
          refine End.K ?_
          refine W.seq ?_
          refine W.reg ?_
          refine WO.q (Q.assign (oc (v := .int .i64 ((0 : Nat) : Int)) rfl)) rfl ?_
          refine WO.nil ?_
          refine End.K ?_
          refine W.ret ?_
          refine End.retV (ResL.tmp rfl ResL.nil) ?_
          show AV.int .i64 _ = _; unfold vchk; rw [if_neg (by simpa using hc29)]; simp_all
end Go.Proofs.YtmblgaehfjheeaaGreat.Ev
