/- Chapter 19, walks: what is made of a number. -/
import Derived.Test.YtmblgaehfjheeaaGreatTYi
namespace Go.Proofs.YtmblgaehfjheeaaGreat.Ev
open Go.RowKit
set_option linter.unusedVariables false
set_option linter.unusedSimpArgs false
set_option maxRecDepth 100000
set_option maxHeartbeats 1000000
theorem mm_minI {k : IntKind} {a b : Int} : minmaxA false (.int k a) [.int k b] = some (.int k (min a b)) := by
  unfold minmaxA
  simp only [Bool.false_eq_true, if_false, ltA_eq]
  unfold minmaxA
  by_cases h : b < a
  · have e : min a b = b := by omega
    simp only [h, decide_true, e]
  · have e : min a b = a := by omega
    simp only [h, decide_false, e]
theorem mm_maxI {k : IntKind} {a b : Int} : minmaxA true (.int k a) [.int k b] = some (.int k (max a b)) := by
  unfold minmaxA
  simp only [if_true, ltA_eq]
  unfold minmaxA
  by_cases h : a < b
  · have e : max a b = b := by omega
    simp only [h, decide_true, e]
  · have e : max a b = a := by omega
    simp only [h, decide_false, e]
theorem fit_bd {v : Int} (h : fitB v = true) : -1152921504606846976 ≤ v ∧ v ≤ 1152921504606846976 := by
  unfold fitB at h
  simpa using h
theorem fit_neg {v : Int} (h : fitB v = true) : fitB (0 - v) = true := by
  have := fit_bd h
  unfold fitB
  simp
  omega
/-- The greatest whole number not above a number. -/
def flM (v : Int) : Int := v - v % 1000000
theorem flM_bd (v : Int) : v - 1000000 < flM v ∧ flM v ≤ v := by unfold flM; omega
theorem tdiv_m (v : Int) : (0 ≤ v → v.tdiv 1000000 = v / 1000000) ∧ (v < 0 → v.tdiv 1000000 = -((-v) / 1000000)) := by
  refine ⟨fun h => Int.tdiv_eq_ediv_of_nonneg h, fun h => ?_⟩
  have := Int.neg_tdiv (-v) 1000000
  rw [Int.neg_neg] at this
  rw [this, Int.tdiv_eq_ediv_of_nonneg (by omega)]
theorem quo_q {v : Int} (h : -1152921504606846976 ≤ v ∧ v ≤ 1152921504606846976) : ∃ q, IntKind.i64.wrap (v.tdiv ((1000000 : Nat) : Int)) = q ∧ ((v < 0 ∧ v % 1000000 ≠ 0) → q * 1000000 = v - v % 1000000 + 1000000) ∧ (¬ (v < 0 ∧ v % 1000000 ≠ 0) → q * 1000000 = v - v % 1000000) := by
  obtain ⟨h1, h2⟩ := tdiv_m v
  have e : ((1000000 : Nat) : Int) = 1000000 := rfl
  rw [e]
  refine ⟨v.tdiv 1000000, wr64 ?_, ?_, ?_⟩ <;> rcases Int.lt_or_le v 0 with g | g <;> (try rw [h2 g]) <;> (try rw [h1 g]) <;> omega
theorem rem_q (v : Int) : ∃ q, v.tmod ((1000000 : Nat) : Int) = q ∧ ((v < 0 ∧ v % 1000000 ≠ 0) → q = v % 1000000 - 1000000) ∧ (¬ (v < 0 ∧ v % 1000000 ≠ 0) → q = v % 1000000) := by
  obtain ⟨h1, h2⟩ := tdiv_m v
  have e : ((1000000 : Nat) : Int) = 1000000 := rfl
  rw [e]
  have hm := Int.tmod_def v 1000000
  refine ⟨v.tmod 1000000, rfl, ?_, ?_⟩ <;> rw [hm] <;> rcases Int.lt_or_le v 0 with g | g <;> (try rw [h2 g]) <;> (try rw [h1 g]) <;> omega
/-- What Each makes of a number. -/
def oneM (op : List Nat) (v low high : Int) : Int :=
  if op = [110, 101, 103] then -v else if op = [97, 98, 115] then max v (-v) else if op = [99, 101, 105, 108] then -(flM (0 - v)) else if op = [102, 108, 111, 111, 114] then flM v else if op = [99, 108, 97, 109, 112] then min high (max low v) else 1000000 * min 1 (max (-1) v)
def opK (op : List Nat) : Prop := op = [110, 101, 103] ∨ op = [97, 98, 115] ∨ op = [99, 101, 105, 108] ∨ op = [102, 108, 111, 111, 114] ∨ op = [115, 103, 110] ∨ op = [99, 108, 97, 109, 112]
theorem floor_spec (v : Int) (hv : fitB v = true) : Spec tab 112 [.int .i64 v] [] [] (Val (.int .i64 (flM v))) := by
  obtain ⟨hv1, hv2⟩ := fit_bd hv
  obtain ⟨q, hq, hq1, hq2⟩ := quo_q ⟨hv1, hv2⟩
  refine Spec.enter' (ft_get 112 Tryz.func112) rfl (m := 13) rfl (rs := [.tmp 2]) rfl (st := [(0, .int .i64 v)]) rfl rfl (fun _ => rfl) (fun E => ?_)
  refine W.seq ?_
  refine W.reg ?_
  refine WO.q (Q.assign (oc (v := .int .i64 ((0 : Nat) : Int)) rfl)) rfl ?_
  refine WO.nil ?_
  refine End.K ?_
  refine W.seq ?_
  refine W.reg ?_
  refine WO.q (Q.move rfl) rfl ?_
  refine WO.q (Q.bin rfl (oc (v := .int .i64 ((1000000 : Nat) : Int)) rfl) rfl (bv_quo (by decide) hq)) rfl ?_
  refine WO.q (Q.bin rfl (oc (v := .int .i64 ((1000000 : Nat) : Int)) rfl) rfl (bv_mul (wr64 (by first | omega | (simp at * <;> omega))))) rfl ?_
  refine WO.q (Q.assign rfl) rfl ?_
  refine WO.nil ?_
  refine End.K ?_
  refine W.seq ?_
  refine W.seq ?_
  refine W.reg ?_
  refine WO.q (Q.move rfl) rfl ?_
  refine WO.q (Q.move rfl) rfl ?_
  refine WO.q (Q.bin rfl rfl rfl (bv_gtr (ltA_eq _ _))) rfl ?_
  refine WO.nil ?_
  refine End.K ?_
  refine W.condDS rfl (fun hc9 => ?_) (fun hc9 => ?_)
  · skip -- T
    refine W.reg ?_
    refine WO.q (Q.move rfl) rfl ?_
    refine WO.q (Q.bin rfl (oc (v := .int .i64 ((1000000 : Nat) : Int)) rfl) rfl (bv_sub (wr64 (by first | omega | (simp at * <;> omega))))) rfl ?_
    refine WO.q (Q.assign rfl) rfl ?_
    refine WO.nil ?_
    refine End.K ?_
    refine W.seq ?_
    refine W.reg ?_
    refine WO.q (Q.move rfl) rfl ?_
    refine WO.q (Q.assign rfl) rfl ?_
    refine WO.nil ?_
    refine End.K ?_
    refine W.ret ?_
    refine End.retV (ResL.tmp rfl ResL.nil) ?_
    exact congrArg (AV.int .i64) (by unfold flM; omega)
  · skip -- F
    refine W.skip ?_
    refine End.K ?_
    refine W.seq ?_
    refine W.reg ?_
    refine WO.q (Q.move rfl) rfl ?_
    refine WO.q (Q.assign rfl) rfl ?_
    refine WO.nil ?_
    refine End.K ?_
    refine W.ret ?_
    refine End.retV (ResL.tmp rfl ResL.nil) ?_
    exact congrArg (AV.int .i64) (by unfold flM; omega)

theorem whole_spec (v : Int) (hv : fitB v = true) : Spec tab 113 [.int .i64 v] [] [] (Val (.int .i64 (flM v))) := by
  obtain ⟨hv1, hv2⟩ := fit_bd hv
  obtain ⟨q, hq, hq1, hq2⟩ := rem_q v
  refine Spec.enter' (ft_get 113 Tryz.func113) rfl (m := 13) rfl (rs := [.tmp 2]) rfl (st := [(0, .int .i64 v)]) rfl rfl (fun _ => rfl) (fun E => ?_)
  refine W.seq ?_
  refine W.reg ?_
  refine WO.q (Q.assign (oc (v := .int .i64 ((0 : Nat) : Int)) rfl)) rfl ?_
  refine WO.nil ?_
  refine End.K ?_
  refine W.seq ?_
  refine W.reg ?_
  refine WO.q (Q.move rfl) rfl ?_
  refine WO.q (Q.bin rfl (oc (v := .int .i64 ((1000000 : Nat) : Int)) rfl) rfl (bv_rem (by decide) hq)) rfl ?_
  refine WO.q (Q.assign rfl) rfl ?_
  refine WO.nil ?_
  refine End.K ?_
  refine W.seq ?_
  refine W.seq ?_
  refine W.reg ?_
  refine WO.q (Q.move rfl) rfl ?_
  refine WO.q (Q.bin rfl (oc (v := .int .i64 ((0 : Nat) : Int)) rfl) rfl (bv_lss (ltA_eq _ _))) rfl ?_
  refine WO.nil ?_
  refine End.K ?_
  refine W.condDS rfl (fun hc7 => ?_) (fun hc7 => ?_)
  · skip -- T
    refine W.reg ?_
    refine WO.q (Q.move rfl) rfl ?_
    refine WO.q (Q.bin rfl (oc (v := .int .i64 ((1000000 : Nat) : Int)) rfl) rfl (bv_add (wr64 (by first | omega | (simp at * <;> omega))))) rfl ?_
    refine WO.q (Q.assign rfl) rfl ?_
    refine WO.nil ?_
    refine End.K ?_
    refine W.seq ?_
    refine W.reg ?_
    refine WO.q (Q.move rfl) rfl ?_
    refine WO.q (Q.move rfl) rfl ?_
    refine WO.q (Q.bin rfl rfl rfl (bv_sub (wr64 (by first | omega | (simp at * <;> omega))))) rfl ?_
    refine WO.q (Q.assign rfl) rfl ?_
    refine WO.nil ?_
    refine End.K ?_
    refine W.ret ?_
    refine End.retV (ResL.tmp rfl ResL.nil) ?_
    exact congrArg (AV.int .i64) (by unfold flM; omega)
  · skip -- F
    refine W.skip ?_
    refine End.K ?_
    refine W.seq ?_
    refine W.reg ?_
    refine WO.q (Q.move rfl) rfl ?_
    refine WO.q (Q.move rfl) rfl ?_
    refine WO.q (Q.bin rfl rfl rfl (bv_sub (wr64 (by first | omega | (simp at * <;> omega))))) rfl ?_
    refine WO.q (Q.assign rfl) rfl ?_
    refine WO.nil ?_
    refine End.K ?_
    refine W.ret ?_
    refine End.retV (ResL.tmp rfl ResL.nil) ?_
    exact congrArg (AV.int .i64) (by unfold flM; omega)

theorem one_spec (op : List Nat) (ho : Bytes op) (v low high : Int) (hv : fitB v = true) : Spec tab 76 [.str op, .int .i64 v, .int .i64 low, .int .i64 high] [] [] (Val (.int .i64 (oneM op v low high))) := by
  obtain ⟨hv1, hv2⟩ := fit_bd hv
  have hf1 := flM_bd v
  have hf2 := flM_bd (0 - v)
  refine Spec.enter' (ft_get 76 Tryz.func76) rfl (m := 43) rfl (rs := [.tmp 8]) rfl (st := [(0, .str op), (1, .int .i64 v), (2, .int .i64 low), (3, .int .i64 high)]) rfl rfl (fun _ => rfl) (fun E => ?_)
  refine W.seq ?_
  refine W.reg ?_
  refine WO.q (Q.assign (oc (v := .int .i64 ((0 : Nat) : Int)) rfl)) rfl ?_
  refine WO.nil ?_
  refine End.K ?_
  refine W.seq ?_
  refine W.seq ?_
  refine W.reg ?_
  refine WO.q (Q.move rfl) rfl ?_
  refine WO.nil ?_
  refine End.K ?_
  refine W.block ?_
  refine W.seq ?_
  refine W.reg ?_
  refine WO.q (Q.bin rfl (oc (v := .str [110, 101, 103]) (by kernel_rfl)) rfl bv_seql) rfl ?_
  refine WO.q (Q.assign rfl) rfl ?_
  refine WO.nil ?_
  refine End.K ?_
  refine W.condDS rfl (fun hc10 => ?_) (fun hc10 => ?_)
  · skip -- T
    refine W.seq ?_
    refine W.reg ?_
    refine WO.q (Q.move rfl) rfl ?_
    refine WO.q (Q.neg rfl (wr64 (by first | omega | (simp at * <;> omega)))) rfl ?_
    refine WO.q (Q.assign rfl) rfl ?_
    refine WO.nil ?_
    refine End.K ?_
    refine W.ret ?_
    refine End.KB_ret (End.K_ret (End.retV (ResL.tmp rfl ResL.nil) ?_))
    first | (exact congrArg (AV.int .i64) (by simp [oneM, *] <;> omega)) | (exact congrArg (AV.int .i64) (by simp [oneM, *])) | (exact congrArg (AV.int .i64) (by unfold oneM; simp only [*, if_true, if_false, reduceIte]; have := flM_bd v; have := flM_bd (-v); omega))
  · skip -- F
    refine W.seq ?_
    refine W.reg ?_
    refine WO.q (Q.bin rfl (oc (v := .str [97, 98, 115]) (by kernel_rfl)) rfl bv_seql) rfl ?_
    refine WO.q (Q.assign rfl) rfl ?_
    refine WO.nil ?_
    refine End.K ?_
    refine W.condDS rfl (fun hc14 => ?_) (fun hc14 => ?_)
    · skip -- FT
      refine W.seq ?_
      refine W.reg ?_
      refine WO.q (Q.move rfl) rfl ?_
      refine WO.q (Q.move rfl) rfl ?_
      refine WO.q (Q.neg rfl (wr64 (by first | omega | (simp at * <;> omega)))) rfl ?_
      refine WO.q (Q.minmax true (oLs_cons rfl (oLs_cons rfl oLs_nil)) mm_maxI) rfl ?_
      refine WO.q (Q.assign rfl) rfl ?_
      refine WO.nil ?_
      refine End.K ?_
      refine W.ret ?_
      refine End.KB_ret (End.K_ret (End.retV (ResL.tmp rfl ResL.nil) ?_))
      first | (exact congrArg (AV.int .i64) (by simp [oneM, *] <;> omega)) | (exact congrArg (AV.int .i64) (by simp [oneM, *])) | (exact congrArg (AV.int .i64) (by unfold oneM; simp only [*, if_true, if_false, reduceIte]; have := flM_bd v; have := flM_bd (-v); omega))
    · skip -- FF
      refine W.seq ?_
      refine W.reg ?_
      refine WO.q (Q.bin rfl (oc (v := .str [99, 101, 105, 108]) (by kernel_rfl)) rfl bv_seql) rfl ?_
      refine WO.q (Q.assign rfl) rfl ?_
      refine WO.nil ?_
      refine End.K ?_
      refine W.condDS rfl (fun hc20 => ?_) (fun hc20 => ?_)
      · skip -- FFT
        refine W.seq ?_
        refine W.reg ?_
        refine WO.q (Q.move rfl) rfl ?_
        refine WO.q (Q.neg rfl (wr64 (by first | omega | (simp at * <;> omega)))) rfl ?_
        refine WO.callV rfl (oLs_cons rfl oLs_nil) rfl (floor_spec _ (by first | exact hv | exact fit_neg hv)) SubR.nil rfl ?_
        refine WO.q (Q.neg rfl (wr64 (by first | omega | (simp at * <;> omega)))) rfl ?_
        refine WO.q (Q.assign rfl) rfl ?_
        refine WO.nil ?_
        refine End.K ?_
        refine W.sub (SubS.cons (k := 8) rfl (SubS.nil _)) ?_
        refine W.ret ?_
        refine End.KB_ret (End.K_ret (End.retV (ResL.tmp rfl ResL.nil) ?_))
        first | (exact congrArg (AV.int .i64) (by simp [oneM, *] <;> omega)) | (exact congrArg (AV.int .i64) (by simp [oneM, *])) | (exact congrArg (AV.int .i64) (by unfold oneM; simp only [*, if_true, if_false, reduceIte]; have := flM_bd v; have := flM_bd (-v); omega))
      · skip -- FFF
        refine W.seq ?_
        refine W.reg ?_
        refine WO.q (Q.bin rfl (oc (v := .str [102, 108, 111, 111, 114]) (by kernel_rfl)) rfl bv_seql) rfl ?_
        refine WO.q (Q.assign rfl) rfl ?_
        refine WO.nil ?_
        refine End.K ?_
        refine W.condDS rfl (fun hc26 => ?_) (fun hc26 => ?_)
        · skip -- FFFT
          refine W.seq ?_
          refine W.reg ?_
          refine WO.q (Q.move rfl) rfl ?_
          refine WO.callV rfl (oLs_cons rfl oLs_nil) rfl (floor_spec _ (by first | exact hv | exact fit_neg hv)) SubR.nil rfl ?_
          refine WO.q (Q.assign rfl) rfl ?_
          refine WO.nil ?_
          refine End.K ?_
          refine W.sub (SubS.cons (k := 8) rfl (SubS.nil _)) ?_
          refine W.ret ?_
          refine End.KB_ret (End.K_ret (End.retV (ResL.tmp rfl ResL.nil) ?_))
          first | (exact congrArg (AV.int .i64) (by simp [oneM, *] <;> omega)) | (exact congrArg (AV.int .i64) (by simp [oneM, *])) | (exact congrArg (AV.int .i64) (by unfold oneM; simp only [*, if_true, if_false, reduceIte]; have := flM_bd v; have := flM_bd (-v); omega))
        · skip -- FFFF
          refine W.seq ?_
          refine W.reg ?_
          refine WO.q (Q.bin rfl (oc (v := .str [99, 108, 97, 109, 112]) (by kernel_rfl)) rfl bv_seql) rfl ?_
          refine WO.q (Q.assign rfl) rfl ?_
          refine WO.nil ?_
          refine End.K ?_
          refine W.condDS rfl (fun hc30 => ?_) (fun hc30 => ?_)
          · skip -- FFFFT
            refine W.seq ?_
            refine W.reg ?_
            refine WO.q (Q.move rfl) rfl ?_
            refine WO.q (Q.move rfl) rfl ?_
            refine WO.q (Q.move rfl) rfl ?_
            refine WO.q (Q.minmax true (oLs_cons rfl (oLs_cons rfl oLs_nil)) mm_maxI) rfl ?_
            refine WO.q (Q.minmax false (oLs_cons rfl (oLs_cons rfl oLs_nil)) mm_minI) rfl ?_
            refine WO.q (Q.assign rfl) rfl ?_
            refine WO.nil ?_
            refine End.K ?_
            refine W.sub (SubS.cons (k := 8) rfl (SubS.nil _)) ?_
            refine W.ret ?_
            refine End.KB_ret (End.K_ret (End.retV (ResL.tmp rfl ResL.nil) ?_))
            first | (exact congrArg (AV.int .i64) (by simp [oneM, *] <;> omega)) | (exact congrArg (AV.int .i64) (by simp [oneM, *])) | (exact congrArg (AV.int .i64) (by unfold oneM; simp only [*, if_true, if_false, reduceIte]; have := flM_bd v; have := flM_bd (-v); omega))
          · skip -- FFFFF
            refine W.skip ?_
            refine End.KB (End.K ?_)
            refine W.sub (SubS.cons (k := 1) rfl (SubS.nil _)) ?_
            refine W.seq ?_
            refine W.block ?_
            refine W.seq ?_
            refine W.reg ?_
            refine WO.q (Q.move rfl) rfl ?_
            refine WO.q (Q.bin rfl (oc (v := .int .i64 ((0 : Nat) : Int)) rfl) rfl (bv_gtr (ltA_eq _ _))) rfl ?_
            refine WO.q (Q.assign rfl) rfl ?_
            refine WO.nil ?_
            refine End.K ?_
            refine W.condDS rfl (fun hc37 => ?_) (fun hc37 => ?_)
            · skip -- FFFFFT
              refine W.seq ?_
              refine W.reg ?_
              refine WO.q (Q.assign (oc (v := .int .i64 ((1000000 : Nat) : Int)) rfl)) rfl ?_
              refine WO.nil ?_
              refine End.K ?_
              refine W.ret ?_
              refine End.KB_ret (End.K_ret (End.retV (ResL.tmp rfl ResL.nil) ?_))
              first | (exact congrArg (AV.int .i64) (by simp [oneM, *] <;> omega)) | (exact congrArg (AV.int .i64) (by simp [oneM, *])) | (exact congrArg (AV.int .i64) (by unfold oneM; simp only [*, if_true, if_false, reduceIte]; have := flM_bd v; have := flM_bd (-v); omega))
            · skip -- FFFFFF
              refine W.seq ?_
              refine W.reg ?_
              refine WO.q (Q.move rfl) rfl ?_
              refine WO.q (Q.bin rfl (oc (v := .int .i64 ((0 : Nat) : Int)) rfl) rfl (bv_lss (ltA_eq _ _))) rfl ?_
              refine WO.q (Q.assign rfl) rfl ?_
              refine WO.nil ?_
              refine End.K ?_
              refine W.condDS rfl (fun hc40 => ?_) (fun hc40 => ?_)
              · skip -- FFFFFFT
                refine W.seq ?_
                refine W.reg ?_
                refine WO.q (Q.assign rfl) rfl ?_
                refine WO.nil ?_
                refine End.K ?_
                refine W.ret ?_
                refine End.KB_ret (End.K_ret (End.retV (ResL.tmp rfl ResL.nil) ?_))
                first | (exact congrArg (AV.int .i64) (by simp [oneM, *] <;> omega)) | (exact congrArg (AV.int .i64) (by simp [oneM, *])) | (exact congrArg (AV.int .i64) (by unfold oneM; simp only [*, if_true, if_false, reduceIte]; have := flM_bd v; have := flM_bd (-v); omega))
              · skip -- FFFFFFF
                refine W.skip ?_
                refine End.KB (End.K ?_)
                refine W.seq ?_
                refine W.reg ?_
                refine WO.q (Q.assign (oc (v := .int .i64 ((0 : Nat) : Int)) rfl)) rfl ?_
                refine WO.nil ?_
                refine End.K ?_
                refine W.ret ?_
                refine End.retV (ResL.tmp rfl ResL.nil) ?_
                first | (exact congrArg (AV.int .i64) (by simp [oneM, *] <;> omega)) | (exact congrArg (AV.int .i64) (by simp [oneM, *])) | (exact congrArg (AV.int .i64) (by unfold oneM; simp only [*, if_true, if_false, reduceIte]; have := flM_bd v; have := flM_bd (-v); omega))

theorem rone_spec (op : List Nat) (ho : Bytes op) (v low high : Int) (hv : fitB v = true) (hop : opK op) : Spec tab 77 [.str op, .int .i64 v, .int .i64 low, .int .i64 high] [] [] (Val (.int .i64 (oneM op v low high))) := by
  obtain ⟨hv1, hv2⟩ := fit_bd hv
  have hf1 := flM_bd v
  have hf2 := flM_bd (0 - v)
  refine Spec.enter' (ft_get 77 Tryz.func77) rfl (m := 41) rfl (rs := [.tmp 8]) rfl (st := [(0, .str op), (1, .int .i64 v), (2, .int .i64 low), (3, .int .i64 high)]) rfl rfl (fun _ => rfl) (fun E => ?_)
  refine W.seq ?_
  refine W.reg ?_
  refine WO.q (Q.assign (oc (v := .int .i64 ((0 : Nat) : Int)) rfl)) rfl ?_
  refine WO.nil ?_
  refine End.K ?_
  refine W.seq ?_
  refine W.seq ?_
  refine W.reg ?_
  refine WO.q (Q.move rfl) rfl ?_
  refine WO.nil ?_
  refine End.K ?_
  refine W.block ?_
  refine W.seq ?_
  refine W.reg ?_
  refine WO.q (Q.bin rfl (oc (v := .str [110, 101, 103]) (by kernel_rfl)) rfl bv_seql) rfl ?_
  refine WO.q (Q.assign rfl) rfl ?_
  refine WO.nil ?_
  refine End.K ?_
  refine W.condDS rfl (fun hc10 => ?_) (fun hc10 => ?_)
  · skip -- T
    refine W.seq ?_
    refine W.reg ?_
    refine WO.q (Q.move rfl) rfl ?_
    refine WO.q (Q.neg rfl (wr64 (by first | omega | (simp at * <;> omega)))) rfl ?_
    refine WO.q (Q.assign rfl) rfl ?_
    refine WO.nil ?_
    refine End.K ?_
    refine W.ret ?_
    refine End.KB_ret (End.K_ret (End.retV (ResL.tmp rfl ResL.nil) ?_))
    first | (exact congrArg (AV.int .i64) (by simp [oneM, *] <;> omega)) | (exact congrArg (AV.int .i64) (by simp [oneM, *])) | (exact congrArg (AV.int .i64) (by unfold oneM; simp only [*, if_true, if_false, reduceIte]; have := flM_bd v; have := flM_bd (-v); omega))
  · skip -- F
    refine W.seq ?_
    refine W.reg ?_
    refine WO.q (Q.bin rfl (oc (v := .str [97, 98, 115]) (by kernel_rfl)) rfl bv_seql) rfl ?_
    refine WO.q (Q.assign rfl) rfl ?_
    refine WO.nil ?_
    refine End.K ?_
    refine W.condDS rfl (fun hc14 => ?_) (fun hc14 => ?_)
    · skip -- FT
      refine W.seq ?_
      refine W.reg ?_
      refine WO.q (Q.move rfl) rfl ?_
      refine WO.q (Q.move rfl) rfl ?_
      refine WO.q (Q.neg rfl (wr64 (by first | omega | (simp at * <;> omega)))) rfl ?_
      refine WO.q (Q.minmax true (oLs_cons rfl (oLs_cons rfl oLs_nil)) mm_maxI) rfl ?_
      refine WO.q (Q.assign rfl) rfl ?_
      refine WO.nil ?_
      refine End.K ?_
      refine W.ret ?_
      refine End.KB_ret (End.K_ret (End.retV (ResL.tmp rfl ResL.nil) ?_))
      first | (exact congrArg (AV.int .i64) (by simp [oneM, *] <;> omega)) | (exact congrArg (AV.int .i64) (by simp [oneM, *])) | (exact congrArg (AV.int .i64) (by unfold oneM; simp only [*, if_true, if_false, reduceIte]; have := flM_bd v; have := flM_bd (-v); omega))
    · skip -- FF
      refine W.seq ?_
      refine W.reg ?_
      refine WO.q (Q.bin rfl (oc (v := .str [99, 101, 105, 108]) (by kernel_rfl)) rfl bv_seql) rfl ?_
      refine WO.q (Q.assign rfl) rfl ?_
      refine WO.nil ?_
      refine End.K ?_
      refine W.condDS rfl (fun hc20 => ?_) (fun hc20 => ?_)
      · skip -- FFT
        refine W.seq ?_
        refine W.reg ?_
        refine WO.q (Q.move rfl) rfl ?_
        refine WO.q (Q.neg rfl (wr64 (by first | omega | (simp at * <;> omega)))) rfl ?_
        refine WO.callV rfl (oLs_cons rfl oLs_nil) rfl (whole_spec _ (by first | exact hv | exact fit_neg hv)) SubR.nil rfl ?_
        refine WO.q (Q.neg rfl (wr64 (by first | omega | (simp at * <;> omega)))) rfl ?_
        refine WO.q (Q.assign rfl) rfl ?_
        refine WO.nil ?_
        refine End.K ?_
        refine W.sub (SubS.cons (k := 8) rfl (SubS.nil _)) ?_
        refine W.ret ?_
        refine End.KB_ret (End.K_ret (End.retV (ResL.tmp rfl ResL.nil) ?_))
        first | (exact congrArg (AV.int .i64) (by simp [oneM, *] <;> omega)) | (exact congrArg (AV.int .i64) (by simp [oneM, *])) | (exact congrArg (AV.int .i64) (by unfold oneM; simp only [*, if_true, if_false, reduceIte]; have := flM_bd v; have := flM_bd (-v); omega))
      · skip -- FFF
        refine W.seq ?_
        refine W.reg ?_
        refine WO.q (Q.bin rfl (oc (v := .str [102, 108, 111, 111, 114]) (by kernel_rfl)) rfl bv_seql) rfl ?_
        refine WO.q (Q.assign rfl) rfl ?_
        refine WO.nil ?_
        refine End.K ?_
        refine W.condDS rfl (fun hc26 => ?_) (fun hc26 => ?_)
        · skip -- FFFT
          refine W.seq ?_
          refine W.reg ?_
          refine WO.q (Q.move rfl) rfl ?_
          refine WO.callV rfl (oLs_cons rfl oLs_nil) rfl (whole_spec _ (by first | exact hv | exact fit_neg hv)) SubR.nil rfl ?_
          refine WO.q (Q.assign rfl) rfl ?_
          refine WO.nil ?_
          refine End.K ?_
          refine W.sub (SubS.cons (k := 8) rfl (SubS.nil _)) ?_
          refine W.ret ?_
          refine End.KB_ret (End.K_ret (End.retV (ResL.tmp rfl ResL.nil) ?_))
          first | (exact congrArg (AV.int .i64) (by simp [oneM, *] <;> omega)) | (exact congrArg (AV.int .i64) (by simp [oneM, *])) | (exact congrArg (AV.int .i64) (by unfold oneM; simp only [*, if_true, if_false, reduceIte]; have := flM_bd v; have := flM_bd (-v); omega))
        · skip -- FFFF
          refine W.seq ?_
          refine W.reg ?_
          refine WO.q (Q.bin rfl (oc (v := .str [115, 103, 110]) (by kernel_rfl)) rfl bv_seql) rfl ?_
          refine WO.q (Q.assign rfl) rfl ?_
          refine WO.nil ?_
          refine End.K ?_
          refine W.condDS rfl (fun hc30 => ?_) (fun hc30 => ?_)
          · skip -- FFFFT
            refine W.seq ?_
            refine W.reg ?_
            refine WO.q (Q.move rfl) rfl ?_
            refine WO.q (Q.minmax true (oLs_cons rfl (oLs_cons rfl oLs_nil)) mm_maxI) rfl ?_
            refine WO.q (Q.minmax false (oLs_cons (oc (v := .int .i64 ((1 : Nat) : Int)) rfl) (oLs_cons rfl oLs_nil)) mm_minI) rfl ?_
            refine WO.q (Q.bin (oc (v := .int .i64 ((1000000 : Nat) : Int)) rfl) rfl rfl (bv_mul (wr64 (by first | omega | (simp at * <;> omega))))) rfl ?_
            refine WO.q (Q.assign rfl) rfl ?_
            refine WO.nil ?_
            refine End.K ?_
            refine W.sub (SubS.cons (k := 8) rfl (SubS.nil _)) ?_
            refine W.ret ?_
            refine End.KB_ret (End.K_ret (End.retV (ResL.tmp rfl ResL.nil) ?_))
            first | (exact congrArg (AV.int .i64) (by simp [oneM, *] <;> omega)) | (exact congrArg (AV.int .i64) (by simp [oneM, *])) | (exact congrArg (AV.int .i64) (by unfold oneM; simp only [*, if_true, if_false, reduceIte]; have := flM_bd v; have := flM_bd (-v); omega))
          · skip -- FFFFF
            refine W.skip ?_
            refine End.KB (End.K ?_)
            refine W.seq ?_
            refine W.reg ?_
            refine WO.q (Q.move rfl) rfl ?_
            refine WO.q (Q.move rfl) rfl ?_
            refine WO.q (Q.move rfl) rfl ?_
            refine WO.q (Q.minmax true (oLs_cons rfl (oLs_cons rfl oLs_nil)) mm_maxI) rfl ?_
            refine WO.q (Q.minmax false (oLs_cons rfl (oLs_cons rfl oLs_nil)) mm_minI) rfl ?_
            refine WO.q (Q.assign rfl) rfl ?_
            refine WO.nil ?_
            refine End.K ?_
            refine W.sub (SubS.cons (k := 8) rfl (SubS.nil _)) ?_
            refine W.ret ?_
            refine End.retV (ResL.tmp rfl ResL.nil) ?_
            have hcl : op = [99, 108, 97, 109, 112] := (by rcases hop with h | h | h | h | h | h <;> first | exact h | exact absurd h (by assumption))
            subst hcl
            exact congrArg (AV.int .i64) (by simp [oneM])
end Go.Proofs.YtmblgaehfjheeaaGreat.Ev
