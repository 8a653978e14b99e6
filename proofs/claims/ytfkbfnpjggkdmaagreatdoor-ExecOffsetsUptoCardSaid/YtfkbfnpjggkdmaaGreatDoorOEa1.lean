/- Chapters 6 and 8: whether matchers fit labels. -/
import Derived.Test.YtfkbfnpjggkdmaaGreatDoorOFactsE
import Derived.Test.YtfkbfnpjggkdmaaGreatDoorOYb
namespace Go.Proofs.YtfkbfnpjggkdmaaGreatDoor.Ev
open Go.RowKit
set_option maxRecDepth 100000
set_option maxHeartbeats 1000000
theorem fit_no {m : MtT} {l : List Lab} (h : chkV m ≠ 0) : oneOf [AV.bool false] = .bool (fitB m l) := by unfold fitB; rw [if_pos h]; rfl
theorem fit_eq {m : MtT} {l : List Lab} (h : chkV m = 0) (h3 : m.1 < 3) : oneOf [AV.bool (decide (getL l m.2.1 = m.2.2) == decide (m.1 = 1))] = .bool (fitB m l) := by unfold fitB; rw [if_neg (by simp [h]), if_pos h3]; rfl
theorem fit_re {m : MtT} {l : List Lab} (h : chkV m = 0) (h3 : ¬ m.1 < 3) : oneOf [AV.bool (fitV m.2.2 (getL l m.2.1) == decide (m.1 = 3))] = .bool (fitB m l) := by unfold fitB; rw [if_neg (by simp [h]), if_neg h3]; rfl
theorem allB_step {M : List MtT} {i : Nat} {l : List Lab} (h : i < M.length) : allB (M.drop i) l = (fitB (mg M i) l && allB (M.drop (i + 1)) l) := by
 rw [mg_drop h]; rfl
theorem allB_end {M : List MtT} {i : Nat} {l : List Lab} (h : M.length ≤ i) : allB (M.drop i) l = true := by
 rw [List.drop_eq_nil_of_le h]; rfl
theorem caF_step {M : List MtT} {i : Nat} {e : Int} (h : i < M.length) : caF (M.drop i) e = if chkV (mg M i) ≠ 0 then chkV (mg M i) else caF (M.drop (i + 1)) e := by
 rw [mg_drop h]; rfl
theorem caF_end {M : List MtT} {i : Nat} {e : Int} (h : M.length ≤ i) : caF (M.drop i) e = e := by
 rw [List.drop_eq_nil_of_le h]; rfl
theorem get_spec (hs : HSt) (hro : ∀ e ∈ hs, e.w = false) (A : List Lab) (va : AV) (ha : LIn hs A va) (hA : LBd A) (n : List Nat) (hn : Bytes n) : Spec tab 164 [va, .str n] [] hs (Val (.str (getL A n))) := by
 have hAl := hA.1
 refine Spec.en (ftg 164 Tryz.func164) rfl (m := 24) rfl (rs := [.tmp 4]) rfl (st := [(0, va), (1, .str n)]) rfl rfl (fun _ => rfl) (fun E => ?_)
 refine W.seq ?_
 refine W.reg ?_
 refine WO.q (Q.assign (oc (v := .str []) (by kernel_rfl))) rfl ?_
 refine WO.nil ?_
 refine End.K ?_
 refine W.seq ?_
 refine W.seq ?_
 refine W.reg ?_
 refine WO.q (Q.assign (oc (v := .int .i64 ((0 : Nat) : Int)) rfl)) rfl ?_
 refine WO.nil ?_
 refine End.K ?_
 refine W.block ?_
 refine W.loop_ind (fun (i : Nat) => [(0, va), (1, .str n), (5, .int .i64 ((i : Nat) : Int))]) (fun _ => _) (fun (i : Nat) => i ≤ A.length ∧ getL A n = getL (A.drop i) n) (fun (i : Nat) => A.length - i) (0) ⟨Nat.zero_le _, rfl⟩ (SubS.cons rfl (SubS.cons rfl (SubS.cons rfl (SubS.nil _)))) (SubH.refl _) (fun i hI0 ih0 => ?_)
 obtain ⟨h1, h3⟩ := hI0
 refine W.seq ?_
 refine W.seq ?_
 refine W.reg ?_
 refine WO.q (Q.move rfl) rfl ?_
 refine WO.q (Q.move rfl) rfl ?_
 refine WO.q (Q.len ud63 rfl (LIn.len ha)) rfl ?_
 refine WO.q (Q.bin rfl rfl rfl (bvl ltn)) rfl ?_
 refine WO.nil ?_
 refine End.K ?_
 refine W.cD rfl (fun hc9 => ?_) (fun hc9 => ?_)
 ·skip -- L0T
  obtain ⟨ba, sza, exa, rfl, wa, ma⟩ := LIn.full ha (by omega)
  refine W.skip ?_
  refine End.K ?_
  refine W.seq ?_
  refine W.block ?_
  refine W.seq ?_
  refine W.reg ?_
  refine WO.q (Q.move rfl) rfl ?_
  refine WO.q (Q.move rfl) rfl ?_
  refine WO.q (Q.iS ud63 sz70 rfl rfl zo) rfl ?_
  refine WO.q (Q.fieldAddr fa70_0 rfl rfl) rfl ?_
  refine WO.q (Q.l1 rfl ma ag9 (cL_f0 zo)) rfl ?_
  refine WO.q (Q.move rfl) rfl ?_
  refine WO.q (Q.bin rfl rfl rfl bv_seql) rfl ?_
  refine WO.nil ?_
  refine End.K ?_
  refine W.cD rfl (fun hc18 => ?_) (fun hc18 => ?_)
  ·skip -- L0TT
   refine W.seq ?_
   refine W.reg ?_
   refine WO.q (Q.move rfl) rfl ?_
   refine WO.q (Q.move rfl) rfl ?_
   refine WO.q (Q.iS ud63 sz70 rfl rfl zo) rfl ?_
   refine WO.q (Q.fieldAddr fa70_1 rfl rfl) rfl ?_
   refine WO.q (Q.l1 rfl ma ag9 (cL_f1 zo)) rfl ?_
   refine WO.q (Q.assign rfl) rfl ?_
   refine WO.nil ?_
   refine End.K ?_
   refine W.sub (SubS.cons (k := 4) rfl (SubS.nil _)) ?_
   refine W.ret ?_
   refine End.Br (End.Kr (End.Lr (End.Br (End.Kr (End.rV (ResL.tmp rfl ResL.nil) ?_)))))
   rw [h3, getL_step (by omega), if_pos (by simp_all)]; simp_all [one1]
  ·skip -- L0TF
   refine W.skip ?_
   refine End.KB (End.K ?_)
   refine W.reg ?_
   refine WO.q (Q.move rfl) rfl ?_
   refine WO.q (Q.bin rfl (oc (v := .int .i64 ((1 : Nat) : Int)) rfl) rfl (bv_add (wna zo))) rfl ?_
   refine WO.q (Q.assign rfl) rfl ?_
   refine WO.nil ?_
   refine End.KL ?_
   refine W.sub (SubS.cons rfl (SubS.cons rfl (SubS.cons rfl (SubS.nil _)))) (ih0 (i + 1) ?_ ?_)
   ·exact ⟨by omega, by rw [h3, getL_step (by omega), if_neg (by simp_all)]⟩
   ·exact zo
 ·skip -- L0F
  refine W.exit ?_
  refine End.Kx (End.Lx (End.Bh (End.K ?_)))
  refine W.seq ?_
  refine W.reg ?_
  refine WO.q (Q.assign (oc (v := .str []) (by kernel_rfl))) rfl ?_
  refine WO.nil ?_
  refine End.K ?_
  refine W.ret ?_
  refine End.rV (ResL.tmp rfl ResL.nil) ?_
  rw [h3, getL_end (by omega)]; rfl

theorem mfits_spec (hs : HSt) (hro : ∀ e ∈ hs, e.w = false) (A : List Lab) (va : AV) (ha : LIn hs A va) (hA : LBd A) (m : MtT) (hm : MtOk m) : Spec tab 128 [.agg (mC m), va] [] hs (Val (.bool (fitB m A))) := by
 refine Spec.en (ftg 128 Tryz.func128) rfl (m := 38) rfl (rs := [.tmp 4]) rfl (st := [(0, .agg (mC m)), (1, va)]) rfl rfl (fun _ => rfl) (fun E => ?_)
 refine W.seq ?_
 refine W.reg ?_
 refine WO.box rfl rfl (bx62 _ rfl) rfl (fun b1 => ?_)
 refine WO.q (Q.assign rfl) rfl ?_
 refine WO.nil ?_
 refine End.K ?_
 refine W.seq ?_
 refine W.seq ?_
 refine W.reg ?_
 refine WO.q (Q.loadN rfl (mem_at (i := 0) rfl) ag62 sz62 (l := [_, _, _]) rfl) rfl ?_
 refine WO.cV rfl (oLc rfl oz) rfl (chk_spec hm) SubR.nil rfl ?_
 refine WO.q (Q.bin rfl (oc (v := .int .i64 ((0 : Nat) : Int)) rfl) rfl (bv_neq ne_int)) rfl ?_
 refine WO.nil ?_
 refine End.K ?_
 refine W.cD rfl (fun hc10 => ?_) (fun hc10 => ?_)
 ·skip -- T
  refine W.seq ?_
  refine W.reg ?_
  refine WO.q (Q.assign rfl) rfl ?_
  refine WO.nil ?_
  refine End.K ?_
  refine W.ret ?_
  refine End.Kr (End.rV (ResL.tmp rfl ResL.nil) ?_)
  exact fit_no (by simp_all)
 ·skip -- F
  refine W.skip ?_
  refine End.K ?_
  refine W.seq ?_
  refine W.reg ?_
  refine WO.q (Q.move rfl) rfl ?_
  refine WO.q (Q.fieldAddr fa62_1 rfl (o' := 1) rfl) rfl ?_
  refine WO.q (Q.l1 rfl (mem_at (i := 0) rfl) ag9 rfl) rfl ?_
  refine WO.cV rfl (oLc rfl (oLc rfl oz)) rfl (get_spec hs hro A _ ha hA _ hm.1) (SubR.t (SubR.s hro)) rfl ?_
  refine WO.q (Q.assign rfl) rfl ?_
  refine WO.nil ?_
  refine End.K ?_
  refine W.seq ?_
  refine W.seq ?_
  refine W.reg ?_
  refine WO.q (Q.fieldAddr fa62_0 rfl (o' := 0) rfl) rfl ?_
  refine WO.q (Q.l1 rfl (mem_at (i := 0) rfl) ag3 rfl) rfl ?_
  refine WO.q (Q.bin rfl (oc (v := .int .i64 ((3 : Nat) : Int)) rfl) rfl (bvl (ltA_eq _ _))) rfl ?_
  refine WO.nil ?_
  refine End.K ?_
  refine W.cD rfl (fun hc17 => ?_) (fun hc17 => ?_)
  ·skip -- FT
   refine W.seq ?_
   refine W.reg ?_
   refine WO.q (Q.move rfl) rfl ?_
   refine WO.q (Q.fieldAddr fa62_2 rfl (o' := 2) rfl) rfl ?_
   refine WO.q (Q.l1 rfl (mem_at (i := 0) rfl) ag9 rfl) rfl ?_
   refine WO.q (Q.bin rfl rfl rfl bv_seql) rfl ?_
   refine WO.q (Q.fieldAddr fa62_0 rfl (o' := 0) rfl) rfl ?_
   refine WO.q (Q.l1 rfl (mem_at (i := 0) rfl) ag3 rfl) rfl ?_
   refine WO.q (Q.bin rfl (oc (v := .int .i64 ((1 : Nat) : Int)) rfl) rfl (bv_eql eq_int)) rfl ?_
   refine WO.q (Q.bin rfl rfl rfl (bv_beqB ud4)) rfl ?_
   refine WO.q (Q.assign rfl) rfl ?_
   refine WO.nil ?_
   refine End.K ?_
   refine W.sub (SubS.cons (k := 4) rfl (SubS.nil _)) ?_
   refine W.ret ?_
   refine End.Kr (End.rV (ResL.tmp rfl ResL.nil) ?_)
   exact fit_eq (by simp_all) (by omega)
  ·skip -- FF
   refine W.skip ?_
   refine End.K ?_
   refine W.seq ?_
   refine W.reg ?_
   refine WO.q (Q.fieldAddr fa62_2 rfl (o' := 2) rfl) rfl ?_
   refine WO.q (Q.l1 rfl (mem_at (i := 0) rfl) ag9 rfl) rfl ?_
   refine WO.q (Q.move rfl) rfl ?_
   refine WO.callE rfl (oLc rfl (oLc rfl oz)) rfl (fits_spec hm.2.2.1 hm.2.2.2 (getL_ok hA).1 (getL_ok hA).2) SubR.nil rfl (fun v30 hP30 => ?_)
   obtain ⟨fe, rfl⟩ := hP30
   refine WO.q (Q.move rfl) rfl ?_
   refine WO.q (Q.extract rfl rfl) rfl ?_
   refine WO.q (Q.extract rfl rfl) rfl ?_
   refine WO.q (Q.assign rfl) rfl ?_
   refine WO.q (Q.assign rfl) rfl ?_
   refine WO.nil ?_
   refine End.K ?_
   refine W.sub (SubS.cons (k := 6) rfl (SubS.cons (k := 2) rfl (SubS.nil _))) ?_
   refine W.seq ?_
   refine W.reg ?_
   refine WO.q (Q.move rfl) rfl ?_
   refine WO.q (Q.fieldAddr fa62_0 rfl (o' := 0) rfl) rfl ?_
   refine WO.q (Q.l1 rfl (mem_at (i := 0) rfl) ag3 rfl) rfl ?_
   refine WO.q (Q.bin rfl (oc (v := .int .i64 ((3 : Nat) : Int)) rfl) rfl (bv_eql eq_int)) rfl ?_
   refine WO.q (Q.bin rfl rfl rfl (bv_beqB ud4)) rfl ?_
   refine WO.q (Q.assign rfl) rfl ?_
   refine WO.nil ?_
   refine End.K ?_
   refine W.ret ?_
   refine End.rV (ResL.tmp rfl ResL.nil) ?_
   exact fit_re (by simp_all) (by omega)

theorem mall_spec (hs : HSt) (hro : ∀ e ∈ hs, e.w = false) (A : List Lab) (va : AV) (ha : LIn hs A va) (hA : LBd A) (M : List MtT) (v : AV) (hM : ISm hs M v) (hok : MOk M) : Spec tab 93 [v, va] [] hs (Val (.bool (allB M A))) := by
 have hMl := hok.1
 refine Spec.en (ftg 93 Tryz.func93) rfl (m := 19) rfl (rs := [.tmp 4]) rfl (st := [(0, v), (1, va)]) rfl rfl (fun _ => rfl) (fun E => ?_)
 refine W.seq ?_
 refine W.reg ?_
 refine WO.q (Q.assign rfl) rfl ?_
 refine WO.nil ?_
 refine End.K ?_
 refine W.seq ?_
 refine W.seq ?_
 refine W.reg ?_
 refine WO.q (Q.assign (oc (v := .int .i64 ((0 : Nat) : Int)) rfl)) rfl ?_
 refine WO.nil ?_
 refine End.K ?_
 refine W.block ?_
 refine W.loop_ind (fun (i : Nat) => [(0, v), (1, va), (5, .int .i64 ((i : Nat) : Int))]) (fun _ => _) (fun (i : Nat) => i ≤ M.length ∧ allB M A = allB (M.drop i) A) (fun (i : Nat) => M.length - i) (0) ⟨Nat.zero_le _, rfl⟩ (SubS.cons rfl (SubS.cons rfl (SubS.cons rfl (SubS.nil _)))) (SubH.refl _) (fun i hI0 ih0 => ?_)
 obtain ⟨hi, h3⟩ := hI0
 refine W.seq ?_
 refine W.seq ?_
 refine W.reg ?_
 refine WO.q (Q.move rfl) rfl ?_
 refine WO.q (Q.move rfl) rfl ?_
 refine WO.q (Q.len ud49 rfl (ism_len hM)) rfl ?_
 refine WO.q (Q.bin rfl rfl rfl (bvl ltn)) rfl ?_
 refine WO.nil ?_
 refine End.K ?_
 refine W.cD rfl (fun hc9 => ?_) (fun hc9 => ?_)
 ·skip -- L0T
  obtain ⟨bm, szm, exm, rfl, wm, mm⟩ := ism_full hM (by omega)
  have hx := mok_at hok (i := i) (by omega)
  refine W.skip ?_
  refine End.K ?_
  refine W.seq ?_
  refine W.block ?_
  refine W.seq ?_
  refine W.reg ?_
  refine WO.q (Q.move rfl) rfl ?_
  refine WO.q (Q.move rfl) rfl ?_
  refine WO.q (Q.iS ud49 sz62 rfl rfl zo) rfl ?_
  refine WO.q (Q.loadN rfl mm ag62 sz62 (msub (by omega))) rfl ?_
  refine WO.q (Q.move rfl) rfl ?_
  refine WO.cV rfl (oLc rfl (oLc rfl oz)) rfl (mfits_spec hs hro A _ ha hA (mg M i) hx) (SubR.s hro) rfl ?_
  refine WO.q (Q.not rfl rfl) rfl ?_
  refine WO.nil ?_
  refine End.K ?_
  refine W.condS rfl (fun hc18 => ?_) (fun hc18 => ?_)
  ·skip -- L0TT
   refine W.seq ?_
   refine W.reg ?_
   refine WO.q (Q.assign rfl) rfl ?_
   refine WO.nil ?_
   refine End.K ?_
   refine W.sub (SubS.cons (k := 4) rfl (SubS.nil _)) ?_
   refine W.ret ?_
   refine End.Br (End.Kr (End.Lr (End.Br (End.Kr (End.rV (ResL.tmp rfl ResL.nil) ?_)))))
   rw [h3, allB_step (by omega)]; simp_all [one1]
  ·skip -- L0TF
   refine W.skip ?_
   refine End.KB (End.K ?_)
   refine W.reg ?_
   refine WO.q (Q.move rfl) rfl ?_
   refine WO.q (Q.bin rfl (oc (v := .int .i64 ((1 : Nat) : Int)) rfl) rfl (bv_add (wna zo))) rfl ?_
   refine WO.q (Q.assign rfl) rfl ?_
   refine WO.nil ?_
   refine End.KL ?_
   refine W.sub (SubS.cons rfl (SubS.cons rfl (SubS.cons rfl (SubS.nil _)))) (ih0 (i + 1) ?_ ?_)
   ·exact ⟨by omega, by rw [h3, allB_step (by omega)]; simp_all⟩
   ·exact zo
 ·skip -- L0F
  refine W.exit ?_
  refine End.Kx (End.Lx (End.Bh (End.K ?_)))
  refine W.seq ?_
  refine W.reg ?_
  refine WO.q (Q.assign rfl) rfl ?_
  refine WO.nil ?_
  refine End.K ?_
  refine W.ret ?_
  refine End.rV (ResL.tmp rfl ResL.nil) ?_
  rw [h3, allB_end (by omega)]; rfl

theorem mca_spec (hs : HSt) (hro : ∀ e ∈ hs, e.w = false) (M : List MtT) (v : AV) (hM : ISm hs M v) (hok : MOk M) : Spec tab 58 [v] [] hs (Val (.int .i64 (caV M))) := by
 have hMl := hok.1
 refine Spec.en (ftg 58 Tryz.func58) rfl (m := 24) rfl (rs := [.tmp 2]) rfl (st := [(0, v)]) rfl rfl (fun _ => rfl) (fun E => ?_)
 refine W.seq ?_
 refine W.reg ?_
 refine WO.q (Q.assign (oc (v := .int .i64 ((0 : Nat) : Int)) rfl)) rfl ?_
 refine WO.nil ?_
 refine End.K ?_
 refine W.seq ?_
 refine W.seq ?_
 refine W.reg ?_
 refine WO.q (Q.move rfl) rfl ?_
 refine WO.q (Q.len ud49 rfl (ism_len hM)) rfl ?_
 refine WO.q (Q.bin rfl (oc (v := .int .i64 ((8 : Nat) : Int)) rfl) rfl (bv_gtr ltn)) rfl ?_
 refine WO.nil ?_
 refine End.K ?_
 refine W.cD rfl (fun hc7 => ?_) (fun hc7 => ?_)
 ·skip -- T
  refine W.seq ?_
  refine W.reg ?_
  refine WO.q (Q.assign (oc (v := .int .i64 ((3 : Nat) : Int)) rfl)) rfl ?_
  refine WO.nil ?_
  refine End.K ?_
  refine W.ret ?_
  refine End.Kr (End.rV (ResL.tmp rfl ResL.nil) ?_)
  unfold caV; rw [if_pos (by omega)]; rfl
 ·skip -- F
  refine W.skip ?_
  refine End.K ?_
  refine W.seq ?_
  refine W.seq ?_
  refine W.reg ?_
  refine WO.q (Q.assign (oc (v := .int .i64 ((0 : Nat) : Int)) rfl)) rfl ?_
  refine WO.nil ?_
  refine End.K ?_
  refine W.block ?_
  refine W.loop_ind (fun (i : Nat) => [(0, v), (3, .int .i64 ((i : Nat) : Int))]) (fun _ => _) (fun (i : Nat) => i ≤ M.length ∧ caV M = caF (M.drop i) (if allB M [] = true then 2 else 0)) (fun (i : Nat) => M.length - i) (0) ⟨Nat.zero_le _, by unfold caV; rw [if_neg (by omega)]; rfl⟩ (SubS.cons rfl (SubS.cons rfl (SubS.nil _))) (SubH.refl _) (fun i hI0 ih0 => ?_)
  obtain ⟨hi, h3⟩ := hI0
  refine W.seq ?_
  refine W.seq ?_
  refine W.reg ?_
  refine WO.q (Q.move rfl) rfl ?_
  refine WO.q (Q.move rfl) rfl ?_
  refine WO.q (Q.len ud49 rfl (ism_len hM)) rfl ?_
  refine WO.q (Q.bin rfl rfl rfl (bvl ltn)) rfl ?_
  refine WO.nil ?_
  refine End.K ?_
  refine W.cD rfl (fun hc11 => ?_) (fun hc11 => ?_)
  ·skip -- FL0T
   obtain ⟨bm, szm, exm, rfl, wm, mm⟩ := ism_full hM (by omega)
   have hx := mok_at hok (i := i) (by omega)
   refine W.skip ?_
   refine End.K ?_
   refine W.seq ?_
   refine W.block ?_
   refine W.seq ?_
   refine W.reg ?_
   refine WO.q (Q.move rfl) rfl ?_
   refine WO.q (Q.move rfl) rfl ?_
   refine WO.q (Q.iS ud49 sz62 rfl rfl zo) rfl ?_
   refine WO.q (Q.loadN rfl mm ag62 sz62 (msub (by omega))) rfl ?_
   refine WO.cV rfl (oLc rfl oz) rfl (chk_spec (m := mg M i) hx) SubR.nil rfl ?_
   refine WO.q (Q.assign rfl) rfl ?_
   refine WO.nil ?_
   refine End.K ?_
   refine W.seq ?_
   refine W.reg ?_
   refine WO.q (Q.move rfl) rfl ?_
   refine WO.q (Q.bin rfl (oc (v := .int .i64 ((0 : Nat) : Int)) rfl) rfl (bv_neq ne_int)) rfl ?_
   refine WO.nil ?_
   refine End.K ?_
   refine W.cD rfl (fun hc20 => ?_) (fun hc20 => ?_)
   ·skip -- FL0TT
    refine W.seq ?_
    refine W.reg ?_
    refine WO.q (Q.move rfl) rfl ?_
    refine WO.q (Q.assign rfl) rfl ?_
    refine WO.nil ?_
    refine End.K ?_
    refine W.sub (SubS.cons (k := 2) rfl (SubS.nil _)) ?_
    refine W.ret ?_
    refine End.Br (End.Kr (End.Lr (End.Br (End.Kr (End.rV (ResL.tmp rfl ResL.nil) ?_)))))
    rw [h3, caF_step (by omega)]; simp_all [one1]
   ·skip -- FL0TF
    refine W.skip ?_
    refine End.KB (End.K ?_)
    refine W.reg ?_
    refine WO.q (Q.move rfl) rfl ?_
    refine WO.q (Q.bin rfl (oc (v := .int .i64 ((1 : Nat) : Int)) rfl) rfl (bv_add (wna zo))) rfl ?_
    refine WO.q (Q.assign rfl) rfl ?_
    refine WO.nil ?_
    refine End.KL ?_
    refine W.sub (SubS.cons rfl (SubS.cons rfl (SubS.nil _))) (ih0 (i + 1) ?_ ?_)
    ·exact ⟨by omega, by rw [h3, caF_step (by omega)]; simp_all⟩
    ·exact zo
  ·skip -- FL0F
   refine W.exit ?_
   refine End.Kx (End.Lx (End.Bh (End.K ?_)))
   refine W.seq ?_
   refine W.seq ?_
   refine W.reg ?_
   refine WO.q (Q.move rfl) rfl ?_
   refine WO.cV rfl (oLc rfl (oLc rfl oz)) rfl (mall_spec hs hro [] .nils (.inl ⟨rfl, rfl⟩) ⟨by simp, fun x h => by simp at h⟩ M _ hM hok) (SubR.s hro) rfl ?_
   refine WO.nil ?_
   refine End.K ?_
   refine W.condS rfl (fun hc23 => ?_) (fun hc23 => ?_)
   ·skip -- FL0FT
    refine W.seq ?_
    refine W.reg ?_
    refine WO.q (Q.assign (oc (v := .int .i64 ((2 : Nat) : Int)) rfl)) rfl ?_
    refine WO.nil ?_
    refine End.K ?_
    refine W.ret ?_
    refine End.Kr (End.rV (ResL.tmp rfl ResL.nil) ?_)
    rw [h3, caF_end (by omega)]; simp_all [one1]
   ·skip -- FL0FF
    refine W.skip ?_
    refine End.K ?_
    refine W.seq ?_
    refine W.reg ?_
    refine WO.q (Q.assign (oc (v := .int .i64 ((0 : Nat) : Int)) rfl)) rfl ?_
    refine WO.nil ?_
    refine End.K ?_
    refine W.ret ?_
    refine End.rV (ResL.tmp rfl ResL.nil) ?_
    rw [h3, caF_end (by omega)]; simp_all [one1]
end Go.Proofs.YtfkbfnpjggkdmaaGreatDoor.Ev
