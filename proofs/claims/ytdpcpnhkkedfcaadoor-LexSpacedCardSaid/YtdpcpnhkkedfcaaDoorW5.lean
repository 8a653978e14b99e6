/- Layer 15, walks: labels of one, numbers. -/
import Derived.Test.YtdpcpnhkkedfcaaDoorW4
namespace Go.Proofs.YtdpcpnhkkedfcaaDoor.Ev
open Go.RowKit
set_option linter.unusedVariables false
set_option linter.unusedSimpArgs false
set_option maxRecDepth 100000
theorem cut_open (r : List Nat) (hr : Bytes r) (hl : r.length ≤ 100000) : Spec tab 50 [.str (123 :: r), .str [123]] [] [] (Val (.tuple [.str r, .bool true])) :=
  cutP_yes (123 :: r) [123] (Bytes.cons (by decide) hr) (by unfold Bytes; decide) (by simp; omega) (by decide) (by simp [hasP])
theorem cut_x (r : List Nat) (hr : Bytes r) (hl : r.length ≤ 100000) : Spec tab 51 [.str (120 :: 61 :: r), .str [61]] [] [] (Val (.tuple [.str [120], .str r, .bool true])) := by
  have hk : kB (120 :: 61 :: r) 61 = 1 := by simp [kB, pre]
  have := cut_yes (120 :: 61 :: r) 61 (Bytes.cons (by decide) (Bytes.cons (by decide) hr)) (by decide) (by simp; omega) (by rw [hk]; simp)
  rw [hk] at this
  exact this
theorem prM_bytes {v : List Nat} (hv : Bytes v) : Bytes (prM [120] v) := Bytes.append (Bytes.append (Bytes.one (by decide)) (prB (by unfold Bytes; decide) hv)) (Bytes.one (by decide))
/-- fixed.Parse. -/
def fixU (t : List Nat) : List Nat := if hasP t [45] then t.drop 1 else t
def fixN (t : List Nat) : Int × Int :=
  if kB (fixU t) 46 < (fixU t).length then fixV t ((fixU t).take (kB (fixU t) 46)) ((fixU t).drop (kB (fixU t) 46 + 1)) (hasP t [45]) true
  else fixV t (fixU t) [] (hasP t [45]) false
theorem fixU_len (t : List Nat) : (fixU t).length ≤ t.length := by
  unfold fixU
  split
  · simp
  · exact Nat.le_refl _
theorem fixU_bytes {t : List Nat} (h : Bytes t) : Bytes (fixU t) := by
  unfold fixU
  split
  · exact Bytes.drop h 1
  · exact h
theorem fix_spec (t : List Nat) (ht : Bytes t) (hl : t.length ≤ 65536) : Spec tab 39 [.str t] [] [] (Val (.tuple [.int .i64 (fixN t).1, .int .i64 (fixN t).2])) := by
  have h1 : Spec tab 50 [.str t, .str [45]] [] [] (Val (.tuple [.str (fixU t), .bool (hasP t [45])])) := cutP_spec t [45] ht (by unfold Bytes; decide) (by omega) (by decide)
  have hlen := fixU_len t
  have hby := fixU_bytes ht
  by_cases hk : kB (fixU t) 46 < (fixU t).length
  · have e : fixN t = fixV t ((fixU t).take (kB (fixU t) 46)) ((fixU t).drop (kB (fixU t) 46 + 1)) (hasP t [45]) true := by unfold fixN; exact if_pos hk
    rw [e]
    exact fix_core t _ _ _ _ true ht (Bytes.take hby _) (Bytes.drop hby _) (by simp; omega) (by simp; omega) h1 (cut_yes _ 46 hby (by decide) (by omega) hk)
  · have e : fixN t = fixV t (fixU t) [] (hasP t [45]) false := by unfold fixN; exact if_neg hk
    rw [e]
    exact fix_core t _ _ _ _ false ht hby (by intro c h; simp at h) (by omega) (by simp) h1 (cut_no _ 46 hby (by decide) (by omega) hk)
theorem parse1_no (r : List Nat) (hr : Bytes r) (hl : r.length ≤ 65536) (HV : Spec tab 53 [.str r] [] [] (Val (.tuple [.str [], .str [], .bool false]))) : Spec tab 41 [.str (123 :: 120 :: 61 :: r)] [] [] (Val (.tuple [.nils, .int .i64 ((14 : Nat) : Int)])) := by
  refine Spec.enter' (ft_get 41 Tryd.func41) rfl (m := 76) rfl (rs := [.tmp 2, .tmp 3]) rfl (st := [(0, .str (123 :: 120 :: 61 :: r))]) rfl rfl (fun _ => rfl) (fun E => ?_)
  refine W.seq ?_
  refine W.reg ?_
  refine WO.q (Q.assign rfl) rfl ?_
  refine WO.q (Q.assign (oc (v := .int .i64 ((0 : Nat) : Int)) rfl)) rfl ?_
  refine WO.nil ?_
  refine End.K ?_
  refine W.seq ?_
  refine W.reg ?_
  refine WO.q (Q.move rfl) rfl ?_
  refine WO.callV rfl (oLs_cons rfl (oLs_cons (oc (v := .str [123]) (by kernel_rfl)) oLs_nil)) rfl (cut_open _ (Bytes.cons (by decide) (Bytes.cons (by decide) hr)) (by first | omega | (simp only [List.length_drop, List.length_take, List.length_append, List.length_cons, List.length_nil] at *; omega))) SubR.nil rfl ?_
  refine WO.q (Q.move rfl) rfl ?_
  refine WO.q (Q.extract rfl rfl) rfl ?_
  refine WO.q (Q.extract rfl rfl) rfl ?_
  refine WO.q (Q.assign rfl) rfl ?_
  refine WO.q (Q.assign rfl) rfl ?_
  refine WO.nil ?_
  refine End.K ?_
  refine W.sub (SubS.cons (k := 5) rfl (SubS.cons (k := 4) rfl (SubS.cons (k := 0) rfl (SubS.nil _)))) ?_
  refine W.seq ?_
  refine W.reg ?_
  refine WO.q (Q.assign rfl) rfl ?_
  refine WO.nil ?_
  refine End.K ?_
  refine W.seq ?_
  refine W.block ?_
  refine W.loop ?_
  refine W.seq ?_
  refine W.seq ?_
  refine W.reg ?_
  refine WO.q (Q.move rfl) rfl ?_
  refine WO.q (Q.move rfl) rfl ?_
  refine WO.gT rfl rfl ?_
  refine WO.q (Q.move rfl) rfl ?_
  refine WO.gT rfl rfl ?_
  refine WO.q (Q.bin rfl (oc (v := .str [125]) (by kernel_rfl)) rfl bv_sneq) rfl ?_
  refine WO.q (Q.pickT rfl rfl) rfl ?_
  refine WO.nil ?_
  refine End.K ?_
  refine W.condDS rfl (fun hc22 => ?_) (fun hc22 => ?_)
  · skip -- T
    refine W.skip ?_
    refine End.K ?_
    refine W.sub (SubS.cons (k := 6) rfl (SubS.cons (k := 4) rfl (SubS.cons (k := 0) rfl (SubS.nil _)))) ?_
    refine W.block ?_
    refine W.seq ?_
    refine W.seq ?_
    refine W.reg ?_
    refine WO.q (Q.move rfl) rfl ?_
    refine WO.q (Q.len ud72 rfl rfl) rfl ?_
    refine WO.q (Q.bin rfl (oc (v := .int .i64 ((0 : Nat) : Int)) rfl) rfl (bv_gtr (p := false) rfl)) rfl ?_
    refine WO.nil ?_
    refine End.K ?_
    refine W.condF rfl ?_
    refine W.skip ?_
    refine End.K ?_
    refine W.seq ?_
    refine W.reg ?_
    refine WO.q (Q.move rfl) rfl ?_
    refine WO.callV rfl (oLs_cons rfl (oLs_cons (oc (v := .str [61]) (by kernel_rfl)) oLs_nil)) rfl (cut_x _ hr (by first | omega | (simp only [List.length_drop, List.length_take, List.length_append, List.length_cons, List.length_nil] at *; omega))) SubR.nil rfl ?_
    refine WO.q (Q.move rfl) rfl ?_
    refine WO.q (Q.extract rfl rfl) rfl ?_
    refine WO.q (Q.extract rfl rfl) rfl ?_
    refine WO.q (Q.extract rfl rfl) rfl ?_
    refine WO.q (Q.assign rfl) rfl ?_
    refine WO.q (Q.assign rfl) rfl ?_
    refine WO.q (Q.assign rfl) rfl ?_
    refine WO.nil ?_
    refine End.K ?_
    refine W.sub (SubS.cons (k := 9) rfl (SubS.cons (k := 8) rfl (SubS.cons (k := 7) rfl (SubS.cons (k := 6) rfl (SubS.cons (k := 4) rfl (SubS.cons (k := 0) rfl (SubS.nil _))))))) ?_
    refine W.seq ?_
    refine W.reg ?_
    refine WO.q (Q.move rfl) rfl ?_
    refine WO.callV rfl (oLs_cons rfl oLs_nil) rfl HV SubR.nil rfl ?_
    refine WO.q (Q.move rfl) rfl ?_
    refine WO.q (Q.extract rfl rfl) rfl ?_
    refine WO.q (Q.extract rfl rfl) rfl ?_
    refine WO.q (Q.extract rfl rfl) rfl ?_
    refine WO.q (Q.assign rfl) rfl ?_
    refine WO.q (Q.assign rfl) rfl ?_
    refine WO.q (Q.assign rfl) rfl ?_
    refine WO.nil ?_
    refine End.K ?_
    refine W.sub (SubS.cons (k := 12) rfl (SubS.cons (k := 11) rfl (SubS.cons (k := 10) rfl (SubS.cons (k := 9) rfl (SubS.cons (k := 7) rfl (SubS.cons (k := 6) rfl (SubS.cons (k := 4) rfl (SubS.cons (k := 0) rfl (SubS.nil _))))))))) ?_
    refine W.seq ?_
    refine W.reg ?_
    refine WO.q (Q.move rfl) rfl ?_
    refine WO.q (Q.move rfl) rfl ?_
    refine WO.gT rfl rfl ?_
    refine WO.q (Q.move rfl) rfl ?_
    refine WO.q (Q.pickT rfl rfl) rfl ?_
    refine WO.q (Q.move rfl) rfl ?_
    refine WO.gF rfl rfl (.inl rfl) rfl ?_
    refine WO.gF rfl rfl (.inl rfl) rfl ?_
    refine WO.gF rfl rfl (.inl rfl) rfl ?_
    refine WO.q (Q.pickF rfl rfl) rfl ?_
    refine WO.q (Q.assign rfl) rfl ?_
    refine WO.nil ?_
    refine End.K ?_
    refine W.sub (SubS.cons (k := 5) rfl (SubS.cons (k := 11) rfl (SubS.cons (k := 10) rfl (SubS.cons (k := 7) rfl (SubS.cons (k := 6) rfl (SubS.cons (k := 4) rfl (SubS.cons (k := 0) rfl (SubS.nil _)))))))) ?_
    refine W.seq ?_
    refine W.reg ?_
    refine WO.q (Q.move rfl) rfl ?_
    refine WO.nil ?_
    refine End.K ?_
    refine W.condF rfl ?_
    refine W.skip ?_
    refine End.KB (End.KL ?_)
    refine W.loop ?_
    refine W.seq ?_
    refine W.seq ?_
    refine W.reg ?_
    refine WO.q (Q.move rfl) rfl ?_
    refine WO.q (Q.move rfl) rfl ?_
    refine WO.gF rfl rfl (.inl rfl) rfl ?_
    refine WO.gF rfl rfl (.inl rfl) rfl ?_
    refine WO.q (Q.pickF rfl rfl) rfl ?_
    refine WO.nil ?_
    refine End.K ?_
    refine W.sub (SubS.cons (k := 22) rfl (SubS.cons (k := 5) rfl (SubS.cons (k := 6) rfl (SubS.cons (k := 4) rfl (SubS.cons (k := 0) rfl (SubS.nil _)))))) ?_
    refine W.condF rfl ?_
    refine W.exit ?_
    refine End.K_exit (End.KL_exit (End.KB_hit (End.K ?_)))
    refine W.seq ?_
    refine W.seq ?_
    refine W.reg ?_
    refine WO.q (Q.move rfl) rfl ?_
    refine WO.q (Q.not rfl rfl) rfl ?_
    refine WO.q (Q.move rfl) rfl ?_
    refine WO.gF rfl rfl (.inl rfl) rfl ?_
    refine WO.gF rfl rfl (.inl rfl) rfl ?_
    refine WO.gF rfl rfl (.inl rfl) rfl ?_
    refine WO.q (Q.pickT rfl rfl) rfl ?_
    refine WO.q (Q.move rfl) rfl ?_
    refine WO.gF rfl rfl (.inl rfl) rfl ?_
    refine WO.gF rfl rfl (.inl rfl) rfl ?_
    refine WO.gF rfl rfl (.inl rfl) rfl ?_
    refine WO.gF rfl rfl (.inl rfl) rfl ?_
    refine WO.q (Q.pickT rfl rfl) rfl ?_
    refine WO.nil ?_
    refine End.K ?_
    refine W.sub (SubS.cons (k := 74) rfl (SubS.cons (k := 6) rfl (SubS.nil _))) ?_
    refine W.condT rfl ?_
    refine W.seq ?_
    refine W.reg ?_
    refine WO.q (Q.assign rfl) rfl ?_
    refine WO.q (Q.assign (oc (v := .int .i64 ((14 : Nat) : Int)) rfl)) rfl ?_
    refine WO.nil ?_
    refine End.K ?_
    refine W.ret ?_
    refine End.K_ret (End.retV (ResL.tmp rfl (ResL.tmp rfl ResL.nil)) ?_)
    rfl
  · exact absurd (by simp) hc22

theorem parse1_bad (r : List Nat) (hr : Bytes r) (hl : r.length ≤ 65536) (v : List Nat) (hv : Bytes v) (hlv : v.length ≤ 65536) (HV : Spec tab 53 [.str r] [] [] (Val (.tuple [.str v, .str [125], .bool true]))) (hC : ¬ (chk1 [120] v = 0 ∧ prM [120] v = 123 :: 120 :: 61 :: r)) : Spec tab 41 [.str (123 :: 120 :: 61 :: r)] [] [] (Val (.tuple [.nils, .int .i64 ((14 : Nat) : Int)])) := by
  refine Spec.enter' (ft_get 41 Tryd.func41) rfl (m := 76) rfl (rs := [.tmp 2, .tmp 3]) rfl (st := [(0, .str (123 :: 120 :: 61 :: r))]) rfl rfl (fun _ => rfl) (fun E => ?_)
  refine W.seq ?_
  refine W.reg ?_
  refine WO.q (Q.assign rfl) rfl ?_
  refine WO.q (Q.assign (oc (v := .int .i64 ((0 : Nat) : Int)) rfl)) rfl ?_
  refine WO.nil ?_
  refine End.K ?_
  refine W.seq ?_
  refine W.reg ?_
  refine WO.q (Q.move rfl) rfl ?_
  refine WO.callV rfl (oLs_cons rfl (oLs_cons (oc (v := .str [123]) (by kernel_rfl)) oLs_nil)) rfl (cut_open _ (Bytes.cons (by decide) (Bytes.cons (by decide) hr)) (by first | omega | (simp only [List.length_drop, List.length_take, List.length_append, List.length_cons, List.length_nil] at *; omega))) SubR.nil rfl ?_
  refine WO.q (Q.move rfl) rfl ?_
  refine WO.q (Q.extract rfl rfl) rfl ?_
  refine WO.q (Q.extract rfl rfl) rfl ?_
  refine WO.q (Q.assign rfl) rfl ?_
  refine WO.q (Q.assign rfl) rfl ?_
  refine WO.nil ?_
  refine End.K ?_
  refine W.sub (SubS.cons (k := 5) rfl (SubS.cons (k := 4) rfl (SubS.cons (k := 0) rfl (SubS.nil _)))) ?_
  refine W.seq ?_
  refine W.reg ?_
  refine WO.q (Q.assign rfl) rfl ?_
  refine WO.nil ?_
  refine End.K ?_
  refine W.seq ?_
  refine W.block ?_
  refine W.loop ?_
  refine W.seq ?_
  refine W.seq ?_
  refine W.reg ?_
  refine WO.q (Q.move rfl) rfl ?_
  refine WO.q (Q.move rfl) rfl ?_
  refine WO.gT rfl rfl ?_
  refine WO.q (Q.move rfl) rfl ?_
  refine WO.gT rfl rfl ?_
  refine WO.q (Q.bin rfl (oc (v := .str [125]) (by kernel_rfl)) rfl bv_sneq) rfl ?_
  refine WO.q (Q.pickT rfl rfl) rfl ?_
  refine WO.nil ?_
  refine End.K ?_
  refine W.condDS rfl (fun hc22 => ?_) (fun hc22 => ?_)
  · skip -- T
    refine W.skip ?_
    refine End.K ?_
    refine W.sub (SubS.cons (k := 6) rfl (SubS.cons (k := 4) rfl (SubS.cons (k := 0) rfl (SubS.nil _)))) ?_
    refine W.block ?_
    refine W.seq ?_
    refine W.seq ?_
    refine W.reg ?_
    refine WO.q (Q.move rfl) rfl ?_
    refine WO.q (Q.len ud72 rfl rfl) rfl ?_
    refine WO.q (Q.bin rfl (oc (v := .int .i64 ((0 : Nat) : Int)) rfl) rfl (bv_gtr (p := false) rfl)) rfl ?_
    refine WO.nil ?_
    refine End.K ?_
    refine W.condF rfl ?_
    refine W.skip ?_
    refine End.K ?_
    refine W.seq ?_
    refine W.reg ?_
    refine WO.q (Q.move rfl) rfl ?_
    refine WO.callV rfl (oLs_cons rfl (oLs_cons (oc (v := .str [61]) (by kernel_rfl)) oLs_nil)) rfl (cut_x _ hr (by first | omega | (simp only [List.length_drop, List.length_take, List.length_append, List.length_cons, List.length_nil] at *; omega))) SubR.nil rfl ?_
    refine WO.q (Q.move rfl) rfl ?_
    refine WO.q (Q.extract rfl rfl) rfl ?_
    refine WO.q (Q.extract rfl rfl) rfl ?_
    refine WO.q (Q.extract rfl rfl) rfl ?_
    refine WO.q (Q.assign rfl) rfl ?_
    refine WO.q (Q.assign rfl) rfl ?_
    refine WO.q (Q.assign rfl) rfl ?_
    refine WO.nil ?_
    refine End.K ?_
    refine W.sub (SubS.cons (k := 9) rfl (SubS.cons (k := 8) rfl (SubS.cons (k := 7) rfl (SubS.cons (k := 6) rfl (SubS.cons (k := 4) rfl (SubS.cons (k := 0) rfl (SubS.nil _))))))) ?_
    refine W.seq ?_
    refine W.reg ?_
    refine WO.q (Q.move rfl) rfl ?_
    refine WO.callV rfl (oLs_cons rfl oLs_nil) rfl HV SubR.nil rfl ?_
    refine WO.q (Q.move rfl) rfl ?_
    refine WO.q (Q.extract rfl rfl) rfl ?_
    refine WO.q (Q.extract rfl rfl) rfl ?_
    refine WO.q (Q.extract rfl rfl) rfl ?_
    refine WO.q (Q.assign rfl) rfl ?_
    refine WO.q (Q.assign rfl) rfl ?_
    refine WO.q (Q.assign rfl) rfl ?_
    refine WO.nil ?_
    refine End.K ?_
    refine W.sub (SubS.cons (k := 12) rfl (SubS.cons (k := 11) rfl (SubS.cons (k := 10) rfl (SubS.cons (k := 9) rfl (SubS.cons (k := 7) rfl (SubS.cons (k := 6) rfl (SubS.cons (k := 4) rfl (SubS.cons (k := 0) rfl (SubS.nil _))))))))) ?_
    refine W.seq ?_
    refine W.reg ?_
    refine WO.q (Q.move rfl) rfl ?_
    refine WO.q (Q.move rfl) rfl ?_
    refine WO.gT rfl rfl ?_
    refine WO.q (Q.move rfl) rfl ?_
    refine WO.q (Q.pickT rfl rfl) rfl ?_
    refine WO.q (Q.move rfl) rfl ?_
    refine WO.gT rfl rfl ?_
    refine WO.q (Q.move rfl) rfl ?_
    refine WO.gT rfl rfl ?_
    refine WO.q (Q.len ud72 rfl rfl) rfl ?_
    refine WO.gT rfl rfl ?_
    refine WO.q (Q.bin rfl (oc (v := .int .i64 ((8 : Nat) : Int)) rfl) rfl (bv_lss (p := true) rfl)) rfl ?_
    refine WO.q (Q.pickT rfl rfl) rfl ?_
    refine WO.q (Q.assign rfl) rfl ?_
    refine WO.nil ?_
    refine End.K ?_
    refine W.sub (SubS.cons (k := 5) rfl (SubS.cons (k := 11) rfl (SubS.cons (k := 10) rfl (SubS.cons (k := 7) rfl (SubS.cons (k := 6) rfl (SubS.cons (k := 4) rfl (SubS.cons (k := 0) rfl (SubS.nil _)))))))) ?_
    refine W.seq ?_
    refine W.reg ?_
    refine WO.q (Q.move rfl) rfl ?_
    refine WO.nil ?_
    refine End.K ?_
    refine W.condT rfl ?_
    refine W.reg ?_
    refine WO.q (Q.move rfl) rfl ?_
    refine WO.q (Q.move rfl) rfl ?_
    refine WO.q (Q.move rfl) rfl ?_
    refine WO.q (Q.build pl76 (oPs_cons rfl (oPs_cons rfl oPs_nil)) rfl (cs := [_, _]) rfl) rfl ?_
    refine WO.bslice ud72 sz76 zr76 rfl (oPs_cons rfl oPs_nil) rfl (cs := [_, _]) rfl rfl rfl (fun b1 => ?_)
    refine WO.appOwn (e := ⟨b1, _, true⟩) (A := []) ap72_72 (Own.nil 2) rfl rfl rfl rfl ⟨by first | omega | (simp only [List.length_drop, List.length_take, List.length_append, List.length_cons, List.length_nil] at *; omega), by first | omega | (simp only [List.length_drop, List.length_take, List.length_append, List.length_cons, List.length_nil] at *; omega)⟩ (by decide) rfl rfl (fun v60 hp60 hO60 => ?_)
    obtain ⟨b60, ex60, rfl, rfl⟩ := hO60.full (by omega)
    refine WO.q (Q.move rfl) rfl ?_
    refine WO.q (Q.assign rfl) rfl ?_
    refine WO.q (Q.assign rfl) rfl ?_
    refine WO.nil ?_
    refine End.KB (End.KL ?_)
    refine W.loop ?_
    refine W.seq ?_
    refine W.seq ?_
    refine W.reg ?_
    refine WO.q (Q.move rfl) rfl ?_
    refine WO.q (Q.move rfl) rfl ?_
    refine WO.gT rfl rfl ?_
    refine WO.q (Q.move rfl) rfl ?_
    refine WO.gT rfl rfl ?_
    refine WO.q (Q.bin rfl (oc (v := .str [125]) (by kernel_rfl)) rfl bv_sneq) rfl ?_
    refine WO.q (Q.pickT rfl rfl) rfl ?_
    refine WO.nil ?_
    refine End.K ?_
    refine W.sub (SubS.cons (k := 22) rfl (SubS.cons (k := 4) rfl (SubS.cons (k := 6) rfl (SubS.cons (k := 5) rfl (SubS.cons (k := 0) rfl (SubS.nil _)))))) ?_
    refine W.condDS rfl (fun hc22 => ?_) (fun hc22 => ?_)
    · exact absurd rfl hc22
    · skip -- TF
      refine W.exit ?_
      refine End.K_exit (End.KL_exit (End.KB_hit (End.K ?_)))
      refine W.seq ?_
      refine W.seq ?_
      refine W.reg ?_
      refine WO.q (Q.move rfl) rfl ?_
      refine WO.q (Q.not rfl rfl) rfl ?_
      refine WO.q (Q.move rfl) rfl ?_
      refine WO.gT rfl rfl ?_
      refine WO.q (Q.move rfl) rfl ?_
      refine WO.gT rfl rfl ?_
      refine WO.callV rfl (oLs_cons rfl oLs_nil) rfl (check1_spec _ _ (by unfold Bytes; decide) hv (by decide) hlv b60 _) (SubR.one (mem_at (i := 0) rfl)) rfl ?_
      refine WO.gT rfl rfl ?_
      refine WO.q (Q.bin rfl (oc (v := .int .i64 ((0 : Nat) : Int)) rfl) rfl (bv_neq ne_nat)) rfl ?_
      refine WO.q (Q.pickF rfl rfl) rfl ?_
      refine WO.q (Q.move rfl) rfl ?_
      refine WO.splitD (d := 69) rfl (fun hc69 => ?_) (fun hc69 => ?_)
      · skip -- TFt
        refine WO.gF rfl rfl (.inl rfl) rfl ?_
        refine WO.gF rfl rfl (.inl rfl) rfl ?_
        refine WO.gF rfl rfl (.inl rfl) rfl ?_
        refine WO.gF rfl rfl (.inl rfl) rfl ?_
        refine WO.q (Q.pickT rfl rfl) rfl ?_
        refine WO.nil ?_
        refine End.K ?_
        refine W.sub (SubS.cons (k := 74) rfl (SubS.cons (k := 6) rfl (SubS.nil _))) ?_
        refine W.condT rfl ?_
        refine W.seq ?_
        refine W.reg ?_
        refine WO.q (Q.assign rfl) rfl ?_
        refine WO.q (Q.assign (oc (v := .int .i64 ((14 : Nat) : Int)) rfl)) rfl ?_
        refine WO.nil ?_
        refine End.K ?_
        refine W.ret ?_
        refine End.K_ret (End.retV (ResL.tmp rfl (ResL.tmp rfl ResL.nil)) ?_)
        rfl
      · skip -- TFf
        refine WO.gT rfl rfl ?_
        refine WO.q (Q.move rfl) rfl ?_
        refine WO.gT rfl rfl ?_
        refine WO.callV rfl (oLs_cons rfl oLs_nil) rfl (print1_spec _ _ (by unfold Bytes; decide) hv (by decide) hlv b60 _) (SubR.one (mem_at (i := 0) rfl)) rfl ?_
        refine WO.gT rfl rfl ?_
        refine WO.q (Q.move rfl) rfl ?_
        refine WO.gT rfl rfl ?_
        refine WO.q (Q.bin rfl rfl rfl bv_sneq) rfl ?_
        refine WO.q (Q.pickF rfl rfl) rfl ?_
        refine WO.nil ?_
        refine End.K ?_
        refine W.sub (SubS.cons (k := 74) rfl (SubS.cons (k := 6) rfl (SubS.nil _))) ?_
        refine W.condDS rfl (fun hc74 => ?_) (fun hc74 => ?_)
        · skip -- TFfT
          refine W.seq ?_
          refine W.reg ?_
          refine WO.q (Q.assign rfl) rfl ?_
          refine WO.q (Q.assign (oc (v := .int .i64 ((14 : Nat) : Int)) rfl)) rfl ?_
          refine WO.nil ?_
          refine End.K ?_
          refine W.ret ?_
          refine End.K_ret (End.retV (ResL.tmp rfl (ResL.tmp rfl ResL.nil)) ?_)
          rfl
        · skip -- TFfF
          refine W.skip ?_
          refine End.K ?_
          refine W.seq ?_
          refine W.reg ?_
          refine WO.q (Q.move rfl) rfl ?_
          refine WO.q (Q.assign rfl) rfl ?_
          refine WO.q (Q.assign (oc (v := .int .i64 ((0 : Nat) : Int)) rfl)) rfl ?_
          refine WO.nil ?_
          refine End.K ?_
          refine W.ret ?_
          refine End.retV (ResL.tmp rfl (ResL.tmp rfl ResL.nil)) ?_
          exact absurd ⟨Decidable.not_not.1 hc69, Decidable.not_not.1 hc74⟩ hC
  · exact absurd (by simp) hc22

theorem parse1_ok (r : List Nat) (hr : Bytes r) (hl : r.length ≤ 65536) (v : List Nat) (hv : Bytes v) (hlv : v.length ≤ 65536) (HV : Spec tab 53 [.str r] [] [] (Val (.tuple [.str v, .str [125], .bool true]))) (hC : chk1 [120] v = 0 ∧ prM [120] v = 123 :: 120 :: 61 :: r) : Spec tab 41 [.str (123 :: 120 :: 61 :: r)] [] [] (fun o D => ∃ b ex, o = .tuple [.slice b 0 1 2, .int .i64 ((0 : Nat) : Int)] ∧ D = [⟨b, ⟨2, ex, [.str [120], .str v]⟩, true⟩]) := by
  refine Spec.enter' (ft_get 41 Tryd.func41) rfl (m := 76) rfl (rs := [.tmp 2, .tmp 3]) rfl (st := [(0, .str (123 :: 120 :: 61 :: r))]) rfl rfl (fun _ => rfl) (fun E => ?_)
  refine W.seq ?_
  refine W.reg ?_
  refine WO.q (Q.assign rfl) rfl ?_
  refine WO.q (Q.assign (oc (v := .int .i64 ((0 : Nat) : Int)) rfl)) rfl ?_
  refine WO.nil ?_
  refine End.K ?_
  refine W.seq ?_
  refine W.reg ?_
  refine WO.q (Q.move rfl) rfl ?_
  refine WO.callV rfl (oLs_cons rfl (oLs_cons (oc (v := .str [123]) (by kernel_rfl)) oLs_nil)) rfl (cut_open _ (Bytes.cons (by decide) (Bytes.cons (by decide) hr)) (by first | omega | (simp only [List.length_drop, List.length_take, List.length_append, List.length_cons, List.length_nil] at *; omega))) SubR.nil rfl ?_
  refine WO.q (Q.move rfl) rfl ?_
  refine WO.q (Q.extract rfl rfl) rfl ?_
  refine WO.q (Q.extract rfl rfl) rfl ?_
  refine WO.q (Q.assign rfl) rfl ?_
  refine WO.q (Q.assign rfl) rfl ?_
  refine WO.nil ?_
  refine End.K ?_
  refine W.sub (SubS.cons (k := 5) rfl (SubS.cons (k := 4) rfl (SubS.cons (k := 0) rfl (SubS.nil _)))) ?_
  refine W.seq ?_
  refine W.reg ?_
  refine WO.q (Q.assign rfl) rfl ?_
  refine WO.nil ?_
  refine End.K ?_
  refine W.seq ?_
  refine W.block ?_
  refine W.loop ?_
  refine W.seq ?_
  refine W.seq ?_
  refine W.reg ?_
  refine WO.q (Q.move rfl) rfl ?_
  refine WO.q (Q.move rfl) rfl ?_
  refine WO.gT rfl rfl ?_
  refine WO.q (Q.move rfl) rfl ?_
  refine WO.gT rfl rfl ?_
  refine WO.q (Q.bin rfl (oc (v := .str [125]) (by kernel_rfl)) rfl bv_sneq) rfl ?_
  refine WO.q (Q.pickT rfl rfl) rfl ?_
  refine WO.nil ?_
  refine End.K ?_
  refine W.condDS rfl (fun hc22 => ?_) (fun hc22 => ?_)
  · skip -- T
    refine W.skip ?_
    refine End.K ?_
    refine W.sub (SubS.cons (k := 6) rfl (SubS.cons (k := 4) rfl (SubS.cons (k := 0) rfl (SubS.nil _)))) ?_
    refine W.block ?_
    refine W.seq ?_
    refine W.seq ?_
    refine W.reg ?_
    refine WO.q (Q.move rfl) rfl ?_
    refine WO.q (Q.len ud72 rfl rfl) rfl ?_
    refine WO.q (Q.bin rfl (oc (v := .int .i64 ((0 : Nat) : Int)) rfl) rfl (bv_gtr (p := false) rfl)) rfl ?_
    refine WO.nil ?_
    refine End.K ?_
    refine W.condF rfl ?_
    refine W.skip ?_
    refine End.K ?_
    refine W.seq ?_
    refine W.reg ?_
    refine WO.q (Q.move rfl) rfl ?_
    refine WO.callV rfl (oLs_cons rfl (oLs_cons (oc (v := .str [61]) (by kernel_rfl)) oLs_nil)) rfl (cut_x _ hr (by first | omega | (simp only [List.length_drop, List.length_take, List.length_append, List.length_cons, List.length_nil] at *; omega))) SubR.nil rfl ?_
    refine WO.q (Q.move rfl) rfl ?_
    refine WO.q (Q.extract rfl rfl) rfl ?_
    refine WO.q (Q.extract rfl rfl) rfl ?_
    refine WO.q (Q.extract rfl rfl) rfl ?_
    refine WO.q (Q.assign rfl) rfl ?_
    refine WO.q (Q.assign rfl) rfl ?_
    refine WO.q (Q.assign rfl) rfl ?_
    refine WO.nil ?_
    refine End.K ?_
    refine W.sub (SubS.cons (k := 9) rfl (SubS.cons (k := 8) rfl (SubS.cons (k := 7) rfl (SubS.cons (k := 6) rfl (SubS.cons (k := 4) rfl (SubS.cons (k := 0) rfl (SubS.nil _))))))) ?_
    refine W.seq ?_
    refine W.reg ?_
    refine WO.q (Q.move rfl) rfl ?_
    refine WO.callV rfl (oLs_cons rfl oLs_nil) rfl HV SubR.nil rfl ?_
    refine WO.q (Q.move rfl) rfl ?_
    refine WO.q (Q.extract rfl rfl) rfl ?_
    refine WO.q (Q.extract rfl rfl) rfl ?_
    refine WO.q (Q.extract rfl rfl) rfl ?_
    refine WO.q (Q.assign rfl) rfl ?_
    refine WO.q (Q.assign rfl) rfl ?_
    refine WO.q (Q.assign rfl) rfl ?_
    refine WO.nil ?_
    refine End.K ?_
    refine W.sub (SubS.cons (k := 12) rfl (SubS.cons (k := 11) rfl (SubS.cons (k := 10) rfl (SubS.cons (k := 9) rfl (SubS.cons (k := 7) rfl (SubS.cons (k := 6) rfl (SubS.cons (k := 4) rfl (SubS.cons (k := 0) rfl (SubS.nil _))))))))) ?_
    refine W.seq ?_
    refine W.reg ?_
    refine WO.q (Q.move rfl) rfl ?_
    refine WO.q (Q.move rfl) rfl ?_
    refine WO.gT rfl rfl ?_
    refine WO.q (Q.move rfl) rfl ?_
    refine WO.q (Q.pickT rfl rfl) rfl ?_
    refine WO.q (Q.move rfl) rfl ?_
    refine WO.gT rfl rfl ?_
    refine WO.q (Q.move rfl) rfl ?_
    refine WO.gT rfl rfl ?_
    refine WO.q (Q.len ud72 rfl rfl) rfl ?_
    refine WO.gT rfl rfl ?_
    refine WO.q (Q.bin rfl (oc (v := .int .i64 ((8 : Nat) : Int)) rfl) rfl (bv_lss (p := true) rfl)) rfl ?_
    refine WO.q (Q.pickT rfl rfl) rfl ?_
    refine WO.q (Q.assign rfl) rfl ?_
    refine WO.nil ?_
    refine End.K ?_
    refine W.sub (SubS.cons (k := 5) rfl (SubS.cons (k := 11) rfl (SubS.cons (k := 10) rfl (SubS.cons (k := 7) rfl (SubS.cons (k := 6) rfl (SubS.cons (k := 4) rfl (SubS.cons (k := 0) rfl (SubS.nil _)))))))) ?_
    refine W.seq ?_
    refine W.reg ?_
    refine WO.q (Q.move rfl) rfl ?_
    refine WO.nil ?_
    refine End.K ?_
    refine W.condT rfl ?_
    refine W.reg ?_
    refine WO.q (Q.move rfl) rfl ?_
    refine WO.q (Q.move rfl) rfl ?_
    refine WO.q (Q.move rfl) rfl ?_
    refine WO.q (Q.build pl76 (oPs_cons rfl (oPs_cons rfl oPs_nil)) rfl (cs := [_, _]) rfl) rfl ?_
    refine WO.bslice ud72 sz76 zr76 rfl (oPs_cons rfl oPs_nil) rfl (cs := [_, _]) rfl rfl rfl (fun b1 => ?_)
    refine WO.appOwn (e := ⟨b1, _, true⟩) (A := []) ap72_72 (Own.nil 2) rfl rfl rfl rfl ⟨by first | omega | (simp only [List.length_drop, List.length_take, List.length_append, List.length_cons, List.length_nil] at *; omega), by first | omega | (simp only [List.length_drop, List.length_take, List.length_append, List.length_cons, List.length_nil] at *; omega)⟩ (by decide) rfl rfl (fun v60 hp60 hO60 => ?_)
    obtain ⟨b60, ex60, rfl, rfl⟩ := hO60.full (by omega)
    refine WO.q (Q.move rfl) rfl ?_
    refine WO.q (Q.assign rfl) rfl ?_
    refine WO.q (Q.assign rfl) rfl ?_
    refine WO.nil ?_
    refine End.KB (End.KL ?_)
    refine W.loop ?_
    refine W.seq ?_
    refine W.seq ?_
    refine W.reg ?_
    refine WO.q (Q.move rfl) rfl ?_
    refine WO.q (Q.move rfl) rfl ?_
    refine WO.gT rfl rfl ?_
    refine WO.q (Q.move rfl) rfl ?_
    refine WO.gT rfl rfl ?_
    refine WO.q (Q.bin rfl (oc (v := .str [125]) (by kernel_rfl)) rfl bv_sneq) rfl ?_
    refine WO.q (Q.pickT rfl rfl) rfl ?_
    refine WO.nil ?_
    refine End.K ?_
    refine W.sub (SubS.cons (k := 22) rfl (SubS.cons (k := 4) rfl (SubS.cons (k := 6) rfl (SubS.cons (k := 5) rfl (SubS.cons (k := 0) rfl (SubS.nil _)))))) ?_
    refine W.condDS rfl (fun hc22 => ?_) (fun hc22 => ?_)
    · exact absurd rfl hc22
    · skip -- TF
      refine W.exit ?_
      refine End.K_exit (End.KL_exit (End.KB_hit (End.K ?_)))
      refine W.seq ?_
      refine W.seq ?_
      refine W.reg ?_
      refine WO.q (Q.move rfl) rfl ?_
      refine WO.q (Q.not rfl rfl) rfl ?_
      refine WO.q (Q.move rfl) rfl ?_
      refine WO.gT rfl rfl ?_
      refine WO.q (Q.move rfl) rfl ?_
      refine WO.gT rfl rfl ?_
      refine WO.callV rfl (oLs_cons rfl oLs_nil) rfl (check1_spec _ _ (by unfold Bytes; decide) hv (by decide) hlv b60 _) (SubR.one (mem_at (i := 0) rfl)) rfl ?_
      refine WO.gT rfl rfl ?_
      refine WO.q (Q.bin rfl (oc (v := .int .i64 ((0 : Nat) : Int)) rfl) rfl (bv_neq ne_nat)) rfl ?_
      refine WO.q (Q.pickF rfl rfl) rfl ?_
      refine WO.q (Q.move rfl) rfl ?_
      refine WO.splitD (d := 69) rfl (fun hc69 => ?_) (fun hc69 => ?_)
      · exact absurd hC.1 hc69
      · skip -- TFf
        refine WO.gT rfl rfl ?_
        refine WO.q (Q.move rfl) rfl ?_
        refine WO.gT rfl rfl ?_
        refine WO.callV rfl (oLs_cons rfl oLs_nil) rfl (print1_spec _ _ (by unfold Bytes; decide) hv (by decide) hlv b60 _) (SubR.one (mem_at (i := 0) rfl)) rfl ?_
        refine WO.gT rfl rfl ?_
        refine WO.q (Q.move rfl) rfl ?_
        refine WO.gT rfl rfl ?_
        refine WO.q (Q.bin rfl rfl rfl bv_sneq) rfl ?_
        refine WO.q (Q.pickF rfl rfl) rfl ?_
        refine WO.nil ?_
        refine End.K ?_
        refine W.sub (SubS.cons (k := 74) rfl (SubS.cons (k := 6) rfl (SubS.nil _))) ?_
        refine W.condDS rfl (fun hc74 => ?_) (fun hc74 => ?_)
        · exact absurd hC.2 hc74
        · skip -- TFfF
          refine W.skip ?_
          refine End.K ?_
          refine W.seq ?_
          refine W.reg ?_
          refine WO.q (Q.move rfl) rfl ?_
          refine WO.q (Q.assign rfl) rfl ?_
          refine WO.q (Q.assign (oc (v := .int .i64 ((0 : Nat) : Int)) rfl)) rfl ?_
          refine WO.nil ?_
          refine End.K ?_
          refine W.ret ?_
          refine End.ret (ResL.tmp rfl (ResL.tmp rfl ResL.nil)) ⟨b60, ex60, rfl, rfl⟩ (by intro e he; simp at he; subst he; rfl) (SubH.of_sublist (by simp))
  · exact absurd (by simp) hc22
end Go.Proofs.YtdpcpnhkkedfcaaDoor.Ev
