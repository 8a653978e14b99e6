/- Chapter 19, walks: what an operator makes of two numbers. -/
import Derived.Test.YtmblgaehfjheeaaGreatBYv
namespace Go.Proofs.YtmblgaehfjheeaaGreat.Ev
open Go.RowKit
set_option linter.unusedVariables false
set_option linter.unusedSimpArgs false
set_option maxRecDepth 100000
set_option maxHeartbeats 1000000
def ariB (op : List Nat) : Bool := decide (op = [43] ∨ op = [45] ∨ op = [42] ∨ op = [47] ∨ op = [37])
def cmpB (op : List Nat) : Bool := decide (op = [61, 61] ∨ op = [33, 61] ∨ op = [60, 61] ∨ op = [62, 61] ∨ op = [60] ∨ op = [62])
def cmpP (op : List Nat) (a b : Int) : Bool := if op = [61, 61] then decide (a = b) else if op = [33, 61] then decide (a ≠ b) else if op = [60, 61] then decide (a ≤ b) else if op = [62, 61] then decide (b ≤ a) else if op = [60] then decide (a < b) else decide (b < a)
def numM (op : List Nat) (a b : Int) : Int × Int :=
  if ariB op = false ∧ cmpB op = false then (0, 9) else if ¬ (fitB a = true ∧ fitB b = true) then (0, 2) else if op = [43] then fAdd a b else if op = [45] then fSub a b else if op = [42] then fMul a b else if op = [47] then fDiv a b else if op = [37] then fMod a b
  else if cmpP op a b = true then (1000000, 0) else (0, 0)
section
variable {op : List Nat} {a b : Int}
theorem numM_9 (h1 : ariB op = false) (h2 : cmpB op = false) : numM op a b = (0, 9) := if_pos ⟨h1, h2⟩
theorem numM_2 (h : ariB op = true ∨ cmpB op = true) (hf : fitB a = false ∨ fitB b = false) : numM op a b = (0, 2) := by
  unfold numM
  rw [if_neg (by rcases h with h | h <;> simp [h]), if_pos (by rcases hf with h | h <;> simp [h])]
theorem numM_go (h : ariB op = true ∨ cmpB op = true) (ha : fitB a = true) (hb : fitB b = true) : numM op a b = if op = [43] then fAdd a b else if op = [45] then fSub a b else if op = [42] then fMul a b else if op = [47] then fDiv a b else if op = [37] then fMod a b
  else if cmpP op a b = true then (1000000, 0) else (0, 0) := by
  unfold numM
  rw [if_neg (by rcases h with h | h <;> simp [h]), if_neg (by simp [ha, hb])]
end
theorem ari_spec (op : List Nat) (ho : Bytes op) : Spec tab 31 [.str op] [] [] (Val (.bool (ariB op))) := by
 refine Spec.enter' (ft_get 31 Tryz.func31) rfl (m := 10) rfl (rs := [.tmp 2]) rfl (st := [(0, .str op)]) rfl rfl (fun _ => rfl) (fun E => zr (za rfl (zk (W.seq (zr (zm rfl (zk (W.block (W.seq (zr (zq (Q.bin rfl (oc (v := .str [43]) (by kernel_rfl)) rfl bv_seql) (za rfl (zk (W.condDS rfl (fun hc4 => ?_) (fun hc4 => ?_)))))))))))))))
 · refine zw (W.condT rfl (zr (za rfl (zk (W.ret (End.KB_ret (End.K_ret (End.retV (z1 rfl) ?_))))))))
   first | rfl | (refine congrArg AV.bool ?_; simp_all [ariB, cmpB]; done) | (show AV.bool _ = AV.bool _; simp_all [ariB, cmpB])
 refine zr (zq (Q.bin rfl (oc (v := .str [45]) (by kernel_rfl)) rfl bv_seql) (za rfl (zk (W.condDS rfl (fun hc4 => ?_) (fun hc4 => ?_)))))
 · refine zw (W.condT rfl (zr (za rfl (zk (W.ret (End.KB_ret (End.K_ret (End.retV (z1 rfl) ?_))))))))
   first | rfl | (refine congrArg AV.bool ?_; simp_all [ariB, cmpB]; done) | (show AV.bool _ = AV.bool _; simp_all [ariB, cmpB])
 refine zr (zq (Q.bin rfl (oc (v := .str [42]) (by kernel_rfl)) rfl bv_seql) (za rfl (zk (W.condDS rfl (fun hc4 => ?_) (fun hc4 => ?_)))))
 · refine zw (W.condT rfl (zr (za rfl (zk (W.ret (End.KB_ret (End.K_ret (End.retV (z1 rfl) ?_))))))))
   first | rfl | (refine congrArg AV.bool ?_; simp_all [ariB, cmpB]; done) | (show AV.bool _ = AV.bool _; simp_all [ariB, cmpB])
 refine zr (zq (Q.bin rfl (oc (v := .str [47]) (by kernel_rfl)) rfl bv_seql) (za rfl (zk (W.condDS rfl (fun hc4 => ?_) (fun hc4 => ?_)))))
 · refine zw (W.condT rfl (zr (za rfl (zk (W.ret (End.KB_ret (End.K_ret (End.retV (z1 rfl) ?_))))))))
   first | rfl | (refine congrArg AV.bool ?_; simp_all [ariB, cmpB]; done) | (show AV.bool _ = AV.bool _; simp_all [ariB, cmpB])
 refine W.reg (zq (Q.bin rfl (oc (v := .str [37]) (by kernel_rfl)) rfl bv_seql) (za rfl (zk (W.condDS rfl (fun hc4 => ?_) (fun hc4 => ?_)))))
 · refine zr (za rfl (zk (W.ret (End.KB_ret (End.K_ret (End.retV (z1 rfl) ?_))))))
   first | rfl | (refine congrArg AV.bool ?_; simp_all [ariB, cmpB]; done) | (show AV.bool _ = AV.bool _; simp_all [ariB, cmpB])
 refine W.skip (End.KB (End.K (zr (za rfl (zk (W.ret (End.retV (z1 rfl) ?_)))))))
 first | rfl | (refine congrArg AV.bool ?_; simp_all [ariB, cmpB]; done) | (show AV.bool _ = AV.bool _; simp_all [ariB, cmpB])

theorem cps_spec (op : List Nat) (ho : Bytes op) : Spec tab 32 [.str op] [] [] (Val (.bool (cmpB op))) := by
 refine Spec.enter' (ft_get 32 Tryz.func32) rfl (m := 11) rfl (rs := [.tmp 2]) rfl (st := [(0, .str op)]) rfl rfl (fun _ => rfl) (fun E => zr (za rfl (zk (W.seq (zr (zm rfl (zk (W.block (W.seq (zr (zq (Q.bin rfl (oc (v := .str [61, 61]) (by kernel_rfl)) rfl bv_seql) (za rfl (zk (W.condDS rfl (fun hc4 => ?_) (fun hc4 => ?_)))))))))))))))
 · refine zw (W.condT rfl (zr (za rfl (zk (W.ret (End.KB_ret (End.K_ret (End.retV (z1 rfl) ?_))))))))
   first | rfl | (refine congrArg AV.bool ?_; simp_all [ariB, cmpB]; done) | (show AV.bool _ = AV.bool _; simp_all [ariB, cmpB])
 refine zr (zq (Q.bin rfl (oc (v := .str [33, 61]) (by kernel_rfl)) rfl bv_seql) (za rfl (zk (W.condDS rfl (fun hc4 => ?_) (fun hc4 => ?_)))))
 · refine zw (W.condT rfl (zr (za rfl (zk (W.ret (End.KB_ret (End.K_ret (End.retV (z1 rfl) ?_))))))))
   first | rfl | (refine congrArg AV.bool ?_; simp_all [ariB, cmpB]; done) | (show AV.bool _ = AV.bool _; simp_all [ariB, cmpB])
 refine zr (zq (Q.bin rfl (oc (v := .str [60, 61]) (by kernel_rfl)) rfl bv_seql) (za rfl (zk (W.condDS rfl (fun hc4 => ?_) (fun hc4 => ?_)))))
 · refine zw (W.condT rfl (zr (za rfl (zk (W.ret (End.KB_ret (End.K_ret (End.retV (z1 rfl) ?_))))))))
   first | rfl | (refine congrArg AV.bool ?_; simp_all [ariB, cmpB]; done) | (show AV.bool _ = AV.bool _; simp_all [ariB, cmpB])
 refine zr (zq (Q.bin rfl (oc (v := .str [62, 61]) (by kernel_rfl)) rfl bv_seql) (za rfl (zk (W.condDS rfl (fun hc4 => ?_) (fun hc4 => ?_)))))
 · refine zw (W.condT rfl (zr (za rfl (zk (W.ret (End.KB_ret (End.K_ret (End.retV (z1 rfl) ?_))))))))
   first | rfl | (refine congrArg AV.bool ?_; simp_all [ariB, cmpB]; done) | (show AV.bool _ = AV.bool _; simp_all [ariB, cmpB])
 refine zr (zq (Q.bin rfl (oc (v := .str [60]) (by kernel_rfl)) rfl bv_seql) (za rfl (zk (W.condDS rfl (fun hc4 => ?_) (fun hc4 => ?_)))))
 · refine zw (W.condT rfl (zr (za rfl (zk (W.ret (End.KB_ret (End.K_ret (End.retV (z1 rfl) ?_))))))))
   first | rfl | (refine congrArg AV.bool ?_; simp_all [ariB, cmpB]; done) | (show AV.bool _ = AV.bool _; simp_all [ariB, cmpB])
 refine W.reg (zq (Q.bin rfl (oc (v := .str [62]) (by kernel_rfl)) rfl bv_seql) (za rfl (zk (W.condDS rfl (fun hc4 => ?_) (fun hc4 => ?_)))))
 · refine zr (za rfl (zk (W.ret (End.KB_ret (End.K_ret (End.retV (z1 rfl) ?_))))))
   first | rfl | (refine congrArg AV.bool ?_; simp_all [ariB, cmpB]; done) | (show AV.bool _ = AV.bool _; simp_all [ariB, cmpB])
 refine W.skip (End.KB (End.K (zr (za rfl (zk (W.ret (End.retV (z1 rfl) ?_)))))))
 first | rfl | (refine congrArg AV.bool ?_; simp_all [ariB, cmpB]; done) | (show AV.bool _ = AV.bool _; simp_all [ariB, cmpB])

theorem truth_spec (p : Bool) : Spec tab 45 [.bool p] [] [] (Val (.tuple [.int .i64 (if p = true then 1000000 else 0), .int .i64 ((0 : Nat) : Int)])) := by
 refine Spec.enter' (ft_get 45 Tryz.func45) rfl (m := 5) rfl (rs := [.tmp 2, .tmp 3]) rfl (st := [(0, .bool p)]) rfl rfl (fun _ => rfl) (fun E => zr (za (zi 0) (za (zi 0) (zk (W.seq (zr (zm rfl (zk (W.condS rfl (fun hc4 => ?_) (fun hc4 => ?_))))))))))
 · refine zr (za (zi 1000000) (za (zi 0) (zk (W.ret (End.K_ret (End.retV (ResL.tmp rfl (z1 rfl)) ?_))))))
   simp_all [oneOf]
 refine zw (zr (za (zi 0) (za (zi 0) (zk (W.ret (End.retV (ResL.tmp rfl (z1 rfl)) ?_))))))
 simp_all [oneOf]

theorem num_spec (op : List Nat) (ho : Bytes op) (a b : Int) : Spec tab 16 [.str op, .int .i64 a, .int .i64 b] [] [] (Val (pairA (numM op a b))) := by
 refine Spec.enter' (ft_get 16 Tryz.func16) rfl (m := 108) rfl (rs := [.tmp 6, .tmp 7]) rfl (st := [(0, .str op), (1, .int .i64 a), (2, .int .i64 b)]) rfl rfl (fun _ => rfl) (fun E => zr (za (zi 0) (za (zi 0) (zk (W.seqK1 (fun (q : Unit) => [(0, .str op), (1, .int .i64 a), (2, .int .i64 b)]) (fun (q : Unit) => (ariB op = true ∨ cmpB op = true) ∧ fitB a = true ∧ fitB b = true) (fun q hI5 => ?_) (fun hJ5 => ?_))))))
 · obtain ⟨hg1, hg2, hg3⟩ := hI5
   have hg := numM_go hg1 hg2 hg3
   refine W.seq (zr (zm rfl (zk (W.block (zr (zq (Q.bin rfl (oc (v := .str [43]) (by kernel_rfl)) rfl bv_seql) (za rfl (zk (W.condDS rfl (fun hc27 => ?_) (fun hc27 => ?_))))))))))
   · refine zr (zm rfl (zm rfl (WO.callV rfl (oLs_cons rfl (oLs_cons rfl oLs_nil)) rfl (Spec.known (fun _ => rfl)) SubR.nil rfl (zq (Q.extract rfl rfl) (zq (Q.extract rfl rfl) (za rfl (za rfl (zk (W.ret (End.KB_ret (End.K_ret (End.retV (ResL.tmp rfl (z1 rfl)) ?_))))))))))))
     first | (refine congrArg pairA (Eq.symm ?_); rw [hg]; simp_all; done) | (rw [hg]; unfold pairA oneOf; simp_all; done) | (rw [hg]; unfold pairA oneOf; simp_all [cmpP]; done) | (rw [hg]; unfold pairA oneOf; simp_all [cmpP]; split <;> simp_all; done) | (rw [hg]; unfold pairA oneOf; simp_all [cmpP]; split <;> simp_all <;> omega)
   refine zr (zq (Q.bin rfl (oc (v := .str [45]) (by kernel_rfl)) rfl bv_seql) (za rfl (zk (W.condDS rfl (fun hc34 => ?_) (fun hc34 => ?_)))))
   · refine zr (zm rfl (zm rfl (WO.callV rfl (oLs_cons rfl (oLs_cons rfl oLs_nil)) rfl (Spec.known (fun _ => rfl)) SubR.nil rfl (zq (Q.extract rfl rfl) (zq (Q.extract rfl rfl) (za rfl (za rfl (zk (W.ret (End.KB_ret (End.K_ret (End.retV (ResL.tmp rfl (z1 rfl)) ?_))))))))))))
     first | (refine congrArg pairA (Eq.symm ?_); rw [hg]; simp_all; done) | (rw [hg]; unfold pairA oneOf; simp_all; done) | (rw [hg]; unfold pairA oneOf; simp_all [cmpP]; done) | (rw [hg]; unfold pairA oneOf; simp_all [cmpP]; split <;> simp_all; done) | (rw [hg]; unfold pairA oneOf; simp_all [cmpP]; split <;> simp_all <;> omega)
   refine zr (zq (Q.bin rfl (oc (v := .str [42]) (by kernel_rfl)) rfl bv_seql) (za rfl (zk (W.condDS rfl (fun hc41 => ?_) (fun hc41 => ?_)))))
   · refine zr (zm rfl (zm rfl (WO.callV rfl (oLs_cons rfl (oLs_cons rfl oLs_nil)) rfl (Spec.known (fun _ => rfl)) SubR.nil rfl (zq (Q.extract rfl rfl) (zq (Q.extract rfl rfl) (za rfl (za rfl (zk (W.sub (zc 7 rfl (zc 6 rfl zzn)) (W.ret (End.KB_ret (End.K_ret (End.retV (ResL.tmp rfl (z1 rfl)) ?_)))))))))))))
     first | (refine congrArg pairA (Eq.symm ?_); rw [hg]; simp_all; done) | (rw [hg]; unfold pairA oneOf; simp_all; done) | (rw [hg]; unfold pairA oneOf; simp_all [cmpP]; done) | (rw [hg]; unfold pairA oneOf; simp_all [cmpP]; split <;> simp_all; done) | (rw [hg]; unfold pairA oneOf; simp_all [cmpP]; split <;> simp_all <;> omega)
   refine zr (zq (Q.bin rfl (oc (v := .str [47]) (by kernel_rfl)) rfl bv_seql) (za rfl (zk (W.condDS rfl (fun hc48 => ?_) (fun hc48 => ?_)))))
   · refine zr (zm rfl (zm rfl (WO.callV rfl (oLs_cons rfl (oLs_cons rfl oLs_nil)) rfl (Spec.known (fun _ => rfl)) SubR.nil rfl (zq (Q.extract rfl rfl) (zq (Q.extract rfl rfl) (za rfl (za rfl (zk (W.sub (zc 7 rfl (zc 6 rfl zzn)) (W.ret (End.KB_ret (End.K_ret (End.retV (ResL.tmp rfl (z1 rfl)) ?_)))))))))))))
     first | (refine congrArg pairA (Eq.symm ?_); rw [hg]; simp_all; done) | (rw [hg]; unfold pairA oneOf; simp_all; done) | (rw [hg]; unfold pairA oneOf; simp_all [cmpP]; done) | (rw [hg]; unfold pairA oneOf; simp_all [cmpP]; split <;> simp_all; done) | (rw [hg]; unfold pairA oneOf; simp_all [cmpP]; split <;> simp_all <;> omega)
   refine zr (zq (Q.bin rfl (oc (v := .str [37]) (by kernel_rfl)) rfl bv_seql) (za rfl (zk (W.condDS rfl (fun hc55 => ?_) (fun hc55 => ?_)))))
   · refine zr (zm rfl (zm rfl (WO.callV rfl (oLs_cons rfl (oLs_cons rfl oLs_nil)) rfl (Spec.known (fun _ => rfl)) SubR.nil rfl (zq (Q.extract rfl rfl) (zq (Q.extract rfl rfl) (za rfl (za rfl (zk (W.sub (zc 7 rfl (zc 6 rfl zzn)) (W.ret (End.KB_ret (End.K_ret (End.retV (ResL.tmp rfl (z1 rfl)) ?_)))))))))))))
     first | (refine congrArg pairA (Eq.symm ?_); rw [hg]; simp_all; done) | (rw [hg]; unfold pairA oneOf; simp_all; done) | (rw [hg]; unfold pairA oneOf; simp_all [cmpP]; done) | (rw [hg]; unfold pairA oneOf; simp_all [cmpP]; split <;> simp_all; done) | (rw [hg]; unfold pairA oneOf; simp_all [cmpP]; split <;> simp_all <;> omega)
   refine zr (zq (Q.bin rfl (oc (v := .str [61, 61]) (by kernel_rfl)) rfl bv_seql) (za rfl (zk (W.condDS rfl (fun hc62 => ?_) (fun hc62 => ?_)))))
   · refine zr (zm rfl (zm rfl (zq (Q.bin rfl rfl rfl (bv_eql eq_int)) (WO.callV rfl (oLs_cons rfl oLs_nil) rfl (truth_spec _) SubR.nil rfl (zq (Q.extract rfl rfl) (zq (Q.extract rfl rfl) (za rfl (za rfl (zk (W.sub (zc 7 rfl (zc 6 rfl zzn)) (W.ret (End.KB_ret (End.K_ret (End.retV (ResL.tmp rfl (z1 rfl)) ?_))))))))))))))
     first | (refine congrArg pairA (Eq.symm ?_); rw [hg]; simp_all; done) | (rw [hg]; unfold pairA oneOf; simp_all; done) | (rw [hg]; unfold pairA oneOf; simp_all [cmpP]; done) | (rw [hg]; unfold pairA oneOf; simp_all [cmpP]; split <;> simp_all; done) | (rw [hg]; unfold pairA oneOf; simp_all [cmpP]; split <;> simp_all <;> omega)
   refine zr (zq (Q.bin rfl (oc (v := .str [33, 61]) (by kernel_rfl)) rfl bv_seql) (za rfl (zk (W.sub (zc 70 rfl (zc 26 rfl (zc 1 rfl (zc 2 rfl zzn)))) (W.condDS rfl (fun hc70 => ?_) (fun hc70 => ?_))))))
   · refine zr (zm rfl (zm rfl (zq (Q.bin rfl rfl rfl (bv_neq ne_int)) (WO.callV rfl (oLs_cons rfl oLs_nil) rfl (truth_spec _) SubR.nil rfl (zq (Q.extract rfl rfl) (zq (Q.extract rfl rfl) (za rfl (za rfl (zk (W.ret (End.KB_ret (End.K_ret (End.retV (ResL.tmp rfl (z1 rfl)) ?_)))))))))))))
     first | (refine congrArg pairA (Eq.symm ?_); rw [hg]; simp_all; done) | (rw [hg]; unfold pairA oneOf; simp_all; done) | (rw [hg]; unfold pairA oneOf; simp_all [cmpP]; done) | (rw [hg]; unfold pairA oneOf; simp_all [cmpP]; split <;> simp_all; done) | (rw [hg]; unfold pairA oneOf; simp_all [cmpP]; split <;> simp_all <;> omega)
   refine zr (zq (Q.bin rfl (oc (v := .str [60, 61]) (by kernel_rfl)) rfl bv_seql) (za rfl (zk (W.condDS rfl (fun hc78 => ?_) (fun hc78 => ?_)))))
   · refine zr (zm rfl (zm rfl (zq (Q.bin rfl rfl rfl (bv_leq le_int)) (WO.callV rfl (oLs_cons rfl oLs_nil) rfl (truth_spec _) SubR.nil rfl (zq (Q.extract rfl rfl) (zq (Q.extract rfl rfl) (za rfl (za rfl (zk (W.ret (End.KB_ret (End.K_ret (End.retV (ResL.tmp rfl (z1 rfl)) ?_)))))))))))))
     first | (refine congrArg pairA (Eq.symm ?_); rw [hg]; simp_all; done) | (rw [hg]; unfold pairA oneOf; simp_all; done) | (rw [hg]; unfold pairA oneOf; simp_all [cmpP]; done) | (rw [hg]; unfold pairA oneOf; simp_all [cmpP]; split <;> simp_all; done) | (rw [hg]; unfold pairA oneOf; simp_all [cmpP]; split <;> simp_all <;> omega)
   refine zr (zq (Q.bin rfl (oc (v := .str [62, 61]) (by kernel_rfl)) rfl bv_seql) (za rfl (zk (W.condDS rfl (fun hc86 => ?_) (fun hc86 => ?_)))))
   · refine zr (zm rfl (zm rfl (zq (Q.bin rfl rfl rfl (bv_geq le_int)) (WO.callV rfl (oLs_cons rfl oLs_nil) rfl (truth_spec _) SubR.nil rfl (zq (Q.extract rfl rfl) (zq (Q.extract rfl rfl) (za rfl (za rfl (zk (W.sub (zc 7 rfl (zc 6 rfl zzn)) (W.ret (End.KB_ret (End.K_ret (End.retV (ResL.tmp rfl (z1 rfl)) ?_))))))))))))))
     first | (refine congrArg pairA (Eq.symm ?_); rw [hg]; simp_all; done) | (rw [hg]; unfold pairA oneOf; simp_all; done) | (rw [hg]; unfold pairA oneOf; simp_all [cmpP]; done) | (rw [hg]; unfold pairA oneOf; simp_all [cmpP]; split <;> simp_all; done) | (rw [hg]; unfold pairA oneOf; simp_all [cmpP]; split <;> simp_all <;> omega)
   refine zr (zq (Q.bin rfl (oc (v := .str [60]) (by kernel_rfl)) rfl bv_seql) (za rfl (zk (W.condDS rfl (fun hc94 => ?_) (fun hc94 => ?_)))))
   · refine zr (zm rfl (zm rfl (zq (Q.bin rfl rfl rfl (bv_lss (ltA_eq _ _))) (WO.callV rfl (oLs_cons rfl oLs_nil) rfl (truth_spec _) SubR.nil rfl (zq (Q.extract rfl rfl) (zq (Q.extract rfl rfl) (za rfl (za rfl (zk (W.sub (zc 7 rfl (zc 6 rfl zzn)) (W.ret (End.KB_ret (End.K_ret (End.retV (ResL.tmp rfl (z1 rfl)) ?_))))))))))))))
     first | (refine congrArg pairA (Eq.symm ?_); rw [hg]; simp_all; done) | (rw [hg]; unfold pairA oneOf; simp_all; done) | (rw [hg]; unfold pairA oneOf; simp_all [cmpP]; done) | (rw [hg]; unfold pairA oneOf; simp_all [cmpP]; split <;> simp_all; done) | (rw [hg]; unfold pairA oneOf; simp_all [cmpP]; split <;> simp_all <;> omega)
   refine W.skip (End.KB (End.K (zr (zm rfl (zm rfl (zq (Q.bin rfl rfl rfl (bv_gtr (ltA_eq _ _))) (WO.callV rfl (oLs_cons rfl oLs_nil) rfl (truth_spec _) SubR.nil rfl (zq (Q.extract rfl rfl) (zq (Q.extract rfl rfl) (za rfl (za rfl (zk (W.sub (zc 7 rfl (zc 6 rfl zzn)) (W.ret (End.retV (ResL.tmp rfl (z1 rfl)) ?_)))))))))))))))
   first | (refine congrArg pairA (Eq.symm ?_); rw [hg]; simp_all; done) | (rw [hg]; unfold pairA oneOf; simp_all; done) | (rw [hg]; unfold pairA oneOf; simp_all [cmpP]; done) | (rw [hg]; unfold pairA oneOf; simp_all [cmpP]; split <;> simp_all; done) | (rw [hg]; unfold pairA oneOf; simp_all [cmpP]; split <;> simp_all <;> omega)
 refine W.block (zr (zm rfl (WO.callV rfl (oLs_cons rfl oLs_nil) rfl (ari_spec _ ho) SubR.nil rfl (zq (Q.not rfl rfl) (zm rfl (WO.split (d := 12) rfl (fun hc12 => ?_) (fun hc12 => ?_)))))))
 · refine WO.gT rfl rfl (zm rfl (WO.gT rfl rfl (WO.callV rfl (oLs_cons rfl oLs_nil) rfl (cps_spec _ ho) SubR.nil rfl (WO.gT rfl rfl (zq (Q.not rfl rfl) (zq (Q.pickT rfl rfl) (za rfl (zk (W.condS rfl (fun hc8 => ?_) (fun hc8 => ?_))))))))))
   · refine zr (za (zi 0) (za (zi 9) (zk (W.ret (End.KB_ret (End.K_ret (End.retV (ResL.tmp rfl (z1 rfl)) ?_)))))))
     rw [numM_9 (by simp_all) (by simp_all)]; rfl
   refine zr (zm rfl (WO.callV rfl (oLs_cons rfl oLs_nil) rfl (fits_spec _) SubR.nil rfl (zq (Q.not rfl rfl) (zm rfl (WO.split (d := 21) rfl (fun hc21 => ?_) (fun hc21 => ?_))))))
   · refine zg rfl rfl (zg rfl rfl (zg rfl rfl (zq (Q.pickT rfl rfl) (za rfl (zk (W.sub (zc 17 rfl (zc 0 rfl (zc 1 rfl (zc 2 rfl zzn)))) (W.condT rfl (zr (za (zi 0) (za (zi 2) (zk (W.ret (End.KB_ret (End.K_ret (End.retV (ResL.tmp rfl (z1 rfl)) ?_)))))))))))))))
     rw [numM_2 (by simp_all) (by simp_all)]; rfl
   refine WO.gT rfl rfl (zm rfl (WO.gT rfl rfl (WO.callV rfl (oLs_cons rfl oLs_nil) rfl (fits_spec _) SubR.nil rfl (WO.gT rfl rfl (zq (Q.not rfl rfl) (zq (Q.pickF rfl rfl) (za rfl (zk (W.sub (zc 17 rfl (zc 0 rfl (zc 1 rfl (zc 2 rfl zzn)))) (W.condS rfl (fun hc17 => ?_) (fun hc17 => ?_)))))))))))
   · refine zr (za (zi 0) (za (zi 2) (zk (W.ret (End.KB_ret (End.K_ret (End.retV (ResL.tmp rfl (z1 rfl)) ?_)))))))
     rw [numM_2 (by simp_all) (by simp_all)]; rfl
   refine W.skip (End.KB (End.K (W.sub zv (hJ5 (()) ?_))))
   exact ⟨by simp_all, by simp_all, by simp_all⟩
 refine zg rfl rfl (zg rfl rfl (zg rfl rfl (zq (Q.pickF rfl rfl) (za rfl (zk (W.condF rfl (zr (zm rfl (WO.callV rfl (oLs_cons rfl oLs_nil) rfl (fits_spec _) SubR.nil rfl (zq (Q.not rfl rfl) (zm rfl (WO.split (d := 21) rfl (fun hc21 => ?_) (fun hc21 => ?_)))))))))))))
 · refine zg rfl rfl (zg rfl rfl (zg rfl rfl (zq (Q.pickT rfl rfl) (za rfl (zk (W.sub (zc 17 rfl (zc 0 rfl (zc 1 rfl (zc 2 rfl zzn)))) (W.condT rfl (zr (za (zi 0) (za (zi 2) (zk (W.ret (End.KB_ret (End.K_ret (End.retV (ResL.tmp rfl (z1 rfl)) ?_)))))))))))))))
   rw [numM_2 (by simp_all) (by simp_all)]; rfl
 refine WO.gT rfl rfl (zm rfl (WO.gT rfl rfl (WO.callV rfl (oLs_cons rfl oLs_nil) rfl (fits_spec _) SubR.nil rfl (WO.gT rfl rfl (zq (Q.not rfl rfl) (zq (Q.pickF rfl rfl) (za rfl (zk (W.sub (zc 17 rfl (zc 0 rfl (zc 1 rfl (zc 2 rfl zzn)))) (W.condS rfl (fun hc17 => ?_) (fun hc17 => ?_)))))))))))
 · refine zr (za (zi 0) (za (zi 2) (zk (W.ret (End.KB_ret (End.K_ret (End.retV (ResL.tmp rfl (z1 rfl)) ?_)))))))
   rw [numM_2 (by simp_all) (by simp_all)]; rfl
 refine W.skip (End.KB (End.K (W.sub zv (hJ5 (()) ?_))))
 exact ⟨by simp_all, by simp_all, by simp_all⟩

end Go.Proofs.YtmblgaehfjheeaaGreat.Ev
