/- Chapter 20, walks: what an operator makes of two numbers. -/
import Derived.Test.YtndhhgbpcmfeiaaGreatDoorNJi
namespace Go.Proofs.YtndhhgbpcmfeiaaGreatDoor.Ev
open Go.RowKit
set_option maxRecDepth 100000
set_option maxHeartbeats 1000000
def eQ (n : Int) : Bool := decide (-1152921504606846976 <= n) && decide (n <= 1152921504606846976)
def dK (op : List Nat) : Bool := decide (op = [43] \/ op = [45] \/ op = [42] \/ op = [47] \/ op = [37])
def dM (op : List Nat) : Bool := decide (op = [61, 61] \/ op = [33, 61] \/ op = [60, 61] \/ op = [62, 61] \/ op = [60] \/ op = [62])
def dq (op : List Nat) (a b : Int) : Bool := if op = [61, 61] then decide (a = b) else if op = [33, 61] then decide (a ≠ b) else if op = [60, 61] then decide (a <= b) else if op = [62, 61] then decide (b <= a) else if op = [60] then decide (a < b) else decide (b < a)
def di (op : List Nat) (a b : Int) : Int × Int :=
 if dK op = false /\ dM op = false then (0, 9) else if ¬ (eQ a = true /\ eQ b = true) then (0, 2) else if op = [43] then nh a b else if op = [45] then ni a b else if op = [42] then li a b else if op = [47] then jN a b else if op = [37] then jO a b
 else if dq op a b = true then (1000000, 0) else (0, 0)
section
variable {op : List Nat} {a b : Int}
theorem BV (h1 : dK op = false) (h2 : dM op = false) : di op a b = (0, 9) := if_pos ⟨h1, h2⟩
theorem pq (h : dK op = true \/ dM op = true) (hf : eQ a = false \/ eQ b = false) : di op a b = (0, 2) := by
 unfold di
 rw [if_neg (by rcases h with h | h <;> simp [h]), if_pos (by rcases hf with h | h <;> simp [h])]
theorem iX (h : dK op = true \/ dM op = true) (ha : eQ a = true) (hb : eQ b = true) : di op a b = if op = [43] then nh a b else if op = [45] then ni a b else if op = [42] then li a b else if op = [47] then jN a b else if op = [37] then jO a b
 else if dq op a b = true then (1000000, 0) else (0, 0) := by
 unfold di
 rw [if_neg (by rcases h with h | h <;> simp [h]), if_neg (by simp [ha, hb])]
end

theorem gC (n : Int) : Spec aA 75 [.int .i64 n] [] [] (eA (.bool (eQ n))) := by
 refine aj (dW 75 Tryz.func75) rfl (m := 9) rfl (rs := [.tmp 2]) rfl (st := [(0, .int .i64 n)]) rfl rfl (fun _ => rfl) (fun E => zr (za rfl (zk (zr (zm rfl (zq (Q.bin rfl rfl rfl (eh kq)) (zm rfl (aQ (d := 5) rfl (fun hc5 => ?_) (fun hc5 => ?_)))))))))
 ·refine zT (zm rfl (zT (zq (Q.bin rfl (zi 1152921504606846976) rfl (eh kq)) (zq (aC rfl rfl) (za rfl (zk (W.ret (ab (z1 rfl) ?_))))))))
  first | (simp_all [ac, eQ]; done) | (simp_all [ac, eQ]; omega)
 refine z2 (zq (aH rfl rfl) (za rfl (zk (W.ret (ab (z1 rfl) ?_)))))
 first | (simp_all [ac, eQ]; done) | (simp_all [ac, eQ]; omega)

theorem uL (op : List Nat) (ho : Bytes op) : Spec aA 105 [.str op] [] [] (eA (.bool (dK op))) := by
 refine aj (dW 105 Tryz.func105) rfl (m := 10) rfl (rs := [.tmp 2]) rfl (st := [(0, .str op)]) rfl rfl (fun _ => rfl) (fun E => zr (za rfl (zk (W.seq (zr (zm rfl (zk (W.block (W.seq (zr (zq (Q.bin rfl (oc (v := .str [43]) (by kernel_rfl)) rfl ap) (za rfl (zk (ax rfl (fun hc4 => ?_) (fun hc4 => ?_)))))))))))))))
 ·refine zw (ah rfl (zr (za rfl (zk (W.ret (ae (aa (ab (z1 rfl) ?_))))))))
  first | rfl | (refine congrArg AV.bool ?_; simp_all [dK, dM]; done) | (show AV.bool _ = AV.bool _; simp_all [dK, dM])
 refine zr (zq (Q.bin rfl (oc (v := .str [45]) (by kernel_rfl)) rfl ap) (za rfl (zk (ax rfl (fun hc4 => ?_) (fun hc4 => ?_)))))
 ·refine zw (ah rfl (zr (za rfl (zk (W.ret (ae (aa (ab (z1 rfl) ?_))))))))
  first | rfl | (refine congrArg AV.bool ?_; simp_all [dK, dM]; done) | (show AV.bool _ = AV.bool _; simp_all [dK, dM])
 refine zr (zq (Q.bin rfl (oc (v := .str [42]) (by kernel_rfl)) rfl ap) (za rfl (zk (ax rfl (fun hc4 => ?_) (fun hc4 => ?_)))))
 ·refine zw (ah rfl (zr (za rfl (zk (W.ret (ae (aa (ab (z1 rfl) ?_))))))))
  first | rfl | (refine congrArg AV.bool ?_; simp_all [dK, dM]; done) | (show AV.bool _ = AV.bool _; simp_all [dK, dM])
 refine zr (zq (Q.bin rfl (oc (v := .str [47]) (by kernel_rfl)) rfl ap) (za rfl (zk (ax rfl (fun hc4 => ?_) (fun hc4 => ?_)))))
 ·refine zw (ah rfl (zr (za rfl (zk (W.ret (ae (aa (ab (z1 rfl) ?_))))))))
  first | rfl | (refine congrArg AV.bool ?_; simp_all [dK, dM]; done) | (show AV.bool _ = AV.bool _; simp_all [dK, dM])
 refine aF (zq (Q.bin rfl (oc (v := .str [37]) (by kernel_rfl)) rfl ap) (za rfl (zk (ax rfl (fun hc4 => ?_) (fun hc4 => ?_)))))
 ·refine zr (za rfl (zk (W.ret (ae (aa (ab (z1 rfl) ?_))))))
  first | rfl | (refine congrArg AV.bool ?_; simp_all [dK, dM]; done) | (show AV.bool _ = AV.bool _; simp_all [dK, dM])
 refine W.skip (End.KB (End.K (zr (za rfl (zk (W.ret (ab (z1 rfl) ?_)))))))
 first | rfl | (refine congrArg AV.bool ?_; simp_all [dK, dM]; done) | (show AV.bool _ = AV.bool _; simp_all [dK, dM])

theorem vp (op : List Nat) (ho : Bytes op) : Spec aA 106 [.str op] [] [] (eA (.bool (dM op))) := by
 refine aj (dW 106 Tryz.func106) rfl (m := 11) rfl (rs := [.tmp 2]) rfl (st := [(0, .str op)]) rfl rfl (fun _ => rfl) (fun E => zr (za rfl (zk (W.seq (zr (zm rfl (zk (W.block (W.seq (zr (zq (Q.bin rfl (oc (v := .str [61, 61]) (by kernel_rfl)) rfl ap) (za rfl (zk (ax rfl (fun hc4 => ?_) (fun hc4 => ?_)))))))))))))))
 ·refine zw (ah rfl (zr (za rfl (zk (W.ret (ae (aa (ab (z1 rfl) ?_))))))))
  first | rfl | (refine congrArg AV.bool ?_; simp_all [dK, dM]; done) | (show AV.bool _ = AV.bool _; simp_all [dK, dM])
 refine zr (zq (Q.bin rfl (oc (v := .str [33, 61]) (by kernel_rfl)) rfl ap) (za rfl (zk (ax rfl (fun hc4 => ?_) (fun hc4 => ?_)))))
 ·refine zw (ah rfl (zr (za rfl (zk (W.ret (ae (aa (ab (z1 rfl) ?_))))))))
  first | rfl | (refine congrArg AV.bool ?_; simp_all [dK, dM]; done) | (show AV.bool _ = AV.bool _; simp_all [dK, dM])
 refine zr (zq (Q.bin rfl (oc (v := .str [60, 61]) (by kernel_rfl)) rfl ap) (za rfl (zk (ax rfl (fun hc4 => ?_) (fun hc4 => ?_)))))
 ·refine zw (ah rfl (zr (za rfl (zk (W.ret (ae (aa (ab (z1 rfl) ?_))))))))
  first | rfl | (refine congrArg AV.bool ?_; simp_all [dK, dM]; done) | (show AV.bool _ = AV.bool _; simp_all [dK, dM])
 refine zr (zq (Q.bin rfl (oc (v := .str [62, 61]) (by kernel_rfl)) rfl ap) (za rfl (zk (ax rfl (fun hc4 => ?_) (fun hc4 => ?_)))))
 ·refine zw (ah rfl (zr (za rfl (zk (W.ret (ae (aa (ab (z1 rfl) ?_))))))))
  first | rfl | (refine congrArg AV.bool ?_; simp_all [dK, dM]; done) | (show AV.bool _ = AV.bool _; simp_all [dK, dM])
 refine zr (zq (Q.bin rfl (oc (v := .str [60]) (by kernel_rfl)) rfl ap) (za rfl (zk (ax rfl (fun hc4 => ?_) (fun hc4 => ?_)))))
 ·refine zw (ah rfl (zr (za rfl (zk (W.ret (ae (aa (ab (z1 rfl) ?_))))))))
  first | rfl | (refine congrArg AV.bool ?_; simp_all [dK, dM]; done) | (show AV.bool _ = AV.bool _; simp_all [dK, dM])
 refine aF (zq (Q.bin rfl (oc (v := .str [62]) (by kernel_rfl)) rfl ap) (za rfl (zk (ax rfl (fun hc4 => ?_) (fun hc4 => ?_)))))
 ·refine zr (za rfl (zk (W.ret (ae (aa (ab (z1 rfl) ?_))))))
  first | rfl | (refine congrArg AV.bool ?_; simp_all [dK, dM]; done) | (show AV.bool _ = AV.bool _; simp_all [dK, dM])
 refine W.skip (End.KB (End.K (zr (za rfl (zk (W.ret (ab (z1 rfl) ?_)))))))
 first | rfl | (refine congrArg AV.bool ?_; simp_all [dK, dM]; done) | (show AV.bool _ = AV.bool _; simp_all [dK, dM])

theorem eE (p : Bool) : Spec aA 112 [.bool p] [] [] (eA (.tuple [.int .i64 (if p = true then 1000000 else 0), .int .i64 ((0 : Nat) : Int)])) := by
 refine aj (dW 112 Tryz.func112) rfl (m := 5) rfl (rs := [.tmp 2, .tmp 3]) rfl (st := [(0, .bool p)]) rfl rfl (fun _ => rfl) (fun E => zr (za (zi 0) (za (zi 0) (zk (W.seq (zr (zm rfl (zk (aM rfl (fun hc4 => ?_) (fun hc4 => ?_))))))))))
 ·refine zr (za (zi 1000000) (za (zi 0) (zk (W.ret (aa (ab (ResL.tmp rfl (z1 rfl)) ?_))))))
  simp_all [ac]
 refine zw (zr (za (zi 0) (za (zi 0) (zk (W.ret (ab (ResL.tmp rfl (z1 rfl)) ?_))))))
 simp_all [ac]

theorem wY (op : List Nat) (ho : Bytes op) (a b : Int) : Spec aA 76 [.str op, .int .i64 a, .int .i64 b] [] [] (eA (aO (di op a b))) := by
 refine aj (dW 76 Tryz.func76) rfl (m := 108) rfl (rs := [.tmp 6, .tmp 7]) rfl (st := [(0, .str op), (1, .int .i64 a), (2, .int .i64 b)]) rfl rfl (fun _ => rfl) (fun E => zr (za (zi 0) (za (zi 0) (zk (sw (fun (q : Unit) => [(0, .str op), (1, .int .i64 a), (2, .int .i64 b)]) (fun (q : Unit) => (dK op = true \/ dM op = true) /\ eQ a = true /\ eQ b = true) (fun q hI5 => ?_) (fun hJ5 => ?_))))))
 ·obtain ⟨hg1, hg2, hg3⟩ := hI5
  have hg := iX hg1 hg2 hg3
  refine W.seq (zr (zm rfl (zk (W.block (zr (zq (Q.bin rfl (oc (v := .str [43]) (by kernel_rfl)) rfl ap) (za rfl (zk (ax rfl (fun hc27 => ?_) (fun hc27 => ?_))))))))))
  ·refine zr (zm rfl (zm rfl (az rfl (aX rfl (aX rfl oz)) rfl (dR (fun _ => rfl)) SubR.nil rfl (zq (Q.extract rfl rfl) (zq (Q.extract rfl rfl) (za rfl (za rfl (zk (W.ret (ae (aa (ab (ResL.tmp rfl (z1 rfl)) ?_))))))))))))
   first | (refine congrArg aO (Eq.symm ?_); rw [hg]; simp_all; done) | (rw [hg]; unfold aO ac; simp_all; done) | (rw [hg]; unfold aO ac; simp_all [dq]; done) | (rw [hg]; unfold aO ac; simp_all [dq]; split <;> simp_all; done) | (rw [hg]; unfold aO ac; simp_all [dq]; split <;> simp_all <;> omega)
  refine zr (zq (Q.bin rfl (oc (v := .str [45]) (by kernel_rfl)) rfl ap) (za rfl (zk (ax rfl (fun hc34 => ?_) (fun hc34 => ?_)))))
  ·refine zr (zm rfl (zm rfl (az rfl (aX rfl (aX rfl oz)) rfl (dR (fun _ => rfl)) SubR.nil rfl (zq (Q.extract rfl rfl) (zq (Q.extract rfl rfl) (za rfl (za rfl (zk (W.ret (ae (aa (ab (ResL.tmp rfl (z1 rfl)) ?_))))))))))))
   first | (refine congrArg aO (Eq.symm ?_); rw [hg]; simp_all; done) | (rw [hg]; unfold aO ac; simp_all; done) | (rw [hg]; unfold aO ac; simp_all [dq]; done) | (rw [hg]; unfold aO ac; simp_all [dq]; split <;> simp_all; done) | (rw [hg]; unfold aO ac; simp_all [dq]; split <;> simp_all <;> omega)
  refine zr (zq (Q.bin rfl (oc (v := .str [42]) (by kernel_rfl)) rfl ap) (za rfl (zk (ax rfl (fun hc41 => ?_) (fun hc41 => ?_)))))
  ·refine zr (zm rfl (zm rfl (az rfl (aX rfl (aX rfl oz)) rfl (dR (fun _ => rfl)) SubR.nil rfl (zq (Q.extract rfl rfl) (zq (Q.extract rfl rfl) (za rfl (za rfl (zk (W.sub (zc 7 rfl (zc 6 rfl aU)) (W.ret (ae (aa (ab (ResL.tmp rfl (z1 rfl)) ?_)))))))))))))
   first | (refine congrArg aO (Eq.symm ?_); rw [hg]; simp_all; done) | (rw [hg]; unfold aO ac; simp_all; done) | (rw [hg]; unfold aO ac; simp_all [dq]; done) | (rw [hg]; unfold aO ac; simp_all [dq]; split <;> simp_all; done) | (rw [hg]; unfold aO ac; simp_all [dq]; split <;> simp_all <;> omega)
  refine zr (zq (Q.bin rfl (oc (v := .str [47]) (by kernel_rfl)) rfl ap) (za rfl (zk (ax rfl (fun hc48 => ?_) (fun hc48 => ?_)))))
  ·refine zr (zm rfl (zm rfl (az rfl (aX rfl (aX rfl oz)) rfl (dR (fun _ => rfl)) SubR.nil rfl (zq (Q.extract rfl rfl) (zq (Q.extract rfl rfl) (za rfl (za rfl (zk (W.sub (zc 7 rfl (zc 6 rfl aU)) (W.ret (ae (aa (ab (ResL.tmp rfl (z1 rfl)) ?_)))))))))))))
   first | (refine congrArg aO (Eq.symm ?_); rw [hg]; simp_all; done) | (rw [hg]; unfold aO ac; simp_all; done) | (rw [hg]; unfold aO ac; simp_all [dq]; done) | (rw [hg]; unfold aO ac; simp_all [dq]; split <;> simp_all; done) | (rw [hg]; unfold aO ac; simp_all [dq]; split <;> simp_all <;> omega)
  refine zr (zq (Q.bin rfl (oc (v := .str [37]) (by kernel_rfl)) rfl ap) (za rfl (zk (ax rfl (fun hc55 => ?_) (fun hc55 => ?_)))))
  ·refine zr (zm rfl (zm rfl (az rfl (aX rfl (aX rfl oz)) rfl (dR (fun _ => rfl)) SubR.nil rfl (zq (Q.extract rfl rfl) (zq (Q.extract rfl rfl) (za rfl (za rfl (zk (W.sub (zc 7 rfl (zc 6 rfl aU)) (W.ret (ae (aa (ab (ResL.tmp rfl (z1 rfl)) ?_)))))))))))))
   first | (refine congrArg aO (Eq.symm ?_); rw [hg]; simp_all; done) | (rw [hg]; unfold aO ac; simp_all; done) | (rw [hg]; unfold aO ac; simp_all [dq]; done) | (rw [hg]; unfold aO ac; simp_all [dq]; split <;> simp_all; done) | (rw [hg]; unfold aO ac; simp_all [dq]; split <;> simp_all <;> omega)
  refine zr (zq (Q.bin rfl (oc (v := .str [61, 61]) (by kernel_rfl)) rfl ap) (za rfl (zk (ax rfl (fun hc62 => ?_) (fun hc62 => ?_)))))
  ·refine zr (zm rfl (zm rfl (zq (Q.bin rfl rfl rfl (ag dt)) (az rfl (aX rfl oz) rfl (eE _) SubR.nil rfl (zq (Q.extract rfl rfl) (zq (Q.extract rfl rfl) (za rfl (za rfl (zk (W.sub (zc 7 rfl (zc 6 rfl aU)) (W.ret (ae (aa (ab (ResL.tmp rfl (z1 rfl)) ?_))))))))))))))
   first | (refine congrArg aO (Eq.symm ?_); rw [hg]; simp_all; done) | (rw [hg]; unfold aO ac; simp_all; done) | (rw [hg]; unfold aO ac; simp_all [dq]; done) | (rw [hg]; unfold aO ac; simp_all [dq]; split <;> simp_all; done) | (rw [hg]; unfold aO ac; simp_all [dq]; split <;> simp_all <;> omega)
  refine zr (zq (Q.bin rfl (oc (v := .str [33, 61]) (by kernel_rfl)) rfl ap) (za rfl (zk (W.sub (zc 70 rfl (zc 26 rfl (zc 1 rfl (zc 2 rfl aU)))) (ax rfl (fun hc70 => ?_) (fun hc70 => ?_))))))
  ·refine zr (zm rfl (zm rfl (zq (Q.bin rfl rfl rfl (bE kw)) (az rfl (aX rfl oz) rfl (eE _) SubR.nil rfl (zq (Q.extract rfl rfl) (zq (Q.extract rfl rfl) (za rfl (za rfl (zk (W.ret (ae (aa (ab (ResL.tmp rfl (z1 rfl)) ?_)))))))))))))
   first | (refine congrArg aO (Eq.symm ?_); rw [hg]; simp_all; done) | (rw [hg]; unfold aO ac; simp_all; done) | (rw [hg]; unfold aO ac; simp_all [dq]; done) | (rw [hg]; unfold aO ac; simp_all [dq]; split <;> simp_all; done) | (rw [hg]; unfold aO ac; simp_all [dq]; split <;> simp_all <;> omega)
  refine zr (zq (Q.bin rfl (oc (v := .str [60, 61]) (by kernel_rfl)) rfl ap) (za rfl (zk (ax rfl (fun hc78 => ?_) (fun hc78 => ?_)))))
  ·refine zr (zm rfl (zm rfl (zq (Q.bin rfl rfl rfl (eh kq)) (az rfl (aX rfl oz) rfl (eE _) SubR.nil rfl (zq (Q.extract rfl rfl) (zq (Q.extract rfl rfl) (za rfl (za rfl (zk (W.ret (ae (aa (ab (ResL.tmp rfl (z1 rfl)) ?_)))))))))))))
   first | (refine congrArg aO (Eq.symm ?_); rw [hg]; simp_all; done) | (rw [hg]; unfold aO ac; simp_all; done) | (rw [hg]; unfold aO ac; simp_all [dq]; done) | (rw [hg]; unfold aO ac; simp_all [dq]; split <;> simp_all; done) | (rw [hg]; unfold aO ac; simp_all [dq]; split <;> simp_all <;> omega)
  refine zr (zq (Q.bin rfl (oc (v := .str [62, 61]) (by kernel_rfl)) rfl ap) (za rfl (zk (ax rfl (fun hc86 => ?_) (fun hc86 => ?_)))))
  ·refine zr (zm rfl (zm rfl (zq (Q.bin rfl rfl rfl (dS kq)) (az rfl (aX rfl oz) rfl (eE _) SubR.nil rfl (zq (Q.extract rfl rfl) (zq (Q.extract rfl rfl) (za rfl (za rfl (zk (W.sub (zc 7 rfl (zc 6 rfl aU)) (W.ret (ae (aa (ab (ResL.tmp rfl (z1 rfl)) ?_))))))))))))))
   first | (refine congrArg aO (Eq.symm ?_); rw [hg]; simp_all; done) | (rw [hg]; unfold aO ac; simp_all; done) | (rw [hg]; unfold aO ac; simp_all [dq]; done) | (rw [hg]; unfold aO ac; simp_all [dq]; split <;> simp_all; done) | (rw [hg]; unfold aO ac; simp_all [dq]; split <;> simp_all <;> omega)
  refine zr (zq (Q.bin rfl (oc (v := .str [60]) (by kernel_rfl)) rfl ap) (za rfl (zk (ax rfl (fun hc94 => ?_) (fun hc94 => ?_)))))
  ·refine zr (zm rfl (zm rfl (zq (Q.bin rfl rfl rfl (ec (dX _ _))) (az rfl (aX rfl oz) rfl (eE _) SubR.nil rfl (zq (Q.extract rfl rfl) (zq (Q.extract rfl rfl) (za rfl (za rfl (zk (W.sub (zc 7 rfl (zc 6 rfl aU)) (W.ret (ae (aa (ab (ResL.tmp rfl (z1 rfl)) ?_))))))))))))))
   first | (refine congrArg aO (Eq.symm ?_); rw [hg]; simp_all; done) | (rw [hg]; unfold aO ac; simp_all; done) | (rw [hg]; unfold aO ac; simp_all [dq]; done) | (rw [hg]; unfold aO ac; simp_all [dq]; split <;> simp_all; done) | (rw [hg]; unfold aO ac; simp_all [dq]; split <;> simp_all <;> omega)
  refine W.skip (End.KB (End.K (zr (zm rfl (zm rfl (zq (Q.bin rfl rfl rfl (bf (dX _ _))) (az rfl (aX rfl oz) rfl (eE _) SubR.nil rfl (zq (Q.extract rfl rfl) (zq (Q.extract rfl rfl) (za rfl (za rfl (zk (W.sub (zc 7 rfl (zc 6 rfl aU)) (W.ret (ab (ResL.tmp rfl (z1 rfl)) ?_)))))))))))))))
  first | (refine congrArg aO (Eq.symm ?_); rw [hg]; simp_all; done) | (rw [hg]; unfold aO ac; simp_all; done) | (rw [hg]; unfold aO ac; simp_all [dq]; done) | (rw [hg]; unfold aO ac; simp_all [dq]; split <;> simp_all; done) | (rw [hg]; unfold aO ac; simp_all [dq]; split <;> simp_all <;> omega)
 refine W.block (zr (zm rfl (az rfl (aX rfl oz) rfl (uL _ ho) SubR.nil rfl (zq (Q.not rfl rfl) (zm rfl (WO.split (d := 12) rfl (fun hc12 => ?_) (fun hc12 => ?_)))))))
 ·refine zT (zm rfl (zT (az rfl (aX rfl oz) rfl (vp _ ho) SubR.nil rfl (zT (zq (Q.not rfl rfl) (zq (aC rfl rfl) (za rfl (zk (aM rfl (fun hc8 => ?_) (fun hc8 => ?_))))))))))
  ·refine zr (za (zi 0) (za (zi 9) (zk (W.ret (ae (aa (ab (ResL.tmp rfl (z1 rfl)) ?_)))))))
   rw [BV (by simp_all) (by simp_all)]; rfl
  refine zr (zm rfl (az rfl (aX rfl oz) rfl (gC _) SubR.nil rfl (zq (Q.not rfl rfl) (zm rfl (WO.split (d := 21) rfl (fun hc21 => ?_) (fun hc21 => ?_))))))
  ·refine z2 (zG (zq (aC rfl rfl) (za rfl (zk (W.sub (zc 17 rfl (zc 0 rfl (zc 1 rfl (zc 2 rfl aU)))) (ah rfl (zr (za (zi 0) (za (zi 2) (zk (W.ret (ae (aa (ab (ResL.tmp rfl (z1 rfl)) ?_))))))))))))))
   rw [pq (by simp_all) (by simp_all)]; rfl
  refine zT (zm rfl (zT (az rfl (aX rfl oz) rfl (gC _) SubR.nil rfl (zT (zq (Q.not rfl rfl) (zq (aH rfl rfl) (za rfl (zk (W.sub (zc 17 rfl (zc 0 rfl (zc 1 rfl (zc 2 rfl aU)))) (aM rfl (fun hc17 => ?_) (fun hc17 => ?_)))))))))))
  ·refine zr (za (zi 0) (za (zi 2) (zk (W.ret (ae (aa (ab (ResL.tmp rfl (z1 rfl)) ?_)))))))
   rw [pq (by simp_all) (by simp_all)]; rfl
  refine W.skip (End.KB (End.K (W.sub zv (hJ5 (()) ?_))))
  exact ⟨by simp_all, by simp_all, by simp_all⟩
 refine z2 (zG (zq (aH rfl rfl) (za rfl (zk (ad rfl (zr (zm rfl (az rfl (aX rfl oz) rfl (gC _) SubR.nil rfl (zq (Q.not rfl rfl) (zm rfl (WO.split (d := 21) rfl (fun hc21 => ?_) (fun hc21 => ?_))))))))))))
 ·refine z2 (zG (zq (aC rfl rfl) (za rfl (zk (W.sub (zc 17 rfl (zc 0 rfl (zc 1 rfl (zc 2 rfl aU)))) (ah rfl (zr (za (zi 0) (za (zi 2) (zk (W.ret (ae (aa (ab (ResL.tmp rfl (z1 rfl)) ?_))))))))))))))
  rw [pq (by simp_all) (by simp_all)]; rfl
 refine zT (zm rfl (zT (az rfl (aX rfl oz) rfl (gC _) SubR.nil rfl (zT (zq (Q.not rfl rfl) (zq (aH rfl rfl) (za rfl (zk (W.sub (zc 17 rfl (zc 0 rfl (zc 1 rfl (zc 2 rfl aU)))) (aM rfl (fun hc17 => ?_) (fun hc17 => ?_)))))))))))
 ·refine zr (za (zi 0) (za (zi 2) (zk (W.ret (ae (aa (ab (ResL.tmp rfl (z1 rfl)) ?_)))))))
  rw [pq (by simp_all) (by simp_all)]; rfl
 refine W.skip (End.KB (End.K (W.sub zv (hJ5 (()) ?_))))
 exact ⟨by simp_all, by simp_all, by simp_all⟩

end Go.Proofs.YtndhhgbpcmfeiaaGreatDoor.Ev
