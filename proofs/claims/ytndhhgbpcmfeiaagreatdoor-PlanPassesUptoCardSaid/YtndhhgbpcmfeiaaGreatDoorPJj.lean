/- Chapter 20, walks: what an operator makes of two numbers. -/
import Derived.Test.YtndhhgbpcmfeiaaGreatDoorPJi
namespace Go.Proofs.YtndhhgbpcmfeiaaGreatDoor.Ev
open Go.RowKit
set_option maxRecDepth 100000
set_option maxHeartbeats 1000000
def eb (n : Int) : Bool := decide (-1152921504606846976 <= n) && decide (n <= 1152921504606846976)
def bH (op : List Nat) : Bool := decide (op = [43] \/ op = [45] \/ op = [42] \/ op = [47] \/ op = [37])
def bI (op : List Nat) : Bool := decide (op = [61, 61] \/ op = [33, 61] \/ op = [60, 61] \/ op = [62, 61] \/ op = [60] \/ op = [62])
def aL (op : List Nat) (a b : Int) : Bool := if op = [61, 61] then decide (a = b) else if op = [33, 61] then decide (a ≠ b) else if op = [60, 61] then decide (a <= b) else if op = [62, 61] then decide (b <= a) else if op = [60] then decide (a < b) else decide (b < a)
def gx (op : List Nat) (a b : Int) : Int × Int :=
 if bH op = false /\ bI op = false then (0, 9) else if ¬ (eb a = true /\ eb b = true) then (0, 2) else if op = [43] then gI a b else if op = [45] then js a b else if op = [42] then iL a b else if op = [47] then gv a b else if op = [37] then fO a b
 else if aL op a b = true then (1000000, 0) else (0, 0)
section
variable {op : List Nat} {a b : Int}
theorem w9 (h1 : bH op = false) (h2 : bI op = false) : gx op a b = (0, 9) := if_pos ⟨h1, h2⟩
theorem iU (h : bH op = true \/ bI op = true) (hf : eb a = false \/ eb b = false) : gx op a b = (0, 2) := by
 unfold gx
 rw [if_neg (by rcases h with h | h <;> simp [h]), if_pos (by rcases hf with h | h <;> simp [h])]
theorem pj (h : bH op = true \/ bI op = true) (ha : eb a = true) (hb : eb b = true) : gx op a b = if op = [43] then gI a b else if op = [45] then js a b else if op = [42] then iL a b else if op = [47] then gv a b else if op = [37] then fO a b
 else if aL op a b = true then (1000000, 0) else (0, 0) := by
 unfold gx
 rw [if_neg (by rcases h with h | h <;> simp [h]), if_neg (by simp [ha, hb])]
end

theorem gJ (n : Int) : Spec aW 75 [.int .i64 n] [] [] (eW (.bool (eb n))) := by
 refine ak (eX 75 Tryz.func75) rfl (m := 9) rfl (rs := [.tmp 2]) rfl (st := [(0, .int .i64 n)]) rfl rfl (fun _ => rfl) (fun E => zr (za rfl (zk (zr (zm rfl (zq (aa rfl rfl rfl (lZ ey)) (zm rfl (aR (d := 5) rfl (fun hc5 => ?_) (fun hc5 => ?_)))))))))
 ·refine zT (zm rfl (zT (zq (aa rfl (zi 1152921504606846976) rfl (lZ ey)) (zq (au rfl rfl) (za rfl (zk (W.ret (ab (z1 rfl) ?_))))))))
  first | (simp_all [af, eb]; done) | (simp_all [af, eb]; omega)
 refine z2 (zq (aG rfl rfl) (za rfl (zk (W.ret (ab (z1 rfl) ?_)))))
 first | (simp_all [af, eb]; done) | (simp_all [af, eb]; omega)

theorem fL (n : Int) : Spec aW 78 [.int .i64 n] [] [] (eW (.bool (eb n))) := by
 refine ak (eX 78 Tryz.func78) rfl (m := 9) rfl (rs := [.tmp 2]) rfl (st := [(0, .int .i64 n)]) rfl rfl (fun _ => rfl) (fun E => zr (za rfl (zk (zr (zm rfl (zq (aa rfl rfl rfl (gU ey)) (zm rfl (aR (d := 5) rfl (fun hc5 => ?_) (fun hc5 => ?_)))))))))
 ·refine zT (zm rfl (zT (zq (aa rfl (zi 1152921504606846976) rfl (lZ ey)) (zq (au rfl rfl) (za rfl (zk (W.ret (ab (z1 rfl) ?_))))))))
  first | (simp_all [af, eb]; done) | (simp_all [af, eb]; omega)
 refine z2 (zq (aG rfl rfl) (za rfl (zk (W.ret (ab (z1 rfl) ?_)))))
 first | (simp_all [af, eb]; done) | (simp_all [af, eb]; omega)

theorem vf (op : List Nat) (ho : Bytes op) : Spec aW 105 [.str op] [] [] (eW (.bool (bH op))) := by
 refine ak (eX 105 Tryz.func105) rfl (m := 10) rfl (rs := [.tmp 2]) rfl (st := [(0, .str op)]) rfl rfl (fun _ => rfl) (fun E => zr (za rfl (zk (W.seq (zr (zm rfl (zk (W.block (W.seq (zr (zq (aa rfl (oc (v := .str [43]) (by kernel_rfl)) rfl aq) (za rfl (zk (aw rfl (fun hc4 => ?_) (fun hc4 => ?_)))))))))))))))
 ·refine zw (aO rfl (zr (za rfl (zk (W.ret (ah (ac (ab (z1 rfl) ?_))))))))
  first | rfl | (refine congrArg AV.bool ?_; simp_all [bH, bI]; done) | (show AV.bool _ = AV.bool _; simp_all [bH, bI])
 refine zr (zq (aa rfl (oc (v := .str [45]) (by kernel_rfl)) rfl aq) (za rfl (zk (aw rfl (fun hc4 => ?_) (fun hc4 => ?_)))))
 ·refine zw (aO rfl (zr (za rfl (zk (W.ret (ah (ac (ab (z1 rfl) ?_))))))))
  first | rfl | (refine congrArg AV.bool ?_; simp_all [bH, bI]; done) | (show AV.bool _ = AV.bool _; simp_all [bH, bI])
 refine zr (zq (aa rfl (oc (v := .str [42]) (by kernel_rfl)) rfl aq) (za rfl (zk (aw rfl (fun hc4 => ?_) (fun hc4 => ?_)))))
 ·refine zw (aO rfl (zr (za rfl (zk (W.ret (ah (ac (ab (z1 rfl) ?_))))))))
  first | rfl | (refine congrArg AV.bool ?_; simp_all [bH, bI]; done) | (show AV.bool _ = AV.bool _; simp_all [bH, bI])
 refine zr (zq (aa rfl (oc (v := .str [47]) (by kernel_rfl)) rfl aq) (za rfl (zk (aw rfl (fun hc4 => ?_) (fun hc4 => ?_)))))
 ·refine zw (aO rfl (zr (za rfl (zk (W.ret (ah (ac (ab (z1 rfl) ?_))))))))
  first | rfl | (refine congrArg AV.bool ?_; simp_all [bH, bI]; done) | (show AV.bool _ = AV.bool _; simp_all [bH, bI])
 refine ay (zq (aa rfl (oc (v := .str [37]) (by kernel_rfl)) rfl aq) (za rfl (zk (aw rfl (fun hc4 => ?_) (fun hc4 => ?_)))))
 ·refine zr (za rfl (zk (W.ret (ah (ac (ab (z1 rfl) ?_))))))
  first | rfl | (refine congrArg AV.bool ?_; simp_all [bH, bI]; done) | (show AV.bool _ = AV.bool _; simp_all [bH, bI])
 refine W.skip (End.KB (End.K (zr (za rfl (zk (W.ret (ab (z1 rfl) ?_)))))))
 first | rfl | (refine congrArg AV.bool ?_; simp_all [bH, bI]; done) | (show AV.bool _ = AV.bool _; simp_all [bH, bI])

theorem vM (op : List Nat) (ho : Bytes op) : Spec aW 106 [.str op] [] [] (eW (.bool (bI op))) := by
 refine ak (eX 106 Tryz.func106) rfl (m := 11) rfl (rs := [.tmp 2]) rfl (st := [(0, .str op)]) rfl rfl (fun _ => rfl) (fun E => zr (za rfl (zk (W.seq (zr (zm rfl (zk (W.block (W.seq (zr (zq (aa rfl (oc (v := .str [61, 61]) (by kernel_rfl)) rfl aq) (za rfl (zk (aw rfl (fun hc4 => ?_) (fun hc4 => ?_)))))))))))))))
 ·refine zw (aO rfl (zr (za rfl (zk (W.ret (ah (ac (ab (z1 rfl) ?_))))))))
  first | rfl | (refine congrArg AV.bool ?_; simp_all [bH, bI]; done) | (show AV.bool _ = AV.bool _; simp_all [bH, bI])
 refine zr (zq (aa rfl (oc (v := .str [33, 61]) (by kernel_rfl)) rfl aq) (za rfl (zk (aw rfl (fun hc4 => ?_) (fun hc4 => ?_)))))
 ·refine zw (aO rfl (zr (za rfl (zk (W.ret (ah (ac (ab (z1 rfl) ?_))))))))
  first | rfl | (refine congrArg AV.bool ?_; simp_all [bH, bI]; done) | (show AV.bool _ = AV.bool _; simp_all [bH, bI])
 refine zr (zq (aa rfl (oc (v := .str [60, 61]) (by kernel_rfl)) rfl aq) (za rfl (zk (aw rfl (fun hc4 => ?_) (fun hc4 => ?_)))))
 ·refine zw (aO rfl (zr (za rfl (zk (W.ret (ah (ac (ab (z1 rfl) ?_))))))))
  first | rfl | (refine congrArg AV.bool ?_; simp_all [bH, bI]; done) | (show AV.bool _ = AV.bool _; simp_all [bH, bI])
 refine zr (zq (aa rfl (oc (v := .str [62, 61]) (by kernel_rfl)) rfl aq) (za rfl (zk (aw rfl (fun hc4 => ?_) (fun hc4 => ?_)))))
 ·refine zw (aO rfl (zr (za rfl (zk (W.ret (ah (ac (ab (z1 rfl) ?_))))))))
  first | rfl | (refine congrArg AV.bool ?_; simp_all [bH, bI]; done) | (show AV.bool _ = AV.bool _; simp_all [bH, bI])
 refine zr (zq (aa rfl (oc (v := .str [60]) (by kernel_rfl)) rfl aq) (za rfl (zk (aw rfl (fun hc4 => ?_) (fun hc4 => ?_)))))
 ·refine zw (aO rfl (zr (za rfl (zk (W.ret (ah (ac (ab (z1 rfl) ?_))))))))
  first | rfl | (refine congrArg AV.bool ?_; simp_all [bH, bI]; done) | (show AV.bool _ = AV.bool _; simp_all [bH, bI])
 refine ay (zq (aa rfl (oc (v := .str [62]) (by kernel_rfl)) rfl aq) (za rfl (zk (aw rfl (fun hc4 => ?_) (fun hc4 => ?_)))))
 ·refine zr (za rfl (zk (W.ret (ah (ac (ab (z1 rfl) ?_))))))
  first | rfl | (refine congrArg AV.bool ?_; simp_all [bH, bI]; done) | (show AV.bool _ = AV.bool _; simp_all [bH, bI])
 refine W.skip (End.KB (End.K (zr (za rfl (zk (W.ret (ab (z1 rfl) ?_)))))))
 first | rfl | (refine congrArg AV.bool ?_; simp_all [bH, bI]; done) | (show AV.bool _ = AV.bool _; simp_all [bH, bI])

theorem uy (op : List Nat) (ho : Bytes op) : Spec aW 113 [.str op] [] [] (eW (.bool (bH op))) := by
 refine ak (eX 113 Tryz.func113) rfl (m := 21) rfl (rs := [.tmp 2]) rfl (st := [(0, .str op)]) rfl rfl (fun _ => rfl) (fun E => zr (za rfl (zk (zr (zm rfl (zq (aa rfl (oc (v := .str [43]) (by kernel_rfl)) rfl aq) (zm rfl (aR (d := 5) rfl (fun hc5 => ?_) (fun hc5 => ?_)))))))))
 ·refine z2 (zq (au rfl rfl) (zm rfl (z2 (zq (au rfl rfl) (zm rfl (z2 (zq (au rfl rfl) (zm rfl (z2 (zq (au rfl rfl) (za rfl (zk (W.sub (zc 2 rfl bE) (W.ret (ab (z1 rfl) ?_)))))))))))))))
  first | rfl | (refine congrArg AV.bool ?_; simp_all [bH, bI]; done) | (show AV.bool _ = AV.bool _; simp_all [bH, bI])
 refine zT (zm rfl (zT (zq (aa rfl (oc (v := .str [45]) (by kernel_rfl)) rfl aq) (zq (aG rfl rfl) (zm rfl (aR (d := 9) rfl (fun hc9 => ?_) (fun hc9 => ?_)))))))
 ·refine z2 (zq (au rfl rfl) (zm rfl (z2 (zq (au rfl rfl) (zm rfl (z2 (zq (au rfl rfl) (za rfl (zk (W.sub (zc 2 rfl bE) (W.ret (ab (z1 rfl) ?_))))))))))))
  first | rfl | (refine congrArg AV.bool ?_; simp_all [bH, bI]; done) | (show AV.bool _ = AV.bool _; simp_all [bH, bI])
 refine zT (zm rfl (zT (zq (aa rfl (oc (v := .str [42]) (by kernel_rfl)) rfl aq) (zq (aG rfl rfl) (zm rfl (aR (d := 13) rfl (fun hc13 => ?_) (fun hc13 => ?_)))))))
 ·refine z2 (zq (au rfl rfl) (zm rfl (z2 (zq (au rfl rfl) (za rfl (zk (W.sub (zc 2 rfl bE) (W.ret (ab (z1 rfl) ?_)))))))))
  first | rfl | (refine congrArg AV.bool ?_; simp_all [bH, bI]; done) | (show AV.bool _ = AV.bool _; simp_all [bH, bI])
 refine zT (zm rfl (zT (zq (aa rfl (oc (v := .str [47]) (by kernel_rfl)) rfl aq) (zq (aG rfl rfl) (zm rfl (aR (d := 17) rfl (fun hc17 => ?_) (fun hc17 => ?_)))))))
 ·refine z2 (zq (au rfl rfl) (za rfl (zk (W.sub (zc 2 rfl bE) (W.ret (ab (z1 rfl) ?_))))))
  first | rfl | (refine congrArg AV.bool ?_; simp_all [bH, bI]; done) | (show AV.bool _ = AV.bool _; simp_all [bH, bI])
 refine zT (zm rfl (zT (zq (aa rfl (oc (v := .str [37]) (by kernel_rfl)) rfl aq) (zq (aG rfl rfl) (za rfl (zk (W.sub (zc 2 rfl bE) (W.ret (ab (z1 rfl) ?_)))))))))
 first | rfl | (refine congrArg AV.bool ?_; simp_all [bH, bI]; done) | (show AV.bool _ = AV.bool _; simp_all [bH, bI])

theorem uz (op : List Nat) (ho : Bytes op) : Spec aW 114 [.str op] [] [] (eW (.bool (bI op))) := by
 refine ak (eX 114 Tryz.func114) rfl (m := 25) rfl (rs := [.tmp 2]) rfl (st := [(0, .str op)]) rfl rfl (fun _ => rfl) (fun E => zr (za rfl (zk (zr (zm rfl (zq (aa rfl (oc (v := .str [61, 61]) (by kernel_rfl)) rfl aq) (zm rfl (aR (d := 5) rfl (fun hc5 => ?_) (fun hc5 => ?_)))))))))
 ·refine z2 (zq (au rfl rfl) (zm rfl (z2 (zq (au rfl rfl) (zm rfl (z2 (zq (au rfl rfl) (zm rfl (z2 (zq (au rfl rfl) (zm rfl (z2 (zq (au rfl rfl) (za rfl (zk (W.sub (zc 2 rfl bE) (W.ret (ab (z1 rfl) ?_))))))))))))))))))
  first | rfl | (refine congrArg AV.bool ?_; simp_all [bH, bI]; done) | (show AV.bool _ = AV.bool _; simp_all [bH, bI])
 refine zT (zm rfl (zT (zq (aa rfl (oc (v := .str [33, 61]) (by kernel_rfl)) rfl aq) (zq (aG rfl rfl) (zm rfl (aR (d := 9) rfl (fun hc9 => ?_) (fun hc9 => ?_)))))))
 ·refine z2 (zq (au rfl rfl) (zm rfl (z2 (zq (au rfl rfl) (zm rfl (z2 (zq (au rfl rfl) (zm rfl (z2 (zq (au rfl rfl) (za rfl (zk (W.sub (zc 2 rfl bE) (W.ret (ab (z1 rfl) ?_)))))))))))))))
  first | rfl | (refine congrArg AV.bool ?_; simp_all [bH, bI]; done) | (show AV.bool _ = AV.bool _; simp_all [bH, bI])
 refine zT (zm rfl (zT (zq (aa rfl (oc (v := .str [60, 61]) (by kernel_rfl)) rfl aq) (zq (aG rfl rfl) (zm rfl (aR (d := 13) rfl (fun hc13 => ?_) (fun hc13 => ?_)))))))
 ·refine z2 (zq (au rfl rfl) (zm rfl (z2 (zq (au rfl rfl) (zm rfl (z2 (zq (au rfl rfl) (za rfl (zk (W.sub (zc 2 rfl bE) (W.ret (ab (z1 rfl) ?_))))))))))))
  first | rfl | (refine congrArg AV.bool ?_; simp_all [bH, bI]; done) | (show AV.bool _ = AV.bool _; simp_all [bH, bI])
 refine zT (zm rfl (zT (zq (aa rfl (oc (v := .str [62, 61]) (by kernel_rfl)) rfl aq) (zq (aG rfl rfl) (zm rfl (aR (d := 17) rfl (fun hc17 => ?_) (fun hc17 => ?_)))))))
 ·refine z2 (zq (au rfl rfl) (zm rfl (z2 (zq (au rfl rfl) (za rfl (zk (W.sub (zc 2 rfl bE) (W.ret (ab (z1 rfl) ?_)))))))))
  first | rfl | (refine congrArg AV.bool ?_; simp_all [bH, bI]; done) | (show AV.bool _ = AV.bool _; simp_all [bH, bI])
 refine zT (zm rfl (zT (zq (aa rfl (oc (v := .str [60]) (by kernel_rfl)) rfl aq) (zq (aG rfl rfl) (zm rfl (aR (d := 21) rfl (fun hc21 => ?_) (fun hc21 => ?_)))))))
 ·refine z2 (zq (au rfl rfl) (za rfl (zk (W.sub (zc 2 rfl bE) (W.ret (ab (z1 rfl) ?_))))))
  first | rfl | (refine congrArg AV.bool ?_; simp_all [bH, bI]; done) | (show AV.bool _ = AV.bool _; simp_all [bH, bI])
 refine zT (zm rfl (zT (zq (aa rfl (oc (v := .str [62]) (by kernel_rfl)) rfl aq) (zq (aG rfl rfl) (za rfl (zk (W.sub (zc 2 rfl bE) (W.ret (ab (z1 rfl) ?_)))))))))
 first | rfl | (refine congrArg AV.bool ?_; simp_all [bH, bI]; done) | (show AV.bool _ = AV.bool _; simp_all [bH, bI])

theorem eC (p : Bool) : Spec aW 112 [.bool p] [] [] (eW (.tuple [.int .i64 (if p = true then 1000000 else 0), .int .i64 ((0 : Nat) : Int)])) := by
 refine ak (eX 112 Tryz.func112) rfl (m := 5) rfl (rs := [.tmp 2, .tmp 3]) rfl (st := [(0, .bool p)]) rfl rfl (fun _ => rfl) (fun E => zr (za (zi 0) (za (zi 0) (zk (W.seq (zr (zm rfl (zk (b9 rfl (fun hc4 => ?_) (fun hc4 => ?_))))))))))
 ·refine zr (za (zi 1000000) (za (zi 0) (zk (W.ret (ac (ab (ResL.tmp rfl (z1 rfl)) ?_))))))
  simp_all [af]
 refine zw (zr (za (zi 0) (za (zi 0) (zk (W.ret (ab (ResL.tmp rfl (z1 rfl)) ?_))))))
 simp_all [af]

theorem mH (op : List Nat) (ho : Bytes op) (a b : Int) : Spec aW 120 [.str op, .int .i64 a, .int .i64 b] [] [] (eW (.bool (aL op a b))) := by
 refine ak (eX 120 Tryz.func120) rfl (m := 36) rfl (rs := [.tmp 6]) rfl (st := [(0, .str op), (1, .int .i64 a), (2, .int .i64 b)]) rfl rfl (fun _ => rfl) (fun E => zr (za rfl (zk (W.seq (zr (zm rfl (zk (W.block (zr (zq (aa rfl (oc (v := .str [61, 61]) (by kernel_rfl)) rfl aq) (za rfl (zk (aw rfl (fun hc8 => ?_) (fun hc8 => ?_))))))))))))))
 ·refine zr (zm rfl (zm rfl (zq (aa rfl rfl rfl (bz bW)) (za rfl (zk (W.ret (ah (ac (ab (z1 rfl) ?_)))))))))
  first | rfl | (show AV.bool _ = AV.bool _; simp_all [aL]; done) | (show AV.bool _ = AV.bool _; simp_all [aL] <;> omega)
 refine zr (zq (aa rfl (oc (v := .str [33, 61]) (by kernel_rfl)) rfl aq) (za rfl (zk (aw rfl (fun hc13 => ?_) (fun hc13 => ?_)))))
 ·refine zr (zm rfl (zm rfl (zq (aa rfl rfl rfl (bV fH)) (za rfl (zk (W.ret (ah (ac (ab (z1 rfl) ?_)))))))))
  first | rfl | (show AV.bool _ = AV.bool _; simp_all [aL]; done) | (show AV.bool _ = AV.bool _; simp_all [aL] <;> omega)
 refine zr (zq (aa rfl (oc (v := .str [60, 61]) (by kernel_rfl)) rfl aq) (za rfl (zk (aw rfl (fun hc18 => ?_) (fun hc18 => ?_)))))
 ·refine zr (zm rfl (zm rfl (zq (aa rfl rfl rfl (lZ ey)) (za rfl (zk (W.ret (ah (ac (ab (z1 rfl) ?_)))))))))
  first | rfl | (show AV.bool _ = AV.bool _; simp_all [aL]; done) | (show AV.bool _ = AV.bool _; simp_all [aL] <;> omega)
 refine zr (zq (aa rfl (oc (v := .str [62, 61]) (by kernel_rfl)) rfl aq) (za rfl (zk (aw rfl (fun hc23 => ?_) (fun hc23 => ?_)))))
 ·refine zr (zm rfl (zm rfl (zq (aa rfl rfl rfl (gU ey)) (za rfl (zk (W.sub (zc 6 rfl bE) (W.ret (ah (ac (ab (z1 rfl) ?_))))))))))
  first | rfl | (show AV.bool _ = AV.bool _; simp_all [aL]; done) | (show AV.bool _ = AV.bool _; simp_all [aL] <;> omega)
 refine zr (zq (aa rfl (oc (v := .str [60]) (by kernel_rfl)) rfl aq) (za rfl (zk (aw rfl (fun hc28 => ?_) (fun hc28 => ?_)))))
 ·refine zr (zm rfl (zm rfl (zq (aa rfl rfl rfl (fi (cL _ _))) (za rfl (zk (W.sub (zc 6 rfl bE) (W.ret (ah (ac (ab (z1 rfl) ?_))))))))))
  first | rfl | (show AV.bool _ = AV.bool _; simp_all [aL]; done) | (show AV.bool _ = AV.bool _; simp_all [aL] <;> omega)
 refine W.skip (End.KB (End.K (zr (zm rfl (zm rfl (zq (aa rfl rfl rfl (gV (cL _ _))) (za rfl (zk (W.sub (zc 6 rfl bE) (W.ret (ab (z1 rfl) ?_)))))))))))
 first | rfl | (show AV.bool _ = AV.bool _; simp_all [aL]; done) | (show AV.bool _ = AV.bool _; simp_all [aL] <;> omega)

theorem yc (op : List Nat) (ho : Bytes op) (a b : Int) : Spec aW 76 [.str op, .int .i64 a, .int .i64 b] [] [] (eW (ae (gx op a b))) := by
 refine ak (eX 76 Tryz.func76) rfl (m := 108) rfl (rs := [.tmp 6, .tmp 7]) rfl (st := [(0, .str op), (1, .int .i64 a), (2, .int .i64 b)]) rfl rfl (fun _ => rfl) (fun E => zr (za (zi 0) (za (zi 0) (zk (oC (fun (q : Unit) => [(0, .str op), (1, .int .i64 a), (2, .int .i64 b)]) (fun (q : Unit) => (bH op = true \/ bI op = true) /\ eb a = true /\ eb b = true) (fun q hI5 => ?_) (fun hJ5 => ?_))))))
 ·obtain ⟨hg1, hg2, hg3⟩ := hI5
  have hg := pj hg1 hg2 hg3
  refine W.seq (zr (zm rfl (zk (W.block (zr (zq (aa rfl (oc (v := .str [43]) (by kernel_rfl)) rfl aq) (za rfl (zk (aw rfl (fun hc27 => ?_) (fun hc27 => ?_))))))))))
  ·refine zr (zm rfl (zm rfl (aB rfl (aY rfl (aY rfl oz)) rfl (aU (fun _ => rfl)) SubR.nil rfl (zq (Q.extract rfl rfl) (zq (Q.extract rfl rfl) (za rfl (za rfl (zk (W.ret (ah (ac (ab (ResL.tmp rfl (z1 rfl)) ?_))))))))))))
   first | (refine congrArg ae (Eq.symm ?_); rw [hg]; simp_all; done) | (rw [hg]; unfold ae af; simp_all; done) | (rw [hg]; unfold ae af; simp_all [aL]; done) | (rw [hg]; unfold ae af; simp_all [aL]; split <;> simp_all; done) | (rw [hg]; unfold ae af; simp_all [aL]; split <;> simp_all <;> omega)
  refine zr (zq (aa rfl (oc (v := .str [45]) (by kernel_rfl)) rfl aq) (za rfl (zk (aw rfl (fun hc34 => ?_) (fun hc34 => ?_)))))
  ·refine zr (zm rfl (zm rfl (aB rfl (aY rfl (aY rfl oz)) rfl (aU (fun _ => rfl)) SubR.nil rfl (zq (Q.extract rfl rfl) (zq (Q.extract rfl rfl) (za rfl (za rfl (zk (W.ret (ah (ac (ab (ResL.tmp rfl (z1 rfl)) ?_))))))))))))
   first | (refine congrArg ae (Eq.symm ?_); rw [hg]; simp_all; done) | (rw [hg]; unfold ae af; simp_all; done) | (rw [hg]; unfold ae af; simp_all [aL]; done) | (rw [hg]; unfold ae af; simp_all [aL]; split <;> simp_all; done) | (rw [hg]; unfold ae af; simp_all [aL]; split <;> simp_all <;> omega)
  refine zr (zq (aa rfl (oc (v := .str [42]) (by kernel_rfl)) rfl aq) (za rfl (zk (aw rfl (fun hc41 => ?_) (fun hc41 => ?_)))))
  ·refine zr (zm rfl (zm rfl (aB rfl (aY rfl (aY rfl oz)) rfl (aU (fun _ => rfl)) SubR.nil rfl (zq (Q.extract rfl rfl) (zq (Q.extract rfl rfl) (za rfl (za rfl (zk (W.sub (zc 7 rfl (zc 6 rfl bE)) (W.ret (ah (ac (ab (ResL.tmp rfl (z1 rfl)) ?_)))))))))))))
   first | (refine congrArg ae (Eq.symm ?_); rw [hg]; simp_all; done) | (rw [hg]; unfold ae af; simp_all; done) | (rw [hg]; unfold ae af; simp_all [aL]; done) | (rw [hg]; unfold ae af; simp_all [aL]; split <;> simp_all; done) | (rw [hg]; unfold ae af; simp_all [aL]; split <;> simp_all <;> omega)
  refine zr (zq (aa rfl (oc (v := .str [47]) (by kernel_rfl)) rfl aq) (za rfl (zk (aw rfl (fun hc48 => ?_) (fun hc48 => ?_)))))
  ·refine zr (zm rfl (zm rfl (aB rfl (aY rfl (aY rfl oz)) rfl (aU (fun _ => rfl)) SubR.nil rfl (zq (Q.extract rfl rfl) (zq (Q.extract rfl rfl) (za rfl (za rfl (zk (W.sub (zc 7 rfl (zc 6 rfl bE)) (W.ret (ah (ac (ab (ResL.tmp rfl (z1 rfl)) ?_)))))))))))))
   first | (refine congrArg ae (Eq.symm ?_); rw [hg]; simp_all; done) | (rw [hg]; unfold ae af; simp_all; done) | (rw [hg]; unfold ae af; simp_all [aL]; done) | (rw [hg]; unfold ae af; simp_all [aL]; split <;> simp_all; done) | (rw [hg]; unfold ae af; simp_all [aL]; split <;> simp_all <;> omega)
  refine zr (zq (aa rfl (oc (v := .str [37]) (by kernel_rfl)) rfl aq) (za rfl (zk (aw rfl (fun hc55 => ?_) (fun hc55 => ?_)))))
  ·refine zr (zm rfl (zm rfl (aB rfl (aY rfl (aY rfl oz)) rfl (aU (fun _ => rfl)) SubR.nil rfl (zq (Q.extract rfl rfl) (zq (Q.extract rfl rfl) (za rfl (za rfl (zk (W.sub (zc 7 rfl (zc 6 rfl bE)) (W.ret (ah (ac (ab (ResL.tmp rfl (z1 rfl)) ?_)))))))))))))
   first | (refine congrArg ae (Eq.symm ?_); rw [hg]; simp_all; done) | (rw [hg]; unfold ae af; simp_all; done) | (rw [hg]; unfold ae af; simp_all [aL]; done) | (rw [hg]; unfold ae af; simp_all [aL]; split <;> simp_all; done) | (rw [hg]; unfold ae af; simp_all [aL]; split <;> simp_all <;> omega)
  refine zr (zq (aa rfl (oc (v := .str [61, 61]) (by kernel_rfl)) rfl aq) (za rfl (zk (aw rfl (fun hc62 => ?_) (fun hc62 => ?_)))))
  ·refine zr (zm rfl (zm rfl (zq (aa rfl rfl rfl (bz bW)) (aB rfl (aY rfl oz) rfl (eC _) SubR.nil rfl (zq (Q.extract rfl rfl) (zq (Q.extract rfl rfl) (za rfl (za rfl (zk (W.sub (zc 7 rfl (zc 6 rfl bE)) (W.ret (ah (ac (ab (ResL.tmp rfl (z1 rfl)) ?_))))))))))))))
   first | (refine congrArg ae (Eq.symm ?_); rw [hg]; simp_all; done) | (rw [hg]; unfold ae af; simp_all; done) | (rw [hg]; unfold ae af; simp_all [aL]; done) | (rw [hg]; unfold ae af; simp_all [aL]; split <;> simp_all; done) | (rw [hg]; unfold ae af; simp_all [aL]; split <;> simp_all <;> omega)
  refine zr (zq (aa rfl (oc (v := .str [33, 61]) (by kernel_rfl)) rfl aq) (za rfl (zk (W.sub (zc 70 rfl (zc 26 rfl (zc 1 rfl (zc 2 rfl bE)))) (aw rfl (fun hc70 => ?_) (fun hc70 => ?_))))))
  ·refine zr (zm rfl (zm rfl (zq (aa rfl rfl rfl (bV fH)) (aB rfl (aY rfl oz) rfl (eC _) SubR.nil rfl (zq (Q.extract rfl rfl) (zq (Q.extract rfl rfl) (za rfl (za rfl (zk (W.ret (ah (ac (ab (ResL.tmp rfl (z1 rfl)) ?_)))))))))))))
   first | (refine congrArg ae (Eq.symm ?_); rw [hg]; simp_all; done) | (rw [hg]; unfold ae af; simp_all; done) | (rw [hg]; unfold ae af; simp_all [aL]; done) | (rw [hg]; unfold ae af; simp_all [aL]; split <;> simp_all; done) | (rw [hg]; unfold ae af; simp_all [aL]; split <;> simp_all <;> omega)
  refine zr (zq (aa rfl (oc (v := .str [60, 61]) (by kernel_rfl)) rfl aq) (za rfl (zk (aw rfl (fun hc78 => ?_) (fun hc78 => ?_)))))
  ·refine zr (zm rfl (zm rfl (zq (aa rfl rfl rfl (lZ ey)) (aB rfl (aY rfl oz) rfl (eC _) SubR.nil rfl (zq (Q.extract rfl rfl) (zq (Q.extract rfl rfl) (za rfl (za rfl (zk (W.ret (ah (ac (ab (ResL.tmp rfl (z1 rfl)) ?_)))))))))))))
   first | (refine congrArg ae (Eq.symm ?_); rw [hg]; simp_all; done) | (rw [hg]; unfold ae af; simp_all; done) | (rw [hg]; unfold ae af; simp_all [aL]; done) | (rw [hg]; unfold ae af; simp_all [aL]; split <;> simp_all; done) | (rw [hg]; unfold ae af; simp_all [aL]; split <;> simp_all <;> omega)
  refine zr (zq (aa rfl (oc (v := .str [62, 61]) (by kernel_rfl)) rfl aq) (za rfl (zk (aw rfl (fun hc86 => ?_) (fun hc86 => ?_)))))
  ·refine zr (zm rfl (zm rfl (zq (aa rfl rfl rfl (gU ey)) (aB rfl (aY rfl oz) rfl (eC _) SubR.nil rfl (zq (Q.extract rfl rfl) (zq (Q.extract rfl rfl) (za rfl (za rfl (zk (W.sub (zc 7 rfl (zc 6 rfl bE)) (W.ret (ah (ac (ab (ResL.tmp rfl (z1 rfl)) ?_))))))))))))))
   first | (refine congrArg ae (Eq.symm ?_); rw [hg]; simp_all; done) | (rw [hg]; unfold ae af; simp_all; done) | (rw [hg]; unfold ae af; simp_all [aL]; done) | (rw [hg]; unfold ae af; simp_all [aL]; split <;> simp_all; done) | (rw [hg]; unfold ae af; simp_all [aL]; split <;> simp_all <;> omega)
  refine zr (zq (aa rfl (oc (v := .str [60]) (by kernel_rfl)) rfl aq) (za rfl (zk (aw rfl (fun hc94 => ?_) (fun hc94 => ?_)))))
  ·refine zr (zm rfl (zm rfl (zq (aa rfl rfl rfl (fi (cL _ _))) (aB rfl (aY rfl oz) rfl (eC _) SubR.nil rfl (zq (Q.extract rfl rfl) (zq (Q.extract rfl rfl) (za rfl (za rfl (zk (W.sub (zc 7 rfl (zc 6 rfl bE)) (W.ret (ah (ac (ab (ResL.tmp rfl (z1 rfl)) ?_))))))))))))))
   first | (refine congrArg ae (Eq.symm ?_); rw [hg]; simp_all; done) | (rw [hg]; unfold ae af; simp_all; done) | (rw [hg]; unfold ae af; simp_all [aL]; done) | (rw [hg]; unfold ae af; simp_all [aL]; split <;> simp_all; done) | (rw [hg]; unfold ae af; simp_all [aL]; split <;> simp_all <;> omega)
  refine W.skip (End.KB (End.K (zr (zm rfl (zm rfl (zq (aa rfl rfl rfl (gV (cL _ _))) (aB rfl (aY rfl oz) rfl (eC _) SubR.nil rfl (zq (Q.extract rfl rfl) (zq (Q.extract rfl rfl) (za rfl (za rfl (zk (W.sub (zc 7 rfl (zc 6 rfl bE)) (W.ret (ab (ResL.tmp rfl (z1 rfl)) ?_)))))))))))))))
  first | (refine congrArg ae (Eq.symm ?_); rw [hg]; simp_all; done) | (rw [hg]; unfold ae af; simp_all; done) | (rw [hg]; unfold ae af; simp_all [aL]; done) | (rw [hg]; unfold ae af; simp_all [aL]; split <;> simp_all; done) | (rw [hg]; unfold ae af; simp_all [aL]; split <;> simp_all <;> omega)
 refine W.block (zr (zm rfl (aB rfl (aY rfl oz) rfl (vf _ ho) SubR.nil rfl (zq (Q.not rfl rfl) (zm rfl (WO.split (d := 12) rfl (fun hc12 => ?_) (fun hc12 => ?_)))))))
 ·refine zT (zm rfl (zT (aB rfl (aY rfl oz) rfl (vM _ ho) SubR.nil rfl (zT (zq (Q.not rfl rfl) (zq (au rfl rfl) (za rfl (zk (b9 rfl (fun hc8 => ?_) (fun hc8 => ?_))))))))))
  ·refine zr (za (zi 0) (za (zi 9) (zk (W.ret (ah (ac (ab (ResL.tmp rfl (z1 rfl)) ?_)))))))
   rw [w9 (by simp_all) (by simp_all)]; rfl
  refine zr (zm rfl (aB rfl (aY rfl oz) rfl (gJ _) SubR.nil rfl (zq (Q.not rfl rfl) (zm rfl (WO.split (d := 21) rfl (fun hc21 => ?_) (fun hc21 => ?_))))))
  ·refine z2 (zG (zq (au rfl rfl) (za rfl (zk (W.sub (zc 17 rfl (zc 0 rfl (zc 1 rfl (zc 2 rfl bE)))) (aO rfl (zr (za (zi 0) (za (zi 2) (zk (W.ret (ah (ac (ab (ResL.tmp rfl (z1 rfl)) ?_))))))))))))))
   rw [iU (by simp_all) (by simp_all)]; rfl
  refine zT (zm rfl (zT (aB rfl (aY rfl oz) rfl (gJ _) SubR.nil rfl (zT (zq (Q.not rfl rfl) (zq (aG rfl rfl) (za rfl (zk (W.sub (zc 17 rfl (zc 0 rfl (zc 1 rfl (zc 2 rfl bE)))) (b9 rfl (fun hc17 => ?_) (fun hc17 => ?_)))))))))))
  ·refine zr (za (zi 0) (za (zi 2) (zk (W.ret (ah (ac (ab (ResL.tmp rfl (z1 rfl)) ?_)))))))
   rw [iU (by simp_all) (by simp_all)]; rfl
  refine W.skip (End.KB (End.K (W.sub zv (hJ5 (()) ?_))))
  exact ⟨by simp_all, by simp_all, by simp_all⟩
 refine z2 (zG (zq (aG rfl rfl) (za rfl (zk (aN rfl (zr (zm rfl (aB rfl (aY rfl oz) rfl (gJ _) SubR.nil rfl (zq (Q.not rfl rfl) (zm rfl (WO.split (d := 21) rfl (fun hc21 => ?_) (fun hc21 => ?_))))))))))))
 ·refine z2 (zG (zq (au rfl rfl) (za rfl (zk (W.sub (zc 17 rfl (zc 0 rfl (zc 1 rfl (zc 2 rfl bE)))) (aO rfl (zr (za (zi 0) (za (zi 2) (zk (W.ret (ah (ac (ab (ResL.tmp rfl (z1 rfl)) ?_))))))))))))))
  rw [iU (by simp_all) (by simp_all)]; rfl
 refine zT (zm rfl (zT (aB rfl (aY rfl oz) rfl (gJ _) SubR.nil rfl (zT (zq (Q.not rfl rfl) (zq (aG rfl rfl) (za rfl (zk (W.sub (zc 17 rfl (zc 0 rfl (zc 1 rfl (zc 2 rfl bE)))) (b9 rfl (fun hc17 => ?_) (fun hc17 => ?_)))))))))))
 ·refine zr (za (zi 0) (za (zi 2) (zk (W.ret (ah (ac (ab (ResL.tmp rfl (z1 rfl)) ?_)))))))
  rw [iU (by simp_all) (by simp_all)]; rfl
 refine W.skip (End.KB (End.K (W.sub zv (hJ5 (()) ?_))))
 exact ⟨by simp_all, by simp_all, by simp_all⟩

theorem uF (op : List Nat) (ho : Bytes op) (a b : Int) : Spec aW 79 [.str op, .int .i64 a, .int .i64 b] [] [] (eW (ae (gx op a b))) := by
 refine ak (eX 79 Tryz.func79) rfl (m := 64) rfl (rs := [.tmp 6, .tmp 7]) rfl (st := [(0, .str op), (1, .int .i64 a), (2, .int .i64 b)]) rfl rfl (fun _ => rfl) (fun E => zr (za (zi 0) (za (zi 0) (zk (W.seq (zr (zm rfl (aB rfl (aY rfl oz) rfl (uy _ ho) SubR.nil rfl (zq (Q.not rfl rfl) (zm rfl (WO.split (d := 11) rfl (fun hc11 => ?_) (fun hc11 => ?_))))))))))))
 ·refine zT (zm rfl (zT (aB rfl (aY rfl oz) rfl (uz _ ho) SubR.nil rfl (zT (zq (Q.not rfl rfl) (zq (au rfl rfl) (zk (b9 rfl (fun hc15 => ?_) (fun hc15 => ?_)))))))))
  ·refine zr (za (zi 0) (za (zi 9) (zk (W.ret (ac (ab (ResL.tmp rfl (z1 rfl)) ?_))))))
   rw [w9 (by simp_all) (by simp_all)]; rfl
  refine zw (oC (fun (q : Unit) => [(0, .str op), (1, .int .i64 a), (2, .int .i64 b)]) (fun (q : Unit) => (bH op = true \/ bI op = true) /\ eb a = true /\ eb b = true) (fun q hI5 => ?_) (fun hJ5 => ?_))
  ·obtain ⟨hg1, hg2, hg3⟩ := hI5
   have hg := pj hg1 hg2 hg3
   refine W.seq (zr (zm rfl (zk (W.block (zr (zq (aa rfl (oc (v := .str [43]) (by kernel_rfl)) rfl aq) (za rfl (zk (aw rfl (fun hc25 => ?_) (fun hc25 => ?_))))))))))
   ·refine zr (zm rfl (zm rfl (aB rfl (aY rfl (aY rfl oz)) rfl (aU (fun _ => rfl)) SubR.nil rfl (zq (Q.extract rfl rfl) (zq (Q.extract rfl rfl) (za rfl (za rfl (zk (W.ret (ah (ac (ab (ResL.tmp rfl (z1 rfl)) ?_))))))))))))
    first | (refine congrArg ae (Eq.symm ?_); rw [hg]; simp_all; done) | (rw [hg]; unfold ae af; simp_all; done) | (rw [hg]; unfold ae af; simp_all [aL]; done) | (rw [hg]; unfold ae af; simp_all [aL]; split <;> simp_all; done) | (rw [hg]; unfold ae af; simp_all [aL]; split <;> simp_all <;> omega)
   refine zr (zq (aa rfl (oc (v := .str [45]) (by kernel_rfl)) rfl aq) (za rfl (zk (aw rfl (fun hc32 => ?_) (fun hc32 => ?_)))))
   ·refine zr (zm rfl (zm rfl (aB rfl (aY rfl (aY rfl oz)) rfl (aU (fun _ => rfl)) SubR.nil rfl (zq (Q.extract rfl rfl) (zq (Q.extract rfl rfl) (za rfl (za rfl (zk (W.ret (ah (ac (ab (ResL.tmp rfl (z1 rfl)) ?_))))))))))))
    first | (refine congrArg ae (Eq.symm ?_); rw [hg]; simp_all; done) | (rw [hg]; unfold ae af; simp_all; done) | (rw [hg]; unfold ae af; simp_all [aL]; done) | (rw [hg]; unfold ae af; simp_all [aL]; split <;> simp_all; done) | (rw [hg]; unfold ae af; simp_all [aL]; split <;> simp_all <;> omega)
   refine zr (zq (aa rfl (oc (v := .str [42]) (by kernel_rfl)) rfl aq) (za rfl (zk (aw rfl (fun hc39 => ?_) (fun hc39 => ?_)))))
   ·refine zr (zm rfl (zm rfl (aB rfl (aY rfl (aY rfl oz)) rfl (aU (fun _ => rfl)) SubR.nil rfl (zq (Q.extract rfl rfl) (zq (Q.extract rfl rfl) (za rfl (za rfl (zk (W.sub (zc 7 rfl (zc 6 rfl bE)) (W.ret (ah (ac (ab (ResL.tmp rfl (z1 rfl)) ?_)))))))))))))
    first | (refine congrArg ae (Eq.symm ?_); rw [hg]; simp_all; done) | (rw [hg]; unfold ae af; simp_all; done) | (rw [hg]; unfold ae af; simp_all [aL]; done) | (rw [hg]; unfold ae af; simp_all [aL]; split <;> simp_all; done) | (rw [hg]; unfold ae af; simp_all [aL]; split <;> simp_all <;> omega)
   refine zr (zq (aa rfl (oc (v := .str [47]) (by kernel_rfl)) rfl aq) (za rfl (zk (aw rfl (fun hc46 => ?_) (fun hc46 => ?_)))))
   ·refine zr (zm rfl (zm rfl (aB rfl (aY rfl (aY rfl oz)) rfl (aU (fun _ => rfl)) SubR.nil rfl (zq (Q.extract rfl rfl) (zq (Q.extract rfl rfl) (za rfl (za rfl (zk (W.sub (zc 7 rfl (zc 6 rfl bE)) (W.ret (ah (ac (ab (ResL.tmp rfl (z1 rfl)) ?_)))))))))))))
    first | (refine congrArg ae (Eq.symm ?_); rw [hg]; simp_all; done) | (rw [hg]; unfold ae af; simp_all; done) | (rw [hg]; unfold ae af; simp_all [aL]; done) | (rw [hg]; unfold ae af; simp_all [aL]; split <;> simp_all; done) | (rw [hg]; unfold ae af; simp_all [aL]; split <;> simp_all <;> omega)
   refine zr (zq (aa rfl (oc (v := .str [37]) (by kernel_rfl)) rfl aq) (za rfl (zk (aw rfl (fun hc53 => ?_) (fun hc53 => ?_)))))
   ·refine zr (zm rfl (zm rfl (aB rfl (aY rfl (aY rfl oz)) rfl (aU (fun _ => rfl)) SubR.nil rfl (zq (Q.extract rfl rfl) (zq (Q.extract rfl rfl) (za rfl (za rfl (zk (W.sub (zc 7 rfl (zc 6 rfl bE)) (W.ret (ah (ac (ab (ResL.tmp rfl (z1 rfl)) ?_)))))))))))))
    first | (refine congrArg ae (Eq.symm ?_); rw [hg]; simp_all; done) | (rw [hg]; unfold ae af; simp_all; done) | (rw [hg]; unfold ae af; simp_all [aL]; done) | (rw [hg]; unfold ae af; simp_all [aL]; split <;> simp_all; done) | (rw [hg]; unfold ae af; simp_all [aL]; split <;> simp_all <;> omega)
   refine W.skip (End.KB (End.K (W.seq (zr (zm rfl (zm rfl (zm rfl (aB rfl (aY rfl (aY rfl (aY rfl oz))) rfl (mH op ho _ _) SubR.nil rfl (zk (W.sub (zc 63 rfl bE) (b9 rfl (fun hc63 => ?_) (fun hc63 => ?_))))))))))))
   ·refine zr (za (zi 1000000) (za (zi 0) (zk (W.ret (ac (ab (ResL.tmp rfl (z1 rfl)) ?_))))))
    first | (refine congrArg ae (Eq.symm ?_); rw [hg]; simp_all; done) | (rw [hg]; unfold ae af; simp_all; done) | (rw [hg]; unfold ae af; simp_all [aL]; done) | (rw [hg]; unfold ae af; simp_all [aL]; split <;> simp_all; done) | (rw [hg]; unfold ae af; simp_all [aL]; split <;> simp_all <;> omega)
   refine zw (zr (za (zi 0) (za (zi 0) (zk (W.ret (ab (ResL.tmp rfl (z1 rfl)) ?_))))))
   first | (refine congrArg ae (Eq.symm ?_); rw [hg]; simp_all; done) | (rw [hg]; unfold ae af; simp_all; done) | (rw [hg]; unfold ae af; simp_all [aL]; done) | (rw [hg]; unfold ae af; simp_all [aL]; split <;> simp_all; done) | (rw [hg]; unfold ae af; simp_all [aL]; split <;> simp_all <;> omega)
  refine zr (zm rfl (aB rfl (aY rfl oz) rfl (fL _) SubR.nil rfl (zq (Q.not rfl rfl) (zm rfl (WO.split (d := 19) rfl (fun hc19 => ?_) (fun hc19 => ?_))))))
  ·refine z2 (zG (zq (au rfl rfl) (zk (W.sub (zc 23 rfl (zc 0 rfl (zc 1 rfl (zc 2 rfl bE)))) (aO rfl (zr (za (zi 0) (za (zi 2) (zk (W.ret (ac (ab (ResL.tmp rfl (z1 rfl)) ?_))))))))))))
   rw [iU (by simp_all) (by simp_all)]; rfl
  refine zT (zm rfl (zT (aB rfl (aY rfl oz) rfl (fL _) SubR.nil rfl (zT (zq (Q.not rfl rfl) (zq (aG rfl rfl) (zk (W.sub (zc 23 rfl (zc 0 rfl (zc 1 rfl (zc 2 rfl bE)))) (b9 rfl (fun hc23 => ?_) (fun hc23 => ?_))))))))))
  ·refine zr (za (zi 0) (za (zi 2) (zk (W.ret (ac (ab (ResL.tmp rfl (z1 rfl)) ?_))))))
   rw [iU (by simp_all) (by simp_all)]; rfl
  refine W.skip (End.K (W.sub zv (hJ5 (()) ?_)))
  exact ⟨by simp_all, by simp_all, by simp_all⟩
 refine z2 (zG (zq (aG rfl rfl) (zk (aN rfl (zw (oC (fun (q : Unit) => [(0, .str op), (1, .int .i64 a), (2, .int .i64 b)]) (fun (q : Unit) => (bH op = true \/ bI op = true) /\ eb a = true /\ eb b = true) (fun q hI5 => ?_) (fun hJ5 => ?_)))))))
 ·obtain ⟨hg1, hg2, hg3⟩ := hI5
  have hg := pj hg1 hg2 hg3
  refine W.seq (zr (zm rfl (zk (W.block (zr (zq (aa rfl (oc (v := .str [43]) (by kernel_rfl)) rfl aq) (za rfl (zk (aw rfl (fun hc25 => ?_) (fun hc25 => ?_))))))))))
  ·refine zr (zm rfl (zm rfl (aB rfl (aY rfl (aY rfl oz)) rfl (aU (fun _ => rfl)) SubR.nil rfl (zq (Q.extract rfl rfl) (zq (Q.extract rfl rfl) (za rfl (za rfl (zk (W.ret (ah (ac (ab (ResL.tmp rfl (z1 rfl)) ?_))))))))))))
   first | (refine congrArg ae (Eq.symm ?_); rw [hg]; simp_all; done) | (rw [hg]; unfold ae af; simp_all; done) | (rw [hg]; unfold ae af; simp_all [aL]; done) | (rw [hg]; unfold ae af; simp_all [aL]; split <;> simp_all; done) | (rw [hg]; unfold ae af; simp_all [aL]; split <;> simp_all <;> omega)
  refine zr (zq (aa rfl (oc (v := .str [45]) (by kernel_rfl)) rfl aq) (za rfl (zk (aw rfl (fun hc32 => ?_) (fun hc32 => ?_)))))
  ·refine zr (zm rfl (zm rfl (aB rfl (aY rfl (aY rfl oz)) rfl (aU (fun _ => rfl)) SubR.nil rfl (zq (Q.extract rfl rfl) (zq (Q.extract rfl rfl) (za rfl (za rfl (zk (W.ret (ah (ac (ab (ResL.tmp rfl (z1 rfl)) ?_))))))))))))
   first | (refine congrArg ae (Eq.symm ?_); rw [hg]; simp_all; done) | (rw [hg]; unfold ae af; simp_all; done) | (rw [hg]; unfold ae af; simp_all [aL]; done) | (rw [hg]; unfold ae af; simp_all [aL]; split <;> simp_all; done) | (rw [hg]; unfold ae af; simp_all [aL]; split <;> simp_all <;> omega)
  refine zr (zq (aa rfl (oc (v := .str [42]) (by kernel_rfl)) rfl aq) (za rfl (zk (aw rfl (fun hc39 => ?_) (fun hc39 => ?_)))))
  ·refine zr (zm rfl (zm rfl (aB rfl (aY rfl (aY rfl oz)) rfl (aU (fun _ => rfl)) SubR.nil rfl (zq (Q.extract rfl rfl) (zq (Q.extract rfl rfl) (za rfl (za rfl (zk (W.sub (zc 7 rfl (zc 6 rfl bE)) (W.ret (ah (ac (ab (ResL.tmp rfl (z1 rfl)) ?_)))))))))))))
   first | (refine congrArg ae (Eq.symm ?_); rw [hg]; simp_all; done) | (rw [hg]; unfold ae af; simp_all; done) | (rw [hg]; unfold ae af; simp_all [aL]; done) | (rw [hg]; unfold ae af; simp_all [aL]; split <;> simp_all; done) | (rw [hg]; unfold ae af; simp_all [aL]; split <;> simp_all <;> omega)
  refine zr (zq (aa rfl (oc (v := .str [47]) (by kernel_rfl)) rfl aq) (za rfl (zk (aw rfl (fun hc46 => ?_) (fun hc46 => ?_)))))
  ·refine zr (zm rfl (zm rfl (aB rfl (aY rfl (aY rfl oz)) rfl (aU (fun _ => rfl)) SubR.nil rfl (zq (Q.extract rfl rfl) (zq (Q.extract rfl rfl) (za rfl (za rfl (zk (W.sub (zc 7 rfl (zc 6 rfl bE)) (W.ret (ah (ac (ab (ResL.tmp rfl (z1 rfl)) ?_)))))))))))))
   first | (refine congrArg ae (Eq.symm ?_); rw [hg]; simp_all; done) | (rw [hg]; unfold ae af; simp_all; done) | (rw [hg]; unfold ae af; simp_all [aL]; done) | (rw [hg]; unfold ae af; simp_all [aL]; split <;> simp_all; done) | (rw [hg]; unfold ae af; simp_all [aL]; split <;> simp_all <;> omega)
  refine zr (zq (aa rfl (oc (v := .str [37]) (by kernel_rfl)) rfl aq) (za rfl (zk (aw rfl (fun hc53 => ?_) (fun hc53 => ?_)))))
  ·refine zr (zm rfl (zm rfl (aB rfl (aY rfl (aY rfl oz)) rfl (aU (fun _ => rfl)) SubR.nil rfl (zq (Q.extract rfl rfl) (zq (Q.extract rfl rfl) (za rfl (za rfl (zk (W.sub (zc 7 rfl (zc 6 rfl bE)) (W.ret (ah (ac (ab (ResL.tmp rfl (z1 rfl)) ?_)))))))))))))
   first | (refine congrArg ae (Eq.symm ?_); rw [hg]; simp_all; done) | (rw [hg]; unfold ae af; simp_all; done) | (rw [hg]; unfold ae af; simp_all [aL]; done) | (rw [hg]; unfold ae af; simp_all [aL]; split <;> simp_all; done) | (rw [hg]; unfold ae af; simp_all [aL]; split <;> simp_all <;> omega)
  refine W.skip (End.KB (End.K (W.seq (zr (zm rfl (zm rfl (zm rfl (aB rfl (aY rfl (aY rfl (aY rfl oz))) rfl (mH op ho _ _) SubR.nil rfl (zk (W.sub (zc 63 rfl bE) (b9 rfl (fun hc63 => ?_) (fun hc63 => ?_))))))))))))
  ·refine zr (za (zi 1000000) (za (zi 0) (zk (W.ret (ac (ab (ResL.tmp rfl (z1 rfl)) ?_))))))
   first | (refine congrArg ae (Eq.symm ?_); rw [hg]; simp_all; done) | (rw [hg]; unfold ae af; simp_all; done) | (rw [hg]; unfold ae af; simp_all [aL]; done) | (rw [hg]; unfold ae af; simp_all [aL]; split <;> simp_all; done) | (rw [hg]; unfold ae af; simp_all [aL]; split <;> simp_all <;> omega)
  refine zw (zr (za (zi 0) (za (zi 0) (zk (W.ret (ab (ResL.tmp rfl (z1 rfl)) ?_))))))
  first | (refine congrArg ae (Eq.symm ?_); rw [hg]; simp_all; done) | (rw [hg]; unfold ae af; simp_all; done) | (rw [hg]; unfold ae af; simp_all [aL]; done) | (rw [hg]; unfold ae af; simp_all [aL]; split <;> simp_all; done) | (rw [hg]; unfold ae af; simp_all [aL]; split <;> simp_all <;> omega)
 refine zr (zm rfl (aB rfl (aY rfl oz) rfl (fL _) SubR.nil rfl (zq (Q.not rfl rfl) (zm rfl (WO.split (d := 19) rfl (fun hc19 => ?_) (fun hc19 => ?_))))))
 ·refine z2 (zG (zq (au rfl rfl) (zk (W.sub (zc 23 rfl (zc 0 rfl (zc 1 rfl (zc 2 rfl bE)))) (aO rfl (zr (za (zi 0) (za (zi 2) (zk (W.ret (ac (ab (ResL.tmp rfl (z1 rfl)) ?_))))))))))))
  rw [iU (by simp_all) (by simp_all)]; rfl
 refine zT (zm rfl (zT (aB rfl (aY rfl oz) rfl (fL _) SubR.nil rfl (zT (zq (Q.not rfl rfl) (zq (aG rfl rfl) (zk (W.sub (zc 23 rfl (zc 0 rfl (zc 1 rfl (zc 2 rfl bE)))) (b9 rfl (fun hc23 => ?_) (fun hc23 => ?_))))))))))
 ·refine zr (za (zi 0) (za (zi 2) (zk (W.ret (ac (ab (ResL.tmp rfl (z1 rfl)) ?_))))))
  rw [iU (by simp_all) (by simp_all)]; rfl
 refine W.skip (End.K (W.sub zv (hJ5 (()) ?_)))
 exact ⟨by simp_all, by simp_all, by simp_all⟩
end Go.Proofs.YtndhhgbpcmfeiaaGreatDoor.Ev
