/- Chapter 17, walks: what names take. -/
import Derived.Test.YtnlnmbnopdklhaaANod
namespace Go.Proofs.Ytnlnmbnopdklhaa.Ev
open Go.RowKit
set_option linter.unusedVariables false
set_option linter.unusedSimpArgs false
set_option maxRecDepth 100000
/-- What a name takes and gives; gives 0: it is none. -/
def callM (op : List Nat) : List Nat × Nat :=
  if op = [116, 105, 109, 101] then ([], 1) else
  if op = [115, 99, 97, 108, 97, 114] then ([2], 1) else
  if op = [118, 101, 99, 116, 111, 114] then ([1], 2) else
  if op = [97, 98, 115] ∨ op = [99, 101, 105, 108] ∨ op = [102, 108, 111, 111, 114] ∨ op = [115, 103, 110] then ([2], 2) else
  if op = [99, 108, 97, 109, 112] then ([2, 1, 1], 2) else
  if op = [99, 111, 117, 110, 116, 95, 111, 118, 101, 114, 95, 116, 105, 109, 101] ∨ op = [115, 117, 109, 95, 111, 118, 101, 114, 95, 116, 105, 109, 101] ∨ op = [97, 118, 103, 95, 111, 118, 101, 114, 95, 116, 105, 109, 101] ∨ op = [109, 105, 110, 95, 111, 118, 101, 114, 95, 116, 105, 109, 101] ∨ op = [109, 97, 120, 95, 111, 118, 101, 114, 95, 116, 105, 109, 101] ∨ op = [108, 97, 115, 116, 95, 111, 118, 101, 114, 95, 116, 105, 109, 101] ∨ op = [100, 101, 108, 116, 97] ∨ op = [105, 110, 99, 114, 101, 97, 115, 101] ∨ op = [114, 97, 116, 101] then ([3], 2) else
  ([], 0)
def pad (l : List Nat) : List AV := [.int .i64 ((l.getD 0 0 : Nat) : Int), .int .i64 ((l.getD 1 0 : Nat) : Int), .int .i64 ((l.getD 2 0 : Nat) : Int)]
theorem strs_at {L : List (List Nat)} {i : Nat} (h : i < L.length) : (L.map AV.str)[(0 + i) * 1]? = some (.str (L.getD i [])) := by
  rw [Nat.zero_add, Nat.mul_one, List.getElem?_map, List.getD_eq_getElem?_getD, List.getElem?_eq_getElem h]; rfl
def ints (A : List Nat) : List AV := A.map fun n => .int .i64 ((n : Nat) : Int)
def ISl (hs : HSt) (A : List Nat) (v : AV) : Prop := (v = .nils ∧ A = []) ∨ ∃ b ex, v = .slice b 0 A.length 1 ∧ MemH hs b ⟨1, ex, ints A⟩
theorem isl_len {hs : HSt} {A : List Nat} {v : AV} {e : Nat} (h : ISl hs A v) : lenA (.slice e) v = some A.length := by
  rcases h with ⟨rfl, rfl⟩ | ⟨b, ex, rfl, _⟩ <;> rfl
theorem isl_full {hs : HSt} {A : List Nat} {v : AV} (h : ISl hs A v) (hl : 0 < A.length) : ∃ b ex, v = .slice b 0 A.length 1 ∧ MemH hs b ⟨1, ex, ints A⟩ := by
  rcases h with ⟨_, rfl⟩ | h
  · simp at hl
  · exact h
theorem ints_at {A : List Nat} {i : Nat} (h : i < A.length) : (ints A)[(0 + i) * 1]? = some (.int .i64 ((A.getD i 0 : Nat) : Int)) := by
  unfold ints
  rw [Nat.zero_add, Nat.mul_one, List.getElem?_map, List.getD_eq_getElem?_getD, List.getElem?_eq_getElem h]; rfl
theorem call_spec (op : List Nat) (ho : Bytes op) : Spec tab 22 [.str op] [] [] (Val (.tuple [.agg (pad (callM op).1), .int .i64 (((callM op).2 : Nat) : Int)])) := by
 refine Spec.enter' (ft_get 22 Try.func22) rfl (m := 35) rfl (rs := [.cell 2 60, .tmp 3]) rfl (st := [(0, .str op)]) rfl rfl (fun _ => rfl) (fun E => zr (WO.alloc ao60 rfl (fun b1 => za (zi 0) (zk (W.seq (zr (zm rfl (zk (W.block (zr (zq (Q.bin rfl (oc (v := .str [116, 105, 109, 101]) (by kernel_rfl)) rfl bv_seql) (za rfl (zk (W.condDS rfl (fun hc5 => ?_) (fun hc5 => ?_)))))))))))))))
 · refine zr (zq (Q.build pl60 oPs_nil rfl (cs := [_, _, _]) rfl) (WO.store sz60 rfl rfl (i := 0) rfl rfl (cs := [_, _, _]) rfl (hs' := [_]) rfl (za (zi 1) (zk (W.ret (End.KB_ret (End.K_ret (End.retV (ResL.agg (c := [_, _, _]) rfl (zt 0 rfl) ag60 sz60 rfl (z1 rfl)) ?_))))))))
   first | (subst_vars; rfl) | (simp [callM, pad, *] <;> rfl)
 refine zr (zq (Q.bin rfl (oc (v := .str [115, 99, 97, 108, 97, 114]) (by kernel_rfl)) rfl bv_seql) (za rfl (zk (W.condDS rfl (fun hc8 => ?_) (fun hc8 => ?_)))))
 · refine zr (zq (Q.build pl60 (oPs_cons (zi 2) oPs_nil) rfl (cs := [_, _, _]) rfl) (WO.store sz60 rfl rfl (i := 0) rfl rfl (cs := [_, _, _]) rfl (hs' := [_]) rfl (za (zi 1) (zk (W.ret (End.KB_ret (End.K_ret (End.retV (ResL.agg (c := [_, _, _]) rfl (zt 0 rfl) ag60 sz60 rfl (z1 rfl)) ?_))))))))
   first | (subst_vars; rfl) | (simp [callM, pad, *] <;> rfl)
 refine zr (zq (Q.bin rfl (oc (v := .str [118, 101, 99, 116, 111, 114]) (by kernel_rfl)) rfl bv_seql) (za rfl (zk (W.condDS rfl (fun hc11 => ?_) (fun hc11 => ?_)))))
 · refine zr (zq (Q.build pl60 (oPs_cons (zi 1) oPs_nil) rfl (cs := [_, _, _]) rfl) (WO.store sz60 rfl rfl (i := 0) rfl rfl (cs := [_, _, _]) rfl (hs' := [_]) rfl (za (zi 2) (zk (W.ret (End.KB_ret (End.K_ret (End.retV (ResL.agg (c := [_, _, _]) rfl (zt 0 rfl) ag60 sz60 rfl (z1 rfl)) ?_))))))))
   first | (subst_vars; rfl) | (simp [callM, pad, *] <;> rfl)
 refine W.seq (zr (zq (Q.bin rfl (oc (v := .str [97, 98, 115]) (by kernel_rfl)) rfl bv_seql) (za rfl (zk (W.condDS rfl (fun hc14 => ?_) (fun hc14 => ?_))))))
 · refine zw (W.condT rfl (zr (zq (Q.build pl60 (oPs_cons (zi 2) oPs_nil) rfl (cs := [_, _, _]) rfl) (WO.store sz60 rfl rfl (i := 0) rfl rfl (cs := [_, _, _]) rfl (hs' := [_]) rfl (za (zi 2) (zk (W.ret (End.KB_ret (End.K_ret (End.retV (ResL.agg (c := [_, _, _]) rfl (zt 0 rfl) ag60 sz60 rfl (z1 rfl)) ?_))))))))))
   first | (subst_vars; rfl) | (simp [callM, pad, *] <;> rfl)
 refine zr (zq (Q.bin rfl (oc (v := .str [99, 101, 105, 108]) (by kernel_rfl)) rfl bv_seql) (za rfl (zk (W.condDS rfl (fun hc14 => ?_) (fun hc14 => ?_)))))
 · refine zw (W.condT rfl (zr (zq (Q.build pl60 (oPs_cons (zi 2) oPs_nil) rfl (cs := [_, _, _]) rfl) (WO.store sz60 rfl rfl (i := 0) rfl rfl (cs := [_, _, _]) rfl (hs' := [_]) rfl (za (zi 2) (zk (W.ret (End.KB_ret (End.K_ret (End.retV (ResL.agg (c := [_, _, _]) rfl (zt 0 rfl) ag60 sz60 rfl (z1 rfl)) ?_))))))))))
   first | (subst_vars; rfl) | (simp [callM, pad, *] <;> rfl)
 refine zr (zq (Q.bin rfl (oc (v := .str [102, 108, 111, 111, 114]) (by kernel_rfl)) rfl bv_seql) (za rfl (zk (W.condDS rfl (fun hc14 => ?_) (fun hc14 => ?_)))))
 · refine zw (W.condT rfl (zr (zq (Q.build pl60 (oPs_cons (zi 2) oPs_nil) rfl (cs := [_, _, _]) rfl) (WO.store sz60 rfl rfl (i := 0) rfl rfl (cs := [_, _, _]) rfl (hs' := [_]) rfl (za (zi 2) (zk (W.ret (End.KB_ret (End.K_ret (End.retV (ResL.agg (c := [_, _, _]) rfl (zt 0 rfl) ag60 sz60 rfl (z1 rfl)) ?_))))))))))
   first | (subst_vars; rfl) | (simp [callM, pad, *] <;> rfl)
 refine W.reg (zq (Q.bin rfl (oc (v := .str [115, 103, 110]) (by kernel_rfl)) rfl bv_seql) (za rfl (zk (W.condDS rfl (fun hc14 => ?_) (fun hc14 => ?_)))))
 · refine zr (zq (Q.build pl60 (oPs_cons (zi 2) oPs_nil) rfl (cs := [_, _, _]) rfl) (WO.store sz60 rfl rfl (i := 0) rfl rfl (cs := [_, _, _]) rfl (hs' := [_]) rfl (za (zi 2) (zk (W.sub (zc 3 rfl (zc 2 rfl zzn)) (W.ret (End.KB_ret (End.K_ret (End.retV (ResL.agg (c := [_, _, _]) rfl (zt 0 rfl) ag60 sz60 rfl (z1 rfl)) ?_)))))))))
   first | (subst_vars; rfl) | (simp [callM, pad, *] <;> rfl)
 refine zr (zq (Q.bin rfl (oc (v := .str [99, 108, 97, 109, 112]) (by kernel_rfl)) rfl bv_seql) (za rfl (zk (W.sub (zc 20 rfl (zc 4 rfl (zc 2 rfl zzn))) (W.condDS rfl (fun hc20 => ?_) (fun hc20 => ?_))))))
 · refine zr (zq (Q.build pl60 (oPs_cons (zi 2) (oPs_cons (zi 1) (oPs_cons (zi 1) oPs_nil))) rfl (cs := [_, _, _]) rfl) (WO.store sz60 rfl rfl (i := 0) rfl rfl (cs := [_, _, _]) rfl (hs' := [_]) rfl (za (zi 2) (zk (W.ret (End.KB_ret (End.K_ret (End.retV (ResL.agg (c := [_, _, _]) rfl (zt 0 rfl) ag60 sz60 rfl (z1 rfl)) ?_))))))))
   first | (subst_vars; rfl) | (simp [callM, pad, *] <;> rfl)
 refine W.seq (zr (zq (Q.bin rfl (oc (v := .str [99, 111, 117, 110, 116, 95, 111, 118, 101, 114, 95, 116, 105, 109, 101]) (by kernel_rfl)) rfl bv_seql) (za rfl (zk (W.condDS rfl (fun hc23 => ?_) (fun hc23 => ?_))))))
 · refine zw (W.condT rfl (zr (zq (Q.build pl60 (oPs_cons (zi 3) oPs_nil) rfl (cs := [_, _, _]) rfl) (WO.store sz60 rfl rfl (i := 0) rfl rfl (cs := [_, _, _]) rfl (hs' := [_]) rfl (za (zi 2) (zk (W.ret (End.KB_ret (End.K_ret (End.retV (ResL.agg (c := [_, _, _]) rfl (zt 0 rfl) ag60 sz60 rfl (z1 rfl)) ?_))))))))))
   first | (subst_vars; rfl) | (simp [callM, pad, *] <;> rfl)
 refine zr (zq (Q.bin rfl (oc (v := .str [115, 117, 109, 95, 111, 118, 101, 114, 95, 116, 105, 109, 101]) (by kernel_rfl)) rfl bv_seql) (za rfl (zk (W.condDS rfl (fun hc23 => ?_) (fun hc23 => ?_)))))
 · refine zw (W.condT rfl (zr (zq (Q.build pl60 (oPs_cons (zi 3) oPs_nil) rfl (cs := [_, _, _]) rfl) (WO.store sz60 rfl rfl (i := 0) rfl rfl (cs := [_, _, _]) rfl (hs' := [_]) rfl (za (zi 2) (zk (W.ret (End.KB_ret (End.K_ret (End.retV (ResL.agg (c := [_, _, _]) rfl (zt 0 rfl) ag60 sz60 rfl (z1 rfl)) ?_))))))))))
   first | (subst_vars; rfl) | (simp [callM, pad, *] <;> rfl)
 refine zr (zq (Q.bin rfl (oc (v := .str [97, 118, 103, 95, 111, 118, 101, 114, 95, 116, 105, 109, 101]) (by kernel_rfl)) rfl bv_seql) (za rfl (zk (W.condDS rfl (fun hc23 => ?_) (fun hc23 => ?_)))))
 · refine zw (W.condT rfl (zr (zq (Q.build pl60 (oPs_cons (zi 3) oPs_nil) rfl (cs := [_, _, _]) rfl) (WO.store sz60 rfl rfl (i := 0) rfl rfl (cs := [_, _, _]) rfl (hs' := [_]) rfl (za (zi 2) (zk (W.ret (End.KB_ret (End.K_ret (End.retV (ResL.agg (c := [_, _, _]) rfl (zt 0 rfl) ag60 sz60 rfl (z1 rfl)) ?_))))))))))
   first | (subst_vars; rfl) | (simp [callM, pad, *] <;> rfl)
 refine zr (zq (Q.bin rfl (oc (v := .str [109, 105, 110, 95, 111, 118, 101, 114, 95, 116, 105, 109, 101]) (by kernel_rfl)) rfl bv_seql) (za rfl (zk (W.condDS rfl (fun hc23 => ?_) (fun hc23 => ?_)))))
 · refine zw (W.condT rfl (zr (zq (Q.build pl60 (oPs_cons (zi 3) oPs_nil) rfl (cs := [_, _, _]) rfl) (WO.store sz60 rfl rfl (i := 0) rfl rfl (cs := [_, _, _]) rfl (hs' := [_]) rfl (za (zi 2) (zk (W.ret (End.KB_ret (End.K_ret (End.retV (ResL.agg (c := [_, _, _]) rfl (zt 0 rfl) ag60 sz60 rfl (z1 rfl)) ?_))))))))))
   first | (subst_vars; rfl) | (simp [callM, pad, *] <;> rfl)
 refine zr (zq (Q.bin rfl (oc (v := .str [109, 97, 120, 95, 111, 118, 101, 114, 95, 116, 105, 109, 101]) (by kernel_rfl)) rfl bv_seql) (za rfl (zk (W.condDS rfl (fun hc23 => ?_) (fun hc23 => ?_)))))
 · refine zw (W.condT rfl (zr (zq (Q.build pl60 (oPs_cons (zi 3) oPs_nil) rfl (cs := [_, _, _]) rfl) (WO.store sz60 rfl rfl (i := 0) rfl rfl (cs := [_, _, _]) rfl (hs' := [_]) rfl (za (zi 2) (zk (W.ret (End.KB_ret (End.K_ret (End.retV (ResL.agg (c := [_, _, _]) rfl (zt 0 rfl) ag60 sz60 rfl (z1 rfl)) ?_))))))))))
   first | (subst_vars; rfl) | (simp [callM, pad, *] <;> rfl)
 refine zr (zq (Q.bin rfl (oc (v := .str [108, 97, 115, 116, 95, 111, 118, 101, 114, 95, 116, 105, 109, 101]) (by kernel_rfl)) rfl bv_seql) (za rfl (zk (W.condDS rfl (fun hc23 => ?_) (fun hc23 => ?_)))))
 · refine zw (W.condT rfl (zr (zq (Q.build pl60 (oPs_cons (zi 3) oPs_nil) rfl (cs := [_, _, _]) rfl) (WO.store sz60 rfl rfl (i := 0) rfl rfl (cs := [_, _, _]) rfl (hs' := [_]) rfl (za (zi 2) (zk (W.ret (End.KB_ret (End.K_ret (End.retV (ResL.agg (c := [_, _, _]) rfl (zt 0 rfl) ag60 sz60 rfl (z1 rfl)) ?_))))))))))
   first | (subst_vars; rfl) | (simp [callM, pad, *] <;> rfl)
 refine zr (zq (Q.bin rfl (oc (v := .str [100, 101, 108, 116, 97]) (by kernel_rfl)) rfl bv_seql) (za rfl (zk (W.condDS rfl (fun hc23 => ?_) (fun hc23 => ?_)))))
 · refine zw (W.condT rfl (zr (zq (Q.build pl60 (oPs_cons (zi 3) oPs_nil) rfl (cs := [_, _, _]) rfl) (WO.store sz60 rfl rfl (i := 0) rfl rfl (cs := [_, _, _]) rfl (hs' := [_]) rfl (za (zi 2) (zk (W.ret (End.KB_ret (End.K_ret (End.retV (ResL.agg (c := [_, _, _]) rfl (zt 0 rfl) ag60 sz60 rfl (z1 rfl)) ?_))))))))))
   first | (subst_vars; rfl) | (simp [callM, pad, *] <;> rfl)
 refine zr (zq (Q.bin rfl (oc (v := .str [105, 110, 99, 114, 101, 97, 115, 101]) (by kernel_rfl)) rfl bv_seql) (za rfl (zk (W.condDS rfl (fun hc23 => ?_) (fun hc23 => ?_)))))
 · refine zw (W.condT rfl (zr (zq (Q.build pl60 (oPs_cons (zi 3) oPs_nil) rfl (cs := [_, _, _]) rfl) (WO.store sz60 rfl rfl (i := 0) rfl rfl (cs := [_, _, _]) rfl (hs' := [_]) rfl (za (zi 2) (zk (W.ret (End.KB_ret (End.K_ret (End.retV (ResL.agg (c := [_, _, _]) rfl (zt 0 rfl) ag60 sz60 rfl (z1 rfl)) ?_))))))))))
   first | (subst_vars; rfl) | (simp [callM, pad, *] <;> rfl)
 refine W.reg (zq (Q.bin rfl (oc (v := .str [114, 97, 116, 101]) (by kernel_rfl)) rfl bv_seql) (za rfl (zk (W.condDS rfl (fun hc23 => ?_) (fun hc23 => ?_)))))
 · refine zr (zq (Q.build pl60 (oPs_cons (zi 3) oPs_nil) rfl (cs := [_, _, _]) rfl) (WO.store sz60 rfl rfl (i := 0) rfl rfl (cs := [_, _, _]) rfl (hs' := [_]) rfl (za (zi 2) (zk (W.ret (End.KB_ret (End.K_ret (End.retV (ResL.agg (c := [_, _, _]) rfl (zt 0 rfl) ag60 sz60 rfl (z1 rfl)) ?_))))))))
   first | (subst_vars; rfl) | (simp [callM, pad, *] <;> rfl)
 refine W.skip (End.KB (End.K (zr (zq (Q.build pl60 oPs_nil rfl (cs := [_, _, _]) rfl) (WO.store sz60 rfl rfl (i := 0) rfl rfl (cs := [_, _, _]) rfl (hs' := [_]) rfl (za (zi 0) (zk (W.ret (End.retV (ResL.agg (c := [_, _, _]) rfl (zt 0 rfl) ag60 sz60 rfl (z1 rfl)) ?_)))))))))
 first | (subst_vars; rfl) | (simp [callM, pad, *] <;> rfl)

end Go.Proofs.Ytnlnmbnopdklhaa.Ev
