/- Chapter 17, walks: what names take. -/
import Derived.Test.YtndhhgbpcmfeiaaGreatDoorMFactsT
import Derived.Test.YtndhhgbpcmfeiaaGreatDoorMAwJ
namespace Go.Proofs.YtndhhgbpcmfeiaaGreatDoor.Ev.P16
open Go.RowKit
set_option linter.unusedVariables false
set_option linter.unusedSimpArgs false
set_option maxRecDepth 100000
def callM (op : List Nat) : List Nat × Nat :=
 if op = [116, 105, 109, 101] then ([], 1) else
 if op = [115, 99, 97, 108, 97, 114] then ([2], 1) else
 if op = [118, 101, 99, 116, 111, 114] then ([1], 2) else
 if op = [97, 98, 115] ∨ op = [99, 101, 105, 108] ∨ op = [102, 108, 111, 111, 114] ∨ op = [115, 103, 110] then ([2], 2) else
 if op = [99, 108, 97, 109, 112] then ([2, 1, 1], 2) else
 if op = [99, 111, 117, 110, 116, 95, 111, 118, 101, 114, 95, 116, 105, 109, 101] ∨ op = [115, 117, 109, 95, 111, 118, 101, 114, 95, 116, 105, 109, 101] ∨ op = [97, 118, 103, 95, 111, 118, 101, 114, 95, 116, 105, 109, 101] ∨ op = [109, 105, 110, 95, 111, 118, 101, 114, 95, 116, 105, 109, 101] ∨ op = [109, 97, 120, 95, 111, 118, 101, 114, 95, 116, 105, 109, 101] ∨ op = [108, 97, 115, 116, 95, 111, 118, 101, 114, 95, 116, 105, 109, 101] ∨ op = [100, 101, 108, 116, 97] ∨ op = [105, 110, 99, 114, 101, 97, 115, 101] ∨ op = [114, 97, 116, 101] then ([3], 2) else
 ([], 0)
def pad (l : List Nat) : List AV := [.int .i64 ((l.getD 0 0 : Nat) : Int), .int .i64 ((l.getD 1 0 : Nat) : Int), .int .i64 ((l.getD 2 0 : Nat) : Int)]
theorem strs_at {L : List (List Nat)} {i : Nat} (h : i < L.length) : (L.map AV.str)[(0 + i) * 1]? = some (.str (L.getD i [])) := by
 rw [Nat.zero_add, Nat.mul_one, List.getElem?_map, List.getD_eq_getElem?_getD, List.getElem?_eq_getElem h]; rfl
def ints (A : List Nat) : List AV := A.map fun n => .int .i64 ((n : Nat) : Int)
def ISl (hs : HSt) (A : List Nat) (v : AV) : Prop := (v = .nils ∧ A = []) ∨ ∃ b ex, v = .slice b 0 A.length 1 ∧ MemH hs b ⟨1, ex, ints A⟩
theorem isl_len {hs : HSt} {A : List Nat} {v : AV} {e : Nat} (h : ISl hs A v) : lenA (.slice e) v = some A.length := by
 rcases h with ⟨rfl, rfl⟩ | ⟨b, ex, rfl, _⟩ <;> rfl
theorem isl_full {hs : HSt} {A : List Nat} {v : AV} (h : ISl hs A v) (hl : 0 < A.length) : ∃ b ex, v = .slice b 0 A.length 1 ∧ MemH hs b ⟨1, ex, ints A⟩ := by
 rcases h with ⟨_, rfl⟩ | h
 ·simp at hl
 ·exact h
theorem ints_at {A : List Nat} {i : Nat} (h : i < A.length) : (ints A)[(0 + i) * 1]? = some (.int .i64 ((A.getD i 0 : Nat) : Int)) := by
 unfold ints
 rw [Nat.zero_add, Nat.mul_one, List.getElem?_map, List.getD_eq_getElem?_getD, List.getElem?_eq_getElem h]; rfl
theorem ns_len {A B : List Nat} (h : ¬ A.length = B.length) : oneOf [AV.bool false] = .bool (decide (A = B)) := by
 have : ¬ A = B := fun e => h (by rw [e])
 rw [decide_eq_false this]; rfl
theorem ns_no {A B : List Nat} {i : Nat} (h : ¬ A.getD i 0 = B.getD i 0) : oneOf [AV.bool false] = .bool (decide (A = B)) := by
 have : ¬ A = B := fun e => h (by rw [e])
 rw [decide_eq_false this]; rfl
theorem ns_yes {A B : List Nat} (hl : A.length = B.length) (h : ∀ j, j < A.length → A.getD j 0 = B.getD j 0) : oneOf [AV.bool true] = .bool (decide (A = B)) := by
 have : A = B := by
  refine List.ext_getElem hl fun j h1 h2 => ?_
  have := h j h1
  rw [List.getD_eq_getElem?_getD, List.getD_eq_getElem?_getD, List.getElem?_eq_getElem h1, List.getElem?_eq_getElem h2] at this
  exact this
 rw [decide_eq_true this]; rfl
theorem in_yes {op : List Nat} {L : List (List Nat)} {i : Nat} (h : i < L.length) (e : L.getD i [] = op) : oneOf [AV.bool true] = .bool (decide (op ∈ L)) := by
 have : op ∈ L := by
  rw [List.getD_eq_getElem?_getD, List.getElem?_eq_getElem h] at e
  have e : L[i] = op := e
  rw [← e]; exact List.getElem_mem h
 rw [decide_eq_true this]; rfl
theorem in_no {op : List Nat} {L : List (List Nat)} (h : ∀ j, j < L.length → L.getD j [] ≠ op) : oneOf [AV.bool false] = .bool (decide (op ∈ L)) := by
 have : ¬ op ∈ L := by
  intro hm
  obtain ⟨j, hj, e⟩ := List.getElem_of_mem hm
  refine h j hj ?_
  rw [List.getD_eq_getElem?_getD, List.getElem?_eq_getElem hj]; exact e
 rw [decide_eq_false this]; rfl
theorem call_spec (op : List Nat) (ho : Bytes op) : Spec tab 66 [.str op] [] [] (Val (.tuple [.agg (pad (callM op).1), .int .i64 (((callM op).2 : Nat) : Int)])) := by
 refine Spec.en (ftg 66 Tryz.func66) rfl (m := 35) rfl (rs := [.cell 2 112, .tmp 3]) rfl (st := [(0, .str op)]) rfl rfl (fun _ => rfl) (fun E => zr (WO.alloc ao112 rfl (fun b1 => za (zi 0) (zk (W.seq (zr (zm rfl (zk (W.block (zr (zq (Q.bin rfl (oc (v := .str [116, 105, 109, 101]) (by kernel_rfl)) rfl bv_seql) (za rfl (zk (W.cD rfl (fun hc5 => ?_) (fun hc5 => ?_)))))))))))))))
 ·refine zr (zq (Q.build pl112 oPs_nil rfl (cs := [_, _, _]) rfl) (WO.store sz112 rfl rfl (i := 0) rfl rfl (cs := [_, _, _]) rfl (hs' := [_]) rfl (za (zi 1) (zk (W.ret (End.Br (End.Kr (End.rV (ResL.agg (c := [_, _, _]) rfl (zt 0 rfl) ag112 sz112 rfl (z1 rfl)) ?_))))))))
  first | (subst_vars; rfl) | (simp [callM, pad, *] <;> rfl)
 refine zr (zq (Q.bin rfl (oc (v := .str [115, 99, 97, 108, 97, 114]) (by kernel_rfl)) rfl bv_seql) (za rfl (zk (W.cD rfl (fun hc8 => ?_) (fun hc8 => ?_)))))
 ·refine zr (zq (Q.build pl112 (opc (zi 2) oPs_nil) rfl (cs := [_, _, _]) rfl) (WO.store sz112 rfl rfl (i := 0) rfl rfl (cs := [_, _, _]) rfl (hs' := [_]) rfl (za (zi 1) (zk (W.ret (End.Br (End.Kr (End.rV (ResL.agg (c := [_, _, _]) rfl (zt 0 rfl) ag112 sz112 rfl (z1 rfl)) ?_))))))))
  first | (subst_vars; rfl) | (simp [callM, pad, *] <;> rfl)
 refine zr (zq (Q.bin rfl (oc (v := .str [118, 101, 99, 116, 111, 114]) (by kernel_rfl)) rfl bv_seql) (za rfl (zk (W.cD rfl (fun hc11 => ?_) (fun hc11 => ?_)))))
 ·refine zr (zq (Q.build pl112 (opc (zi 1) oPs_nil) rfl (cs := [_, _, _]) rfl) (WO.store sz112 rfl rfl (i := 0) rfl rfl (cs := [_, _, _]) rfl (hs' := [_]) rfl (za (zi 2) (zk (W.ret (End.Br (End.Kr (End.rV (ResL.agg (c := [_, _, _]) rfl (zt 0 rfl) ag112 sz112 rfl (z1 rfl)) ?_))))))))
  first | (subst_vars; rfl) | (simp [callM, pad, *] <;> rfl)
 refine W.seq (zr (zq (Q.bin rfl (oc (v := .str [97, 98, 115]) (by kernel_rfl)) rfl bv_seql) (za rfl (zk (W.cD rfl (fun hc14 => ?_) (fun hc14 => ?_))))))
 ·refine zw (W.condT rfl (zr (zq (Q.build pl112 (opc (zi 2) oPs_nil) rfl (cs := [_, _, _]) rfl) (WO.store sz112 rfl rfl (i := 0) rfl rfl (cs := [_, _, _]) rfl (hs' := [_]) rfl (za (zi 2) (zk (W.ret (End.Br (End.Kr (End.rV (ResL.agg (c := [_, _, _]) rfl (zt 0 rfl) ag112 sz112 rfl (z1 rfl)) ?_))))))))))
  first | (subst_vars; rfl) | (simp [callM, pad, *] <;> rfl)
 refine zr (zq (Q.bin rfl (oc (v := .str [99, 101, 105, 108]) (by kernel_rfl)) rfl bv_seql) (za rfl (zk (W.cD rfl (fun hc14 => ?_) (fun hc14 => ?_)))))
 ·refine zw (W.condT rfl (zr (zq (Q.build pl112 (opc (zi 2) oPs_nil) rfl (cs := [_, _, _]) rfl) (WO.store sz112 rfl rfl (i := 0) rfl rfl (cs := [_, _, _]) rfl (hs' := [_]) rfl (za (zi 2) (zk (W.ret (End.Br (End.Kr (End.rV (ResL.agg (c := [_, _, _]) rfl (zt 0 rfl) ag112 sz112 rfl (z1 rfl)) ?_))))))))))
  first | (subst_vars; rfl) | (simp [callM, pad, *] <;> rfl)
 refine zr (zq (Q.bin rfl (oc (v := .str [102, 108, 111, 111, 114]) (by kernel_rfl)) rfl bv_seql) (za rfl (zk (W.cD rfl (fun hc14 => ?_) (fun hc14 => ?_)))))
 ·refine zw (W.condT rfl (zr (zq (Q.build pl112 (opc (zi 2) oPs_nil) rfl (cs := [_, _, _]) rfl) (WO.store sz112 rfl rfl (i := 0) rfl rfl (cs := [_, _, _]) rfl (hs' := [_]) rfl (za (zi 2) (zk (W.ret (End.Br (End.Kr (End.rV (ResL.agg (c := [_, _, _]) rfl (zt 0 rfl) ag112 sz112 rfl (z1 rfl)) ?_))))))))))
  first | (subst_vars; rfl) | (simp [callM, pad, *] <;> rfl)
 refine W.reg (zq (Q.bin rfl (oc (v := .str [115, 103, 110]) (by kernel_rfl)) rfl bv_seql) (za rfl (zk (W.cD rfl (fun hc14 => ?_) (fun hc14 => ?_)))))
 ·refine zr (zq (Q.build pl112 (opc (zi 2) oPs_nil) rfl (cs := [_, _, _]) rfl) (WO.store sz112 rfl rfl (i := 0) rfl rfl (cs := [_, _, _]) rfl (hs' := [_]) rfl (za (zi 2) (zk (W.sub (zc 3 rfl (zc 2 rfl zzn)) (W.ret (End.Br (End.Kr (End.rV (ResL.agg (c := [_, _, _]) rfl (zt 0 rfl) ag112 sz112 rfl (z1 rfl)) ?_)))))))))
  first | (subst_vars; rfl) | (simp [callM, pad, *] <;> rfl)
 refine zr (zq (Q.bin rfl (oc (v := .str [99, 108, 97, 109, 112]) (by kernel_rfl)) rfl bv_seql) (za rfl (zk (W.sub (zc 20 rfl (zc 4 rfl (zc 2 rfl zzn))) (W.cD rfl (fun hc20 => ?_) (fun hc20 => ?_))))))
 ·refine zr (zq (Q.build pl112 (opc (zi 2) (opc (zi 1) (opc (zi 1) oPs_nil))) rfl (cs := [_, _, _]) rfl) (WO.store sz112 rfl rfl (i := 0) rfl rfl (cs := [_, _, _]) rfl (hs' := [_]) rfl (za (zi 2) (zk (W.ret (End.Br (End.Kr (End.rV (ResL.agg (c := [_, _, _]) rfl (zt 0 rfl) ag112 sz112 rfl (z1 rfl)) ?_))))))))
  first | (subst_vars; rfl) | (simp [callM, pad, *] <;> rfl)
 refine W.seq (zr (zq (Q.bin rfl (oc (v := .str [99, 111, 117, 110, 116, 95, 111, 118, 101, 114, 95, 116, 105, 109, 101]) (by kernel_rfl)) rfl bv_seql) (za rfl (zk (W.cD rfl (fun hc23 => ?_) (fun hc23 => ?_))))))
 ·refine zw (W.condT rfl (zr (zq (Q.build pl112 (opc (zi 3) oPs_nil) rfl (cs := [_, _, _]) rfl) (WO.store sz112 rfl rfl (i := 0) rfl rfl (cs := [_, _, _]) rfl (hs' := [_]) rfl (za (zi 2) (zk (W.ret (End.Br (End.Kr (End.rV (ResL.agg (c := [_, _, _]) rfl (zt 0 rfl) ag112 sz112 rfl (z1 rfl)) ?_))))))))))
  first | (subst_vars; rfl) | (simp [callM, pad, *] <;> rfl)
 refine zr (zq (Q.bin rfl (oc (v := .str [115, 117, 109, 95, 111, 118, 101, 114, 95, 116, 105, 109, 101]) (by kernel_rfl)) rfl bv_seql) (za rfl (zk (W.cD rfl (fun hc23 => ?_) (fun hc23 => ?_)))))
 ·refine zw (W.condT rfl (zr (zq (Q.build pl112 (opc (zi 3) oPs_nil) rfl (cs := [_, _, _]) rfl) (WO.store sz112 rfl rfl (i := 0) rfl rfl (cs := [_, _, _]) rfl (hs' := [_]) rfl (za (zi 2) (zk (W.ret (End.Br (End.Kr (End.rV (ResL.agg (c := [_, _, _]) rfl (zt 0 rfl) ag112 sz112 rfl (z1 rfl)) ?_))))))))))
  first | (subst_vars; rfl) | (simp [callM, pad, *] <;> rfl)
 refine zr (zq (Q.bin rfl (oc (v := .str [97, 118, 103, 95, 111, 118, 101, 114, 95, 116, 105, 109, 101]) (by kernel_rfl)) rfl bv_seql) (za rfl (zk (W.cD rfl (fun hc23 => ?_) (fun hc23 => ?_)))))
 ·refine zw (W.condT rfl (zr (zq (Q.build pl112 (opc (zi 3) oPs_nil) rfl (cs := [_, _, _]) rfl) (WO.store sz112 rfl rfl (i := 0) rfl rfl (cs := [_, _, _]) rfl (hs' := [_]) rfl (za (zi 2) (zk (W.ret (End.Br (End.Kr (End.rV (ResL.agg (c := [_, _, _]) rfl (zt 0 rfl) ag112 sz112 rfl (z1 rfl)) ?_))))))))))
  first | (subst_vars; rfl) | (simp [callM, pad, *] <;> rfl)
 refine zr (zq (Q.bin rfl (oc (v := .str [109, 105, 110, 95, 111, 118, 101, 114, 95, 116, 105, 109, 101]) (by kernel_rfl)) rfl bv_seql) (za rfl (zk (W.cD rfl (fun hc23 => ?_) (fun hc23 => ?_)))))
 ·refine zw (W.condT rfl (zr (zq (Q.build pl112 (opc (zi 3) oPs_nil) rfl (cs := [_, _, _]) rfl) (WO.store sz112 rfl rfl (i := 0) rfl rfl (cs := [_, _, _]) rfl (hs' := [_]) rfl (za (zi 2) (zk (W.ret (End.Br (End.Kr (End.rV (ResL.agg (c := [_, _, _]) rfl (zt 0 rfl) ag112 sz112 rfl (z1 rfl)) ?_))))))))))
  first | (subst_vars; rfl) | (simp [callM, pad, *] <;> rfl)
 refine zr (zq (Q.bin rfl (oc (v := .str [109, 97, 120, 95, 111, 118, 101, 114, 95, 116, 105, 109, 101]) (by kernel_rfl)) rfl bv_seql) (za rfl (zk (W.cD rfl (fun hc23 => ?_) (fun hc23 => ?_)))))
 ·refine zw (W.condT rfl (zr (zq (Q.build pl112 (opc (zi 3) oPs_nil) rfl (cs := [_, _, _]) rfl) (WO.store sz112 rfl rfl (i := 0) rfl rfl (cs := [_, _, _]) rfl (hs' := [_]) rfl (za (zi 2) (zk (W.ret (End.Br (End.Kr (End.rV (ResL.agg (c := [_, _, _]) rfl (zt 0 rfl) ag112 sz112 rfl (z1 rfl)) ?_))))))))))
  first | (subst_vars; rfl) | (simp [callM, pad, *] <;> rfl)
 refine zr (zq (Q.bin rfl (oc (v := .str [108, 97, 115, 116, 95, 111, 118, 101, 114, 95, 116, 105, 109, 101]) (by kernel_rfl)) rfl bv_seql) (za rfl (zk (W.cD rfl (fun hc23 => ?_) (fun hc23 => ?_)))))
 ·refine zw (W.condT rfl (zr (zq (Q.build pl112 (opc (zi 3) oPs_nil) rfl (cs := [_, _, _]) rfl) (WO.store sz112 rfl rfl (i := 0) rfl rfl (cs := [_, _, _]) rfl (hs' := [_]) rfl (za (zi 2) (zk (W.ret (End.Br (End.Kr (End.rV (ResL.agg (c := [_, _, _]) rfl (zt 0 rfl) ag112 sz112 rfl (z1 rfl)) ?_))))))))))
  first | (subst_vars; rfl) | (simp [callM, pad, *] <;> rfl)
 refine zr (zq (Q.bin rfl (oc (v := .str [100, 101, 108, 116, 97]) (by kernel_rfl)) rfl bv_seql) (za rfl (zk (W.cD rfl (fun hc23 => ?_) (fun hc23 => ?_)))))
 ·refine zw (W.condT rfl (zr (zq (Q.build pl112 (opc (zi 3) oPs_nil) rfl (cs := [_, _, _]) rfl) (WO.store sz112 rfl rfl (i := 0) rfl rfl (cs := [_, _, _]) rfl (hs' := [_]) rfl (za (zi 2) (zk (W.ret (End.Br (End.Kr (End.rV (ResL.agg (c := [_, _, _]) rfl (zt 0 rfl) ag112 sz112 rfl (z1 rfl)) ?_))))))))))
  first | (subst_vars; rfl) | (simp [callM, pad, *] <;> rfl)
 refine zr (zq (Q.bin rfl (oc (v := .str [105, 110, 99, 114, 101, 97, 115, 101]) (by kernel_rfl)) rfl bv_seql) (za rfl (zk (W.cD rfl (fun hc23 => ?_) (fun hc23 => ?_)))))
 ·refine zw (W.condT rfl (zr (zq (Q.build pl112 (opc (zi 3) oPs_nil) rfl (cs := [_, _, _]) rfl) (WO.store sz112 rfl rfl (i := 0) rfl rfl (cs := [_, _, _]) rfl (hs' := [_]) rfl (za (zi 2) (zk (W.ret (End.Br (End.Kr (End.rV (ResL.agg (c := [_, _, _]) rfl (zt 0 rfl) ag112 sz112 rfl (z1 rfl)) ?_))))))))))
  first | (subst_vars; rfl) | (simp [callM, pad, *] <;> rfl)
 refine W.reg (zq (Q.bin rfl (oc (v := .str [114, 97, 116, 101]) (by kernel_rfl)) rfl bv_seql) (za rfl (zk (W.cD rfl (fun hc23 => ?_) (fun hc23 => ?_)))))
 ·refine zr (zq (Q.build pl112 (opc (zi 3) oPs_nil) rfl (cs := [_, _, _]) rfl) (WO.store sz112 rfl rfl (i := 0) rfl rfl (cs := [_, _, _]) rfl (hs' := [_]) rfl (za (zi 2) (zk (W.ret (End.Br (End.Kr (End.rV (ResL.agg (c := [_, _, _]) rfl (zt 0 rfl) ag112 sz112 rfl (z1 rfl)) ?_))))))))
  first | (subst_vars; rfl) | (simp [callM, pad, *] <;> rfl)
 refine W.skip (End.KB (End.K (zr (zq (Q.build pl112 oPs_nil rfl (cs := [_, _, _]) rfl) (WO.store sz112 rfl rfl (i := 0) rfl rfl (cs := [_, _, _]) rfl (hs' := [_]) rfl (za (zi 0) (zk (W.ret (End.rV (ResL.agg (c := [_, _, _]) rfl (zt 0 rfl) ag112 sz112 rfl (z1 rfl)) ?_)))))))))
 first | (subst_vars; rfl) | (simp [callM, pad, *] <;> rfl)

theorem in_spec (op : List Nat) (ho : Bytes op) (L : List (List Nat)) (n b : Nat) (ex : Bool) (hn : L.length = n) (hb : n ≤ 1048576) : Spec tab 73 [.str op, .slice b 0 n 1] [] [⟨b, ⟨1, ex, L.map AV.str⟩, false⟩] (Val (.bool (decide (op ∈ L)))) := by
 refine Spec.en (ftg 73 Tryz.func73) rfl (m := 18) rfl (rs := [.tmp 4]) rfl (st := [(0, .str op), (1, .slice b 0 n 1)]) rfl rfl (fun _ => rfl) (fun E => zr (za rfl (zk (W.seq (zr (za (zi 0) (zk (W.block (W.loop_ind (fun (i : Nat) => [(0, .str op), (1, .slice b 0 n 1), (5, .int .i64 ((i : Nat) : Int))]) (fun _ => _) (fun (i : Nat) => i ≤ n ∧ ∀ j, j < i → L.getD j [] ≠ op) (fun (i : Nat) => n - i) (0) ⟨Nat.zero_le _, fun j h => by omega⟩ zv (SubH.refl _) (fun i hI0 ih0 => ?_))))))))))
 obtain ⟨hil, hno⟩ := hI0
 refine W.seq (zr (zm rfl (zm rfl (zq (Q.len ud23 rfl rfl) (zq (Q.bin rfl rfl rfl (bvl ltn)) (zk (W.cD rfl (fun hc9 => ?_) (fun hc9 => ?_))))))))
 ·refine zw (W.seq (W.block (zr (zm rfl (zm rfl (zq (Q.iS ud23 sz9 rfl rfl zo) (zq (Q.l1 rfl (zt 0 rfl) ag9 (strs_at zo)) (zm rfl (zq (Q.bin rfl rfl rfl bv_seql) (zk (W.cD rfl (fun hc17 => ?_) (fun hc17 => ?_))))))))))))
  ·refine zr (za rfl (zk (W.ret (End.Br (End.Kr (End.Lr (End.Br (End.Kr (End.rV (z1 rfl) ?_)))))))))
   exact in_yes (i := i) zo hc17
  refine W.skip (End.KB (End.K (W.reg (zm rfl (zq (Q.bin rfl (zi 1) rfl zp) (za rfl (WO.nil (End.KL (W.sub zv (ih0 (i + 1) ?_ ?_))))))))))
  ·exact ⟨by omega, fun j h => by rcases Nat.lt_or_ge j i with g | g; exact hno j g; have hji : j = i := (by omega); rw [hji]; exact hc17⟩
  exact zo
 refine W.exit (End.Kx (End.Lx (End.Bh (End.K (zr (za rfl (zk (W.ret (End.rV (z1 rfl) ?_)))))))))
 exact in_no (fun j h => hno j (by omega))

theorem sets_spec (op : List Nat) (ho : Bytes op) : Spec tab 103 [.str op] [] [] (Val (.bool (decide (op ∈ ([[97, 110, 100], [111, 114], [117, 110, 108, 101, 115, 115]] : List (List Nat)))))) := by
 refine Spec.en (ftg 103 Tryz.func103) rfl (m := 6) rfl (rs := [.tmp 2]) rfl (st := [(0, .str op)]) rfl rfl (fun _ => rfl) (fun E => zr (za rfl (zk (zr (zm rfl (WO.bslice ud23 sz9 zr9 rfl (opc (oc (v := .str [97, 110, 100]) (by kernel_rfl)) (opc (oc (v := .str [111, 114]) (by kernel_rfl)) (opc (oc (v := .str [117, 110, 108, 101, 115, 115]) (by kernel_rfl)) oPs_nil))) rfl (cs := [_, _, _]) rfl rfl rfl (fun b1 => WO.cV rfl (oLc rfl (oLc rfl oz)) rfl (in_spec _ ho [[97, 110, 100], [111, 114], [117, 110, 108, 101, 115, 115]] _ _ _ rfl (by decide)) (SubR.one (zt 0 rfl)) rfl (za rfl (zk (W.ret (End.rV (z1 rfl) ?_)))))))))))
 rfl

theorem cmps_spec (op : List Nat) (ho : Bytes op) : Spec tab 104 [.str op] [] [] (Val (.bool (decide (op ∈ ([[61, 61], [33, 61], [60, 61], [62, 61], [60], [62]] : List (List Nat)))))) := by
 refine Spec.en (ftg 104 Tryz.func104) rfl (m := 6) rfl (rs := [.tmp 2]) rfl (st := [(0, .str op)]) rfl rfl (fun _ => rfl) (fun E => zr (za rfl (zk (zr (zm rfl (WO.bslice ud23 sz9 zr9 rfl (opc (oc (v := .str [61, 61]) (by kernel_rfl)) (opc (oc (v := .str [33, 61]) (by kernel_rfl)) (opc (oc (v := .str [60, 61]) (by kernel_rfl)) (opc (oc (v := .str [62, 61]) (by kernel_rfl)) (opc (oc (v := .str [60]) (by kernel_rfl)) (opc (oc (v := .str [62]) (by kernel_rfl)) oPs_nil)))))) rfl (cs := [_, _, _, _, _, _]) rfl rfl rfl (fun b1 => WO.cV rfl (oLc rfl (oLc rfl oz)) rfl (in_spec _ ho [[61, 61], [33, 61], [60, 61], [62, 61], [60], [62]] _ _ _ rfl (by decide)) (SubR.one (zt 0 rfl)) rfl (za rfl (zk (W.ret (End.rV (z1 rfl) ?_)))))))))))
 rfl

theorem nsame_spec (hs : HSt) (A B : List Nat) (va vb : AV) (ha : ISl hs A va) (hb : ISl hs B vb) (hA : A.length ≤ 1048576) (hB : B.length ≤ 1048576) : Spec tab 72 [va, vb] [] hs (Val (.bool (decide (A = B)))) := by
 refine Spec.en (ftg 72 Tryz.func72) rfl (m := 26) rfl (rs := [.tmp 4]) rfl (st := [(0, va), (1, vb)]) rfl rfl (fun _ => rfl) (fun E => zr (za rfl (zk (W.seq (zr (zm rfl (zq (Q.len ud40 rfl (isl_len ha)) (zm rfl (zq (Q.len ud40 rfl (isl_len hb)) (zq (Q.bin rfl rfl rfl (bv_neq ne_nat)) (zk (W.cD rfl (fun hc10 => ?_) (fun hc10 => ?_)))))))))))))
 ·refine zr (za rfl (zk (W.ret (End.Kr (End.rV (z1 rfl) ?_)))))
  exact ns_len hc10
 refine zw (W.seq (zr (za (zi 0) (zk (W.block (W.loop_ind (fun (i : Nat) => [(0, va), (1, vb), (5, .int .i64 ((i : Nat) : Int))]) (fun _ => _) (fun (i : Nat) => i ≤ A.length ∧ ∀ j, j < i → A.getD j 0 = B.getD j 0) (fun (i : Nat) => A.length - i) (0) ⟨Nat.zero_le _, fun j h => by omega⟩ zv (SubH.refl _) (fun i hI0 ih0 => ?_)))))))
 obtain ⟨hil, hno⟩ := hI0
 refine W.seq (zr (zm rfl (zm rfl (zq (Q.len ud40 rfl (isl_len ha)) (zq (Q.bin rfl rfl rfl (bvl ltn)) (zk (W.cD rfl (fun hc14 => ?_) (fun hc14 => ?_))))))))
 ·obtain ⟨ba, exa, rfl, wa, ma⟩ := isl_full ha (by omega)
  obtain ⟨bb, exb, rfl, wb, mb⟩ := isl_full hb (by omega)
  refine zw (W.seq (W.block (W.seq (W.regT (by kernel_rfl) (zm rfl (zm rfl (zq (Q.iS ud40 sz3 rfl rfl zo) (zq (Q.l1 rfl ma ag3 (ints_at zo)) (zm rfl (zm rfl (zq (Q.iS ud40 sz3 rfl rfl zo) (zq (Q.l1 rfl mb ag3 (ints_at zo)) (zq (Q.bin rfl rfl rfl (bv_neq ne_nat)) (zk (W.cD rfl (fun hc25 => ?_) (fun hc25 => ?_))))))))))))))))
  ·refine zr (za rfl (zk (W.sub (zc 4 rfl zzn) (W.ret (End.Br (End.Kr (End.Lr (End.Br (End.Kr (End.rV (z1 rfl) ?_))))))))))
   exact ns_no hc25
  refine W.skip (End.KB (End.K (W.reg (zm rfl (zq (Q.bin rfl (zi 1) rfl zp) (za rfl (WO.nil (End.KL (W.sub zv (ih0 (i + 1) ?_ ?_))))))))))
  ·exact ⟨by omega, fun j h => by rcases Nat.lt_or_ge j i with g | g; exact hno j g; have hji : j = i := (by omega); rw [hji]; exact Classical.byContradiction hc25⟩
  exact zo
 refine W.exit (End.Kx (End.Lx (End.Bh (End.K (zr (za rfl (zk (W.ret (End.rV (z1 rfl) ?_)))))))))
 exact ns_yes (by omega) (fun j h => hno j (by omega))
end Go.Proofs.YtndhhgbpcmfeiaaGreatDoor.Ev.P16
