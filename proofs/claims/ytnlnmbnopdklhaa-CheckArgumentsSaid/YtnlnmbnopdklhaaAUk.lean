/- CheckArguments: a call is right just with arguments of the types that its name takes. -/
import Derived.Test.YtnlnmbnopdklhaaAUj
namespace Go.Proofs.Ytnlnmbnopdklhaa.Ev
open Go.RowKit
set_option linter.unusedVariables false
set_option linter.unusedSimpArgs false
set_option maxRecDepth 100000
set_option maxHeartbeats 1000000
def nmsL : List (List Nat) := [[116, 105, 109, 101], [115, 99, 97, 108, 97, 114], [118, 101, 99, 116, 111, 114], [97, 98, 115], [99, 101, 105, 108], [102, 108, 111, 111, 114], [115, 103, 110], [99, 108, 97, 109, 112], [99, 111, 117, 110, 116, 95, 111, 118, 101, 114, 95, 116, 105, 109, 101], [115, 117, 109, 95, 111, 118, 101, 114, 95, 116, 105, 109, 101], [97, 118, 103, 95, 111, 118, 101, 114, 95, 116, 105, 109, 101], [109, 105, 110, 95, 111, 118, 101, 114, 95, 116, 105, 109, 101], [109, 97, 120, 95, 111, 118, 101, 114, 95, 116, 105, 109, 101], [108, 97, 115, 116, 95, 111, 118, 101, 114, 95, 116, 105, 109, 101], [100, 101, 108, 116, 97], [105, 110, 99, 114, 101, 97, 115, 101], [114, 97, 116, 101]]
theorem nm_at {i : Nat} {nm : List Nat} (h : i < 17) (e : nm = nmsL.getD i []) : (([[116, 105, 109, 101], [115, 99, 97, 108, 97, 114], [118, 101, 99, 116, 111, 114], [97, 98, 115], [99, 101, 105, 108], [102, 108, 111, 111, 114], [115, 103, 110], [99, 108, 97, 109, 112], [99, 111, 117, 110, 116, 95, 111, 118, 101, 114, 95, 116, 105, 109, 101], [115, 117, 109, 95, 111, 118, 101, 114, 95, 116, 105, 109, 101], [97, 118, 103, 95, 111, 118, 101, 114, 95, 116, 105, 109, 101], [109, 105, 110, 95, 111, 118, 101, 114, 95, 116, 105, 109, 101], [109, 97, 120, 95, 111, 118, 101, 114, 95, 116, 105, 109, 101], [108, 97, 115, 116, 95, 111, 118, 101, 114, 95, 116, 105, 109, 101], [100, 101, 108, 116, 97], [105, 110, 99, 114, 101, 97, 115, 101], [114, 97, 116, 101]] : List (List Nat)).map AV.str)[(0 + i) * 1]? = some (.str nm) := by
  subst e
  exact strs_at (L := nmsL) (by simpa [nmsL] using h)
theorem rem_nat (u : Nat) : Int.tmod ((u : Nat) : Int) ((17 : Nat) : Int) = ((u % 17 : Nat) : Int) := by
  rw [Int.tmod_eq_emod_of_nonneg (by omega)]; omega
/-- Numbers that come in. -/
def AIn (hs : HSt) (A : List Int) (va : AV) : Prop := (∀ e, lenA (.slice e) va = some A.length) ∧ (0 < A.length → ∃ b, va = .slice b 0 A.length 1 ∧ MemH hs b ⟨0, false, A.map (AV.int .i64)⟩)
theorem aint_at {A : List Int} {i : Nat} (h : i < A.length) : (A.map (AV.int .i64))[(0 + i) * 1]? = some (.int .i64 (A.getD i 0)) := by
  rw [Nat.zero_add, Nat.mul_one, List.getElem?_map, List.getD_eq_getElem?_getD, List.getElem?_eq_getElem h]; rfl
def kA (A : List Int) (i : Nat) : Nat := (A.getD i 0 % 8).toNat
theorem kA_eq (A : List Int) (i : Nat) : A.getD i 0 % 8 = ((kA A i : Nat) : Int) := by unfold kA; omega
theorem kA_lt (A : List Int) (i : Nat) : kA A i < 8 := by unfold kA; omega
def ksA (A : List Int) : List Nat := A.map fun a => (a % 8).toNat
theorem ks_len (A : List Int) : (ksA A).length = A.length := by simp [ksA]
theorem ks_map_len (A : List Int) : ((ksA A).map someT).length = A.length := by simp [ksA]
theorem ks_at {A : List Int} {i : Nat} (h : i < A.length) : (ksA A).getD i 0 = kA A i := by
  unfold ksA kA
  rw [List.getD_eq_getElem?_getD, List.getD_eq_getElem?_getD, List.getElem?_map, List.getElem?_eq_getElem h]; rfl
theorem ts_at {A : List Int} {i : Nat} (h : i < A.length) : ((ksA A).map someT).getD i 0 = someT (kA A i) := by
  unfold ksA kA
  rw [List.getD_eq_getElem?_getD, List.getD_eq_getElem?_getD, List.getElem?_map, List.getElem?_map, List.getElem?_eq_getElem h]; rfl
theorem someS_bytes (k : Nat) : Bytes (someS k) := by unfold someS Bytes; split <;> decide
theorem someS_len (k : Nat) : (someS k).length ≤ 6 := by unfold someS; split <;> decide
/-- Texts with commas between. -/
def joinS : List Nat → List Nat
  | [] => []
  | [k] => someS k
  | k :: k' :: ks => someS k ++ 44 :: 32 :: joinS (k' :: ks)
theorem join_arg : ∀ ks : List Nat, joinS ks ++ [41] = argS ks
  | [] => rfl
  | [k] => rfl
  | k :: k' :: ks => by
    show (someS k ++ 44 :: 32 :: joinS (k' :: ks)) ++ [41] = someS k ++ 44 :: 32 :: argS (k' :: ks)
    rw [← join_arg (k' :: ks), List.append_assoc]; rfl
theorem join_snoc : ∀ (ks : List Nat) (k : Nat), joinS (ks ++ [k]) = (if ks = [] then [] else joinS ks ++ [44, 32]) ++ someS k
  | [], k => rfl
  | [a], k => by
    show someS a ++ 44 :: 32 :: someS k = _
    rw [if_neg (by simp)]
    show _ = (someS a ++ [44, 32]) ++ someS k
    rw [List.append_assoc]; rfl
  | a :: b :: ks, k => by
    have ih := join_snoc (b :: ks) k
    rw [if_neg (by simp)] at ih ⊢
    show someS a ++ 44 :: 32 :: joinS ((b :: ks) ++ [k]) = ((someS a ++ 44 :: 32 :: joinS (b :: ks)) ++ [44, 32]) ++ someS k
    rw [ih]
    simp only [List.append_assoc, List.cons_append]
def pfx (nm : List Nat) (ks : List Nat) (i : Nat) : List Nat := nm ++ 40 :: joinS (ks.take i)
theorem pfx_zero {nm ks : List Nat} : pfx nm ks 0 = nm ++ [40] := by simp [pfx, joinS]
theorem pfx_succ {nm : List Nat} {A : List Int} {i : Nat} (h : i < (ksA A).length) : (if i = 0 then pfx nm (ksA A) i else pfx nm (ksA A) i ++ [44, 32]) ++ someS (kA A i) = pfx nm (ksA A) (i + 1) := by
  have e : (ksA A).take (i + 1) = (ksA A).take i ++ [kA A i] := by
    rw [List.take_add_one, List.getElem?_eq_getElem h]
    have := ks_at (A := A) (i := i) (by rw [ks_len] at h; exact h)
    rw [List.getD_eq_getElem?_getD, List.getElem?_eq_getElem h] at this
    simp only [Option.getD_some] at this
    rw [this]; rfl
  have ht : (ksA A).take i = [] ↔ i = 0 := by
    constructor
    · intro g
      have := congrArg List.length g
      simp only [List.length_take, List.length_nil] at this
      omega
    · rintro rfl; rfl
  unfold pfx
  rw [e, join_snoc]
  by_cases hi : i = 0
  · rw [if_pos hi, if_pos (ht.2 hi), ht.2 hi]
    simp [joinS]
  · rw [if_neg hi, if_neg (fun g => hi (ht.1 g))]
    simp only [List.append_assoc, List.cons_append]
theorem pfx_all {nm ks : List Nat} : pfx nm ks ks.length ++ [41] = callX nm ks := by
  unfold pfx callX
  rw [List.take_length, List.append_assoc, List.cons_append, join_arg]
/-- Are the first types alike, and the lists as long? -/
def Rg (T ts : List Nat) (i : Nat) : Prop := T.length = ts.length ∧ ∀ j, j < i → j < T.length ∧ T.getD j 0 = ts.getD j 0
theorem rg_zero {T : List Nat} {A : List Int} : decide (T.length = A.length) = true ↔ Rg T ((ksA A).map someT) 0 := by
  rw [decide_eq_true_iff]
  unfold Rg
  rw [ks_map_len]
  exact ⟨fun h => ⟨h, fun j hj => absurd hj (Nat.not_lt_zero _)⟩, fun h => h.1⟩
theorem rg_tt {T ts : List Nat} {i x : Nat} {rt : Bool} (hr : rt = true) (h : rt = true ↔ Rg T ts i) (hi : i < T.length) (hx : ts.getD i 0 = x) : decide (T.getD i 0 = x) = true ↔ Rg T ts (i + 1) := by
  rw [decide_eq_true_iff, ← hx]
  obtain ⟨g1, g2⟩ := h.1 hr
  constructor
  · intro e
    refine ⟨g1, fun j hj => ?_⟩
    rcases Nat.lt_or_ge j i with hji | hji
    · exact g2 j hji
    · have : j = i := by omega
      subst this
      exact ⟨hi, e⟩
  · exact fun g => (g.2 i (Nat.lt_succ_self i)).2
theorem rg_tf {T ts : List Nat} {i : Nat} (hi : ¬ i < T.length) : false = true ↔ Rg T ts (i + 1) := ⟨fun h => (by cases h), fun h => absurd (h.2 i (Nat.lt_succ_self i)).1 hi⟩
theorem rg_f {T ts : List Nat} {i : Nat} {rt : Bool} (hr : rt = false) (h : rt = true ↔ Rg T ts i) : false = true ↔ Rg T ts (i + 1) := ⟨fun h => (by cases h), fun g => (by
  have := h.2 ⟨g.1, fun j hj => g.2 j (by omega)⟩
  rw [hr] at this; exact this)⟩
theorem rg_all {T ts : List Nat} : Rg T ts ts.length ↔ T = ts := by
  constructor
  · rintro ⟨h1, h2⟩
    apply List.ext_getElem h1
    intro j hj hj'
    have := (h2 j hj').2
    rw [List.getD_eq_getElem?_getD, List.getD_eq_getElem?_getD, List.getElem?_eq_getElem hj, List.getElem?_eq_getElem hj'] at this
    simpa using this
  · rintro rfl
    exact ⟨rfl, fun j hj => ⟨hj, rfl⟩⟩
theorem kl_getD : ∀ (ts : List Nat) (n : Nat), n ≤ ts.length → kl (fun i => ts.getD i 0) n = ts.take n
  | ts, 0, _ => rfl
  | ts, n + 1, h => by
    rw [kl_succ, kl_getD ts n (by omega), List.take_add_one, List.getD_eq_getElem?_getD, List.getElem?_eq_getElem (by omega)]
    rfl
theorem call_is {nm ks : List Nat} (h0 : (callM nm).2 ≠ 0) : callT nm ks = if (callM nm).1 = ks.map someT then ((callM nm).2, 0) else (0, 16) := by
  obtain ⟨c1, c2⟩ := call_take nm
  have hts : ∀ x ∈ ks.map someT, 1 ≤ x := by
    intro x hx
    obtain ⟨k, _, rfl⟩ := List.mem_map.1 hx
    exact (someT_ok k).1
  unfold callT typeM
  rw [if_neg (fun h => h0 h.2), errM_zero (fun _ _ => rfl), if_neg (by simp), kl_getD _ _ (Nat.le_refl _), List.take_length]
  generalize ks.map someT = ts at *
  have hw : wholeM 3 nm 0 0 0 false ts = if (callM nm).1 = ts then (callM nm).2 else 0 := by
    have e : wholeM 3 nm 0 0 0 false ts = if ts.length ≤ 3 ∧ P3 (callM nm).1 ts then (callM nm).2 else 0 := rfl
    rw [e]
    by_cases h3 : ts.length ≤ 3
    · have hp := pad_inj c2 hts c1 h3
      by_cases ht : (callM nm).1 = ts
      · rw [if_pos ht, if_pos ⟨h3, hp.2 ht⟩]
      · rw [if_neg ht, if_neg (fun h => ht (hp.1 h.2))]
    · rw [if_neg (fun h => h3 h.1), if_neg (fun h => h3 (by rw [← h]; exact c1))]
  rw [hw]
  by_cases ht : (callM nm).1 = ts
  · rw [if_pos ht, if_neg h0, if_pos ht]
  · rw [if_neg ht, if_pos rfl, if_neg ht]
theorem call_yes {nm ks : List Nat} (h0 : (callM nm).2 ≠ 0) (h : (callM nm).1 = ks.map someT) : callT nm ks = ((callM nm).2, 0) := by rw [call_is h0, if_pos h]
theorem call_not {nm ks : List Nat} (h0 : (callM nm).2 ≠ 0) (h : (callM nm).1 ≠ ks.map someT) : callT nm ks = (0, 16) := by rw [call_is h0, if_neg h]
theorem ccall_x (op : List Nat) (ho : Bytes op) (h0 : (callM op).2 ≠ 0) : Spec tab 15 [.str op] [] [] (fun v D => ∃ vt, v = .tuple [vt, .int .i64 (((callM op).2 : Nat) : Int), .bool true] ∧ ISl D (callM op).1 vt ∧ (∀ e ∈ D, e.w = true)) := by
  have hT : (callM op).1 = [] ∨ (callM op).1 = [1] ∨ (callM op).1 = [2] ∨ (callM op).1 = [3] ∨ (callM op).1 = [2, 1, 1] := by
    unfold callM
    (repeat' split) <;> simp
  have hc := call_spec op ho
  rcases hT with e | e | e | e | e <;> rw [e] at hc ⊢
  · exact ccall_0 op ho _ h0 hc
  · exact ccall_1 op ho _ h0 hc
  · exact ccall_2 op ho _ h0 hc
  · exact ccall_3 op ho _ h0 hc
  · exact ccall_4 op ho _ h0 hc
theorem nms_ok {j : Nat} (h : j < 17) : NmOK (nmsL.getD j []) ∧ (callM (nmsL.getD j [])).2 ≠ 0 := by
  have : ∀ w : Fin 17, NmOK (nmsL.getD w.val []) ∧ (callM (nmsL.getD w.val [])).2 ≠ 0 := by
    unfold NmOK Bytes
    decide
  exact this ⟨j, h⟩
theorem args_spec (op : Int) (u : Nat) (hu : IntKind.u64.wrap op = (u : Int)) (nm : List Nat) (hnm : nm = nmsL.getD (u % 17) []) (hnb : Bytes nm) (hm : NmOK nm) (h0 : (callM nm).2 ≠ 0) (A : List Int) (hs : HSt) (hro : ∀ e ∈ hs, e.w = false) (va : AV) (hA : AIn hs A va) : Spec tab 8 [.int .i64 op, va] [] hs (Val (.bool true)) := by
 have hnl : nm.length ≤ 15 := hm.2.2.1
 refine Spec.enter' (ft_get 8 Try.func8) rfl (m := 114) rfl (rs := [.tmp 4]) rfl (st := [(0, .int .i64 op), (1, va)]) rfl rfl (fun _ => rfl) (fun E => zr (za rfl (zk (zr (WO.bslice ud23 sz9 zr9 rfl (oPs_cons (oc (v := .str [116, 105, 109, 101]) (by kernel_rfl)) (oPs_cons (oc (v := .str [115, 99, 97, 108, 97, 114]) (by kernel_rfl)) (oPs_cons (oc (v := .str [118, 101, 99, 116, 111, 114]) (by kernel_rfl)) (oPs_cons (oc (v := .str [97, 98, 115]) (by kernel_rfl)) (oPs_cons (oc (v := .str [99, 101, 105, 108]) (by kernel_rfl)) (oPs_cons (oc (v := .str [102, 108, 111, 111, 114]) (by kernel_rfl)) (oPs_cons (oc (v := .str [115, 103, 110]) (by kernel_rfl)) (oPs_cons (oc (v := .str [99, 108, 97, 109, 112]) (by kernel_rfl)) (oPs_cons (oc (v := .str [99, 111, 117, 110, 116, 95, 111, 118, 101, 114, 95, 116, 105, 109, 101]) (by kernel_rfl)) (oPs_cons (oc (v := .str [115, 117, 109, 95, 111, 118, 101, 114, 95, 116, 105, 109, 101]) (by kernel_rfl)) (oPs_cons (oc (v := .str [97, 118, 103, 95, 111, 118, 101, 114, 95, 116, 105, 109, 101]) (by kernel_rfl)) (oPs_cons (oc (v := .str [109, 105, 110, 95, 111, 118, 101, 114, 95, 116, 105, 109, 101]) (by kernel_rfl)) (oPs_cons (oc (v := .str [109, 97, 120, 95, 111, 118, 101, 114, 95, 116, 105, 109, 101]) (by kernel_rfl)) (oPs_cons (oc (v := .str [108, 97, 115, 116, 95, 111, 118, 101, 114, 95, 116, 105, 109, 101]) (by kernel_rfl)) (oPs_cons (oc (v := .str [100, 101, 108, 116, 97]) (by kernel_rfl)) (oPs_cons (oc (v := .str [105, 110, 99, 114, 101, 97, 115, 101]) (by kernel_rfl)) (oPs_cons (oc (v := .str [114, 97, 116, 101]) (by kernel_rfl)) oPs_nil))))))))))))))))) rfl (cs := [_, _, _, _, _, _, _, _, _, _, _, _, _, _, _, _, _]) rfl rfl rfl (fun b1 => za rfl (zk (zr (zm rfl (zm rfl (zq (Q.convI ud3 ud38 rfl hu) (zm rfl (zq (Q.len ud23 rfl rfl) (zq (Q.convI ud3 ud38 rfl (wru64 (by first | omega | (simp at * <;> omega)))) (zq (Q.bin rfl rfl rfl (bv_rem (by decide) (rem_nat u))) (zq (Q.convI ud38 ud3 rfl (wr64 (by first | omega | (simp at * <;> omega)))) (zq (Q.iaddrS ud23 sz9 rfl rfl (by first | omega | (simp at * <;> omega))) (zq (Q.load1 rfl (zt 0 rfl) ag9 (nm_at (by omega) hnm)) (za rfl (zk (W.sub (zc 6 rfl (zc 1 rfl zzn)) (W.seq (zr ?_)))))))))))))))))))))))
 refine zm rfl (zq (Q.len ud43 rfl (hA.1 _)) (zq (Q.bin rfl (zi 5) rfl (bv_gtr lt_nat)) (zk (W.condDS rfl (fun hc30 => ?_) (fun hc30 => ?_)))))
 · refine zr (WO.callV rfl oLs_nil rfl lives_spec SubR.nil rfl (za rfl (zk (W.ret (End.K_ret (End.retV (z1 rfl) ?_))))))
   rfl
 refine zw (zr (zm rfl (WO.call0 rfl (oLs_cons rfl oLs_nil) rfl (ccall_x nm hnb h0) SubR.nil rfl (fun v34 D34 hP34 => ?_))))
 obtain ⟨vt, rfl, hT, nwT⟩ := hP34
 refine WO.subH (hs' := _ :: (hs ++ D34)) (SubH.of_perm (perm_tail (N := []) (G := D34) (K := [_]) (X := hs))) (zm rfl (zq (Q.extract rfl rfl) (zq (Q.extract rfl rfl) (zq (Q.extract rfl rfl) (za rfl (za rfl (za rfl (zk (zr (zm rfl (zq (Q.len ud43 rfl (isl_len hT)) (zm rfl (zq (Q.len ud43 rfl (hA.1 _)) (zq (Q.bin rfl rfl rfl (bv_eql eq_nat)) (za rfl (zk (W.sub (zc 10 rfl (zc 9 rfl (zc 8 rfl (zc 7 rfl (zc 6 rfl (zc 1 rfl zzn)))))) (zr (zm rfl (zq (Q.bin rfl (oc (v := .str [40]) (by kernel_rfl)) rfl (bv_sadd (by first | omega | (simp at * <;> omega)))) (za rfl (zk (W.seq ?_)))))))))))))))))))))))
 refine zr (za (zi 0) (zk (W.block (W.loop_ind3 (fun (i : Nat) (s : List Nat) (rt : Bool) => [(1, va), (7, vt), (8, .int .i64 (((callM nm).2 : Nat) : Int)), (9, .bool true), (10, .bool rt), (11, .str s), (12, .int .i64 ((i : Nat) : Int))]) (fun (i : Nat) (s : List Nat) (rt : Bool) => (hs ++ D34)) (fun (i : Nat) (s : List Nat) (rt : Bool) => i ≤ A.length ∧ s = pfx nm (ksA A) i ∧ Bytes s ∧ s.length ≤ 16 + 8 * i ∧ (rt = true ↔ Rg (callM nm).1 ((ksA A).map someT) i)) (fun (i : Nat) (s : List Nat) (rt : Bool) => A.length - i) (0) (nm ++ [40]) (_) ⟨Nat.zero_le _, pfx_zero.symm, Bytes.append hnb (by unfold Bytes; decide), (by rw [List.length_append]; have := hm.2.2.1; simp; omega), rg_zero⟩ (zd rfl (zd rfl (zd rfl (zd rfl (zd rfl (zd rfl (zd rfl zzn))))))) gsn (fun i s rt hI0 ih0 => ?_)))))
 obtain ⟨g1, g2, hsb, g4, g5⟩ := hI0
 refine W.seq (zr (zm rfl (zm rfl (zq (Q.len ud43 rfl (hA.1 _)) (zq (Q.bin rfl rfl rfl (bv_lss lt_nat)) (zk (W.condDS rfl (fun hc48 => ?_) (fun hc48 => ?_))))))))
 · refine zw (W.seq (W.block (W.seqJ1 (fun (s2 : List Nat) => [(1, va), (7, vt), (8, .int .i64 (((callM nm).2 : Nat) : Int)), (9, .bool true), (10, .bool rt), (11, .str s2), (12, .int .i64 ((i : Nat) : Int))]) (fun (s2 : List Nat) => (hs ++ D34)) (fun (s2 : List Nat) => s2 = (if i = 0 then pfx nm (ksA A) i else pfx nm (ksA A) i ++ [44, 32]) ∧ Bytes s2 ∧ s2.length ≤ 18 + 8 * i) (fun s2 hI13 => ?_) (fun hJ13 => ?_))))
   · obtain ⟨k2, hsb2, k4⟩ := hI13
     obtain ⟨ba, rfl, wa, ma⟩ := hA.2 (by omega)
     have hsl := someS_len (kA A i)
     refine zr (zm rfl (zm rfl (zq (Q.iaddrS ud43 sz3 rfl rfl (by first | omega | (simp at * <;> omega))) (zq (Q.load1 rfl (List.mem_append_left _ ma) ag3 (aint_at (by omega))) (WO.callV rfl (oLs_cons rfl oLs_nil) rfl (some_x (A.getD i 0) (kA A i) (kA_eq A i) (kA_lt A i)) SubR.nil rfl (zm rfl (zq (Q.extract rfl rfl) (zq (Q.extract rfl rfl) (za rfl (za rfl (zk (zr (zm rfl (zm rfl (zq (Q.bin rfl rfl rfl (bv_sadd (by first | omega | (simp at * <;> omega)))) (za rfl (zk (W.reg (zm rfl (zm rfl (WO.split (d := 67) rfl (fun hc67 => ?_) (fun hc67 => ?_))))))))))))))))))))))
     · refine WO.gT rfl rfl (zm rfl (WO.gT rfl rfl (zm rfl (WO.gT rfl rfl (zq (Q.len ud43 rfl (isl_len hT)) (WO.gT rfl rfl (zq (Q.bin rfl rfl rfl (bv_lss lt_nat)) (zq (Q.pickT rfl rfl) (zm rfl (WO.splitD (d := 73) rfl (fun hc73 => ?_) (fun hc73 => ?_)))))))))))
       · obtain ⟨bt, ext, rfl, wt, mt⟩ := isl_full hT (by omega)
         refine WO.gT rfl rfl (zm rfl (WO.gT rfl rfl (zm rfl (WO.gT rfl rfl (zq (Q.iaddrS ud43 sz3 rfl rfl (by first | omega | (simp at * <;> omega))) (WO.gT rfl rfl (zq (Q.load1 rfl (List.mem_append_right _ mt) ag3 (ints_at (by omega))) (WO.gT rfl rfl (zm rfl (WO.gT rfl rfl (zq (Q.bin rfl rfl rfl (bv_eql eq_nat)) (zq (Q.pickT rfl rfl) (za rfl (WO.nil (End.KB (End.K (W.sub (zc 10 rfl (zc 11 rfl (zc 1 rfl (zc 7 rfl (zc 8 rfl (zc 9 rfl (zc 12 rfl zzn))))))) (W.reg (zm rfl (zq (Q.bin rfl (zi 1) rfl zp) (za rfl (WO.nil (End.KL (W.sub (zd rfl (zd rfl (zd rfl (zd rfl (zd rfl (zd rfl (zd rfl zzn))))))) (W.subH gsn (ih0 (i + 1) (_) (_) ?_ ?_))))))))))))))))))))))))))
         · exact ⟨by omega, (by rw [k2]; exact pfx_succ (by rw [ks_len]; omega)), Bytes.append hsb2 (someS_bytes _), (by rw [List.length_append]; have := someS_len (kA A i); omega), rg_tt hc67 g5 (by omega) (ts_at (by omega))⟩
         exact (by first | omega | (simp at * <;> omega))
       refine zg rfl rfl (zg rfl rfl (zg rfl rfl (zg rfl rfl (zg rfl rfl (zg rfl rfl (zq (Q.pickF rfl rfl) (za rfl (WO.nil (End.KB (End.K (W.sub (zc 10 rfl (zc 11 rfl (zc 1 rfl (zc 7 rfl (zc 8 rfl (zc 9 rfl (zc 12 rfl zzn))))))) (W.reg (zm rfl (zq (Q.bin rfl (zi 1) rfl zp) (za rfl (WO.nil (End.KL (W.sub (zd rfl (zd rfl (zd rfl (zd rfl (zd rfl (zd rfl (zd rfl zzn))))))) (W.subH gsn (ih0 (i + 1) (_) (_) ?_ ?_))))))))))))))))))))
       · exact ⟨by omega, (by rw [k2]; exact pfx_succ (by rw [ks_len]; omega)), Bytes.append hsb2 (someS_bytes _), (by rw [List.length_append]; have := someS_len (kA A i); omega), rg_tf (by omega)⟩
       exact (by first | omega | (simp at * <;> omega))
     refine zg rfl rfl (zg rfl rfl (zg rfl rfl (zg rfl rfl (zq (Q.pickF rfl rfl) (zm rfl (zg rfl rfl (zg rfl rfl (zg rfl rfl (zg rfl rfl (zg rfl rfl (zg rfl rfl (zq (Q.pickF rfl rfl) (za rfl (WO.nil (End.KB (End.K (W.sub (zc 10 rfl (zc 11 rfl (zc 1 rfl (zc 7 rfl (zc 8 rfl (zc 9 rfl (zc 12 rfl zzn))))))) (W.reg (zm rfl (zq (Q.bin rfl (zi 1) rfl zp) (za rfl (WO.nil (End.KL (W.sub (zd rfl (zd rfl (zd rfl (zd rfl (zd rfl (zd rfl (zd rfl zzn))))))) (W.subH gsn (ih0 (i + 1) (_) (_) ?_ ?_))))))))))))))))))))))))))
     · exact ⟨by omega, (by rw [k2]; exact pfx_succ (by rw [ks_len]; omega)), Bytes.append hsb2 (someS_bytes _), (by rw [List.length_append]; have := someS_len (kA A i); omega), rg_f hc67 g5⟩
     exact (by first | omega | (simp at * <;> omega))
   refine zr (zm rfl (zq (Q.bin rfl (zi 0) rfl (bv_gtr lt_nat)) (zk (W.condDS rfl (fun hc52 => ?_) (fun hc52 => ?_)))))
   · refine W.reg (zm rfl (zq (Q.bin rfl (oc (v := .str [44, 32]) (by kernel_rfl)) rfl (bv_sadd (by first | omega | (simp at * <;> omega)))) (za rfl (WO.nil (End.K (W.sub (zd rfl (zd rfl (zd rfl (zd rfl (zd rfl (zd rfl (zd rfl zzn))))))) (W.subH gsn (hJ13 (_) ?_))))))))
     exact ⟨by rw [if_neg (by omega), g2], Bytes.append hsb (by unfold Bytes; decide), (by rw [List.length_append]; show s.length + 2 ≤ _; omega)⟩
   refine W.skip (End.K (W.sub (zd rfl (zd rfl (zd rfl (zd rfl (zd rfl (zd rfl (zd rfl zzn))))))) (W.subH gsn (hJ13 (_) ?_))))
   exact ⟨by rw [if_pos (by omega), g2], hsb, by omega⟩
 have hie : i = A.length := (by omega)
 have htx : callX nm (ksA A) = s ++ [41] := (by rw [g2, hie, ← ks_len A, pfx_all])
 have hrg : rt = true ↔ (callM nm).1 = (ksA A).map someT := (by rw [g5, hie, ← ks_map_len A]; exact rg_all)
 refine W.exit (End.K_exit (End.KL_exit (End.KB_hit (End.K (zr (zm rfl (zq (Q.bin rfl (oc (v := .str [41]) (by kernel_rfl)) rfl (bv_sadd (by first | omega | (simp at * <;> omega)))) (WO.callV rfl (oLs_cons rfl oLs_nil) rfl (htx ▸ call_typed hm (by rw [ks_len]; omega)) SubR.nil rfl (zm rfl (zq (Q.extract rfl rfl) (zq (Q.extract rfl rfl) (za rfl (za rfl (zk (W.sub (zc 16 rfl (zc 15 rfl (zc 8 rfl (zc 9 rfl (zc 10 rfl zzn))))) (W.seq (zr (zm rfl (zq (Q.not rfl rfl) (zk (W.condS rfl (fun hc88 => ?_) (fun hc88 => ?_))))))))))))))))))))))
 · have hct : callT nm (ksA A) = (0, 16) := call_not h0 (fun e => by rw [hrg.2 e] at hc88; cases hc88)
   refine zr (zm rfl (zm rfl (WO.gT rfl rfl (zm rfl (WO.gT rfl rfl (zq (Q.bin rfl (zi 0) rfl (bv_eql eq_nat)) (zq (Q.pickT rfl rfl) (zm rfl (WO.splitD (d := 94) rfl (fun hc94 => ?_) (fun hc94 => ?_))))))))))
   · refine WO.gT rfl rfl (zm rfl (WO.gT rfl rfl (zq (Q.bin rfl (zi 16) rfl (bv_eql eq_nat)) (zq (Q.pickT rfl rfl) (zm rfl (WO.splitD (d := 98) rfl (fun hc98 => ?_) (fun hc98 => ?_)))))))
     · refine WO.gT rfl rfl (WO.callV rfl oLs_nil rfl lives_spec SubR.nil rfl (zq (Q.pickT rfl rfl) (za rfl (zk (W.sub (zc 4 rfl zzn) (W.ret (End.K_ret (End.retV (z1 rfl) ?_))))))))
       rfl
     exact absurd (congrArg Prod.snd hct) hc98
   exact absurd (congrArg Prod.fst hct) hc94
 have hct : callT nm (ksA A) = ((callM nm).2, 0) := call_yes h0 (hrg.1 (by simpa using hc88))
 refine zw (zr (zm rfl (zm rfl (WO.gT rfl rfl (zm rfl (WO.gT rfl rfl (zm rfl (WO.gT rfl rfl (zq (Q.bin rfl rfl rfl (bv_eql eq_nat)) (zq (Q.pickT rfl rfl) (zm rfl (WO.splitD (d := 107) rfl (fun hc107 => ?_) (fun hc107 => ?_)))))))))))))
 · refine WO.gT rfl rfl (zm rfl (WO.gT rfl rfl (zq (Q.bin rfl (zi 0) rfl (bv_eql eq_nat)) (zq (Q.pickT rfl rfl) (zm rfl (WO.splitD (d := 111) rfl (fun hc111 => ?_) (fun hc111 => ?_)))))))
   · refine WO.gT rfl rfl (WO.callV rfl oLs_nil rfl lives_spec SubR.nil rfl (zq (Q.pickT rfl rfl) (za rfl (zk (W.sub (zc 4 rfl zzn) (W.ret (End.retV (z1 rfl) ?_)))))))
     rfl
   exact absurd (congrArg Prod.snd hct) hc111
 exact absurd (congrArg Prod.fst hct) hc107
end Go.Proofs.Ytnlnmbnopdklhaa.Ev
