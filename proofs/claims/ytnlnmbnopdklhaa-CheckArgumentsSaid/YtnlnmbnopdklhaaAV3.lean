/- Chapter 17, walks: types. -/
import Derived.Test.YtnlnmbnopdklhaaAV2
import Derived.Test.YtnlnmbnopdklhaaANod
namespace Go.Proofs.Ytnlnmbnopdklhaa.Ev
open Go.RowKit
set_option linter.unusedVariables false
set_option linter.unusedSimpArgs false
set_option maxRecDepth 100000
set_option maxHeartbeats 1000000
theorem isl_cells {hs0 hs : HSt} {A : List Nat} {v : AV} (h : ISl hs0 A v) (hm : ∀ b o, MemH hs0 b o → MemH hs b o) : ∀ hp, KeepIn hs hp → cellsOfA hp.objs 1 v = some (A.length, ints A) := by
  intro hp hk
  rcases h with ⟨rfl, rfl⟩ | ⟨b, ex, rfl, hmem⟩
  · rfl
  · obtain ⟨w, hw⟩ := hm _ _ hmem
    exact cellsOf_slice (hk _ hw) (by rw [Nat.zero_mul]; exact sub_all (by simp [ints]))
theorem lay_pad {A : List Nat} : layL [.int .i64 0, .int .i64 0, .int .i64 0] (0 * 1) ((ints A).take (min A.length 3 * 1)) = pad A := by
  match A with
  | [] => rfl
  | [a] => rfl
  | [a, b] => rfl
  | a :: b :: c :: r =>
    have e : min (a :: b :: c :: r).length 3 * 1 = 3 := by simp only [List.length_cons]; omega
    rw [e]
    rfl
def P3 (X A : List Nat) : Prop := X.getD 0 0 = A.getD 0 0 ∧ X.getD 1 0 = A.getD 1 0 ∧ X.getD 2 0 = A.getD 2 0
instance (X A : List Nat) : Decidable (P3 X A) := by unfold P3; infer_instance
/-- A node's type by those of its parts; 0: it has none. -/
def wholeM (k : Int) (op : List Nat) (rg md sd : Int) (bl : Bool) (A : List Nat) : Nat :=
  if k = 1 then 1 else if k = 2 then (if 0 < rg then 3 else 2)
  else if k = 3 then (if A.length ≤ 3 ∧ P3 (callM op).1 A then (callM op).2 else 0)
  else if k = 4 then (if A.length ≤ 3 ∧ P3 (if op = [116, 111, 112, 107] ∨ op = [98, 111, 116, 116, 111, 109, 107] then [1, 2] else [2]) A then 2 else 0)
  else if k = 5 then (if A.length = 2 then operM op md sd bl (A.getD 0 0) (A.getD 1 0) else 0)
  else if k = 6 then (if A.length = 1 ∧ ¬ A.getD 0 0 = 3 then A.getD 0 0 else 0)
  else 0
theorem ty_at {A : List Nat} (h : ∀ x ∈ A, 1 ≤ x ∧ x ≤ 3) {i : Nat} (hi : i < A.length) : 1 ≤ A.getD i 0 ∧ A.getD i 0 ≤ 3 := by
  rw [List.getD_eq_getElem?_getD, List.getElem?_eq_getElem hi]
  exact h _ (List.getElem_mem hi)
theorem et60 : tab.et.get 60 = some true := by kernel_rfl
theorem eq_flat {tb : Tab} {d t : Nat} {k1 k2 : IntKind} {a b : Int} (hu : tb.und t = some (.int k1)) : eqIn tb (d + 1) t (.int k2 a) (.int k2 b) = some (eqA a b) := by
  unfold eqIn
  simp only [hu, if_pos]
theorem part_flat {tb : Tab} {t : Nat} {cs : List AV} {o : Nat} {v : AV} (ha : tb.isAgg t = some false) (hc : cs[o]? = some v) : partA tb t cs o = some v := by
  unfold partA; simp only [ha, hc]
theorem eq_elem {tb : Tab} {rec_ : Nat → AV → AV → Option Bool} {e m i k : Nat} {xs ys : List AV} {a b : AV} {p q : Bool} (hx : partA tb e xs (i * m) = some a) (hy : partA tb e ys (i * m) = some b) (hr : rec_ e a b = some p)
    (hf : eqElemsA tb rec_ e m xs ys (i + 1) k = some q) : eqElemsA tb rec_ e m xs ys i (k + 1) = some (p && q) := by
  conv => lhs; unfold eqElemsA
  simp only [hx, hy, hr]
  cases p
  · rfl
  · simpa using hf
theorem takes_eq {a b c a' b' c' : Int} : evBin tab .eql 60 (.agg [.int .i64 a, .int .i64 b, .int .i64 c]) (.agg [.int .i64 a', .int .i64 b', .int .i64 c']) = some (.bool (eqA a a' && (eqA b b' && (eqA c c' && true)))) := by
  have h : eqTop tab 60 (.agg [.int .i64 a, .int .i64 b, .int .i64 c]) (.agg [.int .i64 a', .int .i64 b', .int .i64 c']) = some (eqA a a' && (eqA b b' && (eqA c c' && true))) := by
    unfold eqTop
    simp only [et60]
    unfold eqIn
    simp only [ud60, sz3]
    refine eq_elem (part_flat ag3 rfl) (part_flat ag3 rfl) (eq_flat ud3) ?_
    refine eq_elem (part_flat ag3 rfl) (part_flat ag3 rfl) (eq_flat ud3) ?_
    exact eq_elem (part_flat ag3 rfl) (part_flat ag3 rfl) (eq_flat ud3) rfl
  show (match eqTop tab 60 _ _ with | some b => some (AV.bool b) | none => none) = _
  rw [h]
/-- Likeness of padded lists. -/
theorem pad_eq {A B : List Nat} : evBin tab .eql 60 (.agg (pad A)) (.agg (pad B)) = some (.bool (decide (A.getD 0 0 = B.getD 0 0 ∧ A.getD 1 0 = B.getD 1 0 ∧ A.getD 2 0 = B.getD 2 0))) := by
  have h := takes_eq (a := ((A.getD 0 0 : Nat) : Int)) (b := ((A.getD 1 0 : Nat) : Int)) (c := ((A.getD 2 0 : Nat) : Int)) (a' := ((B.getD 0 0 : Nat) : Int)) (b' := ((B.getD 1 0 : Nat) : Int)) (c' := ((B.getD 2 0 : Nat) : Int))
  show evBin tab .eql 60 (.agg [_, _, _]) (.agg [_, _, _]) = _
  rw [h]
  congr 2
  rw [eq_int, eq_int, eq_int, Bool.eq_iff_iff]
  simp only [Bool.and_true, Bool.and_eq_true, decide_eq_true_eq, Int.ofNat_inj]
/-- Lists of types (1 to 3) that are alike when padded are alike. -/
theorem pad_inj {A B : List Nat} (ha : ∀ x ∈ A, 1 ≤ x) (hb : ∀ x ∈ B, 1 ≤ x) (h3 : A.length ≤ 3) (h3' : B.length ≤ 3) : (A.getD 0 0 = B.getD 0 0 ∧ A.getD 1 0 = B.getD 1 0 ∧ A.getD 2 0 = B.getD 2 0) ↔ A = B := by
  constructor
  · rintro ⟨h0, h1, h2⟩
    match A, B with
    | [], [] => rfl
    | [], b :: _ => have := hb b (by simp); simp at h0; omega
    | a :: _, [] => have := ha a (by simp); simp at h0; omega
    | [a], [b] => simp at h0; rw [h0]
    | [a], b :: c :: _ => have := hb c (by simp); simp at h1; omega
    | a :: c :: _, [b] => have := ha c (by simp); simp at h1; omega
    | [a, b], [c, d] => simp at h0 h1; rw [h0, h1]
    | [a, b], c :: d :: e :: _ => have := hb e (by simp); simp at h2; omega
    | a :: b :: e :: _, [c, d] => have := ha e (by simp); simp at h2; omega
    | [a, b, c], [a', b', c'] => simp at h0 h1 h2; rw [h0, h1, h2]
    | a :: b :: c :: x :: _, _ => simp at h3
    | _, a :: b :: c :: x :: _ => simp at h3'
  · rintro rfl
    exact ⟨rfl, rfl, rfl⟩
theorem of_spec (hs : HSt) (A : List Nat) (va : AV) (hA : ISl hs A va) (hl : A.length ≤ 1048576) : Spec tab 35 [va] [] hs (Val (.tuple [.agg (pad A), .bool (decide (A.length ≤ 3))])) := by
 refine Spec.enter' (ft_get 35 Try.func35) rfl (m := 12) rfl (rs := [.cell 2 60, .tmp 3]) rfl (st := [(0, va)]) rfl rfl (fun _ => rfl) (fun E => zr (WO.alloc ao60 rfl (fun b1 => za rfl (zk (zr (WO.alloc ao60 rfl (fun b2 => zk (zr (zq (Q.sliceA ud60 sz3 rfl (zt 0 rfl) rfl) (zm rfl (WO.copy ud43 sz3 rfl rfl (isl_cells hA (fun _ _ m => m.tl.tl)) (i := 0) rfl rfl lay_pad (hs' := _ :: _ :: _) rfl rfl (zk (zr (zq (Q.loadN rfl (zt 0 rfl) ag60 sz60 (l := [_, _, _]) rfl) (zm rfl (zq (Q.len ud43 rfl (isl_len hA)) (zq (Q.bin rfl (zi 3) rfl (bv_leq le_nat)) (WO.store sz60 rfl rfl (i := 1) rfl rfl (cs := [_, _, _]) rfl (hs' := _ :: _ :: _) rfl (za rfl (zk (W.ret (End.retV (ResL.agg (c := [_, _, _]) rfl (zt 1 rfl) ag60 sz60 rfl (z1 rfl)) ?_))))))))))))))))))))))
 rfl

theorem whole_spec (k : Int) (op : List Nat) (ho : Bytes op) (n : Int) (ms : AV) (rg off md : Int) (nm : AV) (sd : Int) (bl : Bool) (kd : AV) (hms : ms.isCell = true) (hnm : nm.isCell = true) (hkd : kd.isCell = true) (hs : HSt) (A : List Nat) (va : AV) (hA : ISl hs A va) (hl : A.length ≤ 1048576) (hro : ∀ e ∈ hs, e.w = false) (hT : ∀ x ∈ A, 1 ≤ x ∧ x ≤ 3) : Spec tab 24 [.agg (nodeC k op n ms rg off md nm sd bl kd), va] [] hs (Val (.int .i64 ((wholeM k op rg md sd bl A : Nat) : Int))) := by
 refine Spec.enter' (ft_get 24 Try.func24) rfl (m := 84) rfl (rs := [.tmp 4]) rfl (st := [(0, .agg (nodeC k op n ms rg off md nm sd bl kd)), (1, va)]) rfl rfl (fun _ => rfl) (fun E => zr (WO.box rfl (node_cells hms hnm hkd) (bx26 _ rfl) rfl (fun b1 => za (zi 0) (zk (zr (zm rfl (WO.callV rfl (oLs_cons rfl oLs_nil) rfl (of_spec hs A _ hA hl) (SubR.tl (SubR.self hro)) rfl (zm rfl (zq (Q.extract rfl rfl) (zq (Q.extract rfl rfl) (WO.alloc ao60 rfl (fun b2 => WO.store sz60 rfl rfl (i := 0) rfl rfl (cs := [_, _, _]) rfl (hs' := _ :: _ :: _) rfl (za rfl (zk (W.seq (zr (zf fa26_0 rfl 0 (zq (Q.load1 rfl (zt 1 rfl) ag3 rfl) (zk (W.block (zr (zq (Q.bin rfl (zi 1) rfl (bv_eql eq_int)) (za rfl ?_)))))))))))))))))))))))
 refine zk (W.condDS rfl (fun hc17 => ?_) (fun hc17 => ?_))
 · refine zr (za (zi 1) (zk (W.sub (zc 4 rfl zzn) (W.ret (End.KB_ret (End.K_ret (End.retV (z1 rfl) ?_)))))))
   (simp only [oneOf]; congr 1; unfold wholeM P3; (repeat' split) <;> first | rfl | omega | grind)
 refine zr (zq (Q.bin rfl (zi 2) rfl (bv_eql eq_int)) (za rfl (zk (W.condDS rfl (fun hc19 => ?_) (fun hc19 => ?_)))))
 · refine W.seq (zr (zf fa26_4 rfl 4 (zq (Q.load1 rfl (zt 1 rfl) ag3 rfl) (zq (Q.bin rfl (zi 0) rfl (bv_gtr (ltA_eq _ _))) (zk (W.sub (zc 23 rfl zzn) (W.condDS rfl (fun hc23 => ?_) (fun hc23 => ?_))))))))
   · refine zr (za (zi 3) (zk (W.ret (End.K_ret (End.KB_ret (End.K_ret (End.retV (z1 rfl) ?_)))))))
     (simp only [oneOf]; congr 1; unfold wholeM P3; (repeat' split) <;> first | rfl | omega | grind)
   refine zw (zr (za (zi 2) (zk (W.ret (End.KB_ret (End.K_ret (End.retV (z1 rfl) ?_)))))))
   (simp only [oneOf]; congr 1; unfold wholeM P3; (repeat' split) <;> first | rfl | omega | grind)
 refine zr (zq (Q.bin rfl (zi 3) rfl (bv_eql eq_int)) (za rfl (zk (W.condDS rfl (fun hc24 => ?_) (fun hc24 => ?_)))))
 · refine zr (zf fa26_1 rfl 1 (zq (Q.load1 rfl (zt 1 rfl) ag9 rfl) (WO.callV rfl (oLs_cons rfl oLs_nil) rfl (call_spec _ ho) SubR.nil rfl (zm rfl (zq (Q.extract rfl rfl) (zq (Q.extract rfl rfl) (WO.alloc ao60 rfl (fun b3 => WO.store sz60 rfl rfl (i := 0) rfl rfl (cs := [_, _, _]) rfl (hs' := _ :: _ :: _ :: _) rfl (za rfl (zk (W.sub (zc 8 rfl (zc 7 rfl (zc 6 rfl (zc 5 rfl zzn)))) (zr (zm rfl (zm rfl (WO.splitD (d := 33) rfl (fun hc33 => ?_) (fun hc33 => ?_))))))))))))))))
   · refine WO.gT rfl rfl (zq (Q.loadN rfl (zt 0 rfl) ag60 sz60 (l := [_, _, _]) rfl) (WO.gT rfl rfl (zq (Q.loadN rfl (zt 1 rfl) ag60 sz60 (l := [_, _, _]) rfl) (WO.gT rfl rfl (zq (Q.bin rfl rfl rfl (pad_eq (A := (callM op).1) (B := A))) (zq (Q.pickT rfl rfl) (zk (W.condDS rfl (fun hc37 => ?_) (fun hc37 => ?_)))))))))
     · refine zr (zm rfl (za rfl (zk (W.ret (End.KB_ret (End.K_ret (End.retV (z1 rfl) ?_)))))))
       (simp only [oneOf]; congr 1; unfold wholeM P3; (repeat' split) <;> first | rfl | omega | grind)
     refine W.skip (End.KB (End.K (zr (za (zi 0) (zk (W.ret (End.retV (z1 rfl) ?_)))))))
     (simp only [oneOf]; congr 1; unfold wholeM P3; (repeat' split) <;> first | rfl | omega | grind)
   refine zg rfl rfl (zg rfl rfl (zg rfl rfl (zq (Q.pickF rfl rfl) (zk (W.condF rfl (W.skip (End.KB (End.K (zr (za (zi 0) (zk (W.ret (End.retV (z1 rfl) ?_)))))))))))))
   (simp only [oneOf]; congr 1; unfold wholeM P3; (repeat' split) <;> first | rfl | omega | grind)
 refine zr (zq (Q.bin rfl (zi 4) rfl (bv_eql eq_int)) (za rfl (zk (W.sub (zc 39 rfl (zc 16 rfl (zc 6 rfl (zc 5 rfl (zc 2 rfl (zc 1 rfl zzn)))))) (W.condDS rfl (fun hc39 => ?_) (fun hc39 => ?_))))))
 · refine zr (zq (Q.build pl60 (oPs_cons (zi 2) oPs_nil) rfl (cs := [_, _, _]) rfl) (WO.alloc ao60 rfl (fun b4 => WO.store sz60 rfl rfl (i := 0) rfl rfl (cs := [_, _, _]) rfl (hs' := _ :: _ :: _ :: _) rfl (zk (W.seq (zr (zf fa26_1 rfl 1 (zq (Q.load1 rfl (zt 2 rfl) ag9 rfl) (zq (Q.bin rfl (oc (v := .str [116, 111, 112, 107]) (by kernel_rfl)) rfl bv_seql) (zm rfl (WO.splitD (d := 45) rfl (fun hc45 => ?_) (fun hc45 => ?_))))))))))))
   · refine zg rfl rfl (zg rfl rfl (zg rfl rfl (zq (Q.pickT rfl rfl) (zk (W.condT rfl (W.reg (zq (Q.build pl60 (oPs_cons (zi 1) (oPs_cons (zi 2) oPs_nil)) rfl (cs := [_, _, _]) rfl) (WO.store sz60 rfl rfl (i := 0) rfl rfl (cs := [_, _, _]) rfl (hs' := _ :: _ :: _ :: _) rfl (zk (W.sub (zc 9 rfl (zc 6 rfl (zc 5 rfl zzn))) (zr (zm rfl (zm rfl (WO.splitD (d := 52) rfl (fun hc52 => ?_) (fun hc52 => ?_)))))))))))))))
     · refine WO.gT rfl rfl (zq (Q.loadN rfl (zt 0 rfl) ag60 sz60 (l := [_, _, _]) rfl) (WO.gT rfl rfl (zq (Q.loadN rfl (zt 1 rfl) ag60 sz60 (l := [_, _, _]) rfl) (WO.gT rfl rfl (zq (Q.bin rfl rfl rfl (pad_eq (A := [1, 2]) (B := A))) (zq (Q.pickT rfl rfl) (zk (W.condDS rfl (fun hc56 => ?_) (fun hc56 => ?_)))))))))
       · refine zr (za (zi 2) (zk (W.ret (End.KB_ret (End.K_ret (End.retV (z1 rfl) ?_))))))
         (simp only [oneOf]; congr 1; unfold wholeM P3; (repeat' split) <;> first | rfl | omega | grind)
       refine W.skip (End.KB (End.K (zr (za (zi 0) (zk (W.ret (End.retV (z1 rfl) ?_)))))))
       (simp only [oneOf]; congr 1; unfold wholeM P3; (repeat' split) <;> first | rfl | omega | grind)
     refine zg rfl rfl (zg rfl rfl (zg rfl rfl (zq (Q.pickF rfl rfl) (zk (W.condF rfl (W.skip (End.KB (End.K (zr (za (zi 0) (zk (W.ret (End.retV (z1 rfl) ?_)))))))))))))
     (simp only [oneOf]; congr 1; unfold wholeM P3; (repeat' split) <;> first | rfl | omega | grind)
   refine WO.gT rfl rfl (zf fa26_1 rfl 1 (WO.gT rfl rfl (zq (Q.load1 rfl (zt 2 rfl) ag9 rfl) (WO.gT rfl rfl (zq (Q.bin rfl (oc (v := .str [98, 111, 116, 116, 111, 109, 107]) (by kernel_rfl)) rfl bv_seql) (zq (Q.pickF rfl rfl) (zk (W.condDS rfl (fun hc49 => ?_) (fun hc49 => ?_)))))))))
   · refine W.reg (zq (Q.build pl60 (oPs_cons (zi 1) (oPs_cons (zi 2) oPs_nil)) rfl (cs := [_, _, _]) rfl) (WO.store sz60 rfl rfl (i := 0) rfl rfl (cs := [_, _, _]) rfl (hs' := _ :: _ :: _ :: _) rfl (zk (W.sub (zc 9 rfl (zc 6 rfl (zc 5 rfl zzn))) (zr (zm rfl (zm rfl (WO.splitD (d := 52) rfl (fun hc52 => ?_) (fun hc52 => ?_)))))))))
     · refine WO.gT rfl rfl (zq (Q.loadN rfl (zt 0 rfl) ag60 sz60 (l := [_, _, _]) rfl) (WO.gT rfl rfl (zq (Q.loadN rfl (zt 1 rfl) ag60 sz60 (l := [_, _, _]) rfl) (WO.gT rfl rfl (zq (Q.bin rfl rfl rfl (pad_eq (A := [1, 2]) (B := A))) (zq (Q.pickT rfl rfl) (zk (W.condDS rfl (fun hc56 => ?_) (fun hc56 => ?_)))))))))
       · refine zr (za (zi 2) (zk (W.ret (End.KB_ret (End.K_ret (End.retV (z1 rfl) ?_))))))
         (simp only [oneOf]; congr 1; unfold wholeM P3; (repeat' split) <;> first | rfl | omega | grind)
       refine W.skip (End.KB (End.K (zr (za (zi 0) (zk (W.ret (End.retV (z1 rfl) ?_)))))))
       (simp only [oneOf]; congr 1; unfold wholeM P3; (repeat' split) <;> first | rfl | omega | grind)
     refine zg rfl rfl (zg rfl rfl (zg rfl rfl (zq (Q.pickF rfl rfl) (zk (W.condF rfl (W.skip (End.KB (End.K (zr (za (zi 0) (zk (W.ret (End.retV (z1 rfl) ?_)))))))))))))
     (simp only [oneOf]; congr 1; unfold wholeM P3; (repeat' split) <;> first | rfl | omega | grind)
   refine zw (zr (zm rfl (zm rfl (WO.splitD (d := 52) rfl (fun hc52 => ?_) (fun hc52 => ?_)))))
   · refine WO.gT rfl rfl (zq (Q.loadN rfl (zt 0 rfl) ag60 sz60 (l := [_, _, _]) rfl) (WO.gT rfl rfl (zq (Q.loadN rfl (zt 1 rfl) ag60 sz60 (l := [_, _, _]) rfl) (WO.gT rfl rfl (zq (Q.bin rfl rfl rfl (pad_eq (A := [2]) (B := A))) (zq (Q.pickT rfl rfl) (zk (W.sub (zc 56 rfl zzn) (W.condDS rfl (fun hc56 => ?_) (fun hc56 => ?_))))))))))
     · refine zr (za (zi 2) (zk (W.ret (End.KB_ret (End.K_ret (End.retV (z1 rfl) ?_))))))
       (simp only [oneOf]; congr 1; unfold wholeM P3; (repeat' split) <;> first | rfl | omega | grind)
     refine W.skip (End.KB (End.K (zr (za (zi 0) (zk (W.ret (End.retV (z1 rfl) ?_)))))))
     (simp only [oneOf]; congr 1; unfold wholeM P3; (repeat' split) <;> first | rfl | omega | grind)
   refine zg rfl rfl (zg rfl rfl (zg rfl rfl (zq (Q.pickF rfl rfl) (zk (W.sub (zc 56 rfl zzn) (W.condF rfl (W.skip (End.KB (End.K (zr (za (zi 0) (zk (W.ret (End.retV (z1 rfl) ?_))))))))))))))
   (simp only [oneOf]; congr 1; unfold wholeM P3; (repeat' split) <;> first | rfl | omega | grind)
 refine zr (zq (Q.bin rfl (zi 5) rfl (bv_eql eq_int)) (za rfl (zk (W.condDS rfl (fun hc57 => ?_) (fun hc57 => ?_)))))
 · refine zr (zm rfl (zq (Q.len ud43 rfl (isl_len hA)) (zq (Q.bin rfl (zi 2) rfl (bv_eql eq_nat)) (zk (W.condDS rfl (fun hc61 => ?_) (fun hc61 => ?_))))))
   · obtain ⟨ba, exa, rfl, wa, ma⟩ := isl_full hA (by omega)
     refine W.seq (W.regT (by kernel_rfl) (zq (Q.loadN rfl (zt 1 rfl) ag26 sz26 (l := [_, _, _, _, _, _, _, _, _, _, _]) rfl) (zm rfl (zq (Q.iaddrL ud43 sz3 rfl (zi 0) (by first | omega | (simp at * <;> omega)) (o' := 0) rfl) (zq (Q.load1 rfl (List.mem_cons_of_mem _ (List.mem_cons_of_mem _ ma)) ag3 (ints_at (i := 0) (by first | omega | (simp at * <;> omega)))) (zm rfl (zq (Q.iaddrL ud43 sz3 rfl (zi 1) (by first | omega | (simp at * <;> omega)) (o' := 1) rfl) (zq (Q.load1 rfl (List.mem_cons_of_mem _ (List.mem_cons_of_mem _ ma)) ag3 (ints_at (i := 1) (by first | omega | (simp at * <;> omega)))) (WO.callV rfl (oLs_cons rfl (oLs_cons rfl (oLs_cons rfl oLs_nil))) rfl (oper_spec _ _ ho _ _ _ _ _ _ _ _ _ hms hnm hkd _ _ (ty_at hT (by first | omega | (simp at * <;> omega))) (ty_at hT (by first | omega | (simp at * <;> omega)))) SubR.nil rfl (za rfl (zk (W.sub (zc 4 rfl zzn) (W.ret (End.KB_ret (End.K_ret (End.retV (z1 rfl) ?_))))))))))))))))
     (simp only [oneOf]; congr 1; unfold wholeM P3; (repeat' split) <;> first | rfl | omega | grind)
   refine W.skip (End.KB (End.K (zr (za (zi 0) (zk (W.ret (End.retV (z1 rfl) ?_)))))))
   (simp only [oneOf]; congr 1; unfold wholeM P3; (repeat' split) <;> first | rfl | omega | grind)
 refine zr (zq (Q.bin rfl (zi 6) rfl (bv_eql eq_int)) (za rfl (zk (W.condDS rfl (fun hc70 => ?_) (fun hc70 => ?_)))))
 · refine zr (zm rfl (zq (Q.len ud43 rfl (isl_len hA)) (zq (Q.bin rfl (zi 1) rfl (bv_eql eq_nat)) (zm rfl (WO.splitD (d := 75) rfl (fun hc75 => ?_) (fun hc75 => ?_))))))
   · obtain ⟨ba, exa, rfl, wa, ma⟩ := isl_full hA (by omega)
     refine WO.gT rfl rfl (zm rfl (WO.gT rfl rfl (zq (Q.iaddrL ud43 sz3 rfl (zi 0) (by first | omega | (simp at * <;> omega)) (o' := 0) rfl) (WO.gT rfl rfl (zq (Q.load1 rfl (List.mem_cons_of_mem _ (List.mem_cons_of_mem _ ma)) ag3 (ints_at (i := 0) (by first | omega | (simp at * <;> omega)))) (WO.gT rfl rfl (zq (Q.bin rfl (zi 3) rfl (bv_neq ne_nat)) (zq (Q.pickT rfl rfl) (zk (W.sub (zc 80 rfl (zc 1 rfl zzn)) (W.condDS rfl (fun hc80 => ?_) (fun hc80 => ?_))))))))))))
     · refine zr (zm rfl (zq (Q.iaddrL ud43 sz3 rfl (zi 0) (by first | omega | (simp at * <;> omega)) (o' := 0) rfl) (zq (Q.load1 rfl (List.mem_cons_of_mem _ (List.mem_cons_of_mem _ ma)) ag3 (ints_at (i := 0) (by first | omega | (simp at * <;> omega)))) (za rfl (zk (W.ret (End.KB_ret (End.K_ret (End.retV (z1 rfl) ?_)))))))))
       (simp only [oneOf]; congr 1; unfold wholeM P3; (repeat' split) <;> first | rfl | omega | grind)
     refine W.skip (End.KB (End.K (zr (za (zi 0) (zk (W.ret (End.retV (z1 rfl) ?_)))))))
     (simp only [oneOf]; congr 1; unfold wholeM P3; (repeat' split) <;> first | rfl | omega | grind)
   refine zg rfl rfl (zg rfl rfl (zg rfl rfl (zg rfl rfl (zq (Q.pickF rfl rfl) (zk (W.sub (zc 80 rfl (zc 1 rfl zzn)) (W.condF rfl (W.skip (End.KB (End.K (zr (za (zi 0) (zk (W.ret (End.retV (z1 rfl) ?_)))))))))))))))
   (simp only [oneOf]; congr 1; unfold wholeM P3; (repeat' split) <;> first | rfl | omega | grind)
 refine W.skip (End.KB (End.K (zr (za (zi 0) (zk (W.ret (End.retV (z1 rfl) ?_)))))))
 (simp only [oneOf]; congr 1; unfold wholeM P3; (repeat' split) <;> first | rfl | omega | grind)
end Go.Proofs.Ytnlnmbnopdklhaa.Ev
