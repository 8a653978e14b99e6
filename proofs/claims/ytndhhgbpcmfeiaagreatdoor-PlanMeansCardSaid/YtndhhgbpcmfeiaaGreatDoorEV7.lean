/- Chapter 17, walks: types. -/
import Derived.Test.YtndhhgbpcmfeiaaGreatDoorEV2
import Derived.Test.YtndhhgbpcmfeiaaGreatDoorEAwJ
namespace Go.Proofs.YtndhhgbpcmfeiaaGreatDoor.Ev.P16
open Go.RowKit
set_option maxRecDepth 100000
set_option maxHeartbeats 1000000
theorem isl_cells {hs0 hs : HSt} {A : List Nat} {v : AV} (h : ISl hs0 A v) (hm : ∀ b o, MemH hs0 b o → MemH hs b o) : ∀ hp, KeepIn hs hp → cellsOfA hp.objs 1 v = some (A.length, ints A) := by
 intro hp hk
 rcases h with ⟨rfl, rfl⟩ | ⟨b, ex, rfl, hmem⟩
 ·rfl
 ·obtain ⟨w, hw⟩ := hm _ _ hmem
  exact cellsOf_slice (hk _ hw) (by rw [Nat.zero_mul]; exact sub_all (by simp [ints]))
theorem lay_pad {A : List Nat} : layL [.int .i64 0, .int .i64 0, .int .i64 0] (0 * 1) ((ints A).take (min A.length 3 * 1)) = pad A := by
 match A with
 | [] => rfl
 | [a] => rfl
 | [a, b] => rfl
 | a :: b :: c :: r =>
  have e : min (a :: b :: c :: r).length 3 * 1 = 3 := by simp only [List.length_cons]; omega
  rw [e]
  rfl
def P3 (X A : List Nat) : Prop := X.getD 0 0 = A.getD 0 0 ∧ X.getD 1 0 = A.getD 1 0 ∧ X.getD 2 0 = A.getD 2 0
instance (X A : List Nat) : Decidable (P3 X A) := by unfold P3; infer_instance
def wholeM (k : Int) (op : List Nat) (rg md sd : Int) (bl : Bool) (A : List Nat) : Nat :=
 if k = 1 then 1 else if k = 2 then (if 0 < rg then 3 else 2)
 else if k = 3 then (if A.length ≤ 3 ∧ P3 (callM op).1 A then (callM op).2 else 0)
 else if k = 4 then (if A.length ≤ 3 ∧ P3 (if op = [116, 111, 112, 107] ∨ op = [98, 111, 116, 116, 111, 109, 107] then [1, 2] else [2]) A then 2 else 0)
 else if k = 5 then (if A.length = 2 then operM op md sd bl (A.getD 0 0) (A.getD 1 0) else 0)
 else if k = 6 then (if A.length = 1 ∧ ¬ A.getD 0 0 = 3 then A.getD 0 0 else 0)
 else 0
theorem ty_at {A : List Nat} (h : ∀ x ∈ A, 1 ≤ x ∧ x ≤ 3) {i : Nat} (hi : i < A.length) : 1 ≤ A.getD i 0 ∧ A.getD i 0 ≤ 3 := by
 rw [List.getD_eq_getElem?_getD, List.getElem?_eq_getElem hi]
 exact h _ (List.getElem_mem hi)
theorem et112 : tab.et.get 112 = some true := by kernel_rfl
theorem eq_flat {tb : Tab} {d t : Nat} {k1 k2 : IntKind} {a b : Int} (hu : tb.und t = some (.int k1)) : eqIn tb (d + 1) t (.int k2 a) (.int k2 b) = some (eqA a b) := by
 unfold eqIn
 simp only [hu, if_pos]
theorem part_flat {tb : Tab} {t : Nat} {cs : List AV} {o : Nat} {v : AV} (ha : tb.isAgg t = some false) (hc : cs[o]? = some v) : partA tb t cs o = some v := by
 unfold partA; simp only [ha, hc]
theorem eq_elem {tb : Tab} {rec_ : Nat → AV → AV → Option Bool} {e m i k : Nat} {xs ys : List AV} {a b : AV} {p q : Bool} (hx : partA tb e xs (i * m) = some a) (hy : partA tb e ys (i * m) = some b) (hr : rec_ e a b = some p)
  (hf : eqElemsA tb rec_ e m xs ys (i + 1) k = some q) : eqElemsA tb rec_ e m xs ys i (k + 1) = some (p && q) := by
 conv => lhs; unfold eqElemsA
 simp only [hx, hy, hr]
 cases p
 ·rfl
 ·simpa using hf
theorem takes_eq {a b c a' b' c' : Int} : evBin tab .eql 112 (.agg [.int .i64 a, .int .i64 b, .int .i64 c]) (.agg [.int .i64 a', .int .i64 b', .int .i64 c']) = some (.bool (eqA a a' && (eqA b b' && (eqA c c' && true)))) := by
 have h : eqTop tab 112 (.agg [.int .i64 a, .int .i64 b, .int .i64 c]) (.agg [.int .i64 a', .int .i64 b', .int .i64 c']) = some (eqA a a' && (eqA b b' && (eqA c c' && true))) := by
  unfold eqTop
  simp only [et112]
  unfold eqIn
  simp only [ud112, sz3]
  refine eq_elem (part_flat ag3 rfl) (part_flat ag3 rfl) (eq_flat ud3) ?_
  refine eq_elem (part_flat ag3 rfl) (part_flat ag3 rfl) (eq_flat ud3) ?_
  exact eq_elem (part_flat ag3 rfl) (part_flat ag3 rfl) (eq_flat ud3) rfl
 show (match eqTop tab 112 _ _ with | some b => some (AV.bool b) | none => none) = _
 rw [h]
theorem pad_eq {A B : List Nat} : evBin tab .eql 112 (.agg (pad A)) (.agg (pad B)) = some (.bool (decide (A.getD 0 0 = B.getD 0 0 ∧ A.getD 1 0 = B.getD 1 0 ∧ A.getD 2 0 = B.getD 2 0))) := by
 have h := takes_eq (a := ((A.getD 0 0 : Nat) : Int)) (b := ((A.getD 1 0 : Nat) : Int)) (c := ((A.getD 2 0 : Nat) : Int)) (a' := ((B.getD 0 0 : Nat) : Int)) (b' := ((B.getD 1 0 : Nat) : Int)) (c' := ((B.getD 2 0 : Nat) : Int))
 show evBin tab .eql 112 (.agg [_, _, _]) (.agg [_, _, _]) = _
 rw [h]
 congr 2
 rw [eq_int, eq_int, eq_int, Bool.eq_iff_iff]
 simp only [Bool.and_true, Bool.and_eq_true, decide_eq_true_eq, Int.ofNat_inj]
theorem pad_inj {A B : List Nat} (ha : ∀ x ∈ A, 1 ≤ x) (hb : ∀ x ∈ B, 1 ≤ x) (h3 : A.length ≤ 3) (h3' : B.length ≤ 3) : (A.getD 0 0 = B.getD 0 0 ∧ A.getD 1 0 = B.getD 1 0 ∧ A.getD 2 0 = B.getD 2 0) ↔ A = B := by
 constructor
 ·rintro ⟨h0, h1, h2⟩
  match A, B with
  | [], [] => rfl
  | [], b :: _ => have := hb b (by simp); simp at h0; omega
  | a :: _, [] => have := ha a (by simp); simp at h0; omega
  | [a], [b] => simp at h0; rw [h0]
  | [a], b :: c :: _ => have := hb c (by simp); simp at h1; omega
  | a :: c :: _, [b] => have := ha c (by simp); simp at h1; omega
  | [a, b], [c, d] => simp at h0 h1; rw [h0, h1]
  | [a, b], c :: d :: e :: _ => have := hb e (by simp); simp at h2; omega
  | a :: b :: e :: _, [c, d] => have := ha e (by simp); simp at h2; omega
  | [a, b, c], [a', b', c'] => simp at h0 h1 h2; rw [h0, h1, h2]
  | a :: b :: c :: x :: _, _ => simp at h3
  | _, a :: b :: c :: x :: _ => simp at h3'
 ·rintro rfl
  exact ⟨rfl, rfl, rfl⟩
theorem of_spec (hs : HSt) (A : List Nat) (va : AV) (hA : ISl hs A va) (hl : A.length ≤ 1048576) : Spec tab 101 [va] [] hs (Val (.tuple [.agg (pad A), .bool (decide (A.length ≤ 3))])) := by
 refine Spec.en (ftg 101 Tryz.func101) rfl (m := 12) rfl (rs := [.cell 2 112, .tmp 3]) rfl (st := [(0, va)]) rfl rfl (fun _ => rfl) (fun E => zr (WO.alloc ao112 rfl (fun b1 => za rfl (zk (zr (WO.alloc ao112 rfl (fun b2 => zk (zr (zq (Q.sliceA ud112 sz3 rfl (zt 0 rfl) rfl) (zm rfl (WO.copy ud40 sz3 rfl rfl (isl_cells hA (fun _ _ m => m.tl.tl)) (i := 0) rfl rfl lay_pad (hs' := _ :: _ :: _) rfl rfl (zk (zr (zq (Q.loadN rfl (zt 0 rfl) ag112 sz112 (l := [_, _, _]) rfl) (zm rfl (zq (Q.len ud40 rfl (isl_len hA)) (zq (Q.bin rfl (zi 3) rfl (bv_leq le_nat)) (zS3 sz112 rfl rfl (i := 1) rfl rfl rfl (hs' := _ :: _ :: _) rfl (za rfl (zk (W.ret (End.rV (zA3 rfl (zt 1 rfl) ag112 sz112 rfl (z1 rfl)) ?_))))))))))))))))))))))
 rfl

theorem whole_spec (k : Int) (op : List Nat) (ho : Bytes op) (n : Int) (ms : AV) (rg off md : Int) (nm : AV) (sd : Int) (bl : Bool) (kd : AV) (hms : ms.isCell = true) (hnm : nm.isCell = true) (hkd : kd.isCell = true) (hs : HSt) (A : List Nat) (va : AV) (hA : ISl hs A va) (hl : A.length ≤ 1048576) (hro : ∀ e ∈ hs, e.w = false) (hT : ∀ x ∈ A, 1 ≤ x ∧ x ≤ 3) : Spec tab 68 [.agg (nodeC k op n ms rg off md nm sd bl kd), va] [] hs (Val (.int .i64 ((wholeM k op rg md sd bl A : Nat) : Int))) := by
 refine Spec.en (ftg 68 Tryz.func68) rfl (m := 84) rfl (rs := [.tmp 4]) rfl (st := [(0, .agg (nodeC k op n ms rg off md nm sd bl kd)), (1, va)]) rfl rfl (fun _ => rfl) (fun E => zr (WO.box rfl (node_cells hms hnm hkd) (bx26 _ rfl) rfl (fun b1 => za (zi 0) (zk (zr (zm rfl (WO.cV rfl (oLc rfl oz) rfl (of_spec hs A _ hA hl) (SubR.t (SubR.s hro)) rfl (zm rfl (zq (Q.extract rfl rfl) (zq (Q.extract rfl rfl) (WO.alloc ao112 rfl (fun b2 => zS3 sz112 rfl rfl (i := 0) rfl rfl rfl (hs' := _ :: _ :: _) rfl (za rfl (zk (W.seq (zr (zf fa26_0 rfl 0 (zq (Q.l1 rfl (zt 1 rfl) ag3 rfl) (zk (W.block (zr (zq (Q.bin rfl (zi 1) rfl (bv_eql eq_int)) (za rfl ?_)))))))))))))))))))))))
 refine zk (W.cD rfl (fun hc17 => ?_) (fun hc17 => ?_))
 ·refine zr (za (zi 1) (zk (W.sub (zc 4 rfl zzn) (W.ret (End.Br (End.Kr (End.rV (z1 rfl) ?_)))))))
  (simp only [oneOf]; congr 1; unfold wholeM P3; (repeat' split) <;> first | rfl | omega | grind)
 refine zr (zq (Q.bin rfl (zi 2) rfl (bv_eql eq_int)) (za rfl (zk (W.cD rfl (fun hc19 => ?_) (fun hc19 => ?_)))))
 ·refine W.seq (zr (zf fa26_4 rfl 4 (zq (Q.l1 rfl (zt 1 rfl) ag3 rfl) (zq (Q.bin rfl (zi 0) rfl (bv_gtr (ltA_eq _ _))) (zk (W.sub (zc 23 rfl zzn) (W.cD rfl (fun hc23 => ?_) (fun hc23 => ?_))))))))
  ·refine zr (za (zi 3) (zk (W.ret (End.Kr (End.Br (End.Kr (End.rV (z1 rfl) ?_)))))))
   (simp only [oneOf]; congr 1; unfold wholeM P3; (repeat' split) <;> first | rfl | omega | grind)
  refine zw (zr (za (zi 2) (zk (W.ret (End.Br (End.Kr (End.rV (z1 rfl) ?_)))))))
  (simp only [oneOf]; congr 1; unfold wholeM P3; (repeat' split) <;> first | rfl | omega | grind)
 refine zr (zq (Q.bin rfl (zi 3) rfl (bv_eql eq_int)) (za rfl (zk (W.cD rfl (fun hc24 => ?_) (fun hc24 => ?_)))))
 ·refine zr (zf fa26_1 rfl 1 (zq (Q.l1 rfl (zt 1 rfl) ag9 rfl) (WO.cV rfl (oLc rfl oz) rfl (call_spec _ ho) SubR.nil rfl (zm rfl (zq (Q.extract rfl rfl) (zq (Q.extract rfl rfl) (WO.alloc ao112 rfl (fun b3 => zS3 sz112 rfl rfl (i := 0) rfl rfl rfl (hs' := _ :: _ :: _ :: _) rfl (za rfl (zk (W.sub (zc 8 rfl (zc 7 rfl (zc 6 rfl (zc 5 rfl zzn)))) (zr (zm rfl (zm rfl (WO.sD (d := 33) rfl (fun hc33 => ?_) (fun hc33 => ?_))))))))))))))))
  ·refine zT (zq (Q.loadN rfl (zt 0 rfl) ag112 sz112 (l := [_, _, _]) rfl) (zT (zq (Q.loadN rfl (zt 1 rfl) ag112 sz112 (l := [_, _, _]) rfl) (zT (zq (Q.bin rfl rfl rfl (pad_eq (A := (callM op).1) (B := A))) (zq (Q.pT rfl rfl) (zk (W.cD rfl (fun hc37 => ?_) (fun hc37 => ?_)))))))))
   ·refine zr (zm rfl (za rfl (zk (W.ret (End.Br (End.Kr (End.rV (z1 rfl) ?_)))))))
    (simp only [oneOf]; congr 1; unfold wholeM P3; (repeat' split) <;> first | rfl | omega | grind)
   refine W.skip (End.KB (End.K (zr (za (zi 0) (zk (W.ret (End.rV (z1 rfl) ?_)))))))
   (simp only [oneOf]; congr 1; unfold wholeM P3; (repeat' split) <;> first | rfl | omega | grind)
  refine zG (zG (zG (zq (Q.pF rfl rfl) (zk (W.condF rfl (W.skip (End.KB (End.K (zr (za (zi 0) (zk (W.ret (End.rV (z1 rfl) ?_)))))))))))))
  (simp only [oneOf]; congr 1; unfold wholeM P3; (repeat' split) <;> first | rfl | omega | grind)
 refine zr (zq (Q.bin rfl (zi 4) rfl (bv_eql eq_int)) (za rfl (zk (W.sub (zc 39 rfl (zc 16 rfl (zc 6 rfl (zc 5 rfl (zc 2 rfl (zc 1 rfl zzn)))))) (W.cD rfl (fun hc39 => ?_) (fun hc39 => ?_))))))
 ·refine zr (zq (Q.build pl112 (opc (zi 2) oPs_nil) rfl (cs := [_, _, _]) rfl) (WO.alloc ao112 rfl (fun b4 => zS3 sz112 rfl rfl (i := 0) rfl rfl rfl (hs' := _ :: _ :: _ :: _) rfl (zk (W.seq (zr (zf fa26_1 rfl 1 (zq (Q.l1 rfl (zt 2 rfl) ag9 rfl) (zq (Q.bin rfl (oc (v := .str [116, 111, 112, 107]) (by kernel_rfl)) rfl bv_seql) (zm rfl (WO.sD (d := 45) rfl (fun hc45 => ?_) (fun hc45 => ?_))))))))))))
  ·refine zG (zG (zG (zq (Q.pT rfl rfl) (zk (W.condT rfl (W.reg (zq (Q.build pl112 (opc (zi 1) (opc (zi 2) oPs_nil)) rfl (cs := [_, _, _]) rfl) (zS3 sz112 rfl rfl (i := 0) rfl rfl rfl (hs' := _ :: _ :: _ :: _) rfl (zk (W.sub (zc 9 rfl (zc 6 rfl (zc 5 rfl zzn))) (zr (zm rfl (zm rfl (WO.sD (d := 52) rfl (fun hc52 => ?_) (fun hc52 => ?_)))))))))))))))
   ·refine zT (zq (Q.loadN rfl (zt 0 rfl) ag112 sz112 (l := [_, _, _]) rfl) (zT (zq (Q.loadN rfl (zt 1 rfl) ag112 sz112 (l := [_, _, _]) rfl) (zT (zq (Q.bin rfl rfl rfl (pad_eq (A := [1, 2]) (B := A))) (zq (Q.pT rfl rfl) (zk (W.cD rfl (fun hc56 => ?_) (fun hc56 => ?_)))))))))
    ·refine zr (za (zi 2) (zk (W.ret (End.Br (End.Kr (End.rV (z1 rfl) ?_))))))
     (simp only [oneOf]; congr 1; unfold wholeM P3; (repeat' split) <;> first | rfl | omega | grind)
    refine W.skip (End.KB (End.K (zr (za (zi 0) (zk (W.ret (End.rV (z1 rfl) ?_)))))))
    (simp only [oneOf]; congr 1; unfold wholeM P3; (repeat' split) <;> first | rfl | omega | grind)
   refine zG (zG (zG (zq (Q.pF rfl rfl) (zk (W.condF rfl (W.skip (End.KB (End.K (zr (za (zi 0) (zk (W.ret (End.rV (z1 rfl) ?_)))))))))))))
   (simp only [oneOf]; congr 1; unfold wholeM P3; (repeat' split) <;> first | rfl | omega | grind)
  refine zT (zf fa26_1 rfl 1 (zT (zq (Q.l1 rfl (zt 2 rfl) ag9 rfl) (zT (zq (Q.bin rfl (oc (v := .str [98, 111, 116, 116, 111, 109, 107]) (by kernel_rfl)) rfl bv_seql) (zq (Q.pF rfl rfl) (zk (W.cD rfl (fun hc49 => ?_) (fun hc49 => ?_)))))))))
  ·refine W.reg (zq (Q.build pl112 (opc (zi 1) (opc (zi 2) oPs_nil)) rfl (cs := [_, _, _]) rfl) (zS3 sz112 rfl rfl (i := 0) rfl rfl rfl (hs' := _ :: _ :: _ :: _) rfl (zk (W.sub (zc 9 rfl (zc 6 rfl (zc 5 rfl zzn))) (zr (zm rfl (zm rfl (WO.sD (d := 52) rfl (fun hc52 => ?_) (fun hc52 => ?_)))))))))
   ·refine zT (zq (Q.loadN rfl (zt 0 rfl) ag112 sz112 (l := [_, _, _]) rfl) (zT (zq (Q.loadN rfl (zt 1 rfl) ag112 sz112 (l := [_, _, _]) rfl) (zT (zq (Q.bin rfl rfl rfl (pad_eq (A := [1, 2]) (B := A))) (zq (Q.pT rfl rfl) (zk (W.cD rfl (fun hc56 => ?_) (fun hc56 => ?_)))))))))
    ·refine zr (za (zi 2) (zk (W.ret (End.Br (End.Kr (End.rV (z1 rfl) ?_))))))
     (simp only [oneOf]; congr 1; unfold wholeM P3; (repeat' split) <;> first | rfl | omega | grind)
    refine W.skip (End.KB (End.K (zr (za (zi 0) (zk (W.ret (End.rV (z1 rfl) ?_)))))))
    (simp only [oneOf]; congr 1; unfold wholeM P3; (repeat' split) <;> first | rfl | omega | grind)
   refine zG (zG (zG (zq (Q.pF rfl rfl) (zk (W.condF rfl (W.skip (End.KB (End.K (zr (za (zi 0) (zk (W.ret (End.rV (z1 rfl) ?_)))))))))))))
   (simp only [oneOf]; congr 1; unfold wholeM P3; (repeat' split) <;> first | rfl | omega | grind)
  refine zw (zr (zm rfl (zm rfl (WO.sD (d := 52) rfl (fun hc52 => ?_) (fun hc52 => ?_)))))
  ·refine zT (zq (Q.loadN rfl (zt 0 rfl) ag112 sz112 (l := [_, _, _]) rfl) (zT (zq (Q.loadN rfl (zt 1 rfl) ag112 sz112 (l := [_, _, _]) rfl) (zT (zq (Q.bin rfl rfl rfl (pad_eq (A := [2]) (B := A))) (zq (Q.pT rfl rfl) (zk (W.sub (zc 56 rfl zzn) (W.cD rfl (fun hc56 => ?_) (fun hc56 => ?_))))))))))
   ·refine zr (za (zi 2) (zk (W.ret (End.Br (End.Kr (End.rV (z1 rfl) ?_))))))
    (simp only [oneOf]; congr 1; unfold wholeM P3; (repeat' split) <;> first | rfl | omega | grind)
   refine W.skip (End.KB (End.K (zr (za (zi 0) (zk (W.ret (End.rV (z1 rfl) ?_)))))))
   (simp only [oneOf]; congr 1; unfold wholeM P3; (repeat' split) <;> first | rfl | omega | grind)
  refine zG (zG (zG (zq (Q.pF rfl rfl) (zk (W.sub (zc 56 rfl zzn) (W.condF rfl (W.skip (End.KB (End.K (zr (za (zi 0) (zk (W.ret (End.rV (z1 rfl) ?_))))))))))))))
  (simp only [oneOf]; congr 1; unfold wholeM P3; (repeat' split) <;> first | rfl | omega | grind)
 refine zr (zq (Q.bin rfl (zi 5) rfl (bv_eql eq_int)) (za rfl (zk (W.cD rfl (fun hc57 => ?_) (fun hc57 => ?_)))))
 ·refine zr (zm rfl (zq (Q.len ud40 rfl (isl_len hA)) (zq (Q.bin rfl (zi 2) rfl (bv_eql eq_nat)) (zk (W.cD rfl (fun hc61 => ?_) (fun hc61 => ?_))))))
  ·obtain ⟨ba, exa, rfl, wa, ma⟩ := isl_full hA zy
   refine W.seq (W.regT (by kernel_rfl) (zq (zL rfl (zt 1 rfl) ag26 sz26 rfl) (zm rfl (zq (Q.iaddrL ud40 sz3 rfl (zi 0) zo (o' := 0) rfl) (zq (Q.l1 rfl (List.mem_cons_of_mem _ (List.mem_cons_of_mem _ ma)) ag3 (ints_at (i := 0) zo)) (zm rfl (zq (Q.iaddrL ud40 sz3 rfl (zi 1) zo (o' := 1) rfl) (zq (Q.l1 rfl (List.mem_cons_of_mem _ (List.mem_cons_of_mem _ ma)) ag3 (ints_at (i := 1) zo)) (WO.cV rfl (oLc rfl (oLc rfl (oLc rfl oz))) rfl (oper_spec _ _ ho _ _ _ _ _ _ _ _ _ hms hnm hkd _ _ (ty_at hT zo) (ty_at hT zo)) SubR.nil rfl (za rfl (zk (W.sub (zc 4 rfl zzn) (W.ret (End.Br (End.Kr (End.rV (z1 rfl) ?_))))))))))))))))
   (simp only [oneOf]; congr 1; unfold wholeM P3; (repeat' split) <;> first | rfl | omega | grind)
  refine W.skip (End.KB (End.K (zr (za (zi 0) (zk (W.ret (End.rV (z1 rfl) ?_)))))))
  (simp only [oneOf]; congr 1; unfold wholeM P3; (repeat' split) <;> first | rfl | omega | grind)
 refine zr (zq (Q.bin rfl (zi 6) rfl (bv_eql eq_int)) (za rfl (zk (W.cD rfl (fun hc70 => ?_) (fun hc70 => ?_)))))
 ·refine zr (zm rfl (zq (Q.len ud40 rfl (isl_len hA)) (zq (Q.bin rfl (zi 1) rfl (bv_eql eq_nat)) (zm rfl (WO.sD (d := 75) rfl (fun hc75 => ?_) (fun hc75 => ?_))))))
  ·obtain ⟨ba, exa, rfl, wa, ma⟩ := isl_full hA zy
   refine zT (zm rfl (zT (zq (Q.iaddrL ud40 sz3 rfl (zi 0) zo (o' := 0) rfl) (zT (zq (Q.l1 rfl (List.mem_cons_of_mem _ (List.mem_cons_of_mem _ ma)) ag3 (ints_at (i := 0) zo)) (zT (zq (Q.bin rfl (zi 3) rfl (bv_neq ne_nat)) (zq (Q.pT rfl rfl) (zk (W.sub (zc 80 rfl (zc 1 rfl zzn)) (W.cD rfl (fun hc80 => ?_) (fun hc80 => ?_))))))))))))
   ·refine zr (zm rfl (zq (Q.iaddrL ud40 sz3 rfl (zi 0) zo (o' := 0) rfl) (zq (Q.l1 rfl (List.mem_cons_of_mem _ (List.mem_cons_of_mem _ ma)) ag3 (ints_at (i := 0) zo)) (za rfl (zk (W.ret (End.Br (End.Kr (End.rV (z1 rfl) ?_)))))))))
    (simp only [oneOf]; congr 1; unfold wholeM P3; (repeat' split) <;> first | rfl | omega | grind)
   refine W.skip (End.KB (End.K (zr (za (zi 0) (zk (W.ret (End.rV (z1 rfl) ?_)))))))
   (simp only [oneOf]; congr 1; unfold wholeM P3; (repeat' split) <;> first | rfl | omega | grind)
  refine zG (zG (zG (zG (zq (Q.pF rfl rfl) (zk (W.sub (zc 80 rfl (zc 1 rfl zzn)) (W.condF rfl (W.skip (End.KB (End.K (zr (za (zi 0) (zk (W.ret (End.rV (z1 rfl) ?_)))))))))))))))
  (simp only [oneOf]; congr 1; unfold wholeM P3; (repeat' split) <;> first | rfl | omega | grind)
 refine W.skip (End.KB (End.K (zr (za (zi 0) (zk (W.ret (End.rV (z1 rfl) ?_)))))))
 (simp only [oneOf]; congr 1; unfold wholeM P3; (repeat' split) <;> first | rfl | omega | grind)
theorem node_store {k : Int} {op : List Nat} {n : Int} {ms : AV} {rg off md : Int} {nm : AV} {sd : Int} {bl : Bool} {kd : AV} (hms : ms.isCell = true) (hnm : nm.isCell = true) (hkd : kd.isCell = true) {ob : AObj} (ho : ob.cells.length = 11 := by rfl) :
  (Nat.beq (AV.agg (nodeC k op n ms rg off md nm sd bl kd)).cells.length 11 && Nat.ble (0 + 11) ob.cells.length && (AV.agg (nodeC k op n ms rg off md nm sd bl kd)).cells.all AV.isCell) = true := by
 rw [ho]
 show (true && true && (nodeC k op n ms rg off md nm sd bl kd).all AV.isCell) = true
 simp only [nodeC, List.all_cons, List.all_nil, hms, hnm, hkd]
 rfl
def kl (ty : Nat → Nat) : Nat → List Nat
 | 0 => []
 | i + 1 => kl ty i ++ [ty i]
theorem kl_succ {ty : Nat → Nat} {i : Nat} : kl ty (i + 1) = kl ty i ++ [ty i] := rfl
theorem kl_len {ty : Nat → Nat} : ∀ {i : Nat}, (kl ty i).length = i
 | 0 => rfl
 | i + 1 => by simp [kl, kl_len (i := i)]
theorem ints_snoc {A : List Nat} {x : Nat} : ints (A ++ [x]) = ints A ++ [.int .i64 ((x : Nat) : Int)] := by simp [ints]
theorem kl_mem {ty : Nat → Nat} : ∀ {i : Nat} {x : Nat}, x ∈ kl ty i → ∃ j, j < i ∧ x = ty j
 | 0, x, h => by simp [kl] at h
 | i + 1, x, h => by
  rcases List.mem_append.1 h with h | h
  ·obtain ⟨j, hj, e⟩ := kl_mem h
   exact ⟨j, by omega, e⟩
  ·exact ⟨i, by omega, by simpa using h⟩
def errM (er : Nat → Nat) : Nat → Nat
 | 0 => 0
 | i + 1 => if errM er i = 0 then er i else errM er i
theorem errM_zero {er : Nat → Nat} : ∀ {i : Nat}, (∀ j, j < i → er j = 0) → errM er i = 0
 | 0, _ => rfl
 | i + 1, h => by
  unfold errM
  rw [if_pos (errM_zero fun j hj => h j zy), h i zy]
theorem errM_le {er : Nat → Nat} {i : Nat} (he : er i ≠ 0) (hz : ∀ j, j < i → er j = 0) : ∀ {n : Nat}, i < n → errM er n = er i
 | 0, h => by omega
 | n + 1, h => by
  unfold errM
  rcases Nat.lt_or_ge i n with g | g
  ·rw [errM_le he hz g, if_neg he]
  ·have e : i = n := by omega
   subst e
   rw [if_pos (errM_zero hz)]
theorem errM_all {er : Nat → Nat} : ∀ {n : Nat}, errM er n = 0 → ∀ j, j < n → er j = 0
 | 0, _, j, hj => by omega
 | n + 1, h, j, hj => by
  unfold errM at h
  split at h
  ·rename_i h0
   rcases Nat.lt_or_ge j n with g | g
   ·exact errM_all h0 j g
   ·have e : j = n := by omega
    rw [e]; exact h
  ·rename_i h0; exact absurd h h0
def kindsP (len : Nat) (ty er : Nat → Nat) : AV → HSt → Prop := fun v D =>
 ∃ va, v = .tuple [va, .int .i64 ((errM er len : Nat) : Int)] ∧ va.isCell = true ∧ (errM er len = 0 → ISl D (kl ty len) va)
theorem kinds_err {len i : Nat} {ty er : Nat → Nat} (hi : i < len) (hz : ∀ j, j < i → er j = 0) (he : er i ≠ 0) : kindsP len ty er (oneOf [.nils, .int .i64 ((er i : Nat) : Int)]) [] := by
 refine ⟨.nils, ?_, rfl, fun h => ?_⟩
 ·rw [errM_le he hz hi]; rfl
 ·rw [errM_le he hz hi] at h; exact absurd h he
theorem own_isl {A : List Nat} {n : Nat} {v : AV} {hp : HSt} (h : Own 1 (ints A) n v hp) : ISl hp A v := by
 have hl := h.length
 simp [ints] at hl
 rcases h with ⟨rfl, h2, rfl, rfl⟩ | ⟨b, ex, rfl, rfl, _, _⟩
 ·exact .inl ⟨rfl, by simpa [ints] using h2⟩
 ·exact .inr ⟨b, ex, by rw [hl], true, by simp⟩
theorem own_cell {sz n : Nat} {c : List AV} {v : AV} {hp : HSt} (h : Own sz c n v hp) : v.isCell = true := by
 rcases h with ⟨_, _, rfl, _⟩ | ⟨b, ex, rfl, _⟩ <;> rfl
theorem kinds_ok {len i : Nat} {ty er : Nat → Nat} {v : AV} {hp : HSt} (hi : i = len) (hz : ∀ j, j < i → er j = 0) (hO : Own 1 (ints (kl ty i)) i v hp) : kindsP len ty er (oneOf [v, .int .i64 0]) hp := by
 subst hi
 refine ⟨v, ?_, own_cell hO, fun _ => own_isl hO⟩
 rw [errM_zero hz]; rfl
theorem kinds_spec (k : Int) (op : List Nat) (ho : Bytes op) (n : Int) (ms : AV) (rg off md : Int) (nm : AV) (sd : Int) (bl : Bool) (hms : ms.isCell = true) (hnm : nm.isCell = true) (hs : HSt) (hro : ∀ e ∈ hs, e.w = false) (d : Nat) (kd : AV) (len : Nat) (hkd : kd.isCell = true) (hlen : lenA (.slice 26) kd = some len) (hl : len ≤ 1048576) (kc : Nat → List AV) (hK : ∀ i, i < len → ∃ b ob, kd = .slice b 0 len 11 ∧ MemH hs b ob ∧ sub? ob.cells ((0 + i) * 11) 11 = some (kc i) ∧ NRep hs d (kc i)) (ty er : Nat → Nat) (HT : ∀ i, i < len → Spec tab 35 [.agg (kc i)] [] hs (Val (.tuple [.int .i64 ((ty i : Nat) : Int), .int .i64 ((er i : Nat) : Int)]))) : Spec tab 67 [.agg (nodeC k op n ms rg off md nm sd bl kd)] [] hs (kindsP len ty er) := by
 refine Spec.en (ftg 67 Tryz.func67) rfl (m := 30) rfl (rs := [.tmp 2, .tmp 3]) rfl (st := [(0, .agg (nodeC k op n ms rg off md nm sd bl kd))]) rfl rfl (fun _ => rfl) (fun E => zr (WO.box rfl (node_cells hms hnm hkd) (bx26 _ rfl) rfl (fun b1 => za rfl (za (zi 0) (zk (zr (za rfl (zk (W.seq (zr (zf fa26_10 rfl 10 (zq (Q.l1 rfl (zt 0 rfl) ag24 rfl) (zq (Q.len ud24 rfl hlen) (zq (Q.move (zi 0)) (zk (W.block (W.loop_ind3 (fun (i : Nat) (v : AV) (hp : HSt) => [(4, v), (10, kd), (11, .int .i64 ((len : Nat) : Int)), (12, .int .i64 ((i : Nat) : Int))]) (fun (i : Nat) (v : AV) (hp : HSt) => hs ++ hp) (fun (i : Nat) (v : AV) (hp : HSt) => i ≤ len ∧ (∀ j, j < i → er j = 0) ∧ Own 1 (ints (kl ty i)) i v hp) (fun (i : Nat) (v : AV) (hp : HSt) => len - i) (0) (.nils) ([]) ⟨Nat.zero_le _, fun j h => by omega, Own.nil 1⟩ zv (SubH.of_sublist (by simp)) (fun i v hp hI0 ih0 => ?_))))))))))))))))))
 obtain ⟨hi, hz, hO⟩ := hI0
 refine zr (zq (Q.bin rfl rfl rfl (bvl ltn)) (zk (W.seq (W.cD rfl (fun hc13 => ?_) (fun hc13 => ?_)))))
 ·obtain ⟨bk, ob, rfl, ⟨wk, mk⟩, hs2, hN⟩ := hK i zy
  obtain ⟨k1, op1, n1, ms1, rg1, off1, md1, nm1, sd1, bl1, kd1, hc1, ho1, hms1, hnm1, hkd1⟩ := hN.node
  have hT1 := HT i zy
  rw [hc1] at hs2 hT1
  refine zw (W.seq (W.block (zr (zq (Q.iS ud24 sz26 rfl rfl zo) (zq (Q.loadN rfl (List.mem_append_left _ mk) ag26 sz26 hs2) (WO.alloc ao26 rfl (fun b2 => zS sz26 rfl rfl (i := 0) rfl (node_store hms1 hnm1 hkd1) rfl (hs' := _ :: _) rfl (zk (zr (zq (zL rfl (zt 0 rfl) ag26 sz26 rfl) (WO.cV rfl (oLc rfl oz) rfl hT1 (SubR.t (SubR.appl (SubR.s hro))) rfl (zm rfl (zq (Q.extract rfl rfl) (zq (Q.extract rfl rfl) (za rfl (za rfl (zk (W.seq (zr (zm rfl (zq (Q.bin rfl (zi 0) rfl (bv_neq ne_nat)) (zk (W.cD rfl (fun hc22 => ?_) (fun hc22 => ?_))))))))))))))))))))))))
  ·refine zr (zm rfl (za rfl (za rfl (zk (W.sub (zc 3 rfl (zc 2 rfl zzn)) (W.ret ?_))))))
   refine End.Kr (End.Br (End.Kr (End.Lr (End.Br (End.Kr (End.ret (ResL.tmp rfl (z1 rfl)) (hs' := []) (kinds_err (i := i) zy hz zy) (fun e h => no_w h) (SubH.nil _)))))))
  refine zw (W.reg (zm rfl (zm rfl (WO.bslice ud40 sz3 zr3 rfl (opc rfl oPs_nil) rfl (cs := [_]) rfl rfl rfl (fun b3 => WO.appOwn (e := ⟨b3, _, true⟩) (A := ([_] ++ hs)) ap40_40 hO rfl rfl rfl rfl ⟨by first | omega | (simp at * <;> omega), by first | omega | (simp at * <;> omega)⟩ (by decide) rfl rfl (fun v27 hp27 hO27 => za rfl (WO.nil (End.KB (End.K (W.sub (zc 4 rfl (zc 10 rfl (zc 11 rfl (zc 12 rfl zzn)))) (W.reg (zq (Q.bin rfl (zi 1) rfl zp) (zm rfl (WO.nil (End.KL (W.sub zv (W.sH (SubH.of_sublist (by simp)) (ih0 (i + 1) (v27) (hp27) ?_ ?_))))))))))))))))))
  ·exact ⟨by omega, fun j h => by rcases Nat.lt_or_ge j i with g | g; exact hz j g; have hji : j = i := zy; rw [hji]; omega, by simpa [kl_succ, ints_snoc] using hO27⟩
  exact zo
 refine W.exit (End.Kx (End.Lx (End.Bh (End.K (zr (zm rfl (za rfl (za (zi 0) (zk (W.ret ?_))))))))))
 refine End.ret (ResL.tmp rfl (z1 rfl)) (hs' := hp) (kinds_ok (i := i) zy hz hO) hO.w (SubH.of_sublist (by simp))
theorem ISl.ro {hs : HSt} {A : List Nat} {v : AV} (h : ISl hs A v) : ISl (ro hs) A v := h.imp id fun ⟨b, ex, h1, h2⟩ => ⟨b, ex, h1, h2.ro⟩
theorem kl_ty {len : Nat} {ty er : Nat → Nat} (hty : ∀ i, i < len → er i = 0 → 1 ≤ ty i ∧ ty i ≤ 3) (he : errM er len = 0) : ∀ x ∈ kl ty len, 1 ≤ x ∧ x ≤ 3 := by
 intro x hx
 obtain ⟨j, hj, rfl⟩ := kl_mem hx
 exact hty j hj (errM_all he j hj)
def typeM (k : Int) (op : List Nat) (rg md sd : Int) (bl : Bool) (len : Nat) (ty er : Nat → Nat) : Nat × Nat :=
 if k = 3 ∧ (callM op).2 = 0 then (0, 9)
 else if errM er len ≠ 0 then (0, errM er len)
 else if wholeM k op rg md sd bl (kl ty len) = 0 then (0, 16)
 else (wholeM k op rg md sd bl (kl ty len), 0)
theorem type_spec (k : Int) (op : List Nat) (ho : Bytes op) (n : Int) (ms : AV) (rg off md : Int) (nm : AV) (sd : Int) (bl : Bool) (hms : ms.isCell = true) (hnm : nm.isCell = true) (hs : HSt) (hro : ∀ e ∈ hs, e.w = false) (d : Nat) (kd : AV) (len : Nat) (hkd : kd.isCell = true) (hlen : lenA (.slice 26) kd = some len) (hl : len ≤ 1048576) (kc : Nat → List AV) (hK : ∀ i, i < len → ∃ b ob, kd = .slice b 0 len 11 ∧ MemH hs b ob ∧ sub? ob.cells ((0 + i) * 11) 11 = some (kc i) ∧ NRep hs d (kc i)) (ty er : Nat → Nat) (HT : ∀ i, i < len → Spec tab 35 [.agg (kc i)] [] hs (Val (.tuple [.int .i64 ((ty i : Nat) : Int), .int .i64 ((er i : Nat) : Int)]))) (hty : ∀ i, i < len → er i = 0 → 1 ≤ ty i ∧ ty i ≤ 3) : Spec tab 35 [.agg (nodeC k op n ms rg off md nm sd bl kd)] [] hs (Val (.tuple [.int .i64 (((typeM k op rg md sd bl len ty er).1 : Nat) : Int), .int .i64 (((typeM k op rg md sd bl len ty er).2 : Nat) : Int)])) := by
 refine Spec.en (ftg 35 Tryz.func35) rfl (m := 36) rfl (rs := [.tmp 2, .tmp 3]) rfl (st := [(0, .agg (nodeC k op n ms rg off md nm sd bl kd))]) rfl rfl (fun _ => rfl) (fun E => zr (WO.box rfl (node_cells hms hnm hkd) (bx26 _ rfl) rfl (fun b1 => za (zi 0) (za (zi 0) (zk (W.seq (zr (zf fa26_1 rfl 1 (zq (Q.l1 rfl (zt 0 rfl) ag9 rfl) (WO.cV rfl (oLc rfl oz) rfl (call_spec _ ho) SubR.nil rfl (zm rfl (zq (Q.extract rfl rfl) (zq (Q.extract rfl rfl) (WO.alloc ao112 rfl (fun b2 => zS3 sz112 rfl rfl (i := 0) rfl rfl rfl (hs' := _ :: _ :: _) rfl (za rfl (zk (zr (zf fa26_0 rfl 0 (zq (Q.l1 rfl (zt 1 rfl) ag3 rfl) (zq (Q.bin rfl (zi 3) rfl (bv_eql eq_int)) (zm rfl (WO.sD (d := 18) rfl (fun hc18 => ?_) (fun hc18 => ?_))))))))))))))))))))))))
 ·refine zT (zm rfl (zT (zq (Q.bin rfl (zi 0) rfl (bv_eql eq_nat)) (zq (Q.pT rfl rfl) (zk (W.sub (zc 21 rfl (zc 1 rfl zzn)) (W.cD rfl (fun hc21 => ?_) (fun hc21 => ?_))))))))
  ·refine zr (za (zi 0) (za (zi 9) (zk (W.ret (End.Kr (End.rV (ResL.tmp rfl (z1 rfl)) ?_))))))
   (simp only [oneOf]; unfold typeM; (repeat' split) <;> first | rfl | (exfalso; omega) | (simp_all; done) | grind)
  refine zw (zr (zq (zL rfl (zt 1 rfl) ag26 sz26 rfl) (WO.call0 rfl (oLc rfl oz) rfl (kinds_spec k op ho n ms rg off md nm sd bl hms hnm hs hro d kd len hkd hlen hl kc hK ty er HT) (SubR.t (SubR.t (SubR.s hro))) rfl (fun v24 D24 hP24 => ?_))))
  obtain ⟨va, rfl, hva, hA⟩ := hP24
  refine WO.subH (hs' := _ :: _ :: (hs ++ D24)) (SubH.op (perm_tail (N := []) (G := D24) (K := [_, _]) (X := hs))) (zm rfl (zq (Q.extract rfl rfl) (zq (Q.extract rfl rfl) (za rfl (za rfl (zk (W.seq (zr (zm rfl (zq (Q.bin rfl (zi 0) rfl (bv_neq ne_nat)) (zk (W.cD rfl (fun hc28 => ?_) (fun hc28 => ?_)))))))))))))
  ·refine zr (zm rfl (za (zi 0) (za rfl (zk (W.ret (End.Kr (End.rV (ResL.tmp rfl (z1 rfl)) ?_)))))))
   (simp only [oneOf]; unfold typeM; (repeat' split) <;> first | rfl | (exfalso; omega) | (simp_all; done) | grind)
  refine zw (zr (zq (zL rfl (zt 1 rfl) ag26 sz26 rfl) (zm rfl (WO.cV rfl (oLc rfl (oLc rfl oz)) rfl (whole_spec k op ho n ms rg off md nm sd bl kd hms hnm hkd (ro D24) (kl ty len) va ((hA zy).ro) (by rw [kl_len]; omega) ro_w (kl_ty hty zy)) (SubR.t (SubR.t (SubR.appr (SubR.ro (SubH.refl _))))) rfl (za rfl (zk (W.sub (zc 8 rfl zzn) (W.seq (zr (zm rfl (zq (Q.bin rfl (zi 0) rfl (bv_eql eq_nat)) (zk (W.cD rfl (fun hc34 => ?_) (fun hc34 => ?_))))))))))))))
  ·refine zr (za (zi 0) (za (zi 16) (zk (W.ret (End.Kr (End.rV (ResL.tmp rfl (z1 rfl)) ?_))))))
   (simp only [oneOf]; unfold typeM; (repeat' split) <;> first | rfl | (exfalso; omega) | (simp_all; done) | grind)
  refine zw (zr (zm rfl (za rfl (za (zi 0) (zk (W.ret (End.rV (ResL.tmp rfl (z1 rfl)) ?_)))))))
  (simp only [oneOf]; unfold typeM; (repeat' split) <;> first | rfl | (exfalso; omega) | (simp_all; done) | grind)
 refine zG (zG (zq (Q.pF rfl rfl) (zk (W.sub (zc 21 rfl (zc 1 rfl zzn)) (W.condF rfl (zw (zr (zq (zL rfl (zt 1 rfl) ag26 sz26 rfl) (WO.call0 rfl (oLc rfl oz) rfl (kinds_spec k op ho n ms rg off md nm sd bl hms hnm hs hro d kd len hkd hlen hl kc hK ty er HT) (SubR.t (SubR.t (SubR.s hro))) rfl (fun v24 D24 hP24 => ?_))))))))))
 obtain ⟨va, rfl, hva, hA⟩ := hP24
 refine WO.subH (hs' := _ :: _ :: (hs ++ D24)) (SubH.op (perm_tail (N := []) (G := D24) (K := [_, _]) (X := hs))) (zm rfl (zq (Q.extract rfl rfl) (zq (Q.extract rfl rfl) (za rfl (za rfl (zk (W.seq (zr (zm rfl (zq (Q.bin rfl (zi 0) rfl (bv_neq ne_nat)) (zk (W.cD rfl (fun hc28 => ?_) (fun hc28 => ?_)))))))))))))
 ·refine zr (zm rfl (za (zi 0) (za rfl (zk (W.ret (End.Kr (End.rV (ResL.tmp rfl (z1 rfl)) ?_)))))))
  (simp only [oneOf]; unfold typeM; (repeat' split) <;> first | rfl | (exfalso; omega) | (simp_all; done) | grind)
 refine zw (zr (zq (zL rfl (zt 1 rfl) ag26 sz26 rfl) (zm rfl (WO.cV rfl (oLc rfl (oLc rfl oz)) rfl (whole_spec k op ho n ms rg off md nm sd bl kd hms hnm hkd (ro D24) (kl ty len) va ((hA zy).ro) (by rw [kl_len]; omega) ro_w (kl_ty hty zy)) (SubR.t (SubR.t (SubR.appr (SubR.ro (SubH.refl _))))) rfl (za rfl (zk (W.sub (zc 8 rfl zzn) (W.seq (zr (zm rfl (zq (Q.bin rfl (zi 0) rfl (bv_eql eq_nat)) (zk (W.cD rfl (fun hc34 => ?_) (fun hc34 => ?_))))))))))))))
 ·refine zr (za (zi 0) (za (zi 16) (zk (W.ret (End.Kr (End.rV (ResL.tmp rfl (z1 rfl)) ?_))))))
  (simp only [oneOf]; unfold typeM; (repeat' split) <;> first | rfl | (exfalso; omega) | (simp_all; done) | grind)
 refine zw (zr (zm rfl (za rfl (za (zi 0) (zk (W.ret (End.rV (ResL.tmp rfl (z1 rfl)) ?_)))))))
 (simp only [oneOf]; unfold typeM; (repeat' split) <;> first | rfl | (exfalso; omega) | (simp_all; done) | grind)
theorem ISl.mono {hs hs' : HSt} (hm : ∀ e ∈ hs, e ∈ hs') {A : List Nat} {v : AV} (h : ISl hs A v) : ISl hs' A v := h.imp id fun ⟨b, ex, h1, w, h2⟩ => ⟨b, ex, h1, w, hm _ h2⟩
theorem ISl.app {hs hs' : HSt} {A : List Nat} {v : AV} (h : ISl hs A v) : ISl (hs' ++ hs) A v := h.mono fun _ => List.mem_append_right _
theorem ISl.appl {hs hs' : HSt} {A : List Nat} {v : AV} (h : ISl hs A v) : ISl (hs ++ hs') A v := h.mono fun _ => List.mem_append_left _
theorem ISl.tl {hs : HSt} {e : HE} {A : List Nat} {v : AV} (h : ISl hs A v) : ISl (e :: hs) A v := h.mono fun _ => List.mem_cons_of_mem _
theorem ISl.at_ {hs : HSt} {b n : Nat} {ex : Bool} {A : List Nat} (hn : A.length = n := by rfl) : ISl (⟨b, ⟨1, ex, ints A⟩, true⟩ :: hs) A (.slice b 0 n 1) := .inr ⟨b, ex, by rw [hn], true, by simp⟩
theorem call_take (op : List Nat) : (callM op).1.length ≤ 3 ∧ ∀ x ∈ (callM op).1, 1 ≤ x := by
 unfold callM
 (repeat' split) <;> exact ⟨by decide, by decide⟩
def fin (w : Nat) : Nat × Nat := if w = 0 then (0, 16) else (w, 0)
def wholeR (k : Int) (op : List Nat) (rg md sd : Int) (bl : Bool) (A : List Nat) : Nat :=
 if k = 1 then 1 else if k = 2 then (if 0 < rg then 3 else 2)
 else if k = 3 then (if A = (callM op).1 then (callM op).2 else 0)
 else if k = 4 then (if op = [116, 111, 112, 107] ∨ op = [98, 111, 116, 116, 111, 109, 107] then (if A = [1, 2] then 2 else 0) else (if A = [2] then 2 else 0))
 else if k = 5 then (if A.length = 2 then (if (rightM op md sd bl (A.getD 0 0) (A.getD 1 0)).2 = true then (rightM op md sd bl (A.getD 0 0) (A.getD 1 0)).1 else 0) else 0)
 else if k = 6 then (if A.length = 1 ∧ ¬ A.getD 0 0 = 3 then A.getD 0 0 else 0)
 else 0
theorem oper_right {op : List Nat} {md sd : Int} {bl : Bool} {a b : Nat} : operM op md sd bl a b = if (rightM op md sd bl a b).2 = true then (rightM op md sd bl a b).1 else 0 := by
 unfold operM rightM
 split
 ·rfl
 ·split
  ·simp
  ·split
   ·cases bl <;> simp
   ·rfl
theorem P3_iff {X A : List Nat} (hX : ∀ x ∈ X, 1 ≤ x) (h3 : X.length ≤ 3) (hA : ∀ x ∈ A, 1 ≤ x) : (A.length ≤ 3 ∧ P3 X A) ↔ A = X := by
 constructor
 ·rintro ⟨h1, h2⟩
  exact ((pad_inj hX hA h3 h1).1 h2).symm
 ·rintro rfl
  exact ⟨h3, rfl, rfl, rfl⟩
theorem whole_right {k : Int} {op : List Nat} {rg md sd : Int} {bl : Bool} {A : List Nat} (hA : ∀ x ∈ A, 1 ≤ x) : wholeM k op rg md sd bl A = wholeR k op rg md sd bl A := by
 have h3 := P3_iff (call_take op).2 (call_take op).1 hA
 have h12 := P3_iff (X := [1, 2]) (by decide) (by decide) hA
 have h2 := P3_iff (X := [2]) (by decide) (by decide) hA
 unfold wholeM wholeR
 simp only [h3, oper_right]
 split
 ·rfl
 split
 ·rfl
 split
 ·rfl
 split
 ·split
  ·simp only [h12]
  ·simp only [h2]
 ·rfl
theorem right_le {op : List Nat} {md sd : Int} {bl : Bool} {a b : Nat} (ha : a ≤ 3) (hb : b ≤ 3) : (rightM op md sd bl a b).1 ≤ 3 := by
 unfold rightM
 (repeat' split) <;> simp_all <;> omega
theorem call_le {op : List Nat} : (callM op).2 ≤ 3 := by
 unfold callM
 (repeat' split) <;> decide
theorem getD_le {A : List Nat} {i : Nat} (h : ∀ x ∈ A, x ≤ 3) : A.getD i 0 ≤ 3 := by
 rw [List.getD_eq_getElem?_getD]
 cases e : A[i]? with
 | none => exact Nat.zero_le _
 | some x => exact h x (List.mem_of_getElem? e)
theorem wholeR_le {k : Int} {op : List Nat} {rg md sd : Int} {bl : Bool} {A : List Nat} (h : ∀ x ∈ A, x ≤ 3) : wholeR k op rg md sd bl A ≤ 3 := by
 unfold wholeR
 (repeat' split) <;> first | decide | exact call_le | exact right_le (getD_le h) (getD_le h) | exact getD_le h
theorem typeM_ok {k : Int} {op : List Nat} {rg md sd : Int} {bl : Bool} {len : Nat} {ty er : Nat → Nat} (hty : ∀ i, i < len → er i = 0 → 1 ≤ ty i ∧ ty i ≤ 3)
  (h : (typeM k op rg md sd bl len ty er).2 = 0) : 1 ≤ (typeM k op rg md sd bl len ty er).1 ∧ (typeM k op rg md sd bl len ty er).1 ≤ 3 := by
 by_cases h1 : k = 3 ∧ (callM op).2 = 0
 ·exfalso
  unfold typeM at h
  rw [if_pos h1] at h
  simp at h
 by_cases h2 : errM er len ≠ 0
 ·exfalso
  unfold typeM at h
  rw [if_neg h1, if_pos h2] at h
  exact h2 h
 have he := Decidable.not_not.1 h2
 have hk := kl_ty hty he
 have hw : wholeM k op rg md sd bl (kl ty len) ≤ 3 := by
  rw [whole_right fun x hx => (hk x hx).1]
  exact wholeR_le fun x hx => (hk x hx).2
 by_cases h3 : wholeM k op rg md sd bl (kl ty len) = 0
 ·exfalso
  unfold typeM at h
  rw [if_neg h1, if_neg h2, if_pos h3] at h
  simp at h
 unfold typeM
 rw [if_neg h1, if_neg h2, if_neg h3]
 exact ⟨by simp only; omega, hw⟩
def tpair (t e : Nat) : AV := .tuple [.int .i64 ((t : Nat) : Int), .int .i64 ((e : Nat) : Int)]
end Go.Proofs.YtndhhgbpcmfeiaaGreatDoor.Ev.P16
