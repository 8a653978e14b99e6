/- Chapter 17, walks: types. -/
import Derived.Test.YtndhhgbpcmfeiaaGreatDoorOV2
import Derived.Test.YtndhhgbpcmfeiaaGreatDoorOAwJ
namespace Go.Proofs.YtndhhgbpcmfeiaaGreatDoor.Ev.P16
open Go.RowKit
set_option maxRecDepth 100000
set_option maxHeartbeats 1000000
theorem zO {hs0 hs : ak} {A : List Nat} {v : AV} (h : ISl hs0 A v) (hm : ∀ b o, MemH hs0 b o -> MemH hs b o) : ∀ hp, du hs hp -> dU hp.objs 1 v = some (A.length, jg A) := by
 intro hp hk
 rcases h with ⟨rfl, rfl⟩ | ⟨b, ex, rfl, hmem⟩
 ·rfl
 ·obtain ⟨w, hw⟩ := hm _ _ hmem
  exact fg (hk _ hw) (by rw [Nat.zero_mul]; exact ld (by simp [jg]))
theorem Eu {A : List Nat} : db [.int .i64 0, .int .i64 0, .int .i64 0] (0 * 1) ((jg A).take (min A.length 3 * 1)) = pY A := by
 match A with
 | [] => rfl
 | [a] => rfl
 | [a, b] => rfl
 | a :: b :: c :: r =>
  have e : min (a :: b :: c :: r).length 3 * 1 = 3 := by simp only [List.length_cons]; omega
  rw [e]
  rfl
def P3 (X A : List Nat) : Prop := X.getD 0 0 = A.getD 0 0 /\ X.getD 1 0 = A.getD 1 0 /\ X.getD 2 0 = A.getD 2 0
instance (X A : List Nat) : Decidable (P3 X A) := by unfold P3; infer_instance
def cC (k : Int) (op : List Nat) (rg md sd : Int) (bl : Bool) (A : List Nat) : Nat :=
 if k = 1 then 1 else if k = 2 then (if 0 < rg then 3 else 2)
 else if k = 3 then (if A.length <= 3 /\ P3 (dn op).1 A then (dn op).2 else 0)
 else if k = 4 then (if A.length <= 3 /\ P3 (if op = [116, 111, 112, 107] \/ op = [98, 111, 116, 116, 111, 109, 107] then [1, 2] else [2]) A then 2 else 0)
 else if k = 5 then (if A.length = 2 then bW op md sd bl (A.getD 0 0) (A.getD 1 0) else 0)
 else if k = 6 then (if A.length = 1 /\ ¬ A.getD 0 0 = 3 then A.getD 0 0 else 0)
 else 0
theorem FE {A : List Nat} (h : ∀ x ∈ A, 1 <= x /\ x <= 3) {i : Nat} (hi : i < A.length) : 1 <= A.getD i 0 /\ A.getD i 0 <= 3 := by
 rw [List.getD_eq_getElem?_getD, List.getElem?_eq_getElem hi]
 exact h _ (List.getElem_mem hi)
theorem G5 : aN.et.get 112 = some true := by kernel_rfl
theorem sx {tb : Tab} {d t : Nat} {k1 k2 : IntKind} {a b : Int} (hu : tb.und t = some (.int k1)) : fk tb (d + 1) t (.int k2 a) (.int k2 b) = some (oG a b) := by
 unfold fk
 simp only [hu, if_pos]
theorem gX {tb : Tab} {t : Nat} {cs : List AV} {o : Nat} {v : AV} (ha : tb.isAgg t = some false) (hc : cs[o]? = some v) : iV tb t cs o = some v := by
 unfold iV; simp only [ha, hc]
theorem sw {tb : Tab} {rec_ : Nat -> AV -> AV -> Option Bool} {e m i k : Nat} {xs ys : List AV} {a b : AV} {p q : Bool} (hx : iV tb e xs (i * m) = some a) (hy : iV tb e ys (i * m) = some b) (hr : rec_ e a b = some p)
  (hf : gy tb rec_ e m xs ys (i + 1) k = some q) : gy tb rec_ e m xs ys i (k + 1) = some (p && q) := by
 conv => lhs; unfold gy
 simp only [hx, hy, hr]
 cases p
 ·rfl
 ·simpa using hf
theorem Dl {a b c a' b' c' : Int} : co aN .eql 112 (.agg [.int .i64 a, .int .i64 b, .int .i64 c]) (.agg [.int .i64 a', .int .i64 b', .int .i64 c']) = some (.bool (oG a a' && (oG b b' && (oG c c' && true)))) := by
 have h : kp aN 112 (.agg [.int .i64 a, .int .i64 b, .int .i64 c]) (.agg [.int .i64 a', .int .i64 b', .int .i64 c']) = some (oG a a' && (oG b b' && (oG c c' && true))) := by
  unfold kp
  simp only [G5]
  unfold fk
  simp only [FF, di]
  refine sw (gX bU rfl) (gX bU rfl) (sx DB) ?_
  refine sw (gX bU rfl) (gX bU rfl) (sx DB) ?_
  exact sw (gX bU rfl) (gX bU rfl) (sx DB) rfl
 show (match kp aN 112 _ _ with | some b => some (AV.bool b) | none => none) = _
 rw [h]
theorem tc {A B : List Nat} : co aN .eql 112 (.agg (pY A)) (.agg (pY B)) = some (.bool (decide (A.getD 0 0 = B.getD 0 0 /\ A.getD 1 0 = B.getD 1 0 /\ A.getD 2 0 = B.getD 2 0))) := by
 have h := Dl (a := ((A.getD 0 0 : Nat) : Int)) (b := ((A.getD 1 0 : Nat) : Int)) (c := ((A.getD 2 0 : Nat) : Int)) (a' := ((B.getD 0 0 : Nat) : Int)) (b' := ((B.getD 1 0 : Nat) : Int)) (c' := ((B.getD 2 0 : Nat) : Int))
 show co aN .eql 112 (.agg [_, _, _]) (.agg [_, _, _]) = _
 rw [h]
 congr 2
 rw [bj, bj, bj, Bool.eq_iff_iff]
 simp only [Bool.and_true, Bool.and_eq_true, decide_eq_true_eq, Int.ofNat_inj]
theorem EO {A B : List Nat} (ha : ∀ x ∈ A, 1 <= x) (hb : ∀ x ∈ B, 1 <= x) (h3 : A.length <= 3) (h3' : B.length <= 3) : (A.getD 0 0 = B.getD 0 0 /\ A.getD 1 0 = B.getD 1 0 /\ A.getD 2 0 = B.getD 2 0) ↔ A = B := by
 constructor
 ·rintro ⟨h0, h1, h2⟩
  match A, B with
  | [], [] => rfl
  | [], b :: _ => have := hb b (by simp); simp at h0; omega
  | a :: _, [] => have := ha a (by simp); simp at h0; omega
  | [a], [b] => simp at h0; rw [h0]
  | [a], b :: c :: _ => have := hb c (by simp); simp at h1; omega
  | a :: c :: _, [b] => have := ha c (by simp); simp at h1; omega
  | [a, b], [c, d] => simp at h0 h1; rw [h0, h1]
  | [a, b], c :: d :: e :: _ => have := hb e (by simp); simp at h2; omega
  | a :: b :: e :: _, [c, d] => have := ha e (by simp); simp at h2; omega
  | [a, b, c], [a', b', c'] => simp at h0 h1 h2; rw [h0, h1, h2]
  | a :: b :: c :: x :: _, _ => simp at h3
  | _, a :: b :: c :: x :: _ => simp at h3'
 ·rintro rfl
  exact ⟨rfl, rfl, rfl⟩
theorem s7 (hs : ak) (A : List Nat) (va : AV) (hA : ISl hs A va) (hl : A.length <= 1048576) : Spec aN 101 [va] [] hs (fJ (.tuple [.agg (pY A), .bool (decide (A.length <= 3))])) := by
 refine av (cX 101 Tryz.func101) rfl (m := 12) rfl (rs := [.cell 2 112, .tmp 3]) rfl (st := [(0, va)]) rfl rfl (fun _ => rfl) (fun E => zr (WO.alloc oU rfl (fun b1 => za rfl (zk (zr (WO.alloc oU rfl (fun b2 => zk (zr (zq (AF FF di rfl (zt 0 rfl) rfl) (zm rfl (WO.copy bc di rfl rfl (zO hA (fun _ _ m => m.tl.tl)) (i := 0) rfl rfl Eu (hs' := _ :: _ :: _) rfl rfl (zk (zr (zq (aU rfl (zt 0 rfl) dR bT (l := [_, _, _]) rfl) (zm rfl (zq (Q.len bc rfl (sT hA)) (zq (aa rfl (zi 3) rfl (dT bZ)) (kL bT rfl rfl (i := 1) rfl rfl rfl (hs' := _ :: _ :: _) rfl (za rfl (zk (W.ret (ae (oq rfl (zt 1 rfl) dR bT rfl (z1 rfl)) ?_))))))))))))))))))))))
 rfl

theorem qw (k : Int) (op : List Nat) (ho : Bytes op) (n : Int) (ms : AV) (rg off md : Int) (nm : AV) (sd : Int) (bl : Bool) (kd : AV) (hms : ms.isCell = true) (hnm : nm.isCell = true) (hkd : kd.isCell = true) (hs : ak) (A : List Nat) (va : AV) (hA : ISl hs A va) (hl : A.length <= 1048576) (hro : ∀ e ∈ hs, e.w = false) (hT : ∀ x ∈ A, 1 <= x /\ x <= 3) : Spec aN 68 [.agg (bS k op n ms rg off md nm sd bl kd), va] [] hs (fJ (.int .i64 ((cC k op rg md sd bl A : Nat) : Int))) := by
 refine av (cX 68 Tryz.func68) rfl (m := 84) rfl (rs := [.tmp 4]) rfl (st := [(0, .agg (bS k op n ms rg off md nm sd bl kd)), (1, va)]) rfl rfl (fun _ => rfl) (fun E => zr (WO.box rfl (bV hms hnm hkd) (l0 _ rfl) rfl (fun b1 => za (zi 0) (zk (zr (zm rfl (aJ rfl (aD rfl oz) rfl (s7 hs A _ hA hl) (SubR.t (cw hro)) rfl (zm rfl (zq (Q.extract rfl rfl) (zq (Q.extract rfl rfl) (WO.alloc oU rfl (fun b2 => kL bT rfl rfl (i := 0) rfl rfl rfl (hs' := _ :: _ :: _) rfl (za rfl (zk (W.seq (zr (zf ij rfl 0 (zq (ap rfl (zt 1 rfl) bU rfl) (zk (W.block (zr (zq (aa rfl (zi 1) rfl (ag bj)) (za rfl ?_)))))))))))))))))))))))
 refine zk (aw rfl (fun hc17 => ?_) (fun hc17 => ?_))
 ·refine zr (za (zi 1) (zk (W.sub (zc 4 rfl aI) (W.ret (ad (ac (ae (z1 rfl) ?_)))))))
  (simp only [ah]; congr 1; unfold cC P3; (repeat' split) <;> first | rfl | omega | grind)
 refine zr (zq (aa rfl (zi 2) rfl (ag bj)) (za rfl (zk (aw rfl (fun hc19 => ?_) (fun hc19 => ?_)))))
 ·refine W.seq (zr (zf lw rfl 4 (zq (ap rfl (zt 1 rfl) bU rfl) (zq (aa rfl (zi 0) rfl (aV (cp _ _))) (zk (W.sub (zc 23 rfl aI) (aw rfl (fun hc23 => ?_) (fun hc23 => ?_))))))))
  ·refine zr (za (zi 3) (zk (W.ret (ac (ad (ac (ae (z1 rfl) ?_)))))))
   (simp only [ah]; congr 1; unfold cC P3; (repeat' split) <;> first | rfl | omega | grind)
  refine zw (zr (za (zi 2) (zk (W.ret (ad (ac (ae (z1 rfl) ?_)))))))
  (simp only [ah]; congr 1; unfold cC P3; (repeat' split) <;> first | rfl | omega | grind)
 refine zr (zq (aa rfl (zi 3) rfl (ag bj)) (za rfl (zk (aw rfl (fun hc24 => ?_) (fun hc24 => ?_)))))
 ·refine zr (zf ik rfl 1 (zq (ap rfl (zt 1 rfl) fW rfl) (aJ rfl (aD rfl oz) rfl (qU _ ho) SubR.nil rfl (zm rfl (zq (Q.extract rfl rfl) (zq (Q.extract rfl rfl) (WO.alloc oU rfl (fun b3 => kL bT rfl rfl (i := 0) rfl rfl rfl (hs' := _ :: _ :: _ :: _) rfl (za rfl (zk (W.sub (zc 8 rfl (zc 7 rfl (zc 6 rfl (zc 5 rfl aI)))) (zr (zm rfl (zm rfl (ay (d := 33) rfl (fun hc33 => ?_) (fun hc33 => ?_))))))))))))))))
  ·refine zT (zq (aU rfl (zt 0 rfl) dR bT (l := [_, _, _]) rfl) (zT (zq (aU rfl (zt 1 rfl) dR bT (l := [_, _, _]) rfl) (zT (zq (aa rfl rfl rfl (tc (A := (dn op).1) (B := A))) (zq (aj rfl rfl) (zk (aw rfl (fun hc37 => ?_) (fun hc37 => ?_)))))))))
   ·refine zr (zm rfl (za rfl (zk (W.ret (ad (ac (ae (z1 rfl) ?_)))))))
    (simp only [ah]; congr 1; unfold cC P3; (repeat' split) <;> first | rfl | omega | grind)
   refine W.skip (End.KB (End.K (zr (za (zi 0) (zk (W.ret (ae (z1 rfl) ?_)))))))
   (simp only [ah]; congr 1; unfold cC P3; (repeat' split) <;> first | rfl | omega | grind)
  refine z2 (zG (zq (ax rfl rfl) (zk (az rfl (W.skip (End.KB (End.K (zr (za (zi 0) (zk (W.ret (ae (z1 rfl) ?_))))))))))))
  (simp only [ah]; congr 1; unfold cC P3; (repeat' split) <;> first | rfl | omega | grind)
 refine zr (zq (aa rfl (zi 4) rfl (ag bj)) (za rfl (zk (W.sub (zc 39 rfl (zc 16 rfl (zc 6 rfl (zc 5 rfl (zc 2 rfl (zc 1 rfl aI)))))) (aw rfl (fun hc39 => ?_) (fun hc39 => ?_))))))
 ·refine zr (zq (Q.build fo (bz (zi 2) aq) rfl (cs := [_, _, _]) rfl) (WO.alloc oU rfl (fun b4 => kL bT rfl rfl (i := 0) rfl rfl rfl (hs' := _ :: _ :: _ :: _) rfl (zk (W.seq (zr (zf ik rfl 1 (zq (ap rfl (zt 2 rfl) fW rfl) (zq (aa rfl (oc (v := .str [116, 111, 112, 107]) (by kernel_rfl)) rfl aH) (zm rfl (ay (d := 45) rfl (fun hc45 => ?_) (fun hc45 => ?_))))))))))))
  ·refine z2 (zG (zq (aj rfl rfl) (zk (au rfl (am (zq (Q.build fo (bz (zi 1) (bz (zi 2) aq)) rfl (cs := [_, _, _]) rfl) (kL bT rfl rfl (i := 0) rfl rfl rfl (hs' := _ :: _ :: _ :: _) rfl (zk (W.sub (zc 9 rfl (zc 6 rfl (zc 5 rfl aI))) (zr (zm rfl (zm rfl (ay (d := 52) rfl (fun hc52 => ?_) (fun hc52 => ?_))))))))))))))
   ·refine zT (zq (aU rfl (zt 0 rfl) dR bT (l := [_, _, _]) rfl) (zT (zq (aU rfl (zt 1 rfl) dR bT (l := [_, _, _]) rfl) (zT (zq (aa rfl rfl rfl (tc (A := [1, 2]) (B := A))) (zq (aj rfl rfl) (zk (aw rfl (fun hc56 => ?_) (fun hc56 => ?_)))))))))
    ·refine zr (za (zi 2) (zk (W.ret (ad (ac (ae (z1 rfl) ?_))))))
     (simp only [ah]; congr 1; unfold cC P3; (repeat' split) <;> first | rfl | omega | grind)
    refine W.skip (End.KB (End.K (zr (za (zi 0) (zk (W.ret (ae (z1 rfl) ?_)))))))
    (simp only [ah]; congr 1; unfold cC P3; (repeat' split) <;> first | rfl | omega | grind)
   refine z2 (zG (zq (ax rfl rfl) (zk (az rfl (W.skip (End.KB (End.K (zr (za (zi 0) (zk (W.ret (ae (z1 rfl) ?_))))))))))))
   (simp only [ah]; congr 1; unfold cC P3; (repeat' split) <;> first | rfl | omega | grind)
  refine zT (zf ik rfl 1 (zT (zq (ap rfl (zt 2 rfl) fW rfl) (zT (zq (aa rfl (oc (v := .str [98, 111, 116, 116, 111, 109, 107]) (by kernel_rfl)) rfl aH) (zq (ax rfl rfl) (zk (aw rfl (fun hc49 => ?_) (fun hc49 => ?_)))))))))
  ·refine am (zq (Q.build fo (bz (zi 1) (bz (zi 2) aq)) rfl (cs := [_, _, _]) rfl) (kL bT rfl rfl (i := 0) rfl rfl rfl (hs' := _ :: _ :: _ :: _) rfl (zk (W.sub (zc 9 rfl (zc 6 rfl (zc 5 rfl aI))) (zr (zm rfl (zm rfl (ay (d := 52) rfl (fun hc52 => ?_) (fun hc52 => ?_)))))))))
   ·refine zT (zq (aU rfl (zt 0 rfl) dR bT (l := [_, _, _]) rfl) (zT (zq (aU rfl (zt 1 rfl) dR bT (l := [_, _, _]) rfl) (zT (zq (aa rfl rfl rfl (tc (A := [1, 2]) (B := A))) (zq (aj rfl rfl) (zk (aw rfl (fun hc56 => ?_) (fun hc56 => ?_)))))))))
    ·refine zr (za (zi 2) (zk (W.ret (ad (ac (ae (z1 rfl) ?_))))))
     (simp only [ah]; congr 1; unfold cC P3; (repeat' split) <;> first | rfl | omega | grind)
    refine W.skip (End.KB (End.K (zr (za (zi 0) (zk (W.ret (ae (z1 rfl) ?_)))))))
    (simp only [ah]; congr 1; unfold cC P3; (repeat' split) <;> first | rfl | omega | grind)
   refine z2 (zG (zq (ax rfl rfl) (zk (az rfl (W.skip (End.KB (End.K (zr (za (zi 0) (zk (W.ret (ae (z1 rfl) ?_))))))))))))
   (simp only [ah]; congr 1; unfold cC P3; (repeat' split) <;> first | rfl | omega | grind)
  refine zw (zr (zm rfl (zm rfl (ay (d := 52) rfl (fun hc52 => ?_) (fun hc52 => ?_)))))
  ·refine zT (zq (aU rfl (zt 0 rfl) dR bT (l := [_, _, _]) rfl) (zT (zq (aU rfl (zt 1 rfl) dR bT (l := [_, _, _]) rfl) (zT (zq (aa rfl rfl rfl (tc (A := [2]) (B := A))) (zq (aj rfl rfl) (zk (W.sub (zc 56 rfl aI) (aw rfl (fun hc56 => ?_) (fun hc56 => ?_))))))))))
   ·refine zr (za (zi 2) (zk (W.ret (ad (ac (ae (z1 rfl) ?_))))))
    (simp only [ah]; congr 1; unfold cC P3; (repeat' split) <;> first | rfl | omega | grind)
   refine W.skip (End.KB (End.K (zr (za (zi 0) (zk (W.ret (ae (z1 rfl) ?_)))))))
   (simp only [ah]; congr 1; unfold cC P3; (repeat' split) <;> first | rfl | omega | grind)
  refine z2 (zG (zq (ax rfl rfl) (zk (W.sub (zc 56 rfl aI) (az rfl (W.skip (End.KB (End.K (zr (za (zi 0) (zk (W.ret (ae (z1 rfl) ?_)))))))))))))
  (simp only [ah]; congr 1; unfold cC P3; (repeat' split) <;> first | rfl | omega | grind)
 refine zr (zq (aa rfl (zi 5) rfl (ag bj)) (za rfl (zk (aw rfl (fun hc57 => ?_) (fun hc57 => ?_)))))
 ·refine zr (zm rfl (zq (Q.len bc rfl (sT hA)) (zq (aa rfl (zi 2) rfl (ag aA)) (zk (aw rfl (fun hc61 => ?_) (fun hc61 => ?_))))))
  ·obtain ⟨ba, exa, rfl, wa, ma⟩ := ue hA zy
   refine W.seq (dz (by kernel_rfl) (zq (zL rfl (zt 1 rfl) bh aL rfl) (zm rfl (zq (cR bc di rfl (zi 0) zo (o' := 0) rfl) (zq (ap rfl (List.mem_cons_of_mem _ (List.mem_cons_of_mem _ ma)) bU (gk (i := 0) zo)) (zm rfl (zq (cR bc di rfl (zi 1) zo (o' := 1) rfl) (zq (ap rfl (List.mem_cons_of_mem _ (List.mem_cons_of_mem _ ma)) bU (gk (i := 1) zo)) (aJ rfl (aD rfl (aD rfl (aD rfl oz))) rfl (Ae _ _ ho _ _ _ _ _ _ _ _ _ hms hnm hkd _ _ (FE hT zo) (FE hT zo)) SubR.nil rfl (za rfl (zk (W.sub (zc 4 rfl aI) (W.ret (ad (ac (ae (z1 rfl) ?_))))))))))))))))
   (simp only [ah]; congr 1; unfold cC P3; (repeat' split) <;> first | rfl | omega | grind)
  refine W.skip (End.KB (End.K (zr (za (zi 0) (zk (W.ret (ae (z1 rfl) ?_)))))))
  (simp only [ah]; congr 1; unfold cC P3; (repeat' split) <;> first | rfl | omega | grind)
 refine zr (zq (aa rfl (zi 6) rfl (ag bj)) (za rfl (zk (aw rfl (fun hc70 => ?_) (fun hc70 => ?_)))))
 ·refine zr (zm rfl (zq (Q.len bc rfl (sT hA)) (zq (aa rfl (zi 1) rfl (ag aA)) (zm rfl (ay (d := 75) rfl (fun hc75 => ?_) (fun hc75 => ?_))))))
  ·obtain ⟨ba, exa, rfl, wa, ma⟩ := ue hA zy
   refine zT (zm rfl (zT (zq (cR bc di rfl (zi 0) zo (o' := 0) rfl) (zT (zq (ap rfl (List.mem_cons_of_mem _ (List.mem_cons_of_mem _ ma)) bU (gk (i := 0) zo)) (zT (zq (aa rfl (zi 3) rfl (aR cf)) (zq (aj rfl rfl) (zk (W.sub (zc 80 rfl (zc 1 rfl aI)) (aw rfl (fun hc80 => ?_) (fun hc80 => ?_))))))))))))
   ·refine zr (zm rfl (zq (cR bc di rfl (zi 0) zo (o' := 0) rfl) (zq (ap rfl (List.mem_cons_of_mem _ (List.mem_cons_of_mem _ ma)) bU (gk (i := 0) zo)) (za rfl (zk (W.ret (ad (ac (ae (z1 rfl) ?_)))))))))
    (simp only [ah]; congr 1; unfold cC P3; (repeat' split) <;> first | rfl | omega | grind)
   refine W.skip (End.KB (End.K (zr (za (zi 0) (zk (W.ret (ae (z1 rfl) ?_)))))))
   (simp only [ah]; congr 1; unfold cC P3; (repeat' split) <;> first | rfl | omega | grind)
  refine z2 (z2 (zq (ax rfl rfl) (zk (W.sub (zc 80 rfl (zc 1 rfl aI)) (az rfl (W.skip (End.KB (End.K (zr (za (zi 0) (zk (W.ret (ae (z1 rfl) ?_)))))))))))))
  (simp only [ah]; congr 1; unfold cC P3; (repeat' split) <;> first | rfl | omega | grind)
 refine W.skip (End.KB (End.K (zr (za (zi 0) (zk (W.ret (ae (z1 rfl) ?_)))))))
 (simp only [ah]; congr 1; unfold cC P3; (repeat' split) <;> first | rfl | omega | grind)
theorem wo {k : Int} {op : List Nat} {n : Int} {ms : AV} {rg off md : Int} {nm : AV} {sd : Int} {bl : Bool} {kd : AV} (hms : ms.isCell = true) (hnm : nm.isCell = true) (hkd : kd.isCell = true) {ob : AObj} (ho : ob.cells.length = 11 := by rfl) :
  (Nat.beq (AV.agg (bS k op n ms rg off md nm sd bl kd)).cells.length 11 && Nat.ble (0 + 11) ob.cells.length && (AV.agg (bS k op n ms rg off md nm sd bl kd)).cells.all AV.isCell) = true := by
 rw [ho]
 show (true && true && (bS k op n ms rg off md nm sd bl kd).all AV.isCell) = true
 simp only [bS, List.all_cons, List.all_nil, hms, hnm, hkd]
 rfl
def kl (ty : Nat -> Nat) : Nat -> List Nat
 | 0 => []
 | i + 1 => kl ty i ++ [ty i]
theorem Er {ty : Nat -> Nat} {i : Nat} : kl ty (i + 1) = kl ty i ++ [ty i] := rfl
theorem wc {ty : Nat -> Nat} : ∀ {i : Nat}, (kl ty i).length = i
 | 0 => rfl
 | i + 1 => by simp [kl, wc (i := i)]
theorem zN {A : List Nat} {x : Nat} : jg (A ++ [x]) = jg A ++ [.int .i64 ((x : Nat) : Int)] := by simp [jg]
theorem Cb {ty : Nat -> Nat} : ∀ {i : Nat} {x : Nat}, x ∈ kl ty i -> ∃ j, j < i /\ x = ty j
 | 0, x, h => by simp [kl] at h
 | i + 1, x, h => by
  rcases List.mem_append.1 h with h | h
  ·obtain ⟨j, hj, e⟩ := Cb h
   exact ⟨j, by omega, e⟩
  ·exact ⟨i, by omega, by simpa using h⟩
def mf (er : Nat -> Nat) : Nat -> Nat
 | 0 => 0
 | i + 1 => if mf er i = 0 then er i else mf er i
theorem mX {er : Nat -> Nat} : ∀ {i : Nat}, (∀ j, j < i -> er j = 0) -> mf er i = 0
 | 0, _ => rfl
 | i + 1, h => by
  unfold mf
  rw [if_pos (mX fun j hj => h j zy), h i zy]
theorem sy {er : Nat -> Nat} {i : Nat} (he : er i ≠ 0) (hz : ∀ j, j < i -> er j = 0) : ∀ {n : Nat}, i < n -> mf er n = er i
 | 0, h => by omega
 | n + 1, h => by
  unfold mf
  rcases Nat.lt_or_ge i n with g | g
  ·rw [sy he hz g, if_neg he]
  ·have e : i = n := by omega
   subst e
   rw [if_pos (mX hz)]
theorem tS {er : Nat -> Nat} : ∀ {n : Nat}, mf er n = 0 -> ∀ j, j < n -> er j = 0
 | 0, _, j, hj => by omega
 | n + 1, h, j, hj => by
  unfold mf at h
  split at h
  ·rename_i h0
   rcases Nat.lt_or_ge j n with g | g
   ·exact tS h0 j g
   ·have e : j = n := by omega
    rw [e]; exact h
  ·rename_i h0; exact absurd h h0
def vZ (len : Nat) (ty er : Nat -> Nat) : AV -> ak -> Prop := fun v D =>
 ∃ va, v = .tuple [va, .int .i64 ((mf er len : Nat) : Int)] /\ va.isCell = true /\ (mf er len = 0 -> ISl D (kl ty len) va)
theorem zR {len i : Nat} {ty er : Nat -> Nat} (hi : i < len) (hz : ∀ j, j < i -> er j = 0) (he : er i ≠ 0) : vZ len ty er (ah [.nils, .int .i64 ((er i : Nat) : Int)]) [] := by
 refine ⟨.nils, ?_, rfl, fun h => ?_⟩
 ·rw [sy he hz hi]; rfl
 ·rw [sy he hz hi] at h; exact absurd h he
theorem EM {A : List Nat} {n : Nat} {v : AV} {hp : ak} (h : Own 1 (jg A) n v hp) : ISl hp A v := by
 have hl := h.length
 simp [jg] at hl
 rcases h with ⟨rfl, h2, rfl, rfl⟩ | ⟨b, ex, rfl, rfl, _, _⟩
 ·exact .inl ⟨rfl, by simpa [jg] using h2⟩
 ·exact .inr ⟨b, ex, by rw [hl], true, by simp⟩
theorem kB {sz n : Nat} {c : List AV} {v : AV} {hp : ak} (h : Own sz c n v hp) : v.isCell = true := by
 rcases h with ⟨_, _, rfl, _⟩ | ⟨b, ex, rfl, _⟩ <;> rfl
theorem Ca {len i : Nat} {ty er : Nat -> Nat} {v : AV} {hp : ak} (hi : i = len) (hz : ∀ j, j < i -> er j = 0) (hO : Own 1 (jg (kl ty i)) i v hp) : vZ len ty er (ah [v, .int .i64 0]) hp := by
 subst hi
 refine ⟨v, ?_, kB hO, fun _ => EM hO⟩
 rw [mX hz]; rfl
theorem pM (k : Int) (op : List Nat) (ho : Bytes op) (n : Int) (ms : AV) (rg off md : Int) (nm : AV) (sd : Int) (bl : Bool) (hms : ms.isCell = true) (hnm : nm.isCell = true) (hs : ak) (hro : ∀ e ∈ hs, e.w = false) (d : Nat) (kd : AV) (len : Nat) (hkd : kd.isCell = true) (hlen : nx (.slice 26) kd = some len) (hl : len <= 1048576) (kc : Nat -> List AV) (hK : ∀ i, i < len -> ∃ b ob, kd = .slice b 0 len 11 /\ MemH hs b ob /\ cn ob.cells ((0 + i) * 11) 11 = some (kc i) /\ NRep hs d (kc i)) (ty er : Nat -> Nat) (HT : ∀ i, i < len -> Spec aN 35 [.agg (kc i)] [] hs (fJ (.tuple [.int .i64 ((ty i : Nat) : Int), .int .i64 ((er i : Nat) : Int)]))) : Spec aN 67 [.agg (bS k op n ms rg off md nm sd bl kd)] [] hs (vZ len ty er) := by
 refine av (cX 67 Tryz.func67) rfl (m := 30) rfl (rs := [.tmp 2, .tmp 3]) rfl (st := [(0, .agg (bS k op n ms rg off md nm sd bl kd))]) rfl rfl (fun _ => rfl) (fun E => zr (WO.box rfl (bV hms hnm hkd) (l0 _ rfl) rfl (fun b1 => za rfl (za (zi 0) (zk (zr (za rfl (zk (W.seq (zr (zf eW rfl 10 (zq (ap rfl (zt 0 rfl) qA rfl) (zq (Q.len ke rfl hlen) (zq (Q.move (zi 0)) (zk (W.block (dE (fun (i : Nat) (v : AV) (hp : ak) => [(4, v), (10, kd), (11, .int .i64 ((len : Nat) : Int)), (12, .int .i64 ((i : Nat) : Int))]) (fun (i : Nat) (v : AV) (hp : ak) => hs ++ hp) (fun (i : Nat) (v : AV) (hp : ak) => i <= len /\ (∀ j, j < i -> er j = 0) /\ Own 1 (jg (kl ty i)) i v hp) (fun (i : Nat) (v : AV) (hp : ak) => len - i) (0) (.nils) ([]) ⟨Nat.zero_le _, fun j h => by omega, Own.nil 1⟩ zv (SubH.of_sublist (by simp)) (fun i v hp hI0 ih0 => ?_))))))))))))))))))
 obtain ⟨hi, hz, hO⟩ := hI0
 refine zr (zq (aa rfl rfl rfl (ec dM)) (zk (W.seq (aw rfl (fun hc13 => ?_) (fun hc13 => ?_)))))
 ·obtain ⟨bk, ob, rfl, ⟨wk, mk⟩, hs2, hN⟩ := hK i zy
  obtain ⟨k1, op1, n1, ms1, rg1, off1, md1, nm1, sd1, bl1, kd1, hc1, ho1, hms1, hnm1, hkd1⟩ := hN.node
  have hT1 := HT i zy
  rw [hc1] at hs2 hT1
  refine zw (W.seq (W.block (zr (zq (ci ke aL rfl rfl zo) (zq (aU rfl (List.mem_append_left _ mk) bh aL hs2) (WO.alloc ia rfl (fun b2 => zS aL rfl rfl (i := 0) rfl (wo hms1 hnm1 hkd1) rfl (hs' := _ :: _) rfl (zk (zr (zq (zL rfl (zt 0 rfl) bh aL rfl) (aJ rfl (aD rfl oz) rfl hT1 (SubR.t (SubR.appl (cw hro))) rfl (zm rfl (zq (Q.extract rfl rfl) (zq (Q.extract rfl rfl) (za rfl (za rfl (zk (W.seq (zr (zm rfl (zq (aa rfl (zi 0) rfl (aR cf)) (zk (aw rfl (fun hc22 => ?_) (fun hc22 => ?_))))))))))))))))))))))))
  ·refine zr (zm rfl (za rfl (za rfl (zk (W.sub (zc 3 rfl (zc 2 rfl aI)) (W.ret ?_))))))
   refine ac (ad (ac (bE (ad (ac (End.ret (ResL.tmp rfl (z1 rfl)) (hs' := []) (zR (i := i) zy hz zy) (fun e h => j9 h) (SubH.nil _)))))))
  refine zw (am (zm rfl (zm rfl (WO.bslice bc di yY rfl (bz rfl aq) rfl (cs := [_]) rfl rfl rfl (fun b3 => WO.appOwn (e := ⟨b3, _, true⟩) (A := ([_] ++ hs)) fp hO rfl rfl rfl rfl ⟨by first | omega | (simp at * <;> omega), by first | omega | (simp at * <;> omega)⟩ (by decide) rfl rfl (fun v27 hp27 hO27 => za rfl (WO.nil (End.KB (End.K (W.sub (zc 4 rfl (zc 10 rfl (zc 11 rfl (zc 12 rfl aI)))) (am (zq (aa rfl (zi 1) rfl zp) (zm rfl (WO.nil (End.KL (W.sub zv (bX (SubH.of_sublist (by simp)) (ih0 (i + 1) (v27) (hp27) ?_ ?_))))))))))))))))))
  ·exact ⟨by omega, fun j h => by rcases Nat.lt_or_ge j i with g | g; exact hz j g; have hji : j = i := zy; rw [hji]; omega, by simpa [Er, zN] using hO27⟩
  exact zo
 refine W.exit (aC (aK (aB (End.K (zr (zm rfl (za rfl (za (zi 0) (zk (W.ret ?_))))))))))
 refine End.ret (ResL.tmp rfl (z1 rfl)) (hs' := hp) (Ca (i := i) zy hz hO) hO.w (SubH.of_sublist (by simp))
theorem ISl.ro {hs : ak} {A : List Nat} {v : AV} (h : ISl hs A v) : ISl (ro hs) A v := h.imp id fun ⟨b, ex, h1, h2⟩ => ⟨b, ex, h1, h2.ro⟩
theorem Cc {len : Nat} {ty er : Nat -> Nat} (hty : ∀ i, i < len -> er i = 0 -> 1 <= ty i /\ ty i <= 3) (he : mf er len = 0) : ∀ x ∈ kl ty len, 1 <= x /\ x <= 3 := by
 intro x hx
 obtain ⟨j, hj, rfl⟩ := Cb hx
 exact hty j hj (tS he j hj)
def gN (k : Int) (op : List Nat) (rg md sd : Int) (bl : Bool) (len : Nat) (ty er : Nat -> Nat) : Nat × Nat :=
 if k = 3 /\ (dn op).2 = 0 then (0, 9)
 else if mf er len ≠ 0 then (0, mf er len)
 else if cC k op rg md sd bl (kl ty len) = 0 then (0, 16)
 else (cC k op rg md sd bl (kl ty len), 0)
theorem type_spec (k : Int) (op : List Nat) (ho : Bytes op) (n : Int) (ms : AV) (rg off md : Int) (nm : AV) (sd : Int) (bl : Bool) (hms : ms.isCell = true) (hnm : nm.isCell = true) (hs : ak) (hro : ∀ e ∈ hs, e.w = false) (d : Nat) (kd : AV) (len : Nat) (hkd : kd.isCell = true) (hlen : nx (.slice 26) kd = some len) (hl : len <= 1048576) (kc : Nat -> List AV) (hK : ∀ i, i < len -> ∃ b ob, kd = .slice b 0 len 11 /\ MemH hs b ob /\ cn ob.cells ((0 + i) * 11) 11 = some (kc i) /\ NRep hs d (kc i)) (ty er : Nat -> Nat) (HT : ∀ i, i < len -> Spec aN 35 [.agg (kc i)] [] hs (fJ (.tuple [.int .i64 ((ty i : Nat) : Int), .int .i64 ((er i : Nat) : Int)]))) (hty : ∀ i, i < len -> er i = 0 -> 1 <= ty i /\ ty i <= 3) : Spec aN 35 [.agg (bS k op n ms rg off md nm sd bl kd)] [] hs (fJ (.tuple [.int .i64 (((gN k op rg md sd bl len ty er).1 : Nat) : Int), .int .i64 (((gN k op rg md sd bl len ty er).2 : Nat) : Int)])) := by
 refine av (cX 35 Tryz.func35) rfl (m := 36) rfl (rs := [.tmp 2, .tmp 3]) rfl (st := [(0, .agg (bS k op n ms rg off md nm sd bl kd))]) rfl rfl (fun _ => rfl) (fun E => zr (WO.box rfl (bV hms hnm hkd) (l0 _ rfl) rfl (fun b1 => za (zi 0) (za (zi 0) (zk (W.seq (zr (zf ik rfl 1 (zq (ap rfl (zt 0 rfl) fW rfl) (aJ rfl (aD rfl oz) rfl (qU _ ho) SubR.nil rfl (zm rfl (zq (Q.extract rfl rfl) (zq (Q.extract rfl rfl) (WO.alloc oU rfl (fun b2 => kL bT rfl rfl (i := 0) rfl rfl rfl (hs' := _ :: _ :: _) rfl (za rfl (zk (zr (zf ij rfl 0 (zq (ap rfl (zt 1 rfl) bU rfl) (zq (aa rfl (zi 3) rfl (ag bj)) (zm rfl (ay (d := 18) rfl (fun hc18 => ?_) (fun hc18 => ?_))))))))))))))))))))))))
 ·refine zT (zm rfl (zT (zq (aa rfl (zi 0) rfl (ag aA)) (zq (aj rfl rfl) (zk (W.sub (zc 21 rfl (zc 1 rfl aI)) (aw rfl (fun hc21 => ?_) (fun hc21 => ?_))))))))
  ·refine zr (za (zi 0) (za (zi 9) (zk (W.ret (ac (ae (ResL.tmp rfl (z1 rfl)) ?_))))))
   (simp only [ah]; unfold gN; (repeat' split) <;> first | rfl | (exfalso; omega) | (simp_all; done) | grind)
  refine zw (zr (zq (zL rfl (zt 1 rfl) bh aL rfl) (WO.call0 rfl (aD rfl oz) rfl (pM k op ho n ms rg off md nm sd bl hms hnm hs hro d kd len hkd hlen hl kc hK ty er HT) (SubR.t (SubR.t (cw hro))) rfl (fun v24 D24 hP24 => ?_))))
  obtain ⟨va, rfl, hva, hA⟩ := hP24
  refine WO.subH (hs' := _ :: _ :: (hs ++ D24)) (SubH.op (aG (N := []) (G := D24) (K := [_, _]) (X := hs))) (zm rfl (zq (Q.extract rfl rfl) (zq (Q.extract rfl rfl) (za rfl (za rfl (zk (W.seq (zr (zm rfl (zq (aa rfl (zi 0) rfl (aR cf)) (zk (aw rfl (fun hc28 => ?_) (fun hc28 => ?_)))))))))))))
  ·refine zr (zm rfl (za (zi 0) (za rfl (zk (W.ret (ac (ae (ResL.tmp rfl (z1 rfl)) ?_)))))))
   (simp only [ah]; unfold gN; (repeat' split) <;> first | rfl | (exfalso; omega) | (simp_all; done) | grind)
  refine zw (zr (zq (zL rfl (zt 1 rfl) bh aL rfl) (zm rfl (aJ rfl (aD rfl (aD rfl oz)) rfl (qw k op ho n ms rg off md nm sd bl kd hms hnm hkd (ro D24) (kl ty len) va ((hA zy).ro) (by rw [wc]; omega) iH (Cc hty zy)) (SubR.t (SubR.t (SubR.appr (SubR.ro (SubH.refl _))))) rfl (za rfl (zk (W.sub (zc 8 rfl aI) (W.seq (zr (zm rfl (zq (aa rfl (zi 0) rfl (ag aA)) (zk (aw rfl (fun hc34 => ?_) (fun hc34 => ?_))))))))))))))
  ·refine zr (za (zi 0) (za (zi 16) (zk (W.ret (ac (ae (ResL.tmp rfl (z1 rfl)) ?_))))))
   (simp only [ah]; unfold gN; (repeat' split) <;> first | rfl | (exfalso; omega) | (simp_all; done) | grind)
  refine zw (zr (zm rfl (za rfl (za (zi 0) (zk (W.ret (ae (ResL.tmp rfl (z1 rfl)) ?_)))))))
  (simp only [ah]; unfold gN; (repeat' split) <;> first | rfl | (exfalso; omega) | (simp_all; done) | grind)
 refine z2 (zq (ax rfl rfl) (zk (W.sub (zc 21 rfl (zc 1 rfl aI)) (az rfl (zw (zr (zq (zL rfl (zt 1 rfl) bh aL rfl) (WO.call0 rfl (aD rfl oz) rfl (pM k op ho n ms rg off md nm sd bl hms hnm hs hro d kd len hkd hlen hl kc hK ty er HT) (SubR.t (SubR.t (cw hro))) rfl (fun v24 D24 hP24 => ?_)))))))))
 obtain ⟨va, rfl, hva, hA⟩ := hP24
 refine WO.subH (hs' := _ :: _ :: (hs ++ D24)) (SubH.op (aG (N := []) (G := D24) (K := [_, _]) (X := hs))) (zm rfl (zq (Q.extract rfl rfl) (zq (Q.extract rfl rfl) (za rfl (za rfl (zk (W.seq (zr (zm rfl (zq (aa rfl (zi 0) rfl (aR cf)) (zk (aw rfl (fun hc28 => ?_) (fun hc28 => ?_)))))))))))))
 ·refine zr (zm rfl (za (zi 0) (za rfl (zk (W.ret (ac (ae (ResL.tmp rfl (z1 rfl)) ?_)))))))
  (simp only [ah]; unfold gN; (repeat' split) <;> first | rfl | (exfalso; omega) | (simp_all; done) | grind)
 refine zw (zr (zq (zL rfl (zt 1 rfl) bh aL rfl) (zm rfl (aJ rfl (aD rfl (aD rfl oz)) rfl (qw k op ho n ms rg off md nm sd bl kd hms hnm hkd (ro D24) (kl ty len) va ((hA zy).ro) (by rw [wc]; omega) iH (Cc hty zy)) (SubR.t (SubR.t (SubR.appr (SubR.ro (SubH.refl _))))) rfl (za rfl (zk (W.sub (zc 8 rfl aI) (W.seq (zr (zm rfl (zq (aa rfl (zi 0) rfl (ag aA)) (zk (aw rfl (fun hc34 => ?_) (fun hc34 => ?_))))))))))))))
 ·refine zr (za (zi 0) (za (zi 16) (zk (W.ret (ac (ae (ResL.tmp rfl (z1 rfl)) ?_))))))
  (simp only [ah]; unfold gN; (repeat' split) <;> first | rfl | (exfalso; omega) | (simp_all; done) | grind)
 refine zw (zr (zm rfl (za rfl (za (zi 0) (zk (W.ret (ae (ResL.tmp rfl (z1 rfl)) ?_)))))))
 (simp only [ah]; unfold gN; (repeat' split) <;> first | rfl | (exfalso; omega) | (simp_all; done) | grind)
theorem ISl.mono {hs hs' : ak} (hm : ∀ e ∈ hs, e ∈ hs') {A : List Nat} {v : AV} (h : ISl hs A v) : ISl hs' A v := h.imp id fun ⟨b, ex, h1, w, h2⟩ => ⟨b, ex, h1, w, hm _ h2⟩
theorem ISl.app {hs hs' : ak} {A : List Nat} {v : AV} (h : ISl hs A v) : ISl (hs' ++ hs) A v := h.mono fun _ => List.mem_append_right _
theorem ISl.appl {hs hs' : ak} {A : List Nat} {v : AV} (h : ISl hs A v) : ISl (hs ++ hs') A v := h.mono fun _ => List.mem_append_left _
theorem ISl.tl {hs : ak} {e : HE} {A : List Nat} {v : AV} (h : ISl hs A v) : ISl (e :: hs) A v := h.mono fun _ => List.mem_cons_of_mem _
theorem ISl.at_ {hs : ak} {b n : Nat} {ex : Bool} {A : List Nat} (hn : A.length = n := by rfl) : ISl (⟨b, ⟨1, ex, jg A⟩, true⟩ :: hs) A (.slice b 0 n 1) := .inr ⟨b, ex, by rw [hn], true, by simp⟩
theorem qV (op : List Nat) : (dn op).1.length <= 3 /\ ∀ x ∈ (dn op).1, 1 <= x := by
 unfold dn
 (repeat' split) <;> exact ⟨by decide, by decide⟩
def GP (w : Nat) : Nat × Nat := if w = 0 then (0, 16) else (w, 0)
def tu (k : Int) (op : List Nat) (rg md sd : Int) (bl : Bool) (A : List Nat) : Nat :=
 if k = 1 then 1 else if k = 2 then (if 0 < rg then 3 else 2)
 else if k = 3 then (if A = (dn op).1 then (dn op).2 else 0)
 else if k = 4 then (if op = [116, 111, 112, 107] \/ op = [98, 111, 116, 116, 111, 109, 107] then (if A = [1, 2] then 2 else 0) else (if A = [2] then 2 else 0))
 else if k = 5 then (if A.length = 2 then (if (lF op md sd bl (A.getD 0 0) (A.getD 1 0)).2 = true then (lF op md sd bl (A.getD 0 0) (A.getD 1 0)).1 else 0) else 0)
 else if k = 6 then (if A.length = 1 /\ ¬ A.getD 0 0 = 3 then A.getD 0 0 else 0)
 else 0
theorem wz {op : List Nat} {md sd : Int} {bl : Bool} {a b : Nat} : bW op md sd bl a b = if (lF op md sd bl a b).2 = true then (lF op md sd bl a b).1 else 0 := by
 unfold bW lF
 split
 ·rfl
 ·split
  ·simp
  ·split
   ·cases bl <;> simp
   ·rfl
theorem vh {X A : List Nat} (hX : ∀ x ∈ X, 1 <= x) (h3 : X.length <= 3) (hA : ∀ x ∈ A, 1 <= x) : (A.length <= 3 /\ P3 X A) ↔ A = X := by
 constructor
 ·rintro ⟨h1, h2⟩
  exact ((EO hX hA h3 h1).1 h2).symm
 ·rintro rfl
  exact ⟨h3, rfl, rfl, rfl⟩
theorem uY {k : Int} {op : List Nat} {rg md sd : Int} {bl : Bool} {A : List Nat} (hA : ∀ x ∈ A, 1 <= x) : cC k op rg md sd bl A = tu k op rg md sd bl A := by
 have h3 := vh (qV op).2 (qV op).1 hA
 have h12 := vh (X := [1, 2]) (by decide) (by decide) hA
 have h2 := vh (X := [2]) (by decide) (by decide) hA
 unfold cC tu
 simp only [h3, wz]
 split
 ·rfl
 split
 ·rfl
 split
 ·rfl
 split
 ·split
  ·simp only [h12]
  ·simp only [h2]
 ·rfl
theorem CV {op : List Nat} {md sd : Int} {bl : Bool} {a b : Nat} (ha : a <= 3) (hb : b <= 3) : (lF op md sd bl a b).1 <= 3 := by
 unfold lF
 (repeat' split) <;> simp_all <;> omega
theorem DT {op : List Nat} : (dn op).2 <= 3 := by
 unfold dn
 (repeat' split) <;> decide
theorem sO {A : List Nat} {i : Nat} (h : ∀ x ∈ A, x <= 3) : A.getD i 0 <= 3 := by
 rw [List.getD_eq_getElem?_getD]
 cases e : A[i]? with
 | none => exact Nat.zero_le _
 | some x => exact h x (List.mem_of_getElem? e)
theorem Az {k : Int} {op : List Nat} {rg md sd : Int} {bl : Bool} {A : List Nat} (h : ∀ x ∈ A, x <= 3) : tu k op rg md sd bl A <= 3 := by
 unfold tu
 (repeat' split) <;> first | decide | exact DT | exact CV (sO h) (sO h) | exact sO h
theorem typeM_ok {k : Int} {op : List Nat} {rg md sd : Int} {bl : Bool} {len : Nat} {ty er : Nat -> Nat} (hty : ∀ i, i < len -> er i = 0 -> 1 <= ty i /\ ty i <= 3)
  (h : (gN k op rg md sd bl len ty er).2 = 0) : 1 <= (gN k op rg md sd bl len ty er).1 /\ (gN k op rg md sd bl len ty er).1 <= 3 := by
 by_cases h1 : k = 3 /\ (dn op).2 = 0
 ·exfalso
  unfold gN at h
  rw [if_pos h1] at h
  simp at h
 by_cases h2 : mf er len ≠ 0
 ·exfalso
  unfold gN at h
  rw [if_neg h1, if_pos h2] at h
  exact h2 h
 have he := Decidable.not_not.1 h2
 have hk := Cc hty he
 have hw : cC k op rg md sd bl (kl ty len) <= 3 := by
  rw [uY fun x hx => (hk x hx).1]
  exact Az fun x hx => (hk x hx).2
 by_cases h3 : cC k op rg md sd bl (kl ty len) = 0
 ·exfalso
  unfold gN at h
  rw [if_neg h1, if_neg h2, if_pos h3] at h
  simp at h
 unfold gN
 rw [if_neg h1, if_neg h2, if_neg h3]
 exact ⟨by simp only; omega, hw⟩
def tpair (t e : Nat) : AV := .tuple [.int .i64 ((t : Nat) : Int), .int .i64 ((e : Nat) : Int)]
end Go.Proofs.YtndhhgbpcmfeiaaGreatDoor.Ev.P16
