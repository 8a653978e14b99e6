/- Chapter 17, walks: types. -/
import Derived.Test.YtndhhgbpcmfeiaaGreatDoorNV2
import Derived.Test.YtndhhgbpcmfeiaaGreatDoorNAwH
namespace Go.Proofs.YtndhhgbpcmfeiaaGreatDoor.Ev.P16
open Go.RowKit
set_option maxRecDepth 100000
set_option maxHeartbeats 1000000
theorem tZ {hs0 hs : af} {A : List Nat} {v : AV} (h : ISl hs0 A v) (hm : ∀ b o, MemH hs0 b o -> MemH hs b o) : ∀ hp, cT hs hp -> cJ hp.objs 1 v = some (A.length, jb A) := by
 intro hp hk
 rcases h with ⟨rfl, rfl⟩ | ⟨b, ex, rfl, hmem⟩
 ·rfl
 ·obtain ⟨w, hw⟩ := hm _ _ hmem
  exact dL (hk _ hw) (by rw [Nat.zero_mul]; exact ly (by simp [jb]))
theorem zj {A : List Nat} : cn [.int .i64 0, .int .i64 0, .int .i64 0] (0 * 1) ((jb A).take (min A.length 3 * 1)) = mG A := by
 match A with
 | [] => rfl
 | [a] => rfl
 | [a, b] => rfl
 | a :: b :: c :: r =>
  have e : min (a :: b :: c :: r).length 3 * 1 = 3 := by simp only [List.length_cons]; omega
  rw [e]
  rfl
def P3 (X A : List Nat) : Prop := X.getD 0 0 = A.getD 0 0 /\ X.getD 1 0 = A.getD 1 0 /\ X.getD 2 0 = A.getD 2 0
instance (X A : List Nat) : Decidable (P3 X A) := by unfold P3; infer_instance
def bX (k : Int) (op : List Nat) (rg md sd : Int) (bl : Bool) (A : List Nat) : Nat :=
 if k = 1 then 1 else if k = 2 then (if 0 < rg then 3 else 2)
 else if k = 3 then (if A.length <= 3 /\ P3 (dm op).1 A then (dm op).2 else 0)
 else if k = 4 then (if A.length <= 3 /\ P3 (if op = [116, 111, 112, 107] \/ op = [98, 111, 116, 116, 111, 109, 107] then [1, 2] else [2]) A then 2 else 0)
 else if k = 5 then (if A.length = 2 then aZ op md sd bl (A.getD 0 0) (A.getD 1 0) else 0)
 else if k = 6 then (if A.length = 1 /\ ¬ A.getD 0 0 = 3 then A.getD 0 0 else 0)
 else 0
theorem AX {A : List Nat} (h : ∀ x ∈ A, 1 <= x /\ x <= 3) {i : Nat} (hi : i < A.length) : 1 <= A.getD i 0 /\ A.getD i 0 <= 3 := by
 rw [List.getD_eq_getElem?_getD, List.getElem?_eq_getElem hi]
 exact h _ (List.getElem_mem hi)
theorem CK : aA.et.get 112 = some true := by kernel_rfl
theorem oS {tb : Tab} {d t : Nat} {k1 k2 : IntKind} {a b : Int} (hu : tb.und t = some (.int k1)) : fQ tb (d + 1) t (.int k2 a) (.int k2 b) = some (mX a b) := by
 unfold fQ
 simp only [hu, if_pos]
theorem fq {tb : Tab} {t : Nat} {cs : List AV} {o : Nat} {v : AV} (ha : tb.isAgg t = some false) (hc : cs[o]? = some v) : gb tb t cs o = some v := by
 unfold gb; simp only [ha, hc]
theorem oR {tb : Tab} {rec_ : Nat -> AV -> AV -> Option Bool} {e m i k : Nat} {xs ys : List AV} {a b : AV} {p q : Bool} (hx : gb tb e xs (i * m) = some a) (hy : gb tb e ys (i * m) = some b) (hr : rec_ e a b = some p)
  (hf : eP tb rec_ e m xs ys (i + 1) k = some q) : eP tb rec_ e m xs ys i (k + 1) = some (p && q) := by
 conv => lhs; unfold eP
 simp only [hx, hy, hr]
 cases p
 ·rfl
 ·simpa using hf
theorem yq {a b c a' b' c' : Int} : bz aA .eql 112 (.agg [.int .i64 a, .int .i64 b, .int .i64 c]) (.agg [.int .i64 a', .int .i64 b', .int .i64 c']) = some (.bool (mX a a' && (mX b b' && (mX c c' && true)))) := by
 have h : jI aA 112 (.agg [.int .i64 a, .int .i64 b, .int .i64 c]) (.agg [.int .i64 a', .int .i64 b', .int .i64 c']) = some (mX a a' && (mX b b' && (mX c c' && true))) := by
  unfold jI
  simp only [CK]
  unfold fQ
  simp only [AY, i8]
  refine oR (fq d7 rfl) (fq d7 rfl) (oS uC) ?_
  refine oR (fq d7 rfl) (fq d7 rfl) (oS uC) ?_
  exact oR (fq d7 rfl) (fq d7 rfl) (oS uC) rfl
 show (match jI aA 112 _ _ with | some b => some (AV.bool b) | none => none) = _
 rw [h]
theorem pw {A B : List Nat} : bz aA .eql 112 (.agg (mG A)) (.agg (mG B)) = some (.bool (decide (A.getD 0 0 = B.getD 0 0 /\ A.getD 1 0 = B.getD 1 0 /\ A.getD 2 0 = B.getD 2 0))) := by
 have h := yq (a := ((A.getD 0 0 : Nat) : Int)) (b := ((A.getD 1 0 : Nat) : Int)) (c := ((A.getD 2 0 : Nat) : Int)) (a' := ((B.getD 0 0 : Nat) : Int)) (b' := ((B.getD 1 0 : Nat) : Int)) (c' := ((B.getD 2 0 : Nat) : Int))
 show bz aA .eql 112 (.agg [_, _, _]) (.agg [_, _, _]) = _
 rw [h]
 congr 2
 rw [dt, dt, dt, Bool.eq_iff_iff]
 simp only [Bool.and_true, Bool.and_eq_true, decide_eq_true_eq, Int.ofNat_inj]
theorem zQ (hs : af) (A : List Nat) (va : AV) (hA : ISl hs A va) (hl : A.length <= 1048576) : Spec aA 101 [va] [] hs (eA (.tuple [.agg (mG A), .bool (decide (A.length <= 3))])) := by
 refine aj (dW 101 Tryz.func101) rfl (m := 12) rfl (rs := [.cell 2 112, .tmp 3]) rfl (st := [(0, va)]) rfl rfl (fun _ => rfl) (fun E => zr (WO.alloc lD rfl (fun b1 => za rfl (zk (zr (WO.alloc lD rfl (fun b2 => zk (zr (zq (uE AY i8 rfl (zt 0 rfl) rfl) (zm rfl (WO.copy dh i8 rfl rfl (tZ hA (fun _ _ m => m.tl.tl)) (i := 0) rfl rfl zj (hs' := _ :: _ :: _) rfl rfl (zk (zr (zq (cj rfl (zt 0 rfl) cz aR (l := [_, _, _]) rfl) (zm rfl (zq (Q.len dh rfl (pi hA)) (zq (Q.bin rfl (zi 3) rfl (eh fI)) (ll aR rfl rfl (i := 1) rfl rfl rfl (hs' := _ :: _ :: _) rfl (za rfl (zk (W.ret (ab (pL rfl (zt 1 rfl) cz aR rfl (z1 rfl)) ?_))))))))))))))))))))))
 rfl

theorem mU (k : Int) (op : List Nat) (ho : Bytes op) (n : Int) (ms : AV) (rg off md : Int) (nm : AV) (sd : Int) (bl : Bool) (kd : AV) (hms : ms.isCell = true) (hnm : nm.isCell = true) (hkd : kd.isCell = true) (hs : af) (A : List Nat) (va : AV) (hA : ISl hs A va) (hl : A.length <= 1048576) (hro : ∀ e ∈ hs, e.w = false) (hT : ∀ x ∈ A, 1 <= x /\ x <= 3) : Spec aA 68 [.agg (b7 k op n ms rg off md nm sd bl kd), va] [] hs (eA (.int .i64 ((bX k op rg md sd bl A : Nat) : Int))) := by
 refine aj (dW 68 Tryz.func68) rfl (m := 84) rfl (rs := [.tmp 4]) rfl (st := [(0, .agg (b7 k op n ms rg off md nm sd bl kd)), (1, va)]) rfl rfl (fun _ => rfl) (fun E => zr (WO.box rfl (dZ hms hnm hkd) (oP _ rfl) rfl (fun b1 => za (zi 0) (zk (zr (zm rfl (az rfl (aX rfl oz) rfl (zQ hs A _ hA hl) (SubR.t (dF hro)) rfl (zm rfl (zq (Q.extract rfl rfl) (zq (Q.extract rfl rfl) (WO.alloc lD rfl (fun b2 => ll aR rfl rfl (i := 0) rfl rfl rfl (hs' := _ :: _ :: _) rfl (za rfl (zk (W.seq (zr (zf iC rfl 0 (zq (aG rfl (zt 1 rfl) d7 rfl) (zk (W.block (zr (zq (Q.bin rfl (zi 1) rfl (ag dt)) (za rfl ?_)))))))))))))))))))))))
 refine zk (ax rfl (fun hc17 => ?_) (fun hc17 => ?_))
 ·refine zr (za (zi 1) (zk (W.sub (zc 4 rfl aU) (W.ret (ae (aa (ab (z1 rfl) ?_)))))))
  (simp only [ac]; congr 1; unfold bX P3; (repeat' split) <;> first | rfl | omega | grind)
 refine zr (zq (Q.bin rfl (zi 2) rfl (ag dt)) (za rfl (zk (ax rfl (fun hc19 => ?_) (fun hc19 => ?_)))))
 ·refine W.seq (zr (zf vJ rfl 4 (zq (aG rfl (zt 1 rfl) d7 rfl) (zq (Q.bin rfl (zi 0) rfl (bf (dX _ _))) (zk (W.sub (zc 23 rfl aU) (ax rfl (fun hc23 => ?_) (fun hc23 => ?_))))))))
  ·refine zr (za (zi 3) (zk (W.ret (aa (ae (aa (ab (z1 rfl) ?_)))))))
   (simp only [ac]; congr 1; unfold bX P3; (repeat' split) <;> first | rfl | omega | grind)
  refine zw (zr (za (zi 2) (zk (W.ret (ae (aa (ab (z1 rfl) ?_)))))))
  (simp only [ac]; congr 1; unfold bX P3; (repeat' split) <;> first | rfl | omega | grind)
 refine zr (zq (Q.bin rfl (zi 3) rfl (ag dt)) (za rfl (zk (ax rfl (fun hc24 => ?_) (fun hc24 => ?_)))))
 ·refine zr (zf jn rfl 1 (zq (aG rfl (zt 1 rfl) uy rfl) (az rfl (aX rfl oz) rfl (nE _ ho) SubR.nil rfl (zm rfl (zq (Q.extract rfl rfl) (zq (Q.extract rfl rfl) (WO.alloc lD rfl (fun b3 => ll aR rfl rfl (i := 0) rfl rfl rfl (hs' := _ :: _ :: _ :: _) rfl (za rfl (zk (W.sub (zc 8 rfl (zc 7 rfl (zc 6 rfl (zc 5 rfl aU)))) (zr (zm rfl (zm rfl (aQ (d := 33) rfl (fun hc33 => ?_) (fun hc33 => ?_))))))))))))))))
  ·refine zT (zq (cj rfl (zt 0 rfl) cz aR (l := [_, _, _]) rfl) (zT (zq (cj rfl (zt 1 rfl) cz aR (l := [_, _, _]) rfl) (zT (zq (Q.bin rfl rfl rfl (pw (A := (dm op).1) (B := A))) (zq (aC rfl rfl) (zk (ax rfl (fun hc37 => ?_) (fun hc37 => ?_)))))))))
   ·refine zr (zm rfl (za rfl (zk (W.ret (ae (aa (ab (z1 rfl) ?_)))))))
    (simp only [ac]; congr 1; unfold bX P3; (repeat' split) <;> first | rfl | omega | grind)
   refine W.skip (End.KB (End.K (zr (za (zi 0) (zk (W.ret (ab (z1 rfl) ?_)))))))
   (simp only [ac]; congr 1; unfold bX P3; (repeat' split) <;> first | rfl | omega | grind)
  refine z2 (zG (zq (aH rfl rfl) (zk (ad rfl (W.skip (End.KB (End.K (zr (za (zi 0) (zk (W.ret (ab (z1 rfl) ?_))))))))))))
  (simp only [ac]; congr 1; unfold bX P3; (repeat' split) <;> first | rfl | omega | grind)
 refine zr (zq (Q.bin rfl (zi 4) rfl (ag dt)) (za rfl (zk (W.sub (zc 39 rfl (zc 16 rfl (zc 6 rfl (zc 5 rfl (zc 2 rfl (zc 1 rfl aU)))))) (ax rfl (fun hc39 => ?_) (fun hc39 => ?_))))))
 ·refine zr (zq (Q.build dO (b8 (zi 2) ak) rfl (cs := [_, _, _]) rfl) (WO.alloc lD rfl (fun b4 => ll aR rfl rfl (i := 0) rfl rfl rfl (hs' := _ :: _ :: _ :: _) rfl (zk (W.seq (zr (zf jn rfl 1 (zq (aG rfl (zt 2 rfl) uy rfl) (zq (Q.bin rfl (oc (v := .str [116, 111, 112, 107]) (by kernel_rfl)) rfl ap) (zm rfl (aQ (d := 45) rfl (fun hc45 => ?_) (fun hc45 => ?_))))))))))))
  ·refine z2 (zG (zq (aC rfl rfl) (zk (ah rfl (aF (zq (Q.build dO (b8 (zi 1) (b8 (zi 2) ak)) rfl (cs := [_, _, _]) rfl) (ll aR rfl rfl (i := 0) rfl rfl rfl (hs' := _ :: _ :: _ :: _) rfl (zk (W.sub (zc 9 rfl (zc 6 rfl (zc 5 rfl aU))) (zr (zm rfl (zm rfl (aQ (d := 52) rfl (fun hc52 => ?_) (fun hc52 => ?_))))))))))))))
   ·refine zT (zq (cj rfl (zt 0 rfl) cz aR (l := [_, _, _]) rfl) (zT (zq (cj rfl (zt 1 rfl) cz aR (l := [_, _, _]) rfl) (zT (zq (Q.bin rfl rfl rfl (pw (A := [1, 2]) (B := A))) (zq (aC rfl rfl) (zk (ax rfl (fun hc56 => ?_) (fun hc56 => ?_)))))))))
    ·refine zr (za (zi 2) (zk (W.ret (ae (aa (ab (z1 rfl) ?_))))))
     (simp only [ac]; congr 1; unfold bX P3; (repeat' split) <;> first | rfl | omega | grind)
    refine W.skip (End.KB (End.K (zr (za (zi 0) (zk (W.ret (ab (z1 rfl) ?_)))))))
    (simp only [ac]; congr 1; unfold bX P3; (repeat' split) <;> first | rfl | omega | grind)
   refine z2 (zG (zq (aH rfl rfl) (zk (ad rfl (W.skip (End.KB (End.K (zr (za (zi 0) (zk (W.ret (ab (z1 rfl) ?_))))))))))))
   (simp only [ac]; congr 1; unfold bX P3; (repeat' split) <;> first | rfl | omega | grind)
  refine zT (zf jn rfl 1 (zT (zq (aG rfl (zt 2 rfl) uy rfl) (zT (zq (Q.bin rfl (oc (v := .str [98, 111, 116, 116, 111, 109, 107]) (by kernel_rfl)) rfl ap) (zq (aH rfl rfl) (zk (ax rfl (fun hc49 => ?_) (fun hc49 => ?_)))))))))
  ·refine aF (zq (Q.build dO (b8 (zi 1) (b8 (zi 2) ak)) rfl (cs := [_, _, _]) rfl) (ll aR rfl rfl (i := 0) rfl rfl rfl (hs' := _ :: _ :: _ :: _) rfl (zk (W.sub (zc 9 rfl (zc 6 rfl (zc 5 rfl aU))) (zr (zm rfl (zm rfl (aQ (d := 52) rfl (fun hc52 => ?_) (fun hc52 => ?_)))))))))
   ·refine zT (zq (cj rfl (zt 0 rfl) cz aR (l := [_, _, _]) rfl) (zT (zq (cj rfl (zt 1 rfl) cz aR (l := [_, _, _]) rfl) (zT (zq (Q.bin rfl rfl rfl (pw (A := [1, 2]) (B := A))) (zq (aC rfl rfl) (zk (ax rfl (fun hc56 => ?_) (fun hc56 => ?_)))))))))
    ·refine zr (za (zi 2) (zk (W.ret (ae (aa (ab (z1 rfl) ?_))))))
     (simp only [ac]; congr 1; unfold bX P3; (repeat' split) <;> first | rfl | omega | grind)
    refine W.skip (End.KB (End.K (zr (za (zi 0) (zk (W.ret (ab (z1 rfl) ?_)))))))
    (simp only [ac]; congr 1; unfold bX P3; (repeat' split) <;> first | rfl | omega | grind)
   refine z2 (zG (zq (aH rfl rfl) (zk (ad rfl (W.skip (End.KB (End.K (zr (za (zi 0) (zk (W.ret (ab (z1 rfl) ?_))))))))))))
   (simp only [ac]; congr 1; unfold bX P3; (repeat' split) <;> first | rfl | omega | grind)
  refine zw (zr (zm rfl (zm rfl (aQ (d := 52) rfl (fun hc52 => ?_) (fun hc52 => ?_)))))
  ·refine zT (zq (cj rfl (zt 0 rfl) cz aR (l := [_, _, _]) rfl) (zT (zq (cj rfl (zt 1 rfl) cz aR (l := [_, _, _]) rfl) (zT (zq (Q.bin rfl rfl rfl (pw (A := [2]) (B := A))) (zq (aC rfl rfl) (zk (W.sub (zc 56 rfl aU) (ax rfl (fun hc56 => ?_) (fun hc56 => ?_))))))))))
   ·refine zr (za (zi 2) (zk (W.ret (ae (aa (ab (z1 rfl) ?_))))))
    (simp only [ac]; congr 1; unfold bX P3; (repeat' split) <;> first | rfl | omega | grind)
   refine W.skip (End.KB (End.K (zr (za (zi 0) (zk (W.ret (ab (z1 rfl) ?_)))))))
   (simp only [ac]; congr 1; unfold bX P3; (repeat' split) <;> first | rfl | omega | grind)
  refine z2 (zG (zq (aH rfl rfl) (zk (W.sub (zc 56 rfl aU) (ad rfl (W.skip (End.KB (End.K (zr (za (zi 0) (zk (W.ret (ab (z1 rfl) ?_)))))))))))))
  (simp only [ac]; congr 1; unfold bX P3; (repeat' split) <;> first | rfl | omega | grind)
 refine zr (zq (Q.bin rfl (zi 5) rfl (ag dt)) (za rfl (zk (ax rfl (fun hc57 => ?_) (fun hc57 => ?_)))))
 ·refine zr (zm rfl (zq (Q.len dh rfl (pi hA)) (zq (Q.bin rfl (zi 2) rfl (ag aD)) (zk (ax rfl (fun hc61 => ?_) (fun hc61 => ?_))))))
  ·obtain ⟨ba, exa, rfl, wa, ma⟩ := qr hA zy
   refine W.seq (lC (by kernel_rfl) (zq (zL rfl (zt 1 rfl) cG bb rfl) (zm rfl (zq (dI dh i8 rfl (zi 0) zo (o' := 0) rfl) (zq (aG rfl (List.mem_cons_of_mem _ (List.mem_cons_of_mem _ ma)) d7 (lu (i := 0) zo)) (zm rfl (zq (dI dh i8 rfl (zi 1) zo (o' := 1) rfl) (zq (aG rfl (List.mem_cons_of_mem _ (List.mem_cons_of_mem _ ma)) d7 (lu (i := 1) zo)) (az rfl (aX rfl (aX rfl (aX rfl oz))) rfl (ug _ _ ho _ _ _ _ _ _ _ _ _ hms hnm hkd _ _ (AX hT zo) (AX hT zo)) SubR.nil rfl (za rfl (zk (W.sub (zc 4 rfl aU) (W.ret (ae (aa (ab (z1 rfl) ?_))))))))))))))))
   (simp only [ac]; congr 1; unfold bX P3; (repeat' split) <;> first | rfl | omega | grind)
  refine W.skip (End.KB (End.K (zr (za (zi 0) (zk (W.ret (ab (z1 rfl) ?_)))))))
  (simp only [ac]; congr 1; unfold bX P3; (repeat' split) <;> first | rfl | omega | grind)
 refine zr (zq (Q.bin rfl (zi 6) rfl (ag dt)) (za rfl (zk (ax rfl (fun hc70 => ?_) (fun hc70 => ?_)))))
 ·refine zr (zm rfl (zq (Q.len dh rfl (pi hA)) (zq (Q.bin rfl (zi 1) rfl (ag aD)) (zm rfl (aQ (d := 75) rfl (fun hc75 => ?_) (fun hc75 => ?_))))))
  ·obtain ⟨ba, exa, rfl, wa, ma⟩ := qr hA zy
   refine zT (zm rfl (zT (zq (dI dh i8 rfl (zi 0) zo (o' := 0) rfl) (zT (zq (aG rfl (List.mem_cons_of_mem _ (List.mem_cons_of_mem _ ma)) d7 (lu (i := 0) zo)) (zT (zq (Q.bin rfl (zi 3) rfl (bE dY)) (zq (aC rfl rfl) (zk (W.sub (zc 80 rfl (zc 1 rfl aU)) (ax rfl (fun hc80 => ?_) (fun hc80 => ?_))))))))))))
   ·refine zr (zm rfl (zq (dI dh i8 rfl (zi 0) zo (o' := 0) rfl) (zq (aG rfl (List.mem_cons_of_mem _ (List.mem_cons_of_mem _ ma)) d7 (lu (i := 0) zo)) (za rfl (zk (W.ret (ae (aa (ab (z1 rfl) ?_)))))))))
    (simp only [ac]; congr 1; unfold bX P3; (repeat' split) <;> first | rfl | omega | grind)
   refine W.skip (End.KB (End.K (zr (za (zi 0) (zk (W.ret (ab (z1 rfl) ?_)))))))
   (simp only [ac]; congr 1; unfold bX P3; (repeat' split) <;> first | rfl | omega | grind)
  refine z2 (z2 (zq (aH rfl rfl) (zk (W.sub (zc 80 rfl (zc 1 rfl aU)) (ad rfl (W.skip (End.KB (End.K (zr (za (zi 0) (zk (W.ret (ab (z1 rfl) ?_)))))))))))))
  (simp only [ac]; congr 1; unfold bX P3; (repeat' split) <;> first | rfl | omega | grind)
 refine W.skip (End.KB (End.K (zr (za (zi 0) (zk (W.ret (ab (z1 rfl) ?_)))))))
 (simp only [ac]; congr 1; unfold bX P3; (repeat' split) <;> first | rfl | omega | grind)
theorem rX {k : Int} {op : List Nat} {n : Int} {ms : AV} {rg off md : Int} {nm : AV} {sd : Int} {bl : Bool} {kd : AV} (hms : ms.isCell = true) (hnm : nm.isCell = true) (hkd : kd.isCell = true) {ob : AObj} (ho : ob.cells.length = 11 := by rfl) :
  (Nat.beq (AV.agg (b7 k op n ms rg off md nm sd bl kd)).cells.length 11 && Nat.ble (0 + 11) ob.cells.length && (AV.agg (b7 k op n ms rg off md nm sd bl kd)).cells.all AV.isCell) = true := by
 rw [ho]
 show (true && true && (b7 k op n ms rg off md nm sd bl kd).all AV.isCell) = true
 simp only [b7, List.all_cons, List.all_nil, hms, hnm, hkd]
 rfl
def kl (ty : Nat -> Nat) : Nat -> List Nat
 | 0 => []
 | i + 1 => kl ty i ++ [ty i]
theorem zb {ty : Nat -> Nat} {i : Nat} : kl ty (i + 1) = kl ty i ++ [ty i] := rfl
theorem rQ {ty : Nat -> Nat} : ∀ {i : Nat}, (kl ty i).length = i
 | 0 => rfl
 | i + 1 => by simp [kl, rQ (i := i)]
theorem tY {A : List Nat} {x : Nat} : jb (A ++ [x]) = jb A ++ [.int .i64 ((x : Nat) : Int)] := by simp [jb]
theorem wn {ty : Nat -> Nat} : ∀ {i : Nat} {x : Nat}, x ∈ kl ty i -> ∃ j, j < i /\ x = ty j
 | 0, x, h => by simp [kl] at h
 | i + 1, x, h => by
  rcases List.mem_append.1 h with h | h
  ·obtain ⟨j, hj, e⟩ := wn h
   exact ⟨j, by omega, e⟩
  ·exact ⟨i, by omega, by simpa using h⟩
def ke (er : Nat -> Nat) : Nat -> Nat
 | 0 => 0
 | i + 1 => if ke er i = 0 then er i else ke er i
theorem kf {er : Nat -> Nat} : ∀ {i : Nat}, (∀ j, j < i -> er j = 0) -> ke er i = 0
 | 0, _ => rfl
 | i + 1, h => by
  unfold ke
  rw [if_pos (kf fun j hj => h j zy), h i zy]
theorem oT {er : Nat -> Nat} {i : Nat} (he : er i ≠ 0) (hz : ∀ j, j < i -> er j = 0) : ∀ {n : Nat}, i < n -> ke er n = er i
 | 0, h => by omega
 | n + 1, h => by
  unfold ke
  rcases Nat.lt_or_ge i n with g | g
  ·rw [oT he hz g, if_neg he]
  ·have e : i = n := by omega
   subst e
   rw [if_pos (kf hz)]
theorem p7 {er : Nat -> Nat} : ∀ {n : Nat}, ke er n = 0 -> ∀ j, j < n -> er j = 0
 | 0, _, j, hj => by omega
 | n + 1, h, j, hj => by
  unfold ke at h
  split at h
  ·rename_i h0
   rcases Nat.lt_or_ge j n with g | g
   ·exact p7 h0 j g
   ·have e : j = n := by omega
    rw [e]; exact h
  ·rename_i h0; exact absurd h h0
def rP (len : Nat) (ty er : Nat -> Nat) : AV -> af -> Prop := fun v D =>
 ∃ va, v = .tuple [va, .int .i64 ((ke er len : Nat) : Int)] /\ va.isCell = true /\ (ke er len = 0 -> ISl D (kl ty len) va)
theorem t8 {len i : Nat} {ty er : Nat -> Nat} (hi : i < len) (hz : ∀ j, j < i -> er j = 0) (he : er i ≠ 0) : rP len ty er (ac [.nils, .int .i64 ((er i : Nat) : Int)]) [] := by
 refine ⟨.nils, ?_, rfl, fun h => ?_⟩
 ·rw [oT he hz hi]; rfl
 ·rw [oT he hz hi] at h; exact absurd h he
theorem zU {A : List Nat} {n : Nat} {v : AV} {hp : af} (h : Own 1 (jb A) n v hp) : ISl hp A v := by
 have hl := h.length
 simp [jb] at hl
 rcases h with ⟨rfl, h2, rfl, rfl⟩ | ⟨b, ex, rfl, rfl, _, _⟩
 ·exact .inl ⟨rfl, by simpa [jb] using h2⟩
 ·exact .inr ⟨b, ex, by rw [hl], true, by simp⟩
theorem mF {sz n : Nat} {c : List AV} {v : AV} {hp : af} (h : Own sz c n v hp) : v.isCell = true := by
 rcases h with ⟨_, _, rfl, _⟩ | ⟨b, ex, rfl, _⟩ <;> rfl
theorem wl {len i : Nat} {ty er : Nat -> Nat} {v : AV} {hp : af} (hi : i = len) (hz : ∀ j, j < i -> er j = 0) (hO : Own 1 (jb (kl ty i)) i v hp) : rP len ty er (ac [v, .int .i64 0]) hp := by
 subst hi
 refine ⟨v, ?_, mF hO, fun _ => zU hO⟩
 rw [kf hz]; rfl
theorem mg (k : Int) (op : List Nat) (ho : Bytes op) (n : Int) (ms : AV) (rg off md : Int) (nm : AV) (sd : Int) (bl : Bool) (hms : ms.isCell = true) (hnm : nm.isCell = true) (hs : af) (hro : ∀ e ∈ hs, e.w = false) (d : Nat) (kd : AV) (len : Nat) (hkd : kd.isCell = true) (hlen : mj (.slice 26) kd = some len) (hl : len <= 1048576) (kc : Nat -> List AV) (hK : ∀ i, i < len -> ∃ b ob, kd = .slice b 0 len 11 /\ MemH hs b ob /\ ch ob.cells ((0 + i) * 11) 11 = some (kc i) /\ NRep hs d (kc i)) (ty er : Nat -> Nat) (HT : ∀ i, i < len -> Spec aA 35 [.agg (kc i)] [] hs (eA (.tuple [.int .i64 ((ty i : Nat) : Int), .int .i64 ((er i : Nat) : Int)]))) : Spec aA 67 [.agg (b7 k op n ms rg off md nm sd bl kd)] [] hs (rP len ty er) := by
 refine aj (dW 67 Tryz.func67) rfl (m := 30) rfl (rs := [.tmp 2, .tmp 3]) rfl (st := [(0, .agg (b7 k op n ms rg off md nm sd bl kd))]) rfl rfl (fun _ => rfl) (fun E => zr (WO.box rfl (dZ hms hnm hkd) (oP _ rfl) rfl (fun b1 => za rfl (za (zi 0) (zk (zr (za rfl (zk (W.seq (zr (zf gV rfl 10 (zq (aG rfl (zt 0 rfl) uH rfl) (zq (Q.len pG rfl hlen) (zq (Q.move (zi 0)) (zk (W.block (iv (fun (i : Nat) (v : AV) (hp : af) => [(4, v), (10, kd), (11, .int .i64 ((len : Nat) : Int)), (12, .int .i64 ((i : Nat) : Int))]) (fun (i : Nat) (v : AV) (hp : af) => hs ++ hp) (fun (i : Nat) (v : AV) (hp : af) => i <= len /\ (∀ j, j < i -> er j = 0) /\ Own 1 (jb (kl ty i)) i v hp) (fun (i : Nat) (v : AV) (hp : af) => len - i) (0) (.nils) ([]) ⟨Nat.zero_le _, fun j h => by omega, Own.nil 1⟩ zv (SubH.of_sublist (by simp)) (fun i v hp hI0 ih0 => ?_))))))))))))))))))
 obtain ⟨hi, hz, hO⟩ := hI0
 refine zr (zq (Q.bin rfl rfl rfl (ec jr)) (zk (W.seq (ax rfl (fun hc13 => ?_) (fun hc13 => ?_)))))
 ·obtain ⟨bk, ob, rfl, ⟨wk, mk⟩, hs2, hN⟩ := hK i zy
  obtain ⟨k1, op1, n1, ms1, rg1, off1, md1, nm1, sd1, bl1, kd1, hc1, ho1, hms1, hnm1, hkd1⟩ := hN.node
  have hT1 := HT i zy
  rw [hc1] at hs2 hT1
  refine zw (W.seq (W.block (zr (zq (ee pG bb rfl rfl zo) (zq (cj rfl (List.mem_append_left _ mk) cG bb hs2) (WO.alloc eU rfl (fun b2 => zS bb rfl rfl (i := 0) rfl (rX hms1 hnm1 hkd1) rfl (hs' := _ :: _) rfl (zk (zr (zq (zL rfl (zt 0 rfl) cG bb rfl) (az rfl (aX rfl oz) rfl hT1 (SubR.t (SubR.appl (dF hro))) rfl (zm rfl (zq (Q.extract rfl rfl) (zq (Q.extract rfl rfl) (za rfl (za rfl (zk (W.seq (zr (zm rfl (zq (Q.bin rfl (zi 0) rfl (bE dY)) (zk (ax rfl (fun hc22 => ?_) (fun hc22 => ?_))))))))))))))))))))))))
  ·refine zr (zm rfl (za rfl (za rfl (zk (W.sub (zc 3 rfl (zc 2 rfl aU)) (W.ret ?_))))))
   refine aa (ae (aa (gh (ae (aa (End.ret (ResL.tmp rfl (z1 rfl)) (hs' := []) (t8 (i := i) zy hz zy) (fun e h => wT h) (SubH.nil _)))))))
  refine zw (aF (zm rfl (zm rfl (WO.bslice dh i8 Cs rfl (b8 rfl ak) rfl (cs := [_]) rfl rfl rfl (fun b3 => j8 (e := ⟨b3, _, true⟩) (A := ([_] ++ hs)) iQ hO rfl rfl rfl rfl ⟨by first | omega | (simp at * <;> omega), by first | omega | (simp at * <;> omega)⟩ (by decide) rfl rfl (fun v27 hp27 hO27 => za rfl (WO.nil (End.KB (End.K (W.sub (zc 4 rfl (zc 10 rfl (zc 11 rfl (zc 12 rfl aU)))) (aF (zq (Q.bin rfl (zi 1) rfl zp) (zm rfl (WO.nil (End.KL (W.sub zv (gM (SubH.of_sublist (by simp)) (ih0 (i + 1) (v27) (hp27) ?_ ?_))))))))))))))))))
  ·exact ⟨by omega, fun j h => by rcases Nat.lt_or_ge j i with g | g; exact hz j g; have hji : j = i := zy; rw [hji]; omega, by simpa [zb, tY] using hO27⟩
  exact zo
 refine W.exit (av (aL (aq (End.K (zr (zm rfl (za rfl (za (zi 0) (zk (W.ret ?_))))))))))
 refine End.ret (ResL.tmp rfl (z1 rfl)) (hs' := hp) (wl (i := i) zy hz hO) hO.w (SubH.of_sublist (by simp))
theorem ISl.ro {hs : af} {A : List Nat} {v : AV} (h : ISl hs A v) : ISl (ro hs) A v := h.imp id fun ⟨b, ex, h1, h2⟩ => ⟨b, ex, h1, h2.ro⟩
theorem AJ {len : Nat} {ty er : Nat -> Nat} (hty : ∀ i, i < len -> er i = 0 -> 1 <= ty i /\ ty i <= 3) (he : ke er len = 0) : ∀ x ∈ kl ty len, 1 <= x /\ x <= 3 := by
 intro x hx
 obtain ⟨j, hj, rfl⟩ := wn hx
 exact hty j hj (p7 he j hj)
def gI (k : Int) (op : List Nat) (rg md sd : Int) (bl : Bool) (len : Nat) (ty er : Nat -> Nat) : Nat × Nat :=
 if k = 3 /\ (dm op).2 = 0 then (0, 9)
 else if ke er len ≠ 0 then (0, ke er len)
 else if bX k op rg md sd bl (kl ty len) = 0 then (0, 16)
 else (bX k op rg md sd bl (kl ty len), 0)
theorem oo (k : Int) (op : List Nat) (ho : Bytes op) (n : Int) (ms : AV) (rg off md : Int) (nm : AV) (sd : Int) (bl : Bool) (hms : ms.isCell = true) (hnm : nm.isCell = true) (hs : af) (hro : ∀ e ∈ hs, e.w = false) (d : Nat) (kd : AV) (len : Nat) (hkd : kd.isCell = true) (hlen : mj (.slice 26) kd = some len) (hl : len <= 1048576) (kc : Nat -> List AV) (hK : ∀ i, i < len -> ∃ b ob, kd = .slice b 0 len 11 /\ MemH hs b ob /\ ch ob.cells ((0 + i) * 11) 11 = some (kc i) /\ NRep hs d (kc i)) (ty er : Nat -> Nat) (HT : ∀ i, i < len -> Spec aA 35 [.agg (kc i)] [] hs (eA (.tuple [.int .i64 ((ty i : Nat) : Int), .int .i64 ((er i : Nat) : Int)]))) (hty : ∀ i, i < len -> er i = 0 -> 1 <= ty i /\ ty i <= 3) : Spec aA 35 [.agg (b7 k op n ms rg off md nm sd bl kd)] [] hs (eA (.tuple [.int .i64 (((gI k op rg md sd bl len ty er).1 : Nat) : Int), .int .i64 (((gI k op rg md sd bl len ty er).2 : Nat) : Int)])) := by
 refine aj (dW 35 Tryz.func35) rfl (m := 36) rfl (rs := [.tmp 2, .tmp 3]) rfl (st := [(0, .agg (b7 k op n ms rg off md nm sd bl kd))]) rfl rfl (fun _ => rfl) (fun E => zr (WO.box rfl (dZ hms hnm hkd) (oP _ rfl) rfl (fun b1 => za (zi 0) (za (zi 0) (zk (W.seq (zr (zf jn rfl 1 (zq (aG rfl (zt 0 rfl) uy rfl) (az rfl (aX rfl oz) rfl (nE _ ho) SubR.nil rfl (zm rfl (zq (Q.extract rfl rfl) (zq (Q.extract rfl rfl) (WO.alloc lD rfl (fun b2 => ll aR rfl rfl (i := 0) rfl rfl rfl (hs' := _ :: _ :: _) rfl (za rfl (zk (zr (zf iC rfl 0 (zq (aG rfl (zt 1 rfl) d7 rfl) (zq (Q.bin rfl (zi 3) rfl (ag dt)) (zm rfl (aQ (d := 18) rfl (fun hc18 => ?_) (fun hc18 => ?_))))))))))))))))))))))))
 ·refine zT (zm rfl (zT (zq (Q.bin rfl (zi 0) rfl (ag aD)) (zq (aC rfl rfl) (zk (W.sub (zc 21 rfl (zc 1 rfl aU)) (ax rfl (fun hc21 => ?_) (fun hc21 => ?_))))))))
  ·refine zr (za (zi 0) (za (zi 9) (zk (W.ret (aa (ab (ResL.tmp rfl (z1 rfl)) ?_))))))
   (simp only [ac]; unfold gI; (repeat' split) <;> first | rfl | (exfalso; omega) | (simp_all; done) | grind)
  refine zw (zr (zq (zL rfl (zt 1 rfl) cG bb rfl) (WO.call0 rfl (aX rfl oz) rfl (mg k op ho n ms rg off md nm sd bl hms hnm hs hro d kd len hkd hlen hl kc hK ty er HT) (SubR.t (SubR.t (dF hro))) rfl (fun v24 D24 hP24 => ?_))))
  obtain ⟨va, rfl, hva, hA⟩ := hP24
  refine WO.subH (hs' := _ :: _ :: (hs ++ D24)) (SubH.op (aS (N := []) (G := D24) (K := [_, _]) (X := hs))) (zm rfl (zq (Q.extract rfl rfl) (zq (Q.extract rfl rfl) (za rfl (za rfl (zk (W.seq (zr (zm rfl (zq (Q.bin rfl (zi 0) rfl (bE dY)) (zk (ax rfl (fun hc28 => ?_) (fun hc28 => ?_)))))))))))))
  ·refine zr (zm rfl (za (zi 0) (za rfl (zk (W.ret (aa (ab (ResL.tmp rfl (z1 rfl)) ?_)))))))
   (simp only [ac]; unfold gI; (repeat' split) <;> first | rfl | (exfalso; omega) | (simp_all; done) | grind)
  refine zw (zr (zq (zL rfl (zt 1 rfl) cG bb rfl) (zm rfl (az rfl (aX rfl (aX rfl oz)) rfl (mU k op ho n ms rg off md nm sd bl kd hms hnm hkd (ro D24) (kl ty len) va ((hA zy).ro) (by rw [rQ]; omega) se (AJ hty zy)) (SubR.t (SubR.t (nx (SubR.ro (SubH.refl _))))) rfl (za rfl (zk (W.sub (zc 8 rfl aU) (W.seq (zr (zm rfl (zq (Q.bin rfl (zi 0) rfl (ag aD)) (zk (ax rfl (fun hc34 => ?_) (fun hc34 => ?_))))))))))))))
  ·refine zr (za (zi 0) (za (zi 16) (zk (W.ret (aa (ab (ResL.tmp rfl (z1 rfl)) ?_))))))
   (simp only [ac]; unfold gI; (repeat' split) <;> first | rfl | (exfalso; omega) | (simp_all; done) | grind)
  refine zw (zr (zm rfl (za rfl (za (zi 0) (zk (W.ret (ab (ResL.tmp rfl (z1 rfl)) ?_)))))))
  (simp only [ac]; unfold gI; (repeat' split) <;> first | rfl | (exfalso; omega) | (simp_all; done) | grind)
 refine z2 (zq (aH rfl rfl) (zk (W.sub (zc 21 rfl (zc 1 rfl aU)) (ad rfl (zw (zr (zq (zL rfl (zt 1 rfl) cG bb rfl) (WO.call0 rfl (aX rfl oz) rfl (mg k op ho n ms rg off md nm sd bl hms hnm hs hro d kd len hkd hlen hl kc hK ty er HT) (SubR.t (SubR.t (dF hro))) rfl (fun v24 D24 hP24 => ?_)))))))))
 obtain ⟨va, rfl, hva, hA⟩ := hP24
 refine WO.subH (hs' := _ :: _ :: (hs ++ D24)) (SubH.op (aS (N := []) (G := D24) (K := [_, _]) (X := hs))) (zm rfl (zq (Q.extract rfl rfl) (zq (Q.extract rfl rfl) (za rfl (za rfl (zk (W.seq (zr (zm rfl (zq (Q.bin rfl (zi 0) rfl (bE dY)) (zk (ax rfl (fun hc28 => ?_) (fun hc28 => ?_)))))))))))))
 ·refine zr (zm rfl (za (zi 0) (za rfl (zk (W.ret (aa (ab (ResL.tmp rfl (z1 rfl)) ?_)))))))
  (simp only [ac]; unfold gI; (repeat' split) <;> first | rfl | (exfalso; omega) | (simp_all; done) | grind)
 refine zw (zr (zq (zL rfl (zt 1 rfl) cG bb rfl) (zm rfl (az rfl (aX rfl (aX rfl oz)) rfl (mU k op ho n ms rg off md nm sd bl kd hms hnm hkd (ro D24) (kl ty len) va ((hA zy).ro) (by rw [rQ]; omega) se (AJ hty zy)) (SubR.t (SubR.t (nx (SubR.ro (SubH.refl _))))) rfl (za rfl (zk (W.sub (zc 8 rfl aU) (W.seq (zr (zm rfl (zq (Q.bin rfl (zi 0) rfl (ag aD)) (zk (ax rfl (fun hc34 => ?_) (fun hc34 => ?_))))))))))))))
 ·refine zr (za (zi 0) (za (zi 16) (zk (W.ret (aa (ab (ResL.tmp rfl (z1 rfl)) ?_))))))
  (simp only [ac]; unfold gI; (repeat' split) <;> first | rfl | (exfalso; omega) | (simp_all; done) | grind)
 refine zw (zr (zm rfl (za rfl (za (zi 0) (zk (W.ret (ab (ResL.tmp rfl (z1 rfl)) ?_)))))))
 (simp only [ac]; unfold gI; (repeat' split) <;> first | rfl | (exfalso; omega) | (simp_all; done) | grind)
end Go.Proofs.YtndhhgbpcmfeiaaGreatDoor.Ev.P16
