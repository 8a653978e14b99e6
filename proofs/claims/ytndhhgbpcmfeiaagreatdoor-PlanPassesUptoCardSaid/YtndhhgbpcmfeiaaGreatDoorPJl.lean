/- Chapter 20, walks: Fold. -/
import Derived.Test.YtndhhgbpcmfeiaaGreatDoorPJj
import Derived.Test.YtndhhgbpcmfeiaaGreatDoorPWalkP
import Derived.Test.YtndhhgbpcmfeiaaGreatDoorPJi
namespace Go.Proofs.YtndhhgbpcmfeiaaGreatDoor.Ev
open Go.RowKit
set_option maxRecDepth 100000
set_option maxHeartbeats 1000000
def ta (O : List PI) (x : PI) : Option Int :=
 match x.2 with
 | [p] => if (pd O p.toNat).1.kd = 1 /\ x.1.kd = 6 /\ eb (pd O p.toNat).1.n = true then some (-(pd O p.toNat).1.n) else none
 | [p, q] => if (pd O p.toNat).1.kd = 1 /\ (pd O q.toNat).1.kd = 1 /\ x.1.kd = 5 /\ (gx x.1.op (pd O p.toNat).1.n (pd O q.toNat).1.n).2 = 0 then some (gx x.1.op (pd O p.toNat).1.n (pd O q.toNat).1.n).1 else none
 | _ => none
def lE (n : Int) : ND := ⟨1, [], n, [], 0, 0, 0, [], 0, false⟩
def CH (O : List PI) (x : PI) : PI := match ta O x with
 | some n => (lE n, [])
 | none => x
def ri (L : List PI) : Nat -> List PI
 | 0 => []
 | i + 1 => ri L i ++ [CH (ri L i) (pd L i)]
def wh (L : List PI) : List PI := ri L L.length
theorem Ag {op : List Nat} {a b : Int} : 0 <= (gx op a b).2 := by
 unfold gx
 (repeat' split) <;> first | decide | exact rY _ _ | exact sb _ _ | exact r9 _ _ | exact rZ _ _ | exact r8 _ _
def oY (X : List IE) (A : List Int) : List Int := A.map fun a => (ei X a.toNat).d.n
theorem eF {X : List IE} {A : List Int} : (oY X A).length = A.length := List.length_map _
theorem qi {X : List IE} {A : List Int} {i : Nat} (h : i < A.length) : cA ((oY X A).take (i + 1)) = cA ((oY X A).take i) ++ [.int .i64 (ei X (ai A i).toNat).d.n] := by
 unfold oY
 rw [List.take_add_one, List.getElem?_map, iz h, cA, List.map_append]; rfl
theorem pY {A : List Int} {q : Nat} (h : q < A.length) : (cA A)[q]? = some (.int .i64 (ai A q)) := by
 rw [cA, List.getElem?_map, iz h]; rfl
theorem fg {X : List IE} {A : List Int} {j : Nat} (h : j < A.length) : ai (oY X A) j = (ei X (ai A j).toNat).d.n := nD (by unfold oY; rw [List.getElem?_map, iz h]; rfl)
section
variable {O : List PI} {X : List IE} {d : ND} {A : List Int} {j : Nat}
theorem j2 (h : A.length = 0 \/ 2 < A.length) : ta O (d, A) = none := by
 match A, h with
 | [], _ => rfl
 | [_], h => simp at h
 | [_, _], h => simp at h
 | _ :: _ :: _ :: _, _ => rfl
theorem wc (h : j < A.length) (hn : (ei X (ai A j).toNat).d.kd ≠ 1) : ta (D2 X) (d, A) = none := by
 rw [lz] at hn
 match A, j, h with
 | [p], 0, _ => exact if_neg fun q => hn q.1
 | [p, q], 0, _ => exact if_neg fun q => hn q.1
 | [p, q], 1, _ => exact if_neg fun q => hn q.2.1
 | _ :: _ :: _ :: _, _, _ => rfl
theorem kH (h6 : ¬ (d.kd = 6 /\ A.length = 1)) (h5 : ¬ (d.kd = 5 /\ A.length = 2)) : ta O (d, A) = none := by
 match A, h6, h5 with
 | [], _, _ => rfl
 | [p], h, _ => exact if_neg fun q => h ⟨q.2.1, rfl⟩
 | [p, q], _, h => exact if_neg fun q => h ⟨q.2.2.1, rfl⟩
 | _ :: _ :: _ :: _, _, _ => rfl
theorem tc (hl : A.length = 1) (hk : (ei X (ai A 0).toNat).d.kd = 1) (h6 : d.kd = 6) : ta (D2 X) (d, A) = if eb (ei X (ai A 0).toNat).d.n = true then some (-(ei X (ai A 0).toNat).d.n) else none := by
 rw [lz] at hk ⊢
 match A, hl with
 | [p], _ =>
  have hk : (pd (D2 X) p.toNat).1.kd = 1 := hk
  show (if (pd (D2 X) p.toNat).1.kd = 1 /\ d.kd = 6 /\ eb (pd (D2 X) p.toNat).1.n = true then some (-(pd (D2 X) p.toNat).1.n) else none) = if eb (pd (D2 X) p.toNat).1.n = true then some (-(pd (D2 X) p.toNat).1.n) else none
  simp only [hk, h6, true_and]
theorem td (hl : A.length = 2) (hk : (ei X (ai A 0).toNat).d.kd = 1) (hk1 : (ei X (ai A 1).toNat).d.kd = 1) (h5 : d.kd = 5) :
  ta (D2 X) (d, A) = if (gx d.op (ei X (ai A 0).toNat).d.n (ei X (ai A 1).toNat).d.n).2 = 0 then some (gx d.op (ei X (ai A 0).toNat).d.n (ei X (ai A 1).toNat).d.n).1 else none := by
 rw [lz] at hk hk1
 rw [lz, lz]
 match A, hl with
 | [p, q], _ =>
  have hk : (pd (D2 X) p.toNat).1.kd = 1 := hk
  have hk1 : (pd (D2 X) q.toNat).1.kd = 1 := hk1
  show (if (pd (D2 X) p.toNat).1.kd = 1 /\ (pd (D2 X) q.toNat).1.kd = 1 /\ d.kd = 5 /\ (gx d.op (pd (D2 X) p.toNat).1.n (pd (D2 X) q.toNat).1.n).2 = 0 then some (gx d.op (pd (D2 X) p.toNat).1.n (pd (D2 X) q.toNat).1.n).1 else none) = if (gx d.op (pd (D2 X) p.toNat).1.n (pd (D2 X) q.toNat).1.n).2 = 0 then some (gx d.op (pd (D2 X) p.toNat).1.n (pd (D2 X) q.toNat).1.n).1 else none
  simp only [hk, hk1, h5, true_and]
end
theorem BP {n : Int} (h : eb n = true) : IntKind.i64.wrap (0 - n) = -n := by
 rw [Int.zero_sub]
 unfold eb at h
 simp only [Bool.and_eq_true, decide_eq_true_eq] at h
 exact uQ zy
theorem AZ {op : List Nat} {a b : Int} (h : (gx op a b).2.toNat = 0) : (gx op a b).2 = 0 := by
 have := Ag (op := op) (a := a) (b := b)
 omega
theorem A0 {op : List Nat} {a b : Int} (h : ¬ (gx op a b).2.toNat = 0) : ¬ (gx op a b).2 = 0 := fun e => h (by rw [e]; rfl)
def sJ (L : List IE) (e : Nat) (Q : List PI) : Prop := (dE L ≠ 0 /\ e = dE L /\ Q = []) \/ (dE L = 0 /\ e = 0 /\ Q = wh (D2 L))
theorem s8 {L : List PI} : ∀ {i : Nat}, (ri L i).length = i
 | 0 => rfl
 | i + 1 => by rw [ri, List.length_append, s8]; rfl
theorem zJ {X L : List IE} {i : Nat} {n : Int} (hX : D2 X = ri (D2 L) i) (h : ta (D2 X) ((ei L i).d, (ei L i).ars) = some n) : ri (D2 L) (i + 1) = ri (D2 L) i ++ [(lE n, [])] := by
 rw [ri, CH, <- jx, <- hX, h]
theorem zI {X L : List IE} {i : Nat} (hX : D2 X = ri (D2 L) i) (h : ta (D2 X) ((ei L i).d, (ei L i).ars) = none) : ri (D2 L) (i + 1) = ri (D2 L) i ++ [((ei L i).d, (ei L i).ars)] := by
 rw [ri, CH, <- jx, <- hX, h]
theorem Ah {X : List IE} {hl : ad} {n : Int} (hX : ∀ x ∈ X, IOK hl x /\ x.nk = 0) : ∀ x ∈ X ++ [⟨lE n, [], 0, .nils, .nils, .nils, .nils⟩], IOK hl x /\ x.nk = 0 := fun x hx => by
 rcases List.mem_append.1 hx with hx | hx
 ·exact hX x hx
 ·rw [List.mem_singleton.1 hx]
  exact ⟨⟨RIn.nil, RIn.nil, .inl ⟨rfl, rfl⟩, RIn.nil⟩, rfl⟩
theorem yb {X : List IE} {n : Int} (hX : ∀ x ∈ X, IBd x) : ∀ x ∈ X ++ [⟨lE n, [], 0, .nils, .nils, .nils, .nils⟩], IBd x := fun x hx => by
 rcases List.mem_append.1 hx with hx | hx
 ·exact hX x hx
 ·rw [List.mem_singleton.1 hx]
  exact ⟨⟨fun c hc => by simp [lE] at hc, ⟨by simp [lE], fun m hm => by simp [lE] at hm⟩, ⟨by simp [lE], fun m hm => by simp [lE] at hm⟩⟩, by simp, fun n hn => by simp at hn⟩

theorem qr (hs : ad) (hro : ∀ e ∈ hs, e.w = false) (X : List IE) (u : AV) (hX : IIn hs X u) (hXb : ILB X) (d : ND) (A : List Int) (nk : Nat) (vm vn vk va : AV) (hx : IOK hs (⟨d, A, nk, vm, vn, vk, va⟩ : IE)) (hb : IBd (⟨d, A, nk, vm, vn, vk, va⟩ : IE)) (hA : ∀ a ∈ A, 0 <= a /\ a < ((X.length : Nat) : Int)) : Spec aW 40 [u, .agg (IE.c (⟨d, A, nk, vm, vn, vk, va⟩ : IE))] [] hs (pP (fun r => ∃ (n : Int) (b : Bool), r = .tuple [.int .i64 n, .bool b] /\ (b = true -> ta (D2 X) (d, A) = some n) /\ (b = false -> ta (D2 X) (d, A) = none))) := by
 have hxa : RIn hs 1 A.length (cA A) va := hx.a
 have hAl : A.length <= 1048576 := hb.a
 refine ak (eX 40 Tryz.func40) rfl (m := 89) rfl (rs := [.tmp 4, .tmp 5]) rfl (st := [(0, u), (1, .agg (IE.c (⟨d, A, nk, vm, vn, vk, va⟩ : IE)))]) rfl rfl (fun _ => rfl) (fun E => zr (WO.box rfl hx.cells (pX _ rfl) rfl (fun b1 => za (zi 0) (za rfl (zk (W.seq (zr (zf bP rfl 11 (zq (ag rfl (zt 0 rfl) eZ rfl) (zq (Q.len bh rfl hxa.len) (zq (aa rfl (zi 0) rfl (bz fe)) (zm rfl (aR (d := 15) rfl (fun hc15 => ?_) (fun hc15 => ?_))))))))))))))
 ·refine z2 (z2 (zq (au rfl rfl) (zk (aO rfl (zr (za (zi 0) (za rfl (zk (W.ret (ac (bZ (ResL.tmp rfl (z1 rfl)) ?_)))))))))))
  exact ⟨_, false, rfl, fun h => by (cases h), fun _ => j2 zy⟩
 refine zT (zf bP rfl 11 (zT (zq (ag rfl (zt 0 rfl) eZ rfl) (zT (zq (Q.len bh rfl hxa.len) (zT (zq (aa rfl (zi 2) rfl (gV fv)) (zq (aG rfl rfl) (zk (aw rfl (fun hc20 => ?_) (fun hc20 => ?_)))))))))))
 ·refine zr (za (zi 0) (za rfl (zk (W.ret (ac (bZ (ResL.tmp rfl (z1 rfl)) ?_))))))
  exact ⟨_, false, rfl, fun h => by (cases h), fun _ => j2 zy⟩
 refine zw (zr (za rfl (zk (W.seq (zr (zf bP rfl 11 (zq (ag rfl (zt 0 rfl) eZ rfl) (zq (Q.len bh rfl hxa.len) (zq (Q.move (zi 0)) (zk (W.sub (zc 24 rfl (zc 23 rfl (zc 22 rfl (zc 6 rfl (zc 3 rfl (zc 0 rfl bE)))))) (W.block (eM (fun (i : Nat) (u2 : AV) (hq : ad) => [(0, u), (3, .ptr b1 0), (6, u2), (22, va), (23, .int .i64 ((A.length : Nat) : Int)), (24, .int .i64 ((i : Nat) : Int))]) (fun (i : Nat) (u2 : AV) (hq : ad) => (⟨b1, ⟨12, true, d.c vm vn vk ++ [va]⟩, true⟩ :: (hs ++ hq))) (fun (i : Nat) (u2 : AV) (hq : ad) => i <= A.length /\ OwnE 1 (cA ((oY X A).take i)) i u2 hq /\ ∀ j, j < i -> (ei X (ai A j).toNat).d.kd = 1) (fun (i : Nat) (u2 : AV) (hq : ad) => A.length - i) (0) (.nils) ([]) ⟨Nat.zero_le _, OwnE.nil 1, fun j h => absurd h (Nat.not_lt_zero _)⟩ zv (by rw [List.append_nil]; exact SubH.refl _) (fun i u2 hq hI0 ih0 => ?_))))))))))))))
 obtain ⟨h1, hO, hk1⟩ := hI0
 refine zr (zq (aa rfl rfl rfl (fi fv)) (zk (W.seq (aw rfl (fun hc25 => ?_) (fun hc25 => ?_)))))
 ·have hq1 := hA _ (gj (A := A) (q := i) zy)
  obtain ⟨ba, sza, exa, rfl, wa_, ma⟩ := hxa.full zy
  obtain ⟨bv, szv, exv, rfl, wv, mv⟩ := hX.1.full zy
  refine zw (W.seq (W.block (zr (zq (aQ bh fP rfl rfl zo) (zq (ag rfl (List.mem_cons_of_mem _ (List.mem_append_left _ ma)) dn (kx zo hq1.1)) (za rfl (zk (W.seq (zr (zm rfl (zm rfl (zq (aQ aP aC rfl rfl zo) (zq (Q.fieldAddr aV rfl rfl) (zq (Q.fieldAddr dq rfl rfl) (zq (ag rfl (List.mem_cons_of_mem _ (List.mem_append_left _ mv)) dn (gG 0 zo rfl)) (zq (aa rfl (zi 1) rfl (bV fH)) (zk (aw rfl (fun hc34 => ?_) (fun hc34 => ?_)))))))))))))))))))
  ·refine zr (za (zi 0) (za rfl (zk (W.sub (zc 5 rfl (zc 4 rfl bE)) (W.ret (ac (ah (ac (cW (ah (ac (bZ (ResL.tmp rfl (z1 rfl)) ?_))))))))))))
   exact ⟨_, false, rfl, fun h => by (cases h), fun _ => wc (j := i) zy (by simpa using hc34)⟩
  refine zw (ay (zm rfl (zm rfl (zm rfl (zq (aQ aP aC rfl rfl zo) (zq (Q.fieldAddr aV rfl rfl) (zq (Q.fieldAddr iN rfl rfl) (zq (ag rfl (List.mem_cons_of_mem _ (List.mem_append_left _ mv)) dn (gG 2 zo rfl)) (WO.bslice bh fP sI rfl (gO rfl aE) rfl (cs := [_]) rfl rfl rfl (fun b2 => WO.appAny (A := ([_] ++ hs)) cY hO rfl rfl (Src.slice (zt 0 rfl) rfl) rfl zy (by decide) (SubH.of_sublist (List.sublist_cons_self _ _)) rfl (fun v43 hp43 hO43 => za rfl (WO.nil (End.KB (End.K (W.sub (zc 6 rfl (zc 0 rfl (zc 3 rfl (zc 22 rfl (zc 23 rfl (zc 24 rfl bE)))))) (ay (zq (aa rfl (zi 1) rfl zp) (zm rfl (WO.nil (End.KL (W.sub zv (bG gc (ih0 (i + 1) (v43) (hp43) ?_ ?_)))))))))))))))))))))))
  ·exact ⟨by omega, by rw [qi zy]; exact hO43, fun j hj => by rcases Nat.lt_or_ge j i with q | q; exact hk1 j q; obtain rfl : j = i := zy; simpa using hc34⟩
  exact zo
 obtain rfl : i = A.length := zy
 have hO2 : OwnE 1 (cA (oY X A)) A.length u2 hq := (by rw [List.take_of_length_le (by rw [eF]; exact Nat.le_refl _)] at hO; exact hO)
 refine W.exit (aJ (aM (aI (End.K (W.seq (W.block (zr (zf aV rfl 0 (zf dq rfl 0 (zq (ag rfl (zt 0 rfl) dn rfl) (zq (aa rfl (zi 6) rfl (bz bW)) (zm rfl (aR (d := 50) rfl (fun hc50 => ?_) (fun hc50 => ?_))))))))))))))
 ·refine zT (zm rfl (zT (zq (Q.len bh rfl hO.len) (zT (zq (aa rfl (zi 1) rfl (bz fe)) (zq (au rfl rfl) (za rfl (zk (W.sub (zc 45 rfl (zc 3 rfl (zc 6 rfl bE))) (aw rfl (fun hc45 => ?_) (fun hc45 => ?_)))))))))))
  ·obtain ⟨b6, ex6, rfl, rfl⟩ := hO2.full zy
   refine W.seq (lS 8 _ (by kernel_rfl) (KIn.refl _) (WD.q (Q.move rfl) C3 rfl (WD.q (eJ bh fP rfl (zi 0) zo (o' := 0) rfl) sV rfl (WD.q (ag rfl (List.mem_cons_of_mem _ (List.mem_append_right _ List.mem_cons_self)) dn (pY (A := oY X A) (q := 0) (by rw [eF]; omega))) CA rfl (WD.q (Q.neg rfl rfl) CA rfl (WD.q (Q.move rfl) C3 rfl (WD.q (eJ bh fP rfl (zi 0) zo (o' := 0) rfl) sV rfl (WD.q (ag rfl (List.mem_cons_of_mem _ (List.mem_append_right _ List.mem_cons_self)) dn (pY (A := oY X A) (q := 0) (by rw [eF]; omega))) CA rfl (uU rfl (aY rfl oz) rfl (gJ _) SubR.nil (KIn.refl _) rfl (WD.q (Q.assign rfl) CA rfl (WD.q (Q.assign rfl) yX rfl (WD.nil (End.K (W.ret (ah (ac (bZ (ResL.tmp rfl (z1 rfl)) ?_)))))))))))))))))
   exact ⟨_, _, rfl, fun h => by rw [tc zy (hk1 0 zy) zy, <- fg zy, if_pos h]; exact congrArg some (BP h).symm, fun h => by rw [tc zy (hk1 0 zy) zy, <- fg zy, if_neg (by rw [h]; decide)]⟩
  refine zr (zf aV rfl 0 (zf dq rfl 0 (zq (ag rfl (zt 0 rfl) dn rfl) (zq (aa rfl (zi 5) rfl (bz bW)) (zm rfl (aR (d := 68) rfl (fun hc68 => ?_) (fun hc68 => ?_)))))))
  ·(exfalso; omega)
  refine z2 (zG (zq (aG rfl rfl) (za rfl (zk (aN rfl (W.skip (End.KB (End.K (zr (za (zi 0) (za rfl (zk (W.ret (bZ (ResL.tmp rfl (z1 rfl)) ?_))))))))))))))
  exact ⟨_, false, rfl, fun h => by (cases h), fun _ => kH zy zy⟩
 refine z2 (zG (zq (aG rfl rfl) (za rfl (zk (W.sub (zc 45 rfl (zc 3 rfl (zc 6 rfl bE))) (aN rfl (zr (zf aV rfl 0 (zf dq rfl 0 (zq (ag rfl (zt 0 rfl) dn rfl) (zq (aa rfl (zi 5) rfl (bz bW)) (zm rfl (aR (d := 68) rfl (fun hc68 => ?_) (fun hc68 => ?_))))))))))))))
 ·refine zT (zm rfl (zT (zq (Q.len bh rfl hO.len) (zT (zq (aa rfl (zi 2) rfl (bz fe)) (zq (au rfl rfl) (za rfl (zk (aw rfl (fun hc63 => ?_) (fun hc63 => ?_))))))))))
  ·obtain ⟨b6, ex6, rfl, rfl⟩ := hO2.full zy
   refine W.seq (dD (by kernel_rfl) (zf aV rfl 0 (zf iM rfl 1 (zq (ag rfl (zt 0 rfl) sN rfl) (zm rfl (zq (eJ bh fP rfl (zi 0) zo (o' := 0) rfl) (zq (ag rfl (List.mem_cons_of_mem _ (List.mem_append_right _ List.mem_cons_self)) dn (pY (A := oY X A) (q := 0) (by rw [eF]; omega))) (zm rfl (zq (eJ bh fP rfl (zi 1) zo (o' := 1) rfl) (zq (ag rfl (List.mem_cons_of_mem _ (List.mem_append_right _ List.mem_cons_self)) dn (pY (A := oY X A) (q := 1) (by rw [eF]; omega))) (aB rfl (aY rfl (aY rfl (aY rfl oz))) rfl (yc _ hb.d.1 _ _) SubR.nil rfl (zm rfl (zq (Q.extract rfl rfl) (zq (Q.extract rfl rfl) (za rfl (za rfl (zk (W.sub (zc 10 rfl (zc 9 rfl bE)) (zr (zm rfl (zm rfl (zq (aa rfl (zi 0) rfl (bz fe)) (za rfl ?_)))))))))))))))))))))))
   refine za rfl (zk (W.ret (ah (ac (bZ (ResL.tmp rfl (z1 rfl)) ?_)))))
   exact ⟨_, _, rfl, fun h => by rw [td zy (hk1 0 zy) (hk1 1 zy) zy, <- fg zy, <- fg zy, if_pos (AZ (by simpa using h))], fun h => by rw [td zy (hk1 0 zy) (hk1 1 zy) zy, <- fg zy, <- fg zy, if_neg (A0 (by simpa using h))]⟩
  refine W.skip (End.KB (End.K (zr (za (zi 0) (za rfl (zk (W.ret (bZ (ResL.tmp rfl (z1 rfl)) ?_))))))))
  exact ⟨_, false, rfl, fun h => by (cases h), fun _ => kH zy zy⟩
 refine z2 (zG (zq (aG rfl rfl) (za rfl (zk (aN rfl (W.skip (End.KB (End.K (zr (za (zi 0) (za rfl (zk (W.ret (bZ (ResL.tmp rfl (z1 rfl)) ?_))))))))))))))
 exact ⟨_, false, rfl, fun h => by (cases h), fun _ => kH zy zy⟩

theorem uf (hs : ad) (hro : ∀ e ∈ hs, e.w = false) (L : List IE) (v : AV) (hV : IIn hs L v) (hB : ILB L) : Spec aW 16 [v] [] hs (fun r D => ∃ (e : Nat) (Y : List IE) (w : AV), sJ L e (D2 Y) /\ IOwn Y w D /\ r = .tuple [w, .int .i64 ((e : Nat) : Int)]) := by
 have hBl := hB.1
 refine ak (eX 16 Tryz.func16) rfl (m := 46) rfl (rs := [.tmp 2, .tmp 3]) rfl (st := [(0, v)]) rfl rfl (fun _ => rfl) (fun E => zr (za rfl (za (zi 0) (zk (W.seq (zr (zm rfl (aB rfl (aY rfl oz) rfl (jT hs hro L _ hV hB) (aZ hro) rfl (za rfl (zk (zr (zm rfl (zq (aa rfl (zi 0) rfl (bV er)) (zk (aw rfl (fun hc13 => ?_) (fun hc13 => ?_))))))))))))))))
 ·refine zr (zm rfl (za rfl (za rfl (zk (W.ret ?_)))))
  refine ac (End.ret (ResL.tmp rfl (z1 rfl)) (hs' := []) ⟨dE L, [], .nils, .inl ⟨by omega, rfl, rfl⟩, IOwn.nil, rfl⟩ iC (SubH.nil _))
 obtain ⟨h0, hL, hok⟩ := iH (L := L) zy
 refine zw (zr (za rfl (zk (W.seq (zr (zm rfl (zq (Q.len aP rfl hV.1.len) (zq (Q.move (zi 0)) (zk (W.block (iE (fun (i : Nat) (X : List IE) (u : AV) (hp : ad) (hl : ad) => [(5, u), (15, v), (16, .int .i64 ((L.length : Nat) : Int)), (17, .int .i64 ((i : Nat) : Int))]) (fun (i : Nat) (X : List IE) (u : AV) (hp : ad) (hl : ad) => (hs ++ hl ++ hp)) (fun (i : Nat) (X : List IE) (u : AV) (hp : ad) (hl : ad) => i <= L.length /\ D2 X = ri (D2 L) i /\ OwnE 12 (cI X) X.length u hp /\ (∀ x ∈ X, IOK hl x /\ x.nk = 0) /\ WZ hl /\ (∀ x ∈ X, IBd x)) (fun (i : Nat) (X : List IE) (u : AV) (hp : ad) (hl : ad) => L.length - i) (0) ([]) (.nils) ([]) ([]) ⟨Nat.zero_le _, rfl, OwnE.nil 12, fun x hx => by simp at hx, WZ.nil, fun x hx => by simp at hx⟩ zv (by rw [List.append_nil, List.append_nil]; exact SubH.refl _) (fun i X u hp hl hI0 ih0 => ?_))))))))))))
 obtain ⟨h3, hX2, hO, hX, hw, hXb⟩ := hI0
 have hXl : X.length = i := (by rw [<- aK, hX2, s8])
 refine zr (zq (aa rfl rfl rfl (fi fv)) (zk (W.seq (aw rfl (fun hc18 => ?_) (fun hc18 => ?_)))))
 ·obtain ⟨bv, szv, exv, rfl, wv, mv⟩ := hV.1.full zy
  refine zw (W.seq (W.block (zr (zq (aQ aP aC rfl rfl zo) (zq (aD rfl (List.mem_append_left _ (List.mem_append_left _ mv)) cH aC (fT zo)) (WO.alloc pS rfl (fun b1 => WO.store aC rfl rfl (i := 0) rfl (dp rfl (IOK.cells (hV.at zy))) (cs := [_, _, _, _, _, _, _, _, _, _, _, _]) rfl (hs' := _ :: _) rfl (zk (W.seq (zr (zm rfl (zq (aD rfl (zt 0 rfl) cH aC (l := [_, _, _, _, _, _, _, _, _, _, _, _]) rfl) (WO.callE rfl (aY rfl (aY rfl oz)) rfl (qr (ro (hp ++ hl) ++ hs) (gy hro) X u ⟨(RIn.own hO).appl.ro.appl, fun x hx => (hX x hx).1.mono (fun b o q => q.app.ro.appl')⟩ ⟨by omega, hXb⟩ (ei L i).d (ei L i).ars (ei L i).nk _ _ _ _ ((hV.at zy).mono (fun b o q => q.app)) (hB.at zy) (fun a ha => by have := eU (hok i zy) ha; omega)) (dH gc hro) rfl (fun v24 hP24 => ?_))))))))))))))
  obtain ⟨fn, fb, rfl, hf1, hf2⟩ := hP24
  refine zm rfl (zq (Q.extract rfl rfl) (zq (Q.extract rfl rfl) (za rfl (za rfl (zk (zr (zm rfl (zk (b9 rfl (fun hc27 => ?_) (fun hc27 => ?_))))))))))
  ·refine zr (zm rfl (zm rfl (zq (zB B4 (gO (zi 1) (gO rfl aE)) rfl rfl) (zq (Q.build sk (gO rfl aE) rfl (cs := [_, _, _, _, _, _, _, _, _, _, _, _]) rfl) (WO.bslice aP aC pG rfl (gO rfl aE) rfl (cs := [_, _, _, _, _, _, _, _, _, _, _, _]) rfl rfl rfl (fun b2 => WO.appAny (A := ([_] ++ hs ++ hl)) fm hO rfl rfl (Src.slice (zt 0 rfl) rfl) rfl zy (by decide) (SubH.of_sublist (List.sublist_cons_self _ _)) rfl (fun v33 hp33 hO33 => za rfl (zk (W.sub (zc 5 rfl (zc 15 rfl (zc 16 rfl (zc 17 rfl bE)))) (W.exit (aJ (aI (End.K (ay (zq (aa rfl (zi 1) rfl zp) (zm rfl (WO.nil (End.KL (W.sub zv (bG gc (ih0 (i + 1) (X ++ [⟨lE fn, [], 0, .nils, .nils, .nils, .nils⟩]) (v33) (hp33) (hl) ?_ ?_)))))))))))))))))))))
   ·exact ⟨by omega, by rw [zJ hX2 (hf1 (by simpa using hc27)), fq, hX2], by rw [fp, List.length_append]; exact hO33, Ah hX, hw, yb hXb⟩
   exact zo
  refine zw (lS 9 (⟨b1, _, false⟩ :: hs) (by kernel_rfl) (KIn.cons (zt 0 rfl) (fun e he => ⟨e.w, by obtain ⟨b, o, w⟩ := e; simp [he]⟩)) (WD.q (Q.move rfl) (OwnE.bq hO) rfl (WD.q (Q.fieldAddr aV rfl (o' := 0) rfl) sV rfl (WD.q (zL rfl (zt 0 rfl) jD iu rfl) (lY (hV.at zy)) rfl (WD.call0 rfl (aY rfl oz) rfl (kw hs hro (ei L i).d _ _ _ (hV.at zy).m (hV.at zy).n _ (hV.at zy).k (hB.at zy).d) (SubR.t (SubR.appl (SubR.appl (aZ hro)))) (KIn.cons (zt 0 rfl) (fun e he => ⟨e.w, by obtain ⟨b, o, w⟩ := e; simp [he]⟩)) rfl (fun v37 D37 hP37 => ?_))))))
  obtain ⟨vm2, vn2, Dm, Dn, rfl, hOm, hOn, hDD⟩ := hP37
  have hwD : WZ D37 := (by rw [hDD]; exact (WZ.own hOm).app (WZ.own hOn))
  refine WD.subH (hs' := _ :: (hs ++ hl ++ hp ++ D37)) (SubH.op (bU (N := []) (G := D37) (K := [_]) (X := hs ++ hl ++ hp))) (WD.q (Q.fieldAddr bP rfl (o' := 11) rfl) sV rfl (WD.q (ag rfl (zt 0 rfl) eZ rfl) (hV.at zo).a.bq rfl (WD.call0 rfl (aY rfl oz) rfl (vE hs hro _ _ _ (hV.at zy).a (by have := (hB.at (i := i) zy).a; omega)) (SubR.t (SubR.appl (SubR.appl (SubR.appl (aZ hro))))) (KIn.cons (zt 0 rfl) (fun e he => ⟨e.w, by obtain ⟨b, o, w⟩ := e; simp [he]⟩)) rfl (fun v40 D40 hP40 => WD.subH (hs' := _ :: (hs ++ hl ++ D37 ++ D40 ++ hp)) (SubH.op (io (N := []) (G := D40) (K := [_]) (X := hs ++ hl ++ hp ++ D37) (by simp only [List.append_assoc, List.nil_append]; exact List.perm_iff_count.2 (by intro z; simp only [List.append_eq, List.count_append, List.count_nil]; omega)))) (WD.q (Q.build sk (gO rfl (gO rfl aE)) rfl (cs := [_, _, _, _, _, _, _, _, _, _, _, _]) (rQ (OwnE.cell hP40))) (vl (OwnE.bq0 hOm) (OwnE.bq0 hOn) (OwnE.bq0 hP40)) rfl (WD.bslice aP aC pG rfl (gO rfl aE) rfl (cs := [_, _, _, _, _, _, _, _, _, _, _, _]) rfl (sP (OwnE.cell hOm) (OwnE.cell hOn) (OwnE.cell hP40)) rfl (KIn.cons (zt 0 rfl) (fun e he => ⟨e.w, by obtain ⟨b, o, w⟩ := e; simp [he]⟩)) (fun b3 => WD.appAny (A := ([_] ++ hs ++ hl ++ D37 ++ D40)) fm hO rfl rfl (Src.slice (zt 0 rfl) rfl) rfl zy (by decide) (SubH.of_sublist (List.sublist_cons_self _ _)) rfl (KIn.cons (zt 0 rfl) (fun e he => ⟨e.w, by obtain ⟨b, o, w⟩ := e; simp [he]⟩)) (fun v43 hp43 hO43 => WD.q (Q.assign rfl) (OwnE.bq hO43) rfl (WD.nil (End.KB (End.K (W.sub (zc 5 rfl (zc 15 rfl (zc 16 rfl (zc 17 rfl bE)))) (ay (zq (aa rfl (zi 1) rfl zp) (zm rfl (WO.nil (End.KL (W.sub zv (bG gc (ih0 (i + 1) (X ++ [⟨(ei L i).d, (ei L i).ars, 0, vm2, vn2, .nils, v40⟩]) (v43) (hp43) (hl ++ D37 ++ D40) ?_ ?_))))))))))))))))))))
  ·exact ⟨by omega, by rw [zI hX2 (hf2 (by simpa using hc27)), fq, hX2], by rw [fp, List.length_append]; exact hO43, kW hX hOm hOn hP40 hDD, (hw.app hwD).app (WZ.own hP40), A4 hXb (hB.at zy).d (hB.at zy).a (hB.at zy).i⟩
  exact zo
 refine W.exit (aJ (aM (aI (End.K (zr (zm rfl (za rfl (za (zi 0) (zk (W.ret ?_))))))))))
 refine End.ret (ResL.tmp rfl (z1 rfl)) (hs' := hp ++ hl) ⟨0, X, u, .inr ⟨by omega, rfl, by rw [hX2, show i = L.length by omega]; unfold wh; rw [aK]⟩, ⟨hp, hl, rfl, hO, hX, hw, ⟨by omega, hXb⟩⟩, rfl⟩ (wa (OwnE.w hO) hw.w) gc
theorem tW {A B : List IE} {va vb : AV} (hs : ad) (hro : ∀ e ∈ hs, e.w = false) (hA : IIn hs A va) (hB : IIn hs B vb) (bA : ILB A) (bB : ILB B) (hK : ∀ x ∈ A, x.nk = 0) (hK2 : ∀ x ∈ B, x.nk = 0) (hD : D2 A = D2 B) {i : Nat} (hi : i < A.length) : Spec aW 26 [.agg (ei A i).c, .agg (ei B i).c] [] hs (eW (.bool true)) := by
 have hlen : A.length = B.length := (by rw [<- aK, hD, aK])
 have h1 := hA.at hi
 have h2 := hB.at (i := i) zy
 have h3 := hK _ (dF hi)
 have h4 := hK2 _ (dF (L := B) (i := i) zy)
 have h5 := bA.at hi
 have h6 := bB.at (i := i) zy
 have h7 : ((ei A i).d, (ei A i).ars) = ((ei B i).d, (ei B i).ars) := by rw [jx, jx, hD]
 generalize ei A i = x at *
 generalize ei B i = y at *
 obtain ⟨d, A, nk, vm, vn, vk, va⟩ := x
 obtain ⟨d', A', nk', vm', vn', vk', va'⟩ := y
 simp only at h3 h4 h7
 subst h3 h4
 have := vc hs hro d d' A A' 0 0 vm vn vk va vm' vn' vk' va' h1 h2 h1.k h2.k h5 h6
 rw [decide_eq_true h7] at this
 exact this
section
variable {P : List PI}
end
theorem B9 (hs : ad) (hro : ∀ e ∈ hs, e.w = false) (A B : List IE) (va vb : AV) (hA : IIn hs A va) (hB : IIn hs B vb) (bA : ILB A) (bB : ILB B) (hK : ∀ x ∈ A, x.nk = 0) (hK2 : ∀ x ∈ B, x.nk = 0) (hD : D2 A = D2 B) : Spec aW 13 [va, vb] [] hs (eW (.bool true)) := by
 have hlen : A.length = B.length := (by rw [<- aK, hD, aK])
 have hAl := bA.1
 refine ak (eX 13 Tryz.func13) rfl (m := 27) rfl (rs := [.tmp 4]) rfl (st := [(0, va), (1, vb)]) rfl rfl (fun _ => rfl) (fun E => zr (za rfl (zk (W.seq (zr (zm rfl (zq (Q.len aP rfl hA.1.len) (zm rfl (zq (Q.len aP rfl hB.1.len) (zq (aa rfl rfl rfl (bV (p := false) (by rw [hlen, er]; simp))) (zk (aN rfl (zw (W.seq (zr (za (zi 0) (zk (W.block (az (fun (i : Nat) => [(0, va), (1, vb), (5, .int .i64 ((i : Nat) : Int))]) (fun (i : Nat) => hs) (fun (i : Nat) => i <= A.length) (fun (i : Nat) => A.length - i) (0) (Nat.zero_le _) zv (SubH.refl _) (fun i hI0 ih0 => ?_))))))))))))))))))))
 have h1 := hI0
 refine W.seq (zr (zm rfl (zm rfl (zq (Q.len aP rfl hA.1.len) (zq (aa rfl rfl rfl (fi fv)) (zk (aw rfl (fun hc14 => ?_) (fun hc14 => ?_))))))))
 ·obtain ⟨ba, sza, exa, rfl, wa_, ma⟩ := hA.1.full zy
  obtain ⟨bb, szb, exb, rfl, wb_, mb⟩ := hB.1.full zy
  refine zw (W.seq (W.block (W.seq (dD (by kernel_rfl) (zm rfl (zm rfl (zq (aQ aP aC rfl rfl zo) (zq (aD rfl ma cH aC (fT zo)) (zm rfl (zm rfl (zq (aQ aP aC rfl rfl zo) (zq (aD rfl mb cH aC (fT zo)) (aB rfl (aY rfl (aY rfl oz)) rfl (tW hs hro hA hB bA bB hK hK2 hD (i := i) zy) (aZ hro) rfl (zq (Q.not rfl rfl) (zk (aN rfl (W.skip (End.KB (End.K (W.sub (zc 0 rfl (zc 1 rfl (zc 5 rfl bE))) (ay (zm rfl (zq (aa rfl (zi 1) rfl zp) (za rfl ?_))))))))))))))))))))))))
  refine WO.nil (End.KL (W.sub zv (bG (SubH.refl _) (ih0 (i + 1) ?_ ?_))))
  ·exact zy
  exact zo
 refine W.exit (aJ (aM (aI (End.K (zr (za rfl (zk (W.ret (ab (z1 rfl) ?_)))))))))
 rfl

end Go.Proofs.YtndhhgbpcmfeiaaGreatDoor.Ev
