/- Chapter 20, walks: Fold. -/
import Derived.Test.YtndhhgbpcmfeiaaGreatDoorOJj
import Derived.Test.YtndhhgbpcmfeiaaGreatDoorOWalkP
namespace Go.Proofs.YtndhhgbpcmfeiaaGreatDoor.Ev
open Go.RowKit
set_option maxRecDepth 100000
set_option maxHeartbeats 1000000
def BM (O : List PI) (x : PI) : Option Int :=
 match x.2 with
 | [p] => if (pd O p.toNat).1.kd = 1 /\ x.1.kd = 6 /\ jS (pd O p.toNat).1.n = true then some (-(pd O p.toNat).1.n) else none
 | [p, q] => if (pd O p.toNat).1.kd = 1 /\ (pd O q.toNat).1.kd = 1 /\ x.1.kd = 5 /\ (jv x.1.op (pd O p.toNat).1.n (pd O q.toNat).1.n).2 = 0 then some (jv x.1.op (pd O p.toNat).1.n (pd O q.toNat).1.n).1 else none
 | _ => none
def qI (n : Int) : ND := ⟨1, [], n, [], 0, 0, 0, [], 0, false⟩
def Dx (O : List PI) (x : PI) : PI := match BM O x with
 | some n => (qI n, [])
 | none => x
def mt (L : List PI) : Nat -> List PI
 | 0 => []
 | i + 1 => mt L i ++ [Dx (mt L i) (pd L i)]
def kx (L : List PI) : List PI := mt L L.length
theorem EK {op : List Nat} {a b : Int} : 0 <= (jv op a b).2 := by
 unfold jv
 (repeat' split) <;> first | decide | exact CC _ _ | exact CG _ _ | exact CF _ _ | exact CD _ _ | exact CE _ _
def AC (X : List IE) (A : List Int) : List Int := A.map fun a => (ei X a.toNat).d.n
theorem mw {X : List IE} {A : List Int} : (AC X A).length = A.length := List.length_map _
theorem BN {X : List IE} {A : List Int} {i : Nat} (h : i < A.length) : cA ((AC X A).take (i + 1)) = cA ((AC X A).take i) ++ [.int .i64 (ei X (ai A i).toNat).d.n] := by
 unfold AC
 rw [List.take_add_one, List.getElem?_map, jo h, cA, List.map_append]; rfl
theorem DS {A : List Int} {q : Nat} (h : q < A.length) : (cA A)[q]? = some (.int .i64 (ai A q)) := by
 rw [cA, List.getElem?_map, jo h]; rfl
theorem nf {X : List IE} {A : List Int} {j : Nat} (h : j < A.length) : ai (AC X A) j = (ei X (ai A j).toNat).d.n := qR (by unfold AC; rw [List.getElem?_map, jo h]; rfl)
section
variable {O : List PI} {X : List IE} {d : ND} {A : List Int} {j : Nat}
theorem yj (h : A.length = 0 \/ 2 < A.length) : BM O (d, A) = none := by
 match A, h with
 | [], _ => rfl
 | [_], h => simp at h
 | [_, _], h => simp at h
 | _ :: _ :: _ :: _, _ => rfl
theorem F2 (h : j < A.length) (hn : (ei X (ai A j).toNat).d.kd ≠ 1) : BM (D2 X) (d, A) = none := by
 rw [tP] at hn
 match A, j, h with
 | [p], 0, _ => exact if_neg fun q => hn q.1
 | [p, q], 0, _ => exact if_neg fun q => hn q.1
 | [p, q], 1, _ => exact if_neg fun q => hn q.2.1
 | _ :: _ :: _ :: _, _, _ => rfl
theorem vT (h6 : ¬ (d.kd = 6 /\ A.length = 1)) (h5 : ¬ (d.kd = 5 /\ A.length = 2)) : BM O (d, A) = none := by
 match A, h6, h5 with
 | [], _, _ => rfl
 | [p], h, _ => exact if_neg fun q => h ⟨q.2.1, rfl⟩
 | [p, q], _, h => exact if_neg fun q => h ⟨q.2.2.1, rfl⟩
 | _ :: _ :: _ :: _, _, _ => rfl
theorem Fp (hl : A.length = 1) (hk : (ei X (ai A 0).toNat).d.kd = 1) (h6 : d.kd = 6) : BM (D2 X) (d, A) = if jS (ei X (ai A 0).toNat).d.n = true then some (-(ei X (ai A 0).toNat).d.n) else none := by
 rw [tP] at hk ⊢
 match A, hl with
 | [p], _ =>
  have hk : (pd (D2 X) p.toNat).1.kd = 1 := hk
  show (if (pd (D2 X) p.toNat).1.kd = 1 /\ d.kd = 6 /\ jS (pd (D2 X) p.toNat).1.n = true then some (-(pd (D2 X) p.toNat).1.n) else none) = if jS (pd (D2 X) p.toNat).1.n = true then some (-(pd (D2 X) p.toNat).1.n) else none
  simp only [hk, h6, true_and]
theorem Fq (hl : A.length = 2) (hk : (ei X (ai A 0).toNat).d.kd = 1) (hk1 : (ei X (ai A 1).toNat).d.kd = 1) (h5 : d.kd = 5) :
  BM (D2 X) (d, A) = if (jv d.op (ei X (ai A 0).toNat).d.n (ei X (ai A 1).toNat).d.n).2 = 0 then some (jv d.op (ei X (ai A 0).toNat).d.n (ei X (ai A 1).toNat).d.n).1 else none := by
 rw [tP] at hk hk1
 rw [tP, tP]
 match A, hl with
 | [p, q], _ =>
  have hk : (pd (D2 X) p.toNat).1.kd = 1 := hk
  have hk1 : (pd (D2 X) q.toNat).1.kd = 1 := hk1
  show (if (pd (D2 X) p.toNat).1.kd = 1 /\ (pd (D2 X) q.toNat).1.kd = 1 /\ d.kd = 5 /\ (jv d.op (pd (D2 X) p.toNat).1.n (pd (D2 X) q.toNat).1.n).2 = 0 then some (jv d.op (pd (D2 X) p.toNat).1.n (pd (D2 X) q.toNat).1.n).1 else none) = if (jv d.op (pd (D2 X) p.toNat).1.n (pd (D2 X) q.toNat).1.n).2 = 0 then some (jv d.op (pd (D2 X) p.toNat).1.n (pd (D2 X) q.toNat).1.n).1 else none
  simp only [hk, hk1, h5, true_and]
end
theorem Gf {n : Int} (h : jS n = true) : IntKind.i64.wrap (0 - n) = -n := by
 rw [Int.zero_sub]
 unfold jS at h
 simp only [Bool.and_eq_true, decide_eq_true_eq] at h
 exact qM zy
theorem Hj {op : List Nat} {a b : Int} (h : (jv op a b).2.toNat = 0) : (jv op a b).2 = 0 := by
 have := EK (op := op) (a := a) (b := b)
 omega
theorem Hk {op : List Nat} {a b : Int} (h : ¬ (jv op a b).2.toNat = 0) : ¬ (jv op a b).2 = 0 := fun e => h (by rw [e]; rfl)
def Fd (L : List IE) (e : Nat) (Q : List PI) : Prop := (d5 L ≠ 0 /\ e = d5 L /\ Q = []) \/ (d5 L = 0 /\ e = 0 /\ Q = kx (D2 L))
theorem gV {L : List PI} : ∀ {i : Nat}, (mt L i).length = i
 | 0 => rfl
 | i + 1 => by rw [mt, List.length_append, gV]; rfl
theorem Eg {X L : List IE} {i : Nat} {n : Int} (hX : D2 X = mt (D2 L) i) (h : BM (D2 X) ((ei L i).d, (ei L i).ars) = some n) : mt (D2 L) (i + 1) = mt (D2 L) i ++ [(qI n, [])] := by
 rw [mt, Dx, <- me, <- hX, h]
theorem Ef {X L : List IE} {i : Nat} (hX : D2 X = mt (D2 L) i) (h : BM (D2 X) ((ei L i).d, (ei L i).ars) = none) : mt (D2 L) (i + 1) = mt (D2 L) i ++ [((ei L i).d, (ei L i).ars)] := by
 rw [mt, Dx, <- me, <- hX, h]
theorem EL {X : List IE} {hl : ak} {n : Int} (hX : ∀ x ∈ X, IOK hl x /\ x.nk = 0) : ∀ x ∈ X ++ [⟨qI n, [], 0, .nils, .nils, .nils, .nils⟩], IOK hl x /\ x.nk = 0 := fun x hx => by
 rcases List.mem_append.1 hx with hx | hx
 ·exact hX x hx
 ·rw [List.mem_singleton.1 hx]
  exact ⟨⟨RIn.nil, RIn.nil, .inl ⟨rfl, rfl⟩, RIn.nil⟩, rfl⟩
theorem Gm {X : List IE} {n : Int} (hX : ∀ x ∈ X, IBd x) : ∀ x ∈ X ++ [⟨qI n, [], 0, .nils, .nils, .nils, .nils⟩], IBd x := fun x hx => by
 rcases List.mem_append.1 hx with hx | hx
 ·exact hX x hx
 ·rw [List.mem_singleton.1 hx]
  exact ⟨⟨fun c hc => by simp [qI] at hc, ⟨by simp [qI], fun m hm => by simp [qI] at hm⟩, ⟨by simp [qI], fun m hm => by simp [qI] at hm⟩⟩, by simp, fun n hn => by simp at hn⟩

theorem ua (hs : ak) (hro : ∀ e ∈ hs, e.w = false) (X : List IE) (u : AV) (hX : IIn hs X u) (hXb : ILB X) (d : ND) (A : List Int) (nk : Nat) (vm vn vk va : AV) (hx : IOK hs (⟨d, A, nk, vm, vn, vk, va⟩ : IE)) (hb : IBd (⟨d, A, nk, vm, vn, vk, va⟩ : IE)) (hA : ∀ a ∈ A, 0 <= a /\ a < ((X.length : Nat) : Int)) : Spec aN 40 [u, .agg (IE.c (⟨d, A, nk, vm, vn, vk, va⟩ : IE))] [] hs (eQ (fun r => ∃ (n : Int) (b : Bool), r = .tuple [.int .i64 n, .bool b] /\ (b = true -> BM (D2 X) (d, A) = some n) /\ (b = false -> BM (D2 X) (d, A) = none))) := by
 have hxa : RIn hs 1 A.length (cA A) va := hx.a
 have hAl : A.length <= 1048576 := hb.a
 refine av (cX 40 Tryz.func40) rfl (m := 89) rfl (rs := [.tmp 4, .tmp 5]) rfl (st := [(0, u), (1, .agg (IE.c (⟨d, A, nk, vm, vn, vk, va⟩ : IE)))]) rfl rfl (fun _ => rfl) (fun E => zr (WO.box rfl hx.cells (FP _ rfl) rfl (fun b1 => za (zi 0) (za rfl (zk (W.seq (zr (zf im rfl 11 (zq (ap rfl (zt 0 rfl) oS rfl) (zq (Q.len bc rfl hxa.len) (zq (aa rfl (zi 0) rfl (ag aA)) (zm rfl (ay (d := 15) rfl (fun hc15 => ?_) (fun hc15 => ?_))))))))))))))
 ·refine z2 (z2 (zq (aj rfl rfl) (zk (au rfl (zr (za (zi 0) (za rfl (zk (W.ret (ac (af (ResL.tmp rfl (z1 rfl)) ?_)))))))))))
  exact ⟨_, false, rfl, fun h => by (cases h), fun _ => yj zy⟩
 refine zT (zf im rfl 11 (zT (zq (ap rfl (zt 0 rfl) oS rfl) (zT (zq (Q.len bc rfl hxa.len) (zT (zq (aa rfl (zi 2) rfl (aV dM)) (zq (ax rfl rfl) (zk (aw rfl (fun hc20 => ?_) (fun hc20 => ?_)))))))))))
 ·refine zr (za (zi 0) (za rfl (zk (W.ret (ac (af (ResL.tmp rfl (z1 rfl)) ?_))))))
  exact ⟨_, false, rfl, fun h => by (cases h), fun _ => yj zy⟩
 refine zw (zr (za rfl (zk (W.seq (zr (zf im rfl 11 (zq (ap rfl (zt 0 rfl) oS rfl) (zq (Q.len bc rfl hxa.len) (zq (Q.move (zi 0)) (zk (W.sub (zc 24 rfl (zc 23 rfl (zc 22 rfl (zc 6 rfl (zc 3 rfl (zc 0 rfl aI)))))) (W.block (dE (fun (i : Nat) (u2 : AV) (hq : ak) => [(0, u), (3, .ptr b1 0), (6, u2), (22, va), (23, .int .i64 ((A.length : Nat) : Int)), (24, .int .i64 ((i : Nat) : Int))]) (fun (i : Nat) (u2 : AV) (hq : ak) => (⟨b1, ⟨12, true, d.c vm vn vk ++ [va]⟩, true⟩ :: (hs ++ hq))) (fun (i : Nat) (u2 : AV) (hq : ak) => i <= A.length /\ OwnE 1 (cA ((AC X A).take i)) i u2 hq /\ ∀ j, j < i -> (ei X (ai A j).toNat).d.kd = 1) (fun (i : Nat) (u2 : AV) (hq : ak) => A.length - i) (0) (.nils) ([]) ⟨Nat.zero_le _, OwnE.nil 1, fun j h => absurd h (Nat.not_lt_zero _)⟩ zv (by rw [List.append_nil]; exact SubH.refl _) (fun i u2 hq hI0 ih0 => ?_))))))))))))))
 obtain ⟨h1, hO, hk1⟩ := hI0
 refine zr (zq (aa rfl rfl rfl (ec dM)) (zk (W.seq (aw rfl (fun hc25 => ?_) (fun hc25 => ?_)))))
 ·have hq1 := hA _ (i7 (A := A) (q := i) zy)
  obtain ⟨ba, sza, exa, rfl, wa_, ma⟩ := hxa.full zy
  obtain ⟨bv, szv, exv, rfl, wv, mv⟩ := hX.1.full zy
  refine zw (W.seq (W.block (zr (zq (ci bc di rfl rfl zo) (zq (ap rfl (List.mem_cons_of_mem _ (List.mem_append_left _ ma)) bU (vB zo hq1.1)) (za rfl (zk (W.seq (zr (zm rfl (zm rfl (zq (ci dO eK rfl rfl zo) (zq (Q.fieldAddr fB rfl rfl) (zq (Q.fieldAddr ij rfl rfl) (zq (ap rfl (List.mem_cons_of_mem _ (List.mem_append_left _ mv)) bU (A0 0 zo rfl)) (zq (aa rfl (zi 1) rfl (aR cP)) (zk (aw rfl (fun hc34 => ?_) (fun hc34 => ?_)))))))))))))))))))
  ·refine zr (za (zi 0) (za rfl (zk (W.sub (zc 5 rfl (zc 4 rfl aI)) (W.ret (ac (ad (ac (bE (ad (ac (af (ResL.tmp rfl (z1 rfl)) ?_))))))))))))
   exact ⟨_, false, rfl, fun h => by (cases h), fun _ => F2 (j := i) zy (by simpa using hc34)⟩
  refine zw (am (zm rfl (zm rfl (zm rfl (zq (ci dO eK rfl rfl zo) (zq (Q.fieldAddr fB rfl rfl) (zq (Q.fieldAddr pA rfl rfl) (zq (ap rfl (List.mem_cons_of_mem _ (List.mem_append_left _ mv)) bU (A0 2 zo rfl)) (WO.bslice bc di yY rfl (bz rfl aq) rfl (cs := [_]) rfl rfl rfl (fun b2 => WO.appAny (A := ([_] ++ hs)) fp hO rfl rfl (Src.slice (zt 0 rfl) rfl) rfl zy (by decide) (SubH.of_sublist (List.sublist_cons_self _ _)) rfl (fun v43 hp43 hO43 => za rfl (WO.nil (End.KB (End.K (W.sub (zc 6 rfl (zc 0 rfl (zc 3 rfl (zc 22 rfl (zc 23 rfl (zc 24 rfl aI)))))) (am (zq (aa rfl (zi 1) rfl zp) (zm rfl (WO.nil (End.KL (W.sub zv (bX gc (ih0 (i + 1) (v43) (hp43) ?_ ?_)))))))))))))))))))))))
  ·exact ⟨by omega, by rw [BN zy]; exact hO43, fun j hj => by rcases Nat.lt_or_ge j i with q | q; exact hk1 j q; obtain rfl : j = i := zy; simpa using hc34⟩
  exact zo
 obtain rfl : i = A.length := zy
 have hO2 : OwnE 1 (cA (AC X A)) A.length u2 hq := (by rw [List.take_of_length_le (by rw [mw]; exact Nat.le_refl _)] at hO; exact hO)
 refine W.exit (aC (aK (aB (End.K (W.seq (W.block (zr (zf fB rfl 0 (zf ij rfl 0 (zq (ap rfl (zt 0 rfl) bU rfl) (zq (aa rfl (zi 6) rfl (ag bj)) (zm rfl (ay (d := 50) rfl (fun hc50 => ?_) (fun hc50 => ?_))))))))))))))
 ·refine zT (zm rfl (zT (zq (Q.len bc rfl hO.len) (zT (zq (aa rfl (zi 1) rfl (ag aA)) (zq (aj rfl rfl) (za rfl (zk (W.sub (zc 45 rfl (zc 3 rfl (zc 6 rfl aI))) (aw rfl (fun hc45 => ?_) (fun hc45 => ?_)))))))))))
  ·obtain ⟨b6, ex6, rfl, rfl⟩ := hO2.full zy
   refine W.seq (eC 8 _ (by kernel_rfl) (KIn.refl _) (WD.q (Q.move rfl) HF rfl (WD.q (cR bc di rfl (zi 0) zo (o' := 0) rfl) iF rfl (WD.q (ap rfl (List.mem_cons_of_mem _ (List.mem_append_right _ List.mem_cons_self)) bU (DS (A := AC X A) (q := 0) (by rw [mw]; omega))) kg rfl (WD.q (Q.neg rfl rfl) kg rfl (WD.q (Q.move rfl) HF rfl (WD.q (cR bc di rfl (zi 0) zo (o' := 0) rfl) iF rfl (WD.q (ap rfl (List.mem_cons_of_mem _ (List.mem_append_right _ List.mem_cons_self)) bU (DS (A := AC X A) (q := 0) (by rw [mw]; omega))) kg rfl (AH rfl (aD rfl oz) rfl (jt _) SubR.nil (KIn.refl _) rfl (WD.q (Q.assign rfl) kg rfl (WD.q (Q.assign rfl) bw rfl (WD.nil (End.K (W.ret (ad (ac (af (ResL.tmp rfl (z1 rfl)) ?_)))))))))))))))))
   exact ⟨_, _, rfl, fun h => by rw [Fp zy (hk1 0 zy) zy, <- nf zy, if_pos h]; exact congrArg some (Gf h).symm, fun h => by rw [Fp zy (hk1 0 zy) zy, <- nf zy, if_neg (by rw [h]; decide)]⟩
  refine zr (zf fB rfl 0 (zf ij rfl 0 (zq (ap rfl (zt 0 rfl) bU rfl) (zq (aa rfl (zi 5) rfl (ag bj)) (zm rfl (ay (d := 68) rfl (fun hc68 => ?_) (fun hc68 => ?_)))))))
  ·(exfalso; omega)
  refine z2 (zG (zq (ax rfl rfl) (za rfl (zk (az rfl (W.skip (End.KB (End.K (zr (za (zi 0) (za rfl (zk (W.ret (af (ResL.tmp rfl (z1 rfl)) ?_))))))))))))))
  exact ⟨_, false, rfl, fun h => by (cases h), fun _ => vT zy zy⟩
 refine z2 (zG (zq (ax rfl rfl) (za rfl (zk (W.sub (zc 45 rfl (zc 3 rfl (zc 6 rfl aI))) (az rfl (zr (zf fB rfl 0 (zf ij rfl 0 (zq (ap rfl (zt 0 rfl) bU rfl) (zq (aa rfl (zi 5) rfl (ag bj)) (zm rfl (ay (d := 68) rfl (fun hc68 => ?_) (fun hc68 => ?_))))))))))))))
 ·refine zT (zm rfl (zT (zq (Q.len bc rfl hO.len) (zT (zq (aa rfl (zi 2) rfl (ag aA)) (zq (aj rfl rfl) (za rfl (zk (aw rfl (fun hc63 => ?_) (fun hc63 => ?_))))))))))
  ·obtain ⟨b6, ex6, rfl, rfl⟩ := hO2.full zy
   refine W.seq (dz (by kernel_rfl) (zf fB rfl 0 (zf ik rfl 1 (zq (ap rfl (zt 0 rfl) fW rfl) (zm rfl (zq (cR bc di rfl (zi 0) zo (o' := 0) rfl) (zq (ap rfl (List.mem_cons_of_mem _ (List.mem_append_right _ List.mem_cons_self)) bU (DS (A := AC X A) (q := 0) (by rw [mw]; omega))) (zm rfl (zq (cR bc di rfl (zi 1) zo (o' := 1) rfl) (zq (ap rfl (List.mem_cons_of_mem _ (List.mem_append_right _ List.mem_cons_self)) bU (DS (A := AC X A) (q := 1) (by rw [mw]; omega))) (aJ rfl (aD rfl (aD rfl (aD rfl oz))) rfl (CJ _ hb.d.1 _ _) SubR.nil rfl (zm rfl (zq (Q.extract rfl rfl) (zq (Q.extract rfl rfl) (za rfl (za rfl (zk (W.sub (zc 10 rfl (zc 9 rfl aI)) (zr (zm rfl (zm rfl (zq (aa rfl (zi 0) rfl (ag aA)) (za rfl ?_)))))))))))))))))))))))
   refine za rfl (zk (W.ret (ad (ac (af (ResL.tmp rfl (z1 rfl)) ?_)))))
   exact ⟨_, _, rfl, fun h => by rw [Fq zy (hk1 0 zy) (hk1 1 zy) zy, <- nf zy, <- nf zy, if_pos (Hj (by simpa using h))], fun h => by rw [Fq zy (hk1 0 zy) (hk1 1 zy) zy, <- nf zy, <- nf zy, if_neg (Hk (by simpa using h))]⟩
  refine W.skip (End.KB (End.K (zr (za (zi 0) (za rfl (zk (W.ret (af (ResL.tmp rfl (z1 rfl)) ?_))))))))
  exact ⟨_, false, rfl, fun h => by (cases h), fun _ => vT zy zy⟩
 refine z2 (zG (zq (ax rfl rfl) (za rfl (zk (az rfl (W.skip (End.KB (End.K (zr (za (zi 0) (za rfl (zk (W.ret (af (ResL.tmp rfl (z1 rfl)) ?_))))))))))))))
 exact ⟨_, false, rfl, fun h => by (cases h), fun _ => vT zy zy⟩

theorem qY (hs : ak) (hro : ∀ e ∈ hs, e.w = false) (L : List IE) (v : AV) (hV : IIn hs L v) (hB : ILB L) : Spec aN 16 [v] [] hs (fun r D => ∃ (e : Nat) (Y : List IE) (w : AV), Fd L e (D2 Y) /\ IOwn Y w D /\ r = .tuple [w, .int .i64 ((e : Nat) : Int)]) := by
 have hBl := hB.1
 refine av (cX 16 Tryz.func16) rfl (m := 46) rfl (rs := [.tmp 2, .tmp 3]) rfl (st := [(0, v)]) rfl rfl (fun _ => rfl) (fun E => zr (za rfl (za (zi 0) (zk (W.seq (zr (zm rfl (aJ rfl (aD rfl oz) rfl (o8 hs hro L _ hV hB) (cw hro) rfl (za rfl (zk (zr (zm rfl (zq (aa rfl (zi 0) rfl (aR cf)) (zk (aw rfl (fun hc13 => ?_) (fun hc13 => ?_))))))))))))))))
 ·refine zr (zm rfl (za rfl (za rfl (zk (W.ret ?_)))))
  refine ac (End.ret (ResL.tmp rfl (z1 rfl)) (hs' := []) ⟨d5 L, [], .nils, .inl ⟨by omega, rfl, rfl⟩, IOwn.nil, rfl⟩ dr (SubH.nil _))
 obtain ⟨h0, hL, hok⟩ := gH (L := L) zy
 refine zw (zr (za rfl (zk (W.seq (zr (zm rfl (zq (Q.len dO rfl hV.1.len) (zq (Q.move (zi 0)) (zk (W.block (nK (fun (i : Nat) (X : List IE) (u : AV) (hp : ak) (hl : ak) => [(5, u), (15, v), (16, .int .i64 ((L.length : Nat) : Int)), (17, .int .i64 ((i : Nat) : Int))]) (fun (i : Nat) (X : List IE) (u : AV) (hp : ak) (hl : ak) => (hs ++ hl ++ hp)) (fun (i : Nat) (X : List IE) (u : AV) (hp : ak) (hl : ak) => i <= L.length /\ D2 X = mt (D2 L) i /\ OwnE 12 (cI X) X.length u hp /\ (∀ x ∈ X, IOK hl x /\ x.nk = 0) /\ (∀ e ∈ hl, e.w = true) /\ (∀ x ∈ X, IBd x)) (fun (i : Nat) (X : List IE) (u : AV) (hp : ak) (hl : ak) => L.length - i) (0) ([]) (.nils) ([]) ([]) ⟨Nat.zero_le _, rfl, OwnE.nil 12, fun x hx => by simp at hx, dr, fun x hx => by simp at hx⟩ zv (by rw [List.append_nil, List.append_nil]; exact SubH.refl _) (fun i X u hp hl hI0 ih0 => ?_))))))))))))
 obtain ⟨h3, hX2, hO, hX, hw, hXb⟩ := hI0
 have hXl : X.length = i := (by rw [<- bP, hX2, gV])
 refine zr (zq (aa rfl rfl rfl (ec dM)) (zk (W.seq (aw rfl (fun hc18 => ?_) (fun hc18 => ?_)))))
 ·obtain ⟨bv, szv, exv, rfl, wv, mv⟩ := hV.1.full zy
  refine zw (W.seq (W.block (zr (zq (ci dO eK rfl rfl zo) (zq (aU rfl (List.mem_append_left _ (List.mem_append_left _ mv)) oT eK (l6 zo)) (WO.alloc AQ rfl (fun b1 => WO.store eK rfl rfl (i := 0) rfl (aQ rfl (IOK.cells (hV.at zy))) (cs := [_, _, _, _, _, _, _, _, _, _, _, _]) rfl (hs' := _ :: _) rfl (zk (W.seq (zr (zm rfl (zq (aU rfl (zt 0 rfl) oT eK (l := [_, _, _, _, _, _, _, _, _, _, _, _]) rfl) (WO.callE rfl (aD rfl (aD rfl oz)) rfl (ua (ro (hp ++ hl) ++ hs) (qb hro) X u ⟨(RIn.own hO).appl.ro.appl, fun x hx => (hX x hx).1.mono (fun b o q => q.app.ro.appl')⟩ ⟨by omega, hXb⟩ (ei L i).d (ei L i).ars (ei L i).nk _ _ _ _ ((hV.at zy).mono (fun b o q => q.app)) (hB.at zy) (fun a ha => by have := gD (hok i zy) ha; omega)) (kh gc hro) rfl (fun v24 hP24 => ?_))))))))))))))
  obtain ⟨fn, fb, rfl, hf1, hf2⟩ := hP24
  refine zm rfl (zq (Q.extract rfl rfl) (zq (Q.extract rfl rfl) (za rfl (za rfl (zk (zr (zm rfl (zk (aE rfl (fun hc27 => ?_) (fun hc27 => ?_))))))))))
  ·refine zr (zm rfl (zm rfl (zq (zB ka (bz (zi 1) (bz rfl aq)) rfl rfl) (zq (Q.build CR (bz rfl aq) rfl (cs := [_, _, _, _, _, _, _, _, _, _, _, _]) rfl) (WO.bslice dO eK Dv rfl (bz rfl aq) rfl (cs := [_, _, _, _, _, _, _, _, _, _, _, _]) rfl rfl rfl (fun b2 => WO.appAny (A := ([_] ++ hs ++ hl)) lV hO rfl rfl (Src.slice (zt 0 rfl) rfl) rfl zy (by decide) (SubH.of_sublist (List.sublist_cons_self _ _)) rfl (fun v33 hp33 hO33 => za rfl (zk (W.sub (zc 5 rfl (zc 15 rfl (zc 16 rfl (zc 17 rfl aI)))) (W.exit (aC (aB (End.K (am (zq (aa rfl (zi 1) rfl zp) (zm rfl (WO.nil (End.KL (W.sub zv (bX gc (ih0 (i + 1) (X ++ [⟨qI fn, [], 0, .nils, .nils, .nils, .nils⟩]) (v33) (hp33) (hl) ?_ ?_)))))))))))))))))))))
   ·exact ⟨by omega, by rw [Eg hX2 (hf1 (by simpa using hc27)), mc, hX2], by rw [l7, List.length_append]; exact hO33, EL hX, hw, Gm hXb⟩
   exact zo
  refine zw (eC 9 (⟨b1, _, false⟩ :: hs) (by kernel_rfl) (KIn.cons (zt 0 rfl) (fun e he => ⟨e.w, by obtain ⟨b, o, w⟩ := e; simp [he]⟩)) (WD.q (Q.move rfl) (OwnE.bq hO) rfl (WD.q (Q.fieldAddr fB rfl (o' := 0) rfl) iF rfl (WD.q (zL rfl (zt 0 rfl) bh aL rfl) (o0 (hV.at zy)) rfl (WD.call0 rfl (aD rfl oz) rfl (kN hs hro (ei L i).d _ _ _ (hV.at zy).m (hV.at zy).n _ (hV.at zy).k (hB.at zy).d) (SubR.t (SubR.appl (SubR.appl (cw hro)))) (KIn.cons (zt 0 rfl) (fun e he => ⟨e.w, by obtain ⟨b, o, w⟩ := e; simp [he]⟩)) rfl (fun v37 D37 hP37 => ?_))))))
  obtain ⟨vm2, vn2, Dm, Dn, rfl, hOm, hOn, hDD⟩ := hP37
  have hwD : ∀ e ∈ D37, e.w = true := (by rw [hDD]; exact wa (OwnE.w hOm) (OwnE.w hOn))
  refine WD.subH (hs' := _ :: (hs ++ hl ++ hp ++ D37)) (SubH.op (aG (N := []) (G := D37) (K := [_]) (X := hs ++ hl ++ hp))) (WD.q (Q.fieldAddr im rfl (o' := 11) rfl) iF rfl (WD.q (ap rfl (zt 0 rfl) oS rfl) (hV.at zo).a.bq rfl (WD.call0 rfl (aD rfl oz) rfl (Bb hs hro _ _ _ (hV.at zy).a (by have := (hB.at (i := i) zy).a; omega)) (SubR.t (SubR.appl (SubR.appl (SubR.appl (cw hro))))) (KIn.cons (zt 0 rfl) (fun e he => ⟨e.w, by obtain ⟨b, o, w⟩ := e; simp [he]⟩)) rfl (fun v40 D40 hP40 => WD.subH (hs' := _ :: (hs ++ hl ++ D37 ++ D40 ++ hp)) (SubH.op (iz (N := []) (G := D40) (K := [_]) (X := hs ++ hl ++ hp ++ D37) (by simp only [List.append_assoc, List.nil_append]; exact List.perm_iff_count.2 (by intro z; simp only [List.append_eq, List.count_append, List.count_nil]; omega)))) (WD.q (Q.build CR (bz rfl (bz rfl aq)) rfl (cs := [_, _, _, _, _, _, _, _, _, _, _, _]) (sM (OwnE.cell hP40))) (w9 (OwnE.bq0 hOm) (OwnE.bq0 hOn) (OwnE.bq0 hP40)) rfl (WD.bslice dO eK Dv rfl (bz rfl aq) rfl (cs := [_, _, _, _, _, _, _, _, _, _, _, _]) rfl (tG (OwnE.cell hOm) (OwnE.cell hOn) (OwnE.cell hP40)) rfl (KIn.cons (zt 0 rfl) (fun e he => ⟨e.w, by obtain ⟨b, o, w⟩ := e; simp [he]⟩)) (fun b3 => WD.appAny (A := ([_] ++ hs ++ hl ++ D37 ++ D40)) lV hO rfl rfl (Src.slice (zt 0 rfl) rfl) rfl zy (by decide) (SubH.of_sublist (List.sublist_cons_self _ _)) rfl (KIn.cons (zt 0 rfl) (fun e he => ⟨e.w, by obtain ⟨b, o, w⟩ := e; simp [he]⟩)) (fun v43 hp43 hO43 => WD.q (Q.assign rfl) (OwnE.bq hO43) rfl (WD.nil (End.KB (End.K (W.sub (zc 5 rfl (zc 15 rfl (zc 16 rfl (zc 17 rfl aI)))) (am (zq (aa rfl (zi 1) rfl zp) (zm rfl (WO.nil (End.KL (W.sub zv (bX gc (ih0 (i + 1) (X ++ [⟨(ei L i).d, (ei L i).ars, 0, vm2, vn2, .nils, v40⟩]) (v43) (hp43) (hl ++ D37 ++ D40) ?_ ?_))))))))))))))))))))
  ·exact ⟨by omega, by rw [Ef hX2 (hf2 (by simpa using hc27)), mc, hX2], by rw [l7, List.length_append]; exact hO43, nI hX hOm hOn hP40 hDD, wa (wa hw hwD) (OwnE.w hP40), Fy hXb (hB.at zy).d (hB.at zy).a (hB.at zy).i⟩
  exact zo
 refine W.exit (aC (aK (aB (End.K (zr (zm rfl (za rfl (za (zi 0) (zk (W.ret ?_))))))))))
 refine End.ret (ResL.tmp rfl (z1 rfl)) (hs' := hp ++ hl) ⟨0, X, u, .inr ⟨by omega, rfl, by rw [hX2, show i = L.length by omega]; unfold kx; rw [bP]⟩, ⟨hp, hl, rfl, hO, hX, hw, ⟨by omega, hXb⟩⟩, rfl⟩ (wa (OwnE.w hO) hw) gc
theorem y6 {A B : List IE} {va vb : AV} (hs : ak) (hro : ∀ e ∈ hs, e.w = false) (hA : IIn hs A va) (hB : IIn hs B vb) (bA : ILB A) (bB : ILB B) (hK : ∀ x ∈ A, x.nk = 0) (hK2 : ∀ x ∈ B, x.nk = 0) (hD : D2 A = D2 B) {i : Nat} (hi : i < A.length) : Spec aN 26 [.agg (ei A i).c, .agg (ei B i).c] [] hs (fJ (.bool true)) := by
 have hlen : A.length = B.length := (by rw [<- bP, hD, bP])
 have h1 := hA.at hi
 have h2 := hB.at (i := i) zy
 have h3 := hK _ (jd hi)
 have h4 := hK2 _ (jd (L := B) (i := i) zy)
 have h5 := bA.at hi
 have h6 := bB.at (i := i) zy
 have h7 : ((ei A i).d, (ei A i).ars) = ((ei B i).d, (ei B i).ars) := by rw [me, me, hD]
 generalize ei A i = x at *
 generalize ei B i = y at *
 obtain ⟨d, A, nk, vm, vn, vk, va⟩ := x
 obtain ⟨d', A', nk', vm', vn', vk', va'⟩ := y
 simp only at h3 h4 h7
 subst h3 h4
 have := AM hs hro d d' A A' 0 0 vm vn vk va vm' vn' vk' va' h1 h2 h1.k h2.k h5 h6
 rw [decide_eq_true h7] at this
 exact this
theorem AL {Y : List IE} {w : AV} (hs : ak) (hro : ∀ e ∈ hs, e.w = false) (hY : IIn hs Y w) (bY : ILB Y) (hK : ∀ x ∈ Y, x.nk = 0) (hn : (D2 Y).Nodup) {i k : Nat} (hi : i < Y.length) (hk : k < i) : Spec aN 26 [.agg (ei Y i).c, .agg (ei Y k).c] [] hs (fJ (.bool false)) := by
 have hk' : k < Y.length := by omega
 have h1 := hY.at hi
 have h2 := hY.at hk'
 have h3 := hK _ (jd hi)
 have h4 := hK _ (jd hk')
 have h5 := bY.at hi
 have h6 := bY.at hk'
 have h7 : ((ei Y i).d, (ei Y i).ars) ≠ ((ei Y k).d, (ei Y k).ars) := by
  rw [me, me]
  have hp := List.pairwise_iff_getElem.1 hn k i (by rw [bP]; exact hk') (by rw [bP]; exact hi) hk
  have e1 := nY (L := D2 Y) (i := i) (by rw [bP]; exact hi)
  have e2 := nY (L := D2 Y) (i := k) (by rw [bP]; exact hk')
  rw [List.getElem?_eq_getElem (by rw [bP]; exact hi)] at e1
  rw [List.getElem?_eq_getElem (by rw [bP]; exact hk')] at e2
  rw [<- Option.some.inj e1, <- Option.some.inj e2]
  exact fun e => hp e.symm
 generalize ei Y i = x at *
 generalize ei Y k = y at *
 obtain ⟨d, A, nk, vm, vn, vk, va⟩ := x
 obtain ⟨d', A', nk', vm', vn', vk', va'⟩ := y
 simp only at h3 h4 h7
 subst h3 h4
 have := AM hs hro d d' A A' 0 0 vm vn vk va vm' vn' vk' va' h1 h2 h1.k h2.k h5 h6
 rw [decide_eq_false h7] at this
 exact this
theorem C5 {L : List PI} (hL : OKP L) (h : ∀ p ∈ L, lN p.1) : ∀ p ∈ cr L, lN p.1 := fun p hp => by
 have hI := ShI.all hL (Nat.le_refl L.length)
 obtain ⟨k, hk⟩ := List.getElem?_of_mem hp
 have hkl := (List.getElem?_eq_some_iff.1 hk).1
 obtain ⟨j, hj1, hj2⟩ := hI.on k hkl
 have hs := hI.sa j hj1
 rw [hj2, Int.toNat_natCast] at hs
 have e1 : pd (cr L) k = p := nZ hk
 have e2 : p = rC (eO L L.length).2 (pd L j) := by rw [<- e1]; exact hs
 rw [e2]
 show lN (pd L j).1
 exact h _ (CO hj1)
theorem wy {Z Y : List IE} {t : TD} (hZ : D2 Z = fI t []) (hOK : OKP (D2 Z)) (hc : d5 Z = 0) (hky : ∀ x ∈ Z, lN x.d) (hn : ∀ x ∈ Y, x.nk = 0) (hY : D2 Y = cr (D2 Z)) : d5 Y = 0 /\ OKP (D2 Y) /\ (D2 Y).Nodup /\ ∀ x ∈ Y, lN x.d := by
 refine ⟨(Aq hOK hc hn hY rfl).1, by rw [hY]; exact mI hOK, by rw [hY]; exact uL hZ, fun x hx => ?_⟩
 have hm : (x.d, x.ars) ∈ D2 Y := List.mem_map.2 ⟨x, hx, rfl⟩
 rw [hY] at hm
 refine C5 hOK (fun p hp => ?_) _ hm
 obtain ⟨z, hz, rfl⟩ := List.mem_map.1 hp
 exact hky z hz
theorem yV {Y Y3 : List IE} {e : Nat} (hc : d5 Y = 0) (h : Fh Y e (D2 Y3)) (hn : ∀ x ∈ Y3, x.nk = 0) : e = 0 /\ TrY Y Y3 := by
 rcases h with ⟨g, _⟩ | ⟨_, h1, h2⟩
 ·exact absurd hc g
 ·exact ⟨h1, hc, h2, hn⟩
theorem TrY.needs {L Y : List IE} (h : TrY L Y) : ∀ (m j : Nat), Y.length - j <= m -> j < Y.length -> Need Y j
 | 0, j, hm, hj => by omega
 | m + 1, j, hm, hj => by
  rcases Nat.lt_or_ge (j + 1) Y.length with g | g
  ·obtain ⟨i, q, h1, h2, h3⟩ := h.used g
   have hl := h.low h1 h2
   rw [<- h3]
   exact Need.arg (TrY.needs h m i zy h1) h1 (i7 h2)
  ·obtain rfl : j = Y.length - 1 := by omega
   exact Need.last
theorem TrY.again {L Y : List IE} (h : TrY L Y) : iX Y Y.length = D2 Y := by
 have hn : ∀ j, j < Y.length -> nb Y j = true := fun j hj => iT.2 (h.needs _ j (Nat.le_refl _) hj)
 have hp : ∀ j, j <= Y.length -> ez Y j = j := by
  intro j
  induction j with
  | zero => intro _; exact Nat.le_zero.1 td
  | succ j ih => intro hj; rw [uC (hn j zy), ih zy]
 have key : ∀ i, i <= Y.length -> iX Y i = (D2 Y).take i := by
  intro i
  induction i with
  | zero => intro _; rfl
  | succ i ih =>
   intro hi
   have hA : gM Y (ei Y i).ars = (ei Y i).ars := by
    unfold gM
    have : ∀ a ∈ (ei Y i).ars, (((ez Y a.toNat : Nat)) : Int) = a := fun a ha => by
     have := gD (h.okY (i := i) zy) ha
     rw [hp _ zy]
     omega
    rw [List.map_congr_left (g := id) this]
    exact List.map_id _
   rw [E7 (hn i zy), ih zy, hA, me, List.take_add_one, nY (by rw [bP]; omega)]
   rfl
 rw [key _ (Nat.le_refl _), <- bP, List.take_length]
theorem ym {L : List IE} {e : Nat} {Q : List PI} (hc : d5 L = 0) (h : Fd L e Q) : e = 0 /\ Q = kx (D2 L) := by
 rcases h with ⟨g, _⟩ | ⟨_, h1, h2⟩
 ·exact absurd hc g
 ·exact ⟨h1, h2⟩
section
variable {P : List PI}
theorem tZ : ∀ {n i : Nat}, i <= n -> (mt P n).take i = mt P i
 | 0, i, h => by obtain rfl : i = 0 := by omega
                 rfl
 | n + 1, i, h => by
  rcases Nat.lt_or_ge n i with g | g
  ·obtain rfl : i = n + 1 := by omega
   rw [List.take_of_length_le (by rw [gV]; exact Nat.le_refl _)]
  ·rw [mt, List.take_append_of_le_length (by rw [gV]; exact g), tZ g]
theorem BL {n i : Nat} (h : i < n) : pd (mt P n) i = Dx (mt P i) (pd P i) := by
 have e : mt P (i + 1) = (mt P n).take (i + 1) := (tZ zy).symm
 have h2 : (mt P n)[i]? = (mt P (i + 1))[i]? := by rw [e, List.getElem?_take_of_lt zy]
 refine nZ ?_
 rw [h2, mt, List.getElem?_append_right (by rw [gV]; exact Nat.le_refl _), gV, Nat.sub_self]
 rfl
theorem zJ {O : List PI} {x : PI} : Dx O (Dx O x) = Dx O x := by
 unfold Dx
 cases h : BM O x with
 | some n => rfl
 | none => simp only [h]
theorem BO {O : List PI} {x : PI} : ∀ a ∈ (Dx O x).2, a ∈ x.2 := fun a ha => by
 unfold Dx at ha
 split at ha
 ·cases ha
 ·exact ha
theorem vU : kx (kx P) = kx P := by
 have key : ∀ i, i <= P.length -> mt (mt P P.length) i = mt P i := by
  intro i
  induction i with
  | zero => intro _; rfl
  | succ i ih =>
   intro hi
   rw [mt, ih zy, BL zy, zJ, mt]
 unfold kx
 rw [gV]
 exact key _ (Nat.le_refl _)
theorem Eh (h : OKP P) : OKP (kx P) := fun i hi a ha => by
 unfold kx at hi ha
 rw [gV] at hi
 rw [BL hi] at ha
 exact h i hi a (BO a ha)
end
theorem Ad {Z Y : List IE} (hOK : OKP (D2 Z)) (hc : d5 Z = 0) (hn : ∀ x ∈ Y, x.nk = 0) (hY : D2 Y = kx (D2 Z)) : d5 Y = 0 /\ Y.length = Z.length := by
 obtain ⟨h0, h1, _⟩ := gH hc
 have hl : Y.length = Z.length := by rw [<- bP, hY, kx, gV, bP]
 exact ⟨sm (by rw [hY]; exact Eh hOK) hn zy zy, hl⟩

theorem wH (hs : ak) (hro : ∀ e ∈ hs, e.w = false) (A B : List IE) (va vb : AV) (hA : IIn hs A va) (hB : IIn hs B vb) (bA : ILB A) (bB : ILB B) (hK : ∀ x ∈ A, x.nk = 0) (hK2 : ∀ x ∈ B, x.nk = 0) (hD : D2 A = D2 B) : Spec aN 13 [va, vb] [] hs (fJ (.bool true)) := by
 have hlen : A.length = B.length := (by rw [<- bP, hD, bP])
 have hAl := bA.1
 refine av (cX 13 Tryz.func13) rfl (m := 27) rfl (rs := [.tmp 4]) rfl (st := [(0, va), (1, vb)]) rfl rfl (fun _ => rfl) (fun E => zr (za rfl (zk (W.seq (zr (zm rfl (zq (Q.len dO rfl hA.1.len) (zm rfl (zq (Q.len dO rfl hB.1.len) (zq (aa rfl rfl rfl (aR (p := false) (by rw [hlen, cf]; simp))) (zk (az rfl (zw (W.seq (zr (za (zi 0) (zk (W.block (aM (fun (i : Nat) => [(0, va), (1, vb), (5, .int .i64 ((i : Nat) : Int))]) (fun (i : Nat) => hs) (fun (i : Nat) => i <= A.length) (fun (i : Nat) => A.length - i) (0) (Nat.zero_le _) zv (SubH.refl _) (fun i hI0 ih0 => ?_))))))))))))))))))))
 have h1 := hI0
 refine W.seq (zr (zm rfl (zm rfl (zq (Q.len dO rfl hA.1.len) (zq (aa rfl rfl rfl (ec dM)) (zk (aw rfl (fun hc14 => ?_) (fun hc14 => ?_))))))))
 ·obtain ⟨ba, sza, exa, rfl, wa_, ma⟩ := hA.1.full zy
  obtain ⟨bb, szb, exb, rfl, wb_, mb⟩ := hB.1.full zy
  refine zw (W.seq (W.block (W.seq (dz (by kernel_rfl) (zm rfl (zm rfl (zq (ci dO eK rfl rfl zo) (zq (aU rfl ma oT eK (l6 zo)) (zm rfl (zm rfl (zq (ci dO eK rfl rfl zo) (zq (aU rfl mb oT eK (l6 zo)) (aJ rfl (aD rfl (aD rfl oz)) rfl (y6 hs hro hA hB bA bB hK hK2 hD (i := i) zy) (cw hro) rfl (zq (Q.not rfl rfl) (zk (az rfl (W.skip (End.KB (End.K (W.sub (zc 0 rfl (zc 1 rfl (zc 5 rfl aI))) (am (zm rfl (zq (aa rfl (zi 1) rfl zp) (za rfl ?_))))))))))))))))))))))))
  refine WO.nil (End.KL (W.sub zv (bX (SubH.refl _) (ih0 (i + 1) ?_ ?_))))
  ·exact zy
  exact zo
 refine W.exit (aC (aK (aB (End.K (zr (za rfl (zk (W.ret (ae (z1 rfl) ?_)))))))))
 rfl

theorem law_once (s : List Nat) (hs0 : Bytes s) : Spec aN 5 [.str s] [] [] (fJ (.bool true)) := by
 refine av (cX 5 Tryz.func5) rfl (m := 110) rfl (rs := [.tmp 2]) rfl (st := [(0, .str s)]) rfl rfl (fun _ => rfl) (fun E => zr (za rfl (zk (zr (zm rfl (WO.call0 rfl (aD rfl oz) rfl (s7 s hs0) SubR.nil rfl (fun v22 D22 hP22 => ?_)))))))
 obtain ⟨t, c0, b, w0, Z, rfl, hT0, hz, hky, hZn, hZ, hZb, hDz, hvk, hw0⟩ := hP22
 obtain ⟨d0, vm0, vn0, vk0, rfl, hqm0, hqn0, hqk0, hqo0⟩ := lP hT0
 refine WO.subH (hs' := (D22)) (SubH.op (aG (N := []) (G := D22) (K := []) (X := []))) (zm rfl (zq (Q.extract rfl rfl) (zq (Q.extract rfl rfl) (zq (Q.extract rfl rfl) (WO.alloc ia rfl (fun b1 => za rfl (zS aL rfl rfl (i := 0) rfl (aQ rfl (wh hqm0.cell hqn0.cell hqk0.cell)) rfl (hs' := _ :: _) rfl (za rfl (zk (W.seq (zr (zm rfl (zq (Q.not rfl rfl) (zk (aE rfl (fun hc27 => ?_) (fun hc27 => ?_))))))))))))))))
 ·refine zr (aJ rfl oz rfl (fx (fun _ => rfl)) SubR.nil rfl (za rfl (zk (W.ret (ac (ae (z1 rfl) ?_))))))
  rfl
 obtain ⟨hZl, hck, hOK, hTr, htm, hKy⟩ := Gn hZ hvk (hDz (by simpa using hc27)) hz hky
 refine zw (zr (zm rfl (WO.call0 rfl (aD rfl oz) rfl (qf (ro D22) iH Z _ hZ.ro hZb hKy) (SubR.ro gc) rfl (fun v31 D31 hP31 => ?_))))
 obtain ⟨e1, Y1, w1, hR1, hO1, rfl⟩ := hP31
 have hY1 := hO1.iin
 obtain ⟨rfl, hD1⟩ := uK hck hR1
 obtain ⟨hc1, hk1, hn1, hy1⟩ := wy (hDz (by simpa using hc27)) hOK hck hKy hO1.nk hD1
 refine WO.subH (hs' := _ :: (D22 ++ D31)) (SubH.op (aG (N := []) (G := D31) (K := [_]) (X := D22))) (zm rfl (zq (Q.extract rfl rfl) (zq (Q.extract rfl rfl) (za rfl (za rfl (zk (W.sub (zc 6 rfl (zc 3 rfl aI)) (zr (zm rfl (WO.call0 rfl (aD rfl oz) rfl (qf (ro D31) iH Y1 _ hY1.ro hO1.lb hy1) (SubR.ro gc) rfl (fun v36 D36 hP36 => ?_)))))))))))
 obtain ⟨e2, Y2, w2, hR2, hO2, rfl⟩ := hP36
 have hY2 := hO2.iin
 obtain ⟨rfl, hD2⟩ := uK hc1 hR2
 have hE2 : D2 Y1 = D2 Y2 := (by rw [hD2, uJ hk1 hn1])
 refine WO.subH (hs' := _ :: (D22 ++ D31 ++ D36)) (SubH.op (aG (N := []) (G := D36) (K := [_]) (X := D22 ++ D31))) (zm rfl (zq (Q.extract rfl rfl) (zq (Q.extract rfl rfl) (za rfl (za rfl (zk (zr (zm rfl (WO.call0 rfl (aD rfl oz) rfl (rL (ro D31) iH Y1 _ hY1.ro hO1.lb) (SubR.ro gc) rfl (fun v41 D41 hP41 => ?_))))))))))
 obtain ⟨e3, Y3, w3, hR3, hO3, rfl⟩ := hP41
 have hY3 := hO3.iin
 obtain ⟨rfl, hT3⟩ := yV hc1 hR3 hO3.nk
 have hc3 := hT3.chk
 have hl3 := hT3.le
 refine WO.subH (hs' := _ :: (D22 ++ D31 ++ D36 ++ D41)) (SubH.op (aG (N := []) (G := D41) (K := [_]) (X := D22 ++ D31 ++ D36))) (zm rfl (zq (Q.extract rfl rfl) (zq (Q.extract rfl rfl) (za rfl (za rfl (zk (zr (zm rfl (WO.call0 rfl (aD rfl oz) rfl (rL (ro D41) iH Y3 _ hY3.ro hO3.lb) (SubR.ro gc) rfl (fun v46 D46 hP46 => ?_))))))))))
 obtain ⟨e4, Y4, w4, hR4, hO4, rfl⟩ := hP46
 have hY4 := hO4.iin
 obtain ⟨rfl, hT4⟩ := yV hc3 hR4 hO4.nk
 have hE4 : D2 Y3 = D2 Y4 := (hT4.y.trans hT3.again).symm
 refine WO.subH (hs' := _ :: (D22 ++ D31 ++ D36 ++ D41 ++ D46)) (SubH.op (aG (N := []) (G := D46) (K := [_]) (X := D22 ++ D31 ++ D36 ++ D41))) (zm rfl (zq (Q.extract rfl rfl) (zq (Q.extract rfl rfl) (za rfl (za rfl (zk (W.sub (zc 12 rfl (zc 10 rfl (zc 8 rfl (zc 6 rfl (zc 3 rfl aI))))) (zr (zm rfl (WO.call0 rfl (aD rfl oz) rfl (qY (ro D22) iH Z _ hZ.ro hZb) (SubR.ro gc) rfl (fun v51 D51 hP51 => ?_)))))))))))
 obtain ⟨e5, Y5, w5, hR5, hO5, rfl⟩ := hP51
 have hY5 := hO5.iin
 obtain ⟨rfl, hD5⟩ := ym hck hR5
 obtain ⟨hc5, hl5⟩ := Ad hOK hck hO5.nk hD5
 refine WO.subH (hs' := _ :: (D22 ++ D31 ++ D36 ++ D41 ++ D46 ++ D51)) (SubH.op (aG (N := []) (G := D51) (K := [_]) (X := D22 ++ D31 ++ D36 ++ D41 ++ D46))) (zm rfl (zq (Q.extract rfl rfl) (zq (Q.extract rfl rfl) (za rfl (za rfl (zk (zr (zm rfl (WO.call0 rfl (aD rfl oz) rfl (qY (ro D51) iH Y5 _ hY5.ro hO5.lb) (SubR.ro gc) rfl (fun v56 D56 hP56 => ?_))))))))))
 obtain ⟨e6, Y6, w6, hR6, hO6, rfl⟩ := hP56
 have hY6 := hO6.iin
 obtain ⟨rfl, hD6⟩ := ym hc5 hR6
 have hE6 : D2 Y5 = D2 Y6 := (by rw [hD6, hD5, vU])
 refine WO.subH (hs' := _ :: (D22 ++ D31 ++ D36 ++ D41 ++ D46 ++ D51 ++ D56)) (SubH.op (aG (N := []) (G := D56) (K := [_]) (X := D22 ++ D31 ++ D36 ++ D41 ++ D46 ++ D51))) (zm rfl (zq (Q.extract rfl rfl) (zq (Q.extract rfl rfl) (za rfl (za rfl (zk (W.seq (zr (zm rfl (zm rfl (aJ rfl (aD rfl (aD rfl oz)) rfl (wH (ro (D36 ++ D31)) iH Y1 Y2 _ _ (hY1.mono (fun b o q => q.app.ro)) (hY2.mono (fun b o q => q.appl'.ro)) hO1.lb hO2.lb hO1.nk hO2.nk hE2) (SubR.ro gc) rfl (zq (Q.not rfl rfl) (zm rfl (zT (zm rfl (zT (zm rfl (zT (aJ rfl (aD rfl (aD rfl oz)) rfl (wH (ro (D46 ++ D41)) iH Y3 Y4 _ _ (hY3.mono (fun b o q => q.app.ro)) (hY4.mono (fun b o q => q.appl'.ro)) hO3.lb hO4.lb hO3.nk hO4.nk hE4) (SubR.ro gc) rfl (zT (zq (Q.not rfl rfl) (zq (ax rfl rfl) (zm rfl ?_)))))))))))))))))))))))
 refine zT (zm rfl (zT (zm rfl (zT (aJ rfl (aD rfl (aD rfl oz)) rfl (wH (ro (D56 ++ D51)) iH Y5 Y6 _ _ (hY5.mono (fun b o q => q.app.ro)) (hY6.mono (fun b o q => q.appl'.ro)) hO5.lb hO6.lb hO5.nk hO6.nk hE6) (SubR.ro gc) rfl (zT (zq (Q.not rfl rfl) (zq (ax rfl rfl) (zm rfl (zT (zm rfl (zT (zq (Q.len dO rfl hY5.1.len) (zT (zm rfl (zT (zq (Q.len dO rfl hZ.1.len) (zT (zq (aa rfl rfl rfl (aR (p := false) (by rw [hl5, cf]; simp))) (zq (ax rfl rfl) (zm rfl (zT (zm rfl ?_)))))))))))))))))))))))
 refine zT (zq (Q.len dO rfl hY3.1.len) (zT (zm rfl (zT (zq (Q.len dO rfl hY1.1.len) (zT (zq (aa rfl rfl rfl (aV (p := false) (by rw [dM]; exact decide_eq_false zy))) (zq (ax rfl rfl) (zk (W.sub (zc 88 rfl (zc 6 rfl aI)) (az rfl (zw (W.seq (zr (za (zi 0) (zk (W.block (aM (fun (i : Nat) => [(6, w1), (18, .int .i64 ((i : Nat) : Int))]) (fun (i : Nat) => D31) (fun (i : Nat) => i <= Y1.length) (fun (i : Nat) => Y1.length - i) (0) (Nat.zero_le _) zv gc (fun i hI0 ih0 => ?_)))))))))))))))))))
 have h1 := hI0
 refine W.seq (zr (zm rfl (zm rfl (zq (Q.len dO rfl hY1.1.len) (zq (aa rfl rfl rfl (ec dM)) (zk (aw rfl (fun hc92 => ?_) (fun hc92 => ?_))))))))
 ·obtain ⟨bv, szv, exv, rfl, wv, mv⟩ := hY1.1.full zy
  have hl1 := hO1.lb.1
  refine zw (W.seq (W.block (zr (za (zi 0) (zk (W.block (aM (fun (k : Nat) => [(6, .slice bv 0 Y1.length 12), (18, .int .i64 ((i : Nat) : Int)), (19, .int .i64 ((k : Nat) : Int))]) (fun (k : Nat) => D31) (fun (k : Nat) => k <= i) (fun (k : Nat) => i - k) (0) (Nat.zero_le _) zv (SubH.refl _) (fun k hI1 ih1 => ?_))))))))
  have h2 := hI1
  refine W.seq (zr (zm rfl (zm rfl (zq (aa rfl rfl rfl (ec dM)) (zk (aw rfl (fun hc97 => ?_) (fun hc97 => ?_)))))))
  ·refine zw (W.seq (W.block (W.seq (dz (by kernel_rfl) (zm rfl (zm rfl (zq (ci dO eK rfl rfl zo) (zq (aU rfl mv oT eK (l6 zo)) (zm rfl (zm rfl (zq (ci dO eK rfl rfl zo) (zq (aU rfl mv oT eK (l6 zo)) (aJ rfl (aD rfl (aD rfl oz)) rfl (AL (ro D31) iH hY1.ro hO1.lb hO1.nk hn1 (i := i) (k := k) zy zy) (SubR.ro (SubH.refl _)) rfl (zk (az rfl (W.skip (End.KB (End.K (am (zm rfl (zq (aa rfl (zi 1) rfl zp) (za rfl (WO.nil (End.KL ?_))))))))))))))))))))))))
   refine W.sub zv (bX (SubH.refl _) (ih1 (k + 1) ?_ ?_))
   ·exact zy
   exact zo
  refine W.exit (aC (aK (aB (End.KB (End.K (am (zm rfl (zq (aa rfl (zi 1) rfl zp) (za rfl (WO.nil (End.KL (W.sub zv (bX (SubH.refl _) (ih0 (i + 1) ?_ ?_))))))))))))))
  ·exact zy
  exact zo
 refine W.exit (aC (aK (aB (End.K (zr (aJ rfl oz rfl (fx (fun _ => rfl)) SubR.nil rfl (za rfl (zk (W.ret (ae (z1 rfl) ?_))))))))))
 rfl
end Go.Proofs.YtndhhgbpcmfeiaaGreatDoor.Ev
