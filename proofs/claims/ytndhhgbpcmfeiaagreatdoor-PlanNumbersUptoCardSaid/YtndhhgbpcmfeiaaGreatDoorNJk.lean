/- Chapter 20, walks: Fold. -/
import Derived.Test.YtndhhgbpcmfeiaaGreatDoorNJj
import Derived.Test.YtndhhgbpcmfeiaaGreatDoorNV1
namespace Go.Proofs.YtndhhgbpcmfeiaaGreatDoor.Ev
open Go.RowKit
set_option maxRecDepth 100000
set_option maxHeartbeats 1000000
def uz (O : List PI) (x : PI) : Option Int :=
 match x.2 with
 | [p] => if (pd O p.toNat).1.kd = 1 /\ x.1.kd = 6 /\ eQ (pd O p.toNat).1.n = true then some (-(pd O p.toNat).1.n) else none
 | [p, q] => if (pd O p.toNat).1.kd = 1 /\ (pd O q.toNat).1.kd = 1 /\ x.1.kd = 5 /\ (di x.1.op (pd O p.toNat).1.n (pd O q.toNat).1.n).2 = 0 then some (di x.1.op (pd O p.toNat).1.n (pd O q.toNat).1.n).1 else none
 | _ => none
def jc (n : Int) : ND := ⟨1, [], n, [], 0, 0, 0, [], 0, false⟩
def vP (O : List PI) (x : PI) : PI := match uz O x with
 | some n => (jc n, [])
 | none => x
def j4 (L : List PI) : Nat -> List PI
 | 0 => []
 | i + 1 => j4 L i ++ [vP (j4 L i) (pd L i)]
def bI (L : List PI) : List PI := j4 L L.length
theorem zM {op : List Nat} {a b : Int} : 0 <= (di op a b).2 := by
 unfold di
 (repeat' split) <;> first | decide | exact wO _ _ | exact wS _ _ | exact wR _ _ | exact wP _ _ | exact wQ _ _
def uA (X : List IE) (A : List Int) : List Int := A.map fun a => (ei X a.toNat).d.n
theorem jP {X : List IE} {A : List Int} : (uA X A).length = A.length := List.length_map _
theorem vO {X : List IE} {A : List Int} {i : Nat} (h : i < A.length) : cA ((uA X A).take (i + 1)) = cA ((uA X A).take i) ++ [.int .i64 (ei X (ai A i).toNat).d.n] := by
 unfold uA
 rw [List.take_add_one, List.getElem?_map, jC h, cA, List.map_append]; rfl
theorem yM {A : List Int} {q : Nat} (h : q < A.length) : (cA A)[q]? = some (.int .i64 (ai A q)) := by
 rw [cA, List.getElem?_map, jC h]; rfl
theorem kj {X : List IE} {A : List Int} {j : Nat} (h : j < A.length) : ai (uA X A) j = (ei X (ai A j).toNat).d.n := Cy (by unfold uA; rw [List.getElem?_map, jC h]; rfl)
section
variable {O : List PI} {X : List IE} {d : ND} {A : List Int} {j : Nat}
theorem sY (h : A.length = 0 \/ 2 < A.length) : uz O (d, A) = none := by
 match A, h with
 | [], _ => rfl
 | [_], h => simp at h
 | [_, _], h => simp at h
 | _ :: _ :: _ :: _, _ => rfl
theorem Bz (h : j < A.length) (hn : (ei X (ai A j).toNat).d.kd ≠ 1) : uz (D2 X) (d, A) = none := by
 rw [rr] at hn
 match A, j, h with
 | [p], 0, _ => exact if_neg fun q => hn q.1
 | [p, q], 0, _ => exact if_neg fun q => hn q.1
 | [p, q], 1, _ => exact if_neg fun q => hn q.2.1
 | _ :: _ :: _ :: _, _, _ => rfl
theorem rM (h6 : ¬ (d.kd = 6 /\ A.length = 1)) (h5 : ¬ (d.kd = 5 /\ A.length = 2)) : uz O (d, A) = none := by
 match A, h6, h5 with
 | [], _, _ => rfl
 | [p], h, _ => exact if_neg fun q => h ⟨q.2.1, rfl⟩
 | [p, q], _, h => exact if_neg fun q => h ⟨q.2.2.1, rfl⟩
 | _ :: _ :: _ :: _, _, _ => rfl
theorem AH (hl : A.length = 1) (hk : (ei X (ai A 0).toNat).d.kd = 1) (h6 : d.kd = 6) : uz (D2 X) (d, A) = if eQ (ei X (ai A 0).toNat).d.n = true then some (-(ei X (ai A 0).toNat).d.n) else none := by
 rw [rr] at hk ⊢
 match A, hl with
 | [p], _ =>
  have hk : (pd (D2 X) p.toNat).1.kd = 1 := hk
  show (if (pd (D2 X) p.toNat).1.kd = 1 /\ d.kd = 6 /\ eQ (pd (D2 X) p.toNat).1.n = true then some (-(pd (D2 X) p.toNat).1.n) else none) = if eQ (pd (D2 X) p.toNat).1.n = true then some (-(pd (D2 X) p.toNat).1.n) else none
  simp only [hk, h6, true_and]
theorem AI (hl : A.length = 2) (hk : (ei X (ai A 0).toNat).d.kd = 1) (hk1 : (ei X (ai A 1).toNat).d.kd = 1) (h5 : d.kd = 5) :
  uz (D2 X) (d, A) = if (di d.op (ei X (ai A 0).toNat).d.n (ei X (ai A 1).toNat).d.n).2 = 0 then some (di d.op (ei X (ai A 0).toNat).d.n (ei X (ai A 1).toNat).d.n).1 else none := by
 rw [rr] at hk hk1
 rw [rr, rr]
 match A, hl with
 | [p, q], _ =>
  have hk : (pd (D2 X) p.toNat).1.kd = 1 := hk
  have hk1 : (pd (D2 X) q.toNat).1.kd = 1 := hk1
  show (if (pd (D2 X) p.toNat).1.kd = 1 /\ (pd (D2 X) q.toNat).1.kd = 1 /\ d.kd = 5 /\ (di d.op (pd (D2 X) p.toNat).1.n (pd (D2 X) q.toNat).1.n).2 = 0 then some (di d.op (pd (D2 X) p.toNat).1.n (pd (D2 X) q.toNat).1.n).1 else none) = if (di d.op (pd (D2 X) p.toNat).1.n (pd (D2 X) q.toNat).1.n).2 = 0 then some (di d.op (pd (D2 X) p.toNat).1.n (pd (D2 X) q.toNat).1.n).1 else none
  simp only [hk, hk1, h5, true_and]
end
theorem BO {n : Int} (h : eQ n = true) : IntKind.i64.wrap (0 - n) = -n := by
 rw [Int.zero_sub]
 unfold eQ at h
 simp only [Bool.and_eq_true, decide_eq_true_eq] at h
 exact ns zy
theorem C6 {op : List Nat} {a b : Int} (h : (di op a b).2.toNat = 0) : (di op a b).2 = 0 := by
 have := zM (op := op) (a := a) (b := b)
 omega
theorem C7 {op : List Nat} {a b : Int} (h : ¬ (di op a b).2.toNat = 0) : ¬ (di op a b).2 = 0 := fun e => h (by rw [e]; rfl)
def Aw (L : List IE) (e : Nat) (Q : List PI) : Prop := (eW L ≠ 0 /\ e = eW L /\ Q = []) \/ (eW L = 0 /\ e = 0 /\ Q = bI (D2 L))
theorem eF {L : List PI} : ∀ {i : Nat}, (j4 L i).length = i
 | 0 => rfl
 | i + 1 => by rw [j4, List.length_append, eF]; rfl
theorem yZ {X L : List IE} {i : Nat} {n : Int} (hX : D2 X = j4 (D2 L) i) (h : uz (D2 X) ((ei L i).d, (ei L i).ars) = some n) : j4 (D2 L) (i + 1) = j4 (D2 L) i ++ [(jc n, [])] := by
 rw [j4, vP, <- sU, <- hX, h]
theorem yY {X L : List IE} {i : Nat} (hX : D2 X = j4 (D2 L) i) (h : uz (D2 X) ((ei L i).d, (ei L i).ars) = none) : j4 (D2 L) (i + 1) = j4 (D2 L) i ++ [((ei L i).d, (ei L i).ars)] := by
 rw [j4, vP, <- sU, <- hX, h]
theorem zO {X : List IE} {hl : af} {n : Int} (hX : ∀ x ∈ X, IOK hl x /\ x.nk = 0) : ∀ x ∈ X ++ [⟨jc n, [], 0, .nils, .nils, .nils, .nils⟩], IOK hl x /\ x.nk = 0 := fun x hx => by
 rcases List.mem_append.1 hx with hx | hx
 ·exact hX x hx
 ·rw [List.mem_singleton.1 hx]
  exact ⟨⟨RIn.nil, RIn.nil, .inl ⟨rfl, rfl⟩, RIn.nil⟩, rfl⟩
theorem BW {X : List IE} {n : Int} (hX : ∀ x ∈ X, IBd x) : ∀ x ∈ X ++ [⟨jc n, [], 0, .nils, .nils, .nils, .nils⟩], IBd x := fun x hx => by
 rcases List.mem_append.1 hx with hx | hx
 ·exact hX x hx
 ·rw [List.mem_singleton.1 hx]
  exact ⟨⟨fun c hc => by simp [jc] at hc, ⟨by simp [jc], fun m hm => by simp [jc] at hm⟩, ⟨by simp [jc], fun m hm => by simp [jc] at hm⟩⟩, by simp, fun n hn => by simp at hn⟩

theorem qj (hs : af) (hro : ∀ e ∈ hs, e.w = false) (X : List IE) (u : AV) (hX : IIn hs X u) (hXb : ILB X) (d : ND) (A : List Int) (nk : Nat) (vm vn vk va : AV) (hx : IOK hs (⟨d, A, nk, vm, vn, vk, va⟩ : IE)) (hb : IBd (⟨d, A, nk, vm, vn, vk, va⟩ : IE)) (hA : ∀ a ∈ A, 0 <= a /\ a < ((X.length : Nat) : Int)) : Spec aA 40 [u, .agg (IE.c (⟨d, A, nk, vm, vn, vk, va⟩ : IE))] [] hs (m6 (fun r => ∃ (n : Int) (b : Bool), r = .tuple [.int .i64 n, .bool b] /\ (b = true -> uz (D2 X) (d, A) = some n) /\ (b = false -> uz (D2 X) (d, A) = none))) := by
 have hxa : RIn hs 1 A.length (cA A) va := hx.a
 have hAl : A.length <= 1048576 := hb.a
 refine aj (dW 40 Tryz.func40) rfl (m := 89) rfl (rs := [.tmp 4, .tmp 5]) rfl (st := [(0, u), (1, .agg (IE.c (⟨d, A, nk, vm, vn, vk, va⟩ : IE)))]) rfl rfl (fun _ => rfl) (fun E => zr (WO.box rfl hx.cells (DO _ rfl) rfl (fun b1 => za (zi 0) (za rfl (zk (W.seq (zr (zf gW rfl 11 (zq (aG rfl (zt 0 rfl) oC rfl) (zq (Q.len dh rfl hxa.len) (zq (Q.bin rfl (zi 0) rfl (ag aD)) (zm rfl (aQ (d := 15) rfl (fun hc15 => ?_) (fun hc15 => ?_))))))))))))))
 ·refine z2 (z2 (zq (aC rfl rfl) (zk (ah rfl (zr (za (zi 0) (za rfl (zk (W.ret (aa (b9 (ResL.tmp rfl (z1 rfl)) ?_)))))))))))
  exact ⟨_, false, rfl, fun h => by (cases h), fun _ => sY zy⟩
 refine zT (zf gW rfl 11 (zT (zq (aG rfl (zt 0 rfl) oC rfl) (zT (zq (Q.len dh rfl hxa.len) (zT (zq (Q.bin rfl (zi 2) rfl (bf jr)) (zq (aH rfl rfl) (zk (ax rfl (fun hc20 => ?_) (fun hc20 => ?_)))))))))))
 ·refine zr (za (zi 0) (za rfl (zk (W.ret (aa (b9 (ResL.tmp rfl (z1 rfl)) ?_))))))
  exact ⟨_, false, rfl, fun h => by (cases h), fun _ => sY zy⟩
 refine zw (zr (za rfl (zk (W.seq (zr (zf gW rfl 11 (zq (aG rfl (zt 0 rfl) oC rfl) (zq (Q.len dh rfl hxa.len) (zq (Q.move (zi 0)) (zk (W.sub (zc 24 rfl (zc 23 rfl (zc 22 rfl (zc 6 rfl (zc 3 rfl (zc 0 rfl aU)))))) (W.block (iv (fun (i : Nat) (u2 : AV) (hq : af) => [(0, u), (3, .ptr b1 0), (6, u2), (22, va), (23, .int .i64 ((A.length : Nat) : Int)), (24, .int .i64 ((i : Nat) : Int))]) (fun (i : Nat) (u2 : AV) (hq : af) => (⟨b1, ⟨12, true, d.c vm vn vk ++ [va]⟩, true⟩ :: (hs ++ hq))) (fun (i : Nat) (u2 : AV) (hq : af) => i <= A.length /\ OwnE 1 (cA ((uA X A).take i)) i u2 hq /\ ∀ j, j < i -> (ei X (ai A j).toNat).d.kd = 1) (fun (i : Nat) (u2 : AV) (hq : af) => A.length - i) (0) (.nils) ([]) ⟨Nat.zero_le _, OwnE.nil 1, fun j h => absurd h (Nat.not_lt_zero _)⟩ zv (by rw [List.append_nil]; exact SubH.refl _) (fun i u2 hq hI0 ih0 => ?_))))))))))))))
 obtain ⟨h1, hO, hk1⟩ := hI0
 refine zr (zq (Q.bin rfl rfl rfl (ec jr)) (zk (W.seq (ax rfl (fun hc25 => ?_) (fun hc25 => ?_)))))
 ·have hq1 := hA _ (jj (A := A) (q := i) zy)
  obtain ⟨ba, sza, exa, rfl, wa_, ma⟩ := hxa.full zy
  obtain ⟨bv, szv, exv, rfl, wv, mv⟩ := hX.1.full zy
  refine zw (W.seq (W.block (zr (zq (ee dh i8 rfl rfl zo) (zq (aG rfl (List.mem_cons_of_mem _ (List.mem_append_left _ ma)) d7 (rj zo hq1.1)) (za rfl (zk (W.seq (zr (zm rfl (zm rfl (zq (ee ez gp rfl rfl zo) (zq (Q.fieldAddr fE rfl rfl) (zq (Q.fieldAddr iC rfl rfl) (zq (aG rfl (List.mem_cons_of_mem _ (List.mem_append_left _ mv)) d7 (rl 0 zo rfl)) (zq (Q.bin rfl (zi 1) rfl (bE kw)) (zk (ax rfl (fun hc34 => ?_) (fun hc34 => ?_)))))))))))))))))))
  ·refine zr (za (zi 0) (za rfl (zk (W.sub (zc 5 rfl (zc 4 rfl aU)) (W.ret (aa (ae (aa (gh (ae (aa (b9 (ResL.tmp rfl (z1 rfl)) ?_))))))))))))
   exact ⟨_, false, rfl, fun h => by (cases h), fun _ => Bz (j := i) zy (by simpa using hc34)⟩
  refine zw (aF (zm rfl (zm rfl (zm rfl (zq (ee ez gp rfl rfl zo) (zq (Q.fieldAddr fE rfl rfl) (zq (Q.fieldAddr Bw rfl rfl) (zq (aG rfl (List.mem_cons_of_mem _ (List.mem_append_left _ mv)) d7 (rl 2 zo rfl)) (WO.bslice dh i8 Cs rfl (b8 rfl ak) rfl (cs := [_]) rfl rfl rfl (fun b2 => WO.appAny (A := ([_] ++ hs)) iQ hO rfl rfl (Src.slice (zt 0 rfl) rfl) rfl zy (by decide) (SubH.of_sublist (List.sublist_cons_self _ _)) rfl (fun v43 hp43 hO43 => za rfl (WO.nil (End.KB (End.K (W.sub (zc 6 rfl (zc 0 rfl (zc 3 rfl (zc 22 rfl (zc 23 rfl (zc 24 rfl aU)))))) (aF (zq (Q.bin rfl (zi 1) rfl zp) (zm rfl (WO.nil (End.KL (W.sub zv (gM gc (ih0 (i + 1) (v43) (hp43) ?_ ?_)))))))))))))))))))))))
  ·exact ⟨by omega, by rw [vO zy]; exact hO43, fun j hj => by rcases Nat.lt_or_ge j i with q | q; exact hk1 j q; obtain rfl : j = i := zy; simpa using hc34⟩
  exact zo
 obtain rfl : i = A.length := zy
 have hO2 : OwnE 1 (cA (uA X A)) A.length u2 hq := (by rw [List.take_of_length_le (by rw [jP]; exact Nat.le_refl _)] at hO; exact hO)
 refine W.exit (av (aL (aq (End.K (W.seq (W.block (zr (zf fE rfl 0 (zf iC rfl 0 (zq (aG rfl (zt 0 rfl) d7 rfl) (zq (Q.bin rfl (zi 6) rfl (ag dt)) (zm rfl (aQ (d := 50) rfl (fun hc50 => ?_) (fun hc50 => ?_))))))))))))))
 ·refine zT (zm rfl (zT (zq (Q.len dh rfl hO.len) (zT (zq (Q.bin rfl (zi 1) rfl (ag aD)) (zq (aC rfl rfl) (za rfl (zk (W.sub (zc 45 rfl (zc 3 rfl (zc 6 rfl aU))) (ax rfl (fun hc45 => ?_) (fun hc45 => ?_)))))))))))
  ·obtain ⟨b6, ex6, rfl, rfl⟩ := hO2.full zy
   refine W.seq (lB 8 _ (by kernel_rfl) (KIn.refl _) (WD.q (Q.move rfl) DN rfl (WD.q (dI dh i8 rfl (zi 0) zo (o' := 0) rfl) yz rfl (WD.q (aG rfl (List.mem_cons_of_mem _ (List.mem_append_right _ List.mem_cons_self)) d7 (yM (A := uA X A) (q := 0) (by rw [jP]; omega))) CE rfl (WD.q (Q.neg rfl rfl) CE rfl (WD.q (Q.move rfl) DN rfl (WD.q (dI dh i8 rfl (zi 0) zo (o' := 0) rfl) yz rfl (WD.q (aG rfl (List.mem_cons_of_mem _ (List.mem_append_right _ List.mem_cons_self)) d7 (yM (A := uA X A) (q := 0) (by rw [jP]; omega))) CE rfl (uG rfl (aX rfl oz) rfl (gC _) SubR.nil (KIn.refl _) rfl (WD.q (Q.assign rfl) CE rfl (WD.q (Q.assign rfl) oM rfl (WD.nil (End.K (W.ret (ae (aa (b9 (ResL.tmp rfl (z1 rfl)) ?_)))))))))))))))))
   exact ⟨_, _, rfl, fun h => by rw [AH zy (hk1 0 zy) zy, <- kj zy, if_pos h]; exact congrArg some (BO h).symm, fun h => by rw [AH zy (hk1 0 zy) zy, <- kj zy, if_neg (by rw [h]; decide)]⟩
  refine zr (zf fE rfl 0 (zf iC rfl 0 (zq (aG rfl (zt 0 rfl) d7 rfl) (zq (Q.bin rfl (zi 5) rfl (ag dt)) (zm rfl (aQ (d := 68) rfl (fun hc68 => ?_) (fun hc68 => ?_)))))))
  ·(exfalso; omega)
  refine z2 (zG (zq (aH rfl rfl) (za rfl (zk (ad rfl (W.skip (End.KB (End.K (zr (za (zi 0) (za rfl (zk (W.ret (b9 (ResL.tmp rfl (z1 rfl)) ?_))))))))))))))
  exact ⟨_, false, rfl, fun h => by (cases h), fun _ => rM zy zy⟩
 refine z2 (zG (zq (aH rfl rfl) (za rfl (zk (W.sub (zc 45 rfl (zc 3 rfl (zc 6 rfl aU))) (ad rfl (zr (zf fE rfl 0 (zf iC rfl 0 (zq (aG rfl (zt 0 rfl) d7 rfl) (zq (Q.bin rfl (zi 5) rfl (ag dt)) (zm rfl (aQ (d := 68) rfl (fun hc68 => ?_) (fun hc68 => ?_))))))))))))))
 ·refine zT (zm rfl (zT (zq (Q.len dh rfl hO.len) (zT (zq (Q.bin rfl (zi 2) rfl (ag aD)) (zq (aC rfl rfl) (za rfl (zk (ax rfl (fun hc63 => ?_) (fun hc63 => ?_))))))))))
  ·obtain ⟨b6, ex6, rfl, rfl⟩ := hO2.full zy
   refine W.seq (lC (by kernel_rfl) (zf fE rfl 0 (zf jn rfl 1 (zq (aG rfl (zt 0 rfl) uy rfl) (zm rfl (zq (dI dh i8 rfl (zi 0) zo (o' := 0) rfl) (zq (aG rfl (List.mem_cons_of_mem _ (List.mem_append_right _ List.mem_cons_self)) d7 (yM (A := uA X A) (q := 0) (by rw [jP]; omega))) (zm rfl (zq (dI dh i8 rfl (zi 1) zo (o' := 1) rfl) (zq (aG rfl (List.mem_cons_of_mem _ (List.mem_append_right _ List.mem_cons_self)) d7 (yM (A := uA X A) (q := 1) (by rw [jP]; omega))) (az rfl (aX rfl (aX rfl (aX rfl oz))) rfl (wY _ hb.d.1 _ _) SubR.nil rfl (zm rfl (zq (Q.extract rfl rfl) (zq (Q.extract rfl rfl) (za rfl (za rfl (zk (W.sub (zc 10 rfl (zc 9 rfl aU)) (zr (zm rfl (zm rfl (zq (Q.bin rfl (zi 0) rfl (ag aD)) (za rfl ?_)))))))))))))))))))))))
   refine za rfl (zk (W.ret (ae (aa (b9 (ResL.tmp rfl (z1 rfl)) ?_)))))
   exact ⟨_, _, rfl, fun h => by rw [AI zy (hk1 0 zy) (hk1 1 zy) zy, <- kj zy, <- kj zy, if_pos (C6 (by simpa using h))], fun h => by rw [AI zy (hk1 0 zy) (hk1 1 zy) zy, <- kj zy, <- kj zy, if_neg (C7 (by simpa using h))]⟩
  refine W.skip (End.KB (End.K (zr (za (zi 0) (za rfl (zk (W.ret (b9 (ResL.tmp rfl (z1 rfl)) ?_))))))))
  exact ⟨_, false, rfl, fun h => by (cases h), fun _ => rM zy zy⟩
 refine z2 (zG (zq (aH rfl rfl) (za rfl (zk (ad rfl (W.skip (End.KB (End.K (zr (za (zi 0) (za rfl (zk (W.ret (b9 (ResL.tmp rfl (z1 rfl)) ?_))))))))))))))
 exact ⟨_, false, rfl, fun h => by (cases h), fun _ => rM zy zy⟩

theorem tU (hs : af) (hro : ∀ e ∈ hs, e.w = false) (L : List IE) (v : AV) (hV : IIn hs L v) (hB : ILB L) : Spec aA 16 [v] [] hs (fun r D => ∃ (e : Nat) (Y : List IE) (w : AV), Aw L e (D2 Y) /\ IOwn Y w D /\ r = .tuple [w, .int .i64 ((e : Nat) : Int)]) := by
 have hBl := hB.1
 refine aj (dW 16 Tryz.func16) rfl (m := 46) rfl (rs := [.tmp 2, .tmp 3]) rfl (st := [(0, v)]) rfl rfl (fun _ => rfl) (fun E => zr (za rfl (za (zi 0) (zk (W.seq (zr (zm rfl (az rfl (aX rfl oz) rfl (pZ hs hro L _ hV hB) (dF hro) rfl (za rfl (zk (zr (zm rfl (zq (Q.bin rfl (zi 0) rfl (bE dY)) (zk (ax rfl (fun hc13 => ?_) (fun hc13 => ?_))))))))))))))))
 ·refine zr (zm rfl (za rfl (za rfl (zk (W.ret ?_)))))
  refine aa (End.ret (ResL.tmp rfl (z1 rfl)) (hs' := []) ⟨eW L, [], .nils, .inl ⟨by omega, rfl, rfl⟩, IOwn.nil, rfl⟩ iF (SubH.nil _))
 obtain ⟨h0, hL, hok⟩ := lL (L := L) zy
 refine zw (zr (za rfl (zk (W.seq (zr (zm rfl (zq (Q.len ez rfl hV.1.len) (zq (Q.move (zi 0)) (zk (W.block (iw (fun (i : Nat) (X : List IE) (u : AV) (hp : af) (hl : af) => [(5, u), (15, v), (16, .int .i64 ((L.length : Nat) : Int)), (17, .int .i64 ((i : Nat) : Int))]) (fun (i : Nat) (X : List IE) (u : AV) (hp : af) (hl : af) => (hs ++ hl ++ hp)) (fun (i : Nat) (X : List IE) (u : AV) (hp : af) (hl : af) => i <= L.length /\ D2 X = j4 (D2 L) i /\ OwnE 12 (cI X) X.length u hp /\ (∀ x ∈ X, IOK hl x /\ x.nk = 0) /\ WZ hl /\ (∀ x ∈ X, IBd x)) (fun (i : Nat) (X : List IE) (u : AV) (hp : af) (hl : af) => L.length - i) (0) ([]) (.nils) ([]) ([]) ⟨Nat.zero_le _, rfl, OwnE.nil 12, fun x hx => by simp at hx, WZ.nil, fun x hx => by simp at hx⟩ zv (by rw [List.append_nil, List.append_nil]; exact SubH.refl _) (fun i X u hp hl hI0 ih0 => ?_))))))))))))
 obtain ⟨h3, hX2, hO, hX, hw, hXb⟩ := hI0
 have hXl : X.length = i := (by rw [<- dr, hX2, eF])
 refine zr (zq (Q.bin rfl rfl rfl (ec jr)) (zk (W.seq (ax rfl (fun hc18 => ?_) (fun hc18 => ?_)))))
 ·obtain ⟨bv, szv, exv, rfl, wv, mv⟩ := hV.1.full zy
  refine zw (W.seq (W.block (zr (zq (ee ez gp rfl rfl zo) (zq (cj rfl (List.mem_append_left _ (List.mem_append_left _ mv)) yK gp (uV zo)) (WO.alloc Be rfl (fun b1 => WO.store gp rfl rfl (i := 0) rfl (bG rfl (IOK.cells (hV.at zy))) (cs := [_, _, _, _, _, _, _, _, _, _, _, _]) rfl (hs' := _ :: _) rfl (zk (W.seq (zr (zm rfl (zq (cj rfl (zt 0 rfl) yK gp (l := [_, _, _, _, _, _, _, _, _, _, _, _]) rfl) (WO.callE rfl (aX rfl (aX rfl oz)) rfl (qj (ro (hp ++ hl) ++ hs) (py hro) X u ⟨(RIn.own hO).appl.ro.appl, fun x hx => (hX x hx).1.mono (fun b o q => q.app.ro.appl')⟩ ⟨by omega, hXb⟩ (ei L i).d (ei L i).ars (ei L i).nk _ _ _ _ ((hV.at zy).mono (fun b o q => q.app)) (hB.at zy) (fun a ha => by have := mE (hok i zy) ha; omega)) (jy gc hro) rfl (fun v24 hP24 => ?_))))))))))))))
  obtain ⟨fn, fb, rfl, hf1, hf2⟩ := hP24
  refine zm rfl (zq (Q.extract rfl rfl) (zq (Q.extract rfl rfl) (za rfl (za rfl (zk (zr (zm rfl (zk (aM rfl (fun hc27 => ?_) (fun hc27 => ?_))))))))))
  ·refine zr (zm rfl (zm rfl (zq (zB w9 (b8 (zi 1) (b8 rfl ak)) rfl rfl) (zq (Q.build z8 (b8 rfl ak) rfl (cs := [_, _, _, _, _, _, _, _, _, _, _, _]) rfl) (WO.bslice ez gp Au rfl (b8 rfl ak) rfl (cs := [_, _, _, _, _, _, _, _, _, _, _, _]) rfl rfl rfl (fun b2 => WO.appAny (A := ([_] ++ hs ++ hl)) ln hO rfl rfl (Src.slice (zt 0 rfl) rfl) rfl zy (by decide) (SubH.of_sublist (List.sublist_cons_self _ _)) rfl (fun v33 hp33 hO33 => za rfl (zk (W.sub (zc 5 rfl (zc 15 rfl (zc 16 rfl (zc 17 rfl aU)))) (W.exit (av (aq (End.K (aF (zq (Q.bin rfl (zi 1) rfl zp) (zm rfl (WO.nil (End.KL (W.sub zv (gM gc (ih0 (i + 1) (X ++ [⟨jc fn, [], 0, .nils, .nils, .nils, .nils⟩]) (v33) (hp33) (hl) ?_ ?_)))))))))))))))))))))
   ·exact ⟨by omega, by rw [yZ hX2 (hf1 (by simpa using hc27)), lr, hX2], by rw [lq, List.length_append]; exact hO33, zO hX, hw, BW hXb⟩
   exact zo
  refine zw (lB 9 (⟨b1, _, false⟩ :: hs) (by kernel_rfl) (KIn.cons (zt 0 rfl) (fun e he => ⟨e.w, by obtain ⟨b, o, w⟩ := e; simp [he]⟩)) (WD.q (Q.move rfl) (OwnE.bq hO) rfl (WD.q (Q.fieldAddr fE rfl (o' := 0) rfl) yz rfl (WD.q (zL rfl (zt 0 rfl) cG bb rfl) (pX (hV.at zy)) rfl (WD.call0 rfl (aX rfl oz) rfl (j9 hs hro (ei L i).d _ _ _ (hV.at zy).m (hV.at zy).n _ (hV.at zy).k (hB.at zy).d) (SubR.t (SubR.appl (SubR.appl (dF hro)))) (KIn.cons (zt 0 rfl) (fun e he => ⟨e.w, by obtain ⟨b, o, w⟩ := e; simp [he]⟩)) rfl (fun v37 D37 hP37 => ?_))))))
  obtain ⟨vm2, vn2, Dm, Dn, rfl, hOm, hOn, hDD⟩ := hP37
  have hwD : WZ D37 := (by rw [hDD]; exact (WZ.own hOm).app (WZ.own hOn))
  refine WD.subH (hs' := _ :: (hs ++ hl ++ hp ++ D37)) (SubH.op (aS (N := []) (G := D37) (K := [_]) (X := hs ++ hl ++ hp))) (WD.q (Q.fieldAddr gW rfl (o' := 11) rfl) yz rfl (WD.q (aG rfl (zt 0 rfl) oC rfl) (hV.at zo).a.bq rfl (WD.call0 rfl (aX rfl oz) rfl (vf hs hro _ _ _ (hV.at zy).a (by have := (hB.at (i := i) zy).a; omega)) (SubR.t (SubR.appl (SubR.appl (SubR.appl (dF hro))))) (KIn.cons (zt 0 rfl) (fun e he => ⟨e.w, by obtain ⟨b, o, w⟩ := e; simp [he]⟩)) rfl (fun v40 D40 hP40 => WD.subH (hs' := _ :: (hs ++ hl ++ D37 ++ D40 ++ hp)) (SubH.op (ig (N := []) (G := D40) (K := [_]) (X := hs ++ hl ++ hp ++ D37) (by simp only [List.append_assoc, List.nil_append]; exact List.perm_iff_count.2 (by intro z; simp only [List.append_eq, List.count_append, List.count_nil]; omega)))) (WD.q (Q.build z8 (b8 rfl (b8 rfl ak)) rfl (cs := [_, _, _, _, _, _, _, _, _, _, _, _]) (rN (OwnE.cell hP40))) (uR (OwnE.bq0 hOm) (OwnE.bq0 hOn) (OwnE.bq0 hP40)) rfl (WD.bslice ez gp Au rfl (b8 rfl ak) rfl (cs := [_, _, _, _, _, _, _, _, _, _, _, _]) rfl (uJ (OwnE.cell hOm) (OwnE.cell hOn) (OwnE.cell hP40)) rfl (KIn.cons (zt 0 rfl) (fun e he => ⟨e.w, by obtain ⟨b, o, w⟩ := e; simp [he]⟩)) (fun b3 => WD.appAny (A := ([_] ++ hs ++ hl ++ D37 ++ D40)) ln hO rfl rfl (Src.slice (zt 0 rfl) rfl) rfl zy (by decide) (SubH.of_sublist (List.sublist_cons_self _ _)) rfl (KIn.cons (zt 0 rfl) (fun e he => ⟨e.w, by obtain ⟨b, o, w⟩ := e; simp [he]⟩)) (fun v43 hp43 hO43 => WD.q (Q.assign rfl) (OwnE.bq hO43) rfl (WD.nil (End.KB (End.K (W.sub (zc 5 rfl (zc 15 rfl (zc 16 rfl (zc 17 rfl aU)))) (aF (zq (Q.bin rfl (zi 1) rfl zp) (zm rfl (WO.nil (End.KL (W.sub zv (gM gc (ih0 (i + 1) (X ++ [⟨(ei L i).d, (ei L i).ars, 0, vm2, vn2, .nils, v40⟩]) (v43) (hp43) (hl ++ D37 ++ D40) ?_ ?_))))))))))))))))))))
  ·exact ⟨by omega, by rw [yY hX2 (hf2 (by simpa using hc27)), lr, hX2], by rw [lq, List.length_append]; exact hO43, om hX hOm hOn hP40 hDD, (hw.app hwD).app (WZ.own hP40), Di hXb (hB.at zy).d (hB.at zy).a (hB.at zy).i⟩
  exact zo
 refine W.exit (av (aL (aq (End.K (zr (zm rfl (za rfl (za (zi 0) (zk (W.ret ?_))))))))))
 refine End.ret (ResL.tmp rfl (z1 rfl)) (hs' := hp ++ hl) ⟨0, X, u, .inr ⟨by omega, rfl, by rw [hX2, show i = L.length by omega]; unfold bI; rw [dr]⟩, ⟨hp, hl, rfl, hO, hX, hw, ⟨by omega, hXb⟩⟩, rfl⟩ (wa (OwnE.w hO) hw.w) gc
end Go.Proofs.YtndhhgbpcmfeiaaGreatDoor.Ev
