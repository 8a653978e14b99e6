/- Chapter 20, walks: a tree's plan, or why there is none. -/
import Derived.Test.YtndhhgbpcmfeiaaGreatDoorNHf
import Derived.Test.YtndhhgbpcmfeiaaGreatDoorNAwK
import Derived.Test.YtndhhgbpcmfeiaaGreatDoorNGg
namespace Go.Proofs.YtndhhgbpcmfeiaaGreatDoor.Ev
open Go.RowKit
set_option maxRecDepth 100000
set_option maxHeartbeats 1000000
theorem DK : AO aA 30 = some ⟨1, true, [.nils]⟩ := by kernel_rfl
theorem DL : AO aA 57 = some ⟨1, true, [.nilf]⟩ := by kernel_rfl
theorem D5 : aA.size 57 = some 1 := by kernel_rfl
theorem uc (hs : af) (hro : ∀ e ∈ hs, e.w = false) (k : TD) (d : ND) (vm vn vk : AV) (qm : CQ vm) (qn : CQ vn) (qk : CQ vk) (qo : Bytes d.op) (hT0 : TRep hs k (d.c vm vn vk)) (hsz : jx k <= 1048576) (tt er : Nat) (hTy : Spec aA 35 [.agg (d.c vm vn vk)] [] hs (eA (.tuple [.int .i64 ((tt : Nat) : Int), .int .i64 ((er : Nat) : Int)]))) : Spec aA 11 [.agg (d.c vm vn vk)] [] hs (Ax hs k (Co tt er)) := by
 refine aj (dW 11 Tryz.func11) rfl (m := 27) rfl (rs := [.tmp 2, .tmp 3]) rfl (st := [(0, .agg (d.c vm vn vk))]) rfl rfl (fun _ => rfl) (fun E => zr (WO.box rfl (rT qm.cell qn.cell qk.cell) (oP _ rfl) rfl (fun b1 => za rfl (za (zi 0) (zk (zr (zq (zL rfl (zt 0 rfl) cG bb rfl) (az rfl (aX rfl oz) rfl hTy (SubR.t (dF hro)) rfl (zm rfl (zq (Q.extract rfl rfl) (zq (Q.extract rfl rfl) (za rfl (za rfl (zk (W.seq (zr (zm rfl (zq (Q.bin rfl (zi 0) rfl (ag aD)) (zm rfl (aQ (d := 15) rfl (fun hc15 => ?_) (fun hc15 => ?_)))))))))))))))))))))
 ·refine zT (zm rfl (zT (zq (Q.bin rfl (zi 3) rfl (ag aD)) (zq (aC rfl rfl) (zk (W.sub (zc 18 rfl (zc 5 rfl (zc 1 rfl aU))) (ax rfl (fun hc18 => ?_) (fun hc18 => ?_))))))))
  ·refine aF (za (zi 16) (zk (W.seq (zr (zm rfl (zq (Q.bin rfl (zi 0) rfl (bE (p := true) rfl)) (zk (ah rfl (zr (zm rfl (za rfl (za rfl (zk (W.ret ?_))))))))))))))
   refine aa (End.ret (ResL.tmp rfl (z1 rfl)) (hs' := []) ⟨16, (by unfold Co; rw [if_pos ⟨by omega, by omega⟩]), [], .nils, [], [], rfl, OwnE.nil 12, (fun x hx => by simp at hx), fun h => absurd h zy, (fun _ => rfl), iF, rfl⟩ iF (SubH.nil _))
  refine zw (W.seq (zr (zm rfl (zq (Q.bin rfl (zi 0) rfl (bE dY)) (zk (ax rfl (fun hc20 => ?_) (fun hc20 => ?_)))))))
  ·(exfalso; omega)
  refine zw (zr (WO.alloc DK rfl (fun b2 => zk (zr (WO.alloc DL rfl (fun b3 => zk (zr (zq (sq (aX rfl (aX rfl oz))) (WO.store D5 rfl rfl (i := 0) rfl rfl (cs := [_]) rfl (hs' := _ :: _ :: _ :: _) rfl (zk (zr (zq (aG rfl (zt 0 rfl) Cw rfl) (zq (zL rfl (zt 2 rfl) cG bb rfl) (pR (M := [⟨b2, ⟨1, true, [.nils]⟩, true⟩]) (A := (⟨b3, ⟨1, true, [.func 36 [.ptr b3 0, .ptr b2 0]]⟩, true⟩ :: hs)) rfl (aX rfl oz) rfl (fun e he => by rw [List.mem_singleton.1 he]) gc (tf (ro [⟨b3, ⟨1, true, [.func 36 [.ptr b3 0, .ptr b2 0]]⟩, true⟩] ++ hs) (py hro) b3 b2 ⟨false, List.mem_cons_self⟩ k _ [] .nils [] (TRep.mono (fun b o q => q.app) hT0) (OwnE.nil 12) (Nat.le_trans (Nat.le_of_eq (Nat.zero_add _)) (Nat.le_trans hsz (by decide)))) (jy gc hro) rfl (fun v25 D25 hP25 => ?_)))))))))))))))
  obtain ⟨W2, w2, hp2, hl2, rfl, hO2, hX2, hD2, hw2, rfl⟩ := hP25; refine WO.subH (hs' := ⟨b2, ⟨1, true, [w2]⟩, true⟩ :: (hs ++ hl2 ++ hp2)) gc ?_
  refine zk (zr (zq (aG rfl (zt 0 rfl) Ba rfl) (za rfl (za (zi 0) (zk (W.ret ?_))))))
  refine End.ret (ResL.tmp rfl (z1 rfl)) (hs' := hp2 ++ hl2) ⟨0, (by unfold Co; rw [if_neg (fun h => by omega)]; omega), W2, w2, hp2, hl2, rfl, hO2, (fun x hx => ⟨(hX2 x hx).1.mono fun b o ⟨w, q⟩ => ⟨w, List.mem_append_right _ q⟩, (hX2 x hx).2⟩), fun _ => hD2, (fun h => absurd rfl h), hw2, rfl⟩ (wa (OwnE.w hO2) hw2) gc
 refine z2 (zq (aH rfl rfl) (zk (W.sub (zc 18 rfl (zc 5 rfl (zc 1 rfl aU))) (ad rfl (zw (W.seq (zr (zm rfl (zq (Q.bin rfl (zi 0) rfl (bE dY)) (zk (ax rfl (fun hc20 => ?_) (fun hc20 => ?_))))))))))))
 ·refine zr (zm rfl (za rfl (za rfl (zk (W.ret ?_)))))
  refine aa (End.ret (ResL.tmp rfl (z1 rfl)) (hs' := []) ⟨er, (by unfold Co; rw [if_neg (fun h => by omega)]), [], .nils, [], [], rfl, OwnE.nil 12, (fun x hx => by simp at hx), fun h => absurd h zy, (fun _ => rfl), iF, rfl⟩ iF (SubH.nil _))
 (exfalso; omega)
theorem BE (hs : af) (hro : ∀ e ∈ hs, e.w = false) (k : TD) (c : List AV) (hT0 : TRep hs k c) (hsz : jx k <= 1048576) (tt er : Nat) (hTy : Spec aA 35 [.agg c] [] hs (eA (P16.tpair tt er))) : Spec aA 11 [.agg c] [] hs (Ax hs k (Co tt er)) := by
 obtain ⟨d, vm, vn, vk, rfl, qm, qn, qk, qo⟩ := jz hT0
 exact uc hs hro k d vm vn vk qm qn qk qo hT0 hsz tt er hTy
section
variable {Z : List IE} {w : AV} {hp hl D D0 T0 : af}
theorem BG (hX : ∀ x ∈ Z, IOK (ro D0 ++ hl) x /\ x.vk = .nils /\ IBd x) (h : Z.length <= 1048576) : ILB Z := ⟨h, fun x hx => (hX x hx).2.2⟩
end
section
variable {L Y : List IE} {i j k n p q : Nat}
theorem yb (h : nb L j = true) : ∀ {k : Nat}, j < k -> fo L j < fo L k := by
 intro k hk
 induction k with
 | zero => omega
 | succ k ih =>
  rcases Nat.lt_or_ge j k with g | g
  ·have := ih g
   cases e : nb L k with
   | true => rw [yc e]; omega
   | false => rw [AQ e]; exact this
  ·obtain rfl : j = k := by omega
   rw [yc h]; omega
theorem AU (h : nb L j = true) : ∀ {n : Nat}, j < n -> (iq L n)[fo L j]? = some ((ei L j).d, ip L (ei L j).ars)
 | 0, hn => by omega
 | n + 1, hn => by
  rcases Nat.lt_or_ge j n with g | g
  ·have ih := AU h g
   cases e : nb L n with
   | true => rw [Cf e, List.getElem?_append_left (by rw [mS]; exact yb h g)]; exact ih
   | false => rw [Ds e]; exact ih
  ·obtain rfl : j = n := by omega
   rw [Cf h, List.getElem?_append_right (by rw [mS]; exact Nat.le_refl _), mS, Nat.sub_self]; rfl
structure TrY (L Y : List IE) : Prop where
 ok : eW L = 0
 y : D2 Y = iq L L.length
 nk : ∀ x ∈ Y, x.nk = 0
theorem TrY.len (h : TrY L Y) : Y.length = fo L L.length := by rw [<- dr, h.y, mS]
theorem TrY.nbl (h : TrY L Y) : nb L (L.length - 1) = true := kU.2 .last
theorem TrY.pos (h : TrY L Y) : Y.length = fo L (L.length - 1) + 1 := by
 obtain ⟨h0, _, _⟩ := lL h.ok
 rw [h.len, <- yc h.nbl]; congr 1; omega
theorem TrY.at (h : TrY L Y) (hj : nb L j = true) (hl : j < L.length) : fo L j < Y.length /\ (ei Y (fo L j)).d = (ei L j).d /\ (ei Y (fo L j)).ars = ip L (ei L j).ars := by
 have hp := yb hj hl
 rw [<- h.len] at hp
 have h1 := AU hj hl
 rw [<- h.y, D2, List.getElem?_map, sT hp] at h1
 have h2 := Option.some.inj h1
 exact ⟨hp, congrArg Prod.fst h2, congrArg Prod.snd h2⟩
end
section
variable {L Y : List IE} {i j q : Nat}
end
abbrev PI := ND × List Int
def pd (L : List PI) (i : Nat) : PI := L.getD i (ND.zero, [])
section
variable {L P Q : List PI} {T A : List Int} {i j k : Nat} {x : PI} {c : Int}
theorem AN (h : i < L.length) : L[i]? = some (pd L i) := by
 unfold pd
 rw [List.getD_eq_getElem?_getD, List.getElem?_eq_getElem h]; rfl
theorem tu (h : L[i]? = some x) : pd L i = x := by
 unfold pd
 rw [List.getD_eq_getElem?_getD, h]; rfl
theorem mH (h : i < P.length) : pd (P ++ Q) i = pd P i := tu (by rw [List.getElem?_append_left h]; exact AN h)
theorem px : pd (P ++ [x]) P.length = x := tu (by rw [List.getElem?_append_right (Nat.le_refl _), Nat.sub_self]; rfl)
theorem Cy (h : A[i]? = some c) : ai A i = c := by
 unfold ai
 rw [List.getD_eq_getElem?_getD, h]; rfl
theorem sU (L : List IE) (i : Nat) : ((ei L i).d, (ei L i).ars) = pd (D2 L) i := by
 unfold ei pd D2
 rw [List.getD_eq_getElem?_getD, List.getD_eq_getElem?_getD, List.getElem?_map]
 cases L[i]? <;> rfl
theorem rr {L : List IE} {i : Nat} : (ei L i).d = (pd (D2 L) i).1 := congrArg Prod.fst (sU L i)
theorem Bu {L : List IE} {i : Nat} : (ei L i).ars = (pd (D2 L) i).2 := congrArg Prod.snd (sU L i)
end
def OKP (L : List PI) : Prop := ∀ i, i < L.length -> ∀ a ∈ (pd L i).2, 0 <= a /\ a < ((i : Nat) : Int)
theorem sP {L : List IE} (h : OKP (D2 L)) (hn : ∀ x ∈ L, x.nk = 0) (h0 : 0 < L.length) (h1 : L.length <= 1024) : eW L = 0 :=
 AE zy zy fun i hi => by
  unfold qE
  rw [Bool.and_eq_true, decide_eq_true_eq, Bool.not_eq_true']
  refine ⟨hn _ (rt hi), uK fun q hq => ?_⟩
  have := h i (by rw [dr]; exact hi) (ai (ei L i).ars q) (by rw [<- Bu]; exact jj hq)
  unfold oF
  rw [Bool.or_eq_false_iff, decide_eq_false_iff_not, decide_eq_false_iff_not]
  omega
theorem OKP.nil : OKP [] := fun i hi => absurd hi (Nat.not_lt_zero _)
theorem OKP.snoc {L : List PI} {x : PI} (h : OKP L) (hx : ∀ a ∈ x.2, 0 <= a /\ a < ((L.length : Nat) : Int)) : OKP (L ++ [x]) := fun i hi a ha => by
 rw [List.length_append, List.length_cons, List.length_nil] at hi
 rcases Nat.lt_or_ge i L.length with g | g
 ·rw [mH g] at ha; exact h i g a ha
 ·obtain rfl : i = L.length := by omega
  rw [px] at ha; exact hx a ha
theorem OKP.left {P Q : List PI} (h : OKP (P ++ Q)) : OKP P := fun i hi a ha => h i (by rw [List.length_append]; omega) a (by rw [mH hi]; exact ha)
def DC (P : List PI) : Nat -> Nat -> TD
 | 0, _ => A4
 | k + 1, i => .node (pd P i).1 ((pd P i).2.map fun a => DC P k a.toNat)
def tD (P : List PI) (i : Nat) : TD := DC P (i + 1) i
theorem yw {L : List IE} : ∀ (k i : Nat), yx L k i = DC (D2 L) k i
 | 0, _ => rfl
 | k + 1, i => by
  show TD.node _ _ = TD.node _ _
  rw [rr, Bu]
  congr 1
  exact List.map_congr_left fun a _ => yw k a.toNat
theorem Ch {L : List IE} {i : Nat} : AW L i = tD (D2 L) i := yw _ _
section
variable {P Q : List PI} {i j : Nat}
theorem Cg (hok : OKP P) : ∀ (k i : Nat), i < k -> i < P.length -> DC P k i = tD P i := by
 intro k
 induction k using Nat.strongRecOn with
 | _ k ih =>
  intro i hk hi
  cases k with
  | zero => omega
  | succ k =>
   unfold tD
   show TD.node _ _ = TD.node _ _
   congr 1
   refine List.map_congr_left fun a ha => ?_
   obtain ⟨h1, h2⟩ := hok i hi a ha
   rcases Nat.lt_or_ge i k with g | g
   ·rw [ih k zy a.toNat zy zy, ih i zy a.toNat zy zy]
   ·obtain rfl : k = i := by omega
    rfl
theorem so (hok : OKP P) (hi : i < P.length) : tD P i = .node (pd P i).1 ((pd P i).2.map fun a => tD P a.toNat) := by
 unfold tD
 show TD.node _ _ = TD.node _ _
 congr 1
 refine List.map_congr_left fun a ha => ?_
 obtain ⟨h1, h2⟩ := hok i hi a ha
 exact Cg hok i a.toNat zy zy
theorem pE (hok : OKP (P ++ Q)) : ∀ i, i < P.length -> tD (P ++ Q) i = tD P i := by
 intro i
 induction i using Nat.strongRecOn with
 | _ i ih =>
  intro hi
  rw [so hok (by rw [List.length_append]; omega), so hok.left hi, mH hi]
  congr 1
  refine List.map_congr_left fun a ha => ?_
  have := hok.left i hi a ha
  exact ih a.toNat zy zy
end
def Cl (P : List PI) : Prop := ∀ j, j < P.length -> jx (tD P j) <= j + 1
mutual
theorem iW : ∀ (t : TD) (P : List PI), OKP P -> Cl P -> OKP (aI t P) /\ Cl (aI t P) /\ (∃ Q, aI t P = P ++ Q) /\ tD (aI t P) ((aI t P).length - 1) = t
 | .node d ks, P, h, hz => by
  obtain ⟨g1, g2, ⟨Q, g3⟩, B, g4, g5, g6⟩ := nO ks P [] h hz
  have hl := ew (t := .node d ks) (L := P)
  rw [aI] at hl ⊢
  rw [List.nil_append] at g4
  have h1 : OKP ((bh ks P []).1 ++ [(d, (bh ks P []).2)]) := g1.snoc (by rw [g4]; exact g5)
  have h2 : tD ((bh ks P []).1 ++ [(d, (bh ks P []).2)]) (bh ks P []).1.length = .node d ks := by
   rw [so h1 (by simp), px]
   have e : B.map (fun a => tD ((bh ks P []).1 ++ [(d, (bh ks P []).2)]) a.toNat) = ks := (List.map_congr_left fun a ha => by
    have := g5 a ha
    exact pE h1 _ zy).trans g6
   show TD.node d ((bh ks P []).2.map _) = _
   rw [g4] at e ⊢
   rw [e]
  refine ⟨h1, fun j hj => ?_, ⟨Q ++ [(d, (bh ks P []).2)], by rw [g3, List.append_assoc]⟩, by rw [List.length_append, List.length_cons, List.length_nil, Nat.zero_add, Nat.add_sub_cancel]; exact h2⟩
  rw [List.length_append, List.length_cons, List.length_nil] at hj hl
  rcases Nat.lt_or_ge j (bh ks P []).1.length with q | q
  ·rw [pE h1 j q]; exact g2 j q
  ·obtain rfl : j = (bh ks P []).1.length := by omega
   rw [h2]; omega
theorem nO : ∀ (ks : List TD) (P : List PI) (A : List Int), OKP P -> Cl P -> OKP (bh ks P A).1 /\ Cl (bh ks P A).1 /\ (∃ Q, (bh ks P A).1 = P ++ Q) /\
  ∃ B, (bh ks P A).2 = A ++ B /\ (∀ b ∈ B, 0 <= b /\ b < (((bh ks P A).1.length : Nat) : Int)) /\ B.map (fun a => tD (bh ks P A).1 a.toNat) = ks
 | [], P, A, h, hz => by rw [bh]; exact ⟨h, hz, ⟨[], by simp⟩, [], by simp, fun b hb => by simp at hb, rfl⟩
 | k :: ks, P, A, h, hz => by
  obtain ⟨g1, g2, ⟨Q, g3⟩, g4⟩ := iW k P h hz
  obtain ⟨k1, k2, ⟨Q', k3⟩, B, k4, k5, k6⟩ := nO ks (aI k P) (A ++ [(((aI k P).length - 1 : Nat) : Int)]) g1 g2
  have hp := jY (t := k)
  have hl := ew (t := k) (L := P)
  have hl2 := jR ks (aI k P) (A ++ [(((aI k P).length - 1 : Nat) : Int)])
  rw [bh]
  refine ⟨k1, k2, ⟨Q ++ Q', by rw [k3, g3, List.append_assoc]⟩, (((aI k P).length - 1 : Nat) : Int) :: B, by rw [k4, List.append_assoc]; rfl, fun b hb => ?_, ?_⟩
  ·rcases List.mem_cons.1 hb with rfl | hb
   ·omega
   ·exact k5 b hb
  ·rw [List.map_cons, k6]
   congr 1
   rw [Int.toNat_natCast]
   generalize (bh ks (aI k P) (A ++ [(((aI k P).length - 1 : Nat) : Int)])).1 = Z at *
   subst k3
   rw [pE k1 _ zy]
   exact g4
end
section
variable {L : List PI}
end
end Go.Proofs.YtndhhgbpcmfeiaaGreatDoor.Ev
