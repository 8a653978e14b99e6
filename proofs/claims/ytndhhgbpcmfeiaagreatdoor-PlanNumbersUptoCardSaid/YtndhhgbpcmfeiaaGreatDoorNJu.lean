/- Chapter 20, walks: passes done again. -/
import Derived.Test.YtndhhgbpcmfeiaaGreatDoorNJi
import Derived.Test.YtndhhgbpcmfeiaaGreatDoorNJk
namespace Go.Proofs.YtndhhgbpcmfeiaaGreatDoor.Ev
open Go.RowKit
set_option maxRecDepth 100000
set_option maxHeartbeats 1000000
theorem Ao {Y Y3 : List IE} {e : Nat} (hc : eW Y = 0) (h : AA Y e (D2 Y3)) (hn : ∀ x ∈ Y3, x.nk = 0) : e = 0 /\ TrY Y Y3 := by
 rcases h with ⟨g, _⟩ | ⟨_, h1, h2⟩
 ·exact absurd hc g
 ·exact ⟨h1, hc, h2, hn⟩
theorem y0 {L : List IE} {e : Nat} {Q : List PI} (hc : eW L = 0) (h : Aw L e Q) : e = 0 /\ Q = bI (D2 L) := by
 rcases h with ⟨g, _⟩ | ⟨_, h1, h2⟩
 ·exact absurd hc g
 ·exact ⟨h1, h2⟩
section
variable {P : List PI}
theorem l0 : ∀ {n i : Nat}, i <= n -> (j4 P n).take i = j4 P i
 | 0, i, h => by obtain rfl : i = 0 := by omega
                 rfl
 | n + 1, i, h => by
  rcases Nat.lt_or_ge n i with g | g
  ·obtain rfl : i = n + 1 := by omega
   rw [List.take_of_length_le (by rw [eF]; exact Nat.le_refl _)]
  ·rw [j4, List.take_append_of_le_length (by rw [eF]; exact g), l0 g]
theorem vN {n i : Nat} (h : i < n) : pd (j4 P n) i = vP (j4 P i) (pd P i) := by
 have e : j4 P (i + 1) = (j4 P n).take (i + 1) := (l0 zy).symm
 have h2 : (j4 P n)[i]? = (j4 P (i + 1))[i]? := by rw [e, List.getElem?_take_of_lt zy]
 refine tu ?_
 rw [h2, j4, List.getElem?_append_right (by rw [eF]; exact Nat.le_refl _), eF, Nat.sub_self]
 rfl
theorem vQ {O : List PI} {x : PI} : ∀ a ∈ (vP O x).2, a ∈ x.2 := fun a ha => by
 unfold vP at ha
 split at ha
 ·cases ha
 ·exact ha
theorem y1 (h : OKP P) : OKP (bI P) := fun i hi a ha => by
 unfold bI at hi ha
 rw [eF] at hi
 rw [vN hi] at ha
 exact h i hi a (vQ a ha)
end
theorem uf {Z Y : List IE} (hOK : OKP (D2 Z)) (hc : eW Z = 0) (hn : ∀ x ∈ Y, x.nk = 0) (hY : D2 Y = bI (D2 Z)) : eW Y = 0 /\ Y.length = Z.length := by
 obtain ⟨h0, h1, _⟩ := lL hc
 have hl : Y.length = Z.length := by rw [<- dr, hY, bI, eF, dr]
 exact ⟨sP (by rw [hY]; exact y1 hOK) hn zy zy, hl⟩

inductive NumT : TD -> Int -> Prop where
 | leaf {d : ND} (h : d.kd = 1) : NumT (.node d []) d.n
 | neg {d : ND} {t : TD} {v : Int} (h : d.kd = 6) (ht : NumT t v) (hf : eQ v = true) : NumT (.node d [t]) (-v)
 | bin {d : ND} {t u : TD} {v w : Int} (h : d.kd = 5) (ht : NumT t v) (hu : NumT u w) (he : (di d.op v w).2 = 0) : NumT (.node d [t, u]) (di d.op v w).1
def qV (c d : Nat) : Prop := (c = 43 /\ d = 2) \/ (c = 45 /\ d = 3) \/ (c = 42 /\ d = 4) \/ (c = 47 /\ d = 5) \/ (c = 37 /\ d = 7)
theorem B7 {m : Bool} {q : Nat} {b : Int} (h : ((q : Nat) : Int) <= b) : -b <= AS m ((q : Nat) : Int) /\ AS m ((q : Nat) : Int) <= b := by
 unfold AS
 split <;> omega
theorem qe {n b : Int} (h : -b <= n /\ n <= b) (hb : b <= 1152921504606846976) : (gB n).2 = 0 /\ -b <= (gB n).1 /\ (gB n).1 <= b := by
 unfold gB
 rw [if_pos (by simp [cC]; omega)]
 exact ⟨rfl, h⟩
theorem lZ {a x c b : Int} (h : ((a.natAbs * x.natAbs / c.natAbs : Nat) : Int) <= b) (hb : b <= 1152921504606846976) : (dc a x c).2 = 0 /\ -b <= (dc a x c).1 /\ (dc a x c).1 <= b := by
 unfold dc
 rw [if_pos zy]
 exact ⟨rfl, B7 h⟩
theorem wZ {c d : Nat} (h : qV c d) {v b : Int} (hv : -b <= v /\ v <= b) (h1 : 1000000 <= b) (h2 : b <= 100000000000000000) :
  (di [c] v ((d * 1000000 : Nat) : Int)).2 = 0 /\ -(8 * b) <= (di [c] v ((d * 1000000 : Nat) : Int)).1 /\ (di [c] v ((d * 1000000 : Nat) : Int)).1 <= 8 * b := by
 have f1 : cC v = true := by simp [cC]; omega
 have g1 : eQ v = true := by simp [eQ]; omega
 rcases h with ⟨rfl, rfl⟩ | ⟨rfl, rfl⟩ | ⟨rfl, rfl⟩ | ⟨rfl, rfl⟩ | ⟨rfl, rfl⟩
 ·have e : di [43] v ((2 * 1000000 : Nat) : Int) = gB (v + 2000000) := by
   rw [iX (.inl (by decide)) g1 (by decide), if_pos (by decide)]
   unfold nh
   rw [if_pos (by rw [f1]; decide)]
   rfl
  rw [e]
  exact qe zy zy
 ·have e : di [45] v ((3 * 1000000 : Nat) : Int) = gB (v - 3000000) := by
   rw [iX (.inl (by decide)) g1 (by decide), if_neg (by decide), if_pos (by decide)]
   unfold ni
   rw [if_pos (by rw [f1]; decide)]
   rfl
  rw [e]
  exact qe zy zy
 ·have e : di [42] v ((4 * 1000000 : Nat) : Int) = dc v 4000000 1000000 := by
   rw [iX (.inl (by decide)) g1 (by decide), if_neg (by decide), if_neg (by decide), if_pos (by decide)]
   unfold li
   rw [if_pos (by rw [f1]; decide)]
   rfl
  rw [e]
  refine lZ ?_ zy
  show ((v.natAbs * 4000000 / 1000000 : Nat) : Int) <= 8 * b
  omega
 ·have e : di [47] v ((5 * 1000000 : Nat) : Int) = dc v 1000000 5000000 := by
   rw [iX (.inl (by decide)) g1 (by decide), if_neg (by decide), if_neg (by decide), if_neg (by decide), if_pos (by decide)]
   unfold jN
   rw [if_pos (by rw [f1]; decide), if_neg (by decide)]
   rfl
  rw [e]
  refine lZ ?_ zy
  show ((v.natAbs * 1000000 / 5000000 : Nat) : Int) <= 8 * b
  omega
 ·have e : di [37] v ((7 * 1000000 : Nat) : Int) = (v.tmod 7000000, 0) := by
   rw [iX (.inl (by decide)) g1 (by decide), if_neg (by decide), if_neg (by decide), if_neg (by decide), if_neg (by decide), if_pos (by decide)]
   unfold jO
   rw [if_pos (by rw [f1]; decide), if_neg (by decide)]
   rfl
  rw [e]
  have hm : (v.tmod 7000000).natAbs <= v.natAbs := by rw [Int.natAbs_tmod]; exact Nat.mod_le _ _
  exact ⟨rfl, by show -(8 * b) <= v.tmod 7000000; omega, by show v.tmod 7000000 <= 8 * b; omega⟩
theorem o6 {A B : List PI} : ∀ {i : Nat}, i <= A.length -> j4 (A ++ B) i = j4 A i
 | 0, _ => rfl
 | i + 1, h => by rw [j4, j4, o6 zy, mH zy]
theorem wx (t : TD) {P : List PI} (h1 : OKP P) (h2 : Cl P) : ∃ Q, aI t P = P ++ Q := (iW t P h1 h2).2.2.1
theorem mh {t : TD} {P : List PI} : 0 < (aI t P).length := by
 rw [ew]; have := jY (t := t); omega
theorem vR {A B : List PI} {j : Nat} (h : j < A.length) : pd (bI (A ++ B)) j = pd (bI A) j := by
 have e : bI A = (bI (A ++ B)).take A.length := by
  unfold bI
  rw [l0 (by rw [List.length_append]; omega), o6 (Nat.le_refl _)]
 rw [e]
 refine (tu ?_).symm
 rw [List.getElem?_take_of_lt h]
 refine AN ?_
 unfold bI
 rw [eF, List.length_append]
 omega
theorem l7 {A : List PI} {x : PI} : pd (bI (A ++ [x])) A.length = vP (bI A) x := by
 unfold bI
 rw [vN (by rw [List.length_append, List.length_cons]; omega), px, o6 (Nat.le_refl _)]
theorem wW {t : TD} {v : Int} (h : NumT t v) : ∀ (P : List PI), OKP P -> Cl P -> (pd (bI (aI t P)) ((aI t P).length - 1)).1.kd = 1 /\ (pd (bI (aI t P)) ((aI t P).length - 1)).1.n = v /\ (pd (bI (aI t P)) ((aI t P).length - 1)).2 = [] := by
 induction h with
 | @leaf d h =>
  intro P h1 h2
  rw [aI, bh, List.length_append, List.length_cons, List.length_nil, Nat.add_sub_cancel]
  show (pd (bI (P ++ [(d, [])])) P.length).1.kd = 1 /\ _
  rw [l7]
  exact ⟨h, rfl, rfl⟩
 | @neg d t v h ht hf ih =>
  intro P h1 h2
  obtain ⟨g1, g2, g3⟩ := ih P h1 h2
  have hp := mh (t := t) (P := P)
  have e : aI (.node d [t]) P = aI t P ++ [(d, [(((aI t P).length - 1 : Nat) : Int)])] := by rw [aI, bh, bh]; rfl
  rw [e, List.length_append, List.length_cons, List.length_nil, Nat.add_sub_cancel, l7]
  have hN : uz (bI (aI t P)) (d, [(((aI t P).length - 1 : Nat) : Int)]) = some (-v) := by
   show (if (pd (bI (aI t P)) ((((aI t P).length - 1 : Nat) : Int)).toNat).1.kd = 1 /\ d.kd = 6 /\ eQ (pd (bI (aI t P)) ((((aI t P).length - 1 : Nat) : Int)).toNat).1.n = true then some (-(pd (bI (aI t P)) ((((aI t P).length - 1 : Nat) : Int)).toNat).1.n) else none) = some (-v)
   rw [Int.toNat_natCast, g2, if_pos ⟨g1, h, hf⟩]
  have hY : vP (bI (aI t P)) (d, [(((aI t P).length - 1 : Nat) : Int)]) = (jc (-v), []) := by unfold vP; rw [hN]
  rw [hY]
  exact ⟨rfl, rfl, rfl⟩
 | @bin d t u v w h ht hu he ih1 ih2 =>
  intro P h1 h2
  obtain ⟨g1, g2, g3⟩ := ih1 P h1 h2
  obtain ⟨k1, k2, _, _⟩ := iW t P h1 h2
  obtain ⟨r1, r2, r3⟩ := ih2 _ k1 k2
  obtain ⟨Q, hQ⟩ := wx u k1 k2
  have hp := mh (t := t) (P := P)
  have hp2 := mh (t := u) (P := aI t P)
  have e : aI (.node d [t, u]) P = aI u (aI t P) ++ [(d, [(((aI t P).length - 1 : Nat) : Int), (((aI u (aI t P)).length - 1 : Nat) : Int)])] := by rw [aI, bh, bh, bh]; rfl
  have e1 : pd (bI (aI u (aI t P))) ((aI t P).length - 1) = pd (bI (aI t P)) ((aI t P).length - 1) := by
   rw [hQ]; exact vR zy
  rw [e, List.length_append, List.length_cons, List.length_nil, Nat.add_sub_cancel, l7]
  rw [<- e1] at g1 g2
  have hN : uz (bI (aI u (aI t P))) (d, [(((aI t P).length - 1 : Nat) : Int), (((aI u (aI t P)).length - 1 : Nat) : Int)]) = some (di d.op v w).1 := by
   show (if (pd (bI (aI u (aI t P))) ((((aI t P).length - 1 : Nat) : Int)).toNat).1.kd = 1 /\ (pd (bI (aI u (aI t P))) ((((aI u (aI t P)).length - 1 : Nat) : Int)).toNat).1.kd = 1 /\ d.kd = 5 /\
    (di d.op (pd (bI (aI u (aI t P))) ((((aI t P).length - 1 : Nat) : Int)).toNat).1.n (pd (bI (aI u (aI t P))) ((((aI u (aI t P)).length - 1 : Nat) : Int)).toNat).1.n).2 = 0 then
     some (di d.op (pd (bI (aI u (aI t P))) ((((aI t P).length - 1 : Nat) : Int)).toNat).1.n (pd (bI (aI u (aI t P))) ((((aI u (aI t P)).length - 1 : Nat) : Int)).toNat).1.n).1 else none) = _
   rw [Int.toNat_natCast, Int.toNat_natCast, g2, r2, if_pos ⟨g1, r1, h, he⟩]
  have hY : vP (bI (aI u (aI t P))) (d, [(((aI t P).length - 1 : Nat) : Int), (((aI u (aI t P)).length - 1 : Nat) : Int)]) = (jc (di d.op v w).1, []) := by unfold vP; rw [hN]
  rw [hY]
  exact ⟨rfl, rfl, rfl⟩
theorem yy {L Y : List IE} (h : TrY L Y) (ha : (ei L (L.length - 1)).ars = []) : Y.length = 1 /\ (ei Y 0).d = (ei L (L.length - 1)).d /\ (ei Y 0).ars = [] := by
 obtain ⟨h0, _, _⟩ := lL h.ok
 have hone : ∀ j, Need L j -> j = L.length - 1 := by
  intro j hj
  induction hj with
  | last => rfl
  | arg hi hl hm ih => subst ih; rw [ha] at hm; cases hm
 have hz : fo L (L.length - 1) = 0 := by
  have : ∀ k, k <= L.length - 1 -> fo L k = 0 := by
   intro k
   induction k with
   | zero => intro _; exact Nat.le_zero.1 sc
   | succ k ih =>
    intro hk
    have e : nb L k = false := by
     cases g : nb L k with
     | false => rfl
     | true => have := hone k (kU.1 g); omega
    rw [AQ e, ih zy]
  exact this _ (Nat.le_refl _)
 have hp := h.pos
 rw [hz] at hp
 obtain ⟨_, g1, g2⟩ := h.at h.nbl zy
 rw [hz] at g1 g2
 exact ⟨hp, g1, by rw [g2, ha]; rfl⟩
end Go.Proofs.YtndhhgbpcmfeiaaGreatDoor.Ev
