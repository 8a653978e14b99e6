/- Chapter 16, by the document: the tree of a text of numbers. -/
import Derived.Test.YtndhhgbpcmfeiaaGreatDoorNUe
namespace Go.Proofs.YtndhhgbpcmfeiaaGreatDoor.Ev.P16
open Go.RowKit
set_option maxRecDepth 100000
structure PC (toks : List aY) (n : Nat) : Prop where
 hn : toks.length = n + 1
 hnl : n <= 1048576
 hok : ir toks
theorem PC.b {toks : List aY} {n : Nat} (C : PC toks n) {a : Nat} (ha : a <= n) : Bytes (tg toks a).2.1 := (Ec C.hok (by have := C.hn; omega)).1
abbrev E0 (toks : List aY) (n tb : Nat) (ex : Bool) (X l a a2 : Nat) (Q : TD -> Int -> Prop) (dl : Nat) : Prop := EXs toks n tb ex X 31 [.int .i64 ((l : Nat) : Int)] a a2 Q dl
theorem w4 {tx s : List Nat} {nv p : Int} : rO 0 (2, tx, nv, p) s = false := by unfold rO; simp
def yE (T : aY) (l : Nat) : Prop := (T.1 = 5 /\ decide (T.2.1 ∈ kT l) = false) \/ (T.1 ≠ 1 /\ T.1 ≠ 5)
theorem EXs.q {toks : List aY} {n tb X F a a2 dl : Nat} {ex : Bool} {args : List AV} {Q U : TD -> Int -> Prop} (hq : ∀ t v, Q t v -> U t v) (h : EXs toks n tb ex X F args a a2 Q dl) : EXs toks n tb ex X F args a a2 U dl :=
 fun dp bd hd => (h dp bd hd).mono fun v D ⟨x, hh, h1, h2, h3⟩ => ⟨x, hh, h1, ⟨h2.ok, h2.tr, let ⟨t, w, g1, g2, g3, g4⟩ := h2.nt; ⟨t, w, g1, g2, hq t w g3, g4⟩⟩, h3⟩
def Ak (t : aY) : Nat × List Nat × Int := (t.1, t.2.1, t.2.2.1)
abbrev gi := Nat × List Nat × Int
def HasK (toks : List aY) (a : Nat) (L : List gi) : Prop := ∀ j k, L[j]? = some k -> ∃ p : Int, tg toks (a + j) = (k.1, k.2.1, k.2.2, p)
theorem HasK.hd {toks : List aY} {a : Nat} {k : gi} {L : List gi} (h : HasK toks a (k :: L)) : ∃ p : Int, tg toks a = (k.1, k.2.1, k.2.2, p) := h 0 k rfl
theorem HasK.tl {toks : List aY} {a : Nat} {k : gi} {L : List gi} (h : HasK toks a (k :: L)) : HasK toks (a + 1) L := fun j x hx => by
 obtain ⟨p, hp⟩ := h (j + 1) x (by simpa using hx)
 exact ⟨p, by rw [<- hp]; congr 1; omega⟩
theorem HasK.adv {toks : List aY} {a : Nat} : ∀ {U L : List gi}, HasK toks a (U ++ L) -> HasK toks (a + U.length) L
 | [], L, h => h
 | x :: U, L, h => by
  have := HasK.adv (U := U) (HasK.tl h)
  rw [List.length_cons, show a + (U.length + 1) = a + 1 + U.length by omega]
  exact this
theorem y5 {M E : List aY} {L : List gi} (h : M.map Ak = L) : HasK (M ++ E) 0 L := by
 intro j k hk
 subst h
 rw [List.getElem?_map] at hk
 cases hm : M[j]? with
 | none => rw [hm] at hk; cases hk
 | some t =>
  rw [hm] at hk
  simp only [Option.map_some, Option.some.injEq] at hk
  subst hk
  refine ⟨t.2.2.2, ?_⟩
  unfold tg
  rw [Nat.zero_add, List.getD_eq_getElem?_getD, List.getElem?_append_left (List.getElem?_eq_some_iff.1 hm).1, hm]
  rfl
section
variable {toks : List aY} {n tb X : Nat} {ex : Bool}
theorem pass (C : PC toks n) {a a2 dl : Nat} {Q : TD -> Int -> Prop} (ha : a <= n) (ha2 : a2 <= n) {l : Nat} (hl : l <= 4) (hF : yE (tg toks a2) l) (h : E0 toks n tb ex X (l + 1) a a2 Q dl) : E0 toks n tb ex X l a a2 Q dl := by
 intro dp bd hd
 rcases hF with hF | hF
 ·exact z6 toks n C.hn C.hnl C.hok tb ex X a ha dp bd dl hd a2 Q ha2 _ rfl (C.b ha2) l hl hF h
 ·exact zZ toks n C.hn C.hnl C.hok tb ex X a ha dp bd dl hd a2 Q ha2 _ rfl (C.b ha2) l hl hF h
theorem CJ (C : PC toks n) {a a2 dl : Nat} {Q : TD -> Int -> Prop} (ha : a <= n) (ha2 : a2 <= n) : ∀ (k l : Nat), l + k <= 5 -> (∀ j, l <= j -> j < l + k -> yE (tg toks a2) j) -> E0 toks n tb ex X (l + k) a a2 Q dl -> E0 toks n tb ex X l a a2 Q dl
 | 0, l, _, _, h => h
 | k + 1, l, h5, hF, h => pass C ha ha2 zy (hF l zy zy) (CJ C ha ha2 k (l + 1) zy (fun j h1 h2 => hF j zy zy) (by rw [show l + 1 + k = l + (k + 1) by omega]; exact h))
theorem Eh (C : PC toks n) {a a2 dl : Nat} {Q : TD -> Int -> Prop} (ha : a <= n) (ha2 : a2 <= n) {l : Nat} (hl : l <= 5) (hF : ∀ j, yE (tg toks a2) j) (h : E0 toks n tb ex X l a a2 Q dl) : E0 toks n tb ex X 0 a a2 Q dl :=
 CJ C ha ha2 l 0 zy (fun j _ _ => hF j) (by rw [Nat.zero_add]; exact h)
theorem Eg (C : PC toks n) {a a2 dl : Nat} {Q : TD -> Int -> Prop} (ha : a <= n) (hm : rO 0 (tg toks a) [45] = false) (h : EXs toks n tb ex X 89 [] a a2 Q dl) : E0 toks n tb ex X 5 a a2 Q dl :=
 fun dp bd hd => sX toks n C.hn C.hnl C.hok tb ex X a ha dp bd dl hd a2 Q (fun dp bd hd => AT toks n C.hn C.hnl C.hok tb ex X a ha dp bd dl hd _ rfl (C.b ha) hm a2 Q h)
theorem C5 (C : PC toks n) {a dl : Nat} (ha : a + 1 <= n) {tx : List Nat} {nv p : Int} {Q : TD -> Int -> Prop} (hT : tg toks a = (2, tx, nv, p)) (hQ : Q (.node (jc nv) []) nv) : E0 toks n tb ex X 5 a (a + 1) Q dl :=
 Eg C zy (by rw [hT]; exact w4) fun dp bd hd => Bc toks n C.hn C.hnl C.hok tb ex X a zy dp bd ha dl hd tx nv p hT (by have := C.b (a := a) zy; rw [hT] at this; exact this) Q hQ
end
theorem Df {c d : Nat} (h : qV c d) : ∃ l, (l = 3 \/ l = 4) /\ decide ([c] ∈ kT l) = true /\ (l = 3 -> decide ([c] ∈ kT 4) = false) := by
 rcases h with ⟨rfl, rfl⟩ | ⟨rfl, rfl⟩ | ⟨rfl, rfl⟩ | ⟨rfl, rfl⟩ | ⟨rfl, rfl⟩
 ·exact ⟨3, .inl rfl, by decide, fun _ => by decide⟩
 ·exact ⟨3, .inl rfl, by decide, fun _ => by decide⟩
 ·exact ⟨4, .inr rfl, by decide, fun h => by omega⟩
 ·exact ⟨4, .inr rfl, by decide, fun h => by omega⟩
 ·exact ⟨4, .inr rfl, by decide, fun h => by omega⟩
theorem De {c d : Nat} (h : qV c d) : Bytes [c] := by rcases h with ⟨rfl, rfl⟩ | ⟨rfl, rfl⟩ | ⟨rfl, rfl⟩ | ⟨rfl, rfl⟩ | ⟨rfl, rfl⟩ <;> (unfold Bytes; decide)
theorem Dg {c d : Nat} (h : qV c d) : gI 5 [c] 0 0 0 false 2 (fun i => [1, 1].getD i 0) (fun _ => 0) = (1, 0) := by rcases h with ⟨rfl, rfl⟩ | ⟨rfl, rfl⟩ | ⟨rfl, rfl⟩ | ⟨rfl, rfl⟩ | ⟨rfl, rfl⟩ <;> decide
theorem w8 (l : Nat) : decide (([41] : List Nat) ∈ kT l) = false := by unfold kT; (repeat' split) <;> decide
abbrev OpL := List ((Nat × Nat) × Bool)
def ed : OpL -> List gi
 | [] => [(2, [49], ((1000000 : Nat) : Int))]
 | ((c, d), b) :: r => (if b = true then [(5, [45], 0)] else []) ++ (5, [40], 0) :: (ed r ++ [(5, [c], 0), (2, [48 + d], ((d * 1000000 : Nat) : Int)), (5, [41], 0)])
def numS : OpL -> List Nat
 | [] => [49]
 | ((c, d), b) :: r => (if b = true then [45] else []) ++ 40 :: (numS r ++ [32, c, 32, 48 + d, 41])
def dpN : OpL -> Nat
 | [] => 0
 | (_, b) :: r => (if b = true then 2 else 1) + dpN r
def bN : OpL -> Nat
 | [] => 1000000
 | _ :: r => 8 * bN r
def OpsOK (r : OpL) : Prop := ∀ x ∈ r, qV x.1.1 x.1.2
def QN (r : OpL) (t : TD) (v : Int) : Prop := -((bN r : Nat) : Int) <= v /\ v <= ((bN r : Nat) : Int) /\ jx t <= 3 * r.length + 1
theorem uO : ∀ {r : OpL}, r.length <= 8 -> 1000000 <= bN r /\ bN r <= 1000000 * 8 ^ r.length
 | [], _ => ⟨Nat.le_refl _, Nat.le_refl _⟩
 | x :: r, h => by
  obtain ⟨h1, h2⟩ := uO (r := r) (by rw [List.length_cons] at h; omega)
  rw [bN, List.length_cons, Nat.pow_succ]
  omega
theorem uP {r : OpL} (h : r.length <= 8) : bN r <= 20000000000000 := by
 have h1 := (uO h).2
 have h2 : 8 ^ r.length <= 8 ^ 8 := Nat.pow_le_pow_right (by decide) h
 have h3 : (8 : Nat) ^ 8 = 16777216 := by decide
 omega
section
variable {toks : List aY} {n tb X : Nat} {ex : Bool}
theorem qG (C : PC toks n) {r : OpL} {c d a dl m : Nat} {L : List gi} (ho : qV c d) (hr : r.length <= 7) (hm : m = (ed r).length) (h : HasK toks a ((5, [40], 0) :: (ed r ++ [(5, [c], 0), (2, [48 + d], ((d * 1000000 : Nat) : Int)), (5, [41], 0)]) ++ L)) (ha : a + (m + 4) <= n) (hd : dl + 1 <= 12)
  (ih : E0 toks n tb ex X 5 (a + 1) (a + 1 + m) (QN r) (dl + 1)) :
  EXs toks n tb ex X 89 [] a (a + (m + 4)) (fun t v => -((8 * bN r : Nat) : Int) <= v /\ v <= ((8 * bN r : Nat) : Int) /\ jx t <= 3 * r.length + 3) dl := by
 obtain ⟨p0, h0⟩ := h.hd
 have h1 : HasK toks (a + 1) (ed r ++ ([(5, [c], 0), (2, [48 + d], ((d * 1000000 : Nat) : Int)), (5, [41], 0)] ++ L)) := by rw [<- List.append_assoc]; exact h.tl
 have h2 := HasK.adv h1
 rw [<- hm] at h2
 obtain ⟨p1, g1⟩ := h2.hd
 obtain ⟨p2, g2⟩ := h2.tl.hd
 obtain ⟨p3, g3⟩ := h2.tl.tl.hd
 obtain ⟨l, hl, hl1, hl2⟩ := Df ho
 have hb := uP (r := r) zy
 have hb1 := (uO (r := r) zy).1
 have hF : ∀ j, yE (tg toks (a + 1 + m + 1 + 1)) j := fun j => by rw [g3]; exact .inl ⟨rfl, w8 j⟩
 have hL : E0 toks n tb ex X (l + 1) (a + 1) (a + 1 + m) (QN r) (dl + 1) := by
  rcases hl with rfl | rfl
  ·exact pass C zy zy (by decide) (by rw [g1]; exact .inl ⟨rfl, hl2 rfl⟩) ih
  ·exact ih
 have hN : E0 toks n tb ex X 5 (a + 1 + m + 1) (a + 1 + m + 1 + 1) (fun t v => v = ((d * 1000000 : Nat) : Int) /\ jx t = 1) (dl + 1) := C5 C zy g2 ⟨rfl, by rw [jx, iu]⟩
 have hR : E0 toks n tb ex X (l + 1) (a + 1 + m + 1) (a + 1 + m + 1 + 1) (fun t v => v = ((d * 1000000 : Nat) : Int) /\ jx t = 1) (dl + 1) := by
  rcases hl with rfl | rfl
  ·exact pass C zy zy (by decide) (hF 4) hN
  ·exact hN
 have hB : E0 toks n tb ex X 0 (a + 1) (a + 1 + m + 1 + 1) (fun t v => -((8 * bN r : Nat) : Int) <= v /\ v <= ((8 * bN r : Nat) : Int) /\ jx t <= 3 * r.length + 3) (dl + 1) :=
  Eh C (l := l) zy zy zy hF fun dp bd hd => CC toks n C.hn C.hnl C.hok tb ex X (a + 1) zy dp bd (dl + 1) hd l zy zy (a + 1 + m) _ _ _ hL zy [c] _ p1 g1 (De ho) (by simp) hl1 _ rfl (C.b zy) (by rw [g2]; exact w4) (by rw [g2]; exact w4) (a + 1 + m + 1 + 1) hR zy _ rfl (C.b zy) (by rw [g3]; exact ⟨rfl, w8 l⟩) (Dg ho)
   (fun t u v w ⟨k1, k2, k3⟩ ⟨k4, k5⟩ => by
    subst k4
    obtain ⟨e1, e2, e3⟩ := wZ ho (b := ((bN r : Nat) : Int)) ⟨k1, k2⟩ zy zy
    refine ⟨e1, by omega, by omega, ?_⟩
    rw [jx, iu, iu, iu, k5]
    omega)
 intro dp bd hd'
 have := Bf toks n C.hn C.hnl C.hok tb ex X a zy dp bd zy dl hd' zy _ p0 h0 (a + 1 + m + 1 + 1) _ hB zy _ p3 g3
 rw [show a + (m + 4) = a + 1 + m + 1 + 1 + 1 by omega]
 exact this
theorem mD (C : PC toks n) : ∀ (r : OpL) (a dl : Nat) (L : List gi), OpsOK r -> r.length <= 8 -> HasK toks a (ed r ++ L) -> a + (ed r).length <= n -> dl + dpN r <= 12 -> E0 toks n tb ex X 5 a (a + (ed r).length) (QN r) dl
 | [], a, dl, L, _, _, h, ha, hd => by
  obtain ⟨p0, h0⟩ := h.hd
  exact C5 C ha h0 ⟨by decide, by decide, by rw [jx, iu]; decide⟩
 | ((c, d), false) :: r, a, dl, L, hr, hl, h, ha, hd => by
  have ho : qV c d := hr _ List.mem_cons_self
  have e : (ed (((c, d), false) :: r)).length = (ed r).length + 4 := by simp [ed]
  have hdp : dpN (((c, d), false) :: r) = 1 + dpN r := rfl
  have hl' : r.length <= 7 := by rw [List.length_cons] at hl; omega
  rw [e] at ha ⊢
  have h' : HasK toks a ((5, [40], 0) :: (ed r ++ [(5, [c], 0), (2, [48 + d], ((d * 1000000 : Nat) : Int)), (5, [41], 0)]) ++ L) := h
  have h1 : HasK toks (a + 1) (ed r ++ ([(5, [c], 0), (2, [48 + d], ((d * 1000000 : Nat) : Int)), (5, [41], 0)] ++ L)) := by rw [<- List.append_assoc]; exact h'.tl
  have ih := mD C r (a + 1) (dl + 1) _ (fun x hx => hr x (List.mem_cons_of_mem _ hx)) zy h1 zy zy
  have hA := qG C (dl := dl) ho hl' rfl h' ha zy ih
  obtain ⟨p0, h0⟩ := h'.hd
  refine Eg C zy (by rw [h0]; rfl) (EXs.q (fun t v ⟨k1, k2, k3⟩ => ⟨k1, k2, ?_⟩) hA)
  rw [List.length_cons]; omega
 | ((c, d), true) :: r, a, dl, L, hr, hl, h, ha, hd => by
  have ho : qV c d := hr _ List.mem_cons_self
  have e : (ed (((c, d), true) :: r)).length = 1 + ((ed r).length + 4) := by simp [ed]; omega
  have hdp : dpN (((c, d), true) :: r) = 2 + dpN r := rfl
  have hl' : r.length <= 7 := by rw [List.length_cons] at hl; omega
  rw [e] at ha ⊢
  have h'' : HasK toks a ((5, [45], 0) :: ((5, [40], 0) :: (ed r ++ [(5, [c], 0), (2, [48 + d], ((d * 1000000 : Nat) : Int)), (5, [41], 0)]) ++ L)) := h
  obtain ⟨p, hm⟩ := h''.hd
  have h' := h''.tl
  have h1 : HasK toks (a + 1 + 1) (ed r ++ ([(5, [c], 0), (2, [48 + d], ((d * 1000000 : Nat) : Int)), (5, [41], 0)] ++ L)) := by rw [<- List.append_assoc]; exact h'.tl
  have ih := mD C r (a + 1 + 1) (dl + 1 + 1) _ (fun x hx => hr x (List.mem_cons_of_mem _ hx)) zy h1 zy zy
  have hA := qG C (dl := dl + 1) ho hl' rfl h' zy zy ih
  obtain ⟨p0, h0⟩ := h'.hd
  have hb := uP (r := r) zy
  rw [show a + (1 + ((ed r).length + 4)) = a + 1 + ((ed r).length + 4) by omega]
  exact fun dp bd hd => sX toks n C.hn C.hnl C.hok tb ex X a zy dp bd dl hd _ _ (fun dp bd hd => C4 toks n C.hn C.hnl C.hok tb ex X a zy dp bd zy dl hd zy _ p hm _ _ _
   (fun dp bd hd => AT toks n C.hn C.hnl C.hok tb ex X (a + 1) zy dp bd (dl + 1) hd _ rfl (C.b zy) (by rw [h0]; rfl) _ _ hA) (fun t v ⟨k1, k2, k3⟩ => by
    refine ⟨by simp only [eQ, Bool.and_eq_true, decide_eq_true_eq]; omega, ?_, ?_, ?_⟩
    ·show -((8 * bN r : Nat) : Int) <= -v; omega
    ·show -v <= ((8 * bN r : Nat) : Int); omega
    ·rw [jx, iu, iu, List.length_cons]; omega))
end
def ld (c : Nat) : Bool := dB c || eM c
def Dl : List Nat -> Prop
 | [] => True
 | c :: _ => dB c = false /\ eM c = false /\ c ≠ 46
def wH : List Nat -> Prop
 | [] => True
 | c :: _ => nb c
structure Suf (s : List Nat) (i : Nat) (w : List Nat) : Prop where
 le : i <= s.length
 eq : s.drop i = w
theorem Suf.at_ {s w : List Nat} {i : Nat} (h : Suf s i w) (j : Nat) : s.getD (i + j) 0 = w.getD j 0 := by
 rw [<- h.eq, List.getD_eq_getElem?_getD, List.getD_eq_getElem?_getD, List.getElem?_drop]
theorem Suf.len {s w : List Nat} {i : Nat} (h : Suf s i w) : i + w.length = s.length := by
 have := congrArg List.length h.eq
 rw [List.length_drop] at this
 have := h.le
 omega
theorem Suf.adv {s u w : List Nat} {i : Nat} (h : Suf s i (u ++ w)) : Suf s (i + u.length) w := by
 have hl := h.len
 rw [List.length_append] at hl
 refine ⟨by omega, ?_⟩
 rw [<- List.drop_drop, h.eq, List.drop_left]
theorem Suf.tl {s w : List Nat} {i c : Nat} (h : Suf s i (c :: w)) : Suf s (i + 1) w := Suf.adv (u := [c]) h
theorem Suf.take {s u w : List Nat} {i : Nat} (h : Suf s i (u ++ w)) : (s.drop i).take (i + u.length - i) = u := by
 rw [h.eq, Nat.add_sub_cancel_left, List.take_left]
theorem Suf.run {s u w : List Nat} {i : Nat} (h : Suf s i (u ++ w)) (hu : u.all ld = true) (h0 : 0 < u.length) (hw : Dl w) :
  i < i + u.length /\ i + u.length <= s.length /\ (∀ j, i <= j -> j < i + u.length -> dB (s.getD j 0) = true \/ eM (s.getD j 0) = true) /\
   (i + u.length = s.length \/ (dB (s.getD (i + u.length) 0) = false /\ eM (s.getD (i + u.length) 0) = false /\ s.getD (i + u.length) 0 ≠ 46)) := by
 have hlen := h.len
 rw [List.length_append] at hlen
 refine ⟨by omega, by omega, fun j h1 h2 => ?_, ?_⟩
 ·have e : j = i + (j - i) := by omega
  rw [e, h.at_]
  have e2 : (u ++ w).getD (j - i) 0 = u[j - i]'zy := by
   rw [List.getD_eq_getElem?_getD, List.getElem?_append_left zy, List.getElem?_eq_getElem zy]; rfl
  rw [e2]
  have := List.all_eq_true.1 hu _ (List.getElem_mem (l := u) (n := j - i) zy)
  simpa [ld] using this
 ·cases w with
  | nil => left; simpa using hlen
  | cons c w =>
   right
   have e : s.getD (i + u.length) 0 = c := by have := h.adv.at_ 0; simpa using this
   rw [e]; exact hw
section
variable {s : List Nat} (hs : Bytes s) (hl : s.length <= 1048576)
include hs hl
theorem yL {i : Nat} {w : List Nat} (h : Suf s i w) (hw : wH w) : qT s i i := by
 refine Bl s hs hl i ?_
 cases w with
 | nil => left; simpa using h.len
 | cons c w =>
  right
  have e : s.getD i 0 = c := by have := h.at_ 0; simpa using this
  have := h.len
  rw [List.length_cons] at this
  exact ⟨by omega, by rw [e]; exact hw⟩
theorem Bk {i : Nat} {w : List Nat} (h : Suf s i (32 :: w)) (hw : wH w) : qT s i (i + 1) := by
 have hlen := h.len
 rw [List.length_cons] at hlen
 refine Bm s hs hl i zy (by have := h.at_ 0; simpa using this) ?_
 cases w with
 | nil => left; simpa using hlen
 | cons c w =>
  right
  have e : s.getD (i + 1) 0 = c := by have := h.tl.at_ 0; simpa using this
  rw [List.length_cons] at hlen
  exact ⟨by omega, by rw [e]; exact hw⟩
theorem sG {u w : List Nat} {i : Nat} (h : Suf s i (u ++ w)) (hu : u.all ld = true) (h0 : dB (u.getD 0 0) = true) (hw : Dl w) : ny s i (1, u, 0, ((i : Nat) : Int)) (i + u.length) := by
 have hp : 0 < u.length := by cases u with
  | nil => exact absurd h0 (by decide)
  | cons _ _ => simp
 obtain ⟨r1, r2, r3, r4⟩ := Suf.run h hu hp hw
 have := yu s hs hl i (i + u.length) r1 r2 r3 r4 (by
  have e := h.at_ 0
  rw [Nat.add_zero] at e
  rw [e]
  cases u with
  | nil => exact absurd h0 (by decide)
  | cons c u => exact h0)
 rw [h.take] at this
 exact this
theorem uN {u w : List Nat} {i : Nat} (h : Suf s i (u ++ w)) (hu : u.all ld = true) (h0 : eM (u.getD 0 0) = true) (hw : Dl w) {v : Int} (hp1 : Spec aA 122 [.str u] [] [] (eA (.tuple [.int .i64 v, .int .i64 ((0 : Nat) : Int)]))) : ny s i (2, u, v, ((i : Nat) : Int)) (i + u.length) := by
 have hp : 0 < u.length := by cases u with
  | nil => exact absurd h0 (by decide)
  | cons _ _ => simp
 obtain ⟨r1, r2, r3, r4⟩ := Suf.run h hu hp hw
 have := Al s hs hl i (i + u.length) r1 r2 r3 r4 (by
  have e := h.at_ 0
  rw [Nat.add_zero] at e
  rw [e]
  cases u with
  | nil => exact absurd h0 (by decide)
  | cons c u => exact h0) v (by rw [h.take]; exact hp1)
 rw [h.take] at this
 exact this
theorem sF {c : Nat} {w : List Nat} {i : Nat} (h : Suf s i (c :: w)) (hc : c ∈ ([40, 41, 91, 93, 44, 43, 45, 42, 47, 37] : List Nat)) : ny s i (5, [c], 0, ((i : Nat) : Int)) (i + 1) := by
 have hlen := h.len
 rw [List.length_cons] at hlen
 have e : s.getD i 0 = c := by have := h.at_ 0; simpa using this
 have := yr s hs hl i zy (by rw [e]; exact hc)
 have e2 : (s.drop i).take 1 = [c] := by rw [h.eq]; rfl
 rw [e2] at this
 exact this
end
def TokK (s : List Nat) (i : Nat) (L : List gi) : Prop := ∃ M, Toks s i M /\ M.map Ak = L
theorem TokK.cast {s : List Nat} {i j : Nat} {L : List gi} (g : TokK s i L) (e : i = j) : TokK s j L := by subst e; exact g
theorem TokK.step {s : List Nat} {i k j : Nat} {t : aY} {L : List gi} (h : i < s.length) (ht : ny s i t k) (hb : qT s k j) (g : TokK s j L) : TokK s i (Ak t :: L) := let ⟨M, h1, h2⟩ := g; ⟨t :: M, .step h ht hb h1, by rw [List.map_cons, h2]⟩
section
variable {s : List Nat} (hs : Bytes s) (hl : s.length <= 1048576)
include hs hl
theorem kr {c : Nat} {w : List Nat} {i : Nat} {L : List gi} (h : Suf s i (c :: w)) (hc : c ∈ ([40, 41, 91, 93, 44, 43, 45, 42, 47, 37] : List Nat)) (hn : wH w) (g : TokK s (i + 1) L) : TokK s i ((5, [c], 0) :: L) :=
 .step (by have := h.len; rw [List.length_cons] at this; omega) (sF hs hl h hc) (yL hs hl h.tl hn) g
theorem mq {c : Nat} {w : List Nat} {i : Nat} {L : List gi} (h : Suf s i (c :: 32 :: w)) (hc : c ∈ ([40, 41, 91, 93, 44, 43, 45, 42, 47, 37] : List Nat)) (hn : wH w) (g : TokK s (i + 1 + 1) L) : TokK s i ((5, [c], 0) :: L) :=
 .step (by have := h.len; rw [List.length_cons] at this; omega) (sF hs hl h hc) (Bk hs hl h.tl hn) g
theorem Cq (u : List Nat) {w : List Nat} {i : Nat} {L : List gi} (h : Suf s i (u ++ w)) (hu : u.all ld = true) (h0 : dB (u.getD 0 0) = true) (hw : Dl w) (hn : wH w) (g : TokK s (i + u.length) L) : TokK s i ((1, u, 0) :: L) :=
 .step (by have := h.len; rw [List.length_append] at this; have : 0 < u.length := by (cases u with | nil => exact absurd h0 (by decide) | cons _ _ => simp)
           omega) (sG hs hl h hu h0 hw) (yL hs hl h.adv hn) g
theorem BM (u : List Nat) {w : List Nat} {i : Nat} {L : List gi} (h : Suf s i (u ++ 32 :: w)) (hu : u.all ld = true) (h0 : dB (u.getD 0 0) = true) (hn : wH w) (g : TokK s (i + u.length + 1) L) : TokK s i ((1, u, 0) :: L) :=
 .step (by have := h.len; rw [List.length_append, List.length_cons] at this; omega) (sG hs hl h hu h0 ⟨by decide, by decide, by decide⟩) (Bk hs hl h.adv hn) g
theorem nX (u : List Nat) {w : List Nat} {i : Nat} {L : List gi} {v : Int} (h : Suf s i (u ++ w)) (hu : u.all ld = true) (h0 : eM (u.getD 0 0) = true) (hw : Dl w) (hn : wH w) (hp : Spec aA 122 [.str u] [] [] (eA (.tuple [.int .i64 v, .int .i64 ((0 : Nat) : Int)]))) (g : TokK s (i + u.length) L) : TokK s i ((2, u, v) :: L) :=
 .step (by have := h.len; rw [List.length_append] at this; have : 0 < u.length := by (cases u with | nil => exact absurd h0 (by decide) | cons _ _ => simp)
           omega) (uN hs hl h hu h0 hw hp) (yL hs hl h.adv hn) g
theorem ue (u : List Nat) {w : List Nat} {i : Nat} {L : List gi} {v : Int} (h : Suf s i (u ++ 32 :: w)) (hu : u.all ld = true) (h0 : eM (u.getD 0 0) = true) (hn : wH w) (hp : Spec aA 122 [.str u] [] [] (eA (.tuple [.int .i64 v, .int .i64 ((0 : Nat) : Int)]))) (g : TokK s (i + u.length + 1) L) : TokK s i ((2, u, v) :: L) :=
 .step (by have := h.len; rw [List.length_append, List.length_cons] at this; omega) (uN hs hl h hu h0 ⟨by decide, by decide, by decide⟩ hp) (Bk hs hl h.adv hn) g
end
theorem vx {s : List Nat} {i : Nat} (h : Suf s i []) : TokK s i [] := by
 have := h.len
 rw [List.length_nil, Nat.add_zero] at this
 subst this
 exact ⟨[], .done, rfl⟩
theorem wX (r : OpL) : ∃ c w, numS r = c :: w /\ nb c := by
 match r with
 | [] => exact ⟨49, [], rfl, by decide, by decide, by decide, by decide⟩
 | ((c, d), false) :: r => exact ⟨40, _, rfl, by decide, by decide, by decide, by decide⟩
 | ((c, d), true) :: r => exact ⟨45, _, rfl, by decide, by decide, by decide, by decide⟩
theorem tp (r : OpL) {w : List Nat} : wH (numS r ++ w) := by
 obtain ⟨c, v, e, h⟩ := wX r
 rw [e]
 exact h
theorem sb {c d : Nat} (h : qV c d) : c ∈ ([40, 41, 91, 93, 44, 43, 45, 42, 47, 37] : List Nat) /\ nb c := by
 rcases h with ⟨rfl, rfl⟩ | ⟨rfl, rfl⟩ | ⟨rfl, rfl⟩ | ⟨rfl, rfl⟩ | ⟨rfl, rfl⟩ <;> exact ⟨by decide, by decide, by decide, by decide, by decide⟩
theorem B2 {c d : Nat} (h : qV c d) : ([48 + d] : List Nat).all ld = true /\ eM (([48 + d] : List Nat).getD 0 0) = true /\ nb (48 + d) /\ Spec aA 122 [.str [48 + d]] [] [] (eA (.tuple [.int .i64 ((d * 1000000 : Nat) : Int), .int .i64 ((0 : Nat) : Int)])) := by
 rcases h with ⟨rfl, rfl⟩ | ⟨rfl, rfl⟩ | ⟨rfl, rfl⟩ | ⟨rfl, rfl⟩ | ⟨rfl, rfl⟩
 ·exact ⟨by decide, by decide, ⟨by decide, by decide, by decide, by decide⟩, DR⟩
 ·exact ⟨by decide, by decide, ⟨by decide, by decide, by decide, by decide⟩, DS⟩
 ·exact ⟨by decide, by decide, ⟨by decide, by decide, by decide, by decide⟩, DT⟩
 ·exact ⟨by decide, by decide, ⟨by decide, by decide, by decide, by decide⟩, DU⟩
 ·exact ⟨by decide, by decide, ⟨by decide, by decide, by decide, by decide⟩, DV⟩
theorem w7 {r : OpL} {c d : Nat} {w : List Nat} : 40 :: (numS r ++ [32, c, 32, 48 + d, 41]) ++ w = 40 :: (numS r ++ (32 :: c :: 32 :: (48 + d) :: 41 :: w)) := by simp
theorem sk {s : List Nat} {r : OpL} {c d i : Nat} {w : List Nat} (h : Suf s i (40 :: (numS r ++ [32, c, 32, 48 + d, 41]) ++ w)) : Suf s (i + 1) (numS r ++ (32 :: c :: 32 :: (48 + d) :: 41 :: w)) := by
 rw [w7] at h
 exact h.tl
section
variable {s : List Nat} (hs : Bytes s) (hl : s.length <= 1048576)
include hs hl
theorem qF {r : OpL} {c d i k : Nat} {w : List Nat} {L : List gi} (ho : qV c d) (h : Suf s i (40 :: (numS r ++ [32, c, 32, 48 + d, 41]) ++ w)) (hw : (w = [] /\ k = 0) \/ ∃ w', w = 32 :: w' /\ wH w' /\ k = 1) (g : TokK s (i + ((numS r).length + 6) + k) L)
  (ih : ∀ L', TokK s (i + 1 + (numS r).length + 1) L' -> TokK s (i + 1) (ed r ++ L')) : TokK s i ((5, [40], 0) :: (ed r ++ [(5, [c], 0), (2, [48 + d], ((d * 1000000 : Nat) : Int)), (5, [41], 0)]) ++ L) := by
 have h1 := sk h
 have h2 : Suf s (i + 1 + (numS r).length + 1) (c :: 32 :: ([48 + d] ++ 41 :: w)) := h1.adv.tl
 have h3 : Suf s (i + 1 + (numS r).length + 1 + 1 + 1) ([48 + d] ++ 41 :: w) := h2.tl.tl
 have h4 : Suf s (i + 1 + (numS r).length + 1 + 1 + 1 + 1) (41 :: w) := h3.adv
 obtain ⟨o1, o2⟩ := sb ho
 obtain ⟨d1, d2, d3, d4⟩ := B2 ho
 have hend : TokK s (i + 1 + (numS r).length + 1 + 1 + 1 + 1) ((5, [41], 0) :: L) := by
  rcases hw with ⟨rfl, rfl⟩ | ⟨w', rfl, hn, rfl⟩
  ·exact kr hs hl h4 (by decide) trivial (g.cast zy)
  ·exact mq hs hl h4 (by decide) hn (g.cast zy)
 have hall := ih ((5, [c], 0) :: (2, [48 + d], ((d * 1000000 : Nat) : Int)) :: (5, [41], 0) :: L) (mq hs hl h2 o1 d3 (nX hs hl [48 + d] h3 d1 d2 ⟨by decide, by decide, by decide⟩ ⟨by decide, by decide, by decide, by decide⟩ d4 hend))
 rw [w7] at h
 have := kr hs hl h (by decide) (tp r) hall
 simpa using this
theorem mB : ∀ (r : OpL) (i k : Nat) (w : List Nat) (L : List gi), OpsOK r -> Suf s i (numS r ++ w) -> ((w = [] /\ k = 0) \/ ∃ w', w = 32 :: w' /\ wH w' /\ k = 1) -> TokK s (i + (numS r).length + k) L -> TokK s i (ed r ++ L)
 | [], i, k, w, L, _, h, hw, g => by
  rcases hw with ⟨rfl, rfl⟩ | ⟨w', rfl, hn, rfl⟩
  ·exact nX hs hl [49] h (by decide) (by decide) trivial trivial CN g
  ·exact ue hs hl [49] h (by decide) (by decide) hn CN g
 | ((c, d), false) :: r, i, k, w, L, hr, h, hw, g => by
  have h' : Suf s i (40 :: (numS r ++ [32, c, 32, 48 + d, 41]) ++ w) := h
  have h1 := sk h'
  have e : (numS (((c, d), false) :: r)).length = (numS r).length + 6 := by simp [numS]
  exact qF hs hl (hr _ List.mem_cons_self) h' hw (by rw [e] at g; exact g) fun L' g' => mB r (i + 1) 1 _ L' (fun x hx => hr x (List.mem_cons_of_mem _ hx)) h1 (.inr ⟨_, rfl, (sb (hr _ List.mem_cons_self)).2, rfl⟩) g'
 | ((c, d), true) :: r, i, k, w, L, hr, h, hw, g => by
  have h0 : Suf s i (45 :: (40 :: (numS r ++ [32, c, 32, 48 + d, 41]) ++ w)) := h
  have h' := h0.tl
  have h1 := sk h'
  have e : (numS (((c, d), true) :: r)).length = 1 + ((numS r).length + 6) := by simp [numS]; omega
  exact kr hs hl h0 (by decide) ⟨by decide, by decide, by decide, by decide⟩ (qF hs hl (hr _ List.mem_cons_self) h' hw (by rw [e] at g; exact g.cast zy) fun L' g' => mB r (i + 1 + 1) 1 _ L' (fun x hx => hr x (List.mem_cons_of_mem _ hx)) h1 (.inr ⟨_, rfl, (sb (hr _ List.mem_cons_self)).2, rfl⟩) g')
end
theorem numS_len : ∀ {r : OpL}, (numS r).length <= 7 * r.length + 1
 | [] => Nat.le_refl _
 | ((c, d), false) :: r => by have := numS_len (r := r); simp [numS]; omega
 | ((c, d), true) :: r => by have := numS_len (r := r); simp [numS]; omega
theorem mA : ∀ {r : OpL}, (ed r).length <= 5 * r.length + 1
 | [] => Nat.le_refl _
 | ((c, d), false) :: r => by have := mA (r := r); simp [ed]; omega
 | ((c, d), true) :: r => by have := mA (r := r); simp [ed]; omega
theorem tn : ∀ {r : OpL}, OpsOK r -> Bytes (numS r)
 | [], _ => by unfold Bytes; decide
 | ((c, d), b) :: r, h => by
  have h1 := tn (r := r) fun x hx => h x (List.mem_cons_of_mem _ hx)
  have ho : qV c d := h _ List.mem_cons_self
  have h2 : Bytes [32, c, 32, 48 + d, 41] := by rcases ho with ⟨rfl, rfl⟩ | ⟨rfl, rfl⟩ | ⟨rfl, rfl⟩ | ⟨rfl, rfl⟩ | ⟨rfl, rfl⟩ <;> (unfold Bytes; decide)
  refine Bytes.append ?_ (Bytes.cons (by decide) (Bytes.append h1 h2))
  cases b <;> (unfold Bytes; decide)
theorem tk : ∀ {r : OpL}, OpsOK r -> ∀ x ∈ ed r, Bytes x.2.1 /\ x.2.1.length <= 1024
 | [], _, x, hx => by simp [ed] at hx; subst hx; exact ⟨by unfold Bytes; decide, by decide⟩
 | ((c, d), b) :: r, h, x, hx => by
  have ho : qV c d := h _ List.mem_cons_self
  have h2 : Bytes [c] /\ Bytes [48 + d] := by rcases ho with ⟨rfl, rfl⟩ | ⟨rfl, rfl⟩ | ⟨rfl, rfl⟩ | ⟨rfl, rfl⟩ | ⟨rfl, rfl⟩ <;> (unfold Bytes; decide)
  rcases List.mem_append.1 hx with hx | hx
  ·cases b with
   | false => simp at hx
   | true => simp at hx; subst hx; exact ⟨by unfold Bytes; decide, by simp⟩
  rcases List.mem_cons.1 hx with rfl | hx
  ·exact ⟨by unfold Bytes; decide, by simp⟩
  rcases List.mem_append.1 hx with hx | hx
  ·exact tk (fun x hx => h x (List.mem_cons_of_mem _ hx)) x hx
  ·simp only [List.mem_cons, List.not_mem_nil, or_false] at hx
   rcases hx with rfl | rfl | rfl
   ·exact ⟨h2.1, by simp⟩
   ·exact ⟨h2.2, by simp⟩
   ·exact ⟨by unfold Bytes; decide, by simp⟩
theorem num_parse {r : OpL} (hr : OpsOK r) (h8 : r.length <= 8) (hd : dpN r <= 12) : Spec aA 9 [.str (numS r)] [] [] (PX (QN r)) := by
 have hs := tn hr
 have hlen : (numS r).length <= 1024 := by have := numS_len (r := r); omega
 have hS : Suf (numS r) 0 (numS r ++ []) := ⟨Nat.zero_le _, by rw [List.append_nil]; rfl⟩
 obtain ⟨M, hT, hM⟩ := mB hs zy r 0 0 [] [] hr hS (.inl ⟨rfl, rfl⟩) (vx (by have := hS.adv; exact this))
 rw [List.append_nil] at hM
 have hMl : M.length = (ed r).length := by rw [<- hM, List.length_map]
 have hKl : (ed r).length <= 1024 := by have := mA (r := r); omega
 have hb0 : qT (numS r) 0 0 := yL hs zy hS (tp r)
 obtain ⟨pe, hpe⟩ : ∃ pe : Int, pe = (((numS r).length : Nat) : Int) := ⟨_, rfl⟩
 have hn : (M ++ [((6, [], 0, pe) : aY)]).length = M.length + 1 := by simp
 have hT6 : tg (M ++ [((6, [], 0, pe) : aY)]) M.length = (6, [], 0, pe) := by
  unfold tg
  rw [List.getD_eq_getElem?_getD, List.getElem?_append_right (Nat.le_refl _)]
  simp
 have hok : ir (M ++ [((6, [], 0, pe) : aY)]) := by
  intro x hx
  rcases List.mem_append.1 hx with hx | hx
  ·exact tk hr (Ak x) (by rw [<- hM]; exact List.mem_map_of_mem hx)
  ·simp at hx; subst hx; exact ⟨d9, Nat.zero_le _⟩
 have C : PC (M ++ [((6, [], 0, pe) : aY)]) M.length := ⟨hn, by omega, hok⟩
 have hsc := sf (numS r) hs hlen 0 hb0 M hT zy
 rw [<- hpe] at hsc
 have hK : HasK (M ++ [((6, [], 0, pe) : aY)]) 0 (ed r ++ []) := by rw [List.append_nil]; exact y5 hM
 refine zY _ hs (M ++ [((6, [], 0, pe) : aY)]) M.length hn zy hok hsc pe hT6 (QN r) fun tb ex X => ?_
 have h5 := mD (tb := tb) (ex := ex) (X := X) C r 0 0 [] hr h8 hK zy zy
 rw [Nat.zero_add, <- hMl] at h5
 exact Eh C (l := 5) zy (Nat.le_refl _) (Nat.le_refl 5) (fun j => .inr (by rw [hT6]; exact ⟨(by decide : (6 : Nat) ≠ 1), (by decide : (6 : Nat) ≠ 5)⟩)) h5
end Go.Proofs.YtndhhgbpcmfeiaaGreatDoor.Ev.P16
