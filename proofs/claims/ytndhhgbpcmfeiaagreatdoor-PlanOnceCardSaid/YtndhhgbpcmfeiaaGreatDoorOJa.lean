/- What Trim leaves of a plan, as plain law. -/
import Derived.Test.YtndhhgbpcmfeiaaGreatDoorOGg
import Derived.Test.YtndhhgbpcmfeiaaGreatDoorOHe
namespace Go.Proofs.YtndhhgbpcmfeiaaGreatDoor.Ev
open Go.RowKit
section
variable {L Y : List IE} {i j k n p q : Nat}
theorem wD (h : nb L j = true) : ∀ {k : Nat}, j < k -> ez L j < ez L k := by
 intro k hk
 induction k with
 | zero => omega
 | succ k ih =>
  rcases Nat.lt_or_ge j k with g | g
  ·have := ih g
   cases e : nb L k with
   | true => rw [uC e]; omega
   | false => rw [Fv e]; exact this
  ·obtain rfl : j = k := by omega
   rw [uC h]; omega
theorem wE : ∀ {n p : Nat}, p < ez L n -> ∃ j, j < n /\ nb L j = true /\ ez L j = p
 | 0, p, h => by unfold ez at h; simp at h
 | n + 1, p, h => by
  cases e : nb L n with
  | true =>
   rw [uC e] at h
   rcases Nat.lt_or_ge p (ez L n) with g | g
   ·obtain ⟨j, h1, h2⟩ := wE g; exact ⟨j, by omega, h2⟩
   ·exact ⟨n, by omega, e, by omega⟩
  | false =>
   rw [Fv e] at h
   obtain ⟨j, h1, h2⟩ := wE h; exact ⟨j, by omega, h2⟩
theorem FD (h : nb L j = true) : ∀ {n : Nat}, j < n -> (iX L n)[ez L j]? = some ((ei L j).d, gM L (ei L j).ars)
 | 0, hn => by omega
 | n + 1, hn => by
  rcases Nat.lt_or_ge j n with g | g
  ·have ih := FD h g
   cases e : nb L n with
   | true => rw [E7 e, List.getElem?_append_left (by rw [qr]; exact wD h g)]; exact ih
   | false => rw [Hx e]; exact ih
  ·obtain rfl : j = n := by omega
   rw [E7 h, List.getElem?_append_right (by rw [qr]; exact Nat.le_refl _), qr, Nat.sub_self]; rfl
structure TrY (L Y : List IE) : Prop where
 ok : d5 L = 0
 y : D2 Y = iX L L.length
 nk : ∀ x ∈ Y, x.nk = 0
theorem TrY.len (h : TrY L Y) : Y.length = ez L L.length := by rw [<- bP, h.y, qr]
theorem TrY.le (h : TrY L Y) : Y.length <= L.length := by rw [h.len]; exact td
theorem TrY.nbl (h : TrY L Y) : nb L (L.length - 1) = true := iT.2 .last
theorem TrY.pos (h : TrY L Y) : Y.length = ez L (L.length - 1) + 1 := by
 obtain ⟨h0, _, _⟩ := gH h.ok
 rw [h.len, <- uC h.nbl]; congr 1; omega
theorem TrY.at (h : TrY L Y) (hj : nb L j = true) (hl : j < L.length) : ez L j < Y.length /\ (ei Y (ez L j)).d = (ei L j).d /\ (ei Y (ez L j)).ars = gM L (ei L j).ars := by
 have hp := wD hj hl
 rw [<- h.len] at hp
 have h1 := FD hj hl
 rw [<- h.y, D2, List.getElem?_map, yg hp] at h1
 have h2 := Option.some.inj h1
 exact ⟨hp, congrArg Prod.fst h2, congrArg Prod.snd h2⟩
theorem TrY.from (h : TrY L Y) (hi : i < Y.length) : ∃ j, j < L.length /\ nb L j = true /\ ez L j = i := wE (by rw [<- h.len]; exact hi)
theorem TrY.low (h : TrY L Y) (hi : i < Y.length) (hq : q < (ei Y i).ars.length) : 0 <= ai (ei Y i).ars q /\ ai (ei Y i).ars q < i := by
 obtain ⟨_, _, hok⟩ := gH h.ok
 obtain ⟨j, h1, h2, rfl⟩ := h.from hi
 have hm := i7 hq
 rw [(h.at h2 h1).2.2] at hm ⊢
 obtain ⟨a, ha, e⟩ := List.mem_map.1 hm
 rw [<- e]
 have hr := gD (hok j h1) ha
 have := wD (iT.2 (.arg (iT.1 h2) h1 ha)) (k := j) zy
 omega
theorem TrY.okY (h : TrY L Y) (hi : i < Y.length) : pX Y i = true := by
 unfold pX
 rw [Bool.and_eq_true, decide_eq_true_eq, Bool.not_eq_true']
 refine ⟨h.nk _ (jd hi), vr fun q hq => ?_⟩
 have := h.low hi hq
 unfold qB
 rw [Bool.or_eq_false_iff, decide_eq_false_iff_not, decide_eq_false_iff_not]
 omega
theorem TrY.chk (h : TrY L Y) : d5 Y = 0 := by
 obtain ⟨h0, h1, hok⟩ := gH h.ok
 have := h.le
 have := h.pos
 exact A8 zy zy fun i hi => h.okY hi
theorem TrY.used (h : TrY L Y) (hj : j + 1 < Y.length) : ∃ i q, i < Y.length /\ q < (ei Y i).ars.length /\ (ai (ei Y i).ars q).toNat = j := by
 obtain ⟨_, _, hok⟩ := gH h.ok
 obtain ⟨k, h1, h2, rfl⟩ := h.from (i := j) zy
 have hp := h.pos
 have hk := iT.1 h2
 generalize he : k = k' at hk
 cases hk with
 | last => subst he; omega
 | arg g1 g2 g3 =>
  rename_i i a
  obtain ⟨y1, y2, y3⟩ := h.at (iT.2 g1) g2
  have hm : ((ez L a.toNat : Nat) : Int) ∈ (ei Y (ez L i)).ars := by rw [y3]; exact List.mem_map.2 ⟨a, g3, rfl⟩
  obtain ⟨q, hq⟩ := List.getElem?_of_mem hm
  have hl := (List.getElem?_eq_some_iff.1 hq).1
  rw [jo hl] at hq
  refine ⟨ez L i, q, y1, hl, ?_⟩
  rw [Option.some.inj hq]; rfl
theorem TrY.tree (h : TrY L Y) : ∀ (j : Nat), nb L j = true -> j < L.length -> iC Y (ez L j) = iC L j /\ yQ Y (ez L j) = yQ L j := by
 obtain ⟨_, _, hok⟩ := gH h.ok
 intro j
 induction j using Nat.strongRecOn with
 | _ j ih =>
  intro hj hl
  obtain ⟨y1, y2, y3⟩ := h.at hj hl
  have hm : ∀ a ∈ (ei L j).ars, iC Y (ez L a.toNat) = iC L a.toNat /\ yQ Y (ez L a.toNat) = yQ L a.toNat := fun a ha => by
   have := gD (hok j hl) ha
   exact ih a.toNat zy (iT.2 (.arg (iT.1 hj) hl ha)) zy
  constructor
  ·rw [uT (fun i hi => h.okY hi) y1, uT hok hl, y2, y3, gM, List.map_map]
   congr 1
   exact List.map_congr_left fun a ha => (hm a ha).1
  ·rw [Dh (fun i hi => h.okY hi) y1, Dh hok hl, y3, gM, List.foldl_map]
   exact wL.fold_congr fun n a ha => by
    show min 4097 (n + yQ Y (ez L a.toNat)) = _
    rw [(hm a ha).2]
theorem TrY.last (h : TrY L Y) : iC Y (Y.length - 1) = iC L (L.length - 1) /\ yQ Y (Y.length - 1) = yQ L (L.length - 1) := by
 obtain ⟨h0, _, _⟩ := gH h.ok
 have := h.tree (L.length - 1) h.nbl zy
 have hp := h.pos
 rw [show Y.length - 1 = ez L (L.length - 1) by omega]
 exact this
theorem GN {e e' : Nat} {t t' : TD} (h : TrY L Y) (h1 : Fg L e t) (h2 : Fg Y e' t') : e = e' /\ t = t' := by
 obtain ⟨l1, l2⟩ := h.last
 have hc := h.chk
 have hk := h.ok
 rcases h1 with ⟨g, _⟩ | ⟨_, g1, rfl, rfl⟩ | ⟨_, g1, rfl, rfl⟩
 ·exact absurd hk g
 ·rcases h2 with ⟨g, _⟩ | ⟨_, k1, rfl, rfl⟩ | ⟨_, k1, rfl, rfl⟩
  ·exact absurd hc g
  ·exact ⟨rfl, rfl⟩
  ·omega
 ·rcases h2 with ⟨g, _⟩ | ⟨_, k1, rfl, rfl⟩ | ⟨_, k1, rfl, rfl⟩
  ·exact absurd hc g
  ·omega
  ·exact ⟨rfl, l1.symm⟩
end
open Classical in
noncomputable def Ia (Y : List IE) (i q j : Nat) : Bool := decide (∃ i' q', (i' < i \/ (i' = i /\ q' < q)) /\ i' < Y.length /\ q' < (ei Y i').ars.length /\ (ai (ei Y i').ars q').toNat = j)
section
variable {L Y : List IE} {i j q : Nat}
theorem Hz : Ia Y i q j = true ↔ ∃ i' q', (i' < i \/ (i' = i /\ q' < q)) /\ i' < Y.length /\ q' < (ei Y i').ars.length /\ (ai (ei Y i').ars q').toNat = j := by unfold Ia; simp only [decide_eq_true_eq]
theorem HW (h : TrY L Y) (hj : j + 1 < Y.length) : Ia Y Y.length 0 j = true := by
 obtain ⟨i, q, h1, h2, h3⟩ := h.used hj
 exact Hz.2 ⟨i, q, .inl h1, h1, h2, h3⟩
end
abbrev PI := ND × List Int
def pd (L : List PI) (i : Nat) : PI := L.getD i (ND.zero, [])
section
variable {L P Q : List PI} {T A : List Int} {i j k : Nat} {x : PI} {c : Int}
theorem nY (h : i < L.length) : L[i]? = some (pd L i) := by
 unfold pd
 rw [List.getD_eq_getElem?_getD, List.getElem?_eq_getElem h]; rfl
theorem CO (h : i < L.length) : pd L i ∈ L := List.mem_of_getElem? (nY h)
theorem nZ (h : L[i]? = some x) : pd L i = x := by
 unfold pd
 rw [List.getD_eq_getElem?_getD, h]; rfl
theorem nA (h : i < P.length) : pd (P ++ Q) i = pd P i := nZ (by rw [List.getElem?_append_left h]; exact nY h)
theorem pZ : pd (P ++ [x]) P.length = x := nZ (by rw [List.getElem?_append_right (Nat.le_refl _), Nat.sub_self]; rfl)
theorem qR (h : A[i]? = some c) : ai A i = c := by
 unfold ai
 rw [List.getD_eq_getElem?_getD, h]; rfl
theorem AJ (h : i < T.length) : ai (T ++ A) i = ai T i := qR (by rw [List.getElem?_append_left h]; exact jo h)
theorem FL : ai (T ++ [c]) T.length = c := qR (by rw [List.getElem?_append_right (Nat.le_refl _), Nat.sub_self]; rfl)
theorem Gc {U : List Int} (h : ∀ a ∈ A, 0 <= a /\ a < ((T.length : Nat) : Int)) : ll (T ++ U) A = ll T A := by
 unfold ll
 refine List.map_congr_left fun a ha => ?_
 have := h a ha
 rw [AJ zy]
theorem me (L : List IE) (i : Nat) : ((ei L i).d, (ei L i).ars) = pd (D2 L) i := by
 unfold ei pd D2
 rw [List.getD_eq_getElem?_getD, List.getD_eq_getElem?_getD, List.getElem?_map]
 cases L[i]? <;> rfl
theorem tP {L : List IE} {i : Nat} : (ei L i).d = (pd (D2 L) i).1 := congrArg Prod.fst (me L i)
theorem Ee {L : List IE} {i : Nat} : (ei L i).ars = (pd (D2 L) i).2 := congrArg Prod.snd (me L i)
end
def OKP (L : List PI) : Prop := ∀ i, i < L.length -> ∀ a ∈ (pd L i).2, 0 <= a /\ a < ((i : Nat) : Int)
theorem Gq {L : List IE} (h : d5 L = 0) : OKP (D2 L) := fun i hi a ha => by
 obtain ⟨_, _, hok⟩ := gH h
 rw [bP] at hi
 rw [<- Ee] at ha
 exact gD (hok i hi) ha
theorem sm {L : List IE} (h : OKP (D2 L)) (hn : ∀ x ∈ L, x.nk = 0) (h0 : 0 < L.length) (h1 : L.length <= 1024) : d5 L = 0 :=
 A8 zy zy fun i hi => by
  unfold pX
  rw [Bool.and_eq_true, decide_eq_true_eq, Bool.not_eq_true']
  refine ⟨hn _ (jd hi), vr fun q hq => ?_⟩
  have := h i (by rw [bP]; exact hi) (ai (ei L i).ars q) (by rw [<- Ee]; exact i7 hq)
  unfold qB
  rw [Bool.or_eq_false_iff, decide_eq_false_iff_not, decide_eq_false_iff_not]
  omega
theorem OKP.nil : OKP [] := fun i hi => absurd hi (Nat.not_lt_zero _)
theorem OKP.snoc {L : List PI} {x : PI} (h : OKP L) (hx : ∀ a ∈ x.2, 0 <= a /\ a < ((L.length : Nat) : Int)) : OKP (L ++ [x]) := fun i hi a ha => by
 rw [List.length_append, List.length_cons, List.length_nil] at hi
 rcases Nat.lt_or_ge i L.length with g | g
 ·rw [nA g] at ha; exact h i g a ha
 ·obtain rfl : i = L.length := by omega
  rw [pZ] at ha; exact hx a ha
theorem OKP.left {P Q : List PI} (h : OKP (P ++ Q)) : OKP P := fun i hi a ha => h i (by rw [List.length_append]; omega) a (by rw [nA hi]; exact ha)
def HM (P : List PI) : Nat -> Nat -> TD
 | 0, _ => vd
 | k + 1, i => .node (pd P i).1 ((pd P i).2.map fun a => HM P k a.toNat)
def qL (P : List PI) (i : Nat) : TD := HM P (i + 1) i
theorem Do {L : List IE} : ∀ (k i : Nat), yU L k i = HM (D2 L) k i
 | 0, _ => rfl
 | k + 1, i => by
  show TD.node _ _ = TD.node _ _
  rw [tP, Ee]
  congr 1
  exact List.map_congr_left fun a _ => Do k a.toNat
theorem Dp {L : List IE} {i : Nat} : iC L i = qL (D2 L) i := Do _ _
section
variable {P Q : List PI} {i j : Nat}
theorem GE (hok : OKP P) : ∀ (k i : Nat), i < k -> i < P.length -> HM P k i = qL P i := by
 intro k
 induction k using Nat.strongRecOn with
 | _ k ih =>
  intro i hk hi
  cases k with
  | zero => omega
  | succ k =>
   unfold qL
   show TD.node _ _ = TD.node _ _
   congr 1
   refine List.map_congr_left fun a ha => ?_
   obtain ⟨h1, h2⟩ := hok i hi a ha
   rcases Nat.lt_or_ge i k with g | g
   ·rw [ih k zy a.toNat zy zy, ih i zy a.toNat zy zy]
   ·obtain rfl : k = i := by omega
    rfl
theorem lJ (hok : OKP P) (hi : i < P.length) : qL P i = .node (pd P i).1 ((pd P i).2.map fun a => qL P a.toNat) := by
 unfold qL
 show TD.node _ _ = TD.node _ _
 congr 1
 refine List.map_congr_left fun a ha => ?_
 obtain ⟨h1, h2⟩ := hok i hi a ha
 exact GE hok i a.toNat zy zy
theorem tn (hok : OKP (P ++ Q)) : ∀ i, i < P.length -> qL (P ++ Q) i = qL P i := by
 intro i
 induction i using Nat.strongRecOn with
 | _ i ih =>
  intro hi
  rw [lJ hok (by rw [List.length_append]; omega), lJ hok.left hi, nA hi]
  congr 1
  refine List.map_congr_left fun a ha => ?_
  have := hok.left i hi a ha
  exact ih a.toNat zy zy
end
def HD (P : List PI) : Prop := ∀ j, j < P.length -> mP (qL P j) <= j + 1
mutual
theorem nv : ∀ (t : TD) (P : List PI), OKP P -> HD P -> OKP (fI t P) /\ HD (fI t P) /\ (∃ Q, fI t P = P ++ Q) /\ qL (fI t P) ((fI t P).length - 1) = t
 | .node d ks, P, h, hz => by
  obtain ⟨g1, g2, ⟨Q, g3⟩, B, g4, g5, g6⟩ := rh ks P [] h hz
  have hl := fT (t := .node d ks) (L := P)
  rw [fI] at hl ⊢
  rw [List.nil_append] at g4
  have h1 : OKP ((cv ks P []).1 ++ [(d, (cv ks P []).2)]) := g1.snoc (by rw [g4]; exact g5)
  have h2 : qL ((cv ks P []).1 ++ [(d, (cv ks P []).2)]) (cv ks P []).1.length = .node d ks := by
   rw [lJ h1 (by simp), pZ]
   have e : B.map (fun a => qL ((cv ks P []).1 ++ [(d, (cv ks P []).2)]) a.toNat) = ks := (List.map_congr_left fun a ha => by
    have := g5 a ha
    exact tn h1 _ zy).trans g6
   show TD.node d ((cv ks P []).2.map _) = _
   rw [g4] at e ⊢
   rw [e]
  refine ⟨h1, fun j hj => ?_, ⟨Q ++ [(d, (cv ks P []).2)], by rw [g3, List.append_assoc]⟩, by rw [List.length_append, List.length_cons, List.length_nil, Nat.zero_add, Nat.add_sub_cancel]; exact h2⟩
  rw [List.length_append, List.length_cons, List.length_nil] at hj hl
  rcases Nat.lt_or_ge j (cv ks P []).1.length with q | q
  ·rw [tn h1 j q]; exact g2 j q
  ·obtain rfl : j = (cv ks P []).1.length := by omega
   rw [h2]; omega
theorem rh : ∀ (ks : List TD) (P : List PI) (A : List Int), OKP P -> HD P -> OKP (cv ks P A).1 /\ HD (cv ks P A).1 /\ (∃ Q, (cv ks P A).1 = P ++ Q) /\
  ∃ B, (cv ks P A).2 = A ++ B /\ (∀ b ∈ B, 0 <= b /\ b < (((cv ks P A).1.length : Nat) : Int)) /\ B.map (fun a => qL (cv ks P A).1 a.toNat) = ks
 | [], P, A, h, hz => by rw [cv]; exact ⟨h, hz, ⟨[], by simp⟩, [], by simp, fun b hb => by simp at hb, rfl⟩
 | k :: ks, P, A, h, hz => by
  obtain ⟨g1, g2, ⟨Q, g3⟩, g4⟩ := nv k P h hz
  obtain ⟨k1, k2, ⟨Q', k3⟩, B, k4, k5, k6⟩ := rh ks (fI k P) (A ++ [(((fI k P).length - 1 : Nat) : Int)]) g1 g2
  have hp := mL (t := k)
  have hl := fT (t := k) (L := P)
  have hl2 := mA ks (fI k P) (A ++ [(((fI k P).length - 1 : Nat) : Int)])
  rw [cv]
  refine ⟨k1, k2, ⟨Q ++ Q', by rw [k3, g3, List.append_assoc]⟩, (((fI k P).length - 1 : Nat) : Int) :: B, by rw [k4, List.append_assoc]; rfl, fun b hb => ?_, ?_⟩
  ·rcases List.mem_cons.1 hb with rfl | hb
   ·omega
   ·exact k5 b hb
  ·rw [List.map_cons, k6]
   congr 1
   rw [Int.toNat_natCast]
   generalize (cv ks (fI k P) (A ++ [(((fI k P).length - 1 : Nat) : Int)])).1 = Z at *
   subst k3
   rw [tn k1 _ zy]
   exact g4
end
def kE (last : Bool) (O : List PI) (y : PI) : Nat := if last = true then O.length else O.idxOf y
def rC (T : List Int) (x : PI) : PI := (x.1, ll T x.2)
def GR (k : Nat) (O : List PI) (y : PI) : List PI := if k < O.length then O else O ++ [y]
def EX (n : Nat) (x : PI) (s : List PI × List Int) : List PI × List Int :=
 (GR (kE (decide (s.2.length + 1 = n)) s.1 (rC s.2 x)) s.1 (rC s.2 x), s.2 ++ [((kE (decide (s.2.length + 1 = n)) s.1 (rC s.2 x) : Nat) : Int)])
def eO (L : List PI) : Nat -> List PI × List Int
 | 0 => ([], [])
 | i + 1 => EX L.length (pd L i) (eO L i)
def cr (L : List PI) : List PI := (eO L L.length).1
theorem EU {b : Bool} {O : List PI} {y : PI} : kE b O y <= O.length := by
 unfold kE
 split
 ·exact Nat.le_refl _
 ·exact List.idxOf_le_length
theorem EW {b : Bool} {O : List PI} {y : PI} (h : kE b O y < O.length) : pd O (kE b O y) = y := by
 unfold kE at h ⊢
 split at h
 ·omega
 ·rename_i hb
  rw [if_neg hb]
  exact nZ (by rw [List.getElem?_eq_getElem h, List.getElem_idxOf h])
theorem EV {O : List PI} {y : PI} (h : ¬ kE false O y < O.length) : y ∉ O := fun hy => h (by
 unfold kE
 rw [if_neg (by decide)]
 exact List.idxOf_lt_length_of_mem hy)
structure ShI (L : List PI) (i : Nat) (O : List PI) (T : List Int) : Prop where
 t : T.length = i
 le : O.length <= i
 lt : ∀ j, j < i -> 0 <= ai T j /\ ai T j < ((O.length : Nat) : Int)
 sa : ∀ j, j < i -> pd O (ai T j).toNat = rC T (pd L j)
 ok : OKP O
 nd : i < L.length -> O.Nodup
 on : ∀ k, k < O.length -> ∃ j, j < i /\ ai T j = ((k : Nat) : Int)
 la : i = L.length -> 0 < i -> ai T (i - 1) = ((O.length : Nat) : Int) - 1
theorem ShI.zero {L : List PI} : ShI L 0 [] [] := ⟨rfl, Nat.le_refl _, fun j h => absurd h (Nat.not_lt_zero _), fun j h => absurd h (Nat.not_lt_zero _), OKP.nil, fun _ => List.nodup_nil, fun k h => absurd h (Nat.not_lt_zero _), fun _ h => absurd h (Nat.lt_irrefl _)⟩
theorem ShI.step {L O : List PI} {T : List Int} {i : Nat} (hL : OKP L) (hi : i < L.length) (h : ShI L i O T) : ShI L (i + 1) (EX L.length (pd L i) (O, T)).1 (EX L.length (pd L i) (O, T)).2 := by
 unfold EX
 simp only
 have ht := h.t
 generalize hb : decide (T.length + 1 = L.length) = b
 generalize hy : rC T (pd L i) = y
 generalize hk : kE b O y = k
 have hkl : k <= O.length := by rw [<- hk]; exact EU
 have hA := hL i hi
 have hya : ∀ a ∈ y.2, 0 <= a /\ a < ((O.length : Nat) : Int) := fun a ha => by
  rw [<- hy] at ha
  obtain ⟨c, hc, rfl⟩ := List.mem_map.1 ha
  have := hA c hc
  exact h.lt c.toNat zy
 have hT : ∀ j, j < i -> ai (T ++ [((k : Nat) : Int)]) j = ai T j := fun j hj => AJ zy
 have hTi : ai (T ++ [((k : Nat) : Int)]) i = k := by rw [<- ht]; exact FL
 have hshY : ∀ j, j <= i -> j < L.length -> rC (T ++ [((k : Nat) : Int)]) (pd L j) = rC T (pd L j) := fun j hj hjl => by
  unfold rC
  rw [Gc fun a ha => by have := hL j hjl a ha; omega]
 unfold GR
 by_cases hkO : k < O.length
 ·rw [if_pos hkO]
  have hpk : pd O k = y := by rw [<- hk]; exact EW (by rw [hk]; exact hkO)
  refine ⟨by simp [ht], by have := h.le; omega, fun j hj => ?_, fun j hj => ?_, h.ok, fun _ => h.nd hi, fun q hq => ?_, fun hl _ => ?_⟩
  ·rcases Nat.lt_or_ge j i with g | g
   ·rw [hT j g]; exact h.lt j g
   ·obtain rfl : j = i := by omega
    rw [hTi]; omega
  ·rcases Nat.lt_or_ge j i with g | g
   ·rw [hT j g, hshY j zy zy]; exact h.sa j g
   ·obtain rfl : j = i := by omega
    rw [hTi, hshY j zy zy, hy]; exact hpk
  ·obtain ⟨j, h1, h2⟩ := h.on q hq
   exact ⟨j, by omega, by rw [hT j h1]; exact h2⟩
  ·exfalso
   have : b = true := by rw [<- hb]; exact decide_eq_true zy
   rw [<- hk, this] at hkO
   unfold kE at hkO
   rw [if_pos rfl] at hkO
   omega
 ·rw [if_neg hkO]
  obtain rfl : k = O.length := by omega
  refine ⟨by simp [ht], by have := h.le; simp; omega, fun j hj => ?_, fun j hj => ?_, h.ok.snoc hya, fun hl => ?_, fun q hq => ?_, fun hl _ => ?_⟩
  ·rw [List.length_append, List.length_cons, List.length_nil]
   rcases Nat.lt_or_ge j i with g | g
   ·rw [hT j g]; have := h.lt j g; omega
   ·obtain rfl : j = i := by omega
    rw [hTi]; omega
  ·rcases Nat.lt_or_ge j i with g | g
   ·rw [hT j g, hshY j zy zy, nA (by have := h.lt j g; omega)]; exact h.sa j g
   ·obtain rfl : j = i := by omega
    rw [hTi, hshY j zy zy, hy]; exact pZ
  ·have hbf : b = false := by rw [<- hb]; exact decide_eq_false zy
   rw [hbf] at hk
   have hn := EV (by rw [hk]; exact hkO)
   exact List.nodup_append.2 ⟨h.nd hi, by simp, fun u hu v hv e => by rw [List.mem_singleton.1 hv] at e; exact hn (e ▸ hu)⟩
  ·rw [List.length_append, List.length_cons, List.length_nil] at hq
   rcases Nat.lt_or_ge q O.length with g | g
   ·obtain ⟨j, h1, h2⟩ := h.on q g
    exact ⟨j, by omega, by rw [hT j h1]; exact h2⟩
   ·exact ⟨i, by omega, by rw [hTi]; omega⟩
  ·rw [Nat.add_sub_cancel, hTi, List.length_append, List.length_cons, List.length_nil]; omega
theorem ShI.all {L : List PI} (hL : OKP L) : ∀ {i : Nat}, i <= L.length -> ShI L i (eO L i).1 (eO L i).2
 | 0, _ => ShI.zero
 | i + 1, hi => ShI.step hL zy (ShI.all hL (i := i) zy)
section
variable {L : List PI}
theorem C6 (hL : OKP L) : (cr L).length <= L.length := (ShI.all hL (Nat.le_refl _)).le
theorem mI (hL : OKP L) : OKP (cr L) := (ShI.all hL (Nat.le_refl _)).ok
theorem qg (hL : OKP L) : ∀ j, j < L.length -> qL (cr L) (ai (eO L L.length).2 j).toNat = qL L j := by
 have h := ShI.all hL (Nat.le_refl L.length)
 unfold cr
 intro j
 induction j using Nat.strongRecOn with
 | _ j ih =>
  intro hj
  have hl := h.lt j hj
  rw [lJ h.ok zy, lJ hL hj, h.sa j hj]
  unfold rC ll
  rw [List.map_map]
  congr 1
  refine List.map_congr_left fun a ha => ?_
  have := hL j hj a ha
  exact ih a.toNat zy zy
theorem rD (hL : OKP L) (h0 : 0 < L.length) : 0 < (cr L).length := by
 have := (ShI.all hL (Nat.le_refl L.length)).lt 0 h0
 unfold cr
 omega
theorem qe (hL : OKP L) (h0 : 0 < L.length) : qL (cr L) ((cr L).length - 1) = qL L (L.length - 1) := by
 have h1 := qg hL (L.length - 1) zy
 have h2 := (ShI.all hL (Nat.le_refl L.length)).la rfl h0
 have h3 := rD hL h0
 rw [h2] at h1
 unfold cr at h3 ⊢
 rw [<- h1]
 unfold cr
 congr 1
 omega
theorem uL {t : TD} (e : L = fI t []) : (cr L).Nodup := by
 obtain ⟨hL, hS, _, hT⟩ := nv t [] OKP.nil fun j hj => absurd hj (Nat.not_lt_zero _)
 rw [<- e] at hL hS hT
 have hp := mL (t := t)
 have hlen : L.length = mP t := by rw [e, fT]; simp
 have h := ShI.all hL (Nat.le_refl L.length)
 have h' := ShI.all hL (show L.length - 1 <= L.length by omega)
 have hstep : eO L L.length = EX L.length (pd L (L.length - 1)) (eO L (L.length - 1)) := by
  have : L.length = (L.length - 1) + 1 := by omega
  rw [this]; rw [eO]; simp only [<- this]
 have ht := h'.t
 have hb : decide ((eO L (L.length - 1)).2.length + 1 = L.length) = true := decide_eq_true zy
 have hsh : cr L = (eO L (L.length - 1)).1 ++ [rC (eO L (L.length - 1)).2 (pd L (L.length - 1))] := by
  unfold cr
  rw [hstep]
  unfold EX GR kE
  simp only [hb, if_true, Nat.lt_irrefl, if_false]
 have hnd := h'.nd zy
 rw [hsh]
 refine List.nodup_append.2 ⟨hnd, by simp, fun u hu v hv ee => ?_⟩
 rw [List.mem_singleton.1 hv] at ee
 obtain ⟨k, hk⟩ := List.getElem?_of_mem hu
 have hkl := (List.getElem?_eq_some_iff.1 hk).1
 have hlS : (cr L).length = (eO L (L.length - 1)).1.length + 1 := by rw [hsh]; simp
 obtain ⟨j, hj1, hj2⟩ := h.on k (by show k < (cr L).length; omega)
 have hla := h.la rfl zy
 have hla' : ai (eO L L.length).2 (L.length - 1) = (((eO L (L.length - 1)).1.length : Nat) : Int) := by
  rw [hla]
  show (((cr L).length : Nat) : Int) - 1 = _
  omega
 have hjn : j ≠ L.length - 1 := fun q => by rw [q, hla'] at hj2; omega
 have t1 := qg hL j hj1
 have t2 := qe hL zy
 rw [hj2, Int.toNat_natCast] at t1
 have e1 : pd (cr L) k = u := by rw [hsh, nA hkl]; exact nZ hk
 have e2 : pd (cr L) ((cr L).length - 1) = u := by
  rw [hlS, Nat.add_sub_cancel, hsh, pZ]; exact ee.symm
 have e3 : qL (cr L) k = qL (cr L) ((cr L).length - 1) := by
  rw [lJ (mI hL) zy, lJ (mI hL) zy, e1, e2]
 rw [t1, t2, hT] at e3
 have := hS j hj1
 rw [e3] at this
 omega
end
theorem uJ {L : List PI} (hL : OKP L) (hn : L.Nodup) : cr L = L := by
 have key : ∀ i, i <= L.length -> eO L i = (L.take i, (List.range i).map fun j => ((j : Nat) : Int)) := by
  intro i
  induction i with
  | zero => intro _; rfl
  | succ i ih =>
   intro hi
   rw [eO, ih zy]
   have hl : ((List.range i).map fun j => ((j : Nat) : Int)).length = i := by simp
   have hy : rC ((List.range i).map fun j => ((j : Nat) : Int)) (pd L i) = pd L i := by
    unfold rC ll
    have : (pd L i).2.map (fun a => ai ((List.range i).map fun j => ((j : Nat) : Int)) a.toNat) = (pd L i).2 := by
     rw [List.map_congr_left (g := id) fun a ha => by
      have := hL i zy a ha
      rw [AK zy]
      show _ = a
      omega]
     exact List.map_id _
    rw [this]
   have hk : ∀ b, kE b (L.take i) (pd L i) = (L.take i).length := fun b => by
    unfold kE
    split
    ·rfl
    ·refine List.idxOf_eq_length fun hm => ?_
     have hd := List.take_append_drop i L
     rw [<- hd] at hn
     have := (List.nodup_append.1 hn).2.2 _ hm (pd L i) (by
      rw [List.mem_iff_getElem?]
      exact ⟨0, by rw [List.getElem?_drop, Nat.add_zero]; exact nY zy⟩)
     exact this rfl
   unfold EX
   simp only [hy, hk, GR, Nat.lt_irrefl, if_false]
   rw [List.take_add_one, nY zy, List.range_succ, List.map_append, List.length_take]
   simp only [Option.toList, List.map_cons, List.map_nil]
   rw [show min i L.length = i by omega]
 unfold cr
 rw [key _ (Nat.le_refl _)]
 exact List.take_length
end Go.Proofs.YtndhhgbpcmfeiaaGreatDoor.Ev
