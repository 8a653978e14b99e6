/- What Trim leaves of a plan, as plain law. -/
import Derived.Test.YtndhhgbpcmfeiaaGreatDoorPGg
import Derived.Test.YtndhhgbpcmfeiaaGreatDoorPHh
import Derived.Test.YtndhhgbpcmfeiaaGreatDoorPGa
namespace Go.Proofs.YtndhhgbpcmfeiaaGreatDoor.Ev
open Go.RowKit
section
variable {L Y : List IE} {i j k n p q : Nat}
end
section
variable {L Y : List IE} {i j q : Nat}
end
abbrev PI := ND × List Int
def pd (L : List PI) (i : Nat) : PI := L.getD i (ND.zero, [])
section
variable {L P Q : List PI} {T A : List Int} {i j k : Nat} {x : PI} {c : Int}
theorem qM (h : i < L.length) : L[i]? = some (pd L i) := by
 unfold pd
 rw [List.getD_eq_getElem?_getD, List.getElem?_eq_getElem h]; rfl
theorem yj (h : i < L.length) : pd L i ∈ L := List.mem_of_getElem? (qM h)
theorem mT (h : L[i]? = some x) : pd L i = x := by
 unfold pd
 rw [List.getD_eq_getElem?_getD, h]; rfl
theorem pn (h : i < P.length) : pd (P ++ Q) i = pd P i := mT (by rw [List.getElem?_append_left h]; exact qM h)
theorem sj : pd (P ++ [x]) P.length = x := mT (by rw [List.getElem?_append_right (Nat.le_refl _), Nat.sub_self]; rfl)
theorem nD (h : A[i]? = some c) : ai A i = c := by
 unfold ai
 rw [List.getD_eq_getElem?_getD, h]; rfl
theorem uY (h : i < T.length) : ai (T ++ A) i = ai T i := nD (by rw [List.getElem?_append_left h]; exact iz h)
theorem Bf : ai (T ++ [c]) T.length = c := nD (by rw [List.getElem?_append_right (Nat.le_refl _), Nat.sub_self]; rfl)
theorem BK {U : List Int} (h : ∀ a ∈ A, 0 <= a /\ a < ((T.length : Nat) : Int)) : ez (T ++ U) A = ez T A := by
 unfold ez
 refine List.map_congr_left fun a ha => ?_
 have := h a ha
 rw [uY zy]
theorem jx (L : List IE) (i : Nat) : ((ei L i).d, (ei L i).ars) = pd (D2 L) i := by
 unfold ei pd D2
 rw [List.getD_eq_getElem?_getD, List.getD_eq_getElem?_getD, List.getElem?_map]
 cases L[i]? <;> rfl
theorem lz {L : List IE} {i : Nat} : (ei L i).d = (pd (D2 L) i).1 := congrArg Prod.fst (jx L i)
theorem oP {L : List IE} {i : Nat} : (ei L i).ars = (pd (D2 L) i).2 := congrArg Prod.snd (jx L i)
end
def OKP (L : List PI) : Prop := ∀ i, i < L.length -> ∀ a ∈ (pd L i).2, 0 <= a /\ a < ((i : Nat) : Int)
theorem yf {L : List IE} (h : dE L = 0) : OKP (D2 L) := fun i hi a ha => by
 obtain ⟨_, _, hok⟩ := iH h
 rw [aK] at hi
 rw [<- oP] at ha
 exact eU (hok i hi) ha
theorem OKP.nil : OKP [] := fun i hi => absurd hi (Nat.not_lt_zero _)
theorem OKP.snoc {L : List PI} {x : PI} (h : OKP L) (hx : ∀ a ∈ x.2, 0 <= a /\ a < ((L.length : Nat) : Int)) : OKP (L ++ [x]) := fun i hi a ha => by
 rw [List.length_append, List.length_cons, List.length_nil] at hi
 rcases Nat.lt_or_ge i L.length with g | g
 ·rw [pn g] at ha; exact h i g a ha
 ·obtain rfl : i = L.length := by omega
  rw [sj] at ha; exact hx a ha
theorem OKP.left {P Q : List PI} (h : OKP (P ++ Q)) : OKP P := fun i hi a ha => h i (by rw [List.length_append]; omega) a (by rw [pn hi]; exact ha)
section
variable {P Q : List PI} {i j : Nat}
end
def ke (last : Bool) (O : List PI) (y : PI) : Nat := if last = true then O.length else O.idxOf y
def qT (T : List Int) (x : PI) : PI := (x.1, ez T x.2)
def C6 (k : Nat) (O : List PI) (y : PI) : List PI := if k < O.length then O else O ++ [y]
def Co (n : Nat) (x : PI) (s : List PI × List Int) : List PI × List Int :=
 (C6 (ke (decide (s.2.length + 1 = n)) s.1 (qT s.2 x)) s.1 (qT s.2 x), s.2 ++ [((ke (decide (s.2.length + 1 = n)) s.1 (qT s.2 x) : Nat) : Int)])
def cP (L : List PI) : Nat -> List PI × List Int
 | 0 => ([], [])
 | i + 1 => Co L.length (pd L i) (cP L i)
def ss (L : List PI) : List PI := (cP L L.length).1
theorem Au {b : Bool} {O : List PI} {y : PI} : ke b O y <= O.length := by
 unfold ke
 split
 ·exact Nat.le_refl _
 ·exact List.idxOf_le_length
theorem Aw {b : Bool} {O : List PI} {y : PI} (h : ke b O y < O.length) : pd O (ke b O y) = y := by
 unfold ke at h ⊢
 split at h
 ·omega
 ·rename_i hb
  rw [if_neg hb]
  exact mT (by rw [List.getElem?_eq_getElem h, List.getElem_idxOf h])
theorem Av {O : List PI} {y : PI} (h : ¬ ke false O y < O.length) : y ∉ O := fun hy => h (by
 unfold ke
 rw [if_neg (by decide)]
 exact List.idxOf_lt_length_of_mem hy)
structure ShI (L : List PI) (i : Nat) (O : List PI) (T : List Int) : Prop where
 t : T.length = i
 le : O.length <= i
 lt : ∀ j, j < i -> 0 <= ai T j /\ ai T j < ((O.length : Nat) : Int)
 sa : ∀ j, j < i -> pd O (ai T j).toNat = qT T (pd L j)
 ok : OKP O
 nd : i < L.length -> O.Nodup
 on : ∀ k, k < O.length -> ∃ j, j < i /\ ai T j = ((k : Nat) : Int)
 la : i = L.length -> 0 < i -> ai T (i - 1) = ((O.length : Nat) : Int) - 1
theorem ShI.zero {L : List PI} : ShI L 0 [] [] := ⟨rfl, Nat.le_refl _, fun j h => absurd h (Nat.not_lt_zero _), fun j h => absurd h (Nat.not_lt_zero _), OKP.nil, fun _ => List.nodup_nil, fun k h => absurd h (Nat.not_lt_zero _), fun _ h => absurd h (Nat.lt_irrefl _)⟩
theorem ShI.step {L O : List PI} {T : List Int} {i : Nat} (hL : OKP L) (hi : i < L.length) (h : ShI L i O T) : ShI L (i + 1) (Co L.length (pd L i) (O, T)).1 (Co L.length (pd L i) (O, T)).2 := by
 unfold Co
 simp only
 have ht := h.t
 generalize hb : decide (T.length + 1 = L.length) = b
 generalize hy : qT T (pd L i) = y
 generalize hk : ke b O y = k
 have hkl : k <= O.length := by rw [<- hk]; exact Au
 have hA := hL i hi
 have hya : ∀ a ∈ y.2, 0 <= a /\ a < ((O.length : Nat) : Int) := fun a ha => by
  rw [<- hy] at ha
  obtain ⟨c, hc, rfl⟩ := List.mem_map.1 ha
  have := hA c hc
  exact h.lt c.toNat zy
 have hT : ∀ j, j < i -> ai (T ++ [((k : Nat) : Int)]) j = ai T j := fun j hj => uY zy
 have hTi : ai (T ++ [((k : Nat) : Int)]) i = k := by rw [<- ht]; exact Bf
 have hshY : ∀ j, j <= i -> j < L.length -> qT (T ++ [((k : Nat) : Int)]) (pd L j) = qT T (pd L j) := fun j hj hjl => by
  unfold qT
  rw [BK fun a ha => by have := hL j hjl a ha; omega]
 unfold C6
 by_cases hkO : k < O.length
 ·rw [if_pos hkO]
  have hpk : pd O k = y := by rw [<- hk]; exact Aw (by rw [hk]; exact hkO)
  refine ⟨by simp [ht], by have := h.le; omega, fun j hj => ?_, fun j hj => ?_, h.ok, fun _ => h.nd hi, fun q hq => ?_, fun hl _ => ?_⟩
  ·rcases Nat.lt_or_ge j i with g | g
   ·rw [hT j g]; exact h.lt j g
   ·obtain rfl : j = i := by omega
    rw [hTi]; omega
  ·rcases Nat.lt_or_ge j i with g | g
   ·rw [hT j g, hshY j zy zy]; exact h.sa j g
   ·obtain rfl : j = i := by omega
    rw [hTi, hshY j zy zy, hy]; exact hpk
  ·obtain ⟨j, h1, h2⟩ := h.on q hq
   exact ⟨j, by omega, by rw [hT j h1]; exact h2⟩
  ·exfalso
   have : b = true := by rw [<- hb]; exact decide_eq_true zy
   rw [<- hk, this] at hkO
   unfold ke at hkO
   rw [if_pos rfl] at hkO
   omega
 ·rw [if_neg hkO]
  obtain rfl : k = O.length := by omega
  refine ⟨by simp [ht], by have := h.le; simp; omega, fun j hj => ?_, fun j hj => ?_, h.ok.snoc hya, fun hl => ?_, fun q hq => ?_, fun hl _ => ?_⟩
  ·rw [List.length_append, List.length_cons, List.length_nil]
   rcases Nat.lt_or_ge j i with g | g
   ·rw [hT j g]; have := h.lt j g; omega
   ·obtain rfl : j = i := by omega
    rw [hTi]; omega
  ·rcases Nat.lt_or_ge j i with g | g
   ·rw [hT j g, hshY j zy zy, pn (by have := h.lt j g; omega)]; exact h.sa j g
   ·obtain rfl : j = i := by omega
    rw [hTi, hshY j zy zy, hy]; exact sj
  ·have hbf : b = false := by rw [<- hb]; exact decide_eq_false zy
   rw [hbf] at hk
   have hn := Av (by rw [hk]; exact hkO)
   exact List.nodup_append.2 ⟨h.nd hi, by simp, fun u hu v hv e => by rw [List.mem_singleton.1 hv] at e; exact hn (e ▸ hu)⟩
  ·rw [List.length_append, List.length_cons, List.length_nil] at hq
   rcases Nat.lt_or_ge q O.length with g | g
   ·obtain ⟨j, h1, h2⟩ := h.on q g
    exact ⟨j, by omega, by rw [hT j h1]; exact h2⟩
   ·exact ⟨i, by omega, by rw [hTi]; omega⟩
  ·rw [Nat.add_sub_cancel, hTi, List.length_append, List.length_cons, List.length_nil]; omega
theorem ShI.all {L : List PI} (hL : OKP L) : ∀ {i : Nat}, i <= L.length -> ShI L i (cP L i).1 (cP L i).2
 | 0, _ => ShI.zero
 | i + 1, hi => ShI.step hL zy (ShI.all hL (i := i) zy)
section
variable {L : List PI}
end
abbrev Te := List Nat × AV
def eT : Nat -> List Te -> List AV
 | _, [] => []
 | i, x :: M => .str x.1 :: x.2 :: .int .i64 ((i : Nat) : Int) :: eT (i + 1) M
def kK : List Te -> List Nat -> AV
 | [], _ => .nils
 | x :: M, k => if x.1 = k then x.2 else kK M k
def gL : List Te -> List Nat -> AV -> List Te
 | [], k, v => [(k, v)]
 | x :: M, k, v => if x.1 = k then (k, v) :: M else x :: gL M k v
theorem lp : ∀ (M N : List Te) (i : Nat), eT i (M ++ N) = eT i M ++ eT (i + M.length) N
 | [], N, i => rfl
 | x :: M, N, i => by
  simp only [List.cons_append, eT, lp M N, List.length_cons]
  rw [show i + 1 + M.length = i + (M.length + 1) by omega]
theorem uq (M : List Te) (k : List Nat) (z : AV) : eT 0 M ++ [.str k, z, .int .i64 ((M.length : Nat) : Int)] = eT 0 (M ++ [(k, z)]) := by
 rw [lp, Nat.zero_add]; rfl
theorem mL : ∀ (M : List Te) (i j : Nat) (x : Te), M[j]? = some x -> (eT i M)[3 * j]? = some (.str x.1) /\ (eT i M)[3 * j + 1]? = some x.2
 | [], i, j, x, h => by simp at h
 | y :: M, i, 0, x, h => by simp at h; subst h; exact ⟨rfl, rfl⟩
 | y :: M, i, j + 1, x, h => by
  have := mL M (i + 1) j x (by simpa using h)
  have e1 : 3 * (j + 1) = 3 * j + 1 + 1 + 1 := by omega
  rw [e1]
  exact this
theorem qy : ∀ (M : List Te) (i j : Nat) (k : List Nat) (w v : AV), M[j]? = some (k, w) -> bJ (eT i M) (3 * j) [.str k, v] = eT i (M.set j (k, v))
 | [], i, j, k, w, v, h => by simp at h
 | y :: M, i, 0, k, w, v, h => by
  simp at h
  subst h
  simp [bJ, eT]
 | y :: M, i, j + 1, k, w, v, h => by
  have ih := qy M (i + 1) j k w v (by simpa using h)
  have e1 : 3 * (j + 1) = 3 * j + 1 + 1 + 1 := by omega
  rw [e1]
  simp only [eT, bJ, List.set_cons_succ, ih]
theorem tu {tb : Tab} {kt : Nat} (hu : tb.und kt = some .string) (k : List Nat) : iB tb (tb.und kt) (.str k) = true := by
 unfold iB
 simp only [hu]
theorem tq {tb : Tab} {kt : Nat} (hu : tb.und kt = some .string) (x y : List Nat) : fc tb 20 kt (.str x) (.str y) = some (decide (x = y)) := by
 unfold fc
 simp only [hu, jE]
theorem jI {eq : AV -> AV -> Option Bool} (heq : ∀ x y : List Nat, eq (.str x) (.str y) = some (decide (x = y))) (k : List Nat) : ∀ (M : List Te) (i c : Nat),
  (eQ eq (.str k) (eT i M) c = some none /\ kK M k = .nils /\ ∀ v, gL M k v = M ++ [(k, v)]) \/ ∃ j, M[j]? = some (k, kK M k) /\ (∀ v, gL M k v = M.set j (k, v)) /\ eQ eq (.str k) (eT i M) c = some (some (c + j))
 | [], i, c => .inl ⟨rfl, rfl, fun _ => rfl⟩
 | y :: M, i, c => by
  by_cases e : k = y.1
  ·subst e
   have e1 : kK (y :: M) y.1 = y.2 := if_pos rfl
   refine .inr ⟨0, by rw [e1]; rfl, fun v => if_pos rfl, ?_⟩
   show (match eq (.str y.1) (.str y.1) with | some true => some (some c) | some false => _ | none => none) = _
   rw [heq, decide_eq_true rfl]; rfl
  ·have h0 : eQ eq (.str k) (eT i (y :: M)) c = eQ eq (.str k) (eT (i + 1) M) (c + 1) := by
    show (match eq (.str k) (.str y.1) with | some true => some (some c) | some false => eQ eq (.str k) (eT (i + 1) M) (c + 1) | none => none) = _
    rw [heq, decide_eq_false e]
   have e1 : kK (y :: M) k = kK M k := if_neg fun q => e q.symm
   have e2 : ∀ v, gL (y :: M) k v = y :: gL M k v := fun v => if_neg fun q => e q.symm
   rw [h0]
   rcases jI heq k M (i + 1) (c + 1) with ⟨h1, h2, h3⟩ | ⟨j, h1, h2, h3⟩
   ·exact .inl ⟨h1, by rw [e1]; exact h2, fun v => by rw [e2, h3]; rfl⟩
   ·refine .inr ⟨j + 1, by rw [e1]; simpa using h1, fun v => by rw [e2, h2]; rfl, ?_⟩
    rw [h3]
    congr 2
    omega
section
variable {tb : Tab} {n : Nat} {E : Env} {s : St} {hs : ad} {R : T AV -> AHeap -> Prop} {ops rest : List Oper} {d : Nat} {t : TypeId} {ty : TypeId} {pos : String} {aft : Array Edge}
theorem pL {f : Nat} {args : List AV} {v : AV} (ho : ∀ h, co hs h -> tb.orc f args h = some v) : Spec tb f args [] hs (eW v) := by
 intro h hh
 exact ⟨v, h, [], Evt.of fun K => by unfold ci; rw [ho h hh.keep], ⟨rfl, rfl⟩, fun e he => Ae he, hh.sub (SubH.nil _)⟩
theorem WO.makeMap {kt et : Nat} (hu : cj (tb.und t) = some (kt, et)) (hd : Nat.blt d n = true) (hk : ∀ b, WO tb n ops rest E ((d, .map b) :: s) (⟨b, ⟨0, true, []⟩, true⟩ :: hs) R) :
  WO tb n ops (⟨some d, .makeMap t none, ty, pos, aft, none⟩ :: rest) E s hs R := by
 refine WO.l (s' := s) fun tm h ht hh => ?_
 refine ⟨.map h.next, ⟨h.next + 1, h.objs.set h.next ⟨0, true, []⟩⟩, tm.set d (.map h.next), ?_, aT hd, hk h.next _ _ (ht.set d _) (hh.new _)⟩
 show Res.l (dA tb tm h t none) = _
 unfold dA
 simp only [hu]
theorem oq {ox ok : Operand} {kt et b : Nat} {M : List Te} {ex w : Bool} {k : List Nat} (hu : cj (tb.und t) = some (kt, et)) (hs_ : tb.und kt = some .string) (hz : tb.zero et = some .nils) (hx : oL s ox = some (.map b)) (hy : oL s ok = some (.str k)) (hm : ⟨b, ⟨M.length, ex, eT 0 M⟩, w⟩ ∈ hs) :
  QV tb s hs (.lookup t ox ok false) (kK M k) := by
 intro tm h ht hh call
 have hob := hh _ hm
 simp only at hob
 show Res.q (ed tb tm h.objs t ox ok false) = _
 unfold ed
 simp only [hu, aX ht hx, aX ht hy]
 unfold wQ
 simp only [tu hs_, hob, hz]
 rcases jI (tq (tb := tb) hs_) k M 0 0 with ⟨h1, h2, _⟩ | ⟨j, h1, _, h3⟩
 ·rw [h1, h2]; rfl
 ·rw [h3, Nat.zero_add]
  unfold rT
  simp only [(mL M 0 j _ h1).2]
  rfl
theorem yR {ox ok : Operand} {kt et b : Nat} {M : List Te} {ex w : Bool} {k : List Nat} {v : AV} (hu : cj (tb.und t) = some (kt, et)) (hs_ : tb.und kt = some .string) (hz : tb.zero et = some .nils) (hx : oL s ox = some (.map b)) (hy : oL s ok = some (.str k)) (hm : ⟨b, ⟨M.length, ex, eT 0 M⟩, w⟩ ∈ hs) (he : kK M k = v) :
  QV tb s hs (.lookup t ox ok false) v := he ▸ oq hu hs_ hz hx hy hm
theorem tT {ox ok oy : Operand} {kt et i b : Nat} {M : List Te} {ex : Bool} {k : List Nat} {v : AV} {hs' : ad} (hu : cj (tb.und t) = some (kt, et)) (hst : tb.und kt = some .string) (hx : oL s ox = some (.map b)) (hy : oL s ok = some (.str k)) (hv : oL s oy = some v) (hi : hs[i]? = some ⟨b, ⟨M.length, ex, eT 0 M⟩, true⟩)
  (hs_ : hs.set i ⟨b, ⟨(gL M k v).length, ex, eT 0 (gL M k v)⟩, true⟩ = hs') (hk : WO tb n ops rest E s hs' R) :
  WO tb n ops (⟨none, .mapUpdate t ox ok oy, ty, pos, aft, none⟩ :: rest) E s hs R := by
 refine WO.l (s' := s) fun tm h ht hh => ?_
 have hob := (hh.at_ _ (eo hi)).1
 simp only at hob
 subst hs_
 refine ⟨.tuple [], ⟨h.next, h.objs.set b ⟨(gL M k v).length, ex, eT 0 (gL M k v)⟩⟩, tm, ?_, rfl, hk _ _ ht (hh.put hi)⟩
 show Res.l (cv tb tm h t ox ok oy) = _
 unfold cv
 simp only [hu, aX ht hx, aX ht hy, aX ht hv, tu hst, hob]
 rcases jI (tq (tb := tb) hst) k M 0 0 with ⟨h1, _, h2⟩ | ⟨j, h1, h2, h3⟩
 ·rw [h1, h2 v]
  unfold Ap
  simp only [List.length_append, List.length_cons, List.length_nil, Nat.zero_add]
  rw [<- uq]
  rfl
 ·rw [h3, h2 v, Nat.zero_add]
  unfold Ap
  have e : (AV.str k).beq (.str k) = true := by simp [AV.beq, gp, cf]
  simp only [(mL M 0 j _ h1).1, e, qy M 0 j k _ v h1, List.length_set]
  rfl
end
theorem pQ {α0 α1 α2 α3 α4 α5 α6 α7 α8 : Type} {tb : Tab} {n : Nat} {E : Env} {s : St} {hs : ad} {b : Code} {Q} (st : α0 -> α1 -> α2 -> α3 -> α4 -> α5 -> α6 -> α7 -> α8 -> St) (hp : α0 -> α1 -> α2 -> α3 -> α4 -> α5 -> α6 -> α7 -> α8 -> ad) (Inv : α0 -> α1 -> α2 -> α3 -> α4 -> α5 -> α6 -> α7 -> α8 -> Prop) (μ : α0 -> α1 -> α2 -> α3 -> α4 -> α5 -> α6 -> α7 -> α8 -> Nat) (z0 : α0) (z1 : α1) (z2 : α2) (z3 : α3) (z4 : α4) (z5 : α5) (z6 : α6) (z7 : α7) (z8 : α8) (h0 : Inv z0 z1 z2 z3 z4 z5 z6 z7 z8)
  (hsub : SubS (st z0 z1 z2 z3 z4 z5 z6 z7 z8) s) (hsubH : SubH (hp z0 z1 z2 z3 z4 z5 z6 z7 z8) hs)
  (step : ∀ a0 a1 a2 a3 a4 a5 a6 a7 a8, Inv a0 a1 a2 a3 a4 a5 a6 a7 a8 -> (∀ b0 b1 b2 b3 b4 b5 b6 b7 b8, Inv b0 b1 b2 b3 b4 b5 b6 b7 b8 -> μ b0 b1 b2 b3 b4 b5 b6 b7 b8 < μ a0 a1 a2 a3 a4 a5 a6 a7 a8 -> W tb n (.loop b) E (st b0 b1 b2 b3 b4 b5 b6 b7 b8) (hp b0 b1 b2 b3 b4 b5 b6 b7 b8) Q) -> W tb n b E (st a0 a1 a2 a3 a4 a5 a6 a7 a8) (hp a0 a1 a2 a3 a4 a5 a6 a7 a8) (KL tb n b Q)) :
  W tb n (.loop b) E s hs Q :=
 az (α := α0 × α1 × α2 × α3 × α4 × α5 × α6 × α7 × α8) (fun x => st x.1 x.2.1 x.2.2.1 x.2.2.2.1 x.2.2.2.2.1 x.2.2.2.2.2.1 x.2.2.2.2.2.2.1 x.2.2.2.2.2.2.2.1 x.2.2.2.2.2.2.2.2) (fun x => hp x.1 x.2.1 x.2.2.1 x.2.2.2.1 x.2.2.2.2.1 x.2.2.2.2.2.1 x.2.2.2.2.2.2.1 x.2.2.2.2.2.2.2.1 x.2.2.2.2.2.2.2.2) (fun x => Inv x.1 x.2.1 x.2.2.1 x.2.2.2.1 x.2.2.2.2.1 x.2.2.2.2.2.1 x.2.2.2.2.2.2.1 x.2.2.2.2.2.2.2.1 x.2.2.2.2.2.2.2.2) (fun x => μ x.1 x.2.1 x.2.2.1 x.2.2.2.1 x.2.2.2.2.1 x.2.2.2.2.2.1 x.2.2.2.2.2.2.1 x.2.2.2.2.2.2.2.1 x.2.2.2.2.2.2.2.2)
  (z0, z1, z2, z3, z4, z5, z6, z7, z8) h0 hsub hsubH fun a ha ih => step a.1 a.2.1 a.2.2.1 a.2.2.2.1 a.2.2.2.2.1 a.2.2.2.2.2.1 a.2.2.2.2.2.2.1 a.2.2.2.2.2.2.2.1 a.2.2.2.2.2.2.2.2 ha fun b0 b1 b2 b3 b4 b5 b6 b7 b8 => ih (b0, b1, b2, b3, b4, b5, b6, b7, b8)
end Go.Proofs.YtndhhgbpcmfeiaaGreatDoor.Ev
