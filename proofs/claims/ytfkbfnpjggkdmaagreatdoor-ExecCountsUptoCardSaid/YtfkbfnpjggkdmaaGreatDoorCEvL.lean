/- An evaluator of closed calls, part 12: a region that draws its order gives what it gives in the text's. -/
import Derived.Test.YtfkbfnpjggkdmaaGreatDoorCEvK
namespace Go.Proofs.YtfkbfnpjggkdmaaGreatDoor.Ev
open Go.RowKit
variable {J : Ctx}

theorem iU (e : Edge) : Region.binds .any e = cY e := by
 unfold Region.binds cY
 cases e.ground <;> rfl

theorem bX {tb : Tab} {call : Nat -> List AV -> AHeap -> Option (AV × AHeap)} {ops : List Oper} {tm : T AV} {h h' : AHeap} {o : Oper} {v : AV} {k : Nat}
  (he : fT tb call ops tm h o = some (v, h', k)) :
  (k = 0 /\ aK ops tm o = some false /\ v = .tuple [] /\ h' = h) \/ (k = 1 /\ aK ops tm o = some true /\ cO tb call tm h o.op = .q (some v) /\ h' = h) \/
  (k = 2 /\ aK ops tm o = some true /\ cO tb call tm h o.op = .l (some (v, h'))) := by
 unfold fT at he
 split at he
 ·rename_i hw
  split at he
  ·rename_i hq
   simp only [Option.some.injEq, Prod.mk.injEq] at he
   obtain ⟨rfl, rfl, rfl⟩ := he
   exact .inr (.inr ⟨rfl, hw, hq⟩)
  ·rename_i hq
   simp only [Option.some.injEq, Prod.mk.injEq] at he
   obtain ⟨rfl, rfl, rfl⟩ := he
   exact .inr (.inl ⟨rfl, hw, hq, rfl⟩)
  ·cases he
 ·rename_i hw
  simp only [Option.some.injEq, Prod.mk.injEq] at he
  obtain ⟨rfl, rfl, rfl⟩ := he
  exact .inl ⟨rfl, hw, rfl, rfl⟩
 ·cases he

def d8 (l : Array Bool) (i : Nat) : Prop := l.getD i false = true
theorem eT {l : Array Bool} {j i : Nat} (hj : j < l.size) : d8 (l.setIfInBounds j true) i ↔ (i = j \/ d8 l i) := by
 unfold d8
 by_cases h : j = i
 ·subst h; simp [hj]
 ·have : ¬ i = j := fun e => h e.symm
  simp [Array.getElem?_setIfInBounds_ne h, this]
theorem ki {l : Array Bool} {j : Nat} (h : l.getD j true = false) : ¬ d8 l j /\ j < l.size := by
 unfold d8
 rcases Nat.lt_or_ge j l.size with hj | hj
 ·simp [hj] at h ⊢; simp [h]
 ·simp [Array.getElem?_eq_none hj] at h
theorem mN {l : Array Bool} {j : Nat} (h : ¬ d8 l j) (hj : j < l.size) : l.getD j true = false := by
 unfold d8 at h
 simp [hj] at h ⊢
 exact h

def sM (l : Array Bool) (k : Nat) : Nat := (List.range k).countP fun i => !(l.getD i false)
theorem sN {l : Array Bool} {j k : Nat} (hj : ¬ d8 l j) (hs : j < l.size) (hk : j < k) : sM (l.setIfInBounds j true) k + 1 = sM l k := by
 have pt : ∀ i, i ≠ j -> (l.setIfInBounds j true).getD i false = l.getD i false := by
  intro i hi
  simp [Array.getElem?_setIfInBounds_ne (fun e => hi e.symm)]
 have hlow : ∀ m, m <= j -> sM (l.setIfInBounds j true) m = sM l m := by
  intro m hm
  unfold sM
  apply List.countP_congr
  intro i hi
  rw [pt i (by have := List.mem_range.1 hi; omega)]
 have hhigh : ∀ m, j < m -> sM (l.setIfInBounds j true) m + 1 = sM l m := by
  intro m
  induction m with
  | zero => intro h; omega
  | succ m ih =>
   intro hm
   unfold sM
   simp only [List.range_succ, List.countP_append, List.countP_cons, List.countP_nil]
   by_cases he : m = j
   ·subst he
    have h0 := hlow m (Nat.le_refl m)
    unfold sM at h0
    have e1 : (l.setIfInBounds m true).getD m false = true := by simp [hs]
    have e2 : l.getD m false = false := by
     unfold d8 at hj
     cases hq : l.getD m false
     ·rfl
     ·exact absurd hq hj
    rw [h0, e1, e2]
    simp
   ·have h0 := ih zy
    unfold sM at h0
    rw [pt m he]
    omega
 exact hhigh k hk
theorem pO {l : Array Bool} {k : Nat} (h : sM l k = 0) : ∀ i, i < k -> d8 l i := by
 intro i hi
 unfold sM at h
 rw [List.countP_eq_zero] at h
 have := h i (List.mem_range.2 hi)
 unfold d8
 cases hq : l.getD i false
 ·rw [hq] at this; simp at this
 ·rfl

section draw
variable {P : Program} {tb : Tab} {n : Nat} {call : Nat -> List AV -> AHeap -> Option (AV × AHeap)} {ops : Array Oper}

def mf (ops : Array Oper) (j i : Nat) : Prop := ((ay ops.toList []).getD j 0).testBit i = true

structure Static (ops : Array Oper) : Prop where
 edge : ∀ j o, ops[j]? = some o -> ∀ e ∈ o.after, cY e = true -> e.on < j
 pair : ∀ i j x o, ops[i]? = some x -> ops[j]? = some o -> i ≠ j -> ∀ d, x.dst = some d -> d ∈ bU ops.toList o -> mf ops j i \/ mf ops i j

theorem ra (h : gz ops.toList = true) : Static ops := by
 unfold gz at h
 simp only [Bool.and_eq_true, List.all_eq_true, Bool.or_eq_true, Bool.not_eq_true', Nat.blt_eq, beq_iff_eq] at h
 obtain ⟨h1, h2⟩ := h
 refine ⟨fun j o ho e he hb => ?_, fun i j x o hi hj hne d hd ht => ?_⟩
 ·have hm : (o, j) ∈ ops.toList.zipIdx := by
   rw [List.mem_zipIdx_iff_getElem?]
   simpa using ho
  rcases h1 (o, j) hm e (by simpa using he) with h | h
  ·rw [hb] at h; cases h
  ·exact h
 ·have hmj : (o, j) ∈ ops.toList.zipIdx := by rw [List.mem_zipIdx_iff_getElem?]; simpa using hj
  have hmi : (x, i) ∈ ops.toList.zipIdx := by rw [List.mem_zipIdx_iff_getElem?]; simpa using hi
  rcases h2 (o, j) hmj (x, i) hmi with h | h
  ·exact absurd h hne
  ·simp only [hd, Bool.or_eq_true, Bool.not_eq_true'] at h
   rcases h with (h | h) | h
   ·have : (bU ops.toList o).contains d = true := by simpa using ht
    rw [this] at h; cases h
   ·exact .inl h
   ·exact .inr h

theorem kL (hS : Static ops) : ∀ j i, j < ops.size -> mf ops j i -> i < j := by
 intro j
 induction j using Nat.strongRecOn with
 | _ j ih =>
  intro i hj hb
  have ho : ops[j]? = some ops[j] := Array.getElem?_eq_getElem hj
  obtain ⟨e, he, hbd, h⟩ := qi (ops := ops.toList) (by rw [Array.getElem?_toList]; exact ho) hb
  have hlt := hS.edge j _ ho e (by simpa using he) hbd
  rcases h with h | ⟨_, h⟩
  ·omega
  ·have := ih e.on hlt i zy h
   omega

def oh (ops : Array Oper) (l : Array Bool) : Prop := ∀ j o, ops[j]? = some o -> d8 l j -> ∀ e ∈ o.after, cY e = true -> d8 l e.on
theorem eD (hS : Static ops) {l : Array Bool} (hc : oh ops l) : ∀ j o, ops[j]? = some o -> (∀ e ∈ o.after, cY e = true -> d8 l e.on) -> ∀ i, mf ops j i -> d8 l i := by
 intro j
 induction j using Nat.strongRecOn with
 | _ j ih =>
  intro o ho hd i hb
  obtain ⟨e, he, hbd, h⟩ := qi (ops := ops.toList) (by rw [Array.getElem?_toList]; exact ho) hb
  have he' : e ∈ o.after := by simpa using he
  have hlt := hS.edge j _ ho e he' hbd
  rcases h with h | ⟨_, h⟩
  ·rw [h]; exact hd e he' hbd
  ·have hj : j < ops.size := (Array.getElem?_eq_some_iff.1 ho).1
   have ho' : ops[e.on]? = some ops[e.on] := Array.getElem?_eq_getElem zy
   exact ih e.on hlt _ ho' (hc e.on _ ho' (hd e he' hbd)) i h

def yJ (K : Nat -> Nat) (N m : Nat) : Prop := m = 0 \/ ∃ i, i < N /\ K i = 2 /\ m = i + 1

structure Looked (tb : Tab) (call : Nat -> List AV -> AHeap -> Option (AV × AHeap)) (n : Nat) (ops : Array Oper) (S : Nat -> T AV) (Hp : Nat -> AHeap) (V : Nat -> AV) (K : Nat -> Nat) : Prop where
 step : ∀ j o, ops[j]? = some o -> fT tb call ops.toList (S j) (Hp j) o = some (V j, Hp (j + 1), K j) /\ bE (S j) n o.dst (V j) = some (S (j + 1))
 louds : ∀ j, j < ops.size -> K j = 2 -> ∀ i, i < j -> K i = 2 -> mf ops j i
 quiets : ∀ j o, ops[j]? = some o -> K j = 1 -> ∀ m, yJ K ops.size m -> (∀ i, i < ops.size -> K i = 2 -> (mf ops j i -> i < m) /\ (mf ops i j -> m <= i)) ->
  kQ tb (S j) (Hp m) o.op = some (V j)

variable {S : Nat -> T AV} {Hp : Nat -> AHeap} {V : Nat -> AV} {K : Nat -> Nat}

theorem qG (hk : Looked tb call n ops S Hp V K) : ∀ d p, p + d <= ops.size -> (∀ i, p <= i -> i < p + d -> K i ≠ 2) -> Hp (p + d) = Hp p := by
 intro d
 induction d with
 | zero => intro p _ _; rfl
 | succ d ih =>
  intro p hp hn
  have hlt : p + d < ops.size := by omega
  obtain ⟨h1, _⟩ := hk.step (p + d) _ (Array.getElem?_eq_getElem hlt)
  have h2 : Hp (p + d + 1) = Hp (p + d) := by
   rcases bX h1 with h | h | h
   ·exact h.2.2.2
   ·exact h.2.2.2
   ·exact absurd h.1 (hn (p + d) zy zy)
  rw [show p + (d + 1) = p + d + 1 by omega, h2]
  exact ih p zy (fun i h1 h2 => hn i h1 zy)
theorem w8 (hk : Looked tb call n ops S Hp V K) {p q : Nat} (hp : p <= ops.size) (hq : q <= ops.size) (h : ∀ i, i < ops.size -> K i = 2 -> (i < p ↔ i < q)) : Hp p = Hp q := by
 rcases Nat.le_total p q with hle | hle
 ·have := qG hk (q - p) p zy (fun i h1 h2 h3 => by have := (h i zy h3).2 zy; omega)
  rw [show p + (q - p) = q by omega] at this
  exact this.symm
 ·have := qG hk (p - q) q zy (fun i h1 h2 h3 => by have := (h i zy h3).1 zy; omega)
  rw [show q + (p - q) = p by omega] at this
  exact this
theorem qZ (hk : Looked tb call n ops S Hp V K) (t : Nat) : ∀ d p, p + d <= ops.size -> (∀ i o, p <= i -> i < p + d -> ops[i]? = some o -> o.dst ≠ some t) -> (S (p + d)).get t = (S p).get t := by
 intro d
 induction d with
 | zero => intro p _ _; rfl
 | succ d ih =>
  intro p hp hn
  have hlt : p + d < ops.size := by omega
  have ho : ops[p + d]? = some ops[p + d] := Array.getElem?_eq_getElem hlt
  obtain ⟨_, h1⟩ := hk.step (p + d) _ ho
  have h2 := (eI h1).2 t
  rw [if_neg (hn (p + d) _ zy zy ho)] at h2
  rw [show p + (d + 1) = p + d + 1 by omega, h2]
  exact ih p zy (fun i o h1 h2 h3 => hn i o h1 zy h3)

structure Inv (tb : Tab) (n : Nat) (ops : Array Oper) (M : Inj) (N : Nat -> Prop) (w0 : Base J) (d0 : List Deferred) (S : Nat -> T AV) (Hp : Nat -> AHeap) (K : Nat -> Nat) (l : Array Bool) (a : Act) (w : World) : Prop where
 size : l.size = ops.size
 closed : oh ops l
 slots : a.tmps.size = n
 defs : a.defers = d0
 rel : ∃ M', M.le M' /\ (∀ t m, m <= ops.size -> (∀ i o, ops[i]? = some o -> o.dst = some t -> (d8 l i ↔ i < m)) -> ∀ v, (S m).get t = some v -> VRel M' v (a.tmps.getD t undef)) /\
  ∃ m, yJ K ops.size m /\ m <= ops.size /\ (∀ i, i < ops.size -> K i = 2 -> (d8 l i ↔ i < m)) /\ HRel M' N w0 (Hp m) w

theorem Es {M : Inj} {N : Nat -> Prop} {w0 : Base J} {d0 : List Deferred} {l : Array Bool} {a : Act} {w : World} (hk : Looked tb call n ops S Hp V K) (I : Inv tb n ops M N w0 d0 S Hp K l a w)
  (hall : ∀ i, i < ops.size -> d8 l i) : ∃ M', M.le M' /\ TRel M' (S ops.size) a /\ HRel M' N w0 (Hp ops.size) w := by
 obtain ⟨M', hM, ht, m, _, hm, hl, hh⟩ := I.rel
 refine ⟨M', hM, fun t v hv => ht t ops.size (Nat.le_refl _) (fun i o hi _ => ?_) v hv, ?_⟩
 ·have hlt : i < ops.size := (Array.getElem?_eq_some_iff.1 hi).1
  exact ⟨fun _ => hlt, fun _ => hall i hlt⟩
 ·have : Hp m = Hp ops.size := w8 hk hm (Nat.le_refl _) (fun i hi h2 => ⟨fun _ => hi, fun _ => (hl i hi h2).1 (hall i hi)⟩)
  rw [<- this]
  exact hh

theorem Ai (H : TabOK P tb J) (hcall : gO P J call) (hS : Static ops) (hk : Looked tb call n ops S Hp V K) {M : Inj} {N : Nat -> Prop} {w0 : Base J} {d0 : List Deferred}
  {Q : Exit -> Act -> World -> Prop}
  (hQ : ∀ M' a' w', M.le M' -> TRel M' (S ops.size) a' -> a'.tmps.size = n -> a'.defers = d0 -> HRel M' N w0 (Hp ops.size) w' -> Q .normal a' w') :
  ∀ (fuel : Nat) (l : Array Bool) (a : Act) (w : World), sM l ops.size = fuel -> Inv tb n ops M N w0 d0 S Hp K l a w -> wpAny P .any ops Q fuel l a w := by
 have fin : ∀ (l : Array Bool) (a : Act) (w : World), Inv tb n ops M N w0 d0 S Hp K l a w -> (∀ i, i < ops.size -> d8 l i) -> Q .normal a w := by
  intro l a w I hall
  obtain ⟨M', h1, h2, h3⟩ := Es hk I hall
  exact hQ M' a w h1 h2 I.slots I.defs h3
 intro fuel
 induction fuel with
 | zero =>
  intro l a w hu I
  have hall := pO hu
  refine ⟨?_, fin l a w I hall⟩
  cases hr : Region.ready .any ops l with
  | nil => rfl
  | cons j rs =>
   have hj : j ∈ Region.ready .any ops l := by rw [hr]; exact List.mem_cons_self
   obtain ⟨h0, o, ho, _⟩ := mem_ready.1 hj
   exact absurd (hall j (Array.getElem?_eq_some_iff.1 ho).1) (ki h0).1
 | succ fuel ih =>
  intro l a w hu I
  refine ⟨fun hr => fin l a w I ?_, fun j hj => ?_⟩
  ·-- none is ready: all are listed
   intro i
   induction i using Nat.strongRecOn with
   | _ i ihi =>
    intro hi
    by_cases hl : d8 l i
    ·exact hl
    ·exfalso
     have ho : ops[i]? = some ops[i] := Array.getElem?_eq_getElem hi
     have : i ∈ Region.ready .any ops l := by
      rw [mem_ready]
      refine ⟨mN hl (by rw [I.size]; exact hi), _, ho, fun e he hb => ?_⟩
      rw [iU] at hb
      have hlt := hS.edge i _ ho e he hb
      exact ihi e.on hlt zy
     rw [hr] at this
     cases this
  ·obtain ⟨hj0, o, ho, hd⟩ := mem_ready.1 hj
   obtain ⟨hnl, hjs⟩ := ki hj0
   have hjN : j < ops.size := (Array.getElem?_eq_some_iff.1 ho).1
   have hdir : ∀ e ∈ o.after, cY e = true -> d8 l e.on := fun e he hb => hd e he (by rw [iU]; exact hb)
   obtain ⟨M', hM, ht, m, hmark, hm, hml, hh⟩ := I.rel
   obtain ⟨hst, hput⟩ := hk.step j o ho
   have behind : ∀ i x, ops[i]? = some x -> mf ops i j -> ¬ d8 l i := by
    intro i x hx hb hl
    exact hnl (eD hS I.closed i x hx (I.closed i x hx hl) j hb)
   have ahead : ∀ i, mf ops j i -> d8 l i /\ i < j := fun i hb => ⟨eD hS I.closed j o ho hdir i hb, kL hS j i hjN hb⟩
   have hw : ∀ t, t ∈ bU ops.toList o -> ∀ i x, ops[i]? = some x -> x.dst = some t -> (d8 l i ↔ i < j) := by
    intro t htt i x hx hdx
    by_cases hij : i = j
    ·subst hij; exact ⟨fun h => absurd h hnl, fun h => by omega⟩
    ·rcases hS.pair i j x o hx ho hij t hdx htt with hb | hb
     ·have := ahead i hb; exact ⟨fun _ => this.2, fun _ => this.1⟩
     ·have h1 := behind i x hx hb
      have h2 := kL hS i j (Array.getElem?_eq_some_iff.1 hx).1 hb
      exact ⟨fun h => absurd h h1, fun h => by omega⟩
   obtain ⟨tr, htr⟩ := lQ (S j) (bU ops.toList o)
   have hT : TRel M' tr a := by
    intro t v hv
    rw [htr] at hv
    split at hv
    ·rename_i hmem
     exact ht t j zy (hw t hmem) v hv
    ·cases hv
   have hopnd : ∀ x ∈ o.op.operands, aS (S j) x = aS tr x := by
    intro x hx
    refine (iO htr (fun t e => ?_)).symm
    unfold bU
    refine List.mem_append_left _ (List.mem_append_right _ ?_)
    exact List.mem_filterMap.2 ⟨x, by simpa using hx, by rw [e]⟩
   have hwant : aK ops.toList (S j) o = aK ops.toList tr o := by
    unfold aK
    cases hg : o.guard with
    | none => rfl
    | some gw =>
     obtain ⟨g, want⟩ := gw
     simp only
     cases hog : ops.toList[g]? with
     | none => rfl
     | some og =>
      simp only
      cases hgd : og.dst with
      | none => rfl
      | some d =>
       have : d ∈ bU ops.toList o := by
        unfold bU
        refine List.mem_append_right _ ?_
        simp only [hg, hog, Option.bind_some, hgd]
        simp
       simp only [htr d, if_pos this]
   have go : ∀ (M2 : Inj) (u : Value) (w2 : World), M'.le M2 -> VRel M2 (V j) u ->
     (∃ m, yJ K ops.size m /\ m <= ops.size /\ (∀ i, i < ops.size -> K i = 2 -> ((i = j \/ d8 l i) ↔ i < m)) /\ HRel M2 N w0 (Hp m) w2) ->
     wpAny P .any ops Q fuel (l.setIfInBounds j true) (a.put o.dst u) w2 := by
    intro M2 u w2 hM2 hv hheap
    refine ih _ _ _ (by have := sN hnl hjs hjN; omega) ⟨by simp [I.size], ?_, by rw [ia]; exact I.slots, by rw [iA]; exact I.defs, M2, Inj.le_trans hM hM2, ?_, ?_⟩
    ·intro i x hx hl e he hb
     rw [eT hjs] at hl ⊢
     rcases hl with rfl | hl
     ·rw [ho] at hx; cases hx; exact .inr (hdir e he hb)
     ·exact .inr (I.closed i x hx hl e he hb)
    ·intro t q hq hwr v hvt
     obtain ⟨hp1, hp2⟩ := eI hput
     rw [lN a o.dst u t (fun x hx => by rw [I.slots]; exact hp1 x hx)]
     by_cases hdt : o.dst = some t
     ·rw [if_pos hdt]
      have hjq : j < q := (hwr j o ho hdt).1 (by rw [eT hjs]; exact .inl rfl)
      have hsame := qZ hk t (q - (j + 1)) (j + 1) zy (fun i x h1 h2 hx hdx => by
       have hli := (hwr i x hx hdx).2 zy
       rw [eT hjs] at hli
       have hli : d8 l i := hli.resolve_left zy
       have htt : t ∈ bU ops.toList o := by
        unfold bU
        refine List.mem_append_left _ (List.mem_append_left _ ?_)
        rw [hdt]; simp
       have := (hw t htt i x hx hdx).1 hli
       omega)
      rw [show j + 1 + (q - (j + 1)) = q by omega] at hsame
      rw [hsame, hp2 t, if_pos hdt] at hvt
      cases hvt
      exact hv
     ·rw [if_neg hdt]
      refine (ht t q hq (fun i x hx hdx => ?_) v hvt).mono hM2
      have := hwr i x hx hdx
      rw [eT hjs] at this
      have hne : i ≠ j := by rintro rfl; rw [ho] at hx; cases hx; exact hdt hdx
      exact ⟨fun h => this.1 (.inr h), fun h => (this.2 h).resolve_left hne⟩
    ·obtain ⟨q, h1, h2, h3, h4⟩ := hheap
     exact ⟨q, h1, h2, fun i hi hki => by rw [eT hjs]; exact h3 i hi hki, h4⟩
   rcases bX hst with ⟨hk0, hw0, hv0, _⟩ | ⟨hk1, hw1, hq1, _⟩ | ⟨hk2, hw2, hl2⟩
   ·-- not wanted
    unfold wpOp
    simp only [ho]
    rw [hwant] at hw0
    rw [cc hT hw0]
    simp only [Bool.false_eq_true, if_false]
    refine go M' undef w (Inj.le_refl M') (by rw [hv0]; exact .tuple [] #[] rfl (fun i v u p => by simp at p)) ⟨m, hmark, hm, fun i hi hki => ?_, hh⟩
    have hne : i ≠ j := by rintro rfl; omega
    exact ⟨fun h => (hml i hi hki).1 (h.resolve_left hne), fun h => .inr ((hml i hi hki).2 h)⟩
   ·-- quiet
    have hqq := hk.quiets j o ho hk1 m hmark (fun i hi hki => ⟨fun hb => (hml i hi hki).1 (ahead i hb).1, fun hb => by
     have h1 := behind i _ (Array.getElem?_eq_getElem hi) hb
     have h2 := hml i hi hki
     rcases Nat.lt_or_ge i m with h | h
     ·exact absurd (h2.2 h) h1
     ·exact h⟩)
    unfold kQ at hqq
    split at hqq
    ·rename_i r hq
     subst hqq
     rw [fW hopnd] at hq
     unfold wpOp
     simp only [ho]
     rw [hwant] at hw1
     rw [cc hT hw1, if_pos rfl]
     refine .inl ?_
     obtain ⟨u, h1, h2⟩ := lO H hT hh hq
     unfold Oper.wp
     rw [h1, Oper.upon_value]
     refine go M' u w (Inj.le_refl M') h2 ⟨m, hmark, hm, fun i hi hki => ?_, hh⟩
     have hne : i ≠ j := by rintro rfl; omega
     exact ⟨fun h => (hml i hi hki).1 (h.resolve_left hne), fun h => .inr ((hml i hi hki).2 h)⟩
    ·cases hqq
   ·-- loud
    have hlo : ∀ i, i < ops.size -> K i = 2 -> (d8 l i ↔ i < j) := by
     intro i hi hki
     constructor
     ·intro hl
      rcases Nat.lt_trichotomy i j with h | h | h
      ·exact h
      ·subst h; exact absurd hl hnl
      ·exact absurd hl (behind i _ (Array.getElem?_eq_getElem hi) (hk.louds i hi hki j h hk2))
     ·intro h
      exact (ahead i (hk.louds j hjN hk2 i h hki)).1
    have heq : Hp m = Hp j := w8 hk hm zy (fun i hi hki => by rw [<- hml i hi hki, hlo i hi hki])
    rw [heq] at hh
    rw [fW hopnd] at hl2
    unfold wpOp
    simp only [ho]
    rw [hwant] at hw2
    rw [cc hT hw2, if_pos rfl]
    refine .inl ?_
    refine nX H hT hh hcall hl2 (fun M2 u w2 hM2 hh2 hv2 => ?_)
    refine go M2 u w2 hM2 hv2 ⟨j + 1, .inr ⟨j, hjN, hk2, rfl⟩, hjN, fun i hi hki => ?_, hh2⟩
    have := hlo i hi hki
    constructor
    ·rintro (rfl | h)
     ·omega
     ·have := this.1 h; omega
    ·intro h
     by_cases hij : i = j
     ·exact .inl hij
     ·exact .inr (this.2 zy)

end draw

section float
variable {P : Program} {tb : Tab} {n : Nat} {call : Nat -> List AV -> AHeap -> Option (AV × AHeap)} {ops ops' : Array Oper} {π : Nat -> Nat} {base : Nat}

theorem GP (H : TabOK P tb J) {M : Inj} {tm : T AV} {a : Act} (ht : TRel M tm a) {o : Oper} {ob : AObj} {f : Nat -> AV} (hm : vI tb tm o.op = some (ob, f)) (w : World) :
  ∃ (c : Array Value) (e : TypeId) (cap : Nat) (res : Nat -> Value), (execOp a.eval o).run P w = .ok (.value (res w.heap.size)) (w.alloc (.cells c e)) /\ ob.cells.length <= cap * ob.sz /\ cap * ob.sz <= c.size /\
   (ob.exact_ = true -> ob.cells.length = cap * ob.sz) /\ (∀ v ∈ ob.cells, v.isCell = true) /\ (∀ (k : Nat) (v : AV), ob.cells[k]? = some v -> ∃ u : Value, c[k]? = some u /\ VRel M v u) /\
   ∀ (M2 : Inj) (b blk : Nat), M2 b = some ⟨blk, 0, cap, ob.sz, undef⟩ -> VRel M2 (f b) (res blk) := by
 obtain ⟨dst, op, ty, pos, aft, gd⟩ := o
 have var : ∀ (t : Nat) (v : AV) (u : Value), VRel M v u -> (∀ x ∈ v.cells, x.isCell = true) -> ∃ cap, (bk tb t v.cells).cells.length <= cap * (bk tb t v.cells).sz /\ cap * (bk tb t v.cells).sz <= u.cells.size /\
   ((bk tb t v.cells).exact_ = true -> (bk tb t v.cells).cells.length = cap * (bk tb t v.cells).sz) /\ (∀ x ∈ (bk tb t v.cells).cells, x.isCell = true) /\
   (∀ (k : Nat) (x : AV), (bk tb t v.cells).cells[k]? = some x -> ∃ y : Value, u.cells[k]? = some y /\ VRel M x y) := by
  intro t v u hv hc
  obtain ⟨c1, c2, cap, c3⟩ := lZ tb t v.cells
  have hl := hv.cells
  have hs : u.cells.size = v.cells.length := by rw [<- hl.1]; simp
  exact ⟨cap, by rw [c1, c3]; exact Nat.le_refl _, by rw [hs, <- c3]; exact Nat.le_refl _, fun _ => by rw [c1]; exact c3, by rw [c1]; exact hc,
   fun k x hx => by rw [c1] at hx; obtain ⟨y, hy, hr⟩ := hl.get hx; exact ⟨y, by simpa using hy, hr⟩⟩
 have ptr : ∀ (cap sz : Nat) (M2 : Inj) (b blk : Nat), M2 b = some ⟨blk, 0, cap, sz, undef⟩ -> VRel M2 (.ptr b 0) (.pointer (some ⟨blk, 0, none⟩)) := by
  intro cap sz M2 b blk h
  exact VRel.ptr b 0 ⟨blk, 0, cap, sz, undef⟩ h
 unfold vI at hm
 simp only at hm
 split at hm
 ·-- alloc
  rename_i t
  split at hm
  ·rename_i z hz
   simp only [Option.some.injEq, Prod.mk.injEq] at hm
   obtain ⟨rfl, rfl⟩ := hm
   obtain ⟨zv, hzr, hzM, hzc⟩ := gh H hz w
   obtain ⟨cap, h1, h2, h3, h4, h5⟩ := var t z zv (hzM M) hzc
   refine ⟨zv.cells, t, cap, fun blk => .pointer (some ⟨blk, 0, none⟩), ?_, h1, h2, h3, h4, h5, ptr _ _⟩
   show (do pure (.value (<- Instr.alloc t true (.tuple #[]))) : Sem Next).run P w = _
   simp only [Instr.alloc, Sem.run_bind, hzr, Result.andThen_ok]
   simp [newVar, newRow]
  ·cases hm
 ·-- box
  rename_i t x
  split at hm
  ·rename_i v hv
   split at hm
   ·rename_i hc
    simp only [Option.some.injEq, Prod.mk.injEq] at hm
    obtain ⟨rfl, rfl⟩ := hm
    have hr := eU ht hv
    obtain ⟨cap, h1, h2, h3, h4, h5⟩ := var t v (a.eval x) hr (by simpa using hc)
    refine ⟨(a.eval x).cells, t, cap, fun blk => .pointer (some ⟨blk, 0, none⟩), ?_, h1, h2, h3, h4, h5, ptr _ _⟩
    show (do pure (.value (<- Instr.box t (a.eval x))) : Sem Next).run P w = _
    simp [Instr.box, newVar, newRow]
   ·cases hm
  ·cases hm
 ·-- buildSlice
  rename_i t len parts
  split at hm
  ·rename_i e hd
   split at hm
   ·rename_i n z ps hn hz hps
    split at hm
    ·rename_i hb
     simp only [Bool.and_eq_true, Nat.beq_eq, Nat.ble_eq, Nat.blt_eq] at hb
     obtain ⟨⟨b1, b2⟩, b3⟩ := hb
     split at hm
     ·rename_i l hl
      split at hm
      ·rename_i hcl
       simp only [Option.some.injEq, Prod.mk.injEq] at hm
       obtain ⟨rfl, rfl⟩ := hm
       obtain ⟨zv, hzr, hzM, hzc⟩ := gh H hz w
       have hp := jt ht hps
       have hp' : (parts.map fun (i, x) => (i, a.eval x)).toList = parts.toList.map fun (i, x) => (i, a.eval x) := by simp
       have hzl := (hzM M).cells
       have hrel := lP hzl b2 b3 len
       obtain ⟨cs', f1, f2⟩ := jK hp hrel hl
       have hll : l.length = len * n := by
        have g : ∀ {place : Nat -> Option (Nat × Nat)} {ps : List (Nat × AV)} {c r : List AV}, cJ place c ps = some r -> r.length = c.length := by
         intro place ps
         induction ps with
         | nil => intro c r hr; simp only [cJ, Option.some.injEq] at hr; rw [hr]
         | cons p ps ih =>
          intro c r hr
          obtain ⟨i, x⟩ := p
          unfold cJ at hr
          split at hr
          ·cases hr
          ·split at hr
           ·rw [ih hr, dP]
           ·cases hr
        rw [g hl, iB, b2]
       have hs : cs'.size = l.length := by rw [<- f2.1]; simp
       refine ⟨cs', e, len, fun blk => .slice (some ⟨blk, 0, none⟩) len len, ?_, by simp only [hll]; exact Nat.le_refl _, by simp only; rw [hs, hll]; exact Nat.le_refl _, fun _ => hll, by simpa using hcl,
        fun k x hx => by obtain ⟨y, hy, hr⟩ := f2.get hx; exact ⟨y, by simpa using hy, hr⟩, fun M2 b blk h => VRel.slice b 0 len len ⟨blk, 0, none⟩ ⟨blk, 0, len, n, undef⟩ h (by simp) (Nat.le_refl _) (.inl (by simp))⟩
       show (do pure (.value (<- Instr.buildSlice t len (parts.map fun (i, x) => (i, a.eval x)))) : Sem Next).run P w = _
       have hgt : ¬ (len * n > 2 ^ 24) := by omega
       simp only [Instr.buildSlice, Sem.run_bind, aM H hd, Result.andThen_ok, bZ H hn]
       rw [if_neg hgt]
       by_cases h0 : len * n = 0
       ·have hl0 : len = 0 := by
         rcases Nat.mul_eq_zero.1 h0 with h | h
         ·exact h
         ·omega
        subst hl0
        simp only [Nat.zero_mul, mQ, Array.map_empty] at f1
        simp only [Nat.zero_mul, if_true, Sem.run_bind, Sem.run_pure, Result.andThen_ok, hp', mQ, Array.map_empty, f1]
        simp [newRow]
       ·simp only [h0, if_false, Sem.run_bind, hzr, Result.andThen_ok, Sem.run_pure, hp', f1]
        simp [newRow]
      ·cases hm
     ·cases hm
    ·cases hm
   ·cases hm
  ·cases hm
 ·cases hm
theorem qS {tm tm' : T AV} {op : Op} (hx : ∀ x ∈ op.operands, aS tm x = aS tm' x) : vI tb tm op = vI tb tm' op := by
 unfold vI
 cases op <;> simp only [Op.operands] at hx <;> try rfl
 case box t x => simp only; rw [hx x (by simp)]
 case buildSlice t n ps => simp only; rw [fq (tm := tm) (tm' := tm') fun p hp => hx p.2 (by simp; exact ⟨p.1, by simpa using hp⟩)]

theorem mj {ol : List Oper} {num : Nat} {tm : T AV} {h h' : AHeap} {o : Oper} {v : AV} {k : Nat} (he : gG tb call ol num tm h o = some (v, h', k)) :
  (k = 0 /\ aK ol tm o = some false /\ v = .tuple [] /\ h' = h) \/ (k = 1 /\ aK ol tm o = some true /\ cO tb call tm h o.op = .q (some v) /\ h' = h) \/
  (k = 2 /\ aK ol tm o = some true /\ cO tb call tm h o.op = .l (some (v, h'))) \/
  (k = 3 /\ aK ol tm o = some true /\ ∃ ob f, vI tb tm o.op = some (ob, f) /\ v = f num /\ h' = ⟨h.next, h.objs.set num ob⟩) := by
 unfold gG at he
 split at he
 ·rcases bX he with h | h | h
  ·exact .inl h
  ·exact .inr (.inl h)
  ·exact .inr (.inr (.inl h))
 ·split at he
  ·rename_i hw
   split at he
   ·rename_i ob f hm
    simp only [Option.some.injEq, Prod.mk.injEq] at he
    obtain ⟨rfl, rfl, rfl⟩ := he
    exact .inr (.inr (.inr ⟨rfl, hw, ob, f, hm, rfl, rfl⟩))
   ·cases he
  ·rename_i hw
   simp only [Option.some.injEq, Prod.mk.injEq] at he
   obtain ⟨rfl, rfl, rfl⟩ := he
   exact .inl ⟨rfl, hw, rfl, rfl⟩
  ·cases he

structure Perm (ops ops' : Array Oper) (π : Nat -> Nat) : Prop where
 size : ops'.size = ops.size
 lt : ∀ p, p < ops.size -> π p < ops.size
 get : ∀ p, p < ops.size -> ops'[p]? = ops[π p]?
 inj : ∀ p q, p < ops.size -> q < ops.size -> π p = π q -> p = q
 sur : ∀ j, j < ops.size -> ∃ p, p < ops.size /\ π p = j
 ord : ∀ p q, p < ops.size -> q < ops.size -> mf ops (π p) (π q) -> q < p
def Fs (K : Nat -> Nat) (N m : Nat) : Prop := m = 0 \/ ∃ i, i < N /\ (K i = 2 \/ K i = 3) /\ m = i + 1
structure LookedF (tb : Tab) (call : Nat -> List AV -> AHeap -> Option (AV × AHeap)) (n : Nat) (ops ops' : Array Oper) (π : Nat -> Nat) (base : Nat) (S : Nat -> T AV) (Hp : Nat -> AHeap) (V : Nat -> AV) (K : Nat -> Nat) : Prop where
 step : ∀ p o, ops'[p]? = some o -> gG tb call ops.toList (base + p) (S p) (Hp p) o = some (V p, Hp (p + 1), K p) /\ bE (S p) n o.dst (V p) = some (S (p + 1))
 hards : ∀ p, p < ops.size -> K p = 2 -> ∀ q, q < p -> (K q = 2 \/ K q = 3) -> mf ops (π p) (π q)
 quiets : ∀ p o, ops'[p]? = some o -> K p = 1 -> ∀ m, Fs K ops.size m -> (∀ q, q < ops.size -> K q = 2 -> (mf ops (π p) (π q) -> q < m) /\ (mf ops (π q) (π p) -> m <= q)) ->
  (∀ q, q < ops.size -> K q = 3 -> mf ops (π q) (π p) -> m <= q) -> kQ tb (S p) (Hp m) o.op = some (V p)

variable {S : Nat -> T AV} {Hp : Nat -> AHeap} {V : Nat -> AV} {K : Nat -> Nat}
theorem pg (hp : Perm ops ops' π) (hk : LookedF tb call n ops ops' π base S Hp V K) {p : Nat} (hlt : p < ops.size) (h2 : K p ≠ 2) (h3 : K p ≠ 3) : Hp (p + 1) = Hp p := by
 have ho : ops'[p]? = some (ops'[p]'(by rw [hp.size]; exact hlt)) := Array.getElem?_eq_getElem (by rw [hp.size]; exact hlt)
 rcases mj (hk.step p _ ho).1 with g | g | g | g
 ·exact g.2.2.2
 ·exact g.2.2.2
 ·exact absurd g.1 h2
 ·exact absurd g.1 h3
theorem pD (hp : Perm ops ops' π) (hk : LookedF tb call n ops ops' π base S Hp V K) (t : Nat) : ∀ d p, p + d <= ops.size -> (∀ i o, p <= i -> i < p + d -> ops'[i]? = some o -> o.dst ≠ some t) -> (S (p + d)).get t = (S p).get t := by
 intro d
 induction d with
 | zero => intro p _ _; rfl
 | succ d ih =>
  intro p hle hn
  have hlt : p + d < ops'.size := by rw [hp.size]; omega
  have ho : ops'[p + d]? = some ops'[p + d] := Array.getElem?_eq_getElem hlt
  obtain ⟨_, h1⟩ := hk.step (p + d) _ ho
  have h2 := (eI h1).2 t
  rw [if_neg (hn (p + d) _ zy zy ho)] at h2
  rw [show p + (d + 1) = p + d + 1 by omega, h2]
  exact ih p zy (fun i o h1 h2 h3 => hn i o h1 zy h3)
theorem t4 (hp : Perm ops ops' π) (hk : LookedF tb call n ops ops' π base S Hp V K) : ∀ m, m <= ops.size -> ∃ m0, Fs K ops.size m0 /\ m0 <= m /\ Hp m0 = Hp m /\ ∀ i, i < ops.size -> (K i = 2 \/ K i = 3) -> (i < m ↔ i < m0)
 | 0, _ => ⟨0, .inl rfl, Nat.le_refl _, rfl, fun _ _ _ => Iff.rfl⟩
 | m + 1, hm => by
  by_cases h2 : K m = 2 \/ K m = 3
  ·exact ⟨m + 1, .inr ⟨m, by omega, h2, rfl⟩, Nat.le_refl _, rfl, fun _ _ _ => Iff.rfl⟩
  ·obtain ⟨m0, g1, g2, g3, g4⟩ := t4 hp hk m zy
   refine ⟨m0, g1, by omega, ?_, fun i hi hk2 => ?_⟩
   ·rw [pg hp hk zy (fun h => h2 (.inl h)) (fun h => h2 (.inr h)), g3]
   ·have hne : i ≠ m := by rintro rfl; exact h2 hk2
    have := g4 i hi hk2
    omega

structure PendF (tb : Tab) (ops' : Array Oper) (N : Nat -> Prop) (S : Nat -> T AV) (h : AHeap) (M' : Inj) (w : World) (base p : Nat) : Prop where
 ex : ∃ o ob f c e cap blk, ops'[p]? = some o /\ vI tb (S p) o.op = some (ob, f) /\ M' (base + p) = some ⟨blk, 0, cap, ob.sz, undef⟩ /\ w.heap[blk]? = some (.cells c e) /\ ob.cells.length <= cap * ob.sz /\ cap * ob.sz <= c.size /\
  (ob.exact_ = true -> ob.cells.length = cap * ob.sz) /\ (∀ v ∈ ob.cells, v.isCell = true) /\ (∀ (k : Nat) (v : AV), ob.cells[k]? = some v -> ∃ u : Value, c[k]? = some u /\ VRel M' v u) /\
  ¬ N blk /\ ∀ b x y, h.objs.get b = some x -> M' b = some y -> y.blk ≠ blk
structure AtF (tb : Tab) (ops ops' : Array Oper) (π : Nat -> Nat) (base : Nat) (M : Inj) (N : Nat -> Prop) (w0 : Base J) (S : Nat -> T AV) (Hp : Nat -> AHeap) (K : Nat -> Nat) (l : Array Bool) (a : Act) (w : World) (M' : Inj) (m : Nat) : Prop where
 le : M.le M'
 mle : m <= ops.size
 heap : HRel M' N w0 (Hp m) w
 hard : ∀ p, p < ops.size -> K p = 2 -> (d8 l (π p) ↔ p < m)
 fl : ∀ p, p < ops.size -> K p = 3 -> p < m -> d8 l (π p)
 slots : ∀ t q, q <= ops.size -> (∀ p o, ops'[p]? = some o -> o.dst = some t -> (d8 l (π p) ↔ p < q)) -> ∀ v, (S q).get t = some v -> VRel M' v (a.tmps.getD t undef)
 un : ∀ p, p < ops.size -> K p = 3 -> ¬ d8 l (π p) -> M' (base + p) = none /\ base + p < (Hp m).next
 pend : ∀ p, p < ops.size -> K p = 3 -> d8 l (π p) -> m <= p -> PendF tb ops' N S (Hp m) M' w base p
 dist : ∀ p q, p < ops.size -> q < ops.size -> K p = 3 -> K q = 3 -> d8 l (π p) -> d8 l (π q) -> m <= p -> m <= q -> p ≠ q -> ∀ i j, M' (base + p) = some i -> M' (base + q) = some j -> i.blk ≠ j.blk
structure InvF (tb : Tab) (n : Nat) (ops ops' : Array Oper) (π : Nat -> Nat) (base : Nat) (M : Inj) (N : Nat -> Prop) (w0 : Base J) (d0 : List Deferred) (S : Nat -> T AV) (Hp : Nat -> AHeap) (K : Nat -> Nat) (l : Array Bool) (a : Act) (w : World) : Prop where
 size : l.size = ops.size
 closed : oh ops l
 slots : a.tmps.size = n
 defs : a.defers = d0
 rel : ∃ M' m, AtF tb ops ops' π base M N w0 S Hp K l a w M' m

theorem AtF.step {M : Inj} {N : Nat -> Prop} {w0 : Base J} {l : Array Bool} {a : Act} {w : World} {M' : Inj} {m : Nat} (hp : Perm ops ops' π) (hk : LookedF tb call n ops ops' π base S Hp V K) (A : AtF tb ops ops' π base M N w0 S Hp K l a w M' m)
  (hm : m < ops.size) (hl : (K m = 2 \/ K m = 3) -> d8 l (π m)) : AtF tb ops ops' π base M N w0 S Hp K l a w M' (m + 1) := by
 have n2 : K m ≠ 2 := fun h => by
  have := (A.hard m hm h).1 (hl (.inl h))
  omega
 by_cases h3 : K m = 3
 ·obtain ⟨o, ob, f, c, e, cap, blk, e1, e2, e3, e4, e5, e6, e7, e8, e9, e10, e11⟩ := (A.pend m hm h3 (hl (.inr h3)) (Nat.le_refl _)).ex
  have hH : Hp (m + 1) = ⟨(Hp m).next, (Hp m).objs.set (base + m) ob⟩ := by
   rcases mj (hk.step m o e1).1 with g | g | g | g
   ·omega
   ·omega
   ·omega
   ·obtain ⟨_, _, ob', f', g1, _, g3⟩ := g
    rw [e2] at g1
    cases g1
    exact g3
  refine ⟨A.le, hm, ?_, fun p hpl h2 => ?_, fun p hpl hp3 hlt => ?_, A.slots, fun p h1 h2 h3 => ?_, fun p hpl hp3 hli hmp => ?_, fun p q h1 h2 h3 h4 h5 h6 h7 h8 => A.dist p q h1 h2 h3 h4 h5 h6 zy zy⟩
  ·rw [hH]
   exact A.heap.adopt e3 e4 e10 e11 (fun k _ => by simp) e5 e6 e7 e8 e9
  ·have hne : p ≠ m := by rintro rfl; exact n2 h2
   rw [A.hard p hpl h2]
   omega
  ·by_cases hne : p = m
   ·subst hne; exact hl (.inr h3)
   ·exact A.fl p hpl hp3 zy
  ·rw [hH]
   exact A.un p h1 h2 h3
  ·obtain ⟨o', ob', f', c', e', cap', blk', k1, k2, k3, k4, k5, k6, k7, k8, k9, k10, k11⟩ := (A.pend p hpl hp3 hli zy).ex
   refine ⟨o', ob', f', c', e', cap', blk', k1, k2, k3, k4, k5, k6, k7, k8, k9, k10, fun b x y hb hy => ?_⟩
   rw [hH] at hb
   simp only at hb
   rw [az] at hb
   split at hb
   ·rename_i hbn
    subst hbn
    exact A.dist m p hm hpl h3 hp3 (hl (.inr h3)) hli (Nat.le_refl _) zy zy _ _ hy k3
   ·exact k11 b x y hb hy
 ·have hH := pg hp hk hm n2 h3
  refine ⟨A.le, hm, by rw [hH]; exact A.heap, fun p hpl h2 => ?_, fun p hpl hp3 hlt => A.fl p hpl hp3 (by have : p ≠ m := by rintro rfl; exact h3 hp3
                                                                                                          omega), A.slots, fun p h1 h2 h3 => by rw [hH]; exact A.un p h1 h2 h3, fun p hpl hp3 hli hmp => by rw [hH]; exact A.pend p hpl hp3 hli zy,
   fun p q h1 h2 h3 h4 h5 h6 h7 h8 => A.dist p q h1 h2 h3 h4 h5 h6 zy zy⟩
  have hne : p ≠ m := by rintro rfl; exact n2 h2
  rw [A.hard p hpl h2]
  omega
theorem AtF.max {M : Inj} {N : Nat -> Prop} {w0 : Base J} {l : Array Bool} {a : Act} {w : World} {M' : Inj} (hp : Perm ops ops' π) (hk : LookedF tb call n ops ops' π base S Hp V K) : ∀ (g : Nat) {m : Nat}, AtF tb ops ops' π base M N w0 S Hp K l a w M' m -> ops.size - m = g ->
  ∃ m2, AtF tb ops ops' π base M N w0 S Hp K l a w M' m2 /\ (m2 = ops.size \/ (m2 < ops.size /\ (K m2 = 2 \/ K m2 = 3) /\ ¬ d8 l (π m2)))
 | 0, m, A, hg => ⟨m, A, .inl (by have := A.mle; omega)⟩
 | g + 1, m, A, hg => by
  by_cases hm : (K m = 2 \/ K m = 3) /\ ¬ d8 l (π m)
  ·exact ⟨m, A, .inr ⟨by omega, hm.1, hm.2⟩⟩
  ·exact AtF.max hp hk g (A.step hp hk zy (fun h2 => Classical.byContradiction fun h => hm ⟨h2, h⟩)) zy
theorem B5 {M : Inj} {N : Nat -> Prop} {w0 : Base J} {d0 : List Deferred} {l : Array Bool} {a : Act} {w : World} (hp : Perm ops ops' π) (hk : LookedF tb call n ops ops' π base S Hp V K) (I : InvF tb n ops ops' π base M N w0 d0 S Hp K l a w)
  (hall : ∀ i, i < ops.size -> d8 l i) : ∃ M', M.le M' /\ TRel M' (S ops.size) a /\ HRel M' N w0 (Hp ops.size) w := by
 obtain ⟨M', m, A⟩ := I.rel
 obtain ⟨m2, A2, hm⟩ := A.max hp hk _ rfl
 rcases hm with rfl | ⟨h1, _, h2⟩
 ·refine ⟨M', A2.le, fun t v hv => A2.slots t ops.size (Nat.le_refl _) (fun i o hi _ => ?_) v hv, A2.heap⟩
  have hlt : i < ops.size := by rw [<- hp.size]; exact (Array.getElem?_eq_some_iff.1 hi).1
  exact ⟨fun _ => hlt, fun _ => hall _ (hp.lt i hlt)⟩
 ·exact absurd (hall _ (hp.lt m2 h1)) h2

theorem uD (H : TabOK P tb J) (hcall : gO P J call) (hS : Static ops) (hp : Perm ops ops' π) (hk : LookedF tb call n ops ops' π base S Hp V K) {M : Inj} {N : Nat -> Prop} {w0 : Base J} {d0 : List Deferred}
  (hres : ∀ b, w0.res b -> b < base) {Q : Exit -> Act -> World -> Prop}
  (hQ : ∀ M' a' w', M.le M' -> TRel M' (S ops.size) a' -> a'.tmps.size = n -> a'.defers = d0 -> HRel M' N w0 (Hp ops.size) w' -> Q .normal a' w') :
  ∀ (fuel : Nat) (l : Array Bool) (a : Act) (w : World), sM l ops.size = fuel -> InvF tb n ops ops' π base M N w0 d0 S Hp K l a w -> wpAny P .any ops Q fuel l a w := by
 have fin : ∀ (l : Array Bool) (a : Act) (w : World), InvF tb n ops ops' π base M N w0 d0 S Hp K l a w -> (∀ i, i < ops.size -> d8 l i) -> Q .normal a w := by
  intro l a w I hall
  obtain ⟨M', h1, h2, h3⟩ := B5 hp hk I hall
  exact hQ M' a w h1 h2 I.slots I.defs h3
 intro fuel
 induction fuel with
 | zero =>
  intro l a w hu I
  have hall := pO hu
  refine ⟨?_, fin l a w I hall⟩
  cases hr : Region.ready .any ops l with
  | nil => rfl
  | cons j rs =>
   have hj : j ∈ Region.ready .any ops l := by rw [hr]; exact List.mem_cons_self
   obtain ⟨h0, o, ho, _⟩ := mem_ready.1 hj
   exact absurd (hall j (Array.getElem?_eq_some_iff.1 ho).1) (ki h0).1
 | succ fuel ih =>
  intro l a w hu I
  refine ⟨fun hr => fin l a w I ?_, fun j hj => ?_⟩
  ·-- none is ready: all are listed
   intro i
   induction i using Nat.strongRecOn with
   | _ i ihi =>
    intro hi
    by_cases hl : d8 l i
    ·exact hl
    ·exfalso
     have ho : ops[i]? = some ops[i] := Array.getElem?_eq_getElem hi
     have : i ∈ Region.ready .any ops l := by
      rw [mem_ready]
      refine ⟨mN hl (by rw [I.size]; exact hi), _, ho, fun e he hb => ?_⟩
      rw [iU] at hb
      have hlt := hS.edge i _ ho e he hb
      exact ihi e.on hlt zy
     rw [hr] at this
     cases this
  ·obtain ⟨hj0, o, ho, hd⟩ := mem_ready.1 hj
   obtain ⟨hnl, hjs⟩ := ki hj0
   have hjN : j < ops.size := (Array.getElem?_eq_some_iff.1 ho).1
   obtain ⟨p, hpN, hpj⟩ := hp.sur j hjN
   have ho' : ops'[p]? = some o := by rw [hp.get p hpN, hpj]; exact ho
   have hnp : ¬ d8 l (π p) := by rw [hpj]; exact hnl
   have hdir : ∀ e ∈ o.after, cY e = true -> d8 l e.on := fun e he hb => hd e he (by rw [iU]; exact hb)
   obtain ⟨M', m1, A1⟩ := I.rel
   obtain ⟨m, A, hmax⟩ := A1.max hp hk _ rfl
   obtain ⟨hst, hput⟩ := hk.step p o ho'
   have sz' : ∀ q x, ops'[q]? = some x -> q < ops.size := fun q x hx => by rw [<- hp.size]; exact (Array.getElem?_eq_some_iff.1 hx).1
   have og : ∀ q x, ops'[q]? = some x -> ops[π q]? = some x := fun q x hx => by rw [<- hp.get q (sz' q x hx)]; exact hx
   have behind : ∀ q, q < ops.size -> mf ops (π q) (π p) -> ¬ d8 l (π q) := by
    intro q hq hb hl
    have hx : ops[π q]? = some (ops[π q]'(hp.lt q hq)) := Array.getElem?_eq_getElem (hp.lt q hq)
    exact hnp (eD hS I.closed _ _ hx (I.closed _ _ hx hl) _ hb)
   have ahead : ∀ q, q < ops.size -> mf ops (π p) (π q) -> d8 l (π q) /\ q < p := fun q hq hb => ⟨eD hS I.closed j o ho hdir _ (by rw [<- hpj]; exact hb), hp.ord p q hpN hq hb⟩
   have hmle := A.mle
   have hw : ∀ t, t ∈ bU ops.toList o -> ∀ q x, ops'[q]? = some x -> x.dst = some t -> (d8 l (π q) ↔ q < p) := by
    intro t htt q x hx hdx
    have hq := sz' q x hx
    by_cases hij : q = p
    ·subst hij; exact ⟨fun h => absurd h hnp, fun h => by omega⟩
    ·have hne : π q ≠ j := fun h => hij (hp.inj q p hq hpN (by rw [h, hpj]))
     rcases hS.pair (π q) j x o (og q x hx) ho hne t hdx htt with hb | hb
     ·have := ahead q hq (by rw [hpj]; exact hb); exact ⟨fun _ => this.2, fun _ => this.1⟩
     ·have h1 := behind q hq (by rw [hpj]; exact hb)
      have h2 := hp.ord q p hq hpN (by rw [hpj]; exact hb)
      exact ⟨fun h => absurd h h1, fun h => by omega⟩
   obtain ⟨tr, htr⟩ := lQ (S p) (bU ops.toList o)
   have hT : TRel M' tr a := by
    intro t v hv
    rw [htr] at hv
    split at hv
    ·rename_i hmem
     exact A.slots t p zy (fun i x hx hdx => hw t hmem i x hx hdx) v hv
    ·cases hv
   have hopnd : ∀ x ∈ o.op.operands, aS (S p) x = aS tr x := by
    intro x hx
    refine (iO htr (fun t e => ?_)).symm
    unfold bU
    refine List.mem_append_left _ (List.mem_append_right _ ?_)
    exact List.mem_filterMap.2 ⟨x, by simpa using hx, by rw [e]⟩
   have hwant : aK ops.toList (S p) o = aK ops.toList tr o := by
    unfold aK
    cases hg : o.guard with
    | none => rfl
    | some gw =>
     obtain ⟨g, want⟩ := gw
     simp only
     cases hog : ops.toList[g]? with
     | none => rfl
     | some og =>
      simp only
      cases hgd : og.dst with
      | none => rfl
      | some d =>
       have : d ∈ bU ops.toList o := by
        unfold bU
        refine List.mem_append_right _ ?_
        simp only [hg, hog, Option.bind_some, hgd]
        simp
       simp only [htr d, if_pos this]
   have dstT : ∀ t, o.dst = some t -> t ∈ bU ops.toList o := by
    intro t hdt
    unfold bU
    refine List.mem_append_left _ (List.mem_append_left _ ?_)
    rw [hdt]; simp
   have closed' : oh ops (l.setIfInBounds j true) := by
    intro i x hx hl e he hb
    rw [eT hjs] at hl ⊢
    rcases hl with rfl | hl
    ·rw [ho] at hx; cases hx; exact .inr (hdir e he hb)
    ·exact .inr (I.closed i x hx hl e he hb)
   have lset : ∀ q, q < ops.size -> (d8 (l.setIfInBounds j true) (π q) ↔ (q = p \/ d8 l (π q))) := by
    intro q hq
    rw [eT hjs]
    constructor
    ·rintro (h | h)
     ·exact .inl (hp.inj q p hq hpN (by rw [h, hpj]))
     ·exact .inr h
    ·rintro (rfl | h)
     ·exact .inl hpj
     ·exact .inr h
   obtain ⟨hp1, hp2⟩ := eI hput
   have hfuel : sM (l.setIfInBounds j true) ops.size = fuel := by have := sN hnl hjs hjN; omega
   have slots' : ∀ (M2 : Inj) (u : Value), M'.le M2 -> VRel M2 (V p) u -> ∀ t q, q <= ops.size -> (∀ i x, ops'[i]? = some x -> x.dst = some t -> (d8 (l.setIfInBounds j true) (π i) ↔ i < q)) -> ∀ v, (S q).get t = some v ->
     VRel M2 v ((a.put o.dst u).tmps.getD t undef) := by
    intro M2 u hM2 hv t q hq hwr v hvt
    rw [lN a o.dst u t (fun x hx => by rw [I.slots]; exact hp1 x hx)]
    by_cases hdt : o.dst = some t
    ·rw [if_pos hdt]
     have hjq : p < q := (hwr p o ho' hdt).1 ((lset p hpN).2 (.inl rfl))
     have hsame := pD hp hk t (q - (p + 1)) (p + 1) zy (fun i x h1 h2 hx hdx => by
      have hli := (lset i (sz' i x hx)).1 ((hwr i x hx hdx).2 zy)
      have hli : d8 l (π i) := hli.resolve_left zy
      have := (hw t (dstT t hdt) i x hx hdx).1 hli
      omega)
     rw [show p + 1 + (q - (p + 1)) = q by omega] at hsame
     rw [hsame, hp2 t, if_pos hdt] at hvt
     cases hvt
     exact hv
    ·rw [if_neg hdt]
     refine (A.slots t q hq (fun i x hx hdx => ?_) v hvt).mono hM2
     have g1 := hwr i x hx hdx
     rw [lset i (sz' i x hx)] at g1
     have hne : i ≠ p := by rintro rfl; rw [ho'] at hx; cases hx; exact hdt hdx
     exact ⟨fun h => g1.1 (.inr h), fun h => (g1.2 h).resolve_left hne⟩
   have go : ∀ (M2 : Inj) (u : Value) (w2 : World) (m' : Nat), K p ≠ 3 -> M'.le M2 -> VRel M2 (V p) u -> (m' = m \/ (m = p /\ m' = p + 1)) -> HRel M2 N w0 (Hp m') w2 ->
     (∀ i, i < ops.size -> K i = 2 -> ((i = p \/ d8 l (π i)) ↔ i < m')) ->
     (∀ q, q < ops.size -> K q = 3 -> ¬ d8 l (π q) -> M2 (base + q) = none /\ base + q < (Hp m').next) ->
     (∀ q i, q < ops.size -> K q = 3 -> d8 l (π q) -> m <= q -> M' (base + q) = some i -> w2.heap[i.blk]? = w.heap[i.blk]? /\ ∀ b x y, (Hp m').objs.get b = some x -> M2 b = some y -> y.blk ≠ i.blk) ->
     wpAny P .any ops Q fuel (l.setIfInBounds j true) (a.put o.dst u) w2 := by
    intro M2 u w2 m' hn3 hM2 hv hm' hheap hhard hun hpend
    have nj : ∀ i, K i = 3 -> i ≠ p := by rintro i hf rfl; exact hn3 hf
    refine ih _ _ _ hfuel ⟨by simp [I.size], closed', by rw [ia]; exact I.slots, by rw [iA]; exact I.defs, M2, m', Inj.le_trans A.le hM2, by omega, hheap, ?_, ?_, slots' M2 u hM2 hv, ?_, ?_, ?_⟩
    ·intro i hi hki
     rw [lset i hi]
     exact hhard i hi hki
    ·intro i hi hf hlt
     rw [lset i hi]
     have := nj i hf
     exact .inr (A.fl i hi hf zy)
    ·intro q hq h3 hl
     rw [lset q hq] at hl
     exact hun q hq h3 (fun h => hl (.inr h))
    ·intro q hq hf hli hmi
     rw [lset q hq] at hli
     have hli : d8 l (π q) := hli.resolve_left (nj q hf)
     have hmi' : m <= q := by omega
     obtain ⟨o', ob', f', c', e', cap', blk', k1, k2, k3, k4, k5, k6, k7, k8, k9, k10, k11⟩ := (A.pend q hq hf hli hmi').ex
     obtain ⟨g1, g2⟩ := hpend q _ hq hf hli hmi' k3
     exact ⟨o', ob', f', c', e', cap', blk', k1, k2, hM2 _ _ k3, by rw [g1]; exact k4, k5, k6, k7, k8, fun k v hv => let ⟨u, q1, q2⟩ := k9 k v hv; ⟨u, q1, q2.mono hM2⟩, k10, g2⟩
    ·intro i i' h1 h2 h3 h4 h5 h6 h7 h8 h9 x y hx hy
     rw [lset i h1] at h5
     rw [lset i' h2] at h6
     have h5 := h5.resolve_left (nj i h3)
     have h6 := h6.resolve_left (nj i' h4)
     obtain ⟨_, _, _, _, _, _, _, _, _, k3, _⟩ := (A.pend i h1 h3 h5 zy).ex
     obtain ⟨_, _, _, _, _, _, _, _, _, k3', _⟩ := (A.pend i' h2 h4 h6 zy).ex
     have e1 := hM2 _ _ k3
     have e2 := hM2 _ _ k3'
     rw [hx] at e1
     rw [hy] at e2
     cases e1
     cases e2
     exact A.dist i i' h1 h2 h3 h4 h5 h6 zy zy h9 _ _ k3 k3'
   have same : ∀ q i, q < ops.size -> K q = 3 -> d8 l (π q) -> m <= q -> M' (base + q) = some i -> w.heap[i.blk]? = w.heap[i.blk]? /\ ∀ b x y, (Hp m).objs.get b = some x -> M' b = some y -> y.blk ≠ i.blk := by
    intro q i hq hf hl hm hi
    obtain ⟨o', ob', f', c', e', cap', blk', k1, k2, k3, k4, k5, k6, k7, k8, k9, k10, k11⟩ := (A.pend q hq hf hl hm).ex
    rw [hi] at k3
    cases k3
    exact ⟨rfl, k11⟩
   rcases mj hst with ⟨hk0, hw0, hv0, _⟩ | ⟨hk1, hw1, hq1, _⟩ | ⟨hk2, hw2, hl2⟩ | ⟨hk3, hw3, ob, f, hmk, hvf, hHf⟩
   ·-- not wanted
    unfold wpOp
    simp only [ho]
    rw [hwant] at hw0
    rw [cc hT hw0]
    simp only [Bool.false_eq_true, if_false]
    refine go M' undef w m zy (Inj.le_refl M') (by rw [hv0]; exact .tuple [] #[] rfl (fun i v u p => by simp at p)) (.inl rfl) A.heap (fun i hi hki => ?_) A.un same
    have hne : i ≠ p := by rintro rfl; omega
    exact ⟨fun h => (A.hard i hi hki).1 (h.resolve_left hne), fun h => .inr ((A.hard i hi hki).2 h)⟩
   ·-- quiet
    obtain ⟨m0, g1, g2, g3, g4⟩ := t4 hp hk m hmle
    have hqq := hk.quiets p o ho' hk1 m0 g1 (fun q hq hkq => ⟨fun hb => (g4 q hq (.inl hkq)).1 ((A.hard q hq hkq).1 (ahead q hq hb).1), fun hb => by
     have h1 := behind q hq hb
     rcases Nat.lt_or_ge q m0 with h | h
     ·exact absurd ((A.hard q hq hkq).2 ((g4 q hq (.inl hkq)).2 h)) h1
     ·exact h⟩) (fun q hq hkq hb => by
     have h1 := behind q hq hb
     rcases Nat.lt_or_ge q m0 with h | h
     ·exact absurd (A.fl q hq hkq ((g4 q hq (.inr hkq)).2 h)) h1
     ·exact h)
    rw [g3] at hqq
    unfold kQ at hqq
    split at hqq
    ·rename_i r hq
     subst hqq
     rw [fW hopnd] at hq
     unfold wpOp
     simp only [ho]
     rw [hwant] at hw1
     rw [cc hT hw1, if_pos rfl]
     refine .inl ?_
     obtain ⟨u, h1, h2⟩ := lO H hT A.heap hq
     unfold Oper.wp
     rw [h1, Oper.upon_value]
     refine go M' u w m zy (Inj.le_refl M') h2 (.inl rfl) A.heap (fun i hi hki => ?_) A.un same
     have hne : i ≠ p := by rintro rfl; omega
     exact ⟨fun h => (A.hard i hi hki).1 (h.resolve_left hne), fun h => .inr ((A.hard i hi hki).2 h)⟩
    ·cases hqq
   ·-- memory is turned
    have hlo : ∀ q, q < p -> (K q = 2 \/ K q = 3) -> d8 l (π q) := fun q hq hkq => (ahead q zy (hk.hards p hpN hk2 q hq hkq)).1
    have hmp : m = p := by
     have h1 : ¬ p < m := fun h => hnp ((A.hard p hpN hk2).2 h)
     rcases hmax with h | ⟨g1, g2, g3⟩
     ·omega
     ·rcases Nat.lt_or_ge m p with h | h
      ·exact absurd (hlo m h g2) g3
      ·omega
    have hHm : Hp m = Hp p := by rw [hmp]
    have hh : HRel M' N w0 (Hp p) w := by rw [<- hHm]; exact A.heap
    rw [fW hopnd] at hl2
    unfold wpOp
    simp only [ho]
    rw [hwant] at hw2
    rw [cc hT hw2, if_pos rfl]
    refine .inl ?_
    have hb := hh.rebase (N' := fun k => N k \/ ∃ q i, q < ops.size /\ K q = 3 /\ d8 l (π q) /\ m <= q /\ M' (base + q) = some i /\ k = i.blk) (fun b => w0.res b \/ ∃ q, q < ops.size /\ K q = 3 /\ ¬ d8 l (π q) /\ b = base + q)
     (fun k hk => .inl hk) (by
      rintro k (hk | ⟨q, i, hq, hf, hl, hm, hi, rfl⟩)
      ·exact hh.big k hk
      ·obtain ⟨o', ob', f', c', e', cap', blk', k1, k2, k3, k4, _⟩ := (A.pend q hq hf hl hm).ex
       rw [hi] at k3
       cases k3
       exact (Array.getElem?_eq_some_iff.1 k4).1) (fun b x y hb hy hNo hN => by
      rcases hN with hN | ⟨q, i, hq, hf, hl, hm, hi, he⟩
      ·exact hNo hN
      ·exact (same q i hq hf hl hm hi).2 b x y (by rw [hHm]; exact hb) hy he) (by
      rintro b (hb | ⟨q, hq, hf, hl, rfl⟩)
      ·exact hh.res b hb
      ·rw [<- hHm]; exact A.un q hq hf hl)
    refine nX H hT hb hcall hl2 (fun M2 u w2 hM2 hh2 hv2 => ?_)
    have hh3 : HRel M2 N w0 (Hp (p + 1)) w2 := hh.unbase (fun k hk => .inl hk) (fun b hb => .inl hb) hh2
    refine go M2 u w2 (p + 1) zy hM2 hv2 (.inr ⟨hmp, rfl⟩) hh3 (fun i hi hki => ?_) (fun q hq hf hl => hh2.res _ (.inr ⟨q, hq, hf, hl, rfl⟩)) (fun q i hq hf hl hm hi => ?_)
    ·have := A.hard i hi hki
     rw [hmp] at this
     constructor
     ·rintro (rfl | h)
      ·omega
      ·have := this.1 h; omega
     ·intro h
      by_cases hij : i = p
      ·exact .inl hij
      ·exact .inr (this.2 zy)
    ·refine ⟨hh2.below.block _ (.inr ⟨q, i, hq, hf, hl, hm, hi, rfl⟩), fun b x y hb2 hy he => ?_⟩
     rcases ((hh2.live b x hb2).blk_lt hy).2 with g | g
     ·exact g (.inr ⟨q, i, hq, hf, hl, hm, hi, he⟩)
     ·obtain ⟨o', ob', f', c', e', cap', blk', k1, k2, k3, k4, k5, k6, k7, k8, k9, k10, k11⟩ := (A.pend q hq hf hl hm).ex
      rw [hi] at k3
      cases k3
      have he' : y.blk = blk' := he
      exact k10 (hh.lim _ (by rw [<- he']; exact g))
   ·-- a maker
    rw [qS hopnd] at hmk
    obtain ⟨c, e, cap, res, r1, r2, r3, r4, r5, r6, r7⟩ := GP H hT hmk w
    unfold wpOp
    simp only [ho]
    rw [hwant] at hw3
    rw [cc hT hw3, if_pos rfl]
    refine .inl ?_
    unfold Oper.wp
    rw [r1, Oper.upon_value]
    have hG := Grow.alloc w (.cells c e)
    obtain ⟨u1, u2⟩ := A.un p hpN hk3 hnp
    obtain ⟨hM2, hh2⟩ := A.heap.know hG u1 u2 (fun h => by have := hres _ h; omega) ⟨w.heap.size, 0, cap, ob.sz, undef⟩
    have hself : (M'.upd (base + p) ⟨w.heap.size, 0, cap, ob.sz, undef⟩) (base + p) = some ⟨w.heap.size, 0, cap, ob.sz, undef⟩ := by simp [Inj.upd]
    have hother : ∀ b, b ≠ base + p -> (M'.upd (base + p) ⟨w.heap.size, 0, cap, ob.sz, undef⟩) b = M' b := fun b hb => by unfold Inj.upd; rw [if_neg hb]
    have hnm : ¬ p < m := fun h => hnp (A.fl p hpN hk3 h)
    have hlive : ∀ b x y, (Hp m).objs.get b = some x -> (M'.upd (base + p) ⟨w.heap.size, 0, cap, ob.sz, undef⟩) b = some y -> M' b = some y := by
     intro b x y hb hy
     by_cases hbp : b = base + p
     ·subst hbp
      rcases A.heap.live _ _ hb with ⟨⟨z, hz, _⟩, _⟩ | ⟨z, _, _, _, hz, _⟩ | ⟨z, _, _, hz, _⟩ <;> rw [u1] at hz <;> cases hz
     ·rw [hother b hbp] at hy; exact hy
    refine ih _ _ _ hfuel ⟨by simp [I.size], closed', by rw [ia]; exact I.slots, by rw [iA]; exact I.defs, _, m, Inj.le_trans A.le hM2, hmle, hh2, ?_, ?_, slots' _ _ hM2 (by rw [hvf]; exact r7 _ _ _ hself), ?_, ?_, ?_⟩
    ·intro i hi hki
     rw [lset i hi]
     have hne : i ≠ p := by rintro rfl; omega
     exact ⟨fun h => (A.hard i hi hki).1 (h.resolve_left hne), fun h => .inr ((A.hard i hi hki).2 h)⟩
    ·intro i hi hf hlt
     rw [lset i hi]
     exact .inr (A.fl i hi hf hlt)
    ·intro q hq h3 hl
     rw [lset q hq] at hl
     have hne : q ≠ p := fun h => hl (.inl h)
     rw [hother _ zy]
     exact A.un q hq h3 (fun h => hl (.inr h))
    ·intro q hq hf hli hmi
     rw [lset q hq] at hli
     by_cases hqp : q = p
     ·subst hqp
      refine ⟨o, ob, f, c, e, cap, w.heap.size, ho', by rw [qS hopnd]; exact hmk, hself, hG.new, r2, r3, r4, r5, fun k v hv => let ⟨u, q1, q2⟩ := r6 k v hv; ⟨u, q1, q2.mono hM2⟩, fun hN => Nat.lt_irrefl _ (A.heap.big _ hN), fun b x y hb hy => ?_⟩
      have := ((A.heap.live b x hb).blk_lt (hlive b x y hb hy)).1
      omega
     ·have hli := hli.resolve_left hqp
      obtain ⟨o', ob', f', c', e', cap', blk', k1, k2, k3, k4, k5, k6, k7, k8, k9, k10, k11⟩ := (A.pend q hq hf hli hmi).ex
      have hlt := (Array.getElem?_eq_some_iff.1 k4).1
      exact ⟨o', ob', f', c', e', cap', blk', k1, k2, hM2 _ _ k3, by rw [hG.old _ hlt]; exact k4, k5, k6, k7, k8, fun k v hv => let ⟨u, q1, q2⟩ := k9 k v hv; ⟨u, q1, q2.mono hM2⟩, k10, fun b x y hb hy => k11 b x y hb (hlive b x y hb hy)⟩
    ·intro i i' h1 h2 h3 h4 h5 h6 h7 h8 h9 x y hx hy
     rw [lset i h1] at h5
     rw [lset i' h2] at h6
     have bl : ∀ q z, q < ops.size -> K q = 3 -> d8 l (π q) -> m <= q -> M' (base + q) = some z -> z.blk < w.heap.size := by
      intro q z hq hf hl hm hz
      obtain ⟨o', ob', f', c', e', cap', blk', k1, k2, k3, k4, _⟩ := (A.pend q hq hf hl hm).ex
      rw [hz] at k3
      cases k3
      exact (Array.getElem?_eq_some_iff.1 k4).1
     by_cases g1 : i = p
     ·have g2 : i' ≠ p := by omega
      rw [g1, hself] at hx
      cases hx
      rw [hother _ zy] at hy
      have := bl i' y h2 h4 (h6.resolve_left g2) h8 hy
      simp only
      omega
     ·rw [hother _ zy] at hx
      by_cases g2 : i' = p
      ·rw [g2, hself] at hy
       cases hy
       have := bl i x h1 h3 (h5.resolve_left g1) h7 hx
       simp only
       omega
      ·rw [hother _ zy] at hy
       exact A.dist i i' h1 h2 h3 h4 (h5.resolve_left g1) (h6.resolve_left g2) h7 h8 h9 x y hx hy
structure RecF (tb : Tab) (call : Nat -> List AV -> AHeap -> Option (AV × AHeap)) (n : Nat) (ops : List Oper) (base i : Nat) (rest : List Oper) (tm : T AV) (h : AHeap)
  (es : List Ent) (ms : List (Nat × AHeap)) (tm' : T AV) (h' : AHeap) (S : Nat -> T AV) (Hp : Nat -> AHeap) (V : Nat -> AV) (K : Nat -> Nat) : Prop where
 s0 : S i = tm
 h0 : Hp i = h
 s1 : S (i + rest.length) = tm'
 h1 : Hp (i + rest.length) = h'
 step : ∀ k o, rest[k]? = some o -> gG tb call ops (base + (i + k)) (S (i + k)) (Hp (i + k)) o = some (V (i + k), Hp (i + k + 1), K (i + k)) /\ bE (S (i + k)) n o.dst (V (i + k)) = some (S (i + k + 1))
 mem : ∀ k o, rest[k]? = some o -> (⟨i + k, o, S (i + k), V (i + k), K (i + k)⟩ : Ent) ∈ es
 of : ∀ e ∈ es, ∃ k o, rest[k]? = some o /\ e = ⟨i + k, o, S (i + k), V (i + k), K (i + k)⟩
 mark : ∀ k, k < rest.length -> 2 <= K (i + k) -> (i + k + 1, Hp (i + k + 1)) ∈ ms
 nomark : ms = [] -> ∀ k, k < rest.length -> ¬ 2 <= K (i + k)

theorem pL {ops : List Oper} : ∀ {rest : List Oper} {i : Nat} {tm tm' : T AV} {h h' : AHeap} {es : List Ent} {ms : List (Nat × AHeap)},
  bw tb call n ops base i rest tm h = some (es, ms, tm', h') -> ∃ S Hp V K, RecF tb call n ops base i rest tm h es ms tm' h' S Hp V K
 | [], i, tm, tm', h, h', es, ms, he => by
  simp only [bw, Option.some.injEq, Prod.mk.injEq] at he
  obtain ⟨rfl, rfl, rfl, rfl⟩ := he
  exact ⟨fun _ => tm, fun _ => h, fun _ => .nilp, fun _ => 0, rfl, rfl, rfl, rfl, by simp, by simp, by simp, by simp, by simp⟩
 | o :: rest, i, tm, tm', h, h', es, ms, he => by
  unfold bw at he
  split at he
  ·rename_i v h1 k he1
   split at he
   ·rename_i tm1 hp
    split at he
    ·rename_i es1 ms1 tm2 h2 ht
     simp only [Option.some.injEq, Prod.mk.injEq] at he
     obtain ⟨rfl, rfl, rfl, rfl⟩ := he
     obtain ⟨S, Hp, V, K, R⟩ := pL ht
     have ne : ∀ k, i + (k + 1) ≠ i := fun k => by omega
     have sh : ∀ k, i + (k + 1) = i + 1 + k := fun k => by omega
     refine ⟨fun j => if j = i then tm else S j, fun j => if j = i then h else Hp j, fun j => if j = i then v else V j, fun j => if j = i then k else K j, by simp, by simp, ?_, ?_, ?_, ?_, ?_, ?_, ?_⟩
     ·simp only [List.length_cons]
      rw [if_neg zy, sh]
      exact R.s1
     ·simp only [List.length_cons]
      rw [if_neg zy, sh]
      exact R.h1
     ·intro q x hq
      cases q with
      | zero =>
       simp at hq
       subst hq
       have : ¬ (i + 1 = i) := by omega
       simp only [Nat.add_zero, if_true, this, if_false]
       rw [R.s0, R.h0]
       exact ⟨he1, hp⟩
      | succ q =>
       have := R.step q x (by simpa using hq)
       have e1 : ¬ (i + (q + 1) = i) := by omega
       have e2 : ¬ (i + (q + 1) + 1 = i) := by omega
       simp only [e1, e2, if_false]
       rw [sh]
       exact this
     ·intro q x hq
      cases q with
      | zero =>
       simp at hq
       subst hq
       simp
      | succ q =>
       have e1 : ¬ (i + (q + 1) = i) := by omega
       simp only [e1, if_false]
       rw [sh]
       exact List.mem_cons_of_mem _ (R.mem q x (by simpa using hq))
     ·intro e he
      rcases List.mem_cons.1 he with rfl | he
      ·exact ⟨0, o, rfl, by simp⟩
      ·obtain ⟨q, x, hq, hx⟩ := R.of e he
       refine ⟨q + 1, x, by simpa using hq, ?_⟩
       have e1 : ¬ (i + (q + 1) = i) := by omega
       simp only [e1, if_false]
       rw [sh]
       exact hx
     ·intro q hq hk
      cases q with
      | zero =>
       have : ¬ (i + 1 = i) := by omega
       simp only [Nat.add_zero, if_true] at hk
       simp only [Nat.add_zero, this, if_false, hk, if_true]
       rw [R.h0]
       exact List.mem_cons_self
      | succ q =>
       have e1 : ¬ (i + (q + 1) = i) := by omega
       have e2 : ¬ (i + (q + 1) + 1 = i) := by omega
       simp only [e1, if_false] at hk
       simp only [e2, if_false]
       rw [sh] at hk
       have := R.mark q (by simpa using hq) hk
       rw [show i + (q + 1) + 1 = i + 1 + q + 1 by omega]
       split
       ·exact List.mem_cons_of_mem _ this
       ·exact this
     ·intro hm q hq
      by_cases h2 : 2 <= k
      ·rw [if_pos h2] at hm; cases hm
      ·rw [if_neg h2] at hm
       cases q with
       | zero => simpa using h2
       | succ q =>
        have e1 : ¬ (i + (q + 1) = i) := by omega
        simp only [e1, if_false]
        rw [sh]
        exact R.nomark hm q (by simpa using hq)
    ·cases he
   ·cases he
  ·cases he

theorem EW (hS : Static ops) {ord : List Nat} (h : ug (ay ops.toList []) ops.toList.length ord = true) :
  Perm ops (ord.filterMap fun i => ops.toList[i]?).toArray (fun p => ord.getD p 0) := by
 unfold ug at h
 simp only [Bool.and_eq_true, Nat.beq_eq, List.all_eq_true, List.mem_range, Bool.or_eq_true, Bool.not_eq_true', Nat.blt_eq, List.contains_iff_mem] at h
 obtain ⟨⟨⟨h1, h2⟩, h3⟩, h4⟩ := h
 have hsz : ops.toList.length = ops.size := by simp
 rw [hsz] at h1 h2 h3 h4
 have hget : ∀ p, p < ops.size -> ∃ x, ord[p]? = some x /\ ord.getD p 0 = x /\ x < ops.size := by
  intro p hp
  have hl : p < ord.length := by omega
  exact ⟨ord[p], List.getElem?_eq_getElem hl, by simp [List.getD, List.getElem?_eq_getElem hl], h3 _ (List.getElem_mem hl)⟩
 have hmap : ∀ l : List Nat, (∀ x ∈ l, x < ops.size) -> (l.filterMap fun i => ops.toList[i]?).length = l.length /\ ∀ p : Nat, (l.filterMap fun i => ops.toList[i]?)[p]? = (l[p]?).bind fun i => ops.toList[i]? := by
  intro l
  induction l with
  | nil => intro _; simp
  | cons x l ih =>
   intro hx
   obtain ⟨i1, i2⟩ := ih fun y hy => hx y (List.mem_cons_of_mem _ hy)
   have hxl : x < ops.toList.length := by rw [hsz]; exact hx x (List.mem_cons_self)
   have hxe : ops.toList[x]? = some ops.toList[x] := List.getElem?_eq_getElem hxl
   have hcons : ((x :: l).filterMap fun i => ops.toList[i]?) = ops.toList[x] :: (l.filterMap fun i => ops.toList[i]?) := by
    rw [List.filterMap_cons, hxe]
   rw [hcons]
   refine ⟨by simp only [List.length_cons, i1], fun p => ?_⟩
   cases p with
   | zero => simp only [List.getElem?_cons_zero, Option.bind_some]; exact hxe.symm
   | succ p => simp only [List.getElem?_cons_succ]; exact i2 p
 obtain ⟨m1, m2⟩ := hmap ord h3
 refine ⟨by simp only [List.size_toArray]; omega, fun p hp => ?_, fun p hp => ?_, fun p q hp hq he => ?_, fun j hj => ?_, fun p q hp hq hb => ?_⟩
 ·obtain ⟨x, _, e2, e3⟩ := hget p hp
  rw [e2]; exact e3
 ·obtain ⟨x, e1, e2, e3⟩ := hget p hp
  rw [e2]
  simp only [List.getElem?_toArray]
  rw [m2, e1]
  simp
 ·rcases (h4 p hp q hq).1 with g | g
  ·exact g
  ·rw [he] at g
   simp at g
 ·have := h2 j hj
  obtain ⟨p, hpl, hpe⟩ := List.getElem_of_mem this
  refine ⟨p, by omega, ?_⟩
  simp [List.getD, List.getElem?_eq_getElem hpl, hpe]
 ·rcases (h4 p hp q hq).2 with g | g
  ·exact g
  ·unfold mf at hb
   rw [hb] at g
   cases g
theorem vr (H : TabOK P tb J) (hcall : gO P J call) (hmo : P.follows .mixedOrders = true) (hS : Static ops) {M : Inj} {N : Nat -> Prop} {w0 : Base J} {tm tm' : T AV} {h h' : AHeap} {a : Act} {w : World} {id : Nat}
  {Q : Exit -> Act -> World -> Prop} (ht : TRel M tm a) (hs : a.tmps.size = n) (hh : HRel M N w0 h w) (he : eQ tb call n ops.toList tm h = some (tm', h'))
  (hQ : ∀ M' a' w', M.le M' -> TRel M' tm' a' -> a'.tmps.size = n -> a'.defers = a.defers -> HRel M' N w0 h' w' -> Q .normal a' w') : (Code.region id ops true).wp P Q a w := by
 unfold eQ at he
 split at he
 rotate_left
 ·cases he
 rename_i hord
 have hp := EW hS hord
 split at he
 rotate_left
 ·cases he
 rename_i es ms tm1 h1 htr
 split at he
 rotate_left
 ·cases he
 rename_i hall
 simp only [Option.some.injEq, Prod.mk.injEq] at he
 obtain ⟨rfl, rfl⟩ := he
 obtain ⟨S, Hp, V, K, R⟩ := pL htr
 have hlen : ((cm ops.toList).filterMap fun i => ops.toList[i]?).length = ops.size := by have := hp.size; simpa using this
 have hlen2 : ops.toList.length = ops.size := by simp
 simp only [List.all_eq_true] at hall
 generalize hops' : ((cm ops.toList).filterMap fun i => ops.toList[i]?) = rest at *
 have get : ∀ (p : Nat) (o : Oper), rest.toArray[p]? = some o ↔ rest[p]? = some o := fun p o => by simp
 have ent : ∀ p o, rest[p]? = some o -> (⟨p, o, S p, V p, K p⟩ : Ent) ∈ es := by
  intro p o ho
  have := R.mem p o ho
  simpa using this
 have kinds : ∀ k i, i ∈ fp k es ↔ (i < ops.size /\ K i = k) := by
  intro k i
  unfold fp
  rw [List.mem_filterMap]
  constructor
  ·rintro ⟨e, he, hi⟩
   obtain ⟨q, o, hk, rfl⟩ := R.of e he
   have hlt : q < ops.size := by rw [<- hlen]; exact (List.getElem?_eq_some_iff.1 hk).1
   simp only [Nat.zero_add] at hi
   split at hi
   ·rename_i h2
    cases hi
    exact ⟨hlt, h2⟩
   ·cases hi
  ·rintro ⟨hi, h2⟩
   have := ent i _ (List.getElem?_eq_getElem (by rw [hlen]; exact hi))
   exact ⟨_, this, by simp [h2]⟩
 have step : ∀ p o, rest.toArray[p]? = some o -> gG tb call ops.toList (h.next + p) (S p) (Hp p) o = some (V p, Hp (p + 1), K p) /\ bE (S p) n o.dst (V p) = some (S (p + 1)) := by
  intro p o ho
  have := R.step p o ((get p o).1 ho)
  simpa using this
 have hk : LookedF tb call n ops rest.toArray (fun p => (cm ops.toList).getD p 0) h.next S Hp V K := by
  refine ⟨step, fun p hpl h2 q hq hkq => ?_, fun p o ho h1 m hm hok hok3 => ?_⟩
  ·have := hall _ (ent p _ (List.getElem?_eq_getElem (by rw [hlen]; exact hpl)))
   unfold tQ at this
   simp only [h2, Bool.and_eq_true, List.all_eq_true, Bool.or_eq_true, Bool.not_eq_true'] at this
   have hb : Nat.blt q p = true := by rw [Nat.blt_eq]; exact hq
   rcases hkq with hkq | hkq
   ·rcases this.1 q ((kinds 2 q).2 ⟨by omega, hkq⟩) with g | g
    ·rw [hb] at g; cases g
    ·exact g
   ·rcases this.2 q ((kinds 3 q).2 ⟨by omega, hkq⟩) with g | g
    ·rw [hb] at g; cases g
    ·exact g
  ·have := hall _ (ent p o ((get p o).1 ho))
   unfold tQ at this
   simp only [h1, List.all_eq_true, Bool.or_eq_true, Bool.not_eq_true'] at this
   have hmm : (m, Hp m) ∈ (0, (⟨h.next + ops.toList.length, h.objs⟩ : AHeap)) :: ms := by
    rcases hm with rfl | ⟨i, hi, h2, rfl⟩
    ·rw [R.h0]; exact List.mem_cons_self
    ·refine List.mem_cons_of_mem _ ?_
     have := R.mark i (by rw [hlen]; exact hi) (by rcases h2 with h2 | h2 <;> simp [h2])
     simpa using this
   rcases this (m, Hp m) hmm with g | g
   ·exfalso
    revert g
    rw [Bool.eq_false_iff]
    simp only [ne_eq, Bool.not_eq_true]
    intro g
    have hT : ((fp 2 es).all (fun i => (!(((ay ops.toList []).getD ((cm ops.toList).getD p 0) 0).testBit ((cm ops.toList).getD i 0)) || Nat.blt i m) && (!(((ay ops.toList []).getD ((cm ops.toList).getD i 0) 0).testBit ((cm ops.toList).getD p 0)) || Nat.ble m i)) &&
      (fp 3 es).all fun i => !(((ay ops.toList []).getD ((cm ops.toList).getD i 0) 0).testBit ((cm ops.toList).getD p 0)) || Nat.ble m i) = true := by
     simp only [Bool.and_eq_true, List.all_eq_true]
     constructor
     ·intro i hi
      obtain ⟨hlt, h2⟩ := (kinds 2 i).1 hi
      obtain ⟨k1, k2⟩ := hok i hlt h2
      simp only [Bool.or_eq_true, Bool.not_eq_true', Nat.blt_eq, Nat.ble_eq]
      constructor
      ·cases hb : ((ay ops.toList []).getD ((cm ops.toList).getD p 0) 0).testBit ((cm ops.toList).getD i 0)
       ·exact .inl rfl
       ·exact .inr (k1 hb)
      ·cases hb : ((ay ops.toList []).getD ((cm ops.toList).getD i 0) 0).testBit ((cm ops.toList).getD p 0)
       ·exact .inl rfl
       ·exact .inr (k2 hb)
     ·intro i hi
      obtain ⟨hlt, h3⟩ := (kinds 3 i).1 hi
      have k2 := hok3 i hlt h3
      simp only [Bool.or_eq_true, Bool.not_eq_true', Nat.ble_eq]
      cases hb : ((ay ops.toList []).getD ((cm ops.toList).getD i 0) 0).testBit ((cm ops.toList).getD p 0)
      ·exact .inl rfl
      ·exact .inr (k2 hb)
    rw [hT] at g
    cases g
   ·split at g
    ·rename_i v hv
     rw [hv, oE _ _ g]
    ·cases g
 have e1 := R.s1
 have e2 := R.h1
 rw [hlen, Nat.zero_add] at e1 e2
 refine wp_region_any hmo ?_
 rw [World.drew_eq]
 have hres : ∀ b, w0.res b -> b < h.next := fun b hb => (hh.res b hb).2
 have hh0 : HRel M N w0 (Hp 0) w.drew := by
  rw [R.h0]
  exact ⟨hh.base, hh.lim, hh.below.drew, hh.big, hh.live, hh.apart, fun b o hb => by have := hh.old b o hb; simp only; omega, fun b hb => hh.fresh b (by simp only at hb; omega), fun b hb => ⟨(hh.res b hb).1, by have := hres b hb; simp only; omega⟩⟩
 refine uD H hcall hS hp hk (M := M) (N := N) (w0 := w0) (d0 := a.defers) hres (fun M' a' w' g1 g2 g3 g4 g5 => hQ M' a' w' g1 (by rw [<- e1]; exact g2) g3 g4 (by rw [<- e2]; exact g5)) ops.size _ a w.drew ?_ ?_
 ·unfold sM
  rw [List.countP_eq_length.2]
  ·simp
  ·intro i hi
   have := List.mem_range.1 hi
   simp [this]
 ·have hnl : ∀ i, ¬ d8 (Array.replicate ops.size false) i := by
   intro i h
   unfold d8 at h
   by_cases hi : i < ops.size
   ·simp [hi] at h
   ·simp [hi] at h
  refine ⟨by simp, fun j o _ hl => absurd hl (hnl j), hs, rfl, M, 0, Inj.le_refl M, Nat.zero_le _, hh0, fun i hi _ => ⟨fun h => absurd h (hnl _), fun h => by omega⟩, fun i _ _ h => by omega, fun t m hm hwr v hv => ?_,
   fun q hq _ _ => ⟨hh.fresh _ zy, ?_⟩, fun i _ _ hl => absurd hl (hnl _), fun i j _ _ _ _ hl => absurd hl (hnl _)⟩
  ·have := pD hp hk t m 0 zy (fun i o _ hi ho hd => by
    have := (hwr i o ho hd).2 zy
    exact hnl _ this)
   rw [Nat.zero_add, R.s0] at this
   rw [this] at hv
   exact ht t v hv
  ·rw [R.h0]
   simp only
   omega
end float

section draw
variable {P : Program} {tb : Tab} {n : Nat} {call : Nat -> List AV -> AHeap -> Option (AV × AHeap)} {ops : Array Oper}
theorem lY : ∀ {rest : List Oper} {i : Nat} {tm tm' : T AV} {h h' : AHeap}, db tb call n ops.toList rest tm h = some (tm', h') ->
  ∃ es ms, bh tb call n ops.toList i rest tm h = some (es, ms, tm', h')
 | [], i, tm, tm', h, h', he => by
  simp only [db, Option.some.injEq, Prod.mk.injEq] at he
  obtain ⟨rfl, rfl⟩ := he
  exact ⟨[], [], rfl⟩
 | o :: rest, i, tm, tm', h, h', he => by
  unfold db at he
  unfold bh
  split at he
  ·rename_i v h1 k he1
   split at he
   ·rename_i tm1 hp
    obtain ⟨es, ms, ht⟩ := lY (i := i + 1) he
    simp only [hp, ht]
    exact ⟨_, _, rfl⟩
   ·cases he
  ·cases he
theorem gJ {o : Op} {tm : T AV} {h : AHeap} {r : Option (AV × AHeap)} (he : cO tb call tm h o = .l r) : bR o = true := by
 unfold cO at he
 cases o <;> first | rfl | (simp at he; done) | skip
 rename_i c
 obtain ⟨callee, args, ts⟩ := c
 cases callee with
 | value f => rfl
 | invoke x m => rfl
 | builtin b => cases b <;> first | rfl | (simp [gq] at he; done)

theorem qx (H : TabOK P tb J) (hcall : gO P J call) (hmo : P.follows .mixedOrders = true) {M : Inj} {N : Nat -> Prop} {w0 : Base J} {tm tm' : T AV} {h h' : AHeap} {a : Act} {w : World} {id : Nat}
  {Q : Exit -> Act -> World -> Prop} (ht : TRel M tm a) (hs : a.tmps.size = n) (hh : HRel M N w0 h w) (he : c7 tb call n ops.toList tm h = some (tm', h'))
  (hQ : ∀ M' a' w', M.le M' -> TRel M' tm' a' -> a'.tmps.size = n -> a'.defers = a.defers -> HRel M' N w0 h' w' -> Q .normal a' w') : (Code.region id ops true).wp P Q a w := by
 unfold c7 at he
 split at he
 ·rename_i hD
  have hS := ra hD
  have hsz : ops.toList.length = ops.size := by simp
  have main : eQ tb call n ops.toList tm h = some (tm', h') \/ ∃ S Hp V K, Looked tb call n ops S Hp V K /\ S 0 = tm /\ Hp 0 = h /\ S ops.size = tm' /\ Hp ops.size = h' := by
   split at he
   ·rename_i hF
    obtain ⟨es, ms, htr⟩ := lY (i := 0) he
    obtain ⟨S, Hp, V, K, R⟩ := gN htr
    have step : ∀ j o, ops[j]? = some o -> fT tb call ops.toList (S j) (Hp j) o = some (V j, Hp (j + 1), K j) /\ bE (S j) n o.dst (V j) = some (S (j + 1)) := by
     intro j o ho
     have := R.step j o (by simpa using ho)
     simpa using this
    have hall : ∀ i j, i < ops.size -> j < ops.size -> K j = 2 -> i ≠ j -> mf ops j i \/ mf ops i j := by
     intro i j hi hj h2 hne
     have ho : ops[j]? = some ops[j] := Array.getElem?_eq_getElem hj
     obtain ⟨s1, _⟩ := step j _ ho
     rcases bX s1 with g | g | g
     ·omega
     ·omega
     ·have hl := gJ g.2.2
      unfold fh at hF
      simp only [List.all_eq_true, Bool.or_eq_true, Bool.not_eq_true', beq_iff_eq] at hF
      have hmj : (ops[j], j) ∈ ops.toList.zipIdx := by rw [List.mem_zipIdx_iff_getElem?]; simp
      have hmi : (ops[i], i) ∈ ops.toList.zipIdx := by rw [List.mem_zipIdx_iff_getElem?]; simp
      rcases hF _ hmj with q | q
      ·rw [hl] at q; cases q
      ·rcases q _ hmi with (q | q) | q
       ·exact absurd q hne
       ·exact .inl q
       ·exact .inr q
    have e1 := R.s1
    have e2 := R.h1
    rw [hsz, Nat.zero_add] at e1 e2
    refine .inr ⟨S, Hp, V, K, ?_, R.s0, R.h0, e1, e2⟩
    have hk0 : ∀ d p, p + d <= ops.size -> (∀ i, p <= i -> i < p + d -> K i ≠ 2) -> Hp (p + d) = Hp p := by
     intro d
     induction d with
     | zero => intro p _ _; rfl
     | succ d ih =>
      intro p hp hn
      have hlt : p + d < ops.size := by omega
      obtain ⟨h1, _⟩ := step (p + d) _ (Array.getElem?_eq_getElem hlt)
      have h2 : Hp (p + d + 1) = Hp (p + d) := by
       rcases bX h1 with h | h | h
       ·exact h.2.2.2
       ·exact h.2.2.2
       ·exact absurd h.1 (hn (p + d) zy zy)
      rw [show p + (d + 1) = p + d + 1 by omega, h2]
      exact ih p zy (fun i h1 h2 => hn i h1 zy)
    refine ⟨step, fun j hj h2 i hi h2i => ?_, fun j o ho h1 m hm hok => ?_⟩
    ·rcases hall i j zy hj h2 zy with g | g
     ·exact g
     ·have := kL hS i j zy g
      omega
    ·have hj : j < ops.size := (Array.getElem?_eq_some_iff.1 ho).1
     have hmle : m <= ops.size := by
      rcases hm with rfl | ⟨i, hi, _, rfl⟩
      ·omega
      ·omega
     have hiff : ∀ i, i < ops.size -> K i = 2 -> (i < m ↔ i < j) := by
      intro i hi h2
      obtain ⟨k1, k2⟩ := hok i hi h2
      rcases hall j i hj hi h2 (by intro e; subst e; omega) with g | g
      ·have := kL hS i j hi g
       have := k2 g
       omega
      ·have := kL hS j i hj g
       have := k1 g
       omega
     have heq : Hp m = Hp j := by
      rcases Nat.le_total m j with hle | hle
      ·have := hk0 (j - m) m zy (fun i h1 h2 h3 => by have := (hiff i zy h3).2 zy; omega)
       rw [show m + (j - m) = j by omega] at this
       exact this.symm
      ·have := hk0 (m - j) j zy (fun i h1 h2 h3 => by have := (hiff i zy h3).1 zy; omega)
       rw [show j + (m - j) = m by omega] at this
       exact this
     rw [heq]
     obtain ⟨s1, _⟩ := step j o ho
     rcases bX s1 with g | g | g
     ·omega
     ·unfold kQ
      rw [qy g.2.2.1]
     ·omega
   ·split at he
    ·exact .inl he
    split at he
    ·rename_i es ms tm1 h1 htr
     obtain ⟨S, Hp, V, K, R⟩ := gN htr
     have hres : eQ tb call n ops.toList tm h = some (tm', h') \/ (tm' = tm1 /\ h' = h1 /\ (ms = [] \/ es.all (iq tb (ay ops.toList []) (es.filterMap fun e => if e.kind = 2 then some e.i else none) ((0, h) :: ms)) = true)) := by
      split at he
      ·simp only [Option.some.injEq, Prod.mk.injEq] at he
       exact .inr ⟨he.1.symm, he.2.symm, .inl rfl⟩
      ·split at he
       ·rename_i hall
        simp only [Option.some.injEq, Prod.mk.injEq] at he
        exact .inr ⟨he.1.symm, he.2.symm, .inr hall⟩
       ·cases he
     rcases hres with hres | hres
     ·exact .inl hres
     refine .inr ?_
     obtain ⟨rfl, rfl, hall⟩ := hres
     have step : ∀ j o, ops[j]? = some o -> fT tb call ops.toList (S j) (Hp j) o = some (V j, Hp (j + 1), K j) /\ bE (S j) n o.dst (V j) = some (S (j + 1)) := by
      intro j o ho
      have := R.step j o (by simpa using ho)
      simpa using this
     have hlook : Looked tb call n ops S Hp V K := by
      rcases hall with hms | hall
      ·-- nothing loud
       have hno : ∀ i, i < ops.size -> K i ≠ 2 := by
        intro i hi
        have := R.nomark hms i (by rw [hsz]; exact hi)
        simpa using this
       refine ⟨step, fun j hj h2 => absurd h2 (hno j hj), fun j o ho h1 m hm _ => ?_⟩
       have hj : j < ops.size := (Array.getElem?_eq_some_iff.1 ho).1
       have hm0 : m = 0 := by
        rcases hm with h | ⟨i, hi, h2, _⟩
        ·exact h
        ·exact absurd h2 (hno i hi)
       subst hm0
       have hconst : ∀ j, j <= ops.size -> Hp j = Hp 0 := by
        intro j
        induction j with
        | zero => intro _; rfl
        | succ j ih =>
         intro hj
         have hlt : j < ops.size := by omega
         obtain ⟨s1, _⟩ := step j _ (Array.getElem?_eq_getElem hlt)
         rcases bX s1 with h | h | h
         ·rw [h.2.2.2]; exact ih zy
         ·rw [h.2.2.2]; exact ih zy
         ·exact absurd h.1 (hno j hlt)
       obtain ⟨s1, _⟩ := step j o ho
       rw [<- hconst j zy]
       rcases bX s1 with h | h | h
       ·omega
       ·unfold kQ
        rw [qy h.2.2.1]
       ·omega
      ·simp only [List.all_eq_true] at hall
       have hloud : ∀ i, i ∈ (es.filterMap fun e => if e.kind = 2 then some e.i else none) ↔ (i < ops.size /\ K i = 2) := by
        intro i
        rw [List.mem_filterMap]
        constructor
        ·rintro ⟨e, he, hi⟩
         obtain ⟨k, o, hk, rfl⟩ := R.of e he
         have hlt : k < ops.size := by rw [<- hsz]; exact (List.getElem?_eq_some_iff.1 hk).1
         simp only [Nat.zero_add] at hi
         split at hi
         ·rename_i h2
          cases hi
          exact ⟨hlt, h2⟩
         ·cases hi
        ·rintro ⟨hi, h2⟩
         have := R.mem i _ (List.getElem?_eq_getElem (by rw [hsz]; exact hi))
         refine ⟨_, this, ?_⟩
         simp [h2]
       refine ⟨step, fun j hj h2 i hi h2i => ?_, fun j o ho h1 m hm hok => ?_⟩
       ·have hmem := R.mem j _ (List.getElem?_eq_getElem (by rw [hsz]; exact hj))
        have := hall _ hmem
        simp only [Nat.zero_add, iq, h2, List.all_eq_true, Bool.or_eq_true, Bool.not_eq_true'] at this
        rcases this i ((hloud i).2 ⟨by omega, h2i⟩) with h | h
        ·have : Nat.blt i j = true := by rw [Nat.blt_eq]; exact hi
         rw [this] at h; cases h
        ·exact h
       ·have hmem := R.mem j o (by simpa using ho)
        have := hall _ hmem
        simp only [Nat.zero_add, iq, h1, List.all_eq_true, Bool.or_eq_true, Bool.not_eq_true'] at this
        have hmm : (m, Hp m) ∈ (0, h) :: ms := by
         rcases hm with rfl | ⟨i, hi, h2, rfl⟩
         ·rw [R.h0]; exact List.mem_cons_self
         ·refine List.mem_cons_of_mem _ ?_
          have := R.mark i (by rw [hsz]; exact hi) (by simpa using h2)
          simpa using this
        rcases this (m, Hp m) hmm with h | h
        ·exfalso
         have hT : (es.filterMap fun e => if e.kind = 2 then some e.i else none).all (fun i => (!(((ay ops.toList []).getD j 0).testBit i) || Nat.blt i m) && (!(((ay ops.toList []).getD i 0).testBit j) || Nat.ble m i)) = true := by
          rw [List.all_eq_true]
          intro i hi
          obtain ⟨hlt, h2⟩ := (hloud i).1 hi
          obtain ⟨k1, k2⟩ := hok i hlt h2
          simp only [Bool.and_eq_true, Bool.or_eq_true, Bool.not_eq_true', Nat.blt_eq, Nat.ble_eq]
          constructor
          ·cases hb : ((ay ops.toList []).getD j 0).testBit i
           ·exact .inl rfl
           ·exact .inr (k1 hb)
          ·cases hb : ((ay ops.toList []).getD i 0).testBit j
           ·exact .inl rfl
           ·exact .inr (k2 hb)
         rw [hT] at h
         cases h
        ·split at h
         ·rename_i v hv
          rw [hv, oE _ _ h]
         ·cases h
     have e1 := R.s1
     have e2 := R.h1
     rw [hsz, Nat.zero_add] at e1 e2
     exact ⟨S, Hp, V, K, hlook, R.s0, R.h0, e1, e2⟩
    ·cases he
  rcases main with hfl | ⟨S, Hp, V, K, hlook, hs0, hh0, e1, e2⟩
  ·exact vr H hcall hmo hS ht hs hh hfl hQ
  refine wp_region_any hmo ?_
  rw [World.drew_eq]
  refine Ai H hcall hS hlook (M := M) (N := N) (w0 := w0) (d0 := a.defers) (fun M' a' w' g1 g2 g3 g4 g5 => ?_) ops.size _ a w.drew ?_ ?_
  ·exact hQ M' a' w' g1 (by rw [<- e1]; exact g2) g3 g4 (by rw [<- e2]; exact g5)
  ·unfold sM
   rw [List.countP_eq_length.2]
   ·simp
   ·intro i hi
    have := List.mem_range.1 hi
    simp [this]
  ·have hnl : ∀ i, ¬ d8 (Array.replicate ops.size false) i := by
    intro i h
    unfold d8 at h
    by_cases hi : i < ops.size
    ·simp [hi] at h
    ·simp [hi] at h
   refine ⟨by simp, fun j o _ hl => absurd hl (hnl j), hs, rfl, M, Inj.le_refl M, fun t m hm hwr v hv => ?_, 0, .inl rfl, Nat.zero_le _, fun i hi _ => ⟨fun h => absurd h (hnl i), fun h => by omega⟩, ?_⟩
   ·have := qZ hlook t m 0 zy (fun i o _ hi ho hd => by
     have := (hwr i o ho hd).2 zy
     exact hnl i this)
    rw [Nat.zero_add, hs0] at this
    rw [this] at hv
    exact ht t v hv
   ·rw [hh0]
    exact hh.drew
 ·cases he
end draw
end Go.Proofs.YtfkbfnpjggkdmaaGreatDoor.Ev
