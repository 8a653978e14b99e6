/- An evaluator of closed calls in which errors are thrown and caught, part 2: a region that draws its order, whose last operation throws. -/
import Derived.Test.YtfkbfnpjggkdmaaGreatDoorCExA
namespace Go.Proofs.YtfkbfnpjggkdmaaGreatDoor.Ev
open Go.RowKit
variable {J : Ctx}
section draw
variable {P : Program} {tb : Tab} {n : Nat} {call : Nat -> List AV -> AHeap -> Option (AV × AHeap)} {ops : Array Oper}
structure LookedB (z : Nat) (tb : Tab) (call : Nat -> List AV -> AHeap -> Option (AV × AHeap)) (n : Nat) (ops : Array Oper) (S : Nat -> T AV) (Hp : Nat -> AHeap) (V : Nat -> AV) (K : Nat -> Nat) : Prop where
 step : ∀ j o, j < z -> ops[j]? = some o -> fT tb call ops.toList (S j) (Hp j) o = some (V j, Hp (j + 1), K j) /\ bE (S j) n o.dst (V j) = some (S (j + 1))
 louds : ∀ j, j < z -> K j = 2 -> ∀ i, i < j -> K i = 2 -> mf ops j i
 quiets : ∀ j o, j < z -> ops[j]? = some o -> K j = 1 -> ∀ m, yJ K z m -> (∀ i, i < z -> K i = 2 -> (mf ops j i -> i < m) /\ (mf ops i j -> m <= i)) ->
  kQ tb (S j) (Hp m) o.op = some (V j)

variable {S : Nat -> T AV} {Hp : Nat -> AHeap} {V : Nat -> AV} {K : Nat -> Nat} {z : Nat}

theorem ph (hk : LookedB z tb call n ops S Hp V K) (hz : z <= ops.size) : ∀ d p, p + d <= z -> (∀ i, p <= i -> i < p + d -> K i ≠ 2) -> Hp (p + d) = Hp p := by
 intro d
 induction d with
 | zero => intro p _ _; rfl
 | succ d ih =>
  intro p hp hn
  have hlt : p + d < ops.size := by omega
  obtain ⟨h1, _⟩ := hk.step (p + d) _ zy (Array.getElem?_eq_getElem hlt)
  have h2 : Hp (p + d + 1) = Hp (p + d) := by
   rcases bX h1 with h | h | h
   ·exact h.2.2.2
   ·exact h.2.2.2
   ·exact absurd h.1 (hn (p + d) zy zy)
  rw [show p + (d + 1) = p + d + 1 by omega, h2]
  exact ih p zy (fun i h1 h2 => hn i h1 zy)
theorem tR (hk : LookedB z tb call n ops S Hp V K) (hz : z <= ops.size) {p q : Nat} (hp : p <= z) (hq : q <= z) (h : ∀ i, i < z -> K i = 2 -> (i < p ↔ i < q)) : Hp p = Hp q := by
 rcases Nat.le_total p q with hle | hle
 ·have := ph hk hz (q - p) p zy (fun i h1 h2 h3 => by have := (h i zy h3).2 zy; omega)
  rw [show p + (q - p) = q by omega] at this
  exact this.symm
 ·have := ph hk hz (p - q) q zy (fun i h1 h2 h3 => by have := (h i zy h3).1 zy; omega)
  rw [show q + (p - q) = p by omega] at this
  exact this
theorem pE (hk : LookedB z tb call n ops S Hp V K) (hz : z <= ops.size) (t : Nat) : ∀ d p, p + d <= z -> (∀ i o, p <= i -> i < p + d -> ops[i]? = some o -> o.dst ≠ some t) -> (S (p + d)).get t = (S p).get t := by
 intro d
 induction d with
 | zero => intro p _ _; rfl
 | succ d ih =>
  intro p hp hn
  have hlt : p + d < ops.size := by omega
  have ho : ops[p + d]? = some ops[p + d] := Array.getElem?_eq_getElem hlt
  obtain ⟨_, h1⟩ := hk.step (p + d) _ zy ho
  have h2 := (eI h1).2 t
  rw [if_neg (hn (p + d) _ zy zy ho)] at h2
  rw [show p + (d + 1) = p + d + 1 by omega, h2]
  exact ih p zy (fun i o h1 h2 h3 => hn i o h1 zy h3)

structure InvB (z : Nat) (tb : Tab) (n : Nat) (ops : Array Oper) (M : Inj) (N : Nat -> Prop) (w0 : Base J) (d0 : List Deferred) (S : Nat -> T AV) (Hp : Nat -> AHeap) (K : Nat -> Nat) (l : Array Bool) (a : Act) (w : World) : Prop where
 size : l.size = ops.size
 not : ¬ d8 l z
 closed : oh ops l
 slots : a.tmps.size = n
 defs : a.defers = d0
 rel : ∃ M', M.le M' /\ (∀ t m, m <= z -> (∀ i o, ops[i]? = some o -> o.dst = some t -> (d8 l i ↔ i < m)) -> ∀ v, (S m).get t = some v -> VRel M' v (a.tmps.getD t undef)) /\
  ∃ m, yJ K z m /\ m <= z /\ (∀ i, i < z -> K i = 2 -> (d8 l i ↔ i < m)) /\ HRel M' N w0 (Hp m) w

theorem wd (H : TabOK P tb J) (hcall : gO P J call) (hS : Static ops) (hk : LookedB z tb call n ops S Hp V K) (hzs : ops.size = z + 1) (hzb : ∀ i, i < z -> mf ops z i) {M : Inj} {N : Nat -> Prop} {w0 : Base J} {d0 : List Deferred}
  {Q : Exit -> Act -> World -> Prop}
  (hB : ∀ o M' a w (next : Act -> World -> Prop), ops[z]? = some o -> M.le M' -> TRel M' (S z) a -> a.tmps.size = n -> a.defers = d0 -> HRel M' N w0 (Hp z) w -> wpOp P ops Q z next a w) :
  ∀ (fuel : Nat) (l : Array Bool) (a : Act) (w : World), sM l ops.size = fuel -> InvB z tb n ops M N w0 d0 S Hp K l a w -> wpAny P .any ops Q fuel l a w := by
 have hz : z <= ops.size := by omega
 have fin : ∀ (l : Array Bool) (a : Act) (w : World), InvB z tb n ops M N w0 d0 S Hp K l a w -> (∀ i, i < ops.size -> d8 l i) -> Q .normal a w := fun l a w I hall => absurd (hall z zy) I.not
 intro fuel
 induction fuel with
 | zero =>
  intro l a w hu I
  have hall := pO hu
  refine ⟨?_, fin l a w I hall⟩
  cases hr : Region.ready .any ops l with
  | nil => rfl
  | cons j rs =>
   have hj : j ∈ Region.ready .any ops l := by rw [hr]; exact List.mem_cons_self
   obtain ⟨h0, o, ho, _⟩ := mem_ready.1 hj
   exact absurd (hall j (Array.getElem?_eq_some_iff.1 ho).1) (ki h0).1
 | succ fuel ih =>
  intro l a w hu I
  refine ⟨fun hr => fin l a w I ?_, fun j hj => ?_⟩
  ·-- none is ready: all are listed
   intro i
   induction i using Nat.strongRecOn with
   | _ i ihi =>
    intro hi
    by_cases hl : d8 l i
    ·exact hl
    ·exfalso
     have ho : ops[i]? = some ops[i] := Array.getElem?_eq_getElem hi
     have : i ∈ Region.ready .any ops l := by
      rw [mem_ready]
      refine ⟨mN hl (by rw [I.size]; exact hi), _, ho, fun e he hb => ?_⟩
      rw [iU] at hb
      have hlt := hS.edge i _ ho e he hb
      exact ihi e.on hlt zy
     rw [hr] at this
     cases this
  ·obtain ⟨hj0, o, ho, hd⟩ := mem_ready.1 hj
   obtain ⟨hnl, hjs⟩ := ki hj0
   have hjN : j < ops.size := (Array.getElem?_eq_some_iff.1 ho).1
   have hdir : ∀ e ∈ o.after, cY e = true -> d8 l e.on := fun e he hb => hd e he (by rw [iU]; exact hb)
   obtain ⟨M', hM, ht, m, hmark, hm, hml, hh⟩ := I.rel
   by_cases hjz : j = z
   ·-- the last one
    subst hjz
    refine hB o M' a w _ ho hM (fun t v hv => ht t j (Nat.le_refl _) (fun i x hx hdx => ?_) v hv) I.slots I.defs ?_
    ·have hi : i < ops.size := (Array.getElem?_eq_some_iff.1 hx).1
     constructor
     ·intro hl
      rcases Nat.lt_or_ge i j with h | h
      ·exact h
      ·have e : i = j := by omega
       subst e
       exact absurd hl hnl
     ·intro h
      exact eD hS I.closed j o ho hdir i (hzb i h)
    ·have : Hp m = Hp j := tR hk hz hm (Nat.le_refl _) (fun i hi h2 => ⟨fun _ => hi, fun _ => (hml i hi h2).1 (eD hS I.closed j o ho hdir i (hzb i hi))⟩)
     rw [<- this]
     exact hh
   have hjlt : j < z := by omega
   obtain ⟨hst, hput⟩ := hk.step j o hjlt ho
   have behind : ∀ i x, ops[i]? = some x -> mf ops i j -> ¬ d8 l i := by
    intro i x hx hb hl
    exact hnl (eD hS I.closed i x hx (I.closed i x hx hl) j hb)
   have ahead : ∀ i, mf ops j i -> d8 l i /\ i < j := fun i hb => ⟨eD hS I.closed j o ho hdir i hb, kL hS j i hjN hb⟩
   have hw : ∀ t, t ∈ bU ops.toList o -> ∀ i x, ops[i]? = some x -> x.dst = some t -> (d8 l i ↔ i < j) := by
    intro t htt i x hx hdx
    by_cases hij : i = j
    ·subst hij; exact ⟨fun h => absurd h hnl, fun h => by omega⟩
    ·rcases hS.pair i j x o hx ho hij t hdx htt with hb | hb
     ·have := ahead i hb; exact ⟨fun _ => this.2, fun _ => this.1⟩
     ·have h1 := behind i x hx hb
      have h2 := kL hS i j (Array.getElem?_eq_some_iff.1 hx).1 hb
      exact ⟨fun h => absurd h h1, fun h => by omega⟩
   obtain ⟨tr, htr⟩ := lQ (S j) (bU ops.toList o)
   have hT : TRel M' tr a := by
    intro t v hv
    rw [htr] at hv
    split at hv
    ·rename_i hmem
     exact ht t j zy (hw t hmem) v hv
    ·cases hv
   have hopnd : ∀ x ∈ o.op.operands, aS (S j) x = aS tr x := by
    intro x hx
    refine (iO htr (fun t e => ?_)).symm
    unfold bU
    refine List.mem_append_left _ (List.mem_append_right _ ?_)
    exact List.mem_filterMap.2 ⟨x, by simpa using hx, by rw [e]⟩
   have hwant : aK ops.toList (S j) o = aK ops.toList tr o := by
    unfold aK
    cases hg : o.guard with
    | none => rfl
    | some gw =>
     obtain ⟨g, want⟩ := gw
     simp only
     cases hog : ops.toList[g]? with
     | none => rfl
     | some og =>
      simp only
      cases hgd : og.dst with
      | none => rfl
      | some d =>
       have : d ∈ bU ops.toList o := by
        unfold bU
        refine List.mem_append_right _ ?_
        simp only [hg, hog, Option.bind_some, hgd]
        simp
       simp only [htr d, if_pos this]
   have go : ∀ (M2 : Inj) (u : Value) (w2 : World), M'.le M2 -> VRel M2 (V j) u ->
     (∃ m, yJ K z m /\ m <= z /\ (∀ i, i < z -> K i = 2 -> ((i = j \/ d8 l i) ↔ i < m)) /\ HRel M2 N w0 (Hp m) w2) ->
     wpAny P .any ops Q fuel (l.setIfInBounds j true) (a.put o.dst u) w2 := by
    intro M2 u w2 hM2 hv hheap
    refine ih _ _ _ (by have := sN hnl hjs hjN; omega) ⟨by simp [I.size], (by rw [eT hjs]; rintro (e | e); exact hjz e.symm; exact I.not e), ?_, by rw [ia]; exact I.slots, by rw [iA]; exact I.defs, M2, Inj.le_trans hM hM2, ?_, ?_⟩
    ·intro i x hx hl e he hb
     rw [eT hjs] at hl ⊢
     rcases hl with rfl | hl
     ·rw [ho] at hx; cases hx; exact .inr (hdir e he hb)
     ·exact .inr (I.closed i x hx hl e he hb)
    ·intro t q hq hwr v hvt
     obtain ⟨hp1, hp2⟩ := eI hput
     rw [lN a o.dst u t (fun x hx => by rw [I.slots]; exact hp1 x hx)]
     by_cases hdt : o.dst = some t
     ·rw [if_pos hdt]
      have hjq : j < q := (hwr j o ho hdt).1 (by rw [eT hjs]; exact .inl rfl)
      have hsame := pE hk hz t (q - (j + 1)) (j + 1) zy (fun i x h1 h2 hx hdx => by
       have hli := (hwr i x hx hdx).2 zy
       rw [eT hjs] at hli
       have hli : d8 l i := hli.resolve_left zy
       have htt : t ∈ bU ops.toList o := by
        unfold bU
        refine List.mem_append_left _ (List.mem_append_left _ ?_)
        rw [hdt]; simp
       have := (hw t htt i x hx hdx).1 hli
       omega)
      rw [show j + 1 + (q - (j + 1)) = q by omega] at hsame
      rw [hsame, hp2 t, if_pos hdt] at hvt
      cases hvt
      exact hv
     ·rw [if_neg hdt]
      refine (ht t q hq (fun i x hx hdx => ?_) v hvt).mono hM2
      have := hwr i x hx hdx
      rw [eT hjs] at this
      have hne : i ≠ j := by rintro rfl; rw [ho] at hx; cases hx; exact hdt hdx
      exact ⟨fun h => this.1 (.inr h), fun h => (this.2 h).resolve_left hne⟩
    ·obtain ⟨q, h1, h2, h3, h4⟩ := hheap
     exact ⟨q, h1, h2, fun i hi hki => by rw [eT hjs]; exact h3 i hi hki, h4⟩
   rcases bX hst with ⟨hk0, hw0, hv0, _⟩ | ⟨hk1, hw1, hq1, _⟩ | ⟨hk2, hw2, hl2⟩
   ·-- not wanted
    unfold wpOp
    simp only [ho]
    rw [hwant] at hw0
    rw [cc hT hw0]
    simp only [Bool.false_eq_true, if_false]
    refine go M' undef w (Inj.le_refl M') (by rw [hv0]; exact .tuple [] #[] rfl (fun i v u p => by simp at p)) ⟨m, hmark, hm, fun i hi hki => ?_, hh⟩
    have hne : i ≠ j := by rintro rfl; omega
    exact ⟨fun h => (hml i hi hki).1 (h.resolve_left hne), fun h => .inr ((hml i hi hki).2 h)⟩
   ·-- quiet
    have hqq := hk.quiets j o hjlt ho hk1 m hmark (fun i hi hki => ⟨fun hb => (hml i hi hki).1 (ahead i hb).1, fun hb => by
     have h1 := behind i _ (Array.getElem?_eq_getElem (show i < ops.size by omega)) hb
     have h2 := hml i hi hki
     rcases Nat.lt_or_ge i m with h | h
     ·exact absurd (h2.2 h) h1
     ·exact h⟩)
    unfold kQ at hqq
    split at hqq
    ·rename_i r hq
     subst hqq
     rw [fW hopnd] at hq
     unfold wpOp
     simp only [ho]
     rw [hwant] at hw1
     rw [cc hT hw1, if_pos rfl]
     refine .inl ?_
     obtain ⟨u, h1, h2⟩ := lO H hT hh hq
     unfold Oper.wp
     rw [h1, Oper.upon_value]
     refine go M' u w (Inj.le_refl M') h2 ⟨m, hmark, hm, fun i hi hki => ?_, hh⟩
     have hne : i ≠ j := by rintro rfl; omega
     exact ⟨fun h => (hml i hi hki).1 (h.resolve_left hne), fun h => .inr ((hml i hi hki).2 h)⟩
    ·cases hqq
   ·-- loud
    have hlo : ∀ i, i < z -> K i = 2 -> (d8 l i ↔ i < j) := by
     intro i hi hki
     constructor
     ·intro hl
      rcases Nat.lt_trichotomy i j with h | h | h
      ·exact h
      ·subst h; exact absurd hl hnl
      ·exact absurd hl (behind i _ (Array.getElem?_eq_getElem (show i < ops.size by omega)) (hk.louds i hi hki j h hk2))
     ·intro h
      exact (ahead i (hk.louds j hjlt hk2 i h hki)).1
    have heq : Hp m = Hp j := tR hk hz hm zy (fun i hi hki => by rw [<- hml i hi hki, hlo i hi hki])
    rw [heq] at hh
    rw [fW hopnd] at hl2
    unfold wpOp
    simp only [ho]
    rw [hwant] at hw2
    rw [cc hT hw2, if_pos rfl]
    refine .inl ?_
    refine nX H hT hh hcall hl2 (fun M2 u w2 hM2 hh2 hv2 => ?_)
    refine go M2 u w2 hM2 hv2 ⟨j + 1, .inr ⟨j, hjlt, hk2, rfl⟩, hjlt, fun i hi hki => ?_, hh2⟩
    have := hlo i hi hki
    constructor
    ·rintro (rfl | h)
     ·omega
     ·have := this.1 h; omega
    ·intro h
     by_cases hij : i = j
     ·exact .inl hij
     ·exact .inr (this.2 zy)
end draw
variable {J : Ctx}
section draw
variable {P : Program} {tb : Tab} {tr : Au} {c : gk} {n : Nat} {ops : Array Oper}
theorem vw (H : TabOK P tb J) (hc : XOK P J tr c) (hmo : P.follows .mixedOrders = true) {M : Inj} {N : Nat -> Prop} {w0 : Base J} {tm tm' : T AV} {h h' : AHeap} {a : Act} {w : World} {id : Nat} {l : List AV}
  {Q : Exit -> Act -> World -> Prop} (ht : TRel M tm a) (hs : a.tmps.size = n) (hh : HRel M N w0 h w) (he : rX tb c n ops.toList tm h = some (l, tm', h'))
  (hQ : ∀ M' a' w' chain, M.le M' -> TRel M' tm' a' -> a'.tmps.size = n -> a'.defers = a.defers -> HRel M' N w0 h' w' -> tr l chain w' -> Q (.panic chain) a' w') : (Code.region id ops true).wp P Q a w := by
 unfold rX at he
 split at he
 rotate_left
 ·cases he
 rename_i o hlast hD
 have hS := ra hD
 split at he
 rotate_left
 ·cases he
 rename_i es ms tm1 h1 htr
 split at he
 rotate_left
 ·cases he
 rename_i hchk
 split at he
 rotate_left
 ·cases he
 rename_i l1 h2 hnow
 simp only [Option.some.injEq, Prod.mk.injEq] at he
 obtain ⟨rfl, rfl, rfl⟩ := he
 obtain ⟨hv, hw⟩ := jc hnow
 rw [Bool.and_eq_true] at hchk
 obtain ⟨hall, hbits⟩ := hchk
 simp only [List.all_eq_true] at hall hbits
 have hne : ops.toList ≠ [] := by intro e; rw [e] at hlast; cases hlast
 obtain ⟨z, hzs⟩ : ∃ z, ops.size = z + 1 := ⟨ops.size - 1, by
  have : 0 < ops.toList.length := List.length_pos_iff.2 hne
  have e : ops.toList.length = ops.size := by simp
  omega⟩
 have hlen : ops.toList.length = z + 1 := by simp [hzs]
 have hdl : ops.toList.dropLast.length = z := by rw [List.length_dropLast, hlen]; rfl
 have hzo : ops[z]? = some o := by
  rw [List.getLast?_eq_getElem?, hlen] at hlast
  simpa using hlast
 have hdrop : ∀ j x, j < z -> ops[j]? = some x -> ops.toList.dropLast[j]? = some x := by
  intro j x hj hx
  rw [List.getElem?_dropLast, if_pos (by rw [hlen]; omega)]
  simpa using hx
 obtain ⟨S, Hp, V, K, R⟩ := gN htr
 have step : ∀ j x, j < z -> ops[j]? = some x -> fT tb (ib c) ops.toList (S j) (Hp j) x = some (V j, Hp (j + 1), K j) /\ bE (S j) n x.dst (V j) = some (S (j + 1)) := by
  intro j x hj hx
  have := R.step j x (hdrop j x hj hx)
  simpa using this
 have hloud : ∀ i, i ∈ (es.filterMap fun e => if e.kind = 2 then some e.i else none) ↔ (i < z /\ K i = 2) := by
  intro i
  rw [List.mem_filterMap]
  constructor
  ·rintro ⟨e, he, hi⟩
   obtain ⟨k, x, hk, rfl⟩ := R.of e he
   have hlt : k < z := by rw [<- hdl]; exact (List.getElem?_eq_some_iff.1 hk).1
   simp only [Nat.zero_add] at hi
   split at hi
   ·rename_i h2
    cases hi
    exact ⟨hlt, h2⟩
   ·cases hi
  ·rintro ⟨hi, h2⟩
   have := R.mem i _ (List.getElem?_eq_getElem (by rw [hdl]; exact hi))
   refine ⟨_, this, ?_⟩
   simp [h2]
 have hlook : LookedB z tb (ib c) n ops S Hp V K := by
  refine ⟨step, fun j hj h2 i hi h2i => ?_, fun j x hj hx h1 m hm hok => ?_⟩
  ·have hmem := R.mem j _ (List.getElem?_eq_getElem (by rw [hdl]; exact hj))
   have := hall _ hmem
   simp only [Nat.zero_add, iq, h2, List.all_eq_true, Bool.or_eq_true, Bool.not_eq_true'] at this
   rcases this i ((hloud i).2 ⟨by omega, h2i⟩) with h | h
   ·have : Nat.blt i j = true := by rw [Nat.blt_eq]; exact hi
    rw [this] at h; cases h
   ·exact h
  ·have hmem := R.mem j x (hdrop j x hj hx)
   have := hall _ hmem
   simp only [Nat.zero_add, iq, h1, List.all_eq_true, Bool.or_eq_true, Bool.not_eq_true'] at this
   have hmm : (m, Hp m) ∈ (0, h) :: ms := by
    rcases hm with rfl | ⟨i, hi, h2, rfl⟩
    ·rw [R.h0]; exact List.mem_cons_self
    ·refine List.mem_cons_of_mem _ ?_
     have := R.mark i (by rw [hdl]; exact hi) (by simpa using h2)
     simpa using this
   rcases this (m, Hp m) hmm with h | h
   ·exfalso
    have hT : (es.filterMap fun e => if e.kind = 2 then some e.i else none).all (fun i => (!(((ay ops.toList []).getD j 0).testBit i) || Nat.blt i m) && (!(((ay ops.toList []).getD i 0).testBit j) || Nat.ble m i)) = true := by
     rw [List.all_eq_true]
     intro i hi
     obtain ⟨hlt, h2⟩ := (hloud i).1 hi
     obtain ⟨k1, k2⟩ := hok i hlt h2
     simp only [Bool.and_eq_true, Bool.or_eq_true, Bool.not_eq_true', Nat.blt_eq, Nat.ble_eq]
     constructor
     ·cases hb : ((ay ops.toList []).getD j 0).testBit i
      ·exact .inl rfl
      ·exact .inr (k1 hb)
     ·cases hb : ((ay ops.toList []).getD i 0).testBit j
      ·exact .inl rfl
      ·exact .inr (k2 hb)
    rw [hT] at h
    cases h
   ·split at h
    ·rename_i v hv
     rw [hv, oE _ _ h]
    ·cases h
 have e1 := R.s1
 have e2 := R.h1
 rw [hdl, Nat.zero_add] at e1 e2
 have hzb : ∀ i, i < z -> mf ops z i := by
  intro i hi
  have := hbits i (by rw [hlen]; exact List.mem_range.2 zy)
  rw [hlen] at this
  simpa [mf] using this
 refine wp_region_any hmo ?_
 rw [World.drew_eq]
 refine wd H hc.ret hS hlook hzs hzb (M := M) (N := N) (w0 := w0) (d0 := a.defers) (fun o' M' a' w' next ho' hM ht' hs' hd' hh' => ?_) ops.size _ a w.drew ?_ ?_
 ·rw [hzo] at ho'
  cases ho'
  rw [e1] at ht'
  rw [e2] at hh'
  unfold wpOp
  simp only [hzo]
  rw [cc ht' hw, if_pos rfl]
  refine .inl ?_
  exact uC hc ht' hh' hv fun M2 chain w2 g1 g2 g3 => hQ M2 a' w2 chain (Inj.le_trans hM g1) (ht'.mono g1) hs' hd' g2 g3
 ·unfold sM
  rw [List.countP_eq_length.2]
  ·simp
  ·intro i hi
   have := List.mem_range.1 hi
   simp [this]
 ·have hnl : ∀ i, ¬ d8 (Array.replicate ops.size false) i := by
   intro i h
   unfold d8 at h
   by_cases hi : i < ops.size
   ·simp [hi] at h
   ·simp [hi] at h
  refine ⟨by simp, hnl z, fun j x _ hl => absurd hl (hnl j), hs, rfl, M, Inj.le_refl M, fun t m hm hwr v hv => ?_, 0, .inl rfl, Nat.zero_le _, fun i hi _ => ⟨fun h => absurd h (hnl i), fun h => by omega⟩, ?_⟩
  ·have := pE hlook zy t m 0 zy (fun i x _ hi ho hd => by
    have := (hwr i x ho hd).2 zy
    exact hnl i this)
   rw [Nat.zero_add, R.s0] at this
   rw [this] at hv
   exact ht t v hv
  ·rw [R.h0]
   exact hh.drew
end draw
section runs
variable {P : Program} {tb : Tab} {tr : Au} {cfg : XCfg}
def After (cfg : XCfg) (tr : Au) (n : Nat) (N : Nat -> Prop) (w0 : Base J) (Q : Exit -> Act -> World -> Prop) (M : Inj) : RRes -> Prop
 | .go ex tm h d => ∀ M' a w, M.le M' -> TRel M' tm a -> a.tmps.size = n -> DRel cfg M' d a.defers -> HRel M' N w0 h w -> Q (Iy ex) a w
 | .boom l tm h d => ∀ M' a w chain, M.le M' -> TRel M' tm a -> a.tmps.size = n -> DRel cfg M' d a.defers -> HRel M' N w0 h w -> tr l chain w -> Q (.panic chain) a w
theorem After.mono {n : Nat} {N : Nat -> Prop} {w0 : Base J} {Q : Exit -> Act -> World -> Prop} {M M1 : Inj} (hM : M.le M1) : ∀ {r : RRes}, After cfg tr n N w0 Q M r -> After cfg tr n N w0 Q M1 r
 | .go .., h => fun M' a w g => h M' a w (Inj.le_trans hM g)
 | .boom .., h => fun M' a w ch g => h M' a w ch (Inj.le_trans hM g)
theorem kg (H : TabOK P tb J) {c : gk} (hc : XOK P J tr c) {n : Nat} {N : Nat -> Prop} {w0 : Base J} {ops : Array Oper} {Q : Exit -> Act -> World -> Prop} {r : RRes} : ∀ {rest : List Oper} {i : Nat} {M : Inj} {tm : T AV} {h : AHeap} {d : Option (Nat × List AV)} {a : Act} {w : World},
  (∀ k o, rest[k]? = some o -> ops[i + k]? = some o) -> TRel M tm a -> a.tmps.size = n -> DRel cfg M d a.defers -> HRel M N w0 h w -> eH cfg tb c n ops.toList rest tm h d = some r ->
  After cfg tr n N w0 Q M r -> wpOps P ops Q (List.range' i rest.length) a w
 | [], i, M, tm, h, d, a, w, hr, ht, hs, hd, hh, he, hn => by
  simp only [eH, Option.some.injEq] at he
  subst he
  exact hn M a w (Inj.le_refl M) ht hs hd hh
 | o :: rest, i, M, tm, h, d, a, w, hr, ht, hs, hd, hh, he, hn => by
  have ho : ops[i]? = some o := by simpa using hr 0 o rfl
  have hr' : ∀ k o, rest[k]? = some o -> ops[i + 1 + k]? = some o := fun k o hk => by
   have := hr (k + 1) o (by simpa using hk)
   rw [show i + 1 + k = i + (k + 1) by omega]
   exact this
  unfold eH at he
  simp only [List.length_cons, List.range'_succ]
  rw [wpOps_cons]
  split at he
  ·-- a call that w6 something back
   rename_i v h1 hnow
   obtain ⟨hv, hw⟩ := jc hnow
   split at he
   ·rename_i tm1 hp
    unfold wpOp
    simp only [ho]
    rw [cc ht hw, if_pos rfl]
    refine .inl (Fj hc ht hh hv fun M' u w' hM hh' hvu => ?_)
    exact kg H hc hr' (ht.put hM hs hp hvu) (by rw [ia]; exact hs) (by rw [iA]; exact hd.mono hM) hh' he (hn.mono hM)
   ·cases he
  ·-- a call that throws
   rename_i l h1 hnow
   obtain ⟨hv, hw⟩ := jc hnow
   cases he
   unfold wpOp
   simp only [ho]
   rw [cc ht hw, if_pos rfl]
   exact .inl (uC hc ht hh hv fun M' chain w' hM hh' htr => hn M' a w' chain hM (ht.mono hM) hs (hd.mono hM) hh' htr)
  ·cases he
  ·split at he
   ·-- a deferred function
    rename_i dd hdd
    obtain ⟨g, caps⟩ := dd
    have h0 : a.defers = [] := hd
    have hg : o.guard = none := (tC (P := P) (w := w) (next := fun _ _ => True) (Q := Q) ht hdd h0 (fun _ _ _ => trivial)).1
    unfold wpOp
    simp only [ho]
    have hw : aK ops.toList tm o = some true := by unfold aK; rw [hg]
    rw [cc ht hw, if_pos rfl]
    refine .inl (tC ht hdd h0 fun a' hta hda => ?_).2
    refine kg H hc hr' ?_ (by rw [hta]; exact hs) hda hh he hn
    intro t v hv
    rw [hta]
    exact ht t v hv
   ·cases he
   ·split at he
    ·rename_i v h1 k he1
     split at he
     ·rename_i tm1 hp
      refine By H hc.ret ht hh ho he1 (fun M' u w' hM hh' hv => ?_)
      exact kg H hc hr' (ht.put hM hs hp hv) (by rw [ia]; exact hs) (by rw [iA]; exact hd.mono hM) hh' he (hn.mono hM)
     ·cases he
    ·cases he
structure CfgOK (P : Program) (J : Ctx) (tr : Au) (cfg : XCfg) : Prop where
 thr : ∀ f args l, cfg.thr f args = some l -> ∀ (M : Inj) (N : Nat -> Prop) (w0 : Base J) (h : AHeap) (w : World) (vs : Array Value), LRel M args vs.toList -> HRel M N w0 h w ->
  jz P f /\ Calls P f vs w fun e w' => ∃ M' chain, e = .panicked chain /\ M.le M' /\ HRel M' N w0 h w' /\ tr l chain w'
 idle : ∀ g caps, cfg.isR g caps = true -> ∀ (M : Inj) (N : Nat -> Prop) (w0 : Base J) (h : AHeap) (w : World) (cs : Array Value), LRel M caps cs.toList -> HRel M N w0 h w ->
  jz P g /\ CallsD P g cs .returning w fun e u w' => (∃ v, e = .returned v) /\ u = .returning /\ ∃ M', M.le M' /\ HRel M' N w0 h w'
 caught : ∀ g caps l h h', cfg.isR g caps = true -> cfg.rcv g caps l h = some h' -> ∀ (M : Inj) (N : Nat -> Prop) (w0 : Base J) (w : World) (cs : Array Value) (chain : List PanicEntry), LRel M caps cs.toList -> HRel M N w0 h w -> tr l chain w ->
  jz P g /\ CallsD P g cs (.panicking chain) w fun e u w' => (∃ v, e = .returned v) /\ settle u = .returning /\ ∃ M', M.le M' /\ HRel M' N w0 h' w'
def rm (P : Program) (J : Ctx) (tr : Au) (cfg : XCfg) (tb : Tab) (k : Nat) : Prop :=
 ∀ (n : Nat) (cd : Code) (tm : T AV) (h : AHeap) (d : Option (Nat × List AV)) (r : RRes) (M : Inj) (N : Nat -> Prop) (w0 : Base J) (a : Act) (w : World) (Q : Exit -> Act -> World -> Prop),
  eV cfg tb k n cd tm h d = some r -> TRel M tm a -> a.tmps.size = n -> DRel cfg M d a.defers -> HRel M N w0 h w -> After cfg tr n N w0 Q M r -> cd.wp P Q a w
theorem ze {M : Inj} {args : List AV} {vs : Array Value} {k : Nat} (hl : LRel M args vs.toList) : TRel M (er 0 args .leaf) { tmps := vs ++ Array.replicate (k - vs.size) undef, defers := [] } := by
 intro t x hx
 rw [ls] at hx
 split at hx
 ·rename_i hc
  simp only [Nat.sub_zero] at hx
  obtain ⟨u, hu, hr⟩ := hl.get hx
  have hu' : vs[t]? = some u := by simpa using hu
  have hlt : t < vs.size := (Array.getElem?_eq_some_iff.1 hu').1
  have : (vs ++ Array.replicate (k - vs.size) undef)[t]? = some u := by
   rw [Array.getElem?_append_left hlt]; exact hu'
  simp only [Array.getD_eq_getD_getElem?, this, Option.getD_some]
  exact hr
 ·rw [bG] at hx; cases hx
theorem jU (H : TabOK P tb J) {fn : Func} {M : Inj} {N : Nat -> Prop} {w0 : Base J} {tm : T AV} {h : AHeap} {a : Act} {w : World} {l : List AV} (ht : TRel M tm a) (hh : HRel M N w0 h w) (hres : cF tb tm h fn.results.toList = some l) :
  ∃ u, (results fn a.tmps).run P w = .ok u w /\ VRel M (bW l) u := by
 obtain ⟨us, q1, q2⟩ := kY H ht hh hres
 have e1 : (results fn a.tmps).run P w = .ok (if h : us.toArray.size = 1 then us.toArray[0] else .tuple us.toArray) w := by
  unfold results
  simp only [Sem.run_bind]
  rw [Array.mapM_eq_mapM_toList]
  simp only [Sem.run_map]
  refine (congrArg (fun q => Result.andThen (Result.andThen q _) _) q1).trans ?_
  rfl
 refine ⟨_, e1, ?_⟩
 match l, us, q2 with
 | [], [], _ => exact .tuple [] _ rfl (fun i v u p => by simp at p)
 | [x], [u], q2 => simpa [bW] using q2.2 0 x u rfl rfl
 | x :: y :: l, u :: v :: us, q2 =>
  have : ¬ ((u :: v :: us).toArray.size = 1) := by simp
  rw [dif_neg this]
  exact q2.tuple
 | [], _ :: _, q2 => have := q2.1; simp at this
 | [_], [], q2 => have := q2.1; simp at this
 | [_], _ :: _ :: _, q2 => have := q2.1; simp at this
 | _ :: _ :: _, [], q2 => have := q2.1; simp at this
 | _ :: _ :: _, [_], q2 => have := q2.1; simp at this
theorem wP {rs : List ResultVar} {tm : T AV} {h : AHeap} {r : CRes} (h1 : ko tb rs tm h = some r) : ∃ l, cF tb tm h rs = some l /\ r = .ret (bW l) h := by
 unfold ko at h1
 split at h1
 ·rename_i l hl
  cases h1
  exact ⟨l, hl, rfl⟩
 ·cases h1
theorem jN {g : Nat} {cs : Array Value} (hf : jz P g) (w : World) : (invoke (.fn (.func g) cs) #[]).run P w = .ok (.enter g cs) w := by
 obtain ⟨fn, hf, hb, hname⟩ := hf
 have hb2 : fn.body.isNone = false := by cases hbb : fn.body <;> simp_all
 simp only [Sem.run_bind, Sem.run_pure, Result.andThen_ok, invoke, callFunc, run_program, hf, hname, Bool.false_eq_true, if_false, hb2, Array.empty_append]
def Dq (tr : Au) (M : Inj) (N : Nat -> Prop) (w0 : Base J) : CRes -> Ending -> World -> Prop
 | .ret v h, e, w => ∃ M' u, e = .returned u /\ M.le M' /\ HRel M' N w0 h w /\ VRel M' v u
 | .boom l h, e, w => ∃ M' chain, e = .panicked chain /\ M.le M' /\ HRel M' N w0 h w /\ tr l chain w
theorem zU (H : TabOK P tb J) (hcf : CfgOK P J tr cfg) {fn : Func} {n : Nat} {N : Nat -> Prop} {w0 : Base J} {M : Inj} {r : RRes} {cr : CRes} (he : so cfg tb fn.results.toList (some r) = some cr) :
  After cfg tr n N w0 (bodyPostD P fn (Dq tr M N w0 cr)) M r := by
 cases r with
 | go ex tm h d =>
  intro M' a w hM ht hs hd hh
  have key : ∀ {v : AV} {h1 : AHeap} (e : ko tb fn.results.toList tm h = some cr), Leaves P fn a.tmps (Dq tr M N w0 cr) a.defers .returning w := by
   intro _ _ e
   obtain ⟨l, hl, rfl⟩ := wP e
   cases d with
   | none =>
    have hd : a.defers = [] := hd
    rw [hd]
    obtain ⟨u, h1, h2⟩ := jU H ht hh hl
    exact ⟨u, h1, M', u, rfl, hM, hh, h2⟩
   | some gc =>
    obtain ⟨g, caps⟩ := gc
    obtain ⟨hg, cs, hds, hcs⟩ := hd
    rw [hds]
    obtain ⟨hf, hcalls⟩ := hcf.idle g caps hg M' N w0 h w cs hcs hh
    refine ⟨by simp, _, _, g, cs, rfl, jN hf w, ?_⟩
    refine hcalls.mono ?_
    rintro e u w' ⟨⟨v, rfl⟩, rfl, M2, hM2, hh2⟩
    obtain ⟨x, h1, h2⟩ := jU H (ht.mono hM2) hh2 hl
    exact ⟨x, h1, M2, x, rfl, Inj.le_trans hM hM2, hh2, h2⟩
  cases ex with
  | exit i => cases he
  | normal => exact key (v := .nilp) (h1 := h) he
  | ret => exact key (v := .nilp) (h1 := h) he
 | boom l tm h d =>
  intro M' a w chain hM ht hs hd hh htr
  show Leaves P fn a.tmps (Dq tr M N w0 cr) a.defers (.panicking chain) w
  cases d with
  | none =>
   have hd : a.defers = [] := hd
   rw [hd]
   cases he
   exact ⟨M', chain, rfl, hM, hh, htr⟩
  | some gc =>
   obtain ⟨g, caps⟩ := gc
   obtain ⟨hg, cs, hds, hcs⟩ := hd
   rw [hds]
   simp only [so] at he
   split at he
   rotate_left
   ·cases he
   rename_i h' hrc
   obtain ⟨l2, hl, rfl⟩ := wP he
   obtain ⟨hf, hcalls⟩ := hcf.caught g caps l h h' hg hrc M' N w0 w cs chain hcs hh htr
   refine ⟨by simp, _, _, g, cs, rfl, jN hf w, ?_⟩
   refine hcalls.mono ?_
   rintro e u w' ⟨⟨v, rfl⟩, hu, M2, hM2, hh2⟩
   show Leaves P fn a.tmps _ [] (settle u) w'
   rw [hu]
   obtain ⟨x, h1, h2⟩ := jU H (ht.mono hM2) hh2 hl
   exact ⟨x, h1, M2, x, rfl, Inj.le_trans hM hM2, hh2, h2⟩
theorem tq (H : TabOK P tb J) (hcf : CfgOK P J tr cfg) {k : Nat} (hs : rm P J tr cfg tb k) : XOK P J tr (cj cfg tb (eV cfg tb k)) := by
 have main : ∀ (M : Inj) (N : Nat -> Prop) (w0 : Base J) (h : AHeap) (w : World) (f : Nat) (args : List AV) (vs : Array Value) (cr : CRes), LRel M args vs.toList -> HRel M N w0 h w ->
   cj cfg tb (eV cfg tb k) f args h = some cr -> jz P f /\ Calls P f vs w (Dq tr M N w0 cr) := by
  intro M N w0 h w f args vs cr hl hh he
  unfold cj at he
  split at he
  ·-- known
   rename_i v1 hor
   cases he
   obtain ⟨h1, h2⟩ := H.orc _ _ _ _ hor M N w0 vs w hh hl
   refine ⟨h1, h2.mono ?_⟩
   rintro e w' ⟨u, rfl, hu, hb⟩
   refine ⟨M, u, rfl, Inj.le_refl M, ⟨hh.base, hh.lim, hh.below.trans (Keeps.of hb hh.big), fun k hk => Nat.lt_of_lt_of_le (hh.big k hk) hb.size, fun b o hbo => ?_, hh.apart, hh.old, hh.fresh, hh.res⟩, hu⟩
   have ho := hh.live b o hbo
   exact ho.mono (Inj.le_refl M) (fun i hi => hb.block _ (ho.blk_lt hi).1)
  split at he
  ·-- it throws
   rename_i l hth
   cases he
   exact hcf.thr f args l hth M N w0 h w vs hl hh
  split at he
  ·rename_i fn hfn
   split at he
   ·rename_i cd hb hle
    have hle := Nat.ble_eq.mp hle
    have hf := H.ft _ _ hfn
    refine ⟨⟨fn, hf, by rw [hb]; rfl, H.nm _ _ hfn (by rw [hb]; rfl)⟩, ?_⟩
    have hvs : vs.size = args.length := by rw [<- hl.1]; simp
    cases hr : eV cfg tb k fn.ntmps cd (er 0 args .leaf) h none with
    | none => rw [hr] at he; cases he
    | some r =>
     rw [hr] at he
     exact calls_of_wp_defers hf hb (hs fn.ntmps cd _ h none r M N w0 _ w _ hr (ze hl) (by simp; omega) rfl hh (zU H hcf he))
   ·cases he
  ·cases he
 intro M N w0 h w f args vs hl hh
 exact ⟨fun v h' he => main M N w0 h w f args vs _ hl hh he, fun l h' he => main M N w0 h w f args vs _ hl hh he⟩
end runs
end Go.Proofs.YtfkbfnpjggkdmaaGreatDoor.Ev
