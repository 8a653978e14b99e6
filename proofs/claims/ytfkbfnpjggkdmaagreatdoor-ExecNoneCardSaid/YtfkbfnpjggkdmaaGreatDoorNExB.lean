/- An evaluator of closed calls in which errors are thrown and caught, part 2: a region that draws its order, whose last operation throws. -/
import Derived.Test.YtfkbfnpjggkdmaaGreatDoorNExA
namespace Go.Proofs.YtfkbfnpjggkdmaaGreatDoor.Ev
open Go.RowKit
variable {J : Ctx}
set_option linter.unusedVariables false
set_option linter.unusedSimpArgs false
section draw
variable {P : Program} {tb : Tab} {n : Nat} {call : Nat → List AV → AHeap → Option (AV × AHeap)} {ops : Array Oper}
/-- What was looked at, behind the reckoning in the text's order. -/
structure LookedB (z : Nat) (tb : Tab) (call : Nat → List AV → AHeap → Option (AV × AHeap)) (n : Nat) (ops : Array Oper) (S : Nat → T AV) (Hp : Nat → AHeap) (V : Nat → AV) (K : Nat → Nat) : Prop where
  step : ∀ j o, j < z → ops[j]? = some o → ev1 tb call ops.toList (S j) (Hp j) o = some (V j, Hp (j + 1), K j) ∧ putDst (S j) n o.dst (V j) = some (S (j + 1))
  louds : ∀ j, j < z → K j = 2 → ∀ i, i < j → K i = 2 → bit ops j i
  quiets : ∀ j o, j < z → ops[j]? = some o → K j = 1 → ∀ m, Mark K z m → (∀ i, i < z → K i = 2 → (bit ops j i → i < m) ∧ (bit ops i j → m ≤ i)) →
    evQ tb (S j) (Hp m) o.op = some (V j)

variable {S : Nat → T AV} {Hp : Nat → AHeap} {V : Nat → AV} {K : Nat → Nat} {z : Nat}

theorem heap_sameB (hk : LookedB z tb call n ops S Hp V K) (hz : z ≤ ops.size) : ∀ d p, p + d ≤ z → (∀ i, p ≤ i → i < p + d → K i ≠ 2) → Hp (p + d) = Hp p := by
  intro d
  induction d with
  | zero => intro p _ _; rfl
  | succ d ih =>
    intro p hp hn
    have hlt : p + d < ops.size := by omega
    obtain ⟨h1, _⟩ := hk.step (p + d) _ (by omega) (Array.getElem?_eq_getElem hlt)
    have h2 : Hp (p + d + 1) = Hp (p + d) := by
      rcases ev1_kind h1 with h | h | h
      · exact h.2.2.2
      · exact h.2.2.2
      · exact absurd h.1 (hn (p + d) (by omega) (by omega))
    rw [show p + (d + 1) = p + d + 1 by omega, h2]
    exact ih p (by omega) (fun i h1 h2 => hn i h1 (by omega))
theorem heap_eqB (hk : LookedB z tb call n ops S Hp V K) (hz : z ≤ ops.size) {p q : Nat} (hp : p ≤ z) (hq : q ≤ z) (h : ∀ i, i < z → K i = 2 → (i < p ↔ i < q)) : Hp p = Hp q := by
  rcases Nat.le_total p q with hle | hle
  · have := heap_sameB hk hz (q - p) p (by omega) (fun i h1 h2 h3 => by have := (h i (by omega) h3).2 (by omega); omega)
    rw [show p + (q - p) = q by omega] at this
    exact this.symm
  · have := heap_sameB hk hz (p - q) q (by omega) (fun i h1 h2 h3 => by have := (h i (by omega) h3).1 (by omega); omega)
    rw [show q + (p - q) = p by omega] at this
    exact this
theorem slot_sameB (hk : LookedB z tb call n ops S Hp V K) (hz : z ≤ ops.size) (t : Nat) : ∀ d p, p + d ≤ z → (∀ i o, p ≤ i → i < p + d → ops[i]? = some o → o.dst ≠ some t) → (S (p + d)).get t = (S p).get t := by
  intro d
  induction d with
  | zero => intro p _ _; rfl
  | succ d ih =>
    intro p hp hn
    have hlt : p + d < ops.size := by omega
    have ho : ops[p + d]? = some ops[p + d] := Array.getElem?_eq_getElem hlt
    obtain ⟨_, h1⟩ := hk.step (p + d) _ (by omega) ho
    have h2 := (putDst_some h1).2 t
    rw [if_neg (hn (p + d) _ (by omega) (by omega) ho)] at h2
    rw [show p + (d + 1) = p + d + 1 by omega, h2]
    exact ih p (by omega) (fun i o h1 h2 h3 => hn i o h1 (by omega) h3)

structure InvB (z : Nat) (tb : Tab) (n : Nat) (ops : Array Oper) (M : Inj) (N : Nat → Prop) (w0 : Base J) (d0 : List Deferred) (S : Nat → T AV) (Hp : Nat → AHeap) (K : Nat → Nat) (l : Array Bool) (a : Act) (w : World) : Prop where
  size : l.size = ops.size
  not : ¬ Lst l z
  closed : Closed ops l
  slots : a.tmps.size = n
  defs : a.defers = d0
  rel : ∃ M', M.le M' ∧ (∀ t m, m ≤ z → (∀ i o, ops[i]? = some o → o.dst = some t → (Lst l i ↔ i < m)) → ∀ v, (S m).get t = some v → VRel M' v (a.tmps.getD t undef)) ∧
    ∃ m, Mark K z m ∧ m ≤ z ∧ (∀ i, i < z → K i = 2 → (Lst l i ↔ i < m)) ∧ HRel M' N w0 (Hp m) w

theorem wpAny_boom (H : TabOK P tb J) (hcall : CallOK P J call) (hS : Static ops) (hk : LookedB z tb call n ops S Hp V K) (hzs : ops.size = z + 1) (hzb : ∀ i, i < z → bit ops z i) {M : Inj} {N : Nat → Prop} {w0 : Base J} {d0 : List Deferred}
    {Q : Exit → Act → World → Prop}
    (hB : ∀ o M' a w (next : Act → World → Prop), ops[z]? = some o → M.le M' → TRel M' (S z) a → a.tmps.size = n → a.defers = d0 → HRel M' N w0 (Hp z) w → wpOp P ops Q z next a w) :
    ∀ (fuel : Nat) (l : Array Bool) (a : Act) (w : World), unl l ops.size = fuel → InvB z tb n ops M N w0 d0 S Hp K l a w → wpAny P .any ops Q fuel l a w := by
  have hz : z ≤ ops.size := by omega
  have fin : ∀ (l : Array Bool) (a : Act) (w : World), InvB z tb n ops M N w0 d0 S Hp K l a w → (∀ i, i < ops.size → Lst l i) → Q .normal a w := fun l a w I hall => absurd (hall z (by omega)) I.not
  intro fuel
  induction fuel with
  | zero =>
    intro l a w hu I
    have hall := unl_zero hu
    refine ⟨?_, fin l a w I hall⟩
    cases hr : Region.ready .any ops l with
    | nil => rfl
    | cons j rs =>
      have hj : j ∈ Region.ready .any ops l := by rw [hr]; exact List.mem_cons_self
      obtain ⟨h0, o, ho, _⟩ := mem_ready.1 hj
      exact absurd (hall j (Array.getElem?_eq_some_iff.1 ho).1) (not_lst h0).1
  | succ fuel ih =>
    intro l a w hu I
    refine ⟨fun hr => fin l a w I ?_, fun j hj => ?_⟩
    · -- none is ready: all are listed
      intro i
      induction i using Nat.strongRecOn with
      | _ i ihi =>
        intro hi
        by_cases hl : Lst l i
        · exact hl
        · exfalso
          have ho : ops[i]? = some ops[i] := Array.getElem?_eq_getElem hi
          have : i ∈ Region.ready .any ops l := by
            rw [mem_ready]
            refine ⟨lst_false hl (by rw [I.size]; exact hi), _, ho, fun e he hb => ?_⟩
            rw [binds_eq] at hb
            have hlt := hS.edge i _ ho e he hb
            exact ihi e.on hlt (by omega)
          rw [hr] at this
          cases this
    · obtain ⟨hj0, o, ho, hd⟩ := mem_ready.1 hj
      obtain ⟨hnl, hjs⟩ := not_lst hj0
      have hjN : j < ops.size := (Array.getElem?_eq_some_iff.1 ho).1
      have hdir : ∀ e ∈ o.after, bindsAny e = true → Lst l e.on := fun e he hb => hd e he (by rw [binds_eq]; exact hb)
      obtain ⟨M', hM, ht, m, hmark, hm, hml, hh⟩ := I.rel
      by_cases hjz : j = z
      · -- the last one
        subst hjz
        refine hB o M' a w _ ho hM (fun t v hv => ht t j (Nat.le_refl _) (fun i x hx hdx => ?_) v hv) I.slots I.defs ?_
        · have hi : i < ops.size := (Array.getElem?_eq_some_iff.1 hx).1
          constructor
          · intro hl
            rcases Nat.lt_or_ge i j with h | h
            · exact h
            · have e : i = j := by omega
              subst e
              exact absurd hl hnl
          · intro h
            exact closed_bit hS I.closed j o ho hdir i (hzb i h)
        · have : Hp m = Hp j := heap_eqB hk hz hm (Nat.le_refl _) (fun i hi h2 => ⟨fun _ => hi, fun _ => (hml i hi h2).1 (closed_bit hS I.closed j o ho hdir i (hzb i hi))⟩)
          rw [← this]
          exact hh
      have hjlt : j < z := by omega
      obtain ⟨hst, hput⟩ := hk.step j o hjlt ho
      -- who stands behind j is not listed; who must stand ahead is
      have behind : ∀ i x, ops[i]? = some x → bit ops i j → ¬ Lst l i := by
        intro i x hx hb hl
        exact hnl (closed_bit hS I.closed i x hx (I.closed i x hx hl) j hb)
      have ahead : ∀ i, bit ops j i → Lst l i ∧ i < j := fun i hb => ⟨closed_bit hS I.closed j o ho hdir i hb, bit_lt hS j i hjN hb⟩
      have hw : ∀ t, t ∈ touches ops.toList o → ∀ i x, ops[i]? = some x → x.dst = some t → (Lst l i ↔ i < j) := by
        intro t htt i x hx hdx
        by_cases hij : i = j
        · subst hij; exact ⟨fun h => absurd h hnl, fun h => by omega⟩
        · rcases hS.pair i j x o hx ho hij t hdx htt with hb | hb
          · have := ahead i hb; exact ⟨fun _ => this.2, fun _ => this.1⟩
          · have h1 := behind i x hx hb
            have h2 := bit_lt hS i j (Array.getElem?_eq_some_iff.1 hx).1 hb
            exact ⟨fun h => absurd h h1, fun h => by omega⟩
      obtain ⟨tr, htr⟩ := restrict (S j) (touches ops.toList o)
      have hT : TRel M' tr a := by
        intro t v hv
        rw [htr] at hv
        split at hv
        · rename_i hmem
          exact ht t j (by omega) (hw t hmem) v hv
        · cases hv
      have hopnd : ∀ x ∈ o.op.operands, opnd (S j) x = opnd tr x := by
        intro x hx
        refine (opnd_restrict htr (fun t e => ?_)).symm
        unfold touches
        refine List.mem_append_left _ (List.mem_append_right _ ?_)
        exact List.mem_filterMap.2 ⟨x, by simpa using hx, by rw [e]⟩
      have hwant : wantedA ops.toList (S j) o = wantedA ops.toList tr o := by
        unfold wantedA
        cases hg : o.guard with
        | none => rfl
        | some gw =>
          obtain ⟨g, want⟩ := gw
          simp only
          cases hog : ops.toList[g]? with
          | none => rfl
          | some og =>
            simp only
            cases hgd : og.dst with
            | none => rfl
            | some d =>
              have : d ∈ touches ops.toList o := by
                unfold touches
                refine List.mem_append_right _ ?_
                simp only [hg, hog, Option.bind_some, hgd]
                simp
              simp only [htr d, if_pos this]
      -- the step, whatever it was
      have go : ∀ (M2 : Inj) (u : Value) (w2 : World), M'.le M2 → VRel M2 (V j) u →
          (∃ m, Mark K z m ∧ m ≤ z ∧ (∀ i, i < z → K i = 2 → ((i = j ∨ Lst l i) ↔ i < m)) ∧ HRel M2 N w0 (Hp m) w2) →
          wpAny P .any ops Q fuel (l.setIfInBounds j true) (a.put o.dst u) w2 := by
        intro M2 u w2 hM2 hv hheap
        refine ih _ _ _ (by have := unl_set hnl hjs hjN; omega) ⟨by simp [I.size], (by rw [lst_set hjs]; rintro (e | e); exact hjz e.symm; exact I.not e), ?_, by rw [put_size]; exact I.slots, by rw [put_def]; exact I.defs, M2, Inj.le_trans hM hM2, ?_, ?_⟩
        · intro i x hx hl e he hb
          rw [lst_set hjs] at hl ⊢
          rcases hl with rfl | hl
          · rw [ho] at hx; cases hx; exact .inr (hdir e he hb)
          · exact .inr (I.closed i x hx hl e he hb)
        · intro t q hq hwr v hvt
          obtain ⟨hp1, hp2⟩ := putDst_some hput
          rw [put_getD a o.dst u t (fun x hx => by rw [I.slots]; exact hp1 x hx)]
          by_cases hdt : o.dst = some t
          · rw [if_pos hdt]
            have hjq : j < q := (hwr j o ho hdt).1 (by rw [lst_set hjs]; exact .inl rfl)
            have hsame := slot_sameB hk hz t (q - (j + 1)) (j + 1) (by omega) (fun i x h1 h2 hx hdx => by
              have hli := (hwr i x hx hdx).2 (by omega)
              rw [lst_set hjs] at hli
              have hli : Lst l i := hli.resolve_left (by omega)
              have htt : t ∈ touches ops.toList o := by
                unfold touches
                refine List.mem_append_left _ (List.mem_append_left _ ?_)
                rw [hdt]; simp
              have := (hw t htt i x hx hdx).1 hli
              omega)
            rw [show j + 1 + (q - (j + 1)) = q by omega] at hsame
            rw [hsame, hp2 t, if_pos hdt] at hvt
            cases hvt
            exact hv
          · rw [if_neg hdt]
            refine (ht t q hq (fun i x hx hdx => ?_) v hvt).mono hM2
            have := hwr i x hx hdx
            rw [lst_set hjs] at this
            have hne : i ≠ j := by rintro rfl; rw [ho] at hx; cases hx; exact hdt hdx
            exact ⟨fun h => this.1 (.inr h), fun h => (this.2 h).resolve_left hne⟩
        · obtain ⟨q, h1, h2, h3, h4⟩ := hheap
          exact ⟨q, h1, h2, fun i hi hki => by rw [lst_set hjs]; exact h3 i hi hki, h4⟩
      rcases ev1_kind hst with ⟨hk0, hw0, hv0, _⟩ | ⟨hk1, hw1, hq1, _⟩ | ⟨hk2, hw2, hl2⟩
      · -- not wanted
        unfold wpOp
        simp only [ho]
        rw [hwant] at hw0
        rw [wanted_ok hT hw0]
        simp only [Bool.false_eq_true, if_false]
        refine go M' undef w (Inj.le_refl M') (by rw [hv0]; exact .tuple [] #[] rfl (fun i v u p => by simp at p)) ⟨m, hmark, hm, fun i hi hki => ?_, hh⟩
        have hne : i ≠ j := by rintro rfl; omega
        exact ⟨fun h => (hml i hi hki).1 (h.resolve_left hne), fun h => .inr ((hml i hi hki).2 h)⟩
      · -- quiet
        have hqq := hk.quiets j o hjlt ho hk1 m hmark (fun i hi hki => ⟨fun hb => (hml i hi hki).1 (ahead i hb).1, fun hb => by
          have h1 := behind i _ (Array.getElem?_eq_getElem (show i < ops.size by omega)) hb
          have h2 := hml i hi hki
          rcases Nat.lt_or_ge i m with h | h
          · exact absurd (h2.2 h) h1
          · exact h⟩)
        unfold evQ at hqq
        split at hqq
        · rename_i r hq
          subst hqq
          rw [evOp_congr hopnd] at hq
          unfold wpOp
          simp only [ho]
          rw [hwant] at hw1
          rw [wanted_ok hT hw1, if_pos rfl]
          refine .inl ?_
          obtain ⟨u, h1, h2⟩ := quiet_ok H hT hh hq
          unfold Oper.wp
          rw [h1, Oper.upon_value]
          refine go M' u w (Inj.le_refl M') h2 ⟨m, hmark, hm, fun i hi hki => ?_, hh⟩
          have hne : i ≠ j := by rintro rfl; omega
          exact ⟨fun h => (hml i hi hki).1 (h.resolve_left hne), fun h => .inr ((hml i hi hki).2 h)⟩
        · cases hqq
      · -- loud
        have hlo : ∀ i, i < z → K i = 2 → (Lst l i ↔ i < j) := by
          intro i hi hki
          constructor
          · intro hl
            rcases Nat.lt_trichotomy i j with h | h | h
            · exact h
            · subst h; exact absurd hl hnl
            · exact absurd hl (behind i _ (Array.getElem?_eq_getElem (show i < ops.size by omega)) (hk.louds i hi hki j h hk2))
          · intro h
            exact (ahead i (hk.louds j hjlt hk2 i h hki)).1
        have heq : Hp m = Hp j := heap_eqB hk hz hm (by omega) (fun i hi hki => by rw [← hml i hi hki, hlo i hi hki])
        rw [heq] at hh
        rw [evOp_congr hopnd] at hl2
        unfold wpOp
        simp only [ho]
        rw [hwant] at hw2
        rw [wanted_ok hT hw2, if_pos rfl]
        refine .inl ?_
        refine loud_ok H hT hh hcall hl2 (fun M2 u w2 hM2 hh2 hv2 => ?_)
        refine go M2 u w2 hM2 hv2 ⟨j + 1, .inr ⟨j, hjlt, hk2, rfl⟩, hjlt, fun i hi hki => ?_, hh2⟩
        have := hlo i hi hki
        constructor
        · rintro (rfl | h)
          · omega
          · have := this.1 h; omega
        · intro h
          by_cases hij : i = j
          · exact .inl hij
          · exact .inr (this.2 (by omega))
end draw
end Go.Proofs.YtfkbfnpjggkdmaaGreatDoor.Ev
