/- An evaluator of closed calls, part 12: a region that draws its order gives what it gives in the text's. -/
import Derived.Test.YtdpcpnhkkedfcaaDoorEvK
namespace Go.Proofs.YtdpcpnhkkedfcaaDoor.Ev
open Go.RowKit
variable {J : Ctx}
set_option linter.unusedVariables false
set_option linter.unusedSimpArgs false

theorem binds_eq (e : Edge) : Region.binds .any e = bindsAny e := by
  unfold Region.binds bindsAny
  cases e.ground <;> rfl

theorem ev1_kind {tb : Tab} {call : Nat → List AV → AHeap → Option (AV × AHeap)} {ops : List Oper} {tm : T AV} {h h' : AHeap} {o : Oper} {v : AV} {k : Nat}
    (he : ev1 tb call ops tm h o = some (v, h', k)) :
    (k = 0 ∧ wantedA ops tm o = some false ∧ v = .tuple [] ∧ h' = h) ∨ (k = 1 ∧ wantedA ops tm o = some true ∧ evOp tb call tm h o.op = .q (some v) ∧ h' = h) ∨
    (k = 2 ∧ wantedA ops tm o = some true ∧ evOp tb call tm h o.op = .l (some (v, h'))) := by
  unfold ev1 at he
  split at he
  · rename_i hw
    split at he
    · rename_i hq
      simp only [Option.some.injEq, Prod.mk.injEq] at he
      obtain ⟨rfl, rfl, rfl⟩ := he
      exact .inr (.inr ⟨rfl, hw, hq⟩)
    · rename_i hq
      simp only [Option.some.injEq, Prod.mk.injEq] at he
      obtain ⟨rfl, rfl, rfl⟩ := he
      exact .inr (.inl ⟨rfl, hw, hq, rfl⟩)
    · cases he
  · rename_i hw
    simp only [Option.some.injEq, Prod.mk.injEq] at he
    obtain ⟨rfl, rfl, rfl⟩ := he
    exact .inl ⟨rfl, hw, rfl, rfl⟩
  · cases he

/-- Is a place listed? -/
def Lst (l : Array Bool) (i : Nat) : Prop := l.getD i false = true
theorem lst_set {l : Array Bool} {j i : Nat} (hj : j < l.size) : Lst (l.setIfInBounds j true) i ↔ (i = j ∨ Lst l i) := by
  unfold Lst
  by_cases h : j = i
  · subst h; simp [hj]
  · have : ¬ i = j := fun e => h e.symm
    simp [Array.getElem?_setIfInBounds_ne h, this]
theorem not_lst {l : Array Bool} {j : Nat} (h : l.getD j true = false) : ¬ Lst l j ∧ j < l.size := by
  unfold Lst
  rcases Nat.lt_or_ge j l.size with hj | hj
  · simp [hj] at h ⊢; simp [h]
  · simp [Array.getElem?_eq_none hj] at h
theorem lst_false {l : Array Bool} {j : Nat} (h : ¬ Lst l j) (hj : j < l.size) : l.getD j true = false := by
  unfold Lst at h
  simp [hj] at h ⊢
  exact h

def unl (l : Array Bool) (k : Nat) : Nat := (List.range k).countP fun i => !(l.getD i false)
theorem unl_set {l : Array Bool} {j k : Nat} (hj : ¬ Lst l j) (hs : j < l.size) (hk : j < k) : unl (l.setIfInBounds j true) k + 1 = unl l k := by
  have pt : ∀ i, i ≠ j → (l.setIfInBounds j true).getD i false = l.getD i false := by
    intro i hi
    simp [Array.getElem?_setIfInBounds_ne (fun e => hi e.symm)]
  have hlow : ∀ m, m ≤ j → unl (l.setIfInBounds j true) m = unl l m := by
    intro m hm
    unfold unl
    apply List.countP_congr
    intro i hi
    rw [pt i (by have := List.mem_range.1 hi; omega)]
  have hhigh : ∀ m, j < m → unl (l.setIfInBounds j true) m + 1 = unl l m := by
    intro m
    induction m with
    | zero => intro h; omega
    | succ m ih =>
      intro hm
      unfold unl
      simp only [List.range_succ, List.countP_append, List.countP_cons, List.countP_nil]
      by_cases he : m = j
      · subst he
        have h0 := hlow m (Nat.le_refl m)
        unfold unl at h0
        have e1 : (l.setIfInBounds m true).getD m false = true := by simp [hs]
        have e2 : l.getD m false = false := by
          unfold Lst at hj
          cases hq : l.getD m false
          · rfl
          · exact absurd hq hj
        rw [h0, e1, e2]
        simp
      · have h0 := ih (by omega)
        unfold unl at h0
        rw [pt m he]
        omega
  exact hhigh k hk
theorem unl_zero {l : Array Bool} {k : Nat} (h : unl l k = 0) : ∀ i, i < k → Lst l i := by
  intro i hi
  unfold unl at h
  rw [List.countP_eq_zero] at h
  have := h i (List.mem_range.2 hi)
  unfold Lst
  cases hq : l.getD i false
  · rw [hq] at this; simp at this
  · rfl

section draw
variable {P : Program} {tb : Tab} {n : Nat} {call : Nat → List AV → AHeap → Option (AV × AHeap)} {ops : Array Oper}

def bit (ops : Array Oper) (j i : Nat) : Prop := ((aheadOf ops.toList []).getD j 0).testBit i = true

structure Static (ops : Array Oper) : Prop where
  edge : ∀ j o, ops[j]? = some o → ∀ e ∈ o.after, bindsAny e = true → e.on < j
  pair : ∀ i j x o, ops[i]? = some x → ops[j]? = some o → i ≠ j → ∀ d, x.dst = some d → d ∈ touches ops.toList o → bit ops j i ∨ bit ops i j

theorem static_of (h : drawOk ops.toList = true) : Static ops := by
  unfold drawOk at h
  simp only [Bool.and_eq_true, List.all_eq_true, Bool.or_eq_true, Bool.not_eq_true', Nat.blt_eq, beq_iff_eq] at h
  obtain ⟨h1, h2⟩ := h
  refine ⟨fun j o ho e he hb => ?_, fun i j x o hi hj hne d hd ht => ?_⟩
  · have hm : (o, j) ∈ ops.toList.zipIdx := by
      rw [List.mem_zipIdx_iff_getElem?]
      simpa using ho
    rcases h1 (o, j) hm e (by simpa using he) with h | h
    · rw [hb] at h; cases h
    · exact h
  · have hmj : (o, j) ∈ ops.toList.zipIdx := by rw [List.mem_zipIdx_iff_getElem?]; simpa using hj
    have hmi : (x, i) ∈ ops.toList.zipIdx := by rw [List.mem_zipIdx_iff_getElem?]; simpa using hi
    rcases h2 (o, j) hmj (x, i) hmi with h | h
    · exact absurd h hne
    · simp only [hd, Bool.or_eq_true, Bool.not_eq_true'] at h
      rcases h with (h | h) | h
      · have : (touches ops.toList o).contains d = true := by simpa using ht
        rw [this] at h; cases h
      · exact .inl h
      · exact .inr h

theorem bit_lt (hS : Static ops) : ∀ j i, j < ops.size → bit ops j i → i < j := by
  intro j
  induction j using Nat.strongRecOn with
  | _ j ih =>
    intro i hj hb
    have ho : ops[j]? = some ops[j] := Array.getElem?_eq_getElem hj
    obtain ⟨e, he, hbd, h⟩ := ahead_bit (ops := ops.toList) (by rw [Array.getElem?_toList]; exact ho) hb
    have hlt := hS.edge j _ ho e (by simpa using he) hbd
    rcases h with h | ⟨_, h⟩
    · omega
    · have := ih e.on hlt i (by omega) h
      omega

def Closed (ops : Array Oper) (l : Array Bool) : Prop := ∀ j o, ops[j]? = some o → Lst l j → ∀ e ∈ o.after, bindsAny e = true → Lst l e.on
theorem closed_bit (hS : Static ops) {l : Array Bool} (hc : Closed ops l) : ∀ j o, ops[j]? = some o → (∀ e ∈ o.after, bindsAny e = true → Lst l e.on) → ∀ i, bit ops j i → Lst l i := by
  intro j
  induction j using Nat.strongRecOn with
  | _ j ih =>
    intro o ho hd i hb
    obtain ⟨e, he, hbd, h⟩ := ahead_bit (ops := ops.toList) (by rw [Array.getElem?_toList]; exact ho) hb
    have he' : e ∈ o.after := by simpa using he
    have hlt := hS.edge j _ ho e he' hbd
    rcases h with h | ⟨_, h⟩
    · rw [h]; exact hd e he' hbd
    · have hj : j < ops.size := (Array.getElem?_eq_some_iff.1 ho).1
      have ho' : ops[e.on]? = some ops[e.on] := Array.getElem?_eq_getElem (by omega)
      exact ih e.on hlt _ ho' (hc e.on _ ho' (hd e he' hbd)) i h

def Mark (K : Nat → Nat) (N m : Nat) : Prop := m = 0 ∨ ∃ i, i < N ∧ K i = 2 ∧ m = i + 1

/-- What was looked at, behind the reckoning in the text's order. -/
structure Looked (tb : Tab) (call : Nat → List AV → AHeap → Option (AV × AHeap)) (n : Nat) (ops : Array Oper) (S : Nat → T AV) (Hp : Nat → AHeap) (V : Nat → AV) (K : Nat → Nat) : Prop where
  step : ∀ j o, ops[j]? = some o → ev1 tb call ops.toList (S j) (Hp j) o = some (V j, Hp (j + 1), K j) ∧ putDst (S j) n o.dst (V j) = some (S (j + 1))
  louds : ∀ j, j < ops.size → K j = 2 → ∀ i, i < j → K i = 2 → bit ops j i
  quiets : ∀ j o, ops[j]? = some o → K j = 1 → ∀ m, Mark K ops.size m → (∀ i, i < ops.size → K i = 2 → (bit ops j i → i < m) ∧ (bit ops i j → m ≤ i)) →
    evQ tb (S j) (Hp m) o.op = some (V j)

variable {S : Nat → T AV} {Hp : Nat → AHeap} {V : Nat → AV} {K : Nat → Nat}

theorem heap_same (hk : Looked tb call n ops S Hp V K) : ∀ d p, p + d ≤ ops.size → (∀ i, p ≤ i → i < p + d → K i ≠ 2) → Hp (p + d) = Hp p := by
  intro d
  induction d with
  | zero => intro p _ _; rfl
  | succ d ih =>
    intro p hp hn
    have hlt : p + d < ops.size := by omega
    obtain ⟨h1, _⟩ := hk.step (p + d) _ (Array.getElem?_eq_getElem hlt)
    have h2 : Hp (p + d + 1) = Hp (p + d) := by
      rcases ev1_kind h1 with h | h | h
      · exact h.2.2.2
      · exact h.2.2.2
      · exact absurd h.1 (hn (p + d) (by omega) (by omega))
    rw [show p + (d + 1) = p + d + 1 by omega, h2]
    exact ih p (by omega) (fun i h1 h2 => hn i h1 (by omega))
theorem heap_eq (hk : Looked tb call n ops S Hp V K) {p q : Nat} (hp : p ≤ ops.size) (hq : q ≤ ops.size) (h : ∀ i, i < ops.size → K i = 2 → (i < p ↔ i < q)) : Hp p = Hp q := by
  rcases Nat.le_total p q with hle | hle
  · have := heap_same hk (q - p) p (by omega) (fun i h1 h2 h3 => by have := (h i (by omega) h3).2 (by omega); omega)
    rw [show p + (q - p) = q by omega] at this
    exact this.symm
  · have := heap_same hk (p - q) q (by omega) (fun i h1 h2 h3 => by have := (h i (by omega) h3).1 (by omega); omega)
    rw [show q + (p - q) = p by omega] at this
    exact this
theorem slot_same (hk : Looked tb call n ops S Hp V K) (t : Nat) : ∀ d p, p + d ≤ ops.size → (∀ i o, p ≤ i → i < p + d → ops[i]? = some o → o.dst ≠ some t) → (S (p + d)).get t = (S p).get t := by
  intro d
  induction d with
  | zero => intro p _ _; rfl
  | succ d ih =>
    intro p hp hn
    have hlt : p + d < ops.size := by omega
    have ho : ops[p + d]? = some ops[p + d] := Array.getElem?_eq_getElem hlt
    obtain ⟨_, h1⟩ := hk.step (p + d) _ ho
    have h2 := (putDst_some h1).2 t
    rw [if_neg (hn (p + d) _ (by omega) (by omega) ho)] at h2
    rw [show p + (d + 1) = p + d + 1 by omega, h2]
    exact ih p (by omega) (fun i o h1 h2 h3 => hn i o h1 (by omega) h3)

structure Inv (tb : Tab) (n : Nat) (ops : Array Oper) (M : Inj) (N : Nat) (w0 : Base J) (d0 : List Deferred) (S : Nat → T AV) (Hp : Nat → AHeap) (K : Nat → Nat) (l : Array Bool) (a : Act) (w : World) : Prop where
  size : l.size = ops.size
  closed : Closed ops l
  slots : a.tmps.size = n
  defs : a.defers = d0
  rel : ∃ M', M.le M' ∧ (∀ t m, m ≤ ops.size → (∀ i o, ops[i]? = some o → o.dst = some t → (Lst l i ↔ i < m)) → ∀ v, (S m).get t = some v → VRel M' v (a.tmps.getD t undef)) ∧
    ∃ m, Mark K ops.size m ∧ m ≤ ops.size ∧ (∀ i, i < ops.size → K i = 2 → (Lst l i ↔ i < m)) ∧ HRel M' N w0 (Hp m) w

theorem inv_end {M : Inj} {N : Nat} {w0 : Base J} {d0 : List Deferred} {l : Array Bool} {a : Act} {w : World} (hk : Looked tb call n ops S Hp V K) (I : Inv tb n ops M N w0 d0 S Hp K l a w)
    (hall : ∀ i, i < ops.size → Lst l i) : ∃ M', M.le M' ∧ TRel M' (S ops.size) a ∧ HRel M' N w0 (Hp ops.size) w := by
  obtain ⟨M', hM, ht, m, _, hm, hl, hh⟩ := I.rel
  refine ⟨M', hM, fun t v hv => ht t ops.size (Nat.le_refl _) (fun i o hi _ => ?_) v hv, ?_⟩
  · have hlt : i < ops.size := (Array.getElem?_eq_some_iff.1 hi).1
    exact ⟨fun _ => hlt, fun _ => hall i hlt⟩
  · have : Hp m = Hp ops.size := heap_eq hk hm (Nat.le_refl _) (fun i hi h2 => ⟨fun _ => hi, fun _ => (hl i hi h2).1 (hall i hi)⟩)
    rw [← this]
    exact hh

theorem wpAny_inv (H : TabOK P tb J) (hcall : CallOK P J call) (hS : Static ops) (hk : Looked tb call n ops S Hp V K) {M : Inj} {N : Nat} {w0 : Base J} {d0 : List Deferred}
    {Q : Exit → Act → World → Prop}
    (hQ : ∀ M' a' w', M.le M' → TRel M' (S ops.size) a' → a'.tmps.size = n → a'.defers = d0 → HRel M' N w0 (Hp ops.size) w' → Q .normal a' w') :
    ∀ (fuel : Nat) (l : Array Bool) (a : Act) (w : World), unl l ops.size = fuel → Inv tb n ops M N w0 d0 S Hp K l a w → wpAny P .any ops Q fuel l a w := by
  have fin : ∀ (l : Array Bool) (a : Act) (w : World), Inv tb n ops M N w0 d0 S Hp K l a w → (∀ i, i < ops.size → Lst l i) → Q .normal a w := by
    intro l a w I hall
    obtain ⟨M', h1, h2, h3⟩ := inv_end hk I hall
    exact hQ M' a w h1 h2 I.slots I.defs h3
  intro fuel
  induction fuel with
  | zero =>
    intro l a w hu I
    have hall := unl_zero hu
    refine ⟨?_, fin l a w I hall⟩
    cases hr : Region.ready .any ops l with
    | nil => rfl
    | cons j rs =>
      have hj : j ∈ Region.ready .any ops l := by rw [hr]; exact List.mem_cons_self
      obtain ⟨h0, o, ho, _⟩ := mem_ready.1 hj
      exact absurd (hall j (Array.getElem?_eq_some_iff.1 ho).1) (not_lst h0).1
  | succ fuel ih =>
    intro l a w hu I
    refine ⟨fun hr => fin l a w I ?_, fun j hj => ?_⟩
    · -- none is ready: all are listed
      intro i
      induction i using Nat.strongRecOn with
      | _ i ihi =>
        intro hi
        by_cases hl : Lst l i
        · exact hl
        · exfalso
          have ho : ops[i]? = some ops[i] := Array.getElem?_eq_getElem hi
          have : i ∈ Region.ready .any ops l := by
            rw [mem_ready]
            refine ⟨lst_false hl (by rw [I.size]; exact hi), _, ho, fun e he hb => ?_⟩
            rw [binds_eq] at hb
            have hlt := hS.edge i _ ho e he hb
            exact ihi e.on hlt (by omega)
          rw [hr] at this
          cases this
    · obtain ⟨hj0, o, ho, hd⟩ := mem_ready.1 hj
      obtain ⟨hnl, hjs⟩ := not_lst hj0
      have hjN : j < ops.size := (Array.getElem?_eq_some_iff.1 ho).1
      have hdir : ∀ e ∈ o.after, bindsAny e = true → Lst l e.on := fun e he hb => hd e he (by rw [binds_eq]; exact hb)
      obtain ⟨M', hM, ht, m, hmark, hm, hml, hh⟩ := I.rel
      obtain ⟨hst, hput⟩ := hk.step j o ho
      -- who stands behind j is not listed; who must stand ahead is
      have behind : ∀ i x, ops[i]? = some x → bit ops i j → ¬ Lst l i := by
        intro i x hx hb hl
        exact hnl (closed_bit hS I.closed i x hx (I.closed i x hx hl) j hb)
      have ahead : ∀ i, bit ops j i → Lst l i ∧ i < j := fun i hb => ⟨closed_bit hS I.closed j o ho hdir i hb, bit_lt hS j i hjN hb⟩
      have hw : ∀ t, t ∈ touches ops.toList o → ∀ i x, ops[i]? = some x → x.dst = some t → (Lst l i ↔ i < j) := by
        intro t htt i x hx hdx
        by_cases hij : i = j
        · subst hij; exact ⟨fun h => absurd h hnl, fun h => by omega⟩
        · rcases hS.pair i j x o hx ho hij t hdx htt with hb | hb
          · have := ahead i hb; exact ⟨fun _ => this.2, fun _ => this.1⟩
          · have h1 := behind i x hx hb
            have h2 := bit_lt hS i j (Array.getElem?_eq_some_iff.1 hx).1 hb
            exact ⟨fun h => absurd h h1, fun h => by omega⟩
      obtain ⟨tr, htr⟩ := restrict (S j) (touches ops.toList o)
      have hT : TRel M' tr a := by
        intro t v hv
        rw [htr] at hv
        split at hv
        · rename_i hmem
          exact ht t j (by omega) (hw t hmem) v hv
        · cases hv
      have hopnd : ∀ x ∈ o.op.operands, opnd (S j) x = opnd tr x := by
        intro x hx
        refine (opnd_restrict htr (fun t e => ?_)).symm
        unfold touches
        refine List.mem_append_left _ (List.mem_append_right _ ?_)
        exact List.mem_filterMap.2 ⟨x, by simpa using hx, by rw [e]⟩
      have hwant : wantedA ops.toList (S j) o = wantedA ops.toList tr o := by
        unfold wantedA
        cases hg : o.guard with
        | none => rfl
        | some gw =>
          obtain ⟨g, want⟩ := gw
          simp only
          cases hog : ops.toList[g]? with
          | none => rfl
          | some og =>
            simp only
            cases hgd : og.dst with
            | none => rfl
            | some d =>
              have : d ∈ touches ops.toList o := by
                unfold touches
                refine List.mem_append_right _ ?_
                simp only [hg, hog, Option.bind_some, hgd]
                simp
              simp only [htr d, if_pos this]
      -- the step, whatever it was
      have go : ∀ (M2 : Inj) (u : Value) (w2 : World), M'.le M2 → VRel M2 (V j) u →
          (∃ m, Mark K ops.size m ∧ m ≤ ops.size ∧ (∀ i, i < ops.size → K i = 2 → ((i = j ∨ Lst l i) ↔ i < m)) ∧ HRel M2 N w0 (Hp m) w2) →
          wpAny P .any ops Q fuel (l.setIfInBounds j true) (a.put o.dst u) w2 := by
        intro M2 u w2 hM2 hv hheap
        refine ih _ _ _ (by have := unl_set hnl hjs hjN; omega) ⟨by simp [I.size], ?_, by rw [put_size]; exact I.slots, by rw [put_def]; exact I.defs, M2, Inj.le_trans hM hM2, ?_, ?_⟩
        · intro i x hx hl e he hb
          rw [lst_set hjs] at hl ⊢
          rcases hl with rfl | hl
          · rw [ho] at hx; cases hx; exact .inr (hdir e he hb)
          · exact .inr (I.closed i x hx hl e he hb)
        · intro t q hq hwr v hvt
          obtain ⟨hp1, hp2⟩ := putDst_some hput
          rw [put_getD a o.dst u t (fun x hx => by rw [I.slots]; exact hp1 x hx)]
          by_cases hdt : o.dst = some t
          · rw [if_pos hdt]
            have hjq : j < q := (hwr j o ho hdt).1 (by rw [lst_set hjs]; exact .inl rfl)
            have hsame := slot_same hk t (q - (j + 1)) (j + 1) (by omega) (fun i x h1 h2 hx hdx => by
              have hli := (hwr i x hx hdx).2 (by omega)
              rw [lst_set hjs] at hli
              have hli : Lst l i := hli.resolve_left (by omega)
              have htt : t ∈ touches ops.toList o := by
                unfold touches
                refine List.mem_append_left _ (List.mem_append_left _ ?_)
                rw [hdt]; simp
              have := (hw t htt i x hx hdx).1 hli
              omega)
            rw [show j + 1 + (q - (j + 1)) = q by omega] at hsame
            rw [hsame, hp2 t, if_pos hdt] at hvt
            cases hvt
            exact hv
          · rw [if_neg hdt]
            refine (ht t q hq (fun i x hx hdx => ?_) v hvt).mono hM2
            have := hwr i x hx hdx
            rw [lst_set hjs] at this
            have hne : i ≠ j := by rintro rfl; rw [ho] at hx; cases hx; exact hdt hdx
            exact ⟨fun h => this.1 (.inr h), fun h => (this.2 h).resolve_left hne⟩
        · obtain ⟨q, h1, h2, h3, h4⟩ := hheap
          exact ⟨q, h1, h2, fun i hi hki => by rw [lst_set hjs]; exact h3 i hi hki, h4⟩
      rcases ev1_kind hst with ⟨hk0, hw0, hv0, _⟩ | ⟨hk1, hw1, hq1, _⟩ | ⟨hk2, hw2, hl2⟩
      · -- not wanted
        unfold wpOp
        simp only [ho]
        rw [hwant] at hw0
        rw [wanted_ok hT hw0]
        simp only [Bool.false_eq_true, if_false]
        refine go M' undef w (Inj.le_refl M') (by rw [hv0]; exact .tuple [] #[] rfl (fun i v u p => by simp at p)) ⟨m, hmark, hm, fun i hi hki => ?_, hh⟩
        have hne : i ≠ j := by rintro rfl; omega
        exact ⟨fun h => (hml i hi hki).1 (h.resolve_left hne), fun h => .inr ((hml i hi hki).2 h)⟩
      · -- quiet
        have hqq := hk.quiets j o ho hk1 m hmark (fun i hi hki => ⟨fun hb => (hml i hi hki).1 (ahead i hb).1, fun hb => by
          have h1 := behind i _ (Array.getElem?_eq_getElem hi) hb
          have h2 := hml i hi hki
          rcases Nat.lt_or_ge i m with h | h
          · exact absurd (h2.2 h) h1
          · exact h⟩)
        unfold evQ at hqq
        split at hqq
        · rename_i r hq
          subst hqq
          rw [evOp_congr hopnd] at hq
          unfold wpOp
          simp only [ho]
          rw [hwant] at hw1
          rw [wanted_ok hT hw1, if_pos rfl]
          refine .inl ?_
          obtain ⟨u, h1, h2⟩ := quiet_ok H hT hh hq
          unfold Oper.wp
          rw [h1, Oper.upon_value]
          refine go M' u w (Inj.le_refl M') h2 ⟨m, hmark, hm, fun i hi hki => ?_, hh⟩
          have hne : i ≠ j := by rintro rfl; omega
          exact ⟨fun h => (hml i hi hki).1 (h.resolve_left hne), fun h => .inr ((hml i hi hki).2 h)⟩
        · cases hqq
      · -- loud
        have hlo : ∀ i, i < ops.size → K i = 2 → (Lst l i ↔ i < j) := by
          intro i hi hki
          constructor
          · intro hl
            rcases Nat.lt_trichotomy i j with h | h | h
            · exact h
            · subst h; exact absurd hl hnl
            · exact absurd hl (behind i _ (Array.getElem?_eq_getElem hi) (hk.louds i hi hki j h hk2))
          · intro h
            exact (ahead i (hk.louds j hjN hk2 i h hki)).1
        have heq : Hp m = Hp j := heap_eq hk hm (by omega) (fun i hi hki => by rw [← hml i hi hki, hlo i hi hki])
        rw [heq] at hh
        rw [evOp_congr hopnd] at hl2
        unfold wpOp
        simp only [ho]
        rw [hwant] at hw2
        rw [wanted_ok hT hw2, if_pos rfl]
        refine .inl ?_
        refine loud_ok H hT hh hcall hl2 (fun M2 u w2 hM2 hh2 hv2 => ?_)
        refine go M2 u w2 hM2 hv2 ⟨j + 1, .inr ⟨j, hjN, hk2, rfl⟩, hjN, fun i hi hki => ?_, hh2⟩
        have := hlo i hi hki
        constructor
        · rintro (rfl | h)
          · omega
          · have := this.1 h; omega
        · intro h
          by_cases hij : i = j
          · exact .inl hij
          · exact .inr (this.2 (by omega))

theorem trace_of_ops : ∀ {rest : List Oper} {i : Nat} {tm tm' : T AV} {h h' : AHeap}, evOps tb call n ops.toList rest tm h = some (tm', h') →
    ∃ es ms, evTrace tb call n ops.toList i rest tm h = some (es, ms, tm', h')
  | [], i, tm, tm', h, h', he => by
    simp only [evOps, Option.some.injEq, Prod.mk.injEq] at he
    obtain ⟨rfl, rfl⟩ := he
    exact ⟨[], [], rfl⟩
  | o :: rest, i, tm, tm', h, h', he => by
    unfold evOps at he
    unfold evTrace
    split at he
    · rename_i v h1 k he1
      split at he
      · rename_i tm1 hp
        obtain ⟨es, ms, ht⟩ := trace_of_ops (i := i + 1) he
        simp only [hp, ht]
        exact ⟨_, _, rfl⟩
      · cases he
    · cases he
theorem loud_is {o : Op} {tm : T AV} {h : AHeap} {r : Option (AV × AHeap)} (he : evOp tb call tm h o = .l r) : loudOp o = true := by
  unfold evOp at he
  cases o <;> first | rfl | (simp at he; done) | skip
  rename_i c
  obtain ⟨callee, args, ts⟩ := c
  cases callee with
  | value f => rfl
  | invoke x m => rfl
  | builtin b => cases b <;> first | rfl | (simp [evCallOp] at he; done)

theorem evDraw_ok (H : TabOK P tb J) (hcall : CallOK P J call) (hmo : P.follows .mixedOrders = true) {M : Inj} {N : Nat} {w0 : Base J} {tm tm' : T AV} {h h' : AHeap} {a : Act} {w : World} {id : Nat}
    {Q : Exit → Act → World → Prop} (ht : TRel M tm a) (hs : a.tmps.size = n) (hh : HRel M N w0 h w) (he : evDraw tb call n ops.toList tm h = some (tm', h'))
    (hQ : ∀ M' a' w', M.le M' → TRel M' tm' a' → a'.tmps.size = n → a'.defers = a.defers → HRel M' N w0 h' w' → Q .normal a' w') : (Code.region id ops true).wp P Q a w := by
  unfold evDraw at he
  split at he
  · rename_i hD
    have hS := static_of hD
    have hsz : ops.toList.length = ops.size := by simp
    have main : ∃ S Hp V K, Looked tb call n ops S Hp V K ∧ S 0 = tm ∧ Hp 0 = h ∧ S ops.size = tm' ∧ Hp ops.size = h' := by
      split at he
      · rename_i hF
        obtain ⟨es, ms, htr⟩ := trace_of_ops (i := 0) he
        obtain ⟨S, Hp, V, K, R⟩ := trace_rec htr
        have step : ∀ j o, ops[j]? = some o → ev1 tb call ops.toList (S j) (Hp j) o = some (V j, Hp (j + 1), K j) ∧ putDst (S j) n o.dst (V j) = some (S (j + 1)) := by
          intro j o ho
          have := R.step j o (by simpa using ho)
          simpa using this
        have hall : ∀ i j, i < ops.size → j < ops.size → K j = 2 → i ≠ j → bit ops j i ∨ bit ops i j := by
          intro i j hi hj h2 hne
          have ho : ops[j]? = some ops[j] := Array.getElem?_eq_getElem hj
          obtain ⟨s1, _⟩ := step j _ ho
          rcases ev1_kind s1 with g | g | g
          · omega
          · omega
          · have hl := loud_is g.2.2
            unfold drawFree at hF
            simp only [List.all_eq_true, Bool.or_eq_true, Bool.not_eq_true', beq_iff_eq] at hF
            have hmj : (ops[j], j) ∈ ops.toList.zipIdx := by rw [List.mem_zipIdx_iff_getElem?]; simp
            have hmi : (ops[i], i) ∈ ops.toList.zipIdx := by rw [List.mem_zipIdx_iff_getElem?]; simp
            rcases hF _ hmj with q | q
            · rw [hl] at q; cases q
            · rcases q _ hmi with (q | q) | q
              · exact absurd q hne
              · exact .inl q
              · exact .inr q
        have e1 := R.s1
        have e2 := R.h1
        rw [hsz, Nat.zero_add] at e1 e2
        refine ⟨S, Hp, V, K, ?_, R.s0, R.h0, e1, e2⟩
        have hk0 : ∀ d p, p + d ≤ ops.size → (∀ i, p ≤ i → i < p + d → K i ≠ 2) → Hp (p + d) = Hp p := by
          intro d
          induction d with
          | zero => intro p _ _; rfl
          | succ d ih =>
            intro p hp hn
            have hlt : p + d < ops.size := by omega
            obtain ⟨h1, _⟩ := step (p + d) _ (Array.getElem?_eq_getElem hlt)
            have h2 : Hp (p + d + 1) = Hp (p + d) := by
              rcases ev1_kind h1 with h | h | h
              · exact h.2.2.2
              · exact h.2.2.2
              · exact absurd h.1 (hn (p + d) (by omega) (by omega))
            rw [show p + (d + 1) = p + d + 1 by omega, h2]
            exact ih p (by omega) (fun i h1 h2 => hn i h1 (by omega))
        refine ⟨step, fun j hj h2 i hi h2i => ?_, fun j o ho h1 m hm hok => ?_⟩
        · rcases hall i j (by omega) hj h2 (by omega) with g | g
          · exact g
          · have := bit_lt hS i j (by omega) g
            omega
        · have hj : j < ops.size := (Array.getElem?_eq_some_iff.1 ho).1
          have hmle : m ≤ ops.size := by
            rcases hm with rfl | ⟨i, hi, _, rfl⟩
            · omega
            · omega
          have hiff : ∀ i, i < ops.size → K i = 2 → (i < m ↔ i < j) := by
            intro i hi h2
            obtain ⟨k1, k2⟩ := hok i hi h2
            rcases hall j i hj hi h2 (by intro e; subst e; omega) with g | g
            · have := bit_lt hS i j hi g
              have := k2 g
              omega
            · have := bit_lt hS j i hj g
              have := k1 g
              omega
          have heq : Hp m = Hp j := by
            rcases Nat.le_total m j with hle | hle
            · have := hk0 (j - m) m (by omega) (fun i h1 h2 h3 => by have := (hiff i (by omega) h3).2 (by omega); omega)
              rw [show m + (j - m) = j by omega] at this
              exact this.symm
            · have := hk0 (m - j) j (by omega) (fun i h1 h2 h3 => by have := (hiff i (by omega) h3).1 (by omega); omega)
              rw [show j + (m - j) = m by omega] at this
              exact this
          rw [heq]
          obtain ⟨s1, _⟩ := step j o ho
          rcases ev1_kind s1 with g | g | g
          · omega
          · unfold evQ
            rw [evOp_call g.2.2.1]
          · omega
      · split at he
        · rename_i es ms tm1 h1 htr
          obtain ⟨S, Hp, V, K, R⟩ := trace_rec htr
          have hres : tm' = tm1 ∧ h' = h1 ∧ (ms = [] ∨ es.all (entOk tb (aheadOf ops.toList []) (es.filterMap fun e => if e.kind = 2 then some e.i else none) ((0, h) :: ms)) = true) := by
            split at he
            · simp only [Option.some.injEq, Prod.mk.injEq] at he
              exact ⟨he.1.symm, he.2.symm, .inl rfl⟩
            · split at he
              · rename_i hall
                simp only [Option.some.injEq, Prod.mk.injEq] at he
                exact ⟨he.1.symm, he.2.symm, .inr hall⟩
              · cases he
          obtain ⟨rfl, rfl, hall⟩ := hres
          have step : ∀ j o, ops[j]? = some o → ev1 tb call ops.toList (S j) (Hp j) o = some (V j, Hp (j + 1), K j) ∧ putDst (S j) n o.dst (V j) = some (S (j + 1)) := by
            intro j o ho
            have := R.step j o (by simpa using ho)
            simpa using this
          have hlook : Looked tb call n ops S Hp V K := by
            rcases hall with hms | hall
            · -- nothing loud
              have hno : ∀ i, i < ops.size → K i ≠ 2 := by
                intro i hi
                have := R.nomark hms i (by rw [hsz]; exact hi)
                simpa using this
              refine ⟨step, fun j hj h2 => absurd h2 (hno j hj), fun j o ho h1 m hm _ => ?_⟩
              have hj : j < ops.size := (Array.getElem?_eq_some_iff.1 ho).1
              have hm0 : m = 0 := by
                rcases hm with h | ⟨i, hi, h2, _⟩
                · exact h
                · exact absurd h2 (hno i hi)
              subst hm0
              have hconst : ∀ j, j ≤ ops.size → Hp j = Hp 0 := by
                intro j
                induction j with
                | zero => intro _; rfl
                | succ j ih =>
                  intro hj
                  have hlt : j < ops.size := by omega
                  obtain ⟨s1, _⟩ := step j _ (Array.getElem?_eq_getElem hlt)
                  rcases ev1_kind s1 with h | h | h
                  · rw [h.2.2.2]; exact ih (by omega)
                  · rw [h.2.2.2]; exact ih (by omega)
                  · exact absurd h.1 (hno j hlt)
              obtain ⟨s1, _⟩ := step j o ho
              rw [← hconst j (by omega)]
              rcases ev1_kind s1 with h | h | h
              · omega
              · unfold evQ
                rw [evOp_call h.2.2.1]
              · omega
            · simp only [List.all_eq_true] at hall
              have hloud : ∀ i, i ∈ (es.filterMap fun e => if e.kind = 2 then some e.i else none) ↔ (i < ops.size ∧ K i = 2) := by
                intro i
                rw [List.mem_filterMap]
                constructor
                · rintro ⟨e, he, hi⟩
                  obtain ⟨k, o, hk, rfl⟩ := R.of e he
                  have hlt : k < ops.size := by rw [← hsz]; exact (List.getElem?_eq_some_iff.1 hk).1
                  simp only [Nat.zero_add] at hi
                  split at hi
                  · rename_i h2
                    cases hi
                    exact ⟨hlt, h2⟩
                  · cases hi
                · rintro ⟨hi, h2⟩
                  have := R.mem i _ (List.getElem?_eq_getElem (by rw [hsz]; exact hi))
                  refine ⟨_, this, ?_⟩
                  simp [h2]
              refine ⟨step, fun j hj h2 i hi h2i => ?_, fun j o ho h1 m hm hok => ?_⟩
              · have hmem := R.mem j _ (List.getElem?_eq_getElem (by rw [hsz]; exact hj))
                have := hall _ hmem
                simp only [Nat.zero_add, entOk, h2, List.all_eq_true, Bool.or_eq_true, Bool.not_eq_true'] at this
                rcases this i ((hloud i).2 ⟨by omega, h2i⟩) with h | h
                · have : Nat.blt i j = true := by rw [Nat.blt_eq]; exact hi
                  rw [this] at h; cases h
                · exact h
              · have hmem := R.mem j o (by simpa using ho)
                have := hall _ hmem
                simp only [Nat.zero_add, entOk, h1, List.all_eq_true, Bool.or_eq_true, Bool.not_eq_true'] at this
                have hmm : (m, Hp m) ∈ (0, h) :: ms := by
                  rcases hm with rfl | ⟨i, hi, h2, rfl⟩
                  · rw [R.h0]; exact List.mem_cons_self
                  · refine List.mem_cons_of_mem _ ?_
                    have := R.mark i (by rw [hsz]; exact hi) (by simpa using h2)
                    simpa using this
                rcases this (m, Hp m) hmm with h | h
                · exfalso
                  have hT : (es.filterMap fun e => if e.kind = 2 then some e.i else none).all (fun i => (!(((aheadOf ops.toList []).getD j 0).testBit i) || Nat.blt i m) && (!(((aheadOf ops.toList []).getD i 0).testBit j) || Nat.ble m i)) = true := by
                    rw [List.all_eq_true]
                    intro i hi
                    obtain ⟨hlt, h2⟩ := (hloud i).1 hi
                    obtain ⟨k1, k2⟩ := hok i hlt h2
                    simp only [Bool.and_eq_true, Bool.or_eq_true, Bool.not_eq_true', Nat.blt_eq, Nat.ble_eq]
                    constructor
                    · cases hb : ((aheadOf ops.toList []).getD j 0).testBit i
                      · exact .inl rfl
                      · exact .inr (k1 hb)
                    · cases hb : ((aheadOf ops.toList []).getD i 0).testBit j
                      · exact .inl rfl
                      · exact .inr (k2 hb)
                  rw [hT] at h
                  cases h
                · split at h
                  · rename_i v hv
                    rw [hv, beq_ok _ _ h]
                  · cases h
          have e1 := R.s1
          have e2 := R.h1
          rw [hsz, Nat.zero_add] at e1 e2
          exact ⟨S, Hp, V, K, hlook, R.s0, R.h0, e1, e2⟩
        · cases he
    obtain ⟨S, Hp, V, K, hlook, hs0, hh0, e1, e2⟩ := main
    refine wp_region_any hmo ?_
    rw [World.drew_eq]
    refine wpAny_inv H hcall hS hlook (M := M) (N := N) (w0 := w0) (d0 := a.defers) (fun M' a' w' g1 g2 g3 g4 g5 => ?_) ops.size _ a w.drew ?_ ?_
    · exact hQ M' a' w' g1 (by rw [← e1]; exact g2) g3 g4 (by rw [← e2]; exact g5)
    · unfold unl
      rw [List.countP_eq_length.2]
      · simp
      · intro i hi
        have := List.mem_range.1 hi
        simp [this]
    · have hnl : ∀ i, ¬ Lst (Array.replicate ops.size false) i := by
        intro i h
        unfold Lst at h
        by_cases hi : i < ops.size
        · simp [hi] at h
        · simp [hi] at h
      refine ⟨by simp, fun j o _ hl => absurd hl (hnl j), hs, rfl, M, Inj.le_refl M, fun t m hm hwr v hv => ?_, 0, .inl rfl, Nat.zero_le _, fun i hi _ => ⟨fun h => absurd h (hnl i), fun h => by omega⟩, ?_⟩
      · have := slot_same hlook t m 0 (by omega) (fun i o _ hi ho hd => by
          have := (hwr i o ho hd).2 (by omega)
          exact hnl i this)
        rw [Nat.zero_add, hs0] at this
        rw [this] at hv
        exact ht t v hv
      · rw [hh0]
        exact hh.drew
  · cases he
end draw
end Go.Proofs.YtdpcpnhkkedfcaaDoor.Ev
