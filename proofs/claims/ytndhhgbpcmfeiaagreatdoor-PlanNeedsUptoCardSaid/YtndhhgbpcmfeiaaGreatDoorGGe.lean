/- What is needed of a plan, as plain law; a function's own instructions. -/
import Derived.Test.YtndhhgbpcmfeiaaGreatDoorGGd
namespace Go.Proofs.YtndhhgbpcmfeiaaGreatDoor.Ev
open Go.RowKit
set_option linter.unusedVariables false
set_option linter.unusedSimpArgs false
/-- What the last instruction needs. -/
inductive Need (L : List IE) : Nat → Prop
  | last : Need L (L.length - 1)
  | arg {i : Nat} {a : Int} : Need L i → i < L.length → a ∈ (ei L i).ars → Need L a.toNat
open Classical in
noncomputable def nb (L : List IE) (j : Nat) : Bool := decide (Need L j)
open Classical in
/-- What was marked behind some instructions from the end on. -/
noncomputable def ndF (L : List IE) (t : Nat) (j : Nat) : Bool := decide (j = L.length - 1 ∨ ∃ (i : Nat) (a : Int), L.length - t ≤ i ∧ i < L.length ∧ Need L i ∧ a ∈ (ei L i).ars ∧ a.toNat = j)
open Classical in
noncomputable def ndG (L : List IE) (t q : Nat) (j : Nat) : Bool := ndF L t j || decide (Need L (L.length - 1 - t) ∧ ∃ p, p < q ∧ p < (ei L (L.length - 1 - t)).ars.length ∧ (ai (ei L (L.length - 1 - t)).ars p).toNat = j)
section
variable {L : List IE} {t q i j k : Nat}
theorem nb_is : nb L j = true ↔ Need L j := by unfold nb; simp only [decide_eq_true_eq]
theorem ndF_is : ndF L t j = true ↔ (j = L.length - 1 ∨ ∃ (i : Nat) (a : Int), L.length - t ≤ i ∧ i < L.length ∧ Need L i ∧ a ∈ (ei L i).ars ∧ a.toNat = j) := by unfold ndF; simp only [decide_eq_true_eq]
theorem ndG_is : ndG L t q j = true ↔ (ndF L t j = true ∨ (Need L (L.length - 1 - t) ∧ ∃ p, p < q ∧ p < (ei L (L.length - 1 - t)).ars.length ∧ (ai (ei L (L.length - 1 - t)).ars p).toNat = j)) := by
  unfold ndG
  rw [Bool.or_eq_true]
  simp only [decide_eq_true_eq]
theorem beq_of {a b : Bool} (h : a = true ↔ b = true) : a = b := by cases a <;> cases b <;> simp_all
theorem ndF_0 : cB (fun k => if k = L.length - 1 then true else false) L.length = cB (ndF L 0) L.length := by
  refine cB_congr fun j hj => beq_of ?_
  rw [ndF_is]
  constructor
  · intro h
    split at h
    · exact .inl (by assumption)
    · cases h
  · rintro (h | ⟨i, a, h1, h2, _⟩)
    · simp [h]
    · omega
theorem nd_need (h : ndF L t j = true) : Need L j := by
  rcases ndF_is.1 h with rfl | ⟨i, a, h1, h2, h3, h4, rfl⟩
  · exact .last
  · exact .arg h3 h2 h4
theorem ndF_self (hok : ∀ i, i < L.length → okI L i = true) (ht : t < L.length) : ndF L t (L.length - 1 - t) = nb L (L.length - 1 - t) := by
  refine beq_of ⟨fun h => nb_is.2 (nd_need h), fun h => ?_⟩
  rw [ndF_is]
  have h := nb_is.1 h
  generalize hj : L.length - 1 - t = j at h
  cases h with
  | last => exact .inl rfl
  | arg h1 h2 h3 =>
    rename_i i a
    have := ok_ar (hok _ h2) h3
    exact .inr ⟨i, a, by omega, h2, h1, h3, rfl⟩
theorem ndG_0 : cB (ndF L t) L.length = cB (ndG L t 0) L.length := by
  refine cB_congr fun j hj => beq_of ?_
  rw [ndG_is]
  exact ⟨.inl, fun h => h.elim id fun ⟨_, p, hp, _⟩ => absurd hp (Nat.not_lt_zero _)⟩
theorem ndG_self (hok : ∀ i, i < L.length → okI L i = true) (ht : t < L.length) : ndG L t q (L.length - 1 - t) = nb L (L.length - 1 - t) := by
  rw [← ndF_self hok ht]
  refine beq_of ?_
  rw [ndG_is]
  refine ⟨fun h => h.elim id fun ⟨_, p, _, hp, e⟩ => ?_, .inl⟩
  have := ok_ar (hok (L.length - 1 - t) (by omega)) (ai_mem hp)
  omega
theorem ndG_step (hok : ∀ i, i < L.length → okI L i = true) (ht : t < L.length) (hq : q < (ei L (L.length - 1 - t)).ars.length) {b : Bool} (hb : b = (ndG L t q (ai (ei L (L.length - 1 - t)).ars q).toNat || ndG L t q (L.length - 1 - t))) :
    cB (fun k => if k = (ai (ei L (L.length - 1 - t)).ars q).toNat then b else ndG L t q k) L.length = cB (ndG L t (q + 1)) L.length := by
  refine cB_congr fun j hj => beq_of ?_
  rw [ndG_self hok ht] at hb
  by_cases e : j = (ai (ei L (L.length - 1 - t)).ars q).toNat
  · rw [if_pos e, hb, Bool.or_eq_true, nb_is, ndG_is, ndG_is, e]
    constructor
    · rintro ((h | ⟨h1, p, h2, h3⟩) | h)
      · exact .inl h
      · exact .inr ⟨h1, p, by omega, h3⟩
      · exact .inr ⟨h, q, by omega, hq, rfl⟩
    · rintro (h | ⟨h1, p, h2, h3⟩)
      · exact .inl (.inl h)
      · exact .inr h1
  · rw [if_neg e, ndG_is, ndG_is]
    constructor
    · rintro (h | ⟨h1, p, h2, h3⟩)
      · exact .inl h
      · exact .inr ⟨h1, p, by omega, h3⟩
    · rintro (h | ⟨h1, p, h2, h3, h4⟩)
      · exact .inl h
      · rcases Nat.lt_or_ge p q with hp | hp
        · exact .inr ⟨h1, p, hp, h3, h4⟩
        · obtain rfl : p = q := by omega
          exact absurd h4.symm e
theorem ndG_end (ht : t < L.length) : cB (ndG L t (ei L (L.length - 1 - t)).ars.length) L.length = cB (ndF L (t + 1)) L.length := by
  refine cB_congr fun j hj => beq_of ?_
  rw [ndG_is, ndF_is, ndF_is]
  constructor
  · rintro ((h | ⟨i, a, h1, h2⟩) | ⟨h1, p, h2, h3, h4⟩)
    · exact .inl h
    · exact .inr ⟨i, a, by omega, h2⟩
    · exact .inr ⟨L.length - 1 - t, _, by omega, by omega, h1, ai_mem h3, h4⟩
  · rintro (h | ⟨i, a, h1, h2, h3, h4, h5⟩)
    · exact .inl (.inl h)
    · rcases Nat.lt_or_ge i (L.length - t) with hi | hi
      · obtain rfl : i = L.length - 1 - t := by omega
        obtain ⟨p, hp⟩ := List.getElem?_of_mem h4
        have hl := (List.getElem?_eq_some_iff.1 hp).1
        rw [ai_at hl] at hp
        exact .inr ⟨h3, p, hl, hl, by rw [Option.some.inj hp]; exact h5⟩
      · exact .inl (.inr ⟨i, a, hi, h2, h3, h4, h5⟩)
theorem ndF_all : cB (ndF L L.length) L.length = cB (nb L) L.length := by
  refine cB_congr fun j hj => beq_of ?_
  rw [nb_is]
  refine ⟨nd_need, fun h => ndF_is.2 ?_⟩
  cases h with
  | last => exact .inl rfl
  | arg h1 h2 h3 => exact .inr ⟨_, _, by omega, h2, h1, h3, rfl⟩
end
/-- A needed instruction's new place. -/
noncomputable def posN (L : List IE) (j : Nat) : Nat := ((List.range j).filter (nb L)).length
noncomputable def toF (L : List IE) (i j : Nat) : Int := if j < i ∧ nb L j = true then ((posN L j : Nat) : Int) else 0
noncomputable def trimA (L : List IE) (A : List Int) : List Int := A.map fun a => ((posN L a.toNat : Nat) : Int)
noncomputable def trimP (L : List IE) (i : Nat) : List (ND × List Int) := ((List.range i).filter (nb L)).map fun j => ((ei L j).d, trimA L (ei L j).ars)
section
variable {L : List IE} {i j : Nat}
theorem pos_y (h : nb L j = true) : posN L (j + 1) = posN L j + 1 := by
  unfold posN
  rw [List.range_succ, List.filter_append, List.length_append]
  simp [h]
theorem pos_n (h : nb L j = false) : posN L (j + 1) = posN L j := by
  unfold posN
  rw [List.range_succ, List.filter_append, List.length_append]
  simp [h]
theorem pos_le : posN L j ≤ j := Nat.le_trans (List.length_filter_le _ _) (by rw [List.length_range]; exact Nat.le_refl _)
theorem tp_len : (trimP L i).length = posN L i := by unfold trimP posN; rw [List.length_map]
theorem tp_y (h : nb L i = true) : trimP L (i + 1) = trimP L i ++ [((ei L i).d, trimA L (ei L i).ars)] := by
  unfold trimP
  rw [List.range_succ, List.filter_append, List.map_append]
  simp [h]
theorem tp_n (h : nb L i = false) : trimP L (i + 1) = trimP L i := by
  unfold trimP
  rw [List.range_succ, List.filter_append, List.map_append]
  simp [h]
theorem to_0 : cN (fun _ => 0) L.length = cN (toF L 0) L.length := cN_congr fun j _ => by unfold toF; rw [if_neg (by omega)]
theorem to_y (h : nb L i = true) : cN (fun k => if k = i then ((posN L i : Nat) : Int) else toF L i k) L.length = cN (toF L (i + 1)) L.length := by
  refine cN_congr fun j _ => ?_
  unfold toF
  by_cases e : j = i
  · subst e; rw [if_pos rfl, if_pos ⟨by omega, h⟩]
  · rw [if_neg e]
    by_cases g : j < i ∧ nb L j = true
    · rw [if_pos g, if_pos ⟨by omega, g.2⟩]
    · rw [if_neg g, if_neg fun q => g ⟨by omega, q.2⟩]
theorem to_n (h : nb L i = false) : cN (toF L i) L.length = cN (toF L (i + 1)) L.length := by
  refine cN_congr fun j _ => ?_
  unfold toF
  by_cases g : j < i ∧ nb L j = true
  · rw [if_pos g, if_pos ⟨by omega, g.2⟩]
  · rw [if_neg g, if_neg fun q => g ⟨by
      have : j ≠ i := fun e => by subst e; rw [h] at q; exact absurd q.2 (by decide)
      omega, q.2⟩]
theorem mv_trim (hok : okI L i = true) (hi : i < L.length) (hn : nb L i = true) : mvA ((List.range L.length).map (toF L (i + 1))) (ei L i).ars = trimA L (ei L i).ars := by
  unfold mvA trimA
  refine List.map_congr_left fun a ha => ?_
  obtain ⟨h1, h2⟩ := ok_ar hok ha
  rw [ai_map (by omega)]
  unfold toF
  rw [if_pos ⟨by omega, nb_is.2 (.arg (nb_is.1 hn) hi ha)⟩]
theorem trimA_len {A : List Int} : (trimA L A).length = A.length := by unfold trimA; rw [List.length_map]
end
/-- What there is of instructions. -/
def D2 (W : List IE) : List (ND × List Int) := W.map fun x => (x.d, x.ars)
/-- Instructions of a function's own. -/
def IOwn (W : List IE) (w : AV) (D : HSt) : Prop := ∃ hp hl, D = hp ++ hl ∧ OwnE 12 (cI W) W.length w hp ∧ (∀ x ∈ W, IOK hl x ∧ x.nk = 0) ∧ (∀ e ∈ hl, e.w = true) ∧ ILB W
section
variable {W : List IE} {wv : AV} {D hs : HSt} {x : IE}
theorem d2_snoc : D2 (W ++ [x]) = D2 W ++ [(x.d, x.ars)] := by unfold D2; rw [List.map_append]; rfl
theorem d2_len : (D2 W).length = W.length := List.length_map _
theorem cI_snoc : cI (W ++ [x]) = cI W ++ x.c := by unfold cI; rw [List.flatMap_append]; simp
theorem IOwn.nil : IOwn [] .nils [] := ⟨[], [], rfl, OwnE.nil 12, fun x hx => by simp at hx, no_wl, by simp, fun x hx => by simp at hx⟩
theorem IOwn.w (h : IOwn W wv D) : ∀ e ∈ D, e.w = true := by
  obtain ⟨hp, hl, rfl, hO, _, hw, _⟩ := h
  exact wa (OwnE.w hO) hw
theorem IOwn.iin (h : IOwn W wv D) : IIn D W wv := by
  obtain ⟨hp, hl, rfl, hO, hx, hw, _⟩ := h
  exact ⟨(RIn.own hO).appl, fun x hx' => (hx x hx').1.mono fun b o q => q.app⟩
theorem IOwn.lb (h : IOwn W wv D) : ILB W := by
  obtain ⟨hp, hl, rfl, hO, hx, hw, hb⟩ := h
  exact hb
theorem IOwn.nk (h : IOwn W wv D) : ∀ x ∈ W, x.nk = 0 := by
  obtain ⟨hp, hl, rfl, hO, hx, hw, hb⟩ := h
  exact fun x h => (hx x h).2
theorem IIn.ro {L : List IE} {v : AV} (h : IIn hs L v) : IIn (ro hs) L v := h.mono fun b o q => q.ro
theorem IIn.app {A : HSt} {L : List IE} {v : AV} (h : IIn hs L v) : IIn (A ++ hs) L v := h.mono fun b o q => q.app
theorem IIn.appl {A : HSt} {L : List IE} {v : AV} (h : IIn hs L v) : IIn (hs ++ A) L v := h.mono fun b o q => q.appl'
end
/-- What Trim makes. -/
def TrimR (L : List IE) (e : Nat) (Q : List (ND × List Int)) : Prop := (chkI L ≠ 0 ∧ e = chkI L ∧ Q = []) ∨ (chkI L = 0 ∧ e = 0 ∧ Q = trimP L L.length)
end Go.Proofs.YtndhhgbpcmfeiaaGreatDoor.Ev
