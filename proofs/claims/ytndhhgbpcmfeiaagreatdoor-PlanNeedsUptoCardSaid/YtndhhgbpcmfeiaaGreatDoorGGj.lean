/- What Trim leaves of a plan, as plain law. -/
import Derived.Test.YtndhhgbpcmfeiaaGreatDoorGGg
namespace Go.Proofs.YtndhhgbpcmfeiaaGreatDoor.Ev
open Go.RowKit
set_option linter.unusedVariables false
set_option linter.unusedSimpArgs false
section
variable {L Y : List IE} {i j k n p q : Nat}
theorem pos_lt (h : nb L j = true) : ∀ {k : Nat}, j < k → posN L j < posN L k := by
  intro k hk
  induction k with
  | zero => omega
  | succ k ih =>
    rcases Nat.lt_or_ge j k with g | g
    · have := ih g
      cases e : nb L k with
      | true => rw [pos_y e]; omega
      | false => rw [pos_n e]; exact this
    · obtain rfl : j = k := by omega
      rw [pos_y h]; omega
theorem pos_on : ∀ {n p : Nat}, p < posN L n → ∃ j, j < n ∧ nb L j = true ∧ posN L j = p
  | 0, p, h => by unfold posN at h; simp at h
  | n + 1, p, h => by
    cases e : nb L n with
    | true =>
      rw [pos_y e] at h
      rcases Nat.lt_or_ge p (posN L n) with g | g
      · obtain ⟨j, h1, h2⟩ := pos_on g; exact ⟨j, by omega, h2⟩
      · exact ⟨n, by omega, e, by omega⟩
    | false =>
      rw [pos_n e] at h
      obtain ⟨j, h1, h2⟩ := pos_on h; exact ⟨j, by omega, h2⟩
theorem tp_at (h : nb L j = true) : ∀ {n : Nat}, j < n → (trimP L n)[posN L j]? = some ((ei L j).d, trimA L (ei L j).ars)
  | 0, hn => by omega
  | n + 1, hn => by
    rcases Nat.lt_or_ge j n with g | g
    · have ih := tp_at h g
      cases e : nb L n with
      | true => rw [tp_y e, List.getElem?_append_left (by rw [tp_len]; exact pos_lt h g)]; exact ih
      | false => rw [tp_n e]; exact ih
    · obtain rfl : j = n := by omega
      rw [tp_y h, List.getElem?_append_right (by rw [tp_len]; exact Nat.le_refl _), tp_len, Nat.sub_self]; rfl
/-- What Trim left. -/
structure TrY (L Y : List IE) : Prop where
  ok : chkI L = 0
  y : D2 Y = trimP L L.length
  nk : ∀ x ∈ Y, x.nk = 0
theorem TrY.len (h : TrY L Y) : Y.length = posN L L.length := by rw [← d2_len, h.y, tp_len]
theorem TrY.le (h : TrY L Y) : Y.length ≤ L.length := by rw [h.len]; exact pos_le
theorem TrY.nbl (h : TrY L Y) : nb L (L.length - 1) = true := nb_is.2 .last
theorem TrY.pos (h : TrY L Y) : Y.length = posN L (L.length - 1) + 1 := by
  obtain ⟨h0, _, _⟩ := chk_ok h.ok
  rw [h.len, ← pos_y h.nbl]; congr 1; omega
theorem TrY.at (h : TrY L Y) (hj : nb L j = true) (hl : j < L.length) : posN L j < Y.length ∧ (ei Y (posN L j)).d = (ei L j).d ∧ (ei Y (posN L j)).ars = trimA L (ei L j).ars := by
  have hp := pos_lt hj hl
  rw [← h.len] at hp
  have h1 := tp_at hj hl
  rw [← h.y, D2, List.getElem?_map, ei_at hp] at h1
  have h2 := Option.some.inj h1
  exact ⟨hp, congrArg Prod.fst h2, congrArg Prod.snd h2⟩
theorem TrY.from (h : TrY L Y) (hi : i < Y.length) : ∃ j, j < L.length ∧ nb L j = true ∧ posN L j = i := pos_on (by rw [← h.len]; exact hi)
theorem TrY.low (h : TrY L Y) (hi : i < Y.length) (hq : q < (ei Y i).ars.length) : 0 ≤ ai (ei Y i).ars q ∧ ai (ei Y i).ars q < i := by
  obtain ⟨_, _, hok⟩ := chk_ok h.ok
  obtain ⟨j, h1, h2, rfl⟩ := h.from hi
  have hm := ai_mem hq
  rw [(h.at h2 h1).2.2] at hm ⊢
  obtain ⟨a, ha, e⟩ := List.mem_map.1 hm
  rw [← e]
  have hr := ok_ar (hok j h1) ha
  have := pos_lt (nb_is.2 (.arg (nb_is.1 h2) h1 ha)) (k := j) (by omega)
  omega
theorem TrY.okY (h : TrY L Y) (hi : i < Y.length) : okI Y i = true := by
  unfold okI
  rw [Bool.and_eq_true, decide_eq_true_eq, Bool.not_eq_true']
  refine ⟨h.nk _ (ei_mem hi), any_no fun q hq => ?_⟩
  have := h.low hi hq
  unfold badK
  rw [Bool.or_eq_false_iff, decide_eq_false_iff_not, decide_eq_false_iff_not]
  omega
theorem TrY.chk (h : TrY L Y) : chkI Y = 0 := by
  obtain ⟨h0, h1, hok⟩ := chk_ok h.ok
  have := h.le
  have := h.pos
  exact chk_d (by omega) (by omega) fun i hi => h.okY hi
/-- Each but the last is a part of a further one. -/
theorem TrY.used (h : TrY L Y) (hj : j + 1 < Y.length) : ∃ i q, i < Y.length ∧ q < (ei Y i).ars.length ∧ (ai (ei Y i).ars q).toNat = j := by
  obtain ⟨_, _, hok⟩ := chk_ok h.ok
  obtain ⟨k, h1, h2, rfl⟩ := h.from (i := j) (by omega)
  have hp := h.pos
  have hk := nb_is.1 h2
  generalize he : k = k' at hk
  cases hk with
  | last => subst he; omega
  | arg g1 g2 g3 =>
    rename_i i a
    obtain ⟨y1, y2, y3⟩ := h.at (nb_is.2 g1) g2
    have hm : ((posN L a.toNat : Nat) : Int) ∈ (ei Y (posN L i)).ars := by rw [y3]; exact List.mem_map.2 ⟨a, g3, rfl⟩
    obtain ⟨q, hq⟩ := List.getElem?_of_mem hm
    have hl := (List.getElem?_eq_some_iff.1 hq).1
    rw [ai_at hl] at hq
    refine ⟨posN L i, q, y1, hl, ?_⟩
    rw [Option.some.inj hq]; rfl
theorem TrY.tree (h : TrY L Y) : ∀ (j : Nat), nb L j = true → j < L.length → treeM Y (posN L j) = treeM L j ∧ szM Y (posN L j) = szM L j := by
  obtain ⟨_, _, hok⟩ := chk_ok h.ok
  intro j
  induction j using Nat.strongRecOn with
  | _ j ih =>
    intro hj hl
    obtain ⟨y1, y2, y3⟩ := h.at hj hl
    have hm : ∀ a ∈ (ei L j).ars, treeM Y (posN L a.toNat) = treeM L a.toNat ∧ szM Y (posN L a.toNat) = szM L a.toNat := fun a ha => by
      have := ok_ar (hok j hl) ha
      exact ih a.toNat (by omega) (nb_is.2 (.arg (nb_is.1 hj) hl ha)) (by omega)
    constructor
    · rw [treeM_eq (fun i hi => h.okY hi) y1, treeM_eq hok hl, y2, y3, trimA, List.map_map]
      congr 1
      exact List.map_congr_left fun a ha => (hm a ha).1
    · rw [szM_eq (fun i hi => h.okY hi) y1, szM_eq hok hl, y3, trimA, List.foldl_map]
      exact szF_eq.fold_congr fun n a ha => by
        show min 4097 (n + szM Y (posN L a.toNat)) = _
        rw [(hm a ha).2]
theorem TrY.last (h : TrY L Y) : treeM Y (Y.length - 1) = treeM L (L.length - 1) ∧ szM Y (Y.length - 1) = szM L (L.length - 1) := by
  obtain ⟨h0, _, _⟩ := chk_ok h.ok
  have := h.tree (L.length - 1) h.nbl (by omega)
  have hp := h.pos
  rw [show Y.length - 1 = posN L (L.length - 1) by omega]
  exact this
theorem TrY.trees {e e' : Nat} {t t' : TD} (h : TrY L Y) (h1 : TreeR L e t) (h2 : TreeR Y e' t') : e = e' ∧ t = t' := by
  obtain ⟨l1, l2⟩ := h.last
  have hc := h.chk
  have hk := h.ok
  rcases h1 with ⟨g, _⟩ | ⟨_, g1, rfl, rfl⟩ | ⟨_, g1, rfl, rfl⟩
  · exact absurd hk g
  · rcases h2 with ⟨g, _⟩ | ⟨_, k1, rfl, rfl⟩ | ⟨_, k1, rfl, rfl⟩
    · exact absurd hc g
    · exact ⟨rfl, rfl⟩
    · omega
  · rcases h2 with ⟨g, _⟩ | ⟨_, k1, rfl, rfl⟩ | ⟨_, k1, rfl, rfl⟩
    · exact absurd hc g
    · omega
    · exact ⟨rfl, l1.symm⟩
end
open Classical in
/-- Which places were seen as parts so far. -/
noncomputable def usF (Y : List IE) (i q j : Nat) : Bool := decide (∃ i' q', (i' < i ∨ (i' = i ∧ q' < q)) ∧ i' < Y.length ∧ q' < (ei Y i').ars.length ∧ (ai (ei Y i').ars q').toNat = j)
section
variable {L Y : List IE} {i j q : Nat}
theorem us_is : usF Y i q j = true ↔ ∃ i' q', (i' < i ∨ (i' = i ∧ q' < q)) ∧ i' < Y.length ∧ q' < (ei Y i').ars.length ∧ (ai (ei Y i').ars q').toNat = j := by unfold usF; simp only [decide_eq_true_eq]
theorem us_no : usF Y 0 0 j = false := by
  rw [← Bool.not_eq_true, us_is]
  rintro ⟨i', q', h1, _⟩
  omega
theorem us_0 : cB (fun _ => false) Y.length = cB (usF Y 0 0) Y.length := cB_congr fun j _ => us_no.symm
theorem us_step (hi : i < Y.length) (hq : q < (ei Y i).ars.length) : cB (fun k => if k = (ai (ei Y i).ars q).toNat then true else usF Y i q k) Y.length = cB (usF Y i (q + 1)) Y.length := by
  refine cB_congr fun j _ => beq_of ?_
  rw [us_is]
  constructor
  · intro h
    split at h
    · exact ⟨i, q, .inr ⟨rfl, by omega⟩, hi, hq, by simp_all⟩
    · obtain ⟨i', q', h1, h2⟩ := us_is.1 h
      exact ⟨i', q', by omega, h2⟩
  · rintro ⟨i', q', h1, h2, h3, h4⟩
    split
    · rfl
    · rename_i hn
      refine us_is.2 ⟨i', q', ?_, h2, h3, h4⟩
      rcases h1 with h1 | ⟨rfl, h1⟩
      · exact .inl h1
      · refine .inr ⟨rfl, ?_⟩
        rcases Nat.lt_or_ge q' q with g | g
        · exact g
        · obtain rfl : q' = q := by omega
          exact absurd h4.symm hn
theorem us_end (hi : i < Y.length) : cB (usF Y i (ei Y i).ars.length) Y.length = cB (usF Y (i + 1) 0) Y.length := by
  refine cB_congr fun j _ => beq_of ?_
  rw [us_is, us_is]
  constructor
  · rintro ⟨i', q', h1, h2, h3, h4⟩
    exact ⟨i', q', by omega, h2, h3, h4⟩
  · rintro ⟨i', q', h1, h2, h3, h4⟩
    refine ⟨i', q', ?_, h2, h3, h4⟩
    rcases Nat.lt_or_ge i' i with g | g
    · exact .inl g
    · obtain rfl : i' = i := by omega
      exact .inr ⟨rfl, h3⟩
theorem TrY.us (h : TrY L Y) (hj : j + 1 < Y.length) : usF Y Y.length 0 j = true := by
  obtain ⟨i, q, h1, h2, h3⟩ := h.used hj
  exact us_is.2 ⟨i, q, .inl h1, h1, h2, h3⟩
end
end Go.Proofs.YtndhhgbpcmfeiaaGreatDoor.Ev
