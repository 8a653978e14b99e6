/- Layer 15, plain: both ways to read a duration tell the same. -/
import Derived.Test.YtdpcpnhkkedfcaaDoorLexH
namespace Go.Proofs.YtdpcpnhkkedfcaaDoor
open Go
theorem pre_zero_of {p : Nat → Bool} {l : List UInt8} (h : pre p l = 0) (c : UInt8) (r : List UInt8) (hl : l = c :: r) : p c.toNat = false := by
  subst hl
  unfold pre at h
  cases hp : p c.toNat
  · rfl
  · rw [hp] at h; simp at h
theorem let_not_dig {c : Nat} (h : isLet c = true) : isDig c = false := by
  simp only [isLet, Bool.or_eq_true, Bool.and_eq_true, decide_eq_true_eq] at h
  simp only [isDig, Bool.and_eq_false_iff, decide_eq_false_iff_not]
  omega
theorem u8_eq {a b : UInt8} (h : a.toNat = b.toNat) : a = b := UInt8.toNat_inj.1 h
/-- One letter of a unit's name, and what stands behind it. -/
theorem uix_one (c : UInt8) : uix [c] 6 = if c = 119 then 0 else if c = 100 then 1 else if c = 104 then 2 else if c = 109 then 3 else if c = 115 then 4 else -1 := by
  simp only [uix, uNames, List.getD_eq_getElem?_getD]
  by_cases h1 : c = 119
  · subst h1; rfl
  by_cases h2 : c = 100
  · subst h2; rfl
  by_cases h3 : c = 104
  · subst h3; rfl
  by_cases h4 : c = 109
  · subst h4; rfl
  by_cases h5 : c = 115
  · subst h5; rfl
  have n1 := Ne.symm h1
  have n2 := Ne.symm h2
  have n3 := Ne.symm h3
  have n4 := Ne.symm h4
  have n5 := Ne.symm h5
  simp [h1, h2, h3, h4, h5, n1, n2, n3, n4, n5]
theorem uix_more (c x : UInt8) (r : List UInt8) : uix (c :: x :: r) 6 = if c = 109 ∧ x = 115 ∧ r = [] then 5 else -1 := by
  simp only [uix, uNames, List.getD_eq_getElem?_getD]
  by_cases h : c = 109 ∧ x = 115 ∧ r = []
  · obtain ⟨rfl, rfl, rfl⟩ := h
    rfl
  · rw [if_neg h]
    have h' : ¬ (109 = c ∧ 115 = x ∧ [] = r) := fun ⟨a, b, d⟩ => h ⟨a.symm, b.symm, d.symm⟩
    simp
    intro a b d
    exact h' ⟨a, b, d.symm⟩
theorem rux_cons (c : UInt8) (r : List UInt8) : rux (c :: r) 5 = if c = 119 then 0 else if c = 100 then 1 else if c = 104 then 2 else if c = 109 then 3 else if c = 115 then 4 else -1 := by
  simp [rux, uNames]
/-- Where the letters that a text begins with are a unit's name, it begins with that unit; else with none, or behind it no digit stands. -/
theorem unit_same (l : List UInt8) (m : Nat) (hm : pre isLet l = m) :
    (0 ≤ uix (l.take m) 6 → runit l = uix (l.take m) 6 ∧ (uNames.getD (uix (l.take m) 6).toNat []).length = m) ∧
    (uix (l.take m) 6 = -1 → runit l = -1 ∨ ∃ c r, l.drop (uNames.getD (runit l).toNat []).length = c :: r ∧ isDig c.toNat = false) := by
  cases l with
  | nil =>
    simp [pre] at hm
    subst hm
    exact ⟨fun h => absurd h (by decide), fun _ => .inl (by decide)⟩
  | cons c r =>
    cases hc : isLet c.toNat with
    | false =>
      have hm0 : m = 0 := by unfold pre at hm; rw [hc] at hm; simpa using hm.symm
      subst hm0
      refine ⟨fun h => absurd h (by rw [List.take_zero]; decide), fun _ => .inl ?_⟩
      have hn : ∀ k : UInt8, isLet k.toNat = true → c ≠ k := fun k hk e => by rw [e, hk] at hc; cases hc
      unfold runit
      rw [if_neg (fun h => by
        have h2 := h.2
        cases r with
        | nil => simp at h2
        | cons x r => simp at h2; exact hn 109 (by decide) h2.1), rux_cons]
      simp [hn 119 (by decide), hn 100 (by decide), hn 104 (by decide), hn 109 (by decide), hn 115 (by decide)]
    | true =>
      have hm1 : m = pre isLet r + 1 := by unfold pre at hm; rw [hc] at hm; simpa using hm.symm
      subst hm1
      rw [List.take_succ_cons]
      cases r with
      | nil =>
        simp only [pre, List.take_nil]
        have hr : runit [c] = uix [c] 6 := by
          unfold runit
          rw [if_neg (by simp), rux_cons, uix_one]
        refine ⟨fun h => ⟨hr, ?_⟩, fun h => .inl (by rw [hr, h])⟩
        rw [uix_one] at h ⊢
        repeat' split
        all_goals first | rfl | (simp_all; done)
      | cons x r =>
        cases hx : isLet x.toNat with
        | false =>
          have hp : pre isLet (x :: r) = 0 := by unfold pre; rw [hx]; rfl
          rw [hp, List.take_zero]
          have hx115 : x ≠ 115 := fun e => by rw [e] at hx; cases hx
          have hr : runit (c :: x :: r) = uix [c] 6 := by
            unfold runit
            rw [if_neg (by simp; intro _ h; exact hx115 h), rux_cons, uix_one]
          refine ⟨fun h => ⟨hr, ?_⟩, fun h => .inl (by rw [hr, h])⟩
          rw [uix_one] at h ⊢
          repeat' split
          all_goals first | rfl | (simp_all; done)
        | true =>
          have hp : pre isLet (x :: r) = pre isLet r + 1 := by
            show (if isLet x.toNat = true then pre isLet r + 1 else 0) = _
            rw [if_pos hx]
          rw [hp, List.take_succ_cons, uix_more]
          by_cases hms : c = 109 ∧ x = 115
          · obtain ⟨rfl, rfl⟩ := hms
            have hr : runit (109 :: 115 :: r) = 5 := by unfold runit; rw [if_pos (by simp)]
            by_cases h0 : r.take (pre isLet r) = []
            · rw [if_pos ⟨rfl, rfl, h0⟩]
              refine ⟨fun _ => ⟨hr, ?_⟩, fun h => by cases h⟩
              have : pre isLet r = 0 := by
                have h1 := congrArg List.length h0
                rw [List.length_take, Nat.min_eq_left (pre_le _ _)] at h1
                exact h1
              rw [this]
              rfl
            · rw [if_neg (fun h => h0 h.2.2)]
              refine ⟨fun h => absurd h (by decide), fun _ => .inr ?_⟩
              rw [hr]
              cases r with
              | nil => exact absurd rfl h0
              | cons y r =>
                refine ⟨y, r, rfl, ?_⟩
                cases hy : isLet y.toNat with
                | true => exact let_not_dig hy
                | false =>
                  exfalso
                  apply h0
                  unfold pre
                  rw [hy]
                  rfl
          · rw [if_neg (fun h => hms ⟨h.1, h.2.1⟩)]
            refine ⟨fun h => absurd h (by decide), fun _ => ?_⟩
            have hr : runit (c :: x :: r) = uix [c] 6 := by
              unfold runit
              rw [if_neg (by simp; intro a b; exact hms ⟨a, b⟩), rux_cons, uix_one]
            rw [hr, uix_one]
            have hxd := let_not_dig hx
            repeat' split
            all_goals first | exact .inl rfl | exact .inr ⟨x, r, rfl, hxd⟩
/-- What is told of parts. -/
def tell : Option (Nat × Bool) → Int × Int
  | none => (0, 14)
  | some (_, true) => (0, 11)
  | some (s, false) => ((s : Int), 0)
theorem rdur_none (f : Nat) (c : UInt8) (r : List UInt8) (last : Int) (sum : Nat) (over : Bool) (hc : isDig c.toNat = false) : rdurL f (c :: r) last sum over = none := by
  cases f with
  | zero => rfl
  | succ f =>
    rw [rdurL_cons f c r last sum over _ _ rfl rfl, if_pos]
    left
    unfold pre
    rw [hc]
    rfl
theorem sat_over (n q z sum : Nat) (hq : q = 2147483648 / z) (_ : 1 ≤ z) (_ : sum ≤ 2147483648) : (satN n > q ∨ sum + satN n * z > 2147483648) ↔ (n > q ∨ sum + n * z > 2147483648) := by
  unfold satN
  have hq1 : q ≤ 2147483648 := by rw [hq]; exact Nat.div_le_self _ _
  by_cases h : n ≤ 2147483649
  · rw [Nat.min_eq_left h]
  · rw [Nat.min_eq_right (by omega)]
    constructor
    · intro _; left; omega
    · intro _; left; omega
theorem sat_same (n q z sum : Nat) (hq : q = 2147483648 / z) (h : ¬ (n > q ∨ sum + n * z > 2147483648)) : satN n = n := by
  unfold satN
  have hq1 : q ≤ 2147483648 := by rw [hq]; exact Nat.div_le_self _ _
  exact Nat.min_eq_left (by omega)
theorem dur_same : ∀ (f : Nat) (l : List UInt8) (st : Int) (sum sum' : Nat) (over : Bool), sum ≤ 2147483648 → (over = false → sum' = sum) → sum' ≤ 2147483648 → 0 ≤ st →
    tell (durL f l st sum over) = tell (rdurL f l (st - 1) sum' over) := by
  intro f
  induction f with
  | zero =>
    intro l st sum sum' over _ hso _ _
    cases l with
    | nil =>
      cases over
      · have := hso rfl; subst this; rfl
      · rfl
    | cons c r => rfl
  | succ f ih =>
    intro l st sum sum' over hs hso hs' hst
    cases l with
    | nil =>
      cases over
      · have := hso rfl; subst this; rfl
      · rfl
    | cons c r =>
      obtain ⟨k, hk⟩ : ∃ k, pre isDig (c :: r) = k := ⟨_, rfl⟩
      obtain ⟨m, hm⟩ : ∃ m, pre isLet ((c :: r).drop k) = m := ⟨_, rfl⟩
      obtain ⟨a, ha⟩ : ∃ a, uix (((c :: r).drop k).take m) 6 = a := ⟨_, rfl⟩
      obtain ⟨u, hu⟩ : ∃ u, runit ((c :: r).drop k) = u := ⟨_, rfl⟩
      have hsame := unit_same ((c :: r).drop k) m hm
      rw [ha, hu] at hsame
      have hab := uix_lt (((c :: r).drop k).take m) 6
      rw [ha] at hab
      rw [durL_cons f c r st sum over k m a hk hm ha, rdurL_cons f c r (st - 1) sum' over k u hk hu]
      by_cases hbad : k = 0 ∨ c.toNat = 48
      · rw [if_pos (by omega), if_pos (by omega)]
      · by_cases ha0 : 0 ≤ a
        · obtain ⟨h1, h2⟩ := hsame.1 ha0
          subst h1
          by_cases hlt : u < st
          · rw [if_pos (.inr (.inr hlt)), if_pos (.inr (.inr (by omega)))]
          · rw [if_neg (show ¬ (k = 0 ∨ c.toNat = 48 ∨ u < st) by omega), if_neg (show ¬ (k = 0 ∨ c.toNat = 48 ∨ u ≤ st - 1) by omega), h2]
            have hz : 1 ≤ uSizes.getD u.toNat 1 := (uS_bd u.toNat (by omega)).1
            generalize uSizes.getD u.toNat 1 = z at *
            generalize decA 0 ((c :: r).take k) = n at *
            obtain ⟨q, hq⟩ : ∃ q, q = 2147483648 / z := ⟨_, rfl⟩
            rw [← hq]
            have e : u = u + 1 - 1 := by omega
            cases over
            · have := hso rfl
              subst this
              by_cases ho : n > q ∨ sum' + n * z > 2147483648
              · rw [if_pos ho, if_pos (.inr ((sat_over n q z sum' hq hz hs).2 ho))]
                have := ih ((c :: r).drop (k + m)) (u + 1) sum' sum' true hs (fun h => by cases h) hs (by omega)
                rwa [← e] at this
              · rw [if_neg ho, if_neg (fun h => by
                  rcases h with h | h
                  · cases h
                  · exact ho ((sat_over n q z sum' hq hz hs).1 h)), sat_same n q z sum' hq ho]
                have := ih ((c :: r).drop (k + m)) (u + 1) (sum' + n * z) (sum' + n * z) false (by omega) (fun _ => rfl) (by omega) (by omega)
                rwa [← e] at this
            · rw [if_pos (show true = true ∨ satN n > q ∨ sum' + satN n * z > 2147483648 from .inl rfl)]
              by_cases ho : n > q ∨ sum + n * z > 2147483648
              · rw [if_pos ho]
                have := ih ((c :: r).drop (k + m)) (u + 1) sum sum' true hs (fun h => by cases h) hs' (by omega)
                rwa [← e] at this
              · rw [if_neg ho]
                have := ih ((c :: r).drop (k + m)) (u + 1) (sum + n * z) sum' true (by omega) (fun h => by cases h) hs' (by omega)
                rwa [← e] at this
        · have ha1 : a = -1 := by omega
          rw [if_pos (.inr (.inr (by omega)))]
          by_cases hu0 : u ≤ st - 1
          · rw [if_pos (.inr (.inr hu0))]
          · rw [if_neg (by omega)]
            rcases hsame.2 ha1 with h | ⟨x, t, hx, hxd⟩
            · omega
            · rw [show (c :: r).drop (k + (uNames.getD u.toNat []).length) = x :: t by rw [← List.drop_drop]; exact hx]
              split
              · rw [rdur_none f x t _ _ _ hxd]
              · rw [rdur_none f x t _ _ _ hxd]
theorem durs_same (l : List UInt8) : durM l = rdurM l := by
  unfold durM rdurM
  split
  · rfl
  · split
    · rfl
    · have := dur_same l.length l 0 0 0 false (by omega) (fun _ => rfl) (by omega) (by omega)
      unfold tell at this
      exact this
end Go.Proofs.YtdpcpnhkkedfcaaDoor
