/- The stable sort, as functions of a place: what its parts come to. -/
import Derived.Test.YtmblgaehfjheeaaGreatGYm
namespace Go.Proofs.YtmblgaehfjheeaaGreat.Ev
open Go.RowKit
set_option linter.unusedVariables false
def SrtOn {α : Type} (le : α → α → Prop) (a b : Nat) (f : Nat → α) : Prop := ∀ i j, a ≤ i → i < j → j < b → le (f i) (f j)
theorem SrtOn.one {α : Type} {le : α → α → Prop} {a b : Nat} {f : Nat → α} (h : b ≤ a + 1) : SrtOn le a b f := fun i j h1 h2 h3 => by omega
theorem SrtOn.mono {α : Type} {le : α → α → Prop} {a b a' b' : Nat} {f : Nat → α} (h : SrtOn le a b f) (ha : a ≤ a') (hb : b' ≤ b) : SrtOn le a' b' f := fun i j h1 h2 h3 => h i j zy h2 zy
theorem SrtOn.congr {α : Type} {le : α → α → Prop} {a b : Nat} {f g : Nat → α} (h : SrtOn le a b f) (e : ∀ i, a ≤ i → i < b → g i = f i) : SrtOn le a b g := fun i j h1 h2 h3 => by rw [e i h1 zy, e j zy h3]; exact h i j h1 h2 h3
theorem SrtOn.join {α : Type} {le : α → α → Prop} {a m b : Nat} {f : Nat → α} (h : SrtOn le a m f) (g : SrtOn le m b f) (x : ∀ i j, a ≤ i → i < m → m ≤ j → j < b → le (f i) (f j)) : SrtOn le a b f := by
 intro i j h1 h2 h3
 by_cases hj : j < m
 ·exact h i j h1 h2 hj
 ·by_cases hi : i < m
  ·exact x i j h1 hi zy h3
  ·exact g i j zy h2 h3
def Tells {α : Type} (le : α → α → Prop) (c : α → α → Int) (x y : α) : Prop := c y x < 0 ↔ ¬ le x y
def Cross {α : Type} (le : α → α → Prop) (c : α → α → Int) (a m b : Nat) (f : Nat → α) : Prop := ∀ i j, a ≤ i → i < m → m ≤ j → j < b → Tells le c (f i) (f j)
theorem Cross.perm {α : Type} {le : α → α → Prop} {c : α → α → Int} {a m b : Nat} {f g h : Nat → α} (x : Cross le c a m b f) (p : PermOn a m f g) (q : PermOn m b g h) : Cross le c a m b h := by
 intro i j h1 h2 h3 h4
 obtain ⟨i', hi', e⟩ := p.get ⟨h1, h2⟩
 obtain ⟨j', hj', e'⟩ := q.get ⟨h3, h4⟩
 rw [q.out (show ¬ (m ≤ i ∧ i < b) by omega), e, e', p.out (show ¬ (a ≤ j' ∧ j' < m) by omega)]
 exact x i' j' hi'.1 hi'.2 hj'.1 hj'.2
def movD {α : Type} (h : Nat → α) (m k : Nat) : Nat → α := fun x => if x = k then h m else if k < x ∧ x ≤ m then h (x - 1) else h x
theorem movD_0 {α : Type} {h : Nat → α} {m : Nat} : movD h m m = h := by
 funext x; unfold movD
 by_cases e : x = m
 ·rw [if_pos e, e]
 ·rw [if_neg e, if_neg zy]
theorem movD_step {α : Type} {h : Nat → α} {m k : Nat} (hk : 0 < k ∧ k ≤ m) : sw (movD h m k) k (k - 1) = movD h m (k - 1) := by
 funext x; unfold sw movD
 by_cases e : x = k
 ·rw [if_pos e, if_neg (show ¬ k - 1 = k by omega), if_neg (show ¬ (k < k - 1 ∧ k - 1 ≤ m) by omega), if_neg (show ¬ x = k - 1 by omega), if_pos zy, e]
 ·rw [if_neg e]
  by_cases e2 : x = k - 1
  ·rw [if_pos e2, if_pos e2, if_pos rfl]
  ·rw [if_neg e2, if_neg e2, if_neg e]
   by_cases e3 : k < x ∧ x ≤ m
   ·rw [if_pos e3, if_pos zy]
   ·rw [if_neg e3, if_neg zy]
def movU {α : Type} (h : Nat → α) (a k : Nat) : Nat → α := fun x => if x = k then h a else if a ≤ x ∧ x < k then h (x + 1) else h x
theorem movU_0 {α : Type} {h : Nat → α} {a : Nat} : movU h a a = h := by
 funext x; unfold movU
 by_cases e : x = a
 ·rw [if_pos e, e]
 ·rw [if_neg e, if_neg zy]
theorem movU_step {α : Type} {h : Nat → α} {a k : Nat} (hk : a ≤ k) : sw (movU h a k) k (k + 1) = movU h a (k + 1) := by
 funext x; unfold sw movU
 by_cases e : x = k
 ·rw [if_pos e, if_neg (show ¬ k + 1 = k by omega), if_neg (show ¬ (a ≤ k + 1 ∧ k + 1 < k) by omega), if_neg (show ¬ x = k + 1 by omega), if_pos zy, e]
 ·rw [if_neg e]
  by_cases e2 : x = k + 1
  ·rw [if_pos e2, if_pos e2, if_pos rfl]
  ·rw [if_neg e2, if_neg e2, if_neg e]
   by_cases e3 : a ≤ x ∧ x < k
   ·rw [if_pos e3, if_pos zy]
   ·rw [if_neg e3, if_neg zy]
theorem movD_at {α : Type} {h : Nat → α} {m k x : Nat} : movD h m k x = if x = k then h m else if k < x ∧ x ≤ m then h (x - 1) else h x := rfl
theorem movU_at {α : Type} {h : Nat → α} {a k x : Nat} : movU h a k x = if x = k then h a else if a ≤ x ∧ x < k then h (x + 1) else h x := rfl
theorem movD_srt {α : Type} {le : α → α → Prop} {a m k : Nat} {h : Nat → α} (hs : SrtOn le a m h) (hk : a ≤ k ∧ k ≤ m) (h1 : ∀ x, a ≤ x → x < k → le (h x) (h m)) (h2 : ∀ x, k ≤ x → x < m → le (h m) (h x)) : SrtOn le a (m + 1) (movD h m k) := by
 intro i j g1 g2 g3
 rw [movD_at, movD_at]
 by_cases e1 : i = k
 ·subst e1
  rw [if_pos rfl, if_neg zy, if_pos zy]
  exact h2 _ zy zy
 ·rw [if_neg e1]
  by_cases e2 : j = k
  ·subst e2
   rw [if_neg zy, if_pos rfl]
   exact h1 _ g1 zy
  ·rw [if_neg e2]
   by_cases e3 : k < i
   ·rw [if_pos zy, if_pos zy]
    exact hs _ _ zy zy zy
   ·rw [if_neg zy]
    by_cases e4 : k < j
    ·rw [if_pos zy]
     exact hs _ _ g1 zy zy
    ·rw [if_neg zy]
     exact hs _ _ g1 g2 zy
theorem movU_srt {α : Type} {le : α → α → Prop} {a b k : Nat} {h : Nat → α} (hs : SrtOn le (a + 1) b h) (hk : a ≤ k ∧ k < b) (h1 : ∀ x, a < x → x ≤ k → le (h x) (h a)) (h2 : ∀ x, k < x → x < b → le (h a) (h x)) : SrtOn le a b (movU h a k) := by
 intro i j g1 g2 g3
 rw [movU_at, movU_at]
 by_cases e1 : i = k
 ·subst e1
  rw [if_pos rfl, if_neg zy, if_neg zy]
  exact h2 _ zy zy
 ·rw [if_neg e1]
  by_cases e2 : j = k
  ·subst e2
   rw [if_pos zy, if_pos rfl]
   exact h1 _ zy zy
  ·rw [if_neg e2]
   by_cases e3 : i < k
   ·rw [if_pos zy]
    by_cases e4 : j < k
    ·rw [if_pos zy]
     exact hs _ _ zy zy zy
    ·rw [if_neg zy]
     exact hs _ _ zy zy zy
   ·rw [if_neg zy, if_neg zy]
    exact hs _ _ zy zy zy
theorem rotF_perm {α : Type} {f : Nat → α} {m i j : Nat} (hi : i ≤ m) : PermOn (m - i) (m + j) f (rotF f m i j) := by
 refine ⟨fun x => if m - i ≤ x ∧ x < m - i + j then x + i else if m - i + j ≤ x ∧ x < m + j then x - j else x, fun x => if m - i ≤ x ∧ x < m then x + j else if m ≤ x ∧ x < m + j then x - i else x, fun x => ?_, fun x => ?_, fun x hx => ?_, fun x => ?_⟩
 ·show (if _ then _ else _) = _
  by_cases h1 : m - i ≤ x ∧ x < m
  ·simp only [if_pos h1]; rw [if_neg zy, if_pos zy]; omega
  ·simp only [if_neg h1]
   by_cases h2 : m ≤ x ∧ x < m + j
   ·simp only [if_pos h2]; rw [if_pos zy]; omega
   ·simp only [if_neg h2]; rw [if_neg zy, if_neg zy]
 ·show (if _ then _ else _) = _
  by_cases h1 : m - i ≤ x ∧ x < m - i + j
  ·simp only [if_pos h1]; rw [if_neg zy, if_pos zy]; omega
  ·simp only [if_neg h1]
   by_cases h2 : m - i + j ≤ x ∧ x < m + j
   ·simp only [if_pos h2]; rw [if_pos zy]; omega
   ·simp only [if_neg h2]; rw [if_neg zy, if_neg zy]
 ·show (if _ then _ else _) = _
  rw [if_neg zy, if_neg zy]
 ·show rotF f m i j x = f (if _ then _ else _)
  unfold rotF
  split
  ·rfl
  ·split <;> rfl
structure Cut {α : Type} (le : α → α → Prop) (a m b mid st en : Nat) (f : Nat → α) : Prop where
 bd : a ≤ st ∧ st ≤ m ∧ m ≤ en ∧ en ≤ b ∧ a < mid ∧ mid < b
 sum : st + en = mid + m
 h1 : a < st → en < b → le (f (st - 1)) (f en)
 h2 : st < m → m < en → le (f (en - 1)) (f st)
theorem SrtOn.le' {α : Type} {le : α → α → Prop} (hr : ∀ x, le x x) {a b : Nat} {f : Nat → α} (h : SrtOn le a b f) {i j : Nat} (h1 : a ≤ i) (h2 : i ≤ j) (h3 : j < b) : le (f i) (f j) := by
 rcases Nat.lt_or_ge i j with g | g
 ·exact h i j h1 g h3
 ·have : i = j := by omega
  subst this; exact hr _
section
variable {α : Type} {le : α → α → Prop} {c : α → α → Int} {a m b mid st en : Nat} {f g g1 g2 : Nat → α}
theorem cut_rot (ht : ∀ x y z, le x y → le y z → le x z) (hr : ∀ x, le x x) (h1 : SrtOn le a m f) (h2 : SrtOn le m b f) (k : Cut le a m b mid st en f) :
  SrtOn le a st (rotF f m (m - st) (en - m)) ∧ SrtOn le st mid (rotF f m (m - st) (en - m)) ∧ SrtOn le mid en (rotF f m (m - st) (en - m)) ∧ SrtOn le en b (rotF f m (m - st) (en - m)) ∧
  ∀ i j, a ≤ i → i < mid → mid ≤ j → j < b → le (rotF f m (m - st) (en - m) i) (rotF f m (m - st) (en - m) j) := by
 obtain ⟨b1, b2, b3, b4, b5, b6⟩ := k.bd
 have hsum := k.sum
 have rA : ∀ x, x < st → rotF f m (m - st) (en - m) x = f x := fun x hx => by unfold rotF; rw [if_neg zy, if_neg zy]
 have rB : ∀ x, st ≤ x → x < mid → rotF f m (m - st) (en - m) x = f (x + (m - st)) := fun x hx hy => by unfold rotF; rw [if_pos zy]
 have rC : ∀ x, mid ≤ x → x < en → rotF f m (m - st) (en - m) x = f (x - (en - m)) := fun x hx hy => by unfold rotF; rw [if_neg zy, if_pos zy]
 have rD : ∀ x, en ≤ x → rotF f m (m - st) (en - m) x = f x := fun x hx => by unfold rotF; rw [if_neg zy, if_neg zy]
 refine ⟨fun i j p q r => ?_, fun i j p q r => ?_, fun i j p q r => ?_, fun i j p q r => ?_, fun i j p q r s => ?_⟩
 ·rw [rA i zy, rA j zy]; exact h1 _ _ p q zy
 ·rw [rB i zy zy, rB j zy zy]; exact h2 _ _ zy zy zy
 ·rw [rC i zy zy, rC j zy zy]; exact h1 _ _ zy zy zy
 ·rw [rD i zy, rD j zy]; exact h2 _ _ zy zy zy
 ·rcases Nat.lt_or_ge i st with hi | hi
  ·rw [rA i hi]
   rcases Nat.lt_or_ge j en with hj | hj
   ·rw [rC j r hj]; exact h1 _ _ p zy zy
   ·rw [rD j hj]
    exact ht _ _ _ (h1.le' hr p (show i ≤ st - 1 by omega) zy) (ht _ _ _ (k.h1 zy zy) (h2.le' hr zy hj s))
  ·rw [rB i hi q]
   rcases Nat.lt_or_ge j en with hj | hj
   ·rw [rC j r hj]
    exact ht _ _ _ (h2.le' hr zy (show i + (m - st) ≤ en - 1 by omega) zy) (ht _ _ _ (k.h2 zy zy) (h1.le' hr zy (show st ≤ j - (en - m) by omega) zy))
   ·rw [rD j hj]; exact h2 _ _ zy zy s
theorem cut_cross (k : Cut le a m b mid st en f) (x : Cross le c a m b f) : Cross le c a st mid (rotF f m (m - st) (en - m)) ∧ Cross le c mid en b (rotF f m (m - st) (en - m)) := by
 obtain ⟨b1, b2, b3, b4, b5, b6⟩ := k.bd
 have hsum := k.sum
 refine ⟨fun i j h1 h2 h3 h4 => ?_, fun i j h1 h2 h3 h4 => ?_⟩
 ·unfold rotF
  rw [if_neg zy, if_neg zy, if_pos zy]
  exact x _ _ zy zy zy zy
 ·unfold rotF
  rw [if_neg zy, if_pos zy, if_neg zy, if_neg zy]
  exact x _ _ zy zy zy zy
theorem cut_done (hmid : a ≤ mid ∧ mid ≤ b) (hx : ∀ i j, a ≤ i → i < mid → mid ≤ j → j < b → le (g i) (g j)) (p1 : PermOn a mid g g1) (s1 : SrtOn le a mid g1) (p2 : PermOn mid b g1 g2) (s2 : SrtOn le mid b g2) : SrtOn le a b g2 := by
 refine SrtOn.join (m := mid) (s1.congr fun i h1 h2 => p2.out zy) s2 fun i j h1 h2 h3 h4 => ?_
 obtain ⟨i', hi', e⟩ := p1.get ⟨h1, h2⟩
 obtain ⟨j', hj', e'⟩ := p2.get ⟨h3, h4⟩
 rw [p2.out (show ¬ (mid ≤ i ∧ i < b) by omega), e, e', p1.out (show ¬ (a ≤ j' ∧ j' < mid) by omega)]
 exact hx _ _ hi'.1 hi'.2 hj'.1 hj'.2
end
theorem rotF_l0 {α : Type} {f : Nat → α} {m j : Nat} : rotF f m 0 j = f := by
 funext x; unfold rotF
 by_cases h : m - 0 ≤ x ∧ x < m - 0 + j
 ·rw [if_pos h]; rfl
 ·rw [if_neg h, if_neg zy]
theorem rotF_r0 {α : Type} {f : Nat → α} {m i : Nat} (h : i ≤ m) : rotF f m i 0 = f := by
 funext x; unfold rotF
 rw [if_neg zy]
 split <;> rfl
theorem movD_perm {α : Type} {h : Nat → α} {a m : Nat} : ∀ {k : Nat}, a ≤ k → k ≤ m → PermOn a (m + 1) h (movD h m k) := by
 intro k ha hk
 obtain ⟨d, rfl⟩ : ∃ d, k = m - d := ⟨m - k, by omega⟩
 induction d with
 | zero => rw [Nat.sub_zero, movD_0]; exact PermOn.refl _ _ _
 | succ d ih =>
  by_cases hd : m ≤ d
  ·have e : m - (d + 1) = m - d := by omega
   rw [e]; exact ih zy zy
  ·have := movD_step (h := h) (m := m) (k := m - d) zy
   have e : m - d - 1 = m - (d + 1) := by omega
   rw [e] at this
   rw [← this]
   exact (ih zy zy).trans (PermOn.sw ⟨by omega, by omega⟩ ⟨by omega, by omega⟩)
theorem movU_perm {α : Type} {h : Nat → α} {a b : Nat} : ∀ {k : Nat}, a ≤ k → k < b → PermOn a b h (movU h a k) := by
 intro k ha hk
 obtain ⟨d, rfl⟩ : ∃ d, k = a + d := ⟨k - a, by omega⟩
 induction d with
 | zero => rw [Nat.add_zero, movU_0]; exact PermOn.refl _ _ _
 | succ d ih =>
  have := movU_step (h := h) (a := a) (k := a + d) zy
  rw [show a + (d + 1) = a + d + 1 by omega, ← this]
  exact (ih zy zy).trans (PermOn.sw ⟨by omega, by omega⟩ ⟨by omega, by omega⟩)
theorem Cross.congr {α : Type} {le : α → α → Prop} {c : α → α → Int} {a m b : Nat} {f g : Nat → α} (x : Cross le c a m b f) (h : ∀ i, a ≤ i → i < b → g i = f i) : Cross le c a m b g := by
 intro i j h1 h2 h3 h4
 rw [h i h1 zy, h j zy h4]; exact x i j h1 h2 h3 h4
theorem Cross.part {α : Type} {le : α → α → Prop} {c : α → α → Int} {a m b a' b' : Nat} {f : Nat → α} (x : Cross le c a m b f) (ha : a ≤ a') (hb : b' ≤ b) : Cross le c a' m b' f := fun i j h1 h2 h3 h4 => x i j zy h2 h3 zy
theorem Cross.in {α : Type} {le : α → α → Prop} {c : α → α → Int} {m N x y : Nat} {g h : Nat → α} (k : Cross le c 0 m N g) (p : PermOn x y g h) (hy : y ≤ N) (hm : y ≤ m ∨ m ≤ x) : Cross le c 0 m N h := by
 intro i j h1 h2 h3 h4
 have ei : ∃ i', i' < m ∧ h i = g i' := by
  by_cases hi : x ≤ i ∧ i < y
  ·obtain ⟨i', hi', e⟩ := p.get hi
   exact ⟨i', by omega, e⟩
  ·exact ⟨i, h2, p.out hi⟩
 have ej : ∃ j', m ≤ j' ∧ j' < N ∧ h j = g j' := by
  by_cases hj : x ≤ j ∧ j < y
  ·obtain ⟨j', hj', e⟩ := p.get hj
   exact ⟨j', by omega, by omega, e⟩
  ·exact ⟨j, h3, h4, p.out hj⟩
 obtain ⟨i', h5, e5⟩ := ei
 obtain ⟨j', h6, h7, e6⟩ := ej
 rw [e5, e6]
 exact k i' j' (Nat.zero_le _) h5 h6 h7
structure Ph {α : Type} (le : α → α → Prop) (c : α → α → Int) (N w p : Nat) (g0 g : Nat → α) : Prop where
 perm : PermOn 0 N g0 g
 done : ∀ q, q < p → SrtOn le (w * q) (w * (q + 1)) g
 same : ∀ i, w * p ≤ i → g i = g0 i
 cross : ∀ q, Cross le c 0 (w * q) N g
structure Blk {α : Type} (le : α → α → Prop) (c : α → α → Int) (N w : Nat) (g : Nat → α) : Prop where
 srt : ∀ q, SrtOn le (w * q) (min (w * (q + 1)) N) g
 cross : ∀ q, Cross le c 0 (w * q) N g
section
variable {α : Type} {le : α → α → Prop} {c : α → α → Int} {N w p : Nat} {g0 g h : Nat → α}
theorem Ph.begin (k : ∀ q, Cross le c 0 (w * q) N g) : Ph le c N w 0 g g := ⟨PermOn.refl _ _ _, fun q hq => by omega, fun _ _ => rfl, k⟩
theorem ph_side (q : Nat) : w * (p + 1) ≤ w * q ∨ w * q ≤ w * p := by
 rcases Nat.lt_or_ge p q with h | h
 ·exact .inl (Nat.mul_le_mul_left w h)
 ·exact .inr (Nat.mul_le_mul_left w h)
theorem Ph.step (k : Ph le c N w p g0 g) (hN : w * (p + 1) ≤ N) (hp : PermOn (w * p) (w * (p + 1)) g h) (hs : SrtOn le (w * p) (w * (p + 1)) h) : Ph le c N w (p + 1) g0 h := by
 refine ⟨k.perm.trans (hp.mono (Nat.zero_le _) hN), fun q hq => ?_, fun i hi => ?_, fun q => (k.cross q).in hp hN (ph_side q)⟩
 ·by_cases e : q = p
  ·subst e; exact hs
  ·refine (k.done q zy).congr fun i h1 h2 => hp.out ?_
   have := Nat.mul_le_mul_left w (show q + 1 ≤ p by omega)
   omega
 ·rw [hp.out zy, k.same i (by have := Nat.mul_le_mul_left w (show p ≤ p + 1 by omega); omega)]
theorem Ph.last (k : Ph le c N w p g0 g) (h0 : w * p ≤ N) (hN : N ≤ w * (p + 1)) (hp : PermOn (w * p) N g h) (hs : SrtOn le (w * p) N h) : PermOn 0 N g0 h ∧ Blk le c N w h := by
 refine ⟨k.perm.trans (hp.mono (Nat.zero_le _) (Nat.le_refl _)), fun q => ?_, fun q => (k.cross q).in hp (Nat.le_refl _) ?_⟩
 ·by_cases e : q = p
  ·subst e; exact hs.mono (Nat.le_refl _) (Nat.min_le_right _ _)
  ·by_cases hq : q < p
   ·refine ((k.done q hq).mono (Nat.le_refl _) (Nat.min_le_left _ _)).congr fun i h1 h2 => hp.out ?_
    have := Nat.mul_le_mul_left w (show q + 1 ≤ p by omega)
    omega
   ·have := Nat.mul_le_mul_left w (show p + 1 ≤ q by omega)
    exact SrtOn.one zy
 ·rcases Nat.lt_or_ge p q with g | g
  ·exact .inl (Nat.le_trans hN (Nat.mul_le_mul_left w g))
  ·exact .inr (Nat.mul_le_mul_left w g)
theorem Blk.two (k : Blk le c N w g) (q : Nat) : Cross le c 0 (2 * w * q) N g := by
 have := k.cross (2 * q)
 rw [← Nat.mul_assoc, Nat.mul_comm w 2] at this
 exact this
theorem two_l (p : Nat) : w * (2 * p) = 2 * w * p := by rw [← Nat.mul_assoc, Nat.mul_comm w 2]
theorem Blk.pair (k : Blk le c N w g0) (P : Ph le c N (2 * w) p g0 g) {b : Nat} (hm : 2 * w * p + w ≤ b) (hb : b ≤ N) (hb2 : b ≤ 2 * w * p + 2 * w) :
  SrtOn le (2 * w * p) (2 * w * p + w) g ∧ SrtOn le (2 * w * p + w) b g ∧ Cross le c (2 * w * p) (2 * w * p + w) b g := by
 have h1 := k.srt (2 * p)
 have h2 := k.srt (2 * p + 1)
 have h3 := k.cross (2 * p + 1)
 rw [Nat.mul_succ, two_l] at h1 h2
 rw [Nat.mul_succ, Nat.mul_succ, two_l] at h2
 rw [Nat.mul_succ, two_l] at h3
 refine ⟨(h1.mono (Nat.le_refl _) zy).congr fun i g1 g2 => P.same i g1, (h2.mono zy zy).congr fun i g1 g2 => P.same i zy, (h3.part (Nat.zero_le _) hb).congr fun i g1 g2 => P.same i g1⟩
theorem Blk.rest (k : Blk le c N w g0) (P : Ph le c N (2 * w) p g0 g) (hb : N ≤ 2 * w * p + w) : SrtOn le (2 * w * p) N g := by
 have h1 := k.srt (2 * p)
 rw [Nat.mul_succ, two_l] at h1
 exact (h1.mono (Nat.le_refl _) zy).congr fun i g1 g2 => P.same i g1
theorem Blk.all (k : Blk le c N w g) (h : N ≤ w) : SrtOn le 0 N g := by
 have := k.srt 0
 exact this.mono zy zy
end
set_option linter.unusedSimpArgs false
set_option maxRecDepth 100000
set_option maxHeartbeats 1000000
theorem ins_spec {α : Type} (raw : α → El) (hraw : ∀ x, (raw x).1.isCell = true ∧ (raw x).1.beq (raw x).1 = true ∧ beq0 (raw x).1 (raw x).1 = true) (B N : Nat) (ex : Bool) (hN : N ≤ 1048576) (c : α → α → Int) (F : Nat) (caps : List AV) (hs : HSt) (hro : ∀ e ∈ hs, e.w = false) (hC : ∀ x y : α, Spec tab F ([.agg [(raw x).1, .int .i64 (raw x).2.2], .agg [(raw y).1, .int .i64 (raw y).2.2]] ++ caps) [] hs (Val (.int .i64 (c x y)))) (le : α → α → Prop) (htr : ∀ x y z, le x y → le y z → le x z) (hrf : ∀ x, le x x) (hto : ∀ x y, le x y ∨ le y x) (f : Nat → α) (a b : Nat) (hab : a ≤ b) (hb : b ≤ N) (hX : ∀ i j, a ≤ i → i < j → j < b → Tells le c (f i) (f j)) : Spec tab 147 [.slice B 0 N 2, .int .i64 ((a : Nat) : Int), .int .i64 ((b : Nat) : Int), .func F caps] [B] (⟨B, ⟨2, ex, cE (vF raw (f) N)⟩, true⟩ :: hs) (fun v D => ∃ g, D = [⟨B, ⟨2, ex, cE (vF raw (g) N)⟩, true⟩] ∧ PermOn a b f g ∧ SrtOn le a b g) := by
 refine Spec.en (ftg 147 Tryz.func147) rfl (m := 53) rfl (rs := []) rfl (st := [(0, .slice B 0 N 2), (1, .int .i64 ((a : Nat) : Int)), (2, .int .i64 ((b : Nat) : Int)), (3, .func F caps)]) rfl rfl (fun _ => rfl) (fun E => zr (zm rfl (zq (Q.bin rfl (zi 1) rfl zp) (za rfl (zk (W.block (W.loop_ind2 (fun (i : Nat) (g : Nat → α) => [(0, .slice B 0 N 2), (1, .int .i64 ((a : Nat) : Int)), (2, .int .i64 ((b : Nat) : Int)), (3, .func F caps), (8, .int .i64 ((i : Nat) : Int))]) (fun (i : Nat) (g : Nat → α) => (⟨B, ⟨2, ex, cE (vF raw (g) N)⟩, true⟩ :: hs)) (fun (i : Nat) (g : Nat → α) => a < i ∧ i ≤ b + 1 ∧ (a < b → i ≤ b) ∧ (b ≤ a → g = f) ∧ PermOn a i f g ∧ SrtOn le a i g) (fun (i : Nat) (g : Nat → α) => b + 1 - i) (a + 1) (f) ⟨by omega, by omega, by omega, fun _ => rfl, PermOn.refl _ _ _, SrtOn.one zy⟩ zv (SubH.refl _) (fun i g hI0 ih0 => ?_))))))))
 obtain ⟨h1, h2, h3, h4, hp, hs1⟩ := hI0
 refine W.seq (zr (zm rfl (zm rfl (zq (Q.bin rfl rfl rfl (bvl ltn)) (zk (W.cD rfl (fun hc14 => ?_) (fun hc14 => ?_)))))))
 ·refine zw (W.seq (W.block (zr (zm rfl (za rfl (zk (W.block (W.loop_ind (fun (j : Nat) => [(0, .slice B 0 N 2), (1, .int .i64 ((a : Nat) : Int)), (2, .int .i64 ((b : Nat) : Int)), (3, .func F caps), (8, .int .i64 ((i : Nat) : Int)), (9, .int .i64 ((j : Nat) : Int))]) (fun (j : Nat) => (⟨B, ⟨2, ex, cE (vF raw (movD g i j) N)⟩, true⟩ :: hs)) (fun (j : Nat) => a ≤ j ∧ j ≤ i ∧ ∀ x, j ≤ x → x < i → ¬ le (g x) (g i)) (fun (j : Nat) => j) (i) ⟨by omega, Nat.le_refl _, fun x q1 q2 => by omega⟩ zv (by rw [movD_0]; exact SubH.refl _) (fun j hI1 ih1 => ?_)))))))))
  obtain ⟨hj1, hj2, hg⟩ := hI1
  refine W.seq (W.seq (W.regT (by kernel_rfl) (zm rfl (zm rfl (zq (Q.bin rfl rfl rfl (bv_gtr ltn)) (zm rfl (WO.sD (d := 21) rfl (fun hc21 => ?_) (fun hc21 => ?_))))))))
  ·have hT : Tells le c (g (j - 1)) (g i) := by obtain ⟨k, hk, e⟩ := hp.get (i := j - 1) ⟨by omega, by omega⟩; rw [e, hp.out (i := i) zy]; exact hX k i hk.1 hk.2 zy
   have e1 : movD g i j j = g i := by rw [movD_at, if_pos rfl]
   have e2 : movD g i j (j - 1) = g (j - 1) := by rw [movD_at, if_neg zy, if_neg zy]
   refine WO.gT rfl rfl (zm rfl (WO.gT rfl rfl (zm rfl (WO.gT rfl rfl (zm rfl (WO.gT rfl rfl (zq (Q.iS ud22 sz35 rfl rfl zo) (WO.gT rfl rfl (zq (Q.loadN rfl (zt 0 rfl) ag35 sz35 (vF_at zo)) (WO.gT rfl rfl (zm rfl (WO.gT rfl rfl (zm rfl (WO.gT rfl rfl (zq (Q.bin rfl (zi 1) rfl (bv_sub (wns zo))) (WO.gT rfl rfl (zq (Q.iS ud22 sz35 rfl rfl zo) (WO.gT rfl rfl (zq (Q.loadN rfl (zt 0 rfl) ag35 sz35 (vF_at zo)) (WO.gT rfl rfl (WO.cV rfl (oLc rfl (oLc rfl oz)) rfl (hC _ _) (SubR.t (SubR.s hro)) rfl (WO.gT rfl rfl (zq (Q.bin rfl (zi 0) rfl (bvl (ltA_eq _ _))) ?_)))))))))))))))))))))))
   refine zq (Q.pT rfl rfl) (zk (W.sub (zc 34 rfl (zc 0 rfl (zc 1 rfl (zc 2 rfl (zc 3 rfl (zc 8 rfl (zc 9 rfl zzn))))))) (W.cD rfl (fun hc34 => ?_) (fun hc34 => ?_))))
   ·have hlt : ¬ le (g (j - 1)) (g i) := hT.1 (by rw [← e1, ← e2]; simpa using hc34)
    refine zw (W.seq (W.block (W.regX (by kernel_rfl) (WX.f (Q.move rfl) bqs rfl (WX.f (Q.move rfl) bqi rfl (WX.f (Q.move rfl) bqs rfl (WX.f (Q.move rfl) bqi rfl (WX.f (Q.bin rfl (zi 1) rfl (bv_sub (wns zo))) bqi rfl (WX.f (Q.move rfl) bqs rfl (WX.f (Q.move rfl) bqi rfl (WX.f (Q.bin rfl (zi 1) rfl (bv_sub (wns zo))) bqi rfl (WX.f (Q.iS ud22 sz35 rfl rfl zo) bqp rfl (WX.q (by kernel_rfl) (Q.loadN rfl (zt 0 rfl) ag35 sz35 (vF_at zo)) (bq_agg2 (hraw _).2.2) rfl (WX.f (Q.move rfl) bqs rfl (WX.f (Q.move rfl) bqi rfl (WX.f (Q.iS ud22 sz35 rfl rfl zo) bqp rfl (WX.q (by kernel_rfl) (Q.loadN rfl (zt 0 rfl) ag35 sz35 (vF_at zo)) (bq_agg2 (hraw _).2.2) rfl (WX.f (Q.iS ud22 sz35 rfl rfl zo) bqp rfl (WX.store sz35 rfl rfl (j := 0) rfl (sto_ck (hraw _).1 zo) (vF_lay (x := movD g i j (j - 1)) zo) (hs' := _ :: _) rfl (WX.f (Q.iS ud22 sz35 rfl rfl zo) bqp rfl (WX.store sz35 rfl rfl (j := 0) rfl (sto_ck (hraw _).1 zo) (vF_lay (x := movD g i j j) zo) (hs' := _ :: _) rfl (WX.nil (End.KB (End.K ?_))))))))))))))))))))))))
    refine W.sub (zc 0 rfl (zc 1 rfl (zc 2 rfl (zc 3 rfl (zc 8 rfl (zc 9 rfl zzn)))))) (W.reg (zm rfl (zq (Q.bin rfl (zi 1) rfl (bv_sub (wns zo))) (za rfl (WO.nil (End.KL (W.sub zv (W.sH (by rw [upd_sw, movD_step ⟨by omega, by omega⟩]; exact SubH.refl _) (ih1 (j - 1) ?_ ?_)))))))))
    ·exact ⟨by omega, by omega, fun x q1 q2 => by rcases Nat.lt_or_ge x j with q | q; exact (show x = j - 1 by omega) ▸ hlt; exact hg x q q2⟩
    exact zo
   have hle : le (g (j - 1)) (g i) := Classical.not_not.1 fun q => hc34 (by have := hT.2 q; rw [← e1, ← e2] at this; simpa using this)
   refine W.exit (End.Kx (End.Lx (End.Bh (End.KB (End.K (W.reg (zm rfl (zq (Q.bin rfl (zi 1) rfl zp) (za rfl (WO.nil (End.KL (W.sub zv (W.sH (SubH.refl _) (ih0 (i + 1) (movD g i j) ?_ ?_))))))))))))))
   ·exact ⟨by omega, by omega, by omega, by omega, (hp.mono (Nat.le_refl _) zy).trans (movD_perm zy zy), movD_srt hs1 ⟨by omega, by omega⟩ (fun x q1 q2 => (by rcases Nat.lt_or_ge x (j - 1) with q | q; exact htr _ _ _ (hs1 x (j - 1) q1 q zy) hle; exact (show j - 1 = x by omega) ▸ hle)) (fun x q1 q2 => (hto _ _).resolve_right (hg x q1 q2))⟩
   exact zo
  refine zg rfl rfl (zg rfl rfl (zg rfl rfl (zg rfl rfl (zg rfl rfl (zg rfl rfl (zg rfl rfl (zg rfl rfl (zg rfl rfl (zg rfl rfl (zg rfl rfl (zg rfl rfl (zq (Q.pF rfl rfl) (zk (W.sub (zc 34 rfl (zc 0 rfl (zc 1 rfl (zc 2 rfl (zc 3 rfl (zc 8 rfl (zc 9 rfl zzn))))))) (W.condF rfl (W.exit (End.Kx (End.Lx (End.Bh (End.KB (End.K (W.reg (zm rfl (zq (Q.bin rfl (zi 1) rfl zp) (za rfl (WO.nil (End.KL ?_)))))))))))))))))))))))))))
  refine W.sub zv (W.sH (SubH.refl _) (ih0 (i + 1) (movD g i j) ?_ ?_))
  ·exact ⟨by omega, by omega, by omega, by omega, (hp.mono (Nat.le_refl _) zy).trans (movD_perm zy zy), movD_srt hs1 ⟨by omega, by omega⟩ (fun x q1 q2 => by omega) (fun x q1 q2 => (hto _ _).resolve_right (hg x q1 q2))⟩
  exact zo
 refine W.exit ?_
 refine End.Kx (End.Lx (End.Bh (End.fall ResL.nil (hs' := [⟨B, ⟨2, ex, cE (vF raw (g) N)⟩, true⟩]) ⟨g, rfl, (by rcases Nat.lt_or_ge a b with q | q; exact (show i = b by omega) ▸ ⟨hp, hs1⟩; exact h4 q ▸ ⟨PermOn.refl _ _ _, SrtOn.one zy⟩)⟩ (ww no_wl) (SubH.of_sublist (List.Sublist.cons_cons _ (List.nil_sublist _))))))
end Go.Proofs.YtmblgaehfjheeaaGreat.Ev
