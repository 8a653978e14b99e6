/- Layer 15, plain: tokens that are written anew with blanks between are the same tokens. -/
import Derived.Test.YtdpcpnhkkedfcaaDoorPb
import Derived.Test.YtdpcpnhkkedfcaaDoorWb
import Derived.Test.YtdpcpnhkkedfcaaDoorTok
namespace Go.Proofs.YtdpcpnhkkedfcaaDoor.Ev
open Go.RowKit
set_option linter.unusedVariables false
set_option linter.unusedSimpArgs false
set_option maxRecDepth 100000
/-- How many signs blanks and remarks have, from outside (false) or inside (true) of a remark on. -/
def skb : Bool → List Nat → Nat
  | _, [] => 0
  | false, c :: l => if c = 35 then 1 + skb true l else if c = 32 ∨ c = 9 ∨ c = 10 then 1 + skb false l else 0
  | true, c :: l => if c = 10 then 1 + skb false l else 1 + skb true l
/-- Blanks and remarks alone: where one stands behind them. -/
def mch : Bool → List Nat → Option Bool
  | q, [] => some q
  | false, c :: l => if c = 35 then mch true l else if c = 32 ∨ c = 9 ∨ c = 10 then mch false l else none
  | true, c :: l => if c = 10 then mch false l else mch true l
def nb (c : Nat) : Prop := ¬ c = 35 ∧ ¬ (c = 32 ∨ c = 9 ∨ c = 10)
theorem skb_f (c : Nat) (l : List Nat) : skb false (c :: l) = if c = 35 then 1 + skb true l else if c = 32 ∨ c = 9 ∨ c = 10 then 1 + skb false l else 0 := by
  conv => lhs; unfold skb
theorem skb_t (c : Nat) (l : List Nat) : skb true (c :: l) = if c = 10 then 1 + skb false l else 1 + skb true l := by
  conv => lhs; unfold skb
theorem mch_f (c : Nat) (l : List Nat) : mch false (c :: l) = if c = 35 then mch true l else if c = 32 ∨ c = 9 ∨ c = 10 then mch false l else none := by
  conv => lhs; unfold mch
theorem mch_t (c : Nat) (l : List Nat) : mch true (c :: l) = if c = 10 then mch false l else mch true l := by
  conv => lhs; unfold mch
theorem skb_true : ∀ l : List Nat, skb true l = pre nlc l + skb false (l.drop (pre nlc l))
  | [] => rfl
  | c :: l => by
    by_cases h : c = 10
    · subst h
      have : pre nlc (10 :: l) = 0 := by simp [pre, nlc]
      rw [this, List.drop_zero]
      simp [skb]
    · have : pre nlc (c :: l) = pre nlc l + 1 := by simp [pre, nlc, h]
      rw [this, List.drop_succ_cons]
      have e : skb true (c :: l) = 1 + skb true l := by simp [skb, h]
      rw [e, skb_true l]
      omega
theorem blF_skb : ∀ (k : Nat) (s : List Nat) (i : Nat), s.length - i ≤ k → blF k s i = i + skb false (s.drop i)
  | 0, s, i, h => by
    rw [List.drop_eq_nil_of_le (by omega)]
    rfl
  | k + 1, s, i, h => by
    by_cases hi : i < s.length
    · by_cases h35 : s.getD i 0 = 35
      · rw [blF_rem hi h35]
        have hpos := nlc_pos hi h35
        have hbd := pre_bd nlc hi
        rw [blF_skb k s _ (by omega)]
        have e1 : s.drop i = 35 :: s.drop (i + 1) := by rw [drop_head hi, h35]
        have e2 : pre nlc (s.drop i) = pre nlc (s.drop (i + 1)) + 1 := by rw [e1]; simp [pre, nlc]
        have e3 : skb false (s.drop i) = 1 + skb true (s.drop (i + 1)) := by rw [e1]; simp [skb]
        rw [e3, skb_true, List.drop_drop, e2]
        rw [show i + (pre nlc (s.drop (i + 1)) + 1) = i + 1 + pre nlc (s.drop (i + 1)) by omega]
        omega
      · by_cases h32 : s.getD i 0 = 32 ∨ s.getD i 0 = 9 ∨ s.getD i 0 = 10
        · rw [blF_bl hi h32, blF_skb k s _ (by omega), drop_head hi]
          have : skb false (s.getD i 0 :: s.drop (i + 1)) = 1 + skb false (s.drop (i + 1)) := by rw [skb_f, if_neg h35, if_pos h32]
          rw [this]
          omega
        · rw [blF_stop hi h35 h32, drop_head hi]
          have : skb false (s.getD i 0 :: s.drop (i + 1)) = 0 := by rw [skb_f, if_neg h35, if_neg h32]
          rw [this]
          rfl
    · rw [blF_end hi, List.drop_eq_nil_of_le (by omega)]
      rfl
theorem bl_skb (s : List Nat) (i : Nat) : bl s i = i + skb false (s.drop i) := blF_skb _ s i (by omega)
theorem skb_le : ∀ (q : Bool) (l : List Nat), skb q l ≤ l.length
  | q, [] => by cases q <;> exact Nat.le_refl _
  | false, c :: l => by
    have h1 := skb_le true l
    have h2 := skb_le false l
    rw [skb_f]
    simp only [List.length_cons]
    split
    · omega
    · split <;> omega
  | true, c :: l => by
    have h1 := skb_le true l
    have h2 := skb_le false l
    rw [skb_t]
    simp only [List.length_cons]
    split <;> omega
theorem skb_append : ∀ (x z : List Nat) (q q' : Bool), mch q x = some q' → skb q (x ++ z) = x.length + skb q' z
  | [], z, q, q', h => by
    have : q = q' := by cases q <;> simpa [mch] using h
    subst this
    simp
  | c :: x, z, false, q', h => by
    rw [mch_f] at h
    simp only [List.cons_append, List.length_cons]
    rw [skb_f]
    split at h
    · rename_i h35
      rw [if_pos h35, skb_append x z _ _ h]; omega
    · rename_i h35
      split at h
      · rename_i h32
        rw [if_neg h35, if_pos h32, skb_append x z _ _ h]; omega
      · cases h
  | c :: x, z, true, q', h => by
    rw [mch_t] at h
    simp only [List.cons_append, List.length_cons]
    rw [skb_t]
    split at h
    · rename_i h10
      rw [if_pos h10, skb_append x z _ _ h]; omega
    · rename_i h10
      rw [if_neg h10, skb_append x z _ _ h]; omega
theorem mch_append : ∀ (x y : List Nat) (q q' : Bool), mch q x = some q' → mch q (x ++ y) = mch q' y
  | [], y, q, q', h => by
    have : q = q' := by cases q <;> simpa [mch] using h
    subst this
    rfl
  | c :: x, y, false, q', h => by
    rw [mch_f] at h
    simp only [List.cons_append]
    rw [mch_f]
    split at h
    · rename_i h35
      rw [if_pos h35]; exact mch_append x y _ _ h
    · rename_i h35
      split at h
      · rename_i h32
        rw [if_neg h35, if_pos h32]; exact mch_append x y _ _ h
      · cases h
  | c :: x, y, true, q', h => by
    rw [mch_t] at h
    simp only [List.cons_append]
    rw [mch_t]
    split at h
    · rename_i h10
      rw [if_pos h10]; exact mch_append x y _ _ h
    · rename_i h10
      rw [if_neg h10]; exact mch_append x y _ _ h
theorem skb_take : ∀ (q : Bool) (l : List Nat), ∃ q', mch q (l.take (skb q l)) = some q' ∧ (skb q l < l.length → q' = false ∧ nb (l.getD (skb q l) 0))
  | q, [] => ⟨q, by cases q <;> rfl, fun h => by simp [skb] at h⟩
  | false, c :: l => by
    by_cases h35 : c = 35
    · obtain ⟨q', h1, h2⟩ := skb_take true l
      have e : skb false (c :: l) = skb true l + 1 := by rw [skb_f, if_pos h35]; omega
      rw [e]
      refine ⟨q', by simp only [List.take_succ_cons]; rw [mch_f, if_pos h35]; exact h1, fun h => ?_⟩
      simpa using h2 (by simpa using h)
    · by_cases h32 : c = 32 ∨ c = 9 ∨ c = 10
      · obtain ⟨q', h1, h2⟩ := skb_take false l
        have e : skb false (c :: l) = skb false l + 1 := by rw [skb_f, if_neg h35, if_pos h32]; omega
        rw [e]
        refine ⟨q', by simp only [List.take_succ_cons]; rw [mch_f, if_neg h35, if_pos h32]; exact h1, fun h => ?_⟩
        simpa using h2 (by simpa using h)
      · have e : skb false (c :: l) = 0 := by rw [skb_f, if_neg h35, if_neg h32]
        rw [e]
        exact ⟨false, rfl, fun _ => ⟨rfl, h35, h32⟩⟩
  | true, c :: l => by
    by_cases h10 : c = 10
    · obtain ⟨q', h1, h2⟩ := skb_take false l
      have e : skb true (c :: l) = skb false l + 1 := by rw [skb_t, if_pos h10]; omega
      rw [e]
      refine ⟨q', by simp only [List.take_succ_cons]; rw [mch_t, if_pos h10]; exact h1, fun h => ?_⟩
      simpa using h2 (by simpa using h)
    · obtain ⟨q', h1, h2⟩ := skb_take true l
      have e : skb true (c :: l) = skb true l + 1 := by rw [skb_t, if_neg h10]; omega
      rw [e]
      refine ⟨q', by simp only [List.take_succ_cons]; rw [mch_t, if_neg h10]; exact h1, fun h => ?_⟩
      simpa using h2 (by simpa using h)
/-- What is blanks and remarks alone from outside a remark is so from inside one. -/
theorem mch_inside : ∀ (l : List Nat), (∃ q, mch false l = some q) → ∃ q, mch true l = some q
  | [], _ => ⟨true, rfl⟩
  | c :: l, ⟨q, h⟩ => by
    unfold mch at h ⊢
    by_cases h10 : c = 10
    · rw [if_pos h10]
      subst h10
      rw [if_neg (by decide), if_pos (by decide)] at h
      exact ⟨q, h⟩
    · rw [if_neg h10]
      split at h
      · exact ⟨q, h⟩
      · split at h
        · exact mch_inside l ⟨q, h⟩
        · cases h
theorem mch_any {l : List Nat} (h : ∃ q, mch false l = some q) (q : Bool) : ∃ q', mch q l = some q' := by
  cases q
  · exact h
  · exact mch_inside l h
theorem mch_head {l : List Nat} {q : Bool} (h : mch false l = some q) : l = [] ∨ ∃ c z, l = c :: z ∧ (c = 35 ∨ c = 32 ∨ c = 9 ∨ c = 10) := by
  cases l with
  | nil => exact .inl rfl
  | cons c l =>
    right
    refine ⟨c, l, rfl, ?_⟩
    unfold mch at h
    split at h
    · exact .inl (by assumption)
    · split at h
      · exact .inr (by assumption)
      · cases h
theorem skb_nb {c : Nat} {z : List Nat} (h : nb c) : skb false (c :: z) = 0 := by unfold skb; rw [if_neg h.1, if_neg h.2]
/-- A text of blanks and remarks alone has no tokens, and the other way round. -/
theorem empty_mch {m : List Nat} (h : scanM m = some []) : ∃ q, mch false m = some q := by
  have hl := (scan_ok h).1
  rw [scanM_eq (by omega)] at h
  have hend : ¬ bl m 0 < m.length := by
    intro hlt
    unfold scF at h
    rw [if_pos hlt] at h
    split at h
    · cases h
    · rename_i tk htk
      have hw := tok_w hlt htk
      obtain ⟨r, e1, _, _⟩ := scF_ok _ _ _ _ (bl_le hw.2) h
      simp at e1
  have e := bl_skb m 0
  rw [List.drop_zero, Nat.zero_add] at e
  have hle := skb_le false m
  obtain ⟨q, h1, _⟩ := skb_take false m
  have : skb false m = m.length := by omega
  rw [this, List.take_length] at h1
  exact ⟨q, h1⟩
theorem pre_all {p : Nat → Bool} : ∀ {x z : List Nat}, (∀ c ∈ x, p c = true) → (z = [] ∨ ∃ c z', z = c :: z' ∧ p c = false) → pre p (x ++ z) = x.length
  | [], z, _, hz => by
    rcases hz with rfl | ⟨c, z', rfl, hc⟩
    · rfl
    · simp [pre, hc]
  | c :: x, z, hx, hz => by
    have h1 := hx c (List.mem_cons_self ..)
    have h2 := pre_all (x := x) (fun c hc => hx c (List.mem_cons_of_mem _ hc)) hz
    simp only [List.cons_append, pre, h1, if_true, List.length_cons, h2]
theorem pre_mem {p : Nat → Bool} : ∀ {l : List Nat} {c : Nat}, c ∈ l.take (pre p l) → p c = true
  | [], c, h => by simp [pre] at h
  | x :: l, c, h => by
    unfold pre at h
    split at h
    · rename_i hx
      rw [List.take_succ_cons] at h
      rcases List.mem_cons.1 h with rfl | h
      · exact hx
      · exact pre_mem h
    · simp at h
theorem quL_loc : ∀ (n : Nat) (l : List Nat) (i j : Nat) (z : List Nat), l.length ≤ n → quL l i = j → j ≠ 0 → quL (l.take (j - i) ++ z) i = j := by
  intro n
  induction n with
  | zero =>
    intro l i j z hl hq hj
    have : l = [] := List.length_eq_zero_iff.1 (by omega)
    subst this
    rw [quL_nil] at hq
    exact absurd hq.symm hj
  | succ n ih =>
    intro l i j z hl hq hj
    cases l with
    | nil => rw [quL_nil] at hq; exact absurd hq.symm hj
    | cons c l =>
      have hgt := quL_gt _ _ hq hj
      obtain ⟨d, hd⟩ : ∃ d, j - i = d + 1 := ⟨j - i - 1, by omega⟩
      rw [hd, List.take_succ_cons, List.cons_append, quL_cons]
      rw [quL_cons] at hq
      simp only [List.length_cons] at hl
      split
      · rename_i h92
        rw [if_pos h92] at hq
        have hgt2 := quL_gt _ _ hq hj
        cases l with
        | nil => rw [List.drop_nil, quL_nil] at hq; exact absurd hq.symm hj
        | cons x m =>
          obtain ⟨e, he⟩ : ∃ e, d = e + 1 := ⟨d - 1, by omega⟩
          rw [he, List.take_succ_cons, List.cons_append]
          simp only [List.drop_one, List.tail_cons] at hq ⊢
          have := ih m (i + 2) j z (by simp only [List.length_cons] at hl; omega) hq hj
          rw [show j - (i + 2) = e by omega] at this
          exact this
      · rename_i h92
        rw [if_neg h92] at hq
        split
        · rename_i h34
          rw [if_pos h34] at hq
          exact hq
        · rename_i h34
          rw [if_neg h34] at hq
          have := ih l (i + 1) j z (by omega) hq hj
          rw [show j - (i + 1) = d by omega] at this
          exact this
end Go.Proofs.YtdpcpnhkkedfcaaDoor.Ev

/- Layer 15, plain: the scanner over a text that was written anew. -/
namespace Go.Proofs.YtdpcpnhkkedfcaaDoor.Ev
open Go.RowKit
set_option linter.unusedVariables false
set_option linter.unusedSimpArgs false
set_option maxRecDepth 100000
def BlHead (z : List Nat) : Prop := z = [] ∨ ∃ c z', z = c :: z' ∧ (c = 35 ∨ c = 32 ∨ c = 9 ∨ c = 10)
theorem head_not {p : Nat → Bool} {z : List Nat} (hz : BlHead z) (hp : p 35 = false ∧ p 32 = false ∧ p 9 = false ∧ p 10 = false) : z = [] ∨ ∃ c z', z = c :: z' ∧ p c = false := by
  rcases hz with h | ⟨c, z', h, hc⟩
  · exact .inl h
  · refine .inr ⟨c, z', h, ?_⟩
    rcases hc with rfl | rfl | rfl | rfl
    · exact hp.1
    · exact hp.2.1
    · exact hp.2.2.1
    · exact hp.2.2.2
theorem getD_of_drop {o x : List Nat} {p c : Nat} (h : o.drop p = c :: x) : o.getD p 0 = c ∧ p < o.length := by
  have hp : p < o.length := by
    rcases Nat.lt_or_ge p o.length with h' | h'
    · exact h'
    · rw [List.drop_eq_nil_of_le h'] at h; cases h
  rw [drop_head hp] at h
  exact ⟨(List.cons.inj h).1, hp⟩
theorem take_app {x z : List Nat} : (x ++ z).take x.length = x := by simp
/-- A token hangs on its own signs alone, where a blank or nothing is behind. -/
theorem tok_local {s o z : List Nat} {a p : Nat} {tk : Tok} (ha : a < s.length) (h : tokM s a = some tk) (hz : o.drop p = (s.drop a).take tk.w ++ z) (hzh : BlHead z) : tokM o p = some { tk with a := p } := by
  have hw := tok_w ha h
  -- the first sign
  have hhead : o.getD p 0 = s.getD a 0 := by
    have e := drop_head ha
    obtain ⟨d, hd⟩ : ∃ d, tk.w = d + 1 := ⟨tk.w - 1, by omega⟩
    rw [hd, e, List.take_succ_cons, List.cons_append] at hz
    exact (getD_of_drop hz).1
  have hxl : ((s.drop a).take tk.w).length = tk.w := by rw [List.length_take, List.length_drop]; omega
  have htake : (o.drop p).take tk.w = (s.drop a).take tk.w := by
    rw [hz]
    have := take_app (x := (s.drop a).take tk.w) (z := z)
    rw [hxl] at this
    exact this
  have hpre : ∀ (q : Nat → Bool), q 35 = false ∧ q 32 = false ∧ q 9 = false ∧ q 10 = false → tk.w = pre q (s.drop a) → pre q (o.drop p) = tk.w := by
    intro q hq hw'
    rw [hz, pre_all (p := q) (fun c hc => by rw [hw'] at hc; exact pre_mem hc) (head_not hzh hq), hxl]
  unfold tokM at h ⊢
  rw [hhead]
  split at h
  · rename_i hd
    rw [if_pos hd]
    have key : ∀ (w : Nat), w = tk.w → w = (nmT s a).length → nmT o p = nmT s a := by
      intro w h1 h2
      have e1 := hpre numc (by decide) (by rw [← h1, h2, nmT_len])
      show (o.drop p).take (pre numc (o.drop p)) = (s.drop a).take (pre numc (s.drop a))
      rw [e1, htake, ← h1, h2, nmT_len]
    split at h
    · rename_i h14
      split at h
      · rename_i h0
        cases h
        have e := key _ rfl rfl
        rw [e, if_pos h14, if_pos h0]
      · cases h
    · rename_i h14
      split at h
      · rename_i h0
        cases h
        have e := key _ rfl rfl
        rw [e, if_neg h14, if_pos h0]
      · cases h
  · rename_i hd
    rw [if_neg hd]
    split at h
    · rename_i h34
      rw [if_pos h34]
      split at h
      · cases h
      · rename_i h0
        -- where the text ends
        have hq : ∀ w, w = tk.w → w = qu (s.drop a) → qu (o.drop p) = qu (s.drop a) ∧ quT o p = quT s a := by
          intro w h1 h2
          have e : s.drop a = 34 :: s.drop (a + 1) := by rw [drop_head ha, h34]
          have eq : qu (s.drop a) = quL (s.drop (a + 1)) 1 := by unfold qu; rw [e]; rfl
          have hj0 : quL (s.drop (a + 1)) 1 ≠ 0 := by rw [← eq]; exact h0
          have hloc := quL_loc _ (s.drop (a + 1)) 1 _ z (Nat.le_refl _) rfl hj0
          have e2 : qu (o.drop p) = qu (s.drop a) := by
            obtain ⟨d, hdd⟩ : ∃ d, tk.w = d + 1 := ⟨tk.w - 1, by omega⟩
            have hz2 := hz
            rw [hdd, e, List.take_succ_cons, List.cons_append] at hz2
            unfold qu at *
            rw [hz2]
            simp only [List.drop_one, List.tail_cons]
            rw [e]
            simp only [List.drop_one, List.tail_cons]
            have : quL (s.drop (a + 1)) 1 - 1 = d := by
              have : d + 1 = quL (s.drop (a + 1)) 1 := by rw [← hdd, ← h1, h2, e]; rfl
              omega
            rw [this] at hloc
            exact hloc
          refine ⟨e2, ?_⟩
          unfold quT
          rw [e2, ← h2, h1, htake]
        split at h
        · rename_i hem
          cases h
          obtain ⟨e1, e2⟩ := hq _ rfl rfl
          rw [e1, e2, if_neg h0, if_pos hem]
        · rename_i hem
          split at h
          · cases h
          · rename_i v hv
            cases h
            obtain ⟨e1, e2⟩ := hq _ rfl rfl
            rw [e1, e2, if_neg h0, if_neg hem, hv]
    · rename_i h34
      rw [if_neg h34]
      split at h
      · rename_i hL
        rw [if_pos hL]
        cases h
        have e1 := hpre namc (by decide) rfl
        simp only at e1 htake
        rw [e1, htake]
      · rename_i hL
        rw [if_neg hL]
        split at h
        · cases h
        · rename_i hm
          have hmk : mkN (o.drop p) = mkN (s.drop a) ∧ tk.w = mkN (s.drop a) := by
            have hwm : tk.w = mkN (s.drop a) := by cases h; rfl
            refine ⟨?_, hwm⟩
            rw [hwm] at hz hxl htake
            have hp : p < o.length := by
              have e := drop_head ha
              obtain ⟨d, hdd⟩ : ∃ d, mkN (s.drop a) = d + 1 := ⟨mkN (s.drop a) - 1, by omega⟩
              rw [hdd, e, List.take_succ_cons, List.cons_append] at hz
              exact (getD_of_drop hz).2
            have hSl : 0 < (s.drop a).length := by rw [List.length_drop]; omega
            have hOl : 0 < (o.drop p).length := by rw [List.length_drop]; omega
            have hh0 : (o.drop p).getD 0 0 = (s.drop a).getD 0 0 := by
              rw [drop_head ha, drop_head hp]
              exact hhead
            by_cases h2 : (s.drop a).take (min 2 (s.drop a).length) = [61, 126] ∨ (s.drop a).take (min 2 (s.drop a).length) = [33, 126] ∨ (s.drop a).take (min 2 (s.drop a).length) = [61, 61] ∨ (s.drop a).take (min 2 (s.drop a).length) = [33, 61] ∨ (s.drop a).take (min 2 (s.drop a).length) = [60, 61] ∨ (s.drop a).take (min 2 (s.drop a).length) = [62, 61]
            · have hm2 : mkN (s.drop a) = 2 := by unfold mkN; rw [if_pos h2]
              have hl2 : ((s.drop a).take (min 2 (s.drop a).length)).length = 2 := by rcases h2 with h | h | h | h | h | h <;> rw [h] <;> rfl
              rw [hm2] at hz hxl
              have hS2 : min 2 (s.drop a).length = 2 := by rw [List.length_take] at hl2; omega
              have hO2 : (o.drop p).take (min 2 (o.drop p).length) = (s.drop a).take (min 2 (s.drop a).length) := by
                have hlen : 2 ≤ (o.drop p).length := by rw [hz, List.length_append, hxl]; omega
                rw [hS2, Nat.min_eq_left hlen, hz]
                have := take_app (x := (s.drop a).take 2) (z := z)
                rw [hxl] at this
                exact this
              rw [hm2]
              unfold mkN
              rw [hO2, if_pos h2]
            · have hm1 : mkN (s.drop a) = 1 ∧ ((0 : Nat) : Int) ≤ ixB [61, 60, 62, 43, 45, 42, 47, 37, 40, 41, 123, 125, 91, 93, 44] ((s.drop a).getD 0 0) := by
                unfold mkN at hm ⊢
                rw [if_neg h2] at hm ⊢
                split at hm
                · rename_i hx; exact ⟨if_pos hx, hx⟩
                · exact absurd rfl hm
              rw [hm1.1] at hz hxl
              have hS1 : (s.drop a).take 1 = [s.getD a 0] := by rw [drop_head ha]; rfl
              rw [hS1] at hz
              have hno : ¬ ((o.drop p).take (min 2 (o.drop p).length) = [61, 126] ∨ (o.drop p).take (min 2 (o.drop p).length) = [33, 126] ∨ (o.drop p).take (min 2 (o.drop p).length) = [61, 61] ∨ (o.drop p).take (min 2 (o.drop p).length) = [33, 61] ∨ (o.drop p).take (min 2 (o.drop p).length) = [60, 61] ∨ (o.drop p).take (min 2 (o.drop p).length) = [62, 61]) := by
                rw [hz]
                rcases hzh with rfl | ⟨c, z', rfl, hc⟩
                · simp
                · have hmin : min 2 ([s.getD a 0] ++ c :: z').length = 2 := by simp
                  rw [hmin]
                  have htk : ([s.getD a 0] ++ c :: z').take 2 = [s.getD a 0, c] := rfl
                  rw [htk]
                  simp only [List.cons.injEq, and_true]
                  omega
              rw [hm1.1]
              show mkN (o.drop p) = 1
              unfold mkN
              rw [if_neg hno, hh0, if_pos hm1.2]
          rw [hmk.1, if_neg hm]
          cases h
          simp only at htake
          rw [htake]
/-- The text written anew, from a place on. -/
def outF (s m : List Nat) : Nat → Nat → List Nat
  | 0, _ => []
  | k + 1, a => if a < s.length then match tokM s a with
    | none => []
    | some tk => (s.drop a).take (bl s (a + tk.w) - a) ++ (m ++ ([10] ++ outF s m k (bl s (a + tk.w))))
    else []
def key (t : Tok) : Int × List Nat × Int := (t.k, t.t, t.n)
theorem bl_nb {s : List Nat} {i : Nat} (h : bl s i < s.length) : nb (s.getD (bl s i) 0) := by
  have e := bl_skb s i
  obtain ⟨q, h1, h2⟩ := skb_take false (s.drop i)
  have hi : i ≤ bl s i := bl_ge s i
  have := h2 (by rw [List.length_drop]; omega)
  have hg : (s.drop i).getD (skb false (s.drop i)) 0 = s.getD (bl s i) 0 := by rw [e]; simp [List.getD]
  rw [hg] at this
  exact this.2
theorem outF_head {s m : List Nat} {k a : Nat} {acc l : List Tok} (h : scF k s a acc = some l) (hn : a < s.length → nb (s.getD a 0)) : outF s m k a = [] ∨ ∃ c z, outF s m k a = c :: z ∧ nb c := by
  cases k with
  | zero => exact .inl rfl
  | succ k =>
    by_cases ha : a < s.length
    · unfold scF at h
      rw [if_pos ha] at h
      cases htk : tokM s a with
      | none => rw [htk] at h; cases h
      | some tk =>
        right
        have hw := tok_w ha htk
        have hg := bl_ge s (a + tk.w)
        obtain ⟨d, hd⟩ : ∃ d, bl s (a + tk.w) - a = d + 1 := ⟨bl s (a + tk.w) - a - 1, by omega⟩
        refine ⟨s.getD a 0, (s.drop (a + 1)).take d ++ (m ++ ([10] ++ outF s m k (bl s (a + tk.w)))), ?_, hn ha⟩
        conv => lhs; unfold outF
        rw [if_pos ha, htk]
        simp only
        rw [hd, drop_head ha, List.take_succ_cons]
        rfl
    · left
      unfold outF
      rw [if_neg ha]
theorem scF_out {s m : List Nat} (hm : ∃ q, mch false m = some q) : ∀ (k a : Nat) (acc l : List Tok), scF k s a acc = some l → a ≤ s.length → (a < s.length → nb (s.getD a 0)) →
    ∀ (o : List Nat) (p k' : Nat) (acc' : List Tok), o.drop p = outF s m k a → p ≤ o.length → (outF s m k a).length < k' → ∃ r r', l = acc ++ r ∧ scF k' o p acc' = some (acc' ++ r') ∧ r'.map key = r.map key := by
  intro k
  induction k with
  | zero => intro a acc l h; simp [scF] at h
  | succ k ih =>
    intro a acc l h hle hn o p k' acc' ho hp hk'
    obtain ⟨k', rfl⟩ : ∃ q, k' = q + 1 := ⟨k' - 1, by omega⟩
    by_cases ha : a < s.length
    · unfold scF at h
      rw [if_pos ha] at h
      cases htk : tokM s a with
      | none => rw [htk] at h; cases h
      | some tk =>
        rw [htk] at h
        simp only at h
        have hw := tok_w ha htk
        have hg := bl_ge s (a + tk.w)
        have hbl := bl_le (s := s) (i := a + tk.w) hw.2
        have hO : outF s m (k + 1) a = (s.drop a).take (bl s (a + tk.w) - a) ++ (m ++ ([10] ++ outF s m k (bl s (a + tk.w)))) := by
          conv => lhs; unfold outF
          rw [if_pos ha, htk]
        -- the piece: the token, and what is behind
        have hsk := bl_skb s (a + tk.w)
        have hpiece : (s.drop a).take (bl s (a + tk.w) - a) = (s.drop a).take tk.w ++ (s.drop (a + tk.w)).take (skb false (s.drop (a + tk.w))) := by
          rw [hsk, show a + tk.w + skb false (s.drop (a + tk.w)) - a = tk.w + skb false (s.drop (a + tk.w)) by omega, List.take_add, List.drop_drop]
        obtain ⟨q1, hq1, _⟩ := skb_take false (s.drop (a + tk.w))
        obtain ⟨q2, hq2⟩ := mch_any hm q1
        have hq3 : mch q2 [10] = some false := by cases q2 <;> rfl
        have hY : mch false ((s.drop (a + tk.w)).take (skb false (s.drop (a + tk.w))) ++ (m ++ [10])) = some false := by
          rw [mch_append _ _ _ _ hq1, mch_append _ _ _ _ hq2, hq3]
        obtain ⟨Y, hYd⟩ : ∃ Y, Y = (s.drop (a + tk.w)).take (skb false (s.drop (a + tk.w))) ++ (m ++ [10]) := ⟨_, rfl⟩
        rw [← hYd] at hY
        have hdrop : o.drop p = (s.drop a).take tk.w ++ (Y ++ outF s m k (bl s (a + tk.w))) := by
          rw [ho, hO, hpiece, hYd]
          simp only [List.append_assoc]
        have hYne : Y ≠ [] := by rw [hYd]; simp
        have hzh : BlHead (Y ++ outF s m k (bl s (a + tk.w))) := by
          rcases mch_head hY with h | ⟨c, z, h, hc⟩
          · exact absurd h hYne
          · exact .inr ⟨c, z ++ outF s m k (bl s (a + tk.w)), by rw [h]; rfl, hc⟩
        have hloc := tok_local ha htk hdrop hzh
        have hxl : ((s.drop a).take tk.w).length = tk.w := by rw [List.length_take, List.length_drop]; omega
        have hol : o.length - p = tk.w + (Y.length + (outF s m k (bl s (a + tk.w))).length) := by
          have := congrArg List.length hdrop
          rw [List.length_drop, List.length_append, List.length_append, hxl] at this
          exact this
        have hpo : p < o.length := by omega
        have hdrop2 : o.drop (p + tk.w) = Y ++ outF s m k (bl s (a + tk.w)) := by
          rw [← List.drop_drop, hdrop]
          have := List.drop_left' (l₁ := (s.drop a).take tk.w) (l₂ := Y ++ outF s m k (bl s (a + tk.w))) hxl
          exact this
        have hhead := outF_head (m := m) h (fun hlt => bl_nb hlt)
        have hsk0 : skb false (outF s m k (bl s (a + tk.w))) = 0 := by
          rcases hhead with h | ⟨c, z, h, hc⟩
          · rw [h]; rfl
          · rw [h]; exact skb_nb hc
        have hblo : bl o (p + tk.w) = p + tk.w + Y.length := by
          rw [bl_skb, hdrop2, skb_append Y _ false false hY, hsk0]
          omega
        have hdrop3 : o.drop (p + tk.w + Y.length) = outF s m k (bl s (a + tk.w)) := by
          rw [← List.drop_drop, hdrop2]
          exact List.drop_left' rfl
        have hYl : 0 < Y.length := List.length_pos_iff.2 hYne
        obtain ⟨r, r', e1, e2, e3⟩ := ih (bl s (a + tk.w)) (acc ++ [tk]) l h hbl (fun hlt => bl_nb hlt) o (p + tk.w + Y.length) k' (acc' ++ [{ tk with a := p }]) hdrop3 (by omega) (by
          rw [hO] at hk'
          simp only [List.length_append, List.length_cons, List.length_nil] at hk'
          omega)
        refine ⟨tk :: r, { tk with a := p } :: r', by rw [e1]; simp, ?_, ?_⟩
        · rw [scF_some hpo hloc]
          show scF k' o (bl o (p + tk.w)) _ = _
          rw [hblo, e2]
          simp
        · simp only [List.map_cons, e3]
          rfl
    · have hO : outF s m (k + 1) a = [] := by unfold outF; rw [if_neg ha]
      rw [hO] at ho
      have hpl : ¬ p < o.length := by
        intro hlt
        have := congrArg List.length ho
        rw [List.length_drop, List.length_nil] at this
        omega
      unfold scF at h
      rw [if_neg ha] at h
      simp only [Option.some.injEq] at h
      exact ⟨[], [], by simp [h], by rw [scF_end hpl]; simp, rfl⟩
end Go.Proofs.YtdpcpnhkkedfcaaDoor.Ev

/- Layer 15, plain: the text that LexSpaced's loop writes, and what scanning it gives. -/
namespace Go.Proofs.YtdpcpnhkkedfcaaDoor.Ev
open Go.RowKit
set_option linter.unusedVariables false
set_option linter.unusedSimpArgs false
set_option maxRecDepth 100000
def pcs (s m : List Nat) (L : List Tok) : Nat → List Nat
  | 0 => []
  | i + 1 => ((pcs s m L i ++ (s.drop (tg L i).a).take ((tg L (i + 1)).a - (tg L i).a)) ++ m) ++ [10]
theorem pcs_bytes {s m : List Nat} (L : List Tok) (hs : Bytes s) (hm : Bytes m) : ∀ i, Bytes (pcs s m L i)
  | 0 => by intro c h; simp [pcs] at h
  | i + 1 => Bytes.append (Bytes.append (Bytes.append (pcs_bytes L hs hm i) (Bytes.take (Bytes.drop hs _) _)) hm) (Bytes.one (by decide))
theorem pcs_len {s m : List Nat} {l : List Tok} (h : scanM s = some l) (hm : m.length ≤ 8) : ∀ i, i ≤ l.length → (pcs s m (l ++ [endT s]) i).length ≤ (tg (l ++ [endT s]) i).a + 9 * i
  | 0, _ => Nat.zero_le _
  | i + 1, hi => by
    have h1 := pcs_len h hm i (by omega)
    have h2 := (scan_ok h).2.2 i (by omega)
    obtain ⟨h3, h4, _⟩ := h2
    simp only [pcs, List.length_append, List.length_take, List.length_drop, List.length_cons, List.length_nil]
    omega
def outT (s m : List Nat) : List Tok → List Nat
  | t :: t' :: r => (s.drop t.a).take (t'.a - t.a) ++ (m ++ ([10] ++ outT s m (t' :: r)))
  | _ => []
theorem outT_cons {s m : List Nat} (t : Tok) {M : List Tok} (hM : M ≠ []) : outT s m (t :: M) = (s.drop t.a).take ((tg M 0).a - t.a) ++ (m ++ ([10] ++ outT s m M)) := by
  cases M with
  | nil => exact absurd rfl hM
  | cons x y => rfl
theorem scF_outT {s m : List Nat} : ∀ (k a : Nat) (acc l : List Tok), a ≤ s.length → scF k s a acc = some l → ∃ r, l = acc ++ r ∧ (tg (r ++ [endT s]) 0).a = a ∧ outF s m k a = outT s m (r ++ [endT s])
  | 0, a, acc, l, _, h => by simp [scF] at h
  | k + 1, a, acc, l, hle, h => by
    unfold scF at h
    split at h
    · rename_i ha
      split at h
      · cases h
      · rename_i tk htk
        have hw := tok_w ha htk
        have hge := bl_ge s (a + tk.w)
        have hbl := bl_le (s := s) (i := a + tk.w) hw.2
        obtain ⟨r, e1, e2, e3⟩ := scF_outT (m := m) k (bl s (a + tk.w)) (acc ++ [tk]) l hbl h
        obtain ⟨g1, g2⟩ := tok_ok ha htk hge hbl
        refine ⟨tk :: r, by rw [e1]; simp, g1, ?_⟩
        have : outF s m (k + 1) a = (s.drop a).take (bl s (a + tk.w) - a) ++ (m ++ ([10] ++ outF s m k (bl s (a + tk.w)))) := by
          conv => lhs; unfold outF
          rw [if_pos ha, htk]
        have e4 : outT s m (tk :: (r ++ [endT s])) = _ := outT_cons tk (by simp)
        rw [this, List.cons_append (a := tk), e4, e2, g1, e3]
    · rename_i ha
      simp only [Option.some.injEq] at h
      refine ⟨[], by simp [h], by show s.length = a; omega, ?_⟩
      unfold outF
      rw [if_neg ha]
      rfl
theorem drop_tg {L : List Tok} {i : Nat} (h : i < L.length) : L.drop i = tg L i :: L.drop (i + 1) := by
  have : tg L i = L[i] := by unfold tg; rw [List.getD_eq_getElem?_getD, List.getElem?_eq_getElem h]; rfl
  rw [this]
  exact List.drop_eq_getElem_cons h
theorem pcs_outT {s m : List Nat} {L : List Tok} : ∀ i, i < L.length → outT s m L = pcs s m L i ++ outT s m (L.drop i)
  | 0, _ => by simp [pcs]
  | i + 1, h => by
    rw [pcs_outT i (by omega), drop_tg (L := L) (i := i) (by omega), outT_cons _ (by rw [drop_tg h]; simp)]
    have : tg (L.drop (i + 1)) 0 = tg L (i + 1) := by rw [drop_tg h]; rfl
    rw [this]
    simp only [pcs, List.append_assoc]
theorem scan_pcs {s m : List Nat} {l : List Tok} (h : scanM s = some l) (hm : scanM m = some []) (hl : ¬ 1024 < (pcs s m (l ++ [endT s]) l.length).length) :
    ∃ r, scanM (pcs s m (l ++ [endT s]) l.length) = some r ∧ (l ++ [endT s]).map key = (r ++ [endT (pcs s m (l ++ [endT s]) l.length)]).map key := by
  have h1 := (scan_ok h).1
  have h' := h
  rw [scanM_eq (by omega)] at h'
  have hbl := bl_le (s := s) (i := 0) (Nat.zero_le _)
  obtain ⟨r, e1, _, e3⟩ := scF_outT (m := m) _ _ _ _ hbl h'
  simp only [List.nil_append] at e1
  subst e1
  have ho : outF s m (s.length + 1) (bl s 0) = pcs s m (l ++ [endT s]) l.length := by
    rw [e3, pcs_outT l.length (by simp)]
    have : (l ++ [endT s]).drop l.length = [endT s] := by simp
    rw [this]
    show _ ++ [] = _
    rw [List.append_nil]
  obtain ⟨r, r', g1, g2, g3⟩ := scF_out (m := m) (empty_mch hm) _ _ _ _ h' hbl (fun hlt => bl_nb hlt) (pcs s m (l ++ [endT s]) l.length) 0 ((pcs s m (l ++ [endT s]) l.length).length + 1) [] (by rw [List.drop_zero, ho]) (Nat.zero_le _) (by rw [ho]; omega)
  simp only [List.nil_append] at g1 g2
  subst g1
  have hb0 : bl (pcs s m (l ++ [endT s]) l.length) 0 = 0 := by
    rw [bl_skb, List.drop_zero, ← ho]
    rcases outF_head (m := m) h' (fun hlt => bl_nb hlt) with e | ⟨c, z, e, hc⟩
    · rw [e]; rfl
    · rw [e, skb_nb hc]
  refine ⟨r', by rw [scanM_eq hl, hb0]; exact g2, ?_⟩
  rw [List.map_append, List.map_append, g3]
  rfl
theorem key_at {L M : List Tok} (h : L.map key = M.map key) (i : Nat) : (tg L i).k = (tg M i).k ∧ (tg L i).t = (tg M i).t ∧ (tg L i).n = (tg M i).n := by
  have e := congrArg (fun l => l[i]?) h
  simp only [List.getElem?_map] at e
  have : key (tg L i) = key (tg M i) := by
    unfold tg
    rw [List.getD_eq_getElem?_getD, List.getD_eq_getElem?_getD]
    cases h1 : L[i]? <;> cases h2 : M[i]? <;> rw [h1, h2] at e
    all_goals first | rfl | (simp at e; done) | simpa using e
  unfold key at this
  simp only [Prod.mk.injEq] at this
  exact this
end Go.Proofs.YtdpcpnhkkedfcaaDoor.Ev

/- Layer 15, walks: LexSpaced. -/
namespace Go.Proofs.YtdpcpnhkkedfcaaDoor.Ev
open Go.RowKit
set_option linter.unusedVariables false
set_option linter.unusedSimpArgs false
set_option maxRecDepth 100000
theorem empty_none (s : List Nat) (hs : Bytes s) (hl : s.length ≤ 281474976710656) (h0 : scanM s = none) : Spec tab 9 [.str s] [] [] (Val (.bool false)) := by
  refine Spec.enter' (ft_get 9 Tryd.func9) rfl (m := 26) rfl (rs := [.tmp 2]) rfl (st := [(0, .str s)]) rfl rfl (fun _ => rfl) (fun E => ?_)
  refine W.seq ?_
  refine W.reg ?_
  refine WO.q (Q.assign rfl) rfl ?_
  refine WO.nil ?_
  refine End.K ?_
  refine W.seq ?_
  refine W.reg ?_
  refine WO.q (Q.move rfl) rfl ?_
  rcases hsc : scanM s with _ | l
  · skip -- n
    refine WO.call0 rfl (oLs_cons rfl oLs_nil) rfl (scan_spec _ hs (by first | omega | (simp only [List.length_drop, List.length_take, List.length_append, List.length_cons, List.length_nil] at *; omega))) SubR.nil rfl (fun v8 D8 hP8 => ?_)
    unfold scanP at hP8
    rw [hsc] at hP8
    obtain ⟨p, e, rfl, he, rfl⟩ := hP8
    refine WO.q (Q.move rfl) rfl ?_
    refine WO.q (Q.extract rfl rfl) rfl ?_
    refine WO.q (Q.extract rfl rfl) rfl ?_
    refine WO.q (Q.extract rfl rfl) rfl ?_
    refine WO.q (Q.assign rfl) rfl ?_
    refine WO.q (Q.assign rfl) rfl ?_
    refine WO.q (Q.assign rfl) rfl ?_
    refine WO.nil ?_
    refine End.K ?_
    refine W.sub (SubS.cons (k := 5) rfl (SubS.cons (k := 3) rfl (SubS.nil _))) ?_
    refine W.seq ?_
    refine W.reg ?_
    refine WO.q (Q.move rfl) rfl ?_
    refine WO.q (Q.bin rfl (oc (v := .int .i64 ((0 : Nat) : Int)) rfl) rfl (bv_eql eq_int)) rfl ?_
    refine WO.q (Q.move rfl) rfl ?_
    refine WO.splitD (d := 14) rfl (fun hc14 => ?_) (fun hc14 => ?_)
    · exact absurd hc14 he
    · skip -- nf
      refine WO.gF rfl rfl (.inl rfl) rfl ?_
      refine WO.gF rfl rfl (.inl rfl) rfl ?_
      refine WO.gF rfl rfl (.inl rfl) rfl ?_
      refine WO.q (Q.pickF rfl rfl) rfl ?_
      refine WO.q (Q.move rfl) rfl ?_
      refine WO.gF rfl rfl (.inl rfl) rfl ?_
      refine WO.gF rfl rfl (.inl rfl) rfl ?_
      refine WO.gF rfl rfl (.inl rfl) rfl ?_
      refine WO.gF rfl rfl (.inl rfl) rfl ?_
      refine WO.gF rfl rfl (.inl rfl) rfl ?_
      refine WO.q (Q.pickF rfl rfl) rfl ?_
      refine WO.q (Q.assign rfl) rfl ?_
      refine WO.nil ?_
      refine End.K ?_
      refine W.sub (SubS.cons (k := 2) rfl (SubS.nil _)) ?_
      refine W.ret ?_
      refine End.retV (ResL.tmp rfl ResL.nil) ?_
      (first | rfl | simp [tg, endT, oneOf])
  · (rw [h0] at hsc; cases hsc)

theorem empty_more (s : List Nat) (hs : Bytes s) (hl : s.length ≤ 281474976710656) (t : Tok) (r : List Tok) (h0 : scanM s = some (t :: r)) : Spec tab 9 [.str s] [] [] (Val (.bool false)) := by
  refine Spec.enter' (ft_get 9 Tryd.func9) rfl (m := 26) rfl (rs := [.tmp 2]) rfl (st := [(0, .str s)]) rfl rfl (fun _ => rfl) (fun E => ?_)
  refine W.seq ?_
  refine W.reg ?_
  refine WO.q (Q.assign rfl) rfl ?_
  refine WO.nil ?_
  refine End.K ?_
  refine W.seq ?_
  refine W.reg ?_
  refine WO.q (Q.move rfl) rfl ?_
  rcases hsc : scanM s with _ | l
  · (rw [h0] at hsc; cases hsc)
  · skip -- s
    rw [h0] at hsc
    cases hsc
    have hsc := h0
    have hlen : (t :: r).length ≤ 1024 := scan_len h0
    refine WO.call0 rfl (oLs_cons rfl oLs_nil) rfl (scan_spec _ hs (by first | omega | (simp only [List.length_drop, List.length_take, List.length_append, List.length_cons, List.length_nil] at *; omega))) SubR.nil rfl (fun v8 D8 hP8 => ?_)
    unfold scanP at hP8
    rw [hsc] at hP8
    obtain ⟨b, ex, rfl, rfl⟩ := hP8
    refine WO.q (Q.move rfl) rfl ?_
    refine WO.q (Q.extract rfl rfl) rfl ?_
    refine WO.q (Q.extract rfl rfl) rfl ?_
    refine WO.q (Q.extract rfl rfl) rfl ?_
    refine WO.q (Q.assign rfl) rfl ?_
    refine WO.q (Q.assign rfl) rfl ?_
    refine WO.q (Q.assign rfl) rfl ?_
    refine WO.nil ?_
    refine End.K ?_
    refine W.sub (SubS.cons (k := 5) rfl (SubS.cons (k := 3) rfl (SubS.nil _))) ?_
    refine W.seq ?_
    refine W.reg ?_
    refine WO.q (Q.move rfl) rfl ?_
    refine WO.q (Q.bin rfl (oc (v := .int .i64 ((0 : Nat) : Int)) rfl) rfl (bv_eql (p := true) rfl)) rfl ?_
    refine WO.q (Q.move rfl) rfl ?_
    refine WO.gT rfl rfl ?_
    refine WO.q (Q.move rfl) rfl ?_
    refine WO.gT rfl rfl ?_
    refine WO.q (Q.len ud22 rfl rfl) rfl ?_
    refine WO.gT rfl rfl ?_
    refine WO.q (Q.bin rfl (oc (v := .int .i64 ((1 : Nat) : Int)) rfl) rfl (bv_eql eq_nat)) rfl ?_
    refine WO.q (Q.pickT rfl rfl) rfl ?_
    refine WO.q (Q.move rfl) rfl ?_
    refine WO.splitD (d := 19) rfl (fun hc19 => ?_) (fun hc19 => ?_)
    · exact absurd hc19 (by simp)
    · skip -- sf
      refine WO.gF rfl rfl (.inl rfl) rfl ?_
      refine WO.gF rfl rfl (.inl rfl) rfl ?_
      refine WO.gF rfl rfl (.inl rfl) rfl ?_
      refine WO.gF rfl rfl (.inl rfl) rfl ?_
      refine WO.gF rfl rfl (.inl rfl) rfl ?_
      refine WO.q (Q.pickF rfl rfl) rfl ?_
      refine WO.q (Q.assign rfl) rfl ?_
      refine WO.nil ?_
      refine End.K ?_
      refine W.sub (SubS.cons (k := 2) rfl (SubS.nil _)) ?_
      refine W.ret ?_
      refine End.retV (ResL.tmp rfl ResL.nil) ?_
      (first | rfl | simp [tg, endT, oneOf])

theorem same_spec (L M : List Tok) (hk : L.map key = M.map key) (n m : Nat) (hn : L.length = n) (hm : M.length = m) (hb : n ≤ 1048576) (b c : Nat) (ex ex' : Bool) : Spec tab 10 [.slice b 0 n 4, .slice c 0 m 4, .bool false] [] [⟨c, ⟨4, ex', tokCs M⟩, false⟩, ⟨b, ⟨4, ex, tokCs L⟩, false⟩] (Val (.bool true)) := by
  have hnm : n = m := by have := congrArg List.length hk; simp only [List.length_map] at this; omega
  refine Spec.enter' (ft_get 10 Tryd.func10) rfl (m := 72) rfl (rs := [.tmp 6]) rfl (st := [(0, .slice b 0 n 4), (1, .slice c 0 m 4), (2, .bool false)]) rfl rfl (fun _ => rfl) (fun E => ?_)
  refine W.seq ?_
  refine W.reg ?_
  refine WO.q (Q.assign rfl) rfl ?_
  refine WO.nil ?_
  refine End.K ?_
  refine W.seq ?_
  refine W.seq ?_
  refine W.reg ?_
  refine WO.q (Q.move rfl) rfl ?_
  refine WO.q (Q.len ud22 rfl rfl) rfl ?_
  refine WO.q (Q.move rfl) rfl ?_
  refine WO.q (Q.len ud22 rfl rfl) rfl ?_
  refine WO.q (Q.bin rfl rfl rfl (bv_neq ne_nat)) rfl ?_
  refine WO.nil ?_
  refine End.K ?_
  refine W.condDS rfl (fun hc12 => ?_) (fun hc12 => ?_)
  · exact absurd hnm hc12
  · skip -- F
    refine W.skip ?_
    refine End.K ?_
    refine W.sub (SubS.cons (k := 0) rfl (SubS.cons (k := 1) rfl (SubS.cons (k := 2) rfl (SubS.nil _)))) ?_
    refine W.seq ?_
    refine W.seq ?_
    refine W.reg ?_
    refine WO.q (Q.assign (oc (v := .int .i64 ((0 : Nat) : Int)) rfl)) rfl ?_
    refine WO.nil ?_
    refine End.K ?_
    refine W.block ?_
    refine W.loop_ind (fun (i : Nat) => [(0, .slice b 0 n 4), (1, .slice c 0 m 4), (2, .bool false), (7, .int .i64 ((i : Nat) : Int))]) (fun _ => _) (fun (i : Nat) => i ≤ n) (fun (i : Nat) => n - i) (0) (Nat.zero_le _) (SubS.cons rfl (SubS.cons rfl (SubS.cons rfl (SubS.cons rfl (SubS.nil _))))) (SubH.refl _) (fun i hI0 ih0 => ?_)
    have hil : i ≤ n := hI0
    obtain ⟨k1, k2, k3⟩ := key_at hk i
    refine W.seq ?_
    refine W.seq ?_
    refine W.reg ?_
    refine WO.q (Q.move rfl) rfl ?_
    refine WO.q (Q.move rfl) rfl ?_
    refine WO.q (Q.len ud22 rfl rfl) rfl ?_
    refine WO.q (Q.bin rfl rfl rfl (bv_lss lt_nat)) rfl ?_
    refine WO.nil ?_
    refine End.K ?_
    refine W.condDS rfl (fun hc16 => ?_) (fun hc16 => ?_)
    · skip -- FL0T
      refine W.skip ?_
      refine End.K ?_
      refine W.seq ?_
      refine W.block ?_
      refine W.seq ?_
      refine W.regT (by kernel_rfl) ?_
      refine WO.q (Q.move rfl) rfl ?_
      refine WO.q (Q.move rfl) rfl ?_
      refine WO.q (Q.iaddrS ud22 sz28 rfl rfl (by first | omega | (simp only [List.length_drop, List.length_take, List.length_append, List.length_cons, List.length_nil] at *; omega))) rfl ?_
      refine WO.q (Q.fieldAddr fa28_0 rfl rfl) rfl ?_
      refine WO.q (Q.load1 rfl (mem_at (i := 1) rfl) ag3 (tokc0 (by first | omega | (simp only [List.length_drop, List.length_take, List.length_append, List.length_cons, List.length_nil] at *; omega)))) rfl ?_
      refine WO.q (Q.move rfl) rfl ?_
      refine WO.q (Q.move rfl) rfl ?_
      refine WO.q (Q.iaddrS ud22 sz28 rfl rfl (by first | omega | (simp only [List.length_drop, List.length_take, List.length_append, List.length_cons, List.length_nil] at *; omega))) rfl ?_
      refine WO.q (Q.fieldAddr fa28_0 rfl rfl) rfl ?_
      refine WO.q (Q.load1 rfl (mem_at (i := 0) rfl) ag3 (tokc0 (by first | omega | (simp only [List.length_drop, List.length_take, List.length_append, List.length_cons, List.length_nil] at *; omega)))) rfl ?_
      refine WO.q (Q.bin rfl rfl rfl (bv_neq ne_int)) rfl ?_
      refine WO.q (Q.move rfl) rfl ?_
      refine WO.splitD (d := 30) rfl (fun hc30 => ?_) (fun hc30 => ?_)
      · exact absurd k1 hc30
      · skip -- FL0Tf
        refine WO.gT rfl rfl ?_
        refine WO.q (Q.move rfl) rfl ?_
        refine WO.gT rfl rfl ?_
        refine WO.q (Q.move rfl) rfl ?_
        refine WO.gT rfl rfl ?_
        refine WO.q (Q.iaddrS ud22 sz28 rfl rfl (by first | omega | (simp only [List.length_drop, List.length_take, List.length_append, List.length_cons, List.length_nil] at *; omega))) rfl ?_
        refine WO.gT rfl rfl ?_
        refine WO.q (Q.fieldAddr fa28_1 rfl rfl) rfl ?_
        refine WO.gT rfl rfl ?_
        refine WO.q (Q.load1 rfl (mem_at (i := 1) rfl) ag9 (tokc1 (by first | omega | (simp only [List.length_drop, List.length_take, List.length_append, List.length_cons, List.length_nil] at *; omega)))) rfl ?_
        refine WO.gT rfl rfl ?_
        refine WO.q (Q.move rfl) rfl ?_
        refine WO.gT rfl rfl ?_
        refine WO.q (Q.move rfl) rfl ?_
        refine WO.gT rfl rfl ?_
        refine WO.q (Q.iaddrS ud22 sz28 rfl rfl (by first | omega | (simp only [List.length_drop, List.length_take, List.length_append, List.length_cons, List.length_nil] at *; omega))) rfl ?_
        refine WO.gT rfl rfl ?_
        refine WO.q (Q.fieldAddr fa28_1 rfl rfl) rfl ?_
        refine WO.gT rfl rfl ?_
        refine WO.q (Q.load1 rfl (mem_at (i := 0) rfl) ag9 (tokc1 (by first | omega | (simp only [List.length_drop, List.length_take, List.length_append, List.length_cons, List.length_nil] at *; omega)))) rfl ?_
        refine WO.gT rfl rfl ?_
        refine WO.q (Q.bin rfl rfl rfl bv_sneq) rfl ?_
        refine WO.q (Q.pickF rfl rfl) rfl ?_
        refine WO.q (Q.move rfl) rfl ?_
        refine WO.splitD (d := 43) rfl (fun hc43 => ?_) (fun hc43 => ?_)
        · exact absurd k2 hc43
        · skip -- FL0Tff
          refine WO.gT rfl rfl ?_
          refine WO.q (Q.move rfl) rfl ?_
          refine WO.gT rfl rfl ?_
          refine WO.q (Q.move rfl) rfl ?_
          refine WO.gT rfl rfl ?_
          refine WO.q (Q.iaddrS ud22 sz28 rfl rfl (by first | omega | (simp only [List.length_drop, List.length_take, List.length_append, List.length_cons, List.length_nil] at *; omega))) rfl ?_
          refine WO.gT rfl rfl ?_
          refine WO.q (Q.fieldAddr fa28_2 rfl rfl) rfl ?_
          refine WO.gT rfl rfl ?_
          refine WO.q (Q.load1 rfl (mem_at (i := 1) rfl) ag3 (tokc2 (by first | omega | (simp only [List.length_drop, List.length_take, List.length_append, List.length_cons, List.length_nil] at *; omega)))) rfl ?_
          refine WO.gT rfl rfl ?_
          refine WO.q (Q.move rfl) rfl ?_
          refine WO.gT rfl rfl ?_
          refine WO.q (Q.move rfl) rfl ?_
          refine WO.gT rfl rfl ?_
          refine WO.q (Q.iaddrS ud22 sz28 rfl rfl (by first | omega | (simp only [List.length_drop, List.length_take, List.length_append, List.length_cons, List.length_nil] at *; omega))) rfl ?_
          refine WO.gT rfl rfl ?_
          refine WO.q (Q.fieldAddr fa28_2 rfl rfl) rfl ?_
          refine WO.gT rfl rfl ?_
          refine WO.q (Q.load1 rfl (mem_at (i := 0) rfl) ag3 (tokc2 (by first | omega | (simp only [List.length_drop, List.length_take, List.length_append, List.length_cons, List.length_nil] at *; omega)))) rfl ?_
          refine WO.gT rfl rfl ?_
          refine WO.q (Q.bin rfl rfl rfl (bv_neq ne_int)) rfl ?_
          refine WO.q (Q.pickF rfl rfl) rfl ?_
          refine WO.q (Q.move rfl) rfl ?_
          refine WO.splitD (d := 56) rfl (fun hc56 => ?_) (fun hc56 => ?_)
          · exact absurd k3 hc56
          · skip -- FL0Tfff
            refine WO.gT rfl rfl ?_
            refine WO.q (Q.move rfl) rfl ?_
            refine WO.gT rfl rfl ?_
            refine WO.q (Q.move rfl) rfl ?_
            refine WO.gF rfl rfl (.inl rfl) rfl ?_
            refine WO.gF rfl rfl (.inl rfl) rfl ?_
            refine WO.gF rfl rfl (.inl rfl) rfl ?_
            refine WO.gF rfl rfl (.inl rfl) rfl ?_
            refine WO.gF rfl rfl (.inl rfl) rfl ?_
            refine WO.gF rfl rfl (.inl rfl) rfl ?_
            refine WO.gF rfl rfl (.inl rfl) rfl ?_
            refine WO.gF rfl rfl (.inl rfl) rfl ?_
            refine WO.gF rfl rfl (.inl rfl) rfl ?_
            refine WO.gF rfl rfl (.inl rfl) rfl ?_
            refine WO.gF rfl rfl (.inl rfl) rfl ?_
            refine WO.gT rfl rfl ?_
            refine WO.q (Q.pickF rfl rfl) rfl ?_
            refine WO.q (Q.pickF rfl rfl) rfl ?_
            refine WO.nil ?_
            refine End.K ?_
            refine W.sub (SubS.cons (k := 71) rfl (SubS.cons (k := 0) rfl (SubS.cons (k := 1) rfl (SubS.cons (k := 2) rfl (SubS.cons (k := 7) rfl (SubS.nil _)))))) ?_
            refine W.condF rfl ?_
            refine W.skip ?_
            refine End.KB (End.K ?_)
            refine W.reg ?_
            refine WO.q (Q.move rfl) rfl ?_
            refine WO.q (Q.bin rfl (oc (v := .int .i64 ((1 : Nat) : Int)) rfl) rfl (bv_add (wn_add (by first | omega | (simp only [List.length_drop, List.length_take, List.length_append, List.length_cons, List.length_nil] at *; omega))))) rfl ?_
            refine WO.q (Q.assign rfl) rfl ?_
            refine WO.nil ?_
            refine End.KL ?_
            refine W.sub (SubS.cons rfl (SubS.cons rfl (SubS.cons rfl (SubS.cons rfl (SubS.nil _))))) (ih0 (i + 1) ?_ ?_)
            · exact (by first | omega | (simp only [List.length_drop, List.length_take, List.length_append, List.length_cons, List.length_nil] at *; omega))
            · exact (by first | omega | (simp only [List.length_drop, List.length_take, List.length_append, List.length_cons, List.length_nil] at *; omega))
    · skip -- FL0F
      refine W.exit ?_
      refine End.K_exit (End.KL_exit (End.KB_hit (End.K ?_)))
      refine W.sub (SubS.nil _) ?_
      refine W.seq ?_
      refine W.reg ?_
      refine WO.q (Q.assign rfl) rfl ?_
      refine WO.nil ?_
      refine End.K ?_
      refine W.ret ?_
      refine End.retV (ResL.tmp rfl ResL.nil) ?_
      rfl

theorem spaced_spec (s more : List Nat) (hs : Bytes s) (hl : s.length ≤ 281474976710656) (hm : Bytes more) (hml : more.length ≤ 281474976710656) : Spec tab 4 [.str s, .str more] [] [] (Val (.bool true)) := by
  refine Spec.enter' (ft_get 4 Tryd.func4) rfl (m := 79) rfl (rs := [.tmp 4]) rfl (st := [(0, .str s), (1, .str more)]) rfl rfl (fun _ => rfl) (fun E => ?_)
  refine W.seq ?_
  refine W.reg ?_
  refine WO.q (Q.assign rfl) rfl ?_
  refine WO.nil ?_
  refine End.K ?_
  refine W.seq ?_
  refine W.reg ?_
  refine WO.q (Q.move rfl) rfl ?_
  rcases hsc : scanM s with _ | l
  · skip -- n
    refine WO.call0 rfl (oLs_cons rfl oLs_nil) rfl (scan_spec _ hs (by first | omega | (simp only [List.length_drop, List.length_take, List.length_append, List.length_cons, List.length_nil] at *; omega))) SubR.nil rfl (fun v16 D16 hP16 => ?_)
    unfold scanP at hP16
    rw [hsc] at hP16
    obtain ⟨p, e, rfl, he, rfl⟩ := hP16
    refine WO.q (Q.move rfl) rfl ?_
    refine WO.q (Q.extract rfl rfl) rfl ?_
    refine WO.q (Q.extract rfl rfl) rfl ?_
    refine WO.q (Q.extract rfl rfl) rfl ?_
    refine WO.q (Q.assign rfl) rfl ?_
    refine WO.q (Q.assign rfl) rfl ?_
    refine WO.q (Q.assign rfl) rfl ?_
    refine WO.nil ?_
    refine End.K ?_
    refine W.sub (SubS.cons (k := 7) rfl (SubS.cons (k := 5) rfl (SubS.cons (k := 0) rfl (SubS.cons (k := 1) rfl (SubS.nil _))))) ?_
    refine W.seq ?_
    refine W.seq ?_
    refine W.reg ?_
    refine WO.q (Q.move rfl) rfl ?_
    refine WO.q (Q.bin rfl (oc (v := .int .i64 ((0 : Nat) : Int)) rfl) rfl (bv_neq ne_int)) rfl ?_
    refine WO.q (Q.move rfl) rfl ?_
    refine WO.splitD (d := 22) rfl (fun hc22 => ?_) (fun hc22 => ?_)
    · skip -- nt
      refine WO.gF rfl rfl (.inl rfl) rfl ?_
      refine WO.gF rfl rfl (.inl rfl) rfl ?_
      refine WO.gF rfl rfl (.inl rfl) rfl ?_
      refine WO.q (Q.pickT rfl rfl) rfl ?_
      refine WO.q (Q.move rfl) rfl ?_
      refine WO.gF rfl rfl (.inl rfl) rfl ?_
      refine WO.gF rfl rfl (.inl rfl) rfl ?_
      refine WO.gF rfl rfl (.inl rfl) rfl ?_
      refine WO.q (Q.pickT rfl rfl) rfl ?_
      refine WO.nil ?_
      refine End.K ?_
      refine W.sub (SubS.cons (k := 31) rfl (SubS.cons (k := 5) rfl (SubS.cons (k := 0) rfl (SubS.cons (k := 1) rfl (SubS.nil _))))) ?_
      refine W.condT rfl ?_
      refine W.seq ?_
      refine W.reg ?_
      refine WO.callV rfl oLs_nil rfl lives_spec SubR.nil rfl ?_
      refine WO.q (Q.assign rfl) rfl ?_
      refine WO.nil ?_
      refine End.K ?_
      refine W.ret ?_
      refine End.K_ret (End.retV (ResL.tmp rfl ResL.nil) ?_)
      rfl
    · exact absurd he hc22
  · skip -- s
    obtain ⟨h1024, ha0, hok⟩ := scan_ok hsc
    have hll := scan_len hsc
    refine WO.call0 rfl (oLs_cons rfl oLs_nil) rfl (scan_spec _ hs (by first | omega | (simp only [List.length_drop, List.length_take, List.length_append, List.length_cons, List.length_nil] at *; omega))) SubR.nil rfl (fun v16 D16 hP16 => ?_)
    unfold scanP at hP16
    rw [hsc] at hP16
    obtain ⟨b, ex, rfl, rfl⟩ := hP16
    refine WO.q (Q.move rfl) rfl ?_
    refine WO.q (Q.extract rfl rfl) rfl ?_
    refine WO.q (Q.extract rfl rfl) rfl ?_
    refine WO.q (Q.extract rfl rfl) rfl ?_
    refine WO.q (Q.assign rfl) rfl ?_
    refine WO.q (Q.assign rfl) rfl ?_
    refine WO.q (Q.assign rfl) rfl ?_
    refine WO.nil ?_
    refine End.K ?_
    refine W.sub (SubS.cons (k := 7) rfl (SubS.cons (k := 5) rfl (SubS.cons (k := 0) rfl (SubS.cons (k := 1) rfl (SubS.nil _))))) ?_
    refine W.seq ?_
    refine W.seq ?_
    refine W.reg ?_
    refine WO.q (Q.move rfl) rfl ?_
    refine WO.q (Q.bin rfl (oc (v := .int .i64 ((0 : Nat) : Int)) rfl) rfl (bv_neq (p := false) rfl)) rfl ?_
    refine WO.q (Q.move rfl) rfl ?_
    refine WO.gT rfl rfl ?_
    refine WO.q (Q.move rfl) rfl ?_
    refine WO.gT rfl rfl ?_
    rcases hme : scanM more with _ | ⟨_ | ⟨tm, rm⟩⟩
    · skip -- sn
      refine WO.callV rfl (oLs_cons rfl oLs_nil) rfl (empty_none more hm (by first | omega | (simp only [List.length_drop, List.length_take, List.length_append, List.length_cons, List.length_nil] at *; omega)) hme) SubR.nil rfl ?_
      refine WO.gT rfl rfl ?_
      refine WO.q (Q.not rfl rfl) rfl ?_
      refine WO.q (Q.pickF rfl rfl) rfl ?_
      refine WO.q (Q.move rfl) rfl ?_
      refine WO.gF rfl rfl (.inl rfl) rfl ?_
      refine WO.gF rfl rfl (.inl rfl) rfl ?_
      refine WO.gF rfl rfl (.inl rfl) rfl ?_
      refine WO.q (Q.pickT rfl rfl) rfl ?_
      refine WO.nil ?_
      refine End.K ?_
      refine W.sub (SubS.cons (k := 31) rfl (SubS.cons (k := 5) rfl (SubS.cons (k := 0) rfl (SubS.cons (k := 1) rfl (SubS.nil _))))) ?_
      refine W.condT rfl ?_
      refine W.seq ?_
      refine W.reg ?_
      refine WO.callV rfl oLs_nil rfl lives_spec SubR.nil rfl ?_
      refine WO.q (Q.assign rfl) rfl ?_
      refine WO.nil ?_
      refine End.K ?_
      refine W.ret ?_
      refine End.K_ret (End.retV (ResL.tmp rfl ResL.nil) ?_)
      rfl
    · skip -- se
      refine WO.callV rfl (oLs_cons rfl oLs_nil) rfl (empty_spec more hm (by first | omega | (simp only [List.length_drop, List.length_take, List.length_append, List.length_cons, List.length_nil] at *; omega)) hme) SubR.nil rfl ?_
      refine WO.gT rfl rfl ?_
      refine WO.q (Q.not rfl rfl) rfl ?_
      refine WO.q (Q.pickF rfl rfl) rfl ?_
      refine WO.q (Q.move rfl) rfl ?_
      refine WO.gT rfl rfl ?_
      refine WO.q (Q.move rfl) rfl ?_
      refine WO.gT rfl rfl ?_
      refine WO.q (Q.len ud9 rfl rfl) rfl ?_
      refine WO.gT rfl rfl ?_
      refine WO.q (Q.bin rfl (oc (v := .int .i64 ((8 : Nat) : Int)) rfl) rfl (bv_gtr lt_nat)) rfl ?_
      refine WO.q (Q.pickF rfl rfl) rfl ?_
      refine WO.nil ?_
      refine End.K ?_
      refine W.sub (SubS.cons (k := 31) rfl (SubS.cons (k := 5) rfl (SubS.cons (k := 0) rfl (SubS.cons (k := 1) rfl (SubS.nil _))))) ?_
      refine W.condDS rfl (fun hc31 => ?_) (fun hc31 => ?_)
      · skip -- seT
        refine W.seq ?_
        refine W.reg ?_
        refine WO.callV rfl oLs_nil rfl lives_spec SubR.nil rfl ?_
        refine WO.q (Q.assign rfl) rfl ?_
        refine WO.nil ?_
        refine End.K ?_
        refine W.ret ?_
        refine End.K_ret (End.retV (ResL.tmp rfl ResL.nil) ?_)
        rfl
      · skip -- seF
        refine W.skip ?_
        refine End.K ?_
        refine W.seq ?_
        refine W.reg ?_
        refine WO.q (Q.assign (oc (v := .str []) (by kernel_rfl))) rfl ?_
        refine WO.nil ?_
        refine End.K ?_
        refine W.seq ?_
        refine W.seq ?_
        refine W.reg ?_
        refine WO.q (Q.assign (oc (v := .int .i64 ((0 : Nat) : Int)) rfl)) rfl ?_
        refine WO.nil ?_
        refine End.K ?_
        refine W.block ?_
        refine W.loop_ind (fun (i : Nat) => [(0, .str s), (1, .str more), (5, .slice b 0 (l.length + 1) 4), (8, .str (pcs s more (l ++ [endT s]) i)), (9, .int .i64 ((i : Nat) : Int))]) (fun _ => _) (fun (i : Nat) => i ≤ l.length) (fun (i : Nat) => l.length - i) (0) (Nat.zero_le _) (SubS.cons rfl (SubS.cons rfl (SubS.cons rfl (SubS.cons rfl (SubS.cons rfl (SubS.nil _)))))) (SubH.refl _) (fun i hI0 ih0 => ?_)
        have hil : i ≤ l.length := hI0
        have hm8 : more.length ≤ 8 := by omega
        have hpl := pcs_len hsc hm8 i hil
        refine W.seq ?_
        refine W.seq ?_
        refine W.reg ?_
        refine WO.q (Q.move rfl) rfl ?_
        refine WO.q (Q.bin rfl (oc (v := .int .i64 ((1 : Nat) : Int)) rfl) rfl (bv_add (wn_add (by first | omega | (simp only [List.length_drop, List.length_take, List.length_append, List.length_cons, List.length_nil] at *; omega))))) rfl ?_
        refine WO.q (Q.move rfl) rfl ?_
        refine WO.q (Q.len ud22 rfl rfl) rfl ?_
        refine WO.q (Q.bin rfl rfl rfl (bv_lss lt_nat)) rfl ?_
        refine WO.nil ?_
        refine End.K ?_
        refine W.condDS rfl (fun hc37 => ?_) (fun hc37 => ?_)
        · skip -- seFL0T
          have hil2 : i < l.length := by omega
          obtain ⟨k1, k2, k3, k4⟩ := hok i hil2
          refine W.skip ?_
          refine End.K ?_
          refine W.seq ?_
          refine W.block ?_
          refine W.seq ?_
          refine W.reg ?_
          refine WO.q (Q.move rfl) rfl ?_
          refine WO.q (Q.move rfl) rfl ?_
          refine WO.q (Q.bin rfl (oc (v := .int .i64 ((1 : Nat) : Int)) rfl) rfl (bv_add (wn_add (by first | omega | (simp only [List.length_drop, List.length_take, List.length_append, List.length_cons, List.length_nil] at *; omega))))) rfl ?_
          refine WO.q (Q.iaddrS ud22 sz28 rfl rfl (by first | omega | (simp only [List.length_drop, List.length_take, List.length_append, List.length_cons, List.length_nil] at *; omega))) rfl ?_
          refine WO.q (Q.fieldAddr fa28_3 rfl rfl) rfl ?_
          refine WO.q (Q.load1 rfl (mem_at (i := 0) rfl) ag3 (tokc3 (by first | omega | (simp only [List.length_drop, List.length_take, List.length_append, List.length_cons, List.length_nil] at *; omega)))) rfl ?_
          refine WO.q (Q.assign rfl) rfl ?_
          refine WO.nil ?_
          refine End.K ?_
          refine W.sub (SubS.cons (k := 10) rfl (SubS.cons (k := 0) rfl (SubS.cons (k := 1) rfl (SubS.cons (k := 5) rfl (SubS.cons (k := 8) rfl (SubS.cons (k := 9) rfl (SubS.nil _))))))) ?_
          refine W.reg ?_
          refine WO.q (Q.move rfl) rfl ?_
          refine WO.q (Q.move rfl) rfl ?_
          refine WO.q (Q.move rfl) rfl ?_
          refine WO.q (Q.move rfl) rfl ?_
          refine WO.q (Q.iaddrS ud22 sz28 rfl rfl (by first | omega | (simp only [List.length_drop, List.length_take, List.length_append, List.length_cons, List.length_nil] at *; omega))) rfl ?_
          refine WO.q (Q.fieldAddr fa28_3 rfl rfl) rfl ?_
          refine WO.q (Q.load1 rfl (mem_at (i := 0) rfl) ag3 (tokc3 (by first | omega | (simp only [List.length_drop, List.length_take, List.length_append, List.length_cons, List.length_nil] at *; omega)))) rfl ?_
          refine WO.q (Q.move rfl) rfl ?_
          refine WO.q (Q.sliceS ud9 rfl rfl (by first | omega | (simp only [List.length_drop, List.length_take, List.length_append, List.length_cons, List.length_nil] at *; omega)) rfl) rfl ?_
          refine WO.q (Q.bin rfl rfl rfl (bv_sadd (by first | omega | (simp only [List.length_drop, List.length_take, List.length_append, List.length_cons, List.length_nil] at *; omega)))) rfl ?_
          refine WO.q (Q.move rfl) rfl ?_
          refine WO.q (Q.bin rfl rfl rfl (bv_sadd (by first | omega | (simp only [List.length_drop, List.length_take, List.length_append, List.length_cons, List.length_nil] at *; omega)))) rfl ?_
          refine WO.q (Q.bin rfl (oc (v := .str [10]) (by kernel_rfl)) rfl (bv_sadd (by first | omega | (simp only [List.length_drop, List.length_take, List.length_append, List.length_cons, List.length_nil] at *; omega)))) rfl ?_
          refine WO.q (Q.assign rfl) rfl ?_
          refine WO.nil ?_
          refine End.KB (End.K ?_)
          refine W.sub (SubS.cons (k := 8) rfl (SubS.cons (k := 0) rfl (SubS.cons (k := 1) rfl (SubS.cons (k := 5) rfl (SubS.cons (k := 9) rfl (SubS.nil _)))))) ?_
          refine W.reg ?_
          refine WO.q (Q.move rfl) rfl ?_
          refine WO.q (Q.bin rfl (oc (v := .int .i64 ((1 : Nat) : Int)) rfl) rfl (bv_add (wn_add (by first | omega | (simp only [List.length_drop, List.length_take, List.length_append, List.length_cons, List.length_nil] at *; omega))))) rfl ?_
          refine WO.q (Q.assign rfl) rfl ?_
          refine WO.nil ?_
          refine End.KL ?_
          refine W.sub (SubS.cons rfl (SubS.cons rfl (SubS.cons rfl (SubS.cons rfl (SubS.cons rfl (SubS.nil _)))))) (ih0 (i + 1) ?_ ?_)
          · exact (by first | omega | (simp only [List.length_drop, List.length_take, List.length_append, List.length_cons, List.length_nil] at *; omega))
          · exact (by first | omega | (simp only [List.length_drop, List.length_take, List.length_append, List.length_cons, List.length_nil] at *; omega))
        · skip -- seFL0F
          have hie : i = l.length := by omega
          subst hie
          refine W.exit ?_
          refine End.K_exit (End.KL_exit (End.KB_hit (End.K ?_)))
          refine W.sub (SubS.cons (k := 5) rfl (SubS.cons (k := 8) rfl (SubS.nil _))) ?_
          refine W.seq ?_
          refine W.seq ?_
          refine W.reg ?_
          refine WO.q (Q.move rfl) rfl ?_
          refine WO.q (Q.len ud9 rfl rfl) rfl ?_
          refine WO.q (Q.bin rfl (oc (v := .int .i64 ((1024 : Nat) : Int)) rfl) rfl (bv_gtr lt_nat)) rfl ?_
          refine WO.nil ?_
          refine End.K ?_
          refine W.condDS rfl (fun hc61 => ?_) (fun hc61 => ?_)
          · skip -- seFL0FT
            refine W.seq ?_
            refine W.reg ?_
            refine WO.callV rfl oLs_nil rfl lives_spec SubR.nil rfl ?_
            refine WO.q (Q.assign rfl) rfl ?_
            refine WO.nil ?_
            refine End.K ?_
            refine W.sub (SubS.cons (k := 4) rfl (SubS.nil _)) ?_
            refine W.ret ?_
            refine End.K_ret (End.retV (ResL.tmp rfl ResL.nil) ?_)
            rfl
          · skip -- seFL0FF
            obtain ⟨r, hout, hkey⟩ := scan_pcs hsc hme (by omega)
            refine W.skip ?_
            refine End.K ?_
            refine W.seq ?_
            refine W.reg ?_
            refine WO.q (Q.move rfl) rfl ?_
            refine WO.call0 rfl (oLs_cons rfl oLs_nil) rfl (scan_spec _ (pcs_bytes (l ++ [endT s]) hs hm _) (by first | omega | (simp only [List.length_drop, List.length_take, List.length_append, List.length_cons, List.length_nil] at *; omega))) SubR.nil rfl (fun v65 D65 hP65 => ?_)
            unfold scanP at hP65
            rw [hout] at hP65
            obtain ⟨b2, ex2, rfl, rfl⟩ := hP65
            refine WO.q (Q.move rfl) rfl ?_
            refine WO.q (Q.extract rfl rfl) rfl ?_
            refine WO.q (Q.extract rfl rfl) rfl ?_
            refine WO.q (Q.extract rfl rfl) rfl ?_
            refine WO.q (Q.assign rfl) rfl ?_
            refine WO.q (Q.assign rfl) rfl ?_
            refine WO.q (Q.assign rfl) rfl ?_
            refine WO.nil ?_
            refine End.K ?_
            refine W.sub (SubS.cons (k := 13) rfl (SubS.cons (k := 11) rfl (SubS.cons (k := 5) rfl (SubS.nil _)))) ?_
            refine W.seq ?_
            refine W.reg ?_
            refine WO.q (Q.move rfl) rfl ?_
            refine WO.q (Q.bin rfl (oc (v := .int .i64 ((0 : Nat) : Int)) rfl) rfl (bv_eql (p := true) rfl)) rfl ?_
            refine WO.q (Q.move rfl) rfl ?_
            refine WO.gT rfl rfl ?_
            refine WO.q (Q.move rfl) rfl ?_
            refine WO.gT rfl rfl ?_
            refine WO.q (Q.move rfl) rfl ?_
            refine WO.gT rfl rfl ?_
            refine WO.callV rfl (oLs_cons rfl (oLs_cons rfl (oLs_cons rfl oLs_nil))) rfl (same_spec (l ++ [endT s]) (r ++ [endT (pcs s more (l ++ [endT s]) l.length)]) hkey _ _ (by simp) (by simp) (by first | omega | (simp only [List.length_drop, List.length_take, List.length_append, List.length_cons, List.length_nil] at *; omega)) _ _ _ _) (SubR.ro (a := [⟨_, _, _⟩, ⟨_, _, _⟩]) (SubH.refl _)) rfl ?_
            refine WO.q (Q.pickT rfl rfl) rfl ?_
            refine WO.q (Q.move rfl) rfl ?_
            refine WO.gT rfl rfl ?_
            refine WO.callV rfl oLs_nil rfl lives_spec SubR.nil rfl ?_
            refine WO.q (Q.pickT rfl rfl) rfl ?_
            refine WO.q (Q.assign rfl) rfl ?_
            refine WO.nil ?_
            refine End.K ?_
            refine W.sub (SubS.cons (k := 4) rfl (SubS.nil _)) ?_
            refine W.ret ?_
            refine End.retV (ResL.tmp rfl ResL.nil) ?_
            rfl
    · skip -- sc
      refine WO.callV rfl (oLs_cons rfl oLs_nil) rfl (empty_more more hm (by first | omega | (simp only [List.length_drop, List.length_take, List.length_append, List.length_cons, List.length_nil] at *; omega)) _ _ hme) SubR.nil rfl ?_
      refine WO.gT rfl rfl ?_
      refine WO.q (Q.not rfl rfl) rfl ?_
      refine WO.q (Q.pickF rfl rfl) rfl ?_
      refine WO.q (Q.move rfl) rfl ?_
      refine WO.gF rfl rfl (.inl rfl) rfl ?_
      refine WO.gF rfl rfl (.inl rfl) rfl ?_
      refine WO.gF rfl rfl (.inl rfl) rfl ?_
      refine WO.q (Q.pickT rfl rfl) rfl ?_
      refine WO.nil ?_
      refine End.K ?_
      refine W.sub (SubS.cons (k := 31) rfl (SubS.cons (k := 5) rfl (SubS.cons (k := 0) rfl (SubS.cons (k := 1) rfl (SubS.nil _))))) ?_
      refine W.condT rfl ?_
      refine W.seq ?_
      refine W.reg ?_
      refine WO.callV rfl oLs_nil rfl lives_spec SubR.nil rfl ?_
      refine WO.q (Q.assign rfl) rfl ?_
      refine WO.nil ?_
      refine End.K ?_
      refine W.ret ?_
      refine End.K_ret (End.retV (ResL.tmp rfl ResL.nil) ?_)
      rfl
end Go.Proofs.YtdpcpnhkkedfcaaDoor.Ev

/- Layer 15: LexSpaced, of any two texts. -/
namespace Go.Proofs.YtdpcpnhkkedfcaaDoor
open Go.RowKit
theorem Ev.natsS (s : ByteArray) : Ev.Bytes (s.data.toList.map UInt8.toNat) := by
  intro c hc
  obtain ⟨b, _, rfl⟩ := List.mem_map.1 hc
  exact b.toNat_lt
theorem Ev.natsS_len (s : ByteArray) : (s.data.toList.map UInt8.toNat).length = s.size := by rw [List.length_map]; exact size_len s
theorem spaced_walk (s : ByteArray) (hs : s.size ≤ 281474976710656) (m : ByteArray) (hm : m.size ≤ 281474976710656) (w : World) (hT : Tab w) :
    Calls Tryd.prog 4 #[.string s, .string m] w fun r w' => r = .returned (.bool true) ∧ Below w.heap.size w w' :=
  Ev.spec_call (Ev.spaced_spec _ _ (Ev.natsS s) (by rw [Ev.natsS_len]; exact hs) (Ev.natsS m) (by rw [Ev.natsS_len]; exact hm)) (u := .bool true) rfl (.cons (.str s _ rfl) (.cons (.str m _ rfl) (.nil _))) w hT
end Go.Proofs.YtdpcpnhkkedfcaaDoor
