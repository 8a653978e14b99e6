/- Layer 15, plain: where tokens stand. -/
import Derived.Test.YtdpcpnhkkedfcaaDoorW9
namespace Go.Proofs.YtdpcpnhkkedfcaaDoor.Ev
open Go.RowKit
set_option linter.unusedVariables false
set_option linter.unusedSimpArgs false
set_option maxRecDepth 100000
def tg (L : List Tok) (i : Nat) : Tok := L.getD i ⟨0, [], 0, 0, 0⟩
theorem tokC_len (t : Tok) : (tokC t).length = 4 := rfl
theorem tokCs_cons (t : Tok) (L : List Tok) : tokCs (t :: L) = tokC t ++ tokCs L := by simp [tokCs]
theorem tokCs_len : ∀ L : List Tok, (tokCs L).length = L.length * 4
  | [] => rfl
  | t :: L => by rw [tokCs_cons, List.length_append, tokC_len, tokCs_len L, List.length_cons]; omega
theorem tokCs_get : ∀ (L : List Tok) (i j : Nat), i < L.length → j < 4 → (tokCs L)[i * 4 + j]? = (tokC (tg L i))[j]?
  | [], i, j, h, _ => by simp at h
  | t :: L, 0, j, h, hj => by
    rw [tokCs_cons, List.getElem?_append_left (by rw [tokC_len]; omega)]
    simp [tg]
  | t :: L, i + 1, j, h, hj => by
    rw [tokCs_cons, List.getElem?_append_right (by rw [tokC_len]; omega), tokC_len]
    have : (i + 1) * 4 + j - 4 = i * 4 + j := by omega
    rw [this, tokCs_get L i j (by simpa using h) hj]
    rfl
theorem tokc0 {L : List Tok} {i : Nat} (h : i < L.length) : (tokCs L)[(0 + i) * 4 + 0]? = some (.int .i64 (tg L i).k) := by
  rw [Nat.zero_add, tokCs_get L i 0 h (by omega)]; rfl
theorem tokc1 {L : List Tok} {i : Nat} (h : i < L.length) : (tokCs L)[(0 + i) * 4 + 1]? = some (.str (tg L i).t) := by
  rw [Nat.zero_add, tokCs_get L i 1 h (by omega)]; rfl
theorem tokc2 {L : List Tok} {i : Nat} (h : i < L.length) : (tokCs L)[(0 + i) * 4 + 2]? = some (.int .i64 (tg L i).n) := by
  rw [Nat.zero_add, tokCs_get L i 2 h (by omega)]; rfl
theorem tokc3 {L : List Tok} {i : Nat} (h : i < L.length) : (tokCs L)[(0 + i) * 4 + 3]? = some (.int .i64 (((tg L i).a : Nat) : Int)) := by
  rw [Nat.zero_add, tokCs_get L i 3 h (by omega)]; rfl
theorem toksub {L : List Tok} {i : Nat} (h : i < L.length) : sub? (tokCs L) ((0 + i) * 4) 4 = some (tokC (tg L i)) := by
  unfold sub?
  have hle : Nat.ble ((0 + i) * 4 + 4) (tokCs L).length = true := by rw [tokCs_len]; apply Nat.ble_eq.mpr; omega
  simp only [hle]
  congr 1
  apply List.ext_getElem?
  intro j
  rw [List.getElem?_take, List.getElem?_drop]
  split
  · rename_i hj
    rw [Nat.zero_add, tokCs_get L i j h hj]
  · rw [List.getElem?_eq_none (by rw [tokC_len]; omega)]
/-- A token is well where it is, before a place. -/
def TokOk (s : List Nat) (t : Tok) (nx : Nat) : Prop :=
  t.a + t.w ≤ nx ∧ nx ≤ s.length ∧ (t.k = ((4 : Nat) : Int) → 2 ≤ t.w) ∧ (t.k ≠ ((4 : Nat) : Int) → t.w = t.t.length ∧ t.t = (s.drop t.a).take t.w)
theorem tok_ok {s : List Nat} {a : Nat} {tk : Tok} (ha : a < s.length) (h : tokM s a = some tk) {nx : Nat} (h1 : a + tk.w ≤ nx) (h2 : nx ≤ s.length) : tk.a = a ∧ TokOk s tk nx := by
  have hlen : ∀ m, m ≤ s.length - a → ((s.drop a).take m).length = m := fun m hm => by rw [List.length_take, List.length_drop]; omega
  have hw := tok_w ha h
  unfold tokM at h
  have nm : ∀ (k n : Int), k ≠ ((4 : Nat) : Int) → some (⟨k, nmT s a, n, a, (nmT s a).length⟩ : Tok) = some tk → tk.a = a ∧ TokOk s tk nx := by
    intro k n hk h
    cases h
    exact ⟨rfl, h1, h2, fun h => absurd h hk, fun _ => ⟨rfl, by show nmT s a = (s.drop a).take (nmT s a).length; rw [nmT_len]; rfl⟩⟩
  have q4 : ∀ v, qu (s.drop a) ≠ 0 → s.getD a 0 = 34 → some (⟨((4 : Nat) : Int), v, 0, a, qu (s.drop a)⟩ : Tok) = some tk → tk.a = a ∧ TokOk s tk nx := by
    intro v h0 h34 h
    cases h
    refine ⟨rfl, h1, h2, fun _ => ?_, fun h => absurd rfl h⟩
    show 2 ≤ qu (s.drop a)
    have e : s.drop a = 34 :: s.drop (a + 1) := by rw [drop_head ha, h34]
    have eq : qu (s.drop a) = quL (s.drop (a + 1)) 1 := by unfold qu; rw [e]; rfl
    rw [eq] at h0 ⊢
    have := quL_gt _ _ rfl h0
    omega
  split at h
  · split at h
    · split at h
      · exact nm _ _ (by decide) h
      · cases h
    · split at h
      · exact nm _ _ (by decide) h
      · cases h
  · split at h
    · rename_i h34
      split at h
      · cases h
      · rename_i h0
        split at h
        · exact q4 _ h0 h34 h
        · split at h
          · cases h
          · exact q4 _ h0 h34 h
    · split at h
      · cases h
        refine ⟨rfl, h1, h2, fun h => absurd h (by show ¬ (((1 : Nat) : Int) = ((4 : Nat) : Int)); decide), fun _ => ⟨?_, rfl⟩⟩
        show pre namc (s.drop a) = ((s.drop a).take (pre namc (s.drop a))).length
        have := hw.2
        rw [hlen _ (by have h3 : a + pre namc (s.drop a) ≤ s.length := this; omega)]
      · split at h
        · cases h
        · cases h
          refine ⟨rfl, h1, h2, fun h => absurd h (by show ¬ (((5 : Nat) : Int) = ((4 : Nat) : Int)); decide), fun _ => ⟨?_, rfl⟩⟩
          show mkN (s.drop a) = ((s.drop a).take (mkN (s.drop a))).length
          have := hw.2
          rw [hlen _ (by have h3 : a + mkN (s.drop a) ≤ s.length := this; omega)]
theorem tg_append_left {L M : List Tok} {i : Nat} (h : i < L.length) : tg (L ++ M) i = tg L i := by
  unfold tg
  simp [List.getD, List.getElem?_append_left h]
theorem tg_append_right {L M : List Tok} {i : Nat} (h : L.length ≤ i) : tg (L ++ M) i = tg M (i - L.length) := by
  unfold tg
  simp [List.getD, List.getElem?_append_right h]
/-- From a place on, all tokens are well. -/
theorem scF_ok {s : List Nat} : ∀ (k a : Nat) (acc l : List Tok), a ≤ s.length → scF k s a acc = some l →
    ∃ r, l = acc ++ r ∧ (tg (r ++ [endT s]) 0).a = a ∧ ∀ i, i < r.length → TokOk s (tg (r ++ [endT s]) i) (tg (r ++ [endT s]) (i + 1)).a
  | 0, a, acc, l, _, h => by simp [scF] at h
  | k + 1, a, acc, l, hle, h => by
    unfold scF at h
    split at h
    · rename_i ha
      split at h
      · cases h
      · rename_i tk htk
        have hw := tok_w ha htk
        have hge := bl_ge s (a + tk.w)
        have hbl := bl_le (s := s) (i := a + tk.w) hw.2
        obtain ⟨r, e1, e2, e3⟩ := scF_ok k (bl s (a + tk.w)) (acc ++ [tk]) l hbl h
        obtain ⟨g1, g2⟩ := tok_ok ha htk hge hbl
        refine ⟨tk :: r, by rw [e1]; simp, g1, fun i hi => ?_⟩
        cases i with
        | zero =>
          show TokOk s tk (tg (r ++ [endT s]) 0).a
          rw [e2]
          exact g2
        | succ i => exact e3 i (by simpa using hi)
    · rename_i ha
      simp only [Option.some.injEq] at h
      exact ⟨[], by simp [h], by show s.length = a; omega, fun i hi => by simp at hi⟩
theorem scan_ok {s : List Nat} {l : List Tok} (h : scanM s = some l) : s.length ≤ 1024 ∧ (tg (l ++ [endT s]) 0).a = bl s 0 ∧ ∀ i, i < l.length → TokOk s (tg (l ++ [endT s]) i) (tg (l ++ [endT s]) (i + 1)).a := by
  unfold scanM at h
  split at h
  · cases h
  · rename_i hl
    obtain ⟨r, e1, e2, e3⟩ := scF_ok _ _ _ _ (bl_le (Nat.zero_le _)) h
    simp only [List.nil_append] at e1
    subst e1
    exact ⟨by omega, e2, e3⟩
/-- What stands ahead of the place where blanks end are blanks. -/
theorem pre_take {p : Nat → Bool} : ∀ (l : List Nat) (m : Nat), pre p (l.take m) = min m (pre p l)
  | [], m => by simp [pre]
  | c :: l, 0 => by simp [pre]
  | c :: l, m + 1 => by
    simp only [List.take_succ_cons, pre]
    split
    · rw [pre_take l m]; omega
    · omega
theorem blF_take : ∀ (k : Nat) (s : List Nat) (i p k' : Nat), blF k s i = p → i ≤ s.length → s.length - i ≤ k → p - i ≤ k' → blF k' (s.take p) i = p
  | 0, s, i, p, k', h, hi, hk, hk' => by
    have : i = p := h
    subst this
    exact blF_end (by rw [List.length_take]; omega)
  | k + 1, s, i, p, k', h, hi, hk, hk' => by
    have hbd := (blF_bd (k + 1) s i)
    rw [h] at hbd
    have hps : p ≤ s.length := hbd.2 hi
    by_cases hp : i < p
    · have hget : (s.take p).getD i 0 = s.getD i 0 := by simp [List.getD, List.getElem?_take, hp]
      have hlt : i < (s.take p).length := by rw [List.length_take]; omega
      obtain ⟨q, rfl⟩ : ∃ q, k' = q + 1 := ⟨k' - 1, by omega⟩
      have his : i < s.length := by omega
      by_cases h35 : s.getD i 0 = 35
      · rw [blF_rem his h35] at h
        have hpos := nlc_pos his h35
        have hpl := pre_bd nlc his
        have hge := (blF_bd k s (i + pre nlc (s.drop i))).1
        rw [h] at hge
        rw [blF_rem hlt (by rw [hget]; exact h35)]
        have hpre : pre nlc ((s.take p).drop i) = pre nlc (s.drop i) := by
          rw [List.drop_take, pre_take]; omega
        rw [hpre]
        exact blF_take k s _ p q h hpl (by omega) (by omega)
      · by_cases h32 : s.getD i 0 = 32 ∨ s.getD i 0 = 9 ∨ s.getD i 0 = 10
        · rw [blF_bl his h32] at h
          rw [blF_bl hlt (by rw [hget]; exact h32)]
          exact blF_take k s _ p q h (by omega) (by omega) (by omega)
        · rw [blF_stop his h35 h32] at h
          omega
    · have : i = p := by omega
      subst this
      exact blF_end (by rw [List.length_take]; omega)
theorem scan_front {s : List Nat} {l : List Tok} (h : scanM s = some l) : scanM (s.take (bl s 0)) = some [] := by
  have hl := (scan_ok h).1
  have hb := bl_le (s := s) (i := 0) (Nat.zero_le _)
  have hlen : (s.take (bl s 0)).length = bl s 0 := by rw [List.length_take]; omega
  rw [scanM_eq (by rw [hlen]; omega)]
  have e : bl (s.take (bl s 0)) 0 = bl s 0 := by
    show blF _ _ _ = _
    exact blF_take s.length s 0 (bl s 0) _ rfl (Nat.zero_le _) (by omega) (by rw [hlen]; omega)
  rw [e]
  exact scF_end (by rw [hlen]; omega)
theorem scF_len {s : List Nat} : ∀ (k a : Nat) (acc l : List Tok), a ≤ s.length → scF k s a acc = some l → l.length ≤ acc.length + (s.length - a)
  | 0, a, acc, l, _, h => by simp [scF] at h
  | k + 1, a, acc, l, hle, h => by
    unfold scF at h
    split at h
    · rename_i ha
      split at h
      · cases h
      · rename_i tk htk
        have hw := tok_w ha htk
        have hge := bl_ge s (a + tk.w)
        have hbl := bl_le (s := s) (i := a + tk.w) hw.2
        have := scF_len k _ _ l hbl h
        simp only [List.length_append, List.length_cons, List.length_nil] at this
        omega
    · simp only [Option.some.injEq] at h
      subst h
      omega
theorem scan_len {s : List Nat} {l : List Tok} (h : scanM s = some l) : l.length ≤ 1024 := by
  have h1 := (scan_ok h).1
  rw [scanM_eq (by omega)] at h
  have := scF_len _ _ _ _ (bl_le (Nat.zero_le _)) h
  simp only [List.length_nil] at this
  omega
theorem scF_bytes {s : List Nat} (hs : Bytes s) : ∀ (k a : Nat) (acc l : List Tok), (∀ t ∈ acc, Bytes t.t) → scF k s a acc = some l → ∀ t ∈ l, Bytes t.t
  | 0, a, acc, l, _, h => by simp [scF] at h
  | k + 1, a, acc, l, hacc, h => by
    unfold scF at h
    split at h
    · split at h
      · cases h
      · rename_i tk htk
        refine scF_bytes hs k _ _ l (fun t ht => ?_) h
        rcases List.mem_append.1 ht with ht | ht
        · exact hacc t ht
        · simp only [List.mem_singleton] at ht
          subst ht
          exact tok_bytes hs htk
    · simp only [Option.some.injEq] at h
      subst h
      exact hacc
theorem scan_bytes {s : List Nat} {l : List Tok} (h : scanM s = some l) (hs : Bytes s) : ∀ t ∈ l, Bytes t.t := by
  have h1 := (scan_ok h).1
  rw [scanM_eq (by omega)] at h
  exact scF_bytes hs _ _ _ _ (fun t ht => by simp at ht) h
theorem tg_bytes {s : List Nat} {l : List Tok} (h : scanM s = some l) (hs : Bytes s) (i : Nat) : Bytes (tg (l ++ [endT s]) i).t := by
  unfold tg
  rw [List.getD_eq_getElem?_getD]
  cases hi : (l ++ [endT s])[i]? with
  | none => intro c hc; simp at hc
  | some t =>
    have hm := List.mem_of_getElem? hi
    rcases List.mem_append.1 hm with hm | hm
    · exact scan_bytes h hs t hm
    · simp only [List.mem_singleton] at hm
      subst hm
      intro c hc; simp [endT] at hc
theorem tok_tlen {s : List Nat} {a : Nat} {tk : Tok} (hl : s.length ≤ 1024) (h : tokM s a = some tk) : tk.t.length ≤ 1024 := by
  have ht : ∀ m, ((s.drop a).take m).length ≤ 1024 := fun m => by rw [List.length_take, List.length_drop]; omega
  unfold tokM at h
  split at h
  · split at h
    · split at h
      · cases h; exact ht _
      · cases h
    · split at h
      · cases h; exact ht _
      · cases h
  · split at h
    · split at h
      · cases h
      · split at h
        · cases h; exact Nat.zero_le _
        · split at h
          · cases h
          · rename_i v hv
            cases h
            unfold txM at hv
            split at hv
            · cases hv
            · split at hv
              · rename_i hc
                cases hv
                have h1 := hc.1
                unfold chk1 at h1
                split at h1
                · cases h1
                · split at h1
                  · cases h1
                  · split at h1
                    · cases h1
                    · rename_i hlv
                      exact Nat.le_trans (Nat.le_of_not_lt hlv) (by decide)
              · cases hv
    · split at h
      · cases h; exact ht _
      · split at h
        · cases h
        · cases h; exact ht _
theorem scF_tlen {s : List Nat} (hl : s.length ≤ 1024) : ∀ (k a : Nat) (acc l : List Tok), (∀ t ∈ acc, t.t.length ≤ 1024) → scF k s a acc = some l → ∀ t ∈ l, t.t.length ≤ 1024
  | 0, a, acc, l, _, h => by simp [scF] at h
  | k + 1, a, acc, l, hacc, h => by
    unfold scF at h
    split at h
    · split at h
      · cases h
      · rename_i tk htk
        refine scF_tlen hl k _ _ l (fun t ht => ?_) h
        rcases List.mem_append.1 ht with ht | ht
        · exact hacc t ht
        · simp only [List.mem_singleton] at ht
          subst ht
          exact tok_tlen hl htk
    · simp only [Option.some.injEq] at h
      subst h
      exact hacc
theorem tg_len {s : List Nat} {l : List Tok} (h : scanM s = some l) (i : Nat) : (tg (l ++ [endT s]) i).t.length ≤ 1024 := by
  have h1 := (scan_ok h).1
  rw [scanM_eq (by omega)] at h
  have hall := scF_tlen h1 _ _ _ _ (fun t ht => by simp at ht) h
  unfold tg
  rw [List.getD_eq_getElem?_getD]
  cases hi : (l ++ [endT s])[i]? with
  | none => simp
  | some t =>
    have hm := List.mem_of_getElem? hi
    rcases List.mem_append.1 hm with hm | hm
    · exact hall t hm
    · simp only [List.mem_singleton] at hm
      subst hm
      simp [endT]
theorem tok_last {s : List Nat} {l : List Tok} : sub? (tokCs (l ++ [endT s])) ((0 + (l.length + 1 - 1)) * 4) 4 = some (tokC (endT s)) := by
  have h := toksub (L := l ++ [endT s]) (i := l.length) (by simp)
  rw [tg_append_right (Nat.le_refl _), Nat.sub_self] at h
  exact h
end Go.Proofs.YtdpcpnhkkedfcaaDoor.Ev
