/- Layer 15: a token and the scanner's list, joined. -/
import Derived.Test.YtdpcpnhkkedfcaaDoorP9
namespace Go.Proofs.YtdpcpnhkkedfcaaDoor.Ev
open Go.RowKit
set_option linter.unusedVariables false
set_option linter.unusedSimpArgs false
set_option maxRecDepth 100000
theorem drop_head {s : List Nat} {a : Nat} (ha : a < s.length) : s.drop a = s.getD a 0 :: s.drop (a + 1) := by
  rw [List.drop_eq_getElem_cons ha]
  simp [ha]
theorem pre_pos {p : Nat → Bool} {s : List Nat} {a : Nat} (ha : a < s.length) (h : p (s.getD a 0) = true) : 0 < pre p (s.drop a) := by
  rw [pre_step ha, if_pos h]
  omega
theorem pre_bd (p : Nat → Bool) {s : List Nat} {a : Nat} (ha : a < s.length) : a + pre p (s.drop a) ≤ s.length := by
  have := Ev.pre_le p (s.drop a)
  rw [List.length_drop] at this
  omega
theorem nmT_len {s : List Nat} {a : Nat} : (nmT s a).length = pre numc (s.drop a) := by
  unfold nmT
  rw [List.length_take]
  have := Ev.pre_le numc (s.drop a)
  omega
theorem quT_left {s : List Nat} {a : Nat} (ha : a < s.length) (h34 : s.getD a 0 = 34) (h0 : qu (s.drop a) ≠ 0) : ∀ v left, valF (quT s a ++ [125]).length ((quT s a ++ [125]).drop 1) [] = some (v, left) → left = [125] := by
  intro v left h
  have e : s.drop a = 34 :: s.drop (a + 1) := by rw [drop_head ha, h34]
  have eq : qu (s.drop a) = quL (s.drop (a + 1)) 1 := by unfold qu; rw [e]; rfl
  obtain ⟨j, hj⟩ : ∃ j, quL (s.drop (a + 1)) 1 = j := ⟨_, rfl⟩
  have hj0 : j ≠ 0 := by rw [← hj, ← eq]; exact h0
  have hgt := quL_gt _ _ hj hj0
  have e2 : (quT s a ++ [125]).drop 1 = (s.drop (a + 1)).take (j - 1) ++ [125] := by
    unfold quT
    rw [eq, hj, e]
    obtain ⟨d, hd⟩ : ∃ d, j = d + 1 := ⟨j - 1, by omega⟩
    rw [hd]
    rfl
  rw [e2] at h
  exact (val_left _ _ 1 j _ _ v left (Nat.le_refl _) hj hj0 h).2
theorem quT_len {s : List Nat} {a : Nat} : (quT s a).length = qu (s.drop a) := by
  unfold quT
  rw [List.length_take]
  have := qu_le (s.drop a)
  omega
theorem quT_head {s : List Nat} {a : Nat} (ha : a < s.length) (h34 : s.getD a 0 = 34) (h0 : qu (s.drop a) ≠ 0) : (quT s a).getD 0 0 = 34 := by
  unfold quT
  rw [drop_head ha, h34] at h0 ⊢
  obtain ⟨d, hd⟩ : ∃ d, qu (34 :: s.drop (a + 1)) = d + 1 := ⟨qu (34 :: s.drop (a + 1)) - 1, by omega⟩
  rw [hd]
  rfl
theorem tok_w {s : List Nat} {a : Nat} {tk : Tok} (ha : a < s.length) (h : tokM s a = some tk) : 0 < tk.w ∧ a + tk.w ≤ s.length := by
  unfold tokM at h
  split at h
  · rename_i hd
    have h1 : 0 < (nmT s a).length := by rw [nmT_len]; exact pre_pos ha (by unfold numc; rw [hd]; rfl)
    have h2 : a + (nmT s a).length ≤ s.length := by rw [nmT_len]; exact pre_bd numc ha
    split at h
    · split at h
      · cases h; exact ⟨h1, h2⟩
      · cases h
    · split at h
      · cases h; exact ⟨h1, h2⟩
      · cases h
  · split at h
    · split at h
      · cases h
      · rename_i h0
        have hq := qu_le (s.drop a)
        rw [List.length_drop] at hq
        split at h
        · cases h; exact ⟨by show 0 < qu (s.drop a); omega, by show a + qu (s.drop a) ≤ _; omega⟩
        · split at h
          · cases h
          · cases h; exact ⟨by show 0 < qu (s.drop a); omega, by show a + qu (s.drop a) ≤ _; omega⟩
    · split at h
      · rename_i hL
        cases h
        exact ⟨pre_pos ha (by unfold namc; rw [hL]; rfl), pre_bd namc ha⟩
      · split at h
        · cases h
        · rename_i hm
          cases h
          have := mkN_le (s := s.drop a) (by simp; omega)
          rw [List.length_drop] at this
          exact ⟨by show 0 < mkN (s.drop a); omega, by show a + mkN (s.drop a) ≤ _; omega⟩
theorem txM_bytes {q v : List Nat} (hq : Bytes q) (h : txM q = some v) : Bytes v := by
  unfold txM at h
  split at h
  · cases h
  · rename_i v' left hval
    split at h
    · cases h
      exact (valF_bytes _ _ _ _ _ (Bytes.drop (Bytes.append hq (Bytes.one (by decide))) 1) (by intro c h; simp at h) hval).1
    · cases h
theorem tok_bytes {s : List Nat} {a : Nat} {tk : Tok} (hs : Bytes s) (h : tokM s a = some tk) : Bytes tk.t := by
  unfold tokM at h
  split at h
  · split at h
    · split at h
      · cases h; exact Bytes.take (Bytes.drop hs a) _
      · cases h
    · split at h
      · cases h; exact Bytes.take (Bytes.drop hs a) _
      · cases h
  · split at h
    · split at h
      · cases h
      · split at h
        · cases h; intro c hc; simp at hc
        · split at h
          · cases h
          · rename_i v hv
            cases h
            exact txM_bytes (Bytes.take (Bytes.drop hs a) _) hv
    · split at h
      · cases h; exact Bytes.take (Bytes.drop hs a) _
      · split at h
        · cases h
        · cases h; exact Bytes.take (Bytes.drop hs a) _
def XS (X : Nat) (s : List Nat) (a : Nat) (w : Bool) : HE := ⟨X, ⟨2, true, [.str s, .int .i64 ((a : Nat) : Int)]⟩, w⟩
theorem tok_some (s : List Nat) (hs : Bytes s) (hl : s.length ≤ 1024) (X a : Nat) (ha : a < s.length) {tk : Tok} (h : tokM s a = some tk) :
    Spec tab 16 [.ptr X 0] [X] [⟨X, ⟨2, true, [.str s, .int .i64 ((a : Nat) : Int)]⟩, true⟩] (fun r D => r = .tuple [.agg (tokC tk), .int .i64 ((0 : Nat) : Int)] ∧ D = [⟨X, ⟨2, true, [.str s, .int .i64 ((a + tk.w : Nat) : Int)]⟩, true⟩]) := by
  have hw := tok_w ha h
  unfold tokM at h
  split at h
  · rename_i hd
    have HN := numeral_spec s hs hl X a (by omega)
    unfold nmV at HN
    have hb : Bytes (nmT s a) := Bytes.take (Bytes.drop hs a) _
    split at h
    · rename_i h14
      rw [if_pos h14] at HN
      split at h
      · rename_i h0
        cases h
        rw [h0] at HN
        exact tok_num_ok s hs hl X a ha hd _ _ _ hb hw.2 HN
      · cases h
    · rename_i h14
      rw [if_neg h14] at HN
      split at h
      · rename_i h0
        cases h
        rw [h0] at HN
        exact tok_num_ok s hs hl X a ha hd _ _ _ hb hw.2 HN
      · cases h
  · rename_i hd
    have hd : isDig (s.getD a 0) = false := by simpa using hd
    split at h
    · rename_i h34
      split at h
      · cases h
      · rename_i h0
        have hqb : Bytes (quT s a) := Bytes.take (Bytes.drop hs a) _
        have hql : (quT s a).length ≤ 1024 := by
          rw [quT_len]
          have := qu_le (s.drop a)
          rw [List.length_drop] at this
          omega
        obtain ⟨hp1, hp2⟩ := parse_of (quT s a) hqb hql (quT_head ha h34 h0) (by rw [quT_len]; omega) (quT_left ha h34 h0)
        split at h
        · rename_i hem
          cases h
          have hno : txM (quT s a) = none := by rw [hem]; decide
          exact tok_txt_ok s hs hl X a ha hd h34 _ (by intro c hc; simp at hc) _ h0 hw.2 (text_em s hs hl X a (by omega) h0 hem (hp1 hno))
        · rename_i hem
          split at h
          · cases h
          · rename_i v hv
            cases h
            obtain ⟨g1, g2, g3⟩ := hp2 v hv
            exact tok_txt_ok s hs hl X a ha hd h34 _ g1 _ h0 hw.2 (text_ok s hs hl X a (by omega) h0 hem v g1 g3)
    · rename_i h34
      split at h
      · rename_i hL
        cases h
        exact tok_nam s hs hl X a ha hd h34 hL (pre_pos ha (by unfold namc; rw [hL]; rfl))
      · rename_i hL
        have hL : isLet (s.getD a 0) = false := by simpa using hL
        split at h
        · cases h
        · rename_i hm
          cases h
          exact tok_mark_ok s hs hl X a ha hd h34 hL hm
theorem tok_err (s : List Nat) (hs : Bytes s) (hl : s.length ≤ 1024) (X a : Nat) (ha : a < s.length) (h : tokM s a = none) :
    Spec tab 16 [.ptr X 0] [X] [⟨X, ⟨2, true, [.str s, .int .i64 ((a : Nat) : Int)]⟩, true⟩] (fun v D => (∃ (c0 : Int) (c1 : List Nat) (c2 c3 e : Int), v = .tuple [.agg [.int .i64 c0, .str c1, .int .i64 c2, .int .i64 c3], .int .i64 e] ∧ e ≠ 0) ∧ D = [⟨X, ⟨2, true, [.str s, .int .i64 ((a : Nat) : Int)]⟩, true⟩]) := by
  unfold tokM at h
  split at h
  · rename_i hd
    have HN := numeral_spec s hs hl X a (by omega)
    unfold nmV at HN
    have hb : Bytes (nmT s a) := Bytes.take (Bytes.drop hs a) _
    have h2 : a + (nmT s a).length ≤ s.length := by rw [nmT_len]; exact pre_bd numc ha
    split at h
    · rename_i h14
      rw [if_pos h14] at HN
      split at h
      · cases h
      · rename_i h0
        exact tok_num_bad s hs hl X a ha hd _ h0 _ _ _ hb h2 HN
    · rename_i h14
      rw [if_neg h14] at HN
      split at h
      · cases h
      · rename_i h0
        exact tok_num_bad s hs hl X a ha hd _ h0 _ _ _ hb h2 HN
  · rename_i hd
    have hd : isDig (s.getD a 0) = false := by simpa using hd
    split at h
    · rename_i h34
      split at h
      · rename_i h0
        exact tok_txt_bad s hs hl X a ha hd h34 (text_none s hs hl X a (by omega) h0)
      · rename_i h0
        have hqb : Bytes (quT s a) := Bytes.take (Bytes.drop hs a) _
        have hql : (quT s a).length ≤ 1024 := by
          rw [quT_len]
          have := qu_le (s.drop a)
          rw [List.length_drop] at this
          omega
        obtain ⟨hp1, hp2⟩ := parse_of (quT s a) hqb hql (quT_head ha h34 h0) (by rw [quT_len]; omega) (quT_left ha h34 h0)
        split at h
        · cases h
        · rename_i hem
          split at h
          · rename_i hno
            exact tok_txt_bad s hs hl X a ha hd h34 (text_no s hs hl X a (by omega) h0 hem (hp1 hno))
          · cases h
    · rename_i h34
      split at h
      · cases h
      · rename_i hL
        have hL : isLet (s.getD a 0) = false := by simpa using hL
        split at h
        · rename_i hm
          exact tok_mark_bad s hs hl X a ha hd h34 hL hm
        · cases h
theorem blF_bd : ∀ (k : Nat) (s : List Nat) (i : Nat), i ≤ blF k s i ∧ (i ≤ s.length → blF k s i ≤ s.length)
  | 0, s, i => ⟨Nat.le_refl _, id⟩
  | k + 1, s, i => by
    unfold blF
    split
    · rename_i h
      split
      · have h1 := blF_bd k s (i + pre nlc (s.drop i))
        have h2 := pre_bd nlc h
        exact ⟨by omega, fun _ => h1.2 h2⟩
      · split
        · have h1 := blF_bd k s (i + 1)
          exact ⟨by omega, fun _ => h1.2 (by omega)⟩
        · exact ⟨Nat.le_refl _, id⟩
    · exact ⟨Nat.le_refl _, id⟩
theorem bl_le {s : List Nat} {i : Nat} (h : i ≤ s.length) : bl s i ≤ s.length := (blF_bd _ s i).2 h
theorem bl_ge (s : List Nat) (i : Nat) : i ≤ bl s i := (blF_bd _ s i).1
/-- The tokens from a place on, behind those that are there. -/
def scF : Nat → List Nat → Nat → List Tok → Option (List Tok)
  | 0, _, _, _ => none
  | k + 1, s, a, acc =>
    if a < s.length then match tokM s a with
      | none => none
      | some tk => scF k s (bl s (a + tk.w)) (acc ++ [tk])
    else some acc
def scanM (s : List Nat) : Option (List Tok) := if 1024 < s.length then none else scF (s.length + 1) s (bl s 0) []
theorem scanM_eq {s : List Nat} (h : ¬ 1024 < s.length) : scanM s = scF (s.length + 1) s (bl s 0) [] := by unfold scanM; rw [if_neg h]
theorem scF_some {k : Nat} {s : List Nat} {a : Nat} {acc : List Tok} {tk : Tok} (ha : a < s.length) (h : tokM s a = some tk) : scF (k + 1) s a acc = scF k s (bl s (a + tk.w)) (acc ++ [tk]) := by
  conv => lhs; unfold scF
  rw [if_pos ha, h]
theorem scF_none {k : Nat} {s : List Nat} {a : Nat} {acc : List Tok} (ha : a < s.length) (h : tokM s a = none) : scF (k + 1) s a acc = none := by
  unfold scF
  rw [if_pos ha, h]
theorem scF_end {k : Nat} {s : List Nat} {a : Nat} {acc : List Tok} (ha : ¬ a < s.length) : scF (k + 1) s a acc = some acc := by
  unfold scF
  rw [if_neg ha]
def endT (s : List Nat) : Tok := ⟨((6 : Nat) : Int), [], 0, s.length, 0⟩
/-- What Scan gives. -/
def scanP (s : List Nat) : AV → HSt → Prop := fun r D => match scanM s with
  | some l => ∃ b ex, r = .tuple [.slice b 0 (l.length + 1) 4, .int .i64 ((0 : Nat) : Int), .int .i64 ((0 : Nat) : Int)] ∧ D = [⟨b, ⟨4, ex, tokCs (l ++ [endT s])⟩, true⟩]
  | none => ∃ p e, r = .tuple [.nils, .int .i64 p, .int .i64 e] ∧ e ≠ 0 ∧ D = []
theorem scanP_big {s : List Nat} {p e : Int} (h : 1024 < s.length) (he : e ≠ 0) : scanP s (oneOf [.nils, .int .i64 p, .int .i64 e]) [] := by
  unfold scanP
  have : scanM s = none := by unfold scanM; rw [if_pos h]
  rw [this]
  exact ⟨_, _, rfl, he, rfl⟩
theorem scanP_err {s : List Nat} {p e : Int} (h : scanM s = none) (he : e ≠ 0) : scanP s (oneOf [.nils, .int .i64 p, .int .i64 e]) [] := by
  unfold scanP
  rw [h]
  exact ⟨_, _, rfl, he, rfl⟩
theorem scanP_ok {s : List Nat} {l : List Tok} {b a : Nat} {ex : Bool} (h : scanM s = some l) (ha : a = s.length) :
    scanP s (oneOf [.slice b 0 (l.length + 1) 4, .int .i64 ((0 : Nat) : Int), .int .i64 ((0 : Nat) : Int)]) [⟨b, ⟨4, ex, tokCs l ++ [.int .i64 ((6 : Nat) : Int), .str [], .int .i64 0, .int .i64 ((a : Nat) : Int)]⟩, true⟩] := by
  unfold scanP
  rw [h]
  refine ⟨b, ex, rfl, ?_⟩
  rw [tokCs_snoc, ha]
  rfl
end Go.Proofs.YtdpcpnhkkedfcaaDoor.Ev
