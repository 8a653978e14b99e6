/- Layer 15: the tokens of a text, as a list. -/
import Derived.Test.YtdpcpnhkkedfcaaDoorW8
namespace Go.Proofs.YtdpcpnhkkedfcaaDoor.Ev
open Go.RowKit
set_option linter.unusedVariables false
set_option linter.unusedSimpArgs false
set_option maxRecDepth 100000
/-- A token: kind, text, number, place, and how many bytes it has. -/
structure Tok where
  k : Int
  t : List Nat
  n : Int
  a : Nat
  w : Nat
def tokC (t : Tok) : List AV := [.int .i64 t.k, .str t.t, .int .i64 t.n, .int .i64 ((t.a : Nat) : Int)]
def tokCs (l : List Tok) : List AV := l.flatMap tokC
theorem tokCs_snoc (l : List Tok) (t : Tok) : tokCs (l ++ [t]) = tokCs l ++ tokC t := by simp [tokCs]
def txM (q : List Nat) : Option (List Nat) :=
  match valF (q ++ [125]).length ((q ++ [125]).drop 1) [] with
  | none => none
  | some (v, _) => if chk1 [120] v = 0 ∧ prM [120] v = 123 :: 120 :: 61 :: (q ++ [125]) then some v else none
def quT (s : List Nat) (a : Nat) : List Nat := (s.drop a).take (qu (s.drop a))
def tokM (s : List Nat) (a : Nat) : Option Tok :=
  if isDig (s.getD a 0) = true then
    if (fixN (nmT s a)).2 = 14 then
      if (durN (nmT s a)).2 = 0 then some ⟨((3 : Nat) : Int), nmT s a, (durN (nmT s a)).1, a, (nmT s a).length⟩ else none
    else if (fixN (nmT s a)).2 = 0 then some ⟨((2 : Nat) : Int), nmT s a, (fixN (nmT s a)).1, a, (nmT s a).length⟩ else none
  else if s.getD a 0 = 34 then
    if qu (s.drop a) = 0 then none
    else if quT s a = [34, 34] then some ⟨((4 : Nat) : Int), [], 0, a, qu (s.drop a)⟩
    else match txM (quT s a) with
      | none => none
      | some v => some ⟨((4 : Nat) : Int), v, 0, a, qu (s.drop a)⟩
  else if isLet (s.getD a 0) = true then some ⟨((1 : Nat) : Int), (s.drop a).take (pre namc (s.drop a)), 0, a, pre namc (s.drop a)⟩
  else if mkN (s.drop a) = 0 then none
  else some ⟨((5 : Nat) : Int), (s.drop a).take (mkN (s.drop a)), 0, a, mkN (s.drop a)⟩
/-- Behind a text in marks the value's reading ends where the text does. -/
theorem hexL_34 {c : Nat} (h : ¬ ixB hexL c < 0) : c ≠ 34 ∧ c ≠ 92 := by
  constructor <;> rintro rfl <;> exact h (by decide)
theorem quL_gt {j : Nat} : ∀ (l : List Nat) (p : Nat), quL l p = j → j ≠ 0 → p < j := by
  intro l
  induction h : l.length using Nat.strongRecOn generalizing l with
  | _ N ihN =>
    intro p h1 h2
    cases l with
    | nil => rw [quL_nil] at h1; exact absurd h1.symm h2
    | cons c l =>
      rw [quL_cons] at h1
      split at h1
      · have := ihN (l.drop 1).length (by simp at h ⊢; omega) (l.drop 1) rfl (p + 2) h1 h2
        omega
      · split at h1
        · omega
        · have := ihN l.length (by simp at h; omega) l rfl (p + 1) h1 h2
          omega
theorem val_left : ∀ (n : Nat) (rest : List Nat) (i j k : Nat) (acc v left : List Nat), rest.length ≤ n → quL rest i = j → j ≠ 0 → valF k (rest.take (j - i) ++ [125]) acc = some (v, left) → i < j ∧ left = [125] := by
  intro n
  induction n with
  | zero =>
    intro rest i j k acc v left hl hq hj
    have : rest = [] := List.length_eq_zero_iff.1 (by omega)
    subst this
    rw [quL_nil] at hq
    exact absurd hq.symm hj
  | succ n ih =>
    intro rest i j k acc v left hl hq hj hv
    cases rest with
    | nil => rw [quL_nil] at hq; exact absurd hq.symm hj
    | cons c l =>
      have hle := quL_le (c :: l).length (c :: l) i (Nat.le_refl _)
      rw [quL_cons] at hq
      cases k with
      | zero => simp [valF] at hv
      | succ k =>
        by_cases h92 : c = 92
        · subst h92
          rw [if_pos rfl] at hq
          cases l with
          | nil => rw [List.drop_nil, quL_nil] at hq; exact absurd hq.symm hj
          | cons x m =>
            simp only [List.drop_one, List.tail_cons] at hq
            -- the place behind
            have key : ∀ acc', valF k (m.take (j - (i + 2)) ++ [125]) acc' = some (v, left) → i < j ∧ left = [125] := by
              intro acc' h'
              have := ih m (i + 2) j k acc' v left (by simp at hl; omega) hq hj h'
              exact ⟨by omega, this.2⟩
            by_cases hij : i + 2 < j
            · have e1 : (92 :: x :: m).take (j - i) ++ [125] = 92 :: x :: (m.take (j - (i + 2)) ++ [125]) := by
                obtain ⟨d, hd⟩ : ∃ d, j - i = d + 2 := ⟨j - i - 2, by omega⟩
                have : j - (i + 2) = d := by omega
                rw [hd, this]
                rfl
              rw [e1] at hv
              unfold valF at hv
              rw [if_neg (by simp), if_neg (by simp), if_pos (by simp)] at hv
              by_cases hx : hasP (92 :: x :: (m.take (j - (i + 2)) ++ [125])) [92, 120] = true
              · rw [if_pos hx] at hv
                split at hv
                · cases hv
                · split at hv
                  · cases hv
                  · rename_i hlen hhex
                    -- two digits to the base 16
                    cases m with
                    | nil => rw [quL_nil] at hq; exact absurd hq.symm hj
                    | cons y m =>
                      obtain ⟨d, hd⟩ : ∃ d, j - (i + 2) = d + 1 := ⟨j - (i + 2) - 1, by omega⟩
                      rw [hd] at hv hhex hlen
                      simp only [List.take_succ_cons, List.cons_append] at hv hhex hlen
                      have g2 : ¬ ixB hexL y < 0 := fun h => hhex (.inl (by simpa using h))
                      obtain ⟨y1, y2⟩ := hexL_34 g2
                      rw [quL_cons, if_neg y2, if_neg y1] at hq
                      cases d with
                      | zero =>
                        have := quL_gt m (i + 2 + 1) hq hj
                        omega
                      | succ d =>
                        cases m with
                        | nil => rw [quL_nil] at hq; exact absurd hq.symm hj
                        | cons z m =>
                          simp only [List.take_succ_cons, List.cons_append] at hv hhex
                          have g3 : ¬ ixB hexL z < 0 := fun h => hhex (.inr (by simpa using h))
                          obtain ⟨z1, z2⟩ := hexL_34 g3
                          rw [quL_cons, if_neg z2, if_neg z1] at hq
                          have e4 : (92 :: x :: y :: z :: (m.take d ++ [125])).drop 4 = m.take d ++ [125] := rfl
                          rw [e4] at hv
                          have hjd : j - (i + 2 + 1 + 1) = d := by omega
                          have := ih m (i + 2 + 1 + 1) j k _ v left (by simp at hl; omega) hq hj (by rw [hjd]; exact hv)
                          exact ⟨by omega, this.2⟩
              · rw [if_neg hx] at hv
                split at hv
                · cases hv
                · exact key _ hv
            · -- nothing is behind
              have := quL_gt m (i + 2) hq hj
              omega
        · rw [if_neg h92] at hq
          by_cases h34 : c = 34
          · subst h34
            rw [if_pos rfl] at hq
            subst hq
            have e1 : (34 :: l).take (i + 1 - i) ++ [125] = [34, 125] := by
              rw [show i + 1 - i = 1 by omega]; rfl
            rw [e1] at hv
            unfold valF at hv
            simp at hv
            exact ⟨by omega, hv.2.symm⟩
          · rw [if_neg h34] at hq
            have hij : i + 1 < j ∨ j ≤ i + 1 := by omega
            rcases hij with hij | hij
            · have e1 : (c :: l).take (j - i) ++ [125] = c :: (l.take (j - (i + 1)) ++ [125]) := by
                obtain ⟨d, hd⟩ : ∃ d, j - i = d + 1 := ⟨j - i - 1, by omega⟩
                have : j - (i + 1) = d := by omega
                rw [hd, this]
                rfl
              rw [e1] at hv
              unfold valF at hv
              rw [if_neg (by simp), if_neg (by simpa using h34), if_neg (by simpa using h92)] at hv
              have := ih l (i + 1) j k _ v left (by simp at hl; omega) hq hj hv
              exact ⟨by omega, this.2⟩
            · have := quL_gt l (i + 1) hq hj
              omega
theorem valF_bytes : ∀ (k : Nat) (rest acc v left : List Nat), Bytes rest → Bytes acc → valF k rest acc = some (v, left) → Bytes v ∧ v.length ≤ acc.length + rest.length
  | 0, rest, acc, v, left, _, _, h => by simp [valF] at h
  | k + 1, rest, acc, v, left, hr, ha, h => by
    unfold valF at h
    split at h
    · cases h
    · rename_i hne
      have hpos : 0 < rest.length := ne_pos hne
      split at h
      · simp only [Option.some.injEq, Prod.mk.injEq] at h
        rw [← h.1]
        exact ⟨ha, by omega⟩
      · split at h
        · split at h
          · split at h
            · cases h
            · split at h
              · cases h
              · rename_i hlen hhex
                have g2 : ¬ ixB hexL (rest.getD 2 0) < 0 := fun h => hhex (.inl h)
                have g3 : ¬ ixB hexL (rest.getD 3 0) < 0 := fun h => hhex (.inr h)
                obtain ⟨x, hx, hx16⟩ := hx_nat g2
                obtain ⟨y, hy, hy16⟩ := hx_nat g3
                have hx' : ixB hexL (rest.getD 2 0) = (x : Int) := hx
                have hy' : ixB hexL (rest.getD 3 0) = (y : Int) := hy
                rw [hx', hy'] at h
                have := valF_bytes k _ _ v left (Bytes.drop hr 4) (Bytes.append ha (Bytes.one (by simp; omega))) h
                refine ⟨this.1, ?_⟩
                have := this.2
                simp only [List.length_append, List.length_cons, List.length_nil, List.length_drop] at this
                omega
          · split at h
            · cases h
            · have := valF_bytes k _ _ v left (Bytes.drop hr 2) (Bytes.append ha (Bytes.one (hr.at 1))) h
              refine ⟨this.1, ?_⟩
              have := this.2
              simp only [List.length_append, List.length_cons, List.length_nil, List.length_drop] at this
              omega
        · have := valF_bytes k _ _ v left (Bytes.drop hr 1) (Bytes.append ha (Bytes.one (hr.at 0))) h
          refine ⟨this.1, ?_⟩
          have := this.2
          simp only [List.length_append, List.length_cons, List.length_nil, List.length_drop] at this
          omega
/-- What label.Parse says of a text in marks. -/
theorem parse_of (q : List Nat) (hq : Bytes q) (hl : q.length ≤ 1024) (h0 : q.getD 0 0 = 34) (hne : 0 < q.length) (hleft : ∀ v left, valF (q ++ [125]).length ((q ++ [125]).drop 1) [] = some (v, left) → left = [125]) :
    (txM q = none → Spec tab 41 [.str (([123, 120, 61] ++ q) ++ [125])] [] [] (Val (.tuple [.nils, .int .i64 ((14 : Nat) : Int)]))) ∧
    ∀ v, txM q = some v → Bytes v ∧ v.length ≤ 1025 ∧ Spec tab 41 [.str (([123, 120, 61] ++ q) ++ [125])] [] [] (fun o D => ∃ b ex, o = .tuple [.slice b 0 1 2, .int .i64 ((0 : Nat) : Int)] ∧ D = [⟨b, ⟨2, ex, [.str [120], .str v]⟩, true⟩]) := by
  have hb : Bytes (q ++ [125]) := Bytes.append hq (Bytes.one (by decide))
  have hlen : (q ++ [125]).length ≤ 65536 := by simp; omega
  have hpre : hasP (q ++ [125]) [34] = true := by
    cases q with
    | nil => simp at hne
    | cons c m =>
      have : c = 34 := by simpa using h0
      subst this
      simp [hasP]
  have hv := value_yes (q ++ [125]) hb (by omega) hpre
  unfold txM
  cases hval : valF (q ++ [125]).length ((q ++ [125]).drop 1) [] with
  | none =>
    rw [hval] at hv
    exact ⟨fun _ => parse1_no (q ++ [125]) hb hlen hv, fun v h => by cases h⟩
  | some p =>
    obtain ⟨v, left⟩ := p
    have hl125 := hleft v left hval
    subst hl125
    rw [hval] at hv
    obtain ⟨hvb, hvl⟩ := valF_bytes _ _ _ _ _ (Bytes.drop hb 1) (by intro c h; simp at h) hval
    have hvl' : v.length ≤ 1025 := by simp at hvl; omega
    simp only
    by_cases hC : chk1 [120] v = 0 ∧ prM [120] v = 123 :: 120 :: 61 :: (q ++ [125])
    · rw [if_pos hC]
      refine ⟨fun h => (by cases h), fun v' h => ?_⟩
      simp only [Option.some.injEq] at h
      subst h
      exact ⟨hvb, hvl', parse1_ok (q ++ [125]) hb hlen v hvb (by omega) hv hC⟩
    · rw [if_neg hC]
      exact ⟨fun _ => parse1_bad (q ++ [125]) hb hlen v hvb (by omega) hv hC, fun v h => by cases h⟩
end Go.Proofs.YtdpcpnhkkedfcaaDoor.Ev
