/- Chapter 15, by the document: the tokens of a call's text. -/
import Derived.Test.YtnlnmbnopdklhaaAUg
namespace Go.Proofs.Ytnlnmbnopdklhaa.Ev
open Go.RowKit
set_option linter.unusedVariables false
set_option linter.unusedSimpArgs false
set_option maxRecDepth 100000
def ld (c : Nat) : Bool := letB c || digB c
/-- What may stand behind a word. -/
def stp : List Nat → Prop
  | [] => True
  | c :: _ => letB c = false ∧ digB c = false ∧ c ≠ 46
def nbh : List Nat → Prop
  | [] => True
  | c :: _ => nb c
/-- What stands in a text from a place on. -/
structure Suf (s : List Nat) (i : Nat) (w : List Nat) : Prop where
  le : i ≤ s.length
  eq : s.drop i = w
theorem Suf.at_ {s w : List Nat} {i : Nat} (h : Suf s i w) (j : Nat) : s.getD (i + j) 0 = w.getD j 0 := by
  rw [← h.eq, List.getD_eq_getElem?_getD, List.getD_eq_getElem?_getD, List.getElem?_drop]
theorem Suf.len {s w : List Nat} {i : Nat} (h : Suf s i w) : i + w.length = s.length := by
  have := congrArg List.length h.eq
  rw [List.length_drop] at this
  have := h.le
  omega
theorem Suf.adv {s u w : List Nat} {i : Nat} (h : Suf s i (u ++ w)) : Suf s (i + u.length) w := by
  have hl := h.len
  rw [List.length_append] at hl
  refine ⟨by omega, ?_⟩
  rw [← List.drop_drop, h.eq, List.drop_left]
theorem Suf.tl {s w : List Nat} {i c : Nat} (h : Suf s i (c :: w)) : Suf s (i + 1) w := Suf.adv (u := [c]) h
theorem Suf.take {s u w : List Nat} {i : Nat} (h : Suf s i (u ++ w)) : (s.drop i).take (i + u.length - i) = u := by
  rw [h.eq, Nat.add_sub_cancel_left, List.take_left]
theorem Suf.run {s u w : List Nat} {i : Nat} (h : Suf s i (u ++ w)) (hu : u.all ld = true) (h0 : 0 < u.length) (hw : stp w) :
    i < i + u.length ∧ i + u.length ≤ s.length ∧ (∀ j, i ≤ j → j < i + u.length → letB (s.getD j 0) = true ∨ digB (s.getD j 0) = true) ∧
      (i + u.length = s.length ∨ (letB (s.getD (i + u.length) 0) = false ∧ digB (s.getD (i + u.length) 0) = false ∧ s.getD (i + u.length) 0 ≠ 46)) := by
  have hlen := h.len
  rw [List.length_append] at hlen
  refine ⟨by omega, by omega, fun j h1 h2 => ?_, ?_⟩
  · have e : j = i + (j - i) := by omega
    rw [e, h.at_]
    have e2 : (u ++ w).getD (j - i) 0 = u[j - i]'(by omega) := by
      rw [List.getD_eq_getElem?_getD, List.getElem?_append_left (by omega), List.getElem?_eq_getElem (by omega)]; rfl
    rw [e2]
    have := List.all_eq_true.1 hu _ (List.getElem_mem (l := u) (n := j - i) (by omega))
    simpa [ld] using this
  · cases w with
    | nil => left; simpa using hlen
    | cons c w =>
      right
      have e : s.getD (i + u.length) 0 = c := by have := h.adv.at_ 0; simpa using this
      rw [e]; exact hw
section
variable {s : List Nat} (hs : Bytes s) (hl : s.length ≤ 1048576)
include hs hl
theorem bl_0 {i : Nat} {w : List Nat} (h : Suf s i w) (hw : nbh w) : BlAt s i i := by
  refine blank0 s hs hl i ?_
  cases w with
  | nil => left; simpa using h.len
  | cons c w =>
    right
    have e : s.getD i 0 = c := by have := h.at_ 0; simpa using this
    have := h.len
    rw [List.length_cons] at this
    exact ⟨by omega, by rw [e]; exact hw⟩
theorem bl_1 {i : Nat} {w : List Nat} (h : Suf s i (32 :: w)) (hw : nbh w) : BlAt s i (i + 1) := by
  have hlen := h.len
  rw [List.length_cons] at hlen
  refine blank1 s hs hl i (by omega) (by have := h.at_ 0; simpa using this) ?_
  cases w with
  | nil => left; simpa using hlen
  | cons c w =>
    right
    have e : s.getD (i + 1) 0 = c := by have := h.tl.at_ 0; simpa using this
    rw [List.length_cons] at hlen
    exact ⟨by omega, by rw [e]; exact hw⟩
theorem at_name {u w : List Nat} {i : Nat} (h : Suf s i (u ++ w)) (hu : u.all ld = true) (h0 : letB (u.getD 0 0) = true) (hw : stp w) : TokAt s i (1, u, 0, ((i : Nat) : Int)) (i + u.length) := by
  have hp : 0 < u.length := by cases u with
    | nil => exact absurd h0 (by decide)
    | cons _ _ => simp
  obtain ⟨r1, r2, r3, r4⟩ := Suf.run h hu hp hw
  have := tok_name s hs hl i (i + u.length) r1 r2 r3 r4 (by
    have e := h.at_ 0
    rw [Nat.add_zero] at e
    rw [e]
    cases u with
    | nil => exact absurd h0 (by decide)
    | cons c u => exact h0)
  rw [h.take] at this
  exact this
theorem at_num {u w : List Nat} {i : Nat} (h : Suf s i (u ++ w)) (hu : u.all ld = true) (h0 : digB (u.getD 0 0) = true) (hw : stp w) {v : Int} (hp1 : Spec tab 47 [.str u] [] [] (Val (.tuple [.int .i64 v, .int .i64 ((0 : Nat) : Int)]))) : TokAt s i (2, u, v, ((i : Nat) : Int)) (i + u.length) := by
  have hp : 0 < u.length := by cases u with
    | nil => exact absurd h0 (by decide)
    | cons _ _ => simp
  obtain ⟨r1, r2, r3, r4⟩ := Suf.run h hu hp hw
  have := tok_num s hs hl i (i + u.length) r1 r2 r3 r4 (by
    have e := h.at_ 0
    rw [Nat.add_zero] at e
    rw [e]
    cases u with
    | nil => exact absurd h0 (by decide)
    | cons c u => exact h0) v (by rw [h.take]; exact hp1)
  rw [h.take] at this
  exact this
theorem at_dur {u w : List Nat} {i : Nat} (h : Suf s i (u ++ w)) (hu : u.all ld = true) (h0 : digB (u.getD 0 0) = true) (hw : stp w) {v x : Int} (hp1 : Spec tab 47 [.str u] [] [] (Val (.tuple [.int .i64 v, .int .i64 ((14 : Nat) : Int)])))
    (hp2 : Spec tab 48 [.str u] [] [] (Val (.tuple [.int .i64 x, .int .i64 ((0 : Nat) : Int)]))) : TokAt s i (3, u, x, ((i : Nat) : Int)) (i + u.length) := by
  have hp : 0 < u.length := by cases u with
    | nil => exact absurd h0 (by decide)
    | cons _ _ => simp
  obtain ⟨r1, r2, r3, r4⟩ := Suf.run h hu hp hw
  have := tok_dur s hs hl i (i + u.length) r1 r2 r3 r4 (by
    have e := h.at_ 0
    rw [Nat.add_zero] at e
    rw [e]
    cases u with
    | nil => exact absurd h0 (by decide)
    | cons c u => exact h0) v (by rw [h.take]; exact hp1) x (by rw [h.take]; exact hp2)
  rw [h.take] at this
  exact this
theorem at_mark {c : Nat} {w : List Nat} {i : Nat} (h : Suf s i (c :: w)) (hc : c ∈ ([40, 41, 91, 93, 44, 43, 45, 42] : List Nat)) : TokAt s i (5, [c], 0, ((i : Nat) : Int)) (i + 1) := by
  have hlen := h.len
  rw [List.length_cons] at hlen
  have e : s.getD i 0 = c := by have := h.at_ 0; simpa using this
  have := tok_mark s hs hl i (by omega) (by rw [e]; exact hc)
  have e2 : (s.drop i).take 1 = [c] := by rw [h.eq]; rfl
  rw [e2] at this
  exact this
end
/-- A token without its place. -/
def tkey (t : TokT) : Nat × List Nat × Int := (t.1, t.2.1, t.2.2.1)
abbrev KeyT := Nat × List Nat × Int
/-- A text's tokens from a place on, without their places. -/
def TokK (s : List Nat) (i : Nat) (L : List KeyT) : Prop := ∃ M, Toks s i M ∧ M.map tkey = L
theorem TokK.step {s : List Nat} {i k j : Nat} {t : TokT} {L : List KeyT} (h : i < s.length) (ht : TokAt s i t k) (hb : BlAt s k j) (g : TokK s j L) : TokK s i (tkey t :: L) := let ⟨M, h1, h2⟩ := g; ⟨t :: M, .step h ht hb h1, by rw [List.map_cons, h2]⟩
section
variable {s : List Nat} (hs : Bytes s) (hl : s.length ≤ 1048576)
include hs hl
theorem mark_step {c : Nat} {w : List Nat} {i : Nat} {L : List KeyT} (h : Suf s i (c :: w)) (hc : c ∈ ([40, 41, 91, 93, 44, 43, 45, 42] : List Nat)) (hn : nbh w) (g : TokK s (i + 1) L) : TokK s i ((5, [c], 0) :: L) :=
  .step (by have := h.len; rw [List.length_cons] at this; omega) (at_mark hs hl h hc) (bl_0 hs hl h.tl hn) g
theorem mark_blank {c : Nat} {w : List Nat} {i : Nat} {L : List KeyT} (h : Suf s i (c :: 32 :: w)) (hc : c ∈ ([40, 41, 91, 93, 44, 43, 45, 42] : List Nat)) (hn : nbh w) (g : TokK s (i + 1 + 1) L) : TokK s i ((5, [c], 0) :: L) :=
  .step (by have := h.len; rw [List.length_cons] at this; omega) (at_mark hs hl h hc) (bl_1 hs hl h.tl hn) g
theorem name_step (u : List Nat) {w : List Nat} {i : Nat} {L : List KeyT} (h : Suf s i (u ++ w)) (hu : u.all ld = true) (h0 : letB (u.getD 0 0) = true) (hw : stp w) (hn : nbh w) (g : TokK s (i + u.length) L) : TokK s i ((1, u, 0) :: L) :=
  .step (by have := h.len; rw [List.length_append] at this; have : 0 < u.length := by (cases u with | nil => exact absurd h0 (by decide) | cons _ _ => simp)
            omega) (at_name hs hl h hu h0 hw) (bl_0 hs hl h.adv hn) g
theorem name_blank (u : List Nat) {w : List Nat} {i : Nat} {L : List KeyT} (h : Suf s i (u ++ 32 :: w)) (hu : u.all ld = true) (h0 : letB (u.getD 0 0) = true) (hn : nbh w) (g : TokK s (i + u.length + 1) L) : TokK s i ((1, u, 0) :: L) :=
  .step (by have := h.len; rw [List.length_append, List.length_cons] at this; omega) (at_name hs hl h hu h0 ⟨by decide, by decide, by decide⟩) (bl_1 hs hl h.adv hn) g
theorem num_step (u : List Nat) {w : List Nat} {i : Nat} {L : List KeyT} {v : Int} (h : Suf s i (u ++ w)) (hu : u.all ld = true) (h0 : digB (u.getD 0 0) = true) (hw : stp w) (hn : nbh w) (hp : Spec tab 47 [.str u] [] [] (Val (.tuple [.int .i64 v, .int .i64 ((0 : Nat) : Int)]))) (g : TokK s (i + u.length) L) : TokK s i ((2, u, v) :: L) :=
  .step (by have := h.len; rw [List.length_append] at this; have : 0 < u.length := by (cases u with | nil => exact absurd h0 (by decide) | cons _ _ => simp)
            omega) (at_num hs hl h hu h0 hw hp) (bl_0 hs hl h.adv hn) g
theorem num_blank (u : List Nat) {w : List Nat} {i : Nat} {L : List KeyT} {v : Int} (h : Suf s i (u ++ 32 :: w)) (hu : u.all ld = true) (h0 : digB (u.getD 0 0) = true) (hn : nbh w) (hp : Spec tab 47 [.str u] [] [] (Val (.tuple [.int .i64 v, .int .i64 ((0 : Nat) : Int)]))) (g : TokK s (i + u.length + 1) L) : TokK s i ((2, u, v) :: L) :=
  .step (by have := h.len; rw [List.length_append, List.length_cons] at this; omega) (at_num hs hl h hu h0 ⟨by decide, by decide, by decide⟩ hp) (bl_1 hs hl h.adv hn) g
theorem dur_step (u : List Nat) {w : List Nat} {i : Nat} {L : List KeyT} {v x : Int} (h : Suf s i (u ++ w)) (hu : u.all ld = true) (h0 : digB (u.getD 0 0) = true) (hw : stp w) (hn : nbh w) (hp : Spec tab 47 [.str u] [] [] (Val (.tuple [.int .i64 v, .int .i64 ((14 : Nat) : Int)])))
    (hp2 : Spec tab 48 [.str u] [] [] (Val (.tuple [.int .i64 x, .int .i64 ((0 : Nat) : Int)]))) (g : TokK s (i + u.length) L) : TokK s i ((3, u, x) :: L) :=
  .step (by have := h.len; rw [List.length_append] at this; have : 0 < u.length := by (cases u with | nil => exact absurd h0 (by decide) | cons _ _ => simp)
            omega) (at_dur hs hl h hu h0 hw hp hp2) (bl_0 hs hl h.adv hn) g
end
/-- Eight texts, their tokens, their types. -/
def someS (k : Nat) : List Nat := match k with
  | 0 => [49] | 1 => [97] | 2 => [97, 91, 49, 109, 93] | 3 => [116, 105, 109, 101, 40, 41] | 4 => [115, 117, 109, 40, 97, 41] | 5 => [45, 97] | 6 => [97, 32, 43, 32, 49] | _ => [50, 32, 42, 32, 51]
def someK (k : Nat) : List KeyT := match k with
  | 0 => [(2, [49], ((1000000 : Nat) : Int))] | 1 => [(1, [97], 0)] | 2 => [(1, [97], 0), (5, [91], 0), (3, [49, 109], ((60000 : Nat) : Int)), (5, [93], 0)] | 3 => [(1, [116, 105, 109, 101], 0), (5, [40], 0), (5, [41], 0)]
  | 4 => [(1, [115, 117, 109], 0), (5, [40], 0), (1, [97], 0), (5, [41], 0)] | 5 => [(5, [45], 0), (1, [97], 0)] | 6 => [(1, [97], 0), (5, [43], 0), (2, [49], ((1000000 : Nat) : Int))] | _ => [(2, [50], ((2000000 : Nat) : Int)), (5, [42], 0), (2, [51], ((3000000 : Nat) : Int))]
def someT (k : Nat) : Nat := match k with
  | 0 => 1 | 1 => 2 | 2 => 3 | 3 => 1 | 4 => 2 | 5 => 2 | 6 => 2 | _ => 1
theorem some_head (k : Nat) : ∃ c w, someS k = c :: w ∧ nb c := by
  unfold someS nb
  split <;> exact ⟨_, _, rfl, by decide⟩
theorem some_toks {s : List Nat} (hs : Bytes s) (hl : s.length ≤ 1048576) (k : Nat) {i c : Nat} {w : List Nat} {L : List KeyT} (h : Suf s i (someS k ++ c :: w)) (hc : c = 44 ∨ c = 41) (g : TokK s (i + (someS k).length) L) : TokK s i (someK k ++ L) := by
  have sc : stp (c :: w) := by rcases hc with rfl | rfl <;> exact ⟨by decide, by decide, by decide⟩
  have nc : nbh (c :: w) := by rcases hc with rfl | rfl <;> exact ⟨by decide, by decide, by decide, by decide⟩
  match k, h, g with
  | 0, h, g => exact num_step hs hl [49] h (by decide) (by decide) sc nc fp_1 g
  | 1, h, g => exact name_step hs hl [97] h (by decide) (by decide) sc nc g
  | 2, h, g =>
    have h1 : Suf s i ([97] ++ ([91, 49, 109, 93] ++ c :: w)) := h
    have h2 : Suf s (i + 1) (91 :: ([49, 109, 93] ++ c :: w)) := h1.adv
    have h3 : Suf s (i + 1 + 1) ([49, 109] ++ ([93] ++ c :: w)) := h2.tl
    have h4 : Suf s (i + 1 + 1 + 2) (93 :: c :: w) := h3.adv
    exact name_step hs hl [97] h1 (by decide) (by decide) ⟨by decide, by decide, by decide⟩ ⟨by decide, by decide, by decide, by decide⟩ (mark_step hs hl h2 (by decide) ⟨by decide, by decide, by decide, by decide⟩
      (dur_step hs hl [49, 109] h3 (by decide) (by decide) ⟨by decide, by decide, by decide⟩ ⟨by decide, by decide, by decide, by decide⟩ fp_1m dur_1m (mark_step hs hl h4 (by decide) nc g)))
  | 3, h, g =>
    have h1 : Suf s i ([116, 105, 109, 101] ++ (40 :: 41 :: c :: w)) := h
    have h2 : Suf s (i + 4) (40 :: 41 :: c :: w) := h1.adv
    exact name_step hs hl [116, 105, 109, 101] h1 (by decide) (by decide) ⟨by decide, by decide, by decide⟩ ⟨by decide, by decide, by decide, by decide⟩ (mark_step hs hl h2 (by decide) ⟨by decide, by decide, by decide, by decide⟩ (mark_step hs hl h2.tl (by decide) nc g))
  | 4, h, g =>
    have h1 : Suf s i ([115, 117, 109] ++ (40 :: 97 :: 41 :: c :: w)) := h
    have h2 : Suf s (i + 3) (40 :: 97 :: 41 :: c :: w) := h1.adv
    have h3 : Suf s (i + 3 + 1) ([97] ++ (41 :: c :: w)) := h2.tl
    exact name_step hs hl [115, 117, 109] h1 (by decide) (by decide) ⟨by decide, by decide, by decide⟩ ⟨by decide, by decide, by decide, by decide⟩ (mark_step hs hl h2 (by decide) ⟨by decide, by decide, by decide, by decide⟩
      (name_step hs hl [97] h3 (by decide) (by decide) ⟨by decide, by decide, by decide⟩ ⟨by decide, by decide, by decide, by decide⟩ (mark_step hs hl h3.adv (by decide) nc g)))
  | 5, h, g =>
    have h1 : Suf s i (45 :: ([97] ++ c :: w)) := h
    exact mark_step hs hl h1 (by decide) ⟨by decide, by decide, by decide, by decide⟩ (name_step hs hl [97] h1.tl (by decide) (by decide) sc nc g)
  | 6, h, g =>
    have h1 : Suf s i ([97] ++ 32 :: 43 :: 32 :: ([49] ++ c :: w)) := h
    have h2 : Suf s (i + 1) (32 :: 43 :: 32 :: ([49] ++ c :: w)) := h1.adv
    have h3 := h2.tl
    have h4 := h3.tl.tl
    exact name_blank hs hl [97] h1 (by decide) (by decide) ⟨by decide, by decide, by decide, by decide⟩ (mark_blank hs hl h3 (by decide) ⟨by decide, by decide, by decide, by decide⟩ (num_step hs hl [49] h4 (by decide) (by decide) sc nc fp_1 g))
  | n + 7, h, g =>
    have h1 : Suf s i ([50] ++ 32 :: 42 :: 32 :: ([51] ++ c :: w)) := h
    have h2 : Suf s (i + 1) (32 :: 42 :: 32 :: ([51] ++ c :: w)) := h1.adv
    have h3 := h2.tl
    have h4 := h3.tl.tl
    exact num_blank hs hl [50] h1 (by decide) (by decide) ⟨by decide, by decide, by decide, by decide⟩ fp_2 (mark_blank hs hl h3 (by decide) ⟨by decide, by decide, by decide, by decide⟩ (num_step hs hl [51] h4 (by decide) (by decide) sc nc fp_3 g))
/-- Arguments behind the opening mark, as a text, and as tokens. -/
def argS : List Nat → List Nat
  | [] => [41]
  | [k] => someS k ++ [41]
  | k :: k' :: ks => someS k ++ 44 :: 32 :: argS (k' :: ks)
def argK : List Nat → List KeyT
  | [] => [(5, [41], 0)]
  | [k] => someK k ++ [(5, [41], 0)]
  | k :: k' :: ks => someK k ++ (5, [44], 0) :: argK (k' :: ks)
theorem argS_head : ∀ (ks : List Nat), nbh (argS ks)
  | [] => ⟨by decide, by decide, by decide, by decide⟩
  | [k] => by obtain ⟨c, w, e, h⟩ := some_head k; show nbh (someS k ++ [41]); rw [e]; exact h
  | k :: k' :: ks => by obtain ⟨c, w, e, h⟩ := some_head k; show nbh (someS k ++ 44 :: 32 :: argS (k' :: ks)); rw [e]; exact h
theorem end_toks {s : List Nat} {i : Nat} (h : Suf s i []) : TokK s i [] := by
  have := h.len
  rw [List.length_nil, Nat.add_zero] at this
  subst this
  exact ⟨[], .done, rfl⟩
theorem arg_toks {s : List Nat} (hs : Bytes s) (hl : s.length ≤ 1048576) : ∀ (ks : List Nat) (i : Nat), Suf s i (argS ks) → TokK s i (argK ks)
  | [], i, h => mark_step hs hl h (by decide) trivial (end_toks h.tl)
  | [k], i, h => some_toks hs hl k h (.inr rfl) (mark_step hs hl h.adv (by decide) trivial (end_toks h.adv.tl))
  | k :: k' :: ks, i, h => some_toks hs hl k h (.inl rfl) (mark_blank hs hl h.adv (by decide) (argS_head _) (arg_toks hs hl (k' :: ks) _ h.adv.tl.tl))
end Go.Proofs.Ytnlnmbnopdklhaa.Ev
