/- Chapter 16, by the document: the trees of eight texts. -/
import Derived.Test.YtnlnmbnopdklhaaAUf
namespace Go.Proofs.Ytnlnmbnopdklhaa.Ev
open Go.RowKit
set_option linter.unusedVariables false
set_option linter.unusedSimpArgs false
set_option maxRecDepth 100000
/-- Tokens that can be read. -/
structure PC (toks : List TokT) (n : Nat) : Prop where
  hn : toks.length = n + 1
  hnl : n ≤ 1048576
  hok : TokO toks
theorem PC.b {toks : List TokT} {n : Nat} (C : PC toks n) {a : Nat} (ha : a ≤ n) : Bytes (tg toks a).2.1 := (tokO C.hok (by have := C.hn; omega)).1
abbrev E0 (toks : List TokT) (n tb : Nat) (ex : Bool) (X l a a2 : Nat) (t : Nat × Nat) (dl : Nat) : Prop := EXs toks n tb ex X 19 [.int .i64 ((l : Nat) : Int)] a a2 t dl
/-- A token behind which an expression ends. -/
def Fol (T : TokT) : Prop := T.1 = 5 ∧ (T.2.1 = [44] ∨ T.2.1 = [41])
theorem fol_lv {T : TokT} (h : Fol T) (l : Nat) : decide (T.2.1 ∈ lvL l) = false := by
  have : ∀ c : List Nat, c = [44] ∨ c = [41] → decide (c ∈ lvL l) = false := by
    rintro c (rfl | rfl) <;> (unfold lvL; (repeat' split) <;> decide)
  exact this _ h.2
theorem fol_v {T : TokT} {s : List Nat} (h : Fol T) (h1 : s ≠ [44]) (h2 : s ≠ [41]) : isV 0 T s = false := by
  have e : decide (T.2.1 = s) = false := decide_eq_false fun e => by rcases h.2 with g | g <;> rw [g] at e <;> first | exact h1 e.symm | exact h2 e.symm
  unfold isV
  rw [e, Bool.and_false]
theorem num_v {tx s : List Nat} {nv p : Int} : isV 0 (2, tx, nv, p) s = false := by unfold isV; simp
def NoOp (T : TokT) (l : Nat) : Prop := (T.1 = 5 ∧ decide (T.2.1 ∈ lvL l) = false) ∨ (T.1 ≠ 1 ∧ T.1 ≠ 5)
section
variable {toks : List TokT} {n tb X : Nat} {ex : Bool}
theorem pass (C : PC toks n) {a a2 dl : Nat} {t : Nat × Nat} (ha : a ≤ n) (ha2 : a2 ≤ n) {l : Nat} (hl : l ≤ 4) (hF : NoOp (tg toks a2) l) (h : E0 toks n tb ex X (l + 1) a a2 t dl) : E0 toks n tb ex X l a a2 t dl := by
  intro dp bd hd
  rcases hF with hF | hF
  · exact passB_x toks n C.hn C.hnl C.hok tb ex X a ha dp bd dl hd a2 t ha2 _ rfl (C.b ha2) l hl hF h
  · exact passA_x toks n C.hn C.hnl C.hok tb ex X a ha dp bd dl hd a2 t ha2 _ rfl (C.b ha2) l hl hF h
theorem down (C : PC toks n) {a a2 dl : Nat} {t : Nat × Nat} (ha : a ≤ n) (ha2 : a2 ≤ n) : ∀ (k l : Nat), l + k ≤ 5 → (∀ j, l ≤ j → j < l + k → NoOp (tg toks a2) j) → E0 toks n tb ex X (l + k) a a2 t dl → E0 toks n tb ex X l a a2 t dl
  | 0, l, _, _, h => h
  | k + 1, l, h5, hF, h => pass C ha ha2 (by omega) (hF l (by omega) (by omega)) (down C ha ha2 k (l + 1) (by omega) (fun j h1 h2 => hF j (by omega) (by omega)) (by rw [show l + 1 + k = l + (k + 1) by omega]; exact h))
theorem to0 (C : PC toks n) {a a2 dl : Nat} {t : Nat × Nat} (ha : a ≤ n) (ha2 : a2 ≤ n) {l : Nat} (hl : l ≤ 5) (hF : ∀ j, NoOp (tg toks a2) j) (h : E0 toks n tb ex X l a a2 t dl) : E0 toks n tb ex X 0 a a2 t dl :=
  down C ha ha2 l 0 (by omega) (fun j _ _ => hF j) (by rw [Nat.zero_add]; exact h)
theorem at5 (C : PC toks n) {a a2 dl : Nat} {t : Nat × Nat} (ha : a ≤ n) (hm : isV 0 (tg toks a) [45] = false) (h : EXs toks n tb ex X 44 [] a a2 t dl) : E0 toks n tb ex X 5 a a2 t dl :=
  fun dp bd hd => expr5_x toks n C.hn C.hnl C.hok tb ex X a ha dp bd dl hd a2 t (fun dp bd hd => sgp_x toks n C.hn C.hnl C.hok tb ex X a ha dp bd dl hd _ rfl (C.b ha) hm a2 t h)
theorem num5 (C : PC toks n) {a dl : Nat} (ha : a + 1 ≤ n) {tx : List Nat} {nv p : Int} (hT : tg toks a = (2, tx, nv, p)) : E0 toks n tb ex X 5 a (a + 1) (1, 0) dl :=
  at5 C (by omega) (by rw [hT]; exact num_v) fun dp bd hd => anum_x toks n C.hn C.hnl C.hok tb ex X a (by omega) dp bd ha dl hd tx nv p hT (by have := C.b (a := a) (by omega); rw [hT] at this; exact this)
/-- What may stand behind a name alone. -/
def NotSel (T : TokT) : Prop := isV 0 T [40] = false ∧ isV 0 T [123] = false ∧ isV 0 T [91] = false ∧ isV 0 T [111, 102, 102, 115, 101, 116] = false
theorem fol_sel {T : TokT} (h : Fol T) : NotSel T := ⟨fol_v h (by decide) (by decide), fol_v h (by decide) (by decide), fol_v h (by decide) (by decide), fol_v h (by decide) (by decide)⟩
theorem vecA (C : PC toks n) {a dl : Nat} (ha : a + 1 ≤ n) {m p : Int} (hT : tg toks a = (1, [97], m, p)) (hs : NotSel (tg toks (a + 1))) : EXs toks n tb ex X 44 [] a (a + 1) (2, 0) dl :=
  fun dp bd hd => asel_x toks n C.hn C.hnl C.hok tb ex X a (by omega) dp bd ha dl hd m p hT _ rfl (C.b ha) hs.1 (a + 1) (2, 0)
    (fun dp bd hd => sel_x toks n C.hn C.hnl C.hok tb ex X a (by omega) dp bd ha dl hd m p hT _ rfl (C.b ha) hs.2.1 hs.2.2.1 hs.2.2.2)
theorem vec5 (C : PC toks n) {a dl : Nat} (ha : a + 1 ≤ n) {m p : Int} (hT : tg toks a = (1, [97], m, p)) (hs : NotSel (tg toks (a + 1))) : E0 toks n tb ex X 5 a (a + 1) (2, 0) dl :=
  at5 C (by omega) (by rw [hT]; rfl) (vecA C ha hT hs)
theorem fol_no {T : TokT} (h : Fol T) (j : Nat) : NoOp T j := .inl ⟨h.1, fol_lv h j⟩
theorem some0 (C : PC toks n) {a dl : Nat} (ha : a + 1 ≤ n) {nv p : Int} (h0 : tg toks a = (2, [49], nv, p)) (hF : Fol (tg toks (a + 1))) : E0 toks n tb ex X 0 a (a + 1) (1, 0) dl := to0 C (by omega) ha (by omega) (fol_no hF) (num5 C ha h0)
theorem some1 (C : PC toks n) {a dl : Nat} (ha : a + 1 ≤ n) {m p : Int} (h0 : tg toks a = (1, [97], m, p)) (hF : Fol (tg toks (a + 1))) : E0 toks n tb ex X 0 a (a + 1) (2, 0) dl := to0 C (by omega) ha (by omega) (fol_no hF) (vec5 C ha h0 (fol_sel hF))
theorem some2 (C : PC toks n) {a dl : Nat} (ha : a + 4 ≤ n) {m p m1 p1 p2 m3 p3 : Int} (h0 : tg toks a = (1, [97], m, p)) (h1 : tg toks (a + 1) = (5, [91], m1, p1)) (h2 : tg toks (a + 2) = (3, [49, 109], 60000, p2)) (h3 : tg toks (a + 3) = (5, [93], m3, p3)) (hF : Fol (tg toks (a + 4))) :
    E0 toks n tb ex X 0 a (a + 4) (3, 0) dl :=
  to0 C (by omega) ha (by omega) (fol_no hF) (at5 C (by omega) (by rw [h0]; rfl) fun dp bd hd => asel_x toks n C.hn C.hnl C.hok tb ex X a (by omega) dp bd (by omega) dl hd m p h0 _ rfl (C.b (by omega)) (by rw [h1]; rfl) (a + 4) (3, 0)
    (fun dp bd hd => selr_x toks n C.hn C.hnl C.hok tb ex X a (by omega) dp bd ha dl hd m p h0 m1 p1 h1 p2 h2 m3 p3 h3 _ rfl (C.b ha) (fol_v hF (by decide) (by decide))))
theorem some3 (C : PC toks n) {a dl : Nat} (ha : a + 3 ≤ n) (hd12 : dl + 1 ≤ 12) {m p m1 p1 m2 p2 : Int} (h0 : tg toks a = (1, [116, 105, 109, 101], m, p)) (h1 : tg toks (a + 1) = (5, [40], m1, p1)) (h2 : tg toks (a + 2) = (5, [41], m2, p2)) (hF : Fol (tg toks (a + 3))) :
    E0 toks n tb ex X 0 a (a + 3) (1, 0) dl :=
  to0 C (by omega) ha (by omega) (fol_no hF) (at5 C (by omega) (by rw [h0]; rfl) fun dp bd hd => acall_x toks n C.hn C.hnl C.hok tb ex X a (by omega) dp bd (by omega) dl hd [116, 105, 109, 101] m p h0 (by unfold Bytes; decide) (by decide) rfl rfl (by decide) (by decide) m1 p1 h1 (a + 3) []
    (fun dp bd hd => parts0_x toks n C.hn C.hnl C.hok tb ex X (a + 1) (by omega) dp bd (by omega) dl hd hd12 m1 p1 h1 m2 p2 h2) (by simp) (1, 0) rfl)
theorem some4 (C : PC toks n) {a dl : Nat} (ha : a + 4 ≤ n) (hd12 : dl + 1 ≤ 12) {m p m1 p1 m2 p2 m3 p3 : Int} (h0 : tg toks a = (1, [115, 117, 109], m, p)) (h1 : tg toks (a + 1) = (5, [40], m1, p1)) (h2 : tg toks (a + 2) = (1, [97], m2, p2)) (h3 : tg toks (a + 3) = (5, [41], m3, p3)) (hF : Fol (tg toks (a + 4))) :
    E0 toks n tb ex X 0 a (a + 4) (2, 0) dl := by
  have F3 : Fol (tg toks (a + 3)) := by rw [h3]; exact ⟨rfl, .inr rfl⟩
  have hA : ArgsX toks n tb ex X (dl + 1) (a + 2) [2] (a + 4) := .last (some1 C (by omega) h2 F3) ha h3
  exact to0 C (by omega) ha (by omega) (fol_no hF) (at5 C (by omega) (by rw [h0]; rfl) fun dp bd hd => aagg_x toks n C.hn C.hnl C.hok tb ex X a (by omega) dp bd (by omega) dl hd m p h0 m1 p1 h1 (a + 4) (2, 0)
    (fun dp bd hd => agg_x toks n C.hn C.hnl C.hok tb ex X a (by omega) dp bd (by omega) dl hd m p h0 m1 p1 h1 (a + 4) ha
      (fun dp bd hd => parts_x toks n C.hn C.hnl C.hok tb ex X (a + 1) (by omega) dp bd (by omega) dl hd hd12 false m1 p1 h1 (by rw [h2]; rfl) [2] (a + 4) hA (by decide)) _ rfl (C.b ha) (fol_v hF (by decide) (by decide)) (fol_v hF (by decide) (by decide))))
theorem some5 (C : PC toks n) {a dl : Nat} (ha : a + 2 ≤ n) (hd12 : dl + 1 ≤ 12) {m p m1 p1 : Int} (h0 : tg toks a = (5, [45], m, p)) (h1 : tg toks (a + 1) = (1, [97], m1, p1)) (hF : Fol (tg toks (a + 2))) : E0 toks n tb ex X 0 a (a + 2) (2, 0) dl :=
  to0 C (by omega) ha (Nat.le_refl 5) (fol_no hF) fun dp bd hd => expr5_x toks n C.hn C.hnl C.hok tb ex X a (by omega) dp bd dl hd (a + 2) (2, 0) (fun dp bd hd => neg_x toks n C.hn C.hnl C.hok tb ex X a (by omega) dp bd (by omega) dl hd hd12 m p h0 (a + 2) 2 (.inr rfl)
    (fun dp bd hd => sgp_x toks n C.hn C.hnl C.hok tb ex X (a + 1) (by omega) dp bd (dl + 1) hd _ rfl (C.b (by omega)) (by rw [h1]; rfl) (a + 2) (2, 0) (vecA C (by omega) h1 (fol_sel hF))))
theorem some6 (C : PC toks n) {a dl : Nat} (ha : a + 3 ≤ n) {m p m1 p1 nv p2 : Int} (h0 : tg toks a = (1, [97], m, p)) (h1 : tg toks (a + 1) = (5, [43], m1, p1)) (h2 : tg toks (a + 2) = (2, [49], nv, p2)) (hF : Fol (tg toks (a + 3))) : E0 toks n tb ex X 0 a (a + 3) (2, 0) dl :=
  to0 C (l := 3) (by omega) ha (by omega) (fol_no hF) fun dp bd hd => bin_x toks n C.hn C.hnl C.hok tb ex X a (by omega) dp bd dl hd 3 (by decide) (by decide) (a + 1) 2
    (pass C (l := 4) (by omega) (by omega) (by decide) (by rw [h1]; exact .inl ⟨rfl, (show decide (([43] : List Nat) ∈ lvL 4) = false from by decide)⟩) (vec5 C (by omega) h0 (by rw [h1]; exact ⟨rfl, rfl, rfl, rfl⟩))) (by omega) [43] m1 p1 h1 (by unfold Bytes; decide) (by decide) (by decide) _ rfl (C.b (by omega)) (by rw [h2]; exact num_v) (by rw [h2]; exact num_v) (a + 3) 1
    (pass C (l := 4) (by omega) (by omega) (by decide) (fol_no hF 4) (num5 C (by omega) h2)) ha _ rfl (C.b ha) ⟨hF.1, fol_lv hF 3⟩ (by decide) (2, 0) (by decide)
theorem some7 (C : PC toks n) {a dl : Nat} (ha : a + 3 ≤ n) {nv p m1 p1 nv2 p2 : Int} (h0 : tg toks a = (2, [50], nv, p)) (h1 : tg toks (a + 1) = (5, [42], m1, p1)) (h2 : tg toks (a + 2) = (2, [51], nv2, p2)) (hF : Fol (tg toks (a + 3))) : E0 toks n tb ex X 0 a (a + 3) (1, 0) dl :=
  to0 C (l := 4) (by omega) ha (by omega) (fol_no hF) fun dp bd hd => bin_x toks n C.hn C.hnl C.hok tb ex X a (by omega) dp bd dl hd 4 (by decide) (by decide) (a + 1) 1 (num5 C (by omega) h0) (by omega) [42] m1 p1 h1 (by unfold Bytes; decide) (by decide) (by decide) _ rfl (C.b (by omega)) (by rw [h2]; exact num_v) (by rw [h2]; exact num_v) (a + 3) 1
    (num5 C (by omega) h2) ha _ rfl (C.b ha) ⟨hF.1, fol_lv hF 4⟩ (by decide) (1, 0) (by decide)
end
end Go.Proofs.Ytnlnmbnopdklhaa.Ev
