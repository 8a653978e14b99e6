/- An evaluator of closed calls, part 3: what it reckons of a quiet operation holds. -/
import Derived.Test.YtfkbfnpjggkdmaaGreatDoorNEvB
import Derived.Laws.StructEq
namespace Go.Proofs.YtfkbfnpjggkdmaaGreatDoor.Ev
open Go.RowKit
variable {J : Ctx}
set_option linter.unusedVariables false
set_option linter.unusedSimpArgs false

structure TabOK (P : Program) (tb : Tab) (J : Ctx) : Prop where
  tt : ∀ t x, tb.tt.get t = some x → P.info? t = some x
  ft : ∀ f fn, tb.ft.get f = some fn → P.funcs[f]? = some fn
  et : ∀ t, tb.et.get t = some true → P.eqGuardType P.depth t = false ∧ P.stoodInHeld t = false
  nm : ∀ f fn, tb.ft.get f = some fn → fn.body.isSome = true → (fn.name == "runtime.NumGoroutine") = false
  mo : P.follows .mixedOrders = true
  ob : ∀ op b k n v, tb.ob op b k n = some v → ∀ M u t w, J.le M → VRel M (.opq b) u → (∃ j a, u = .int j a) ∧ ∃ x, (binOp op t u (.int k n)).run P w = .ok x w ∧ VRel M v x
  oc : ∀ b k v, tb.oc b k = some v → ∀ M u, J.le M → VRel M (.opq b) u → ∃ j n, u = .int j n ∧ VRel M v (.int k (k.wrap n))
  orc : ∀ f args h v, tb.orc f args h = some v → ∀ M N (w0 : Base J) (vs : Array Value) w, HRel M N w0 h w → LRel M args vs.toList →
    (∃ fn, P.funcs[f]? = some fn ∧ fn.body.isSome = true ∧ (fn.name == "runtime.NumGoroutine") = false) ∧
    Calls P f vs w fun e w' => ∃ u, e = .returned u ∧ VRel M v u ∧ Below w.heap.size w w'

section tables
variable {P : Program} {tb : Tab} (H : TabOK P tb J)
include H

theorem und_ok {t : Nat} {d : TypeDesc} (h : tb.und t = some d) : P.underlying t = some d := by
  unfold Tab.und at h
  split at h
  · rename_i x hx
    have hx := H.tt _ _ hx
    split at h
    · rename_i n u hd
      split at h
      · rename_i y hy
        simp only [Option.some.injEq] at h
        subst h
        unfold Program.underlying
        obtain ⟨desc, str, size, bytes, hp, al, fa, zero, comparable, methods⟩ := x
        simp only at hd
        subst hd
        rw [hx]
        simp [H.tt _ _ hy]
      · cases h
    · rename_i hne
      simp only [Option.some.injEq] at h
      subst h
      unfold Program.underlying
      obtain ⟨desc, str, size, bytes, hp, al, fa, zero, comparable, methods⟩ := x
      rw [hx]
      simp only at hne ⊢
      cases desc <;> first | rfl | exact absurd rfl (hne _ _)
  · cases h
theorem run_und {t : Nat} {d : TypeDesc} (h : tb.und t = some d) (w : World) : (underlying t).run P w = .ok d w := run_underlying (und_ok H h) w
theorem run_info {t : Nat} {x : TypeInfo} (h : tb.tt.get t = some x) (w : World) : (typeInfo t).run P w = .ok x w := by
  simp [typeInfo, H.tt _ _ h]
theorem run_size {t n : Nat} (h : tb.size t = some n) (w : World) : (sizeOf t).run P w = .ok n w := by
  unfold Tab.size at h
  split at h
  · rename_i x hx
    simp only [Option.some.injEq] at h
    subst h
    simp [sizeOf, run_info H hx]
  · cases h
theorem run_agg {t : Nat} {b : Bool} (h : tb.isAgg t = some b) (w : World) : (isAgg t).run P w = .ok b w := by
  unfold Tab.isAgg at h
  split at h
  · rename_i d hd
    simp only [Option.some.injEq] at h
    subst h
    simp only [isAgg, Sem.run_bind, run_und H hd, Result.andThen_ok]
    cases d <;> rfl
  · cases h
end tables

theorem ofCell_ok {v : Value} {a : AV} (h : ofCell v = some a) (M : Inj) : VRel M a v := by
  unfold ofCell at h
  split at h <;> simp at h <;> subst h
  · exact .bool _
  · exact .int _ _
  · exact .str _ _ rfl
  · exact .nilp
  · exact .nils
  · exact .nilf
  · exact .nili
  · exact .nilm
theorem ofCell_cell {v : Value} {a : AV} (h : ofCell v = some a) : a.isCell = true := by
  unfold ofCell at h
  split at h <;> simp at h <;> subst h <;> rfl
theorem ofCells_ok {l : List Value} {m : List AV} (h : ofCells l = some m) (M : Inj) : LRel M m l := by
  induction l generalizing m with
  | nil => simp [ofCells] at h; subst h; exact .nil M
  | cons v l ih =>
    unfold ofCells at h
    split at h
    · rename_i a ha
      split at h
      · rename_i m' hm
        simp only [Option.some.injEq] at h
        subst h
        exact .cons (ofCell_ok ha M) (ih hm)
      · cases h
    · cases h
theorem ofCells_cell {l : List Value} {m : List AV} (h : ofCells l = some m) : ∀ a ∈ m, a.isCell = true := by
  induction l generalizing m with
  | nil => simp [ofCells] at h; subst h; simp
  | cons v l ih =>
    unfold ofCells at h
    split at h
    · rename_i a ha
      split at h
      · rename_i m' hm
        simp only [Option.some.injEq] at h
        subst h
        intro x hx
        rcases List.mem_cons.1 hx with rfl | hx
        · exact ofCell_cell ha
        · exact ih hm x hx
      · cases h
    · cases h
theorem ofVal_ok {v : Value} {a : AV} (h : ofVal v = some a) (M : Inj) : VRel M a v := by
  unfold ofVal at h
  split at h
  · rename_i cs
    split at h
    · rename_i l hl
      simp only [Option.some.injEq] at h
      subst h
      have := (ofCells_ok hl M).agg
      simpa using this
    · cases h
  · exact ofCell_ok h M
theorem ofVal_cells {v : Value} {a : AV} (h : ofVal v = some a) : ∀ x ∈ a.cells, x.isCell = true := by
  unfold ofVal at h
  split at h
  · rename_i cs
    split at h
    · rename_i l hl
      simp only [Option.some.injEq] at h
      subst h
      exact ofCells_cell hl
    · cases h
  · have hc := ofCell_cell h
    intro x hx
    cases a <;> simp_all [AV.cells, AV.isCell]
theorem zero_ok {P : Program} {tb : Tab} (H : TabOK P tb J) {t : Nat} {z : AV} (h : tb.zero t = some z) (w : World) :
    ∃ v, (zeroValue t).run P w = .ok v w ∧ (∀ M, VRel M z v) ∧ (∀ x ∈ z.cells, x.isCell = true) := by
  unfold Tab.zero at h
  split at h
  · rename_i x hx
    split at h
    · rename_i v hv
      refine ⟨v, ?_, fun M => ofVal_ok h M, ofVal_cells h⟩
      simp only [zeroValue, Sem.run_bind, run_info H hx, Result.andThen_ok, hv, Sem.run_pure]
    · cases h
  · cases h

/-- Slots: what the evaluator knows of them holds. -/
def TRel (M : Inj) (tm : T AV) (a : Act) : Prop := ∀ t v, tm.get t = some v → VRel M v (a.tmps.getD t undef)
theorem TRel.mono {M M' : Inj} (hM : M.le M') {tm : T AV} {a : Act} (h : TRel M tm a) : TRel M' tm a := fun t v hv => (h t v hv).mono hM

theorem opnd_ok {M : Inj} {tm : T AV} {a : Act} (h : TRel M tm a) {x : Operand} {v : AV} (hx : opnd tm x = some v) : VRel M v (a.eval x) := by
  unfold opnd at hx
  split at hx
  · exact h _ _ hx
  · exact ofVal_ok hx M
  · simp only [Option.some.injEq] at hx
    subst hx
    exact .func _ [] #[] rfl (fun i v u h => by simp at h)
  · cases hx
theorem opnds_ok {M : Inj} {tm : T AV} {a : Act} (h : TRel M tm a) {l : List Operand} {vs : List AV} (hx : opnds tm l = some vs) : LRel M vs (l.map a.eval) := by
  induction l generalizing vs with
  | nil => simp [opnds] at hx; subst hx; exact .nil M
  | cons x l ih =>
    unfold opnds at hx
    split at hx
    · rename_i v hv
      split at hx
      · rename_i m hm
        simp only [Option.some.injEq] at hx
        subst hx
        exact .cons (opnd_ok h hv) (ih hm)
      · cases hx
    · cases hx
/-- Parts with their places. -/
def PRel (M : Inj) : List (Nat × AV) → List (Nat × Value) → Prop
  | [], [] => True
  | (i, a) :: l, (j, v) :: m => i = j ∧ VRel M a v ∧ PRel M l m
  | _, _ => False
theorem opndPairs_ok {M : Inj} {tm : T AV} {a : Act} (h : TRel M tm a) {l : List (Nat × Operand)} {vs : List (Nat × AV)} (hx : opndPairs tm l = some vs) :
    PRel M vs (l.map fun (i, x) => (i, a.eval x)) := by
  induction l generalizing vs with
  | nil => simp [opndPairs] at hx; subst hx; exact trivial
  | cons p l ih =>
    obtain ⟨i, x⟩ := p
    unfold opndPairs at hx
    split at hx
    · rename_i v hv
      split at hx
      · rename_i m hm
        simp only [Option.some.injEq] at hx
        subst hx
        exact ⟨rfl, opnd_ok h hv, ih hm⟩
      · cases hx
    · cases hx

theorem layL_length : ∀ (l : List AV) (o : Nat) (m : List AV), (layL l o m).length = l.length
  | l, _, [] => by cases l <;> simp [layL]
  | [], _, _ :: _ => by simp [layL]
  | _ :: l, 0, b :: m => by simp [layL, layL_length l 0 m]
  | a :: l, o + 1, b :: m => by simp [layL, layL_length l o (b :: m)]
theorem layL_get : ∀ (l : List AV) (o : Nat) (m : List AV) (k : Nat), (layL l o m)[k]? = if o ≤ k ∧ k < o + m.length ∧ k < l.length then m[k - o]? else l[k]?
  | l, o, [], k => by
    have : ¬ (o ≤ k ∧ k < o + ([] : List AV).length ∧ k < l.length) := by simp; omega
    rw [if_neg this]
    cases l <;> simp [layL]
  | [], o, b :: m, k => by simp [layL]
  | a :: l, 0, b :: m, k => by
    cases k with
    | zero => simp [layL]
    | succ k => simp [layL, layL_get l 0 m k]
  | a :: l, o + 1, b :: m, k => by
    cases k with
    | zero => simp [layL]
    | succ k =>
      simp only [layL, List.getElem?_cons_succ, layL_get l o (b :: m) k, List.length_cons]
      have e : k + 1 - (o + 1) = k - o := by omega
      rw [e]
      have : (o ≤ k ∧ k < o + (m.length + 1) ∧ k < l.length) ↔ (o + 1 ≤ k + 1 ∧ k + 1 < o + 1 + (m.length + 1) ∧ k + 1 < l.length + 1) := by omega
      simp only [this]

/-- The model's way of laying cells. -/
theorem foldl_lay (off : Nat) : ∀ (vs : List Value) (i : Nat) (cs : Array Value),
    ((vs.zipIdx i).foldl (fun cs (x : Value × Nat) => cs.setIfInBounds (off + x.2) x.1) cs).size = cs.size ∧
    ∀ k, ((vs.zipIdx i).foldl (fun cs (x : Value × Nat) => cs.setIfInBounds (off + x.2) x.1) cs)[k]? =
      if off + i ≤ k ∧ k < off + i + vs.length ∧ k < cs.size then vs[k - (off + i)]? else cs[k]? := by
  intro vs
  induction vs with
  | nil => intro i cs; simp; intro k h1 h2; omega
  | cons v vs ih =>
    intro i cs
    simp only [List.zipIdx_cons, List.foldl_cons]
    obtain ⟨h1, h2⟩ := ih (i + 1) (cs.setIfInBounds (off + i) v)
    refine ⟨by rw [h1]; simp, fun k => ?_⟩
    rw [h2 k]
    simp only [Array.size_setIfInBounds, List.length_cons]
    by_cases hk : k = off + i
    · subst hk
      have n1 : ¬ (off + (i + 1) ≤ off + i ∧ off + i < off + (i + 1) + vs.length ∧ off + i < cs.size) := by omega
      rw [if_neg n1]
      by_cases hb : off + i < cs.size
      · have p1 : off + i ≤ off + i ∧ off + i < off + i + (vs.length + 1) ∧ off + i < cs.size := by omega
        rw [if_pos p1]
        simp [hb]
      · have n2 : ¬ (off + i ≤ off + i ∧ off + i < off + i + (vs.length + 1) ∧ off + i < cs.size) := by omega
        rw [if_neg n2]
        simp [Array.getElem?_eq_none (show cs.size ≤ off + i by omega), hb]
    · rw [Array.getElem?_setIfInBounds_ne (fun h => hk h.symm)]
      by_cases hc : off + (i + 1) ≤ k ∧ k < off + (i + 1) + vs.length ∧ k < cs.size
      · have hc' : off + i ≤ k ∧ k < off + i + (vs.length + 1) ∧ k < cs.size := by omega
        rw [if_pos hc, if_pos hc']
        have e : k - (off + i) = (k - (off + (i + 1))) + 1 := by omega
        rw [e, List.getElem?_cons_succ]
      · have hc' : ¬ (off + i ≤ k ∧ k < off + i + (vs.length + 1) ∧ k < cs.size) := by omega
        rw [if_neg hc, if_neg hc']
theorem lay_rel {M : Inj} {l m : List AV} {cs vs : List Value} (h : LRel M l cs) (hm : LRel M m vs) (o : Nat) (cs' : List Value) (hs : cs'.length = cs.length)
    (hg : ∀ k, cs'[k]? = if o ≤ k ∧ k < o + vs.length ∧ k < cs.length then vs[k - o]? else cs[k]?) : LRel M (layL l o m) cs' := by
  refine ⟨by rw [hs, h.1, layL_length], fun i a b ha hb => ?_⟩
  rw [layL_get] at ha
  rw [hg] at hb
  rw [hm.1, h.1] at hb
  split at ha
  · rename_i hc
    rw [if_pos hc] at hb
    exact hm.2 _ _ _ ha hb
  · rename_i hc
    rw [if_neg hc] at hb
    exact h.2 _ _ _ ha hb
theorem fillA_ok {M : Inj} {place : Nat → Option (Nat × Nat)} : ∀ {ps : List (Nat × AV)} {qs : List (Nat × Value)} {l r : List AV} {cs : Array Value}, PRel M ps qs → LRel M l cs.toList →
    fillA place l ps = some r → ∃ cs', Instr.fill place cs qs = some cs' ∧ LRel M r cs'.toList
  | [], [], l, r, cs, hp, hl, h => by
    simp only [fillA, Option.some.injEq] at h
    subst h
    exact ⟨cs, by simp [Instr.fill], hl⟩
  | (i, a) :: ps, (j, v) :: qs, l, r, cs, hp, hl, h => by
    obtain ⟨rfl, hv, hp⟩ := hp
    unfold fillA at h
    split at h
    · cases h
    · rename_i off size hpl
      split at h
      · rename_i hb
        simp only [Bool.and_eq_true, Nat.beq_eq, Nat.ble_eq] at hb
        have hc := hv.cells
        have hz : v.cells.size = size := by rw [← hb.1, ← hc.1]; simp
        have hl1 : cs.size = l.length := by simpa using hl.1
        obtain ⟨f1, f2⟩ := foldl_lay off v.cells.toList 0 cs
        generalize hff : (v.cells.toList.zipIdx 0).foldl (fun cs (x : Value × Nat) => cs.setIfInBounds (off + x.2) x.1) cs = ff at f1 f2
        have hrel := lay_rel hl hc off ff.toList (by simpa using f1) (fun k => by have := f2 k; simpa using this)
        obtain ⟨cs', e1, e2⟩ := fillA_ok hp hrel h
        refine ⟨cs', ?_, e2⟩
        unfold Instr.fill
        simp only [hpl]
        have hn : ¬ ((v.cells.size ≠ size || decide (off + v.cells.size > cs.size)) = true) := by
          rw [hz, hl1]; simp; omega
        rw [if_neg (by simpa using hn)]
        rw [← e1, ← hff, ← Array.foldl_toList]
        simp
      · cases h
  | [], _ :: _, _, _, _, hp, _, _ => hp.elim
  | _ :: _, [], _, _, _, hp, _, _ => by simp [PRel] at hp

section quiet
variable {P : Program} {tb : Tab} (H : TabOK P tb J)
include H

theorem part_ok {M : Inj} {t : Nat} {cs : List AV} {vs : Array Value} {off : Nat} {a : AV} (hl : LRel M cs vs.toList) (h : partA tb t cs off = some a) (w : World) :
    ∃ u, (part t vs off).run P w = .ok u w ∧ VRel M a u := by
  unfold partA at h
  split at h
  · rename_i hagg
    split at h
    · rename_i n hn
      simp only [Option.some.injEq] at h
      subst h
      refine ⟨.agg (vs.extract off (off + n)), ?_, ?_⟩
      · simp [part, run_agg H hagg, run_size H hn]
      · have := ((hl.drop off).take n).agg
        have e : (vs.extract off (off + n)).toList = (vs.toList.drop off).take n := by simp
        rw [← Array.toArray_toList (xs := vs.extract off (off + n)), e]
        exact this
    · cases h
  · rename_i hagg
    obtain ⟨u, hu, hr⟩ := hl.get h
    refine ⟨u, ?_, hr⟩
    have hu' : vs[off]? = some u := by simpa using hu
    simp [part, run_agg H hagg, hu']
  · cases h
end quiet

end Go.Proofs.YtfkbfnpjggkdmaaGreatDoor.Ev
