/- An evaluator of closed calls, part 3: what it reckons of a quiet operation holds. -/
import Derived.Test.YtfkbfnpjggkdmaaGreatDoorOEvB
import Derived.Laws.StructEq
import Derived.IntWalk
namespace Go.Proofs.YtfkbfnpjggkdmaaGreatDoor.Ev
open Go.RowKit
variable {J : Ctx}

structure TabOK (P : Program) (tb : Tab) (J : Ctx) : Prop where
 tt : ∀ t x, tb.tt.get t = some x → P.info? t = some x
 ft : ∀ f fn, tb.ft.get f = some fn → P.funcs[f]? = some fn
 et : ∀ t, tb.et.get t = some true → P.eqGuardType P.depth t = false ∧ P.stoodInHeld t = false
 nm : ∀ f fn, tb.ft.get f = some fn → fn.body.isSome = true → (fn.name == "runtime.NumGoroutine") = false
 mo : P.follows .mixedOrders = true
 ob : ∀ op b k n v, tb.ob op b k n = some v → ∀ M u t w, J.le M → VRel M (.opq b) u → (∃ j a, u = .int j a) ∧ ∃ x, (binOp op t u (.int k n)).run P w = .ok x w ∧ VRel M v x
 oc : ∀ b k v, tb.oc b k = some v → ∀ M u, J.le M → VRel M (.opq b) u → ∃ j n, u = .int j n ∧ VRel M v (.int k (k.wrap n))
 orc : ∀ f args h v, tb.orc f args h = some v → ∀ M N (w0 : Base J) (vs : Array Value) w, HRel M N w0 h w → LRel M args vs.toList →
  (∃ fn, P.funcs[f]? = some fn ∧ fn.body.isSome = true ∧ (fn.name == "runtime.NumGoroutine") = false) ∧
  Calls P f vs w fun e w' => ∃ u, e = .returned u ∧ VRel M v u ∧ Below w.heap.size w w'

section tables
variable {P : Program} {tb : Tab} (H : TabOK P tb J)
include H

theorem und_ok {t : Nat} {d : TypeDesc} (h : tb.und t = some d) : P.underlying t = some d := by
 unfold Tab.und at h
 split at h
 ·rename_i x hx
  have hx := H.tt _ _ hx
  split at h
  ·rename_i n u hd
   split at h
   ·rename_i y hy
    simp only [Option.some.injEq] at h
    subst h
    unfold Program.underlying
    obtain ⟨desc, str, size, bytes, hp, al, fa, zero, comparable, methods⟩ := x
    simp only at hd
    subst hd
    rw [hx]
    simp [H.tt _ _ hy]
   ·cases h
  ·rename_i hne
   simp only [Option.some.injEq] at h
   subst h
   unfold Program.underlying
   obtain ⟨desc, str, size, bytes, hp, al, fa, zero, comparable, methods⟩ := x
   rw [hx]
   simp only at hne ⊢
   cases desc <;> first | rfl | exact absurd rfl (hne _ _)
 ·cases h
theorem run_und {t : Nat} {d : TypeDesc} (h : tb.und t = some d) (w : World) : (underlying t).run P w = .ok d w := run_underlying (und_ok H h) w
theorem run_info {t : Nat} {x : TypeInfo} (h : tb.tt.get t = some x) (w : World) : (typeInfo t).run P w = .ok x w := by
 simp [typeInfo, H.tt _ _ h]
theorem run_size {t n : Nat} (h : tb.size t = some n) (w : World) : (sizeOf t).run P w = .ok n w := by
 unfold Tab.size at h
 split at h
 ·rename_i x hx
  simp only [Option.some.injEq] at h
  subst h
  simp [sizeOf, run_info H hx]
 ·cases h
theorem run_agg {t : Nat} {b : Bool} (h : tb.isAgg t = some b) (w : World) : (isAgg t).run P w = .ok b w := by
 unfold Tab.isAgg at h
 split at h
 ·rename_i d hd
  simp only [Option.some.injEq] at h
  subst h
  simp only [isAgg, Sem.run_bind, run_und H hd, Result.andThen_ok]
  cases d <;> rfl
 ·cases h
end tables

theorem ofCell_ok {v : Value} {a : AV} (h : ofCell v = some a) (M : Inj) : VRel M a v := by
 unfold ofCell at h
 split at h <;> simp at h <;> subst h
 ·exact .bool _
 ·exact .int _ _
 ·exact .str _ _ rfl
 ·exact .nilp
 ·exact .nils
 ·exact .nilf
 ·exact .nili
 ·exact .nilm
theorem ofCell_cell {v : Value} {a : AV} (h : ofCell v = some a) : a.isCell = true := by
 unfold ofCell at h
 split at h <;> simp at h <;> subst h <;> rfl
theorem ofCells_ok {l : List Value} {m : List AV} (h : ofCells l = some m) (M : Inj) : LRel M m l := by
 induction l generalizing m with
 | nil => simp [ofCells] at h; subst h; exact .nil M
 | cons v l ih =>
  unfold ofCells at h
  split at h
  ·rename_i a ha
   split at h
   ·rename_i m' hm
    simp only [Option.some.injEq] at h
    subst h
    exact .cons (ofCell_ok ha M) (ih hm)
   ·cases h
  ·cases h
theorem ofCells_cell {l : List Value} {m : List AV} (h : ofCells l = some m) : ∀ a ∈ m, a.isCell = true := by
 induction l generalizing m with
 | nil => simp [ofCells] at h; subst h; simp
 | cons v l ih =>
  unfold ofCells at h
  split at h
  ·rename_i a ha
   split at h
   ·rename_i m' hm
    simp only [Option.some.injEq] at h
    subst h
    intro x hx
    rcases List.mem_cons.1 hx with rfl | hx
    ·exact ofCell_cell ha
    ·exact ih hm x hx
   ·cases h
  ·cases h
theorem ofVal_ok {v : Value} {a : AV} (h : ofVal v = some a) (M : Inj) : VRel M a v := by
 unfold ofVal at h
 split at h
 ·rename_i cs
  split at h
  ·rename_i l hl
   simp only [Option.some.injEq] at h
   subst h
   have := (ofCells_ok hl M).agg
   simpa using this
  ·cases h
 ·exact ofCell_ok h M
theorem ofVal_cells {v : Value} {a : AV} (h : ofVal v = some a) : ∀ x ∈ a.cells, x.isCell = true := by
 unfold ofVal at h
 split at h
 ·rename_i cs
  split at h
  ·rename_i l hl
   simp only [Option.some.injEq] at h
   subst h
   exact ofCells_cell hl
  ·cases h
 ·have hc := ofCell_cell h
  intro x hx
  cases a <;> simp_all [AV.cells, AV.isCell]
theorem zero_ok {P : Program} {tb : Tab} (H : TabOK P tb J) {t : Nat} {z : AV} (h : tb.zero t = some z) (w : World) :
  ∃ v, (zeroValue t).run P w = .ok v w ∧ (∀ M, VRel M z v) ∧ (∀ x ∈ z.cells, x.isCell = true) := by
 unfold Tab.zero at h
 split at h
 ·rename_i x hx
  split at h
  ·rename_i v hv
   refine ⟨v, ?_, fun M => ofVal_ok h M, ofVal_cells h⟩
   simp only [zeroValue, Sem.run_bind, run_info H hx, Result.andThen_ok, hv, Sem.run_pure]
  ·cases h
 ·cases h

def TRel (M : Inj) (tm : T AV) (a : Act) : Prop := ∀ t v, tm.get t = some v → VRel M v (a.tmps.getD t undef)
theorem TRel.mono {M M' : Inj} (hM : M.le M') {tm : T AV} {a : Act} (h : TRel M tm a) : TRel M' tm a := fun t v hv => (h t v hv).mono hM

theorem opk {M : Inj} {tm : T AV} {a : Act} (h : TRel M tm a) {x : Operand} {v : AV} (hx : opnd tm x = some v) : VRel M v (a.eval x) := by
 unfold opnd at hx
 split at hx
 ·exact h _ _ hx
 ·exact ofVal_ok hx M
 ·simp only [Option.some.injEq] at hx
  subst hx
  exact .func _ [] #[] rfl (fun i v u h => by simp at h)
 ·cases hx
theorem opnds_ok {M : Inj} {tm : T AV} {a : Act} (h : TRel M tm a) {l : List Operand} {vs : List AV} (hx : opnds tm l = some vs) : LRel M vs (l.map a.eval) := by
 induction l generalizing vs with
 | nil => simp [opnds] at hx; subst hx; exact .nil M
 | cons x l ih =>
  unfold opnds at hx
  split at hx
  ·rename_i v hv
   split at hx
   ·rename_i m hm
    simp only [Option.some.injEq] at hx
    subst hx
    exact .cons (opk h hv) (ih hm)
   ·cases hx
  ·cases hx
def PRel (M : Inj) : List (Nat × AV) → List (Nat × Value) → Prop
 | [], [] => True
 | (i, a) :: l, (j, v) :: m => i = j ∧ VRel M a v ∧ PRel M l m
 | _, _ => False
theorem opndPairs_ok {M : Inj} {tm : T AV} {a : Act} (h : TRel M tm a) {l : List (Nat × Operand)} {vs : List (Nat × AV)} (hx : opndPairs tm l = some vs) :
  PRel M vs (l.map fun (i, x) => (i, a.eval x)) := by
 induction l generalizing vs with
 | nil => simp [opndPairs] at hx; subst hx; exact trivial
 | cons p l ih =>
  obtain ⟨i, x⟩ := p
  unfold opndPairs at hx
  split at hx
  ·rename_i v hv
   split at hx
   ·rename_i m hm
    simp only [Option.some.injEq] at hx
    subst hx
    exact ⟨rfl, opk h hv, ih hm⟩
   ·cases hx
  ·cases hx

theorem layL_length : ∀ (l : List AV) (o : Nat) (m : List AV), (layL l o m).length = l.length
 | l, _, [] => by cases l <;> simp [layL]
 | [], _, _ :: _ => by simp [layL]
 | _ :: l, 0, b :: m => by simp [layL, layL_length l 0 m]
 | a :: l, o + 1, b :: m => by simp [layL, layL_length l o (b :: m)]
theorem layL_get : ∀ (l : List AV) (o : Nat) (m : List AV) (k : Nat), (layL l o m)[k]? = if o ≤ k ∧ k < o + m.length ∧ k < l.length then m[k - o]? else l[k]?
 | l, o, [], k => by
  have : ¬ (o ≤ k ∧ k < o + ([] : List AV).length ∧ k < l.length) := by simp; omega
  rw [if_neg this]
  cases l <;> simp [layL]
 | [], o, b :: m, k => by simp [layL]
 | a :: l, 0, b :: m, k => by
  cases k with
  | zero => simp [layL]
  | succ k => simp [layL, layL_get l 0 m k]
 | a :: l, o + 1, b :: m, k => by
  cases k with
  | zero => simp [layL]
  | succ k =>
   simp only [layL, List.getElem?_cons_succ, layL_get l o (b :: m) k, List.length_cons]
   have e : k + 1 - (o + 1) = k - o := by omega
   rw [e]
   have : (o ≤ k ∧ k < o + (m.length + 1) ∧ k < l.length) ↔ (o + 1 ≤ k + 1 ∧ k + 1 < o + 1 + (m.length + 1) ∧ k + 1 < l.length + 1) := by omega
   simp only [this]

theorem foldl_lay (off : Nat) : ∀ (vs : List Value) (i : Nat) (cs : Array Value),
  ((vs.zipIdx i).foldl (fun cs (x : Value × Nat) => cs.setIfInBounds (off + x.2) x.1) cs).size = cs.size ∧
  ∀ k, ((vs.zipIdx i).foldl (fun cs (x : Value × Nat) => cs.setIfInBounds (off + x.2) x.1) cs)[k]? =
   if off + i ≤ k ∧ k < off + i + vs.length ∧ k < cs.size then vs[k - (off + i)]? else cs[k]? := by
 intro vs
 induction vs with
 | nil => intro i cs; simp; intro k h1 h2; omega
 | cons v vs ih =>
  intro i cs
  simp only [List.zipIdx_cons, List.foldl_cons]
  obtain ⟨h1, h2⟩ := ih (i + 1) (cs.setIfInBounds (off + i) v)
  refine ⟨by rw [h1]; simp, fun k => ?_⟩
  rw [h2 k]
  simp only [Array.size_setIfInBounds, List.length_cons]
  by_cases hk : k = off + i
  ·subst hk
   have n1 : ¬ (off + (i + 1) ≤ off + i ∧ off + i < off + (i + 1) + vs.length ∧ off + i < cs.size) := by omega
   rw [if_neg n1]
   by_cases hb : off + i < cs.size
   ·have p1 : off + i ≤ off + i ∧ off + i < off + i + (vs.length + 1) ∧ off + i < cs.size := by omega
    rw [if_pos p1]
    simp [hb]
   ·have n2 : ¬ (off + i ≤ off + i ∧ off + i < off + i + (vs.length + 1) ∧ off + i < cs.size) := by omega
    rw [if_neg n2]
    simp [Array.getElem?_eq_none (show cs.size ≤ off + i by omega), hb]
  ·rw [Array.getElem?_setIfInBounds_ne (fun h => hk h.symm)]
   by_cases hc : off + (i + 1) ≤ k ∧ k < off + (i + 1) + vs.length ∧ k < cs.size
   ·have hc' : off + i ≤ k ∧ k < off + i + (vs.length + 1) ∧ k < cs.size := by omega
    rw [if_pos hc, if_pos hc']
    have e : k - (off + i) = (k - (off + (i + 1))) + 1 := by omega
    rw [e, List.getElem?_cons_succ]
   ·have hc' : ¬ (off + i ≤ k ∧ k < off + i + (vs.length + 1) ∧ k < cs.size) := by omega
    rw [if_neg hc, if_neg hc']
theorem lay_rel {M : Inj} {l m : List AV} {cs vs : List Value} (h : LRel M l cs) (hm : LRel M m vs) (o : Nat) (cs' : List Value) (hs : cs'.length = cs.length)
  (hg : ∀ k, cs'[k]? = if o ≤ k ∧ k < o + vs.length ∧ k < cs.length then vs[k - o]? else cs[k]?) : LRel M (layL l o m) cs' := by
 refine ⟨by rw [hs, h.1, layL_length], fun i a b ha hb => ?_⟩
 rw [layL_get] at ha
 rw [hg] at hb
 rw [hm.1, h.1] at hb
 split at ha
 ·rename_i hc
  rw [if_pos hc] at hb
  exact hm.2 _ _ _ ha hb
 ·rename_i hc
  rw [if_neg hc] at hb
  exact h.2 _ _ _ ha hb
theorem fillA_ok {M : Inj} {place : Nat → Option (Nat × Nat)} : ∀ {ps : List (Nat × AV)} {qs : List (Nat × Value)} {l r : List AV} {cs : Array Value}, PRel M ps qs → LRel M l cs.toList →
  fillA place l ps = some r → ∃ cs', Instr.fill place cs qs = some cs' ∧ LRel M r cs'.toList
 | [], [], l, r, cs, hp, hl, h => by
  simp only [fillA, Option.some.injEq] at h
  subst h
  exact ⟨cs, by simp [Instr.fill], hl⟩
 | (i, a) :: ps, (j, v) :: qs, l, r, cs, hp, hl, h => by
  obtain ⟨rfl, hv, hp⟩ := hp
  unfold fillA at h
  split at h
  ·cases h
  ·rename_i off size hpl
   split at h
   ·rename_i hb
    simp only [Bool.and_eq_true, Nat.beq_eq, Nat.ble_eq] at hb
    have hc := hv.cells
    have hz : v.cells.size = size := by rw [← hb.1, ← hc.1]; simp
    have hl1 : cs.size = l.length := by simpa using hl.1
    obtain ⟨f1, f2⟩ := foldl_lay off v.cells.toList 0 cs
    generalize hff : (v.cells.toList.zipIdx 0).foldl (fun cs (x : Value × Nat) => cs.setIfInBounds (off + x.2) x.1) cs = ff at f1 f2
    have hrel := lay_rel hl hc off ff.toList (by simpa using f1) (fun k => by have := f2 k; simpa using this)
    obtain ⟨cs', e1, e2⟩ := fillA_ok hp hrel h
    refine ⟨cs', ?_, e2⟩
    unfold Instr.fill
    simp only [hpl]
    have hn : ¬ ((v.cells.size ≠ size || decide (off + v.cells.size > cs.size)) = true) := by
     rw [hz, hl1]; simp; omega
    rw [if_neg (by simpa using hn)]
    rw [← e1, ← hff, ← Array.foldl_toList]
    simp
   ·cases h
 | [], _ :: _, _, _, _, hp, _, _ => hp.elim
 | _ :: _, [], _, _, _, hp, _, _ => by simp [PRel] at hp

section quiet
variable {P : Program} {tb : Tab} (H : TabOK P tb J)
include H

theorem part_ok {M : Inj} {t : Nat} {cs : List AV} {vs : Array Value} {off : Nat} {a : AV} (hl : LRel M cs vs.toList) (h : partA tb t cs off = some a) (w : World) :
  ∃ u, (part t vs off).run P w = .ok u w ∧ VRel M a u := by
 unfold partA at h
 split at h
 ·rename_i hagg
  split at h
  ·rename_i n hn
   simp only [Option.some.injEq] at h
   subst h
   refine ⟨.agg (vs.extract off (off + n)), ?_, ?_⟩
   ·simp [part, run_agg H hagg, run_size H hn]
   ·have := ((hl.drop off).take n).agg
    have e : (vs.extract off (off + n)).toList = (vs.toList.drop off).take n := by simp
    rw [← Array.toArray_toList (xs := vs.extract off (off + n)), e]
    exact this
  ·cases h
 ·rename_i hagg
  obtain ⟨u, hu, hr⟩ := hl.get h
  refine ⟨u, ?_, hr⟩
  have hu' : vs[off]? = some u := by simpa using hu
  simp [part, run_agg H hagg, hu']
 ·cases h
end quiet

variable {J : Ctx}

theorem wrapA_eq (k : IntKind) (n : Int) : wrapA k n = k.wrap n := by
 unfold wrapA
 split
 ·rename_i h
  cases k <;> cases n <;> simp only [inKind, Nat.ble_eq, Bool.false_eq_true] at h
  case i32.ofNat m => exact (IntWalk.i32_in _ (by simp only [Int.ofNat_eq_natCast]; omega)).symm
  case i32.negSucc m => exact (IntWalk.i32_in _ (by simp only [Int.negSucc_eq]; omega)).symm
  case i64.ofNat m => exact (IntWalk.i64_in _ (by simp only [Int.ofNat_eq_natCast]; omega)).symm
  case i64.negSucc m => exact (IntWalk.i64_in _ (by simp only [Int.negSucc_eq]; omega)).symm
  case u8.ofNat m => exact (IntWalk.u8_in _ (by simp only [Int.ofNat_eq_natCast]; omega)).symm
  case u32.ofNat m => exact (IntWalk.u32_in _ (by simp only [Int.ofNat_eq_natCast]; omega)).symm
  case u64.ofNat m => exact (IntWalk.u64_in _ (by simp only [Int.ofNat_eq_natCast]; omega)).symm
 ·rfl
theorem ltA_eq (a b : Int) : ltA a b = decide (a < b) := by
 rw [Bool.eq_iff_iff]
 cases a <;> cases b <;> simp [ltA, Nat.blt_eq, Int.negSucc_eq] <;> omega
theorem eqA_eq (a b : Int) : eqA a b = (a == b) := by
 rw [Bool.eq_iff_iff]
 cases a <;> cases b <;> simp [eqA, Int.negSucc_eq] <;> omega
theorem not_lt_dec (a b : Int) : (!(decide (b < a))) = decide (a ≤ b) := by
 rw [Bool.eq_iff_iff]; simp

section bins
variable {P : Program}
theorem guard_other (op : BinOp) (t : TypeId) (x y : Operand) (a b : Value) (w : World)
  (h : ∀ c d, ¬ (a = .agg c ∧ b = .agg d)) (h' : a ≠ .nilIface) : (eqGuard op t x y a b).run P w = .ok () w := by
 unfold eqGuard
 cases op <;> simp <;> split <;> first | rfl | (exact absurd rfl h') | (exact absurd ⟨rfl, rfl⟩ (h _ _)) | simp_all

theorem intBin_ok (M : Inj) {op : BinOp} {k : IntKind} {a b : Int} {v : AV} (t : TypeId) (h : intBin op k a b = some v) (w : World) :
  ∃ u, (binOp op t (.int k a) (.int k b)).run P w = .ok u w ∧ VRel M v u := by
 unfold intBin at h
 cases op <;> simp only at h
 case add => simp only [Option.some.injEq] at h; subst h; exact ⟨.int k (k.wrap (a + b)), by simp [binOp, Op.intArith], by rw [wrapA_eq]; exact .int _ _⟩
 case sub => simp only [Option.some.injEq] at h; subst h; exact ⟨.int k (k.wrap (a - b)), by simp [binOp, Op.intArith], by rw [wrapA_eq]; exact .int _ _⟩
 case mul => simp only [Option.some.injEq] at h; subst h; exact ⟨.int k (k.wrap (a * b)), by simp [binOp, Op.intArith], by rw [wrapA_eq]; exact .int _ _⟩
 case quo =>
  split at h
  ·cases h
  ·rename_i he
   rw [eqA_eq] at he
   have hb : b ≠ 0 := by simpa using he
   simp only [Option.some.injEq] at h; subst h
   exact ⟨.int k (k.wrap (a.tdiv b)), by simp [binOp, Op.intDiv, hb], by rw [wrapA_eq]; exact .int _ _⟩
 case rem =>
  split at h
  ·cases h
  ·rename_i he
   rw [eqA_eq] at he
   have hb : b ≠ 0 := by simpa using he
   simp only [Option.some.injEq] at h; subst h
   exact ⟨.int k (a.tmod b), by simp [binOp, Op.intDiv, hb], .int _ _⟩
 case and => simp only [Option.some.injEq] at h; subst h; exact ⟨.int k (k.wrap (BitVec.ofInt k.bits a &&& BitVec.ofInt k.bits b).toNat), by simp [binOp, Op.intBits], by unfold bitsA; rw [wrapA_eq]; exact .int _ _⟩
 case or => simp only [Option.some.injEq] at h; subst h; exact ⟨.int k (k.wrap (BitVec.ofInt k.bits a ||| BitVec.ofInt k.bits b).toNat), by simp [binOp, Op.intBits], by unfold bitsA; rw [wrapA_eq]; exact .int _ _⟩
 case xor => simp only [Option.some.injEq] at h; subst h; exact ⟨.int k (k.wrap (BitVec.ofInt k.bits a ^^^ BitVec.ofInt k.bits b).toNat), by simp [binOp, Op.intBits], by unfold bitsA; rw [wrapA_eq]; exact .int _ _⟩
 case andNot => simp only [Option.some.injEq] at h; subst h; exact ⟨.int k (k.wrap (BitVec.ofInt k.bits a &&& ~~~(BitVec.ofInt k.bits b)).toNat), by simp [binOp, Op.intBits], by unfold bitsA; rw [wrapA_eq]; exact .int _ _⟩
 case eql => simp only [Option.some.injEq] at h; subst h; exact ⟨.bool (a == b), by simp [binOp, Op.intCmp], by rw [eqA_eq]; exact .bool _⟩
 case neq => simp only [Option.some.injEq] at h; subst h; exact ⟨.bool (a != b), by simp [binOp, Op.intCmp], by rw [eqA_eq]; exact .bool _⟩
 case lss => simp only [Option.some.injEq] at h; subst h; exact ⟨.bool (a < b), by simp [binOp, Op.intCmp], by rw [ltA_eq]; exact .bool _⟩
 case leq => simp only [Option.some.injEq] at h; subst h; exact ⟨.bool (a ≤ b), by simp [binOp, Op.intCmp], by rw [ltA_eq, not_lt_dec]; exact .bool _⟩
 case gtr => simp only [Option.some.injEq] at h; subst h; exact ⟨.bool (a > b), by simp [binOp, Op.intCmp], by rw [ltA_eq]; exact .bool _⟩
 case geq => simp only [Option.some.injEq] at h; subst h; exact ⟨.bool (a ≥ b), by simp [binOp, Op.intCmp], by rw [ltA_eq, not_lt_dec]; exact .bool _⟩
 all_goals cases h
theorem shift_ok (M : Inj) {op : BinOp} (hop : op = .shl ∨ op = .shr) {k j : IntKind} {a b : Int} {v : AV} (t : TypeId) (h : shiftA op k a b = some v) (w : World) :
  ∃ u, (binOp op t (.int k a) (.int j b)).run P w = .ok u w ∧ VRel M v u := by
 unfold shiftA at h
 split at h
 ·cases h
 ·rename_i hl
  rw [ltA_eq] at hl
  have hb : ¬ b < 0 := by simpa using hl
  rcases hop with rfl | rfl <;> simp only [Option.some.injEq] at h <;> subst h
  ·exact ⟨.int k (k.wrap (a * 2 ^ (min b.toNat k.bits))), by simp [binOp, Op.shift, hb], by rw [wrapA_eq]; exact .int _ _⟩
  ·exact ⟨.int k (a.fdiv (2 ^ (min b.toNat k.bits))), by simp [binOp, Op.shift, hb], .int _ _⟩

theorem listBeq_eq : ∀ l m : List Nat, listBeq l m = (l == m)
 | [], [] => by simp [listBeq]
 | a :: l, b :: m => by
  cases hb : Nat.beq a b
  ·have : a ≠ b := by intro e; subst e; simp at hb
   simp [listBeq, hb, this]
  ·have : a = b := Nat.eq_of_beq_eq_true hb
   subst this
   simp [listBeq, hb, listBeq_eq l m]
 | [], _ :: _ => by simp [listBeq]
 | _ :: _, [] => by simp [listBeq]
theorem map_beq (l m : List UInt8) : (l.map UInt8.toNat == m.map UInt8.toNat) = (l == m) := by
 rw [Bool.eq_iff_iff]
 simp only [beq_iff_eq]
 constructor
 ·intro h
  exact (List.map_inj_right (fun a b h => UInt8.toNat_inj.1 h)).1 h
 ·rintro rfl; rfl
theorem listLess_eq : ∀ l m : List UInt8, listLess (l.map UInt8.toNat) (m.map UInt8.toNat) = Op.bytesLess l m
 | l, [] => by cases l <;> simp [listLess, Op.bytesLess]
 | [], _ :: _ => by simp [listLess, Op.bytesLess]
 | a :: l, b :: m => by
  simp only [List.map_cons, listLess, Op.bytesLess]
  cases hb : Nat.beq a.toNat b.toNat
  ·have hne : a ≠ b := by rintro rfl; simp at hb
   rw [Bool.eq_iff_iff]
   simp [hne, Nat.blt_eq, UInt8.lt_iff_toNat_lt]
  ·have : a = b := UInt8.toNat_inj.1 (Nat.eq_of_beq_eq_true hb)
   subst this
   simp [listLess_eq l m]
theorem str_iff {M : Inj} {l : List Nat} {v : Value} (h : VRel M (.str l) v) : ∃ s, v = .string s ∧ s.toList.map UInt8.toNat = l ∧ s.size = l.length := by
 cases h with
 | str s l h =>
  refine ⟨s, rfl, by rw [ByteArray.toList_eq]; exact h, ?_⟩
  rw [← h]; simp
theorem str_of {M : Inj} {l : List Nat} {s : ByteArray} (h : s.toList.map UInt8.toNat = l) : VRel M (.str l) (.string s) := .str s l (by rw [← ByteArray.toList_eq]; exact h)
theorem strBin_ok {M : Inj} {op : BinOp} {x y : List Nat} {s r : ByteArray} {v : AV} (hs : s.toList.map UInt8.toNat = x) (hr : r.toList.map UInt8.toNat = y)
  (h : strBin op x y = some v) (t : TypeId) (w : World) : ∃ u, (binOp op t (.string s) (.string r)).run P w = .ok u w ∧ VRel M v u := by
 have hx : s.size = x.length := by rw [← hs, ByteArray.toList_eq]; simp
 have hy : r.size = y.length := by rw [← hr, ByteArray.toList_eq]; simp
 have heq : listBeq x y = (s.toList == r.toList) := by rw [listBeq_eq, ← hs, ← hr, map_beq]
 have hlt : listLess x y = Op.bytesLess s.toList r.toList := by rw [← hs, ← hr, listLess_eq]
 unfold strBin at h
 cases op <;> simp only at h
 case add =>
  split at h
  ·rename_i hb
   rw [Nat.ble_eq] at hb
   simp only [Option.some.injEq] at h
   subst h
   refine ⟨.string (s ++ r), ?_, ?_⟩
   ·have : ¬ (((s.size + r.size : Nat) : Int) > IntKind.i64.max) := by
     rw [hx, hy]; simp only [IntKind.max, IntKind.signed, IntKind.bits, if_true]; omega
    simp only [binOp, Op.stringOp]
    rw [if_neg this]; rfl
   ·refine .str _ _ ?_
    have : (s ++ r).data.toList = s.data.toList ++ r.data.toList := by simp
    rw [this, List.map_append, ← ByteArray.toList_eq, ← ByteArray.toList_eq, hs, hr]
  ·cases h
 all_goals first
  | (cases h; done)
  | (simp only [Option.some.injEq] at h; subst h; rw [heq]; exact ⟨_, by simp only [binOp, Op.stringOp]; rfl, .bool _⟩)
  | (simp only [Option.some.injEq] at h; subst h; rw [hlt]; exact ⟨_, by simp only [binOp, Op.stringOp]; rfl, .bool _⟩)
  | (simp only [Option.some.injEq] at h; subst h; rw [heq, hlt]; exact ⟨_, by simp only [binOp, Op.stringOp]; rfl, .bool _⟩)
end bins

section alike
variable {P : Program} {tb : Tab} (H : TabOK P tb J)
include H

theorem eqVal_ok {M : Inj} {t : Nat} {D : TypeDesc} (hd : tb.und t = some D) {x y : AV} {a b : Value} (hx : VRel M x a) (hy : VRel M y b) {r : Bool}
  (h : eqVal D x y = some r) (d : Nat) (w : World) : (Op.equalIn (d + 1) t a b).run P w = .ok r w := by
 have hu := und_ok H hd
 unfold eqVal at h
 split at h <;> first | (cases h; done) | skip
 all_goals simp only [Option.some.injEq] at h; subst h
 all_goals cases hx <;> cases hy <;> simp [Op.equalIn, run_underlying hu]

theorem eqFields_ok {M : Inj} {d : Nat} {rec_ : Nat → AV → AV → Option Bool}
  (ih : ∀ t x y a b r w, VRel M x a → VRel M y b → rec_ t x y = some r → (Op.equalIn d t a b).run P w = .ok r w)
  {xs ys : List AV} {as bs : Array Value} (hx : LRel M xs as.toList) (hy : LRel M ys bs.toList) :
  ∀ {fs : List Field} {r : Bool} (w : World), eqFieldsA tb rec_ xs ys fs = some r → (Op.eqFields d as bs fs).run P w = .ok r w
 | [], r, w, h => by simp only [eqFieldsA, Option.some.injEq] at h; subst h; simp [Op.eqFields]
 | f :: fs, r, w, h => by
  unfold eqFieldsA at h
  split at h
  ·cases h
  ·rename_i hn
   have hn : f.name ≠ "_" := by simpa using hn
   split at h
   ·rename_i a b ha hb
    obtain ⟨u, hu, ru⟩ := part_ok H hx ha w
    obtain ⟨v, hv, rv⟩ := part_ok H hy hb w
    simp only [Op.eqFields, hn, ne_eq, not_false_eq_true, if_true, Sem.run_bind, hu, hv, Result.andThen_ok]
    split at h
    ·rename_i he
     rw [ih _ _ _ _ _ _ _ ru rv he]
     simp only [Result.andThen_ok, Bool.not_true, Bool.false_eq_true, if_false]
     exact eqFields_ok ih hx hy w h
    ·rename_i he
     simp only [Option.some.injEq] at h
     subst h
     rw [ih _ _ _ _ _ _ _ ru rv he]
     simp
    ·cases h
   ·cases h

theorem eqElems_ok {M : Inj} {d e m : Nat} {rec_ : Nat → AV → AV → Option Bool}
  (ih : ∀ t x y a b r w, VRel M x a → VRel M y b → rec_ t x y = some r → (Op.equalIn d t a b).run P w = .ok r w)
  {xs ys : List AV} {as bs : Array Value} (hx : LRel M xs as.toList) (hy : LRel M ys bs.toList) 
  : ∀ {k i : Nat} {r : Bool} (w : World), eqElemsA tb rec_ e m xs ys i k = some r →
   ((forIn (List.range' i k) ((none, ()) : Option Bool × PUnit) fun i _ => do
    let __do_lift ← part e as (i * m)
    let __do_lift_1 ← part e bs (i * m)
    let __do_lift ← Op.equalIn d e __do_lift __do_lift_1
    if (!__do_lift) = true then pure (ForInStep.done (some false, ())) else pure (ForInStep.yield (none, ()))) : Sem (Option Bool × PUnit)).run P w =
    .ok (if r then (none, ()) else (some false, ())) w
 | 0, i, r, w, h => by simp only [eqElemsA, Option.some.injEq] at h; subst h; simp
 | k + 1, i, r, w, h => by
  unfold eqElemsA at h
  split at h
  ·rename_i a b ha hb
   obtain ⟨u, hu, ru⟩ := part_ok H hx ha w
   obtain ⟨v, hv, rv⟩ := part_ok H hy hb w
   simp only [List.range'_succ, List.forIn_cons, Sem.run_bind, hu, hv, Result.andThen_ok]
   split at h
   ·rename_i he
    rw [ih _ _ _ _ _ _ _ ru rv he]
    simp only [Result.andThen_ok, Bool.not_true, Bool.false_eq_true, if_false, Sem.run_pure]
    have := eqElems_ok ih hx hy w h
    simpa using this
   ·rename_i he
    simp only [Option.some.injEq] at h
    subst h
    rw [ih _ _ _ _ _ _ _ ru rv he]
    simp
   ·cases h
  ·cases h

theorem eqIn_ok {M : Inj} : ∀ {d D t : Nat} {x y : AV} {a b : Value} {r : Bool} (w : World), d ≤ D → VRel M x a → VRel M y b → eqIn tb d t x y = some r →
  (Op.equalIn D t a b).run P w = .ok r w
 | 0, D, t, x, y, a, b, r, w, hd, hx, hy, h => by simp [eqIn] at h
 | d + 1, 0, t, x, y, a, b, r, w, hd, hx, hy, h => by omega
 | d + 1, D + 1, t, x, y, a, b, r, w, hd, hx, hy, h => by
  unfold eqIn at h
  split at h
  ·rename_i K hK
   have hu := und_ok H hK
   split at h
   ·rename_i k' k a' j b'
    split at h
    ·rename_i hkj
     subst hkj
     simp only [Option.some.injEq] at h
     subst h
     cases hx; cases hy
     rw [eqA_eq]
     exact run_equalIn_int w D t _ _ _ _ hu
    ·cases h
   ·simp only [Option.some.injEq] at h
    subst h
    obtain ⟨s, rfl, hs, _⟩ := str_iff hx
    obtain ⟨s', rfl, hs', _⟩ := str_iff hy
    rw [listBeq_eq, ← hs, ← hs', map_beq]
    exact run_equalIn_string w D t _ _ hu
   ·rename_i fs xs ys
    split at h
    ·rename_i het
     obtain ⟨_, hst⟩ := H.et _ het
     cases hx with
     | agg _ cs hs hx =>
      cases hy with
      | agg _ ds hs' hy =>
       have hf : P.fieldsOf t = fs := by simp [Program.fieldsOf, hu]
       rw [run_equalIn_struct w D t cs ds (by rw [hf]; exact hu) hst, hf]
       exact eqFields_ok H (fun t x y a b r w hx hy h => eqIn_ok w (by omega) hx hy h) ⟨by simpa using hs, fun i v u p q => hx i v u p (by simpa using q)⟩
        ⟨by simpa using hs', fun i v u p q => hy i v u p (by simpa using q)⟩ w h
    ·cases h
   ·rename_i n e xs ys
    split at h
    ·rename_i m hm
     cases hx with
     | agg _ cs hs hx =>
      cases hy with
      | agg _ ds hs' hy =>
       have := eqElems_ok (P := P) H (d := D) (e := e) (m := m) (fun t x y a b r w hx hy h => eqIn_ok w (by omega) hx hy h) (as := cs) (bs := ds) ⟨by simpa using hs, fun i v u p q => hx i v u p (by simpa using q)⟩
        ⟨by simpa using hs', fun i v u p q => hy i v u p (by simpa using q)⟩ w h
       simp only [Op.equalIn, Sem.run_bind, run_underlying hu, Result.andThen_ok, run_size H hm, Std.Legacy.Range.forIn_eq_forIn_range', Std.Legacy.Range.size]
       simp only [Nat.sub_zero, Nat.add_sub_cancel, Nat.div_one]
       rw [this]
       cases r <;> simp
    ·cases h
   ·exact eqVal_ok H hK hx hy h D w
  ·cases h

theorem eqTop_ok {M : Inj} {t : Nat} {x y : AV} {a b : Value} {r : Bool} (hx : VRel M x a) (hy : VRel M y b) (h : eqTop tb t x y = some r) (op : BinOp) (p q : Operand) (w : World) :
  (Op.equal t a b).run P w = .ok r w ∧ (eqGuard op t p q a b).run P w = .ok () w := by
 unfold eqTop at h
 split at h
 ·split at h
  ·rename_i het
   refine ⟨eqIn_ok H w (by decide) hx hy h, ?_⟩
   cases hx; cases hy
   exact run_eqGuard_agg w op t p q _ _ (H.et _ het).1
  ·cases h
 ·cases h
 ·cases h
 ·cases h
 ·cases h
 ·rename_i n1 n2 n3 n4 n5
  refine ⟨eqIn_ok H w (by decide) hx hy h, guard_other op t p q a b w ?_ ?_⟩
  ·rintro c d ⟨rfl, rfl⟩
   cases hx with
   | agg l cs hs hx =>
    cases hy with
    | agg l cs hs hy => exact n5 _ _ rfl rfl
    | opq b i u hi hu hv => exact n4 _ rfl
   | opq b i u hi hu hv => exact n2 _ rfl
  ·rintro rfl
   cases hx with
   | nili => exact n1 rfl
   | opq b i u hi hu hv => exact n2 _ rfl

theorem evBin_ok {M : Inj} (hJ : J.le M) {op : BinOp} {t : Nat} {x y : AV} {a b : Value} {v : AV} (hx : VRel M x a) (hy : VRel M y b) (h : evBin tb op t x y = some v) (p q : Operand) (w : World) :
  ∃ u, (do eqGuard op t p q a b; binOp op t a b : Sem Value).run P w = .ok u w ∧ VRel M v u := by
 unfold evBin at h
 split at h
 ·rename_i k m j n
  cases hx; cases hy
  have hg := guard_other (P := P) op t p q (.int k m) (.int j n) w (fun c d h => by cases h.1) (by simp)
  simp only [Sem.run_bind, hg, Result.andThen_ok]
  split at h
  ·exact shift_ok M (.inl rfl) t h w
  ·exact shift_ok M (.inr rfl) t h w
  ·split at h
   ·rename_i hkj
    subst hkj
    exact intBin_ok M t h w
   ·cases h
 ·obtain ⟨s, rfl, hs, _⟩ := str_iff hx
  obtain ⟨s', rfl, hs', _⟩ := str_iff hy
  have hg := guard_other (P := P) op t p q (.string s) (.string s') w (fun c d h => by cases h.1) (by simp)
  simp only [Sem.run_bind, hg, Result.andThen_ok]
  exact strBin_ok hs hs' h t w
 ·rename_i c k n
  obtain ⟨⟨j, m, rfl⟩, hb⟩ := H.ob _ _ _ _ _ h M a t w hJ hx
  cases hy
  have hg := guard_other (P := P) op t p q (.int j m) (.int k n) w (fun c d h => by cases h.1) (by simp)
  simp only [Sem.run_bind, hg, Result.andThen_ok]
  exact hb
 ·rename_i n1 n2 n3
  split at h
  ·split at h
   ·rename_i r hr
    simp only [Option.some.injEq] at h
    subst h
    obtain ⟨h1, h2⟩ := eqTop_ok H hx hy hr .eql p q w
    refine ⟨.bool r, ?_, .bool r⟩
    simp only [Sem.run_bind, h2, Result.andThen_ok]
    have : (binOp .eql t a b) = (do pure (.bool (← Op.equal t a b))) := by
     cases hx <;> cases hy <;> first | rfl | exact (n1 _ _ _ _ rfl rfl).elim | exact (n2 _ _ rfl rfl).elim | (simp [eqTop] at hr; done)
    rw [this]
    simp [h1]
   ·cases h
  ·split at h
   ·rename_i r hr
    simp only [Option.some.injEq] at h
    subst h
    obtain ⟨h1, h2⟩ := eqTop_ok H hx hy hr .neq p q w
    refine ⟨.bool (!r), ?_, .bool _⟩
    simp only [Sem.run_bind, h2, Result.andThen_ok]
    have : (binOp .neq t a b) = (do pure (.bool (!(← Op.equal t a b)))) := by
     cases hx <;> cases hy <;> first | rfl | exact (n1 _ _ _ _ rfl rfl).elim | exact (n2 _ _ rfl rfl).elim | (simp [eqTop] at hr; done)
    rw [this]
    simp [h1]
   ·cases h
  ·cases h
end alike
end Go.Proofs.YtfkbfnpjggkdmaaGreatDoor.Ev
