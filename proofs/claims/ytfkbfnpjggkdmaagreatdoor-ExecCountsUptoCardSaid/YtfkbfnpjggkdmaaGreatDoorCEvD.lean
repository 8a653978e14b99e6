/- An evaluator of closed calls, part 3: what it reckons of a quiet operation holds. -/
import Derived.Test.YtfkbfnpjggkdmaaGreatDoorCEvB
import Derived.Laws.StructEq
import Derived.IntWalk
namespace Go.Proofs.YtfkbfnpjggkdmaaGreatDoor.Ev
open Go.RowKit
variable {J : Ctx}

structure TabOK (P : Program) (tb : Tab) (J : Ctx) : Prop where
 tt : ∀ t x, tb.tt.get t = some x -> P.info? t = some x
 ft : ∀ f fn, tb.ft.get f = some fn -> P.funcs[f]? = some fn
 et : ∀ t, tb.et.get t = some true -> P.eqGuardType P.depth t = false /\ P.stoodInHeld t = false
 nm : ∀ f fn, tb.ft.get f = some fn -> fn.body.isSome = true -> (fn.name == "runtime.NumGoroutine") = false
 mo : P.follows .mixedOrders = true
 ob : ∀ op b k n v, tb.ob op b k n = some v -> ∀ M u t w, J.le M -> VRel M (.opq b) u -> (∃ j a, u = .int j a) /\ ∃ x, (binOp op t u (.int k n)).run P w = .ok x w /\ VRel M v x
 oc : ∀ b k v, tb.oc b k = some v -> ∀ M u, J.le M -> VRel M (.opq b) u -> ∃ j n, u = .int j n /\ VRel M v (.int k (k.wrap n))
 orc : ∀ f args h v, tb.orc f args h = some v -> ∀ M N (w0 : Base J) (vs : Array Value) w, HRel M N w0 h w -> LRel M args vs.toList ->
  (∃ fn, P.funcs[f]? = some fn /\ fn.body.isSome = true /\ (fn.name == "runtime.NumGoroutine") = false) /\
  Calls P f vs w fun e w' => ∃ u, e = .returned u /\ VRel M v u /\ Below w.heap.size w w'

section tables
variable {P : Program} {tb : Tab} (H : TabOK P tb J)
include H

theorem jy {t : Nat} {d : TypeDesc} (h : tb.und t = some d) : P.underlying t = some d := by
 unfold Tab.und at h
 split at h
 ·rename_i x hx
  have hx := H.tt _ _ hx
  split at h
  ·rename_i n u hd
   split at h
   ·rename_i y hy
    simp only [Option.some.injEq] at h
    subst h
    unfold Program.underlying
    obtain ⟨desc, str, size, bytes, hp, al, fa, zero, comparable, methods⟩ := x
    simp only at hd
    subst hd
    rw [hx]
    simp [H.tt _ _ hy]
   ·cases h
  ·rename_i hne
   simp only [Option.some.injEq] at h
   subst h
   unfold Program.underlying
   obtain ⟨desc, str, size, bytes, hp, al, fa, zero, comparable, methods⟩ := x
   rw [hx]
   simp only at hne ⊢
   cases desc <;> first | rfl | exact absurd rfl (hne _ _)
 ·cases h
theorem aM {t : Nat} {d : TypeDesc} (h : tb.und t = some d) (w : World) : (underlying t).run P w = .ok d w := run_underlying (jy H h) w
theorem ig {t : Nat} {x : TypeInfo} (h : tb.tt.get t = some x) (w : World) : (typeInfo t).run P w = .ok x w := by
 simp [typeInfo, H.tt _ _ h]
theorem bZ {t n : Nat} (h : tb.size t = some n) (w : World) : (sizeOf t).run P w = .ok n w := by
 unfold Tab.size at h
 split at h
 ·rename_i x hx
  simp only [Option.some.injEq] at h
  subst h
  simp [sizeOf, ig H hx]
 ·cases h
theorem lS {t : Nat} {b : Bool} (h : tb.isAgg t = some b) (w : World) : (isAgg t).run P w = .ok b w := by
 unfold Tab.isAgg at h
 split at h
 ·rename_i d hd
  simp only [Option.some.injEq] at h
  subst h
  simp only [isAgg, Sem.run_bind, aM H hd, Result.andThen_ok]
  cases d <;> rfl
 ·cases h
end tables

theorem qW {v : Value} {a : AV} (h : mP v = some a) (M : Inj) : VRel M a v := by
 unfold mP at h
 split at h <;> simp at h <;> subst h
 ·exact .bool _
 ·exact .int _ _
 ·exact .str _ _ rfl
 ·exact .nilp
 ·exact .nils
 ·exact .nilf
 ·exact .nili
 ·exact .nilm
theorem nv {v : Value} {a : AV} (h : mP v = some a) : a.isCell = true := by
 unfold mP at h
 split at h <;> simp at h <;> subst h <;> rfl
theorem vN {l : List Value} {m : List AV} (h : iz l = some m) (M : Inj) : LRel M m l := by
 induction l generalizing m with
 | nil => simp [iz] at h; subst h; exact .nil M
 | cons v l ih =>
  unfold iz at h
  split at h
  ·rename_i a ha
   split at h
   ·rename_i m' hm
    simp only [Option.some.injEq] at h
    subst h
    exact .cons (qW ha M) (ih hm)
   ·cases h
  ·cases h
theorem sB {l : List Value} {m : List AV} (h : iz l = some m) : ∀ a ∈ m, a.isCell = true := by
 induction l generalizing m with
 | nil => simp [iz] at h; subst h; simp
 | cons v l ih =>
  unfold iz at h
  split at h
  ·rename_i a ha
   split at h
   ·rename_i m' hm
    simp only [Option.some.injEq] at h
    subst h
    intro x hx
    rcases List.mem_cons.1 hx with rfl | hx
    ·exact nv ha
    ·exact ih hm x hx
   ·cases h
  ·cases h
theorem uf {v : Value} {a : AV} (h : nw v = some a) (M : Inj) : VRel M a v := by
 unfold nw at h
 split at h
 ·rename_i cs
  split at h
  ·rename_i l hl
   simp only [Option.some.injEq] at h
   subst h
   have := (vN hl M).agg
   simpa using this
  ·cases h
 ·exact qW h M
theorem ue {v : Value} {a : AV} (h : nw v = some a) : ∀ x ∈ a.cells, x.isCell = true := by
 unfold nw at h
 split at h
 ·rename_i cs
  split at h
  ·rename_i l hl
   simp only [Option.some.injEq] at h
   subst h
   exact sB hl
  ·cases h
 ·have hc := nv h
  intro x hx
  cases a <;> simp_all [AV.cells, AV.isCell]
theorem gh {P : Program} {tb : Tab} (H : TabOK P tb J) {t : Nat} {z : AV} (h : tb.zero t = some z) (w : World) :
  ∃ v, (zeroValue t).run P w = .ok v w /\ (∀ M, VRel M z v) /\ (∀ x ∈ z.cells, x.isCell = true) := by
 unfold Tab.zero at h
 split at h
 ·rename_i x hx
  split at h
  ·rename_i v hv
   refine ⟨v, ?_, fun M => uf h M, ue h⟩
   simp only [zeroValue, Sem.run_bind, ig H hx, Result.andThen_ok, hv, Sem.run_pure]
  ·cases h
 ·cases h

def TRel (M : Inj) (tm : T AV) (a : Act) : Prop := ∀ t v, tm.get t = some v -> VRel M v (a.tmps.getD t undef)
theorem TRel.mono {M M' : Inj} (hM : M.le M') {tm : T AV} {a : Act} (h : TRel M tm a) : TRel M' tm a := fun t v hv => (h t v hv).mono hM

theorem eU {M : Inj} {tm : T AV} {a : Act} (h : TRel M tm a) {x : Operand} {v : AV} (hx : aS tm x = some v) : VRel M v (a.eval x) := by
 unfold aS at hx
 split at hx
 ·exact h _ _ hx
 ·exact uf hx M
 ·simp only [Option.some.injEq] at hx
  subst hx
  exact .func _ [] #[] rfl (fun i v u h => by simp at h)
 ·cases hx
theorem gy {M : Inj} {tm : T AV} {a : Act} (h : TRel M tm a) {l : List Operand} {vs : List AV} (hx : cC tm l = some vs) : LRel M vs (l.map a.eval) := by
 induction l generalizing vs with
 | nil => simp [cC] at hx; subst hx; exact .nil M
 | cons x l ih =>
  unfold cC at hx
  split at hx
  ·rename_i v hv
   split at hx
   ·rename_i m hm
    simp only [Option.some.injEq] at hx
    subst hx
    exact .cons (eU h hv) (ih hm)
   ·cases hx
  ·cases hx
def Dv (M : Inj) : List (Nat × AV) -> List (Nat × Value) -> Prop
 | [], [] => True
 | (i, a) :: l, (j, v) :: m => i = j /\ VRel M a v /\ Dv M l m
 | _, _ => False
theorem jt {M : Inj} {tm : T AV} {a : Act} (h : TRel M tm a) {l : List (Nat × Operand)} {vs : List (Nat × AV)} (hx : bK tm l = some vs) :
  Dv M vs (l.map fun (i, x) => (i, a.eval x)) := by
 induction l generalizing vs with
 | nil => simp [bK] at hx; subst hx; exact trivial
 | cons p l ih =>
  obtain ⟨i, x⟩ := p
  unfold bK at hx
  split at hx
  ·rename_i v hv
   split at hx
   ·rename_i m hm
    simp only [Option.some.injEq] at hx
    subst hx
    exact ⟨rfl, eU h hv, ih hm⟩
   ·cases hx
  ·cases hx

theorem dP : ∀ (l : List AV) (o : Nat) (m : List AV), (ct l o m).length = l.length
 | l, _, [] => by cases l <;> simp [ct]
 | [], _, _ :: _ => by simp [ct]
 | _ :: l, 0, b :: m => by simp [ct, dP l 0 m]
 | a :: l, o + 1, b :: m => by simp [ct, dP l o (b :: m)]
theorem gZ : ∀ (l : List AV) (o : Nat) (m : List AV) (k : Nat), (ct l o m)[k]? = if o <= k /\ k < o + m.length /\ k < l.length then m[k - o]? else l[k]?
 | l, o, [], k => by
  have : ¬ (o <= k /\ k < o + ([] : List AV).length /\ k < l.length) := by simp; omega
  rw [if_neg this]
  cases l <;> simp [ct]
 | [], o, b :: m, k => by simp [ct]
 | a :: l, 0, b :: m, k => by
  cases k with
  | zero => simp [ct]
  | succ k => simp [ct, gZ l 0 m k]
 | a :: l, o + 1, b :: m, k => by
  cases k with
  | zero => simp [ct]
  | succ k =>
   simp only [ct, List.getElem?_cons_succ, gZ l o (b :: m) k, List.length_cons]
   have e : k + 1 - (o + 1) = k - o := by omega
   rw [e]
   have : (o <= k /\ k < o + (m.length + 1) /\ k < l.length) ↔ (o + 1 <= k + 1 /\ k + 1 < o + 1 + (m.length + 1) /\ k + 1 < l.length + 1) := by omega
   simp only [this]

theorem zK (off : Nat) : ∀ (vs : List Value) (i : Nat) (cs : Array Value),
  ((vs.zipIdx i).foldl (fun cs (x : Value × Nat) => cs.setIfInBounds (off + x.2) x.1) cs).size = cs.size /\
  ∀ k, ((vs.zipIdx i).foldl (fun cs (x : Value × Nat) => cs.setIfInBounds (off + x.2) x.1) cs)[k]? =
   if off + i <= k /\ k < off + i + vs.length /\ k < cs.size then vs[k - (off + i)]? else cs[k]? := by
 intro vs
 induction vs with
 | nil => intro i cs; simp; intro k h1 h2; omega
 | cons v vs ih =>
  intro i cs
  simp only [List.zipIdx_cons, List.foldl_cons]
  obtain ⟨h1, h2⟩ := ih (i + 1) (cs.setIfInBounds (off + i) v)
  refine ⟨by rw [h1]; simp, fun k => ?_⟩
  rw [h2 k]
  simp only [Array.size_setIfInBounds, List.length_cons]
  by_cases hk : k = off + i
  ·subst hk
   have n1 : ¬ (off + (i + 1) <= off + i /\ off + i < off + (i + 1) + vs.length /\ off + i < cs.size) := by omega
   rw [if_neg n1]
   by_cases hb : off + i < cs.size
   ·have p1 : off + i <= off + i /\ off + i < off + i + (vs.length + 1) /\ off + i < cs.size := by omega
    rw [if_pos p1]
    simp [hb]
   ·have n2 : ¬ (off + i <= off + i /\ off + i < off + i + (vs.length + 1) /\ off + i < cs.size) := by omega
    rw [if_neg n2]
    simp [Array.getElem?_eq_none (show cs.size <= off + i by omega), hb]
  ·rw [Array.getElem?_setIfInBounds_ne (fun h => hk h.symm)]
   by_cases hc : off + (i + 1) <= k /\ k < off + (i + 1) + vs.length /\ k < cs.size
   ·have hc' : off + i <= k /\ k < off + i + (vs.length + 1) /\ k < cs.size := by omega
    rw [if_pos hc, if_pos hc']
    have e : k - (off + i) = (k - (off + (i + 1))) + 1 := by omega
    rw [e, List.getElem?_cons_succ]
   ·have hc' : ¬ (off + i <= k /\ k < off + i + (vs.length + 1) /\ k < cs.size) := by omega
    rw [if_neg hc, if_neg hc']
theorem EF {M : Inj} {l m : List AV} {cs vs : List Value} (h : LRel M l cs) (hm : LRel M m vs) (o : Nat) (cs' : List Value) (hs : cs'.length = cs.length)
  (hg : ∀ k, cs'[k]? = if o <= k /\ k < o + vs.length /\ k < cs.length then vs[k - o]? else cs[k]?) : LRel M (ct l o m) cs' := by
 refine ⟨by rw [hs, h.1, dP], fun i a b ha hb => ?_⟩
 rw [gZ] at ha
 rw [hg] at hb
 rw [hm.1, h.1] at hb
 split at ha
 ·rename_i hc
  rw [if_pos hc] at hb
  exact hm.2 _ _ _ ha hb
 ·rename_i hc
  rw [if_neg hc] at hb
  exact h.2 _ _ _ ha hb
theorem jK {M : Inj} {place : Nat -> Option (Nat × Nat)} : ∀ {ps : List (Nat × AV)} {qs : List (Nat × Value)} {l r : List AV} {cs : Array Value}, Dv M ps qs -> LRel M l cs.toList ->
  cJ place l ps = some r -> ∃ cs', Instr.fill place cs qs = some cs' /\ LRel M r cs'.toList
 | [], [], l, r, cs, hp, hl, h => by
  simp only [cJ, Option.some.injEq] at h
  subst h
  exact ⟨cs, by simp [Instr.fill], hl⟩
 | (i, a) :: ps, (j, v) :: qs, l, r, cs, hp, hl, h => by
  obtain ⟨rfl, hv, hp⟩ := hp
  unfold cJ at h
  split at h
  ·cases h
  ·rename_i off size hpl
   split at h
   ·rename_i hb
    simp only [Bool.and_eq_true, Nat.beq_eq, Nat.ble_eq] at hb
    have hc := hv.cells
    have hz : v.cells.size = size := by rw [<- hb.1, <- hc.1]; simp
    have hl1 : cs.size = l.length := by simpa using hl.1
    obtain ⟨f1, f2⟩ := zK off v.cells.toList 0 cs
    generalize hff : (v.cells.toList.zipIdx 0).foldl (fun cs (x : Value × Nat) => cs.setIfInBounds (off + x.2) x.1) cs = ff at f1 f2
    have hrel := EF hl hc off ff.toList (by simpa using f1) (fun k => by have := f2 k; simpa using this)
    obtain ⟨cs', e1, e2⟩ := jK hp hrel h
    refine ⟨cs', ?_, e2⟩
    unfold Instr.fill
    simp only [hpl]
    have hn : ¬ ((v.cells.size ≠ size || decide (off + v.cells.size > cs.size)) = true) := by
     rw [hz, hl1]; simp; omega
    rw [if_neg (by simpa using hn)]
    rw [<- e1, <- hff, <- Array.foldl_toList]
    simp
   ·cases h
 | [], _ :: _, _, _, _, hp, _, _ => hp.elim
 | _ :: _, [], _, _, _, hp, _, _ => by simp [Dv] at hp

section quiet
variable {P : Program} {tb : Tab} (H : TabOK P tb J)
include H

theorem kk {M : Inj} {t : Nat} {cs : List AV} {vs : Array Value} {off : Nat} {a : AV} (hl : LRel M cs vs.toList) (h : kC tb t cs off = some a) (w : World) :
  ∃ u, (part t vs off).run P w = .ok u w /\ VRel M a u := by
 unfold kC at h
 split at h
 ·rename_i hagg
  split at h
  ·rename_i n hn
   simp only [Option.some.injEq] at h
   subst h
   refine ⟨.agg (vs.extract off (off + n)), ?_, ?_⟩
   ·simp [part, lS H hagg, bZ H hn]
   ·have := ((hl.drop off).take n).agg
    have e : (vs.extract off (off + n)).toList = (vs.toList.drop off).take n := by simp
    rw [<- Array.toArray_toList (xs := vs.extract off (off + n)), e]
    exact this
  ·cases h
 ·rename_i hagg
  obtain ⟨u, hu, hr⟩ := hl.get h
  refine ⟨u, ?_, hr⟩
  have hu' : vs[off]? = some u := by simpa using hu
  simp [part, lS H hagg, hu']
 ·cases h
end quiet

variable {J : Ctx}

theorem cv (k : IntKind) (n : Int) : kH k n = k.wrap n := by
 unfold kH
 split
 ·rename_i h
  cases k <;> cases n <;> simp only [B1, Nat.ble_eq, Bool.false_eq_true] at h
  case i32.ofNat m => exact (IntWalk.i32_in _ (by simp only [Int.ofNat_eq_natCast]; omega)).symm
  case i32.negSucc m => exact (IntWalk.i32_in _ (by simp only [Int.negSucc_eq]; omega)).symm
  case i64.ofNat m => exact (IntWalk.i64_in _ (by simp only [Int.ofNat_eq_natCast]; omega)).symm
  case i64.negSucc m => exact (IntWalk.i64_in _ (by simp only [Int.negSucc_eq]; omega)).symm
  case u8.ofNat m => exact (IntWalk.u8_in _ (by simp only [Int.ofNat_eq_natCast]; omega)).symm
  case u32.ofNat m => exact (IntWalk.u32_in _ (by simp only [Int.ofNat_eq_natCast]; omega)).symm
  case u64.ofNat m => exact (IntWalk.u64_in _ (by simp only [Int.ofNat_eq_natCast]; omega)).symm
 ·rfl
theorem bS (a b : Int) : qc a b = decide (a < b) := by
 rw [Bool.eq_iff_iff]
 cases a <;> cases b <;> simp [qc, Nat.blt_eq, Int.negSucc_eq] <;> omega
theorem gU (a b : Int) : pV a b = (a == b) := by
 rw [Bool.eq_iff_iff]
 cases a <;> cases b <;> simp [pV, Int.negSucc_eq] <;> omega
theorem py (a b : Int) : (!(decide (b < a))) = decide (a <= b) := by
 rw [Bool.eq_iff_iff]; simp

section bins
variable {P : Program}
theorem iv (op : BinOp) (t : TypeId) (x y : Operand) (a b : Value) (w : World)
  (h : ∀ c d, ¬ (a = .agg c /\ b = .agg d)) (h' : a ≠ .nilIface) : (eqGuard op t x y a b).run P w = .ok () w := by
 unfold eqGuard
 cases op <;> simp <;> split <;> first | rfl | (exact absurd rfl h') | (exact absurd ⟨rfl, rfl⟩ (h _ _)) | simp_all

theorem zO (M : Inj) {op : BinOp} {k : IntKind} {a b : Int} {v : AV} (t : TypeId) (h : fY op k a b = some v) (w : World) :
  ∃ u, (binOp op t (.int k a) (.int k b)).run P w = .ok u w /\ VRel M v u := by
 unfold fY at h
 cases op <;> simp only at h
 case add => simp only [Option.some.injEq] at h; subst h; exact ⟨.int k (k.wrap (a + b)), by simp [binOp, Op.intArith], by rw [cv]; exact .int _ _⟩
 case sub => simp only [Option.some.injEq] at h; subst h; exact ⟨.int k (k.wrap (a - b)), by simp [binOp, Op.intArith], by rw [cv]; exact .int _ _⟩
 case mul => simp only [Option.some.injEq] at h; subst h; exact ⟨.int k (k.wrap (a * b)), by simp [binOp, Op.intArith], by rw [cv]; exact .int _ _⟩
 case quo =>
  split at h
  ·cases h
  ·rename_i he
   rw [gU] at he
   have hb : b ≠ 0 := by simpa using he
   simp only [Option.some.injEq] at h; subst h
   exact ⟨.int k (k.wrap (a.tdiv b)), by simp [binOp, Op.intDiv, hb], by rw [cv]; exact .int _ _⟩
 case rem =>
  split at h
  ·cases h
  ·rename_i he
   rw [gU] at he
   have hb : b ≠ 0 := by simpa using he
   simp only [Option.some.injEq] at h; subst h
   exact ⟨.int k (a.tmod b), by simp [binOp, Op.intDiv, hb], .int _ _⟩
 case and => simp only [Option.some.injEq] at h; subst h; exact ⟨.int k (k.wrap (BitVec.ofInt k.bits a &&& BitVec.ofInt k.bits b).toNat), by simp [binOp, Op.intBits], by unfold ku; rw [cv]; exact .int _ _⟩
 case or => simp only [Option.some.injEq] at h; subst h; exact ⟨.int k (k.wrap (BitVec.ofInt k.bits a ||| BitVec.ofInt k.bits b).toNat), by simp [binOp, Op.intBits], by unfold ku; rw [cv]; exact .int _ _⟩
 case xor => simp only [Option.some.injEq] at h; subst h; exact ⟨.int k (k.wrap (BitVec.ofInt k.bits a ^^^ BitVec.ofInt k.bits b).toNat), by simp [binOp, Op.intBits], by unfold ku; rw [cv]; exact .int _ _⟩
 case andNot => simp only [Option.some.injEq] at h; subst h; exact ⟨.int k (k.wrap (BitVec.ofInt k.bits a &&& ~~~(BitVec.ofInt k.bits b)).toNat), by simp [binOp, Op.intBits], by unfold ku; rw [cv]; exact .int _ _⟩
 case eql => simp only [Option.some.injEq] at h; subst h; exact ⟨.bool (a == b), by simp [binOp, Op.intCmp], by rw [gU]; exact .bool _⟩
 case neq => simp only [Option.some.injEq] at h; subst h; exact ⟨.bool (a != b), by simp [binOp, Op.intCmp], by rw [gU]; exact .bool _⟩
 case lss => simp only [Option.some.injEq] at h; subst h; exact ⟨.bool (a < b), by simp [binOp, Op.intCmp], by rw [bS]; exact .bool _⟩
 case leq => simp only [Option.some.injEq] at h; subst h; exact ⟨.bool (a <= b), by simp [binOp, Op.intCmp], by rw [bS, py]; exact .bool _⟩
 case gtr => simp only [Option.some.injEq] at h; subst h; exact ⟨.bool (a > b), by simp [binOp, Op.intCmp], by rw [bS]; exact .bool _⟩
 case geq => simp only [Option.some.injEq] at h; subst h; exact ⟨.bool (a ≥ b), by simp [binOp, Op.intCmp], by rw [bS, py]; exact .bool _⟩
 all_goals cases h
theorem uo (M : Inj) {op : BinOp} (hop : op = .shl \/ op = .shr) {k j : IntKind} {a b : Int} {v : AV} (t : TypeId) (h : pC op k a b = some v) (w : World) :
  ∃ u, (binOp op t (.int k a) (.int j b)).run P w = .ok u w /\ VRel M v u := by
 unfold pC at h
 split at h
 ·cases h
 ·rename_i hl
  rw [bS] at hl
  have hb : ¬ b < 0 := by simpa using hl
  rcases hop with rfl | rfl <;> simp only [Option.some.injEq] at h <;> subst h
  ·exact ⟨.int k (k.wrap (a * 2 ^ (min b.toNat k.bits))), by simp [binOp, Op.shift, hb], by rw [cv]; exact .int _ _⟩
  ·exact ⟨.int k (a.fdiv (2 ^ (min b.toNat k.bits))), by simp [binOp, Op.shift, hb], .int _ _⟩

theorem g7 : ∀ l m : List Nat, dg l m = (l == m)
 | [], [] => by simp [dg]
 | a :: l, b :: m => by
  cases hb : Nat.beq a b
  ·have : a ≠ b := by intro e; subst e; simp at hb
   simp [dg, hb, this]
  ·have : a = b := Nat.eq_of_beq_eq_true hb
   subst this
   simp [dg, hb, g7 l m]
 | [], _ :: _ => by simp [dg]
 | _ :: _, [] => by simp [dg]
theorem ss (l m : List UInt8) : (l.map UInt8.toNat == m.map UInt8.toNat) = (l == m) := by
 rw [Bool.eq_iff_iff]
 simp only [beq_iff_eq]
 constructor
 ·intro h
  exact (List.map_inj_right (fun a b h => UInt8.toNat_inj.1 h)).1 h
 ·rintro rfl; rfl
theorem nr : ∀ l m : List UInt8, aL (l.map UInt8.toNat) (m.map UInt8.toNat) = Op.bytesLess l m
 | l, [] => by cases l <;> simp [aL, Op.bytesLess]
 | [], _ :: _ => by simp [aL, Op.bytesLess]
 | a :: l, b :: m => by
  simp only [List.map_cons, aL, Op.bytesLess]
  cases hb : Nat.beq a.toNat b.toNat
  ·have hne : a ≠ b := by rintro rfl; simp at hb
   rw [Bool.eq_iff_iff]
   simp [hne, Nat.blt_eq, UInt8.lt_iff_toNat_lt]
  ·have : a = b := UInt8.toNat_inj.1 (Nat.eq_of_beq_eq_true hb)
   subst this
   simp [nr l m]
theorem dW {M : Inj} {l : List Nat} {v : Value} (h : VRel M (.str l) v) : ∃ s, v = .string s /\ s.toList.map UInt8.toNat = l /\ s.size = l.length := by
 cases h with
 | str s l h =>
  refine ⟨s, rfl, by rw [ByteArray.toList_eq]; exact h, ?_⟩
  rw [<- h]; simp
theorem Hu {M : Inj} {l : List Nat} {s : ByteArray} (h : s.toList.map UInt8.toNat = l) : VRel M (.str l) (.string s) := .str s l (by rw [<- ByteArray.toList_eq]; exact h)
theorem Af {M : Inj} {op : BinOp} {x y : List Nat} {s r : ByteArray} {v : AV} (hs : s.toList.map UInt8.toNat = x) (hr : r.toList.map UInt8.toNat = y)
  (h : j0 op x y = some v) (t : TypeId) (w : World) : ∃ u, (binOp op t (.string s) (.string r)).run P w = .ok u w /\ VRel M v u := by
 have hx : s.size = x.length := by rw [<- hs, ByteArray.toList_eq]; simp
 have hy : r.size = y.length := by rw [<- hr, ByteArray.toList_eq]; simp
 have heq : dg x y = (s.toList == r.toList) := by rw [g7, <- hs, <- hr, ss]
 have hlt : aL x y = Op.bytesLess s.toList r.toList := by rw [<- hs, <- hr, nr]
 unfold j0 at h
 cases op <;> simp only at h
 case add =>
  split at h
  ·rename_i hb
   rw [Nat.ble_eq] at hb
   simp only [Option.some.injEq] at h
   subst h
   refine ⟨.string (s ++ r), ?_, ?_⟩
   ·have : ¬ (((s.size + r.size : Nat) : Int) > IntKind.i64.max) := by
     rw [hx, hy]; simp only [IntKind.max, IntKind.signed, IntKind.bits, if_true]; omega
    simp only [binOp, Op.stringOp]
    rw [if_neg this]; rfl
   ·refine .str _ _ ?_
    have : (s ++ r).data.toList = s.data.toList ++ r.data.toList := by simp
    rw [this, List.map_append, <- ByteArray.toList_eq, <- ByteArray.toList_eq, hs, hr]
  ·cases h
 all_goals first
  | (cases h; done)
  | (simp only [Option.some.injEq] at h; subst h; rw [heq]; exact ⟨_, by simp only [binOp, Op.stringOp]; rfl, .bool _⟩)
  | (simp only [Option.some.injEq] at h; subst h; rw [hlt]; exact ⟨_, by simp only [binOp, Op.stringOp]; rfl, .bool _⟩)
  | (simp only [Option.some.injEq] at h; subst h; rw [heq, hlt]; exact ⟨_, by simp only [binOp, Op.stringOp]; rfl, .bool _⟩)
end bins

section alike
variable {P : Program} {tb : Tab} (H : TabOK P tb J)
include H

theorem Bx {M : Inj} {t : Nat} {D : TypeDesc} (hd : tb.und t = some D) {x y : AV} {a b : Value} (hx : VRel M x a) (hy : VRel M y b) {r : Bool}
  (h : tE D x y = some r) (d : Nat) (w : World) : (Op.equalIn (d + 1) t a b).run P w = .ok r w := by
 have hu := jy H hd
 unfold tE at h
 split at h <;> first | (cases h; done) | skip
 all_goals simp only [Option.some.injEq] at h; subst h
 all_goals cases hx <;> cases hy <;> simp [Op.equalIn, run_underlying hu]

theorem ng {M : Inj} {d : Nat} {rec_ : Nat -> AV -> AV -> Option Bool}
  (ih : ∀ t x y a b r w, VRel M x a -> VRel M y b -> rec_ t x y = some r -> (Op.equalIn d t a b).run P w = .ok r w)
  {xs ys : List AV} {as bs : Array Value} (hx : LRel M xs as.toList) (hy : LRel M ys bs.toList) :
  ∀ {fs : List Field} {r : Bool} (w : World), i0 tb rec_ xs ys fs = some r -> (Op.eqFields d as bs fs).run P w = .ok r w
 | [], r, w, h => by simp only [i0, Option.some.injEq] at h; subst h; simp [Op.eqFields]
 | f :: fs, r, w, h => by
  unfold i0 at h
  split at h
  ·cases h
  ·rename_i hn
   have hn : f.name ≠ "_" := by simpa using hn
   split at h
   ·rename_i a b ha hb
    obtain ⟨u, hu, ru⟩ := kk H hx ha w
    obtain ⟨v, hv, rv⟩ := kk H hy hb w
    simp only [Op.eqFields, hn, ne_eq, not_false_eq_true, if_true, Sem.run_bind, hu, hv, Result.andThen_ok]
    split at h
    ·rename_i he
     rw [ih _ _ _ _ _ _ _ ru rv he]
     simp only [Result.andThen_ok, Bool.not_true, Bool.false_eq_true, if_false]
     exact ng ih hx hy w h
    ·rename_i he
     simp only [Option.some.injEq] at h
     subst h
     rw [ih _ _ _ _ _ _ _ ru rv he]
     simp
    ·cases h
   ·cases h

theorem oQ {M : Inj} {d e m : Nat} {rec_ : Nat -> AV -> AV -> Option Bool}
  (ih : ∀ t x y a b r w, VRel M x a -> VRel M y b -> rec_ t x y = some r -> (Op.equalIn d t a b).run P w = .ok r w)
  {xs ys : List AV} {as bs : Array Value} (hx : LRel M xs as.toList) (hy : LRel M ys bs.toList) 
  : ∀ {k i : Nat} {r : Bool} (w : World), gp tb rec_ e m xs ys i k = some r ->
   ((forIn (List.range' i k) ((none, ()) : Option Bool × PUnit) fun i _ => do
    let __do_lift <- part e as (i * m)
    let __do_lift_1 <- part e bs (i * m)
    let __do_lift <- Op.equalIn d e __do_lift __do_lift_1
    if (!__do_lift) = true then pure (ForInStep.done (some false, ())) else pure (ForInStep.yield (none, ()))) : Sem (Option Bool × PUnit)).run P w =
    .ok (if r then (none, ()) else (some false, ())) w
 | 0, i, r, w, h => by simp only [gp, Option.some.injEq] at h; subst h; simp
 | k + 1, i, r, w, h => by
  unfold gp at h
  split at h
  ·rename_i a b ha hb
   obtain ⟨u, hu, ru⟩ := kk H hx ha w
   obtain ⟨v, hv, rv⟩ := kk H hy hb w
   simp only [List.range'_succ, List.forIn_cons, Sem.run_bind, hu, hv, Result.andThen_ok]
   split at h
   ·rename_i he
    rw [ih _ _ _ _ _ _ _ ru rv he]
    simp only [Result.andThen_ok, Bool.not_true, Bool.false_eq_true, if_false, Sem.run_pure]
    have := oQ ih hx hy w h
    simpa using this
   ·rename_i he
    simp only [Option.some.injEq] at h
    subst h
    rw [ih _ _ _ _ _ _ _ ru rv he]
    simp
   ·cases h
  ·cases h

theorem kf {M : Inj} : ∀ {d D t : Nat} {x y : AV} {a b : Value} {r : Bool} (w : World), d <= D -> VRel M x a -> VRel M y b -> ef tb d t x y = some r ->
  (Op.equalIn D t a b).run P w = .ok r w
 | 0, D, t, x, y, a, b, r, w, hd, hx, hy, h => by simp [ef] at h
 | d + 1, 0, t, x, y, a, b, r, w, hd, hx, hy, h => by omega
 | d + 1, D + 1, t, x, y, a, b, r, w, hd, hx, hy, h => by
  unfold ef at h
  split at h
  ·rename_i K hK
   have hu := jy H hK
   split at h
   ·rename_i k' k a' j b'
    split at h
    ·rename_i hkj
     subst hkj
     simp only [Option.some.injEq] at h
     subst h
     cases hx; cases hy
     rw [gU]
     exact run_equalIn_int w D t _ _ _ _ hu
    ·cases h
   ·simp only [Option.some.injEq] at h
    subst h
    obtain ⟨s, rfl, hs, _⟩ := dW hx
    obtain ⟨s', rfl, hs', _⟩ := dW hy
    rw [g7, <- hs, <- hs', ss]
    exact run_equalIn_string w D t _ _ hu
   ·rename_i fs xs ys
    split at h
    ·rename_i het
     obtain ⟨_, hst⟩ := H.et _ het
     cases hx with
     | agg _ cs hs hx =>
      cases hy with
      | agg _ ds hs' hy =>
       have hf : P.fieldsOf t = fs := by simp [Program.fieldsOf, hu]
       rw [run_equalIn_struct w D t cs ds (by rw [hf]; exact hu) hst, hf]
       exact ng H (fun t x y a b r w hx hy h => kf w zy hx hy h) ⟨by simpa using hs, fun i v u p q => hx i v u p (by simpa using q)⟩
        ⟨by simpa using hs', fun i v u p q => hy i v u p (by simpa using q)⟩ w h
    ·cases h
   ·rename_i n e xs ys
    split at h
    ·rename_i m hm
     cases hx with
     | agg _ cs hs hx =>
      cases hy with
      | agg _ ds hs' hy =>
       have := oQ (P := P) H (d := D) (e := e) (m := m) (fun t x y a b r w hx hy h => kf w zy hx hy h) (as := cs) (bs := ds) ⟨by simpa using hs, fun i v u p q => hx i v u p (by simpa using q)⟩
        ⟨by simpa using hs', fun i v u p q => hy i v u p (by simpa using q)⟩ w h
       simp only [Op.equalIn, Sem.run_bind, run_underlying hu, Result.andThen_ok, bZ H hm, Std.Legacy.Range.forIn_eq_forIn_range', Std.Legacy.Range.size]
       simp only [Nat.sub_zero, Nat.add_sub_cancel, Nat.div_one]
       rw [this]
       cases r <;> simp
    ·cases h
   ·exact Bx H hK hx hy h D w
  ·cases h

theorem tD {M : Inj} {t : Nat} {x y : AV} {a b : Value} {r : Bool} (hx : VRel M x a) (hy : VRel M y b) (h : qw tb t x y = some r) (op : BinOp) (p q : Operand) (w : World) :
  (Op.equal t a b).run P w = .ok r w /\ (eqGuard op t p q a b).run P w = .ok () w := by
 unfold qw at h
 split at h
 ·split at h
  ·rename_i het
   refine ⟨kf H w (by decide) hx hy h, ?_⟩
   cases hx; cases hy
   exact run_eqGuard_agg w op t p q _ _ (H.et _ het).1
  ·cases h
 ·cases h
 ·cases h
 ·cases h
 ·cases h
 ·rename_i n1 n2 n3 n4 n5
  refine ⟨kf H w (by decide) hx hy h, iv op t p q a b w ?_ ?_⟩
  ·rintro c d ⟨rfl, rfl⟩
   cases hx with
   | agg l cs hs hx =>
    cases hy with
    | agg l cs hs hy => exact n5 _ _ rfl rfl
    | opq b i u hi hu hv => exact n4 _ rfl
   | opq b i u hi hu hv => exact n2 _ rfl
  ·rintro rfl
   cases hx with
   | nili => exact n1 rfl
   | opq b i u hi hu hv => exact n2 _ rfl

theorem Bz {M : Inj} (hJ : J.le M) {op : BinOp} {t : Nat} {x y : AV} {a b : Value} {v : AV} (hx : VRel M x a) (hy : VRel M y b) (h : bC tb op t x y = some v) (p q : Operand) (w : World) :
  ∃ u, (do eqGuard op t p q a b; binOp op t a b : Sem Value).run P w = .ok u w /\ VRel M v u := by
 unfold bC at h
 split at h
 ·rename_i k m j n
  cases hx; cases hy
  have hg := iv (P := P) op t p q (.int k m) (.int j n) w (fun c d h => by cases h.1) (by simp)
  simp only [Sem.run_bind, hg, Result.andThen_ok]
  split at h
  ·exact uo M (.inl rfl) t h w
  ·exact uo M (.inr rfl) t h w
  ·split at h
   ·rename_i hkj
    subst hkj
    exact zO M t h w
   ·cases h
 ·obtain ⟨s, rfl, hs, _⟩ := dW hx
  obtain ⟨s', rfl, hs', _⟩ := dW hy
  have hg := iv (P := P) op t p q (.string s) (.string s') w (fun c d h => by cases h.1) (by simp)
  simp only [Sem.run_bind, hg, Result.andThen_ok]
  exact Af hs hs' h t w
 ·rename_i c k n
  obtain ⟨⟨j, m, rfl⟩, hb⟩ := H.ob _ _ _ _ _ h M a t w hJ hx
  cases hy
  have hg := iv (P := P) op t p q (.int j m) (.int k n) w (fun c d h => by cases h.1) (by simp)
  simp only [Sem.run_bind, hg, Result.andThen_ok]
  exact hb
 ·rename_i n1 n2 n3
  split at h
  ·split at h
   ·rename_i r hr
    simp only [Option.some.injEq] at h
    subst h
    obtain ⟨h1, h2⟩ := tD H hx hy hr .eql p q w
    refine ⟨.bool r, ?_, .bool r⟩
    simp only [Sem.run_bind, h2, Result.andThen_ok]
    have : (binOp .eql t a b) = (do pure (.bool (<- Op.equal t a b))) := by
     cases hx <;> cases hy <;> first | rfl | exact (n1 _ _ _ _ rfl rfl).elim | exact (n2 _ _ rfl rfl).elim | (simp [qw] at hr; done)
    rw [this]
    simp [h1]
   ·cases h
  ·split at h
   ·rename_i r hr
    simp only [Option.some.injEq] at h
    subst h
    obtain ⟨h1, h2⟩ := tD H hx hy hr .neq p q w
    refine ⟨.bool (!r), ?_, .bool _⟩
    simp only [Sem.run_bind, h2, Result.andThen_ok]
    have : (binOp .neq t a b) = (do pure (.bool (!(<- Op.equal t a b)))) := by
     cases hx <;> cases hy <;> first | rfl | exact (n1 _ _ _ _ rfl rfl).elim | exact (n2 _ _ rfl rfl).elim | (simp [qw] at hr; done)
    rw [this]
    simp [h1]
   ·cases h
  ·cases h
end alike
end Go.Proofs.YtfkbfnpjggkdmaaGreatDoor.Ev
