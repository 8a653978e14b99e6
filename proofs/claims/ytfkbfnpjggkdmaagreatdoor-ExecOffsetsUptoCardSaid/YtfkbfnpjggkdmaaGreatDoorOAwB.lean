/- Walks over the evaluator, part 2: what operations do to a state. -/
import Derived.Test.YtfkbfnpjggkdmaaGreatDoorOAwA
namespace Go.Proofs.YtfkbfnpjggkdmaaGreatDoor.Ev
open Go.RowKit
noncomputable section
variable {tb : Tab} {n : Nat} {E : Env} {s : St} {hs : HSt} {R : T AV → AHeap → Prop} {ops rest : List Oper} {d : Nat} {ty : TypeId} {pos : String} {aft : Array Edge}

theorem wr64 {x : Int} (h : -9223372036854775808 ≤ x ∧ x ≤ 9223372036854775807) : IntKind.i64.wrap x = x := by
 have e : (2 ^ 64 : Int) = 18446744073709551616 := by decide
 have e' : (2 ^ 63 : Int) = 9223372036854775808 := by decide
 simp only [IntKind.wrap, IntKind.bits, IntKind.signed, Bool.true_and, decide_eq_true_eq, e, e', show (64 - 1) = 63 from rfl]
 split <;> omega
theorem wru64 {x : Int} (h : 0 ≤ x ∧ x ≤ 18446744073709551615) : IntKind.u64.wrap x = x := by
 have e : (2 ^ 64 : Int) = 18446744073709551616 := by decide
 simp only [IntKind.wrap, IntKind.bits, IntKind.signed, Bool.false_and, e]
 simp
 omega
theorem wna {m j : Nat} (h : m + j ≤ 9223372036854775807) : IntKind.i64.wrap ((m : Int) + (j : Int)) = ((m + j : Nat) : Int) := by
 rw [wr64 (by omega)]; omega
theorem wns {m j : Nat} (h : j ≤ m ∧ m ≤ 9223372036854775807) : IntKind.i64.wrap ((m : Int) - (j : Int)) = ((m - j : Nat) : Int) := by
 rw [wr64 (by omega)]; omega
theorem ltn {m j : Nat} : ltA ((m : Nat) : Int) ((j : Nat) : Int) = decide (m < j) := by rw [ltA_eq, decide_eq_decide]; omega
theorem le_nat {m j : Nat} : (!(ltA ((j : Nat) : Int) ((m : Nat) : Int))) = decide (m ≤ j) := by
 rw [ltA_eq, ← decide_not, decide_eq_decide]; omega
theorem le_int {a b : Int} : (!(ltA b a)) = decide (a ≤ b) := by rw [ltA_eq, ← decide_not, decide_eq_decide]; omega
theorem eq_nat {m j : Nat} : eqA ((m : Nat) : Int) ((j : Nat) : Int) = decide (m = j) := by
 rw [eqA_eq, Bool.eq_iff_iff]; simp; omega
theorem eq_int {a b : Int} : eqA a b = decide (a = b) := by
 rw [eqA_eq, Bool.eq_iff_iff]; simp
theorem ne_nat {m j : Nat} : (!(eqA ((m : Nat) : Int) ((j : Nat) : Int))) = decide (m ≠ j) := by rw [eq_nat, ← decide_not]
theorem ne_int {a b : Int} : (!(eqA a b)) = decide (a ≠ b) := by rw [eq_int, ← decide_not]
theorem eq_str {a b : List Nat} : listBeq a b = decide (a = b) := by rw [listBeq_eq, Bool.eq_iff_iff]; simp
theorem ne_str {a b : List Nat} : (!(listBeq a b)) = decide (a ≠ b) := by rw [eq_str, ← decide_not]

variable {t : TypeId} {k : IntKind} {a b c : Int} {p : Bool}
theorem bv_add (h : k.wrap (a + b) = c) : evBin tb .add t (.int k a) (.int k b) = some (.int k c) := by
 unfold evBin; simp only [intBin, if_pos]; rw [wrapA_eq]; exact congrArg (fun x => some (AV.int k x)) h
theorem bv_sub (h : k.wrap (a - b) = c) : evBin tb .sub t (.int k a) (.int k b) = some (.int k c) := by
 unfold evBin; simp only [intBin, if_pos]; rw [wrapA_eq]; exact congrArg (fun x => some (AV.int k x)) h
theorem bv_mul (h : k.wrap (a * b) = c) : evBin tb .mul t (.int k a) (.int k b) = some (.int k c) := by
 unfold evBin; simp only [intBin, if_pos]; rw [wrapA_eq]; exact congrArg (fun x => some (AV.int k x)) h
theorem bv_quo (hb : b ≠ 0) (h : k.wrap (a.tdiv b) = c) : evBin tb .quo t (.int k a) (.int k b) = some (.int k c) := by
 unfold evBin; simp only [intBin, if_pos]
 have : eqA b 0 = false := by rw [eq_int]; simpa using hb
 rw [this, wrapA_eq]; exact congrArg (fun x => some (AV.int k x)) h
theorem bvl (h : ltA a b = p) : evBin tb .lss t (.int k a) (.int k b) = some (.bool p) := by
 unfold evBin; simp only [intBin, if_pos, h]
theorem bv_gtr (h : ltA b a = p) : evBin tb .gtr t (.int k a) (.int k b) = some (.bool p) := by
 unfold evBin; simp only [intBin, if_pos, h]
theorem bv_leq (h : (!(ltA b a)) = p) : evBin tb .leq t (.int k a) (.int k b) = some (.bool p) := by
 unfold evBin; simp only [intBin, if_pos, h]
theorem bv_geq (h : (!(ltA a b)) = p) : evBin tb .geq t (.int k a) (.int k b) = some (.bool p) := by
 unfold evBin; simp only [intBin, if_pos, h]
theorem bv_eql (h : eqA a b = p) : evBin tb .eql t (.int k a) (.int k b) = some (.bool p) := by
 unfold evBin; simp only [intBin, if_pos, h]
theorem bv_neq (h : (!(eqA a b)) = p) : evBin tb .neq t (.int k a) (.int k b) = some (.bool p) := by
 unfold evBin; simp only [intBin, if_pos, h]
variable {x y z : List Nat}
theorem bv_seql : evBin tb .eql t (.str x) (.str y) = some (.bool (decide (x = y))) := by
 unfold evBin; simp only [strBin, eq_str]
theorem bv_sneq : evBin tb .neq t (.str x) (.str y) = some (.bool (decide (x ≠ y))) := by
 unfold evBin; simp only [strBin, ne_str]
theorem bv_slss : evBin tb .lss t (.str x) (.str y) = some (.bool (listLess x y)) := rfl

theorem Q.bin {op : BinOp} {ox oy : Operand} {u : TypeId} {va vb v : AV} (hx : oL s ox = some va) (hy : oL s oy = some vb) (hn : isNilC oy = false) (hv : evBin tb op t va vb = some v) : QV tb s hs (.binOp op t ox oy u) (v) := by
 intro tm h ht hh call
 show Res.q (evBinOp tb tm op t ox oy) = _
 unfold evBinOp
 simp only [hn, oL_ok ht hx, oL_ok ht hy, hv]
theorem Q.move {ox : Operand} {v : AV} (hx : oL s ox = some v) : QV tb s hs (.move ox) v := fun tm h ht hh call => congrArg Res.q (oL_ok ht hx)
theorem Q.assign {ox : Operand} {v : AV} (hx : oL s ox = some v) : QV tb s hs (.assign ox) v := fun tm h ht hh call => congrArg Res.q (oL_ok ht hx)
theorem Q.pT {oc oa ob : Operand} {v : AV} (hc : oL s oc = some (.bool true)) (ha : oL s oa = some v) : QV tb s hs (.pick oc oa ob) (v) := by
 intro tm h ht hh call
 show Res.q (evPick tm oc oa ob) = _
 unfold evPick
 simp only [oL_ok ht hc, oL_ok ht ha]
theorem Q.pF {oc oa ob : Operand} {v : AV} (hc : oL s oc = some (.bool false)) (hb : oL s ob = some v) : QV tb s hs (.pick oc oa ob) (v) := by
 intro tm h ht hh call
 show Res.q (evPick tm oc oa ob) = _
 unfold evPick
 simp only [oL_ok ht hc, oL_ok ht hb]
theorem Q.not {ox : Operand} {q : Bool} (hx : oL s ox = some (.bool p)) (hq : (!p) = q) : QV tb s hs (.unOp .not t ox) (.bool q) := by
 intro tm h ht hh call
 show Res.q (evUnOp tm .not ox) = _
 unfold evUnOp
 simp only [oL_ok ht hx, hq]
theorem Q.neg {ox : Operand} (hx : oL s ox = some (.int k a)) (hq : k.wrap (0 - a) = c) : QV tb s hs (.unOp .neg t ox) (.int k c) := by
 intro tm h ht hh call
 show Res.q (evUnOp tm .neg ox) = _
 unfold evUnOp
 simp only [oL_ok ht hx, wrapA_eq]
 exact congrArg (fun x => Res.q (some (AV.int k x))) hq
theorem Q.lenV {ox : Operand} {ts : Array Nat} {t0 : Nat} {tl : List Nat} {dsc : TypeDesc} {v : AV} {m : Nat} (hts : ts.toList = t0 :: tl) (hu : tb.und t0 = some dsc) (hx : oL s ox = some v) (hl : lenA dsc v = some m)
  {l : List Operand} (ho : l = [ox]) : QV tb s hs (.call ⟨.builtin .len, l.toArray, ts⟩) (.int .i64 (m : Int)) := by
 intro tm h ht hh call
 show Res.q (evLen tb tm l.toArray ts) = _
 unfold evLen
 subst ho
 simp only [hts, hu, oL_ok ht hx, hl]
 rfl
theorem Q.len {ox : Operand} {t0 : Nat} {tl : List Nat} {dsc : TypeDesc} {v : AV} {m : Nat} (hu : tb.und t0 = some dsc) (hx : oL s ox = some v) (hl : lenA dsc v = some m) :
  QV tb s hs (.call ⟨.builtin .len, #[ox], (t0 :: tl).toArray⟩) (.int .i64 (m : Int)) :=
 Q.lenV (t0 := t0) (tl := tl) (by simp) hu hx hl rfl
theorem Q.minmax {l : List Operand} {ts : Array Nat} {v : AV} {vs : List AV} {r : AV} (mx : Bool) (ha : oLs s l = some (v :: vs)) (hr : minmaxA mx v vs = some r) : QV tb s hs (.call ⟨.builtin (if mx then .max else .min), l.toArray, ts⟩) (r) := by
 intro tm h ht hh call
 cases mx with
 | true =>
  show Res.q (evMinMax tm true l.toArray) = _
  unfold evMinMax
  simp only [oLs_ok ht ha, hr]
 | false =>
  show Res.q (evMinMax tm false l.toArray) = _
  unfold evMinMax
  simp only [oLs_ok ht ha, hr]
theorem Q.indexS {ox oi : Operand} {l : List Nat} {m : Nat} (hu : tb.und t = some .string) (hx : oL s ox = some (.str l)) (hi : oL s oi = some (.int k ((m : Nat) : Int))) (hm : m < l.length) : QV tb s hs (.index t ox oi) (.int .u8 ((l.getD m 0 : Nat) : Int)) := by
 intro tm h ht hh call
 show Res.q (evIndex tb tm t ox oi) = _
 unfold evIndex
 have : natOf (opnd tm oi) = some m := by rw [oL_ok ht hi]; rfl
 simp only [hu, oL_ok ht hx, this]
 have e : l[m]? = some (l.getD m 0) := by simp [hm]
 rw [e]
 rfl
def bL (s : St) (len : Nat) (lo hi : Option Operand) : Option (Nat × Nat) :=
 match (match hi with | some x => natOf (oL s x) | none => some len) with
 | some h =>
  match (match lo with | some x => natOf (oL s x) | none => some 0) with
  | some l => some (l, h)
  | none => none
 | none => none
theorem natOf_ok {tm : T AV} (ht : Has tm s) {x : Operand} {m : Nat} (h : natOf (oL s x) = some m) : natOf (opnd tm x) = some m := by
 cases ho : oL s x with
 | none => rw [ho] at h; cases h
 | some v => rw [oL_ok ht ho]; rw [ho] at h; exact h
theorem bL_ok {tm : T AV} (ht : Has tm s) {len : Nat} {lo hi : Option Operand} {l h : Nat} (e : bL s len lo hi = some (l, h)) (hb : l ≤ h ∧ h ≤ len) : boundsA tm len lo hi = some (l, h) := by
 unfold bL at e
 split at e
 ·rename_i h' e1
  split at e
  ·rename_i l' e2
   simp only [Option.some.injEq, Prod.mk.injEq] at e
   obtain ⟨rfl, rfl⟩ := e
   have f1 : (match (generalizing := false) hi with | some x => natOf (opnd tm x) | none => some len) = some h' := by
    cases hi with
    | none => exact e1
    | some x => exact natOf_ok ht e1
   have f2 : (match (generalizing := false) lo with | some x => natOf (opnd tm x) | none => some 0) = some l' := by
    cases lo with
    | none => exact e2
    | some x => exact natOf_ok ht e2
   have f3 : (Nat.ble h' len && Nat.ble l' h') = true := by simp; omega
   clear e1 e2
   cases hi with
   | none =>
    simp only [Option.some.injEq] at f1
    cases lo with
    | none =>
     simp only [Option.some.injEq] at f2
     simp only [boundsA, f1, f2] at f3 ⊢
     simp only [f3]
    | some y =>
     subst f1
     simp only [boundsA, f2, f3]
   | some x =>
    cases lo with
    | none =>
     simp only [Option.some.injEq] at f2
     subst f2
     simp only [boundsA, f1, f3]
    | some y => simp only [boundsA, f1, f2, f3]
  ·cases e
 ·cases e
theorem Q.sliceS {ox : Operand} {lo hi : Option Operand} {l r : List Nat} {m j : Nat} (hu : tb.und t = some .string) (hx : oL s ox = some (.str l)) (hb : bL s l.length lo hi = some (m, j)) (hm : m ≤ j ∧ j ≤ l.length)
  (hr : (l.drop m).take (j - m) = r) : QV tb s hs (.slice t ox lo hi none) (.str r) := by
 intro tm h ht hh call
 show Res.q (evSlice tb tm h.objs t ox lo hi none) = _
 unfold evSlice
 simp only [hu, oL_ok ht hx]
 unfold sliceStr
 rw [bL_ok ht hb hm]
 simp only [hr]
theorem sl_lo {l : List Nat} {m : Nat} : (l.drop m).take (l.length - m) = l.drop m := by rw [List.take_of_length_le]; simp
theorem Q.extract {ox : Operand} {i : Nat} {l : List AV} {v : AV} (hx : oL s ox = some (.tuple l)) (hl : l[i]? = some v) : QV tb s hs (.extract ox i) (v) := by
 intro tm h ht hh call
 show Res.q (evExtract tm ox i) = _
 unfold evExtract
 simp only [oL_ok ht hx, hl]
theorem Q.nilP {ox : Operand} {B o : Nat} (hx : oL s ox = some (.ptr B o)) : QV tb s hs (.nilCheck ox) (.ptr B o) := by
 intro tm h ht hh call
 show Res.q (evNilCheck tm ox) = _
 unfold evNilCheck
 simp only [oL_ok ht hx]
theorem Q.makeF {f : Nat} {cs : List Operand} {l : List AV} (hl : oLs s cs = some l) (hc : l.all AV.isCell = true := by rfl) : QV tb s hs (.makeFunc (.func f) #[] cs.toArray) (.func f l) := by
 intro tm h ht hh call
 show Res.q (evMakeFunc tm (.func f) #[] cs.toArray) = _
 unfold evMakeFunc
 simp only [oLs_ok ht hl, hc]
theorem Q.makeM {f : Nat} {x : Operand} {v : AV} (hx : oL s x = some v) : QV tb s hs (.makeFunc (.func f) #[x] #[]) (.func f [.tuple [], v]) := by
 intro tm h ht hh call
 show Res.q (evMakeFunc tm (.func f) #[x] #[]) = _
 unfold evMakeFunc
 simp only [opnds, oL_ok ht hx]
theorem Q.convI {sr : TypeId} {ox : Operand} {ds : TypeDesc} {k' : IntKind} (hu : tb.und sr = some ds) (hv : tb.und t = some (.int k)) (hx : oL s ox = some (.int k' a)) (hw : k.wrap a = c) : QV tb s hs (.convert sr t ox) (.int k c) := by
 intro tm h ht hh call
 show evConvert tb tm h sr t ox = _
 unfold evConvert
 rw [hu, hv, oL_ok ht hx]
 simp only [wrapA_eq]
 exact congrArg (fun x => Res.q (some (AV.int k x))) hw
def FA (tb : Tab) (t f : Nat) : Option (Nat × Nat) :=
 match structFields (tb.und t) with
 | some fs => fieldPl tb fs f
 | none => none
theorem Q.fieldAddr {ox : Operand} {f B o off sz o' : Nat} (hf : FA tb t f = some (off, sz + 1)) (hx : oL s ox = some (.ptr B o)) (ho : o + off = o') : QV tb s hs (.fieldAddr t ox f) (.ptr B o') := by
 intro tm h ht hh call
 show Res.q (evFieldAddr tb tm t ox f) = _
 unfold evFieldAddr
 unfold FA at hf
 split at hf
 ·rename_i fs hfs
  simp only [hfs, oL_ok ht hx, hf, ho]
 ·cases hf
def FT (tb : Tab) (t f : Nat) : Option (Nat × Option Nat) :=
 match structFields (tb.und t) with
 | some fs => match fs[f]? with
  | some fd => match tb.isAgg fd.type with
   | some true => match tb.size fd.type with
    | some n => some (fd.offset, some n)
    | none => none
   | some false => some (fd.offset, none)
   | none => none
  | none => none
 | none => none
def BT (tb : Tab) (t : Nat) : Option (List AV × (Nat → Option (Nat × Nat))) :=
 match tb.zero t with
 | some z => match tb.und t with
  | some (.struct fs) => match sizesOk tb fs.toList with
   | true => some (z.cells, fieldPl tb fs.toList)
   | false => none
  | some (.array _ e) => match tb.size e with
   | some n => some (z.cells, fun i => some (i * n, n))
   | none => none
  | _ => none
 | none => none
def oPs (s : St) : List (Nat × Operand) → Option (List (Nat × AV))
 | [] => some []
 | (i, x) :: l => match oL s x with
  | some a => match oPs s l with
   | some m => some ((i, a) :: m)
   | none => none
  | none => none
theorem oPs_ok {tm : T AV} (ht : Has tm s) : ∀ {l : List (Nat × Operand)} {m : List (Nat × AV)}, oPs s l = some m → opndPairs tm l = some m
 | [], m, e => e
 | (i, x) :: l, m, e => by
  unfold oPs at e
  split at e
  ·rename_i a ha
   split at e
   ·rename_i q hq
    unfold opndPairs
    rw [oL_ok ht ha, oPs_ok ht hq]
    exact e
   ·cases e
  ·cases e
theorem opc {i : Nat} {x : Operand} {l : List (Nat × Operand)} {v : AV} {m : List (Nat × AV)} (h : oL s x = some v) (g : oPs s l = some m) : oPs s ((i, x) :: l) = some ((i, v) :: m) := by
 unfold oPs; rw [h, g]
theorem opn : oPs s [] = some [] := rfl
theorem fillA_congr {f g : Nat → Option (Nat × Nat)} : ∀ {l : List (Nat × AV)} {cs : List AV}, (∀ p ∈ l, f p.1 = g p.1) → fillA f cs l = fillA g cs l
 | [], cs, h => rfl
 | (i, v) :: l, cs, h => by
  have e : f i = g i := h (i, v) (List.mem_cons_self ..)
  unfold fillA
  rw [e]
  cases g i with
  | none => rfl
  | some q =>
   simp only
   split
   ·exact fillA_congr fun p hp => h p (List.mem_cons_of_mem _ hp)
   ·rfl
def PL (tb : Tab) (t : Nat) (zs : List AV) (pl : List (Nat × Nat)) : Bool :=
 match BT tb t with
 | some (cs, f) => beqL beq0 cs zs && (List.range pl.length).all fun i => f i == pl[i]?
 | none => false
theorem Q.build {l : List (Nat × Operand)} {zs cs : List AV} {pl : List (Nat × Nat)} {ps : List (Nat × AV)} (hp : PL tb t zs pl = true) (ho : oPs s l = some ps) (hi : (ps.all fun p => Nat.blt p.1 pl.length) = true)
  (hf : fillA (fun i => pl[i]?) zs ps = some cs) : QV tb s hs (.build t l.toArray) (.agg cs) := by
 intro tm h ht hh call
 show Res.q (evBuild tb tm t l.toArray) = _
 unfold PL at hp
 split at hp
 ·rename_i cs0 f hbt
  simp only [Bool.and_eq_true, List.all_eq_true, List.mem_range] at hp
  have hz : cs0 = zs := by
   have := beq_ok (.tuple cs0) (.tuple zs) (by
    show beqL beq1 cs0 zs = true
    have mono : ∀ {a b : AV}, beq0 a b = true → beq1 a b = true := by
     intro a b h
     cases a <;> cases b <;> simp_all [beq0, beq1, beqz]
    have ml : ∀ {a b : List AV}, beqL beq0 a b = true → beqL beq1 a b = true := by
     intro a
     induction a with
     | nil => intro b h; cases b <;> simp_all [beqL]
     | cons x a ih =>
      intro b h
      cases b with
      | nil => simp [beqL] at h
      | cons y b =>
       simp only [beqL, Bool.and_eq_true] at h ⊢
       exact ⟨mono h.1, ih h.2⟩
    exact ml hp.1)
   simpa using this
  subst hz
  have hfg : ∀ p ∈ ps, f p.1 = pl[p.1]? := by
   intro p hpm
   have hlt := List.all_eq_true.1 hi p hpm
   have := hp.2 p.1 (by simpa using hlt)
   simpa using this
  have hfill : fillA f cs0 ps = some cs := by rw [fillA_congr hfg]; exact hf
  unfold BT at hbt
  unfold evBuild
  have hps : opndPairs tm l.toArray.toList = some ps := oPs_ok ht ho
  split at hbt
  ·rename_i z hz
   split at hbt
   ·rename_i fs hu
    split at hbt
    ·rename_i hsz
     simp only [Option.some.injEq, Prod.mk.injEq] at hbt
     obtain ⟨rfl, rfl⟩ := hbt
     rw [hz, hps]
     simp only [hu, hsz, hfill]
     rfl
    ·cases hbt
   ·rename_i u e hu
    split at hbt
    ·rename_i m hm
     simp only [Option.some.injEq, Prod.mk.injEq] at hbt
     obtain ⟨rfl, rfl⟩ := hbt
     rw [hz, hps]
     simp only [hu, hm, hfill]
     rfl
    ·cases hbt
   ·cases hbt
  ·cases hbt
 ·cases hp
end
end Go.Proofs.YtfkbfnpjggkdmaaGreatDoor.Ev
