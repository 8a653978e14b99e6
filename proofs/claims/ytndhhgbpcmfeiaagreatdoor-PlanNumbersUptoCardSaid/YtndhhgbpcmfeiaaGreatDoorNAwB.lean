/- Walks over the evaluator, part 2: what operations do to a state. -/
import Derived.Test.YtndhhgbpcmfeiaaGreatDoorNAwA
namespace Go.Proofs.YtndhhgbpcmfeiaaGreatDoor.Ev
open Go.RowKit
noncomputable section
variable {tb : Tab} {n : Nat} {E : Env} {s : St} {hs : af} {R : T AV -> AHeap -> Prop} {ops rest : List Oper} {d : Nat} {ty : TypeId} {pos : String} {aft : Array Edge}

theorem ns {x : Int} (h : -9223372036854775808 <= x /\ x <= 9223372036854775807) : IntKind.i64.wrap x = x := by
 have e : (2 ^ 64 : Int) = 18446744073709551616 := by decide
 have e' : (2 ^ 63 : Int) = 9223372036854775808 := by decide
 simp only [IntKind.wrap, IntKind.bits, IntKind.signed, Bool.true_and, decide_eq_true_eq, e, e', show (64 - 1) = 63 from rfl]
 split <;> omega
theorem El {m j : Nat} (h : m + j <= 9223372036854775807) : IntKind.i64.wrap ((m : Int) + (j : Int)) = ((m + j : Nat) : Int) := by
 rw [ns zy]; omega
theorem AZ {m j : Nat} (h : j <= m /\ m <= 9223372036854775807) : IntKind.i64.wrap ((m : Int) - (j : Int)) = ((m - j : Nat) : Int) := by
 rw [ns zy]; omega
theorem jr {m j : Nat} : pM ((m : Nat) : Int) ((j : Nat) : Int) = decide (m < j) := by rw [dX, decide_eq_decide]; omega
theorem fI {m j : Nat} : (!(pM ((j : Nat) : Int) ((m : Nat) : Int))) = decide (m <= j) := by
 rw [dX, <- decide_not, decide_eq_decide]; omega
theorem kq {a b : Int} : (!(pM b a)) = decide (a <= b) := by rw [dX, <- decide_not, decide_eq_decide]; omega
theorem aD {m j : Nat} : mX ((m : Nat) : Int) ((j : Nat) : Int) = decide (m = j) := by
 rw [gm, Bool.eq_iff_iff]; simp; omega
theorem dt {a b : Int} : mX a b = decide (a = b) := by
 rw [gm, Bool.eq_iff_iff]; simp
theorem dY {m j : Nat} : (!(mX ((m : Nat) : Int) ((j : Nat) : Int))) = decide (m ≠ j) := by rw [aD, <- decide_not]
theorem kw {a b : Int} : (!(mX a b)) = decide (a ≠ b) := by rw [dt, <- decide_not]
theorem vA {a b : List Nat} : de a b = decide (a = b) := by rw [fJ, Bool.eq_iff_iff]; simp
theorem BN {a b : List Nat} : (!(de a b)) = decide (a ≠ b) := by rw [vA, <- decide_not]

variable {t : TypeId} {k : IntKind} {a b c : Int} {p : Bool}
theorem cW (h : k.wrap (a + b) = c) : bz tb .add t (.int k a) (.int k b) = some (.int k c) := by
 unfold bz; simp only [eC, if_pos]; rw [bP]; exact congrArg (fun x => some (AV.int k x)) h
theorem eo (h : k.wrap (a - b) = c) : bz tb .sub t (.int k a) (.int k b) = some (.int k c) := by
 unfold bz; simp only [eC, if_pos]; rw [bP]; exact congrArg (fun x => some (AV.int k x)) h
theorem eV (h : k.wrap (a * b) = c) : bz tb .mul t (.int k a) (.int k b) = some (.int k c) := by
 unfold bz; simp only [eC, if_pos]; rw [bP]; exact congrArg (fun x => some (AV.int k x)) h
theorem Bn (hb : b ≠ 0) (h : a.tmod b = c) : bz tb .rem t (.int k a) (.int k b) = some (.int k c) := by
 unfold bz; simp only [eC, if_pos]
 have : mX b 0 = false := by rw [dt]; simpa using hb
 rw [this]; exact congrArg (fun x => some (AV.int k x)) h
theorem ec (h : pM a b = p) : bz tb .lss t (.int k a) (.int k b) = some (.bool p) := by
 unfold bz; simp only [eC, if_pos, h]
theorem bf (h : pM b a = p) : bz tb .gtr t (.int k a) (.int k b) = some (.bool p) := by
 unfold bz; simp only [eC, if_pos, h]
theorem eh (h : (!(pM b a)) = p) : bz tb .leq t (.int k a) (.int k b) = some (.bool p) := by
 unfold bz; simp only [eC, if_pos, h]
theorem dS (h : (!(pM a b)) = p) : bz tb .geq t (.int k a) (.int k b) = some (.bool p) := by
 unfold bz; simp only [eC, if_pos, h]
theorem ag (h : mX a b = p) : bz tb .eql t (.int k a) (.int k b) = some (.bool p) := by
 unfold bz; simp only [eC, if_pos, h]
theorem bE (h : (!(mX a b)) = p) : bz tb .neq t (.int k a) (.int k b) = some (.bool p) := by
 unfold bz; simp only [eC, if_pos, h]
variable {x y z : List Nat}
theorem sL (h : x.length + y.length <= 4611686018427387904) : bz tb .add t (.str x) (.str y) = some (.str (x ++ y)) := by
 unfold bz; simp only [kD, Nat.ble_eq.mpr h]
theorem ap : bz tb .eql t (.str x) (.str y) = some (.bool (decide (x = y))) := by
 unfold bz; simp only [kD, vA]
theorem sM : bz tb .neq t (.str x) (.str y) = some (.bool (decide (x ≠ y))) := by
 unfold bz; simp only [kD, BN]
theorem Q.bin {op : BinOp} {ox oy : Operand} {u : TypeId} {va vb v : AV} (hx : oL s ox = some va) (hy : oL s oy = some vb) (hn : ko oy = false) (hv : bz tb op t va vb = some v) : QV tb s hs (.binOp op t ox oy u) (v) := by
 intro tm h ht hh call
 show Res.q (fV tb tm op t ox oy) = _
 unfold fV
 simp only [hn, aW ht hx, aW ht hy, hv]
theorem Q.move {ox : Operand} {v : AV} (hx : oL s ox = some v) : QV tb s hs (.move ox) v := fun tm h ht hh call => congrArg Res.q (aW ht hx)
theorem Q.assign {ox : Operand} {v : AV} (hx : oL s ox = some v) : QV tb s hs (.assign ox) v := fun tm h ht hh call => congrArg Res.q (aW ht hx)
theorem aC {oc oa ob : Operand} {v : AV} (hc : oL s oc = some (.bool true)) (ha : oL s oa = some v) : QV tb s hs (.pick oc oa ob) (v) := by
 intro tm h ht hh call
 show Res.q (fC tm oc oa ob) = _
 unfold fC
 simp only [aW ht hc, aW ht ha]
theorem aH {oc oa ob : Operand} {v : AV} (hc : oL s oc = some (.bool false)) (hb : oL s ob = some v) : QV tb s hs (.pick oc oa ob) (v) := by
 intro tm h ht hh call
 show Res.q (fC tm oc oa ob) = _
 unfold fC
 simp only [aW ht hc, aW ht hb]
theorem Q.not {ox : Operand} {q : Bool} (hx : oL s ox = some (.bool p)) (hq : (!p) = q) : QV tb s hs (.unOp .not t ox) (.bool q) := by
 intro tm h ht hh call
 show Res.q (fD tm .not ox) = _
 unfold fD
 simp only [aW ht hx, hq]
theorem Q.neg {ox : Operand} (hx : oL s ox = some (.int k a)) (hq : k.wrap (0 - a) = c) : QV tb s hs (.unOp .neg t ox) (.int k c) := by
 intro tm h ht hh call
 show Res.q (fD tm .neg ox) = _
 unfold fD
 simp only [aW ht hx, bP]
 exact congrArg (fun x => Res.q (some (AV.int k x))) hq
theorem A8 {ox : Operand} {ts : Array Nat} {t0 : Nat} {tl : List Nat} {dsc : TypeDesc} {v : AV} {m : Nat} (hts : ts.toList = t0 :: tl) (hu : tb.und t0 = some dsc) (hx : oL s ox = some v) (hl : mj dsc v = some m)
  {l : List Operand} (ho : l = [ox]) : QV tb s hs (.call ⟨.builtin .len, l.toArray, ts⟩) (.int .i64 (m : Int)) := by
 intro tm h ht hh call
 show Res.q (jL tb tm l.toArray ts) = _
 unfold jL
 subst ho
 simp only [hts, hu, aW ht hx, hl]
 rfl
theorem Q.len {ox : Operand} {t0 : Nat} {tl : List Nat} {dsc : TypeDesc} {v : AV} {m : Nat} (hu : tb.und t0 = some dsc) (hx : oL s ox = some v) (hl : mj dsc v = some m) :
  QV tb s hs (.call ⟨.builtin .len, #[ox], (t0 :: tl).toArray⟩) (.int .i64 (m : Int)) :=
 A8 (t0 := t0) (tl := tl) (by simp) hu hx hl rfl
theorem uD {l : List Operand} {ts : Array Nat} {v : AV} {vs : List AV} {r : AV} (mx : Bool) (ha : mY s l = some (v :: vs)) (hr : fk mx v vs = some r) : QV tb s hs (.call ⟨.builtin (if mx then .max else .min), l.toArray, ts⟩) (r) := by
 intro tm h ht hh call
 cases mx with
 | true =>
  show Res.q (cK tm true l.toArray) = _
  unfold cK
  simp only [jt ht ha, hr]
 | false =>
  show Res.q (cK tm false l.toArray) = _
  unfold cK
  simp only [jt ht ha, hr]
theorem BJ {m j : Nat} : fk false (.int k ((m : Nat) : Int)) [.int k ((j : Nat) : Int)] = some (.int k ((min m j : Nat) : Int)) := by
 unfold fk
 simp only [Bool.false_eq_true, if_false, dX]
 unfold fk
 by_cases h : (j : Int) < (m : Int)
 ·have e : min m j = j := by omega
  simp only [h, decide_true, e]
 ·have e : min m j = m := by omega
  simp only [h, decide_false, e]
theorem lz {ox oi : Operand} {l : List Nat} {m : Nat} (hu : tb.und t = some .string) (hx : oL s ox = some (.str l)) (hi : oL s oi = some (.int k ((m : Nat) : Int))) (hm : m < l.length) : QV tb s hs (.index t ox oi) (.int .u8 ((l.getD m 0 : Nat) : Int)) := by
 intro tm h ht hh call
 show Res.q (fi tb tm t ox oi) = _
 unfold fi
 have : d8 (aE tm oi) = some m := by rw [aW ht hi]; rfl
 simp only [hu, aW ht hx, this]
 have e : l[m]? = some (l.getD m 0) := by simp [hm]
 rw [e]
 rfl
def bL (s : St) (len : Nat) (lo hi : Option Operand) : Option (Nat × Nat) :=
 match (match hi with | some x => d8 (oL s x) | none => some len) with
 | some h =>
  match (match lo with | some x => d8 (oL s x) | none => some 0) with
  | some l => some (l, h)
  | none => none
 | none => none
theorem qx {tm : T AV} (ht : Has tm s) {x : Operand} {m : Nat} (h : d8 (oL s x) = some m) : d8 (aE tm x) = some m := by
 cases ho : oL s x with
 | none => rw [ho] at h; cases h
 | some v => rw [aW ht ho]; rw [ho] at h; exact h
theorem AC {tm : T AV} (ht : Has tm s) {len : Nat} {lo hi : Option Operand} {l h : Nat} (e : bL s len lo hi = some (l, h)) (hb : l <= h /\ h <= len) : bS tm len lo hi = some (l, h) := by
 unfold bL at e
 split at e
 ·rename_i h' e1
  split at e
  ·rename_i l' e2
   simp only [Option.some.injEq, Prod.mk.injEq] at e
   obtain ⟨rfl, rfl⟩ := e
   have f1 : (match (generalizing := false) hi with | some x => d8 (aE tm x) | none => some len) = some h' := by
    cases hi with
    | none => exact e1
    | some x => exact qx ht e1
   have f2 : (match (generalizing := false) lo with | some x => d8 (aE tm x) | none => some 0) = some l' := by
    cases lo with
    | none => exact e2
    | some x => exact qx ht e2
   have f3 : (Nat.ble h' len && Nat.ble l' h') = true := by simp; omega
   clear e1 e2
   cases hi with
   | none =>
    simp only [Option.some.injEq] at f1
    cases lo with
    | none =>
     simp only [Option.some.injEq] at f2
     simp only [bS, f1, f2] at f3 ⊢
     simp only [f3]
    | some y =>
     subst f1
     simp only [bS, f2, f3]
   | some x =>
    cases lo with
    | none =>
     simp only [Option.some.injEq] at f2
     subst f2
     simp only [bS, f1, f3]
    | some y => simp only [bS, f1, f2, f3]
  ·cases e
 ·cases e
theorem gt {ox : Operand} {lo hi : Option Operand} {l r : List Nat} {m j : Nat} (hu : tb.und t = some .string) (hx : oL s ox = some (.str l)) (hb : bL s l.length lo hi = some (m, j)) (hm : m <= j /\ j <= l.length)
  (hr : (l.drop m).take (j - m) = r) : QV tb s hs (.slice t ox lo hi none) (.str r) := by
 intro tm h ht hh call
 show Res.q (ep tb tm h.objs t ox lo hi none) = _
 unfold ep
 simp only [hu, aW ht hx]
 unfold iK
 rw [AC ht hb hm]
 simp only [hr]
theorem yh {l : List Nat} {m j : Nat} : (l.drop m).take ((m + j) - m) = (l.drop m).take j := by rw [Nat.add_sub_cancel_left]
theorem Q.extract {ox : Operand} {i : Nat} {l : List AV} {v : AV} (hx : oL s ox = some (.tuple l)) (hl : l[i]? = some v) : QV tb s hs (.extract ox i) (v) := by
 intro tm h ht hh call
 show Res.q (dz tm ox i) = _
 unfold dz
 simp only [aW ht hx, hl]
theorem bD {ox : Operand} {B o : Nat} (hx : oL s ox = some (.ptr B o)) : QV tb s hs (.nilCheck ox) (.ptr B o) := by
 intro tm h ht hh call
 show Res.q (da tm ox) = _
 unfold da
 simp only [aW ht hx]
theorem sq {f : Nat} {cs : List Operand} {l : List AV} (hl : mY s cs = some l) : QV tb s hs (.makeFunc (.func f) #[] cs.toArray) (.func f l) := by
 intro tm h ht hh call
 show Res.q (cZ tm (.func f) #[] cs.toArray) = _
 unfold cZ
 simp only [jt ht hl]
theorem fS {sr : TypeId} {ox : Operand} {ds : TypeDesc} {k' : IntKind} (hu : tb.und sr = some ds) (hv : tb.und t = some (.int k)) (hx : oL s ox = some (.int k' a)) (hw : k.wrap a = c) : QV tb s hs (.convert sr t ox) (.int k c) := by
 intro tm h ht hh call
 show dk tb tm h sr t ox = _
 unfold dk
 rw [hu, hv, aW ht hx]
 simp only [bP]
 exact congrArg (fun x => Res.q (some (AV.int k x))) hw
def FA (tb : Tab) (t f : Nat) : Option (Nat × Nat) :=
 match bW (tb.und t) with
 | some fs => eG tb fs f
 | none => none
theorem Q.fieldAddr {ox : Operand} {f B o off sz o' : Nat} (hf : FA tb t f = some (off, sz + 1)) (hx : oL s ox = some (.ptr B o)) (ho : o + off = o') : QV tb s hs (.fieldAddr t ox f) (.ptr B o') := by
 intro tm h ht hh call
 show Res.q (cu tb tm t ox f) = _
 unfold cu
 unfold FA at hf
 split at hf
 ·rename_i fs hfs
  simp only [hfs, aW ht hx, hf, ho]
 ·cases hf
def FT (tb : Tab) (t f : Nat) : Option (Nat × Option Nat) :=
 match bW (tb.und t) with
 | some fs => match fs[f]? with
  | some fd => match tb.isAgg fd.type with
   | some true => match tb.size fd.type with
    | some n => some (fd.offset, some n)
    | none => none
   | some false => some (fd.offset, none)
   | none => none
  | none => none
 | none => none
theorem yB {f off : Nat} {q : Option Nat} (hf : FT tb t f = some (off, q)) : ∃ fs fd, bW (tb.und t) = some fs /\ fs[f]? = some fd /\ ∀ cs, gb tb fd.type cs fd.offset = match q with
  | some m => some (.agg ((cs.drop off).take m))
  | none => cs[off]? := by
 unfold FT at hf
 split at hf
 ·rename_i fs hfs
  split at hf
  ·rename_i fd hfd
   refine ⟨fs, fd, hfs, hfd, fun cs => ?_⟩
   unfold gb
   split at hf
   ·rename_i hag
    split at hf
    ·rename_i m hm
     simp only [Option.some.injEq, Prod.mk.injEq] at hf
     obtain ⟨rfl, rfl⟩ := hf
     simp only [hag, hm]
    ·cases hf
   ·rename_i hag
    simp only [Option.some.injEq, Prod.mk.injEq] at hf
    obtain ⟨rfl, rfl⟩ := hf
    simp only [hag]
   ·cases hf
  ·cases hf
 ·cases hf
theorem cp {ox : Operand} {f off : Nat} {cs : List AV} {v : AV} (hf : FT tb t f = some (off, none)) (hx : oL s ox = some (.agg cs)) (hv : cs[off]? = some v) : QV tb s hs (.field t ox f) (v) := by
 intro tm h ht hh call
 show Res.q (fg tb tm t ox f) = _
 obtain ⟨fs, fd, h1, h2, h3⟩ := yB hf
 unfold fg
 simp only [h1, aW ht hx, h2, h3, hv]
def BT (tb : Tab) (t : Nat) : Option (List AV × (Nat -> Option (Nat × Nat))) :=
 match tb.zero t with
 | some z => match tb.und t with
  | some (.struct fs) => match jW tb fs.toList with
   | true => some (z.cells, eG tb fs.toList)
   | false => none
  | some (.array _ e) => match tb.size e with
   | some n => some (z.cells, fun i => some (i * n, n))
   | none => none
  | _ => none
 | none => none
def w5 (s : St) : List (Nat × Operand) -> Option (List (Nat × AV))
 | [] => some []
 | (i, x) :: l => match oL s x with
  | some a => match w5 s l with
   | some m => some ((i, a) :: m)
   | none => none
  | none => none
theorem rZ {tm : T AV} (ht : Has tm s) : ∀ {l : List (Nat × Operand)} {m : List (Nat × AV)}, w5 s l = some m -> bj tm l = some m
 | [], m, e => e
 | (i, x) :: l, m, e => by
  unfold w5 at e
  split at e
  ·rename_i a ha
   split at e
   ·rename_i q hq
    unfold bj
    rw [aW ht ha, rZ ht hq]
    exact e
   ·cases e
  ·cases e
theorem b8 {i : Nat} {x : Operand} {l : List (Nat × Operand)} {v : AV} {m : List (Nat × AV)} (h : oL s x = some v) (g : w5 s l = some m) : w5 s ((i, x) :: l) = some ((i, v) :: m) := by
 unfold w5; rw [h, g]
theorem ak : w5 s [] = some [] := rfl
theorem kO {f g : Nat -> Option (Nat × Nat)} : ∀ {l : List (Nat × AV)} {cs : List AV}, (∀ p ∈ l, f p.1 = g p.1) -> dn f cs l = dn g cs l
 | [], cs, h => rfl
 | (i, v) :: l, cs, h => by
  have e : f i = g i := h (i, v) (List.mem_cons_self ..)
  unfold dn
  rw [e]
  cases g i with
  | none => rfl
  | some q =>
   simp only
   split
   ·exact kO fun p hp => h p (List.mem_cons_of_mem _ hp)
   ·rfl
def PL (tb : Tab) (t : Nat) (zs : List AV) (pl : List (Nat × Nat)) : Bool :=
 match BT tb t with
 | some (cs, f) => fw cH cs zs && (List.range pl.length).all fun i => f i == pl[i]?
 | none => false
theorem Q.build {l : List (Nat × Operand)} {zs cs : List AV} {pl : List (Nat × Nat)} {ps : List (Nat × AV)} (hp : PL tb t zs pl = true) (ho : w5 s l = some ps) (hi : (ps.all fun p => Nat.blt p.1 pl.length) = true)
  (hf : dn (fun i => pl[i]?) zs ps = some cs) : QV tb s hs (.build t l.toArray) (.agg cs) := by
 intro tm h ht hh call
 show Res.q (fe tb tm t l.toArray) = _
 unfold PL at hp
 split at hp
 ·rename_i cs0 f hbt
  simp only [Bool.and_eq_true, List.all_eq_true, List.mem_range] at hp
  have hz : cs0 = zs := by
   have := oH (.tuple cs0) (.tuple zs) (by
    show fw gy cs0 zs = true
    have mono : ∀ {a b : AV}, cH a b = true -> gy a b = true := by
     intro a b h
     cases a <;> cases b <;> simp_all [cH, gy]
     rename_i f1 l1 g1 m1
     cases l1 <;> cases m1 <;> simp_all [fw]
    have ml : ∀ {a b : List AV}, fw cH a b = true -> fw gy a b = true := by
     intro a
     induction a with
     | nil => intro b h; cases b <;> simp_all [fw]
     | cons x a ih =>
      intro b h
      cases b with
      | nil => simp [fw] at h
      | cons y b =>
       simp only [fw, Bool.and_eq_true] at h ⊢
       exact ⟨mono h.1, ih h.2⟩
    exact ml hp.1)
   simpa using this
  subst hz
  have hfg : ∀ p ∈ ps, f p.1 = pl[p.1]? := by
   intro p hpm
   have hlt := List.all_eq_true.1 hi p hpm
   have := hp.2 p.1 (by simpa using hlt)
   simpa using this
  have hfill : dn f cs0 ps = some cs := by rw [kO hfg]; exact hf
  unfold BT at hbt
  unfold fe
  have hps : bj tm l.toArray.toList = some ps := rZ ht ho
  split at hbt
  ·rename_i z hz
   split at hbt
   ·rename_i fs hu
    split at hbt
    ·rename_i hsz
     simp only [Option.some.injEq, Prod.mk.injEq] at hbt
     obtain ⟨rfl, rfl⟩ := hbt
     rw [hz, hps]
     simp only [hu, hsz, hfill]
     rfl
    ·cases hbt
   ·rename_i u e hu
    split at hbt
    ·rename_i m hm
     simp only [Option.some.injEq, Prod.mk.injEq] at hbt
     obtain ⟨rfl, rfl⟩ := hbt
     rw [hz, hps]
     simp only [hu, hm, hfill]
     rfl
    ·cases hbt
   ·cases hbt
  ·cases hbt
 ·cases hp
end
end Go.Proofs.YtndhhgbpcmfeiaaGreatDoor.Ev
