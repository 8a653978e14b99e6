/- Walks over the evaluator, part 2: what operations do to a state. -/
import Derived.Test.YtndhhgbpcmfeiaaGreatDoorPAwA
namespace Go.Proofs.YtndhhgbpcmfeiaaGreatDoor.Ev
open Go.RowKit
noncomputable section
variable {tb : Tab} {n : Nat} {E : Env} {s : St} {hs : ad} {R : T AV -> AHeap -> Prop} {ops rest : List Oper} {d : Nat} {ty : TypeId} {pos : String} {aft : Array Edge}

theorem uQ {x : Int} (h : -9223372036854775808 <= x /\ x <= 9223372036854775807) : IntKind.i64.wrap x = x := by
 have e : (2 ^ 64 : Int) = 18446744073709551616 := by decide
 have e' : (2 ^ 63 : Int) = 9223372036854775808 := by decide
 simp only [IntKind.wrap, IntKind.bits, IntKind.signed, Bool.true_and, decide_eq_true_eq, e, e', show (64 - 1) = 63 from rfl]
 split <;> omega
theorem Dx {m j : Nat} (h : m + j <= 9223372036854775807) : IntKind.i64.wrap ((m : Int) + (j : Int)) = ((m + j : Nat) : Int) := by
 rw [uQ zy]; omega
theorem Cp {m j : Nat} (h : j <= m /\ m <= 9223372036854775807) : IntKind.i64.wrap ((m : Int) - (j : Int)) = ((m - j : Nat) : Int) := by
 rw [uQ zy]; omega
theorem fv {m j : Nat} : pH ((m : Nat) : Int) ((j : Nat) : Int) = decide (m < j) := by rw [cL, decide_eq_decide]; omega
theorem BG {m j : Nat} : (!(pH ((j : Nat) : Int) ((m : Nat) : Int))) = decide (m <= j) := by
 rw [cL, <- decide_not, decide_eq_decide]; omega
theorem ey {a b : Int} : (!(pH b a)) = decide (a <= b) := by rw [cL, <- decide_not, decide_eq_decide]; omega
theorem fe {m j : Nat} : p9 ((m : Nat) : Int) ((j : Nat) : Int) = decide (m = j) := by
 rw [gt, Bool.eq_iff_iff]; simp; omega
theorem bW {a b : Int} : p9 a b = decide (a = b) := by
 rw [gt, Bool.eq_iff_iff]; simp
theorem er {m j : Nat} : (!(p9 ((m : Nat) : Int) ((j : Nat) : Int))) = decide (m ≠ j) := by rw [fe, <- decide_not]
theorem fH {a b : Int} : (!(p9 a b)) = decide (a ≠ b) := by rw [bW, <- decide_not]
theorem jE {a b : List Nat} : bN a b = decide (a = b) := by rw [fF, Bool.eq_iff_iff]; simp
theorem BO {a b : List Nat} : (!(bN a b)) = decide (a ≠ b) := by rw [jE, <- decide_not]

variable {t : TypeId} {k : IntKind} {a b c : Int} {p : Bool}
theorem Bn (h : k.wrap (a + b) = c) : bO tb .add t (.int k a) (.int k b) = some (.int k c) := by
 unfold bO; simp only [fh, if_pos]; rw [cn]; exact congrArg (fun x => some (AV.int k x)) h
theorem iG (h : k.wrap (a - b) = c) : bO tb .sub t (.int k a) (.int k b) = some (.int k c) := by
 unfold bO; simp only [fh, if_pos]; rw [cn]; exact congrArg (fun x => some (AV.int k x)) h
theorem fi (h : pH a b = p) : bO tb .lss t (.int k a) (.int k b) = some (.bool p) := by
 unfold bO; simp only [fh, if_pos, h]
theorem gV (h : pH b a = p) : bO tb .gtr t (.int k a) (.int k b) = some (.bool p) := by
 unfold bO; simp only [fh, if_pos, h]
theorem lZ (h : (!(pH b a)) = p) : bO tb .leq t (.int k a) (.int k b) = some (.bool p) := by
 unfold bO; simp only [fh, if_pos, h]
theorem gU (h : (!(pH a b)) = p) : bO tb .geq t (.int k a) (.int k b) = some (.bool p) := by
 unfold bO; simp only [fh, if_pos, h]
theorem bz (h : p9 a b = p) : bO tb .eql t (.int k a) (.int k b) = some (.bool p) := by
 unfold bO; simp only [fh, if_pos, h]
theorem bV (h : (!(p9 a b)) = p) : bO tb .neq t (.int k a) (.int k b) = some (.bool p) := by
 unfold bO; simp only [fh, if_pos, h]
variable {x y z : List Nat}
theorem aq : bO tb .eql t (.str x) (.str y) = some (.bool (decide (x = y))) := by
 unfold bO; simp only [m8, jE]
theorem lI : bO tb .neq t (.str x) (.str y) = some (.bool (decide (x ≠ y))) := by
 unfold bO; simp only [m8, BO]
theorem aa {op : BinOp} {ox oy : Operand} {u : TypeId} {va vb v : AV} (hx : oL s ox = some va) (hy : oL s oy = some vb) (hn : kM oy = false) (hv : bO tb op t va vb = some v) : QV tb s hs (.binOp op t ox oy u) (v) := by
 intro tm h ht hh call
 show Res.q (fX tb tm op t ox oy) = _
 unfold fX
 simp only [hn, aX ht hx, aX ht hy, hv]
theorem Q.move {ox : Operand} {v : AV} (hx : oL s ox = some v) : QV tb s hs (.move ox) v := fun tm h ht hh call => congrArg Res.q (aX ht hx)
theorem Q.assign {ox : Operand} {v : AV} (hx : oL s ox = some v) : QV tb s hs (.assign ox) v := fun tm h ht hh call => congrArg Res.q (aX ht hx)
theorem au {oc oa ob : Operand} {v : AV} (hc : oL s oc = some (.bool true)) (ha : oL s oa = some v) : QV tb s hs (.pick oc oa ob) (v) := by
 intro tm h ht hh call
 show Res.q (fC tm oc oa ob) = _
 unfold fC
 simp only [aX ht hc, aX ht ha]
theorem aG {oc oa ob : Operand} {v : AV} (hc : oL s oc = some (.bool false)) (hb : oL s ob = some v) : QV tb s hs (.pick oc oa ob) (v) := by
 intro tm h ht hh call
 show Res.q (fC tm oc oa ob) = _
 unfold fC
 simp only [aX ht hc, aX ht hb]
theorem Q.not {ox : Operand} {q : Bool} (hx : oL s ox = some (.bool p)) (hq : (!p) = q) : QV tb s hs (.unOp .not t ox) (.bool q) := by
 intro tm h ht hh call
 show Res.q (fD tm .not ox) = _
 unfold fD
 simp only [aX ht hx, hq]
theorem Q.neg {ox : Operand} (hx : oL s ox = some (.int k a)) (hq : k.wrap (0 - a) = c) : QV tb s hs (.unOp .neg t ox) (.int k c) := by
 intro tm h ht hh call
 show Res.q (fD tm .neg ox) = _
 unfold fD
 simp only [aX ht hx, cn]
 exact congrArg (fun x => Res.q (some (AV.int k x))) hq
theorem Bc {ox : Operand} {ts : Array Nat} {t0 : Nat} {tl : List Nat} {dsc : TypeDesc} {v : AV} {m : Nat} (hts : ts.toList = t0 :: tl) (hu : tb.und t0 = some dsc) (hx : oL s ox = some v) (hl : pe dsc v = some m)
  {l : List Operand} (ho : l = [ox]) : QV tb s hs (.call ⟨.builtin .len, l.toArray, ts⟩) (.int .i64 (m : Int)) := by
 intro tm h ht hh call
 show Res.q (jX tb tm l.toArray ts) = _
 unfold jX
 subst ho
 simp only [hts, hu, aX ht hx, hl]
 rfl
theorem Q.len {ox : Operand} {t0 : Nat} {tl : List Nat} {dsc : TypeDesc} {v : AV} {m : Nat} (hu : tb.und t0 = some dsc) (hx : oL s ox = some v) (hl : pe dsc v = some m) :
  QV tb s hs (.call ⟨.builtin .len, #[ox], (t0 :: tl).toArray⟩) (.int .i64 (m : Int)) :=
 Bc (t0 := t0) (tl := tl) (by simp) hu hx hl rfl
def bL (s : St) (len : Nat) (lo hi : Option Operand) : Option (Nat × Nat) :=
 match (match hi with | some x => fG (oL s x) | none => some len) with
 | some h =>
  match (match lo with | some x => fG (oL s x) | none => some 0) with
  | some l => some (l, h)
  | none => none
 | none => none
theorem Q.extract {ox : Operand} {i : Nat} {l : List AV} {v : AV} (hx : oL s ox = some (.tuple l)) (hl : l[i]? = some v) : QV tb s hs (.extract ox i) (v) := by
 intro tm h ht hh call
 show Res.q (dz tm ox i) = _
 unfold dz
 simp only [aX ht hx, hl]
theorem sK {f : Nat} {cs : List Operand} {l : List AV} (hl : pI s cs = some l) : QV tb s hs (.makeFunc (.func f) #[] cs.toArray) (.func f l) := by
 intro tm h ht hh call
 show Res.q (de tm (.func f) #[] cs.toArray) = _
 unfold de
 simp only [kO ht hl]
def FA (tb : Tab) (t f : Nat) : Option (Nat × Nat) :=
 match dj (tb.und t) with
 | some fs => eG tb fs f
 | none => none
theorem Q.fieldAddr {ox : Operand} {f B o off sz o' : Nat} (hf : FA tb t f = some (off, sz + 1)) (hx : oL s ox = some (.ptr B o)) (ho : o + off = o') : QV tb s hs (.fieldAddr t ox f) (.ptr B o') := by
 intro tm h ht hh call
 show Res.q (cr tb tm t ox f) = _
 unfold cr
 unfold FA at hf
 split at hf
 ·rename_i fs hfs
  simp only [hfs, aX ht hx, hf, ho]
 ·cases hf
def BT (tb : Tab) (t : Nat) : Option (List AV × (Nat -> Option (Nat × Nat))) :=
 match tb.zero t with
 | some z => match tb.und t with
  | some (.struct fs) => match kg tb fs.toList with
   | true => some (z.cells, eG tb fs.toList)
   | false => none
  | some (.array _ e) => match tb.size e with
   | some n => some (z.cells, fun i => some (i * n, n))
   | none => none
  | _ => none
 | none => none
def yd (s : St) : List (Nat × Operand) -> Option (List (Nat × AV))
 | [] => some []
 | (i, x) :: l => match oL s x with
  | some a => match yd s l with
   | some m => some ((i, a) :: m)
   | none => none
  | none => none
theorem sf {tm : T AV} (ht : Has tm s) : ∀ {l : List (Nat × Operand)} {m : List (Nat × AV)}, yd s l = some m -> bD tm l = some m
 | [], m, e => e
 | (i, x) :: l, m, e => by
  unfold yd at e
  split at e
  ·rename_i a ha
   split at e
   ·rename_i q hq
    unfold bD
    rw [aX ht ha, sf ht hq]
    exact e
   ·cases e
  ·cases e
theorem gO {i : Nat} {x : Operand} {l : List (Nat × Operand)} {v : AV} {m : List (Nat × AV)} (h : oL s x = some v) (g : yd s l = some m) : yd s ((i, x) :: l) = some ((i, v) :: m) := by
 unfold yd; rw [h, g]
theorem aE : yd s [] = some [] := rfl
theorem lg {f g : Nat -> Option (Nat × Nat)} : ∀ {l : List (Nat × AV)} {cs : List AV}, (∀ p ∈ l, f p.1 = g p.1) -> cR f cs l = cR g cs l
 | [], cs, h => rfl
 | (i, v) :: l, cs, h => by
  have e : f i = g i := h (i, v) (List.mem_cons_self ..)
  unfold cR
  rw [e]
  cases g i with
  | none => rfl
  | some q =>
   simp only
   split
   ·exact lg fun p hp => h p (List.mem_cons_of_mem _ hp)
   ·rfl
def PL (tb : Tab) (t : Nat) (zs : List AV) (pl : List (Nat × Nat)) : Bool :=
 match BT tb t with
 | some (cs, f) => fz cf cs zs && (List.range pl.length).all fun i => f i == pl[i]?
 | none => false
theorem Q.build {l : List (Nat × Operand)} {zs cs : List AV} {pl : List (Nat × Nat)} {ps : List (Nat × AV)} (hp : PL tb t zs pl = true) (ho : yd s l = some ps) (hi : (ps.all fun p => Nat.blt p.1 pl.length) = true)
  (hf : cR (fun i => pl[i]?) zs ps = some cs) : QV tb s hs (.build t l.toArray) (.agg cs) := by
 intro tm h ht hh call
 show Res.q (fu tb tm t l.toArray) = _
 unfold PL at hp
 split at hp
 ·rename_i cs0 f hbt
  simp only [Bool.and_eq_true, List.all_eq_true, List.mem_range] at hp
  have hz : cs0 = zs := by
   have := oF (.tuple cs0) (.tuple zs) (by
    show fz gp cs0 zs = true
    have mono : ∀ {a b : AV}, cf a b = true -> gp a b = true := by
     intro a b h
     cases a <;> cases b <;> simp_all [cf, gp]
     rename_i f1 l1 g1 m1
     cases l1 <;> cases m1 <;> simp_all [fz]
    have ml : ∀ {a b : List AV}, fz cf a b = true -> fz gp a b = true := by
     intro a
     induction a with
     | nil => intro b h; cases b <;> simp_all [fz]
     | cons x a ih =>
      intro b h
      cases b with
      | nil => simp [fz] at h
      | cons y b =>
       simp only [fz, Bool.and_eq_true] at h ⊢
       exact ⟨mono h.1, ih h.2⟩
    exact ml hp.1)
   simpa using this
  subst hz
  have hfg : ∀ p ∈ ps, f p.1 = pl[p.1]? := by
   intro p hpm
   have hlt := List.all_eq_true.1 hi p hpm
   have := hp.2 p.1 (by simpa using hlt)
   simpa using this
  have hfill : cR f cs0 ps = some cs := by rw [lg hfg]; exact hf
  unfold BT at hbt
  unfold fu
  have hps : bD tm l.toArray.toList = some ps := sf ht ho
  split at hbt
  ·rename_i z hz
   split at hbt
   ·rename_i fs hu
    split at hbt
    ·rename_i hsz
     simp only [Option.some.injEq, Prod.mk.injEq] at hbt
     obtain ⟨rfl, rfl⟩ := hbt
     rw [hz, hps]
     simp only [hu, hsz, hfill]
     rfl
    ·cases hbt
   ·rename_i u e hu
    split at hbt
    ·rename_i m hm
     simp only [Option.some.injEq, Prod.mk.injEq] at hbt
     obtain ⟨rfl, rfl⟩ := hbt
     rw [hz, hps]
     simp only [hu, hm, hfill]
     rfl
    ·cases hbt
   ·cases hbt
  ·cases hbt
 ·cases hp
end
end Go.Proofs.YtndhhgbpcmfeiaaGreatDoor.Ev
