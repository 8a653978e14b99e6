/- An evaluator of closed calls in which errors are thrown and caught, part 1: what it reckons; one operation that throws. -/
import Derived.Test.YtfkbfnpjggkdmaaGreatDoorOEvM
import Derived.Defers
import Derived.Recover
namespace Go.Proofs.YtfkbfnpjggkdmaaGreatDoor.Ev
open Go.RowKit
variable {J : Ctx}
noncomputable section
structure XCfg where
 thr : Nat → List AV → Option (List AV)
 isR : Nat → List AV → Bool
 rcv : Nat → List AV → List AV → AHeap → Option AHeap
inductive CRes where
 | ret (v : AV) (h : AHeap)
 | boom (l : List AV) (h : AHeap)
inductive RRes where
 | go (ex : Ex) (tm : T AV) (h : AHeap) (d : Option (Nat × List AV))
 | boom (l : List AV) (tm : T AV) (h : AHeap) (d : Option (Nat × List AV))
abbrev XCall := Nat → List AV → AHeap → Option CRes
def retOnly : Option CRes → Option (AV × AHeap)
 | some (.ret v h) => some (v, h)
 | _ => none
def retOf (c : XCall) : Nat → List AV → AHeap → Option (AV × AHeap) := fun f args h => retOnly (c f args h)
def valCall (c : XCall) (tm : T AV) (h : AHeap) (o : Op) : Option (Option CRes) :=
 match o with
 | .call cl => match cl.callee with
  | .value f => match opnd tm f, opnds tm cl.args.toList with
   | some (.func g caps), some l => match isMeth caps with
    | none => some (c g (l ++ caps) h)
    | some x => some (c g (x :: l) h)
   | _, _ => none
  | _ => none
 | _ => none
def deferOp (cfg : XCfg) (tm : T AV) (o : Oper) : Option (Nat × List AV) :=
 match o.op, o.dst, o.guard with
 | .defer cl, none, none => match cl.callee, cl.args.toList with
  | .value f, [] => match opnd tm f with
   | some (.func g caps) => match isMeth caps, cfg.isR g caps with
    | none, true => some (g, caps)
    | _, _ => none
   | _ => none
  | _, _ => none
 | _, _, _ => none
def callNow (c : XCall) (ops : List Oper) (tm : T AV) (h : AHeap) (o : Oper) : Option (Option CRes) :=
 match valCall c tm h o.op with
 | some r => match wantedA ops tm o with
  | some true => some r
  | _ => none
 | none => none
def evOpsX (cfg : XCfg) (tb : Tab) (c : XCall) (n : Nat) (ops : List Oper) : List Oper → T AV → AHeap → Option (Nat × List AV) → Option RRes
 | [], tm, h, d => some (.go .normal tm h d)
 | o :: rest, tm, h, d => match callNow c ops tm h o with
  | some (some (.ret v h')) => match putDst tm n o.dst v with
   | some tm' => evOpsX cfg tb c n ops rest tm' h' d
   | none => none
  | some (some (.boom l h')) => some (.boom l tm h' d)
  | some none => none
  | none => match deferOp cfg tm o, d with
   | some dd, none => evOpsX cfg tb c n ops rest tm h (some dd)
   | some _, some _ => none
   | none, _ => match ev1 tb (retOf c) ops tm h o with
    | some (v, h', _) => match putDst tm n o.dst v with
     | some tm' => evOpsX cfg tb c n ops rest tm' h' d
     | none => none
    | none => none
def evLastX (tb : Tab) (c : XCall) (n : Nat) (ops : List Oper) (tm : T AV) (h : AHeap) : Option (List AV × T AV × AHeap) :=
 match ops.getLast?, drawOk ops with
 | some o, true => match evTrace tb (retOf c) n ops 0 ops.dropLast tm h with
  | some (es, ms, tm', h') =>
   match es.all (entOk tb (aheadOf ops []) (es.filterMap fun e => if e.kind = 2 then some e.i else none) ((0, h) :: ms)) && (List.range (ops.length - 1)).all (fun i => ((aheadOf ops []).getD (ops.length - 1) 0).testBit i) with
   | true => match callNow c ops tm' h' o with
    | some (some (.boom l h'')) => some (l, tm', h'')
    | _ => none
   | false => none
  | none => none
 | _, _ => none
def evDrawX (tb : Tab) (c : XCall) (n : Nat) (ops : List Oper) (tm : T AV) (h : AHeap) (d : Option (Nat × List AV)) : Option RRes :=
 match evDraw tb (retOf c) n ops tm h with
 | some (tm', h') => some (.go .normal tm' h' d)
 | none => match evLastX tb c n ops tm h with
  | some (l, tm', h') => some (.boom l tm' h' d)
  | none => none
def evCodeX (cfg : XCfg) (tb : Tab) (c : XCall) (n : Nat) (ih : Code → T AV → AHeap → Option (Nat × List AV) → Option RRes) (cd : Code) (tm : T AV) (h : AHeap) (d : Option (Nat × List AV)) : Option RRes :=
 match cd with
 | .skip => some (.go .normal tm h d)
 | .label _ => some (.go .normal tm h d)
 | .ret => some (.go .ret tm h d)
 | .exit id => some (.go (.exit id) tm h d)
 | .region _ ops draw => match draw with
  | true => evDrawX tb c n ops.toList tm h d
  | false => evOpsX cfg tb c n ops.toList ops.toList tm h d
 | .seq a b => match ih a tm h d with
  | some (.go .normal tm' h' d') => ih b tm' h' d'
  | r => r
 | .cond x a b => match opnd tm x with
  | some (.bool true) => ih a tm h d
  | some (.bool false) => ih b tm h d
  | _ => none
 | .block id b => match ih b tm h d with
  | some (.go (.exit j) tm' h' d') => match Nat.beq j id with
   | true => some (.go .normal tm' h' d')
   | false => some (.go (.exit j) tm' h' d')
  | r => r
 | .loop b => match ih b tm h d with
  | some (.go .normal tm' h' d') => ih (.loop b) tm' h' d'
  | r => r
 | _ => none
def endX (tb : Tab) (rs : List ResultVar) (tm : T AV) (h : AHeap) : Option CRes :=
 match resultsA tb tm h rs with
 | some l => some (.ret (oneOf l) h)
 | none => none
def leaveX (cfg : XCfg) (tb : Tab) (rs : List ResultVar) : Option RRes → Option CRes
 | some (.go (.exit _) _ _ _) => none
 | some (.go _ tm h _) => endX tb rs tm h
 | some (.boom l tm h none) => some (.boom l h)
 | some (.boom l tm h (some (g, caps))) => match cfg.rcv g caps l h with
  | some h' => endX tb rs tm h'
  | none => none
 | none => none
def evCallX (cfg : XCfg) (tb : Tab) (run : Nat → Code → T AV → AHeap → Option (Nat × List AV) → Option RRes) (f : Nat) (args : List AV) (h : AHeap) : Option CRes :=
 match tb.orc f args h with
 | some v => some (.ret v h)
 | none => match cfg.thr f args with
  | some l => some (.boom l h)
  | none => match tb.ft.get f with
   | some fn => match fn.body, Nat.ble args.length fn.ntmps with
    | some c, true => leaveX cfg tb fn.results.toList (run fn.ntmps c (argTmps 0 args .leaf) h none)
    | _, _ => none
   | none => none
def runX (cfg : XCfg) (tb : Tab) : Nat → Nat → Code → T AV → AHeap → Option (Nat × List AV) → Option RRes
 | 0, _, _, _, _, _ => none
 | k + 1, n, c, tm, h, d => evCodeX cfg tb (evCallX cfg tb (runX cfg tb k)) n (runX cfg tb k n) c tm h d
def callX (cfg : XCfg) (tb : Tab) (k : Nat) : XCall := evCallX cfg tb (runX cfg tb k)
end
abbrev Trb := List AV → List PanicEntry → World → Prop
abbrev HasFn (P : Program) (f : Nat) : Prop := ∃ fn, P.funcs[f]? = some fn ∧ fn.body.isSome = true ∧ (fn.name == "runtime.NumGoroutine") = false
def XOK (P : Program) (J : Ctx) (tr : Trb) (c : XCall) : Prop :=
 ∀ (M : Inj) (N : Nat → Prop) (w0 : Base J) (h : AHeap) (w : World) (f : Nat) (args : List AV) (vs : Array Value), LRel M args vs.toList → HRel M N w0 h w →
  (∀ v h', c f args h = some (.ret v h') → HasFn P f ∧ Calls P f vs w fun e w' => ∃ M' u, e = .returned u ∧ M.le M' ∧ HRel M' N w0 h' w' ∧ VRel M' v u) ∧
  (∀ l h', c f args h = some (.boom l h') → HasFn P f ∧ Calls P f vs w fun e w' => ∃ M' chain, e = .panicked chain ∧ M.le M' ∧ HRel M' N w0 h' w' ∧ tr l chain w')
theorem XOK.ret {P : Program} {tr : Trb} {c : XCall} (h : XOK P J tr c) : CallOK P J (retOf c) := by
 intro M N w0 hp w f args vs v h' he hl hh
 unfold retOf retOnly at he
 split at he
 ·rename_i v1 h1 hc
  simp only [Option.some.injEq, Prod.mk.injEq] at he
  obtain ⟨rfl, rfl⟩ := he
  exact (h M N w0 hp w f args vs hl hh).1 _ _ hc
 ·cases he
section one
variable {P : Program} {tb : Tab} {tr : Trb} {c : XCall} {M : Inj} {N : Nat → Prop} {w0 : Base J} {tm : T AV} {h : AHeap} {a : Act} {w : World}
theorem val_run (ht : TRel M tm a) {o : Oper} {r : Option CRes} (hv : valCall c tm h o.op = some r) :
  ∃ (g : Nat) (args : List AV) (vs : Array Value), r = c g args h ∧ LRel M args vs.toList ∧ (HasFn P g → (execOp a.eval o).run P w = .ok (.enter g vs) w) := by
 obtain ⟨dst, op, type, pos, after, guard⟩ := o
 unfold valCall at hv
 split at hv
 rotate_left
 ·cases hv
 rename_i cl hop
 simp only at hop
 subst hop
 obtain ⟨callee, args, argTypes⟩ := cl
 split at hv
 rotate_left
 ·cases hv
 rename_i f hcal
 simp only at hcal
 subst hcal
 split at hv
 rotate_left
 ·cases hv
 rename_i g caps l hg hl
 have hargs := opnds_ok ht hl
 split at hv
 ·rename_i hgb
  cases hv
  obtain ⟨cs, he, hcs⟩ := func_iff (opk ht hg) hgb
  refine ⟨g, l ++ caps, (args.map a.eval) ++ cs, rfl, by have := hargs.append hcs; simpa using this, fun ⟨fn, hf, hb, hname⟩ => ?_⟩
  have hb2 : fn.body.isNone = false := by cases hbb : fn.body <;> simp_all
  simp only [execOp, resolve, Sem.run_bind, he, Deferred.ofValue, Sem.run_pure, Result.andThen_ok, invoke, callFunc, run_program, hf, hname, Bool.false_eq_true, if_false, hb2, Array.empty_append]
 ·rename_i x hgb
  cases hv
  obtain ⟨u0, he, hx⟩ := meth_iff (opk ht hg) hgb
  refine ⟨g, x :: l, #[u0] ++ args.map a.eval, rfl, by have := LRel.cons hx hargs; simpa using this, fun ⟨fn, hf, hb, hname⟩ => ?_⟩
  have hb2 : fn.body.isNone = false := by cases hbb : fn.body <;> simp_all
  simp only [execOp, resolve, Sem.run_bind, he, Deferred.ofValue, Sem.run_pure, Result.andThen_ok, invoke, callFunc, run_program, hf, hname, Bool.false_eq_true, if_false, hb2, Array.append_empty]
theorem val_ret (hc : XOK P J tr c) (ht : TRel M tm a) (hh : HRel M N w0 h w) {o : Oper} {v : AV} {h' : AHeap} (hv : valCall c tm h o.op = some (some (.ret v h'))) {next : Act → World → Prop} {Q : Exit → Act → World → Prop}
  (hn : ∀ M' u w', M.le M' → HRel M' N w0 h' w' → VRel M' v u → next (a.put o.dst u) w') : o.wp P a w next Q := by
 obtain ⟨g, args, vs, hr, hl, hrun⟩ := val_run (P := P) (w := w) ht hv
 obtain ⟨hf, hcalls⟩ := (hc M N w0 h w g args vs hl hh).1 v h' hr.symm
 unfold Oper.wp
 rw [hrun hf, Oper.upon_enter]
 refine hcalls.mono ?_
 rintro e w' ⟨M', u, rfl, h1, h2, h3⟩
 exact hn M' u w' h1 h2 h3
theorem val_boom (hc : XOK P J tr c) (ht : TRel M tm a) (hh : HRel M N w0 h w) {o : Oper} {l : List AV} {h' : AHeap} (hv : valCall c tm h o.op = some (some (.boom l h'))) {next : Act → World → Prop} {Q : Exit → Act → World → Prop}
  (hn : ∀ M' chain w', M.le M' → HRel M' N w0 h' w' → tr l chain w' → Q (.panic chain) a w') : o.wp P a w next Q := by
 obtain ⟨g, args, vs, hr, hl, hrun⟩ := val_run (P := P) (w := w) ht hv
 obtain ⟨hf, hcalls⟩ := (hc M N w0 h w g args vs hl hh).2 l h' hr.symm
 unfold Oper.wp
 rw [hrun hf, Oper.upon_enter]
 refine hcalls.mono ?_
 rintro e w' ⟨M', chain, rfl, h1, h2, h3⟩
 exact hn M' chain w' h1 h2 h3
theorem callNow_some {ops : List Oper} {o : Oper} {r : Option CRes} (h1 : callNow c ops tm h o = some r) : valCall c tm h o.op = some r ∧ wantedA ops tm o = some true := by
 unfold callNow at h1
 split at h1
 ·rename_i r' hv
  split at h1
  ·rename_i hw
   cases h1
   exact ⟨hv, hw⟩
  ·cases h1
 ·cases h1
def DRel (cfg : XCfg) (M : Inj) : Option (Nat × List AV) → List Deferred → Prop
 | none, ds => ds = []
 | some (g, caps), ds => cfg.isR g caps = true ∧ ∃ cs : Array Value, ds = [{ target := .fn (.func g) cs, args := #[] }] ∧ LRel M caps cs.toList
theorem LRel.mono' {M M' : Inj} (hM : M.le M') {l : List AV} {cs : List Value} (h : LRel M l cs) : LRel M' l cs := ⟨h.1, fun i v u p q => (h.2 i v u p q).mono hM⟩
theorem DRel.mono {cfg : XCfg} {M M' : Inj} (hM : M.le M') : ∀ {d : Option (Nat × List AV)} {ds : List Deferred}, DRel cfg M d ds → DRel cfg M' d ds
 | none, _, h => h
 | some (g, caps), _, ⟨h0, cs, h1, h2⟩ => ⟨h0, cs, h1, h2.mono' hM⟩
theorem defer_ok {cfg : XCfg} (ht : TRel M tm a) {o : Oper} {g : Nat} {caps : List AV} (hd : deferOp cfg tm o = some (g, caps)) (h0 : a.defers = []) {next : Act → World → Prop} {Q : Exit → Act → World → Prop}
  (hn : ∀ a', a'.tmps = a.tmps → DRel cfg M (some (g, caps)) a'.defers → next a' w) : o.guard = none ∧ o.wp P a w next Q := by
 obtain ⟨dst, op, type, pos, after, guard⟩ := o
 unfold deferOp at hd
 split at hd
 rotate_left
 ·cases hd
 rename_i cl h1 h2 h3
 simp only at h1 h2 h3
 subst h1 h2 h3
 obtain ⟨callee, args, argTypes⟩ := cl
 split at hd
 rotate_left
 ·cases hd
 rename_i f hcal hargs
 simp only at hcal hargs
 subst hcal
 split at hd
 rotate_left
 ·cases hd
 rename_i g1 caps1 hf
 split at hd
 rotate_left
 ·cases hd
 rename_i hb1 hb2
 cases hd
 obtain ⟨cs, he, hcs⟩ := func_iff (opk ht hf) hb1
 have ha : args = #[] := by
  apply Array.ext'
  simpa using hargs
 subst ha
 refine ⟨rfl, ?_⟩
 unfold Oper.wp
 have hrun : (execOp a.eval { dst := none, op := .defer { callee := .value f, args := #[], argTypes }, type, pos, after, guard := none }).run P w = .ok (.defer { target := .fn (.func g) cs, args := #[] }) w := by
  simp only [execOp, resolve, Sem.run_bind, he, Deferred.ofValue, Sem.run_pure, Result.andThen_ok, Array.map_empty, Array.empty_append, List.map_toArray, List.map_nil, Array.append_empty]
 rw [hrun, Oper.upon_defer]
 refine hn _ (by simp [Act.put]) ⟨hb2, cs, ?_, hcs⟩
 rw [put_def, h0]
end one
variable {J : Ctx}
section draw
variable {P : Program} {tb : Tab} {n : Nat} {call : Nat → List AV → AHeap → Option (AV × AHeap)} {ops : Array Oper}
structure LookedB (z : Nat) (tb : Tab) (call : Nat → List AV → AHeap → Option (AV × AHeap)) (n : Nat) (ops : Array Oper) (S : Nat → T AV) (Hp : Nat → AHeap) (V : Nat → AV) (K : Nat → Nat) : Prop where
 step : ∀ j o, j < z → ops[j]? = some o → ev1 tb call ops.toList (S j) (Hp j) o = some (V j, Hp (j + 1), K j) ∧ putDst (S j) n o.dst (V j) = some (S (j + 1))
 louds : ∀ j, j < z → K j = 2 → ∀ i, i < j → K i = 2 → bit ops j i
 quiets : ∀ j o, j < z → ops[j]? = some o → K j = 1 → ∀ m, Mark K z m → (∀ i, i < z → K i = 2 → (bit ops j i → i < m) ∧ (bit ops i j → m ≤ i)) →
  evQ tb (S j) (Hp m) o.op = some (V j)

variable {S : Nat → T AV} {Hp : Nat → AHeap} {V : Nat → AV} {K : Nat → Nat} {z : Nat}

theorem heap_sameB (hk : LookedB z tb call n ops S Hp V K) (hz : z ≤ ops.size) : ∀ d p, p + d ≤ z → (∀ i, p ≤ i → i < p + d → K i ≠ 2) → Hp (p + d) = Hp p := by
 intro d
 induction d with
 | zero => intro p _ _; rfl
 | succ d ih =>
  intro p hp hn
  have hlt : p + d < ops.size := by omega
  obtain ⟨h1, _⟩ := hk.step (p + d) _ (by omega) (Array.getElem?_eq_getElem hlt)
  have h2 : Hp (p + d + 1) = Hp (p + d) := by
   rcases ev1_kind h1 with h | h | h
   ·exact h.2.2.2
   ·exact h.2.2.2
   ·exact absurd h.1 (hn (p + d) (by omega) (by omega))
  rw [show p + (d + 1) = p + d + 1 by omega, h2]
  exact ih p (by omega) (fun i h1 h2 => hn i h1 (by omega))
theorem heap_eqB (hk : LookedB z tb call n ops S Hp V K) (hz : z ≤ ops.size) {p q : Nat} (hp : p ≤ z) (hq : q ≤ z) (h : ∀ i, i < z → K i = 2 → (i < p ↔ i < q)) : Hp p = Hp q := by
 rcases Nat.le_total p q with hle | hle
 ·have := heap_sameB hk hz (q - p) p (by omega) (fun i h1 h2 h3 => by have := (h i (by omega) h3).2 (by omega); omega)
  rw [show p + (q - p) = q by omega] at this
  exact this.symm
 ·have := heap_sameB hk hz (p - q) q (by omega) (fun i h1 h2 h3 => by have := (h i (by omega) h3).1 (by omega); omega)
  rw [show q + (p - q) = p by omega] at this
  exact this
theorem slot_sameB (hk : LookedB z tb call n ops S Hp V K) (hz : z ≤ ops.size) (t : Nat) : ∀ d p, p + d ≤ z → (∀ i o, p ≤ i → i < p + d → ops[i]? = some o → o.dst ≠ some t) → (S (p + d)).get t = (S p).get t := by
 intro d
 induction d with
 | zero => intro p _ _; rfl
 | succ d ih =>
  intro p hp hn
  have hlt : p + d < ops.size := by omega
  have ho : ops[p + d]? = some ops[p + d] := Array.getElem?_eq_getElem hlt
  obtain ⟨_, h1⟩ := hk.step (p + d) _ (by omega) ho
  have h2 := (putDst_some h1).2 t
  rw [if_neg (hn (p + d) _ (by omega) (by omega) ho)] at h2
  rw [show p + (d + 1) = p + d + 1 by omega, h2]
  exact ih p (by omega) (fun i o h1 h2 h3 => hn i o h1 (by omega) h3)

structure InvB (z : Nat) (tb : Tab) (n : Nat) (ops : Array Oper) (M : Inj) (N : Nat → Prop) (w0 : Base J) (d0 : List Deferred) (S : Nat → T AV) (Hp : Nat → AHeap) (K : Nat → Nat) (l : Array Bool) (a : Act) (w : World) : Prop where
 size : l.size = ops.size
 not : ¬ Lst l z
 closed : Closed ops l
 slots : a.tmps.size = n
 defs : a.defers = d0
 rel : ∃ M', M.le M' ∧ (∀ t m, m ≤ z → (∀ i o, ops[i]? = some o → o.dst = some t → (Lst l i ↔ i < m)) → ∀ v, (S m).get t = some v → VRel M' v (a.tmps.getD t undef)) ∧
  ∃ m, Mark K z m ∧ m ≤ z ∧ (∀ i, i < z → K i = 2 → (Lst l i ↔ i < m)) ∧ HRel M' N w0 (Hp m) w

theorem wpAny_boom (H : TabOK P tb J) (hcall : CallOK P J call) (hS : Static ops) (hk : LookedB z tb call n ops S Hp V K) (hzs : ops.size = z + 1) (hzb : ∀ i, i < z → bit ops z i) {M : Inj} {N : Nat → Prop} {w0 : Base J} {d0 : List Deferred}
  {Q : Exit → Act → World → Prop}
  (hB : ∀ o M' a w (next : Act → World → Prop), ops[z]? = some o → M.le M' → TRel M' (S z) a → a.tmps.size = n → a.defers = d0 → HRel M' N w0 (Hp z) w → wpOp P ops Q z next a w) :
  ∀ (fuel : Nat) (l : Array Bool) (a : Act) (w : World), unl l ops.size = fuel → InvB z tb n ops M N w0 d0 S Hp K l a w → wpAny P .any ops Q fuel l a w := by
 have hz : z ≤ ops.size := by omega
 have fin : ∀ (l : Array Bool) (a : Act) (w : World), InvB z tb n ops M N w0 d0 S Hp K l a w → (∀ i, i < ops.size → Lst l i) → Q .normal a w := fun l a w I hall => absurd (hall z (by omega)) I.not
 intro fuel
 induction fuel with
 | zero =>
  intro l a w hu I
  have hall := unl_zero hu
  refine ⟨?_, fin l a w I hall⟩
  cases hr : Region.ready .any ops l with
  | nil => rfl
  | cons j rs =>
   have hj : j ∈ Region.ready .any ops l := by rw [hr]; exact List.mem_cons_self
   obtain ⟨h0, o, ho, _⟩ := mem_ready.1 hj
   exact absurd (hall j (Array.getElem?_eq_some_iff.1 ho).1) (not_lst h0).1
 | succ fuel ih =>
  intro l a w hu I
  refine ⟨fun hr => fin l a w I ?_, fun j hj => ?_⟩
  ·-- none is ready: all are listed
   intro i
   induction i using Nat.strongRecOn with
   | _ i ihi =>
    intro hi
    by_cases hl : Lst l i
    ·exact hl
    ·exfalso
     have ho : ops[i]? = some ops[i] := Array.getElem?_eq_getElem hi
     have : i ∈ Region.ready .any ops l := by
      rw [mem_ready]
      refine ⟨lst_false hl (by rw [I.size]; exact hi), _, ho, fun e he hb => ?_⟩
      rw [binds_eq] at hb
      have hlt := hS.edge i _ ho e he hb
      exact ihi e.on hlt (by omega)
     rw [hr] at this
     cases this
  ·obtain ⟨hj0, o, ho, hd⟩ := mem_ready.1 hj
   obtain ⟨hnl, hjs⟩ := not_lst hj0
   have hjN : j < ops.size := (Array.getElem?_eq_some_iff.1 ho).1
   have hdir : ∀ e ∈ o.after, bindsAny e = true → Lst l e.on := fun e he hb => hd e he (by rw [binds_eq]; exact hb)
   obtain ⟨M', hM, ht, m, hmark, hm, hml, hh⟩ := I.rel
   by_cases hjz : j = z
   ·-- the last one
    subst hjz
    refine hB o M' a w _ ho hM (fun t v hv => ht t j (Nat.le_refl _) (fun i x hx hdx => ?_) v hv) I.slots I.defs ?_
    ·have hi : i < ops.size := (Array.getElem?_eq_some_iff.1 hx).1
     constructor
     ·intro hl
      rcases Nat.lt_or_ge i j with h | h
      ·exact h
      ·have e : i = j := by omega
       subst e
       exact absurd hl hnl
     ·intro h
      exact closed_bit hS I.closed j o ho hdir i (hzb i h)
    ·have : Hp m = Hp j := heap_eqB hk hz hm (Nat.le_refl _) (fun i hi h2 => ⟨fun _ => hi, fun _ => (hml i hi h2).1 (closed_bit hS I.closed j o ho hdir i (hzb i hi))⟩)
     rw [← this]
     exact hh
   have hjlt : j < z := by omega
   obtain ⟨hst, hput⟩ := hk.step j o hjlt ho
   have behind : ∀ i x, ops[i]? = some x → bit ops i j → ¬ Lst l i := by
    intro i x hx hb hl
    exact hnl (closed_bit hS I.closed i x hx (I.closed i x hx hl) j hb)
   have ahead : ∀ i, bit ops j i → Lst l i ∧ i < j := fun i hb => ⟨closed_bit hS I.closed j o ho hdir i hb, bit_lt hS j i hjN hb⟩
   have hw : ∀ t, t ∈ touches ops.toList o → ∀ i x, ops[i]? = some x → x.dst = some t → (Lst l i ↔ i < j) := by
    intro t htt i x hx hdx
    by_cases hij : i = j
    ·subst hij; exact ⟨fun h => absurd h hnl, fun h => by omega⟩
    ·rcases hS.pair i j x o hx ho hij t hdx htt with hb | hb
     ·have := ahead i hb; exact ⟨fun _ => this.2, fun _ => this.1⟩
     ·have h1 := behind i x hx hb
      have h2 := bit_lt hS i j (Array.getElem?_eq_some_iff.1 hx).1 hb
      exact ⟨fun h => absurd h h1, fun h => by omega⟩
   obtain ⟨tr, htr⟩ := restrict (S j) (touches ops.toList o)
   have hT : TRel M' tr a := by
    intro t v hv
    rw [htr] at hv
    split at hv
    ·rename_i hmem
     exact ht t j (by omega) (hw t hmem) v hv
    ·cases hv
   have hopnd : ∀ x ∈ o.op.operands, opnd (S j) x = opnd tr x := by
    intro x hx
    refine (opnd_restrict htr (fun t e => ?_)).symm
    unfold touches
    refine List.mem_append_left _ (List.mem_append_right _ ?_)
    exact List.mem_filterMap.2 ⟨x, by simpa using hx, by rw [e]⟩
   have hwant : wantedA ops.toList (S j) o = wantedA ops.toList tr o := by
    unfold wantedA
    cases hg : o.guard with
    | none => rfl
    | some gw =>
     obtain ⟨g, want⟩ := gw
     simp only
     cases hog : ops.toList[g]? with
     | none => rfl
     | some og =>
      simp only
      cases hgd : og.dst with
      | none => rfl
      | some d =>
       have : d ∈ touches ops.toList o := by
        unfold touches
        refine List.mem_append_right _ ?_
        simp only [hg, hog, Option.bind_some, hgd]
        simp
       simp only [htr d, if_pos this]
   have go : ∀ (M2 : Inj) (u : Value) (w2 : World), M'.le M2 → VRel M2 (V j) u →
     (∃ m, Mark K z m ∧ m ≤ z ∧ (∀ i, i < z → K i = 2 → ((i = j ∨ Lst l i) ↔ i < m)) ∧ HRel M2 N w0 (Hp m) w2) →
     wpAny P .any ops Q fuel (l.setIfInBounds j true) (a.put o.dst u) w2 := by
    intro M2 u w2 hM2 hv hheap
    refine ih _ _ _ (by have := unl_set hnl hjs hjN; omega) ⟨by simp [I.size], (by rw [lst_set hjs]; rintro (e | e); exact hjz e.symm; exact I.not e), ?_, by rw [put_size]; exact I.slots, by rw [put_def]; exact I.defs, M2, Inj.le_trans hM hM2, ?_, ?_⟩
    ·intro i x hx hl e he hb
     rw [lst_set hjs] at hl ⊢
     rcases hl with rfl | hl
     ·rw [ho] at hx; cases hx; exact .inr (hdir e he hb)
     ·exact .inr (I.closed i x hx hl e he hb)
    ·intro t q hq hwr v hvt
     obtain ⟨hp1, hp2⟩ := putDst_some hput
     rw [put_getD a o.dst u t (fun x hx => by rw [I.slots]; exact hp1 x hx)]
     by_cases hdt : o.dst = some t
     ·rw [if_pos hdt]
      have hjq : j < q := (hwr j o ho hdt).1 (by rw [lst_set hjs]; exact .inl rfl)
      have hsame := slot_sameB hk hz t (q - (j + 1)) (j + 1) (by omega) (fun i x h1 h2 hx hdx => by
       have hli := (hwr i x hx hdx).2 (by omega)
       rw [lst_set hjs] at hli
       have hli : Lst l i := hli.resolve_left (by omega)
       have htt : t ∈ touches ops.toList o := by
        unfold touches
        refine List.mem_append_left _ (List.mem_append_left _ ?_)
        rw [hdt]; simp
       have := (hw t htt i x hx hdx).1 hli
       omega)
      rw [show j + 1 + (q - (j + 1)) = q by omega] at hsame
      rw [hsame, hp2 t, if_pos hdt] at hvt
      cases hvt
      exact hv
     ·rw [if_neg hdt]
      refine (ht t q hq (fun i x hx hdx => ?_) v hvt).mono hM2
      have := hwr i x hx hdx
      rw [lst_set hjs] at this
      have hne : i ≠ j := by rintro rfl; rw [ho] at hx; cases hx; exact hdt hdx
      exact ⟨fun h => this.1 (.inr h), fun h => (this.2 h).resolve_left hne⟩
    ·obtain ⟨q, h1, h2, h3, h4⟩ := hheap
     exact ⟨q, h1, h2, fun i hi hki => by rw [lst_set hjs]; exact h3 i hi hki, h4⟩
   rcases ev1_kind hst with ⟨hk0, hw0, hv0, _⟩ | ⟨hk1, hw1, hq1, _⟩ | ⟨hk2, hw2, hl2⟩
   ·-- not wanted
    unfold wpOp
    simp only [ho]
    rw [hwant] at hw0
    rw [wanted_ok hT hw0]
    simp only [Bool.false_eq_true, if_false]
    refine go M' undef w (Inj.le_refl M') (by rw [hv0]; exact .tuple [] #[] rfl (fun i v u p => by simp at p)) ⟨m, hmark, hm, fun i hi hki => ?_, hh⟩
    have hne : i ≠ j := by rintro rfl; omega
    exact ⟨fun h => (hml i hi hki).1 (h.resolve_left hne), fun h => .inr ((hml i hi hki).2 h)⟩
   ·-- quiet
    have hqq := hk.quiets j o hjlt ho hk1 m hmark (fun i hi hki => ⟨fun hb => (hml i hi hki).1 (ahead i hb).1, fun hb => by
     have h1 := behind i _ (Array.getElem?_eq_getElem (show i < ops.size by omega)) hb
     have h2 := hml i hi hki
     rcases Nat.lt_or_ge i m with h | h
     ·exact absurd (h2.2 h) h1
     ·exact h⟩)
    unfold evQ at hqq
    split at hqq
    ·rename_i r hq
     subst hqq
     rw [evOp_congr hopnd] at hq
     unfold wpOp
     simp only [ho]
     rw [hwant] at hw1
     rw [wanted_ok hT hw1, if_pos rfl]
     refine .inl ?_
     obtain ⟨u, h1, h2⟩ := quiet_ok H hT hh hq
     unfold Oper.wp
     rw [h1, Oper.upon_value]
     refine go M' u w (Inj.le_refl M') h2 ⟨m, hmark, hm, fun i hi hki => ?_, hh⟩
     have hne : i ≠ j := by rintro rfl; omega
     exact ⟨fun h => (hml i hi hki).1 (h.resolve_left hne), fun h => .inr ((hml i hi hki).2 h)⟩
    ·cases hqq
   ·-- loud
    have hlo : ∀ i, i < z → K i = 2 → (Lst l i ↔ i < j) := by
     intro i hi hki
     constructor
     ·intro hl
      rcases Nat.lt_trichotomy i j with h | h | h
      ·exact h
      ·subst h; exact absurd hl hnl
      ·exact absurd hl (behind i _ (Array.getElem?_eq_getElem (show i < ops.size by omega)) (hk.louds i hi hki j h hk2))
     ·intro h
      exact (ahead i (hk.louds j hjlt hk2 i h hki)).1
    have heq : Hp m = Hp j := heap_eqB hk hz hm (by omega) (fun i hi hki => by rw [← hml i hi hki, hlo i hi hki])
    rw [heq] at hh
    rw [evOp_congr hopnd] at hl2
    unfold wpOp
    simp only [ho]
    rw [hwant] at hw2
    rw [wanted_ok hT hw2, if_pos rfl]
    refine .inl ?_
    refine loud_ok H hT hh hcall hl2 (fun M2 u w2 hM2 hh2 hv2 => ?_)
    refine go M2 u w2 hM2 hv2 ⟨j + 1, .inr ⟨j, hjlt, hk2, rfl⟩, hjlt, fun i hi hki => ?_, hh2⟩
    have := hlo i hi hki
    constructor
    ·rintro (rfl | h)
     ·omega
     ·have := this.1 h; omega
    ·intro h
     by_cases hij : i = j
     ·exact .inl hij
     ·exact .inr (this.2 (by omega))
end draw
end Go.Proofs.YtfkbfnpjggkdmaaGreatDoor.Ev
