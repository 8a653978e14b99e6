/- An evaluator of closed calls in which errors are thrown and caught, part 1: what it reckons; one operation that throws. -/
import Derived.Test.YtfkbfnpjggkdmaaGreatDoorNEvM
import Derived.Defers
import Derived.Recover
namespace Go.Proofs.YtfkbfnpjggkdmaaGreatDoor.Ev
open Go.RowKit
variable {J : Ctx}
set_option linter.unusedVariables false
set_option linter.unusedSimpArgs false
noncomputable section
/-- Functions that throw, by their arguments; deferred functions that catch, and what they do to memory when they catch. -/
structure XCfg where
  thr : Nat → List AV → Option (List AV)
  isR : Nat → List AV → Bool
  rcv : Nat → List AV → List AV → AHeap → Option AHeap
/-- What a call gives. -/
inductive CRes where
  | ret (v : AV) (h : AHeap)
  | boom (l : List AV) (h : AHeap)
/-- What code gives (d: the function that is deferred). -/
inductive RRes where
  | go (ex : Ex) (tm : T AV) (h : AHeap) (d : Option (Nat × List AV))
  | boom (l : List AV) (tm : T AV) (h : AHeap) (d : Option (Nat × List AV))
abbrev XCall := Nat → List AV → AHeap → Option CRes
def retOnly : Option CRes → Option (AV × AHeap)
  | some (.ret v h) => some (v, h)
  | _ => none
def retOf (c : XCall) : Nat → List AV → AHeap → Option (AV × AHeap) := fun f args h => retOnly (c f args h)
/-- A call of a value, and what it gives. -/
def valCall (c : XCall) (tm : T AV) (h : AHeap) (o : Op) : Option (Option CRes) :=
  match o with
  | .call cl => match cl.callee with
    | .value f => match opnd tm f, opnds tm cl.args.toList with
      | some (.func g caps), some l => match isMeth caps with
        | none => some (c g (l ++ caps) h)
        | some x => some (c g (x :: l) h)
      | _, _ => none
    | _ => none
  | _ => none
def deferOp (cfg : XCfg) (tm : T AV) (o : Oper) : Option (Nat × List AV) :=
  match o.op, o.dst, o.guard with
  | .defer cl, none, none => match cl.callee, cl.args.toList with
    | .value f, [] => match opnd tm f with
      | some (.func g caps) => match isMeth caps, cfg.isR g caps with
        | none, true => some (g, caps)
        | _, _ => none
      | _ => none
    | _, _ => none
  | _, _, _ => none
/-- An operation that is wanted and calls a value. -/
def callNow (c : XCall) (ops : List Oper) (tm : T AV) (h : AHeap) (o : Oper) : Option (Option CRes) :=
  match valCall c tm h o.op with
  | some r => match wantedA ops tm o with
    | some true => some r
    | _ => none
  | none => none
def evOpsX (cfg : XCfg) (tb : Tab) (c : XCall) (n : Nat) (ops : List Oper) : List Oper → T AV → AHeap → Option (Nat × List AV) → Option RRes
  | [], tm, h, d => some (.go .normal tm h d)
  | o :: rest, tm, h, d => match callNow c ops tm h o with
    | some (some (.ret v h')) => match putDst tm n o.dst v with
      | some tm' => evOpsX cfg tb c n ops rest tm' h' d
      | none => none
    | some (some (.boom l h')) => some (.boom l tm h' d)
    | some none => none
    | none => match deferOp cfg tm o, d with
      | some dd, none => evOpsX cfg tb c n ops rest tm h (some dd)
      | some _, some _ => none
      | none, _ => match ev1 tb (retOf c) ops tm h o with
        | some (v, h', _) => match putDst tm n o.dst v with
          | some tm' => evOpsX cfg tb c n ops rest tm' h' d
          | none => none
        | none => none
/-- A region that draws its order, whose last operation throws. -/
def evLastX (tb : Tab) (c : XCall) (n : Nat) (ops : List Oper) (tm : T AV) (h : AHeap) : Option (List AV × T AV × AHeap) :=
  match ops.getLast?, drawOk ops with
  | some o, true => match evTrace tb (retOf c) n ops 0 ops.dropLast tm h with
    | some (es, ms, tm', h') =>
      match es.all (entOk tb (aheadOf ops []) (es.filterMap fun e => if e.kind = 2 then some e.i else none) ((0, h) :: ms)) && (List.range (ops.length - 1)).all (fun i => ((aheadOf ops []).getD (ops.length - 1) 0).testBit i) with
      | true => match callNow c ops tm' h' o with
        | some (some (.boom l h'')) => some (l, tm', h'')
        | _ => none
      | false => none
    | none => none
  | _, _ => none
def evDrawX (tb : Tab) (c : XCall) (n : Nat) (ops : List Oper) (tm : T AV) (h : AHeap) (d : Option (Nat × List AV)) : Option RRes :=
  match evDraw tb (retOf c) n ops tm h with
  | some (tm', h') => some (.go .normal tm' h' d)
  | none => match evLastX tb c n ops tm h with
    | some (l, tm', h') => some (.boom l tm' h' d)
    | none => none
def evCodeX (cfg : XCfg) (tb : Tab) (c : XCall) (n : Nat) (ih : Code → T AV → AHeap → Option (Nat × List AV) → Option RRes) (cd : Code) (tm : T AV) (h : AHeap) (d : Option (Nat × List AV)) : Option RRes :=
  match cd with
  | .skip => some (.go .normal tm h d)
  | .label _ => some (.go .normal tm h d)
  | .ret => some (.go .ret tm h d)
  | .exit id => some (.go (.exit id) tm h d)
  | .region _ ops draw => match draw with
    | true => evDrawX tb c n ops.toList tm h d
    | false => evOpsX cfg tb c n ops.toList ops.toList tm h d
  | .seq a b => match ih a tm h d with
    | some (.go .normal tm' h' d') => ih b tm' h' d'
    | r => r
  | .cond x a b => match opnd tm x with
    | some (.bool true) => ih a tm h d
    | some (.bool false) => ih b tm h d
    | _ => none
  | .block id b => match ih b tm h d with
    | some (.go (.exit j) tm' h' d') => match Nat.beq j id with
      | true => some (.go .normal tm' h' d')
      | false => some (.go (.exit j) tm' h' d')
    | r => r
  | .loop b => match ih b tm h d with
    | some (.go .normal tm' h' d') => ih (.loop b) tm' h' d'
    | r => r
  | _ => none
def endX (tb : Tab) (rs : List ResultVar) (tm : T AV) (h : AHeap) : Option CRes :=
  match resultsA tb tm h rs with
  | some l => some (.ret (oneOf l) h)
  | none => none
def leaveX (cfg : XCfg) (tb : Tab) (rs : List ResultVar) : Option RRes → Option CRes
  | some (.go (.exit _) _ _ _) => none
  | some (.go _ tm h _) => endX tb rs tm h
  | some (.boom l tm h none) => some (.boom l h)
  | some (.boom l tm h (some (g, caps))) => match cfg.rcv g caps l h with
    | some h' => endX tb rs tm h'
    | none => none
  | none => none
def evCallX (cfg : XCfg) (tb : Tab) (run : Nat → Code → T AV → AHeap → Option (Nat × List AV) → Option RRes) (f : Nat) (args : List AV) (h : AHeap) : Option CRes :=
  match tb.orc f args h with
  | some v => some (.ret v h)
  | none => match cfg.thr f args with
    | some l => some (.boom l h)
    | none => match tb.ft.get f with
      | some fn => match fn.body, Nat.ble args.length fn.ntmps with
        | some c, true => leaveX cfg tb fn.results.toList (run fn.ntmps c (argTmps 0 args .leaf) h none)
        | _, _ => none
      | none => none
def runX (cfg : XCfg) (tb : Tab) : Nat → Nat → Code → T AV → AHeap → Option (Nat × List AV) → Option RRes
  | 0, _, _, _, _, _ => none
  | k + 1, n, c, tm, h, d => evCodeX cfg tb (evCallX cfg tb (runX cfg tb k)) n (runX cfg tb k n) c tm h d
def callX (cfg : XCfg) (tb : Tab) (k : Nat) : XCall := evCallX cfg tb (runX cfg tb k)
end
/-- What is told of a chain of panics, in a world. -/
abbrev Trb := List AV → List PanicEntry → World → Prop
abbrev HasFn (P : Program) (f : Nat) : Prop := ∃ fn, P.funcs[f]? = some fn ∧ fn.body.isSome = true ∧ (fn.name == "runtime.NumGoroutine") = false
/-- What is to hold of calls. -/
def XOK (P : Program) (J : Ctx) (tr : Trb) (c : XCall) : Prop :=
  ∀ (M : Inj) (N : Nat → Prop) (w0 : Base J) (h : AHeap) (w : World) (f : Nat) (args : List AV) (vs : Array Value), LRel M args vs.toList → HRel M N w0 h w →
    (∀ v h', c f args h = some (.ret v h') → HasFn P f ∧ Calls P f vs w fun e w' => ∃ M' u, e = .returned u ∧ M.le M' ∧ HRel M' N w0 h' w' ∧ VRel M' v u) ∧
    (∀ l h', c f args h = some (.boom l h') → HasFn P f ∧ Calls P f vs w fun e w' => ∃ M' chain, e = .panicked chain ∧ M.le M' ∧ HRel M' N w0 h' w' ∧ tr l chain w')
theorem XOK.ret {P : Program} {tr : Trb} {c : XCall} (h : XOK P J tr c) : CallOK P J (retOf c) := by
  intro M N w0 hp w f args vs v h' he hl hh
  unfold retOf retOnly at he
  split at he
  · rename_i v1 h1 hc
    simp only [Option.some.injEq, Prod.mk.injEq] at he
    obtain ⟨rfl, rfl⟩ := he
    exact (h M N w0 hp w f args vs hl hh).1 _ _ hc
  · cases he
section one
variable {P : Program} {tb : Tab} {tr : Trb} {c : XCall} {M : Inj} {N : Nat → Prop} {w0 : Base J} {tm : T AV} {h : AHeap} {a : Act} {w : World}
/-- The call of a value, in the model. -/
theorem val_run (ht : TRel M tm a) {o : Oper} {r : Option CRes} (hv : valCall c tm h o.op = some r) :
    ∃ (g : Nat) (args : List AV) (vs : Array Value), r = c g args h ∧ LRel M args vs.toList ∧ (HasFn P g → (execOp a.eval o).run P w = .ok (.enter g vs) w) := by
  obtain ⟨dst, op, type, pos, after, guard⟩ := o
  unfold valCall at hv
  split at hv
  rotate_left
  · cases hv
  rename_i cl hop
  simp only at hop
  subst hop
  obtain ⟨callee, args, argTypes⟩ := cl
  split at hv
  rotate_left
  · cases hv
  rename_i f hcal
  simp only at hcal
  subst hcal
  split at hv
  rotate_left
  · cases hv
  rename_i g caps l hg hl
  have hargs := opnds_ok ht hl
  split at hv
  · rename_i hgb
    cases hv
    obtain ⟨cs, he, hcs⟩ := func_iff (opnd_ok ht hg) hgb
    refine ⟨g, l ++ caps, (args.map a.eval) ++ cs, rfl, by have := hargs.append hcs; simpa using this, fun ⟨fn, hf, hb, hname⟩ => ?_⟩
    have hb2 : fn.body.isNone = false := by cases hbb : fn.body <;> simp_all
    simp only [execOp, resolve, Sem.run_bind, he, Deferred.ofValue, Sem.run_pure, Result.andThen_ok, invoke, callFunc, run_program, hf, hname, Bool.false_eq_true, if_false, hb2, Array.empty_append]
  · rename_i x hgb
    cases hv
    obtain ⟨u0, he, hx⟩ := meth_iff (opnd_ok ht hg) hgb
    refine ⟨g, x :: l, #[u0] ++ args.map a.eval, rfl, by have := LRel.cons hx hargs; simpa using this, fun ⟨fn, hf, hb, hname⟩ => ?_⟩
    have hb2 : fn.body.isNone = false := by cases hbb : fn.body <;> simp_all
    simp only [execOp, resolve, Sem.run_bind, he, Deferred.ofValue, Sem.run_pure, Result.andThen_ok, invoke, callFunc, run_program, hf, hname, Bool.false_eq_true, if_false, hb2, Array.append_empty]
/-- A call that gives something back. -/
theorem val_ret (hc : XOK P J tr c) (ht : TRel M tm a) (hh : HRel M N w0 h w) {o : Oper} {v : AV} {h' : AHeap} (hv : valCall c tm h o.op = some (some (.ret v h'))) {next : Act → World → Prop} {Q : Exit → Act → World → Prop}
    (hn : ∀ M' u w', M.le M' → HRel M' N w0 h' w' → VRel M' v u → next (a.put o.dst u) w') : o.wp P a w next Q := by
  obtain ⟨g, args, vs, hr, hl, hrun⟩ := val_run (P := P) (w := w) ht hv
  obtain ⟨hf, hcalls⟩ := (hc M N w0 h w g args vs hl hh).1 v h' hr.symm
  unfold Oper.wp
  rw [hrun hf, Oper.upon_enter]
  refine hcalls.mono ?_
  rintro e w' ⟨M', u, rfl, h1, h2, h3⟩
  exact hn M' u w' h1 h2 h3
/-- A call that throws. -/
theorem val_boom (hc : XOK P J tr c) (ht : TRel M tm a) (hh : HRel M N w0 h w) {o : Oper} {l : List AV} {h' : AHeap} (hv : valCall c tm h o.op = some (some (.boom l h'))) {next : Act → World → Prop} {Q : Exit → Act → World → Prop}
    (hn : ∀ M' chain w', M.le M' → HRel M' N w0 h' w' → tr l chain w' → Q (.panic chain) a w') : o.wp P a w next Q := by
  obtain ⟨g, args, vs, hr, hl, hrun⟩ := val_run (P := P) (w := w) ht hv
  obtain ⟨hf, hcalls⟩ := (hc M N w0 h w g args vs hl hh).2 l h' hr.symm
  unfold Oper.wp
  rw [hrun hf, Oper.upon_enter]
  refine hcalls.mono ?_
  rintro e w' ⟨M', chain, rfl, h1, h2, h3⟩
  exact hn M' chain w' h1 h2 h3
theorem callNow_some {ops : List Oper} {o : Oper} {r : Option CRes} (h1 : callNow c ops tm h o = some r) : valCall c tm h o.op = some r ∧ wantedA ops tm o = some true := by
  unfold callNow at h1
  split at h1
  · rename_i r' hv
    split at h1
    · rename_i hw
      cases h1
      exact ⟨hv, hw⟩
    · cases h1
  · cases h1
/-- The function that is deferred, as it stands in the frame. -/
def DRel (cfg : XCfg) (M : Inj) : Option (Nat × List AV) → List Deferred → Prop
  | none, ds => ds = []
  | some (g, caps), ds => cfg.isR g caps = true ∧ ∃ cs : Array Value, ds = [{ target := .fn (.func g) cs, args := #[] }] ∧ LRel M caps cs.toList
theorem LRel.mono' {M M' : Inj} (hM : M.le M') {l : List AV} {cs : List Value} (h : LRel M l cs) : LRel M' l cs := ⟨h.1, fun i v u p q => (h.2 i v u p q).mono hM⟩
theorem DRel.mono {cfg : XCfg} {M M' : Inj} (hM : M.le M') : ∀ {d : Option (Nat × List AV)} {ds : List Deferred}, DRel cfg M d ds → DRel cfg M' d ds
  | none, _, h => h
  | some (g, caps), _, ⟨h0, cs, h1, h2⟩ => ⟨h0, cs, h1, h2.mono' hM⟩
/-- A deferred function is laid. -/
theorem defer_ok {cfg : XCfg} (ht : TRel M tm a) {o : Oper} {g : Nat} {caps : List AV} (hd : deferOp cfg tm o = some (g, caps)) (h0 : a.defers = []) {next : Act → World → Prop} {Q : Exit → Act → World → Prop}
    (hn : ∀ a', a'.tmps = a.tmps → DRel cfg M (some (g, caps)) a'.defers → next a' w) : o.guard = none ∧ o.wp P a w next Q := by
  obtain ⟨dst, op, type, pos, after, guard⟩ := o
  unfold deferOp at hd
  split at hd
  rotate_left
  · cases hd
  rename_i cl h1 h2 h3
  simp only at h1 h2 h3
  subst h1 h2 h3
  obtain ⟨callee, args, argTypes⟩ := cl
  split at hd
  rotate_left
  · cases hd
  rename_i f hcal hargs
  simp only at hcal hargs
  subst hcal
  split at hd
  rotate_left
  · cases hd
  rename_i g1 caps1 hf
  split at hd
  rotate_left
  · cases hd
  rename_i hb1 hb2
  cases hd
  obtain ⟨cs, he, hcs⟩ := func_iff (opnd_ok ht hf) hb1
  have ha : args = #[] := by
    apply Array.ext'
    simpa using hargs
  subst ha
  refine ⟨rfl, ?_⟩
  unfold Oper.wp
  have hrun : (execOp a.eval { dst := none, op := .defer { callee := .value f, args := #[], argTypes }, type, pos, after, guard := none }).run P w = .ok (.defer { target := .fn (.func g) cs, args := #[] }) w := by
    simp only [execOp, resolve, Sem.run_bind, he, Deferred.ofValue, Sem.run_pure, Result.andThen_ok, Array.map_empty, Array.empty_append, List.map_toArray, List.map_nil, Array.append_empty]
  rw [hrun, Oper.upon_defer]
  refine hn _ (by simp [Act.put]) ⟨hb2, cs, ?_, hcs⟩
  rw [put_def, h0]
end one
end Go.Proofs.YtfkbfnpjggkdmaaGreatDoor.Ev
