/- The quick evaluator, part 4: functions and calls. What it gives, the evaluator gives. -/
import Derived.Test.YtmblgaehfjheeaaGreatTEvT
namespace Go.Proofs.YtmblgaehfjheeaaGreat.Ev
open Go.RowKit
set_option linter.unusedVariables false
set_option linter.unusedSimpArgs false
noncomputable section

def bitIf (defs : Nat) (s : Nat) (t : Nat) : Nat :=
  match Nat.testBit defs t with
  | true => s
  | false => Nat.lor s (Nat.pow 2 t)
def usesOf (defs : Nat) (s : Nat) : List Operand → Nat
  | [] => s
  | .tmp t :: l => usesOf defs (bitIf defs s t) l
  | _ :: l => usesOf defs s l
/-- Slots that a region takes from outside. -/
def escOps (ops : List Oper) : Nat → Nat → List Oper → Nat
  | _, s, [] => s
  | defs, s, o :: rest =>
    match usesOf defs (match o.guard with
      | some (j, _) => match ops[j]? with
        | some oj => match oj.dst with
          | some d => bitIf defs s d
          | none => s
        | none => s
      | none => s) o.op.operands.toList with
    | s' => match o.dst with
      | some d => escOps ops (Nat.lor defs (Nat.pow 2 d)) s' rest
      | none => escOps ops defs s' rest
/-- All slots of a region. -/
def allOps (s : Nat) : List Oper → Nat
  | [] => s
  | o :: rest => allOps (match o.dst with
    | some d => Nat.lor (usesOf 0 s o.op.operands.toList) (Nat.pow 2 d)
    | none => usesOf 0 s o.op.operands.toList) rest
def escCode (s : Nat) : Code → Nat
  | .region _ ops draw => match draw with
    | false => escOps ops.toList 0 s ops.toList
    | true => match drawOk ops.toList, drawFree ops.toList with
      | true, true => escOps ops.toList 0 s ops.toList
      | _, _ => allOps s ops.toList
  | .seq a b => escCode (escCode s a) b
  | .cond x a b => escCode (escCode (usesOf 0 s [x]) a) b
  | .block _ b => escCode s b
  | .loop b => escCode s b
  | _ => s
def escRes (s : Nat) : List ResultVar → Nat
  | [] => s
  | .tmp t :: l => escRes (bitIf 0 s t) l
  | .cell a _ :: l => escRes (bitIf 0 s a) l

def argsQ (esc : Nat) (l : List AV) (i : Nat) (tm : T AV) : T AV :=
  List.rec (motive := fun _ => Nat → T AV → T AV) (fun _ tm => tm) (fun v _ ih i tm => ih (Nat.succ i) (Bool.rec (motive := fun _ => T AV) tm (T.put (some v) tm i) (Nat.testBit esc i))) l i tm
theorem argsQ_ok (esc : Nat) : ∀ (l : List AV) (i : Nat) (tm TM : T AV), Sub esc tm TM → Sub esc (argsQ esc l i tm) (argTmps i l TM)
  | [], i, tm, TM, h => h
  | v :: l, i, tm, TM, h => by
    show Sub esc (argsQ esc l (i + 1) (Bool.rec (motive := fun _ => T AV) tm (T.put (some v) tm i) (Nat.testBit esc i))) (argTmps (i + 1) l (TM.set i v))
    apply argsQ_ok esc l (i + 1)
    cases ht : Nat.testBit esc i with
    | false => exact h.pass ht
    | true => exact h.put ht

abbrev ResF := T AV → AHeap → Option AV
def qRes1 (tb : Tab) : ResultVar → Bx ResF
  | .tmp t => match stGet (Nat.succ t) t with
    | ⟨g⟩ => ⟨fun tm _ => g tm⟩
  | .cell a t => match stGet (Nat.succ a) a with
    | ⟨g⟩ => ⟨fun tm h => Option.rec (motive := fun _ => Option AV) none (fun v => asPtr none (fun b o => loadA tb h.objs t b o) v) (g tm)⟩
theorem qRes1_ok {tb : Tab} {esc : Nat} {tm TM : T AV} (hs : Sub esc tm TM) {h : AHeap} {r : ResultVar} {v : AV} (e : (qRes1 tb r).f tm h = some v) : resultA tb TM h r = some v := by
  cases r with
  | tmp t =>
    unfold qRes1 at e
    have hq := stGet_eq (Nat.succ t) t tm (Nat.lt_succ_self t)
    cases hg : stGet (Nat.succ t) t with
    | mk g =>
      simp only [hg] at e hq
      rw [hq] at e
      exact (hs t v e).2
  | cell a t =>
    unfold qRes1 at e
    have hq := stGet_eq (Nat.succ a) a tm (Nat.lt_succ_self a)
    cases hg : stGet (Nat.succ a) a with
    | mk g =>
      simp only [hg] at e hq
      rw [hq] at e
      obtain ⟨u, hu, e⟩ := orec e (by simp)
      obtain ⟨b, o, rfl, e⟩ := asPtr_ne e (by simp)
      unfold resultA
      simp only [(hs a _ hu).2]
      exact e
def qRes (tb : Tab) : List ResultVar → Bx (T AV → AHeap → Option (List AV))
  | [] => ⟨fun _ _ => some []⟩
  | r :: l => match qRes1 tb r, qRes tb l with
    | ⟨f⟩, ⟨g⟩ => ⟨fun tm h => Option.rec (motive := fun _ => Option (List AV)) none (fun v => Option.rec (motive := fun _ => Option (List AV)) none (fun m => some (v :: m)) (g tm h)) (f tm h)⟩
theorem qRes_ok {tb : Tab} {esc : Nat} {tm TM : T AV} (hs : Sub esc tm TM) {h : AHeap} : ∀ {l : List ResultVar} {vs : List AV}, (qRes tb l).f tm h = some vs → resultsA tb TM h l = some vs
  | [], vs, e => e
  | r :: l, vs, e => by
    have h1 := @qRes1_ok tb esc tm TM hs h r
    have ih := @qRes_ok tb esc tm TM hs h l
    unfold qRes at e
    unfold resultsA
    cases hf : qRes1 tb r with
    | mk f =>
      cases hg : qRes tb l with
      | mk g =>
        rw [hf] at h1
        rw [hg] at ih
        simp only [hf, hg] at e h1 ih
        obtain ⟨v, hv, e⟩ := orec e (by simp)
        obtain ⟨m, hm, e⟩ := orec e (by simp)
        rw [h1 hv]
        simp only
        rw [ih hm]
        exact e

abbrev QFn := CallQ → Nat → List AV → AHeap → VH
def qFin (g : T AV → AHeap → Option (List AV)) (tm : T AV) (h : AHeap) : VH := Option.rec (motive := fun _ => VH) .bad (fun l => .ok (oneOf l) h) (g tm h)
def qFn (tb : Tab) (fn : Func) : Bx QFn :=
  match fn.body with
  | none => ⟨fun _ _ _ _ => .bad⟩
  | some c => match escRes (escCode 0 c) fn.results.toList with
    | esc => match qCode tb esc fn.ntmps c, qRes tb fn.results.toList, fn.ntmps with
      | ⟨f⟩, ⟨g⟩, n => ⟨fun call k args h => Bool.rec (motive := fun _ => VH) .bad
          (CR.rec (motive := fun _ => VH) .bad (fun tm h => qFin g tm h) (fun tm h => qFin g tm h) (fun _ _ _ => .bad) (f call k (argsQ esc args 0 .leaf) h)) (Nat.ble (List.length args) n)⟩
def qFns (tb : Tab) (l : List Func) : T (Bx QFn) := T.ofList 0 (l.map (qFn tb)) .leaf
theorem qFns_ok (tb : Tab) (l : List Func) (hl : tb.ft = T.ofList 0 l .leaf) : ∀ f, (qFns tb l).get f = (tb.ft.get f).map (qFn tb) := by
  intro f
  rw [hl]
  unfold qFns
  rw [T.get_ofList, T.get_ofList]
  simp only [List.length_map, Nat.zero_le, true_and, Nat.zero_add, Nat.sub_zero, List.getElem?_map]
  split
  · rfl
  · rw [T.get_leaf, T.get_leaf]; rfl

/-- A call: at most d calls within one another, at most k rounds of a loop. -/
def callQ (tb : Tab) (fs : T (Bx QFn)) (k d : Nat) : CallQ :=
  Nat.rec (motive := fun _ => CallQ) (fun _ _ _ => .bad) (fun _ ih f args h =>
    Option.rec (motive := fun _ => VH) (Option.rec (motive := fun _ => VH) .bad (fun b => Bx.rec (motive := fun _ => VH) (fun g => g ih k args h) b) (T.get fs f)) (fun v => .ok v h) (tb.orc f args h)) d
theorem callQ_ok {tb : Tab} {fs : T (Bx QFn)} (hfs : ∀ f, fs.get f = (tb.ft.get f).map (qFn tb)) (k : Nat) : ∀ d, CallsOK tb (callQ tb fs k d)
  | 0 => fun f args h v h' e => by cases e
  | d + 1 => by
    intro f args h v h' e
    have hc := callQ_ok hfs k d
    have e : Option.rec (motive := fun _ => VH) (Option.rec (motive := fun _ => VH) .bad (fun b => Bx.rec (motive := fun _ => VH) (fun g => g (callQ tb fs k d) k args h) b) (T.get fs f)) (fun v => .ok v h) (tb.orc f args h) = .ok v h' := e
    cases ho : tb.orc f args h with
    | some u =>
      rw [ho] at e
      simp only [VH.ok.injEq] at e
      obtain ⟨rfl, rfl⟩ := e
      exact Evt.of fun K => by unfold evCall; rw [ho]
    | none =>
      rw [ho] at e
      simp only at e
      rw [hfs] at e
      cases hf : tb.ft.get f with
      | none => rw [hf] at e; cases e
      | some fn =>
        rw [hf] at e
        simp only [Option.map_some] at e
        unfold qFn at e
        cases hb : fn.body with
        | none => rw [hb] at e; cases e
        | some c =>
          rw [hb] at e
          simp only at e
          generalize hesc : escRes (escCode 0 c) fn.results.toList = esc at e
          have hcode := @qCode_ok tb esc fn.ntmps (callQ tb fs k d) hc k c (argsQ esc args 0 .leaf) (argTmps 0 args .leaf) h
            (argsQ_ok esc args 0 .leaf .leaf (fun k v hk => by rw [T.get_leaf] at hk; cases hk))
          cases hq : qCode tb esc fn.ntmps c with
          | mk q =>
            cases hr : qRes tb fn.results.toList with
            | mk g =>
              rw [hq] at hcode
              rw [hq, hr] at e
              simp only at e hcode
              obtain ⟨hlen, e⟩ := boolrec e (by simp)
              have fin : ∀ {tm1 TM1 h1} (x : Ex), (∀ i, x ≠ .exit i) → Sub esc tm1 TM1 → qFin g tm1 h1 = .ok v h' → (Evt fun K => run tb K fn.ntmps c (argTmps 0 args .leaf) h = some (x, TM1, h1)) →
                  Evt fun K => evCall tb (run tb K) f args h = some (v, h') := by
                intro tm1 TM1 h1 x hx hs1 e hE
                unfold qFin at e
                obtain ⟨l, hl, e⟩ := orec e (by simp)
                simp only [VH.ok.injEq] at e
                obtain ⟨rfl, rfl⟩ := e
                have hres := qRes_ok hs1 (l := fn.results.toList) (vs := l) (h := h1) (by rw [hr]; exact hl)
                refine hE.mono fun K hK => ?_
                unfold evCall
                simp only [ho, hf, hb, hlen, hK]
                cases x with
                | exit i => exact absurd rfl (hx i)
                | normal => simp only [hres]
                | ret => simp only [hres]
              revert hcode e
              generalize q (callQ tb fs k d) k (argsQ esc args 0 .leaf) h = r
              intro hcode e
              cases r with
              | bad => cases e
              | exit i tm1 h1 => cases e
              | norm tm1 h1 =>
                obtain ⟨TM1, hs1, hE1⟩ := hcode
                exact fin .normal (fun i => by simp) hs1 e hE1
              | ret tm1 h1 =>
                obtain ⟨TM1, hs1, hE1⟩ := hcode
                exact fin .ret (fun i => by simp) hs1 e hE1

/-- Does a quick call give just this? -/
def givesQ (r : VH) (v : AV) : Bool :=
  match r with
  | .ok x _ => x.beq v
  | .bad => false
theorem givesQ_ok {tb : Tab} {fs : T (Bx QFn)} (hfs : ∀ f, fs.get f = (tb.ft.get f).map (qFn tb)) {k d f : Nat} {args : List AV} {h : AHeap} {v : AV} (e : givesQ (callQ tb fs k d f args h) v = true) :
    ∃ K, gives (callA tb K f args h) v = true := by
  unfold givesQ at e
  cases hr : callQ tb fs k d f args h with
  | bad => rw [hr] at e; cases e
  | ok x h' =>
    rw [hr] at e
    obtain ⟨K, hK⟩ := callQ_ok hfs k d f args h x h' hr
    exact ⟨K, by unfold callA; rw [hK K (Nat.le_refl K)]; exact e⟩
/-- A call that gives a value without memory, reckoned quickly. -/
theorem quick_call {P : Program} {tb : Tab} {l : List Value} (H : TabOK P tb (ctxOf l)) {fs : T (Bx QFn)} (hfs : ∀ f, fs.get f = (tb.ft.get f).map (qFn tb)) {k d f : Nat} {args : List AV} {v : AV} {u : Value} (hu : conT v = some u)
    (he : givesQ (callQ tb fs k d f args ⟨l.length, .leaf⟩) v = true) {vs : Array Value} (hl : LRel (injOf l) args vs.toList) (w : World) :
    Calls P f vs w fun e w' => e = .returned u ∧ Below w.heap.size w w' := by
  obtain ⟨K, hK⟩ := givesQ_ok hfs he
  exact plain_call H hu hK hl w
end
end Go.Proofs.YtmblgaehfjheeaaGreat.Ev
