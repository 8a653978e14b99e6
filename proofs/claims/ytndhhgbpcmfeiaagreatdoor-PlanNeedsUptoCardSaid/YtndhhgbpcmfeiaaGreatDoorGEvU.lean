/- The quick evaluator, part 4: functions and calls. What it gives, the evaluator gives. -/
import Derived.Test.YtndhhgbpcmfeiaaGreatDoorGEvT
namespace Go.Proofs.YtndhhgbpcmfeiaaGreatDoor.Ev
open Go.RowKit
set_option linter.unusedVariables false
set_option linter.unusedSimpArgs false
noncomputable section

def bitIf (defs : Nat) (s : Nat) (t : Nat) : Nat :=
  match Nat.testBit defs t with
  | true => s
  | false => Nat.lor s (Nat.pow 2 t)
def usesOf (defs : Nat) (s : Nat) : List Operand → Nat
  | [] => s
  | .tmp t :: l => usesOf defs (bitIf defs s t) l
  | _ :: l => usesOf defs s l
/-- Slots that a region takes from outside. -/
def escOps (ops : List Oper) : Nat → Nat → List Oper → Nat
  | _, s, [] => s
  | defs, s, o :: rest =>
    match usesOf defs (match o.guard with
      | some (j, _) => match ops[j]? with
        | some oj => match oj.dst with
          | some d => bitIf defs s d
          | none => s
        | none => s
      | none => s) o.op.operands.toList with
    | s' => match o.dst with
      | some d => escOps ops (Nat.lor defs (Nat.pow 2 d)) s' rest
      | none => escOps ops defs s' rest
/-- All slots of a region. -/
def allOps (s : Nat) : List Oper → Nat
  | [] => s
  | o :: rest => allOps (match o.dst with
    | some d => Nat.lor (usesOf 0 s o.op.operands.toList) (Nat.pow 2 d)
    | none => usesOf 0 s o.op.operands.toList) rest
def escCode (s : Nat) : Code → Nat
  | .region _ ops draw => match draw with
    | false => escOps ops.toList 0 s ops.toList
    | true => match drawOk ops.toList, drawFree ops.toList with
      | true, true => escOps ops.toList 0 s ops.toList
      | _, _ => allOps s ops.toList
  | .seq a b => escCode (escCode s a) b
  | .cond x a b => escCode (escCode (usesOf 0 s [x]) a) b
  | .block _ b => escCode s b
  | .loop b => escCode s b
  | _ => s
def escRes (s : Nat) : List ResultVar → Nat
  | [] => s
  | .tmp t :: l => escRes (bitIf 0 s t) l
  | .cell a _ :: l => escRes (bitIf 0 s a) l

def argsQ (esc : Nat) (l : List AV) (i : Nat) (tm : T AV) : T AV :=
  List.rec (motive := fun _ => Nat → T AV → T AV) (fun _ tm => tm) (fun v _ ih i tm => ih (Nat.succ i) (Bool.rec (motive := fun _ => T AV) tm (T.put (some v) tm i) (Nat.testBit esc i))) l i tm
abbrev ResF := T AV → AHeap → Option AV
def qRes1 (tb : Tab) : ResultVar → Bx ResF
  | .tmp t => match stGet (Nat.succ t) t with
    | ⟨g⟩ => ⟨fun tm _ => g tm⟩
  | .cell a t => match stGet (Nat.succ a) a with
    | ⟨g⟩ => ⟨fun tm h => Option.rec (motive := fun _ => Option AV) none (fun v => asPtr none (fun b o => loadA tb h.objs t b o) v) (g tm)⟩
def qRes (tb : Tab) : List ResultVar → Bx (T AV → AHeap → Option (List AV))
  | [] => ⟨fun _ _ => some []⟩
  | r :: l => match qRes1 tb r, qRes tb l with
    | ⟨f⟩, ⟨g⟩ => ⟨fun tm h => Option.rec (motive := fun _ => Option (List AV)) none (fun v => Option.rec (motive := fun _ => Option (List AV)) none (fun m => some (v :: m)) (g tm h)) (f tm h)⟩
abbrev QFn := CallQ → Nat → List AV → AHeap → VH
def qFin (g : T AV → AHeap → Option (List AV)) (tm : T AV) (h : AHeap) : VH := Option.rec (motive := fun _ => VH) .bad (fun l => .ok (oneOf l) h) (g tm h)
def qFn (tb : Tab) (fn : Func) : Bx QFn :=
  match fn.body with
  | none => ⟨fun _ _ _ _ => .bad⟩
  | some c => match escRes (escCode 0 c) fn.results.toList with
    | esc => match qCode tb esc fn.ntmps c, qRes tb fn.results.toList, fn.ntmps with
      | ⟨f⟩, ⟨g⟩, n => ⟨fun call k args h => Bool.rec (motive := fun _ => VH) .bad
          (CR.rec (motive := fun _ => VH) .bad (fun tm h => qFin g tm h) (fun tm h => qFin g tm h) (fun _ _ _ => .bad) (f call k (argsQ esc args 0 .leaf) h)) (Nat.ble (List.length args) n)⟩
def qFns (tb : Tab) (l : List Func) : T (Bx QFn) := T.ofList 0 (l.map (qFn tb)) .leaf
/-- A call: at most d calls within one another, at most k rounds of a loop. -/
def callQ (tb : Tab) (fs : T (Bx QFn)) (k d : Nat) : CallQ :=
  Nat.rec (motive := fun _ => CallQ) (fun _ _ _ => .bad) (fun _ ih f args h =>
    Option.rec (motive := fun _ => VH) (Option.rec (motive := fun _ => VH) .bad (fun b => Bx.rec (motive := fun _ => VH) (fun g => g ih k args h) b) (T.get fs f)) (fun v => .ok v h) (tb.orc f args h)) d
/-- Does a quick call give just this? -/
def givesQ (r : VH) (v : AV) : Bool :=
  match r with
  | .ok x _ => x.beq v
  | .bad => false
end
end Go.Proofs.YtndhhgbpcmfeiaaGreatDoor.Ev
