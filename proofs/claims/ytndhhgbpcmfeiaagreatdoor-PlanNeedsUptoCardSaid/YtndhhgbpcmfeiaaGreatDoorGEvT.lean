/- The quick evaluator, part 3: regions, code, calls. What it gives, the evaluator gives. -/
import Derived.Test.YtndhhgbpcmfeiaaGreatDoorGEvV
namespace Go.Proofs.YtndhhgbpcmfeiaaGreatDoor.Ev
open Go.RowKit
set_option linter.unusedVariables false
set_option linter.unusedSimpArgs false
noncomputable section

inductive OR where
  | bad
  | ok (tm : T AV) (h : AHeap)
abbrev QReg := CallQ → T AV → List AV → AHeap → OR
abbrev QK := CallQ → T AV → List AV → AHeap → AV → OR

def qThen (o : QO) (k : QK) : Bx QReg :=
  match o with
  | .q f => ⟨fun call tm l h => Option.rec (motive := fun _ => OR) .bad (fun v => k call tm l h v) (f tm l h)⟩
  | .l f => ⟨fun call tm l h => VH.rec (motive := fun _ => OR) .bad (fun v h' => k call tm l h' v) (f call tm l h)⟩
  | .r f => ⟨fun call tm l h => Res.rec (motive := fun _ => OR) (fun x => Option.rec (motive := fun _ => OR) .bad (fun v => k call tm l h v) x) (fun x => Option.rec (motive := fun _ => OR) .bad (fun p => k call tm l p.2 p.1) x) (f tm l h)⟩
def qWant (loc : List Nat) (ops : List Oper) (j : Nat) : Bx G :=
  match ops[j]? with
  | some oj => match oj.dst with
    | some d => qOd loc (.tmp d)
    | none => ⟨fun _ _ => none⟩
  | none => ⟨fun _ _ => none⟩
def qGuard (tb : Tab) (loc : List Nat) (ops : List Oper) (o : Oper) (k : QK) : Bx QReg :=
  match o.guard with
  | none => qThen (qOp tb loc o.op) k
  | some (j, want) => match qThen (qOp tb loc o.op) k, qWant loc ops j with
    | ⟨f⟩, ⟨g⟩ => match want with
      | true => ⟨fun call tm l h => Option.rec (motive := fun _ => OR) .bad (fun v => asWant .bad (f call tm l h) (k call tm l h (.tuple [])) (k call tm l h (.tuple [])) v) (g tm l)⟩
      | false => ⟨fun call tm l h => Option.rec (motive := fun _ => OR) .bad (fun v => asWant .bad (k call tm l h (.tuple [])) (f call tm l h) (k call tm l h (.tuple [])) v) (g tm l)⟩
/-- A region's operations, one behind the other. -/
def qOps (tb : Tab) (esc n : Nat) (ops : List Oper) : List Nat → List Oper → Bx QReg
  | loc, [] => ⟨fun _ tm _ h => .ok tm h⟩
  | loc, o :: rest => match o.dst with
    | none => match qOps tb esc n ops loc rest with
      | ⟨r⟩ => qGuard tb loc ops o fun call tm l h _ => r call tm l h
    | some d => match Nat.blt d n, qOps tb esc n ops (d :: loc) rest, Nat.testBit esc d with
      | false, _, _ => ⟨fun _ _ _ _ => .bad⟩
      | true, ⟨r⟩, false => qGuard tb loc ops o fun call tm l h v => r call tm (v :: l) h
      | true, ⟨r⟩, true => match stSet (Nat.succ d) d with
        | ⟨p⟩ => qGuard tb loc ops o fun call tm l h v => r call (p tm v) (v :: l) h
/-- Code. -/
abbrev QRun := CallQ → Nat → T AV → AHeap → CR

def qCode (tb : Tab) (esc n : Nat) : Code → Bx QRun
  | .skip => ⟨fun _ _ tm h => .norm tm h⟩
  | .label _ => ⟨fun _ _ tm h => .norm tm h⟩
  | .ret => ⟨fun _ _ tm h => .ret tm h⟩
  | .exit id => ⟨fun _ _ tm h => .exit id tm h⟩
  | .region _ ops draw => match (match draw with
      | true => match drawOk ops.toList, drawFree ops.toList with
        | true, true => true
        | _, _ => false
      | false => true) with
    | true => match qOps tb esc n ops.toList [] ops.toList with
      | ⟨r⟩ => ⟨fun call _ tm h => OR.rec (motive := fun _ => CR) .bad (fun tm' h' => .norm tm' h') (r call tm [] h)⟩
    | false => match draw, keysIn esc ops.toList, ops.toList with
      | true, true, l => ⟨fun call _ tm h => Option.rec (motive := fun _ => CR) .bad (fun p => .norm p.1 p.2) (evDraw tb (callOf call) n l tm h)⟩
      | _, _, _ => ⟨fun _ _ _ _ => .bad⟩
  | .seq a b => match qCode tb esc n a, qCode tb esc n b with
    | ⟨f⟩, ⟨g⟩ => ⟨fun call k tm h => CR.rec (motive := fun _ => CR) .bad (fun tm' h' => g call k tm' h') (fun tm' h' => .ret tm' h') (fun i tm' h' => .exit i tm' h') (f call k tm h)⟩
  | .cond x a b => match qOd [] x, qCode tb esc n a, qCode tb esc n b with
    | ⟨c⟩, ⟨f⟩, ⟨g⟩ => ⟨fun call k tm h => Option.rec (motive := fun _ => CR) .bad (fun v => asBool .bad (fun t => Bool.rec (motive := fun _ => CR) (g call k tm h) (f call k tm h) t) v) (c tm [])⟩
  | .block id b => match qCode tb esc n b with
    | ⟨f⟩ => ⟨fun call k tm h => CR.rec (motive := fun _ => CR) .bad (fun tm' h' => .norm tm' h') (fun tm' h' => .ret tm' h') (fun j tm' h' => Bool.rec (motive := fun _ => CR) (.exit j tm' h') (.norm tm' h') (Nat.beq j id)) (f call k tm h)⟩
  | .loop b => match qCode tb esc n b with
    | ⟨f⟩ => ⟨fun call k tm h => Nat.rec (motive := fun _ => T AV → AHeap → CR) (fun _ _ => .bad)
        (fun _ ih tm h => CR.rec (motive := fun _ => CR) .bad (fun tm' h' => ih tm' h') (fun tm' h' => .ret tm' h') (fun j tm' h' => .exit j tm' h') (f call k tm h)) k tm h⟩
  | _ => ⟨fun _ _ _ _ => .bad⟩

/-- What a quick run's end says of the evaluator's. -/
def EndOK (tb : Tab) (esc n : Nat) (c : Code) (TM : T AV) (h : AHeap) : CR → Prop
  | .bad => True
  | .norm tm' h' => ∃ TM', Sub esc tm' TM' ∧ Evt fun K => run tb K n c TM h = some (.normal, TM', h')
  | .ret tm' h' => ∃ TM', Sub esc tm' TM' ∧ Evt fun K => run tb K n c TM h = some (.ret, TM', h')
  | .exit i tm' h' => ∃ TM', Sub esc tm' TM' ∧ Evt fun K => run tb K n c TM h = some (.exit i, TM', h')

theorem run_succ (tb : Tab) (K n : Nat) (c : Code) (tm : T AV) (h : AHeap) : run tb (K + 1) n c tm h = evCode tb (evCall tb (run tb K)) n (run tb K n) c tm h := rfl

end
end Go.Proofs.YtndhhgbpcmfeiaaGreatDoor.Ev
