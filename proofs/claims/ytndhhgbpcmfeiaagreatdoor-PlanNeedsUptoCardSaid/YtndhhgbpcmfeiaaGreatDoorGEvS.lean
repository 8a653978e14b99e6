/- The evaluator once more, in stages: what hangs on the text alone is reckoned once. It gives the same. -/
import Derived.Test.YtndhhgbpcmfeiaaGreatDoorGEvM
namespace Go.Proofs.YtndhhgbpcmfeiaaGreatDoor.Ev
open Go.RowKit
set_option linter.unusedVariables false
set_option linter.unusedSimpArgs false
noncomputable section

/-- A function in a box: the kernel reckons the box once. -/
structure Bx (α : Type) where
  f : α

abbrev CallF := Nat → List AV → AHeap → Option (AV × AHeap)

def stGet (n : Nat) (k : Nat) : Bx (T AV → Option AV) :=
  Nat.rec (motive := fun _ => Nat → Bx (T AV → Option AV)) (fun _ => ⟨fun _ => none⟩)
    (fun _ ih k => Nat.rec (motive := fun _ => Bx (T AV → Option AV)) ⟨fun t => T.rec (motive := fun _ => Option AV) none (fun _ v _ _ _ => v) t⟩
      (fun k _ => Bool.rec (motive := fun _ => Bx (T AV → Option AV))
        (Bx.rec (motive := fun _ => Bx (T AV → Option AV)) (fun g => ⟨fun t => T.rec (motive := fun _ => Option AV) none (fun _ _ r _ _ => g r) t⟩) (ih (Nat.div k 2)))
        (Bx.rec (motive := fun _ => Bx (T AV → Option AV)) (fun g => ⟨fun t => T.rec (motive := fun _ => Option AV) none (fun l _ _ _ _ => g l) t⟩) (ih (Nat.div k 2)))
        (Nat.beq (Nat.mod k 2) 0)) k) n k
def stSet (n : Nat) (k : Nat) : Bx (T AV → AV → T AV) :=
  Nat.rec (motive := fun _ => Nat → Bx (T AV → AV → T AV)) (fun k => ⟨fun t v => T.put (some v) t k⟩)
    (fun _ ih k => Nat.rec (motive := fun _ => Bx (T AV → AV → T AV)) ⟨fun t v => T.rec (motive := fun _ => T AV) (.node .leaf (some v) .leaf) (fun l _ r _ _ => .node l (some v) r) t⟩
      (fun k _ => Bool.rec (motive := fun _ => Bx (T AV → AV → T AV))
        (Bx.rec (motive := fun _ => Bx (T AV → AV → T AV)) (fun g => ⟨fun t v => T.rec (motive := fun _ => T AV) (.node .leaf none (g .leaf v)) (fun l x r _ _ => .node l x (g r v)) t⟩) (ih (Nat.div k 2)))
        (Bx.rec (motive := fun _ => Bx (T AV → AV → T AV)) (fun g => ⟨fun t v => T.rec (motive := fun _ => T AV) (.node (g .leaf v) none .leaf) (fun l x r _ _ => .node (g l v) x r) t⟩) (ih (Nat.div k 2)))
        (Nat.beq (Nat.mod k 2) 0)) k) n k
/-- Operands. -/
def stOd (x : Operand) : Bx (T AV → Option AV) :=
  match x with
  | .tmp t => stGet (Nat.succ t) t
  | .const v => match ofVal v with
    | some a => ⟨fun _ => some a⟩
    | none => ⟨fun _ => none⟩
  | .func f => ⟨fun _ => some (.func f [])⟩
  | .global _ => ⟨fun _ => none⟩
def stOds : List Operand → Bx (T AV → Option (List AV))
  | [] => ⟨fun _ => some []⟩
  | x :: l => match stOd x, stOds l with
    | ⟨a⟩, ⟨b⟩ => ⟨fun tm => match a tm with
      | some v => match b tm with
        | some m => some (v :: m)
        | none => none
      | none => none⟩
def kindEq (k j : IntKind) : Bool := Nat.beq k.ctorIdx j.ctorIdx
/-- Operations between two values, by the operation. -/
def stBin (tb : Tab) (op : BinOp) (t : Nat) : Bx (AV → AV → Option AV) :=
  match op with
  | .shl => ⟨fun a b => evBin tb .shl t a b⟩
  | .shr => ⟨fun a b => evBin tb .shr t a b⟩
  | op => ⟨fun a b => AV.rec (motive_1 := fun _ => Option AV) (motive_2 := fun _ => Unit) (fun _ => evBin tb op t a b)
      (fun k x => match b with
        | .int j y => match kindEq k j with
          | true => intBin op k x y
          | false => none
        | b => evBin tb op t a b) (fun _ => evBin tb op t a b) (evBin tb op t a b) (fun _ _ => evBin tb op t a b) (evBin tb op t a b) (fun _ _ _ _ => evBin tb op t a b)
      (fun _ _ => evBin tb op t a b) (fun _ _ => evBin tb op t a b) (evBin tb op t a b) (fun _ _ _ => evBin tb op t a b) (evBin tb op t a b) (fun _ => evBin tb op t a b) (evBin tb op t a b) (fun _ => evBin tb op t a b) () (fun _ _ _ _ => ()) a⟩
/-- One operation. -/
def stOp (tb : Tab) (op : Op) : Bx (CallF → T AV → AHeap → Res) :=
  match op with
  | .move x => match stOd x with
    | ⟨a⟩ => ⟨fun _ tm _ => .q (a tm)⟩
  | .assign x => match stOd x with
    | ⟨a⟩ => ⟨fun _ tm _ => .q (a tm)⟩
  | .pick c x y => match stOd c, stOd x, stOd y with
    | ⟨c⟩, ⟨a⟩, ⟨b⟩ => ⟨fun _ tm _ => .q (match c tm with
      | some (.bool true) => a tm
      | some (.bool false) => b tm
      | _ => none)⟩
  | .load t x => match stOd x with
    | ⟨a⟩ => ⟨fun _ tm h => .q (match a tm with
      | some (.ptr b o) => loadA tb h.objs t b o
      | _ => none)⟩
  | .nilCheck x => match stOd x with
    | ⟨a⟩ => ⟨fun _ tm _ => .q (match a tm with
      | some (.ptr b o) => some (.ptr b o)
      | some (.func f l) => some (.func f l)
      | _ => none)⟩
  | .binOp op t x y k => match isNilC y, stOd x, stOd y, stBin tb op t with
    | true, _, _, _ => ⟨fun call tm h => evOp tb call tm h (.binOp op t x y k)⟩
    | false, ⟨a⟩, ⟨b⟩, ⟨g⟩ => ⟨fun _ tm _ => .q (match a tm with
      | some u => match b tm with
        | some v => g u v
        | none => none
      | none => none)⟩
  | .fieldAddr s x f => match structFields (tb.und s), stOd x with
    | some fs, ⟨a⟩ => match fieldPl tb fs f with
      | some (off, n + 1) => ⟨fun _ tm _ => .q (match a tm with
        | some (.ptr b o) => some (.ptr b (o + off))
        | _ => none)⟩
      | _ => ⟨fun _ _ _ => .q none⟩
    | none, _ => ⟨fun _ _ _ => .q none⟩
  | .extract x i => match stOd x with
    | ⟨a⟩ => ⟨fun _ tm _ => .q (match a tm with
      | some (.tuple l) => l[i]?
      | _ => none)⟩
  | .call c => match c.callee with
    | .value f => match stOd f, stOds c.args.toList with
      | ⟨g⟩, ⟨a⟩ => ⟨fun call tm h => .l (match g tm with
        | some (.func f caps) => match a tm with
          | some l => call f (l ++ caps) h
          | none => none
        | _ => none)⟩
    | _ => ⟨fun call tm h => evCallOp tb call tm h c⟩
  | op => ⟨fun call tm h => evOp tb call tm h op⟩
/-- Whether it is wanted. -/
def stWant (ops : List Oper) (o : Oper) : Bx (T AV → Option Bool) :=
  match o.guard with
  | none => ⟨fun _ => some true⟩
  | some (j, want) => match ops[j]? with
    | some oj => match oj.dst with
      | some d => match stGet (Nat.succ d) d with
        | ⟨g⟩ => ⟨fun tm => match g tm with
          | some (.bool b) => some (match want with
            | true => b
            | false => !b)
          | some (.tuple []) => some false
          | _ => none⟩
      | none => ⟨fun _ => none⟩
    | none => ⟨fun _ => none⟩
/-- A region's operations, one behind the other. -/
def stOps (tb : Tab) (n : Nat) (ops : List Oper) : List Oper → Bx (CallF → T AV → AHeap → Option (T AV × AHeap))
  | [] => ⟨fun _ tm h => some (tm, h)⟩
  | o :: rest => match stOp tb o.op, stOps tb n ops rest with
    | ⟨f⟩, ⟨r⟩ => match o.guard, o.dst with
      | none, none => ⟨fun call tm h => match f call tm h with
        | .q (some v) => r call tm h
        | .l (some (v, h')) => r call tm h'
        | _ => none⟩
      | none, some d => match Nat.blt d n, stSet (Nat.succ d) d with
        | true, ⟨p⟩ => ⟨fun call tm h => match f call tm h with
          | .q (some v) => r call (p tm v) h
          | .l (some (v, h')) => r call (p tm v) h'
          | _ => none⟩
        | false, _ => ⟨fun _ _ _ => none⟩
      | some _, none => match stWant ops o with
        | ⟨w⟩ => ⟨fun call tm h => match w tm with
          | some true => match f call tm h with
            | .q (some v) => r call tm h
            | .l (some (v, h')) => r call tm h'
            | _ => none
          | some false => r call tm h
          | none => none⟩
      | some _, some d => match Nat.blt d n, stSet (Nat.succ d) d, stWant ops o with
        | true, ⟨p⟩, ⟨w⟩ => ⟨fun call tm h => match w tm with
          | some true => match f call tm h with
            | .q (some v) => r call (p tm v) h
            | .l (some (v, h')) => r call (p tm v) h'
            | _ => none
          | some false => r call (p tm (.tuple [])) h
          | none => none⟩
        | false, _, _ => ⟨fun _ _ _ => none⟩
/-- Code, in stages. -/
inductive SC where
  | skip
  | ret
  | exit (id : Nat)
  | region (f : CallF → T AV → AHeap → Option (T AV × AHeap))
  | seq (a b : SC)
  | cond (f : T AV → Option AV) (a b : SC)
  | block (id : Nat) (b : SC)
  | loop (b : SC)
  | bad

def stCode (tb : Tab) (n : Nat) : Code → SC
  | .skip => .skip
  | .label _ => .skip
  | .ret => .ret
  | .exit id => .exit id
  | .region _ ops true => match drawOk ops.toList, drawFree ops.toList with
    | true, true => match stOps tb n ops.toList ops.toList with
      | ⟨f⟩ => .region f
    | _, _ => .region fun call tm h => evDraw tb call n ops.toList tm h
  | .region _ ops false => match stOps tb n ops.toList ops.toList with
    | ⟨f⟩ => .region f
  | .seq a b => .seq (stCode tb n a) (stCode tb n b)
  | .cond x a b => match stOd x with
    | ⟨f⟩ => .cond f (stCode tb n a) (stCode tb n b)
  | .block id b => .block id (stCode tb n b)
  | .loop b => .loop (stCode tb n b)
  | _ => .bad

def stRun (call : CallF) (ih : SC → T AV → AHeap → Option (Ex × T AV × AHeap)) (c : SC) (tm : T AV) (h : AHeap) : Option (Ex × T AV × AHeap) :=
  match c with
  | .skip => some (.normal, tm, h)
  | .ret => some (.ret, tm, h)
  | .exit id => some (.exit id, tm, h)
  | .region f => match f call tm h with
    | some (tm', h') => some (.normal, tm', h')
    | none => none
  | .seq a b => match ih a tm h with
    | some (.normal, tm', h') => ih b tm' h'
    | r => r
  | .cond f a b => match f tm with
    | some (.bool true) => ih a tm h
    | some (.bool false) => ih b tm h
    | _ => none
  | .block id b => match ih b tm h with
    | some (.exit j, tm', h') => match Nat.beq j id with
      | true => some (.normal, tm', h')
      | false => some (.exit j, tm', h')
    | r => r
  | .loop b => match ih b tm h with
    | some (.normal, tm', h') => ih (.loop b) tm' h'
    | r => r
  | .bad => none

/-- A function in stages. -/
structure SF where
  n : Nat
  body : SC
  res : List ResultVar

def stFn (tb : Tab) (fn : Func) : Option SF :=
  match fn.body with
  | some c => match stCode tb fn.ntmps c with
    | b => some ⟨fn.ntmps, b, fn.results.toList⟩
  | none => none

/-- Staged functions by their numbers. -/
def stFns (tb : Tab) (l : List Func) : T (Option SF) := T.ofList 0 (l.map (stFn tb)) .leaf

def stCall (tb : Tab) (fs : T (Option SF)) (run : SC → T AV → AHeap → Option (Ex × T AV × AHeap)) (f : Nat) (args : List AV) (h : AHeap) : Option (AV × AHeap) :=
  match tb.orc f args h with
  | some v => some (v, h)
  | none =>
  match fs.get f with
  | some (some fn) =>
    match Nat.ble args.length fn.n with
    | true =>
      match run fn.body (argTmps 0 args .leaf) h with
      | some (.exit _, _, _) => none
      | some (_, tm, h') => match resultsA tb tm h' fn.res with
        | some l => some (oneOf l, h')
        | none => none
      | none => none
    | false => none
  | _ => none

def runS (tb : Tab) (fs : T (Option SF)) (k : Nat) : SC → T AV → AHeap → Option (Ex × T AV × AHeap) :=
  Nat.rec (motive := fun _ => SC → T AV → AHeap → Option (Ex × T AV × AHeap)) (fun _ _ _ => none) (fun _ ih c tm h => stRun (stCall tb fs ih) ih c tm h) k

def callS (tb : Tab) (fs : T (Option SF)) (k : Nat) (f : Nat) (args : List AV) (h : AHeap) : Option (AV × AHeap) := stCall tb fs (runS tb fs k) f args h

end
end Go.Proofs.YtndhhgbpcmfeiaaGreatDoor.Ev
