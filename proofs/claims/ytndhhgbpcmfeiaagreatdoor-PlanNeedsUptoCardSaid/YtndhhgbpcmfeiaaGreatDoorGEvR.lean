/- The quick evaluator, part 2: the operations. What it gives, the evaluator gives. -/
import Derived.Test.YtndhhgbpcmfeiaaGreatDoorGEvQ
namespace Go.Proofs.YtndhhgbpcmfeiaaGreatDoor.Ev
open Go.RowKit
set_option linter.unusedVariables false
set_option linter.unusedSimpArgs false
noncomputable section

def qIndexAddr (tb : Tab) (loc : List Nat) (t : Nat) (x ix : Operand) : QO :=
  match tb.und t with
  | some (.slice e) => match tb.size e, qOd loc x, qOd loc ix with
    | some m, ⟨a⟩, ⟨b⟩ => .q fun tm l _ => Option.rec (motive := fun _ => Option AV) none (fun v => asSlice none (fun bb o n sz => Option.rec (motive := fun _ => Option AV) none (fun w => asInt none (fun _ k =>
        Int.rec (motive := fun _ => Option AV) (fun i => Bool.rec (motive := fun _ => Option AV) none (Bool.rec (motive := fun _ => Option AV) none (some (.ptr bb (Nat.mul (Nat.add o i) sz))) (Nat.blt i n)) (Nat.beq m sz)) (fun _ => none) k) w) (b tm l)) v) (a tm l)
    | none, _, _ => .q fun _ _ _ => none
  | some (.array len e) => match tb.size e, qOd loc x, qOd loc ix with
    | some m, ⟨a⟩, ⟨b⟩ => .q fun tm l _ => Option.rec (motive := fun _ => Option AV) none (fun v => asPtr none (fun bb o => Option.rec (motive := fun _ => Option AV) none (fun w => asInt none (fun _ k =>
        Int.rec (motive := fun _ => Option AV) (fun i => Bool.rec (motive := fun _ => Option AV) none (some (.ptr bb (Nat.add o (Nat.mul i m)))) (Nat.blt i len)) (fun _ => none) k) w) (b tm l)) v) (a tm l)
    | none, _, _ => .q fun _ _ _ => none
  | _ => .q fun _ _ _ => none
/-- An operation that is seldom: over a small trie of its operands. -/
def qRare (tb : Tab) (loc : List Nat) (op : Op) (xs : List Operand) : QO :=
  match envQ loc xs with
  | ⟨e⟩ => .r fun tm l h => Option.rec (motive := fun _ => Res) (.q none) (fun m => evOp tb callNone m h op) (e tm l)
def qIndex (tb : Tab) (loc : List Nat) (t : Nat) (x ix : Operand) : QO :=
  match tb.und t with
  | some .string => match qOd loc x, qOd loc ix with
    | ⟨a⟩, ⟨b⟩ => .q fun tm l _ => Option.rec (motive := fun _ => Option AV) none (fun v => asStr none (fun s => Option.rec (motive := fun _ => Option AV) none (fun w => asInt none (fun _ k =>
        Int.rec (motive := fun _ => Option AV) (fun i => Option.rec (motive := fun _ => Option AV) none (fun c => some (.int .u8 (.ofNat c))) (nthN s i)) (fun _ => none) k) w) (b tm l)) v) (a tm l)
  | some (.array len e) => match tb.size e, qOd loc x, qOd loc ix with
    | some m, ⟨a⟩, ⟨b⟩ => .q fun tm l _ => Option.rec (motive := fun _ => Option AV) none (fun v => asAgg none (fun cs => Option.rec (motive := fun _ => Option AV) none (fun w => asInt none (fun _ k =>
        Int.rec (motive := fun _ => Option AV) (fun i => Bool.rec (motive := fun _ => Option AV) none (partA tb e cs (Nat.mul i m)) (Nat.blt i len)) (fun _ => none) k) w) (b tm l)) v) (a tm l)
    | none, _, _ => .q fun _ _ _ => none
  | _ => .q fun _ _ _ => none
def qLen (tb : Tab) (loc : List Nat) (args : Array Operand) (ts : Array Nat) : QO :=
  match ts.toList, args.toList with
  | t :: _, [x] => match tb.und t, qOd loc x with
    | some d, ⟨a⟩ => .q fun tm l _ => Option.rec (motive := fun _ => Option AV) none (fun v => Option.rec (motive := fun _ => Option AV) none (fun n => some (.int .i64 (.ofNat n))) (lenA d v)) (a tm l)
    | none, _ => .q fun _ _ _ => none
  | _, _ => .q fun _ _ _ => none
/-- One cell of a list set anew. -/
def setVO (w : AV) (l : List AV) (i : Nat) : Option (List AV) :=
  List.rec (motive := fun _ => Nat → Option (List AV)) (fun _ => none)
    (fun v r ih i => Nat.rec (motive := fun _ => Option (List AV)) (some (w :: r)) (fun n _ => Option.rec (motive := fun _ => Option (List AV)) none (fun m => some (v :: m)) (ih n)) i) l i
def flatT (tb : Tab) (t : Nat) : Bool :=
  match tb.isAgg t with
  | some false => true
  | _ => false
def qStore (tb : Tab) (loc : List Nat) (t : Nat) (x y : Operand) : QO :=
  match tb.size t, flatT tb t, qOd loc x, qOd loc y with
  | some 1, true, ⟨a⟩, ⟨b⟩ => .l fun _ tm l h => Option.rec (motive := fun _ => VH) .bad (fun p => asPtr .bad (fun bb o => Option.rec (motive := fun _ => VH) .bad (fun v => asCell .bad (Option.rec (motive := fun _ => VH) .bad (fun ob =>
      Option.rec (motive := fun _ => VH) .bad (fun cs => Bool.rec (motive := fun _ => VH) .bad (.ok (.tuple []) ⟨h.next, T.put (some ⟨ob.sz, ob.exact_, cs⟩) h.objs bb⟩) (Nat.blt 0 ob.sz)) (setVO v ob.cells o)) (T.get h.objs bb)) v) (b tm l)) p) (a tm l)
  | some n, _, ⟨a⟩, ⟨b⟩ => .l fun _ tm l h => Option.rec (motive := fun _ => VH) .bad (fun p => asPtr .bad (fun bb o => Option.rec (motive := fun _ => VH) .bad (fun v =>
      Option.rec (motive := fun _ => VH) .bad (fun r => .ok r.1 r.2) (storeA tb h t bb o v)) (b tm l)) p) (a tm l)
  | none, _, _, _ => .q fun _ _ _ => none
def qAlloc (tb : Tab) (t : Nat) : QO :=
  match tb.zero t with
  | some z => match varObj tb t z.cells with
    | ob => .l fun _ _ _ h => .ok (.ptr h.next 0) ⟨Nat.succ h.next, T.put (some ob) h.objs h.next⟩
  | none => .q fun _ _ _ => none
def qCallVal (loc : List Nat) (f : Operand) (args : List Operand) : QO :=
  match f with
  | .func g => match qOds loc args with
    | ⟨a⟩ => .l fun callq tm l h => Option.rec (motive := fun _ => VH) .bad (fun vs => callq g vs h) (a tm l)
  | f => match qOd loc f, qOds loc args with
    | ⟨g⟩, ⟨a⟩ => .l fun callq tm l h => Option.rec (motive := fun _ => VH) .bad (fun u => asFunc .bad (fun g caps => Option.rec (motive := fun _ => VH) .bad (fun vs => callq g (List.append vs caps) h) (a tm l)) u) (g tm l)
/-- One operation. -/
def qOp (tb : Tab) (loc : List Nat) (op : Op) : QO :=
  match op with
  | .move x => qMove loc x
  | .assign x => qMove loc x
  | .pick c x y => qPick loc c x y
  | .alloc t => qAlloc tb t
  | .load t x => qLoad tb loc t x
  | .store t x y => qStore tb loc t x y
  | .nilCheck x => qNilCheck loc x
  | .binOp o t x y _ => qBinOp tb loc o t x y
  | .fieldAddr s x f => qFieldAddr tb loc s x f
  | .field s x f => qField tb loc s x f
  | .indexAddr t x i => qIndexAddr tb loc t x i
  | .index t x i => qIndex tb loc t x i
  | .extract x i => qExtract loc x i
  | .call ⟨.value f, args, _⟩ => qCallVal loc f args.toList
  | .call ⟨.builtin .len, args, ts⟩ => qLen tb loc args ts
  | op => match opsOf op with
    | some xs => qRare tb loc op xs
    | none => .q fun _ _ _ => none
end
end Go.Proofs.YtndhhgbpcmfeiaaGreatDoor.Ev
