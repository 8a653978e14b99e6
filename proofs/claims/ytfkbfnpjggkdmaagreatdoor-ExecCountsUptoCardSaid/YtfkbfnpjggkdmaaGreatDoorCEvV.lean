/- The quick evaluator, part 2b: more slots, the same values. -/
import Derived.Test.YtfkbfnpjggkdmaaGreatDoorCEqS
namespace Go.Proofs.YtfkbfnpjggkdmaaGreatDoor.Ev
open Go.RowKit
noncomputable section

def SubT (tm TM : T AV) : Prop := ∀ k v, tm.get k = some v -> TM.get k = some v
theorem z4 {tm TM : T AV} (h : SubT tm TM) {x : Operand} {v : AV} (e : aS tm x = some v) : aS TM x = some v := by
 cases x with
 | tmp t => exact h t v e
 | const c => exact e
 | func f => exact e
 | global g => exact e
theorem aT {tm TM : T AV} (h : SubT tm TM) (x : Operand) : aS tm x = none \/ aS TM x = aS tm x := by
 cases hx : aS tm x with
 | none => exact .inl rfl
 | some v => exact .inr (z4 h hx)
theorem i4 {tm TM : T AV} (h : SubT tm TM) : ∀ xs : List Operand, cC tm xs = none \/ cC TM xs = cC tm xs
 | [] => .inr rfl
 | x :: xs => by
  unfold cC
  rcases aT h x with e | e
  ·rw [e]; exact .inl rfl
  ·rw [e]
   rcases i4 h xs with e | e
   ·rw [e]; left; cases aS tm x <;> rfl
   ·rw [e]; exact .inr rfl
theorem gK {tm TM : T AV} (h : SubT tm TM) : ∀ xs : List (Nat × Operand), bK tm xs = none \/ bK TM xs = bK tm xs
 | [] => .inr rfl
 | (i, x) :: xs => by
  unfold bK
  rcases aT h x with e | e
  ·rw [e]; exact .inl rfl
  ·rw [e]
   rcases gK h xs with e | e
   ·rw [e]; left; cases aS tm x <;> rfl
   ·rw [e]; exact .inr rfl
theorem uX {tm TM : T AV} (h : SubT tm TM) (n : Nat) (lo hi : Option Operand) : cH tm n lo hi = none \/ cH TM n lo hi = cH tm n lo hi := by
 unfold cH
 cases hi with
 | none =>
  cases lo with
  | none => exact .inr rfl
  | some x =>
   rcases aT h x with e | e
   ·simp only [e]; exact .inl rfl
   ·simp only [e]; exact .inr trivial
 | some y =>
  rcases aT h y with e | e
  ·simp only [e]; exact .inl rfl
  ·simp only [e]
   cases lo with
   | none => exact .inr rfl
   | some x =>
    rcases aT h x with e | e
    ·left; simp only [e]; cases fj (aS tm y) <;> rfl
    ·simp only [e]; exact .inr trivial

def QOr (a b : Option AV) : Prop := a = none \/ b = a
theorem zF {tm TM : T AV} (h : SubT tm TM) (c x y : Operand) : QOr (gV tm c x y) (gV TM c x y) := by
 unfold gV
 rcases aT h c with e | e
 ·rw [e]; exact .inl rfl
 ·rw [e]
  cases aS tm c with
  | none => exact .inl rfl
  | some v =>
   cases v <;> try exact .inl rfl
   rename_i b
   cases b with
   | true => exact aT h x
   | false => exact aT h y
theorem zz {tb : Tab} {tm TM : T AV} (h : SubT tm TM) (objs : T AObj) (t : Nat) (x : Operand) : QOr (iK tb tm objs t x) (iK tb TM objs t x) := by
 unfold iK
 rcases aT h x with e | e <;> rw [e]
 ·exact .inl rfl
 ·exact .inr rfl
theorem qa {tm TM : T AV} (h : SubT tm TM) (x : Operand) : QOr (dT tm x) (dT TM x) := by
 unfold dT
 rcases aT h x with e | e <;> rw [e]
 ·exact .inl rfl
 ·exact .inr rfl
theorem zI {tm TM : T AV} (h : SubT tm TM) (op : UnOp) (x : Operand) : QOr (gW tm op x) (gW TM op x) := by
 unfold gW
 rcases aT h x with e | e <;> rw [e]
 ·left; cases op <;> rfl
 ·exact .inr rfl
theorem vi {tb : Tab} {tm TM : T AV} (h : SubT tm TM) (op : BinOp) (t : Nat) (x y : Operand) : QOr (ir tb tm op t x y) (ir tb TM op t x y) := by
 unfold ir
 cases mL y with
 | true =>
  simp only
  rcases aT h x with e | e <;> rw [e]
  ·exact .inl rfl
  ·exact .inr rfl
 | false =>
 simp only
 rcases aT h x with e | e <;> rw [e]
 ·exact .inl rfl
 ·rcases aT h y with e | e <;> rw [e]
  ·left; cases aS tm x <;> rfl
  ·exact .inr rfl
theorem vl {tb : Tab} {tm TM : T AV} (h : SubT tm TM) (t : Nat) (ps : Array (Nat × Operand)) : QOr (gH tb tm t ps) (gH tb TM t ps) := by
 unfold gH
 rcases gK h ps.toList with e | e <;> rw [e]
 ·left; repeat' (first | rfl | contradiction | split)
 ·exact .inr rfl
theorem p6 {tm TM : T AV} (h : SubT tm TM) (fn : Fn) (first captured : Array Operand) : QOr (c9 tm fn first captured) (c9 TM fn first captured) := by
 unfold c9
 rcases i4 h captured.toList with e | e <;> rw [e]
 ·left; cases fn <;> rcases first.toList with _ | ⟨y, _ | ⟨z, l⟩⟩ <;> rfl
 ·cases fn with
  | func f =>
   rcases first.toList with _ | ⟨y, _ | ⟨z, l⟩⟩
   ·cases cC tm captured.toList with
    | none => exact .inl rfl
    | some l => exact .inr rfl
   ·cases cC tm captured.toList with
    | none => exact .inl rfl
    | some l =>
     cases l with
     | cons a l => exact .inl rfl
     | nil =>
      rcases aT h y with e2 | e2 <;> simp only [e2]
      ·exact .inl rfl
      ·exact .inr rfl
   ·exact .inl rfl
  | _ => exact .inl rfl
theorem vz {tb : Tab} {tm TM : T AV} (h : SubT tm TM) (objs : T AObj) (t : Nat) (x : Operand) (lo hi mx : Option Operand) : QOr (eR tb tm objs t x lo hi mx) (eR tb TM objs t x lo hi mx) := by
 unfold eR
 rcases aT h x with e | e <;> rw [e]
 ·left
  cases mx <;> cases tb.und t <;> try rfl
  rename_i d
  cases d <;> rfl
 ·have hb := fun n => uX h n lo hi
  cases mx with
  | some m => exact .inl rfl
  | none =>
   cases tb.und t with
   | none => exact .inl rfl
   | some d =>
    cases aS tm x with
    | none => left; cases d <;> rfl
    | some v =>
     cases d <;> cases v <;> try exact .inl rfl
     case array.ptr len e b o =>
      cases o with
      | succ o => exact .inl rfl
      | zero =>
       simp only [jV]
       rcases hb len with g | g <;> rw [g]
       ·left; repeat' (first | rfl | contradiction | split)
       ·exact .inr rfl
     case slice.nils e =>
      simp only
      rcases hb 0 with g | g <;> rw [g]
      ·exact .inl rfl
      ·exact .inr rfl
     case slice.slice e b o n sz =>
      simp only [ii]
      rcases hb n with g | g <;> rw [g]
      ·left; repeat' (first | rfl | contradiction | split)
      ·exact .inr rfl
     case string.str s =>
      simp only [jW]
      rcases hb s.length with g | g <;> rw [g]
      ·exact .inl rfl
      ·exact .inr rfl
theorem oV {tb : Tab} {tm TM : T AV} (h : SubT tm TM) (s : Nat) (x : Operand) (f : Nat) : QOr (dq tb tm s x f) (dq tb TM s x f) := by
 unfold dq
 rcases aT h x with e | e <;> rw [e]
 ·left; cases dX (tb.und s) <;> rfl
 ·exact .inr rfl
theorem vp {tb : Tab} {tm TM : T AV} (h : SubT tm TM) (s : Nat) (x : Operand) (f : Nat) : QOr (jj tb tm s x f) (jj tb TM s x f) := by
 unfold jj
 rcases aT h x with e | e <;> rw [e]
 ·left; cases dX (tb.und s) <;> rfl
 ·exact .inr rfl
theorem oX {tb : Tab} {tm TM : T AV} (h : SubT tm TM) (t : Nat) (x y : Operand) : QOr (dr tb tm t x y) (dr tb TM t x y) := by
 unfold dr
 rcases aT h x with e | e <;> rw [e]
 ·left
  cases tb.und t <;> try rfl
  rename_i d
  cases d <;> rfl
 ·rcases aT h y with e | e <;> rw [e]
  ·left
   cases tb.und t <;> try rfl
   rename_i d
   cases d <;> cases aS tm x <;> try rfl
   all_goals
    rename_i v
    cases v <;> rfl
  ·exact .inr rfl
theorem vu {tb : Tab} {tm TM : T AV} (h : SubT tm TM) (t : Nat) (x y : Operand) : QOr (gI tb tm t x y) (gI tb TM t x y) := by
 unfold gI
 rcases aT h x with e | e <;> rw [e]
 ·left
  cases tb.und t <;> try rfl
  rename_i d
  cases d <;> rfl
 ·rcases aT h y with e | e <;> rw [e]
  ·left
   cases tb.und t <;> try rfl
   rename_i d
   cases d <;> cases aS tm x <;> try rfl
   all_goals
    rename_i v
    cases v <;> rfl
  ·exact .inr rfl
theorem rU {tm TM : T AV} (h : SubT tm TM) (x : Operand) (i : Nat) : QOr (eP tm x i) (eP TM x i) := by
 unfold eP
 rcases aT h x with e | e <;> rw [e]
 ·exact .inl rfl
 ·exact .inr rfl
theorem BD {tb : Tab} {tm TM : T AV} (h : SubT tm TM) (args : Array Operand) (ts : Array Nat) : QOr (lE tb tm args ts) (lE tb TM args ts) := by
 unfold lE
 cases ts.toList with
 | nil => exact .inl rfl
 | cons t ts =>
  cases args.toList with
  | nil => exact .inl rfl
  | cons x xs =>
   cases xs with
   | cons y ys => exact .inl rfl
   | nil =>
    simp only
    rcases aT h x with e | e <;> rw [e]
    ·left; cases tb.und t <;> rfl
    ·exact .inr rfl
theorem tK {tm TM : T AV} (h : SubT tm TM) (mx : Bool) (args : Array Operand) : QOr (dJ tm mx args) (dJ TM mx args) := by
 unfold dJ
 rcases i4 h args.toList with e | e <;> rw [e]
 ·exact .inl rfl
 ·exact .inr rfl

def LOr (a b : Option (AV × AHeap)) : Prop := a = none \/ b = a
theorem BB {tb : Tab} {tm TM : T AV} (h : SubT tm TM) (hp : AHeap) (t : Nat) (x : Operand) : LOr (lD tb tm hp t x) (lD tb TM hp t x) := by
 unfold lD
 rcases aT h x with e | e <;> rw [e]
 ·exact .inl rfl
 ·exact .inr rfl
theorem nG {tb : Tab} {tm TM : T AV} (h : SubT tm TM) (hp : AHeap) (t n : Nat) (ps : Array (Nat × Operand)) : LOr (cQ tb tm hp t n ps) (cQ tb TM hp t n ps) := by
 unfold cQ
 rcases gK h ps.toList with e | e <;> rw [e]
 ·left; repeat' (first | rfl | contradiction | split)
 ·exact .inr rfl
theorem oZ {tb : Tab} {tm TM : T AV} (h : SubT tm TM) (hp : AHeap) (t : Nat) (x y : Operand) : LOr (dt tb tm hp t x y) (dt tb TM hp t x y) := by
 unfold dt
 rcases aT h x with e | e <;> rw [e]
 ·left
  cases tb.und t <;> try rfl
  rename_i d
  cases d <;> rfl
 ·rcases aT h y with e | e <;> rw [e]
  ·left
   cases tb.und t <;> try rfl
   rename_i d
   cases d <;> cases fj (aS tm x) <;> rfl
  ·exact .inr rfl
theorem vB {tb : Tab} {tm TM : T AV} (h : SubT tm TM) (hp : AHeap) (t : Nat) (x y : Operand) : LOr (dw tb tm hp t x y) (dw tb TM hp t x y) := by
 unfold dw
 rcases aT h x with e | e <;> rw [e]
 ·exact .inl rfl
 ·rcases aT h y with e | e <;> rw [e]
  ·left
   cases aS tm x <;> try rfl
   rename_i v
   cases v <;> rfl
  ·exact .inr rfl
theorem tF {tb : Tab} {tm TM : T AV} (h : SubT tm TM) (hp : AHeap) (args : Array Operand) (ts : Array Nat) : LOr (cq tb tm hp args ts) (cq tb TM hp args ts) := by
 unfold cq
 rcases i4 h args.toList with e | e <;> rw [e]
 ·left
  cases ts.toList with
  | nil => rfl
  | cons t l => cases l <;> rfl
 ·exact .inr rfl
theorem zj {tb : Tab} {tm TM : T AV} (h : SubT tm TM) (hp : AHeap) (args : Array Operand) (ts : Array Nat) : LOr (jI tb tm hp args ts) (jI tb TM hp args ts) := by
 unfold jI
 rcases i4 h args.toList with e | e <;> rw [e]
 ·left
  cases ts.toList <;> rfl
 ·exact .inr rfl

theorem tJ {tb : Tab} {tm TM : T AV} (h : SubT tm TM) (objs : T AObj) (t : Nat) (x i : Operand) (ok : Bool) : QOr (eG tb tm objs t x i ok) (eG tb TM objs t x i ok) := by
 unfold eG
 cases bO (tb.und t) with
 | none => exact .inl rfl
 | some p =>
  rcases aT h x with e | e <;> rw [e]
  ·exact .inl rfl
  ·rcases aT h i with e | e <;> rw [e]
   ·left; cases aS tm x <;> rfl
   ·exact .inr rfl
theorem rZ {tb : Tab} {tm TM : T AV} (h : SubT tm TM) (hp : AHeap) (t : Nat) (r : Option Operand) : LOr (dI tb tm hp t r) (dI tb TM hp t r) := by
 unfold dI
 cases bO (tb.und t) with
 | none => exact .inl rfl
 | some p =>
  cases r with
  | none => exact .inr rfl
  | some x =>
   rcases aT h x with e | e <;> simp only [e]
   ·exact .inl rfl
   ·exact .inr rfl
theorem o4 {tb : Tab} {tm TM : T AV} (h : SubT tm TM) (hp : AHeap) (t : Nat) (x k v : Operand) : LOr (du tb tm hp t x k v) (du tb TM hp t x k v) := by
 unfold du
 cases bO (tb.und t) with
 | none => exact .inl rfl
 | some p =>
  rcases aT h x with e | e <;> rw [e]
  ·exact .inl rfl
  ·rcases aT h k with e | e <;> rw [e]
   ·left
    cases aS tm x with
    | none => rfl
    | some u => cases u <;> rfl
   ·rcases aT h v with e | e <;> rw [e]
    ·left
     cases aS tm x with
     | none => rfl
     | some u => cases u <;> (cases aS tm k <;> rfl)
    ·exact .inr rfl
theorem p8 {tb : Tab} {tm TM : T AV} (h : SubT tm TM) (hp : AHeap) (t : Nat) (x k : Operand) : LOr (da tb tm hp t x k) (da tb TM hp t x k) := by
 unfold da
 cases bO (tb.und t) with
 | none => exact .inl rfl
 | some p =>
  rcases aT h x with e | e <;> rw [e]
  ·exact .inl rfl
  ·rcases aT h k with e | e <;> rw [e]
   ·left
    cases aS tm x with
    | none => rfl
    | some u => cases u <;> rfl
   ·exact .inr rfl
theorem nI {tm TM : T AV} (h : SubT tm TM) (hp : AHeap) (x s v : Operand) : LOr (cU tm hp x s v) (cU TM hp x s v) := by
 unfold cU
 rcases aT h x with e | e <;> rw [e]
 ·exact .inl rfl
 ·rcases aT h s with e | e <;> rw [e]
  ·left
   cases aS tm x with
   | none => rfl
   | some u => cases u <;> rfl
  ·rcases aT h v with e | e <;> rw [e]
   ·left
    cases aS tm x with
    | none => rfl
    | some u =>
     cases u <;> try rfl
     cases aS tm s with
     | none => rfl
     | some y => cases y <;> rfl
   ·exact .inr rfl

inductive ROr (a b : Res) : Prop where
 | nq (h : a = .q none)
 | nl (h : a = .l none)
 | same (h : b = a)
theorem QOr.res {a b : Option AV} (h : QOr a b) : ROr (.q a) (.q b) := by
 rcases h with h | h
 ·exact .nq (by rw [h])
 ·exact .same (by rw [h])
theorem LOr.res {a b : Option (AV × AHeap)} (h : LOr a b) : ROr (.l a) (.l b) := by
 rcases h with h | h
 ·exact .nl (by rw [h])
 ·exact .same (by rw [h])
theorem rR {tb : Tab} {tm TM : T AV} (h : SubT tm TM) (hp : AHeap) (s d : Nat) (x : Operand) : ROr (ec tb tm hp s d x) (ec tb TM hp s d x) := by
 unfold ec
 rcases aT h x with e | e <;> rw [e]
 ·have : ∀ (a b : Option TypeDesc), (match a, b, (none : Option AV) with
   | _, _, none => (0 : Nat)
   | _, _, _ => 1) = 0 := fun a b => rfl
  refine .nq ?_
  repeat' (first | rfl | contradiction | split)
 ·exact .same rfl

def vM : Op -> Bool
 | .call c => match c.callee with
  | .value _ => false
  | _ => true
 | _ => true
theorem wR {tb : Tab} {tm TM : T AV} (h : SubT tm TM) (hp : AHeap) {op : Op} (hn : vM op = true) (call call' : il) : ROr (cO tb call tm hp op) (cO tb call' TM hp op) := by
 cases op <;> first
  | exact .nq rfl
  | exact QOr.res (aT h _)
  | exact QOr.res (zF h _ _ _)
  | exact .same rfl
  | exact LOr.res (BB h _ _ _)
  | exact QOr.res (vl h _ _)
  | exact LOr.res (nG h _ _ _ _)
  | exact QOr.res (zz h _ _ _)
  | exact LOr.res (vB h _ _ _ _)
  | exact QOr.res (qa h _)
  | exact QOr.res (vi h _ _ _ _)
  | exact QOr.res (zI h _ _)
  | exact rR h _ _ _ _
  | exact QOr.res (p6 h _ _ _)
  | exact LOr.res (oZ h _ _ _ _)
  | exact QOr.res (vz h _ _ _ _ _ _)
  | exact QOr.res (oV h _ _ _)
  | exact QOr.res (vp h _ _ _)
  | exact QOr.res (oX h _ _ _)
  | exact QOr.res (vu h _ _ _)
  | exact QOr.res (rU h _ _)
  | exact QOr.res (tJ h _ _ _ _ _)
  | exact LOr.res (rZ h _ _ _)
  | exact LOr.res (o4 h _ _ _ _ _)
  | exact LOr.res (p8 h _ _ _ _)
  | exact LOr.res (nI h _ _ _ _)
  | skip
 rename_i c
 obtain ⟨callee, args, ts⟩ := c
 cases callee with
 | value f => cases hn
 | invoke r m => exact .nq rfl
 | builtin b => cases b <;> first
  | exact .nq rfl
  | exact QOr.res (BD h _ _)
  | exact QOr.res (tK h _ _)
  | exact LOr.res (tF h _ _ _)
  | exact LOr.res (zj h _ _ _)

def aD (callq : iQ) : il := fun f a h => match callq f a h with
 | .ok v h' => some (v, h')
 | .bad => none
theorem mq {tb : Tab} {tm TM : T AV} (h : SubT tm TM) {hp : AHeap} {op : Op} {call call' : il} {v : AV} (e : cO tb call tm hp op = .q (some v)) : cO tb call' TM hp op = .q (some v) := by
 cases hn : vM op with
 | true =>
  rcases wR h hp hn call call' with g | g | g
  ·rw [g] at e; cases e
  ·rw [g] at e; cases e
  ·rw [g]; exact e
 | false =>
  cases op <;> try (cases hn; done)
  rename_i c
  obtain ⟨callee, args, ts⟩ := c
  cases callee with
  | value f => cases e
  | invoke r m => cases hn
  | builtin b => cases hn
theorem Gm {tb : Tab} {tm TM : T AV} (h : SubT tm TM) {hp : AHeap} {op : Op} {callq : iQ} (hc : gD tb callq) {v : AV} {h' : AHeap} (e : cO tb (aD callq) tm hp op = .l (some (v, h'))) :
  Evt fun K => cO tb (bQ tb (run tb K)) TM hp op = .l (some (v, h')) := by
 cases hn : vM op with
 | true =>
  refine Evt.of fun K => ?_
  rcases wR h hp hn (aD callq) (bQ tb (run tb K)) with g | g | g
  ·rw [g] at e; cases e
  ·rw [g] at e; cases e
  ·rw [g]; exact e
 | false =>
  cases op <;> try (cases hn; done)
  rename_i c
  obtain ⟨callee, args, ts⟩ := c
  cases callee with
  | invoke r m => cases hn
  | builtin b => cases hn
  | value f =>
   have e : Res.l (bT tm hp (aD callq) f args) = .l (some (v, h')) := e
   simp only [Res.l.injEq] at e
   unfold bT at e
   rcases aT h f with g | g
   ·rw [g] at e; cases e
   rcases i4 h args.toList with g2 | g2
   ·rw [g2] at e
    revert e
    cases aS tm f with
    | none => intro e; cases e
    | some u => cases u <;> (intro e; cases e)
   ·cases hf : aS tm f with
    | none => rw [hf] at e; cases e
    | some u =>
     cases u <;> try (rw [hf] at e; cases e; done)
     rename_i gg caps
     cases ha : cC tm args.toList with
     | none => rw [hf, ha] at e; cases e
     | some l =>
      rw [hf, ha] at e
      simp only at e
      have fin : ∀ la, aD callq gg la hp = some (v, h') -> Evt fun K => bQ tb (run tb K) gg la hp = some (v, h') := by
       intro la e
       unfold aD at e
       cases hr : callq gg la hp with
       | bad => rw [hr] at e; cases e
       | ok x g' =>
        rw [hr] at e
        simp only [Option.some.injEq, Prod.mk.injEq] at e
        obtain ⟨rfl, rfl⟩ := e
        exact hc _ _ _ _ _ hr
      cases hm : fM caps with
      | none =>
       rw [hm] at e
       refine (fin _ e).mono fun K hK => ?_
       simp only [cO, gq, bT, g, g2, hf, ha, hm]
       exact congrArg Res.l hK
      | some x =>
       rw [hm] at e
       refine (fin _ e).mono fun K hK => ?_
       simp only [cO, gq, bT, g, g2, hf, ha, hm]
       exact congrArg Res.l hK
theorem ny {tm TM : T AV} (h : SubT tm TM) {ops : List Oper} {o : Oper} {b : Bool} (e : aK ops tm o = some b) : aK ops TM o = some b := by
 unfold aK at e ⊢
 cases hg : o.guard with
 | none => rw [hg] at e; exact e
 | some p =>
  obtain ⟨j, want⟩ := p
  rw [hg] at e
  simp only at e ⊢
  cases hj : ops[j]? with
  | none => rw [hj] at e; cases e
  | some oj =>
   rw [hj] at e
   simp only at e ⊢
   cases hd : oj.dst with
   | none => rw [hd] at e; cases e
   | some d =>
    rw [hd] at e
    simp only at e ⊢
    cases ht : tm.get d with
    | none => rw [ht] at e; cases e
    | some v =>
     rw [ht] at e
     rw [h d v ht]
     exact e
theorem oT {tb : Tab} {tm TM : T AV} (h : SubT tm TM) {ops : List Oper} {o : Oper} {hp : AHeap} {callq : iQ} (hc : gD tb callq) {v : AV} {h' : AHeap} {k : Nat} (e : fT tb (aD callq) ops tm hp o = some (v, h', k)) :
  Evt fun K => fT tb (bQ tb (run tb K)) ops TM hp o = some (v, h', k) := by
 unfold fT at e
 cases hw : aK ops tm o with
 | none => rw [hw] at e; cases e
 | some b =>
  rw [hw] at e
  have hW := ny h hw
  cases b with
  | false => exact Evt.of fun K => by unfold fT; rw [hW]; exact e
  | true =>
   simp only at e
   cases ho : cO tb (aD callq) tm hp o.op with
   | q x =>
    rw [ho] at e
    cases x with
    | none => cases e
    | some u =>
     refine Evt.of fun K => ?_
     unfold fT
     rw [hW]
     simp only
     rw [mq h ho]
     exact e
   | l x =>
    rw [ho] at e
    cases x with
    | none => cases e
    | some p =>
     obtain ⟨u, g⟩ := p
     refine (Gm h hc ho).mono fun K hK => ?_
     unfold fT
     rw [hW]
     simp only
     rw [hK]
     exact e
theorem SubT.set {tm TM : T AV} (h : SubT tm TM) (d : Nat) (v : AV) : SubT (tm.set d v) (TM.set d v) := by
 intro k u hk
 rw [az] at hk ⊢
 split at hk
 ·rename_i e
  rw [if_pos e]
  exact hk
 ·rename_i e
  rw [if_neg e]
  exact h k u hk
theorem jT {tm TM : T AV} (h : SubT tm TM) {n : Nat} {d : Option Nat} {v : AV} {tm' : T AV} (e : bE tm n d v = some tm') : ∃ TM', bE TM n d v = some TM' /\ SubT tm' TM' := by
 unfold bE at e ⊢
 cases d with
 | none =>
  simp only [Option.some.injEq] at e
  subst e
  exact ⟨TM, rfl, h⟩
 | some d =>
  simp only at e ⊢
  cases hb : Nat.blt d n with
  | false => rw [hb] at e; cases e
  | true =>
   rw [hb] at e
   simp only [Option.some.injEq] at e
   subst e
   exact ⟨_, rfl, h.set d v⟩
def JN (a b : Ent) : Prop := a.i = b.i /\ a.o = b.o /\ SubT a.tm b.tm /\ a.v = b.v /\ a.kind = b.kind
def EntsR : List Ent -> List Ent -> Prop
 | [], [] => True
 | a :: l, b :: m => JN a b /\ EntsR l m
 | _, _ => False
theorem lF {tb : Tab} {n : Nat} {ops : List Oper} {callq : iQ} (hc : gD tb callq) : ∀ {rest : List Oper} {i : Nat} {tm TM tm' : T AV} {h h' : AHeap} {es : List Ent} {ms : List (Nat × AHeap)}, SubT tm TM ->
  bh tb (aD callq) n ops i rest tm h = some (es, ms, tm', h') -> ∃ es' TM', SubT tm' TM' /\ EntsR es es' /\ Evt fun K => bh tb (bQ tb (run tb K)) n ops i rest TM h = some (es', ms, TM', h')
 | [], i, tm, TM, tm', h, h', es, ms, hs, e => by
  unfold bh at e
  simp only [Option.some.injEq, Prod.mk.injEq] at e
  obtain ⟨rfl, rfl, rfl, rfl⟩ := e
  exact ⟨[], TM, hs, trivial, Evt.of fun K => rfl⟩
 | o :: rest, i, tm, TM, tm', h, h', es, ms, hs, e => by
  unfold bh at e
  cases h1 : fT tb (aD callq) ops tm h o with
  | none => rw [h1] at e; cases e
  | some p =>
   obtain ⟨v, g, k⟩ := p
   rw [h1] at e
   simp only at e
   cases hp : bE tm n o.dst v with
   | none => rw [hp] at e; cases e
   | some tm1 =>
    rw [hp] at e
    simp only at e
    obtain ⟨TM1, hP, hs1⟩ := jT hs hp
    cases ht : bh tb (aD callq) n ops (i + 1) rest tm1 g with
    | none => rw [ht] at e; cases e
    | some q =>
     obtain ⟨es1, ms1, tm2, g2⟩ := q
     rw [ht] at e
     simp only [Option.some.injEq, Prod.mk.injEq] at e
     obtain ⟨rfl, rfl, rfl, rfl⟩ := e
     obtain ⟨es', TM', hs', hes, hE⟩ := lF hc hs1 ht
     refine ⟨⟨i, o, TM, v, k⟩ :: es', TM', hs', ⟨⟨rfl, rfl, hs, rfl, rfl⟩, hes⟩, ((oT hs hc h1).and hE).mono fun K ⟨a, b⟩ => ?_⟩
     unfold bh
     simp only [a, hP, b]
theorem EntsR.all {tb : Tab} {b : List Nat} {louds : List Nat} {marks : List (Nat × AHeap)} : ∀ {es es' : List Ent}, EntsR es es' -> es.all (iq tb b louds marks) = true -> es'.all (iq tb b louds marks) = true
 | [], [], _, _ => rfl
 | a :: l, c :: m, ⟨⟨h1, h2, h3, h4, h5⟩, hr⟩, e => by
  simp only [List.all_cons, Bool.and_eq_true] at e ⊢
  refine ⟨?_, EntsR.all hr e.2⟩
  have e := e.1
  unfold iq at e ⊢
  rw [<- h5, <- h1]
  split at e
  ·exact e
  ·simp only [List.all_eq_true] at e ⊢
   intro x hx
   have := e x hx
   simp only [Bool.or_eq_true] at this ⊢
   rcases this with g | g
   ·exact .inl g
   ·right
    unfold kQ at g ⊢
    rw [<- h2, <- h4]
    revert g
    cases ho : cO tb (fun _ _ _ => none) a.tm x.2 a.o.op with
    | l r => intro g; cases g
    | q r =>
     cases r with
     | none => intro g; cases g
     | some v =>
      intro g
      rw [mq h3 ho]
      exact g
  ·rfl
 | [], _ :: _, h, _ => h.elim
 | _ :: _, [], h, _ => h.elim
theorem EntsR.louds : ∀ {es es' : List Ent}, EntsR es es' -> (es.filterMap fun e => if e.kind = 2 then some e.i else none) = (es'.filterMap fun e => if e.kind = 2 then some e.i else none)
 | [], [], _ => rfl
 | a :: l, c :: m, ⟨⟨h1, h2, h3, h4, h5⟩, hr⟩ => by
  simp only [List.filterMap_cons, h1, h5, EntsR.louds hr]
 | [], _ :: _, h => h.elim
 | _ :: _, [], h => h.elim
theorem jk {tb : Tab} {n : Nat} {ops : List Oper} {callq : iQ} (hc : gD tb callq) : ∀ {rest : List Oper} {tm TM tm' : T AV} {h h' : AHeap}, SubT tm TM ->
  db tb (aD callq) n ops rest tm h = some (tm', h') -> ∃ TM', SubT tm' TM' /\ Evt fun K => db tb (bQ tb (run tb K)) n ops rest TM h = some (TM', h')
 | [], tm, TM, tm', h, h', hs, e => by
  unfold db at e
  simp only [Option.some.injEq, Prod.mk.injEq] at e
  obtain ⟨rfl, rfl⟩ := e
  exact ⟨TM, hs, Evt.of fun K => rfl⟩
 | o :: rest, tm, TM, tm', h, h', hs, e => by
  unfold db at e
  cases h1 : fT tb (aD callq) ops tm h o with
  | none => rw [h1] at e; cases e
  | some p =>
   obtain ⟨v, g, k⟩ := p
   rw [h1] at e
   simp only at e
   cases hp : bE tm n o.dst v with
   | none => rw [hp] at e; cases e
   | some tm1 =>
    rw [hp] at e
    simp only at e
    obtain ⟨TM1, hP, hs1⟩ := jT hs hp
    obtain ⟨TM', hs', hE⟩ := jk hc hs1 e
    refine ⟨TM', hs', ((oT hs hc h1).and hE).mono fun K ⟨a, b⟩ => ?_⟩
    unfold db
    simp only [a, hP, b]
theorem Cl {tb : Tab} {tm TM : T AV} (h : SubT tm TM) {op : Op} {r : AObj × (Nat -> AV)} (e : vI tb tm op = some r) : vI tb TM op = some r := by
 unfold vI at e ⊢
 cases op <;> try exact e
 case box t x =>
  simp only at e ⊢
  rcases aT h x with g | g
  ·rw [g] at e; cases e
  ·rw [g]; exact e
 case buildSlice t n ps =>
  simp only at e ⊢
  rcases gK h ps.toList with g | g
  ·exfalso
   rw [g] at e
   split at e
   ·split at e
    ·rename_i hx
     cases hx
    ·cases e
   ·cases e
  ·rw [g]; exact e
theorem zh {tb : Tab} {tm TM : T AV} (h : SubT tm TM) {ops : List Oper} {num : Nat} {o : Oper} {hp : AHeap} {callq : iQ} (hc : gD tb callq) {v : AV} {h' : AHeap} {k : Nat} (e : gG tb (aD callq) ops num tm hp o = some (v, h', k)) :
  Evt fun K => gG tb (bQ tb (run tb K)) ops num TM hp o = some (v, h', k) := by
 unfold gG at e
 cases hm : df o.op with
 | false =>
  rw [hm] at e
  refine (oT h hc e).mono fun K hK => ?_
  unfold gG
  rw [hm]
  exact hK
 | true =>
  rw [hm] at e
  refine Evt.of fun K => ?_
  unfold gG
  rw [hm]
  simp only at e ⊢
  cases hw : aK ops tm o with
  | none => rw [hw] at e; cases e
  | some b =>
   rw [hw] at e
   rw [ny h hw]
   cases b with
   | false => exact e
   | true =>
    simp only at e ⊢
    cases hk : vI tb tm o.op with
    | none => rw [hk] at e; cases e
    | some r => rw [hk] at e; rw [Cl h hk]; exact e
theorem kz {tb : Tab} {n : Nat} {ops : List Oper} {base : Nat} {callq : iQ} (hc : gD tb callq) : ∀ {rest : List Oper} {i : Nat} {tm TM tm' : T AV} {h h' : AHeap} {es : List Ent} {ms : List (Nat × AHeap)}, SubT tm TM ->
  bw tb (aD callq) n ops base i rest tm h = some (es, ms, tm', h') -> ∃ es' TM', SubT tm' TM' /\ EntsR es es' /\ Evt fun K => bw tb (bQ tb (run tb K)) n ops base i rest TM h = some (es', ms, TM', h')
 | [], i, tm, TM, tm', h, h', es, ms, hs, e => by
  unfold bw at e
  simp only [Option.some.injEq, Prod.mk.injEq] at e
  obtain ⟨rfl, rfl, rfl, rfl⟩ := e
  exact ⟨[], TM, hs, trivial, Evt.of fun K => rfl⟩
 | o :: rest, i, tm, TM, tm', h, h', es, ms, hs, e => by
  unfold bw at e
  cases h1 : gG tb (aD callq) ops (base + i) tm h o with
  | none => rw [h1] at e; cases e
  | some p =>
   obtain ⟨v, g, k⟩ := p
   rw [h1] at e
   simp only at e
   cases hp : bE tm n o.dst v with
   | none => rw [hp] at e; cases e
   | some tm1 =>
    rw [hp] at e
    simp only at e
    obtain ⟨TM1, hP, hs1⟩ := jT hs hp
    cases ht : bw tb (aD callq) n ops base (i + 1) rest tm1 g with
    | none => rw [ht] at e; cases e
    | some q =>
     obtain ⟨es1, ms1, tm2, g2⟩ := q
     rw [ht] at e
     simp only [Option.some.injEq, Prod.mk.injEq] at e
     obtain ⟨rfl, rfl, rfl, rfl⟩ := e
     obtain ⟨es', TM', hs', hes, hE⟩ := kz hc hs1 ht
     refine ⟨⟨i, o, TM, v, k⟩ :: es', TM', hs', ⟨⟨rfl, rfl, hs, rfl, rfl⟩, hes⟩, ((zh hs hc h1).and hE).mono fun K ⟨a, b⟩ => ?_⟩
     unfold bw
     simp only [a, hP, b]
theorem EntsR.kinds (k : Nat) : ∀ {es es' : List Ent}, EntsR es es' -> fp k es = fp k es'
 | [], [], _ => rfl
 | a :: l, c :: m, ⟨⟨h1, h2, h3, h4, h5⟩, hr⟩ => by
  have ih := EntsR.kinds k hr
  unfold fp at ih ⊢
  simp only [List.filterMap_cons, <- h5, <- h1, ih]
 | [], _ :: _, h => h.elim
 | _ :: _, [], h => h.elim
theorem EntsR.allF {tb : Tab} {bt : Nat -> Nat -> Bool} {hards makers : List Nat} {marks : List (Nat × AHeap)} : ∀ {es es' : List Ent}, EntsR es es' -> es.all (tQ tb bt hards makers marks) = true -> es'.all (tQ tb bt hards makers marks) = true
 | [], [], _, _ => rfl
 | a :: l, c :: m, ⟨⟨h1, h2, h3, h4, h5⟩, hr⟩, e => by
  simp only [List.all_cons, Bool.and_eq_true] at e ⊢
  refine ⟨?_, EntsR.allF hr e.2⟩
  have e := e.1
  unfold tQ at e ⊢
  rw [<- h5, <- h1]
  split at e
  ·exact e
  ·simp only [List.all_eq_true] at e ⊢
   intro x hx
   have := e x hx
   simp only [Bool.or_eq_true] at this ⊢
   rcases this with g | g
   ·exact .inl g
   ·right
    unfold kQ at g ⊢
    rw [<- h2, <- h4]
    revert g
    cases ho : cO tb (fun _ _ _ => none) a.tm x.2 a.o.op with
    | l r => intro g; cases g
    | q r =>
     cases r with
     | none => intro g; cases g
     | some v =>
      intro g
      rw [mq h3 ho]
      exact g
  ·rfl
 | [], _ :: _, h, _ => h.elim
 | _ :: _, [], h, _ => h.elim
theorem rW {tb : Tab} {n : Nat} {ops : List Oper} {callq : iQ} (hc : gD tb callq) {tm TM tm' : T AV} {h h' : AHeap} (hs : SubT tm TM) (e : eQ tb (aD callq) n ops tm h = some (tm', h')) :
  ∃ TM', SubT tm' TM' /\ Evt fun K => eQ tb (bQ tb (run tb K)) n ops TM h = some (TM', h') := by
 unfold eQ at e
 cases ho : ug (ay ops []) ops.length (cm ops) with
 | false => rw [ho] at e; cases e
 | true =>
  rw [ho] at e
  simp only at e
  cases ht : bw tb (aD callq) n ops h.next 0 ((cm ops).filterMap fun i => ops[i]?) tm ⟨h.next + ops.length, h.objs⟩ with
  | none => rw [ht] at e; cases e
  | some p =>
   obtain ⟨es, ms, tm1, h1⟩ := p
   rw [ht] at e
   simp only at e
   obtain ⟨es', TM', hs', hes, hE⟩ := kz hc hs ht
   split at e
   ·rename_i hall
    simp only [Option.some.injEq, Prod.mk.injEq] at e
    obtain ⟨rfl, rfl⟩ := e
    rw [hes.kinds 2, hes.kinds 3] at hall
    have hall := hes.allF hall
    exact ⟨TM', hs', hE.mono fun K hK => by unfold eQ; simp only [ho, hK, hall]⟩
   ·cases e
theorem iu {tb : Tab} {n : Nat} {ops : List Oper} {callq : iQ} (hc : gD tb callq) {tm TM tm' : T AV} {h h' : AHeap} (hs : SubT tm TM) (e : c7 tb (aD callq) n ops tm h = some (tm', h')) :
  ∃ TM', SubT tm' TM' /\ Evt fun K => c7 tb (bQ tb (run tb K)) n ops TM h = some (TM', h') := by
 unfold c7 at e
 cases hD : gz ops with
 | false => rw [hD] at e; cases e
 | true =>
  rw [hD] at e
  simp only at e
  cases hF : fh ops with
  | true =>
   rw [hF] at e
   obtain ⟨TM', hs', hE⟩ := jk hc hs e
   exact ⟨TM', hs', hE.mono fun K hK => by unfold c7; simp only [hD, hF, hK]⟩
  | false =>
   rw [hF] at e
   simp only at e
   cases hW : fA ops with
   | true =>
    rw [hW] at e
    obtain ⟨TM', g1, g2⟩ := rW hc hs e
    exact ⟨TM', g1, g2.mono fun K hK => by unfold c7; simp only [hD, hF, hW, hK]⟩
   | false =>
   rw [hW] at e
   simp only at e
   cases ht : bh tb (aD callq) n ops 0 ops tm h with
   | none => rw [ht] at e; cases e
   | some p =>
    obtain ⟨es, ms, tm1, h1⟩ := p
    rw [ht] at e
    simp only at e
    obtain ⟨es', TM', hs', hes, hE⟩ := lF hc hs ht
    have hl := hes.louds
    cases ms with
    | nil =>
     simp only [Option.some.injEq, Prod.mk.injEq] at e
     obtain ⟨rfl, rfl⟩ := e
     exact ⟨TM', hs', hE.mono fun K hK => by unfold c7; simp only [hD, hF, hW, hK]⟩
    | cons m ms =>
     simp only at e
     split at e
     ·rename_i hall
      simp only [Option.some.injEq, Prod.mk.injEq] at e
      obtain ⟨rfl, rfl⟩ := e
      rw [hl] at hall
      have hall := hes.all hall
      exact ⟨TM', hs', hE.mono fun K hK => by unfold c7; simp only [hD, hF, hW, hK, hall]⟩
     ·cases e

def Keys (esc : Nat) (tm : T AV) : Prop := ∀ k v, tm.get k = some v -> Nat.testBit esc k = true
theorem Keys.put {esc : Nat} {tm tm' : T AV} (h : Keys esc tm) {n : Nat} {d : Option Nat} {v : AV} (hd : ∀ k, d = some k -> Nat.testBit esc k = true) (e : bE tm n d v = some tm') : Keys esc tm' := by
 unfold bE at e
 cases d with
 | none =>
  simp only [Option.some.injEq] at e
  subst e
  exact h
 | some d =>
  simp only at e
  cases hb : Nat.blt d n with
  | false => rw [hb] at e; cases e
  | true =>
   rw [hb] at e
   simp only [Option.some.injEq] at e
   subst e
   intro k u hk
   rw [az] at hk
   split at hk
   ·rename_i e
    subst e
    exact hd _ rfl
   ·exact h k u hk
end
end Go.Proofs.YtfkbfnpjggkdmaaGreatDoor.Ev
