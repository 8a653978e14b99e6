/- The quick evaluator, part 2b: more slots, the same values. -/
import Derived.Test.YtndhhgbpcmfeiaaGreatDoorPEvR
namespace Go.Proofs.YtndhhgbpcmfeiaaGreatDoor.Ev
open Go.RowKit
noncomputable section

def SubT (tm TM : T AV) : Prop := ∀ k v, tm.get k = some v -> TM.get k = some v
theorem uu {tm TM : T AV} (h : SubT tm TM) {x : Operand} {v : AV} (e : aH tm x = some v) : aH TM x = some v := by
 cases x with
 | tmp t => exact h t v e
 | const c => exact e
 | func f => exact e
 | global g => exact e
theorem aA {tm TM : T AV} (h : SubT tm TM) (x : Operand) : aH tm x = none \/ aH TM x = aH tm x := by
 cases hx : aH tm x with
 | none => exact .inl rfl
 | some v => exact .inr (uu h hx)
theorem gK {tm TM : T AV} (h : SubT tm TM) : ∀ xs : List Operand, cx tm xs = none \/ cx TM xs = cx tm xs
 | [] => .inr rfl
 | x :: xs => by
  unfold cx
  rcases aA h x with e | e
  ·rw [e]; exact .inl rfl
  ·rw [e]
   rcases gK h xs with e | e
   ·rw [e]; left; cases aH tm x <;> rfl
   ·rw [e]; exact .inr rfl
theorem fw {tm TM : T AV} (h : SubT tm TM) : ∀ xs : List (Nat × Operand), bD tm xs = none \/ bD TM xs = bD tm xs
 | [] => .inr rfl
 | (i, x) :: xs => by
  unfold bD
  rcases aA h x with e | e
  ·rw [e]; exact .inl rfl
  ·rw [e]
   rcases fw h xs with e | e
   ·rw [e]; left; cases aH tm x <;> rfl
   ·rw [e]; exact .inr rfl
theorem rx {tm TM : T AV} (h : SubT tm TM) (n : Nat) (lo hi : Option Operand) : cZ tm n lo hi = none \/ cZ TM n lo hi = cZ tm n lo hi := by
 unfold cZ
 cases hi with
 | none =>
  cases lo with
  | none => exact .inr rfl
  | some x =>
   rcases aA h x with e | e
   ·simp only [e]; exact .inl rfl
   ·simp only [e]; exact .inr trivial
 | some y =>
  rcases aA h y with e | e
  ·simp only [e]; exact .inl rfl
  ·simp only [e]
   cases lo with
   | none => exact .inr rfl
   | some x =>
    rcases aA h x with e | e
    ·left; simp only [e]; cases fG (aH tm y) <;> rfl
    ·simp only [e]; exact .inr trivial

def QOr (a b : Option AV) : Prop := a = none \/ b = a
theorem ub {tm TM : T AV} (h : SubT tm TM) (c x y : Operand) : QOr (fC tm c x y) (fC TM c x y) := by
 unfold fC
 rcases aA h c with e | e
 ·rw [e]; exact .inl rfl
 ·rw [e]
  cases aH tm c with
  | none => exact .inl rfl
  | some v =>
   cases v <;> try exact .inl rfl
   rename_i b
   cases b with
   | true => exact aA h x
   | false => exact aA h y
theorem t7 {tb : Tab} {tm TM : T AV} (h : SubT tm TM) (objs : T AObj) (t : Nat) (x : Operand) : QOr (gu tb tm objs t x) (gu tb TM objs t x) := by
 unfold gu
 rcases aA h x with e | e <;> rw [e]
 ·exact .inl rfl
 ·exact .inr rfl
theorem nv {tm TM : T AV} (h : SubT tm TM) (x : Operand) : QOr (dU tm x) (dU TM x) := by
 unfold dU
 rcases aA h x with e | e <;> rw [e]
 ·exact .inl rfl
 ·exact .inr rfl
theorem ud {tm TM : T AV} (h : SubT tm TM) (op : UnOp) (x : Operand) : QOr (fD tm op x) (fD TM op x) := by
 unfold fD
 rcases aA h x with e | e <;> rw [e]
 ·left; cases op <;> rfl
 ·exact .inr rfl
theorem rD {tb : Tab} {tm TM : T AV} (h : SubT tm TM) (op : BinOp) (t : Nat) (x y : Operand) : QOr (fX tb tm op t x y) (fX tb TM op t x y) := by
 unfold fX
 cases kM y with
 | true =>
  simp only
  rcases aA h x with e | e <;> rw [e]
  ·exact .inl rfl
  ·exact .inr rfl
 | false =>
 simp only
 rcases aA h x with e | e <;> rw [e]
 ·exact .inl rfl
 ·rcases aA h y with e | e <;> rw [e]
  ·left; cases aH tm x <;> rfl
  ·exact .inr rfl
theorem rF {tb : Tab} {tm TM : T AV} (h : SubT tm TM) (t : Nat) (ps : Array (Nat × Operand)) : QOr (fu tb tm t ps) (fu tb TM t ps) := by
 unfold fu
 rcases fw h ps.toList with e | e <;> rw [e]
 ·left; repeat' (first | rfl | contradiction | split)
 ·exact .inr rfl
theorem np {tm TM : T AV} (h : SubT tm TM) (fn : Fn) (first captured : Array Operand) : QOr (de tm fn first captured) (de TM fn first captured) := by
 unfold de
 rcases gK h captured.toList with e | e <;> rw [e]
 ·left; cases fn <;> cases first.toList <;> rfl
 ·exact .inr rfl
theorem rM {tb : Tab} {tm TM : T AV} (h : SubT tm TM) (objs : T AObj) (t : Nat) (x : Operand) (lo hi mx : Option Operand) : QOr (ie tb tm objs t x lo hi mx) (ie tb TM objs t x lo hi mx) := by
 unfold ie
 rcases aA h x with e | e <;> rw [e]
 ·left
  cases mx <;> cases tb.und t <;> try rfl
  rename_i d
  cases d <;> rfl
 ·have hb := fun n => rx h n lo hi
  cases mx with
  | some m => exact .inl rfl
  | none =>
   cases tb.und t with
   | none => exact .inl rfl
   | some d =>
    cases aH tm x with
    | none => left; cases d <;> rfl
    | some v =>
     cases d <;> cases v <;> try exact .inl rfl
     case array.ptr len e b o =>
      cases o with
      | succ o => exact .inl rfl
      | zero =>
       simp only [kh]
       rcases hb len with g | g <;> rw [g]
       ·left; repeat' (first | rfl | contradiction | split)
       ·exact .inr rfl
     case slice.nils e =>
      simp only
      rcases hb 0 with g | g <;> rw [g]
      ·exact .inl rfl
      ·exact .inr rfl
     case slice.slice e b o n sz =>
      simp only [ir]
      rcases hb n with g | g <;> rw [g]
      ·left; repeat' (first | rfl | contradiction | split)
      ·exact .inr rfl
     case string.str s =>
      simp only [ki]
      rcases hb s.length with g | g <;> rw [g]
      ·exact .inl rfl
      ·exact .inr rfl
theorem mg {tb : Tab} {tm TM : T AV} (h : SubT tm TM) (s : Nat) (x : Operand) (f : Nat) : QOr (cr tb tm s x f) (cr tb TM s x f) := by
 unfold cr
 rcases aA h x with e | e <;> rw [e]
 ·left; cases dj (tb.und s) <;> rfl
 ·exact .inr rfl
theorem rH {tb : Tab} {tm TM : T AV} (h : SubT tm TM) (s : Nat) (x : Operand) (f : Nat) : QOr (ia tb tm s x f) (ia tb TM s x f) := by
 unfold ia
 rcases aA h x with e | e <;> rw [e]
 ·left; cases dj (tb.und s) <;> rfl
 ·exact .inr rfl
theorem mj {tb : Tab} {tm TM : T AV} (h : SubT tm TM) (t : Nat) (x y : Operand) : QOr (ct tb tm t x y) (ct tb TM t x y) := by
 unfold ct
 rcases aA h x with e | e <;> rw [e]
 ·left
  cases tb.und t <;> try rfl
  rename_i d
  cases d <;> rfl
 ·rcases aA h y with e | e <;> rw [e]
  ·left
   cases tb.und t <;> try rfl
   rename_i d
   cases d <;> cases aH tm x <;> try rfl
   all_goals
    rename_i v
    cases v <;> rfl
  ·exact .inr rfl
theorem rK {tb : Tab} {tm TM : T AV} (h : SubT tm TM) (t : Nat) (x y : Operand) : QOr (ib tb tm t x y) (ib tb TM t x y) := by
 unfold ib
 rcases aA h x with e | e <;> rw [e]
 ·left
  cases tb.und t <;> try rfl
  rename_i d
  cases d <;> rfl
 ·rcases aA h y with e | e <;> rw [e]
  ·left
   cases tb.und t <;> try rfl
   rename_i d
   cases d <;> cases aH tm x <;> try rfl
   all_goals
    rename_i v
    cases v <;> rfl
  ·exact .inr rfl
theorem oT {tm TM : T AV} (h : SubT tm TM) (x : Operand) (i : Nat) : QOr (dz tm x i) (dz TM x i) := by
 unfold dz
 rcases aA h x with e | e <;> rw [e]
 ·exact .inl rfl
 ·exact .inr rfl
theorem vX {tb : Tab} {tm TM : T AV} (h : SubT tm TM) (args : Array Operand) (ts : Array Nat) : QOr (jX tb tm args ts) (jX tb TM args ts) := by
 unfold jX
 cases ts.toList with
 | nil => exact .inl rfl
 | cons t ts =>
  cases args.toList with
  | nil => exact .inl rfl
  | cons x xs =>
   cases xs with
   | cons y ys => exact .inl rfl
   | nil =>
    simp only
    rcases aA h x with e | e <;> rw [e]
    ·left; cases tb.und t <;> rfl
    ·exact .inr rfl
theorem qg {tm TM : T AV} (h : SubT tm TM) (mx : Bool) (args : Array Operand) : QOr (ef tm mx args) (ef TM mx args) := by
 unfold ef
 rcases gK h args.toList with e | e <;> rw [e]
 ·exact .inl rfl
 ·exact .inr rfl

def LOr (a b : Option (AV × AHeap)) : Prop := a = none \/ b = a
theorem vV {tb : Tab} {tm TM : T AV} (h : SubT tm TM) (hp : AHeap) (t : Nat) (x : Operand) : LOr (jW tb tm hp t x) (jW tb TM hp t x) := by
 unfold jW
 rcases aA h x with e | e <;> rw [e]
 ·exact .inl rfl
 ·exact .inr rfl
theorem lB {tb : Tab} {tm TM : T AV} (h : SubT tm TM) (hp : AHeap) (t n : Nat) (ps : Array (Nat × Operand)) : LOr (cg tb tm hp t n ps) (cg tb TM hp t n ps) := by
 unfold cg
 rcases fw h ps.toList with e | e <;> rw [e]
 ·left; repeat' (first | rfl | contradiction | split)
 ·exact .inr rfl
theorem mr {tb : Tab} {tm TM : T AV} (h : SubT tm TM) (hp : AHeap) (t : Nat) (x y : Operand) : LOr (cu tb tm hp t x y) (cu tb TM hp t x y) := by
 unfold cu
 rcases aA h x with e | e <;> rw [e]
 ·left
  cases tb.und t <;> try rfl
  rename_i d
  cases d <;> rfl
 ·rcases aA h y with e | e <;> rw [e]
  ·left
   cases tb.und t <;> try rfl
   rename_i d
   cases d <;> cases fG (aH tm x) <;> rfl
  ·exact .inr rfl
theorem rO {tb : Tab} {tm TM : T AV} (h : SubT tm TM) (hp : AHeap) (t : Nat) (x y : Operand) : LOr (df tb tm hp t x y) (df tb TM hp t x y) := by
 unfold df
 rcases aA h x with e | e <;> rw [e]
 ·exact .inl rfl
 ·rcases aA h y with e | e <;> rw [e]
  ·left
   cases aH tm x <;> try rfl
   rename_i v
   cases v <;> rfl
  ·exact .inr rfl
theorem qc {tb : Tab} {tm TM : T AV} (h : SubT tm TM) (hp : AHeap) (args : Array Operand) (ts : Array Nat) : LOr (dL tb tm hp args ts) (dL tb TM hp args ts) := by
 unfold dL
 rcases gK h args.toList with e | e <;> rw [e]
 ·left
  cases ts.toList with
  | nil => rfl
  | cons t l => cases l <;> rfl
 ·exact .inr rfl
theorem t6 {tb : Tab} {tm TM : T AV} (h : SubT tm TM) (hp : AHeap) (args : Array Operand) (ts : Array Nat) : LOr (iK tb tm hp args ts) (iK tb TM hp args ts) := by
 unfold iK
 rcases gK h args.toList with e | e <;> rw [e]
 ·left
  cases ts.toList <;> rfl
 ·exact .inr rfl

theorem qf {tb : Tab} {tm TM : T AV} (h : SubT tm TM) (objs : T AObj) (t : Nat) (x i : Operand) (ok : Bool) : QOr (ed tb tm objs t x i ok) (ed tb TM objs t x i ok) := by
 unfold ed
 cases cj (tb.und t) with
 | none => exact .inl rfl
 | some p =>
  rcases aA h x with e | e <;> rw [e]
  ·exact .inl rfl
  ·rcases aA h i with e | e <;> rw [e]
   ·left; cases aH tm x <;> rfl
   ·exact .inr rfl
theorem oW {tb : Tab} {tm TM : T AV} (h : SubT tm TM) (hp : AHeap) (t : Nat) (r : Option Operand) : LOr (dA tb tm hp t r) (dA tb TM hp t r) := by
 unfold dA
 cases cj (tb.und t) with
 | none => exact .inl rfl
 | some p =>
  cases r with
  | none => exact .inr rfl
  | some x =>
   rcases aA h x with e | e <;> simp only [e]
   ·exact .inl rfl
   ·exact .inr rfl
theorem mw {tb : Tab} {tm TM : T AV} (h : SubT tm TM) (hp : AHeap) (t : Nat) (x k v : Operand) : LOr (cv tb tm hp t x k v) (cv tb TM hp t x k v) := by
 unfold cv
 cases cj (tb.und t) with
 | none => exact .inl rfl
 | some p =>
  rcases aA h x with e | e <;> rw [e]
  ·exact .inl rfl
  ·rcases aA h k with e | e <;> rw [e]
   ·left
    cases aH tm x with
    | none => rfl
    | some u => cases u <;> rfl
   ·rcases aA h v with e | e <;> rw [e]
    ·left
     cases aH tm x with
     | none => rfl
     | some u => cases u <;> (cases aH tm k <;> rfl)
    ·exact .inr rfl
theorem nt {tb : Tab} {tm TM : T AV} (h : SubT tm TM) (hp : AHeap) (t : Nat) (x k : Operand) : LOr (dT tb tm hp t x k) (dT tb TM hp t x k) := by
 unfold dT
 cases cj (tb.und t) with
 | none => exact .inl rfl
 | some p =>
  rcases aA h x with e | e <;> rw [e]
  ·exact .inl rfl
  ·rcases aA h k with e | e <;> rw [e]
   ·left
    cases aH tm x with
    | none => rfl
    | some u => cases u <;> rfl
   ·exact .inr rfl
theorem lD {tm TM : T AV} (h : SubT tm TM) (hp : AHeap) (x s v : Operand) : LOr (dd tm hp x s v) (dd TM hp x s v) := by
 unfold dd
 rcases aA h x with e | e <;> rw [e]
 ·exact .inl rfl
 ·rcases aA h s with e | e <;> rw [e]
  ·left
   cases aH tm x with
   | none => rfl
   | some u => cases u <;> rfl
  ·rcases aA h v with e | e <;> rw [e]
   ·left
    cases aH tm x with
    | none => rfl
    | some u =>
     cases u <;> try rfl
     cases aH tm s with
     | none => rfl
     | some y => cases y <;> rfl
   ·exact .inr rfl

inductive ROr (a b : Res) : Prop where
 | nq (h : a = .q none)
 | nl (h : a = .l none)
 | same (h : b = a)
theorem QOr.res {a b : Option AV} (h : QOr a b) : ROr (.q a) (.q b) := by
 rcases h with h | h
 ·exact .nq (by rw [h])
 ·exact .same (by rw [h])
theorem LOr.res {a b : Option (AV × AHeap)} (h : LOr a b) : ROr (.l a) (.l b) := by
 rcases h with h | h
 ·exact .nl (by rw [h])
 ·exact .same (by rw [h])
theorem oR {tb : Tab} {tm TM : T AV} (h : SubT tm TM) (hp : AHeap) (s d : Nat) (x : Operand) : ROr (dZ tb tm hp s d x) (dZ tb TM hp s d x) := by
 unfold dZ
 rcases aA h x with e | e <;> rw [e]
 ·have : ∀ (a b : Option TypeDesc), (match a, b, (none : Option AV) with
   | _, _, none => (0 : Nat)
   | _, _, _ => 1) = 0 := fun a b => rfl
  refine .nq ?_
  repeat' (first | rfl | contradiction | split)
 ·exact .same rfl

def sc : Op -> Bool
 | .call c => match c.callee with
  | .value _ => false
  | _ => true
 | _ => true
theorem s7 {tb : Tab} {tm TM : T AV} (h : SubT tm TM) (hp : AHeap) {op : Op} (hn : sc op = true) (call call' : nA) : ROr (cQ tb call tm hp op) (cQ tb call' TM hp op) := by
 cases op <;> first
  | exact .nq rfl
  | exact QOr.res (aA h _)
  | exact QOr.res (ub h _ _ _)
  | exact .same rfl
  | exact LOr.res (vV h _ _ _)
  | exact QOr.res (rF h _ _)
  | exact LOr.res (lB h _ _ _ _)
  | exact QOr.res (t7 h _ _ _)
  | exact LOr.res (rO h _ _ _ _)
  | exact QOr.res (nv h _)
  | exact QOr.res (rD h _ _ _ _)
  | exact QOr.res (ud h _ _)
  | exact oR h _ _ _ _
  | exact QOr.res (np h _ _ _)
  | exact LOr.res (mr h _ _ _ _)
  | exact QOr.res (rM h _ _ _ _ _ _)
  | exact QOr.res (mg h _ _ _)
  | exact QOr.res (rH h _ _ _)
  | exact QOr.res (mj h _ _ _)
  | exact QOr.res (rK h _ _ _)
  | exact QOr.res (oT h _ _)
  | exact QOr.res (qf h _ _ _ _ _)
  | exact LOr.res (oW h _ _ _)
  | exact LOr.res (mw h _ _ _ _ _)
  | exact LOr.res (nt h _ _ _ _)
  | exact LOr.res (lD h _ _ _ _)
  | skip
 rename_i c
 obtain ⟨callee, args, ts⟩ := c
 cases callee with
 | value f => cases hn
 | invoke r m => exact .nq rfl
 | builtin b => cases b <;> first
  | exact .nq rfl
  | exact QOr.res (vX h _ _)
  | exact QOr.res (qg h _ _)
  | exact LOr.res (qc h _ _ _)
  | exact LOr.res (t6 h _ _ _)

def av (callq : iy) : nA := fun f a h => match callq f a h with
 | .ok v h' => some (v, h')
 | .bad => none
theorem oX {tb : Tab} {tm TM : T AV} (h : SubT tm TM) {hp : AHeap} {op : Op} {call call' : nA} {v : AV} (e : cQ tb call tm hp op = .q (some v)) : cQ tb call' TM hp op = .q (some v) := by
 cases hn : sc op with
 | true =>
  rcases s7 h hp hn call call' with g | g | g
  ·rw [g] at e; cases e
  ·rw [g] at e; cases e
  ·rw [g]; exact e
 | false =>
  cases op <;> try (cases hn; done)
  rename_i c
  obtain ⟨callee, args, ts⟩ := c
  cases callee with
  | value f => cases e
  | invoke r m => cases hn
  | builtin b => cases hn
theorem Bv {tb : Tab} {tm TM : T AV} (h : SubT tm TM) {hp : AHeap} {op : Op} {callq : iy} (hc : fk tb callq) {v : AV} {h' : AHeap} (e : cQ tb (av callq) tm hp op = .l (some (v, h'))) :
  Evt fun K => cQ tb (ci tb (run tb K)) TM hp op = .l (some (v, h')) := by
 cases hn : sc op with
 | true =>
  refine Evt.of fun K => ?_
  rcases s7 h hp hn (av callq) (ci tb (run tb K)) with g | g | g
  ·rw [g] at e; cases e
  ·rw [g] at e; cases e
  ·rw [g]; exact e
 | false =>
  cases op <;> try (cases hn; done)
  rename_i c
  obtain ⟨callee, args, ts⟩ := c
  cases callee with
  | invoke r m => cases hn
  | builtin b => cases hn
  | value f =>
   have e : Res.l (bT tm hp (av callq) f args) = .l (some (v, h')) := e
   simp only [Res.l.injEq] at e
   unfold bT at e
   rcases aA h f with g | g
   ·rw [g] at e; cases e
   rcases gK h args.toList with g2 | g2
   ·rw [g2] at e
    revert e
    cases aH tm f with
    | none => intro e; cases e
    | some u => cases u <;> (intro e; cases e)
   ·cases hf : aH tm f with
    | none => rw [hf] at e; cases e
    | some u =>
     cases u <;> try (rw [hf] at e; cases e; done)
     rename_i gg caps
     cases ha : cx tm args.toList with
     | none => rw [hf, ha] at e; cases e
     | some l =>
      rw [hf, ha] at e
      simp only at e
      unfold av at e
      cases hr : callq gg (l ++ caps) hp with
      | bad => rw [hr] at e; cases e
      | ok x g' =>
       rw [hr] at e
       simp only [Option.some.injEq, Prod.mk.injEq] at e
       obtain ⟨rfl, rfl⟩ := e
       refine (hc _ _ _ _ _ hr).mono fun K hK => ?_
       simp only [cQ, fA, bT, g, g2, hf, ha]
       exact congrArg Res.l hK
theorem ly {tm TM : T AV} (h : SubT tm TM) {ops : List Oper} {o : Oper} {b : Bool} (e : aF ops tm o = some b) : aF ops TM o = some b := by
 unfold aF at e ⊢
 cases hg : o.guard with
 | none => rw [hg] at e; exact e
 | some p =>
  obtain ⟨j, want⟩ := p
  rw [hg] at e
  simp only at e ⊢
  cases hj : ops[j]? with
  | none => rw [hj] at e; cases e
  | some oj =>
   rw [hj] at e
   simp only at e ⊢
   cases hd : oj.dst with
   | none => rw [hd] at e; cases e
   | some d =>
    rw [hd] at e
    simp only at e ⊢
    cases ht : tm.get d with
    | none => rw [ht] at e; cases e
    | some v =>
     rw [ht] at e
     rw [h d v ht]
     exact e
theorem me {tb : Tab} {tm TM : T AV} (h : SubT tm TM) {ops : List Oper} {o : Oper} {hp : AHeap} {callq : iy} (hc : fk tb callq) {v : AV} {h' : AHeap} {k : Nat} (e : gZ tb (av callq) ops tm hp o = some (v, h', k)) :
  Evt fun K => gZ tb (ci tb (run tb K)) ops TM hp o = some (v, h', k) := by
 unfold gZ at e
 cases hw : aF ops tm o with
 | none => rw [hw] at e; cases e
 | some b =>
  rw [hw] at e
  have hW := ly h hw
  cases b with
  | false => exact Evt.of fun K => by unfold gZ; rw [hW]; exact e
  | true =>
   simp only at e
   cases ho : cQ tb (av callq) tm hp o.op with
   | q x =>
    rw [ho] at e
    cases x with
    | none => cases e
    | some u =>
     refine Evt.of fun K => ?_
     unfold gZ
     rw [hW]
     simp only
     rw [oX h ho]
     exact e
   | l x =>
    rw [ho] at e
    cases x with
    | none => cases e
    | some p =>
     obtain ⟨u, g⟩ := p
     refine (Bv h hc ho).mono fun K hK => ?_
     unfold gZ
     rw [hW]
     simp only
     rw [hK]
     exact e
theorem SubT.set {tm TM : T AV} (h : SubT tm TM) (d : Nat) (v : AV) : SubT (tm.set d v) (TM.set d v) := by
 intro k u hk
 rw [jC] at hk ⊢
 split at hk
 ·rename_i e
  rw [if_pos e]
  exact hk
 ·rename_i e
  rw [if_neg e]
  exact h k u hk
theorem iX {tm TM : T AV} (h : SubT tm TM) {n : Nat} {d : Option Nat} {v : AV} {tm' : T AV} (e : bc tm n d v = some tm') : ∃ TM', bc TM n d v = some TM' /\ SubT tm' TM' := by
 unfold bc at e ⊢
 cases d with
 | none =>
  simp only [Option.some.injEq] at e
  subst e
  exact ⟨TM, rfl, h⟩
 | some d =>
  simp only at e ⊢
  cases hb : Nat.blt d n with
  | false => rw [hb] at e; cases e
  | true =>
   rw [hb] at e
   simp only [Option.some.injEq] at e
   subst e
   exact ⟨_, rfl, h.set d v⟩
def C9 (a b : Ent) : Prop := a.i = b.i /\ a.o = b.o /\ SubT a.tm b.tm /\ a.v = b.v /\ a.kind = b.kind
def EntsR : List Ent -> List Ent -> Prop
 | [], [] => True
 | a :: l, b :: m => C9 a b /\ EntsR l m
 | _, _ => False
theorem jY {tb : Tab} {n : Nat} {ops : List Oper} {callq : iy} (hc : fk tb callq) : ∀ {rest : List Oper} {i : Nat} {tm TM tm' : T AV} {h h' : AHeap} {es : List Ent} {ms : List (Nat × AHeap)}, SubT tm TM ->
  aS tb (av callq) n ops i rest tm h = some (es, ms, tm', h') -> ∃ es' TM', SubT tm' TM' /\ EntsR es es' /\ Evt fun K => aS tb (ci tb (run tb K)) n ops i rest TM h = some (es', ms, TM', h')
 | [], i, tm, TM, tm', h, h', es, ms, hs, e => by
  unfold aS at e
  simp only [Option.some.injEq, Prod.mk.injEq] at e
  obtain ⟨rfl, rfl, rfl, rfl⟩ := e
  exact ⟨[], TM, hs, trivial, Evt.of fun K => rfl⟩
 | o :: rest, i, tm, TM, tm', h, h', es, ms, hs, e => by
  unfold aS at e
  cases h1 : gZ tb (av callq) ops tm h o with
  | none => rw [h1] at e; cases e
  | some p =>
   obtain ⟨v, g, k⟩ := p
   rw [h1] at e
   simp only at e
   cases hp : bc tm n o.dst v with
   | none => rw [hp] at e; cases e
   | some tm1 =>
    rw [hp] at e
    simp only at e
    obtain ⟨TM1, hP, hs1⟩ := iX hs hp
    cases ht : aS tb (av callq) n ops (i + 1) rest tm1 g with
    | none => rw [ht] at e; cases e
    | some q =>
     obtain ⟨es1, ms1, tm2, g2⟩ := q
     rw [ht] at e
     simp only [Option.some.injEq, Prod.mk.injEq] at e
     obtain ⟨rfl, rfl, rfl, rfl⟩ := e
     obtain ⟨es', TM', hs', hes, hE⟩ := jY hc hs1 ht
     refine ⟨⟨i, o, TM, v, k⟩ :: es', TM', hs', ⟨⟨rfl, rfl, hs, rfl, rfl⟩, hes⟩, ((me hs hc h1).and hE).mono fun K ⟨a, b⟩ => ?_⟩
     unfold aS
     simp only [a, hP, b]
theorem EntsR.all {tb : Tab} {b : List Nat} {louds : List Nat} {marks : List (Nat × AHeap)} : ∀ {es es' : List Ent}, EntsR es es' -> es.all (jU tb b louds marks) = true -> es'.all (jU tb b louds marks) = true
 | [], [], _, _ => rfl
 | a :: l, c :: m, ⟨⟨h1, h2, h3, h4, h5⟩, hr⟩, e => by
  simp only [List.all_cons, Bool.and_eq_true] at e ⊢
  refine ⟨?_, EntsR.all hr e.2⟩
  have e := e.1
  unfold jU at e ⊢
  rw [<- h5, <- h1]
  split at e
  ·exact e
  ·simp only [List.all_eq_true] at e ⊢
   intro x hx
   have := e x hx
   simp only [Bool.or_eq_true] at this ⊢
   rcases this with g | g
   ·exact .inl g
   ·right
    unfold nw at g ⊢
    rw [<- h2, <- h4]
    revert g
    cases ho : cQ tb (fun _ _ _ => none) a.tm x.2 a.o.op with
    | l r => intro g; cases g
    | q r =>
     cases r with
     | none => intro g; cases g
     | some v =>
      intro g
      rw [oX h3 ho]
      exact g
  ·rfl
 | [], _ :: _, h, _ => h.elim
 | _ :: _, [], h, _ => h.elim
theorem EntsR.louds : ∀ {es es' : List Ent}, EntsR es es' -> (es.filterMap fun e => if e.kind = 2 then some e.i else none) = (es'.filterMap fun e => if e.kind = 2 then some e.i else none)
 | [], [], _ => rfl
 | a :: l, c :: m, ⟨⟨h1, h2, h3, h4, h5⟩, hr⟩ => by
  simp only [List.filterMap_cons, h1, h5, EntsR.louds hr]
 | [], _ :: _, h => h.elim
 | _ :: _, [], h => h.elim
theorem jF {tb : Tab} {n : Nat} {ops : List Oper} {callq : iy} (hc : fk tb callq) : ∀ {rest : List Oper} {tm TM tm' : T AV} {h h' : AHeap}, SubT tm TM ->
  dC tb (av callq) n ops rest tm h = some (tm', h') -> ∃ TM', SubT tm' TM' /\ Evt fun K => dC tb (ci tb (run tb K)) n ops rest TM h = some (TM', h')
 | [], tm, TM, tm', h, h', hs, e => by
  unfold dC at e
  simp only [Option.some.injEq, Prod.mk.injEq] at e
  obtain ⟨rfl, rfl⟩ := e
  exact ⟨TM, hs, Evt.of fun K => rfl⟩
 | o :: rest, tm, TM, tm', h, h', hs, e => by
  unfold dC at e
  cases h1 : gZ tb (av callq) ops tm h o with
  | none => rw [h1] at e; cases e
  | some p =>
   obtain ⟨v, g, k⟩ := p
   rw [h1] at e
   simp only at e
   cases hp : bc tm n o.dst v with
   | none => rw [hp] at e; cases e
   | some tm1 =>
    rw [hp] at e
    simp only at e
    obtain ⟨TM1, hP, hs1⟩ := iX hs hp
    obtain ⟨TM', hs', hE⟩ := jF hc hs1 e
    refine ⟨TM', hs', ((me hs hc h1).and hE).mono fun K ⟨a, b⟩ => ?_⟩
    unfold dC
    simp only [a, hP, b]
theorem wU {tb : Tab} {tm TM : T AV} (h : SubT tm TM) {op : Op} {r : AObj × (Nat -> AV)} (e : ur tb tm op = some r) : ur tb TM op = some r := by
 unfold ur at e ⊢
 cases op <;> try exact e
 case box t x =>
  simp only at e ⊢
  rcases aA h x with g | g
  ·rw [g] at e; cases e
  ·rw [g]; exact e
 case buildSlice t n ps =>
  simp only at e ⊢
  rcases fw h ps.toList with g | g
  ·exfalso
   rw [g] at e
   split at e
   ·split at e
    ·rename_i hx
     cases hx
    ·cases e
   ·cases e
  ·rw [g]; exact e
theorem tZ {tb : Tab} {tm TM : T AV} (h : SubT tm TM) {ops : List Oper} {num : Nat} {o : Oper} {hp : AHeap} {callq : iy} (hc : fk tb callq) {v : AV} {h' : AHeap} {k : Nat} (e : jr tb (av callq) ops num tm hp o = some (v, h', k)) :
  Evt fun K => jr tb (ci tb (run tb K)) ops num TM hp o = some (v, h', k) := by
 unfold jr at e
 cases hm : dP o.op with
 | false =>
  rw [hm] at e
  refine (me h hc e).mono fun K hK => ?_
  unfold jr
  rw [hm]
  exact hK
 | true =>
  rw [hm] at e
  refine Evt.of fun K => ?_
  unfold jr
  rw [hm]
  simp only at e ⊢
  cases hw : aF ops tm o with
  | none => rw [hw] at e; cases e
  | some b =>
   rw [hw] at e
   rw [ly h hw]
   cases b with
   | false => exact e
   | true =>
    simp only at e ⊢
    cases hk : ur tb tm o.op with
    | none => rw [hk] at e; cases e
    | some r => rw [hk] at e; rw [wU h hk]; exact e
theorem jz {tb : Tab} {n : Nat} {ops : List Oper} {base : Nat} {callq : iy} (hc : fk tb callq) : ∀ {rest : List Oper} {i : Nat} {tm TM tm' : T AV} {h h' : AHeap} {es : List Ent} {ms : List (Nat × AHeap)}, SubT tm TM ->
  bF tb (av callq) n ops base i rest tm h = some (es, ms, tm', h') -> ∃ es' TM', SubT tm' TM' /\ EntsR es es' /\ Evt fun K => bF tb (ci tb (run tb K)) n ops base i rest TM h = some (es', ms, TM', h')
 | [], i, tm, TM, tm', h, h', es, ms, hs, e => by
  unfold bF at e
  simp only [Option.some.injEq, Prod.mk.injEq] at e
  obtain ⟨rfl, rfl, rfl, rfl⟩ := e
  exact ⟨[], TM, hs, trivial, Evt.of fun K => rfl⟩
 | o :: rest, i, tm, TM, tm', h, h', es, ms, hs, e => by
  unfold bF at e
  cases h1 : jr tb (av callq) ops (base + i) tm h o with
  | none => rw [h1] at e; cases e
  | some p =>
   obtain ⟨v, g, k⟩ := p
   rw [h1] at e
   simp only at e
   cases hp : bc tm n o.dst v with
   | none => rw [hp] at e; cases e
   | some tm1 =>
    rw [hp] at e
    simp only at e
    obtain ⟨TM1, hP, hs1⟩ := iX hs hp
    cases ht : bF tb (av callq) n ops base (i + 1) rest tm1 g with
    | none => rw [ht] at e; cases e
    | some q =>
     obtain ⟨es1, ms1, tm2, g2⟩ := q
     rw [ht] at e
     simp only [Option.some.injEq, Prod.mk.injEq] at e
     obtain ⟨rfl, rfl, rfl, rfl⟩ := e
     obtain ⟨es', TM', hs', hes, hE⟩ := jz hc hs1 ht
     refine ⟨⟨i, o, TM, v, k⟩ :: es', TM', hs', ⟨⟨rfl, rfl, hs, rfl, rfl⟩, hes⟩, ((tZ hs hc h1).and hE).mono fun K ⟨a, b⟩ => ?_⟩
     unfold bF
     simp only [a, hP, b]
theorem EntsR.kinds (k : Nat) : ∀ {es es' : List Ent}, EntsR es es' -> dQ k es = dQ k es'
 | [], [], _ => rfl
 | a :: l, c :: m, ⟨⟨h1, h2, h3, h4, h5⟩, hr⟩ => by
  have ih := EntsR.kinds k hr
  unfold dQ at ih ⊢
  simp only [List.filterMap_cons, <- h5, <- h1, ih]
 | [], _ :: _, h => h.elim
 | _ :: _, [], h => h.elim
theorem EntsR.allF {tb : Tab} {bt : Nat -> Nat -> Bool} {hards makers : List Nat} {marks : List (Nat × AHeap)} : ∀ {es es' : List Ent}, EntsR es es' -> es.all (qp tb bt hards makers marks) = true -> es'.all (qp tb bt hards makers marks) = true
 | [], [], _, _ => rfl
 | a :: l, c :: m, ⟨⟨h1, h2, h3, h4, h5⟩, hr⟩, e => by
  simp only [List.all_cons, Bool.and_eq_true] at e ⊢
  refine ⟨?_, EntsR.allF hr e.2⟩
  have e := e.1
  unfold qp at e ⊢
  rw [<- h5, <- h1]
  split at e
  ·exact e
  ·simp only [List.all_eq_true] at e ⊢
   intro x hx
   have := e x hx
   simp only [Bool.or_eq_true] at this ⊢
   rcases this with g | g
   ·exact .inl g
   ·right
    unfold nw at g ⊢
    rw [<- h2, <- h4]
    revert g
    cases ho : cQ tb (fun _ _ _ => none) a.tm x.2 a.o.op with
    | l r => intro g; cases g
    | q r =>
     cases r with
     | none => intro g; cases g
     | some v =>
      intro g
      rw [oX h3 ho]
      exact g
  ·rfl
 | [], _ :: _, h, _ => h.elim
 | _ :: _, [], h, _ => h.elim
theorem oU {tb : Tab} {n : Nat} {ops : List Oper} {callq : iy} (hc : fk tb callq) {tm TM tm' : T AV} {h h' : AHeap} (hs : SubT tm TM) (e : eE tb (av callq) n ops tm h = some (tm', h')) :
  ∃ TM', SubT tm' TM' /\ Evt fun K => eE tb (ci tb (run tb K)) n ops TM h = some (TM', h') := by
 unfold eE at e
 cases ho : qL (am ops []) ops.length (bK ops) with
 | false => rw [ho] at e; cases e
 | true =>
  rw [ho] at e
  simp only at e
  cases ht : bF tb (av callq) n ops h.next 0 ((bK ops).filterMap fun i => ops[i]?) tm ⟨h.next + ops.length, h.objs⟩ with
  | none => rw [ht] at e; cases e
  | some p =>
   obtain ⟨es, ms, tm1, h1⟩ := p
   rw [ht] at e
   simp only at e
   obtain ⟨es', TM', hs', hes, hE⟩ := jz hc hs ht
   split at e
   ·rename_i hall
    simp only [Option.some.injEq, Prod.mk.injEq] at e
    obtain ⟨rfl, rfl⟩ := e
    rw [hes.kinds 2, hes.kinds 3] at hall
    have hall := hes.allF hall
    exact ⟨TM', hs', hE.mono fun K hK => by unfold eE; simp only [ho, hK, hall]⟩
   ·cases e
theorem lc {tb : Tab} {n : Nat} {ops : List Oper} {callq : iy} (hc : fk tb callq) {tm TM tm' : T AV} {h h' : AHeap} (hs : SubT tm TM) (e : dG tb (av callq) n ops tm h = some (tm', h')) :
  ∃ TM', SubT tm' TM' /\ Evt fun K => dG tb (ci tb (run tb K)) n ops TM h = some (TM', h') := by
 unfold dG at e
 cases hD : gY ops with
 | false => rw [hD] at e; cases e
 | true =>
  rw [hD] at e
  simp only at e
  cases hF : eP ops with
  | true =>
   rw [hF] at e
   obtain ⟨TM', hs', hE⟩ := jF hc hs e
   exact ⟨TM', hs', hE.mono fun K hK => by unfold dG; simp only [hD, hF, hK]⟩
  | false =>
   rw [hF] at e
   simp only at e
   cases hW : eD ops with
   | true =>
    rw [hW] at e
    obtain ⟨TM', g1, g2⟩ := oU hc hs e
    exact ⟨TM', g1, g2.mono fun K hK => by unfold dG; simp only [hD, hF, hW, hK]⟩
   | false =>
   rw [hW] at e
   simp only at e
   cases ht : aS tb (av callq) n ops 0 ops tm h with
   | none => rw [ht] at e; cases e
   | some p =>
    obtain ⟨es, ms, tm1, h1⟩ := p
    rw [ht] at e
    simp only at e
    obtain ⟨es', TM', hs', hes, hE⟩ := jY hc hs ht
    have hl := hes.louds
    cases ms with
    | nil =>
     simp only [Option.some.injEq, Prod.mk.injEq] at e
     obtain ⟨rfl, rfl⟩ := e
     exact ⟨TM', hs', hE.mono fun K hK => by unfold dG; simp only [hD, hF, hW, hK]⟩
    | cons m ms =>
     simp only at e
     split at e
     ·rename_i hall
      simp only [Option.some.injEq, Prod.mk.injEq] at e
      obtain ⟨rfl, rfl⟩ := e
      rw [hl] at hall
      have hall := hes.all hall
      exact ⟨TM', hs', hE.mono fun K hK => by unfold dG; simp only [hD, hF, hW, hK, hall]⟩
     ·cases e

def Keys (esc : Nat) (tm : T AV) : Prop := ∀ k v, tm.get k = some v -> Nat.testBit esc k = true
theorem Keys.put {esc : Nat} {tm tm' : T AV} (h : Keys esc tm) {n : Nat} {d : Option Nat} {v : AV} (hd : ∀ k, d = some k -> Nat.testBit esc k = true) (e : bc tm n d v = some tm') : Keys esc tm' := by
 unfold bc at e
 cases d with
 | none =>
  simp only [Option.some.injEq] at e
  subst e
  exact h
 | some d =>
  simp only at e
  cases hb : Nat.blt d n with
  | false => rw [hb] at e; cases e
  | true =>
   rw [hb] at e
   simp only [Option.some.injEq] at e
   subst e
   intro k u hk
   rw [jC] at hk
   split at hk
   ·rename_i e
    subst e
    exact hd _ rfl
   ·exact h k u hk
end
end Go.Proofs.YtndhhgbpcmfeiaaGreatDoor.Ev
