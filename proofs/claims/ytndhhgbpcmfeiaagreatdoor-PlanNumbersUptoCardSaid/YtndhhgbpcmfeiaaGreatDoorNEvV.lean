/- The quick evaluator, part 2b: more slots, the same values. -/
import Derived.Test.YtndhhgbpcmfeiaaGreatDoorNEvR
namespace Go.Proofs.YtndhhgbpcmfeiaaGreatDoor.Ev
open Go.RowKit
noncomputable section

def SubT (tm TM : T AV) : Prop := ∀ k v, tm.get k = some v -> TM.get k = some v
theorem uh {tm TM : T AV} (h : SubT tm TM) {x : Operand} {v : AV} (e : aE tm x = some v) : aE TM x = some v := by
 cases x with
 | tmp t => exact h t v e
 | const c => exact e
 | func f => exact e
 | global g => exact e
theorem aB {tm TM : T AV} (h : SubT tm TM) (x : Operand) : aE tm x = none \/ aE TM x = aE tm x := by
 cases hx : aE tm x with
 | none => exact .inl rfl
 | some v => exact .inr (uh h hx)
theorem gD {tm TM : T AV} (h : SubT tm TM) : ∀ xs : List Operand, cf tm xs = none \/ cf TM xs = cf tm xs
 | [] => .inr rfl
 | x :: xs => by
  unfold cf
  rcases aB h x with e | e
  ·rw [e]; exact .inl rfl
  ·rw [e]
   rcases gD h xs with e | e
   ·rw [e]; left; cases aE tm x <;> rfl
   ·rw [e]; exact .inr rfl
theorem fm {tm TM : T AV} (h : SubT tm TM) : ∀ xs : List (Nat × Operand), bj tm xs = none \/ bj TM xs = bj tm xs
 | [] => .inr rfl
 | (i, x) :: xs => by
  unfold bj
  rcases aB h x with e | e
  ·rw [e]; exact .inl rfl
  ·rw [e]
   rcases fm h xs with e | e
   ·rw [e]; left; cases aE tm x <;> rfl
   ·rw [e]; exact .inr rfl
theorem rh {tm TM : T AV} (h : SubT tm TM) (n : Nat) (lo hi : Option Operand) : bS tm n lo hi = none \/ bS TM n lo hi = bS tm n lo hi := by
 unfold bS
 cases hi with
 | none =>
  cases lo with
  | none => exact .inr rfl
  | some x =>
   rcases aB h x with e | e
   ·simp only [e]; exact .inl rfl
   ·simp only [e]; exact .inr trivial
 | some y =>
  rcases aB h y with e | e
  ·simp only [e]; exact .inl rfl
  ·simp only [e]
   cases lo with
   | none => exact .inr rfl
   | some x =>
    rcases aB h x with e | e
    ·left; simp only [e]; cases d8 (aE tm y) <;> rfl
    ·simp only [e]; exact .inr trivial

def QOr (a b : Option AV) : Prop := a = none \/ b = a
theorem tP {tm TM : T AV} (h : SubT tm TM) (c x y : Operand) : QOr (fC tm c x y) (fC TM c x y) := by
 unfold fC
 rcases aB h c with e | e
 ·rw [e]; exact .inl rfl
 ·rw [e]
  cases aE tm c with
  | none => exact .inl rfl
  | some v =>
   cases v <;> try exact .inl rfl
   rename_i b
   cases b with
   | true => exact aB h x
   | false => exact aB h y
theorem tM {tb : Tab} {tm TM : T AV} (h : SubT tm TM) (objs : T AObj) (t : Nat) (x : Operand) : QOr (gn tb tm objs t x) (gn tb TM objs t x) := by
 unfold gn
 rcases aB h x with e | e <;> rw [e]
 ·exact .inl rfl
 ·exact .inr rfl
theorem ng {tm TM : T AV} (h : SubT tm TM) (x : Operand) : QOr (da tm x) (da TM x) := by
 unfold da
 rcases aB h x with e | e <;> rw [e]
 ·exact .inl rfl
 ·exact .inr rfl
theorem tR {tm TM : T AV} (h : SubT tm TM) (op : UnOp) (x : Operand) : QOr (fD tm op x) (fD TM op x) := by
 unfold fD
 rcases aB h x with e | e <;> rw [e]
 ·left; cases op <;> rfl
 ·exact .inr rfl
theorem ry {tb : Tab} {tm TM : T AV} (h : SubT tm TM) (op : BinOp) (t : Nat) (x y : Operand) : QOr (fV tb tm op t x y) (fV tb TM op t x y) := by
 unfold fV
 cases ko y with
 | true =>
  simp only
  rcases aB h x with e | e <;> rw [e]
  ·exact .inl rfl
  ·exact .inr rfl
 | false =>
 simp only
 rcases aB h x with e | e <;> rw [e]
 ·exact .inl rfl
 ·rcases aB h y with e | e <;> rw [e]
  ·left; cases aE tm x <;> rfl
  ·exact .inr rfl
theorem rA {tb : Tab} {tm TM : T AV} (h : SubT tm TM) (t : Nat) (ps : Array (Nat × Operand)) : QOr (fe tb tm t ps) (fe tb TM t ps) := by
 unfold fe
 rcases fm h ps.toList with e | e <;> rw [e]
 ·left; repeat' (first | rfl | contradiction | split)
 ·exact .inr rfl
theorem m9 {tm TM : T AV} (h : SubT tm TM) (fn : Fn) (first captured : Array Operand) : QOr (cZ tm fn first captured) (cZ TM fn first captured) := by
 unfold cZ
 rcases gD h captured.toList with e | e <;> rw [e]
 ·left; cases fn <;> cases first.toList <;> rfl
 ·exact .inr rfl
theorem rH {tb : Tab} {tm TM : T AV} (h : SubT tm TM) (objs : T AObj) (t : Nat) (x : Operand) (lo hi mx : Option Operand) : QOr (ep tb tm objs t x lo hi mx) (ep tb TM objs t x lo hi mx) := by
 unfold ep
 rcases aB h x with e | e <;> rw [e]
 ·left
  cases mx <;> cases tb.und t <;> try rfl
  rename_i d
  cases d <;> rfl
 ·have hb := fun n => rh h n lo hi
  cases mx with
  | some m => exact .inl rfl
  | none =>
   cases tb.und t with
   | none => exact .inl rfl
   | some d =>
    cases aE tm x with
    | none => left; cases d <;> rfl
    | some v =>
     cases d <;> cases v <;> try exact .inl rfl
     case array.ptr len e b o =>
      cases o with
      | succ o => exact .inl rfl
      | zero =>
       simp only [iJ]
       rcases hb len with g | g <;> rw [g]
       ·left; repeat' (first | rfl | contradiction | split)
       ·exact .inr rfl
     case slice.nils e =>
      simp only
      rcases hb 0 with g | g <;> rw [g]
      ·exact .inl rfl
      ·exact .inr rfl
     case slice.slice e b o n sz =>
      simp only [il]
      rcases hb n with g | g <;> rw [g]
      ·left; repeat' (first | rfl | contradiction | split)
      ·exact .inr rfl
     case string.str s =>
      simp only [iK]
      rcases hb s.length with g | g <;> rw [g]
      ·exact .inl rfl
      ·exact .inr rfl
theorem lP {tb : Tab} {tm TM : T AV} (h : SubT tm TM) (s : Nat) (x : Operand) (f : Nat) : QOr (cu tb tm s x f) (cu tb TM s x f) := by
 unfold cu
 rcases aB h x with e | e <;> rw [e]
 ·left; cases bW (tb.und s) <;> rfl
 ·exact .inr rfl
theorem rC {tb : Tab} {tm TM : T AV} (h : SubT tm TM) (s : Nat) (x : Operand) (f : Nat) : QOr (fg tb tm s x f) (fg tb TM s x f) := by
 unfold fg
 rcases aB h x with e | e <;> rw [e]
 ·left; cases bW (tb.und s) <;> rfl
 ·exact .inr rfl
theorem lR {tb : Tab} {tm TM : T AV} (h : SubT tm TM) (t : Nat) (x y : Operand) : QOr (cv tb tm t x y) (cv tb TM t x y) := by
 unfold cv
 rcases aB h x with e | e <;> rw [e]
 ·left
  cases tb.und t <;> try rfl
  rename_i d
  cases d <;> rfl
 ·rcases aB h y with e | e <;> rw [e]
  ·left
   cases tb.und t <;> try rfl
   rename_i d
   cases d <;> cases aE tm x <;> try rfl
   all_goals
    rename_i v
    cases v <;> rfl
  ·exact .inr rfl
theorem rF {tb : Tab} {tm TM : T AV} (h : SubT tm TM) (t : Nat) (x y : Operand) : QOr (fi tb tm t x y) (fi tb TM t x y) := by
 unfold fi
 rcases aB h x with e | e <;> rw [e]
 ·left
  cases tb.und t <;> try rfl
  rename_i d
  cases d <;> rfl
 ·rcases aB h y with e | e <;> rw [e]
  ·left
   cases tb.und t <;> try rfl
   rename_i d
   cases d <;> cases aE tm x <;> try rfl
   all_goals
    rename_i v
    cases v <;> rfl
  ·exact .inr rfl
theorem oX {tm TM : T AV} (h : SubT tm TM) (x : Operand) (i : Nat) : QOr (dz tm x i) (dz TM x i) := by
 unfold dz
 rcases aB h x with e | e <;> rw [e]
 ·exact .inl rfl
 ·exact .inr rfl
theorem vG {tb : Tab} {tm TM : T AV} (h : SubT tm TM) (args : Array Operand) (ts : Array Nat) : QOr (jL tb tm args ts) (jL tb TM args ts) := by
 unfold jL
 cases ts.toList with
 | nil => exact .inl rfl
 | cons t ts =>
  cases args.toList with
  | nil => exact .inl rfl
  | cons x xs =>
   cases xs with
   | cons y ys => exact .inl rfl
   | nil =>
    simp only
    rcases aB h x with e | e <;> rw [e]
    ·left; cases tb.und t <;> rfl
    ·exact .inr rfl
theorem qc {tm TM : T AV} (h : SubT tm TM) (mx : Bool) (args : Array Operand) : QOr (cK tm mx args) (cK TM mx args) := by
 unfold cK
 rcases gD h args.toList with e | e <;> rw [e]
 ·exact .inl rfl
 ·exact .inr rfl

def LOr (a b : Option (AV × AHeap)) : Prop := a = none \/ b = a
theorem vE {tb : Tab} {tm TM : T AV} (h : SubT tm TM) (hp : AHeap) (t : Nat) (x : Operand) : LOr (jK tb tm hp t x) (jK tb TM hp t x) := by
 unfold jK
 rcases aB h x with e | e <;> rw [e]
 ·exact .inl rfl
 ·exact .inr rfl
theorem lc {tb : Tab} {tm TM : T AV} (h : SubT tm TM) (hp : AHeap) (t n : Nat) (ps : Array (Nat × Operand)) : LOr (bU tb tm hp t n ps) (bU tb TM hp t n ps) := by
 unfold bU
 rcases fm h ps.toList with e | e <;> rw [e]
 ·left; repeat' (first | rfl | contradiction | split)
 ·exact .inr rfl
theorem lT {tb : Tab} {tm TM : T AV} (h : SubT tm TM) (hp : AHeap) (t : Nat) (x y : Operand) : LOr (cw tb tm hp t x y) (cw tb TM hp t x y) := by
 unfold cw
 rcases aB h x with e | e <;> rw [e]
 ·left
  cases tb.und t <;> try rfl
  rename_i d
  cases d <;> rfl
 ·rcases aB h y with e | e <;> rw [e]
  ·left
   cases tb.und t <;> try rfl
   rename_i d
   cases d <;> cases d8 (aE tm x) <;> rfl
  ·exact .inr rfl
theorem rJ {tb : Tab} {tm TM : T AV} (h : SubT tm TM) (hp : AHeap) (t : Nat) (x y : Operand) : LOr (db tb tm hp t x y) (db tb TM hp t x y) := by
 unfold db
 rcases aB h x with e | e <;> rw [e]
 ·exact .inl rfl
 ·rcases aB h y with e | e <;> rw [e]
  ·left
   cases aE tm x <;> try rfl
   rename_i v
   cases v <;> rfl
  ·exact .inr rfl
theorem p8 {tb : Tab} {tm TM : T AV} (h : SubT tm TM) (hp : AHeap) (args : Array Operand) (ts : Array Nat) : LOr (ct tb tm hp args ts) (ct tb TM hp args ts) := by
 unfold ct
 rcases gD h args.toList with e | e <;> rw [e]
 ·left
  cases ts.toList with
  | nil => rfl
  | cons t l => cases l <;> rfl
 ·exact .inr rfl
theorem tL {tb : Tab} {tm TM : T AV} (h : SubT tm TM) (hp : AHeap) (args : Array Operand) (ts : Array Nat) : LOr (iB tb tm hp args ts) (iB tb TM hp args ts) := by
 unfold iB
 rcases gD h args.toList with e | e <;> rw [e]
 ·left
  cases ts.toList <;> rfl
 ·exact .inr rfl

theorem qb {tb : Tab} {tm TM : T AV} (h : SubT tm TM) (objs : T AObj) (t : Nat) (x i : Operand) (ok : Bool) : QOr (fA tb tm objs t x i ok) (fA tb TM objs t x i ok) := by
 unfold fA
 cases dw (tb.und t) with
 | none => exact .inl rfl
 | some p =>
  rcases aB h x with e | e <;> rw [e]
  ·exact .inl rfl
  ·rcases aB h i with e | e <;> rw [e]
   ·left; cases aE tm x <;> rfl
   ·exact .inr rfl
theorem o0 {tb : Tab} {tm TM : T AV} (h : SubT tm TM) (hp : AHeap) (t : Nat) (r : Option Operand) : LOr (dA tb tm hp t r) (dA tb TM hp t r) := by
 unfold dA
 cases dw (tb.und t) with
 | none => exact .inl rfl
 | some p =>
  cases r with
  | none => exact .inr rfl
  | some x =>
   rcases aB h x with e | e <;> simp only [e]
   ·exact .inl rfl
   ·exact .inr rfl
theorem lV {tb : Tab} {tm TM : T AV} (h : SubT tm TM) (hp : AHeap) (t : Nat) (x k v : Operand) : LOr (du tb tm hp t x k v) (du tb TM hp t x k v) := by
 unfold du
 cases dw (tb.und t) with
 | none => exact .inl rfl
 | some p =>
  rcases aB h x with e | e <;> rw [e]
  ·exact .inl rfl
  ·rcases aB h k with e | e <;> rw [e]
   ·left
    cases aE tm x with
    | none => rfl
    | some u => cases u <;> rfl
   ·rcases aB h v with e | e <;> rw [e]
    ·left
     cases aE tm x with
     | none => rfl
     | some u => cases u <;> (cases aE tm k <;> rfl)
    ·exact .inr rfl
theorem nc {tb : Tab} {tm TM : T AV} (h : SubT tm TM) (hp : AHeap) (t : Nat) (x k : Operand) : LOr (dU tb tm hp t x k) (dU tb TM hp t x k) := by
 unfold dU
 cases dw (tb.und t) with
 | none => exact .inl rfl
 | some p =>
  rcases aB h x with e | e <;> rw [e]
  ·exact .inl rfl
  ·rcases aB h k with e | e <;> rw [e]
   ·left
    cases aE tm x with
    | none => rfl
    | some u => cases u <;> rfl
   ·exact .inr rfl
theorem lg {tm TM : T AV} (h : SubT tm TM) (hp : AHeap) (x s v : Operand) : LOr (cY tm hp x s v) (cY TM hp x s v) := by
 unfold cY
 rcases aB h x with e | e <;> rw [e]
 ·exact .inl rfl
 ·rcases aB h s with e | e <;> rw [e]
  ·left
   cases aE tm x with
   | none => rfl
   | some u => cases u <;> rfl
  ·rcases aB h v with e | e <;> rw [e]
   ·left
    cases aE tm x with
    | none => rfl
    | some u =>
     cases u <;> try rfl
     cases aE tm s with
     | none => rfl
     | some y => cases y <;> rfl
   ·exact .inr rfl

inductive ROr (a b : Res) : Prop where
 | nq (h : a = .q none)
 | nl (h : a = .l none)
 | same (h : b = a)
theorem QOr.res {a b : Option AV} (h : QOr a b) : ROr (.q a) (.q b) := by
 rcases h with h | h
 ·exact .nq (by rw [h])
 ·exact .same (by rw [h])
theorem LOr.res {a b : Option (AV × AHeap)} (h : LOr a b) : ROr (.l a) (.l b) := by
 rcases h with h | h
 ·exact .nl (by rw [h])
 ·exact .same (by rw [h])
theorem oV {tb : Tab} {tm TM : T AV} (h : SubT tm TM) (hp : AHeap) (s d : Nat) (x : Operand) : ROr (dk tb tm hp s d x) (dk tb TM hp s d x) := by
 unfold dk
 rcases aB h x with e | e <;> rw [e]
 ·have : ∀ (a b : Option TypeDesc), (match a, b, (none : Option AV) with
   | _, _, none => (0 : Nat)
   | _, _, _ => 1) = 0 := fun a b => rfl
  refine .nq ?_
  repeat' (first | rfl | contradiction | split)
 ·exact .same rfl

def rW : Op -> Bool
 | .call c => match c.callee with
  | .value _ => false
  | _ => true
 | _ => true
theorem sW {tb : Tab} {tm TM : T AV} (h : SubT tm TM) (hp : AHeap) {op : Op} (hn : rW op = true) (call call' : nu) : ROr (cP tb call tm hp op) (cP tb call' TM hp op) := by
 cases op <;> first
  | exact .nq rfl
  | exact QOr.res (aB h _)
  | exact QOr.res (tP h _ _ _)
  | exact .same rfl
  | exact LOr.res (vE h _ _ _)
  | exact QOr.res (rA h _ _)
  | exact LOr.res (lc h _ _ _ _)
  | exact QOr.res (tM h _ _ _)
  | exact LOr.res (rJ h _ _ _ _)
  | exact QOr.res (ng h _)
  | exact QOr.res (ry h _ _ _ _)
  | exact QOr.res (tR h _ _)
  | exact oV h _ _ _ _
  | exact QOr.res (m9 h _ _ _)
  | exact LOr.res (lT h _ _ _ _)
  | exact QOr.res (rH h _ _ _ _ _ _)
  | exact QOr.res (lP h _ _ _)
  | exact QOr.res (rC h _ _ _)
  | exact QOr.res (lR h _ _ _)
  | exact QOr.res (rF h _ _ _)
  | exact QOr.res (oX h _ _)
  | exact QOr.res (qb h _ _ _ _ _)
  | exact LOr.res (o0 h _ _ _)
  | exact LOr.res (lV h _ _ _ _ _)
  | exact LOr.res (nc h _ _ _ _)
  | exact LOr.res (lg h _ _ _ _)
  | skip
 rename_i c
 obtain ⟨callee, args, ts⟩ := c
 cases callee with
 | value f => cases hn
 | invoke r m => exact .nq rfl
 | builtin b => cases b <;> first
  | exact .nq rfl
  | exact QOr.res (vG h _ _)
  | exact QOr.res (qc h _ _)
  | exact LOr.res (p8 h _ _ _)
  | exact LOr.res (tL h _ _ _)

def ay (callq : gq) : nu := fun f a h => match callq f a h with
 | .ok v h' => some (v, h')
 | .bad => none
theorem lW {tb : Tab} {tm TM : T AV} (h : SubT tm TM) {hp : AHeap} {op : Op} {call call' : nu} {v : AV} (e : cP tb call tm hp op = .q (some v)) : cP tb call' TM hp op = .q (some v) := by
 cases hn : rW op with
 | true =>
  rcases sW h hp hn call call' with g | g | g
  ·rw [g] at e; cases e
  ·rw [g] at e; cases e
  ·rw [g]; exact e
 | false =>
  cases op <;> try (cases hn; done)
  rename_i c
  obtain ⟨callee, args, ts⟩ := c
  cases callee with
  | value f => cases e
  | invoke r m => cases hn
  | builtin b => cases hn
theorem Bv {tb : Tab} {tm TM : T AV} (h : SubT tm TM) {hp : AHeap} {op : Op} {callq : gq} (hc : fc tb callq) {v : AV} {h' : AHeap} (e : cP tb (ay callq) tm hp op = .l (some (v, h'))) :
  Evt fun K => cP tb (cm tb (run tb K)) TM hp op = .l (some (v, h')) := by
 cases hn : rW op with
 | true =>
  refine Evt.of fun K => ?_
  rcases sW h hp hn (ay callq) (cm tb (run tb K)) with g | g | g
  ·rw [g] at e; cases e
  ·rw [g] at e; cases e
  ·rw [g]; exact e
 | false =>
  cases op <;> try (cases hn; done)
  rename_i c
  obtain ⟨callee, args, ts⟩ := c
  cases callee with
  | invoke r m => cases hn
  | builtin b => cases hn
  | value f =>
   have e : Res.l (co tm hp (ay callq) f args) = .l (some (v, h')) := e
   simp only [Res.l.injEq] at e
   unfold co at e
   rcases aB h f with g | g
   ·rw [g] at e; cases e
   rcases gD h args.toList with g2 | g2
   ·rw [g2] at e
    revert e
    cases aE tm f with
    | none => intro e; cases e
    | some u => cases u <;> (intro e; cases e)
   ·cases hf : aE tm f with
    | none => rw [hf] at e; cases e
    | some u =>
     cases u <;> try (rw [hf] at e; cases e; done)
     rename_i gg caps
     cases ha : cf tm args.toList with
     | none => rw [hf, ha] at e; cases e
     | some l =>
      rw [hf, ha] at e
      simp only at e
      unfold ay at e
      cases hr : callq gg (l ++ caps) hp with
      | bad => rw [hr] at e; cases e
      | ok x g' =>
       rw [hr] at e
       simp only [Option.some.injEq, Prod.mk.injEq] at e
       obtain ⟨rfl, rfl⟩ := e
       refine (hc _ _ _ _ _ hr).mono fun K hK => ?_
       simp only [cP, fz, co, g, g2, hf, ha]
       exact congrArg Res.l hK
theorem kY {tm TM : T AV} (h : SubT tm TM) {ops : List Oper} {o : Oper} {b : Bool} (e : aJ ops tm o = some b) : aJ ops TM o = some b := by
 unfold aJ at e ⊢
 cases hg : o.guard with
 | none => rw [hg] at e; exact e
 | some p =>
  obtain ⟨j, want⟩ := p
  rw [hg] at e
  simp only at e ⊢
  cases hj : ops[j]? with
  | none => rw [hj] at e; cases e
  | some oj =>
   rw [hj] at e
   simp only at e ⊢
   cases hd : oj.dst with
   | none => rw [hd] at e; cases e
   | some d =>
    rw [hd] at e
    simp only at e ⊢
    cases ht : tm.get d with
    | none => rw [ht] at e; cases e
    | some v =>
     rw [ht] at e
     rw [h d v ht]
     exact e
theorem lN {tb : Tab} {tm TM : T AV} (h : SubT tm TM) {ops : List Oper} {o : Oper} {hp : AHeap} {callq : gq} (hc : fc tb callq) {v : AV} {h' : AHeap} {k : Nat} (e : gJ tb (ay callq) ops tm hp o = some (v, h', k)) :
  Evt fun K => gJ tb (cm tb (run tb K)) ops TM hp o = some (v, h', k) := by
 unfold gJ at e
 cases hw : aJ ops tm o with
 | none => rw [hw] at e; cases e
 | some b =>
  rw [hw] at e
  have hW := kY h hw
  cases b with
  | false => exact Evt.of fun K => by unfold gJ; rw [hW]; exact e
  | true =>
   simp only at e
   cases ho : cP tb (ay callq) tm hp o.op with
   | q x =>
    rw [ho] at e
    cases x with
    | none => cases e
    | some u =>
     refine Evt.of fun K => ?_
     unfold gJ
     rw [hW]
     simp only
     rw [lW h ho]
     exact e
   | l x =>
    rw [ho] at e
    cases x with
    | none => cases e
    | some p =>
     obtain ⟨u, g⟩ := p
     refine (Bv h hc ho).mono fun K hK => ?_
     unfold gJ
     rw [hW]
     simp only
     rw [hK]
     exact e
theorem SubT.set {tm TM : T AV} (h : SubT tm TM) (d : Nat) (v : AV) : SubT (tm.set d v) (TM.set d v) := by
 intro k u hk
 rw [lA] at hk ⊢
 split at hk
 ·rename_i e
  rw [if_pos e]
  exact hk
 ·rename_i e
  rw [if_neg e]
  exact h k u hk
theorem iI {tm TM : T AV} (h : SubT tm TM) {n : Nat} {d : Option Nat} {v : AV} {tm' : T AV} (e : bw tm n d v = some tm') : ∃ TM', bw TM n d v = some TM' /\ SubT tm' TM' := by
 unfold bw at e ⊢
 cases d with
 | none =>
  simp only [Option.some.injEq] at e
  subst e
  exact ⟨TM, rfl, h⟩
 | some d =>
  simp only at e ⊢
  cases hb : Nat.blt d n with
  | false => rw [hb] at e; cases e
  | true =>
   rw [hb] at e
   simp only [Option.some.injEq] at e
   subst e
   exact ⟨_, rfl, h.set d v⟩
def DF (a b : Ent) : Prop := a.i = b.i /\ a.o = b.o /\ SubT a.tm b.tm /\ a.v = b.v /\ a.kind = b.kind
def EntsR : List Ent -> List Ent -> Prop
 | [], [] => True
 | a :: l, b :: m => DF a b /\ EntsR l m
 | _, _ => False
theorem jM {tb : Tab} {n : Nat} {ops : List Oper} {callq : gq} (hc : fc tb callq) : ∀ {rest : List Oper} {i : Nat} {tm TM tm' : T AV} {h h' : AHeap} {es : List Ent} {ms : List (Nat × AHeap)}, SubT tm TM ->
  aV tb (ay callq) n ops i rest tm h = some (es, ms, tm', h') -> ∃ es' TM', SubT tm' TM' /\ EntsR es es' /\ Evt fun K => aV tb (cm tb (run tb K)) n ops i rest TM h = some (es', ms, TM', h')
 | [], i, tm, TM, tm', h, h', es, ms, hs, e => by
  unfold aV at e
  simp only [Option.some.injEq, Prod.mk.injEq] at e
  obtain ⟨rfl, rfl, rfl, rfl⟩ := e
  exact ⟨[], TM, hs, trivial, Evt.of fun K => rfl⟩
 | o :: rest, i, tm, TM, tm', h, h', es, ms, hs, e => by
  unfold aV at e
  cases h1 : gJ tb (ay callq) ops tm h o with
  | none => rw [h1] at e; cases e
  | some p =>
   obtain ⟨v, g, k⟩ := p
   rw [h1] at e
   simp only at e
   cases hp : bw tm n o.dst v with
   | none => rw [hp] at e; cases e
   | some tm1 =>
    rw [hp] at e
    simp only at e
    obtain ⟨TM1, hP, hs1⟩ := iI hs hp
    cases ht : aV tb (ay callq) n ops (i + 1) rest tm1 g with
    | none => rw [ht] at e; cases e
    | some q =>
     obtain ⟨es1, ms1, tm2, g2⟩ := q
     rw [ht] at e
     simp only [Option.some.injEq, Prod.mk.injEq] at e
     obtain ⟨rfl, rfl, rfl, rfl⟩ := e
     obtain ⟨es', TM', hs', hes, hE⟩ := jM hc hs1 ht
     refine ⟨⟨i, o, TM, v, k⟩ :: es', TM', hs', ⟨⟨rfl, rfl, hs, rfl, rfl⟩, hes⟩, ((lN hs hc h1).and hE).mono fun K ⟨a, b⟩ => ?_⟩
     unfold aV
     simp only [a, hP, b]
theorem EntsR.all {tb : Tab} {b : List Nat} {louds : List Nat} {marks : List (Nat × AHeap)} : ∀ {es es' : List Ent}, EntsR es es' -> es.all (iA tb b louds marks) = true -> es'.all (iA tb b louds marks) = true
 | [], [], _, _ => rfl
 | a :: l, c :: m, ⟨⟨h1, h2, h3, h4, h5⟩, hr⟩, e => by
  simp only [List.all_cons, Bool.and_eq_true] at e ⊢
  refine ⟨?_, EntsR.all hr e.2⟩
  have e := e.1
  unfold iA at e ⊢
  rw [<- h5, <- h1]
  split at e
  ·exact e
  ·simp only [List.all_eq_true] at e ⊢
   intro x hx
   have := e x hx
   simp only [Bool.or_eq_true] at this ⊢
   rcases this with g | g
   ·exact .inl g
   ·right
    unfold lX at g ⊢
    rw [<- h2, <- h4]
    revert g
    cases ho : cP tb (fun _ _ _ => none) a.tm x.2 a.o.op with
    | l r => intro g; cases g
    | q r =>
     cases r with
     | none => intro g; cases g
     | some v =>
      intro g
      rw [lW h3 ho]
      exact g
  ·rfl
 | [], _ :: _, h, _ => h.elim
 | _ :: _, [], h, _ => h.elim
theorem EntsR.louds : ∀ {es es' : List Ent}, EntsR es es' -> (es.filterMap fun e => if e.kind = 2 then some e.i else none) = (es'.filterMap fun e => if e.kind = 2 then some e.i else none)
 | [], [], _ => rfl
 | a :: l, c :: m, ⟨⟨h1, h2, h3, h4, h5⟩, hr⟩ => by
  simp only [List.filterMap_cons, h1, h5, EntsR.louds hr]
 | [], _ :: _, h => h.elim
 | _ :: _, [], h => h.elim
theorem jm {tb : Tab} {n : Nat} {ops : List Oper} {callq : gq} (hc : fc tb callq) : ∀ {rest : List Oper} {tm TM tm' : T AV} {h h' : AHeap}, SubT tm TM ->
  dE tb (ay callq) n ops rest tm h = some (tm', h') -> ∃ TM', SubT tm' TM' /\ Evt fun K => dE tb (cm tb (run tb K)) n ops rest TM h = some (TM', h')
 | [], tm, TM, tm', h, h', hs, e => by
  unfold dE at e
  simp only [Option.some.injEq, Prod.mk.injEq] at e
  obtain ⟨rfl, rfl⟩ := e
  exact ⟨TM, hs, Evt.of fun K => rfl⟩
 | o :: rest, tm, TM, tm', h, h', hs, e => by
  unfold dE at e
  cases h1 : gJ tb (ay callq) ops tm h o with
  | none => rw [h1] at e; cases e
  | some p =>
   obtain ⟨v, g, k⟩ := p
   rw [h1] at e
   simp only at e
   cases hp : bw tm n o.dst v with
   | none => rw [hp] at e; cases e
   | some tm1 =>
    rw [hp] at e
    simp only at e
    obtain ⟨TM1, hP, hs1⟩ := iI hs hp
    obtain ⟨TM', hs', hE⟩ := jm hc hs1 e
    refine ⟨TM', hs', ((lN hs hc h1).and hE).mono fun K ⟨a, b⟩ => ?_⟩
    unfold dE
    simp only [a, hP, b]
theorem wE {tb : Tab} {tm TM : T AV} (h : SubT tm TM) {op : Op} {r : AObj × (Nat -> AV)} (e : ud tb tm op = some r) : ud tb TM op = some r := by
 unfold ud at e ⊢
 cases op <;> try exact e
 case box t x =>
  simp only at e ⊢
  rcases aB h x with g | g
  ·rw [g] at e; cases e
  ·rw [g]; exact e
 case buildSlice t n ps =>
  simp only at e ⊢
  rcases fm h ps.toList with g | g
  ·exfalso
   rw [g] at e
   split at e
   ·split at e
    ·rename_i hx
     cases hx
    ·cases e
   ·cases e
  ·rw [g]; exact e
theorem tK {tb : Tab} {tm TM : T AV} (h : SubT tm TM) {ops : List Oper} {num : Nat} {o : Oper} {hp : AHeap} {callq : gq} (hc : fc tb callq) {v : AV} {h' : AHeap} {k : Nat} (e : ja tb (ay callq) ops num tm hp o = some (v, h', k)) :
  Evt fun K => ja tb (cm tb (run tb K)) ops num TM hp o = some (v, h', k) := by
 unfold ja at e
 cases hm : ev o.op with
 | false =>
  rw [hm] at e
  refine (lN h hc e).mono fun K hK => ?_
  unfold ja
  rw [hm]
  exact hK
 | true =>
  rw [hm] at e
  refine Evt.of fun K => ?_
  unfold ja
  rw [hm]
  simp only at e ⊢
  cases hw : aJ ops tm o with
  | none => rw [hw] at e; cases e
  | some b =>
   rw [hw] at e
   rw [kY h hw]
   cases b with
   | false => exact e
   | true =>
    simp only at e ⊢
    cases hk : ud tb tm o.op with
    | none => rw [hk] at e; cases e
    | some r => rw [hk] at e; rw [wE h hk]; exact e
theorem jf {tb : Tab} {n : Nat} {ops : List Oper} {base : Nat} {callq : gq} (hc : fc tb callq) : ∀ {rest : List Oper} {i : Nat} {tm TM tm' : T AV} {h h' : AHeap} {es : List Ent} {ms : List (Nat × AHeap)}, SubT tm TM ->
  bH tb (ay callq) n ops base i rest tm h = some (es, ms, tm', h') -> ∃ es' TM', SubT tm' TM' /\ EntsR es es' /\ Evt fun K => bH tb (cm tb (run tb K)) n ops base i rest TM h = some (es', ms, TM', h')
 | [], i, tm, TM, tm', h, h', es, ms, hs, e => by
  unfold bH at e
  simp only [Option.some.injEq, Prod.mk.injEq] at e
  obtain ⟨rfl, rfl, rfl, rfl⟩ := e
  exact ⟨[], TM, hs, trivial, Evt.of fun K => rfl⟩
 | o :: rest, i, tm, TM, tm', h, h', es, ms, hs, e => by
  unfold bH at e
  cases h1 : ja tb (ay callq) ops (base + i) tm h o with
  | none => rw [h1] at e; cases e
  | some p =>
   obtain ⟨v, g, k⟩ := p
   rw [h1] at e
   simp only at e
   cases hp : bw tm n o.dst v with
   | none => rw [hp] at e; cases e
   | some tm1 =>
    rw [hp] at e
    simp only at e
    obtain ⟨TM1, hP, hs1⟩ := iI hs hp
    cases ht : bH tb (ay callq) n ops base (i + 1) rest tm1 g with
    | none => rw [ht] at e; cases e
    | some q =>
     obtain ⟨es1, ms1, tm2, g2⟩ := q
     rw [ht] at e
     simp only [Option.some.injEq, Prod.mk.injEq] at e
     obtain ⟨rfl, rfl, rfl, rfl⟩ := e
     obtain ⟨es', TM', hs', hes, hE⟩ := jf hc hs1 ht
     refine ⟨⟨i, o, TM, v, k⟩ :: es', TM', hs', ⟨⟨rfl, rfl, hs, rfl, rfl⟩, hes⟩, ((tK hs hc h1).and hE).mono fun K ⟨a, b⟩ => ?_⟩
     unfold bH
     simp only [a, hP, b]
theorem EntsR.kinds (k : Nat) : ∀ {es es' : List Ent}, EntsR es es' -> fj k es = fj k es'
 | [], [], _ => rfl
 | a :: l, c :: m, ⟨⟨h1, h2, h3, h4, h5⟩, hr⟩ => by
  have ih := EntsR.kinds k hr
  unfold fj at ih ⊢
  simp only [List.filterMap_cons, <- h5, <- h1, ih]
 | [], _ :: _, h => h.elim
 | _ :: _, [], h => h.elim
theorem EntsR.allF {tb : Tab} {bt : Nat -> Nat -> Bool} {hards makers : List Nat} {marks : List (Nat × AHeap)} : ∀ {es es' : List Ent}, EntsR es es' -> es.all (tS tb bt hards makers marks) = true -> es'.all (tS tb bt hards makers marks) = true
 | [], [], _, _ => rfl
 | a :: l, c :: m, ⟨⟨h1, h2, h3, h4, h5⟩, hr⟩, e => by
  simp only [List.all_cons, Bool.and_eq_true] at e ⊢
  refine ⟨?_, EntsR.allF hr e.2⟩
  have e := e.1
  unfold tS at e ⊢
  rw [<- h5, <- h1]
  split at e
  ·exact e
  ·simp only [List.all_eq_true] at e ⊢
   intro x hx
   have := e x hx
   simp only [Bool.or_eq_true] at this ⊢
   rcases this with g | g
   ·exact .inl g
   ·right
    unfold lX at g ⊢
    rw [<- h2, <- h4]
    revert g
    cases ho : cP tb (fun _ _ _ => none) a.tm x.2 a.o.op with
    | l r => intro g; cases g
    | q r =>
     cases r with
     | none => intro g; cases g
     | some v =>
      intro g
      rw [lW h3 ho]
      exact g
  ·rfl
 | [], _ :: _, h, _ => h.elim
 | _ :: _, [], h, _ => h.elim
theorem oY {tb : Tab} {n : Nat} {ops : List Oper} {callq : gq} (hc : fc tb callq) {tm TM tm' : T AV} {h h' : AHeap} (hs : SubT tm TM) (e : fh tb (ay callq) n ops tm h = some (tm', h')) :
  ∃ TM', SubT tm' TM' /\ Evt fun K => fh tb (cm tb (run tb K)) n ops TM h = some (TM', h') := by
 unfold fh at e
 cases ho : tq (am ops []) ops.length (bM ops) with
 | false => rw [ho] at e; cases e
 | true =>
  rw [ho] at e
  simp only at e
  cases ht : bH tb (ay callq) n ops h.next 0 ((bM ops).filterMap fun i => ops[i]?) tm ⟨h.next + ops.length, h.objs⟩ with
  | none => rw [ht] at e; cases e
  | some p =>
   obtain ⟨es, ms, tm1, h1⟩ := p
   rw [ht] at e
   simp only at e
   obtain ⟨es', TM', hs', hes, hE⟩ := jf hc hs ht
   split at e
   ·rename_i hall
    simp only [Option.some.injEq, Prod.mk.injEq] at e
    obtain ⟨rfl, rfl⟩ := e
    rw [hes.kinds 2, hes.kinds 3] at hall
    have hall := hes.allF hall
    exact ⟨TM', hs', hE.mono fun K hK => by unfold fh; simp only [ho, hK, hall]⟩
   ·cases e
theorem kL {tb : Tab} {n : Nat} {ops : List Oper} {callq : gq} (hc : fc tb callq) {tm TM tm' : T AV} {h h' : AHeap} (hs : SubT tm TM) (e : dG tb (ay callq) n ops tm h = some (tm', h')) :
  ∃ TM', SubT tm' TM' /\ Evt fun K => dG tb (cm tb (run tb K)) n ops TM h = some (TM', h') := by
 unfold dG at e
 cases hD : gS ops with
 | false => rw [hD] at e; cases e
 | true =>
  rw [hD] at e
  simp only at e
  cases hF : eO ops with
  | true =>
   rw [hF] at e
   obtain ⟨TM', hs', hE⟩ := jm hc hs e
   exact ⟨TM', hs', hE.mono fun K hK => by unfold dG; simp only [hD, hF, hK]⟩
  | false =>
   rw [hF] at e
   simp only at e
   cases hW : fP ops with
   | true =>
    rw [hW] at e
    obtain ⟨TM', g1, g2⟩ := oY hc hs e
    exact ⟨TM', g1, g2.mono fun K hK => by unfold dG; simp only [hD, hF, hW, hK]⟩
   | false =>
   rw [hW] at e
   simp only at e
   cases ht : aV tb (ay callq) n ops 0 ops tm h with
   | none => rw [ht] at e; cases e
   | some p =>
    obtain ⟨es, ms, tm1, h1⟩ := p
    rw [ht] at e
    simp only at e
    obtain ⟨es', TM', hs', hes, hE⟩ := jM hc hs ht
    have hl := hes.louds
    cases ms with
    | nil =>
     simp only [Option.some.injEq, Prod.mk.injEq] at e
     obtain ⟨rfl, rfl⟩ := e
     exact ⟨TM', hs', hE.mono fun K hK => by unfold dG; simp only [hD, hF, hW, hK]⟩
    | cons m ms =>
     simp only at e
     split at e
     ·rename_i hall
      simp only [Option.some.injEq, Prod.mk.injEq] at e
      obtain ⟨rfl, rfl⟩ := e
      rw [hl] at hall
      have hall := hes.all hall
      exact ⟨TM', hs', hE.mono fun K hK => by unfold dG; simp only [hD, hF, hW, hK, hall]⟩
     ·cases e

end
end Go.Proofs.YtndhhgbpcmfeiaaGreatDoor.Ev
