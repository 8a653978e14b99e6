/- The quick evaluator, part 2b: more slots, the same values. -/
import Derived.Test.YtndhhgbpcmfeiaaGreatDoorOEvR
namespace Go.Proofs.YtndhhgbpcmfeiaaGreatDoor.Ev
open Go.RowKit
noncomputable section

def SubT (tm TM : T AV) : Prop := ∀ k v, tm.get k = some v -> TM.get k = some v
theorem Af {tm TM : T AV} (h : SubT tm TM) {x : Operand} {v : AV} (e : bf tm x = some v) : bf TM x = some v := by
 cases x with
 | tmp t => exact h t v e
 | const c => exact e
 | func f => exact e
 | global g => exact e
theorem aW {tm TM : T AV} (h : SubT tm TM) (x : Operand) : bf tm x = none \/ bf TM x = bf tm x := by
 cases hx : bf tm x with
 | none => exact .inl rfl
 | some v => exact .inr (Af h hx)
theorem jw {tm TM : T AV} (h : SubT tm TM) : ∀ xs : List Operand, dy tm xs = none \/ dy TM xs = dy tm xs
 | [] => .inr rfl
 | x :: xs => by
  unfold dy
  rcases aW h x with e | e
  ·rw [e]; exact .inl rfl
  ·rw [e]
   rcases jw h xs with e | e
   ·rw [e]; left; cases bf tm x <;> rfl
   ·rw [e]; exact .inr rfl
theorem gW {tm TM : T AV} (h : SubT tm TM) : ∀ xs : List (Nat × Operand), cj tm xs = none \/ cj TM xs = cj tm xs
 | [] => .inr rfl
 | (i, x) :: xs => by
  unfold cj
  rcases aW h x with e | e
  ·rw [e]; exact .inl rfl
  ·rw [e]
   rcases gW h xs with e | e
   ·rw [e]; left; cases bf tm x <;> rfl
   ·rw [e]; exact .inr rfl
theorem vz {tm TM : T AV} (h : SubT tm TM) (n : Nat) (lo hi : Option Operand) : cY tm n lo hi = none \/ cY TM n lo hi = cY tm n lo hi := by
 unfold cY
 cases hi with
 | none =>
  cases lo with
  | none => exact .inr rfl
  | some x =>
   rcases aW h x with e | e
   ·simp only [e]; exact .inl rfl
   ·simp only [e]; exact .inr trivial
 | some y =>
  rcases aW h y with e | e
  ·simp only [e]; exact .inl rfl
  ·simp only [e]
   cases lo with
   | none => exact .inr rfl
   | some x =>
    rcases aW h x with e | e
    ·left; simp only [e]; cases fG (bf tm y) <;> rfl
    ·simp only [e]; exact .inr trivial

def QOr (a b : Option AV) : Prop := a = none \/ b = a
theorem zE {tm TM : T AV} (h : SubT tm TM) (c x y : Operand) : QOr (ig tm c x y) (ig TM c x y) := by
 unfold ig
 rcases aW h c with e | e
 ·rw [e]; exact .inl rfl
 ·rw [e]
  cases bf tm c with
  | none => exact .inl rfl
  | some v =>
   cases v <;> try exact .inl rfl
   rename_i b
   cases b with
   | true => exact aW h x
   | false => exact aW h y
theorem zx {tb : Tab} {tm TM : T AV} (h : SubT tm TM) (objs : T AObj) (t : Nat) (x : Operand) : QOr (jf tb tm objs t x) (jf tb TM objs t x) := by
 unfold jf
 rcases aW h x with e | e <;> rw [e]
 ·exact .inl rfl
 ·exact .inr rfl
theorem qH {tm TM : T AV} (h : SubT tm TM) (x : Operand) : QOr (eg tm x) (eg TM x) := by
 unfold eg
 rcases aW h x with e | e <;> rw [e]
 ·exact .inl rfl
 ·exact .inr rfl
theorem zH {tm TM : T AV} (h : SubT tm TM) (op : UnOp) (x : Operand) : QOr (ii tm op x) (ii TM op x) := by
 unfold ii
 rcases aW h x with e | e <;> rw [e]
 ·left; cases op <;> rfl
 ·exact .inr rfl
theorem vG {tb : Tab} {tm TM : T AV} (h : SubT tm TM) (op : BinOp) (t : Nat) (x y : Operand) : QOr (iN tb tm op t x y) (iN tb TM op t x y) := by
 unfold iN
 cases ns y with
 | true =>
  simp only
  rcases aW h x with e | e <;> rw [e]
  ·exact .inl rfl
  ·exact .inr rfl
 | false =>
 simp only
 rcases aW h x with e | e <;> rw [e]
 ·exact .inl rfl
 ·rcases aW h y with e | e <;> rw [e]
  ·left; cases bf tm x <;> rfl
  ·exact .inr rfl
theorem vI {tb : Tab} {tm TM : T AV} (h : SubT tm TM) (t : Nat) (ps : Array (Nat × Operand)) : QOr (gQ tb tm t ps) (gQ tb TM t ps) := by
 unfold gQ
 rcases gW h ps.toList with e | e <;> rw [e]
 ·left; repeat' (first | rfl | contradiction | split)
 ·exact .inr rfl
theorem qD {tm TM : T AV} (h : SubT tm TM) (fn : Fn) (first captured : Array Operand) : QOr (ef tm fn first captured) (ef TM fn first captured) := by
 unfold ef
 rcases jw h captured.toList with e | e <;> rw [e]
 ·left; cases fn <;> cases first.toList <;> rfl
 ·exact .inr rfl
theorem vP {tb : Tab} {tm TM : T AV} (h : SubT tm TM) (objs : T AObj) (t : Nat) (x : Operand) (lo hi mx : Option Operand) : QOr (eV tb tm objs t x lo hi mx) (eV tb TM objs t x lo hi mx) := by
 unfold eV
 rcases aW h x with e | e <;> rw [e]
 ·left
  cases mx <;> cases tb.und t <;> try rfl
  rename_i d
  cases d <;> rfl
 ·have hb := fun n => vz h n lo hi
  cases mx with
  | some m => exact .inl rfl
  | none =>
   cases tb.und t with
   | none => exact .inl rfl
   | some d =>
    cases bf tm x with
    | none => left; cases d <;> rfl
    | some v =>
     cases d <;> cases v <;> try exact .inl rfl
     case array.ptr len e b o =>
      cases o with
      | succ o => exact .inl rfl
      | zero =>
       simp only [kF]
       rcases hb len with g | g <;> rw [g]
       ·left; repeat' (first | rfl | contradiction | split)
       ·exact .inr rfl
     case slice.nils e =>
      simp only
      rcases hb 0 with g | g <;> rw [g]
      ·exact .inl rfl
      ·exact .inr rfl
     case slice.slice e b o n sz =>
      simp only [iB]
      rcases hb n with g | g <;> rw [g]
      ·left; repeat' (first | rfl | contradiction | split)
      ·exact .inr rfl
     case string.str s =>
      simp only [kG]
      rcases hb s.length with g | g <;> rw [g]
      ·exact .inl rfl
      ·exact .inr rfl
theorem pj {tb : Tab} {tm TM : T AV} (h : SubT tm TM) (s : Nat) (x : Operand) (f : Nat) : QOr (dH tb tm s x f) (dH tb TM s x f) := by
 unfold dH
 rcases aW h x with e | e <;> rw [e]
 ·left; cases dh (tb.und s) <;> rfl
 ·exact .inr rfl
theorem vK {tb : Tab} {tm TM : T AV} (h : SubT tm TM) (s : Nat) (x : Operand) (f : Nat) : QOr (gR tb tm s x f) (gR tb TM s x f) := by
 unfold gR
 rcases aW h x with e | e <;> rw [e]
 ·left; cases dh (tb.und s) <;> rfl
 ·exact .inr rfl
theorem pm {tb : Tab} {tm TM : T AV} (h : SubT tm TM) (t : Nat) (x y : Operand) : QOr (dI tb tm t x y) (dI tb TM t x y) := by
 unfold dI
 rcases aW h x with e | e <;> rw [e]
 ·left
  cases tb.und t <;> try rfl
  rename_i d
  cases d <;> rfl
 ·rcases aW h y with e | e <;> rw [e]
  ·left
   cases tb.und t <;> try rfl
   rename_i d
   cases d <;> cases bf tm x <;> try rfl
   all_goals
    rename_i v
    cases v <;> rfl
  ·exact .inr rfl
theorem vN {tb : Tab} {tm TM : T AV} (h : SubT tm TM) (t : Nat) (x y : Operand) : QOr (gS tb tm t x y) (gS tb TM t x y) := by
 unfold gS
 rcases aW h x with e | e <;> rw [e]
 ·left
  cases tb.und t <;> try rfl
  rename_i d
  cases d <;> rfl
 ·rcases aW h y with e | e <;> rw [e]
  ·left
   cases tb.und t <;> try rfl
   rename_i d
   cases d <;> cases bf tm x <;> try rfl
   all_goals
    rename_i v
    cases v <;> rfl
  ·exact .inr rfl
theorem sE {tm TM : T AV} (h : SubT tm TM) (x : Operand) (i : Nat) : QOr (eT tm x i) (eT TM x i) := by
 unfold eT
 rcases aW h x with e | e <;> rw [e]
 ·exact .inl rfl
 ·exact .inr rfl
theorem BF {tb : Tab} {tm TM : T AV} (h : SubT tm TM) (args : Array Operand) (ts : Array Nat) : QOr (mq tb tm args ts) (mq tb TM args ts) := by
 unfold mq
 cases ts.toList with
 | nil => exact .inl rfl
 | cons t ts =>
  cases args.toList with
  | nil => exact .inl rfl
  | cons x xs =>
   cases xs with
   | cons y ys => exact .inl rfl
   | nil =>
    simp only
    rcases aW h x with e | e <;> rw [e]
    ·left; cases tb.und t <;> rfl
    ·exact .inr rfl
theorem tX {tm TM : T AV} (h : SubT tm TM) (mx : Bool) (args : Array Operand) : QOr (dW tm mx args) (dW TM mx args) := by
 unfold dW
 rcases jw h args.toList with e | e <;> rw [e]
 ·exact .inl rfl
 ·exact .inr rfl

def LOr (a b : Option (AV × AHeap)) : Prop := a = none \/ b = a
theorem BD {tb : Tab} {tm TM : T AV} (h : SubT tm TM) (hp : AHeap) (t : Nat) (x : Operand) : LOr (mj tb tm hp t x) (mj tb TM hp t x) := by
 unfold mj
 rcases aW h x with e | e <;> rw [e]
 ·exact .inl rfl
 ·exact .inr rfl
theorem od {tb : Tab} {tm TM : T AV} (h : SubT tm TM) (hp : AHeap) (t n : Nat) (ps : Array (Nat × Operand)) : LOr (dg tb tm hp t n ps) (dg tb TM hp t n ps) := by
 unfold dg
 rcases gW h ps.toList with e | e <;> rw [e]
 ·left; repeat' (first | rfl | contradiction | split)
 ·exact .inr rfl
theorem po {tb : Tab} {tm TM : T AV} (h : SubT tm TM) (hp : AHeap) (t : Nat) (x y : Operand) : LOr (dJ tb tm hp t x y) (dJ tb TM hp t x y) := by
 unfold dJ
 rcases aW h x with e | e <;> rw [e]
 ·left
  cases tb.und t <;> try rfl
  rename_i d
  cases d <;> rfl
 ·rcases aW h y with e | e <;> rw [e]
  ·left
   cases tb.und t <;> try rfl
   rename_i d
   cases d <;> cases fG (bf tm x) <;> rfl
  ·exact .inr rfl
theorem vR {tb : Tab} {tm TM : T AV} (h : SubT tm TM) (hp : AHeap) (t : Nat) (x y : Operand) : LOr (eh tb tm hp t x y) (eh tb TM hp t x y) := by
 unfold eh
 rcases aW h x with e | e <;> rw [e]
 ·exact .inl rfl
 ·rcases aW h y with e | e <;> rw [e]
  ·left
   cases bf tm x <;> try rfl
   rename_i v
   cases v <;> rfl
  ·exact .inr rfl
theorem tT {tb : Tab} {tm TM : T AV} (h : SubT tm TM) (hp : AHeap) (args : Array Operand) (ts : Array Nat) : LOr (dG tb tm hp args ts) (dG tb TM hp args ts) := by
 unfold dG
 rcases jw h args.toList with e | e <;> rw [e]
 ·left
  cases ts.toList with
  | nil => rfl
  | cons t l => cases l <;> rfl
 ·exact .inr rfl
theorem zn {tb : Tab} {tm TM : T AV} (h : SubT tm TM) (hp : AHeap) (args : Array Operand) (ts : Array Nat) : LOr (kq tb tm hp args ts) (kq tb TM hp args ts) := by
 unfold kq
 rcases jw h args.toList with e | e <;> rw [e]
 ·left
  cases ts.toList <;> rfl
 ·exact .inr rfl

theorem tW {tb : Tab} {tm TM : T AV} (h : SubT tm TM) (objs : T AObj) (t : Nat) (x i : Operand) (ok : Bool) : QOr (fP tb tm objs t x i ok) (fP tb TM objs t x i ok) := by
 unfold fP
 cases dx (tb.und t) with
 | none => exact .inl rfl
 | some p =>
  rcases aW h x with e | e <;> rw [e]
  ·exact .inl rfl
  ·rcases aW h i with e | e <;> rw [e]
   ·left; cases bf tm x <;> rfl
   ·exact .inr rfl
theorem sI {tb : Tab} {tm TM : T AV} (h : SubT tm TM) (hp : AHeap) (t : Nat) (r : Option Operand) : LOr (eU tb tm hp t r) (eU tb TM hp t r) := by
 unfold eU
 cases dx (tb.und t) with
 | none => exact .inl rfl
 | some p =>
  cases r with
  | none => exact .inr rfl
  | some x =>
   rcases aW h x with e | e <;> simp only [e]
   ·exact .inl rfl
   ·exact .inr rfl
theorem pq {tb : Tab} {tm TM : T AV} (h : SubT tm TM) (hp : AHeap) (t : Nat) (x k v : Operand) : LOr (dK tb tm hp t x k v) (dK tb TM hp t x k v) := by
 unfold dK
 cases dx (tb.und t) with
 | none => exact .inl rfl
 | some p =>
  rcases aW h x with e | e <;> rw [e]
  ·exact .inl rfl
  ·rcases aW h k with e | e <;> rw [e]
   ·left
    cases bf tm x with
    | none => rfl
    | some u => cases u <;> rfl
   ·rcases aW h v with e | e <;> rw [e]
    ·left
     cases bf tm x with
     | none => rfl
     | some u => cases u <;> (cases bf tm k <;> rfl)
    ·exact .inr rfl
theorem qF {tb : Tab} {tm TM : T AV} (h : SubT tm TM) (hp : AHeap) (t : Nat) (x k : Operand) : LOr (fA tb tm hp t x k) (fA tb TM hp t x k) := by
 unfold fA
 cases dx (tb.und t) with
 | none => exact .inl rfl
 | some p =>
  rcases aW h x with e | e <;> rw [e]
  ·exact .inl rfl
  ·rcases aW h k with e | e <;> rw [e]
   ·left
    cases bf tm x with
    | none => rfl
    | some u => cases u <;> rfl
   ·exact .inr rfl
theorem oh {tm TM : T AV} (h : SubT tm TM) (hp : AHeap) (x s v : Operand) : LOr (ed tm hp x s v) (ed TM hp x s v) := by
 unfold ed
 rcases aW h x with e | e <;> rw [e]
 ·exact .inl rfl
 ·rcases aW h s with e | e <;> rw [e]
  ·left
   cases bf tm x with
   | none => rfl
   | some u => cases u <;> rfl
  ·rcases aW h v with e | e <;> rw [e]
   ·left
    cases bf tm x with
    | none => rfl
    | some u =>
     cases u <;> try rfl
     cases bf tm s with
     | none => rfl
     | some y => cases y <;> rfl
   ·exact .inr rfl

inductive ROr (a b : Res) : Prop where
 | nq (h : a = .q none)
 | nl (h : a = .l none)
 | same (h : b = a)
theorem QOr.res {a b : Option AV} (h : QOr a b) : ROr (.q a) (.q b) := by
 rcases h with h | h
 ·exact .nq (by rw [h])
 ·exact .same (by rw [h])
theorem LOr.res {a b : Option (AV × AHeap)} (h : LOr a b) : ROr (.l a) (.l b) := by
 rcases h with h | h
 ·exact .nl (by rw [h])
 ·exact .same (by rw [h])
theorem sB {tb : Tab} {tm TM : T AV} (h : SubT tm TM) (hp : AHeap) (s d : Nat) (x : Operand) : ROr (dC tb tm hp s d x) (dC tb TM hp s d x) := by
 unfold dC
 rcases aW h x with e | e <;> rw [e]
 ·have : ∀ (a b : Option TypeDesc), (match a, b, (none : Option AV) with
   | _, _, none => (0 : Nat)
   | _, _, _ => 1) = 0 := fun a b => rfl
  refine .nq ?_
  repeat' (first | rfl | contradiction | split)
 ·exact .same rfl

def wl : Op -> Bool
 | .call c => match c.callee with
  | .value _ => false
  | _ => true
 | _ => true
theorem yi {tb : Tab} {tm TM : T AV} (h : SubT tm TM) (hp : AHeap) {op : Op} (hn : wl op = true) (call call' : qN) : ROr (d6 tb call tm hp op) (d6 tb call' TM hp op) := by
 cases op <;> first
  | exact .nq rfl
  | exact QOr.res (aW h _)
  | exact QOr.res (zE h _ _ _)
  | exact .same rfl
  | exact LOr.res (BD h _ _ _)
  | exact QOr.res (vI h _ _)
  | exact LOr.res (od h _ _ _ _)
  | exact QOr.res (zx h _ _ _)
  | exact LOr.res (vR h _ _ _ _)
  | exact QOr.res (qH h _)
  | exact QOr.res (vG h _ _ _ _)
  | exact QOr.res (zH h _ _)
  | exact sB h _ _ _ _
  | exact QOr.res (qD h _ _ _)
  | exact LOr.res (po h _ _ _ _)
  | exact QOr.res (vP h _ _ _ _ _ _)
  | exact QOr.res (pj h _ _ _)
  | exact QOr.res (vK h _ _ _)
  | exact QOr.res (pm h _ _ _)
  | exact QOr.res (vN h _ _ _)
  | exact QOr.res (sE h _ _)
  | exact QOr.res (tW h _ _ _ _ _)
  | exact LOr.res (sI h _ _ _)
  | exact LOr.res (pq h _ _ _ _ _)
  | exact LOr.res (qF h _ _ _ _)
  | exact LOr.res (oh h _ _ _ _)
  | skip
 rename_i c
 obtain ⟨callee, args, ts⟩ := c
 cases callee with
 | value f => cases hn
 | invoke r m => exact .nq rfl
 | builtin b => cases b <;> first
  | exact .nq rfl
  | exact QOr.res (BF h _ _)
  | exact QOr.res (tX h _ _)
  | exact LOr.res (tT h _ _ _)
  | exact LOr.res (zn h _ _ _)

def aS (callq : ji) : qN := fun f a h => match callq f a h with
 | .ok v h' => some (v, h')
 | .bad => none
theorem pu {tb : Tab} {tm TM : T AV} (h : SubT tm TM) {hp : AHeap} {op : Op} {call call' : qN} {v : AV} (e : d6 tb call tm hp op = .q (some v)) : d6 tb call' TM hp op = .q (some v) := by
 cases hn : wl op with
 | true =>
  rcases yi h hp hn call call' with g | g | g
  ·rw [g] at e; cases e
  ·rw [g] at e; cases e
  ·rw [g]; exact e
 | false =>
  cases op <;> try (cases hn; done)
  rename_i c
  obtain ⟨callee, args, ts⟩ := c
  cases callee with
  | value f => cases e
  | invoke r m => cases hn
  | builtin b => cases hn
theorem F1 {tb : Tab} {tm TM : T AV} (h : SubT tm TM) {hp : AHeap} {op : Op} {callq : ji} (hc : gO tb callq) {v : AV} {h' : AHeap} (e : d6 tb (aS callq) tm hp op = .l (some (v, h'))) :
  Evt fun K => d6 tb (dw tb (run tb K)) TM hp op = .l (some (v, h')) := by
 cases hn : wl op with
 | true =>
  refine Evt.of fun K => ?_
  rcases yi h hp hn (aS callq) (dw tb (run tb K)) with g | g | g
  ·rw [g] at e; cases e
  ·rw [g] at e; cases e
  ·rw [g]; exact e
 | false =>
  cases op <;> try (cases hn; done)
  rename_i c
  obtain ⟨callee, args, ts⟩ := c
  cases callee with
  | invoke r m => cases hn
  | builtin b => cases hn
  | value f =>
   have e : Res.l (cZ tm hp (aS callq) f args) = .l (some (v, h')) := e
   simp only [Res.l.injEq] at e
   unfold cZ at e
   rcases aW h f with g | g
   ·rw [g] at e; cases e
   rcases jw h args.toList with g2 | g2
   ·rw [g2] at e
    revert e
    cases bf tm f with
    | none => intro e; cases e
    | some u => cases u <;> (intro e; cases e)
   ·cases hf : bf tm f with
    | none => rw [hf] at e; cases e
    | some u =>
     cases u <;> try (rw [hf] at e; cases e; done)
     rename_i gg caps
     cases ha : dy tm args.toList with
     | none => rw [hf, ha] at e; cases e
     | some l =>
      rw [hf, ha] at e
      simp only at e
      unfold aS at e
      cases hr : callq gg (l ++ caps) hp with
      | bad => rw [hr] at e; cases e
      | ok x g' =>
       rw [hr] at e
       simp only [Option.some.injEq, Prod.mk.injEq] at e
       obtain ⟨rfl, rfl⟩ := e
       refine (hc _ _ _ _ _ hr).mono fun K hK => ?_
       simp only [d6, ie, cZ, g, g2, hf, ha]
       exact congrArg Res.l hK
theorem n8 {tm TM : T AV} (h : SubT tm TM) {ops : List Oper} {o : Oper} {b : Bool} (e : aX ops tm o = some b) : aX ops TM o = some b := by
 unfold aX at e ⊢
 cases hg : o.guard with
 | none => rw [hg] at e; exact e
 | some p =>
  obtain ⟨j, want⟩ := p
  rw [hg] at e
  simp only at e ⊢
  cases hj : ops[j]? with
  | none => rw [hj] at e; cases e
  | some oj =>
   rw [hj] at e
   simp only at e ⊢
   cases hd : oj.dst with
   | none => rw [hd] at e; cases e
   | some d =>
    rw [hd] at e
    simp only at e ⊢
    cases ht : tm.get d with
    | none => rw [ht] at e; cases e
    | some v =>
     rw [ht] at e
     rw [h d v ht]
     exact e
theorem ph {tb : Tab} {tm TM : T AV} (h : SubT tm TM) {ops : List Oper} {o : Oper} {hp : AHeap} {callq : ji} (hc : gO tb callq) {v : AV} {h' : AHeap} {k : Nat} (e : iG tb (aS callq) ops tm hp o = some (v, h', k)) :
  Evt fun K => iG tb (dw tb (run tb K)) ops TM hp o = some (v, h', k) := by
 unfold iG at e
 cases hw : aX ops tm o with
 | none => rw [hw] at e; cases e
 | some b =>
  rw [hw] at e
  have hW := n8 h hw
  cases b with
  | false => exact Evt.of fun K => by unfold iG; rw [hW]; exact e
  | true =>
   simp only at e
   cases ho : d6 tb (aS callq) tm hp o.op with
   | q x =>
    rw [ho] at e
    cases x with
    | none => cases e
    | some u =>
     refine Evt.of fun K => ?_
     unfold iG
     rw [hW]
     simp only
     rw [pu h ho]
     exact e
   | l x =>
    rw [ho] at e
    cases x with
    | none => cases e
    | some p =>
     obtain ⟨u, g⟩ := p
     refine (F1 h hc ho).mono fun K hK => ?_
     unfold iG
     rw [hW]
     simp only
     rw [hK]
     exact e
theorem SubT.set {tm TM : T AV} (h : SubT tm TM) (d : Nat) (v : AV) : SubT (tm.set d v) (TM.set d v) := by
 intro k u hk
 rw [vl] at hk ⊢
 split at hk
 ·rename_i e
  rw [if_pos e]
  exact hk
 ·rename_i e
  rw [if_neg e]
  exact h k u hk
theorem kD {tm TM : T AV} (h : SubT tm TM) {n : Nat} {d : Option Nat} {v : AV} {tm' : T AV} (e : ch tm n d v = some tm') : ∃ TM', ch TM n d v = some TM' /\ SubT tm' TM' := by
 unfold ch at e ⊢
 cases d with
 | none =>
  simp only [Option.some.injEq] at e
  subst e
  exact ⟨TM, rfl, h⟩
 | some d =>
  simp only at e ⊢
  cases hb : Nat.blt d n with
  | false => rw [hb] at e; cases e
  | true =>
   rw [hb] at e
   simp only [Option.some.injEq] at e
   subst e
   exact ⟨_, rfl, h.set d v⟩
def HU (a b : Ent) : Prop := a.i = b.i /\ a.o = b.o /\ SubT a.tm b.tm /\ a.v = b.v /\ a.kind = b.kind
def EntsR : List Ent -> List Ent -> Prop
 | [], [] => True
 | a :: l, b :: m => HU a b /\ EntsR l m
 | _, _ => False
theorem mr {tb : Tab} {n : Nat} {ops : List Oper} {callq : ji} (hc : gO tb callq) : ∀ {rest : List Oper} {i : Nat} {tm TM tm' : T AV} {h h' : AHeap} {es : List Ent} {ms : List (Nat × AHeap)}, SubT tm TM ->
  bI tb (aS callq) n ops i rest tm h = some (es, ms, tm', h') -> ∃ es' TM', SubT tm' TM' /\ EntsR es es' /\ Evt fun K => bI tb (dw tb (run tb K)) n ops i rest TM h = some (es', ms, TM', h')
 | [], i, tm, TM, tm', h, h', es, ms, hs, e => by
  unfold bI at e
  simp only [Option.some.injEq, Prod.mk.injEq] at e
  obtain ⟨rfl, rfl, rfl, rfl⟩ := e
  exact ⟨[], TM, hs, trivial, Evt.of fun K => rfl⟩
 | o :: rest, i, tm, TM, tm', h, h', es, ms, hs, e => by
  unfold bI at e
  cases h1 : iG tb (aS callq) ops tm h o with
  | none => rw [h1] at e; cases e
  | some p =>
   obtain ⟨v, g, k⟩ := p
   rw [h1] at e
   simp only at e
   cases hp : ch tm n o.dst v with
   | none => rw [hp] at e; cases e
   | some tm1 =>
    rw [hp] at e
    simp only at e
    obtain ⟨TM1, hP, hs1⟩ := kD hs hp
    cases ht : bI tb (aS callq) n ops (i + 1) rest tm1 g with
    | none => rw [ht] at e; cases e
    | some q =>
     obtain ⟨es1, ms1, tm2, g2⟩ := q
     rw [ht] at e
     simp only [Option.some.injEq, Prod.mk.injEq] at e
     obtain ⟨rfl, rfl, rfl, rfl⟩ := e
     obtain ⟨es', TM', hs', hes, hE⟩ := mr hc hs1 ht
     refine ⟨⟨i, o, TM, v, k⟩ :: es', TM', hs', ⟨⟨rfl, rfl, hs, rfl, rfl⟩, hes⟩, ((ph hs hc h1).and hE).mono fun K ⟨a, b⟩ => ?_⟩
     unfold bI
     simp only [a, hP, b]
theorem EntsR.all {tb : Tab} {b : List Nat} {louds : List Nat} {marks : List (Nat × AHeap)} : ∀ {es es' : List Ent}, EntsR es es' -> es.all (ko tb b louds marks) = true -> es'.all (ko tb b louds marks) = true
 | [], [], _, _ => rfl
 | a :: l, c :: m, ⟨⟨h1, h2, h3, h4, h5⟩, hr⟩, e => by
  simp only [List.all_cons, Bool.and_eq_true] at e ⊢
  refine ⟨?_, EntsR.all hr e.2⟩
  have e := e.1
  unfold ko at e ⊢
  rw [<- h5, <- h1]
  split at e
  ·exact e
  ·simp only [List.all_eq_true] at e ⊢
   intro x hx
   have := e x hx
   simp only [Bool.or_eq_true] at this ⊢
   rcases this with g | g
   ·exact .inl g
   ·right
    unfold pv at g ⊢
    rw [<- h2, <- h4]
    revert g
    cases ho : d6 tb (fun _ _ _ => none) a.tm x.2 a.o.op with
    | l r => intro g; cases g
    | q r =>
     cases r with
     | none => intro g; cases g
     | some v =>
      intro g
      rw [pu h3 ho]
      exact g
  ·rfl
 | [], _ :: _, h, _ => h.elim
 | _ :: _, [], h, _ => h.elim
theorem EntsR.louds : ∀ {es es' : List Ent}, EntsR es es' -> (es.filterMap fun e => if e.kind = 2 then some e.i else none) = (es'.filterMap fun e => if e.kind = 2 then some e.i else none)
 | [], [], _ => rfl
 | a :: l, c :: m, ⟨⟨h1, h2, h3, h4, h5⟩, hr⟩ => by
  simp only [List.filterMap_cons, h1, h5, EntsR.louds hr]
 | [], _ :: _, h => h.elim
 | _ :: _, [], h => h.elim
theorem lv {tb : Tab} {n : Nat} {ops : List Oper} {callq : ji} (hc : gO tb callq) : ∀ {rest : List Oper} {tm TM tm' : T AV} {h h' : AHeap}, SubT tm TM ->
  eZ tb (aS callq) n ops rest tm h = some (tm', h') -> ∃ TM', SubT tm' TM' /\ Evt fun K => eZ tb (dw tb (run tb K)) n ops rest TM h = some (TM', h')
 | [], tm, TM, tm', h, h', hs, e => by
  unfold eZ at e
  simp only [Option.some.injEq, Prod.mk.injEq] at e
  obtain ⟨rfl, rfl⟩ := e
  exact ⟨TM, hs, Evt.of fun K => rfl⟩
 | o :: rest, tm, TM, tm', h, h', hs, e => by
  unfold eZ at e
  cases h1 : iG tb (aS callq) ops tm h o with
  | none => rw [h1] at e; cases e
  | some p =>
   obtain ⟨v, g, k⟩ := p
   rw [h1] at e
   simp only at e
   cases hp : ch tm n o.dst v with
   | none => rw [hp] at e; cases e
   | some tm1 =>
    rw [hp] at e
    simp only at e
    obtain ⟨TM1, hP, hs1⟩ := kD hs hp
    obtain ⟨TM', hs', hE⟩ := lv hc hs1 e
    refine ⟨TM', hs', ((ph hs hc h1).and hE).mono fun K ⟨a, b⟩ => ?_⟩
    unfold eZ
    simp only [a, hP, b]
theorem Cp {tb : Tab} {tm TM : T AV} (h : SubT tm TM) {op : Op} {r : AObj × (Nat -> AV)} (e : Ac tb tm op = some r) : Ac tb TM op = some r := by
 unfold Ac at e ⊢
 cases op <;> try exact e
 case box t x =>
  simp only at e ⊢
  rcases aW h x with g | g
  ·rw [g] at e; cases e
  ·rw [g]; exact e
 case buildSlice t n ps =>
  simp only at e ⊢
  rcases gW h ps.toList with g | g
  ·exfalso
   rw [g] at e
   split at e
   ·split at e
    ·rename_i hx
     cases hx
    ·cases e
   ·cases e
  ·rw [g]; exact e
theorem zl {tb : Tab} {tm TM : T AV} (h : SubT tm TM) {ops : List Oper} {num : Nat} {o : Oper} {hp : AHeap} {callq : ji} (hc : gO tb callq) {v : AV} {h' : AHeap} {k : Nat} (e : lg tb (aS callq) ops num tm hp o = some (v, h', k)) :
  Evt fun K => lg tb (dw tb (run tb K)) ops num TM hp o = some (v, h', k) := by
 unfold lg at e
 cases hm : fq o.op with
 | false =>
  rw [hm] at e
  refine (ph h hc e).mono fun K hK => ?_
  unfold lg
  rw [hm]
  exact hK
 | true =>
  rw [hm] at e
  refine Evt.of fun K => ?_
  unfold lg
  rw [hm]
  simp only at e ⊢
  cases hw : aX ops tm o with
  | none => rw [hw] at e; cases e
  | some b =>
   rw [hw] at e
   rw [n8 h hw]
   cases b with
   | false => exact e
   | true =>
    simp only at e ⊢
    cases hk : Ac tb tm o.op with
    | none => rw [hk] at e; cases e
    | some r => rw [hk] at e; rw [Cp h hk]; exact e
theorem lj {tb : Tab} {n : Nat} {ops : List Oper} {base : Nat} {callq : ji} (hc : gO tb callq) : ∀ {rest : List Oper} {i : Nat} {tm TM tm' : T AV} {h h' : AHeap} {es : List Ent} {ms : List (Nat × AHeap)}, SubT tm TM ->
  cx tb (aS callq) n ops base i rest tm h = some (es, ms, tm', h') -> ∃ es' TM', SubT tm' TM' /\ EntsR es es' /\ Evt fun K => cx tb (dw tb (run tb K)) n ops base i rest TM h = some (es', ms, TM', h')
 | [], i, tm, TM, tm', h, h', es, ms, hs, e => by
  unfold cx at e
  simp only [Option.some.injEq, Prod.mk.injEq] at e
  obtain ⟨rfl, rfl, rfl, rfl⟩ := e
  exact ⟨[], TM, hs, trivial, Evt.of fun K => rfl⟩
 | o :: rest, i, tm, TM, tm', h, h', es, ms, hs, e => by
  unfold cx at e
  cases h1 : lg tb (aS callq) ops (base + i) tm h o with
  | none => rw [h1] at e; cases e
  | some p =>
   obtain ⟨v, g, k⟩ := p
   rw [h1] at e
   simp only at e
   cases hp : ch tm n o.dst v with
   | none => rw [hp] at e; cases e
   | some tm1 =>
    rw [hp] at e
    simp only at e
    obtain ⟨TM1, hP, hs1⟩ := kD hs hp
    cases ht : cx tb (aS callq) n ops base (i + 1) rest tm1 g with
    | none => rw [ht] at e; cases e
    | some q =>
     obtain ⟨es1, ms1, tm2, g2⟩ := q
     rw [ht] at e
     simp only [Option.some.injEq, Prod.mk.injEq] at e
     obtain ⟨rfl, rfl, rfl, rfl⟩ := e
     obtain ⟨es', TM', hs', hes, hE⟩ := lj hc hs1 ht
     refine ⟨⟨i, o, TM, v, k⟩ :: es', TM', hs', ⟨⟨rfl, rfl, hs, rfl, rfl⟩, hes⟩, ((zl hs hc h1).and hE).mono fun K ⟨a, b⟩ => ?_⟩
     unfold cx
     simp only [a, hP, b]
theorem EntsR.kinds (k : Nat) : ∀ {es es' : List Ent}, EntsR es es' -> fu k es = fu k es'
 | [], [], _ => rfl
 | a :: l, c :: m, ⟨⟨h1, h2, h3, h4, h5⟩, hr⟩ => by
  have ih := EntsR.kinds k hr
  unfold fu at ih ⊢
  simp only [List.filterMap_cons, <- h5, <- h1, ih]
 | [], _ :: _, h => h.elim
 | _ :: _, [], h => h.elim
theorem EntsR.allF {tb : Tab} {bt : Nat -> Nat -> Bool} {hards makers : List Nat} {marks : List (Nat × AHeap)} : ∀ {es es' : List Ent}, EntsR es es' -> es.all (t8 tb bt hards makers marks) = true -> es'.all (t8 tb bt hards makers marks) = true
 | [], [], _, _ => rfl
 | a :: l, c :: m, ⟨⟨h1, h2, h3, h4, h5⟩, hr⟩, e => by
  simp only [List.all_cons, Bool.and_eq_true] at e ⊢
  refine ⟨?_, EntsR.allF hr e.2⟩
  have e := e.1
  unfold t8 at e ⊢
  rw [<- h5, <- h1]
  split at e
  ·exact e
  ·simp only [List.all_eq_true] at e ⊢
   intro x hx
   have := e x hx
   simp only [Bool.or_eq_true] at this ⊢
   rcases this with g | g
   ·exact .inl g
   ·right
    unfold pv at g ⊢
    rw [<- h2, <- h4]
    revert g
    cases ho : d6 tb (fun _ _ _ => none) a.tm x.2 a.o.op with
    | l r => intro g; cases g
    | q r =>
     cases r with
     | none => intro g; cases g
     | some v =>
      intro g
      rw [pu h3 ho]
      exact g
  ·rfl
 | [], _ :: _, h, _ => h.elim
 | _ :: _, [], h, _ => h.elim
theorem sF {tb : Tab} {n : Nat} {ops : List Oper} {callq : ji} (hc : gO tb callq) {tm TM tm' : T AV} {h h' : AHeap} (hs : SubT tm TM) (e : gi tb (aS callq) n ops tm h = some (tm', h')) :
  ∃ TM', SubT tm' TM' /\ Evt fun K => gi tb (dw tb (run tb K)) n ops TM h = some (TM', h') := by
 unfold gi at e
 cases ho : uA (aO ops []) ops.length (cG ops) with
 | false => rw [ho] at e; cases e
 | true =>
  rw [ho] at e
  simp only at e
  cases ht : cx tb (aS callq) n ops h.next 0 ((cG ops).filterMap fun i => ops[i]?) tm ⟨h.next + ops.length, h.objs⟩ with
  | none => rw [ht] at e; cases e
  | some p =>
   obtain ⟨es, ms, tm1, h1⟩ := p
   rw [ht] at e
   simp only at e
   obtain ⟨es', TM', hs', hes, hE⟩ := lj hc hs ht
   split at e
   ·rename_i hall
    simp only [Option.some.injEq, Prod.mk.injEq] at e
    obtain ⟨rfl, rfl⟩ := e
    rw [hes.kinds 2, hes.kinds 3] at hall
    have hall := hes.allF hall
    exact ⟨TM', hs', hE.mono fun K hK => by unfold gi; simp only [ho, hK, hall]⟩
   ·cases e
theorem kr {tb : Tab} {n : Nat} {ops : List Oper} {callq : ji} (hc : gO tb callq) {tm TM tm' : T AV} {h h' : AHeap} (hs : SubT tm TM) (e : eE tb (aS callq) n ops tm h = some (tm', h')) :
  ∃ TM', SubT tm' TM' /\ Evt fun K => eE tb (dw tb (run tb K)) n ops TM h = some (TM', h') := by
 unfold eE at e
 cases hD : jc ops with
 | false => rw [hD] at e; cases e
 | true =>
  rw [hD] at e
  simp only at e
  cases hF : fO ops with
  | true =>
   rw [hF] at e
   obtain ⟨TM', hs', hE⟩ := lv hc hs e
   exact ⟨TM', hs', hE.mono fun K hK => by unfold eE; simp only [hD, hF, hK]⟩
  | false =>
   rw [hF] at e
   simp only at e
   cases hW : gf ops with
   | true =>
    rw [hW] at e
    obtain ⟨TM', g1, g2⟩ := sF hc hs e
    exact ⟨TM', g1, g2.mono fun K hK => by unfold eE; simp only [hD, hF, hW, hK]⟩
   | false =>
   rw [hW] at e
   simp only at e
   cases ht : bI tb (aS callq) n ops 0 ops tm h with
   | none => rw [ht] at e; cases e
   | some p =>
    obtain ⟨es, ms, tm1, h1⟩ := p
    rw [ht] at e
    simp only at e
    obtain ⟨es', TM', hs', hes, hE⟩ := mr hc hs ht
    have hl := hes.louds
    cases ms with
    | nil =>
     simp only [Option.some.injEq, Prod.mk.injEq] at e
     obtain ⟨rfl, rfl⟩ := e
     exact ⟨TM', hs', hE.mono fun K hK => by unfold eE; simp only [hD, hF, hW, hK]⟩
    | cons m ms =>
     simp only at e
     split at e
     ·rename_i hall
      simp only [Option.some.injEq, Prod.mk.injEq] at e
      obtain ⟨rfl, rfl⟩ := e
      rw [hl] at hall
      have hall := hes.all hall
      exact ⟨TM', hs', hE.mono fun K hK => by unfold eE; simp only [hD, hF, hW, hK, hall]⟩
     ·cases e

end
end Go.Proofs.YtndhhgbpcmfeiaaGreatDoor.Ev
