/- The quick evaluator, part 2b: more slots, the same values. -/
import Derived.Test.YtfkbfnpjggkdmaaGreatDoorOEqS
namespace Go.Proofs.YtfkbfnpjggkdmaaGreatDoor.Ev
open Go.RowKit
noncomputable section

def SubT (tm TM : T AV) : Prop := ∀ k v, tm.get k = some v → TM.get k = some v
theorem opnd_mono {tm TM : T AV} (h : SubT tm TM) {x : Operand} {v : AV} (e : opnd tm x = some v) : opnd TM x = some v := by
 cases x with
 | tmp t => exact h t v e
 | const c => exact e
 | func f => exact e
 | global g => exact e
theorem opnd_or {tm TM : T AV} (h : SubT tm TM) (x : Operand) : opnd tm x = none ∨ opnd TM x = opnd tm x := by
 cases hx : opnd tm x with
 | none => exact .inl rfl
 | some v => exact .inr (opnd_mono h hx)
theorem opnds_or {tm TM : T AV} (h : SubT tm TM) : ∀ xs : List Operand, opnds tm xs = none ∨ opnds TM xs = opnds tm xs
 | [] => .inr rfl
 | x :: xs => by
  unfold opnds
  rcases opnd_or h x with e | e
  ·rw [e]; exact .inl rfl
  ·rw [e]
   rcases opnds_or h xs with e | e
   ·rw [e]; left; cases opnd tm x <;> rfl
   ·rw [e]; exact .inr rfl
theorem opndPairs_or {tm TM : T AV} (h : SubT tm TM) : ∀ xs : List (Nat × Operand), opndPairs tm xs = none ∨ opndPairs TM xs = opndPairs tm xs
 | [] => .inr rfl
 | (i, x) :: xs => by
  unfold opndPairs
  rcases opnd_or h x with e | e
  ·rw [e]; exact .inl rfl
  ·rw [e]
   rcases opndPairs_or h xs with e | e
   ·rw [e]; left; cases opnd tm x <;> rfl
   ·rw [e]; exact .inr rfl
theorem boundsA_or {tm TM : T AV} (h : SubT tm TM) (n : Nat) (lo hi : Option Operand) : boundsA tm n lo hi = none ∨ boundsA TM n lo hi = boundsA tm n lo hi := by
 unfold boundsA
 cases hi with
 | none =>
  cases lo with
  | none => exact .inr rfl
  | some x =>
   rcases opnd_or h x with e | e
   ·simp only [e]; exact .inl rfl
   ·simp only [e]; exact .inr trivial
 | some y =>
  rcases opnd_or h y with e | e
  ·simp only [e]; exact .inl rfl
  ·simp only [e]
   cases lo with
   | none => exact .inr rfl
   | some x =>
    rcases opnd_or h x with e | e
    ·left; simp only [e]; cases natOf (opnd tm y) <;> rfl
    ·simp only [e]; exact .inr trivial

def QOr (a b : Option AV) : Prop := a = none ∨ b = a
theorem evPick_or {tm TM : T AV} (h : SubT tm TM) (c x y : Operand) : QOr (evPick tm c x y) (evPick TM c x y) := by
 unfold evPick
 rcases opnd_or h c with e | e
 ·rw [e]; exact .inl rfl
 ·rw [e]
  cases opnd tm c with
  | none => exact .inl rfl
  | some v =>
   cases v <;> try exact .inl rfl
   rename_i b
   cases b with
   | true => exact opnd_or h x
   | false => exact opnd_or h y
theorem evLoad_or {tb : Tab} {tm TM : T AV} (h : SubT tm TM) (objs : T AObj) (t : Nat) (x : Operand) : QOr (evLoad tb tm objs t x) (evLoad tb TM objs t x) := by
 unfold evLoad
 rcases opnd_or h x with e | e <;> rw [e]
 ·exact .inl rfl
 ·exact .inr rfl
theorem evNilCheck_or {tm TM : T AV} (h : SubT tm TM) (x : Operand) : QOr (evNilCheck tm x) (evNilCheck TM x) := by
 unfold evNilCheck
 rcases opnd_or h x with e | e <;> rw [e]
 ·exact .inl rfl
 ·exact .inr rfl
theorem evUnOp_or {tm TM : T AV} (h : SubT tm TM) (op : UnOp) (x : Operand) : QOr (evUnOp tm op x) (evUnOp TM op x) := by
 unfold evUnOp
 rcases opnd_or h x with e | e <;> rw [e]
 ·left; cases op <;> rfl
 ·exact .inr rfl
theorem evBinOp_or {tb : Tab} {tm TM : T AV} (h : SubT tm TM) (op : BinOp) (t : Nat) (x y : Operand) : QOr (evBinOp tb tm op t x y) (evBinOp tb TM op t x y) := by
 unfold evBinOp
 cases isNilC y with
 | true =>
  simp only
  rcases opnd_or h x with e | e <;> rw [e]
  ·exact .inl rfl
  ·exact .inr rfl
 | false =>
 simp only
 rcases opnd_or h x with e | e <;> rw [e]
 ·exact .inl rfl
 ·rcases opnd_or h y with e | e <;> rw [e]
  ·left; cases opnd tm x <;> rfl
  ·exact .inr rfl
theorem evBuild_or {tb : Tab} {tm TM : T AV} (h : SubT tm TM) (t : Nat) (ps : Array (Nat × Operand)) : QOr (evBuild tb tm t ps) (evBuild tb TM t ps) := by
 unfold evBuild
 rcases opndPairs_or h ps.toList with e | e <;> rw [e]
 ·left; repeat' (first | rfl | contradiction | split)
 ·exact .inr rfl
theorem evMakeFunc_or {tm TM : T AV} (h : SubT tm TM) (fn : Fn) (first captured : Array Operand) : QOr (evMakeFunc tm fn first captured) (evMakeFunc TM fn first captured) := by
 unfold evMakeFunc
 rcases opnds_or h captured.toList with e | e <;> rw [e]
 ·left; cases fn <;> rcases first.toList with _ | ⟨y, _ | ⟨z, l⟩⟩ <;> rfl
 ·cases fn with
  | func f =>
   rcases first.toList with _ | ⟨y, _ | ⟨z, l⟩⟩
   ·cases opnds tm captured.toList with
    | none => exact .inl rfl
    | some l => exact .inr rfl
   ·cases opnds tm captured.toList with
    | none => exact .inl rfl
    | some l =>
     cases l with
     | cons a l => exact .inl rfl
     | nil =>
      rcases opnd_or h y with e2 | e2 <;> simp only [e2]
      ·exact .inl rfl
      ·exact .inr rfl
   ·exact .inl rfl
  | _ => exact .inl rfl
theorem evSlice_or {tb : Tab} {tm TM : T AV} (h : SubT tm TM) (objs : T AObj) (t : Nat) (x : Operand) (lo hi mx : Option Operand) : QOr (evSlice tb tm objs t x lo hi mx) (evSlice tb TM objs t x lo hi mx) := by
 unfold evSlice
 rcases opnd_or h x with e | e <;> rw [e]
 ·left
  cases mx <;> cases tb.und t <;> try rfl
  rename_i d
  cases d <;> rfl
 ·have hb := fun n => boundsA_or h n lo hi
  cases mx with
  | some m => exact .inl rfl
  | none =>
   cases tb.und t with
   | none => exact .inl rfl
   | some d =>
    cases opnd tm x with
    | none => left; cases d <;> rfl
    | some v =>
     cases d <;> cases v <;> try exact .inl rfl
     case array.ptr len e b o =>
      cases o with
      | succ o => exact .inl rfl
      | zero =>
       simp only [sliceArr]
       rcases hb len with g | g <;> rw [g]
       ·left; repeat' (first | rfl | contradiction | split)
       ·exact .inr rfl
     case slice.nils e =>
      simp only
      rcases hb 0 with g | g <;> rw [g]
      ·exact .inl rfl
      ·exact .inr rfl
     case slice.slice e b o n sz =>
      simp only [sliceSlice]
      rcases hb n with g | g <;> rw [g]
      ·left; repeat' (first | rfl | contradiction | split)
      ·exact .inr rfl
     case string.str s =>
      simp only [sliceStr]
      rcases hb s.length with g | g <;> rw [g]
      ·exact .inl rfl
      ·exact .inr rfl
theorem evFieldAddr_or {tb : Tab} {tm TM : T AV} (h : SubT tm TM) (s : Nat) (x : Operand) (f : Nat) : QOr (evFieldAddr tb tm s x f) (evFieldAddr tb TM s x f) := by
 unfold evFieldAddr
 rcases opnd_or h x with e | e <;> rw [e]
 ·left; cases structFields (tb.und s) <;> rfl
 ·exact .inr rfl
theorem evField_or {tb : Tab} {tm TM : T AV} (h : SubT tm TM) (s : Nat) (x : Operand) (f : Nat) : QOr (evField tb tm s x f) (evField tb TM s x f) := by
 unfold evField
 rcases opnd_or h x with e | e <;> rw [e]
 ·left; cases structFields (tb.und s) <;> rfl
 ·exact .inr rfl
theorem evIndexAddr_or {tb : Tab} {tm TM : T AV} (h : SubT tm TM) (t : Nat) (x y : Operand) : QOr (evIndexAddr tb tm t x y) (evIndexAddr tb TM t x y) := by
 unfold evIndexAddr
 rcases opnd_or h x with e | e <;> rw [e]
 ·left
  cases tb.und t <;> try rfl
  rename_i d
  cases d <;> rfl
 ·rcases opnd_or h y with e | e <;> rw [e]
  ·left
   cases tb.und t <;> try rfl
   rename_i d
   cases d <;> cases opnd tm x <;> try rfl
   all_goals
    rename_i v
    cases v <;> rfl
  ·exact .inr rfl
theorem evIndex_or {tb : Tab} {tm TM : T AV} (h : SubT tm TM) (t : Nat) (x y : Operand) : QOr (evIndex tb tm t x y) (evIndex tb TM t x y) := by
 unfold evIndex
 rcases opnd_or h x with e | e <;> rw [e]
 ·left
  cases tb.und t <;> try rfl
  rename_i d
  cases d <;> rfl
 ·rcases opnd_or h y with e | e <;> rw [e]
  ·left
   cases tb.und t <;> try rfl
   rename_i d
   cases d <;> cases opnd tm x <;> try rfl
   all_goals
    rename_i v
    cases v <;> rfl
  ·exact .inr rfl
theorem evExtract_or {tm TM : T AV} (h : SubT tm TM) (x : Operand) (i : Nat) : QOr (evExtract tm x i) (evExtract TM x i) := by
 unfold evExtract
 rcases opnd_or h x with e | e <;> rw [e]
 ·exact .inl rfl
 ·exact .inr rfl
theorem evLen_or {tb : Tab} {tm TM : T AV} (h : SubT tm TM) (args : Array Operand) (ts : Array Nat) : QOr (evLen tb tm args ts) (evLen tb TM args ts) := by
 unfold evLen
 cases ts.toList with
 | nil => exact .inl rfl
 | cons t ts =>
  cases args.toList with
  | nil => exact .inl rfl
  | cons x xs =>
   cases xs with
   | cons y ys => exact .inl rfl
   | nil =>
    simp only
    rcases opnd_or h x with e | e <;> rw [e]
    ·left; cases tb.und t <;> rfl
    ·exact .inr rfl
theorem evMinMax_or {tm TM : T AV} (h : SubT tm TM) (mx : Bool) (args : Array Operand) : QOr (evMinMax tm mx args) (evMinMax TM mx args) := by
 unfold evMinMax
 rcases opnds_or h args.toList with e | e <;> rw [e]
 ·exact .inl rfl
 ·exact .inr rfl

def LOr (a b : Option (AV × AHeap)) : Prop := a = none ∨ b = a
theorem evBox_or {tb : Tab} {tm TM : T AV} (h : SubT tm TM) (hp : AHeap) (t : Nat) (x : Operand) : LOr (evBox tb tm hp t x) (evBox tb TM hp t x) := by
 unfold evBox
 rcases opnd_or h x with e | e <;> rw [e]
 ·exact .inl rfl
 ·exact .inr rfl
theorem evBuildSlice_or {tb : Tab} {tm TM : T AV} (h : SubT tm TM) (hp : AHeap) (t n : Nat) (ps : Array (Nat × Operand)) : LOr (evBuildSlice tb tm hp t n ps) (evBuildSlice tb TM hp t n ps) := by
 unfold evBuildSlice
 rcases opndPairs_or h ps.toList with e | e <;> rw [e]
 ·left; repeat' (first | rfl | contradiction | split)
 ·exact .inr rfl
theorem evMakeSlice_or {tb : Tab} {tm TM : T AV} (h : SubT tm TM) (hp : AHeap) (t : Nat) (x y : Operand) : LOr (evMakeSlice tb tm hp t x y) (evMakeSlice tb TM hp t x y) := by
 unfold evMakeSlice
 rcases opnd_or h x with e | e <;> rw [e]
 ·left
  cases tb.und t <;> try rfl
  rename_i d
  cases d <;> rfl
 ·rcases opnd_or h y with e | e <;> rw [e]
  ·left
   cases tb.und t <;> try rfl
   rename_i d
   cases d <;> cases natOf (opnd tm x) <;> rfl
  ·exact .inr rfl
theorem evStore_or {tb : Tab} {tm TM : T AV} (h : SubT tm TM) (hp : AHeap) (t : Nat) (x y : Operand) : LOr (evStore tb tm hp t x y) (evStore tb TM hp t x y) := by
 unfold evStore
 rcases opnd_or h x with e | e <;> rw [e]
 ·exact .inl rfl
 ·rcases opnd_or h y with e | e <;> rw [e]
  ·left
   cases opnd tm x <;> try rfl
   rename_i v
   cases v <;> rfl
  ·exact .inr rfl
theorem evAppend_or {tb : Tab} {tm TM : T AV} (h : SubT tm TM) (hp : AHeap) (args : Array Operand) (ts : Array Nat) : LOr (evAppend tb tm hp args ts) (evAppend tb TM hp args ts) := by
 unfold evAppend
 rcases opnds_or h args.toList with e | e <;> rw [e]
 ·left
  cases ts.toList with
  | nil => rfl
  | cons t l => cases l <;> rfl
 ·exact .inr rfl
theorem evCopy_or {tb : Tab} {tm TM : T AV} (h : SubT tm TM) (hp : AHeap) (args : Array Operand) (ts : Array Nat) : LOr (evCopy tb tm hp args ts) (evCopy tb TM hp args ts) := by
 unfold evCopy
 rcases opnds_or h args.toList with e | e <;> rw [e]
 ·left
  cases ts.toList <;> rfl
 ·exact .inr rfl

theorem evLookup_or {tb : Tab} {tm TM : T AV} (h : SubT tm TM) (objs : T AObj) (t : Nat) (x i : Operand) (ok : Bool) : QOr (evLookup tb tm objs t x i ok) (evLookup tb TM objs t x i ok) := by
 unfold evLookup
 cases mapTypes (tb.und t) with
 | none => exact .inl rfl
 | some p =>
  rcases opnd_or h x with e | e <;> rw [e]
  ·exact .inl rfl
  ·rcases opnd_or h i with e | e <;> rw [e]
   ·left; cases opnd tm x <;> rfl
   ·exact .inr rfl
theorem evMakeMap_or {tb : Tab} {tm TM : T AV} (h : SubT tm TM) (hp : AHeap) (t : Nat) (r : Option Operand) : LOr (evMakeMap tb tm hp t r) (evMakeMap tb TM hp t r) := by
 unfold evMakeMap
 cases mapTypes (tb.und t) with
 | none => exact .inl rfl
 | some p =>
  cases r with
  | none => exact .inr rfl
  | some x =>
   rcases opnd_or h x with e | e <;> simp only [e]
   ·exact .inl rfl
   ·exact .inr rfl
theorem evMapUpdate_or {tb : Tab} {tm TM : T AV} (h : SubT tm TM) (hp : AHeap) (t : Nat) (x k v : Operand) : LOr (evMapUpdate tb tm hp t x k v) (evMapUpdate tb TM hp t x k v) := by
 unfold evMapUpdate
 cases mapTypes (tb.und t) with
 | none => exact .inl rfl
 | some p =>
  rcases opnd_or h x with e | e <;> rw [e]
  ·exact .inl rfl
  ·rcases opnd_or h k with e | e <;> rw [e]
   ·left
    cases opnd tm x with
    | none => rfl
    | some u => cases u <;> rfl
   ·rcases opnd_or h v with e | e <;> rw [e]
    ·left
     cases opnd tm x with
     | none => rfl
     | some u => cases u <;> (cases opnd tm k <;> rfl)
    ·exact .inr rfl
theorem evMapEntry_or {tb : Tab} {tm TM : T AV} (h : SubT tm TM) (hp : AHeap) (t : Nat) (x k : Operand) : LOr (evMapEntry tb tm hp t x k) (evMapEntry tb TM hp t x k) := by
 unfold evMapEntry
 cases mapTypes (tb.und t) with
 | none => exact .inl rfl
 | some p =>
  rcases opnd_or h x with e | e <;> rw [e]
  ·exact .inl rfl
  ·rcases opnd_or h k with e | e <;> rw [e]
   ·left
    cases opnd tm x with
    | none => rfl
    | some u => cases u <;> rfl
   ·exact .inr rfl
theorem evEntryStore_or {tm TM : T AV} (h : SubT tm TM) (hp : AHeap) (x s v : Operand) : LOr (evEntryStore tm hp x s v) (evEntryStore TM hp x s v) := by
 unfold evEntryStore
 rcases opnd_or h x with e | e <;> rw [e]
 ·exact .inl rfl
 ·rcases opnd_or h s with e | e <;> rw [e]
  ·left
   cases opnd tm x with
   | none => rfl
   | some u => cases u <;> rfl
  ·rcases opnd_or h v with e | e <;> rw [e]
   ·left
    cases opnd tm x with
    | none => rfl
    | some u =>
     cases u <;> try rfl
     cases opnd tm s with
     | none => rfl
     | some y => cases y <;> rfl
   ·exact .inr rfl

inductive ROr (a b : Res) : Prop where
 | nq (h : a = .q none)
 | nl (h : a = .l none)
 | same (h : b = a)
theorem QOr.res {a b : Option AV} (h : QOr a b) : ROr (.q a) (.q b) := by
 rcases h with h | h
 ·exact .nq (by rw [h])
 ·exact .same (by rw [h])
theorem LOr.res {a b : Option (AV × AHeap)} (h : LOr a b) : ROr (.l a) (.l b) := by
 rcases h with h | h
 ·exact .nl (by rw [h])
 ·exact .same (by rw [h])
theorem evConvert_or {tb : Tab} {tm TM : T AV} (h : SubT tm TM) (hp : AHeap) (s d : Nat) (x : Operand) : ROr (evConvert tb tm hp s d x) (evConvert tb TM hp s d x) := by
 unfold evConvert
 rcases opnd_or h x with e | e <;> rw [e]
 ·have : ∀ (a b : Option TypeDesc), (match a, b, (none : Option AV) with
   | _, _, none => (0 : Nat)
   | _, _, _ => 1) = 0 := fun a b => rfl
  refine .nq ?_
  repeat' (first | rfl | contradiction | split)
 ·exact .same rfl

def noCall : Op → Bool
 | .call c => match c.callee with
  | .value _ => false
  | _ => true
 | _ => true
theorem evOp_or {tb : Tab} {tm TM : T AV} (h : SubT tm TM) (hp : AHeap) {op : Op} (hn : noCall op = true) (call call' : CallF) : ROr (evOp tb call tm hp op) (evOp tb call' TM hp op) := by
 cases op <;> first
  | exact .nq rfl
  | exact QOr.res (opnd_or h _)
  | exact QOr.res (evPick_or h _ _ _)
  | exact .same rfl
  | exact LOr.res (evBox_or h _ _ _)
  | exact QOr.res (evBuild_or h _ _)
  | exact LOr.res (evBuildSlice_or h _ _ _ _)
  | exact QOr.res (evLoad_or h _ _ _)
  | exact LOr.res (evStore_or h _ _ _ _)
  | exact QOr.res (evNilCheck_or h _)
  | exact QOr.res (evBinOp_or h _ _ _ _)
  | exact QOr.res (evUnOp_or h _ _)
  | exact evConvert_or h _ _ _ _
  | exact QOr.res (evMakeFunc_or h _ _ _)
  | exact LOr.res (evMakeSlice_or h _ _ _ _)
  | exact QOr.res (evSlice_or h _ _ _ _ _ _)
  | exact QOr.res (evFieldAddr_or h _ _ _)
  | exact QOr.res (evField_or h _ _ _)
  | exact QOr.res (evIndexAddr_or h _ _ _)
  | exact QOr.res (evIndex_or h _ _ _)
  | exact QOr.res (evExtract_or h _ _)
  | exact QOr.res (evLookup_or h _ _ _ _ _)
  | exact LOr.res (evMakeMap_or h _ _ _)
  | exact LOr.res (evMapUpdate_or h _ _ _ _ _)
  | exact LOr.res (evMapEntry_or h _ _ _ _)
  | exact LOr.res (evEntryStore_or h _ _ _ _)
  | skip
 rename_i c
 obtain ⟨callee, args, ts⟩ := c
 cases callee with
 | value f => cases hn
 | invoke r m => exact .nq rfl
 | builtin b => cases b <;> first
  | exact .nq rfl
  | exact QOr.res (evLen_or h _ _)
  | exact QOr.res (evMinMax_or h _ _)
  | exact LOr.res (evAppend_or h _ _ _)
  | exact LOr.res (evCopy_or h _ _ _)

def callOf (callq : CallQ) : CallF := fun f a h => match callq f a h with
 | .ok v h' => some (v, h')
 | .bad => none
theorem evOp_q {tb : Tab} {tm TM : T AV} (h : SubT tm TM) {hp : AHeap} {op : Op} {call call' : CallF} {v : AV} (e : evOp tb call tm hp op = .q (some v)) : evOp tb call' TM hp op = .q (some v) := by
 cases hn : noCall op with
 | true =>
  rcases evOp_or h hp hn call call' with g | g | g
  ·rw [g] at e; cases e
  ·rw [g] at e; cases e
  ·rw [g]; exact e
 | false =>
  cases op <;> try (cases hn; done)
  rename_i c
  obtain ⟨callee, args, ts⟩ := c
  cases callee with
  | value f => cases e
  | invoke r m => cases hn
  | builtin b => cases hn
theorem evOp_l {tb : Tab} {tm TM : T AV} (h : SubT tm TM) {hp : AHeap} {op : Op} {callq : CallQ} (hc : CallsOK tb callq) {v : AV} {h' : AHeap} (e : evOp tb (callOf callq) tm hp op = .l (some (v, h'))) :
  Evt fun K => evOp tb (evCall tb (run tb K)) TM hp op = .l (some (v, h')) := by
 cases hn : noCall op with
 | true =>
  refine Evt.of fun K => ?_
  rcases evOp_or h hp hn (callOf callq) (evCall tb (run tb K)) with g | g | g
  ·rw [g] at e; cases e
  ·rw [g] at e; cases e
  ·rw [g]; exact e
 | false =>
  cases op <;> try (cases hn; done)
  rename_i c
  obtain ⟨callee, args, ts⟩ := c
  cases callee with
  | invoke r m => cases hn
  | builtin b => cases hn
  | value f =>
   have e : Res.l (evCallVal tm hp (callOf callq) f args) = .l (some (v, h')) := e
   simp only [Res.l.injEq] at e
   unfold evCallVal at e
   rcases opnd_or h f with g | g
   ·rw [g] at e; cases e
   rcases opnds_or h args.toList with g2 | g2
   ·rw [g2] at e
    revert e
    cases opnd tm f with
    | none => intro e; cases e
    | some u => cases u <;> (intro e; cases e)
   ·cases hf : opnd tm f with
    | none => rw [hf] at e; cases e
    | some u =>
     cases u <;> try (rw [hf] at e; cases e; done)
     rename_i gg caps
     cases ha : opnds tm args.toList with
     | none => rw [hf, ha] at e; cases e
     | some l =>
      rw [hf, ha] at e
      simp only at e
      have fin : ∀ la, callOf callq gg la hp = some (v, h') → Evt fun K => evCall tb (run tb K) gg la hp = some (v, h') := by
       intro la e
       unfold callOf at e
       cases hr : callq gg la hp with
       | bad => rw [hr] at e; cases e
       | ok x g' =>
        rw [hr] at e
        simp only [Option.some.injEq, Prod.mk.injEq] at e
        obtain ⟨rfl, rfl⟩ := e
        exact hc _ _ _ _ _ hr
      cases hm : isMeth caps with
      | none =>
       rw [hm] at e
       refine (fin _ e).mono fun K hK => ?_
       simp only [evOp, evCallOp, evCallVal, g, g2, hf, ha, hm]
       exact congrArg Res.l hK
      | some x =>
       rw [hm] at e
       refine (fin _ e).mono fun K hK => ?_
       simp only [evOp, evCallOp, evCallVal, g, g2, hf, ha, hm]
       exact congrArg Res.l hK
theorem wanted_mono {tm TM : T AV} (h : SubT tm TM) {ops : List Oper} {o : Oper} {b : Bool} (e : wantedA ops tm o = some b) : wantedA ops TM o = some b := by
 unfold wantedA at e ⊢
 cases hg : o.guard with
 | none => rw [hg] at e; exact e
 | some p =>
  obtain ⟨j, want⟩ := p
  rw [hg] at e
  simp only at e ⊢
  cases hj : ops[j]? with
  | none => rw [hj] at e; cases e
  | some oj =>
   rw [hj] at e
   simp only at e ⊢
   cases hd : oj.dst with
   | none => rw [hd] at e; cases e
   | some d =>
    rw [hd] at e
    simp only at e ⊢
    cases ht : tm.get d with
    | none => rw [ht] at e; cases e
    | some v =>
     rw [ht] at e
     rw [h d v ht]
     exact e
theorem ev1_mono {tb : Tab} {tm TM : T AV} (h : SubT tm TM) {ops : List Oper} {o : Oper} {hp : AHeap} {callq : CallQ} (hc : CallsOK tb callq) {v : AV} {h' : AHeap} {k : Nat} (e : ev1 tb (callOf callq) ops tm hp o = some (v, h', k)) :
  Evt fun K => ev1 tb (evCall tb (run tb K)) ops TM hp o = some (v, h', k) := by
 unfold ev1 at e
 cases hw : wantedA ops tm o with
 | none => rw [hw] at e; cases e
 | some b =>
  rw [hw] at e
  have hW := wanted_mono h hw
  cases b with
  | false => exact Evt.of fun K => by unfold ev1; rw [hW]; exact e
  | true =>
   simp only at e
   cases ho : evOp tb (callOf callq) tm hp o.op with
   | q x =>
    rw [ho] at e
    cases x with
    | none => cases e
    | some u =>
     refine Evt.of fun K => ?_
     unfold ev1
     rw [hW]
     simp only
     rw [evOp_q h ho]
     exact e
   | l x =>
    rw [ho] at e
    cases x with
    | none => cases e
    | some p =>
     obtain ⟨u, g⟩ := p
     refine (evOp_l h hc ho).mono fun K hK => ?_
     unfold ev1
     rw [hW]
     simp only
     rw [hK]
     exact e
theorem SubT.set {tm TM : T AV} (h : SubT tm TM) (d : Nat) (v : AV) : SubT (tm.set d v) (TM.set d v) := by
 intro k u hk
 rw [T.get_set] at hk ⊢
 split at hk
 ·rename_i e
  rw [if_pos e]
  exact hk
 ·rename_i e
  rw [if_neg e]
  exact h k u hk
theorem putDst_mono {tm TM : T AV} (h : SubT tm TM) {n : Nat} {d : Option Nat} {v : AV} {tm' : T AV} (e : putDst tm n d v = some tm') : ∃ TM', putDst TM n d v = some TM' ∧ SubT tm' TM' := by
 unfold putDst at e ⊢
 cases d with
 | none =>
  simp only [Option.some.injEq] at e
  subst e
  exact ⟨TM, rfl, h⟩
 | some d =>
  simp only at e ⊢
  cases hb : Nat.blt d n with
  | false => rw [hb] at e; cases e
  | true =>
   rw [hb] at e
   simp only [Option.some.injEq] at e
   subst e
   exact ⟨_, rfl, h.set d v⟩
def EntR (a b : Ent) : Prop := a.i = b.i ∧ a.o = b.o ∧ SubT a.tm b.tm ∧ a.v = b.v ∧ a.kind = b.kind
def EntsR : List Ent → List Ent → Prop
 | [], [] => True
 | a :: l, b :: m => EntR a b ∧ EntsR l m
 | _, _ => False
theorem evTrace_mono {tb : Tab} {n : Nat} {ops : List Oper} {callq : CallQ} (hc : CallsOK tb callq) : ∀ {rest : List Oper} {i : Nat} {tm TM tm' : T AV} {h h' : AHeap} {es : List Ent} {ms : List (Nat × AHeap)}, SubT tm TM →
  evTrace tb (callOf callq) n ops i rest tm h = some (es, ms, tm', h') → ∃ es' TM', SubT tm' TM' ∧ EntsR es es' ∧ Evt fun K => evTrace tb (evCall tb (run tb K)) n ops i rest TM h = some (es', ms, TM', h')
 | [], i, tm, TM, tm', h, h', es, ms, hs, e => by
  unfold evTrace at e
  simp only [Option.some.injEq, Prod.mk.injEq] at e
  obtain ⟨rfl, rfl, rfl, rfl⟩ := e
  exact ⟨[], TM, hs, trivial, Evt.of fun K => rfl⟩
 | o :: rest, i, tm, TM, tm', h, h', es, ms, hs, e => by
  unfold evTrace at e
  cases h1 : ev1 tb (callOf callq) ops tm h o with
  | none => rw [h1] at e; cases e
  | some p =>
   obtain ⟨v, g, k⟩ := p
   rw [h1] at e
   simp only at e
   cases hp : putDst tm n o.dst v with
   | none => rw [hp] at e; cases e
   | some tm1 =>
    rw [hp] at e
    simp only at e
    obtain ⟨TM1, hP, hs1⟩ := putDst_mono hs hp
    cases ht : evTrace tb (callOf callq) n ops (i + 1) rest tm1 g with
    | none => rw [ht] at e; cases e
    | some q =>
     obtain ⟨es1, ms1, tm2, g2⟩ := q
     rw [ht] at e
     simp only [Option.some.injEq, Prod.mk.injEq] at e
     obtain ⟨rfl, rfl, rfl, rfl⟩ := e
     obtain ⟨es', TM', hs', hes, hE⟩ := evTrace_mono hc hs1 ht
     refine ⟨⟨i, o, TM, v, k⟩ :: es', TM', hs', ⟨⟨rfl, rfl, hs, rfl, rfl⟩, hes⟩, ((ev1_mono hs hc h1).and hE).mono fun K ⟨a, b⟩ => ?_⟩
     unfold evTrace
     simp only [a, hP, b]
theorem EntsR.all {tb : Tab} {b : List Nat} {louds : List Nat} {marks : List (Nat × AHeap)} : ∀ {es es' : List Ent}, EntsR es es' → es.all (entOk tb b louds marks) = true → es'.all (entOk tb b louds marks) = true
 | [], [], _, _ => rfl
 | a :: l, c :: m, ⟨⟨h1, h2, h3, h4, h5⟩, hr⟩, e => by
  simp only [List.all_cons, Bool.and_eq_true] at e ⊢
  refine ⟨?_, EntsR.all hr e.2⟩
  have e := e.1
  unfold entOk at e ⊢
  rw [← h5, ← h1]
  split at e
  ·exact e
  ·simp only [List.all_eq_true] at e ⊢
   intro x hx
   have := e x hx
   simp only [Bool.or_eq_true] at this ⊢
   rcases this with g | g
   ·exact .inl g
   ·right
    unfold evQ at g ⊢
    rw [← h2, ← h4]
    revert g
    cases ho : evOp tb (fun _ _ _ => none) a.tm x.2 a.o.op with
    | l r => intro g; cases g
    | q r =>
     cases r with
     | none => intro g; cases g
     | some v =>
      intro g
      rw [evOp_q h3 ho]
      exact g
  ·rfl
 | [], _ :: _, h, _ => h.elim
 | _ :: _, [], h, _ => h.elim
theorem EntsR.louds : ∀ {es es' : List Ent}, EntsR es es' → (es.filterMap fun e => if e.kind = 2 then some e.i else none) = (es'.filterMap fun e => if e.kind = 2 then some e.i else none)
 | [], [], _ => rfl
 | a :: l, c :: m, ⟨⟨h1, h2, h3, h4, h5⟩, hr⟩ => by
  simp only [List.filterMap_cons, h1, h5, EntsR.louds hr]
 | [], _ :: _, h => h.elim
 | _ :: _, [], h => h.elim
theorem evOps_mono {tb : Tab} {n : Nat} {ops : List Oper} {callq : CallQ} (hc : CallsOK tb callq) : ∀ {rest : List Oper} {tm TM tm' : T AV} {h h' : AHeap}, SubT tm TM →
  evOps tb (callOf callq) n ops rest tm h = some (tm', h') → ∃ TM', SubT tm' TM' ∧ Evt fun K => evOps tb (evCall tb (run tb K)) n ops rest TM h = some (TM', h')
 | [], tm, TM, tm', h, h', hs, e => by
  unfold evOps at e
  simp only [Option.some.injEq, Prod.mk.injEq] at e
  obtain ⟨rfl, rfl⟩ := e
  exact ⟨TM, hs, Evt.of fun K => rfl⟩
 | o :: rest, tm, TM, tm', h, h', hs, e => by
  unfold evOps at e
  cases h1 : ev1 tb (callOf callq) ops tm h o with
  | none => rw [h1] at e; cases e
  | some p =>
   obtain ⟨v, g, k⟩ := p
   rw [h1] at e
   simp only at e
   cases hp : putDst tm n o.dst v with
   | none => rw [hp] at e; cases e
   | some tm1 =>
    rw [hp] at e
    simp only at e
    obtain ⟨TM1, hP, hs1⟩ := putDst_mono hs hp
    obtain ⟨TM', hs', hE⟩ := evOps_mono hc hs1 e
    refine ⟨TM', hs', ((ev1_mono hs hc h1).and hE).mono fun K ⟨a, b⟩ => ?_⟩
    unfold evOps
    simp only [a, hP, b]
theorem mkA_mono {tb : Tab} {tm TM : T AV} (h : SubT tm TM) {op : Op} {r : AObj × (Nat → AV)} (e : mkA tb tm op = some r) : mkA tb TM op = some r := by
 unfold mkA at e ⊢
 cases op <;> try exact e
 case box t x =>
  simp only at e ⊢
  rcases opnd_or h x with g | g
  ·rw [g] at e; cases e
  ·rw [g]; exact e
 case buildSlice t n ps =>
  simp only at e ⊢
  rcases opndPairs_or h ps.toList with g | g
  ·exfalso
   rw [g] at e
   split at e
   ·split at e
    ·rename_i hx
     cases hx
    ·cases e
   ·cases e
  ·rw [g]; exact e
theorem ev1F_mono {tb : Tab} {tm TM : T AV} (h : SubT tm TM) {ops : List Oper} {num : Nat} {o : Oper} {hp : AHeap} {callq : CallQ} (hc : CallsOK tb callq) {v : AV} {h' : AHeap} {k : Nat} (e : ev1F tb (callOf callq) ops num tm hp o = some (v, h', k)) :
  Evt fun K => ev1F tb (evCall tb (run tb K)) ops num TM hp o = some (v, h', k) := by
 unfold ev1F at e
 cases hm : isMaker o.op with
 | false =>
  rw [hm] at e
  refine (ev1_mono h hc e).mono fun K hK => ?_
  unfold ev1F
  rw [hm]
  exact hK
 | true =>
  rw [hm] at e
  refine Evt.of fun K => ?_
  unfold ev1F
  rw [hm]
  simp only at e ⊢
  cases hw : wantedA ops tm o with
  | none => rw [hw] at e; cases e
  | some b =>
   rw [hw] at e
   rw [wanted_mono h hw]
   cases b with
   | false => exact e
   | true =>
    simp only at e ⊢
    cases hk : mkA tb tm o.op with
    | none => rw [hk] at e; cases e
    | some r => rw [hk] at e; rw [mkA_mono h hk]; exact e
theorem evTraceF_mono {tb : Tab} {n : Nat} {ops : List Oper} {base : Nat} {callq : CallQ} (hc : CallsOK tb callq) : ∀ {rest : List Oper} {i : Nat} {tm TM tm' : T AV} {h h' : AHeap} {es : List Ent} {ms : List (Nat × AHeap)}, SubT tm TM →
  evTraceF tb (callOf callq) n ops base i rest tm h = some (es, ms, tm', h') → ∃ es' TM', SubT tm' TM' ∧ EntsR es es' ∧ Evt fun K => evTraceF tb (evCall tb (run tb K)) n ops base i rest TM h = some (es', ms, TM', h')
 | [], i, tm, TM, tm', h, h', es, ms, hs, e => by
  unfold evTraceF at e
  simp only [Option.some.injEq, Prod.mk.injEq] at e
  obtain ⟨rfl, rfl, rfl, rfl⟩ := e
  exact ⟨[], TM, hs, trivial, Evt.of fun K => rfl⟩
 | o :: rest, i, tm, TM, tm', h, h', es, ms, hs, e => by
  unfold evTraceF at e
  cases h1 : ev1F tb (callOf callq) ops (base + i) tm h o with
  | none => rw [h1] at e; cases e
  | some p =>
   obtain ⟨v, g, k⟩ := p
   rw [h1] at e
   simp only at e
   cases hp : putDst tm n o.dst v with
   | none => rw [hp] at e; cases e
   | some tm1 =>
    rw [hp] at e
    simp only at e
    obtain ⟨TM1, hP, hs1⟩ := putDst_mono hs hp
    cases ht : evTraceF tb (callOf callq) n ops base (i + 1) rest tm1 g with
    | none => rw [ht] at e; cases e
    | some q =>
     obtain ⟨es1, ms1, tm2, g2⟩ := q
     rw [ht] at e
     simp only [Option.some.injEq, Prod.mk.injEq] at e
     obtain ⟨rfl, rfl, rfl, rfl⟩ := e
     obtain ⟨es', TM', hs', hes, hE⟩ := evTraceF_mono hc hs1 ht
     refine ⟨⟨i, o, TM, v, k⟩ :: es', TM', hs', ⟨⟨rfl, rfl, hs, rfl, rfl⟩, hes⟩, ((ev1F_mono hs hc h1).and hE).mono fun K ⟨a, b⟩ => ?_⟩
     unfold evTraceF
     simp only [a, hP, b]
theorem EntsR.kinds (k : Nat) : ∀ {es es' : List Ent}, EntsR es es' → kindsOf k es = kindsOf k es'
 | [], [], _ => rfl
 | a :: l, c :: m, ⟨⟨h1, h2, h3, h4, h5⟩, hr⟩ => by
  have ih := EntsR.kinds k hr
  unfold kindsOf at ih ⊢
  simp only [List.filterMap_cons, ← h5, ← h1, ih]
 | [], _ :: _, h => h.elim
 | _ :: _, [], h => h.elim
theorem EntsR.allF {tb : Tab} {bt : Nat → Nat → Bool} {hards makers : List Nat} {marks : List (Nat × AHeap)} : ∀ {es es' : List Ent}, EntsR es es' → es.all (flOk tb bt hards makers marks) = true → es'.all (flOk tb bt hards makers marks) = true
 | [], [], _, _ => rfl
 | a :: l, c :: m, ⟨⟨h1, h2, h3, h4, h5⟩, hr⟩, e => by
  simp only [List.all_cons, Bool.and_eq_true] at e ⊢
  refine ⟨?_, EntsR.allF hr e.2⟩
  have e := e.1
  unfold flOk at e ⊢
  rw [← h5, ← h1]
  split at e
  ·exact e
  ·simp only [List.all_eq_true] at e ⊢
   intro x hx
   have := e x hx
   simp only [Bool.or_eq_true] at this ⊢
   rcases this with g | g
   ·exact .inl g
   ·right
    unfold evQ at g ⊢
    rw [← h2, ← h4]
    revert g
    cases ho : evOp tb (fun _ _ _ => none) a.tm x.2 a.o.op with
    | l r => intro g; cases g
    | q r =>
     cases r with
     | none => intro g; cases g
     | some v =>
      intro g
      rw [evOp_q h3 ho]
      exact g
  ·rfl
 | [], _ :: _, h, _ => h.elim
 | _ :: _, [], h, _ => h.elim
theorem evFloat_mono {tb : Tab} {n : Nat} {ops : List Oper} {callq : CallQ} (hc : CallsOK tb callq) {tm TM tm' : T AV} {h h' : AHeap} (hs : SubT tm TM) (e : evFloat tb (callOf callq) n ops tm h = some (tm', h')) :
  ∃ TM', SubT tm' TM' ∧ Evt fun K => evFloat tb (evCall tb (run tb K)) n ops TM h = some (TM', h') := by
 unfold evFloat at e
 cases ho : ordOk (aheadOf ops []) ops.length (sinkOrd ops) with
 | false => rw [ho] at e; cases e
 | true =>
  rw [ho] at e
  simp only at e
  cases ht : evTraceF tb (callOf callq) n ops h.next 0 ((sinkOrd ops).filterMap fun i => ops[i]?) tm ⟨h.next + ops.length, h.objs⟩ with
  | none => rw [ht] at e; cases e
  | some p =>
   obtain ⟨es, ms, tm1, h1⟩ := p
   rw [ht] at e
   simp only at e
   obtain ⟨es', TM', hs', hes, hE⟩ := evTraceF_mono hc hs ht
   split at e
   ·rename_i hall
    simp only [Option.some.injEq, Prod.mk.injEq] at e
    obtain ⟨rfl, rfl⟩ := e
    rw [hes.kinds 2, hes.kinds 3] at hall
    have hall := hes.allF hall
    exact ⟨TM', hs', hE.mono fun K hK => by unfold evFloat; simp only [ho, hK, hall]⟩
   ·cases e
theorem evDraw_mono {tb : Tab} {n : Nat} {ops : List Oper} {callq : CallQ} (hc : CallsOK tb callq) {tm TM tm' : T AV} {h h' : AHeap} (hs : SubT tm TM) (e : evDraw tb (callOf callq) n ops tm h = some (tm', h')) :
  ∃ TM', SubT tm' TM' ∧ Evt fun K => evDraw tb (evCall tb (run tb K)) n ops TM h = some (TM', h') := by
 unfold evDraw at e
 cases hD : drawOk ops with
 | false => rw [hD] at e; cases e
 | true =>
  rw [hD] at e
  simp only at e
  cases hF : drawFree ops with
  | true =>
   rw [hF] at e
   obtain ⟨TM', hs', hE⟩ := evOps_mono hc hs e
   exact ⟨TM', hs', hE.mono fun K hK => by unfold evDraw; simp only [hD, hF, hK]⟩
  | false =>
   rw [hF] at e
   simp only at e
   cases hW : wantsFloat ops with
   | true =>
    rw [hW] at e
    obtain ⟨TM', g1, g2⟩ := evFloat_mono hc hs e
    exact ⟨TM', g1, g2.mono fun K hK => by unfold evDraw; simp only [hD, hF, hW, hK]⟩
   | false =>
   rw [hW] at e
   simp only at e
   cases ht : evTrace tb (callOf callq) n ops 0 ops tm h with
   | none => rw [ht] at e; cases e
   | some p =>
    obtain ⟨es, ms, tm1, h1⟩ := p
    rw [ht] at e
    simp only at e
    obtain ⟨es', TM', hs', hes, hE⟩ := evTrace_mono hc hs ht
    have hl := hes.louds
    cases ms with
    | nil =>
     simp only [Option.some.injEq, Prod.mk.injEq] at e
     obtain ⟨rfl, rfl⟩ := e
     exact ⟨TM', hs', hE.mono fun K hK => by unfold evDraw; simp only [hD, hF, hW, hK]⟩
    | cons m ms =>
     simp only at e
     split at e
     ·rename_i hall
      simp only [Option.some.injEq, Prod.mk.injEq] at e
      obtain ⟨rfl, rfl⟩ := e
      rw [hl] at hall
      have hall := hes.all hall
      exact ⟨TM', hs', hE.mono fun K hK => by unfold evDraw; simp only [hD, hF, hW, hK, hall]⟩
     ·cases e

def Keys (esc : Nat) (tm : T AV) : Prop := ∀ k v, tm.get k = some v → Nat.testBit esc k = true
theorem Keys.put {esc : Nat} {tm tm' : T AV} (h : Keys esc tm) {n : Nat} {d : Option Nat} {v : AV} (hd : ∀ k, d = some k → Nat.testBit esc k = true) (e : putDst tm n d v = some tm') : Keys esc tm' := by
 unfold putDst at e
 cases d with
 | none =>
  simp only [Option.some.injEq] at e
  subst e
  exact h
 | some d =>
  simp only at e
  cases hb : Nat.blt d n with
  | false => rw [hb] at e; cases e
  | true =>
   rw [hb] at e
   simp only [Option.some.injEq] at e
   subst e
   intro k u hk
   rw [T.get_set] at hk
   split at hk
   ·rename_i e
    subst e
    exact hd _ rfl
   ·exact h k u hk
end
end Go.Proofs.YtfkbfnpjggkdmaaGreatDoor.Ev
