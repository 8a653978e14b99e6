/- Labels and vectors in memory; which of two is ahead. -/
import Derived.Test.YtfkbfnpjggkdmaaGreatDoorCAwJ
import Derived.Test.YtfkbfnpjggkdmaaGreatDoorCEqS
import Derived.Defers
import Derived.Recover
namespace Go.Proofs.YtfkbfnpjggkdmaaGreatDoor.Ev
open Go.RowKit
abbrev bA := List Nat × List Nat
def cL (l : List bA) : List AV := l.flatMap fun x => [.str x.1, .str x.2]
def lg (l : List bA) (i : Nat) : bA := l.getD i ([], [])
def LIn (hs : af) (l : List bA) (v : AV) : Prop := (v = .nils /\ l = []) \/ ∃ b sz ex, v = .slice b 0 l.length 2 /\ MemH hs b ⟨sz, ex, cL l⟩
theorem LIn.mono {hs hs' : af} {l : List bA} {v : AV} (hm : ∀ b o, MemH hs b o -> MemH hs' b o) (h : LIn hs l v) : LIn hs' l v := h.imp id fun ⟨b, sz, ex, h1, h2⟩ => ⟨b, sz, ex, h1, hm _ _ h2⟩
theorem LIn.len {hs : af} {l : List bA} {v : AV} {e : Nat} (h : LIn hs l v) : iN (.slice e) v = some l.length := by
 rcases h with ⟨rfl, rfl⟩ | ⟨b, sz, ex, rfl, _⟩ <;> rfl
theorem LIn.full {hs : af} {l : List bA} {v : AV} (h : LIn hs l v) (hl : 0 < l.length) : ∃ b sz ex, v = .slice b 0 l.length 2 /\ MemH hs b ⟨sz, ex, cL l⟩ := by
 rcases h with ⟨_, rfl⟩ | h
 ·simp at hl
 ·exact h
theorem LIn.cell {hs : af} {l : List bA} {v : AV} (h : LIn hs l v) : v.isCell = true := by
 rcases h with ⟨rfl, _⟩ | ⟨b, sz, ex, rfl, _⟩ <;> rfl
def LBd (l : List bA) : Prop := l.length <= 1048576 /\ ∀ x ∈ l, Bytes x.1 /\ Bytes x.2 /\ x.1.length <= 1048576 /\ x.2.length <= 1048576
theorem Ce {l : List bA} {i : Nat} (h : i < l.length) : lg l i ∈ l := by
 unfold lg
 rw [List.getD_eq_getElem?_getD, List.getElem?_eq_getElem h]
 exact List.getElem_mem h
theorem LBd.at {l : List bA} (h : LBd l) {i : Nat} (hi : i < l.length) : Bytes (lg l i).1 /\ Bytes (lg l i).2 /\ (lg l i).1.length <= 1048576 /\ (lg l i).2.length <= 1048576 := h.2 _ (Ce hi)
theorem wI (x : bA) (l : List bA) : cL (x :: l) = .str x.1 :: .str x.2 :: cL l := rfl
theorem oH (l : List bA) : (cL l).length = l.length * 2 := by
 induction l with
 | nil => rfl
 | cons x l ih => rw [wI, List.length_cons, List.length_cons, ih, List.length_cons]; omega
theorem y2 (l m : List bA) : cL (l ++ m) = cL l ++ cL m := by unfold cL; rw [List.flatMap_append]
theorem rI : ∀ (l : List bA) (i : Nat), i < l.length -> (cL l)[i * 2]? = some (.str (lg l i).1) /\ (cL l)[i * 2 + 1]? = some (.str (lg l i).2)
 | x :: l, 0, _ => ⟨rfl, rfl⟩
 | x :: l, i + 1, h => by
  have := rI l i (by simpa using h)
  have e : (i + 1) * 2 = i * 2 + 1 + 1 := by omega
  rw [wI, e]
  exact this
theorem C3 {cs : List AV} {o : Nat} {a b : AV} (h1 : cs[o]? = some a) (h2 : cs[o + 1]? = some b) : dy cs o 2 = some [a, b] := by
 unfold dy
 have hl := (List.getElem?_eq_some_iff.1 h2).1
 have e : Nat.ble (o + 2) cs.length = true := by rw [Nat.ble_eq]; omega
 simp only [e]
 congr 1
 apply List.ext_getElem?
 intro k
 rcases k with _ | _ | k
 ·simpa [List.getElem?_take, List.getElem?_drop] using h1
 ·simpa [List.getElem?_take, List.getElem?_drop] using h2
 ·simp [List.getElem?_take]; omega
theorem tj {l : List bA} {i : Nat} (h : i < l.length) : dy (cL l) ((0 + i) * 2) 2 = some [.str (lg l i).1, .str (lg l i).2] := by
 obtain ⟨h1, h2⟩ := rI l i h
 rw [Nat.zero_add]
 exact C3 h1 h2
theorem m9 {l : List bA} {i : Nat} (h : i < l.length) : (cL l)[(0 + i) * 2 + 0]? = some (.str (lg l i).1) := by
 rw [Nat.zero_add]; exact (rI l i h).1
theorem tk {l : List bA} {i : Nat} (h : i < l.length) : (cL l)[(0 + i) * 2 + 1]? = some (.str (lg l i).2) := by
 rw [Nat.zero_add]; exact (rI l i h).2
theorem fH : ∀ x : List Nat, aL x x = false
 | [] => rfl
 | a :: x => by unfold aL; simp [fH x]
theorem sp (a b : Nat) (x y : List Nat) : aL (a :: x) (b :: y) = (decide (a < b) || (decide (a = b) && aL x y)) := by
 rw [aL]
 by_cases e : a = b
 ·subst e; simp
 ·have h1 : Nat.beq a b = false := by
   cases hb : Nat.beq a b with
   | false => rfl
   | true => exact absurd (Nat.eq_of_beq_eq_true hb) e
  have h2 : Nat.blt a b = decide (a < b) := by
   cases hb : Nat.blt a b with
   | true => rw [Nat.blt_eq] at hb; simp [hb]
   | false =>
    have : ¬ a < b := fun h => by rw [<- Nat.blt_eq, hb] at h; cases h
    simp [this]
  simp [h1, h2, e]
theorem tY (x : List Nat) : aL x [] = false := by cases x <;> rfl
theorem jP : ∀ {x y z : List Nat}, aL x y = true -> aL y z = true -> aL x z = true
 | x, [], z, h, _ => by rw [tY] at h; cases h
 | x, _ :: _, [], _, h => by rw [tY] at h; cases h
 | [], _ :: _, _ :: _, _, _ => rfl
 | a :: x, b :: y, c :: z, h, g => by
  rw [sp] at h g ⊢
  simp only [Bool.or_eq_true, Bool.and_eq_true, decide_eq_true_eq] at h g ⊢
  rcases h with h | ⟨rfl, h⟩
  ·rcases g with g | ⟨rfl, g⟩
   ·exact .inl zy
   ·exact .inl h
  ·rcases g with g | ⟨rfl, g⟩
   ·exact .inl g
   ·exact .inr ⟨rfl, jP h g⟩
theorem lK : ∀ x y : List Nat, aL x y = true \/ x = y \/ aL y x = true
 | [], [] => .inr (.inl rfl)
 | [], _ :: _ => .inl rfl
 | _ :: _, [] => .inr (.inr rfl)
 | a :: x, b :: y => by
  rw [sp, sp]
  simp only [Bool.or_eq_true, Bool.and_eq_true, decide_eq_true_eq]
  rcases Nat.lt_trichotomy a b with h | rfl | h
  ·exact .inl (.inl h)
  ·rcases lK x y with h | rfl | h
   ·exact .inl (.inr ⟨rfl, h⟩)
   ·exact .inr (.inl rfl)
   ·exact .inr (.inr (.inr ⟨rfl, h⟩))
  ·exact .inr (.inr (.inl h))
theorem jO {x y : List Nat} (h : aL x y = true) : aL y x = false := by
 cases g : aL y x with
 | false => rfl
 | true => have := jP h g; rw [fH] at this; cases this
def gn (x y : List Nat) : Int := if aL x y = true then -1 else if aL y x = true then 1 else 0
theorem rN {x y : List Nat} : gn x y = -1 ↔ aL x y = true := by
 unfold gn
 cases h : aL x y with
 | true => simp
 | false => cases g : aL y x <;> simp
theorem lB {x y : List Nat} : gn x y = 0 ↔ x = y := by
 unfold gn
 rcases lK x y with h | rfl | h
 ·have : x ≠ y := by rintro rfl; rw [fH] at h; cases h
  simp [h, this]
 ·simp [fH]
 ·have : x ≠ y := by rintro rfl; rw [fH] at h; cases h
  simp [h, this, jO h]
theorem qq (x y : List Nat) : gn y x = - gn x y := by
 unfold gn
 rcases lK x y with h | rfl | h
 ·simp [h, jO h]
 ·simp [fH]
 ·simp [h, jO h]
theorem u7 (x y : List Nat) : gn x y = -1 \/ gn x y = 0 \/ gn x y = 1 := by
 unfold gn
 cases aL x y <;> cases aL y x <;> simp
theorem BX (x y : List Nat) : (!(aL x y || dg x y)) = aL y x := by
 rw [oS]
 rcases lK x y with h | rfl | h
 ·simp [h, jO h]
 ·simp [fH]
 ·have : x ≠ y := by rintro rfl; rw [fH] at h; cases h
  simp [h, jO h, this]
theorem GH (x y : List Nat) : (aL x y || dg x y) = !(aL y x) := by
 rw [<- BX x y, Bool.not_not]
theorem wE {tb : Tab} {t : TypeId} {x y : List Nat} : bC tb .gtr t (.str x) (.str y) = some (.bool (aL y x)) := by
 unfold bC; simp only [j0, BX]
theorem th {tb : Tab} {t : TypeId} {x y : List Nat} : bC tb .leq t (.str x) (.str y) = some (.bool (!(aL y x))) := by
 unfold bC; simp only [j0, GH]
def fP (x y : bA) : Int := if gn x.1 y.1 ≠ 0 then gn x.1 y.1 else gn x.2 y.2
def dD : List bA -> List bA -> Int
 | [], [] => 0
 | [], _ :: _ => -1
 | _ :: _, [] => 1
 | x :: l, y :: m => if fP x y ≠ 0 then fP x y else dD l m
theorem u5 (x y : bA) : fP x y = -1 \/ fP x y = 0 \/ fP x y = 1 := by
 unfold fP; split <;> exact u7 _ _
theorem nO {x y : bA} : fP x y = 0 ↔ x = y := by
 unfold fP
 split
 ·rename_i h
  constructor
  ·intro e; exact absurd e h
  ·rintro rfl; exact absurd (lB.2 rfl) h
 ·rename_i h
  have h := lB.1 (Classical.not_not.1 h)
  rw [lB]
  obtain ⟨a, b⟩ := x
  obtain ⟨c, d⟩ := y
  simp at h ⊢
  simp [h]
theorem y7 (x y : bA) : fP y x = - fP x y := by
 unfold fP
 rw [qq x.1 y.1, qq x.2 y.2]
 by_cases h : gn x.1 y.1 = 0 <;> simp [h]
theorem u6 {x y z : bA} (h : fP x y = -1) (g : fP y z = -1) : fP x z = -1 := by
 unfold fP at *
 by_cases h1 : gn x.1 y.1 = 0
 ·rw [if_neg (by simp [h1])] at h
  have e := lB.1 h1
  by_cases g1 : gn y.1 z.1 = 0
  ·rw [if_neg (by simp [g1])] at g
   rw [if_neg (by rw [e]; simp [g1])]
   rw [rN] at *
   exact jP h g
  ·rw [if_pos g1] at g
   rw [e, if_pos g1]; exact g
 ·rw [if_pos h1] at h
  by_cases g1 : gn y.1 z.1 = 0
  ·have e := lB.1 g1
   rw [<- e, if_pos h1]; exact h
  ·rw [if_pos g1] at g
   rw [rN] at h g
   have := rN.2 (jP h g)
   rw [if_pos (by rw [this]; decide)]; exact this
theorem kO : ∀ x y : List bA, dD x y = -1 \/ dD x y = 0 \/ dD x y = 1
 | [], [] => .inr (.inl rfl)
 | [], _ :: _ => .inl rfl
 | _ :: _, [] => .inr (.inr rfl)
 | x :: l, y :: m => by
  unfold dD
  split
  ·exact u5 x y
  ·exact kO l m
theorem nP : ∀ {x y : List bA}, dD x y = 0 ↔ x = y
 | [], [] => by simp [dD]
 | [], _ :: _ => by simp [dD]
 | _ :: _, [] => by simp [dD]
 | x :: l, y :: m => by
  unfold dD
  split
  ·rename_i h
   constructor
   ·intro e; exact absurd e h
   ·intro e
    simp only [List.cons.injEq] at e
    exact absurd (nO.2 e.1) h
  ·rename_i h
   have h := nO.1 (Classical.not_not.1 h)
   rw [nP (x := l) (y := m)]
   simp [h]
theorem mi : ∀ x y : List bA, dD y x = - dD x y
 | [], [] => rfl
 | [], _ :: _ => rfl
 | _ :: _, [] => rfl
 | x :: l, y :: m => by
  unfold dD
  rw [y7 x y, mi l m]
  by_cases h : fP x y = 0 <;> simp [h]
theorem oN : ∀ {x y z : List bA}, dD x y = -1 -> dD y z = -1 -> dD x z = -1
 | [], [], _, h, _ => by simp [dD] at h
 | [], _ :: _, [], _, h => by simp [dD] at h
 | [], _ :: _, _ :: _, _, _ => rfl
 | _ :: _, [], _, h, _ => by simp [dD] at h
 | _ :: _, _ :: _, [], _, h => by simp [dD] at h
 | x :: l, y :: m, z :: n, h, g => by
  unfold dD at *
  by_cases h1 : fP x y = 0
  ·rw [if_neg (by simp [h1])] at h
   have e := nO.1 h1
   subst e
   by_cases g1 : fP x z = 0
   ·rw [if_neg (by simp [g1])] at g ⊢
    exact oN h g
   ·rw [if_pos g1] at g ⊢
    exact g
  ·rw [if_pos h1] at h
   by_cases g1 : fP y z = 0
   ·have e := nO.1 g1
    subst e
    rw [if_pos h1]; exact h
   ·rw [if_pos g1] at g
    have := u6 h g
    rw [if_pos (by rw [this]; decide)]; exact this
def HT (x y : List bA) : Prop := dD x y <= 0
theorem zR {x y z : List bA} (h : HT x y) (g : HT y z) : HT x z := by
 unfold HT at *
 rcases kO x y with h1 | h1 | h1
 ·rcases kO y z with g1 | g1 | g1
  ·have := oN h1 g1; omega
  ·rw [<- nP.1 g1]; exact h
  ·omega
 ·rw [nP.1 h1]; exact g
 ·omega
variable {J : Ctx}
noncomputable section
structure XCfg where
 thr : Nat -> List AV -> Option (List AV)
 isR : Nat -> List AV -> Bool
 rcv : Nat -> List AV -> List AV -> AHeap -> Option AHeap
inductive CRes where
 | ret (v : AV) (h : AHeap)
 | boom (l : List AV) (h : AHeap)
inductive RRes where
 | go (ex : Ex) (tm : T AV) (h : AHeap) (d : Option (Nat × List AV))
 | boom (l : List AV) (tm : T AV) (h : AHeap) (d : Option (Nat × List AV))
abbrev gk := Nat -> List AV -> AHeap -> Option CRes
def sE : Option CRes -> Option (AV × AHeap)
 | some (.ret v h) => some (v, h)
 | _ => none
def ib (c : gk) : Nat -> List AV -> AHeap -> Option (AV × AHeap) := fun f args h => sE (c f args h)
def iC (c : gk) (tm : T AV) (h : AHeap) (o : Op) : Option (Option CRes) :=
 match o with
 | .call cl => match cl.callee with
  | .value f => match aS tm f, cC tm cl.args.toList with
   | some (.func g caps), some l => match fM caps with
    | none => some (c g (l ++ caps) h)
    | some x => some (c g (x :: l) h)
   | _, _ => none
  | _ => none
 | _ => none
def ke (cfg : XCfg) (tm : T AV) (o : Oper) : Option (Nat × List AV) :=
 match o.op, o.dst, o.guard with
 | .defer cl, none, none => match cl.callee, cl.args.toList with
  | .value f, [] => match aS tm f with
   | some (.func g caps) => match fM caps, cfg.isR g caps with
    | none, true => some (g, caps)
    | _, _ => none
   | _ => none
  | _, _ => none
 | _, _, _ => none
def f9 (c : gk) (ops : List Oper) (tm : T AV) (h : AHeap) (o : Oper) : Option (Option CRes) :=
 match iC c tm h o.op with
 | some r => match aK ops tm o with
  | some true => some r
  | _ => none
 | none => none
def eH (cfg : XCfg) (tb : Tab) (c : gk) (n : Nat) (ops : List Oper) : List Oper -> T AV -> AHeap -> Option (Nat × List AV) -> Option RRes
 | [], tm, h, d => some (.go .normal tm h d)
 | o :: rest, tm, h, d => match f9 c ops tm h o with
  | some (some (.ret v h')) => match bE tm n o.dst v with
   | some tm' => eH cfg tb c n ops rest tm' h' d
   | none => none
  | some (some (.boom l h')) => some (.boom l tm h' d)
  | some none => none
  | none => match ke cfg tm o, d with
   | some dd, none => eH cfg tb c n ops rest tm h (some dd)
   | some _, some _ => none
   | none, _ => match fT tb (ib c) ops tm h o with
    | some (v, h', _) => match bE tm n o.dst v with
     | some tm' => eH cfg tb c n ops rest tm' h' d
     | none => none
    | none => none
def rX (tb : Tab) (c : gk) (n : Nat) (ops : List Oper) (tm : T AV) (h : AHeap) : Option (List AV × T AV × AHeap) :=
 match ops.getLast?, gz ops with
 | some o, true => match bh tb (ib c) n ops 0 ops.dropLast tm h with
  | some (es, ms, tm', h') =>
   match es.all (iq tb (ay ops []) (es.filterMap fun e => if e.kind = 2 then some e.i else none) ((0, h) :: ms)) && (List.range (ops.length - 1)).all (fun i => ((ay ops []).getD (ops.length - 1) 0).testBit i) with
   | true => match f9 c ops tm' h' o with
    | some (some (.boom l h'')) => some (l, tm', h'')
    | _ => none
   | false => none
  | none => none
 | _, _ => none
def rS (tb : Tab) (c : gk) (n : Nat) (ops : List Oper) (tm : T AV) (h : AHeap) (d : Option (Nat × List AV)) : Option RRes :=
 match c7 tb (ib c) n ops tm h with
 | some (tm', h') => some (.go .normal tm' h' d)
 | none => match rX tb c n ops tm h with
  | some (l, tm', h') => some (.boom l tm' h' d)
  | none => none
def cT (cfg : XCfg) (tb : Tab) (c : gk) (n : Nat) (ih : Code -> T AV -> AHeap -> Option (Nat × List AV) -> Option RRes) (cd : Code) (tm : T AV) (h : AHeap) (d : Option (Nat × List AV)) : Option RRes :=
 match cd with
 | .skip => some (.go .normal tm h d)
 | .label _ => some (.go .normal tm h d)
 | .ret => some (.go .ret tm h d)
 | .exit id => some (.go (.exit id) tm h d)
 | .region _ ops draw => match draw with
  | true => rS tb c n ops.toList tm h d
  | false => eH cfg tb c n ops.toList ops.toList tm h d
 | .seq a b => match ih a tm h d with
  | some (.go .normal tm' h' d') => ih b tm' h' d'
  | r => r
 | .cond x a b => match aS tm x with
  | some (.bool true) => ih a tm h d
  | some (.bool false) => ih b tm h d
  | _ => none
 | .block id b => match ih b tm h d with
  | some (.go (.exit j) tm' h' d') => match Nat.beq j id with
   | true => some (.go .normal tm' h' d')
   | false => some (.go (.exit j) tm' h' d')
  | r => r
 | .loop b => match ih b tm h d with
  | some (.go .normal tm' h' d') => ih (.loop b) tm' h' d'
  | r => r
 | _ => none
def ko (tb : Tab) (rs : List ResultVar) (tm : T AV) (h : AHeap) : Option CRes :=
 match cF tb tm h rs with
 | some l => some (.ret (bW l) h)
 | none => none
def so (cfg : XCfg) (tb : Tab) (rs : List ResultVar) : Option RRes -> Option CRes
 | some (.go (.exit _) _ _ _) => none
 | some (.go _ tm h _) => ko tb rs tm h
 | some (.boom l tm h none) => some (.boom l h)
 | some (.boom l tm h (some (g, caps))) => match cfg.rcv g caps l h with
  | some h' => ko tb rs tm h'
  | none => none
 | none => none
def cj (cfg : XCfg) (tb : Tab) (run : Nat -> Code -> T AV -> AHeap -> Option (Nat × List AV) -> Option RRes) (f : Nat) (args : List AV) (h : AHeap) : Option CRes :=
 match tb.orc f args h with
 | some v => some (.ret v h)
 | none => match cfg.thr f args with
  | some l => some (.boom l h)
  | none => match tb.ft.get f with
   | some fn => match fn.body, Nat.ble args.length fn.ntmps with
    | some c, true => so cfg tb fn.results.toList (run fn.ntmps c (er 0 args .leaf) h none)
    | _, _ => none
   | none => none
def eV (cfg : XCfg) (tb : Tab) : Nat -> Nat -> Code -> T AV -> AHeap -> Option (Nat × List AV) -> Option RRes
 | 0, _, _, _, _, _ => none
 | k + 1, n, c, tm, h, d => cT cfg tb (cj cfg tb (eV cfg tb k)) n (eV cfg tb k n) c tm h d
def A7 (cfg : XCfg) (tb : Tab) (k : Nat) : gk := cj cfg tb (eV cfg tb k)
end
abbrev Au := List AV -> List PanicEntry -> World -> Prop
abbrev jz (P : Program) (f : Nat) : Prop := ∃ fn, P.funcs[f]? = some fn /\ fn.body.isSome = true /\ (fn.name == "runtime.NumGoroutine") = false
def XOK (P : Program) (J : Ctx) (tr : Au) (c : gk) : Prop :=
 ∀ (M : Inj) (N : Nat -> Prop) (w0 : Base J) (h : AHeap) (w : World) (f : Nat) (args : List AV) (vs : Array Value), LRel M args vs.toList -> HRel M N w0 h w ->
  (∀ v h', c f args h = some (.ret v h') -> jz P f /\ Calls P f vs w fun e w' => ∃ M' u, e = .returned u /\ M.le M' /\ HRel M' N w0 h' w' /\ VRel M' v u) /\
  (∀ l h', c f args h = some (.boom l h') -> jz P f /\ Calls P f vs w fun e w' => ∃ M' chain, e = .panicked chain /\ M.le M' /\ HRel M' N w0 h' w' /\ tr l chain w')
theorem XOK.ret {P : Program} {tr : Au} {c : gk} (h : XOK P J tr c) : gO P J (ib c) := by
 intro M N w0 hp w f args vs v h' he hl hh
 unfold ib sE at he
 split at he
 ·rename_i v1 h1 hc
  simp only [Option.some.injEq, Prod.mk.injEq] at he
  obtain ⟨rfl, rfl⟩ := he
  exact (h M N w0 hp w f args vs hl hh).1 _ _ hc
 ·cases he
section one
variable {P : Program} {tb : Tab} {tr : Au} {c : gk} {M : Inj} {N : Nat -> Prop} {w0 : Base J} {tm : T AV} {h : AHeap} {a : Act} {w : World}
theorem yI (ht : TRel M tm a) {o : Oper} {r : Option CRes} (hv : iC c tm h o.op = some r) :
  ∃ (g : Nat) (args : List AV) (vs : Array Value), r = c g args h /\ LRel M args vs.toList /\ (jz P g -> (execOp a.eval o).run P w = .ok (.enter g vs) w) := by
 obtain ⟨dst, op, type, pos, after, guard⟩ := o
 unfold iC at hv
 split at hv
 rotate_left
 ·cases hv
 rename_i cl hop
 simp only at hop
 subst hop
 obtain ⟨callee, args, argTypes⟩ := cl
 split at hv
 rotate_left
 ·cases hv
 rename_i f hcal
 simp only at hcal
 subst hcal
 split at hv
 rotate_left
 ·cases hv
 rename_i g caps l hg hl
 have hargs := gy ht hl
 split at hv
 ·rename_i hgb
  cases hv
  obtain ⟨cs, he, hcs⟩ := pc (eU ht hg) hgb
  refine ⟨g, l ++ caps, (args.map a.eval) ++ cs, rfl, by have := hargs.append hcs; simpa using this, fun ⟨fn, hf, hb, hname⟩ => ?_⟩
  have hb2 : fn.body.isNone = false := by cases hbb : fn.body <;> simp_all
  simp only [execOp, resolve, Sem.run_bind, he, Deferred.ofValue, Sem.run_pure, Result.andThen_ok, invoke, callFunc, run_program, hf, hname, Bool.false_eq_true, if_false, hb2, Array.empty_append]
 ·rename_i x hgb
  cases hv
  obtain ⟨u0, he, hx⟩ := t5 (eU ht hg) hgb
  refine ⟨g, x :: l, #[u0] ++ args.map a.eval, rfl, by have := LRel.cons hx hargs; simpa using this, fun ⟨fn, hf, hb, hname⟩ => ?_⟩
  have hb2 : fn.body.isNone = false := by cases hbb : fn.body <;> simp_all
  simp only [execOp, resolve, Sem.run_bind, he, Deferred.ofValue, Sem.run_pure, Result.andThen_ok, invoke, callFunc, run_program, hf, hname, Bool.false_eq_true, if_false, hb2, Array.append_empty]
theorem Fj (hc : XOK P J tr c) (ht : TRel M tm a) (hh : HRel M N w0 h w) {o : Oper} {v : AV} {h' : AHeap} (hv : iC c tm h o.op = some (some (.ret v h'))) {next : Act -> World -> Prop} {Q : Exit -> Act -> World -> Prop}
  (hn : ∀ M' u w', M.le M' -> HRel M' N w0 h' w' -> VRel M' v u -> next (a.put o.dst u) w') : o.wp P a w next Q := by
 obtain ⟨g, args, vs, hr, hl, hrun⟩ := yI (P := P) (w := w) ht hv
 obtain ⟨hf, hcalls⟩ := (hc M N w0 h w g args vs hl hh).1 v h' hr.symm
 unfold Oper.wp
 rw [hrun hf, Oper.upon_enter]
 refine hcalls.mono ?_
 rintro e w' ⟨M', u, rfl, h1, h2, h3⟩
 exact hn M' u w' h1 h2 h3
theorem uC (hc : XOK P J tr c) (ht : TRel M tm a) (hh : HRel M N w0 h w) {o : Oper} {l : List AV} {h' : AHeap} (hv : iC c tm h o.op = some (some (.boom l h'))) {next : Act -> World -> Prop} {Q : Exit -> Act -> World -> Prop}
  (hn : ∀ M' chain w', M.le M' -> HRel M' N w0 h' w' -> tr l chain w' -> Q (.panic chain) a w') : o.wp P a w next Q := by
 obtain ⟨g, args, vs, hr, hl, hrun⟩ := yI (P := P) (w := w) ht hv
 obtain ⟨hf, hcalls⟩ := (hc M N w0 h w g args vs hl hh).2 l h' hr.symm
 unfold Oper.wp
 rw [hrun hf, Oper.upon_enter]
 refine hcalls.mono ?_
 rintro e w' ⟨M', chain, rfl, h1, h2, h3⟩
 exact hn M' chain w' h1 h2 h3
theorem jc {ops : List Oper} {o : Oper} {r : Option CRes} (h1 : f9 c ops tm h o = some r) : iC c tm h o.op = some r /\ aK ops tm o = some true := by
 unfold f9 at h1
 split at h1
 ·rename_i r' hv
  split at h1
  ·rename_i hw
   cases h1
   exact ⟨hv, hw⟩
  ·cases h1
 ·cases h1
def DRel (cfg : XCfg) (M : Inj) : Option (Nat × List AV) -> List Deferred -> Prop
 | none, ds => ds = []
 | some (g, caps), ds => cfg.isR g caps = true /\ ∃ cs : Array Value, ds = [{ target := .fn (.func g) cs, args := #[] }] /\ LRel M caps cs.toList
theorem LRel.mono' {M M' : Inj} (hM : M.le M') {l : List AV} {cs : List Value} (h : LRel M l cs) : LRel M' l cs := ⟨h.1, fun i v u p q => (h.2 i v u p q).mono hM⟩
theorem DRel.mono {cfg : XCfg} {M M' : Inj} (hM : M.le M') : ∀ {d : Option (Nat × List AV)} {ds : List Deferred}, DRel cfg M d ds -> DRel cfg M' d ds
 | none, _, h => h
 | some (g, caps), _, ⟨h0, cs, h1, h2⟩ => ⟨h0, cs, h1, h2.mono' hM⟩
theorem tC {cfg : XCfg} (ht : TRel M tm a) {o : Oper} {g : Nat} {caps : List AV} (hd : ke cfg tm o = some (g, caps)) (h0 : a.defers = []) {next : Act -> World -> Prop} {Q : Exit -> Act -> World -> Prop}
  (hn : ∀ a', a'.tmps = a.tmps -> DRel cfg M (some (g, caps)) a'.defers -> next a' w) : o.guard = none /\ o.wp P a w next Q := by
 obtain ⟨dst, op, type, pos, after, guard⟩ := o
 unfold ke at hd
 split at hd
 rotate_left
 ·cases hd
 rename_i cl h1 h2 h3
 simp only at h1 h2 h3
 subst h1 h2 h3
 obtain ⟨callee, args, argTypes⟩ := cl
 split at hd
 rotate_left
 ·cases hd
 rename_i f hcal hargs
 simp only at hcal hargs
 subst hcal
 split at hd
 rotate_left
 ·cases hd
 rename_i g1 caps1 hf
 split at hd
 rotate_left
 ·cases hd
 rename_i hb1 hb2
 cases hd
 obtain ⟨cs, he, hcs⟩ := pc (eU ht hf) hb1
 have ha : args = #[] := by
  apply Array.ext'
  simpa using hargs
 subst ha
 refine ⟨rfl, ?_⟩
 unfold Oper.wp
 have hrun : (execOp a.eval { dst := none, op := .defer { callee := .value f, args := #[], argTypes }, type, pos, after, guard := none }).run P w = .ok (.defer { target := .fn (.func g) cs, args := #[] }) w := by
  simp only [execOp, resolve, Sem.run_bind, he, Deferred.ofValue, Sem.run_pure, Result.andThen_ok, Array.map_empty, Array.empty_append, List.map_toArray, List.map_nil, Array.append_empty]
 rw [hrun, Oper.upon_defer]
 refine hn _ (by simp [Act.put]) ⟨hb2, cs, ?_, hcs⟩
 rw [iA, h0]
end one
end Go.Proofs.YtfkbfnpjggkdmaaGreatDoor.Ev
