/- The quick evaluator, part 3: regions, code, calls. What it gK, the evaluator gK. -/
import Derived.Test.YtndhhgbpcmfeiaaGreatDoorOEvV
namespace Go.Proofs.YtndhhgbpcmfeiaaGreatDoor.Ev
open Go.RowKit
noncomputable section

theorem dc (tb : Tab) (K n : Nat) (c : Code) (tm : T AV) (h : AHeap) : run tb (K + 1) n c tm h = dV tb (dw tb (run tb K)) n (run tb K n) c tm h := rfl

end
noncomputable section
end
noncomputable section
def callE (tb : Tab) : ji := fun f a h =>
 match Classical.propDecidable (∃ p : AV × AHeap, Evt fun K => dw tb (run tb K) f a h = some p) with
 | .isTrue hx => .ok (Classical.choose hx).1 (Classical.choose hx).2
 | .isFalse _ => .bad
theorem l8 (tb : Tab) : gO tb (callE tb) := by
 intro f a h v h' e
 unfold callE at e
 split at e
 ·rename_i hx _
  simp only [VH.ok.injEq] at e
  have := Classical.choose_spec hx
  rw [<- e.1, <- e.2]
  exact this
 ·cases e
theorem A5 {tb : Tab} {f : Nat} {a : List AV} {h : AHeap} {v : AV} {h' : AHeap} (e : Evt fun K => dw tb (run tb K) f a h = some (v, h')) : callE tb f a h = .ok v h' := by
 unfold callE
 split
 ·rename_i hx _
  have hs := Classical.choose_spec hx
  obtain ⟨K, hK⟩ := e.and hs
  obtain ⟨h1, h2⟩ := hK K (Nat.le_refl K)
  rw [h1] at h2
  simp only [Option.some.injEq] at h2
  rw [<- h2]
 ·rename_i hx _
  exact absurd ⟨(v, h'), e⟩ hx
theorem kQ {tb : Tab} {f : Nat} {a : List AV} {h : AHeap} {v : AV} {h' : AHeap} (e : Evt fun K => dw tb (run tb K) f a h = some (v, h')) : aS (callE tb) f a h = some (v, h') := by
 unfold aS
 rw [A5 e]
theorem SubT.refl (tm : T AV) : SubT tm tm := fun _ _ h => h
theorem SubT.trans {a b c : T AV} (h : SubT a b) (g : SubT b c) : SubT a c := fun k v e => g k v (h k v e)

abbrev St := List (Nat × AV)
def lk : St -> Nat -> Option AV
 | [], _ => none
 | (k, v) :: s, t => match Nat.beq k t with
  | true => some v
  | false => lk s t
def Has (tm : T AV) (s : St) : Prop := ∀ k v, lk s k = some v -> tm.get k = some v
theorem Has.mono {tm TM : T AV} {s : St} (h : Has tm s) (g : SubT tm TM) : Has TM s := fun k v e => g k v (h k v e)
theorem Has.set {tm : T AV} {s : St} (h : Has tm s) (d : Nat) (v : AV) : Has (tm.set d v) ((d, v) :: s) := by
 intro k x e
 rw [aP]
 unfold lk at e
 split at e
 ·rename_i hb
  have := Nat.eq_of_beq_eq_true hb
  rw [if_pos this.symm]; exact e
 ·rename_i hb
  have : ¬ k = d := by intro hk; subst hk; simp at hb
  rw [if_neg this]
  exact h k x e
def SubS (a b : St) : Prop := ∀ k v, lk a k = some v -> lk b k = some v
theorem SubS.nil (b : St) : SubS [] b := fun k v h => by cases h
theorem SubS.cons {a b : St} {k : Nat} {v : AV} (h : lk b k = some v) (g : SubS a b) : SubS ((k, v) :: a) b := by
 intro j x e
 unfold lk at e
 split at e
 ·rename_i hb
  have := Nat.eq_of_beq_eq_true hb
  subst this
  rw [h]; exact e
 ·exact g j x e
theorem SubS.refl (a : St) : SubS a a := fun _ _ h => h
theorem Has.sub {tm : T AV} {a b : St} (h : Has tm b) (g : SubS a b) : Has tm a := fun k v e => h k v (g k v e)

structure HE where
 b : Nat
 o : AObj
 w : Bool
abbrev ak := List HE
structure Env where
 h0 : AHeap
 S : List Nat
def Fr (S : List Nat) (h h' : AHeap) : Prop := h.next <= h'.next /\ ∀ b, b < h.next -> b ∉ S -> h'.objs.get b = h.objs.get b
theorem Fr.refl (S : List Nat) (h : AHeap) : Fr S h h := ⟨Nat.le_refl _, fun _ _ _ => rfl⟩
structure HS (E : Env) (hs : ak) (h : AHeap) : Prop where
 at_ : ∀ e ∈ hs, h.objs.get e.b = some e.o /\ e.b < h.next /\ (e.w = true -> E.h0.next <= e.b \/ e.b ∈ E.S)
 nd : (hs.map (·.b)).Nodup
 fr : Fr E.S E.h0 h

def Ib (tb : Tab) (n : Nat) (c : Code) (tm : T AV) (h : AHeap) (Q : Ex -> T AV -> AHeap -> Prop) : Prop :=
 ∃ ex tm' h', (Evt fun K => run tb K n c tm h = some (ex, tm', h')) /\ Q ex tm' h'
def HP (tb : Tab) (n : Nat) (ops rest : List Oper) (tm : T AV) (h : AHeap) (R : T AV -> AHeap -> Prop) : Prop :=
 ∃ tm' h', eZ tb (aS (callE tb)) n ops rest tm h = some (tm', h') /\ ∀ TM, SubT tm' TM -> R TM h'

section
variable {tb : Tab} {n : Nat} {E : Env}

def W (tb : Tab) (n : Nat) (c : Code) (E : Env) (s : St) (hs : ak) (Q : Ex -> T AV -> AHeap -> Prop) : Prop := ∀ tm h, Has tm s -> HS E hs h -> Ib tb n c tm h Q
def WO (tb : Tab) (n : Nat) (ops rest : List Oper) (E : Env) (s : St) (hs : ak) (R : T AV -> AHeap -> Prop) : Prop := ∀ tm h, Has tm s -> HS E hs h -> HP tb n ops rest tm h R
def End (E : Env) (s : St) (hs : ak) (R : T AV -> AHeap -> Prop) : Prop := ∀ tm h, Has tm s -> HS E hs h -> R tm h

def K (tb : Tab) (n : Nat) (b : Code) (Q : Ex -> T AV -> AHeap -> Prop) : Ex -> T AV -> AHeap -> Prop
 | .normal, tm, h => Ib tb n b tm h Q
 | .exit i, tm, h => Q (.exit i) tm h
 | .ret, tm, h => Q .ret tm h
def KB (id : Nat) (Q : Ex -> T AV -> AHeap -> Prop) : Ex -> T AV -> AHeap -> Prop
 | .normal, tm, h => Q .normal tm h
 | .exit i, tm, h => match Nat.beq i id with
  | true => Q .normal tm h
  | false => Q (.exit i) tm h
 | .ret, tm, h => Q .ret tm h
def KL (tb : Tab) (n : Nat) (b : Code) (Q : Ex -> T AV -> AHeap -> Prop) : Ex -> T AV -> AHeap -> Prop
 | .normal, tm, h => Ib tb n (.loop b) tm h Q
 | .exit i, tm, h => Q (.exit i) tm h
 | .ret, tm, h => Q .ret tm h

theorem End.K {s : St} {hs : ak} {b : Code} {Q} (h : W tb n b E s hs Q) : End E s hs (K tb n b Q .normal) := h
theorem aC {s : St} {hs : ak} {b : Code} {Q} {i : Nat} (h : End E s hs (Q (.exit i))) : End E s hs (Ev.K tb n b Q (.exit i)) := h
theorem ac {s : St} {hs : ak} {b : Code} {Q : Ex -> T AV -> AHeap -> Prop} (h : End E s hs (Q .ret)) : End E s hs (Ev.K tb n b Q .ret) := h
theorem End.KB {s : St} {hs : ak} {id : Nat} {Q : Ex -> T AV -> AHeap -> Prop} (h : End E s hs (Q .normal)) : End E s hs (KB id Q .normal) := h
theorem aB {s : St} {hs : ak} {id : Nat} {Q : Ex -> T AV -> AHeap -> Prop} (h : End E s hs (Q .normal)) : End E s hs (Ev.KB id Q (.exit id)) := by
 intro tm hp ht hh
 show match Nat.beq id id with
  | true => Q .normal tm hp
  | false => Q (.exit id) tm hp
 rw [Nat.beq_refl]
 exact h tm hp ht hh
theorem dl {s : St} {hs : ak} {id i : Nat} {Q : Ex -> T AV -> AHeap -> Prop} (hb : Nat.beq i id = false) (h : End E s hs (Q (.exit i))) : End E s hs (Ev.KB id Q (.exit i)) := by
 intro tm hp ht hh
 show match Nat.beq i id with
  | true => Q .normal tm hp
  | false => Q (.exit i) tm hp
 rw [hb]
 exact h tm hp ht hh
theorem ad {s : St} {hs : ak} {id : Nat} {Q : Ex -> T AV -> AHeap -> Prop} (h : End E s hs (Q .ret)) : End E s hs (Ev.KB id Q .ret) := h
theorem End.KL {s : St} {hs : ak} {b : Code} {Q} (h : W tb n (.loop b) E s hs Q) : End E s hs (KL tb n b Q .normal) := h
theorem aK {s : St} {hs : ak} {b : Code} {Q} {i : Nat} (h : End E s hs (Q (.exit i))) : End E s hs (Ev.KL tb n b Q (.exit i)) := h
theorem bE {s : St} {hs : ak} {b : Code} {Q : Ex -> T AV -> AHeap -> Prop} (h : End E s hs (Q .ret)) : End E s hs (Ev.KL tb n b Q .ret) := h

theorem pw : Evt fun _ => True := Evt.of fun _ => trivial
theorem W.skip {s : St} {hs : ak} {Q} (h : End E s hs (Q .normal)) : W tb n .skip E s hs Q :=
 fun tm hp ht hh => ⟨.normal, tm, hp, pw.step fun K _ => rfl, h tm hp ht hh⟩
theorem W.ret {s : St} {hs : ak} {Q} (h : End E s hs (Q .ret)) : W tb n .ret E s hs Q :=
 fun tm hp ht hh => ⟨.ret, tm, hp, pw.step fun K _ => rfl, h tm hp ht hh⟩
theorem W.exit {s : St} {hs : ak} {Q} {i : Nat} (h : End E s hs (Q (.exit i))) : W tb n (.exit i) E s hs Q :=
 fun tm hp ht hh => ⟨.exit i, tm, hp, pw.step fun K _ => rfl, h tm hp ht hh⟩
theorem W.seq {s : St} {hs : ak} {Q} {a b : Code} (h : W tb n a E s hs (Ev.K tb n b Q)) : W tb n (.seq a b) E s hs Q := by
 intro tm hp ht hh
 obtain ⟨ex, tm1, h1, hE, hQ⟩ := h tm hp ht hh
 cases ex with
 | normal =>
  obtain ⟨ex, tm2, h2, hE2, hQ2⟩ := hQ
  refine ⟨ex, tm2, h2, (hE.and hE2).step fun K ⟨e1, e2⟩ => ?_, hQ2⟩
  rw [dc]
  unfold dV
  simp only [e1, e2]
 | exit i =>
  refine ⟨.exit i, tm1, h1, hE.step fun K e1 => ?_, hQ⟩
  rw [dc]
  unfold dV
  simp only [e1]
 | ret =>
  refine ⟨.ret, tm1, h1, hE.step fun K e1 => ?_, hQ⟩
  rw [dc]
  unfold dV
  simp only [e1]
theorem W.block {s : St} {hs : ak} {Q} {id : Nat} {b : Code} (h : W tb n b E s hs (Ev.KB id Q)) : W tb n (.block id b) E s hs Q := by
 intro tm hp ht hh
 obtain ⟨ex, tm1, h1, hE, hQ⟩ := h tm hp ht hh
 cases ex with
 | normal =>
  refine ⟨.normal, tm1, h1, hE.step fun K e1 => ?_, hQ⟩
  rw [dc]
  unfold dV
  simp only [e1]
 | exit i =>
  cases hb : Nat.beq i id with
  | true =>
   have hQ : (match Nat.beq i id with
    | true => Q .normal tm1 h1
    | false => Q (.exit i) tm1 h1) := hQ
   rw [hb] at hQ
   refine ⟨.normal, tm1, h1, hE.step fun K e1 => ?_, hQ⟩
   rw [dc]
   unfold dV
   simp only [e1, hb]
  | false =>
   have hQ : (match Nat.beq i id with
    | true => Q .normal tm1 h1
    | false => Q (.exit i) tm1 h1) := hQ
   rw [hb] at hQ
   refine ⟨.exit i, tm1, h1, hE.step fun K e1 => ?_, hQ⟩
   rw [dc]
   unfold dV
   simp only [e1, hb]
 | ret =>
  refine ⟨.ret, tm1, h1, hE.step fun K e1 => ?_, hQ⟩
  rw [dc]
  unfold dV
  simp only [e1]
theorem W.loop {s : St} {hs : ak} {Q} {b : Code} (h : W tb n b E s hs (Ev.KL tb n b Q)) : W tb n (.loop b) E s hs Q := by
 intro tm hp ht hh
 obtain ⟨ex, tm1, h1, hE, hQ⟩ := h tm hp ht hh
 cases ex with
 | normal =>
  obtain ⟨ex, tm2, h2, hE2, hQ2⟩ := hQ
  refine ⟨ex, tm2, h2, (hE.and hE2).step fun K ⟨e1, e2⟩ => ?_, hQ2⟩
  rw [dc]
  unfold dV
  simp only [e1, e2]
 | exit i =>
  refine ⟨.exit i, tm1, h1, hE.step fun K e1 => ?_, hQ⟩
  rw [dc]
  unfold dV
  simp only [e1]
 | ret =>
  refine ⟨.ret, tm1, h1, hE.step fun K e1 => ?_, hQ⟩
  rw [dc]
  unfold dV
  simp only [e1]
theorem zC {tm tm' : T AV} {h h' : AHeap} {ops : List Oper} (e : eZ tb (aS (callE tb)) n ops ops tm h = some (tm', h')) {id : Nat} {a : Array Oper} (ha : a.toList = ops) {draw : Bool}
  (hd : draw = true -> jc ops = true /\ fO ops = true) : ∃ TM, SubT tm' TM /\ Evt fun K => run tb K n (.region id a draw) tm h = some (.normal, TM, h') := by
 obtain ⟨TM, h1, h2⟩ := lv (l8 tb) (SubT.refl tm) e
 refine ⟨TM, h1, h2.step fun K hK => ?_⟩
 rw [dc]
 unfold dV
 subst ha
 cases draw with
 | false => simp only [hK]
 | true =>
  obtain ⟨d1, d2⟩ := hd rfl
  simp only [eE, d1, d2, hK]
theorem W.region {s : St} {hs : ak} {Q} {id : Nat} {l : List Oper} {draw : Bool} (hd : draw = true -> jc l = true /\ fO l = true) (h : WO tb n l l E s hs (Q .normal)) :
  W tb n (.region id l.toArray draw) E s hs Q := by
 intro tm hp ht hh
 obtain ⟨tm1, h1, he, hR⟩ := h tm hp ht hh
 obtain ⟨TM, g1, g2⟩ := zC he (id := id) (a := l.toArray) (by simp) hd
 exact ⟨.normal, TM, h1, g2, hR TM g1⟩
theorem am {s : St} {hs : ak} {Q} {id : Nat} {l : List Oper} (h : WO tb n l l E s hs (Q .normal)) : W tb n (.region id l.toArray false) E s hs Q := W.region (fun h => by cases h) h
theorem dz {s : St} {hs : ak} {Q} {id : Nat} {l : List Oper} (hd : (jc l && fO l) = true) (h : WO tb n l l E s hs (Q .normal)) : W tb n (.region id l.toArray true) E s hs Q :=
 W.region (fun _ => by simpa using hd) h

def oL (s : St) : Operand -> Option AV
 | .tmp t => lk s t
 | .const v => nX v
 | .func f => some (.func f [])
 | .global _ => none
theorem bD {tm : T AV} {s : St} (h : Has tm s) {x : Operand} {v : AV} (e : oL s x = some v) : bf tm x = some v := by
 cases x with
 | tmp t => exact h t v e
 | const c => exact e
 | func f => exact e
 | global g => cases e
def pW (s : St) : List Operand -> Option (List AV)
 | [] => some []
 | x :: l => match oL s x with
  | some a => match pW s l with
   | some m => some (a :: m)
   | none => none
  | none => none
theorem kz {tm : T AV} {s : St} (h : Has tm s) : ∀ {xs : List Operand} {vs : List AV}, pW s xs = some vs -> dy tm xs = some vs
 | [], vs, e => e
 | x :: xs, vs, e => by
  unfold pW at e
  split at e
  ·rename_i a ha
   split at e
   ·rename_i m hm
    unfold dy
    rw [bD h ha, kz h hm]
    exact e
   ·cases e
  ·cases e
theorem aD {s : St} {x : Operand} {xs : List Operand} {v : AV} {vs : List AV} (h : oL s x = some v) (g : pW s xs = some vs) : pW s (x :: xs) = some (v :: vs) := by
 unfold pW; rw [h, g]
theorem oz {s : St} : pW s [] = some [] := rfl

theorem W.cond {s : St} {hs : ak} {Q} {x : Operand} {a b : Code} {p : Bool} (hx : oL s x = some (.bool p)) (ha : p = true -> W tb n a E s hs Q) (hb : p = false -> W tb n b E s hs Q) : W tb n (.cond x a b) E s hs Q := by
 intro tm hp ht hh
 have hv := bD ht hx
 cases p with
 | true =>
  obtain ⟨ex, tm1, h1, hE, hQ⟩ := ha rfl tm hp ht hh
  refine ⟨ex, tm1, h1, hE.step fun K e1 => ?_, hQ⟩
  rw [dc]
  unfold dV
  simp only [hv, e1]
 | false =>
  obtain ⟨ex, tm1, h1, hE, hQ⟩ := hb rfl tm hp ht hh
  refine ⟨ex, tm1, h1, hE.step fun K e1 => ?_, hQ⟩
  rw [dc]
  unfold dV
  simp only [hv, e1]
theorem au {s : St} {hs : ak} {Q} {x : Operand} {a b : Code} (hx : oL s x = some (.bool true)) (ha : W tb n a E s hs Q) : W tb n (.cond x a b) E s hs Q := W.cond hx (fun _ => ha) (fun h => by cases h)
theorem az {s : St} {hs : ak} {Q} {x : Operand} {a b : Code} (hx : oL s x = some (.bool false)) (hb : W tb n b E s hs Q) : W tb n (.cond x a b) E s hs Q := W.cond hx (fun h => by cases h) (fun _ => hb)

theorem W.sub {s s' : St} {hs : ak} {Q} {c : Code} (h : SubS s' s) (g : W tb n c E s' hs Q) : W tb n c E s hs Q := fun tm hp ht hh => g tm hp (ht.sub h) hh
theorem End.sub {s s' : St} {hs : ak} {R} (h : SubS s' s) (g : End E s' hs R) : End E s hs R := fun tm hp ht hh => g tm hp (ht.sub h) hh
theorem WO.sub {s s' : St} {hs : ak} {R} {ops rest : List Oper} (h : SubS s' s) (g : WO tb n ops rest E s' hs R) : WO tb n ops rest E s hs R := fun tm hp ht hh => g tm hp (ht.sub h) hh
def SubH (hs' hs : ak) : Prop := (∀ e ∈ hs', e ∈ hs) /\ ((hs.map (·.b)).Nodup -> (hs'.map (·.b)).Nodup)
theorem HS.sub {hs hs' : ak} {h : AHeap} (g : SubH hs' hs) (hh : HS E hs h) : HS E hs' h := ⟨fun e he => hh.at_ e (g.1 e he), g.2 hh.nd, hh.fr⟩
theorem SubH.refl (hs : ak) : SubH hs hs := ⟨fun _ h => h, id⟩
theorem SubH.nil (hs : ak) : SubH [] hs := ⟨fun _ h => (by simp at h), fun _ => List.nodup_nil⟩
theorem SubH.of_sublist {hs' hs : ak} (h : hs'.Sublist hs) : SubH hs' hs := ⟨fun e he => h.subset he, fun hn => hn.sublist (h.map _)⟩
theorem SubH.op {hs' hs : ak} (h : hs'.Perm hs) : SubH hs' hs := ⟨fun e he => h.mem_iff.1 he, fun hn => ((h.map _).nodup_iff).2 hn⟩
theorem SubH.trans {a b c : ak} (h : SubH a b) (g : SubH b c) : SubH a c := ⟨fun e he => g.1 e (h.1 e he), fun hn => h.2 (g.2 hn)⟩
theorem SubH.erase {hs : ak} (i : Nat) : SubH (hs.eraseIdx i) hs := .of_sublist (List.eraseIdx_sublist _ _)
theorem bX {s : St} {hs hs' : ak} {Q} {c : Code} (h : SubH hs' hs) (g : W tb n c E s hs' Q) : W tb n c E s hs Q := fun tm hp ht hh => g tm hp ht (hh.sub h)
theorem WO.subH {s : St} {hs hs' : ak} {R} {ops rest : List Oper} (h : SubH hs' hs) (g : WO tb n ops rest E s hs' R) : WO tb n ops rest E s hs R := fun tm hp ht hh => g tm hp ht (hh.sub h)

theorem WO.nil {s : St} {hs : ak} {R} {ops : List Oper} (h : End E s hs R) : WO tb n ops [] E s hs R :=
 fun tm hp ht hh => ⟨tm, hp, rfl, fun TM hT => h TM hp (ht.mono hT) hh⟩
theorem qx {tm tm1 : T AV} {h h1 : AHeap} {R} {ops rest : List Oper} {o : Oper} {v : AV} {k : Nat} (he : iG tb (aS (callE tb)) ops tm h o = some (v, h1, k)) (hp : ch tm n o.dst v = some tm1)
  (hk : HP tb n ops rest tm1 h1 R) : HP tb n ops (o :: rest) tm h R := by
 obtain ⟨tm2, h2, e, hR⟩ := hk
 refine ⟨tm2, h2, ?_, hR⟩
 unfold eZ
 simp only [he, hp, e]
def du (hs : ak) (h : AHeap) : Prop := ∀ e ∈ hs, h.objs.get e.b = some e.o
def QV (tb : Tab) (s : St) (hs : ak) (op : Op) (v : AV) : Prop := ∀ tm h, Has tm s -> du hs h -> ∀ call, d6 tb call tm h op = .q (some v)
theorem HS.keep {hs : ak} {h : AHeap} (hh : HS E hs h) : du hs h := fun e he => (hh.at_ e he).1
theorem WO.q {s : St} {hs : ak} {R} {ops rest : List Oper} {d : Nat} {op : Op} {ty : TypeId} {pos : String} {aft : Array Edge} {v : AV}
  (he : QV tb s hs op v) (hd : Nat.blt d n = true) (hk : WO tb n ops rest E ((d, v) :: s) hs R) :
  WO tb n ops (⟨some d, op, ty, pos, aft, none⟩ :: rest) E s hs R := by
 intro tm h ht hh
 refine qx (v := v) (k := 1) (h1 := h) (tm1 := tm.set d v) ?_ ?_ (hk _ _ (ht.set d v) hh)
 ·unfold iG
  have : aX ops tm ⟨some d, op, ty, pos, aft, none⟩ = some true := rfl
  rw [this]
  simp only [he tm h ht hh.keep]
 ·unfold ch
  simp only [hd]
theorem WO.l {s s' : St} {hs : ak} {R} {ops rest : List Oper} {dst : Option Nat} {op : Op} {ty : TypeId} {pos : String} {aft : Array Edge}
  (hk : ∀ tm h, Has tm s -> HS E hs h -> ∃ v h' tm', d6 tb (aS (callE tb)) tm h op = .l (some (v, h')) /\ ch tm n dst v = some tm' /\ HP tb n ops rest tm' h' R) :
  WO tb n ops (⟨dst, op, ty, pos, aft, none⟩ :: rest) E s hs R := by
 intro tm h ht hh
 obtain ⟨v, h', tm', h1, h2, h3⟩ := hk tm h ht hh
 refine qx (v := v) (k := 2) (h1 := h') (tm1 := tm') ?_ h2 h3
 unfold iG
 have : aX ops tm ⟨dst, op, ty, pos, aft, none⟩ = some true := rfl
 rw [this]
 simp only [h1]
theorem bJ {tm : T AV} {d : Nat} {v : AV} (hd : Nat.blt d n = true) : ch tm n (some d) v = some (tm.set d v) := by
 unfold ch
 simp only [hd]

def ju (ops : List Oper) (j : Nat) : Option Nat :=
 match ops[j]? with
 | some o => o.dst
 | none => none
theorem WO.gT {s : St} {hs : ak} {R} {ops rest : List Oper} {dst : Option Nat} {op : Op} {ty : TypeId} {pos : String} {aft : Array Edge} {j d : Nat} {w : Bool}
  (hj : ju ops j = some d) (hl : lk s d = some (.bool w)) (hk : WO tb n ops (⟨dst, op, ty, pos, aft, none⟩ :: rest) E s hs R) : WO tb n ops (⟨dst, op, ty, pos, aft, some (j, w)⟩ :: rest) E s hs R := by
 intro tm h ht hh
 obtain ⟨tm2, h2, e, hR⟩ := hk tm h ht hh
 refine ⟨tm2, h2, ?_, hR⟩
 have hw : aX ops tm ⟨dst, op, ty, pos, aft, some (j, w)⟩ = aX ops tm ⟨dst, op, ty, pos, aft, none⟩ := by
  unfold aX
  unfold ju at hj
  split at hj
  ·rename_i o ho
   simp only [ho, hj, ht d _ hl, beq_self_eq_true]
  ·cases hj
 have h1 : iG tb (aS (callE tb)) ops tm h ⟨dst, op, ty, pos, aft, some (j, w)⟩ = iG tb (aS (callE tb)) ops tm h ⟨dst, op, ty, pos, aft, none⟩ := by
  unfold iG
  rw [hw]
 unfold eZ at e ⊢
 rw [h1]
 exact e
theorem WO.gF {s : St} {hs : ak} {R} {ops rest : List Oper} {d0 : Nat} {op : Op} {ty : TypeId} {pos : String} {aft : Array Edge} {j d : Nat} {w : Bool} {v : AV}
  (hj : ju ops j = some d) (hl : lk s d = some v) (hv : v = .bool (!w) \/ v = .tuple []) (hd : Nat.blt d0 n = true) (hk : WO tb n ops rest E ((d0, .tuple []) :: s) hs R) :
  WO tb n ops (⟨some d0, op, ty, pos, aft, some (j, w)⟩ :: rest) E s hs R := by
 intro tm h ht hh
 refine qx (v := .tuple []) (k := 0) (h1 := h) (tm1 := tm.set d0 (.tuple [])) ?_ (bJ hd) (hk _ _ (ht.set d0 _) hh)
 unfold iG
 have : aX ops tm ⟨some d0, op, ty, pos, aft, some (j, w)⟩ = some false := by
  unfold aX
  unfold ju at hj
  split at hj
  ·rename_i o ho
   rcases hv with rfl | rfl
   ·simp only [ho, hj, ht d _ hl]
    cases w <;> rfl
   ·simp only [ho, hj, ht d _ hl]
  ·cases hj
 rw [this]
theorem WO.split {s : St} {hs : ak} {R} {ops rest : List Oper} {d : Nat} {p : Bool} (hl : lk s d = some (.bool p)) (ha : p = true -> WO tb n ops rest E ((d, .bool true) :: s) hs R)
  (hb : p = false -> WO tb n ops rest E ((d, .bool false) :: s) hs R) : WO tb n ops rest E s hs R := by
 intro tm h ht hh
 have hs' : Has tm ((d, .bool p) :: s) := by
  intro k x e
  unfold lk at e
  split at e
  ·rename_i hb
   have := Nat.eq_of_beq_eq_true hb
   subst this
   rw [<- e]
   exact ht _ _ hl
  ·exact ht _ _ e
 cases p with
 | true => exact ha rfl tm h hs' hh
 | false => exact hb rfl tm h hs' hh
end
end
noncomputable section
variable {tb : Tab} {n : Nat} {E : Env} {s : St} {hs : ak} {R : T AV -> AHeap -> Prop} {ops rest : List Oper} {d : Nat} {ty : TypeId} {pos : String} {aft : Array Edge}

theorem qM {x : Int} (h : -9223372036854775808 <= x /\ x <= 9223372036854775807) : IntKind.i64.wrap x = x := by
 have e : (2 ^ 64 : Int) = 18446744073709551616 := by decide
 have e' : (2 ^ 63 : Int) = 9223372036854775808 := by decide
 simp only [IntKind.wrap, IntKind.bits, IntKind.signed, Bool.true_and, decide_eq_true_eq, e, e', show (64 - 1) = 63 from rfl]
 split <;> omega
theorem Ic {x : Int} (h : 0 <= x /\ x <= 255) : IntKind.u8.wrap x = x := by
 have e : (2 ^ 8 : Int) = 256 := by decide
 simp only [IntKind.wrap, IntKind.bits, IntKind.signed, Bool.false_and, e]
 simp
 omega
theorem Ii {m j : Nat} (h : m + j <= 9223372036854775807) : IntKind.i64.wrap ((m : Int) + (j : Int)) = ((m + j : Nat) : Int) := by
 rw [qM zy]; omega
theorem vf {m j : Nat} (h : j <= m /\ m <= 9223372036854775807) : IntKind.i64.wrap ((m : Int) - (j : Int)) = ((m - j : Nat) : Int) := by
 rw [qM zy]; omega
theorem Du {m j : Nat} (h : m * j <= 9223372036854775807) : IntKind.i64.wrap ((m : Int) * (j : Int)) = ((m * j : Nat) : Int) := by
 have e : (m : Int) * (j : Int) = ((m * j : Nat) : Int) := by simp
 rw [e, qM zy]
theorem dM {m j : Nat} : rl ((m : Nat) : Int) ((j : Nat) : Int) = decide (m < j) := by rw [cp, decide_eq_decide]; omega
theorem bZ {m j : Nat} : (!(rl ((j : Nat) : Int) ((m : Nat) : Int))) = decide (m <= j) := by
 rw [cp, <- decide_not, decide_eq_decide]; omega
theorem ir {a b : Int} : (!(rl b a)) = decide (a <= b) := by rw [cp, <- decide_not, decide_eq_decide]; omega
theorem aA {m j : Nat} : oG ((m : Nat) : Int) ((j : Nat) : Int) = decide (m = j) := by
 rw [je, Bool.eq_iff_iff]; simp; omega
theorem bj {a b : Int} : oG a b = decide (a = b) := by
 rw [je, Bool.eq_iff_iff]; simp
theorem cf {m j : Nat} : (!(oG ((m : Nat) : Int) ((j : Nat) : Int))) = decide (m ≠ j) := by rw [aA, <- decide_not]
theorem cP {a b : Int} : (!(oG a b)) = decide (a ≠ b) := by rw [bj, <- decide_not]
theorem pg {a b : List Nat} : dL a b = decide (a = b) := by rw [iu, Bool.eq_iff_iff]; simp
theorem Ge {a b : List Nat} : (!(dL a b)) = decide (a ≠ b) := by rw [pg, <- decide_not]

variable {t : TypeId} {k : IntKind} {a b c : Int} {p : Bool}
theorem fY (h : k.wrap (a + b) = c) : co tb .add t (.int k a) (.int k b) = some (.int k c) := by
 unfold co; simp only [fS, if_pos]; rw [cK]; exact congrArg (fun x => some (AV.int k x)) h
theorem cT (h : k.wrap (a - b) = c) : co tb .sub t (.int k a) (.int k b) = some (.int k c) := by
 unfold co; simp only [fS, if_pos]; rw [cK]; exact congrArg (fun x => some (AV.int k x)) h
theorem jH (h : k.wrap (a * b) = c) : co tb .mul t (.int k a) (.int k b) = some (.int k c) := by
 unfold co; simp only [fS, if_pos]; rw [cK]; exact congrArg (fun x => some (AV.int k x)) h
theorem o4 (hb : b ≠ 0) (h : k.wrap (a.tdiv b) = c) : co tb .quo t (.int k a) (.int k b) = some (.int k c) := by
 unfold co; simp only [fS, if_pos]
 have : oG b 0 = false := by rw [bj]; simpa using hb
 rw [this, cK]; exact congrArg (fun x => some (AV.int k x)) h
theorem AW (hb : b ≠ 0) (h : a.tmod b = c) : co tb .rem t (.int k a) (.int k b) = some (.int k c) := by
 unfold co; simp only [fS, if_pos]
 have : oG b 0 = false := by rw [bj]; simpa using hb
 rw [this]; exact congrArg (fun x => some (AV.int k x)) h
theorem ec (h : rl a b = p) : co tb .lss t (.int k a) (.int k b) = some (.bool p) := by
 unfold co; simp only [fS, if_pos, h]
theorem aV (h : rl b a = p) : co tb .gtr t (.int k a) (.int k b) = some (.bool p) := by
 unfold co; simp only [fS, if_pos, h]
theorem dT (h : (!(rl b a)) = p) : co tb .leq t (.int k a) (.int k b) = some (.bool p) := by
 unfold co; simp only [fS, if_pos, h]
theorem cy (h : (!(rl a b)) = p) : co tb .geq t (.int k a) (.int k b) = some (.bool p) := by
 unfold co; simp only [fS, if_pos, h]
theorem ag (h : oG a b = p) : co tb .eql t (.int k a) (.int k b) = some (.bool p) := by
 unfold co; simp only [fS, if_pos, h]
theorem aR (h : (!(oG a b)) = p) : co tb .neq t (.int k a) (.int k b) = some (.bool p) := by
 unfold co; simp only [fS, if_pos, h]
variable {x y z : List Nat}
theorem aH : co tb .eql t (.str x) (.str y) = some (.bool (decide (x = y))) := by
 unfold co; simp only [ql, pg]
theorem iK : co tb .neq t (.str x) (.str y) = some (.bool (decide (x ≠ y))) := by
 unfold co; simp only [ql, Ge]
theorem aa {op : BinOp} {ox oy : Operand} {u : TypeId} {va vb v : AV} (hx : oL s ox = some va) (hy : oL s oy = some vb) (hn : ns oy = false) (hv : co tb op t va vb = some v) : QV tb s hs (.binOp op t ox oy u) (v) := by
 intro tm h ht hh call
 show Res.q (iN tb tm op t ox oy) = _
 unfold iN
 simp only [hn, bD ht hx, bD ht hy, hv]
theorem Q.move {ox : Operand} {v : AV} (hx : oL s ox = some v) : QV tb s hs (.move ox) v := fun tm h ht hh call => congrArg Res.q (bD ht hx)
theorem Q.assign {ox : Operand} {v : AV} (hx : oL s ox = some v) : QV tb s hs (.assign ox) v := fun tm h ht hh call => congrArg Res.q (bD ht hx)
theorem aj {oc oa ob : Operand} {v : AV} (hc : oL s oc = some (.bool true)) (ha : oL s oa = some v) : QV tb s hs (.pick oc oa ob) (v) := by
 intro tm h ht hh call
 show Res.q (ig tm oc oa ob) = _
 unfold ig
 simp only [bD ht hc, bD ht ha]
theorem ax {oc oa ob : Operand} {v : AV} (hc : oL s oc = some (.bool false)) (hb : oL s ob = some v) : QV tb s hs (.pick oc oa ob) (v) := by
 intro tm h ht hh call
 show Res.q (ig tm oc oa ob) = _
 unfold ig
 simp only [bD ht hc, bD ht hb]
theorem Q.not {ox : Operand} {q : Bool} (hx : oL s ox = some (.bool p)) (hq : (!p) = q) : QV tb s hs (.unOp .not t ox) (.bool q) := by
 intro tm h ht hh call
 show Res.q (ii tm .not ox) = _
 unfold ii
 simp only [bD ht hx, hq]
theorem Q.neg {ox : Operand} (hx : oL s ox = some (.int k a)) (hq : k.wrap (0 - a) = c) : QV tb s hs (.unOp .neg t ox) (.int k c) := by
 intro tm h ht hh call
 show Res.q (ii tm .neg ox) = _
 unfold ii
 simp only [bD ht hx, cK]
 exact congrArg (fun x => Res.q (some (AV.int k x))) hq
theorem FH {ox : Operand} {ts : Array Nat} {t0 : Nat} {tl : List Nat} {dsc : TypeDesc} {v : AV} {m : Nat} (hts : ts.toList = t0 :: tl) (hu : tb.und t0 = some dsc) (hx : oL s ox = some v) (hl : nx dsc v = some m)
  {l : List Operand} (ho : l = [ox]) : QV tb s hs (.call ⟨.builtin .len, l.toArray, ts⟩) (.int .i64 (m : Int)) := by
 intro tm h ht hh call
 show Res.q (mq tb tm l.toArray ts) = _
 unfold mq
 subst ho
 simp only [hts, hu, bD ht hx, hl]
 rfl
theorem Q.len {ox : Operand} {t0 : Nat} {tl : List Nat} {dsc : TypeDesc} {v : AV} {m : Nat} (hu : tb.und t0 = some dsc) (hx : oL s ox = some v) (hl : nx dsc v = some m) :
  QV tb s hs (.call ⟨.builtin .len, #[ox], (t0 :: tl).toArray⟩) (.int .i64 (m : Int)) :=
 FH (t0 := t0) (tl := tl) (by simp) hu hx hl rfl
theorem oQ {l : List Operand} {ts : Array Nat} {v : AV} {vs : List AV} {r : AV} (mx : Bool) (ha : pW s l = some (v :: vs)) (hr : fU mx v vs = some r) : QV tb s hs (.call ⟨.builtin (if mx then .max else .min), l.toArray, ts⟩) (r) := by
 intro tm h ht hh call
 cases mx with
 | true =>
  show Res.q (dW tm true l.toArray) = _
  unfold dW
  simp only [kz ht ha, hr]
 | false =>
  show Res.q (dW tm false l.toArray) = _
  unfold dW
  simp only [kz ht ha, hr]
theorem Cq {m j : Nat} : fU false (.int k ((m : Nat) : Int)) [.int k ((j : Nat) : Int)] = some (.int k ((min m j : Nat) : Int)) := by
 unfold fU
 simp only [Bool.false_eq_true, if_false, cp]
 unfold fU
 by_cases h : (j : Int) < (m : Int)
 ·have e : min m j = j := by omega
  simp only [h, decide_true, e]
 ·have e : min m j = m := by omega
  simp only [h, decide_false, e]
theorem tx {ox oi : Operand} {l : List Nat} {m : Nat} (hu : tb.und t = some .string) (hx : oL s ox = some (.str l)) (hi : oL s oi = some (.int k ((m : Nat) : Int))) (hm : m < l.length) : QV tb s hs (.index t ox oi) (.int .u8 ((l.getD m 0 : Nat) : Int)) := by
 intro tm h ht hh call
 show Res.q (gS tb tm t ox oi) = _
 unfold gS
 have : fG (bf tm oi) = some m := by rw [bD ht hi]; rfl
 simp only [hu, bD ht hx, this]
 have e : l[m]? = some (l.getD m 0) := by simp [hm]
 rw [e]
 rfl
def bL (s : St) (len : Nat) (lo hi : Option Operand) : Option (Nat × Nat) :=
 match (match hi with | some x => fG (oL s x) | none => some len) with
 | some h =>
  match (match lo with | some x => fG (oL s x) | none => some 0) with
  | some l => some (l, h)
  | none => none
 | none => none
theorem uu {tm : T AV} (ht : Has tm s) {x : Operand} {m : Nat} (h : fG (oL s x) = some m) : fG (bf tm x) = some m := by
 cases ho : oL s x with
 | none => rw [ho] at h; cases h
 | some v => rw [bD ht ho]; rw [ho] at h; exact h
theorem AT {tm : T AV} (ht : Has tm s) {len : Nat} {lo hi : Option Operand} {l h : Nat} (e : bL s len lo hi = some (l, h)) (hb : l <= h /\ h <= len) : cY tm len lo hi = some (l, h) := by
 unfold bL at e
 split at e
 ·rename_i h' e1
  split at e
  ·rename_i l' e2
   simp only [Option.some.injEq, Prod.mk.injEq] at e
   obtain ⟨rfl, rfl⟩ := e
   have f1 : (match (generalizing := false) hi with | some x => fG (bf tm x) | none => some len) = some h' := by
    cases hi with
    | none => exact e1
    | some x => exact uu ht e1
   have f2 : (match (generalizing := false) lo with | some x => fG (bf tm x) | none => some 0) = some l' := by
    cases lo with
    | none => exact e2
    | some x => exact uu ht e2
   have f3 : (Nat.ble h' len && Nat.ble l' h') = true := by simp; omega
   clear e1 e2
   cases hi with
   | none =>
    simp only [Option.some.injEq] at f1
    cases lo with
    | none =>
     simp only [Option.some.injEq] at f2
     simp only [cY, f1, f2] at f3 ⊢
     simp only [f3]
    | some y =>
     subst f1
     simp only [cY, f2, f3]
   | some x =>
    cases lo with
    | none =>
     simp only [Option.some.injEq] at f2
     subst f2
     simp only [cY, f1, f3]
    | some y => simp only [cY, f1, f2, f3]
  ·cases e
 ·cases e
theorem bK {ox : Operand} {lo hi : Option Operand} {l r : List Nat} {m j : Nat} (hu : tb.und t = some .string) (hx : oL s ox = some (.str l)) (hb : bL s l.length lo hi = some (m, j)) (hm : m <= j /\ j <= l.length)
  (hr : (l.drop m).take (j - m) = r) : QV tb s hs (.slice t ox lo hi none) (.str r) := by
 intro tm h ht hh call
 show Res.q (eV tb tm h.objs t ox lo hi none) = _
 unfold eV
 simp only [hu, bD ht hx]
 unfold kG
 rw [AT ht hb hm]
 simp only [hr]
theorem jA {l : List Nat} {m : Nat} : (l.drop m).take (l.length - m) = l.drop m := by rw [List.take_of_length_le]; simp
theorem uP {l : List Nat} {j : Nat} : (l.drop 0).take (j - 0) = l.take j := by simp
theorem Q.extract {ox : Operand} {i : Nat} {l : List AV} {v : AV} (hx : oL s ox = some (.tuple l)) (hl : l[i]? = some v) : QV tb s hs (.extract ox i) (v) := by
 intro tm h ht hh call
 show Res.q (eT tm ox i) = _
 unfold eT
 simp only [bD ht hx, hl]
theorem aF {ox : Operand} {B o : Nat} (hx : oL s ox = some (.ptr B o)) : QV tb s hs (.nilCheck ox) (.ptr B o) := by
 intro tm h ht hh call
 show Res.q (eg tm ox) = _
 unfold eg
 simp only [bD ht hx]
theorem rQ {f : Nat} {cs : List Operand} {l : List AV} (hl : pW s cs = some l) : QV tb s hs (.makeFunc (.func f) #[] cs.toArray) (.func f l) := by
 intro tm h ht hh call
 show Res.q (ef tm (.func f) #[] cs.toArray) = _
 unfold ef
 simp only [kz ht hl]
theorem jC {sr : TypeId} {ox : Operand} {ds : TypeDesc} {k' : IntKind} (hu : tb.und sr = some ds) (hv : tb.und t = some (.int k)) (hx : oL s ox = some (.int k' a)) (hw : k.wrap a = c) : QV tb s hs (.convert sr t ox) (.int k c) := by
 intro tm h ht hh call
 show dC tb tm h sr t ox = _
 unfold dC
 rw [hu, hv, bD ht hx]
 simp only [cK]
 exact congrArg (fun x => Res.q (some (AV.int k x))) hw
def FA (tb : Tab) (t f : Nat) : Option (Nat × Nat) :=
 match dh (tb.und t) with
 | some fs => gj tb fs f
 | none => none
theorem Q.fieldAddr {ox : Operand} {f B o off sz o' : Nat} (hf : FA tb t f = some (off, sz + 1)) (hx : oL s ox = some (.ptr B o)) (ho : o + off = o') : QV tb s hs (.fieldAddr t ox f) (.ptr B o') := by
 intro tm h ht hh call
 show Res.q (dH tb tm t ox f) = _
 unfold dH
 unfold FA at hf
 split at hf
 ·rename_i fs hfs
  simp only [hfs, bD ht hx, hf, ho]
 ·cases hf
def FT (tb : Tab) (t f : Nat) : Option (Nat × Option Nat) :=
 match dh (tb.und t) with
 | some fs => match fs[f]? with
  | some fd => match tb.isAgg fd.type with
   | some true => match tb.size fd.type with
    | some n => some (fd.offset, some n)
    | none => none
   | some false => some (fd.offset, none)
   | none => none
  | none => none
 | none => none
theorem DD {f off : Nat} {q : Option Nat} (hf : FT tb t f = some (off, q)) : ∃ fs fd, dh (tb.und t) = some fs /\ fs[f]? = some fd /\ ∀ cs, iV tb fd.type cs fd.offset = match q with
  | some m => some (.agg ((cs.drop off).take m))
  | none => cs[off]? := by
 unfold FT at hf
 split at hf
 ·rename_i fs hfs
  split at hf
  ·rename_i fd hfd
   refine ⟨fs, fd, hfs, hfd, fun cs => ?_⟩
   unfold iV
   split at hf
   ·rename_i hag
    split at hf
    ·rename_i m hm
     simp only [Option.some.injEq, Prod.mk.injEq] at hf
     obtain ⟨rfl, rfl⟩ := hf
     simp only [hag, hm]
    ·cases hf
   ·rename_i hag
    simp only [Option.some.injEq, Prod.mk.injEq] at hf
    obtain ⟨rfl, rfl⟩ := hf
    simp only [hag]
   ·cases hf
  ·cases hf
 ·cases hf
theorem cm {ox : Operand} {f off : Nat} {cs : List AV} {v : AV} (hf : FT tb t f = some (off, none)) (hx : oL s ox = some (.agg cs)) (hv : cs[off]? = some v) : QV tb s hs (.field t ox f) (v) := by
 intro tm h ht hh call
 show Res.q (gR tb tm t ox f) = _
 obtain ⟨fs, fd, h1, h2, h3⟩ := DD hf
 unfold gR
 simp only [h1, bD ht hx, h2, h3, hv]
def BT (tb : Tab) (t : Nat) : Option (List AV × (Nat -> Option (Nat × Nat))) :=
 match tb.zero t with
 | some z => match tb.und t with
  | some (.struct fs) => match mJ tb fs.toList with
   | true => some (z.cells, gj tb fs.toList)
   | false => none
  | some (.array _ e) => match tb.size e with
   | some n => some (z.cells, fun i => some (i * n, n))
   | none => none
  | _ => none
 | none => none
def CK (s : St) : List (Nat × Operand) -> Option (List (Nat × AV))
 | [] => some []
 | (i, x) :: l => match oL s x with
  | some a => match CK s l with
   | some m => some ((i, a) :: m)
   | none => none
  | none => none
theorem wt {tm : T AV} (ht : Has tm s) : ∀ {l : List (Nat × Operand)} {m : List (Nat × AV)}, CK s l = some m -> cj tm l = some m
 | [], m, e => e
 | (i, x) :: l, m, e => by
  unfold CK at e
  split at e
  ·rename_i a ha
   split at e
   ·rename_i q hq
    unfold cj
    rw [bD ht ha, wt ht hq]
    exact e
   ·cases e
  ·cases e
theorem bz {i : Nat} {x : Operand} {l : List (Nat × Operand)} {v : AV} {m : List (Nat × AV)} (h : oL s x = some v) (g : CK s l = some m) : CK s ((i, x) :: l) = some ((i, v) :: m) := by
 unfold CK; rw [h, g]
theorem aq : CK s [] = some [] := rfl
theorem nP {f g : Nat -> Option (Nat × Nat)} : ∀ {l : List (Nat × AV)} {cs : List AV}, (∀ p ∈ l, f p.1 = g p.1) -> eG f cs l = eG g cs l
 | [], cs, h => rfl
 | (i, v) :: l, cs, h => by
  have e : f i = g i := h (i, v) (List.mem_cons_self ..)
  unfold eG
  rw [e]
  cases g i with
  | none => rfl
  | some q =>
   simp only
   split
   ·exact nP fun p hp => h p (List.mem_cons_of_mem _ hp)
   ·rfl
def PL (tb : Tab) (t : Nat) (zs : List AV) (pl : List (Nat × Nat)) : Bool :=
 match BT tb t with
 | some (cs, f) => fy cW cs zs && (List.range pl.length).all fun i => f i == pl[i]?
 | none => false
theorem Q.build {l : List (Nat × Operand)} {zs cs : List AV} {pl : List (Nat × Nat)} {ps : List (Nat × AV)} (hp : PL tb t zs pl = true) (ho : CK s l = some ps) (hi : (ps.all fun p => Nat.blt p.1 pl.length) = true)
  (hf : eG (fun i => pl[i]?) zs ps = some cs) : QV tb s hs (.build t l.toArray) (.agg cs) := by
 intro tm h ht hh call
 show Res.q (gQ tb tm t l.toArray) = _
 unfold PL at hp
 split at hp
 ·rename_i cs0 f hbt
  simp only [Bool.and_eq_true, List.all_eq_true, List.mem_range] at hp
  have hz : cs0 = zs := by
   have := rY (.tuple cs0) (.tuple zs) (by
    show fy fN cs0 zs = true
    have mono : ∀ {a b : AV}, cW a b = true -> fN a b = true := by
     intro a b h
     cases a <;> cases b <;> simp_all [cW, fN]
     rename_i f1 l1 g1 m1
     cases l1 <;> cases m1 <;> simp_all [fy]
    have ml : ∀ {a b : List AV}, fy cW a b = true -> fy fN a b = true := by
     intro a
     induction a with
     | nil => intro b h; cases b <;> simp_all [fy]
     | cons x a ih =>
      intro b h
      cases b with
      | nil => simp [fy] at h
      | cons y b =>
       simp only [fy, Bool.and_eq_true] at h ⊢
       exact ⟨mono h.1, ih h.2⟩
    exact ml hp.1)
   simpa using this
  subst hz
  have hfg : ∀ p ∈ ps, f p.1 = pl[p.1]? := by
   intro p hpm
   have hlt := List.all_eq_true.1 hi p hpm
   have := hp.2 p.1 (by simpa using hlt)
   simpa using this
  have hfill : eG f cs0 ps = some cs := by rw [nP hfg]; exact hf
  unfold BT at hbt
  unfold gQ
  have hps : cj tm l.toArray.toList = some ps := wt ht ho
  split at hbt
  ·rename_i z hz
   split at hbt
   ·rename_i fs hu
    split at hbt
    ·rename_i hsz
     simp only [Option.some.injEq, Prod.mk.injEq] at hbt
     obtain ⟨rfl, rfl⟩ := hbt
     rw [hz, hps]
     simp only [hu, hsz, hfill]
     rfl
    ·cases hbt
   ·rename_i u e hu
    split at hbt
    ·rename_i m hm
     simp only [Option.some.injEq, Prod.mk.injEq] at hbt
     obtain ⟨rfl, rfl⟩ := hbt
     rw [hz, hps]
     simp only [hu, hm, hfill]
     rfl
    ·cases hbt
   ·cases hbt
  ·cases hbt
 ·cases hp
end
end Go.Proofs.YtndhhgbpcmfeiaaGreatDoor.Ev
