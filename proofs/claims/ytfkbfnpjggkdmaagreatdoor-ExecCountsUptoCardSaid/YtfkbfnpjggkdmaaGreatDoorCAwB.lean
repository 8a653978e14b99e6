/- Walks over the evaluator, part 1: states, and how code is gone through. -/
import Derived.Test.YtfkbfnpjggkdmaaGreatDoorCEvV
namespace Go.Proofs.YtfkbfnpjggkdmaaGreatDoor.Ev
open Go.RowKit
noncomputable section

def dS (l caps : List AV) : List AV := match fM caps with
 | none => l ++ caps
 | some x => x :: l
theorem ji {tm : T AV} {h : AHeap} {call : il} {f : Operand} {args : Array Operand} {g : Nat} {caps l : List AV} (hf : aS tm f = some (.func g caps)) (hl : cC tm args.toList = some l) : bT tm h call f args = call g (dS l caps) h := by
 unfold bT dS
 simp only [hf, hl]
 cases fM caps <;> rfl
def callE (tb : Tab) : iQ := fun f a h =>
 match Classical.propDecidable (∃ p : AV × AHeap, Evt fun K => bQ tb (run tb K) f a h = some p) with
 | .isTrue hx => .ok (Classical.choose hx).1 (Classical.choose hx).2
 | .isFalse _ => .bad
theorem gQ (tb : Tab) : gD tb (callE tb) := by
 intro f a h v h' e
 unfold callE at e
 split at e
 ·rename_i hx _
  simp only [VH.ok.injEq] at e
  have := Classical.choose_spec hx
  rw [<- e.1, <- e.2]
  exact this
 ·cases e
theorem tp {tb : Tab} {f : Nat} {a : List AV} {h : AHeap} {v : AV} {h' : AHeap} (e : Evt fun K => bQ tb (run tb K) f a h = some (v, h')) : callE tb f a h = .ok v h' := by
 unfold callE
 split
 ·rename_i hx _
  have hs := Classical.choose_spec hx
  obtain ⟨K, hK⟩ := e.and hs
  obtain ⟨h1, h2⟩ := hK K (Nat.le_refl K)
  rw [h1] at h2
  simp only [Option.some.injEq] at h2
  rw [<- h2]
 ·rename_i hx _
  exact absurd ⟨(v, h'), e⟩ hx
theorem qo {tb : Tab} {f : Nat} {a : List AV} {h : AHeap} {v : AV} {h' : AHeap} (e : Evt fun K => bQ tb (run tb K) f a h = some (v, h')) : aD (callE tb) f a h = some (v, h') := by
 unfold aD
 rw [tp e]
theorem SubT.refl (tm : T AV) : SubT tm tm := fun _ _ h => h
theorem SubT.trans {a b c : T AV} (h : SubT a b) (g : SubT b c) : SubT a c := fun k v e => g k v (h k v e)

abbrev St := List (Nat × AV)
def lk : St -> Nat -> Option AV
 | [], _ => none
 | (k, v) :: s, t => match Nat.beq k t with
  | true => some v
  | false => lk s t
def Has (tm : T AV) (s : St) : Prop := ∀ k v, lk s k = some v -> tm.get k = some v
theorem Has.mono {tm TM : T AV} {s : St} (h : Has tm s) (g : SubT tm TM) : Has TM s := fun k v e => g k v (h k v e)
theorem Has.set {tm : T AV} {s : St} (h : Has tm s) (d : Nat) (v : AV) : Has (tm.set d v) ((d, v) :: s) := by
 intro k x e
 rw [az]
 unfold lk at e
 split at e
 ·rename_i hb
  have := Nat.eq_of_beq_eq_true hb
  rw [if_pos this.symm]; exact e
 ·rename_i hb
  have : ¬ k = d := by intro hk; subst hk; simp at hb
  rw [if_neg this]
  exact h k x e
def SubS (a b : St) : Prop := ∀ k v, lk a k = some v -> lk b k = some v
theorem SubS.nil (b : St) : SubS [] b := fun k v h => by cases h
theorem SubS.cons {a b : St} {k : Nat} {v : AV} (h : lk b k = some v) (g : SubS a b) : SubS ((k, v) :: a) b := by
 intro j x e
 unfold lk at e
 split at e
 ·rename_i hb
  have := Nat.eq_of_beq_eq_true hb
  subst this
  rw [h]; exact e
 ·exact g j x e
theorem SubS.refl (a : St) : SubS a a := fun _ _ h => h
theorem Has.sub {tm : T AV} {a b : St} (h : Has tm b) (g : SubS a b) : Has tm a := fun k v e => h k v (g k v e)

structure HE where
 b : Nat
 o : AObj
 w : Bool
abbrev af := List HE
structure Env where
 h0 : AHeap
 S : List Nat
def Fr (S : List Nat) (h h' : AHeap) : Prop := h.next <= h'.next /\ ∀ b, b < h.next -> b ∉ S -> h'.objs.get b = h.objs.get b
theorem Fr.refl (S : List Nat) (h : AHeap) : Fr S h h := ⟨Nat.le_refl _, fun _ _ _ => rfl⟩
structure HS (E : Env) (hs : af) (h : AHeap) : Prop where
 at_ : ∀ e ∈ hs, h.objs.get e.b = some e.o /\ e.b < h.next /\ (e.w = true -> E.h0.next <= e.b \/ e.b ∈ E.S)
 nd : (hs.map (·.b)).Nodup
 fr : Fr E.S E.h0 h

def Ki (tb : Tab) (n : Nat) (c : Code) (tm : T AV) (h : AHeap) (Q : Ex -> T AV -> AHeap -> Prop) : Prop :=
 ∃ ex tm' h', (Evt fun K => run tb K n c tm h = some (ex, tm', h')) /\ Q ex tm' h'
def JM (tb : Tab) (n : Nat) (ops rest : List Oper) (tm : T AV) (h : AHeap) (R : T AV -> AHeap -> Prop) : Prop :=
 ∃ tm' h', db tb (aD (callE tb)) n ops rest tm h = some (tm', h') /\ ∀ TM, SubT tm' TM -> R TM h'

section
variable {tb : Tab} {n : Nat} {E : Env}

def W (tb : Tab) (n : Nat) (c : Code) (E : Env) (s : St) (hs : af) (Q : Ex -> T AV -> AHeap -> Prop) : Prop := ∀ tm h, Has tm s -> HS E hs h -> Ki tb n c tm h Q
def WO (tb : Tab) (n : Nat) (ops rest : List Oper) (E : Env) (s : St) (hs : af) (R : T AV -> AHeap -> Prop) : Prop := ∀ tm h, Has tm s -> HS E hs h -> JM tb n ops rest tm h R
def End (E : Env) (s : St) (hs : af) (R : T AV -> AHeap -> Prop) : Prop := ∀ tm h, Has tm s -> HS E hs h -> R tm h

def K (tb : Tab) (n : Nat) (b : Code) (Q : Ex -> T AV -> AHeap -> Prop) : Ex -> T AV -> AHeap -> Prop
 | .normal, tm, h => Ki tb n b tm h Q
 | .exit i, tm, h => Q (.exit i) tm h
 | .ret, tm, h => Q .ret tm h
def KB (id : Nat) (Q : Ex -> T AV -> AHeap -> Prop) : Ex -> T AV -> AHeap -> Prop
 | .normal, tm, h => Q .normal tm h
 | .exit i, tm, h => match Nat.beq i id with
  | true => Q .normal tm h
  | false => Q (.exit i) tm h
 | .ret, tm, h => Q .ret tm h
def KL (tb : Tab) (n : Nat) (b : Code) (Q : Ex -> T AV -> AHeap -> Prop) : Ex -> T AV -> AHeap -> Prop
 | .normal, tm, h => Ki tb n (.loop b) tm h Q
 | .exit i, tm, h => Q (.exit i) tm h
 | .ret, tm, h => Q .ret tm h

theorem End.K {s : St} {hs : af} {b : Code} {Q} (h : W tb n b E s hs Q) : End E s hs (K tb n b Q .normal) := h
theorem am {s : St} {hs : af} {b : Code} {Q} {i : Nat} (h : End E s hs (Q (.exit i))) : End E s hs (Ev.K tb n b Q (.exit i)) := h
theorem ad {s : St} {hs : af} {b : Code} {Q : Ex -> T AV -> AHeap -> Prop} (h : End E s hs (Q .ret)) : End E s hs (Ev.K tb n b Q .ret) := h
theorem End.KB {s : St} {hs : af} {id : Nat} {Q : Ex -> T AV -> AHeap -> Prop} (h : End E s hs (Q .normal)) : End E s hs (KB id Q .normal) := h
theorem ap {s : St} {hs : af} {id : Nat} {Q : Ex -> T AV -> AHeap -> Prop} (h : End E s hs (Q .normal)) : End E s hs (Ev.KB id Q (.exit id)) := by
 intro tm hp ht hh
 show match Nat.beq id id with
  | true => Q .normal tm hp
  | false => Q (.exit id) tm hp
 rw [Nat.beq_refl]
 exact h tm hp ht hh
theorem End.KB_miss {s : St} {hs : af} {id i : Nat} {Q : Ex -> T AV -> AHeap -> Prop} (hb : Nat.beq i id = false) (h : End E s hs (Q (.exit i))) : End E s hs (Ev.KB id Q (.exit i)) := by
 intro tm hp ht hh
 show match Nat.beq i id with
  | true => Q .normal tm hp
  | false => Q (.exit i) tm hp
 rw [hb]
 exact h tm hp ht hh
theorem ah {s : St} {hs : af} {id : Nat} {Q : Ex -> T AV -> AHeap -> Prop} (h : End E s hs (Q .ret)) : End E s hs (Ev.KB id Q .ret) := h
theorem End.KL {s : St} {hs : af} {b : Code} {Q} (h : W tb n (.loop b) E s hs Q) : End E s hs (KL tb n b Q .normal) := h
theorem aq {s : St} {hs : af} {b : Code} {Q} {i : Nat} (h : End E s hs (Q (.exit i))) : End E s hs (Ev.KL tb n b Q (.exit i)) := h
theorem aU {s : St} {hs : af} {b : Code} {Q : Ex -> T AV -> AHeap -> Prop} (h : End E s hs (Q .ret)) : End E s hs (Ev.KL tb n b Q .ret) := h

theorem i3 : Evt fun _ => True := Evt.of fun _ => trivial
theorem W.skip {s : St} {hs : af} {Q} (h : End E s hs (Q .normal)) : W tb n .skip E s hs Q :=
 fun tm hp ht hh => ⟨.normal, tm, hp, i3.step fun K _ => rfl, h tm hp ht hh⟩
theorem W.ret {s : St} {hs : af} {Q} (h : End E s hs (Q .ret)) : W tb n .ret E s hs Q :=
 fun tm hp ht hh => ⟨.ret, tm, hp, i3.step fun K _ => rfl, h tm hp ht hh⟩
theorem W.exit {s : St} {hs : af} {Q} {i : Nat} (h : End E s hs (Q (.exit i))) : W tb n (.exit i) E s hs Q :=
 fun tm hp ht hh => ⟨.exit i, tm, hp, i3.step fun K _ => rfl, h tm hp ht hh⟩
theorem W.seq {s : St} {hs : af} {Q} {a b : Code} (h : W tb n a E s hs (Ev.K tb n b Q)) : W tb n (.seq a b) E s hs Q := by
 intro tm hp ht hh
 obtain ⟨ex, tm1, h1, hE, hQ⟩ := h tm hp ht hh
 cases ex with
 | normal =>
  obtain ⟨ex, tm2, h2, hE2, hQ2⟩ := hQ
  refine ⟨ex, tm2, h2, (hE.and hE2).step fun K ⟨e1, e2⟩ => ?_, hQ2⟩
  rw [cu]
  unfold cA
  simp only [e1, e2]
 | exit i =>
  refine ⟨.exit i, tm1, h1, hE.step fun K e1 => ?_, hQ⟩
  rw [cu]
  unfold cA
  simp only [e1]
 | ret =>
  refine ⟨.ret, tm1, h1, hE.step fun K e1 => ?_, hQ⟩
  rw [cu]
  unfold cA
  simp only [e1]
theorem W.block {s : St} {hs : af} {Q} {id : Nat} {b : Code} (h : W tb n b E s hs (Ev.KB id Q)) : W tb n (.block id b) E s hs Q := by
 intro tm hp ht hh
 obtain ⟨ex, tm1, h1, hE, hQ⟩ := h tm hp ht hh
 cases ex with
 | normal =>
  refine ⟨.normal, tm1, h1, hE.step fun K e1 => ?_, hQ⟩
  rw [cu]
  unfold cA
  simp only [e1]
 | exit i =>
  cases hb : Nat.beq i id with
  | true =>
   have hQ : (match Nat.beq i id with
    | true => Q .normal tm1 h1
    | false => Q (.exit i) tm1 h1) := hQ
   rw [hb] at hQ
   refine ⟨.normal, tm1, h1, hE.step fun K e1 => ?_, hQ⟩
   rw [cu]
   unfold cA
   simp only [e1, hb]
  | false =>
   have hQ : (match Nat.beq i id with
    | true => Q .normal tm1 h1
    | false => Q (.exit i) tm1 h1) := hQ
   rw [hb] at hQ
   refine ⟨.exit i, tm1, h1, hE.step fun K e1 => ?_, hQ⟩
   rw [cu]
   unfold cA
   simp only [e1, hb]
 | ret =>
  refine ⟨.ret, tm1, h1, hE.step fun K e1 => ?_, hQ⟩
  rw [cu]
  unfold cA
  simp only [e1]
theorem W.loop {s : St} {hs : af} {Q} {b : Code} (h : W tb n b E s hs (Ev.KL tb n b Q)) : W tb n (.loop b) E s hs Q := by
 intro tm hp ht hh
 obtain ⟨ex, tm1, h1, hE, hQ⟩ := h tm hp ht hh
 cases ex with
 | normal =>
  obtain ⟨ex, tm2, h2, hE2, hQ2⟩ := hQ
  refine ⟨ex, tm2, h2, (hE.and hE2).step fun K ⟨e1, e2⟩ => ?_, hQ2⟩
  rw [cu]
  unfold cA
  simp only [e1, e2]
 | exit i =>
  refine ⟨.exit i, tm1, h1, hE.step fun K e1 => ?_, hQ⟩
  rw [cu]
  unfold cA
  simp only [e1]
 | ret =>
  refine ⟨.ret, tm1, h1, hE.step fun K e1 => ?_, hQ⟩
  rw [cu]
  unfold cA
  simp only [e1]
theorem zD {tm tm' : T AV} {h h' : AHeap} {ops : List Oper} (e : db tb (aD (callE tb)) n ops ops tm h = some (tm', h')) {id : Nat} {a : Array Oper} (ha : a.toList = ops) {draw : Bool}
  (hd : draw = true -> gz ops = true /\ fh ops = true) : ∃ TM, SubT tm' TM /\ Evt fun K => run tb K n (.region id a draw) tm h = some (.normal, TM, h') := by
 obtain ⟨TM, h1, h2⟩ := jk (gQ tb) (SubT.refl tm) e
 refine ⟨TM, h1, h2.step fun K hK => ?_⟩
 rw [cu]
 unfold cA
 subst ha
 cases draw with
 | false => simp only [hK]
 | true =>
  obtain ⟨d1, d2⟩ := hd rfl
  simp only [c7, d1, d2, hK]
theorem W.region {s : St} {hs : af} {Q} {id : Nat} {l : List Oper} {draw : Bool} (hd : draw = true -> gz l = true /\ fh l = true) (h : WO tb n l l E s hs (Q .normal)) :
  W tb n (.region id l.toArray draw) E s hs Q := by
 intro tm hp ht hh
 obtain ⟨tm1, h1, he, hR⟩ := h tm hp ht hh
 obtain ⟨TM, g1, g2⟩ := zD he (id := id) (a := l.toArray) (by simp) hd
 exact ⟨.normal, TM, h1, g2, hR TM g1⟩
theorem W.reg {s : St} {hs : af} {Q} {id : Nat} {l : List Oper} (h : WO tb n l l E s hs (Q .normal)) : W tb n (.region id l.toArray false) E s hs Q := W.region (fun h => by cases h) h
theorem cX {s : St} {hs : af} {Q} {id : Nat} {l : List Oper} (hd : (gz l && fh l) = true) (h : WO tb n l l E s hs (Q .normal)) : W tb n (.region id l.toArray true) E s hs Q :=
 W.region (fun _ => by simpa using hd) h

def oL (s : St) : Operand -> Option AV
 | .tmp t => lk s t
 | .const v => nw v
 | .func f => some (.func f [])
 | .global _ => none
theorem aR {tm : T AV} {s : St} (h : Has tm s) {x : Operand} {v : AV} (e : oL s x = some v) : aS tm x = some v := by
 cases x with
 | tmp t => exact h t v e
 | const c => exact e
 | func f => exact e
 | global g => cases e
def sy (s : St) : List Operand -> Option (List AV)
 | [] => some []
 | x :: l => match oL s x with
  | some a => match sy s l with
   | some m => some (a :: m)
   | none => none
  | none => none
theorem kW {tm : T AV} {s : St} (h : Has tm s) : ∀ {xs : List Operand} {vs : List AV}, sy s xs = some vs -> cC tm xs = some vs
 | [], vs, e => e
 | x :: xs, vs, e => by
  unfold sy at e
  split at e
  ·rename_i a ha
   split at e
   ·rename_i m hm
    unfold cC
    rw [aR h ha, kW h hm]
    exact e
   ·cases e
  ·cases e
theorem aj {s : St} {x : Operand} {xs : List Operand} {v : AV} {vs : List AV} (h : oL s x = some v) (g : sy s xs = some vs) : sy s (x :: xs) = some (v :: vs) := by
 unfold sy; rw [h, g]
theorem oz {s : St} : sy s [] = some [] := rfl

theorem W.cond {s : St} {hs : af} {Q} {x : Operand} {a b : Code} {p : Bool} (hx : oL s x = some (.bool p)) (ha : p = true -> W tb n a E s hs Q) (hb : p = false -> W tb n b E s hs Q) : W tb n (.cond x a b) E s hs Q := by
 intro tm hp ht hh
 have hv := aR ht hx
 cases p with
 | true =>
  obtain ⟨ex, tm1, h1, hE, hQ⟩ := ha rfl tm hp ht hh
  refine ⟨ex, tm1, h1, hE.step fun K e1 => ?_, hQ⟩
  rw [cu]
  unfold cA
  simp only [hv, e1]
 | false =>
  obtain ⟨ex, tm1, h1, hE, hQ⟩ := hb rfl tm hp ht hh
  refine ⟨ex, tm1, h1, hE.step fun K e1 => ?_, hQ⟩
  rw [cu]
  unfold cA
  simp only [hv, e1]
theorem W.condT {s : St} {hs : af} {Q} {x : Operand} {a b : Code} (hx : oL s x = some (.bool true)) (ha : W tb n a E s hs Q) : W tb n (.cond x a b) E s hs Q := W.cond hx (fun _ => ha) (fun h => by cases h)
theorem W.condF {s : St} {hs : af} {Q} {x : Operand} {a b : Code} (hx : oL s x = some (.bool false)) (hb : W tb n b E s hs Q) : W tb n (.cond x a b) E s hs Q := W.cond hx (fun h => by cases h) (fun _ => hb)

theorem W.sub {s s' : St} {hs : af} {Q} {c : Code} (h : SubS s' s) (g : W tb n c E s' hs Q) : W tb n c E s hs Q := fun tm hp ht hh => g tm hp (ht.sub h) hh
theorem End.sub {s s' : St} {hs : af} {R} (h : SubS s' s) (g : End E s' hs R) : End E s hs R := fun tm hp ht hh => g tm hp (ht.sub h) hh
theorem WO.sub {s s' : St} {hs : af} {R} {ops rest : List Oper} (h : SubS s' s) (g : WO tb n ops rest E s' hs R) : WO tb n ops rest E s hs R := fun tm hp ht hh => g tm hp (ht.sub h) hh
def SubH (hs' hs : af) : Prop := (∀ e ∈ hs', e ∈ hs) /\ ((hs.map (·.b)).Nodup -> (hs'.map (·.b)).Nodup)
theorem HS.sub {hs hs' : af} {h : AHeap} (g : SubH hs' hs) (hh : HS E hs h) : HS E hs' h := ⟨fun e he => hh.at_ e (g.1 e he), g.2 hh.nd, hh.fr⟩
theorem SubH.refl (hs : af) : SubH hs hs := ⟨fun _ h => h, id⟩
theorem SubH.nil (hs : af) : SubH [] hs := ⟨fun _ h => (by simp at h), fun _ => List.nodup_nil⟩
theorem SubH.of_sublist {hs' hs : af} (h : hs'.Sublist hs) : SubH hs' hs := ⟨fun e he => h.subset he, fun hn => hn.sublist (h.map _)⟩
theorem SubH.op {hs' hs : af} (h : hs'.Perm hs) : SubH hs' hs := ⟨fun e he => h.mem_iff.1 he, fun hn => ((h.map _).nodup_iff).2 hn⟩
theorem SubH.trans {a b c : af} (h : SubH a b) (g : SubH b c) : SubH a c := ⟨fun e he => g.1 e (h.1 e he), fun hn => h.2 (g.2 hn)⟩
theorem SubH.erase {hs : af} (i : Nat) : SubH (hs.eraseIdx i) hs := .of_sublist (List.eraseIdx_sublist _ _)
theorem cz {s : St} {hs hs' : af} {Q} {c : Code} (h : SubH hs' hs) (g : W tb n c E s hs' Q) : W tb n c E s hs Q := fun tm hp ht hh => g tm hp ht (hh.sub h)
theorem WO.subH {s : St} {hs hs' : af} {R} {ops rest : List Oper} (h : SubH hs' hs) (g : WO tb n ops rest E s hs' R) : WO tb n ops rest E s hs R := fun tm hp ht hh => g tm hp ht (hh.sub h)

theorem WO.nil {s : St} {hs : af} {R} {ops : List Oper} (h : End E s hs R) : WO tb n ops [] E s hs R :=
 fun tm hp ht hh => ⟨tm, hp, rfl, fun TM hT => h TM hp (ht.mono hT) hh⟩
theorem pQ {tm tm1 : T AV} {h h1 : AHeap} {R} {ops rest : List Oper} {o : Oper} {v : AV} {k : Nat} (he : fT tb (aD (callE tb)) ops tm h o = some (v, h1, k)) (hp : bE tm n o.dst v = some tm1)
  (hk : JM tb n ops rest tm1 h1 R) : JM tb n ops (o :: rest) tm h R := by
 obtain ⟨tm2, h2, e, hR⟩ := hk
 refine ⟨tm2, h2, ?_, hR⟩
 unfold db
 simp only [he, hp, e]
def dj (hs : af) (h : AHeap) : Prop := ∀ e ∈ hs, h.objs.get e.b = some e.o
def QV (tb : Tab) (s : St) (hs : af) (op : Op) (v : AV) : Prop := ∀ tm h, Has tm s -> dj hs h -> ∀ call, cO tb call tm h op = .q (some v)
theorem HS.keep {hs : af} {h : AHeap} (hh : HS E hs h) : dj hs h := fun e he => (hh.at_ e he).1
theorem WO.q {s : St} {hs : af} {R} {ops rest : List Oper} {d : Nat} {op : Op} {ty : TypeId} {pos : String} {aft : Array Edge} {v : AV}
  (he : QV tb s hs op v) (hd : Nat.blt d n = true) (hk : WO tb n ops rest E ((d, v) :: s) hs R) :
  WO tb n ops (⟨some d, op, ty, pos, aft, none⟩ :: rest) E s hs R := by
 intro tm h ht hh
 refine pQ (v := v) (k := 1) (h1 := h) (tm1 := tm.set d v) ?_ ?_ (hk _ _ (ht.set d v) hh)
 ·unfold fT
  have : aK ops tm ⟨some d, op, ty, pos, aft, none⟩ = some true := rfl
  rw [this]
  simp only [he tm h ht hh.keep]
 ·unfold bE
  simp only [hd]
theorem WO.l {s s' : St} {hs : af} {R} {ops rest : List Oper} {dst : Option Nat} {op : Op} {ty : TypeId} {pos : String} {aft : Array Edge}
  (hk : ∀ tm h, Has tm s -> HS E hs h -> ∃ v h' tm', cO tb (aD (callE tb)) tm h op = .l (some (v, h')) /\ bE tm n dst v = some tm' /\ JM tb n ops rest tm' h' R) :
  WO tb n ops (⟨dst, op, ty, pos, aft, none⟩ :: rest) E s hs R := by
 intro tm h ht hh
 obtain ⟨v, h', tm', h1, h2, h3⟩ := hk tm h ht hh
 refine pQ (v := v) (k := 2) (h1 := h') (tm1 := tm') ?_ h2 h3
 unfold fT
 have : aK ops tm ⟨dst, op, ty, pos, aft, none⟩ = some true := rfl
 rw [this]
 simp only [h1]
theorem aO {tm : T AV} {d : Nat} {v : AV} (hd : Nat.blt d n = true) : bE tm n (some d) v = some (tm.set d v) := by
 unfold bE
 simp only [hd]

def lG (ops : List Oper) (j : Nat) : Option Nat :=
 match ops[j]? with
 | some o => o.dst
 | none => none
theorem qh {s : St} {hs : af} {R} {ops rest : List Oper} {dst : Option Nat} {op : Op} {ty : TypeId} {pos : String} {aft : Array Edge} {j d : Nat} {w : Bool}
  (hj : lG ops j = some d) (hl : lk s d = some (.bool w)) (hk : WO tb n ops (⟨dst, op, ty, pos, aft, none⟩ :: rest) E s hs R) : WO tb n ops (⟨dst, op, ty, pos, aft, some (j, w)⟩ :: rest) E s hs R := by
 intro tm h ht hh
 obtain ⟨tm2, h2, e, hR⟩ := hk tm h ht hh
 refine ⟨tm2, h2, ?_, hR⟩
 have hw : aK ops tm ⟨dst, op, ty, pos, aft, some (j, w)⟩ = aK ops tm ⟨dst, op, ty, pos, aft, none⟩ := by
  unfold aK
  unfold lG at hj
  split at hj
  ·rename_i o ho
   simp only [ho, hj, ht d _ hl, beq_self_eq_true]
  ·cases hj
 have h1 : fT tb (aD (callE tb)) ops tm h ⟨dst, op, ty, pos, aft, some (j, w)⟩ = fT tb (aD (callE tb)) ops tm h ⟨dst, op, ty, pos, aft, none⟩ := by
  unfold fT
  rw [hw]
 unfold db at e ⊢
 rw [h1]
 exact e
theorem aW {s : St} {hs : af} {R} {ops rest : List Oper} {d0 : Nat} {op : Op} {ty : TypeId} {pos : String} {aft : Array Edge} {j d : Nat} {w : Bool} {v : AV}
  (hj : lG ops j = some d) (hl : lk s d = some v) (hv : v = .bool (!w) \/ v = .tuple []) (hd : Nat.blt d0 n = true) (hk : WO tb n ops rest E ((d0, .tuple []) :: s) hs R) :
  WO tb n ops (⟨some d0, op, ty, pos, aft, some (j, w)⟩ :: rest) E s hs R := by
 intro tm h ht hh
 refine pQ (v := .tuple []) (k := 0) (h1 := h) (tm1 := tm.set d0 (.tuple [])) ?_ (aO hd) (hk _ _ (ht.set d0 _) hh)
 unfold fT
 have : aK ops tm ⟨some d0, op, ty, pos, aft, some (j, w)⟩ = some false := by
  unfold aK
  unfold lG at hj
  split at hj
  ·rename_i o ho
   rcases hv with rfl | rfl
   ·simp only [ho, hj, ht d _ hl]
    cases w <;> rfl
   ·simp only [ho, hj, ht d _ hl]
  ·cases hj
 rw [this]
theorem WO.split {s : St} {hs : af} {R} {ops rest : List Oper} {d : Nat} {p : Bool} (hl : lk s d = some (.bool p)) (ha : p = true -> WO tb n ops rest E ((d, .bool true) :: s) hs R)
  (hb : p = false -> WO tb n ops rest E ((d, .bool false) :: s) hs R) : WO tb n ops rest E s hs R := by
 intro tm h ht hh
 have hs' : Has tm ((d, .bool p) :: s) := by
  intro k x e
  unfold lk at e
  split at e
  ·rename_i hb
   have := Nat.eq_of_beq_eq_true hb
   subst this
   rw [<- e]
   exact ht _ _ hl
  ·exact ht _ _ e
 cases p with
 | true => exact ha rfl tm h hs' hh
 | false => exact hb rfl tm h hs' hh
end
end
noncomputable section
variable {tb : Tab} {n : Nat} {E : Env} {s : St} {hs : af} {R : T AV -> AHeap -> Prop} {ops rest : List Oper} {d : Nat} {ty : TypeId} {pos : String} {aft : Array Edge}

theorem sQ {x : Int} (h : -9223372036854775808 <= x /\ x <= 9223372036854775807) : IntKind.i64.wrap x = x := by
 have e : (2 ^ 64 : Int) = 18446744073709551616 := by decide
 have e' : (2 ^ 63 : Int) = 9223372036854775808 := by decide
 simp only [IntKind.wrap, IntKind.bits, IntKind.signed, Bool.true_and, decide_eq_true_eq, e, e', show (64 - 1) = 63 from rfl]
 split <;> omega
theorem Ko {x : Int} (h : 0 <= x /\ x <= 255) : IntKind.u8.wrap x = x := by
 have e : (2 ^ 8 : Int) = 256 := by decide
 simp only [IntKind.wrap, IntKind.bits, IntKind.signed, Bool.false_and, e]
 simp
 omega
theorem nz {x : Int} (h : 0 <= x /\ x <= 18446744073709551615) : IntKind.u64.wrap x = x := by
 have e : (2 ^ 64 : Int) = 18446744073709551616 := by decide
 simp only [IntKind.wrap, IntKind.bits, IntKind.signed, Bool.false_and, e]
 simp
 omega
theorem Kv {m j : Nat} (h : m + j <= 9223372036854775807) : IntKind.i64.wrap ((m : Int) + (j : Int)) = ((m + j : Nat) : Int) := by
 rw [sQ zy]; omega
theorem oe {m j : Nat} (h : j <= m /\ m <= 9223372036854775807) : IntKind.i64.wrap ((m : Int) - (j : Int)) = ((m - j : Nat) : Int) := by
 rw [sQ zy]; omega
theorem pP {m j : Nat} (h : m * j <= 9223372036854775807) : IntKind.i64.wrap ((m : Int) * (j : Int)) = ((m * j : Nat) : Int) := by
 have e : (m : Int) * (j : Int) = ((m * j : Nat) : Int) := by simp
 rw [e, sQ zy]
theorem bY {m j : Nat} : qc ((m : Nat) : Int) ((j : Nat) : Int) = decide (m < j) := by rw [bS, decide_eq_decide]; omega
theorem bf {m j : Nat} : (!(qc ((j : Nat) : Int) ((m : Nat) : Int))) = decide (m <= j) := by
 rw [bS, <- decide_not, decide_eq_decide]; omega
theorem dc {a b : Int} : (!(qc b a)) = decide (a <= b) := by rw [bS, <- decide_not, decide_eq_decide]; omega
theorem aG {m j : Nat} : pV ((m : Nat) : Int) ((j : Nat) : Int) = decide (m = j) := by
 rw [gU, Bool.eq_iff_iff]; simp; omega
theorem oR {a b : Int} : pV a b = decide (a = b) := by
 rw [gU, Bool.eq_iff_iff]; simp
theorem gB {m j : Nat} : (!(pV ((m : Nat) : Int) ((j : Nat) : Int))) = decide (m ≠ j) := by rw [aG, <- decide_not]
theorem f5 {a b : Int} : (!(pV a b)) = decide (a ≠ b) := by rw [oR, <- decide_not]
theorem oS {a b : List Nat} : dg a b = decide (a = b) := by rw [g7, Bool.eq_iff_iff]; simp
theorem GV {a b : List Nat} : (!(dg a b)) = decide (a ≠ b) := by rw [oS, <- decide_not]

variable {t : TypeId} {k : IntKind} {a b c : Int} {p : Bool}
theorem bc (h : k.wrap (a + b) = c) : bC tb .add t (.int k a) (.int k b) = some (.int k c) := by
 unfold bC; simp only [fY, if_pos]; rw [cv]; exact congrArg (fun x => some (AV.int k x)) h
theorem bM (h : k.wrap (a - b) = c) : bC tb .sub t (.int k a) (.int k b) = some (.int k c) := by
 unfold bC; simp only [fY, if_pos]; rw [cv]; exact congrArg (fun x => some (AV.int k x)) h
theorem oF (h : k.wrap (a * b) = c) : bC tb .mul t (.int k a) (.int k b) = some (.int k c) := by
 unfold bC; simp only [fY, if_pos]; rw [cv]; exact congrArg (fun x => some (AV.int k x)) h
theorem AS (hb : b ≠ 0) (h : k.wrap (a.tdiv b) = c) : bC tb .quo t (.int k a) (.int k b) = some (.int k c) := by
 unfold bC; simp only [fY, if_pos]
 have : pV b 0 = false := by rw [oR]; simpa using hb
 rw [this, cv]; exact congrArg (fun x => some (AV.int k x)) h
theorem bu (h : qc a b = p) : bC tb .lss t (.int k a) (.int k b) = some (.bool p) := by
 unfold bC; simp only [fY, if_pos, h]
theorem aJ (h : qc b a = p) : bC tb .gtr t (.int k a) (.int k b) = some (.bool p) := by
 unfold bC; simp only [fY, if_pos, h]
theorem aZ (h : (!(qc b a)) = p) : bC tb .leq t (.int k a) (.int k b) = some (.bool p) := by
 unfold bC; simp only [fY, if_pos, h]
theorem bp (h : (!(qc a b)) = p) : bC tb .geq t (.int k a) (.int k b) = some (.bool p) := by
 unfold bC; simp only [fY, if_pos, h]
theorem ai (h : pV a b = p) : bC tb .eql t (.int k a) (.int k b) = some (.bool p) := by
 unfold bC; simp only [fY, if_pos, h]
theorem bd (h : (!(pV a b)) = p) : bC tb .neq t (.int k a) (.int k b) = some (.bool p) := by
 unfold bC; simp only [fY, if_pos, h]
variable {x y z : List Nat}
theorem DR (h : x.length + y.length <= 4611686018427387904) : bC tb .add t (.str x) (.str y) = some (.str (x ++ y)) := by
 unfold bC; simp only [j0, Nat.ble_eq.mpr h]
theorem jb : bC tb .eql t (.str x) (.str y) = some (.bool (decide (x = y))) := by
 unfold bC; simp only [j0, oS]
theorem lx : bC tb .neq t (.str x) (.str y) = some (.bool (decide (x ≠ y))) := by
 unfold bC; simp only [j0, GV]
theorem wG : bC tb .lss t (.str x) (.str y) = some (.bool (aL x y)) := rfl

theorem aa {op : BinOp} {ox oy : Operand} {u : TypeId} {va vb v : AV} (hx : oL s ox = some va) (hy : oL s oy = some vb) (hn : mL oy = false) (hv : bC tb op t va vb = some v) : QV tb s hs (.binOp op t ox oy u) (v) := by
 intro tm h ht hh call
 show Res.q (ir tb tm op t ox oy) = _
 unfold ir
 simp only [hn, aR ht hx, aR ht hy, hv]
theorem Q.move {ox : Operand} {v : AV} (hx : oL s ox = some v) : QV tb s hs (.move ox) v := fun tm h ht hh call => congrArg Res.q (aR ht hx)
theorem Q.assign {ox : Operand} {v : AV} (hx : oL s ox = some v) : QV tb s hs (.assign ox) v := fun tm h ht hh call => congrArg Res.q (aR ht hx)
theorem aA {oc oa ob : Operand} {v : AV} (hc : oL s oc = some (.bool true)) (ha : oL s oa = some v) : QV tb s hs (.pick oc oa ob) (v) := by
 intro tm h ht hh call
 show Res.q (gV tm oc oa ob) = _
 unfold gV
 simp only [aR ht hc, aR ht ha]
theorem aF {oc oa ob : Operand} {v : AV} (hc : oL s oc = some (.bool false)) (hb : oL s ob = some v) : QV tb s hs (.pick oc oa ob) (v) := by
 intro tm h ht hh call
 show Res.q (gV tm oc oa ob) = _
 unfold gV
 simp only [aR ht hc, aR ht hb]
theorem Q.not {ox : Operand} {q : Bool} (hx : oL s ox = some (.bool p)) (hq : (!p) = q) : QV tb s hs (.unOp .not t ox) (.bool q) := by
 intro tm h ht hh call
 show Res.q (gW tm .not ox) = _
 unfold gW
 simp only [aR ht hx, hq]
theorem Q.neg {ox : Operand} (hx : oL s ox = some (.int k a)) (hq : k.wrap (0 - a) = c) : QV tb s hs (.unOp .neg t ox) (.int k c) := by
 intro tm h ht hh call
 show Res.q (gW tm .neg ox) = _
 unfold gW
 simp only [aR ht hx, cv]
 exact congrArg (fun x => Res.q (some (AV.int k x))) hq
theorem FQ {ox : Operand} {ts : Array Nat} {t0 : Nat} {tl : List Nat} {dsc : TypeDesc} {v : AV} {m : Nat} (hts : ts.toList = t0 :: tl) (hu : tb.und t0 = some dsc) (hx : oL s ox = some v) (hl : iN dsc v = some m)
  {l : List Operand} (ho : l = [ox]) : QV tb s hs (.call ⟨.builtin .len, l.toArray, ts⟩) (.int .i64 (m : Int)) := by
 intro tm h ht hh call
 show Res.q (lE tb tm l.toArray ts) = _
 unfold lE
 subst ho
 simp only [hts, hu, aR ht hx, hl]
 rfl
theorem Q.len {ox : Operand} {t0 : Nat} {tl : List Nat} {dsc : TypeDesc} {v : AV} {m : Nat} (hu : tb.und t0 = some dsc) (hx : oL s ox = some v) (hl : iN dsc v = some m) :
  QV tb s hs (.call ⟨.builtin .len, #[ox], (t0 :: tl).toArray⟩) (.int .i64 (m : Int)) :=
 FQ (t0 := t0) (tl := tl) (by simp) hu hx hl rfl
theorem jD {l : List Operand} {ts : Array Nat} {v : AV} {vs : List AV} {r : AV} (mx : Bool) (ha : sy s l = some (v :: vs)) (hr : dh mx v vs = some r) : QV tb s hs (.call ⟨.builtin (if mx then .max else .min), l.toArray, ts⟩) (r) := by
 intro tm h ht hh call
 cases mx with
 | true =>
  show Res.q (dJ tm true l.toArray) = _
  unfold dJ
  simp only [kW ht ha, hr]
 | false =>
  show Res.q (dJ tm false l.toArray) = _
  unfold dJ
  simp only [kW ht ha, hr]
theorem Cm {m j : Nat} : dh false (.int k ((m : Nat) : Int)) [.int k ((j : Nat) : Int)] = some (.int k ((min m j : Nat) : Int)) := by
 unfold dh
 simp only [Bool.false_eq_true, if_false, bS]
 unfold dh
 by_cases h : (j : Int) < (m : Int)
 ·have e : min m j = j := by omega
  simp only [h, decide_true, e]
 ·have e : min m j = m := by omega
  simp only [h, decide_false, e]
theorem GQ {m j : Nat} : dh true (.int k ((m : Nat) : Int)) [.int k ((j : Nat) : Int)] = some (.int k ((max m j : Nat) : Int)) := by
 unfold dh
 simp only [if_true, bS]
 unfold dh
 by_cases h : (m : Int) < (j : Int)
 ·have e : max m j = j := by omega
  simp only [h, decide_true, e]
 ·have e : max m j = m := by omega
  simp only [h, decide_false, e]
theorem sW {ox oi : Operand} {l : List Nat} {m : Nat} (hu : tb.und t = some .string) (hx : oL s ox = some (.str l)) (hi : oL s oi = some (.int k ((m : Nat) : Int))) (hm : m < l.length) : QV tb s hs (.index t ox oi) (.int .u8 ((l.getD m 0 : Nat) : Int)) := by
 intro tm h ht hh call
 show Res.q (gI tb tm t ox oi) = _
 unfold gI
 have : fj (aS tm oi) = some m := by rw [aR ht hi]; rfl
 simp only [hu, aR ht hx, this]
 have e : l[m]? = some (l.getD m 0) := by simp [hm]
 rw [e]
 rfl
def bL (s : St) (len : Nat) (lo hi : Option Operand) : Option (Nat × Nat) :=
 match (match hi with | some x => fj (oL s x) | none => some len) with
 | some h =>
  match (match lo with | some x => fj (oL s x) | none => some 0) with
  | some l => some (l, h)
  | none => none
 | none => none
theorem t8 {tm : T AV} (ht : Has tm s) {x : Operand} {m : Nat} (h : fj (oL s x) = some m) : fj (aS tm x) = some m := by
 cases ho : oL s x with
 | none => rw [ho] at h; cases h
 | some v => rw [aR ht ho]; rw [ho] at h; exact h
theorem AM {tm : T AV} (ht : Has tm s) {len : Nat} {lo hi : Option Operand} {l h : Nat} (e : bL s len lo hi = some (l, h)) (hb : l <= h /\ h <= len) : cH tm len lo hi = some (l, h) := by
 unfold bL at e
 split at e
 ·rename_i h' e1
  split at e
  ·rename_i l' e2
   simp only [Option.some.injEq, Prod.mk.injEq] at e
   obtain ⟨rfl, rfl⟩ := e
   have f1 : (match (generalizing := false) hi with | some x => fj (aS tm x) | none => some len) = some h' := by
    cases hi with
    | none => exact e1
    | some x => exact t8 ht e1
   have f2 : (match (generalizing := false) lo with | some x => fj (aS tm x) | none => some 0) = some l' := by
    cases lo with
    | none => exact e2
    | some x => exact t8 ht e2
   have f3 : (Nat.ble h' len && Nat.ble l' h') = true := by simp; omega
   clear e1 e2
   cases hi with
   | none =>
    simp only [Option.some.injEq] at f1
    cases lo with
    | none =>
     simp only [Option.some.injEq] at f2
     simp only [cH, f1, f2] at f3 ⊢
     simp only [f3]
    | some y =>
     subst f1
     simp only [cH, f2, f3]
   | some x =>
    cases lo with
    | none =>
     simp only [Option.some.injEq] at f2
     subst f2
     simp only [cH, f1, f3]
    | some y => simp only [cH, f1, f2, f3]
  ·cases e
 ·cases e
theorem gi {ox : Operand} {lo hi : Option Operand} {l r : List Nat} {m j : Nat} (hu : tb.und t = some .string) (hx : oL s ox = some (.str l)) (hb : bL s l.length lo hi = some (m, j)) (hm : m <= j /\ j <= l.length)
  (hr : (l.drop m).take (j - m) = r) : QV tb s hs (.slice t ox lo hi none) (.str r) := by
 intro tm h ht hh call
 show Res.q (eR tb tm h.objs t ox lo hi none) = _
 unfold eR
 simp only [hu, aR ht hx]
 unfold jW
 rw [AM ht hb hm]
 simp only [hr]
theorem Jn {l : List Nat} {m : Nat} : (l.drop m).take (l.length - m) = l.drop m := by rw [List.take_of_length_le]; simp
theorem Q.extract {ox : Operand} {i : Nat} {l : List AV} {v : AV} (hx : oL s ox = some (.tuple l)) (hl : l[i]? = some v) : QV tb s hs (.extract ox i) (v) := by
 intro tm h ht hh call
 show Res.q (eP tm ox i) = _
 unfold eP
 simp only [aR ht hx, hl]
theorem aY {ox : Operand} {B o : Nat} (hx : oL s ox = some (.ptr B o)) : QV tb s hs (.nilCheck ox) (.ptr B o) := by
 intro tm h ht hh call
 show Res.q (dT tm ox) = _
 unfold dT
 simp only [aR ht hx]
theorem dQ {f : Nat} {cs : List Operand} {l : List AV} (hl : sy s cs = some l) (hc : l.all AV.isCell = true := by rfl) : QV tb s hs (.makeFunc (.func f) #[] cs.toArray) (.func f l) := by
 intro tm h ht hh call
 show Res.q (c9 tm (.func f) #[] cs.toArray) = _
 unfold c9
 simp only [kW ht hl, hc]
theorem rk {f : Nat} {x : Operand} {v : AV} (hx : oL s x = some v) : QV tb s hs (.makeFunc (.func f) #[x] #[]) (.func f [.tuple [], v]) := by
 intro tm h ht hh call
 show Res.q (c9 tm (.func f) #[x] #[]) = _
 unfold c9
 simp only [cC, aR ht hx]
theorem eK {sr : TypeId} {ox : Operand} {ds : TypeDesc} {k' : IntKind} (hu : tb.und sr = some ds) (hv : tb.und t = some (.int k)) (hx : oL s ox = some (.int k' a)) (hw : k.wrap a = c) : QV tb s hs (.convert sr t ox) (.int k c) := by
 intro tm h ht hh call
 show ec tb tm h sr t ox = _
 unfold ec
 rw [hu, hv, aR ht hx]
 simp only [cv]
 exact congrArg (fun x => Res.q (some (AV.int k x))) hw
def FA (tb : Tab) (t f : Nat) : Option (Nat × Nat) :=
 match dX (tb.und t) with
 | some fs => ga tb fs f
 | none => none
theorem Q.fieldAddr {ox : Operand} {f B o off sz o' : Nat} (hf : FA tb t f = some (off, sz + 1)) (hx : oL s ox = some (.ptr B o)) (ho : o + off = o') : QV tb s hs (.fieldAddr t ox f) (.ptr B o') := by
 intro tm h ht hh call
 show Res.q (dq tb tm t ox f) = _
 unfold dq
 unfold FA at hf
 split at hf
 ·rename_i fs hfs
  simp only [hfs, aR ht hx, hf, ho]
 ·cases hf
def BT (tb : Tab) (t : Nat) : Option (List AV × (Nat -> Option (Nat × Nat))) :=
 match tb.zero t with
 | some z => match tb.und t with
  | some (.struct fs) => match lU tb fs.toList with
   | true => some (z.cells, ga tb fs.toList)
   | false => none
  | some (.array _ e) => match tb.size e with
   | some n => some (z.cells, fun i => some (i * n, n))
   | none => none
  | _ => none
 | none => none
def Ak (s : St) : List (Nat × Operand) -> Option (List (Nat × AV))
 | [] => some []
 | (i, x) :: l => match oL s x with
  | some a => match Ak s l with
   | some m => some ((i, a) :: m)
   | none => none
  | none => none
theorem sA {tm : T AV} (ht : Has tm s) : ∀ {l : List (Nat × Operand)} {m : List (Nat × AV)}, Ak s l = some m -> bK tm l = some m
 | [], m, e => e
 | (i, x) :: l, m, e => by
  unfold Ak at e
  split at e
  ·rename_i a ha
   split at e
   ·rename_i q hq
    unfold bK
    rw [aR ht ha, sA ht hq]
    exact e
   ·cases e
  ·cases e
theorem cy {i : Nat} {x : Operand} {l : List (Nat × Operand)} {v : AV} {m : List (Nat × AV)} (h : oL s x = some v) (g : Ak s l = some m) : Ak s ((i, x) :: l) = some ((i, v) :: m) := by
 unfold Ak; rw [h, g]
theorem dE : Ak s [] = some [] := rfl
theorem np {f g : Nat -> Option (Nat × Nat)} : ∀ {l : List (Nat × AV)} {cs : List AV}, (∀ p ∈ l, f p.1 = g p.1) -> cJ f cs l = cJ g cs l
 | [], cs, h => rfl
 | (i, v) :: l, cs, h => by
  have e : f i = g i := h (i, v) (List.mem_cons_self ..)
  unfold cJ
  rw [e]
  cases g i with
  | none => rfl
  | some q =>
   simp only
   split
   ·exact np fun p hp => h p (List.mem_cons_of_mem _ hp)
   ·rfl
def PL (tb : Tab) (t : Nat) (zs : List AV) (pl : List (Nat × Nat)) : Bool :=
 match BT tb t with
 | some (cs, f) => dO dF cs zs && (List.range pl.length).all fun i => f i == pl[i]?
 | none => false
theorem Q.build {l : List (Nat × Operand)} {zs cs : List AV} {pl : List (Nat × Nat)} {ps : List (Nat × AV)} (hp : PL tb t zs pl = true) (ho : Ak s l = some ps) (hi : (ps.all fun p => Nat.blt p.1 pl.length) = true)
  (hf : cJ (fun i => pl[i]?) zs ps = some cs) : QV tb s hs (.build t l.toArray) (.agg cs) := by
 intro tm h ht hh call
 show Res.q (gH tb tm t l.toArray) = _
 unfold PL at hp
 split at hp
 ·rename_i cs0 f hbt
  simp only [Bool.and_eq_true, List.all_eq_true, List.mem_range] at hp
  have hz : cs0 = zs := by
   have := oE (.tuple cs0) (.tuple zs) (by
    show dO dG cs0 zs = true
    have mono : ∀ {a b : AV}, dF a b = true -> dG a b = true := by
     intro a b h
     cases a <;> cases b <;> simp_all [dF, dG, d6]
    have ml : ∀ {a b : List AV}, dO dF a b = true -> dO dG a b = true := by
     intro a
     induction a with
     | nil => intro b h; cases b <;> simp_all [dO]
     | cons x a ih =>
      intro b h
      cases b with
      | nil => simp [dO] at h
      | cons y b =>
       simp only [dO, Bool.and_eq_true] at h ⊢
       exact ⟨mono h.1, ih h.2⟩
    exact ml hp.1)
   simpa using this
  subst hz
  have hfg : ∀ p ∈ ps, f p.1 = pl[p.1]? := by
   intro p hpm
   have hlt := List.all_eq_true.1 hi p hpm
   have := hp.2 p.1 (by simpa using hlt)
   simpa using this
  have hfill : cJ f cs0 ps = some cs := by rw [np hfg]; exact hf
  unfold BT at hbt
  unfold gH
  have hps : bK tm l.toArray.toList = some ps := sA ht ho
  split at hbt
  ·rename_i z hz
   split at hbt
   ·rename_i fs hu
    split at hbt
    ·rename_i hsz
     simp only [Option.some.injEq, Prod.mk.injEq] at hbt
     obtain ⟨rfl, rfl⟩ := hbt
     rw [hz, hps]
     simp only [hu, hsz, hfill]
     rfl
    ·cases hbt
   ·rename_i u e hu
    split at hbt
    ·rename_i m hm
     simp only [Option.some.injEq, Prod.mk.injEq] at hbt
     obtain ⟨rfl, rfl⟩ := hbt
     rw [hz, hps]
     simp only [hu, hm, hfill]
     rfl
    ·cases hbt
   ·cases hbt
  ·cases hbt
 ·cases hp
end
end Go.Proofs.YtfkbfnpjggkdmaaGreatDoor.Ev
