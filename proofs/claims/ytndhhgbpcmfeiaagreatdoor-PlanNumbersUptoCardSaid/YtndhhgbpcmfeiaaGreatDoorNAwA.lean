/- The quick evaluator, part 3: regions, code, calls. What it eZ, the evaluator eZ. -/
import Derived.Test.YtndhhgbpcmfeiaaGreatDoorNEvV
namespace Go.Proofs.YtndhhgbpcmfeiaaGreatDoor.Ev
open Go.RowKit
noncomputable section

theorem cg (tb : Tab) (K n : Nat) (c : Code) (tm : T AV) (h : AHeap) : run tb (K + 1) n c tm h = cX tb (cm tb (run tb K)) n (run tb K n) c tm h := rfl

end
noncomputable section
end
noncomputable section
def callE (tb : Tab) : gq := fun f a h =>
 match Classical.propDecidable (∃ p : AV × AHeap, Evt fun K => cm tb (run tb K) f a h = some p) with
 | .isTrue hx => .ok (Classical.choose hx).1 (Classical.choose hx).2
 | .isFalse _ => .bad
theorem lK (tb : Tab) : fc tb (callE tb) := by
 intro f a h v h' e
 unfold callE at e
 split at e
 ·rename_i hx _
  simp only [VH.ok.injEq] at e
  have := Classical.choose_spec hx
  rw [<- e.1, <- e.2]
  exact this
 ·cases e
theorem uY {tb : Tab} {f : Nat} {a : List AV} {h : AHeap} {v : AV} {h' : AHeap} (e : Evt fun K => cm tb (run tb K) f a h = some (v, h')) : callE tb f a h = .ok v h' := by
 unfold callE
 split
 ·rename_i hx _
  have hs := Classical.choose_spec hx
  obtain ⟨K, hK⟩ := e.and hs
  obtain ⟨h1, h2⟩ := hK K (Nat.le_refl K)
  rw [h1] at h2
  simp only [Option.some.injEq] at h2
  rw [<- h2]
 ·rename_i hx _
  exact absurd ⟨(v, h'), e⟩ hx
theorem ka {tb : Tab} {f : Nat} {a : List AV} {h : AHeap} {v : AV} {h' : AHeap} (e : Evt fun K => cm tb (run tb K) f a h = some (v, h')) : ay (callE tb) f a h = some (v, h') := by
 unfold ay
 rw [uY e]
theorem SubT.refl (tm : T AV) : SubT tm tm := fun _ _ h => h
theorem SubT.trans {a b c : T AV} (h : SubT a b) (g : SubT b c) : SubT a c := fun k v e => g k v (h k v e)

abbrev St := List (Nat × AV)
def lk : St -> Nat -> Option AV
 | [], _ => none
 | (k, v) :: s, t => match Nat.beq k t with
  | true => some v
  | false => lk s t
def Has (tm : T AV) (s : St) : Prop := ∀ k v, lk s k = some v -> tm.get k = some v
theorem Has.mono {tm TM : T AV} {s : St} (h : Has tm s) (g : SubT tm TM) : Has TM s := fun k v e => g k v (h k v e)
theorem Has.set {tm : T AV} {s : St} (h : Has tm s) (d : Nat) (v : AV) : Has (tm.set d v) ((d, v) :: s) := by
 intro k x e
 rw [au]
 unfold lk at e
 split at e
 ·rename_i hb
  have := Nat.eq_of_beq_eq_true hb
  rw [if_pos this.symm]; exact e
 ·rename_i hb
  have : ¬ k = d := by intro hk; subst hk; simp at hb
  rw [if_neg this]
  exact h k x e
def SubS (a b : St) : Prop := ∀ k v, lk a k = some v -> lk b k = some v
theorem SubS.nil (b : St) : SubS [] b := fun k v h => by cases h
theorem SubS.cons {a b : St} {k : Nat} {v : AV} (h : lk b k = some v) (g : SubS a b) : SubS ((k, v) :: a) b := by
 intro j x e
 unfold lk at e
 split at e
 ·rename_i hb
  have := Nat.eq_of_beq_eq_true hb
  subst this
  rw [h]; exact e
 ·exact g j x e
theorem SubS.refl (a : St) : SubS a a := fun _ _ h => h
theorem Has.sub {tm : T AV} {a b : St} (h : Has tm b) (g : SubS a b) : Has tm a := fun k v e => h k v (g k v e)

structure HE where
 b : Nat
 o : AObj
 w : Bool
abbrev af := List HE
structure Env where
 h0 : AHeap
 S : List Nat
def Fr (S : List Nat) (h h' : AHeap) : Prop := h.next <= h'.next /\ ∀ b, b < h.next -> b ∉ S -> h'.objs.get b = h.objs.get b
theorem Fr.refl (S : List Nat) (h : AHeap) : Fr S h h := ⟨Nat.le_refl _, fun _ _ _ => rfl⟩
structure HS (E : Env) (hs : af) (h : AHeap) : Prop where
 at_ : ∀ e ∈ hs, h.objs.get e.b = some e.o /\ e.b < h.next /\ (e.w = true -> E.h0.next <= e.b \/ e.b ∈ E.S)
 nd : (hs.map (·.b)).Nodup
 fr : Fr E.S E.h0 h

def Ee (tb : Tab) (n : Nat) (c : Code) (tm : T AV) (h : AHeap) (Q : Ex -> T AV -> AHeap -> Prop) : Prop :=
 ∃ ex tm' h', (Evt fun K => run tb K n c tm h = some (ex, tm', h')) /\ Q ex tm' h'
def DD (tb : Tab) (n : Nat) (ops rest : List Oper) (tm : T AV) (h : AHeap) (R : T AV -> AHeap -> Prop) : Prop :=
 ∃ tm' h', dE tb (ay (callE tb)) n ops rest tm h = some (tm', h') /\ ∀ TM, SubT tm' TM -> R TM h'

section
variable {tb : Tab} {n : Nat} {E : Env}

def W (tb : Tab) (n : Nat) (c : Code) (E : Env) (s : St) (hs : af) (Q : Ex -> T AV -> AHeap -> Prop) : Prop := ∀ tm h, Has tm s -> HS E hs h -> Ee tb n c tm h Q
def WO (tb : Tab) (n : Nat) (ops rest : List Oper) (E : Env) (s : St) (hs : af) (R : T AV -> AHeap -> Prop) : Prop := ∀ tm h, Has tm s -> HS E hs h -> DD tb n ops rest tm h R
def End (E : Env) (s : St) (hs : af) (R : T AV -> AHeap -> Prop) : Prop := ∀ tm h, Has tm s -> HS E hs h -> R tm h

def K (tb : Tab) (n : Nat) (b : Code) (Q : Ex -> T AV -> AHeap -> Prop) : Ex -> T AV -> AHeap -> Prop
 | .normal, tm, h => Ee tb n b tm h Q
 | .exit i, tm, h => Q (.exit i) tm h
 | .ret, tm, h => Q .ret tm h
def KB (id : Nat) (Q : Ex -> T AV -> AHeap -> Prop) : Ex -> T AV -> AHeap -> Prop
 | .normal, tm, h => Q .normal tm h
 | .exit i, tm, h => match Nat.beq i id with
  | true => Q .normal tm h
  | false => Q (.exit i) tm h
 | .ret, tm, h => Q .ret tm h
def KL (tb : Tab) (n : Nat) (b : Code) (Q : Ex -> T AV -> AHeap -> Prop) : Ex -> T AV -> AHeap -> Prop
 | .normal, tm, h => Ee tb n (.loop b) tm h Q
 | .exit i, tm, h => Q (.exit i) tm h
 | .ret, tm, h => Q .ret tm h

theorem End.K {s : St} {hs : af} {b : Code} {Q} (h : W tb n b E s hs Q) : End E s hs (K tb n b Q .normal) := h
theorem av {s : St} {hs : af} {b : Code} {Q} {i : Nat} (h : End E s hs (Q (.exit i))) : End E s hs (Ev.K tb n b Q (.exit i)) := h
theorem aa {s : St} {hs : af} {b : Code} {Q : Ex -> T AV -> AHeap -> Prop} (h : End E s hs (Q .ret)) : End E s hs (Ev.K tb n b Q .ret) := h
theorem End.KB {s : St} {hs : af} {id : Nat} {Q : Ex -> T AV -> AHeap -> Prop} (h : End E s hs (Q .normal)) : End E s hs (KB id Q .normal) := h
theorem aq {s : St} {hs : af} {id : Nat} {Q : Ex -> T AV -> AHeap -> Prop} (h : End E s hs (Q .normal)) : End E s hs (Ev.KB id Q (.exit id)) := by
 intro tm hp ht hh
 show match Nat.beq id id with
  | true => Q .normal tm hp
  | false => Q (.exit id) tm hp
 rw [Nat.beq_refl]
 exact h tm hp ht hh
theorem bZ {s : St} {hs : af} {id i : Nat} {Q : Ex -> T AV -> AHeap -> Prop} (hb : Nat.beq i id = false) (h : End E s hs (Q (.exit i))) : End E s hs (Ev.KB id Q (.exit i)) := by
 intro tm hp ht hh
 show match Nat.beq i id with
  | true => Q .normal tm hp
  | false => Q (.exit i) tm hp
 rw [hb]
 exact h tm hp ht hh
theorem ae {s : St} {hs : af} {id : Nat} {Q : Ex -> T AV -> AHeap -> Prop} (h : End E s hs (Q .ret)) : End E s hs (Ev.KB id Q .ret) := h
theorem End.KL {s : St} {hs : af} {b : Code} {Q} (h : W tb n (.loop b) E s hs Q) : End E s hs (KL tb n b Q .normal) := h
theorem aL {s : St} {hs : af} {b : Code} {Q} {i : Nat} (h : End E s hs (Q (.exit i))) : End E s hs (Ev.KL tb n b Q (.exit i)) := h
theorem gh {s : St} {hs : af} {b : Code} {Q : Ex -> T AV -> AHeap -> Prop} (h : End E s hs (Q .ret)) : End E s hs (Ev.KL tb n b Q .ret) := h

theorem lY : Evt fun _ => True := Evt.of fun _ => trivial
theorem W.skip {s : St} {hs : af} {Q} (h : End E s hs (Q .normal)) : W tb n .skip E s hs Q :=
 fun tm hp ht hh => ⟨.normal, tm, hp, lY.step fun K _ => rfl, h tm hp ht hh⟩
theorem W.ret {s : St} {hs : af} {Q} (h : End E s hs (Q .ret)) : W tb n .ret E s hs Q :=
 fun tm hp ht hh => ⟨.ret, tm, hp, lY.step fun K _ => rfl, h tm hp ht hh⟩
theorem W.exit {s : St} {hs : af} {Q} {i : Nat} (h : End E s hs (Q (.exit i))) : W tb n (.exit i) E s hs Q :=
 fun tm hp ht hh => ⟨.exit i, tm, hp, lY.step fun K _ => rfl, h tm hp ht hh⟩
theorem W.seq {s : St} {hs : af} {Q} {a b : Code} (h : W tb n a E s hs (Ev.K tb n b Q)) : W tb n (.seq a b) E s hs Q := by
 intro tm hp ht hh
 obtain ⟨ex, tm1, h1, hE, hQ⟩ := h tm hp ht hh
 cases ex with
 | normal =>
  obtain ⟨ex, tm2, h2, hE2, hQ2⟩ := hQ
  refine ⟨ex, tm2, h2, (hE.and hE2).step fun K ⟨e1, e2⟩ => ?_, hQ2⟩
  rw [cg]
  unfold cX
  simp only [e1, e2]
 | exit i =>
  refine ⟨.exit i, tm1, h1, hE.step fun K e1 => ?_, hQ⟩
  rw [cg]
  unfold cX
  simp only [e1]
 | ret =>
  refine ⟨.ret, tm1, h1, hE.step fun K e1 => ?_, hQ⟩
  rw [cg]
  unfold cX
  simp only [e1]
theorem W.block {s : St} {hs : af} {Q} {id : Nat} {b : Code} (h : W tb n b E s hs (Ev.KB id Q)) : W tb n (.block id b) E s hs Q := by
 intro tm hp ht hh
 obtain ⟨ex, tm1, h1, hE, hQ⟩ := h tm hp ht hh
 cases ex with
 | normal =>
  refine ⟨.normal, tm1, h1, hE.step fun K e1 => ?_, hQ⟩
  rw [cg]
  unfold cX
  simp only [e1]
 | exit i =>
  cases hb : Nat.beq i id with
  | true =>
   have hQ : (match Nat.beq i id with
    | true => Q .normal tm1 h1
    | false => Q (.exit i) tm1 h1) := hQ
   rw [hb] at hQ
   refine ⟨.normal, tm1, h1, hE.step fun K e1 => ?_, hQ⟩
   rw [cg]
   unfold cX
   simp only [e1, hb]
  | false =>
   have hQ : (match Nat.beq i id with
    | true => Q .normal tm1 h1
    | false => Q (.exit i) tm1 h1) := hQ
   rw [hb] at hQ
   refine ⟨.exit i, tm1, h1, hE.step fun K e1 => ?_, hQ⟩
   rw [cg]
   unfold cX
   simp only [e1, hb]
 | ret =>
  refine ⟨.ret, tm1, h1, hE.step fun K e1 => ?_, hQ⟩
  rw [cg]
  unfold cX
  simp only [e1]
theorem W.loop {s : St} {hs : af} {Q} {b : Code} (h : W tb n b E s hs (Ev.KL tb n b Q)) : W tb n (.loop b) E s hs Q := by
 intro tm hp ht hh
 obtain ⟨ex, tm1, h1, hE, hQ⟩ := h tm hp ht hh
 cases ex with
 | normal =>
  obtain ⟨ex, tm2, h2, hE2, hQ2⟩ := hQ
  refine ⟨ex, tm2, h2, (hE.and hE2).step fun K ⟨e1, e2⟩ => ?_, hQ2⟩
  rw [cg]
  unfold cX
  simp only [e1, e2]
 | exit i =>
  refine ⟨.exit i, tm1, h1, hE.step fun K e1 => ?_, hQ⟩
  rw [cg]
  unfold cX
  simp only [e1]
 | ret =>
  refine ⟨.ret, tm1, h1, hE.step fun K e1 => ?_, hQ⟩
  rw [cg]
  unfold cX
  simp only [e1]
theorem tN {tm tm' : T AV} {h h' : AHeap} {ops : List Oper} (e : dE tb (ay (callE tb)) n ops ops tm h = some (tm', h')) {id : Nat} {a : Array Oper} (ha : a.toList = ops) {draw : Bool}
  (hd : draw = true -> gS ops = true /\ eO ops = true) : ∃ TM, SubT tm' TM /\ Evt fun K => run tb K n (.region id a draw) tm h = some (.normal, TM, h') := by
 obtain ⟨TM, h1, h2⟩ := jm (lK tb) (SubT.refl tm) e
 refine ⟨TM, h1, h2.step fun K hK => ?_⟩
 rw [cg]
 unfold cX
 subst ha
 cases draw with
 | false => simp only [hK]
 | true =>
  obtain ⟨d1, d2⟩ := hd rfl
  simp only [dG, d1, d2, hK]
theorem W.region {s : St} {hs : af} {Q} {id : Nat} {l : List Oper} {draw : Bool} (hd : draw = true -> gS l = true /\ eO l = true) (h : WO tb n l l E s hs (Q .normal)) :
  W tb n (.region id l.toArray draw) E s hs Q := by
 intro tm hp ht hh
 obtain ⟨tm1, h1, he, hR⟩ := h tm hp ht hh
 obtain ⟨TM, g1, g2⟩ := tN he (id := id) (a := l.toArray) (by simp) hd
 exact ⟨.normal, TM, h1, g2, hR TM g1⟩
theorem aF {s : St} {hs : af} {Q} {id : Nat} {l : List Oper} (h : WO tb n l l E s hs (Q .normal)) : W tb n (.region id l.toArray false) E s hs Q := W.region (fun h => by cases h) h
theorem lC {s : St} {hs : af} {Q} {id : Nat} {l : List Oper} (hd : (gS l && eO l) = true) (h : WO tb n l l E s hs (Q .normal)) : W tb n (.region id l.toArray true) E s hs Q :=
 W.region (fun _ => by simpa using hd) h

def oL (s : St) : Operand -> Option AV
 | .tmp t => lk s t
 | .const v => kW v
 | .func f => some (.func f [])
 | .global _ => none
theorem aW {tm : T AV} {s : St} (h : Has tm s) {x : Operand} {v : AV} (e : oL s x = some v) : aE tm x = some v := by
 cases x with
 | tmp t => exact h t v e
 | const c => exact e
 | func f => exact e
 | global g => cases e
def mY (s : St) : List Operand -> Option (List AV)
 | [] => some []
 | x :: l => match oL s x with
  | some a => match mY s l with
   | some m => some (a :: m)
   | none => none
  | none => none
theorem jt {tm : T AV} {s : St} (h : Has tm s) : ∀ {xs : List Operand} {vs : List AV}, mY s xs = some vs -> cf tm xs = some vs
 | [], vs, e => e
 | x :: xs, vs, e => by
  unfold mY at e
  split at e
  ·rename_i a ha
   split at e
   ·rename_i m hm
    unfold cf
    rw [aW h ha, jt h hm]
    exact e
   ·cases e
  ·cases e
theorem aX {s : St} {x : Operand} {xs : List Operand} {v : AV} {vs : List AV} (h : oL s x = some v) (g : mY s xs = some vs) : mY s (x :: xs) = some (v :: vs) := by
 unfold mY; rw [h, g]
theorem oz {s : St} : mY s [] = some [] := rfl

theorem W.cond {s : St} {hs : af} {Q} {x : Operand} {a b : Code} {p : Bool} (hx : oL s x = some (.bool p)) (ha : p = true -> W tb n a E s hs Q) (hb : p = false -> W tb n b E s hs Q) : W tb n (.cond x a b) E s hs Q := by
 intro tm hp ht hh
 have hv := aW ht hx
 cases p with
 | true =>
  obtain ⟨ex, tm1, h1, hE, hQ⟩ := ha rfl tm hp ht hh
  refine ⟨ex, tm1, h1, hE.step fun K e1 => ?_, hQ⟩
  rw [cg]
  unfold cX
  simp only [hv, e1]
 | false =>
  obtain ⟨ex, tm1, h1, hE, hQ⟩ := hb rfl tm hp ht hh
  refine ⟨ex, tm1, h1, hE.step fun K e1 => ?_, hQ⟩
  rw [cg]
  unfold cX
  simp only [hv, e1]
theorem ah {s : St} {hs : af} {Q} {x : Operand} {a b : Code} (hx : oL s x = some (.bool true)) (ha : W tb n a E s hs Q) : W tb n (.cond x a b) E s hs Q := W.cond hx (fun _ => ha) (fun h => by cases h)
theorem ad {s : St} {hs : af} {Q} {x : Operand} {a b : Code} (hx : oL s x = some (.bool false)) (hb : W tb n b E s hs Q) : W tb n (.cond x a b) E s hs Q := W.cond hx (fun h => by cases h) (fun _ => hb)

theorem W.sub {s s' : St} {hs : af} {Q} {c : Code} (h : SubS s' s) (g : W tb n c E s' hs Q) : W tb n c E s hs Q := fun tm hp ht hh => g tm hp (ht.sub h) hh
theorem End.sub {s s' : St} {hs : af} {R} (h : SubS s' s) (g : End E s' hs R) : End E s hs R := fun tm hp ht hh => g tm hp (ht.sub h) hh
theorem WO.sub {s s' : St} {hs : af} {R} {ops rest : List Oper} (h : SubS s' s) (g : WO tb n ops rest E s' hs R) : WO tb n ops rest E s hs R := fun tm hp ht hh => g tm hp (ht.sub h) hh
def SubH (hs' hs : af) : Prop := (∀ e ∈ hs', e ∈ hs) /\ ((hs.map (·.b)).Nodup -> (hs'.map (·.b)).Nodup)
theorem HS.sub {hs hs' : af} {h : AHeap} (g : SubH hs' hs) (hh : HS E hs h) : HS E hs' h := ⟨fun e he => hh.at_ e (g.1 e he), g.2 hh.nd, hh.fr⟩
theorem SubH.refl (hs : af) : SubH hs hs := ⟨fun _ h => h, id⟩
theorem SubH.nil (hs : af) : SubH [] hs := ⟨fun _ h => (by simp at h), fun _ => List.nodup_nil⟩
theorem SubH.of_sublist {hs' hs : af} (h : hs'.Sublist hs) : SubH hs' hs := ⟨fun e he => h.subset he, fun hn => hn.sublist (h.map _)⟩
theorem SubH.op {hs' hs : af} (h : hs'.Perm hs) : SubH hs' hs := ⟨fun e he => h.mem_iff.1 he, fun hn => ((h.map _).nodup_iff).2 hn⟩
theorem SubH.trans {a b c : af} (h : SubH a b) (g : SubH b c) : SubH a c := ⟨fun e he => g.1 e (h.1 e he), fun hn => h.2 (g.2 hn)⟩
theorem SubH.erase {hs : af} (i : Nat) : SubH (hs.eraseIdx i) hs := .of_sublist (List.eraseIdx_sublist _ _)
theorem gM {s : St} {hs hs' : af} {Q} {c : Code} (h : SubH hs' hs) (g : W tb n c E s hs' Q) : W tb n c E s hs Q := fun tm hp ht hh => g tm hp ht (hh.sub h)
theorem WO.subH {s : St} {hs hs' : af} {R} {ops rest : List Oper} (h : SubH hs' hs) (g : WO tb n ops rest E s hs' R) : WO tb n ops rest E s hs R := fun tm hp ht hh => g tm hp ht (hh.sub h)

theorem WO.nil {s : St} {hs : af} {R} {ops : List Oper} (h : End E s hs R) : WO tb n ops [] E s hs R :=
 fun tm hp ht hh => ⟨tm, hp, rfl, fun TM hT => h TM hp (ht.mono hT) hh⟩
theorem mV {tm tm1 : T AV} {h h1 : AHeap} {R} {ops rest : List Oper} {o : Oper} {v : AV} {k : Nat} (he : gJ tb (ay (callE tb)) ops tm h o = some (v, h1, k)) (hp : bw tm n o.dst v = some tm1)
  (hk : DD tb n ops rest tm1 h1 R) : DD tb n ops (o :: rest) tm h R := by
 obtain ⟨tm2, h2, e, hR⟩ := hk
 refine ⟨tm2, h2, ?_, hR⟩
 unfold dE
 simp only [he, hp, e]
def cT (hs : af) (h : AHeap) : Prop := ∀ e ∈ hs, h.objs.get e.b = some e.o
def QV (tb : Tab) (s : St) (hs : af) (op : Op) (v : AV) : Prop := ∀ tm h, Has tm s -> cT hs h -> ∀ call, cP tb call tm h op = .q (some v)
theorem HS.keep {hs : af} {h : AHeap} (hh : HS E hs h) : cT hs h := fun e he => (hh.at_ e he).1
theorem WO.q {s : St} {hs : af} {R} {ops rest : List Oper} {d : Nat} {op : Op} {ty : TypeId} {pos : String} {aft : Array Edge} {v : AV}
  (he : QV tb s hs op v) (hd : Nat.blt d n = true) (hk : WO tb n ops rest E ((d, v) :: s) hs R) :
  WO tb n ops (⟨some d, op, ty, pos, aft, none⟩ :: rest) E s hs R := by
 intro tm h ht hh
 refine mV (v := v) (k := 1) (h1 := h) (tm1 := tm.set d v) ?_ ?_ (hk _ _ (ht.set d v) hh)
 ·unfold gJ
  have : aJ ops tm ⟨some d, op, ty, pos, aft, none⟩ = some true := rfl
  rw [this]
  simp only [he tm h ht hh.keep]
 ·unfold bw
  simp only [hd]
theorem WO.l {s s' : St} {hs : af} {R} {ops rest : List Oper} {dst : Option Nat} {op : Op} {ty : TypeId} {pos : String} {aft : Array Edge}
  (hk : ∀ tm h, Has tm s -> HS E hs h -> ∃ v h' tm', cP tb (ay (callE tb)) tm h op = .l (some (v, h')) /\ bw tm n dst v = some tm' /\ DD tb n ops rest tm' h' R) :
  WO tb n ops (⟨dst, op, ty, pos, aft, none⟩ :: rest) E s hs R := by
 intro tm h ht hh
 obtain ⟨v, h', tm', h1, h2, h3⟩ := hk tm h ht hh
 refine mV (v := v) (k := 2) (h1 := h') (tm1 := tm') ?_ h2 h3
 unfold gJ
 have : aJ ops tm ⟨dst, op, ty, pos, aft, none⟩ = some true := rfl
 rw [this]
 simp only [h1]
theorem aT {tm : T AV} {d : Nat} {v : AV} (hd : Nat.blt d n = true) : bw tm n (some d) v = some (tm.set d v) := by
 unfold bw
 simp only [hd]

def jQ (ops : List Oper) (j : Nat) : Option Nat :=
 match ops[j]? with
 | some o => o.dst
 | none => none
theorem sx {s : St} {hs : af} {R} {ops rest : List Oper} {dst : Option Nat} {op : Op} {ty : TypeId} {pos : String} {aft : Array Edge} {j d : Nat} {w : Bool}
  (hj : jQ ops j = some d) (hl : lk s d = some (.bool w)) (hk : WO tb n ops (⟨dst, op, ty, pos, aft, none⟩ :: rest) E s hs R) : WO tb n ops (⟨dst, op, ty, pos, aft, some (j, w)⟩ :: rest) E s hs R := by
 intro tm h ht hh
 obtain ⟨tm2, h2, e, hR⟩ := hk tm h ht hh
 refine ⟨tm2, h2, ?_, hR⟩
 have hw : aJ ops tm ⟨dst, op, ty, pos, aft, some (j, w)⟩ = aJ ops tm ⟨dst, op, ty, pos, aft, none⟩ := by
  unfold aJ
  unfold jQ at hj
  split at hj
  ·rename_i o ho
   simp only [ho, hj, ht d _ hl, beq_self_eq_true]
  ·cases hj
 have h1 : gJ tb (ay (callE tb)) ops tm h ⟨dst, op, ty, pos, aft, some (j, w)⟩ = gJ tb (ay (callE tb)) ops tm h ⟨dst, op, ty, pos, aft, none⟩ := by
  unfold gJ
  rw [hw]
 unfold dE at e ⊢
 rw [h1]
 exact e
theorem dD {s : St} {hs : af} {R} {ops rest : List Oper} {d0 : Nat} {op : Op} {ty : TypeId} {pos : String} {aft : Array Edge} {j d : Nat} {w : Bool} {v : AV}
  (hj : jQ ops j = some d) (hl : lk s d = some v) (hv : v = .bool (!w) \/ v = .tuple []) (hd : Nat.blt d0 n = true) (hk : WO tb n ops rest E ((d0, .tuple []) :: s) hs R) :
  WO tb n ops (⟨some d0, op, ty, pos, aft, some (j, w)⟩ :: rest) E s hs R := by
 intro tm h ht hh
 refine mV (v := .tuple []) (k := 0) (h1 := h) (tm1 := tm.set d0 (.tuple [])) ?_ (aT hd) (hk _ _ (ht.set d0 _) hh)
 unfold gJ
 have : aJ ops tm ⟨some d0, op, ty, pos, aft, some (j, w)⟩ = some false := by
  unfold aJ
  unfold jQ at hj
  split at hj
  ·rename_i o ho
   rcases hv with rfl | rfl
   ·simp only [ho, hj, ht d _ hl]
    cases w <;> rfl
   ·simp only [ho, hj, ht d _ hl]
  ·cases hj
 rw [this]
theorem WO.split {s : St} {hs : af} {R} {ops rest : List Oper} {d : Nat} {p : Bool} (hl : lk s d = some (.bool p)) (ha : p = true -> WO tb n ops rest E ((d, .bool true) :: s) hs R)
  (hb : p = false -> WO tb n ops rest E ((d, .bool false) :: s) hs R) : WO tb n ops rest E s hs R := by
 intro tm h ht hh
 have hs' : Has tm ((d, .bool p) :: s) := by
  intro k x e
  unfold lk at e
  split at e
  ·rename_i hb
   have := Nat.eq_of_beq_eq_true hb
   subst this
   rw [<- e]
   exact ht _ _ hl
  ·exact ht _ _ e
 cases p with
 | true => exact ha rfl tm h hs' hh
 | false => exact hb rfl tm h hs' hh
end
end
end Go.Proofs.YtndhhgbpcmfeiaaGreatDoor.Ev
