/- Walks over the evaluator, part 1: states, and how code is gone through. -/
import Derived.Test.YtfkbfnpjggkdmaaGreatDoorOEvV
namespace Go.Proofs.YtfkbfnpjggkdmaaGreatDoor.Ev
open Go.RowKit
noncomputable section

def argsOf (l caps : List AV) : List AV := match isMeth caps with
 | none => l ++ caps
 | some x => x :: l
theorem evCallVal_eq {tm : T AV} {h : AHeap} {call : CallF} {f : Operand} {args : Array Operand} {g : Nat} {caps l : List AV} (hf : opnd tm f = some (.func g caps)) (hl : opnds tm args.toList = some l) : evCallVal tm h call f args = call g (argsOf l caps) h := by
 unfold evCallVal argsOf
 simp only [hf, hl]
 cases isMeth caps <;> rfl
def callE (tb : Tab) : CallQ := fun f a h =>
 match Classical.propDecidable (∃ p : AV × AHeap, Evt fun K => evCall tb (run tb K) f a h = some p) with
 | .isTrue hx => .ok (Classical.choose hx).1 (Classical.choose hx).2
 | .isFalse _ => .bad
theorem callE_ok (tb : Tab) : CallsOK tb (callE tb) := by
 intro f a h v h' e
 unfold callE at e
 split at e
 ·rename_i hx _
  simp only [VH.ok.injEq] at e
  have := Classical.choose_spec hx
  rw [← e.1, ← e.2]
  exact this
 ·cases e
theorem callE_eq {tb : Tab} {f : Nat} {a : List AV} {h : AHeap} {v : AV} {h' : AHeap} (e : Evt fun K => evCall tb (run tb K) f a h = some (v, h')) : callE tb f a h = .ok v h' := by
 unfold callE
 split
 ·rename_i hx _
  have hs := Classical.choose_spec hx
  obtain ⟨K, hK⟩ := e.and hs
  obtain ⟨h1, h2⟩ := hK K (Nat.le_refl K)
  rw [h1] at h2
  simp only [Option.some.injEq] at h2
  rw [← h2]
 ·rename_i hx _
  exact absurd ⟨(v, h'), e⟩ hx
theorem callOf_eq {tb : Tab} {f : Nat} {a : List AV} {h : AHeap} {v : AV} {h' : AHeap} (e : Evt fun K => evCall tb (run tb K) f a h = some (v, h')) : callOf (callE tb) f a h = some (v, h') := by
 unfold callOf
 rw [callE_eq e]
theorem SubT.refl (tm : T AV) : SubT tm tm := fun _ _ h => h
theorem SubT.trans {a b c : T AV} (h : SubT a b) (g : SubT b c) : SubT a c := fun k v e => g k v (h k v e)

abbrev St := List (Nat × AV)
def lk : St → Nat → Option AV
 | [], _ => none
 | (k, v) :: s, t => match Nat.beq k t with
  | true => some v
  | false => lk s t
def Has (tm : T AV) (s : St) : Prop := ∀ k v, lk s k = some v → tm.get k = some v
theorem Has.mono {tm TM : T AV} {s : St} (h : Has tm s) (g : SubT tm TM) : Has TM s := fun k v e => g k v (h k v e)
theorem Has.set {tm : T AV} {s : St} (h : Has tm s) (d : Nat) (v : AV) : Has (tm.set d v) ((d, v) :: s) := by
 intro k x e
 rw [T.get_set]
 unfold lk at e
 split at e
 ·rename_i hb
  have := Nat.eq_of_beq_eq_true hb
  rw [if_pos this.symm]; exact e
 ·rename_i hb
  have : ¬ k = d := by intro hk; subst hk; simp at hb
  rw [if_neg this]
  exact h k x e
def SubS (a b : St) : Prop := ∀ k v, lk a k = some v → lk b k = some v
theorem SubS.nil (b : St) : SubS [] b := fun k v h => by cases h
theorem SubS.cons {a b : St} {k : Nat} {v : AV} (h : lk b k = some v) (g : SubS a b) : SubS ((k, v) :: a) b := by
 intro j x e
 unfold lk at e
 split at e
 ·rename_i hb
  have := Nat.eq_of_beq_eq_true hb
  subst this
  rw [h]; exact e
 ·exact g j x e
theorem SubS.refl (a : St) : SubS a a := fun _ _ h => h
theorem Has.sub {tm : T AV} {a b : St} (h : Has tm b) (g : SubS a b) : Has tm a := fun k v e => h k v (g k v e)

structure HE where
 b : Nat
 o : AObj
 w : Bool
abbrev HSt := List HE
structure Env where
 h0 : AHeap
 S : List Nat
def Fr (S : List Nat) (h h' : AHeap) : Prop := h.next ≤ h'.next ∧ ∀ b, b < h.next → b ∉ S → h'.objs.get b = h.objs.get b
theorem Fr.refl (S : List Nat) (h : AHeap) : Fr S h h := ⟨Nat.le_refl _, fun _ _ _ => rfl⟩
structure HS (E : Env) (hs : HSt) (h : AHeap) : Prop where
 at_ : ∀ e ∈ hs, h.objs.get e.b = some e.o ∧ e.b < h.next ∧ (e.w = true → E.h0.next ≤ e.b ∨ e.b ∈ E.S)
 nd : (hs.map (·.b)).Nodup
 fr : Fr E.S E.h0 h

def wp1 (tb : Tab) (n : Nat) (c : Code) (tm : T AV) (h : AHeap) (Q : Ex → T AV → AHeap → Prop) : Prop :=
 ∃ ex tm' h', (Evt fun K => run tb K n c tm h = some (ex, tm', h')) ∧ Q ex tm' h'
def wpO (tb : Tab) (n : Nat) (ops rest : List Oper) (tm : T AV) (h : AHeap) (R : T AV → AHeap → Prop) : Prop :=
 ∃ tm' h', evOps tb (callOf (callE tb)) n ops rest tm h = some (tm', h') ∧ ∀ TM, SubT tm' TM → R TM h'

section
variable {tb : Tab} {n : Nat} {E : Env}

def W (tb : Tab) (n : Nat) (c : Code) (E : Env) (s : St) (hs : HSt) (Q : Ex → T AV → AHeap → Prop) : Prop := ∀ tm h, Has tm s → HS E hs h → wp1 tb n c tm h Q
def WO (tb : Tab) (n : Nat) (ops rest : List Oper) (E : Env) (s : St) (hs : HSt) (R : T AV → AHeap → Prop) : Prop := ∀ tm h, Has tm s → HS E hs h → wpO tb n ops rest tm h R
def End (E : Env) (s : St) (hs : HSt) (R : T AV → AHeap → Prop) : Prop := ∀ tm h, Has tm s → HS E hs h → R tm h

def K (tb : Tab) (n : Nat) (b : Code) (Q : Ex → T AV → AHeap → Prop) : Ex → T AV → AHeap → Prop
 | .normal, tm, h => wp1 tb n b tm h Q
 | .exit i, tm, h => Q (.exit i) tm h
 | .ret, tm, h => Q .ret tm h
def KB (id : Nat) (Q : Ex → T AV → AHeap → Prop) : Ex → T AV → AHeap → Prop
 | .normal, tm, h => Q .normal tm h
 | .exit i, tm, h => match Nat.beq i id with
  | true => Q .normal tm h
  | false => Q (.exit i) tm h
 | .ret, tm, h => Q .ret tm h
def KL (tb : Tab) (n : Nat) (b : Code) (Q : Ex → T AV → AHeap → Prop) : Ex → T AV → AHeap → Prop
 | .normal, tm, h => wp1 tb n (.loop b) tm h Q
 | .exit i, tm, h => Q (.exit i) tm h
 | .ret, tm, h => Q .ret tm h

theorem End.K {s : St} {hs : HSt} {b : Code} {Q} (h : W tb n b E s hs Q) : End E s hs (K tb n b Q .normal) := h
theorem End.Kx {s : St} {hs : HSt} {b : Code} {Q} {i : Nat} (h : End E s hs (Q (.exit i))) : End E s hs (Ev.K tb n b Q (.exit i)) := h
theorem End.Kr {s : St} {hs : HSt} {b : Code} {Q : Ex → T AV → AHeap → Prop} (h : End E s hs (Q .ret)) : End E s hs (Ev.K tb n b Q .ret) := h
theorem End.KB {s : St} {hs : HSt} {id : Nat} {Q : Ex → T AV → AHeap → Prop} (h : End E s hs (Q .normal)) : End E s hs (KB id Q .normal) := h
theorem End.Bh {s : St} {hs : HSt} {id : Nat} {Q : Ex → T AV → AHeap → Prop} (h : End E s hs (Q .normal)) : End E s hs (Ev.KB id Q (.exit id)) := by
 intro tm hp ht hh
 show match Nat.beq id id with
  | true => Q .normal tm hp
  | false => Q (.exit id) tm hp
 rw [Nat.beq_refl]
 exact h tm hp ht hh
theorem End.KB_miss {s : St} {hs : HSt} {id i : Nat} {Q : Ex → T AV → AHeap → Prop} (hb : Nat.beq i id = false) (h : End E s hs (Q (.exit i))) : End E s hs (Ev.KB id Q (.exit i)) := by
 intro tm hp ht hh
 show match Nat.beq i id with
  | true => Q .normal tm hp
  | false => Q (.exit i) tm hp
 rw [hb]
 exact h tm hp ht hh
theorem End.Br {s : St} {hs : HSt} {id : Nat} {Q : Ex → T AV → AHeap → Prop} (h : End E s hs (Q .ret)) : End E s hs (Ev.KB id Q .ret) := h
theorem End.KL {s : St} {hs : HSt} {b : Code} {Q} (h : W tb n (.loop b) E s hs Q) : End E s hs (KL tb n b Q .normal) := h
theorem End.Lx {s : St} {hs : HSt} {b : Code} {Q} {i : Nat} (h : End E s hs (Q (.exit i))) : End E s hs (Ev.KL tb n b Q (.exit i)) := h
theorem End.Lr {s : St} {hs : HSt} {b : Code} {Q : Ex → T AV → AHeap → Prop} (h : End E s hs (Q .ret)) : End E s hs (Ev.KL tb n b Q .ret) := h

theorem evt_true : Evt fun _ => True := Evt.of fun _ => trivial
theorem W.skip {s : St} {hs : HSt} {Q} (h : End E s hs (Q .normal)) : W tb n .skip E s hs Q :=
 fun tm hp ht hh => ⟨.normal, tm, hp, evt_true.step fun K _ => rfl, h tm hp ht hh⟩
theorem W.ret {s : St} {hs : HSt} {Q} (h : End E s hs (Q .ret)) : W tb n .ret E s hs Q :=
 fun tm hp ht hh => ⟨.ret, tm, hp, evt_true.step fun K _ => rfl, h tm hp ht hh⟩
theorem W.exit {s : St} {hs : HSt} {Q} {i : Nat} (h : End E s hs (Q (.exit i))) : W tb n (.exit i) E s hs Q :=
 fun tm hp ht hh => ⟨.exit i, tm, hp, evt_true.step fun K _ => rfl, h tm hp ht hh⟩
theorem W.seq {s : St} {hs : HSt} {Q} {a b : Code} (h : W tb n a E s hs (Ev.K tb n b Q)) : W tb n (.seq a b) E s hs Q := by
 intro tm hp ht hh
 obtain ⟨ex, tm1, h1, hE, hQ⟩ := h tm hp ht hh
 cases ex with
 | normal =>
  obtain ⟨ex, tm2, h2, hE2, hQ2⟩ := hQ
  refine ⟨ex, tm2, h2, (hE.and hE2).step fun K ⟨e1, e2⟩ => ?_, hQ2⟩
  rw [run_succ]
  unfold evCode
  simp only [e1, e2]
 | exit i =>
  refine ⟨.exit i, tm1, h1, hE.step fun K e1 => ?_, hQ⟩
  rw [run_succ]
  unfold evCode
  simp only [e1]
 | ret =>
  refine ⟨.ret, tm1, h1, hE.step fun K e1 => ?_, hQ⟩
  rw [run_succ]
  unfold evCode
  simp only [e1]
theorem W.block {s : St} {hs : HSt} {Q} {id : Nat} {b : Code} (h : W tb n b E s hs (Ev.KB id Q)) : W tb n (.block id b) E s hs Q := by
 intro tm hp ht hh
 obtain ⟨ex, tm1, h1, hE, hQ⟩ := h tm hp ht hh
 cases ex with
 | normal =>
  refine ⟨.normal, tm1, h1, hE.step fun K e1 => ?_, hQ⟩
  rw [run_succ]
  unfold evCode
  simp only [e1]
 | exit i =>
  cases hb : Nat.beq i id with
  | true =>
   have hQ : (match Nat.beq i id with
    | true => Q .normal tm1 h1
    | false => Q (.exit i) tm1 h1) := hQ
   rw [hb] at hQ
   refine ⟨.normal, tm1, h1, hE.step fun K e1 => ?_, hQ⟩
   rw [run_succ]
   unfold evCode
   simp only [e1, hb]
  | false =>
   have hQ : (match Nat.beq i id with
    | true => Q .normal tm1 h1
    | false => Q (.exit i) tm1 h1) := hQ
   rw [hb] at hQ
   refine ⟨.exit i, tm1, h1, hE.step fun K e1 => ?_, hQ⟩
   rw [run_succ]
   unfold evCode
   simp only [e1, hb]
 | ret =>
  refine ⟨.ret, tm1, h1, hE.step fun K e1 => ?_, hQ⟩
  rw [run_succ]
  unfold evCode
  simp only [e1]
theorem W.loop {s : St} {hs : HSt} {Q} {b : Code} (h : W tb n b E s hs (Ev.KL tb n b Q)) : W tb n (.loop b) E s hs Q := by
 intro tm hp ht hh
 obtain ⟨ex, tm1, h1, hE, hQ⟩ := h tm hp ht hh
 cases ex with
 | normal =>
  obtain ⟨ex, tm2, h2, hE2, hQ2⟩ := hQ
  refine ⟨ex, tm2, h2, (hE.and hE2).step fun K ⟨e1, e2⟩ => ?_, hQ2⟩
  rw [run_succ]
  unfold evCode
  simp only [e1, e2]
 | exit i =>
  refine ⟨.exit i, tm1, h1, hE.step fun K e1 => ?_, hQ⟩
  rw [run_succ]
  unfold evCode
  simp only [e1]
 | ret =>
  refine ⟨.ret, tm1, h1, hE.step fun K e1 => ?_, hQ⟩
  rw [run_succ]
  unfold evCode
  simp only [e1]
theorem evOps_reg {tm tm' : T AV} {h h' : AHeap} {ops : List Oper} (e : evOps tb (callOf (callE tb)) n ops ops tm h = some (tm', h')) {id : Nat} {a : Array Oper} (ha : a.toList = ops) {draw : Bool}
  (hd : draw = true → drawOk ops = true ∧ drawFree ops = true) : ∃ TM, SubT tm' TM ∧ Evt fun K => run tb K n (.region id a draw) tm h = some (.normal, TM, h') := by
 obtain ⟨TM, h1, h2⟩ := evOps_mono (callE_ok tb) (SubT.refl tm) e
 refine ⟨TM, h1, h2.step fun K hK => ?_⟩
 rw [run_succ]
 unfold evCode
 subst ha
 cases draw with
 | false => simp only [hK]
 | true =>
  obtain ⟨d1, d2⟩ := hd rfl
  simp only [evDraw, d1, d2, hK]
theorem W.region {s : St} {hs : HSt} {Q} {id : Nat} {l : List Oper} {draw : Bool} (hd : draw = true → drawOk l = true ∧ drawFree l = true) (h : WO tb n l l E s hs (Q .normal)) :
  W tb n (.region id l.toArray draw) E s hs Q := by
 intro tm hp ht hh
 obtain ⟨tm1, h1, he, hR⟩ := h tm hp ht hh
 obtain ⟨TM, g1, g2⟩ := evOps_reg he (id := id) (a := l.toArray) (by simp) hd
 exact ⟨.normal, TM, h1, g2, hR TM g1⟩
theorem W.reg {s : St} {hs : HSt} {Q} {id : Nat} {l : List Oper} (h : WO tb n l l E s hs (Q .normal)) : W tb n (.region id l.toArray false) E s hs Q := W.region (fun h => by cases h) h
theorem W.regT {s : St} {hs : HSt} {Q} {id : Nat} {l : List Oper} (hd : (drawOk l && drawFree l) = true) (h : WO tb n l l E s hs (Q .normal)) : W tb n (.region id l.toArray true) E s hs Q :=
 W.region (fun _ => by simpa using hd) h

def oL (s : St) : Operand → Option AV
 | .tmp t => lk s t
 | .const v => ofVal v
 | .func f => some (.func f [])
 | .global _ => none
theorem oL_ok {tm : T AV} {s : St} (h : Has tm s) {x : Operand} {v : AV} (e : oL s x = some v) : opnd tm x = some v := by
 cases x with
 | tmp t => exact h t v e
 | const c => exact e
 | func f => exact e
 | global g => cases e
def oLs (s : St) : List Operand → Option (List AV)
 | [] => some []
 | x :: l => match oL s x with
  | some a => match oLs s l with
   | some m => some (a :: m)
   | none => none
  | none => none
theorem oLs_ok {tm : T AV} {s : St} (h : Has tm s) : ∀ {xs : List Operand} {vs : List AV}, oLs s xs = some vs → opnds tm xs = some vs
 | [], vs, e => e
 | x :: xs, vs, e => by
  unfold oLs at e
  split at e
  ·rename_i a ha
   split at e
   ·rename_i m hm
    unfold opnds
    rw [oL_ok h ha, oLs_ok h hm]
    exact e
   ·cases e
  ·cases e
theorem oLc {s : St} {x : Operand} {xs : List Operand} {v : AV} {vs : List AV} (h : oL s x = some v) (g : oLs s xs = some vs) : oLs s (x :: xs) = some (v :: vs) := by
 unfold oLs; rw [h, g]
theorem oz {s : St} : oLs s [] = some [] := rfl

theorem W.cond {s : St} {hs : HSt} {Q} {x : Operand} {a b : Code} {p : Bool} (hx : oL s x = some (.bool p)) (ha : p = true → W tb n a E s hs Q) (hb : p = false → W tb n b E s hs Q) : W tb n (.cond x a b) E s hs Q := by
 intro tm hp ht hh
 have hv := oL_ok ht hx
 cases p with
 | true =>
  obtain ⟨ex, tm1, h1, hE, hQ⟩ := ha rfl tm hp ht hh
  refine ⟨ex, tm1, h1, hE.step fun K e1 => ?_, hQ⟩
  rw [run_succ]
  unfold evCode
  simp only [hv, e1]
 | false =>
  obtain ⟨ex, tm1, h1, hE, hQ⟩ := hb rfl tm hp ht hh
  refine ⟨ex, tm1, h1, hE.step fun K e1 => ?_, hQ⟩
  rw [run_succ]
  unfold evCode
  simp only [hv, e1]
theorem W.condT {s : St} {hs : HSt} {Q} {x : Operand} {a b : Code} (hx : oL s x = some (.bool true)) (ha : W tb n a E s hs Q) : W tb n (.cond x a b) E s hs Q := W.cond hx (fun _ => ha) (fun h => by cases h)
theorem W.condF {s : St} {hs : HSt} {Q} {x : Operand} {a b : Code} (hx : oL s x = some (.bool false)) (hb : W tb n b E s hs Q) : W tb n (.cond x a b) E s hs Q := W.cond hx (fun h => by cases h) (fun _ => hb)

theorem W.sub {s s' : St} {hs : HSt} {Q} {c : Code} (h : SubS s' s) (g : W tb n c E s' hs Q) : W tb n c E s hs Q := fun tm hp ht hh => g tm hp (ht.sub h) hh
theorem End.sub {s s' : St} {hs : HSt} {R} (h : SubS s' s) (g : End E s' hs R) : End E s hs R := fun tm hp ht hh => g tm hp (ht.sub h) hh
theorem WO.sub {s s' : St} {hs : HSt} {R} {ops rest : List Oper} (h : SubS s' s) (g : WO tb n ops rest E s' hs R) : WO tb n ops rest E s hs R := fun tm hp ht hh => g tm hp (ht.sub h) hh
def SubH (hs' hs : HSt) : Prop := (∀ e ∈ hs', e ∈ hs) ∧ ((hs.map (·.b)).Nodup → (hs'.map (·.b)).Nodup)
theorem HS.sub {hs hs' : HSt} {h : AHeap} (g : SubH hs' hs) (hh : HS E hs h) : HS E hs' h := ⟨fun e he => hh.at_ e (g.1 e he), g.2 hh.nd, hh.fr⟩
theorem SubH.refl (hs : HSt) : SubH hs hs := ⟨fun _ h => h, id⟩
theorem SubH.nil (hs : HSt) : SubH [] hs := ⟨fun _ h => (by simp at h), fun _ => List.nodup_nil⟩
theorem SubH.of_sublist {hs' hs : HSt} (h : hs'.Sublist hs) : SubH hs' hs := ⟨fun e he => h.subset he, fun hn => hn.sublist (h.map _)⟩
theorem SubH.op {hs' hs : HSt} (h : hs'.Perm hs) : SubH hs' hs := ⟨fun e he => h.mem_iff.1 he, fun hn => ((h.map _).nodup_iff).2 hn⟩
theorem SubH.trans {a b c : HSt} (h : SubH a b) (g : SubH b c) : SubH a c := ⟨fun e he => g.1 e (h.1 e he), fun hn => h.2 (g.2 hn)⟩
theorem SubH.erase {hs : HSt} (i : Nat) : SubH (hs.eraseIdx i) hs := .of_sublist (List.eraseIdx_sublist _ _)
theorem W.sH {s : St} {hs hs' : HSt} {Q} {c : Code} (h : SubH hs' hs) (g : W tb n c E s hs' Q) : W tb n c E s hs Q := fun tm hp ht hh => g tm hp ht (hh.sub h)
theorem WO.subH {s : St} {hs hs' : HSt} {R} {ops rest : List Oper} (h : SubH hs' hs) (g : WO tb n ops rest E s hs' R) : WO tb n ops rest E s hs R := fun tm hp ht hh => g tm hp ht (hh.sub h)

theorem WO.nil {s : St} {hs : HSt} {R} {ops : List Oper} (h : End E s hs R) : WO tb n ops [] E s hs R :=
 fun tm hp ht hh => ⟨tm, hp, rfl, fun TM hT => h TM hp (ht.mono hT) hh⟩
theorem wpO_step {tm tm1 : T AV} {h h1 : AHeap} {R} {ops rest : List Oper} {o : Oper} {v : AV} {k : Nat} (he : ev1 tb (callOf (callE tb)) ops tm h o = some (v, h1, k)) (hp : putDst tm n o.dst v = some tm1)
  (hk : wpO tb n ops rest tm1 h1 R) : wpO tb n ops (o :: rest) tm h R := by
 obtain ⟨tm2, h2, e, hR⟩ := hk
 refine ⟨tm2, h2, ?_, hR⟩
 unfold evOps
 simp only [he, hp, e]
def KeepIn (hs : HSt) (h : AHeap) : Prop := ∀ e ∈ hs, h.objs.get e.b = some e.o
def QV (tb : Tab) (s : St) (hs : HSt) (op : Op) (v : AV) : Prop := ∀ tm h, Has tm s → KeepIn hs h → ∀ call, evOp tb call tm h op = .q (some v)
theorem HS.keep {hs : HSt} {h : AHeap} (hh : HS E hs h) : KeepIn hs h := fun e he => (hh.at_ e he).1
theorem WO.q {s : St} {hs : HSt} {R} {ops rest : List Oper} {d : Nat} {op : Op} {ty : TypeId} {pos : String} {aft : Array Edge} {v : AV}
  (he : QV tb s hs op v) (hd : Nat.blt d n = true) (hk : WO tb n ops rest E ((d, v) :: s) hs R) :
  WO tb n ops (⟨some d, op, ty, pos, aft, none⟩ :: rest) E s hs R := by
 intro tm h ht hh
 refine wpO_step (v := v) (k := 1) (h1 := h) (tm1 := tm.set d v) ?_ ?_ (hk _ _ (ht.set d v) hh)
 ·unfold ev1
  have : wantedA ops tm ⟨some d, op, ty, pos, aft, none⟩ = some true := rfl
  rw [this]
  simp only [he tm h ht hh.keep]
 ·unfold putDst
  simp only [hd]
theorem WO.l {s s' : St} {hs : HSt} {R} {ops rest : List Oper} {dst : Option Nat} {op : Op} {ty : TypeId} {pos : String} {aft : Array Edge}
  (hk : ∀ tm h, Has tm s → HS E hs h → ∃ v h' tm', evOp tb (callOf (callE tb)) tm h op = .l (some (v, h')) ∧ putDst tm n dst v = some tm' ∧ wpO tb n ops rest tm' h' R) :
  WO tb n ops (⟨dst, op, ty, pos, aft, none⟩ :: rest) E s hs R := by
 intro tm h ht hh
 obtain ⟨v, h', tm', h1, h2, h3⟩ := hk tm h ht hh
 refine wpO_step (v := v) (k := 2) (h1 := h') (tm1 := tm') ?_ h2 h3
 unfold ev1
 have : wantedA ops tm ⟨dst, op, ty, pos, aft, none⟩ = some true := rfl
 rw [this]
 simp only [h1]
theorem putDst_at {tm : T AV} {d : Nat} {v : AV} (hd : Nat.blt d n = true) : putDst tm n (some d) v = some (tm.set d v) := by
 unfold putDst
 simp only [hd]

def gSlot (ops : List Oper) (j : Nat) : Option Nat :=
 match ops[j]? with
 | some o => o.dst
 | none => none
theorem WO.gT {s : St} {hs : HSt} {R} {ops rest : List Oper} {dst : Option Nat} {op : Op} {ty : TypeId} {pos : String} {aft : Array Edge} {j d : Nat} {w : Bool}
  (hj : gSlot ops j = some d) (hl : lk s d = some (.bool w)) (hk : WO tb n ops (⟨dst, op, ty, pos, aft, none⟩ :: rest) E s hs R) : WO tb n ops (⟨dst, op, ty, pos, aft, some (j, w)⟩ :: rest) E s hs R := by
 intro tm h ht hh
 obtain ⟨tm2, h2, e, hR⟩ := hk tm h ht hh
 refine ⟨tm2, h2, ?_, hR⟩
 have hw : wantedA ops tm ⟨dst, op, ty, pos, aft, some (j, w)⟩ = wantedA ops tm ⟨dst, op, ty, pos, aft, none⟩ := by
  unfold wantedA
  unfold gSlot at hj
  split at hj
  ·rename_i o ho
   simp only [ho, hj, ht d _ hl, beq_self_eq_true]
  ·cases hj
 have h1 : ev1 tb (callOf (callE tb)) ops tm h ⟨dst, op, ty, pos, aft, some (j, w)⟩ = ev1 tb (callOf (callE tb)) ops tm h ⟨dst, op, ty, pos, aft, none⟩ := by
  unfold ev1
  rw [hw]
 unfold evOps at e ⊢
 rw [h1]
 exact e
theorem WO.gF {s : St} {hs : HSt} {R} {ops rest : List Oper} {d0 : Nat} {op : Op} {ty : TypeId} {pos : String} {aft : Array Edge} {j d : Nat} {w : Bool} {v : AV}
  (hj : gSlot ops j = some d) (hl : lk s d = some v) (hv : v = .bool (!w) ∨ v = .tuple []) (hd : Nat.blt d0 n = true) (hk : WO tb n ops rest E ((d0, .tuple []) :: s) hs R) :
  WO tb n ops (⟨some d0, op, ty, pos, aft, some (j, w)⟩ :: rest) E s hs R := by
 intro tm h ht hh
 refine wpO_step (v := .tuple []) (k := 0) (h1 := h) (tm1 := tm.set d0 (.tuple [])) ?_ (putDst_at hd) (hk _ _ (ht.set d0 _) hh)
 unfold ev1
 have : wantedA ops tm ⟨some d0, op, ty, pos, aft, some (j, w)⟩ = some false := by
  unfold wantedA
  unfold gSlot at hj
  split at hj
  ·rename_i o ho
   rcases hv with rfl | rfl
   ·simp only [ho, hj, ht d _ hl]
    cases w <;> rfl
   ·simp only [ho, hj, ht d _ hl]
  ·cases hj
 rw [this]
theorem WO.split {s : St} {hs : HSt} {R} {ops rest : List Oper} {d : Nat} {p : Bool} (hl : lk s d = some (.bool p)) (ha : p = true → WO tb n ops rest E ((d, .bool true) :: s) hs R)
  (hb : p = false → WO tb n ops rest E ((d, .bool false) :: s) hs R) : WO tb n ops rest E s hs R := by
 intro tm h ht hh
 have hs' : Has tm ((d, .bool p) :: s) := by
  intro k x e
  unfold lk at e
  split at e
  ·rename_i hb
   have := Nat.eq_of_beq_eq_true hb
   subst this
   rw [← e]
   exact ht _ _ hl
  ·exact ht _ _ e
 cases p with
 | true => exact ha rfl tm h hs' hh
 | false => exact hb rfl tm h hs' hh
end
end
end Go.Proofs.YtfkbfnpjggkdmaaGreatDoor.Ev
