/- Walks over the evaluator in which errors are thrown, part 2: code, calls that throw, functions. -/
import Derived.Test.YtfkbfnpjggkdmaaGreatDoorCExE
import Derived.Test.YtfkbfnpjggkdmaaGreatDoorCExA
import Derived.Test.YtfkbfnpjggkdmaaGreatDoorProg
namespace Go.Proofs.YtfkbfnpjggkdmaaGreatDoor.Ev
open Go.RowKit
noncomputable section
abbrev HP := Option (Nat × List AV)
def HU (cfg : XCfg) (tb : Tab) (n : Nat) (c : Code) (tm : T AV) (h : AHeap) (d : HP) (Q : RRes -> Prop) : Prop := ∃ r, (Evt fun K => eV cfg tb K n c tm h d = some r) /\ Q r
section
variable {cfg : XCfg} {tb : Tab} {n : Nat} {E : Env}
def X (cfg : XCfg) (tb : Tab) (n : Nat) (c : Code) (E : Env) (s : St) (hs : af) (d : HP) (Q : RRes -> Prop) : Prop := ∀ tm h, Has tm s -> HS E hs h -> HU cfg tb n c tm h d Q
def XO (cfg : XCfg) (tb : Tab) (n : Nat) (ops rest : List Oper) (E : Env) (s : St) (hs : af) (d : HP) (Q : RRes -> Prop) : Prop :=
 End E s hs fun tm h => ∃ r, (Evt fun K => eH cfg tb (cj cfg tb (eV cfg tb K)) n ops rest tm h d = some r) /\ Q r
def KX (cfg : XCfg) (tb : Tab) (n : Nat) (b : Code) (Q : RRes -> Prop) : RRes -> Prop
 | .go .normal tm h d => HU cfg tb n b tm h d Q
 | .go (.exit i) tm h d => Q (.go (.exit i) tm h d)
 | .go .ret tm h d => Q (.go .ret tm h d)
 | .boom l tm h d => Q (.boom l tm h d)
def JF (id : Nat) (Q : RRes -> Prop) : RRes -> Prop
 | .go .normal tm h d => Q (.go .normal tm h d)
 | .go (.exit i) tm h d => match Nat.beq i id with
  | true => Q (.go .normal tm h d)
  | false => Q (.go (.exit i) tm h d)
 | .go .ret tm h d => Q (.go .ret tm h d)
 | .boom l tm h d => Q (.boom l tm h d)
def FP (cfg : XCfg) (tb : Tab) (n : Nat) (b : Code) (Q : RRes -> Prop) : RRes -> Prop
 | .go .normal tm h d => HU cfg tb n (.loop b) tm h d Q
 | .go (.exit i) tm h d => Q (.go (.exit i) tm h d)
 | .go .ret tm h d => Q (.go .ret tm h d)
 | .boom l tm h d => Q (.boom l tm h d)
variable {s : St} {hs : af} {d : HP} {Q : RRes -> Prop} {a b : Code} {id i : Nat}
theorem XEnd.K (h : X cfg tb n b E s hs d Q) : End E s hs (fun tm h => KX cfg tb n b Q (.go .normal tm h d)) := h
theorem bF (h : End E s hs fun tm h => Q (.go (.exit i) tm h d)) : End E s hs (fun tm h => KX cfg tb n b Q (.go (.exit i) tm h d)) := h
theorem eA (h : End E s hs fun tm h => Q (.go .ret tm h d)) : End E s hs (fun tm h => KX cfg tb n b Q (.go .ret tm h d)) := h
theorem XEnd.KB (h : End E s hs fun tm h => Q (.go .normal tm h d)) : End E s hs (fun tm h => JF id Q (.go .normal tm h d)) := h
theorem bJ (h : End E s hs fun tm h => Q (.go .normal tm h d)) : End E s hs (fun tm h => JF id Q (.go (.exit id) tm h d)) := by
 intro tm hp ht hh
 show match Nat.beq id id with
  | true => Q (.go .normal tm hp d)
  | false => Q (.go (.exit id) tm hp d)
 rw [Nat.beq_refl]
 exact h tm hp ht hh
theorem XEnd.KB_miss (hb : Nat.beq i id = false) (h : End E s hs fun tm h => Q (.go (.exit i) tm h d)) : End E s hs (fun tm h => JF id Q (.go (.exit i) tm h d)) := by
 intro tm hp ht hh
 show match Nat.beq i id with
  | true => Q (.go .normal tm hp d)
  | false => Q (.go (.exit i) tm hp d)
 rw [hb]
 exact h tm hp ht hh
theorem XEnd.KL (h : X cfg tb n (.loop b) E s hs d Q) : End E s hs (fun tm h => FP cfg tb n b Q (.go .normal tm h d)) := h
theorem bD (h : End E s hs fun tm h => Q (.go (.exit i) tm h d)) : End E s hs (fun tm h => FP cfg tb n b Q (.go (.exit i) tm h d)) := h
theorem X.skip (h : End E s hs fun tm h => Q (.go .normal tm h d)) : X cfg tb n .skip E s hs d Q := fun tm hp ht hh => ⟨_, i3.step fun K _ => rfl, h tm hp ht hh⟩
theorem X.ret (h : End E s hs fun tm h => Q (.go .ret tm h d)) : X cfg tb n .ret E s hs d Q := fun tm hp ht hh => ⟨_, i3.step fun K _ => rfl, h tm hp ht hh⟩
theorem X.exit (h : End E s hs fun tm h => Q (.go (.exit i) tm h d)) : X cfg tb n (.exit i) E s hs d Q := fun tm hp ht hh => ⟨_, i3.step fun K _ => rfl, h tm hp ht hh⟩
theorem X.seq (h : X cfg tb n a E s hs d (KX cfg tb n b Q)) : X cfg tb n (.seq a b) E s hs d Q := by
 intro tm hp ht hh
 obtain ⟨r, hE, hQ⟩ := h tm hp ht hh
 have pass : ∀ r, (Evt fun K => eV cfg tb K n a tm hp d = some r) -> (∀ t g e, r ≠ .go .normal t g e) -> Q r -> HU cfg tb n (.seq a b) tm hp d Q := by
  intro r hE hne hQ
  refine ⟨r, hE.step fun K e1 => ?_, hQ⟩
  rw [dM]
  unfold cT
  simp only [e1]
  cases r with
  | boom l t g e => rfl
  | go ex t g e =>
   cases ex with
   | normal => exact absurd rfl (hne _ _ _)
   | exit i => rfl
   | ret => rfl
 cases r with
 | boom l t g e => exact pass _ hE (fun _ _ _ h => by cases h) hQ
 | go ex t g e =>
  cases ex with
  | normal =>
   obtain ⟨r2, hE2, hQ2⟩ := hQ
   refine ⟨r2, (hE.and hE2).step fun K ⟨e1, e2⟩ => ?_, hQ2⟩
   rw [dM]
   unfold cT
   simp only [e1, e2]
  | exit i => exact pass _ hE (fun _ _ _ h => by cases h) hQ
  | ret => exact pass _ hE (fun _ _ _ h => by cases h) hQ
theorem X.block (h : X cfg tb n b E s hs d (JF id Q)) : X cfg tb n (.block id b) E s hs d Q := by
 intro tm hp ht hh
 obtain ⟨r, hE, hQ⟩ := h tm hp ht hh
 have pass : ∀ r, (Evt fun K => eV cfg tb K n b tm hp d = some r) -> (∀ i t g e, r ≠ .go (.exit i) t g e) -> Q r -> HU cfg tb n (.block id b) tm hp d Q := by
  intro r hE hne hQ
  refine ⟨r, hE.step fun K e1 => ?_, hQ⟩
  rw [dM]
  unfold cT
  simp only [e1]
  cases r with
  | boom l t g e => rfl
  | go ex t g e =>
   cases ex with
   | normal => rfl
   | exit i => exact absurd rfl (hne _ _ _ _)
   | ret => rfl
 cases r with
 | boom l t g e => exact pass _ hE (fun _ _ _ _ h => by cases h) hQ
 | go ex t g e =>
  cases ex with
  | normal => exact pass _ hE (fun _ _ _ _ h => by cases h) hQ
  | ret => exact pass _ hE (fun _ _ _ _ h => by cases h) hQ
  | exit i =>
   have hQ : (match Nat.beq i id with
    | true => Q (.go .normal t g e)
    | false => Q (.go (.exit i) t g e)) := hQ
   cases hb : Nat.beq i id with
   | true =>
    rw [hb] at hQ
    refine ⟨.go .normal t g e, hE.step fun K e1 => ?_, hQ⟩
    rw [dM]
    unfold cT
    simp only [e1, hb]
   | false =>
    rw [hb] at hQ
    refine ⟨.go (.exit i) t g e, hE.step fun K e1 => ?_, hQ⟩
    rw [dM]
    unfold cT
    simp only [e1, hb]
theorem X.loop (h : X cfg tb n b E s hs d (FP cfg tb n b Q)) : X cfg tb n (.loop b) E s hs d Q := by
 intro tm hp ht hh
 obtain ⟨r, hE, hQ⟩ := h tm hp ht hh
 have pass : ∀ r, (Evt fun K => eV cfg tb K n b tm hp d = some r) -> (∀ t g e, r ≠ .go .normal t g e) -> Q r -> HU cfg tb n (.loop b) tm hp d Q := by
  intro r hE hne hQ
  refine ⟨r, hE.step fun K e1 => ?_, hQ⟩
  rw [dM]
  unfold cT
  simp only [e1]
  cases r with
  | boom l t g e => rfl
  | go ex t g e =>
   cases ex with
   | normal => exact absurd rfl (hne _ _ _)
   | exit i => rfl
   | ret => rfl
 cases r with
 | boom l t g e => exact pass _ hE (fun _ _ _ h => by cases h) hQ
 | go ex t g e =>
  cases ex with
  | normal =>
   obtain ⟨r2, hE2, hQ2⟩ := hQ
   refine ⟨r2, (hE.and hE2).step fun K ⟨e1, e2⟩ => ?_, hQ2⟩
   rw [dM]
   unfold cT
   simp only [e1, e2]
  | exit i => exact pass _ hE (fun _ _ _ h => by cases h) hQ
  | ret => exact pass _ hE (fun _ _ _ h => by cases h) hQ
theorem X.cond {x : Operand} {p : Bool} (hx : oL s x = some (.bool p)) (ha : p = true -> X cfg tb n a E s hs d Q) (hb : p = false -> X cfg tb n b E s hs d Q) : X cfg tb n (.cond x a b) E s hs d Q := by
 intro tm hp ht hh
 have hv := aR ht hx
 cases p with
 | true =>
  obtain ⟨r, hE, hQ⟩ := ha rfl tm hp ht hh
  refine ⟨r, hE.step fun K e1 => ?_, hQ⟩
  rw [dM]
  unfold cT
  simp only [hv, e1]
 | false =>
  obtain ⟨r, hE, hQ⟩ := hb rfl tm hp ht hh
  refine ⟨r, hE.step fun K e1 => ?_, hQ⟩
  rw [dM]
  unfold cT
  simp only [hv, e1]
theorem X.condT {x : Operand} (hx : oL s x = some (.bool true)) (ha : X cfg tb n a E s hs d Q) : X cfg tb n (.cond x a b) E s hs d Q := X.cond hx (fun _ => ha) (fun h => by cases h)
theorem X.condF {x : Operand} (hx : oL s x = some (.bool false)) (hb : X cfg tb n b E s hs d Q) : X cfg tb n (.cond x a b) E s hs d Q := X.cond hx (fun h => by cases h) (fun _ => hb)
theorem X.condS {k : Nat} {p : Bool} (hx : lk s k = some (.bool p)) (ha : p = true -> X cfg tb n a E ((k, .bool true) :: s) hs d Q) (hb : p = false -> X cfg tb n b E ((k, .bool false) :: s) hs d Q) : X cfg tb n (.cond (.tmp k) a b) E s hs d Q :=
 X.cond (x := .tmp k) hx (fun h tm hp ht hh => ha h tm hp (ht.lit (by rw [hx, h])) hh) (fun h tm hp ht hh => hb h tm hp (ht.lit (by rw [hx, h])) hh)
theorem X.condDS {k : Nat} {P : Prop} [Decidable P] (hx : lk s k = some (.bool (decide P))) (ha : P -> X cfg tb n a E ((k, .bool true) :: s) hs d Q) (hb : ¬ P -> X cfg tb n b E ((k, .bool false) :: s) hs d Q) : X cfg tb n (.cond (.tmp k) a b) E s hs d Q :=
 X.condS hx (fun h => ha (of_decide_eq_true h)) (fun h => hb (of_decide_eq_false h))
theorem X.sub {s' : St} (h : SubS s' s) (g : X cfg tb n a E s' hs d Q) : X cfg tb n a E s hs d Q := fun tm hp ht hh => g tm hp (ht.sub h) hh
theorem X.subH {hs' : af} (h : SubH hs' hs) (g : X cfg tb n a E s hs' d Q) : X cfg tb n a E s hs d Q := fun tm hp ht hh => g tm hp ht (hh.sub h)
theorem X.w [Shy cfg tb] (h : W tb n a E s hs (fun ex tm hp => Q (.go ex tm hp d))) : X cfg tb n a E s hs d Q := by
 intro tm hp ht hh
 obtain ⟨ex, t, g, hE, hQ⟩ := h tm hp ht hh
 exact ⟨_, hE.mono fun K e => CN K _ _ _ _ _ _ _ d e, hQ⟩
theorem X.reg {l : List Oper} (h : XO cfg tb n l l E s hs d Q) : X cfg tb n (.region id l.toArray false) E s hs d Q := by
 intro tm hp ht hh
 obtain ⟨r, hE, hQ⟩ := h tm hp ht hh
 refine ⟨r, hE.step fun K e => ?_, hQ⟩
 rw [dM]
 unfold cT
 exact e
theorem XO.nil {ops : List Oper} (h : End E s hs fun tm h => Q (.go .normal tm h d)) : XO cfg tb n ops [] E s hs d Q := fun tm hp ht hh => ⟨_, Evt.of fun K => rfl, h tm hp ht hh⟩
theorem XO.sub {ops rest : List Oper} {s' : St} (h : SubS s' s) (g : XO cfg tb n ops rest E s' hs d Q) : XO cfg tb n ops rest E s hs d Q := fun tm hp ht hh => g tm hp (ht.sub h) hh
theorem XO.subH {ops rest : List Oper} {hs' : af} (h : SubH hs' hs) (g : XO cfg tb n ops rest E s hs' d Q) : XO cfg tb n ops rest E s hs d Q := fun tm hp ht hh => g tm hp ht (hh.sub h)
theorem XO.pre [Shy cfg tb] {ops rest : List Oper} (k : Nat) (h : WO tb n ops (rest.take k) E s hs (fun tm h => ∃ r, (Evt fun K => eH cfg tb (cj cfg tb (eV cfg tb K)) n ops (rest.drop k) tm h d = some r) /\ Q r)) : XO cfg tb n ops rest E s hs d Q := by
 intro tm hp ht hh
 obtain ⟨tm1, h1, he, hR⟩ := h tm hp ht hh
 obtain ⟨TM, g1, g2⟩ := jk (gQ tb) (SubT.refl tm) he
 obtain ⟨r, hE, hQ⟩ := hR TM g1
 refine ⟨r, (g2.and hE).mono fun K ⟨e1, e2⟩ => ?_, hQ⟩
 have := kP (A6 (cfg := cfg) K) (cfg := cfg) (d := d) (post := rest.drop k) e1
 rw [List.take_append_drop] at this
 rw [this]
 exact e2
theorem eC {ops rest : List Oper} (h : XO cfg tb n ops rest E s hs d Q) : End E s hs (fun tm h => ∃ r, (Evt fun K => eH cfg tb (cj cfg tb (eV cfg tb K)) n ops rest tm h d = some r) /\ Q r) := h

def SpecX (cfg : XCfg) (tb : Tab) (f : Nat) (args : List AV) (S : List Nat) (hs : af) (Post : AV -> af -> Prop) (B : List AV -> Prop) : Prop :=
 ∀ h, HS ⟨h, S⟩ hs h -> ∃ r, (Evt fun K => cj cfg tb (eV cfg tb K) f args h = some r) /\ match r with
  | .ret v h' => ∃ D, Post v D /\ (∀ e ∈ D, e.w = true) /\ HS ⟨h, S⟩ D h'
  | .boom l h' => B l /\ Fr S h h'
theorem Spec.x [Shy cfg tb] {f : Nat} {args : List AV} {S : List Nat} {Post : AV -> af -> Prop} {B : List AV -> Prop} (h : Spec tb f args S hs Post) : SpecX cfg tb f args S hs Post B := by
 intro h0 hh
 obtain ⟨v, h', D, hE, hP, hw, hD⟩ := h h0 hh
 exact ⟨.ret v h', hE.mono fun K e => A8 e, D, hP, hw, hD⟩
theorem SpecX.mono {f : Nat} {args : List AV} {S : List Nat} {Post Post' : AV -> af -> Prop} {B B' : List AV -> Prop} (h : SpecX cfg tb f args S hs Post B) (hp : ∀ v D, Post v D -> Post' v D) (hb : ∀ l, B l -> B' l) : SpecX cfg tb f args S hs Post' B' := by
 intro h0 hh
 obtain ⟨r, hE, hR⟩ := h h0 hh
 refine ⟨r, hE, ?_⟩
 cases r with
 | ret v h' => obtain ⟨D, a, b, c⟩ := hR; exact ⟨D, hp _ _ a, b, c⟩
 | boom l h' => exact ⟨hb _ hR.1, hR.2⟩
theorem SpecX.thr {f : Nat} {args l : List AV} {S : List Nat} {Post : AV -> af -> Prop} {B : List AV -> Prop} (ho : ∀ h, tb.orc f args h = none) (ht : cfg.thr f args = some l) (hb : B l) : SpecX cfg tb f args S hs Post B := by
 intro h hh
 refine ⟨.boom l h, Evt.of fun K => ?_, hb, Fr.refl S h⟩
 unfold cj
 rw [ho, ht]
theorem HS.backS {h h' : AHeap} {M A D : af} (hh : HS E (M ++ A) h) (hM : ∀ e ∈ M, e.w = true) (hw : ∀ e ∈ D, e.w = true) (hD : HS ⟨h, M.map (·.b)⟩ D h') : HS E (D ++ A) h' := by
 have hnd := hh.nd
 rw [List.map_append] at hnd
 obtain ⟨n1, n2, n3⟩ := List.nodup_append.1 hnd
 have hne : ∀ e ∈ A, e.b ∉ M.map (·.b) := fun e he hm => n3 e.b hm e.b (List.mem_map.2 ⟨e, he, rfl⟩) rfl
 have hA : ∀ e ∈ A, _ := fun e he => hh.at_ e (List.mem_append_right _ he)
 have hMa : ∀ e ∈ M, _ := fun e he => hh.at_ e (List.mem_append_left _ he)
 have hfr := hD.fr
 refine ⟨fun e he => ?_, ?_, ?_, fun c hc hcS => ?_⟩
 ·rcases List.mem_append.1 he with he | he
  ·obtain ⟨a1, a2, a3⟩ := hD.at_ e he
   refine ⟨a1, a2, fun hw' => ?_⟩
   rcases a3 hw' with b1 | b1
   ·exact .inl (Nat.le_trans hh.fr.1 b1)
   ·obtain ⟨x, hx, hxe⟩ := List.mem_map.1 b1
    rw [<- hxe]
    exact (hMa x hx).2.2 (hM x hx)
  ·obtain ⟨a1, a2, a3⟩ := hA e he
   refine ⟨?_, Nat.lt_of_lt_of_le a2 hfr.1, a3⟩
   rw [hfr.2 e.b a2 (hne e he)]
   exact a1
 ·rw [List.map_append]
  refine List.nodup_append.2 ⟨hD.nd, n2, ?_⟩
  intro a ha' b hb' hab
  obtain ⟨x, hx, rfl⟩ := List.mem_map.1 ha'
  obtain ⟨y, hy, rfl⟩ := List.mem_map.1 hb'
  have h1 := (hA y hy).2.1
  have hab : x.b = y.b := hab
  rcases (hD.at_ x hx).2.2 (hw x hx) with b1 | b1
  ·have b1 : h.next <= x.b := b1
   omega
  ·exact hne y hy (hab ▸ b1)
 ·exact Nat.le_trans hh.fr.1 hfr.1
 ·have hcb : c ∉ M.map (·.b) := by
   intro hm
   obtain ⟨x, hx, rfl⟩ := List.mem_map.1 hm
   rcases (hMa x hx).2.2 (hM x hx) with g | g
   ·omega
   ·exact hcS g
  rw [hfr.2 c (Nat.lt_of_lt_of_le hc hh.fr.1) hcb]
  exact hh.fr.2 c hc hcS
theorem HS.frS {h h' : AHeap} {M A : af} (hh : HS E (M ++ A) h) (hM : ∀ e ∈ M, e.w = true) (hf : Fr (M.map (·.b)) h h') : HS E A h' := by
 have := HS.backS (D := []) hh hM (fun e he => sx he) ⟨fun e he => (by simp at he), List.nodup_nil, hf⟩
 simpa using this
theorem HS.enterS {h : AHeap} {M A hsc : af} (hh : HS E (M ++ A) h) (hsub : SubR hsc A) : HS ⟨h, M.map (·.b)⟩ (M ++ hsc) h := by
 have hnd := hh.nd
 rw [List.map_append] at hnd
 obtain ⟨n1, n2, n3⟩ := List.nodup_append.1 hnd
 refine ⟨fun e he => ?_, ?_, Fr.refl _ _⟩
 ·rcases List.mem_append.1 he with he | he
  ·obtain ⟨a1, a2, a3⟩ := hh.at_ e (List.mem_append_left _ he)
   exact ⟨a1, a2, fun _ => .inr (List.mem_map.2 ⟨e, he, rfl⟩)⟩
  ·obtain ⟨hw, w, hm⟩ := hsub.1 e he
   obtain ⟨a1, a2, a3⟩ := hh.at_ _ (List.mem_append_right _ hm)
   exact ⟨a1, a2, fun h' => by rw [hw] at h'; cases h'⟩
 ·rw [List.map_append]
  refine List.nodup_append.2 ⟨n1, hsub.2 n2, ?_⟩
  intro a ha' b hb hab
  obtain ⟨y, hy, rfl⟩ := List.mem_map.1 hb
  obtain ⟨hw, w, hm⟩ := hsub.1 y hy
  exact n3 a ha' y.b (List.mem_map.2 ⟨_, hm, rfl⟩) hab
theorem XO.call {ops rest : List Oper} {k : Nat} {ty : TypeId} {pos : String} {aft : Array Edge} {of : Operand} {args : List Operand} {ts : Array TypeId} {g : Nat} {caps l l' : List AV} {M A hsc : af} {Post : AV -> af -> Prop} {B : List AV -> Prop}
  (hf : oL s of = some (.func g caps)) (ha : sy s args = some l) (hl : dS l caps = l') (hM : ∀ e ∈ M, e.w = true) (hs_ : SubH (M ++ A) hs) (hsp : SpecX cfg tb g l' (M.map (·.b)) (M ++ hsc) Post B) (hsub : SubR hsc A) (hd : Nat.blt k n = true)
  (hb : ∀ l, B l -> End E s A fun tm h => Q (.boom l tm h d)) (hk : ∀ v D, Post v D -> XO cfg tb n ops rest E ((k, v) :: s) (D ++ A) d Q) :
  XO cfg tb n ops (⟨some k, .call ⟨.value of, args.toArray, ts⟩, ty, pos, aft, none⟩ :: rest) E s hs d Q := by
 intro tm h ht hh0
 have hh := hh0.sub hs_
 obtain ⟨r, hE, hR⟩ := hsp h (hh.enterS hsub)
 have hv : ∀ c : gk, f9 c ops tm h ⟨some k, .call ⟨.value of, args.toArray, ts⟩, ty, pos, aft, none⟩ = some (c g l' h) := by
  intro c
  unfold f9 iC aK
  simp only [aR ht hf, kW ht ha]
  subst hl
  unfold dS
  cases fM caps <;> rfl
 cases r with
 | ret v h' =>
  obtain ⟨D, hP, hw, hD⟩ := hR
  obtain ⟨r2, hE2, hQ2⟩ := hk v D hP (tm.set k v) h' (ht.set k v) (hh.backS hM hw hD)
  refine ⟨r2, (hE.and hE2).mono fun K ⟨e1, e2⟩ => ?_, hQ2⟩
  conv => lhs; unfold eH
  rw [hv, e1]
  simp only [aO hd]
  exact e2
 | boom l h' =>
  refine ⟨.boom l tm h' d, hE.mono fun K e1 => ?_, hb l hR.1 tm h' ht (hh.frS hM hR.2)⟩
  conv => lhs; unfold eH
  rw [hv, e1]
def Dy (tb : Tab) (rs : List ResultVar) (E : Env) (Post : AV -> af -> Prop) (B : List AV -> Prop) : RRes -> Prop
 | .go .normal tm h none => l4 tb rs E Post .normal tm h
 | .go .ret tm h none => l4 tb rs E Post .ret tm h
 | .boom l tm h none => B l /\ Fr E.S E.h0 h
 | _ => False
theorem XEnd.ret {rs : List ResultVar} {Post : AV -> af -> Prop} {B : List AV -> Prop} {l : List AV} {hs' : af} (hr : ResL tb s hs rs l) (hP : Post (bW l) hs') (hw : ∀ e ∈ hs', e.w = true) (hsub : SubH hs' hs) : End E s hs (fun tm h => Dy tb rs E Post B (.go .ret tm h none)) := End.ret hr hP hw hsub
theorem XEnd.fall {rs : List ResultVar} {Post : AV -> af -> Prop} {B : List AV -> Prop} {l : List AV} {hs' : af} (hr : ResL tb s hs rs l) (hP : Post (bW l) hs') (hw : ∀ e ∈ hs', e.w = true) (hsub : SubH hs' hs) : End E s hs (fun tm h => Dy tb rs E Post B (.go .normal tm h none)) := End.fall hr hP hw hsub
theorem XEnd.boom {rs : List ResultVar} {Post : AV -> af -> Prop} {B : List AV -> Prop} {l : List AV} (hb : B l) : End E s hs (fun tm h => Dy tb rs E Post B (.boom l tm h none)) := fun tm h ht hh => ⟨hb, hh.fr⟩
theorem SpecX.enter {f : Nat} {args : List AV} {S : List Nat} {Post : AV -> af -> Prop} {B : List AV -> Prop} {fn : Func} {c : Code} {m : Nat} {rs : List ResultVar} {st : St} (hf : tb.ft.get f = some fn) (hb : fn.body = some c) (hm : fn.ntmps = m) (hr : fn.results.toList = rs) (hst : lr 0 args = st)
  (hn : Nat.ble args.length m = true) (ho : ∀ h, tb.orc f args h = none) (hth : cfg.thr f args = none)
  (hk : ∀ E, X cfg tb m c E st hs none (Dy tb rs E Post B)) : SpecX cfg tb f args S hs Post B := by
 subst hm hr hst
 intro h hh
 obtain ⟨r, hE, hQ⟩ := hk ⟨h, S⟩ (er 0 args .leaf) h (pf args) hh
 have fin : ∀ tm h', (∃ l hs', cF tb tm h' fn.results.toList = some l /\ Post (bW l) hs' /\ (∀ e ∈ hs', e.w = true) /\ HS ⟨h, S⟩ hs' h') -> ∀ ex, (∀ i, ex ≠ .exit i) -> (Evt fun K => eV cfg tb K fn.ntmps c (er 0 args .leaf) h none = some (.go ex tm h' none)) ->
   ∃ r, (Evt fun K => cj cfg tb (eV cfg tb K) f args h = some r) /\ match r with
    | .ret v h' => ∃ D, Post v D /\ (∀ e ∈ D, e.w = true) /\ HS ⟨h, S⟩ D h'
    | .boom l h' => B l /\ Fr S h h' := by
  rintro tm h' ⟨l, hs', h1, h2, h3, h4⟩ ex hex hE
  refine ⟨.ret (bW l) h', hE.mono fun K hK => ?_, hs', h2, h3, h4⟩
  unfold cj
  simp only [ho h, hth, hf, hb, hn, hK]
  cases ex with
  | exit i => exact absurd rfl (hex i)
  | normal => show ko tb _ _ _ = _; unfold ko; rw [h1]
  | ret => show ko tb _ _ _ = _; unfold ko; rw [h1]
 cases r with
 | go ex tm h' dd =>
  cases dd with
  | some x => cases ex <;> exact hQ.elim
  | none =>
   cases ex with
   | exit i => exact hQ.elim
   | normal => exact fin tm h' hQ .normal (fun i => by simp) hE
   | ret => exact fin tm h' hQ .ret (fun i => by simp) hE
 | boom l tm h' dd =>
  cases dd with
  | some x => exact hQ.elim
  | none =>
   refine ⟨.boom l h', hE.mono fun K hK => ?_, hQ⟩
   unfold cj
   simp only [ho h, hth, hf, hb, hn, hK]
   rfl
theorem X.loop_ind {α : Type} (st : α -> St) (hp : α -> af) (Inv : α -> Prop) (μ : α -> Nat) (a0 : α) (h0 : Inv a0) (hsub : SubS (st a0) s) (hsubH : SubH (hp a0) hs)
  (step : ∀ a, Inv a -> (∀ a', Inv a' -> μ a' < μ a -> X cfg tb n (.loop b) E (st a') (hp a') d Q) -> X cfg tb n b E (st a) (hp a) d (FP cfg tb n b Q)) : X cfg tb n (.loop b) E s hs d Q := by
 have main : ∀ m a, Inv a -> μ a = m -> X cfg tb n (.loop b) E (st a) (hp a) d Q := by
  intro m
  induction m using Nat.strongRecOn with
  | _ m ih =>
   intro a ha hm
   exact X.loop (step a ha fun a' ha' hlt => ih (μ a') zy a' ha' rfl)
 exact X.sub hsub (X.subH hsubH (main _ a0 h0 rfl))
theorem X.loop_ind2 {α β : Type} (st : α -> β -> St) (hp : α -> β -> af) (Inv : α -> β -> Prop) (μ : α -> β -> Nat) (a0 : α) (b0 : β) (h0 : Inv a0 b0) (hsub : SubS (st a0 b0) s) (hsubH : SubH (hp a0 b0) hs)
  (step : ∀ a c, Inv a c -> (∀ a' c', Inv a' c' -> μ a' c' < μ a c -> X cfg tb n (.loop b) E (st a' c') (hp a' c') d Q) -> X cfg tb n b E (st a c) (hp a c) d (FP cfg tb n b Q)) : X cfg tb n (.loop b) E s hs d Q :=
 X.loop_ind (α := α × β) (fun x => st x.1 x.2) (fun x => hp x.1 x.2) (fun x => Inv x.1 x.2) (fun x => μ x.1 x.2) (a0, b0) h0 hsub hsubH fun a ha ih => step a.1 a.2 ha fun a' c' => ih (a', c')
end
end
noncomputable section
variable {tb : Tab} {n : Nat} {E : Env} {s : St} {hs : af} {R : T AV -> AHeap -> Prop} {ops rest : List Oper} {d : Nat} {ty : TypeId} {pos : String} {aft : Array Edge} {t : TypeId}
def MS (tb : Tab) (t : Nat) : Option (Nat × List AV) :=
 match tb.und t with
 | some (.slice e) => match tb.tt.get e, tb.zero e with
  | some ti, some z => match Nat.ble ti.bytes 4096 && Nat.beq z.cells.length ti.size && Nat.blt 0 ti.size with
   | true => some (ti.size, z.cells)
   | false => none
  | _, _ => none
 | _ => none
theorem Av {ol oc : Operand} {sz len cap : Nat} {zc : List AV} {k k' : IntKind} (hm : MS tb t = some (sz, zc)) (hl : oL s ol = some (.int k ((len : Nat) : Int))) (hc : oL s oc = some (.int k' ((cap : Nat) : Int))) (hle : len <= cap /\ cap <= 1073741824) (hd : Nat.blt d n = true)
  (hk : ∀ b, WO tb n ops rest E ((d, .slice b 0 len sz) :: s) (⟨b, ⟨sz, true, iP cap zc⟩, true⟩ :: hs) R) : WO tb n ops (⟨some d, .makeSlice t ol oc, ty, pos, aft, none⟩ :: rest) E s hs R := by
 refine WO.l (s' := s) fun tm h ht hh => ?_
 refine ⟨.slice h.next 0 len sz, ⟨h.next + 1, h.objs.set h.next ⟨sz, true, iP cap zc⟩⟩, tm.set d (.slice h.next 0 len sz), ?_, aO hd, hk h.next _ _ (ht.set d _) (hh.new _)⟩
 show Res.l (dt tb tm h t ol oc) = _
 unfold MS at hm
 split at hm
 ·rename_i e hu
  split at hm
  ·rename_i ti z h1 h2
   split at hm
   ·rename_i hb
    simp only [Option.some.injEq, Prod.mk.injEq] at hm
    obtain ⟨rfl, rfl⟩ := hm
    unfold dt
    have e1 : fj (aS tm ol) = some len := by rw [aR ht hl]; rfl
    have e2 : fj (aS tm oc) = some cap := by rw [aR ht hc]; rfl
    simp only [hu, e1, e2, h1, h2]
    simp only [Bool.and_eq_true, Nat.ble_eq, Nat.beq_eq, Nat.blt_eq] at hb
    have hb' : (Nat.ble ti.bytes 4096 && Nat.ble cap 1073741824 && Nat.ble len cap && Nat.beq z.cells.length ti.size && Nat.blt 0 ti.size) = true := by
     simp only [Bool.and_eq_true, Nat.ble_eq, Nat.beq_eq, Nat.blt_eq]
     exact ⟨⟨⟨⟨hb.1.1, hle.2⟩, hle.1⟩, hb.1.2⟩, hb.2⟩
    simp only [hb']
   ·cases hm
  ·cases hm
 ·cases hm
theorem ou {ox oy : Operand} {t2 sz i b0 len b o m : Nat} {tl : List Nat} {ob : AObj} {ex : Bool} {cells cs : List AV} {w : Bool} {l : List AV} {hs' : af} (ha : AP tb t t2 = some sz) (hx : oL s ox = some (.slice b0 0 len sz)) (hy : oL s oy = some (.slice b o m sz))
  (hi : hs[i]? = some ⟨b0, ⟨sz, ex, cells⟩, true⟩) (hm : ⟨b, ob, w⟩ ∈ hs) (hl : dy ob.cells (o * sz) (m * sz) = some l) (hn : 0 < m /\ len + m <= 1073741824) (hr : (0 + len + m) * sz <= cells.length) (hc : ct cells ((0 + len) * sz) l = cs)
  (hs_ : hs.set i ⟨b0, ⟨sz, ex, cs⟩, true⟩ = hs') (hd : Nat.blt d n = true) (hk : WO tb n ops rest E ((d, .slice b0 0 (len + m) sz) :: s) hs' R) :
  WO tb n ops (⟨some d, .call ⟨.builtin .append, #[ox, oy], (t :: t2 :: tl).toArray⟩, ty, pos, aft, none⟩ :: rest) E s hs R := by
 refine WO.l (s' := s) fun tm h ht hh => ?_
 subst hs_ hc
 refine ⟨.slice b0 0 (len + m) sz, ⟨h.next, h.objs.set b0 ⟨sz, ex, ct cells ((0 + len) * sz) l⟩⟩, tm.set d (.slice b0 0 (len + m) sz), ?_, aO hd, hk _ _ (ht.set d _) (hh.put hi)⟩
 show Res.l (cq tb tm h #[ox, oy] (t :: t2 :: tl).toArray) = _
 unfold cq
 simp only [cC, aR ht hx, aR ht hy]
 rw [fU ha (d9 (hh.at_ _ hm).1 hl)]
 unfold dp
 have e0 : Nat.beq m 0 = false := by cases m with
  | zero => omega
  | succ m => rfl
 have e1 : (Nat.beq sz sz && Nat.ble (len + m) 1073741824) = true := by simp; omega
 simp only [e0, e1]
 unfold fL
 have h1 := (hh.at_ _ (dl hi)).1
 simp only at h1
 have e2 : Nat.beq sz sz = true := by simp
 have e3 : Nat.ble ((0 + len + m) * sz) cells.length = true := Nat.ble_eq.mpr hr
 simp only [h1, e2, e3]
theorem lc {l : af} (h : l.all (·.w) = true := by rfl) : ∀ e ∈ l, e.w = true := fun e he => List.all_eq_true.1 h e he
end
def OwnE (sz : Nat) (cells : List AV) (len : Nat) (v : AV) (hp : af) : Prop :=
 (len = 0 /\ cells = [] /\ v = .nils /\ hp = []) \/ (∃ b ex, v = .slice b 0 len sz /\ hp = [⟨b, ⟨sz, ex, cells⟩, true⟩] /\ cells.length = len * sz)
theorem OwnE.nil (sz : Nat) : OwnE sz [] 0 .nils [] := .inl ⟨rfl, rfl, rfl, rfl⟩
theorem OwnE.of {sz : Nat} {cells : List AV} {len : Nat} {v : AV} {hp : af} (h : Own sz cells len v hp) : OwnE sz cells len v hp := h.imp id fun ⟨b, ex, h1, h2, h3, _⟩ => ⟨b, ex, h1, h2, h3⟩
theorem OwnE.cons {sz len b : Nat} {ex : Bool} {cells : List AV} (h : cells.length = len * sz) : OwnE sz cells len (.slice b 0 len sz) [⟨b, ⟨sz, ex, cells⟩, true⟩] := .inr ⟨b, ex, rfl, rfl, h⟩
theorem OwnE.length {sz : Nat} {cells : List AV} {len : Nat} {v : AV} {hp : af} (h : OwnE sz cells len v hp) : cells.length = len * sz := by
 rcases h with ⟨rfl, rfl, _, _⟩ | ⟨b, _, _, _, h⟩
 ·simp
 ·exact h
theorem OwnE.w {sz : Nat} {cells : List AV} {len : Nat} {v : AV} {hp : af} (h : OwnE sz cells len v hp) : ∀ e ∈ hp, e.w = true := by
 rcases h with ⟨_, _, _, rfl⟩ | ⟨b, _, _, rfl, _⟩
 ·intro e he; simp at he
 ·intro e he; simp at he; subst he; rfl
theorem OwnE.len {sz : Nat} {cells : List AV} {len e : Nat} {v : AV} {hp : af} (h : OwnE sz cells len v hp) : iN (.slice e) v = some len := by
 rcases h with ⟨rfl, _, rfl, _⟩ | ⟨b, _, rfl, _, _⟩ <;> rfl
theorem OwnE.cell {sz : Nat} {cells : List AV} {len : Nat} {v : AV} {hp : af} (h : OwnE sz cells len v hp) : v.isCell = true := by
 rcases h with ⟨_, _, rfl, _⟩ | ⟨b, _, rfl, _, _⟩ <;> rfl
theorem OwnE.bq {sz : Nat} {cells : List AV} {len : Nat} {v : AV} {hp : af} (h : OwnE sz cells len v hp) : v.beq v = true := by
 rcases h with ⟨_, _, rfl, _⟩ | ⟨b, ex, rfl, _, _⟩
 ·rfl
 ·simp [AV.beq, dG, dF, d6]
theorem OwnE.full {sz : Nat} {cells : List AV} {len : Nat} {v : AV} {hp : af} (h : OwnE sz cells len v hp) (hl : 0 < len) : ∃ b ex, v = .slice b 0 len sz /\ hp = [⟨b, ⟨sz, ex, cells⟩, true⟩] := by
 rcases h with ⟨h, _, _, _⟩ | ⟨b, ex, h1, h2, _⟩
 ·omega
 ·exact ⟨b, ex, h1, h2⟩
def Src (hs : af) (sz : Nat) (x : AV) (m : Nat) (new : List AV) : Prop := ∀ h, dj hs h -> dH h.objs sz x = some (m, new)
theorem Src.nils {hs : af} {sz : Nat} : Src hs sz .nils 0 [] := fun h _ => rfl
theorem Src.slice {hs : af} {b o m sz : Nat} {ob : AObj} {w : Bool} {l : List AV} (hm : ⟨b, ob, w⟩ ∈ hs) (hl : dy ob.cells (o * sz) (m * sz) = some l) : Src hs sz (.slice b o m sz) m l :=
 fun h hh => d9 (hh _ hm) hl
theorem Src.all {hs : af} {b m sz : Nat} {ob : AObj} (hm : MemH hs b ob) (hl : ob.cells.length = m * sz) : Src hs sz (.slice b 0 m sz) m ob.cells := by
 obtain ⟨w, hm⟩ := hm
 exact Src.slice hm (by rw [Nat.zero_mul]; exact lV hl)
theorem nJ {hs : af} {l : List bA} {v : AV} (h : LIn hs l v) : Src hs 2 v l.length (cL l) := by
 rcases h with ⟨rfl, rfl⟩ | ⟨b, sz, ex, rfl, hm⟩
 ·exact Src.nils
 ·exact Src.all hm (oH l)
theorem Src.mono {hs hs' : af} {sz m : Nat} {x : AV} {new : List AV} (hm : ∀ e ∈ hs, MemH hs' e.b e.o) (h : Src hs sz x m new) : Src hs' sz x m new :=
 fun hp hh => h hp fun e he => by obtain ⟨w, hw⟩ := hm e he; exact hh ⟨e.b, e.o, w⟩ hw
section
variable {tb : Tab} {n : Nat} {E : Env} {s : St} {hs : af} {R : T AV -> AHeap -> Prop} {ops rest : List Oper} {d : Nat} {t : TypeId} {ty : TypeId} {pos : String} {aft : Array Edge}
theorem WO.appAny {ox oy : Operand} {t2 sz len m : Nat} {tl : List Nat} {A hp : af} {cells new : List AV} {v x : AV} (ha : AP tb t t2 = some sz) (hO : OwnE sz cells len v hp) (hx : oL s ox = some v) (hy : oL s oy = some x) (hc : Src hs sz x m new)
  (hl : new.length = m * sz) (hn : len + m <= 1073741824) (hz : 0 < sz) (hs_ : SubH (A ++ hp) hs) (hd : Nat.blt d n = true)
  (hk : ∀ v' hp', OwnE sz (cells ++ new) (len + m) v' hp' -> WO tb n ops rest E ((d, v') :: s) (A ++ hp') R) :
  WO tb n ops (⟨some d, .call ⟨.builtin .append, #[ox, oy], (t :: t2 :: tl).toArray⟩, ty, pos, aft, none⟩ :: rest) E s hs R := by
 refine WO.l (s' := s) fun tm h ht hh => ?_
 have hc := hc h hh.keep
 replace hh := hh.sub hs_
 have hev : ∀ r, dp h sz m v new = r -> cO tb (aD (Ev.callE tb)) tm h (.call ⟨.builtin .append, #[ox, oy], (t :: t2 :: tl).toArray⟩) = .l r := by
  intro r hr
  show Res.l (cq tb tm h #[ox, oy] (t :: t2 :: tl).toArray) = _
  unfold cq
  simp only [cC, aR ht hx, aR ht hy]
  rw [fU ha hc, hr]
 by_cases hm0 : m = 0
 ·have hnew : new = [] := List.eq_nil_of_length_eq_zero (by rw [hl, hm0]; simp)
  subst hm0 hnew
  have hk := hk v hp (by simpa using hO)
  refine ⟨v, h, tm.set d v, hev _ ?_, aO hd, hk _ _ (ht.set d v) hh⟩
  rcases hO with ⟨_, _, rfl, _⟩ | ⟨b, ex, rfl, _, _⟩
  ·rfl
  ·unfold dp
   have e1 : Nat.beq sz sz = true := by simp
   simp only [Nat.beq_eq_true_eq, e1]
 ·have e0 : Nat.beq m 0 = false := by cases m with
   | zero => omega
   | succ m => rfl
  rcases hO with ⟨rfl, rfl, rfl, rfl⟩ | ⟨b, ex, rfl, rfl, hcl⟩
  ·have e1 : Nat.ble m 1073741824 = true := Nat.ble_eq.mpr zy
   have hk := hk (.slice h.next 0 (0 + m) sz) [⟨h.next, ⟨sz, false, [] ++ new⟩, true⟩] (OwnE.cons (by rw [Nat.zero_add]; simpa using hl))
   rw [Nat.zero_add, List.nil_append] at hk
   refine ⟨.slice h.next 0 m sz, ⟨h.next + 1, h.objs.set h.next ⟨sz, false, new⟩⟩, tm.set d (.slice h.next 0 m sz), hev _ ?_, aO hd, hk _ _ (ht.set d _) ?_⟩
   ·unfold dp
    simp only [e0, e1]
   ·rw [List.append_nil] at hh
    exact (hh.new _).sub (SubH.op (List.perm_append_singleton _ _))
  ·have e1 : (Nat.beq sz sz && Nat.ble (len + m) 1073741824) = true := by simp; omega
   have hmem : (⟨b, ⟨sz, ex, cells⟩, true⟩ : HE) ∈ (A ++ [⟨b, ⟨sz, ex, cells⟩, true⟩] : af) := by simp
   have h1 := (hh.at_ _ hmem).1
   simp only at h1
   have e2 : Nat.beq sz sz = true := by simp
   have e3 : Nat.ble ((0 + len + m) * sz) cells.length = false := by
    rw [hcl]
    have : len * sz < (0 + len + m) * sz := Nat.mul_lt_mul_of_pos_right zy hz
    cases hb : Nat.ble ((0 + len + m) * sz) (len * sz) with
    | false => rfl
    | true => have := Nat.ble_eq.mp hb; omega
   have e4 : dy cells (0 * sz) (len * sz) = some cells := by rw [Nat.zero_mul]; exact lV hcl
   have hidx : (A ++ [⟨b, ⟨sz, ex, cells⟩, true⟩] : af)[A.length]? = some ⟨b, ⟨sz, ex, cells⟩, true⟩ := by simp
   have hne : (A ++ [⟨b, ⟨sz, ex, cells⟩, true⟩] : af).eraseIdx A.length = A := by simp [List.eraseIdx_append_of_length_le]
   have hk := hk (.slice h.next 0 (len + m) sz) [⟨h.next, ⟨sz, false, cells ++ new⟩, true⟩] (OwnE.cons (by rw [List.length_append, hcl, hl, Nat.add_mul]))
   cases ex with
   | true =>
    refine ⟨.slice h.next 0 (len + m) sz, ⟨h.next + 1, h.objs.set h.next ⟨sz, false, cells ++ new⟩⟩, tm.set d (.slice h.next 0 (len + m) sz), hev _ ?_, aO hd, hk _ _ (ht.set d _) ?_⟩
    ·unfold dp
     simp only [e0, e1]
     unfold fL
     simp only [h1, e2, e3, e4]
    ·refine (hh.new ⟨sz, false, cells ++ new⟩).sub (SubH.trans (SubH.op (List.perm_append_singleton _ _)) (SubH.of_sublist ?_))
     exact List.Sublist.cons_cons _ (List.sublist_append_left _ _)
   | false =>
    refine ⟨.slice h.next 0 (len + m) sz, ⟨h.next + 1, (h.objs.del b).set h.next ⟨sz, false, cells ++ new⟩⟩, tm.set d (.slice h.next 0 (len + m) sz), hev _ ?_, aO hd, hk _ _ (ht.set d _) ?_⟩
    ·unfold dp
     simp only [e0, e1]
     unfold fL
     simp only [h1, e2, e3, e4]
    ·have := hh.del hidx
     rw [hne] at this
     exact (this.new ⟨sz, false, cells ++ new⟩).sub (SubH.op (List.perm_append_singleton _ _))
variable {keep : af} {q i : Nat}
theorem WD.appAny {ox oy : Operand} {t2 sz len m : Nat} {tl : List Nat} {A hp : af} {cells new : List AV} {v x : AV} (ha : AP tb t t2 = some sz) (hO : OwnE sz cells len v hp) (hx : oL s ox = some v) (hy : oL s oy = some x) (hc : Src hs sz x m new)
  (hl : new.length = m * sz) (hn : len + m <= 1073741824) (hz : 0 < sz) (hs_ : SubH (A ++ hp) hs) (hd : Nat.blt d n = true) (hkp : KIn keep A)
  (hk : ∀ v' hp', OwnE sz (cells ++ new) (len + m) v' hp' -> WD tb n ops keep q (i + 1) rest E ((d, v') :: s) (A ++ hp') R) :
  WD tb n ops keep q i (⟨some d, .call ⟨.builtin .append, #[ox, oy], (t :: t2 :: tl).toArray⟩, ty, pos, aft, none⟩ :: rest) E s hs R :=
 WD.l (C := fun v' hs' => ∃ hp', OwnE sz (cells ++ new) (len + m) v' hp' /\ hs' = A ++ hp') (fun tm h r e => by cases e) (fun R hR => WO.appAny ha hO hx hy hc hl hn hz hs_ hd fun v' hp' h => WO.nil (hR _ _ ⟨hp', h, rfl⟩))
  (fun v' hs' ⟨hp', _, h2⟩ _ => by subst h2; exact fun e he => let ⟨w, hm⟩ := hkp e he; ⟨w, List.mem_append_left _ hm⟩) (fun v' hs' ⟨hp', h1, h2⟩ => by subst h2; exact hk v' hp' h1)
end
end Go.Proofs.YtfkbfnpjggkdmaaGreatDoor.Ev
/- The tables of the program alone. -/
namespace Go.Proofs.YtfkbfnpjggkdmaaGreatDoor.Ev.P7
open Go.RowKit
noncomputable def tab : Tab := (lX Tryz.prog).knows (fun _ _ _ _ => none) (fun _ _ => none) (fun _ _ _ => none)
theorem io : tab.isAgg 213 = some true := by kernel_rfl
theorem DG : tab.isAgg 24 = some true := by kernel_rfl
theorem bH : tab.isAgg 3 = some false := by kernel_rfl
theorem rB : tab.isAgg 51 = some false := by kernel_rfl
theorem ee : tab.isAgg 53 = some true := by kernel_rfl
theorem gP : tab.isAgg 9 = some false := by kernel_rfl
theorem fS : AO tab 213 = some ⟨1, true, [.int .i64 0, .int .i64 0, .int .i64 0]⟩ := by kernel_rfl
theorem jG : AO tab 53 = some ⟨11, true, [.int .i64 0, .str [], .int .i64 0, .nils, .int .i64 0, .int .i64 0, .int .i64 0, .nils, .int .i64 0, .bool false, .nils]⟩ := by kernel_rfl
theorem eM : AP tab 25 25 = some 1 := by kernel_rfl
theorem wu : AP tab 50 50 = some 1 := by kernel_rfl
theorem kn : ∀ l : List AV, l.length = 11 -> bk tab 53 l = ⟨11, true, l⟩ := by intro l h; exact aX (by kernel_rfl) h
theorem DU : ∀ l : List AV, l.length = 3 -> bk tab 62 l = ⟨3, true, l⟩ := by intro l h; exact aX (by kernel_rfl) h
theorem dK : FA tab 53 0 = some (0, 0 + 1) := by kernel_rfl
theorem jl : FA tab 53 1 = some (1, 0 + 1) := by kernel_rfl
theorem eu : FA tab 53 10 = some (10, 0 + 1) := by kernel_rfl
theorem iL : FA tab 53 4 = some (4, 0 + 1) := by kernel_rfl
theorem BH : FA tab 53 6 = some (6, 0 + 1) := by kernel_rfl
theorem iM : FA tab 62 0 = some (0, 0 + 1) := by kernel_rfl
theorem sc : FA tab 62 1 = some (1, 0 + 1) := by kernel_rfl
theorem kT : FA tab 62 2 = some (2, 0 + 1) := by kernel_rfl
theorem uh : PL tab 213 [.int .i64 0, .int .i64 0, .int .i64 0] [(0, 1), (1, 1), (2, 1)] = true := by kernel_rfl
theorem dC : tab.size 213 = some 3 := by kernel_rfl
theorem dn : tab.size 3 = some 1 := by kernel_rfl
theorem ci : tab.size 53 = some 11 := by kernel_rfl
theorem C9 : tab.size 9 = some 1 := by kernel_rfl
theorem yH : tab.und 212 = some (.array 3 3) := by kernel_rfl
theorem aP : tab.und 25 = some (.slice 3) := by kernel_rfl
theorem Ah : tab.und 3 = some (.int .i64) := by kernel_rfl
theorem Jy : tab.und 4 = some .bool := by kernel_rfl
theorem Jz : tab.und 5 = some (.int .u8) := by kernel_rfl
theorem mY : tab.und 50 = some (.slice 9) := by kernel_rfl
theorem pM : tab.und 51 = some (.slice 53) := by kernel_rfl
theorem cf : tab.und 9 = some .string := by kernel_rfl
theorem sS : tab.zero 3 = some (.int .i64 0) := by kernel_rfl
theorem JE : tab.zero 9 = some (.str []) := by kernel_rfl
end Go.Proofs.YtfkbfnpjggkdmaaGreatDoor.Ev.P7
