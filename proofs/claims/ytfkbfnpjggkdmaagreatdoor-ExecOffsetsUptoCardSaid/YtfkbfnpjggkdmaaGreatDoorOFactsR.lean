/- Walks over the evaluator in which errors are thrown, part 2: code, calls that throw, functions. -/
import Derived.Test.YtfkbfnpjggkdmaaGreatDoorOExE
import Derived.Test.YtfkbfnpjggkdmaaGreatDoorProg
namespace Go.Proofs.YtfkbfnpjggkdmaaGreatDoor.Ev
open Go.RowKit
noncomputable section
abbrev Dfr := Option (Nat × List AV)
def wpX (cfg : XCfg) (tb : Tab) (n : Nat) (c : Code) (tm : T AV) (h : AHeap) (d : Dfr) (Q : RRes → Prop) : Prop := ∃ r, (Evt fun K => runX cfg tb K n c tm h d = some r) ∧ Q r
section
variable {cfg : XCfg} {tb : Tab} {n : Nat} {E : Env}
def X (cfg : XCfg) (tb : Tab) (n : Nat) (c : Code) (E : Env) (s : St) (hs : HSt) (d : Dfr) (Q : RRes → Prop) : Prop := ∀ tm h, Has tm s → HS E hs h → wpX cfg tb n c tm h d Q
def XO (cfg : XCfg) (tb : Tab) (n : Nat) (ops rest : List Oper) (E : Env) (s : St) (hs : HSt) (d : Dfr) (Q : RRes → Prop) : Prop :=
 End E s hs fun tm h => ∃ r, (Evt fun K => evOpsX cfg tb (evCallX cfg tb (runX cfg tb K)) n ops rest tm h d = some r) ∧ Q r
def KX (cfg : XCfg) (tb : Tab) (n : Nat) (b : Code) (Q : RRes → Prop) : RRes → Prop
 | .go .normal tm h d => wpX cfg tb n b tm h d Q
 | .go (.exit i) tm h d => Q (.go (.exit i) tm h d)
 | .go .ret tm h d => Q (.go .ret tm h d)
 | .boom l tm h d => Q (.boom l tm h d)
def KBX (id : Nat) (Q : RRes → Prop) : RRes → Prop
 | .go .normal tm h d => Q (.go .normal tm h d)
 | .go (.exit i) tm h d => match Nat.beq i id with
  | true => Q (.go .normal tm h d)
  | false => Q (.go (.exit i) tm h d)
 | .go .ret tm h d => Q (.go .ret tm h d)
 | .boom l tm h d => Q (.boom l tm h d)
def KLX (cfg : XCfg) (tb : Tab) (n : Nat) (b : Code) (Q : RRes → Prop) : RRes → Prop
 | .go .normal tm h d => wpX cfg tb n (.loop b) tm h d Q
 | .go (.exit i) tm h d => Q (.go (.exit i) tm h d)
 | .go .ret tm h d => Q (.go .ret tm h d)
 | .boom l tm h d => Q (.boom l tm h d)
variable {s : St} {hs : HSt} {d : Dfr} {Q : RRes → Prop} {a b : Code} {id i : Nat}
theorem XEnd.K (h : X cfg tb n b E s hs d Q) : End E s hs (fun tm h => KX cfg tb n b Q (.go .normal tm h d)) := h
theorem XEnd.K_exit (h : End E s hs fun tm h => Q (.go (.exit i) tm h d)) : End E s hs (fun tm h => KX cfg tb n b Q (.go (.exit i) tm h d)) := h
theorem XEnd.K_ret (h : End E s hs fun tm h => Q (.go .ret tm h d)) : End E s hs (fun tm h => KX cfg tb n b Q (.go .ret tm h d)) := h
theorem XEnd.KB (h : End E s hs fun tm h => Q (.go .normal tm h d)) : End E s hs (fun tm h => KBX id Q (.go .normal tm h d)) := h
theorem XEnd.KB_hit (h : End E s hs fun tm h => Q (.go .normal tm h d)) : End E s hs (fun tm h => KBX id Q (.go (.exit id) tm h d)) := by
 intro tm hp ht hh
 show match Nat.beq id id with
  | true => Q (.go .normal tm hp d)
  | false => Q (.go (.exit id) tm hp d)
 rw [Nat.beq_refl]
 exact h tm hp ht hh
theorem XEnd.KL (h : X cfg tb n (.loop b) E s hs d Q) : End E s hs (fun tm h => KLX cfg tb n b Q (.go .normal tm h d)) := h
theorem XEnd.KL_exit (h : End E s hs fun tm h => Q (.go (.exit i) tm h d)) : End E s hs (fun tm h => KLX cfg tb n b Q (.go (.exit i) tm h d)) := h
theorem X.skip (h : End E s hs fun tm h => Q (.go .normal tm h d)) : X cfg tb n .skip E s hs d Q := fun tm hp ht hh => ⟨_, evt_true.step fun K _ => rfl, h tm hp ht hh⟩
theorem X.ret (h : End E s hs fun tm h => Q (.go .ret tm h d)) : X cfg tb n .ret E s hs d Q := fun tm hp ht hh => ⟨_, evt_true.step fun K _ => rfl, h tm hp ht hh⟩
theorem X.exit (h : End E s hs fun tm h => Q (.go (.exit i) tm h d)) : X cfg tb n (.exit i) E s hs d Q := fun tm hp ht hh => ⟨_, evt_true.step fun K _ => rfl, h tm hp ht hh⟩
theorem X.seq (h : X cfg tb n a E s hs d (KX cfg tb n b Q)) : X cfg tb n (.seq a b) E s hs d Q := by
 intro tm hp ht hh
 obtain ⟨r, hE, hQ⟩ := h tm hp ht hh
 have pass : ∀ r, (Evt fun K => runX cfg tb K n a tm hp d = some r) → (∀ t g e, r ≠ .go .normal t g e) → Q r → wpX cfg tb n (.seq a b) tm hp d Q := by
  intro r hE hne hQ
  refine ⟨r, hE.step fun K e1 => ?_, hQ⟩
  rw [runX_succ]
  unfold evCodeX
  simp only [e1]
  cases r with
  | boom l t g e => rfl
  | go ex t g e =>
   cases ex with
   | normal => exact absurd rfl (hne _ _ _)
   | exit i => rfl
   | ret => rfl
 cases r with
 | boom l t g e => exact pass _ hE (fun _ _ _ h => by cases h) hQ
 | go ex t g e =>
  cases ex with
  | normal =>
   obtain ⟨r2, hE2, hQ2⟩ := hQ
   refine ⟨r2, (hE.and hE2).step fun K ⟨e1, e2⟩ => ?_, hQ2⟩
   rw [runX_succ]
   unfold evCodeX
   simp only [e1, e2]
  | exit i => exact pass _ hE (fun _ _ _ h => by cases h) hQ
  | ret => exact pass _ hE (fun _ _ _ h => by cases h) hQ
theorem X.block (h : X cfg tb n b E s hs d (KBX id Q)) : X cfg tb n (.block id b) E s hs d Q := by
 intro tm hp ht hh
 obtain ⟨r, hE, hQ⟩ := h tm hp ht hh
 have pass : ∀ r, (Evt fun K => runX cfg tb K n b tm hp d = some r) → (∀ i t g e, r ≠ .go (.exit i) t g e) → Q r → wpX cfg tb n (.block id b) tm hp d Q := by
  intro r hE hne hQ
  refine ⟨r, hE.step fun K e1 => ?_, hQ⟩
  rw [runX_succ]
  unfold evCodeX
  simp only [e1]
  cases r with
  | boom l t g e => rfl
  | go ex t g e =>
   cases ex with
   | normal => rfl
   | exit i => exact absurd rfl (hne _ _ _ _)
   | ret => rfl
 cases r with
 | boom l t g e => exact pass _ hE (fun _ _ _ _ h => by cases h) hQ
 | go ex t g e =>
  cases ex with
  | normal => exact pass _ hE (fun _ _ _ _ h => by cases h) hQ
  | ret => exact pass _ hE (fun _ _ _ _ h => by cases h) hQ
  | exit i =>
   have hQ : (match Nat.beq i id with
    | true => Q (.go .normal t g e)
    | false => Q (.go (.exit i) t g e)) := hQ
   cases hb : Nat.beq i id with
   | true =>
    rw [hb] at hQ
    refine ⟨.go .normal t g e, hE.step fun K e1 => ?_, hQ⟩
    rw [runX_succ]
    unfold evCodeX
    simp only [e1, hb]
   | false =>
    rw [hb] at hQ
    refine ⟨.go (.exit i) t g e, hE.step fun K e1 => ?_, hQ⟩
    rw [runX_succ]
    unfold evCodeX
    simp only [e1, hb]
theorem X.loop (h : X cfg tb n b E s hs d (KLX cfg tb n b Q)) : X cfg tb n (.loop b) E s hs d Q := by
 intro tm hp ht hh
 obtain ⟨r, hE, hQ⟩ := h tm hp ht hh
 have pass : ∀ r, (Evt fun K => runX cfg tb K n b tm hp d = some r) → (∀ t g e, r ≠ .go .normal t g e) → Q r → wpX cfg tb n (.loop b) tm hp d Q := by
  intro r hE hne hQ
  refine ⟨r, hE.step fun K e1 => ?_, hQ⟩
  rw [runX_succ]
  unfold evCodeX
  simp only [e1]
  cases r with
  | boom l t g e => rfl
  | go ex t g e =>
   cases ex with
   | normal => exact absurd rfl (hne _ _ _)
   | exit i => rfl
   | ret => rfl
 cases r with
 | boom l t g e => exact pass _ hE (fun _ _ _ h => by cases h) hQ
 | go ex t g e =>
  cases ex with
  | normal =>
   obtain ⟨r2, hE2, hQ2⟩ := hQ
   refine ⟨r2, (hE.and hE2).step fun K ⟨e1, e2⟩ => ?_, hQ2⟩
   rw [runX_succ]
   unfold evCodeX
   simp only [e1, e2]
  | exit i => exact pass _ hE (fun _ _ _ h => by cases h) hQ
  | ret => exact pass _ hE (fun _ _ _ h => by cases h) hQ
theorem X.cond {x : Operand} {p : Bool} (hx : oL s x = some (.bool p)) (ha : p = true → X cfg tb n a E s hs d Q) (hb : p = false → X cfg tb n b E s hs d Q) : X cfg tb n (.cond x a b) E s hs d Q := by
 intro tm hp ht hh
 have hv := oL_ok ht hx
 cases p with
 | true =>
  obtain ⟨r, hE, hQ⟩ := ha rfl tm hp ht hh
  refine ⟨r, hE.step fun K e1 => ?_, hQ⟩
  rw [runX_succ]
  unfold evCodeX
  simp only [hv, e1]
 | false =>
  obtain ⟨r, hE, hQ⟩ := hb rfl tm hp ht hh
  refine ⟨r, hE.step fun K e1 => ?_, hQ⟩
  rw [runX_succ]
  unfold evCodeX
  simp only [hv, e1]
theorem X.condT {x : Operand} (hx : oL s x = some (.bool true)) (ha : X cfg tb n a E s hs d Q) : X cfg tb n (.cond x a b) E s hs d Q := X.cond hx (fun _ => ha) (fun h => by cases h)
theorem X.condF {x : Operand} (hx : oL s x = some (.bool false)) (hb : X cfg tb n b E s hs d Q) : X cfg tb n (.cond x a b) E s hs d Q := X.cond hx (fun h => by cases h) (fun _ => hb)
theorem X.condS {k : Nat} {p : Bool} (hx : lk s k = some (.bool p)) (ha : p = true → X cfg tb n a E ((k, .bool true) :: s) hs d Q) (hb : p = false → X cfg tb n b E ((k, .bool false) :: s) hs d Q) : X cfg tb n (.cond (.tmp k) a b) E s hs d Q :=
 X.cond (x := .tmp k) hx (fun h tm hp ht hh => ha h tm hp (ht.lit (by rw [hx, h])) hh) (fun h tm hp ht hh => hb h tm hp (ht.lit (by rw [hx, h])) hh)
theorem X.condDS {k : Nat} {P : Prop} [Decidable P] (hx : lk s k = some (.bool (decide P))) (ha : P → X cfg tb n a E ((k, .bool true) :: s) hs d Q) (hb : ¬ P → X cfg tb n b E ((k, .bool false) :: s) hs d Q) : X cfg tb n (.cond (.tmp k) a b) E s hs d Q :=
 X.condS hx (fun h => ha (of_decide_eq_true h)) (fun h => hb (of_decide_eq_false h))
theorem X.sub {s' : St} (h : SubS s' s) (g : X cfg tb n a E s' hs d Q) : X cfg tb n a E s hs d Q := fun tm hp ht hh => g tm hp (ht.sub h) hh
theorem X.w [Shy cfg tb] (h : W tb n a E s hs (fun ex tm hp => Q (.go ex tm hp d))) : X cfg tb n a E s hs d Q := by
 intro tm hp ht hh
 obtain ⟨ex, t, g, hE, hQ⟩ := h tm hp ht hh
 exact ⟨_, hE.mono fun K e => run_X K _ _ _ _ _ _ _ d e, hQ⟩
theorem X.reg {l : List Oper} (h : XO cfg tb n l l E s hs d Q) : X cfg tb n (.region id l.toArray false) E s hs d Q := by
 intro tm hp ht hh
 obtain ⟨r, hE, hQ⟩ := h tm hp ht hh
 refine ⟨r, hE.step fun K e => ?_, hQ⟩
 rw [runX_succ]
 unfold evCodeX
 exact e
theorem XO.nil {ops : List Oper} (h : End E s hs fun tm h => Q (.go .normal tm h d)) : XO cfg tb n ops [] E s hs d Q := fun tm hp ht hh => ⟨_, Evt.of fun K => rfl, h tm hp ht hh⟩
theorem XO.sub {ops rest : List Oper} {s' : St} (h : SubS s' s) (g : XO cfg tb n ops rest E s' hs d Q) : XO cfg tb n ops rest E s hs d Q := fun tm hp ht hh => g tm hp (ht.sub h) hh
theorem XO.subH {ops rest : List Oper} {hs' : HSt} (h : SubH hs' hs) (g : XO cfg tb n ops rest E s hs' d Q) : XO cfg tb n ops rest E s hs d Q := fun tm hp ht hh => g tm hp ht (hh.sub h)
theorem XO.pre [Shy cfg tb] {ops rest : List Oper} (k : Nat) (h : WO tb n ops (rest.take k) E s hs (fun tm h => ∃ r, (Evt fun K => evOpsX cfg tb (evCallX cfg tb (runX cfg tb K)) n ops (rest.drop k) tm h d = some r) ∧ Q r)) : XO cfg tb n ops rest E s hs d Q := by
 intro tm hp ht hh
 obtain ⟨tm1, h1, he, hR⟩ := h tm hp ht hh
 obtain ⟨TM, g1, g2⟩ := evOps_mono (callE_ok tb) (SubT.refl tm) he
 obtain ⟨r, hE, hQ⟩ := hR TM g1
 refine ⟨r, (g2.and hE).mono fun K ⟨e1, e2⟩ => ?_, hQ⟩
 have := evOpsX_pre (callLe_X (cfg := cfg) K) (cfg := cfg) (d := d) (post := rest.drop k) e1
 rw [List.take_append_drop] at this
 rw [this]
 exact e2
theorem XEnd.O {ops rest : List Oper} (h : XO cfg tb n ops rest E s hs d Q) : End E s hs (fun tm h => ∃ r, (Evt fun K => evOpsX cfg tb (evCallX cfg tb (runX cfg tb K)) n ops rest tm h d = some r) ∧ Q r) := h

def SpecX (cfg : XCfg) (tb : Tab) (f : Nat) (args : List AV) (S : List Nat) (hs : HSt) (Post : AV → HSt → Prop) (B : List AV → Prop) : Prop :=
 ∀ h, HS ⟨h, S⟩ hs h → ∃ r, (Evt fun K => evCallX cfg tb (runX cfg tb K) f args h = some r) ∧ match r with
  | .ret v h' => ∃ D, Post v D ∧ (∀ e ∈ D, e.w = true) ∧ HS ⟨h, S⟩ D h'
  | .boom l h' => B l ∧ Fr S h h'
theorem Spec.x [Shy cfg tb] {f : Nat} {args : List AV} {S : List Nat} {Post : AV → HSt → Prop} {B : List AV → Prop} (h : Spec tb f args S hs Post) : SpecX cfg tb f args S hs Post B := by
 intro h0 hh
 obtain ⟨v, h', D, hE, hP, hw, hD⟩ := h h0 hh
 exact ⟨.ret v h', hE.mono fun K e => call_X e, D, hP, hw, hD⟩
theorem SpecX.mono {f : Nat} {args : List AV} {S : List Nat} {Post Post' : AV → HSt → Prop} {B B' : List AV → Prop} (h : SpecX cfg tb f args S hs Post B) (hp : ∀ v D, Post v D → Post' v D) (hb : ∀ l, B l → B' l) : SpecX cfg tb f args S hs Post' B' := by
 intro h0 hh
 obtain ⟨r, hE, hR⟩ := h h0 hh
 refine ⟨r, hE, ?_⟩
 cases r with
 | ret v h' => obtain ⟨D, a, b, c⟩ := hR; exact ⟨D, hp _ _ a, b, c⟩
 | boom l h' => exact ⟨hb _ hR.1, hR.2⟩
theorem SpecX.thr {f : Nat} {args l : List AV} {S : List Nat} {Post : AV → HSt → Prop} {B : List AV → Prop} (ho : ∀ h, tb.orc f args h = none) (ht : cfg.thr f args = some l) (hb : B l) : SpecX cfg tb f args S hs Post B := by
 intro h hh
 refine ⟨.boom l h, Evt.of fun K => ?_, hb, Fr.refl S h⟩
 unfold evCallX
 rw [ho, ht]
theorem HS.backS {h h' : AHeap} {M A D : HSt} (hh : HS E (M ++ A) h) (hM : ∀ e ∈ M, e.w = true) (hw : ∀ e ∈ D, e.w = true) (hD : HS ⟨h, M.map (·.b)⟩ D h') : HS E (D ++ A) h' := by
 have hnd := hh.nd
 rw [List.map_append] at hnd
 obtain ⟨n1, n2, n3⟩ := List.nodup_append.1 hnd
 have hne : ∀ e ∈ A, e.b ∉ M.map (·.b) := fun e he hm => n3 e.b hm e.b (List.mem_map.2 ⟨e, he, rfl⟩) rfl
 have hA : ∀ e ∈ A, _ := fun e he => hh.at_ e (List.mem_append_right _ he)
 have hMa : ∀ e ∈ M, _ := fun e he => hh.at_ e (List.mem_append_left _ he)
 have hfr := hD.fr
 refine ⟨fun e he => ?_, ?_, ?_, fun c hc hcS => ?_⟩
 ·rcases List.mem_append.1 he with he | he
  ·obtain ⟨a1, a2, a3⟩ := hD.at_ e he
   refine ⟨a1, a2, fun hw' => ?_⟩
   rcases a3 hw' with b1 | b1
   ·exact .inl (Nat.le_trans hh.fr.1 b1)
   ·obtain ⟨x, hx, hxe⟩ := List.mem_map.1 b1
    rw [← hxe]
    exact (hMa x hx).2.2 (hM x hx)
  ·obtain ⟨a1, a2, a3⟩ := hA e he
   refine ⟨?_, Nat.lt_of_lt_of_le a2 hfr.1, a3⟩
   rw [hfr.2 e.b a2 (hne e he)]
   exact a1
 ·rw [List.map_append]
  refine List.nodup_append.2 ⟨hD.nd, n2, ?_⟩
  intro a ha' b hb' hab
  obtain ⟨x, hx, rfl⟩ := List.mem_map.1 ha'
  obtain ⟨y, hy, rfl⟩ := List.mem_map.1 hb'
  have h1 := (hA y hy).2.1
  have hab : x.b = y.b := hab
  rcases (hD.at_ x hx).2.2 (hw x hx) with b1 | b1
  ·have b1 : h.next ≤ x.b := b1
   omega
  ·exact hne y hy (hab ▸ b1)
 ·exact Nat.le_trans hh.fr.1 hfr.1
 ·have hcb : c ∉ M.map (·.b) := by
   intro hm
   obtain ⟨x, hx, rfl⟩ := List.mem_map.1 hm
   rcases (hMa x hx).2.2 (hM x hx) with g | g
   ·omega
   ·exact hcS g
  rw [hfr.2 c (Nat.lt_of_lt_of_le hc hh.fr.1) hcb]
  exact hh.fr.2 c hc hcS
theorem HS.frS {h h' : AHeap} {M A : HSt} (hh : HS E (M ++ A) h) (hM : ∀ e ∈ M, e.w = true) (hf : Fr (M.map (·.b)) h h') : HS E A h' := by
 have := HS.backS (D := []) hh hM (fun e he => no_w he) ⟨fun e he => (by simp at he), List.nodup_nil, hf⟩
 simpa using this
theorem HS.enterS {h : AHeap} {M A hsc : HSt} (hh : HS E (M ++ A) h) (hsub : SubR hsc A) : HS ⟨h, M.map (·.b)⟩ (M ++ hsc) h := by
 have hnd := hh.nd
 rw [List.map_append] at hnd
 obtain ⟨n1, n2, n3⟩ := List.nodup_append.1 hnd
 refine ⟨fun e he => ?_, ?_, Fr.refl _ _⟩
 ·rcases List.mem_append.1 he with he | he
  ·obtain ⟨a1, a2, a3⟩ := hh.at_ e (List.mem_append_left _ he)
   exact ⟨a1, a2, fun _ => .inr (List.mem_map.2 ⟨e, he, rfl⟩)⟩
  ·obtain ⟨hw, w, hm⟩ := hsub.1 e he
   obtain ⟨a1, a2, a3⟩ := hh.at_ _ (List.mem_append_right _ hm)
   exact ⟨a1, a2, fun h' => by rw [hw] at h'; cases h'⟩
 ·rw [List.map_append]
  refine List.nodup_append.2 ⟨n1, hsub.2 n2, ?_⟩
  intro a ha' b hb hab
  obtain ⟨y, hy, rfl⟩ := List.mem_map.1 hb
  obtain ⟨hw, w, hm⟩ := hsub.1 y hy
  exact n3 a ha' y.b (List.mem_map.2 ⟨_, hm, rfl⟩) hab
theorem XO.call {ops rest : List Oper} {k : Nat} {ty : TypeId} {pos : String} {aft : Array Edge} {of : Operand} {args : List Operand} {ts : Array TypeId} {g : Nat} {caps l l' : List AV} {M A hsc : HSt} {Post : AV → HSt → Prop} {B : List AV → Prop}
  (hf : oL s of = some (.func g caps)) (ha : oLs s args = some l) (hl : argsOf l caps = l') (hM : ∀ e ∈ M, e.w = true) (hs_ : SubH (M ++ A) hs) (hsp : SpecX cfg tb g l' (M.map (·.b)) (M ++ hsc) Post B) (hsub : SubR hsc A) (hd : Nat.blt k n = true)
  (hb : ∀ l, B l → End E s A fun tm h => Q (.boom l tm h d)) (hk : ∀ v D, Post v D → XO cfg tb n ops rest E ((k, v) :: s) (D ++ A) d Q) :
  XO cfg tb n ops (⟨some k, .call ⟨.value of, args.toArray, ts⟩, ty, pos, aft, none⟩ :: rest) E s hs d Q := by
 intro tm h ht hh0
 have hh := hh0.sub hs_
 obtain ⟨r, hE, hR⟩ := hsp h (hh.enterS hsub)
 have hv : ∀ c : XCall, callNow c ops tm h ⟨some k, .call ⟨.value of, args.toArray, ts⟩, ty, pos, aft, none⟩ = some (c g l' h) := by
  intro c
  unfold callNow valCall wantedA
  simp only [oL_ok ht hf, oLs_ok ht ha]
  subst hl
  unfold argsOf
  cases isMeth caps <;> rfl
 cases r with
 | ret v h' =>
  obtain ⟨D, hP, hw, hD⟩ := hR
  obtain ⟨r2, hE2, hQ2⟩ := hk v D hP (tm.set k v) h' (ht.set k v) (hh.backS hM hw hD)
  refine ⟨r2, (hE.and hE2).mono fun K ⟨e1, e2⟩ => ?_, hQ2⟩
  conv => lhs; unfold evOpsX
  rw [hv, e1]
  simp only [putDst_at hd]
  exact e2
 | boom l h' =>
  refine ⟨.boom l tm h' d, hE.mono fun K e1 => ?_, hb l hR.1 tm h' ht (hh.frS hM hR.2)⟩
  conv => lhs; unfold evOpsX
  rw [hv, e1]
def RetX (tb : Tab) (rs : List ResultVar) (E : Env) (Post : AV → HSt → Prop) (B : List AV → Prop) : RRes → Prop
 | .go .normal tm h none => RetQ tb rs E Post .normal tm h
 | .go .ret tm h none => RetQ tb rs E Post .ret tm h
 | .boom l tm h none => B l ∧ Fr E.S E.h0 h
 | _ => False
theorem XEnd.ret {rs : List ResultVar} {Post : AV → HSt → Prop} {B : List AV → Prop} {l : List AV} {hs' : HSt} (hr : ResL tb s hs rs l) (hP : Post (oneOf l) hs') (hw : ∀ e ∈ hs', e.w = true) (hsub : SubH hs' hs) : End E s hs (fun tm h => RetX tb rs E Post B (.go .ret tm h none)) := End.ret hr hP hw hsub
theorem XEnd.fall {rs : List ResultVar} {Post : AV → HSt → Prop} {B : List AV → Prop} {l : List AV} {hs' : HSt} (hr : ResL tb s hs rs l) (hP : Post (oneOf l) hs') (hw : ∀ e ∈ hs', e.w = true) (hsub : SubH hs' hs) : End E s hs (fun tm h => RetX tb rs E Post B (.go .normal tm h none)) := End.fall hr hP hw hsub
theorem XEnd.boom {rs : List ResultVar} {Post : AV → HSt → Prop} {B : List AV → Prop} {l : List AV} (hb : B l) : End E s hs (fun tm h => RetX tb rs E Post B (.boom l tm h none)) := fun tm h ht hh => ⟨hb, hh.fr⟩
theorem SpecX.enter {f : Nat} {args : List AV} {S : List Nat} {Post : AV → HSt → Prop} {B : List AV → Prop} {fn : Func} {c : Code} {m : Nat} {rs : List ResultVar} {st : St} (hf : tb.ft.get f = some fn) (hb : fn.body = some c) (hm : fn.ntmps = m) (hr : fn.results.toList = rs) (hst : argSt 0 args = st)
  (hn : Nat.ble args.length m = true) (ho : ∀ h, tb.orc f args h = none) (hth : cfg.thr f args = none)
  (hk : ∀ E, X cfg tb m c E st hs none (RetX tb rs E Post B)) : SpecX cfg tb f args S hs Post B := by
 subst hm hr hst
 intro h hh
 obtain ⟨r, hE, hQ⟩ := hk ⟨h, S⟩ (argTmps 0 args .leaf) h (has_args args) hh
 have fin : ∀ tm h', (∃ l hs', resultsA tb tm h' fn.results.toList = some l ∧ Post (oneOf l) hs' ∧ (∀ e ∈ hs', e.w = true) ∧ HS ⟨h, S⟩ hs' h') → ∀ ex, (∀ i, ex ≠ .exit i) → (Evt fun K => runX cfg tb K fn.ntmps c (argTmps 0 args .leaf) h none = some (.go ex tm h' none)) →
   ∃ r, (Evt fun K => evCallX cfg tb (runX cfg tb K) f args h = some r) ∧ match r with
    | .ret v h' => ∃ D, Post v D ∧ (∀ e ∈ D, e.w = true) ∧ HS ⟨h, S⟩ D h'
    | .boom l h' => B l ∧ Fr S h h' := by
  rintro tm h' ⟨l, hs', h1, h2, h3, h4⟩ ex hex hE
  refine ⟨.ret (oneOf l) h', hE.mono fun K hK => ?_, hs', h2, h3, h4⟩
  unfold evCallX
  simp only [ho h, hth, hf, hb, hn, hK]
  cases ex with
  | exit i => exact absurd rfl (hex i)
  | normal => show endX tb _ _ _ = _; unfold endX; rw [h1]
  | ret => show endX tb _ _ _ = _; unfold endX; rw [h1]
 cases r with
 | go ex tm h' dd =>
  cases dd with
  | some x => cases ex <;> exact hQ.elim
  | none =>
   cases ex with
   | exit i => exact hQ.elim
   | normal => exact fin tm h' hQ .normal (fun i => by simp) hE
   | ret => exact fin tm h' hQ .ret (fun i => by simp) hE
 | boom l tm h' dd =>
  cases dd with
  | some x => exact hQ.elim
  | none =>
   refine ⟨.boom l h', hE.mono fun K hK => ?_, hQ⟩
   unfold evCallX
   simp only [ho h, hth, hf, hb, hn, hK]
   rfl
end
end
end Go.Proofs.YtfkbfnpjggkdmaaGreatDoor.Ev
/- The tables of the program alone. -/
namespace Go.Proofs.YtfkbfnpjggkdmaaGreatDoor.Ev.P7
open Go.RowKit
noncomputable def tab : Tab := (tabOf Tryz.prog).knows (fun _ _ _ _ => none) (fun _ _ => none) (fun _ _ _ => none)
theorem ag213 : tab.isAgg 213 = some true := by kernel_rfl
theorem ag24 : tab.isAgg 24 = some true := by kernel_rfl
theorem ag3 : tab.isAgg 3 = some false := by kernel_rfl
theorem ag51 : tab.isAgg 51 = some false := by kernel_rfl
theorem ag53 : tab.isAgg 53 = some true := by kernel_rfl
theorem ag9 : tab.isAgg 9 = some false := by kernel_rfl
theorem ao213 : AO tab 213 = some ⟨1, true, [.int .i64 0, .int .i64 0, .int .i64 0]⟩ := by kernel_rfl
theorem ao53 : AO tab 53 = some ⟨11, true, [.int .i64 0, .str [], .int .i64 0, .nils, .int .i64 0, .int .i64 0, .int .i64 0, .nils, .int .i64 0, .bool false, .nils]⟩ := by kernel_rfl
theorem ap25_25 : AP tab 25 25 = some 1 := by kernel_rfl
theorem ap50_50 : AP tab 50 50 = some 1 := by kernel_rfl
theorem bx53 : ∀ l : List AV, l.length = 11 → varObj tab 53 l = ⟨11, true, l⟩ := by intro l h; exact varObj_plain (by kernel_rfl) h
theorem bx62 : ∀ l : List AV, l.length = 3 → varObj tab 62 l = ⟨3, true, l⟩ := by intro l h; exact varObj_plain (by kernel_rfl) h
theorem fa53_0 : FA tab 53 0 = some (0, 0 + 1) := by kernel_rfl
theorem fa53_1 : FA tab 53 1 = some (1, 0 + 1) := by kernel_rfl
theorem fa53_10 : FA tab 53 10 = some (10, 0 + 1) := by kernel_rfl
theorem fa53_4 : FA tab 53 4 = some (4, 0 + 1) := by kernel_rfl
theorem fa62_0 : FA tab 62 0 = some (0, 0 + 1) := by kernel_rfl
theorem fa62_1 : FA tab 62 1 = some (1, 0 + 1) := by kernel_rfl
theorem fa62_2 : FA tab 62 2 = some (2, 0 + 1) := by kernel_rfl
theorem pl213 : PL tab 213 [.int .i64 0, .int .i64 0, .int .i64 0] [(0, 1), (1, 1), (2, 1)] = true := by kernel_rfl
theorem sz213 : tab.size 213 = some 3 := by kernel_rfl
theorem sz3 : tab.size 3 = some 1 := by kernel_rfl
theorem sz53 : tab.size 53 = some 11 := by kernel_rfl
theorem sz9 : tab.size 9 = some 1 := by kernel_rfl
theorem ud212 : tab.und 212 = some (.array 3 3) := by kernel_rfl
theorem ud25 : tab.und 25 = some (.slice 3) := by kernel_rfl
theorem ud3 : tab.und 3 = some (.int .i64) := by kernel_rfl
theorem ud4 : tab.und 4 = some .bool := by kernel_rfl
theorem ud50 : tab.und 50 = some (.slice 9) := by kernel_rfl
theorem ud51 : tab.und 51 = some (.slice 53) := by kernel_rfl
theorem ud9 : tab.und 9 = some .string := by kernel_rfl
theorem zr3 : tab.zero 3 = some (.int .i64 0) := by kernel_rfl
theorem zr9 : tab.zero 9 = some (.str []) := by kernel_rfl
end Go.Proofs.YtfkbfnpjggkdmaaGreatDoor.Ev.P7
