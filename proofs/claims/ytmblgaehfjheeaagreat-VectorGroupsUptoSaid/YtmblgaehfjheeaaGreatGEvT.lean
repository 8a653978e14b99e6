/- The quick evaluator, part 3: regions, code, calls. What it gives, the evaluator gives. -/
import Derived.Test.YtmblgaehfjheeaaGreatGEvV
namespace Go.Proofs.YtmblgaehfjheeaaGreat.Ev
open Go.RowKit
set_option linter.unusedVariables false
set_option linter.unusedSimpArgs false
noncomputable section

inductive OR where
 | bad
 | ok (tm : T AV) (h : AHeap)
abbrev QReg := CallQ → T AV → List AV → AHeap → OR
abbrev QK := CallQ → T AV → List AV → AHeap → AV → OR

def qThen (o : QO) (k : QK) : Bx QReg :=
 match o with
 | .q f => ⟨fun call tm l h => Option.rec (motive := fun _ => OR) .bad (fun v => k call tm l h v) (f tm l h)⟩
 | .l f => ⟨fun call tm l h => VH.rec (motive := fun _ => OR) .bad (fun v h' => k call tm l h' v) (f call tm l h)⟩
 | .r f => ⟨fun call tm l h => Res.rec (motive := fun _ => OR) (fun x => Option.rec (motive := fun _ => OR) .bad (fun v => k call tm l h v) x) (fun x => Option.rec (motive := fun _ => OR) .bad (fun p => k call tm l p.2 p.1) x) (f tm l h)⟩
theorem vhrec {R : Type} {d r : R} {k : AV → AHeap → R} {x : VH} (h : VH.rec (motive := fun _ => R) d k x = r) (hne : d ≠ r) : ∃ v g, x = .ok v g ∧ k v g = r := by
 cases x with
 | bad => exact absurd h hne
 | ok v g => exact ⟨v, g, rfl, h⟩
theorem qThen_ok {tb : Tab} {esc : Nat} {loc : List Nat} {op : Op} {o : QO} (ho : OpOK tb esc loc op o) {k : QK} {callq : CallQ} (hc : CallsOK tb callq) {tm TM : T AV} {l : List AV} {h : AHeap} {tm' : T AV} {h' : AHeap}
  (hs : Sub esc tm TM) (hl : Loc loc l TM) (e : (qThen o k).f callq tm l h = .ok tm' h') :
  ∃ v h1, k callq tm l h1 v = .ok tm' h' ∧ Evt fun K => (evOp tb (evCall tb (run tb K)) TM h op = .q (some v) ∧ h1 = h) ∨ evOp tb (evCall tb (run tb K)) TM h op = .l (some (v, h1)) := by
 cases o with
 | q f =>
  obtain ⟨v, hv, e⟩ := orec (e : Option.rec (motive := fun _ => OR) .bad (fun v => k callq tm l h v) (f tm l h) = _) (by simp)
  exact ⟨v, h, e, Evt.of fun K => .inl ⟨ho _ _ _ _ _ hs hl hv _, rfl⟩⟩
 | l f =>
  obtain ⟨v, g, hv, e⟩ := vhrec (e : VH.rec (motive := fun _ => OR) .bad (fun v h' => k callq tm l h' v) (f callq tm l h) = _) (by simp)
  exact ⟨v, g, e, (ho callq hc _ _ _ _ _ _ hs hl hv).mono fun K hK => .inr hK⟩
 | r f =>
  have e : Res.rec (motive := fun _ => OR) (fun x => Option.rec (motive := fun _ => OR) .bad (fun v => k callq tm l h v) x) (fun x => Option.rec (motive := fun _ => OR) .bad (fun p => k callq tm l p.2 p.1) x) (f tm l h) = .ok tm' h' := e
  obtain ⟨hq, hl'⟩ := ho tm l h TM hs hl
  cases hf : f tm l h with
  | q x =>
   rw [hf] at e
   obtain ⟨v, hv, e⟩ := orec (e : Option.rec (motive := fun _ => OR) .bad (fun v => k callq tm l h v) x = _) (by simp)
   subst hv
   exact ⟨v, h, e, Evt.of fun K => .inl ⟨hq v hf _, rfl⟩⟩
  | l x =>
   rw [hf] at e
   obtain ⟨⟨v, g⟩, hv, e⟩ := orec (e : Option.rec (motive := fun _ => OR) .bad (fun p => k callq tm l p.2 p.1) x = _) (by simp)
   subst hv
   exact ⟨v, g, e, Evt.of fun K => .inr (hl' v g hf _)⟩

def qWant (loc : List Nat) (ops : List Oper) (j : Nat) : Bx G :=
 match ops[j]? with
 | some oj => match oj.dst with
  | some d => qOd loc (.tmp d)
  | none => ⟨fun _ _ => none⟩
 | none => ⟨fun _ _ => none⟩
def qGuard (tb : Tab) (loc : List Nat) (ops : List Oper) (o : Oper) (k : QK) : Bx QReg :=
 match o.guard with
 | none => qThen (qOp tb loc o.op) k
 | some (j, want) => match qThen (qOp tb loc o.op) k, qWant loc ops j with
  | ⟨f⟩, ⟨g⟩ => match want with
   | true => ⟨fun call tm l h => Option.rec (motive := fun _ => OR) .bad (fun v => asWant .bad (f call tm l h) (k call tm l h (.tuple [])) (k call tm l h (.tuple [])) v) (g tm l)⟩
   | false => ⟨fun call tm l h => Option.rec (motive := fun _ => OR) .bad (fun v => asWant .bad (k call tm l h (.tuple [])) (f call tm l h) (k call tm l h (.tuple [])) v) (g tm l)⟩
theorem asWant_ne {R : Type} {d t f e r : R} {v : AV} (h : asWant d t f e v = r) (hne : d ≠ r) : (v = .bool true ∧ t = r) ∨ (v = .bool false ∧ f = r) ∨ (v = .tuple [] ∧ e = r) := by
 cases v with
 | bool b => cases b with
  | true => exact .inl ⟨rfl, h⟩
  | false => exact .inr (.inl ⟨rfl, h⟩)
 | tuple l => cases l with
  | nil => exact .inr (.inr ⟨rfl, h⟩)
  | cons x l => exact absurd h hne
 | _ => exact absurd h hne
theorem qGuard_ok {tb : Tab} {esc : Nat} {loc : List Nat} {ops : List Oper} {o : Oper} {k : QK} {callq : CallQ} (hc : CallsOK tb callq) {tm TM : T AV} {l : List AV} {h : AHeap} {tm' : T AV} {h' : AHeap}
  (hs : Sub esc tm TM) (hl : Loc loc l TM) (e : (qGuard tb loc ops o k).f callq tm l h = .ok tm' h') :
  ∃ v h1, k callq tm l h1 v = .ok tm' h' ∧ Evt fun K => ∃ kd, ev1 tb (evCall tb (run tb K)) ops TM h o = some (v, h1, kd) := by
 have opk : ∀ {g : AHeap}, wantedA ops TM o = some true → (qThen (qOp tb loc o.op) k).f callq tm l h = .ok tm' h' →
   ∃ v h1, k callq tm l h1 v = .ok tm' h' ∧ Evt fun K => ∃ kd, ev1 tb (evCall tb (run tb K)) ops TM h o = some (v, h1, kd) := by
  intro _ hw e
  obtain ⟨v, h1, hk, hE⟩ := qThen_ok qOp_ok hc hs hl e
  refine ⟨v, h1, hk, hE.mono fun K hK => ?_⟩
  unfold ev1
  rw [hw]
  rcases hK with ⟨hK, rfl⟩ | hK
  ·exact ⟨1, by simp only [hK]⟩
  ·exact ⟨2, by simp only [hK]⟩
 have off : wantedA ops TM o = some false → k callq tm l h (.tuple []) = .ok tm' h' →
   ∃ v h1, k callq tm l h1 v = .ok tm' h' ∧ Evt fun K => ∃ kd, ev1 tb (evCall tb (run tb K)) ops TM h o = some (v, h1, kd) := by
  intro hw e
  exact ⟨_, _, e, Evt.of fun K => ⟨0, by unfold ev1; rw [hw]⟩⟩
 unfold qGuard at e
 cases hg : o.guard with
 | none =>
  rw [hg] at e
  exact opk (g := h) (by unfold wantedA; rw [hg]) e
 | some p =>
  obtain ⟨j, want⟩ := p
  rw [hg] at e
  simp only at e
  cases hf : qThen (qOp tb loc o.op) k with
  | mk f =>
   have opk := @opk h
   rw [hf] at e opk
   simp only at e opk
   unfold qWant at e
   cases hj : ops[j]? with
   | none =>
    rw [hj] at e
    cases want <;> cases e
   | some oj =>
    rw [hj] at e
    simp only at e
    cases hd : oj.dst with
    | none =>
     rw [hd] at e
     cases want <;> cases e
    | some d =>
     rw [hd] at e
     simp only at e
     cases hq : qOd loc (.tmp d) with
     | mk g =>
      rw [hq] at e
      have hwant : ∀ v, g tm l = some v → TM.get d = some v := fun v hv => qOd_ok hs hl (x := .tmp d) (by rw [hq]; exact hv)
      cases want with
      | true =>
       obtain ⟨v, hv, e⟩ := orec (e : Option.rec (motive := fun _ => OR) .bad (fun v => asWant .bad (f callq tm l h) (k callq tm l h (.tuple [])) (k callq tm l h (.tuple [])) v) (g tm l) = _) (by simp)
       have hv := hwant v hv
       rcases asWant_ne e (by simp) with ⟨rfl, e⟩ | ⟨rfl, e⟩ | ⟨rfl, e⟩
       ·exact opk (by unfold wantedA; rw [hg]; simp only [hj, hd, hv]; rfl) e
       ·exact off (by unfold wantedA; rw [hg]; simp only [hj, hd, hv]; rfl) e
       ·exact off (by unfold wantedA; rw [hg]; simp only [hj, hd, hv]) e
      | false =>
       obtain ⟨v, hv, e⟩ := orec (e : Option.rec (motive := fun _ => OR) .bad (fun v => asWant .bad (k callq tm l h (.tuple [])) (f callq tm l h) (k callq tm l h (.tuple [])) v) (g tm l) = _) (by simp)
       have hv := hwant v hv
       rcases asWant_ne e (by simp) with ⟨rfl, e⟩ | ⟨rfl, e⟩ | ⟨rfl, e⟩
       ·exact off (by unfold wantedA; rw [hg]; simp only [hj, hd, hv]; rfl) e
       ·exact opk (by unfold wantedA; rw [hg]; simp only [hj, hd, hv]; rfl) e
       ·exact off (by unfold wantedA; rw [hg]; simp only [hj, hd, hv]) e

def qOps (tb : Tab) (esc n : Nat) (ops : List Oper) : List Nat → List Oper → Bx QReg
 | loc, [] => ⟨fun _ tm _ h => .ok tm h⟩
 | loc, o :: rest => match o.dst with
  | none => match qOps tb esc n ops loc rest with
   | ⟨r⟩ => qGuard tb loc ops o fun call tm l h _ => r call tm l h
  | some d => match Nat.blt d n, qOps tb esc n ops (d :: loc) rest, Nat.testBit esc d with
   | false, _, _ => ⟨fun _ _ _ _ => .bad⟩
   | true, ⟨r⟩, false => qGuard tb loc ops o fun call tm l h v => r call tm (v :: l) h
   | true, ⟨r⟩, true => match stSet (Nat.succ d) d with
    | ⟨p⟩ => qGuard tb loc ops o fun call tm l h v => r call (p tm v) (v :: l) h
theorem qOps_ok {tb : Tab} {esc n : Nat} {ops : List Oper} {callq : CallQ} (hc : CallsOK tb callq) {tm' : T AV} {h' : AHeap} : ∀ {rest : List Oper} {loc : List Nat} {tm TM : T AV} {l : List AV} {h : AHeap}, Sub esc tm TM → Loc loc l TM →
  (qOps tb esc n ops loc rest).f callq tm l h = .ok tm' h' → ∃ TM', Sub esc tm' TM' ∧ Evt fun K => evOps tb (evCall tb (run tb K)) n ops rest TM h = some (TM', h')
 | [], loc, tm, TM, l, h, hs, hl, e => by
  have e : OR.ok tm h = .ok tm' h' := e
  simp only [OR.ok.injEq] at e
  obtain ⟨rfl, rfl⟩ := e
  exact ⟨TM, hs, Evt.of fun K => rfl⟩
 | o :: rest, loc, tm, TM, l, h, hs, hl, e => by
  unfold qOps at e
  cases hd : o.dst with
  | none =>
   rw [hd] at e
   simp only at e
   cases hr : qOps tb esc n ops loc rest with
   | mk r =>
    rw [hr] at e
    obtain ⟨v, h1, hk, hE⟩ := qGuard_ok hc hs hl e
    obtain ⟨TM', hs', hE'⟩ := qOps_ok hc (rest := rest) hs hl (by rw [hr]; exact hk)
    refine ⟨TM', hs', (hE.and hE').mono fun K ⟨⟨kd, hK⟩, hK'⟩ => ?_⟩
    unfold evOps
    simp only [hK, hd, putDst, hK']
  | some d =>
   rw [hd] at e
   simp only at e
   cases hb : Nat.blt d n with
   | false => rw [hb] at e; cases e
   | true =>
    rw [hb] at e
    cases hr : qOps tb esc n ops (d :: loc) rest with
    | mk r =>
     rw [hr] at e
     cases ht : Nat.testBit esc d with
     | false =>
      rw [ht] at e
      simp only at e
      obtain ⟨v, h1, hk, hE⟩ := qGuard_ok hc hs hl e
      obtain ⟨TM', hs', hE'⟩ := qOps_ok hc (rest := rest) (hs.pass ht) (hl.push (d := d) (v := v)) (by rw [hr]; exact hk)
      refine ⟨TM', hs', (hE.and hE').mono fun K ⟨⟨kd, hK⟩, hK'⟩ => ?_⟩
      unfold evOps
      simp only [hK, hd, putDst, hb, hK']
     | true =>
      rw [ht] at e
      simp only at e
      have hset : ∀ m v, (stSet (Nat.succ d) d).f m v = m.set d v := fun m v => stSet_eq _ _ m v (Nat.lt_succ_self d)
      cases hp : stSet (Nat.succ d) d with
      | mk p =>
       rw [hp] at e hset
       simp only at hset
       obtain ⟨v, h1, hk, hE⟩ := qGuard_ok hc hs hl e
       simp only [hset] at hk
       obtain ⟨TM', hs', hE'⟩ := qOps_ok hc (rest := rest) (hs.put ht) (hl.push (d := d) (v := v)) (by rw [hr]; exact hk)
       refine ⟨TM', hs', (hE.and hE').mono fun K ⟨⟨kd, hK⟩, hK'⟩ => ?_⟩
       unfold evOps
       simp only [hK, hd, putDst, hb, hK']

abbrev QRun := CallQ → Nat → T AV → AHeap → CR

def qCode (tb : Tab) (esc n : Nat) : Code → Bx QRun
 | .skip => ⟨fun _ _ tm h => .norm tm h⟩
 | .label _ => ⟨fun _ _ tm h => .norm tm h⟩
 | .ret => ⟨fun _ _ tm h => .ret tm h⟩
 | .exit id => ⟨fun _ _ tm h => .exit id tm h⟩
 | .region _ ops draw => match (match draw with
   | true => match drawOk ops.toList, drawFree ops.toList with
    | true, true => true
    | _, _ => false
   | false => true) with
  | true => match qOps tb esc n ops.toList [] ops.toList with
   | ⟨r⟩ => ⟨fun call _ tm h => OR.rec (motive := fun _ => CR) .bad (fun tm' h' => .norm tm' h') (r call tm [] h)⟩
  | false => match draw, keysIn esc ops.toList, ops.toList with
   | true, true, l => ⟨fun call _ tm h => Option.rec (motive := fun _ => CR) .bad (fun p => .norm p.1 p.2) (evDraw tb (callOf call) n l tm h)⟩
   | _, _, _ => ⟨fun _ _ _ _ => .bad⟩
 | .seq a b => match qCode tb esc n a, qCode tb esc n b with
  | ⟨f⟩, ⟨g⟩ => ⟨fun call k tm h => CR.rec (motive := fun _ => CR) .bad (fun tm' h' => g call k tm' h') (fun tm' h' => .ret tm' h') (fun i tm' h' => .exit i tm' h') (f call k tm h)⟩
 | .cond x a b => match qOd [] x, qCode tb esc n a, qCode tb esc n b with
  | ⟨c⟩, ⟨f⟩, ⟨g⟩ => ⟨fun call k tm h => Option.rec (motive := fun _ => CR) .bad (fun v => asBool .bad (fun t => Bool.rec (motive := fun _ => CR) (g call k tm h) (f call k tm h) t) v) (c tm [])⟩
 | .block id b => match qCode tb esc n b with
  | ⟨f⟩ => ⟨fun call k tm h => CR.rec (motive := fun _ => CR) .bad (fun tm' h' => .norm tm' h') (fun tm' h' => .ret tm' h') (fun j tm' h' => Bool.rec (motive := fun _ => CR) (.exit j tm' h') (.norm tm' h') (Nat.beq j id)) (f call k tm h)⟩
 | .loop b => match qCode tb esc n b with
  | ⟨f⟩ => ⟨fun call k tm h => Nat.rec (motive := fun _ => T AV → AHeap → CR) (fun _ _ => .bad)
    (fun _ ih tm h => CR.rec (motive := fun _ => CR) .bad (fun tm' h' => ih tm' h') (fun tm' h' => .ret tm' h') (fun j tm' h' => .exit j tm' h') (f call k tm h)) k tm h⟩
 | _ => ⟨fun _ _ _ _ => .bad⟩

def EndOK (tb : Tab) (esc n : Nat) (c : Code) (TM : T AV) (h : AHeap) : CR → Prop
 | .bad => True
 | .norm tm' h' => ∃ TM', Sub esc tm' TM' ∧ Evt fun K => run tb K n c TM h = some (.normal, TM', h')
 | .ret tm' h' => ∃ TM', Sub esc tm' TM' ∧ Evt fun K => run tb K n c TM h = some (.ret, TM', h')
 | .exit i tm' h' => ∃ TM', Sub esc tm' TM' ∧ Evt fun K => run tb K n c TM h = some (.exit i, TM', h')

theorem run_succ (tb : Tab) (K n : Nat) (c : Code) (tm : T AV) (h : AHeap) : run tb (K + 1) n c tm h = evCode tb (evCall tb (run tb K)) n (run tb K n) c tm h := rfl

theorem qCode_ok {tb : Tab} {esc n : Nat} {callq : CallQ} (hc : CallsOK tb callq) (k : Nat) : ∀ (c : Code) (tm TM : T AV) (h : AHeap), Sub esc tm TM → EndOK tb esc n c TM h ((qCode tb esc n c).f callq k tm h) := by
 intro c
 induction c with
 | skip => intro tm TM h hs; exact ⟨TM, hs, (Evt.of (p := fun _ => True) fun _ => trivial).step fun K _ => rfl⟩
 | label l => intro tm TM h hs; exact ⟨TM, hs, (Evt.of (p := fun _ => True) fun _ => trivial).step fun K _ => rfl⟩
 | ret => intro tm TM h hs; exact ⟨TM, hs, (Evt.of (p := fun _ => True) fun _ => trivial).step fun K _ => rfl⟩
 | exit id => intro tm TM h hs; exact ⟨TM, hs, (Evt.of (p := fun _ => True) fun _ => trivial).step fun K _ => rfl⟩
 | region id ops draw =>
  intro tm TM h hs
  have hreg : (match draw with
    | true => match drawOk ops.toList, drawFree ops.toList with
     | true, true => true
     | _, _ => false
    | false => true) = true → ∀ call TM h, (match draw with
    | true => evDraw tb call n ops.toList TM h
    | false => evOps tb call n ops.toList ops.toList TM h) = evOps tb call n ops.toList ops.toList TM h := by
   intro hd call TM h
   cases draw with
   | false => rfl
   | true =>
    simp only at hd
    cases h1 : drawOk ops.toList with
    | false => rw [h1] at hd; cases hd
    | true =>
     cases h2 : drawFree ops.toList with
     | false => rw [h1, h2] at hd; cases hd
     | true => simp only [evDraw, h1, h2]
  unfold qCode
  cases hd : (match draw with
    | true => match drawOk ops.toList, drawFree ops.toList with
     | true, true => true
     | _, _ => false
    | false => true) with
  | false =>
   cases draw with
   | false => trivial
   | true =>
    simp only
    cases hk : keysIn esc ops.toList with
    | false => trivial
    | true =>
     show EndOK tb esc n _ TM h (Option.rec (motive := fun _ => CR) .bad (fun p => .norm p.1 p.2) (evDraw tb (callOf callq) n ops.toList tm h))
     cases ho : evDraw tb (callOf callq) n ops.toList tm h with
     | none => trivial
     | some p =>
      obtain ⟨tm', h'⟩ := p
      obtain ⟨TM', hs', hE⟩ := evDraw_mono hc (fun k v hv => (hs k v hv).2) ho
      have hkeys := evDraw_keys (esc := esc) (fun k v hv => (hs k v hv).1) hk ho
      refine ⟨TM', fun k v hv => ⟨hkeys k v hv, hs' k v hv⟩, hE.step fun K hK => ?_⟩
      rw [run_succ]
      unfold evCode
      simp only
      rw [hK]
  | true =>
   have hreg := hreg hd
   cases hr : qOps tb esc n ops.toList [] ops.toList with
   | mk r =>
    show EndOK tb esc n _ TM h (OR.rec (motive := fun _ => CR) .bad (fun tm' h' => .norm tm' h') (r callq tm [] h))
    cases ho : r callq tm [] h with
    | bad => trivial
    | ok tm' h' =>
     obtain ⟨TM', hs', hE⟩ := qOps_ok (n := n) (ops := ops.toList) hc (rest := ops.toList) hs (Loc.nil TM) (by rw [hr]; exact ho)
     refine ⟨TM', hs', hE.step fun K hK => ?_⟩
     rw [run_succ]
     unfold evCode
     have hthis := hreg (evCall tb (run tb K)) TM h
     cases draw with
     | true =>
      simp only at hthis ⊢
      rw [hthis, hK]
     | false =>
      simp only
      rw [hK]
 | seq a b iha ihb =>
  intro tm TM h hs
  have ha := iha tm TM h hs
  unfold qCode
  cases hf : qCode tb esc n a with
  | mk f =>
   cases hg : qCode tb esc n b with
   | mk g =>
    rw [hf] at ha
    rw [hg] at ihb
    simp only at ha ihb ⊢
    cases hr : f callq k tm h with
    | bad => trivial
    | norm tm1 h1 =>
     rw [hr] at ha
     obtain ⟨TM1, hs1, hE1⟩ := ha
     have hb := ihb tm1 TM1 h1 hs1
     show EndOK tb esc n _ TM h (g callq k tm1 h1)
     cases hr2 : g callq k tm1 h1 with
     | bad => trivial
     | norm tm2 h2 =>
      rw [hr2] at hb
      obtain ⟨TM2, hs2, hE2⟩ := hb
      refine ⟨TM2, hs2, (hE1.and hE2).step fun K ⟨p, q⟩ => ?_⟩
      rw [run_succ]; unfold evCode; simp only [p, q]
     | ret tm2 h2 =>
      rw [hr2] at hb
      obtain ⟨TM2, hs2, hE2⟩ := hb
      refine ⟨TM2, hs2, (hE1.and hE2).step fun K ⟨p, q⟩ => ?_⟩
      rw [run_succ]; unfold evCode; simp only [p, q]
     | exit i tm2 h2 =>
      rw [hr2] at hb
      obtain ⟨TM2, hs2, hE2⟩ := hb
      refine ⟨TM2, hs2, (hE1.and hE2).step fun K ⟨p, q⟩ => ?_⟩
      rw [run_succ]; unfold evCode; simp only [p, q]
    | ret tm1 h1 =>
     rw [hr] at ha
     obtain ⟨TM1, hs1, hE1⟩ := ha
     refine ⟨TM1, hs1, hE1.step fun K p => ?_⟩
     rw [run_succ]; unfold evCode; simp only [p]
    | exit i tm1 h1 =>
     rw [hr] at ha
     obtain ⟨TM1, hs1, hE1⟩ := ha
     refine ⟨TM1, hs1, hE1.step fun K p => ?_⟩
     rw [run_succ]; unfold evCode; simp only [p]
 | cond x a b iha ihb =>
  intro tm TM h hs
  unfold qCode
  cases hx : qOd [] x with
  | mk c =>
   cases hf : qCode tb esc n a with
   | mk f =>
    cases hg : qCode tb esc n b with
    | mk g =>
     rw [hf] at iha
     rw [hg] at ihb
     simp only at iha ihb ⊢
     cases hv : c tm [] with
     | none => trivial
     | some v =>
      have hv := qOd_ok hs (Loc.nil TM) (x := x) (v := v) (by rw [hx]; exact hv)
      show EndOK tb esc n _ TM h (asBool .bad (fun t => Bool.rec (motive := fun _ => CR) (g callq k tm h) (f callq k tm h) t) v)
      cases v <;> try trivial
      rename_i t _
      cases t with
      | true =>
       have ha := iha tm TM h hs
       show EndOK tb esc n _ TM h (f callq k tm h)
       cases hr : f callq k tm h with
       | bad => trivial
       | norm tm1 h1 =>
        rw [hr] at ha
        obtain ⟨TM1, hs1, hE1⟩ := ha
        refine ⟨TM1, hs1, hE1.step fun K p => ?_⟩
        rw [run_succ]; unfold evCode; simp only [hv, p]
       | ret tm1 h1 =>
        rw [hr] at ha
        obtain ⟨TM1, hs1, hE1⟩ := ha
        refine ⟨TM1, hs1, hE1.step fun K p => ?_⟩
        rw [run_succ]; unfold evCode; simp only [hv, p]
       | exit i tm1 h1 =>
        rw [hr] at ha
        obtain ⟨TM1, hs1, hE1⟩ := ha
        refine ⟨TM1, hs1, hE1.step fun K p => ?_⟩
        rw [run_succ]; unfold evCode; simp only [hv, p]
      | false =>
       have ha := ihb tm TM h hs
       show EndOK tb esc n _ TM h (g callq k tm h)
       cases hr : g callq k tm h with
       | bad => trivial
       | norm tm1 h1 =>
        rw [hr] at ha
        obtain ⟨TM1, hs1, hE1⟩ := ha
        refine ⟨TM1, hs1, hE1.step fun K p => ?_⟩
        rw [run_succ]; unfold evCode; simp only [hv, p]
       | ret tm1 h1 =>
        rw [hr] at ha
        obtain ⟨TM1, hs1, hE1⟩ := ha
        refine ⟨TM1, hs1, hE1.step fun K p => ?_⟩
        rw [run_succ]; unfold evCode; simp only [hv, p]
       | exit i tm1 h1 =>
        rw [hr] at ha
        obtain ⟨TM1, hs1, hE1⟩ := ha
        refine ⟨TM1, hs1, hE1.step fun K p => ?_⟩
        rw [run_succ]; unfold evCode; simp only [hv, p]
 | block id b ih =>
  intro tm TM h hs
  have ha := ih tm TM h hs
  unfold qCode
  cases hf : qCode tb esc n b with
  | mk f =>
   rw [hf] at ha
   simp only at ha ⊢
   cases hr : f callq k tm h with
   | bad => trivial
   | norm tm1 h1 =>
    rw [hr] at ha
    obtain ⟨TM1, hs1, hE1⟩ := ha
    refine ⟨TM1, hs1, hE1.step fun K p => ?_⟩
    rw [run_succ]; unfold evCode; simp only [p]
   | ret tm1 h1 =>
    rw [hr] at ha
    obtain ⟨TM1, hs1, hE1⟩ := ha
    refine ⟨TM1, hs1, hE1.step fun K p => ?_⟩
    rw [run_succ]; unfold evCode; simp only [p]
   | exit j tm1 h1 =>
    rw [hr] at ha
    obtain ⟨TM1, hs1, hE1⟩ := ha
    show EndOK tb esc n _ TM h (Bool.rec (motive := fun _ => CR) (.exit j tm1 h1) (.norm tm1 h1) (Nat.beq j id))
    cases hj : Nat.beq j id with
    | true =>
     refine ⟨TM1, hs1, hE1.step fun K p => ?_⟩
     rw [run_succ]; unfold evCode; simp only [p, hj]
    | false =>
     refine ⟨TM1, hs1, hE1.step fun K p => ?_⟩
     rw [run_succ]; unfold evCode; simp only [p, hj]
 | loop b ih =>
  unfold qCode
  cases hf : qCode tb esc n b with
  | mk f =>
   rw [hf] at ih
   simp only at ih ⊢
   have key : ∀ (m : Nat) (tm TM : T AV) (h : AHeap), Sub esc tm TM → EndOK tb esc n (.loop b) TM h (Nat.rec (motive := fun _ => T AV → AHeap → CR) (fun _ _ => .bad)
     (fun _ ih tm h => CR.rec (motive := fun _ => CR) .bad (fun tm' h' => ih tm' h') (fun tm' h' => .ret tm' h') (fun j tm' h' => .exit j tm' h') (f callq k tm h)) m tm h) := by
    intro m
    induction m with
    | zero => intro tm TM h hs; trivial
    | succ m ihm =>
     intro tm TM h hs
     have ha := ih tm TM h hs
     show EndOK tb esc n (.loop b) TM h (CR.rec (motive := fun _ => CR) .bad (fun tm' h' => Nat.rec (motive := fun _ => T AV → AHeap → CR) (fun _ _ => .bad)
      (fun _ ih tm h => CR.rec (motive := fun _ => CR) .bad (fun tm' h' => ih tm' h') (fun tm' h' => .ret tm' h') (fun j tm' h' => .exit j tm' h') (f callq k tm h)) m tm' h') (fun tm' h' => .ret tm' h') (fun j tm' h' => .exit j tm' h') (f callq k tm h))
     cases hr : f callq k tm h with
     | bad => trivial
     | norm tm1 h1 =>
      rw [hr] at ha
      obtain ⟨TM1, hs1, hE1⟩ := ha
      have hb := ihm tm1 TM1 h1 hs1
      simp only
      revert hb
      generalize (Nat.rec (motive := fun _ => T AV → AHeap → CR) (fun _ _ => .bad)
       (fun _ ih tm h => CR.rec (motive := fun _ => CR) .bad (fun tm' h' => ih tm' h') (fun tm' h' => .ret tm' h') (fun j tm' h' => .exit j tm' h') (f callq k tm h)) m tm1 h1 : CR) = r
      intro hb
      cases r with
      | bad => trivial
      | norm tm2 h2 =>
       obtain ⟨TM2, hs2, hE2⟩ := hb
       refine ⟨TM2, hs2, (hE1.and hE2).step fun K ⟨p, q⟩ => ?_⟩
       rw [run_succ]; unfold evCode; simp only [p, q]
      | ret tm2 h2 =>
       obtain ⟨TM2, hs2, hE2⟩ := hb
       refine ⟨TM2, hs2, (hE1.and hE2).step fun K ⟨p, q⟩ => ?_⟩
       rw [run_succ]; unfold evCode; simp only [p, q]
      | exit i tm2 h2 =>
       obtain ⟨TM2, hs2, hE2⟩ := hb
       refine ⟨TM2, hs2, (hE1.and hE2).step fun K ⟨p, q⟩ => ?_⟩
       rw [run_succ]; unfold evCode; simp only [p, q]
     | ret tm1 h1 =>
      rw [hr] at ha
      obtain ⟨TM1, hs1, hE1⟩ := ha
      refine ⟨TM1, hs1, hE1.step fun K p => ?_⟩
      rw [run_succ]; unfold evCode; simp only [p]
     | exit j tm1 h1 =>
      rw [hr] at ha
      obtain ⟨TM1, hs1, hE1⟩ := ha
      refine ⟨TM1, hs1, hE1.step fun K p => ?_⟩
      rw [run_succ]; unfold evCode; simp only [p]
   exact fun tm TM h hs => key k tm TM h hs
 | _ => intro tm TM h hs; trivial
end
end Go.Proofs.YtmblgaehfjheeaaGreat.Ev
