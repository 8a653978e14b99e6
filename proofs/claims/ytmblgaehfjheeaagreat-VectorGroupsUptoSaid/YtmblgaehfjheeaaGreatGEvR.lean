/- The quick evaluator, part 2: the operations. What it gives, the evaluator gives. -/
import Derived.Test.YtmblgaehfjheeaaGreatGEvQ
namespace Go.Proofs.YtmblgaehfjheeaaGreat.Ev
open Go.RowKit
set_option linter.unusedVariables false
set_option linter.unusedSimpArgs false
noncomputable section

def qIndexAddr (tb : Tab) (loc : List Nat) (t : Nat) (x ix : Operand) : QO :=
 match tb.und t with
 | some (.slice e) => match tb.size e, qOd loc x, qOd loc ix with
  | some m, ⟨a⟩, ⟨b⟩ => .q fun tm l _ => Option.rec (motive := fun _ => Option AV) none (fun v => asSlice none (fun bb o n sz => Option.rec (motive := fun _ => Option AV) none (fun w => asInt none (fun _ k =>
    Int.rec (motive := fun _ => Option AV) (fun i => Bool.rec (motive := fun _ => Option AV) none (Bool.rec (motive := fun _ => Option AV) none (some (.ptr bb (Nat.mul (Nat.add o i) sz))) (Nat.blt i n)) (Nat.beq m sz)) (fun _ => none) k) w) (b tm l)) v) (a tm l)
  | none, _, _ => .q fun _ _ _ => none
 | some (.array len e) => match tb.size e, qOd loc x, qOd loc ix with
  | some m, ⟨a⟩, ⟨b⟩ => .q fun tm l _ => Option.rec (motive := fun _ => Option AV) none (fun v => asPtr none (fun bb o => Option.rec (motive := fun _ => Option AV) none (fun w => asInt none (fun _ k =>
    Int.rec (motive := fun _ => Option AV) (fun i => Bool.rec (motive := fun _ => Option AV) none (some (.ptr bb (Nat.add o (Nat.mul i m)))) (Nat.blt i len)) (fun _ => none) k) w) (b tm l)) v) (a tm l)
  | none, _, _ => .q fun _ _ _ => none
 | _ => .q fun _ _ _ => none
theorem qIndexAddr_ok {tb : Tab} {esc : Nat} {loc : List Nat} {t : Nat} {x ix : Operand} : OpOK tb esc loc (.indexAddr t x ix) (qIndexAddr tb loc t x ix) := by
 unfold qIndexAddr
 cases hu : tb.und t with
 | none => exact OpOK.nought
 | some d =>
  cases d <;> first | exact OpOK.nought | skip
  case array len e =>
   simp only
   cases hz : tb.size e with
   | none => exact OpOK.nought
   | some m =>
    cases ha : qOd loc x with
    | mk a =>
     cases hb : qOd loc ix with
     | mk b =>
      intro tm l h TM v hs hl e call
      obtain ⟨u, hx, e⟩ := orec e (by simp)
      obtain ⟨bb, o, rfl, e⟩ := asPtr_ne e (by simp)
      obtain ⟨w, hw, e⟩ := orec e (by simp)
      obtain ⟨j, k, rfl, e⟩ := asInt_ne e (by simp)
      obtain ⟨i, rfl, e⟩ := intrec e (by simp)
      obtain ⟨hi, e⟩ := boolrec e (by simp)
      have h1 := qOd_ok hs hl (x := x) (v := .ptr bb o) (by rw [ha]; exact hx)
      have h2 := qOd_ok hs hl (x := ix) (v := .int j (.ofNat i)) (by rw [hb]; exact hw)
      simp only [evOp, evIndexAddr, hu, h1, h2, natOf, hz, hi]
      exact congrArg Res.q e
  case slice e =>
   simp only
   cases hz : tb.size e with
   | none => exact OpOK.nought
   | some m =>
    cases ha : qOd loc x with
    | mk a =>
     cases hb : qOd loc ix with
     | mk b =>
      intro tm l h TM v hs hl e call
      obtain ⟨u, hx, e⟩ := orec e (by simp)
      obtain ⟨bb, o, n, sz, rfl, e⟩ := asSlice_ne e (by simp)
      obtain ⟨w, hw, e⟩ := orec e (by simp)
      obtain ⟨j, k, rfl, e⟩ := asInt_ne e (by simp)
      obtain ⟨i, rfl, e⟩ := intrec e (by simp)
      obtain ⟨hm, e⟩ := boolrec e (by simp)
      obtain ⟨hi, e⟩ := boolrec e (by simp)
      have h1 := qOd_ok hs hl (x := x) (v := .slice bb o n sz) (by rw [ha]; exact hx)
      have h2 := qOd_ok hs hl (x := ix) (v := .int j (.ofNat i)) (by rw [hb]; exact hw)
      simp only [evOp, evIndexAddr, hu, h1, h2, natOf, hz, hm, hi, Bool.and_self]
      exact congrArg Res.q e

def qRare (tb : Tab) (loc : List Nat) (op : Op) (xs : List Operand) : QO :=
 match envQ loc xs with
 | ⟨e⟩ => .r fun tm l h => Option.rec (motive := fun _ => Res) (.q none) (fun m => evOp tb callNone m h op) (e tm l)
theorem qRare_ok {tb : Tab} {esc : Nat} {loc : List Nat} {op : Op} {xs : List Operand} (hx : opsOf op = some xs) : OpOK tb esc loc op (qRare tb loc op xs) := by
 unfold qRare
 cases he : envQ loc xs with
 | mk f =>
  intro tm l h TM hs hl
  have key : ∀ r, Option.rec (motive := fun _ => Res) (.q none) (fun m => evOp tb callNone m h op) (f tm l) = r → r ≠ .q none → ∀ call, evOp tb call TM h op = r := by
   intro r e hne call
   cases hm : f tm l with
   | none => rw [hm] at e; exact absurd e.symm hne
   | some m =>
    rw [hm] at e
    have := envQ_ok hs hl (xs := xs) (m := m) (by rw [he]; exact hm)
    rw [← evOp_same hx this call]
    exact e
  exact ⟨fun v e => key _ e (by simp), fun v h' e => key _ e (by simp)⟩

def qIndex (tb : Tab) (loc : List Nat) (t : Nat) (x ix : Operand) : QO :=
 match tb.und t with
 | some .string => match qOd loc x, qOd loc ix with
  | ⟨a⟩, ⟨b⟩ => .q fun tm l _ => Option.rec (motive := fun _ => Option AV) none (fun v => asStr none (fun s => Option.rec (motive := fun _ => Option AV) none (fun w => asInt none (fun _ k =>
    Int.rec (motive := fun _ => Option AV) (fun i => Option.rec (motive := fun _ => Option AV) none (fun c => some (.int .u8 (.ofNat c))) (nthN s i)) (fun _ => none) k) w) (b tm l)) v) (a tm l)
 | some (.array len e) => match tb.size e, qOd loc x, qOd loc ix with
  | some m, ⟨a⟩, ⟨b⟩ => .q fun tm l _ => Option.rec (motive := fun _ => Option AV) none (fun v => asAgg none (fun cs => Option.rec (motive := fun _ => Option AV) none (fun w => asInt none (fun _ k =>
    Int.rec (motive := fun _ => Option AV) (fun i => Bool.rec (motive := fun _ => Option AV) none (partA tb e cs (Nat.mul i m)) (Nat.blt i len)) (fun _ => none) k) w) (b tm l)) v) (a tm l)
  | none, _, _ => .q fun _ _ _ => none
 | _ => .q fun _ _ _ => none
theorem qIndex_ok {tb : Tab} {esc : Nat} {loc : List Nat} {t : Nat} {x ix : Operand} : OpOK tb esc loc (.index t x ix) (qIndex tb loc t x ix) := by
 unfold qIndex
 cases hu : tb.und t with
 | none => exact OpOK.nought
 | some d =>
  cases d <;> first | exact OpOK.nought | skip
  case array len e =>
   simp only
   cases hz : tb.size e with
   | none => exact OpOK.nought
   | some m =>
    cases ha : qOd loc x with
    | mk a =>
     cases hb : qOd loc ix with
     | mk b =>
      intro tm l h TM v hs hl e call
      obtain ⟨u, hx, e⟩ := orec e (by simp)
      obtain ⟨cs, rfl, e⟩ := asAgg_ne e (by simp)
      obtain ⟨w, hw, e⟩ := orec e (by simp)
      obtain ⟨j, k, rfl, e⟩ := asInt_ne e (by simp)
      obtain ⟨i, rfl, e⟩ := intrec e (by simp)
      obtain ⟨hi, e⟩ := boolrec e (by simp)
      have h1 := qOd_ok hs hl (x := x) (v := .agg cs) (by rw [ha]; exact hx)
      have h2 := qOd_ok hs hl (x := ix) (v := .int j (.ofNat i)) (by rw [hb]; exact hw)
      simp only [evOp, evIndex, hu, h1, h2, natOf, hz, hi]
      exact congrArg Res.q e
  case string =>
   simp only
   cases ha : qOd loc x with
   | mk a =>
    cases hb : qOd loc ix with
    | mk b =>
     intro tm l h TM v hs hl e call
     obtain ⟨u, hx, e⟩ := orec e (by simp)
     obtain ⟨s, rfl, e⟩ := asStr_ne e (by simp)
     obtain ⟨w, hw, e⟩ := orec e (by simp)
     obtain ⟨j, k, rfl, e⟩ := asInt_ne e (by simp)
     obtain ⟨i, rfl, e⟩ := intrec e (by simp)
     obtain ⟨c, hc, e⟩ := orec e (by simp)
     have h1 := qOd_ok hs hl (x := x) (v := .str s) (by rw [ha]; exact hx)
     have h2 := qOd_ok hs hl (x := ix) (v := .int j (.ofNat i)) (by rw [hb]; exact hw)
     rw [nthN_eq] at hc
     simp only [evOp, evIndex, hu, h1, h2, natOf, hc]
     exact congrArg Res.q e

def qLen (tb : Tab) (loc : List Nat) (args : Array Operand) (ts : Array Nat) : QO :=
 match ts.toList, args.toList with
 | t :: _, [x] => match tb.und t, qOd loc x with
  | some d, ⟨a⟩ => .q fun tm l _ => Option.rec (motive := fun _ => Option AV) none (fun v => Option.rec (motive := fun _ => Option AV) none (fun n => some (.int .i64 (.ofNat n))) (lenA d v)) (a tm l)
  | none, _ => .q fun _ _ _ => none
 | _, _ => .q fun _ _ _ => none
theorem qLen_ok {tb : Tab} {esc : Nat} {loc : List Nat} {args : Array Operand} {ts : Array Nat} : OpOK tb esc loc (.call ⟨.builtin .len, args, ts⟩) (qLen tb loc args ts) := by
 unfold qLen
 cases ht : ts.toList with
 | nil => exact OpOK.nought
 | cons t ts' =>
  cases hx : args.toList with
  | nil => exact OpOK.nought
  | cons x xs =>
   cases xs with
   | cons y ys => exact OpOK.nought
   | nil =>
    simp only
    cases hu : tb.und t with
    | none => exact OpOK.nought
    | some d =>
     cases ha : qOd loc x with
     | mk a =>
      intro tm l h TM v hs hl e call
      obtain ⟨u, hv, e⟩ := orec e (by simp)
      obtain ⟨n, hn, e⟩ := orec e (by simp)
      have h1 := qOd_ok hs hl (x := x) (v := u) (by rw [ha]; exact hv)
      simp only [evOp, evCallOp, evLen, ht, hx, hu, h1, hn]
      exact congrArg Res.q e

def setVO (w : AV) (l : List AV) (i : Nat) : Option (List AV) :=
 List.rec (motive := fun _ => Nat → Option (List AV)) (fun _ => none)
  (fun v r ih i => Nat.rec (motive := fun _ => Option (List AV)) (some (w :: r)) (fun n _ => Option.rec (motive := fun _ => Option (List AV)) none (fun m => some (v :: m)) (ih n)) i) l i
theorem setVO_ok (w : AV) : ∀ (l : List AV) (i : Nat) (m : List AV), setVO w l i = some m → m = layL l i [w] ∧ i < l.length
 | [], i, m, h => by cases h
 | v :: l, 0, m, h => by
  have h : some (w :: l) = some m := h
  cases h
  unfold layL
  rw [layL_nil]
  exact ⟨rfl, by simp⟩
 | v :: l, i + 1, m, h => by
  obtain ⟨r, hr, h⟩ := orec (h : Option.rec (motive := fun _ => Option (List AV)) none (fun m => some (v :: m)) (setVO w l i) = some m) (by simp)
  obtain ⟨h1, h2⟩ := setVO_ok w l i r hr
  simp only [Option.some.injEq] at h
  subst h
  rw [h1]
  exact ⟨by conv => rhs; unfold layL, by simp; omega⟩
theorem asCell_ne {R : Type} {d r y : R} {v : AV} (h : asCell d y v = r) (hne : d ≠ r) : v.isCell = true ∧ y = r := by
 cases v <;> first | exact absurd h hne | exact ⟨rfl, h⟩
theorem cell_cells {v : AV} (h : v.isCell = true) : v.cells = [v] := by cases v <;> simp_all [AV.isCell, AV.cells]

def flatT (tb : Tab) (t : Nat) : Bool :=
 match tb.isAgg t with
 | some false => true
 | _ => false
def qStore (tb : Tab) (loc : List Nat) (t : Nat) (x y : Operand) : QO :=
 match tb.size t, flatT tb t, qOd loc x, qOd loc y with
 | some 1, true, ⟨a⟩, ⟨b⟩ => .l fun _ tm l h => Option.rec (motive := fun _ => VH) .bad (fun p => asPtr .bad (fun bb o => Option.rec (motive := fun _ => VH) .bad (fun v => asCell .bad (Option.rec (motive := fun _ => VH) .bad (fun ob =>
   Option.rec (motive := fun _ => VH) .bad (fun cs => Bool.rec (motive := fun _ => VH) .bad (.ok (.tuple []) ⟨h.next, T.put (some ⟨ob.sz, ob.exact_, cs⟩) h.objs bb⟩) (Nat.blt 0 ob.sz)) (setVO v ob.cells o)) (T.get h.objs bb)) v) (b tm l)) p) (a tm l)
 | some n, _, ⟨a⟩, ⟨b⟩ => .l fun _ tm l h => Option.rec (motive := fun _ => VH) .bad (fun p => asPtr .bad (fun bb o => Option.rec (motive := fun _ => VH) .bad (fun v =>
   Option.rec (motive := fun _ => VH) .bad (fun r => .ok r.1 r.2) (storeA tb h t bb o v)) (b tm l)) p) (a tm l)
 | none, _, _, _ => .q fun _ _ _ => none
theorem qStore_ok {tb : Tab} {esc : Nat} {loc : List Nat} {t : Nat} {x y : Operand} : OpOK tb esc loc (.store t x y) (qStore tb loc t x y) := by
 unfold qStore
 cases hz : tb.size t with
 | none => exact OpOK.nought
 | some n =>
  cases ha : qOd loc x with
  | mk a =>
   cases hb : qOd loc y with
   | mk b =>
    have slow : OpOK tb esc loc (.store t x y) (.l fun _ tm l h => Option.rec (motive := fun _ => VH) .bad (fun p => asPtr .bad (fun bb o => Option.rec (motive := fun _ => VH) .bad (fun v =>
      Option.rec (motive := fun _ => VH) .bad (fun r => .ok r.1 r.2) (storeA tb h t bb o v)) (b tm l)) p) (a tm l)) := by
     intro callq _ tm l h TM v h' hs hl e
     obtain ⟨p, hp, e⟩ := orec e (by simp)
     obtain ⟨bb, o, rfl, e⟩ := asPtr_ne e (by simp)
     obtain ⟨u, hv, e⟩ := orec e (by simp)
     obtain ⟨⟨r1, r2⟩, hr, e⟩ := orec e (by simp)
     have h1 := qOd_ok hs hl (x := x) (v := .ptr bb o) (by rw [ha]; exact hp)
     have h2 := qOd_ok hs hl (x := y) (v := u) (by rw [hb]; exact hv)
     simp only [VH.ok.injEq] at e
     obtain ⟨rfl, rfl⟩ := e
     refine Evt.of fun K => ?_
     simp only [evOp, evStore, h1, h2, hr]
    cases hfl : flatT tb t with
    | false =>
     match n, hz with
     | 0, hz => exact slow
     | n + 2, hz => exact slow
     | 1, hz => exact slow
    | true =>
    match n, hz with
    | 0, hz => exact slow
    | n + 2, hz => exact slow
    | 1, hz =>
     intro callq _ tm l h TM v h' hs hl e
     obtain ⟨p, hp, e⟩ := orec e (by simp)
     obtain ⟨bb, o, rfl, e⟩ := asPtr_ne e (by simp)
     obtain ⟨u, hv, e⟩ := orec e (by simp)
     obtain ⟨hcell, e⟩ := asCell_ne e (by simp)
     obtain ⟨ob, ho, e⟩ := orec e (by simp)
     obtain ⟨cs, hcs, e⟩ := orec e (by simp)
     have h1 := qOd_ok hs hl (x := x) (v := .ptr bb o) (by rw [ha]; exact hp)
     have h2 := qOd_ok hs hl (x := y) (v := u) (by rw [hb]; exact hv)
     obtain ⟨rfl, hlt⟩ := setVO_ok _ _ _ _ hcs
     cases hb0 : Nat.blt 0 ob.sz with
     | false => rw [hb0] at e; cases e
     | true =>
     rw [hb0] at e
     simp only [VH.ok.injEq] at e
     obtain ⟨rfl, rfl⟩ := e
     refine Evt.of fun K => ?_
     have hle : Nat.ble (o + 1) ob.cells.length = true := Nat.ble_eq_true_of_le hlt
     simp only [evOp, evStore, h1, h2, storeA, hz, ho, cell_cells hcell, List.length_cons, List.length_nil, Nat.zero_add, Nat.beq_refl, hle, List.all_cons, List.all_nil, hcell, Bool.and_self, hb0]
     rfl

def qAlloc (tb : Tab) (t : Nat) : QO :=
 match tb.zero t with
 | some z => match varObj tb t z.cells with
  | ob => .l fun _ _ _ h => .ok (.ptr h.next 0) ⟨Nat.succ h.next, T.put (some ob) h.objs h.next⟩
 | none => .q fun _ _ _ => none
theorem qAlloc_ok {tb : Tab} {esc : Nat} {loc : List Nat} {t : Nat} : OpOK tb esc loc (.alloc t) (qAlloc tb t) := by
 unfold qAlloc
 cases hz : tb.zero t with
 | none => exact OpOK.nought
 | some z =>
  intro callq _ tm l h TM v h' hs hl e
  simp only [VH.ok.injEq] at e
  obtain ⟨rfl, rfl⟩ := e
  refine Evt.of fun K => ?_
  simp only [evOp, evAlloc, hz]
  rfl

def qCallVal (loc : List Nat) (f : Operand) (args : List Operand) : QO :=
 match f with
 | .func g => match qOds loc args with
  | ⟨a⟩ => .l fun callq tm l h => Option.rec (motive := fun _ => VH) .bad (fun vs => callq g vs h) (a tm l)
 | f => match qOd loc f, qOds loc args with
  | ⟨g⟩, ⟨a⟩ => .l fun callq tm l h => Option.rec (motive := fun _ => VH) .bad (fun u => asFunc .bad (fun g caps => Option.rec (motive := fun _ => VH) .bad (fun vs => callq g (List.append vs caps) h) (a tm l)) u) (g tm l)
theorem qCallVal_ok {tb : Tab} {esc : Nat} {loc : List Nat} {f : Operand} {args : Array Operand} {ts : Array Nat} : OpOK tb esc loc (.call ⟨.value f, args, ts⟩) (qCallVal loc f args.toList) := by
 have slow : OpOK tb esc loc (.call ⟨.value f, args, ts⟩) (match qOd loc f, qOds loc args.toList with
  | ⟨g⟩, ⟨a⟩ => .l fun callq tm l h => Option.rec (motive := fun _ => VH) .bad (fun u => asFunc .bad (fun g caps => Option.rec (motive := fun _ => VH) .bad (fun vs => callq g (List.append vs caps) h) (a tm l)) u) (g tm l)) := by
  cases hf : qOd loc f with
  | mk g =>
   cases ha : qOds loc args.toList with
   | mk a =>
    intro callq hc tm l h TM v h' hs hl e
    obtain ⟨u, hu, e⟩ := orec e (by simp)
    obtain ⟨g', caps, rfl, e⟩ := asFunc_ne e (by simp)
    obtain ⟨vs, hvs, e⟩ := orec e (by simp)
    have h1 := qOd_ok hs hl (x := f) (v := .func g' caps) (by rw [hf]; exact hu)
    have h2 := qOds_ok hs hl (xs := args.toList) (vs := vs) (by rw [ha]; exact hvs)
    refine (hc _ _ _ _ _ e).mono fun K hK => ?_
    simp only [evOp, evCallOp, evCallVal, h1, h2]
    exact congrArg Res.l hK
 unfold qCallVal
 cases f with
 | func g =>
  simp only
  cases ha : qOds loc args.toList with
  | mk a =>
   intro callq hc tm l h TM v h' hs hl e
   obtain ⟨vs, hvs, e⟩ := orec e (by simp)
   have h2 := qOds_ok hs hl (xs := args.toList) (vs := vs) (by rw [ha]; exact hvs)
   refine (hc _ _ _ _ _ e).mono fun K hK => ?_
   simp only [evOp, evCallOp, evCallVal, opnd, h2, List.append_nil]
   exact congrArg Res.l hK
 | tmp t => exact slow
 | const v => exact slow
 | global g => exact slow

def qOp (tb : Tab) (loc : List Nat) (op : Op) : QO :=
 match op with
 | .move x => qMove loc x
 | .assign x => qMove loc x
 | .pick c x y => qPick loc c x y
 | .alloc t => qAlloc tb t
 | .load t x => qLoad tb loc t x
 | .store t x y => qStore tb loc t x y
 | .nilCheck x => qNilCheck loc x
 | .binOp o t x y _ => qBinOp tb loc o t x y
 | .fieldAddr s x f => qFieldAddr tb loc s x f
 | .field s x f => qField tb loc s x f
 | .indexAddr t x i => qIndexAddr tb loc t x i
 | .index t x i => qIndex tb loc t x i
 | .extract x i => qExtract loc x i
 | .call ⟨.value f, args, _⟩ => qCallVal loc f args.toList
 | .call ⟨.builtin .len, args, ts⟩ => qLen tb loc args ts
 | op => match opsOf op with
  | some xs => qRare tb loc op xs
  | none => .q fun _ _ _ => none
theorem qOp_ok {tb : Tab} {esc : Nat} {loc : List Nat} {op : Op} : OpOK tb esc loc op (qOp tb loc op) := by
 have rare : OpOK tb esc loc op (match opsOf op with
  | some xs => qRare tb loc op xs
  | none => .q fun _ _ _ => none) := by
  cases hx : opsOf op with
  | none => exact OpOK.nought
  | some xs => exact qRare_ok hx
 unfold qOp
 cases op <;> first
  | exact rare
  | exact qMove_ok fun _ _ _ => rfl
  | exact qPick_ok
  | exact qAlloc_ok
  | exact qLoad_ok
  | exact qStore_ok
  | exact qNilCheck_ok
  | exact qBinOp_ok
  | exact qFieldAddr_ok
  | exact qField_ok
  | exact qIndexAddr_ok
  | exact qIndex_ok
  | exact qExtract_ok
  | skip
 rename_i c
 obtain ⟨callee, args, ts⟩ := c
 cases callee with
 | value f => exact qCallVal_ok
 | invoke r m => exact rare
 | builtin b => cases b <;> first | exact qLen_ok | exact rare
end
end Go.Proofs.YtmblgaehfjheeaaGreat.Ev
