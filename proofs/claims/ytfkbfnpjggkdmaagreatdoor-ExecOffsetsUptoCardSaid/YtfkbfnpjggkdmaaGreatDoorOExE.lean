/- Walks over the evaluator: statements that draw their order, where what is read is ordered against all that is written. -/
import Derived.Test.YtfkbfnpjggkdmaaGreatDoorOAwJ
import Derived.Test.YtfkbfnpjggkdmaaGreatDoorOEqS
namespace Go.Proofs.YtfkbfnpjggkdmaaGreatDoor.Ev
open Go.RowKit
noncomputable section
def sure (l : List Oper) (k : Nat) : Bool :=
 l.zipIdx.all fun (o, i) => !(loudOp o.op) || Nat.beq i k || (if Nat.blt i k then ((aheadOf l []).getD k 0).testBit i else ((aheadOf l []).getD i 0).testBit k)
def GoodS (tb : Tab) (l : List Oper) (es : List Ent) : Prop := ∀ e ∈ es, e.kind = 1 → e.v.beq e.v = true ∧ (sure l e.i = false → ∀ H, evQ tb e.tm H e.o.op = some e.v)
section
variable {tb : Tab} {n : Nat} {E : Env} {s : St} {hs : HSt} {R : T AV → AHeap → Prop} {ops rest : List Oper} {d : Nat} {ty : TypeId} {pos : String} {aft : Array Edge} {t : TypeId} {i : Nat}
def WX (tb : Tab) (n : Nat) (ops : List Oper) (i : Nat) (rest : List Oper) (E : Env) (s : St) (hs : HSt) (R : T AV → AHeap → Prop) : Prop :=
 ∀ tm h, Has tm s → HS E hs h → ∃ es ms tm' h', evTrace tb (callOf (Ev.callE tb)) n ops i rest tm h = some (es, ms, tm', h') ∧ GoodS tb ops es ∧ ∀ TM, SubT tm' TM → R TM h'
theorem WX.nil (h : End E s hs R) : WX tb n ops i [] E s hs R :=
 fun tm hp ht hh => ⟨[], [], tm, hp, rfl, fun e he => by simp at he, fun TM hT => h TM hp (ht.mono hT) hh⟩
theorem wx_step {tm tm1 : T AV} {h h1 : AHeap} {o : Oper} {v : AV} {k : Nat} (he : ev1 tb (callOf (Ev.callE tb)) ops tm h o = some (v, h1, k)) (hp : putDst tm n o.dst v = some tm1)
  (hq : k = 1 → v.beq v = true ∧ (sure ops i = false → ∀ H, evQ tb tm H o.op = some v))
  (hk : ∃ es ms tm' h', evTrace tb (callOf (Ev.callE tb)) n ops (i + 1) rest tm1 h1 = some (es, ms, tm', h') ∧ GoodS tb ops es ∧ ∀ TM, SubT tm' TM → R TM h') :
  ∃ es ms tm' h', evTrace tb (callOf (Ev.callE tb)) n ops i (o :: rest) tm h = some (es, ms, tm', h') ∧ GoodS tb ops es ∧ ∀ TM, SubT tm' TM → R TM h' := by
 obtain ⟨es, ms, tm2, h2, e, hG, hR⟩ := hk
 refine ⟨_, _, tm2, h2, by unfold evTrace; simp only [he, hp, e]; rfl, fun x hx hx1 => ?_, hR⟩
 rcases List.mem_cons.1 hx with rfl | hx
 ·exact hq hx1
 ·exact hG x hx hx1
theorem WX.q {op : Op} {v : AV} (hs_ : sure ops i = true) (hq : QV tb s hs op v) (hb : v.beq v = true) (hd : Nat.blt d n = true) (hk : WX tb n ops (i + 1) rest E ((d, v) :: s) hs R) :
  WX tb n ops i (⟨some d, op, ty, pos, aft, none⟩ :: rest) E s hs R := by
 intro tm h ht hh
 have hv : ∀ call, evOp tb call tm h op = .q (some v) := hq tm h ht hh.keep
 refine wx_step (v := v) (k := 1) (h1 := h) (tm1 := tm.set d v) ?_ (putDst_at hd) (fun _ => ⟨hb, fun g => by rw [hs_] at g; cases g⟩) (hk _ _ (ht.set d v) hh)
 unfold ev1
 have : wantedA ops tm ⟨some d, op, ty, pos, aft, none⟩ = some true := rfl
 rw [this]
 simp only [hv]
theorem WX.f {op : Op} {v : AV} (hq : QV tb s [] op v) (hb : v.beq v = true) (hd : Nat.blt d n = true) (hk : WX tb n ops (i + 1) rest E ((d, v) :: s) hs R) :
  WX tb n ops i (⟨some d, op, ty, pos, aft, none⟩ :: rest) E s hs R := by
 intro tm h ht hh
 have hv : ∀ H call, evOp tb call tm H op = .q (some v) := fun H => hq tm H ht fun e he => by simp at he
 refine wx_step (v := v) (k := 1) (h1 := h) (tm1 := tm.set d v) ?_ (putDst_at hd) (fun _ => ⟨hb, fun _ H => by unfold evQ; rw [hv]⟩) (hk _ _ (ht.set d v) hh)
 unfold ev1
 have : wantedA ops tm ⟨some d, op, ty, pos, aft, none⟩ = some true := rfl
 rw [this]
 simp only [hv]
theorem WX.store {ox oy : Operand} {j b o q : Nat} {ob : AObj} {v : AV} {cs : List AV} {hs' : HSt} (hz : tb.size t = some q) (hx : oL s ox = some (.ptr b o)) (hy : oL s oy = some v) (hm : hs[j]? = some ⟨b, ob, true⟩)
  (hb : (Nat.beq v.cells.length q && Nat.ble (o + q) ob.cells.length && v.cells.all AV.isCell) = true) (hc : layL ob.cells o v.cells = cs) (hs_ : hs.set j ⟨b, ⟨ob.sz, ob.exact_, cs⟩, true⟩ = hs')
  (hk : WX tb n ops (i + 1) rest E s hs' R) (hz0 : Nat.blt 0 ob.sz = true := by rfl) : WX tb n ops i (⟨none, .store t ox oy, ty, pos, aft, none⟩ :: rest) E s hs R := by
 intro tm h ht hh
 subst hs_
 have hH := hh.put (ob' := ⟨ob.sz, ob.exact_, cs⟩) hm
 refine wx_step (v := .tuple []) (k := 2) (h1 := ⟨h.next, h.objs.set b ⟨ob.sz, ob.exact_, cs⟩⟩) (tm1 := tm) ?_ rfl (fun h => by cases h) (hk tm _ ht hH)
 unfold ev1
 have : wantedA ops tm ⟨none, .store t ox oy, ty, pos, aft, none⟩ = some true := rfl
 rw [this]
 have he : evOp tb (callOf (Ev.callE tb)) tm h (.store t ox oy) = .l (some (.tuple [], ⟨h.next, h.objs.set b ⟨ob.sz, ob.exact_, cs⟩⟩)) := by
  show Res.l (evStore tb tm h t ox oy) = _
  unfold evStore
  simp only [oL_ok ht hx, oL_ok ht hy]
  unfold storeA
  have h1 := (hh.at_ _ (mem_at hm)).1
  simp only at h1
  simp only [hz, h1, hb, hc, hz0]
 simp only [he]
end

end
theorem Spec.sub {tb : Tab} {f : Nat} {args : List AV} {S : List Nat} {hs hs' : HSt} {Post : AV → HSt → Prop} (h : Spec tb f args S hs Post) (g : SubH hs hs') : Spec tb f args S hs' Post := fun h0 hh => h h0 (hh.sub g)
noncomputable section
def CallLe (c1 c2 : CallF) : Prop := ∀ f a h r, c1 f a h = some r → c2 f a h = some r
section le
variable {tb : Tab} {n : Nat} {c1 c2 : CallF} (hc : CallLe c1 c2) {ops : List Oper}
include hc
theorem evCallVal_le {tm : T AV} {h : AHeap} {f : Operand} {args : Array Operand} {r : AV × AHeap} (e : evCallVal tm h c1 f args = some r) : evCallVal tm h c2 f args = some r := by
 unfold evCallVal at e ⊢
 split at e
 ·rename_i g caps l hg hl
  try simp only [hg, hl]
  split at e
  ·rename_i hm; try simp only [hm]
   exact hc _ _ _ _ e
  ·rename_i x hm; try simp only [hm]
   exact hc _ _ _ _ e
 ·cases e
theorem evOp_le {tm : T AV} {h : AHeap} {op : Op} {v : AV} {h' : AHeap} (e : evOp tb c1 tm h op = .l (some (v, h'))) : evOp tb c2 tm h op = .l (some (v, h')) := by
 cases op with
 | call c =>
  obtain ⟨callee, args, ts⟩ := c
  cases callee with
  | value f =>
   have e : Res.l (evCallVal tm h c1 f args) = .l (some (v, h')) := e
   simp only [Res.l.injEq] at e
   exact congrArg Res.l (evCallVal_le hc e)
  | invoke r m => exact e
  | builtin b => cases b <;> exact e
 | _ => exact e
theorem ev1_le {tm : T AV} {h : AHeap} {o : Oper} {v : AV} {h' : AHeap} {k : Nat} (e : ev1 tb c1 ops tm h o = some (v, h', k)) : ev1 tb c2 ops tm h o = some (v, h', k) := by
 unfold ev1 at e ⊢
 split at e
 ·rename_i hw
  try simp only [hw]
  split at e
  ·rename_i v1 h1 hq
   rw [evOp_le hc hq]; exact e
  ·rename_i v1 hq
   rw [evOp_q (SubT.refl _) hq]; exact e
  ·cases e
 ·rename_i hw; try simp only [hw]
  exact e
 ·cases e
theorem evOps_le : ∀ {rest : List Oper} {tm tm' : T AV} {h h' : AHeap}, evOps tb c1 n ops rest tm h = some (tm', h') → evOps tb c2 n ops rest tm h = some (tm', h')
 | [], _, _, _, _, e => e
 | o :: rest, tm, tm', h, h', e => by
  unfold evOps at e ⊢
  split at e
  ·rename_i v h1 k he
   rw [ev1_le hc he]
   try simp only
   split at e
   ·rename_i tm1 hp
    try rw [hp]
    exact evOps_le e
   ·cases e
  ·cases e
theorem evTrace_le : ∀ {rest : List Oper} {i : Nat} {tm : T AV} {h : AHeap} {r}, evTrace tb c1 n ops i rest tm h = some r → evTrace tb c2 n ops i rest tm h = some r
 | [], _, _, _, _, e => e
 | o :: rest, i, tm, h, r, e => by
  unfold evTrace at e ⊢
  split at e
  ·rename_i v h1 k he
   rw [ev1_le hc he]
   try simp only
   split at e
   ·rename_i tm1 hp
    try rw [hp]
    try simp only
    split at e
    ·rename_i es ms t2 h2 ht
     rw [evTrace_le ht]
     exact e
    ·cases e
   ·cases e
  ·cases e
theorem ev1F_le {num : Nat} {tm : T AV} {h : AHeap} {o : Oper} {v : AV} {h' : AHeap} {k : Nat} (e : ev1F tb c1 ops num tm h o = some (v, h', k)) : ev1F tb c2 ops num tm h o = some (v, h', k) := by
 unfold ev1F at e ⊢
 split at e
 ·rename_i hm; try simp only [hm]
  exact ev1_le hc e
 ·rename_i hm; try simp only [hm]
  exact e
theorem evTraceF_le {base : Nat} : ∀ {rest : List Oper} {i : Nat} {tm : T AV} {h : AHeap} {r}, evTraceF tb c1 n ops base i rest tm h = some r → evTraceF tb c2 n ops base i rest tm h = some r
 | [], _, _, _, _, e => e
 | o :: rest, i, tm, h, r, e => by
  unfold evTraceF at e ⊢
  split at e
  ·rename_i v h1 k he
   rw [ev1F_le hc he]
   try simp only
   split at e
   ·rename_i tm1 hp
    try rw [hp]
    try simp only
    split at e
    ·rename_i es ms t2 h2 ht
     rw [evTraceF_le ht]
     exact e
    ·cases e
   ·cases e
  ·cases e
theorem evFloat_le {tm tm' : T AV} {h h' : AHeap} (e : evFloat tb c1 n ops tm h = some (tm', h')) : evFloat tb c2 n ops tm h = some (tm', h') := by
 unfold evFloat at e ⊢
 split at e
 ·rename_i ho
  try simp only [ho]
  split at e
  ·rename_i es ms t2 h2 ht
   rw [evTraceF_le hc ht]
   exact e
  ·cases e
 ·cases e
theorem evDraw_le {tm tm' : T AV} {h h' : AHeap} (e : evDraw tb c1 n ops tm h = some (tm', h')) : evDraw tb c2 n ops tm h = some (tm', h') := by
 unfold evDraw at e ⊢
 split at e
 ·rename_i hD
  try simp only [hD]
  split at e
  ·rename_i hF; try simp only [hF]
   exact evOps_le hc e
  ·rename_i hF
   try simp only [hF]
   split at e
   ·rename_i hW; try simp only [hW]
    exact evFloat_le hc e
   ·rename_i hW
    try simp only [hW]
    split at e
    ·rename_i es ms t2 h2 ht
     rw [evTrace_le hc ht]
     exact e
    ·cases e
 ·cases e
end le
theorem callNow_of {c : XCall} {c1 : CallF} (hle : CallLe c1 (retOf c)) {tb : Tab} {ops : List Oper} {tm : T AV} {h : AHeap} {o : Oper} {v : AV} {h' : AHeap} {k : Nat} (e : ev1 tb c1 ops tm h o = some (v, h', k)) :
  callNow c ops tm h o = none ∨ callNow c ops tm h o = some (some (.ret v h')) := by
 unfold callNow
 split
 ·rename_i r hv
  split
  ·rename_i hw
   right
   unfold ev1 at e
   rw [hw] at e
   simp only at e
   obtain ⟨dst, op, ty, pos, aft, g⟩ := o
   simp only at e hv
   unfold valCall at hv
   split at hv
   rotate_left
   ·cases hv
   rename_i cl
   obtain ⟨callee, args, ts⟩ := cl
   try simp only at hv
   split at hv
   rotate_left
   ·cases hv
   rename_i f
   have e : (match Res.l (evCallVal tm h c1 f args) with
    | .l (some (v, h')) => some (v, h', 2)
    | .q (some v) => some (v, h, 1)
    | _ => none) = some (v, h', k) := e
   cases hcv : evCallVal tm h c1 f args with
   | none => rw [hcv] at e; cases e
   | some p =>
    obtain ⟨v1, h1⟩ := p
    rw [hcv] at e
    simp only [Option.some.injEq, Prod.mk.injEq] at e
    obtain ⟨rfl, rfl, _⟩ := e
    split at hv
    ·rename_i g caps l hg hl
     rw [evCallVal_eq hg hl] at hcv
     have hr := hle _ _ _ _ hcv
     unfold retOf retOnly at hr
     unfold argsOf at hr
     split at hv
     ·rename_i hm
      rw [hm] at hr
      cases hv
      split at hr
      ·rename_i v2 h2 hc2
       cases hr
       rw [hc2]
      ·cases hr
     ·rename_i x hm
      rw [hm] at hr
      cases hv
      split at hr
      ·rename_i v2 h2 hc2
       cases hr
       rw [hc2]
      ·cases hr
    ·cases hv
  ·exact .inl rfl
 ·exact .inl rfl
theorem no_defer {cfg : XCfg} {c1 : CallF} {tb : Tab} {ops : List Oper} {tm : T AV} {h : AHeap} {o : Oper} {v : AV} {h' : AHeap} {k : Nat} (e : ev1 tb c1 ops tm h o = some (v, h', k)) : deferOp cfg tm o = none := by
 unfold deferOp
 split
 ·rename_i cl h1 h2 h3
  exfalso
  unfold ev1 wantedA at e
  rw [h1, h3] at e
  cases e
 ·rfl
theorem evOpsX_pre {cfg : XCfg} {tb : Tab} {c : XCall} {c1 : CallF} (hle : CallLe c1 (retOf c)) {n : Nat} {ops : List Oper} {d : Option (Nat × List AV)} {post : List Oper} : ∀ {pre : List Oper} {tm tm' : T AV} {h h' : AHeap}, evOps tb c1 n ops pre tm h = some (tm', h') →
  evOpsX cfg tb c n ops (pre ++ post) tm h d = evOpsX cfg tb c n ops post tm' h' d
 | [], tm, tm', h, h', e => by
  simp only [evOps, Option.some.injEq, Prod.mk.injEq] at e
  obtain ⟨rfl, rfl⟩ := e
  rfl
 | o :: pre, tm, tm', h, h', e => by
  unfold evOps at e
  split at e
  ·rename_i v h1 k he
   split at e
   ·rename_i tm1 hp
    have ih := evOpsX_pre hle (cfg := cfg) (d := d) (post := post) e
    rw [List.cons_append]
    conv => lhs; unfold evOpsX
    rcases callNow_of hle he with hn | hn
    ·rw [hn, no_defer he]
     simp only [ev1_le hle he, hp]
     exact ih
    ·rw [hn]
     simp only [hp]
     exact ih
   ·cases e
  ·cases e
theorem evOpsX_of {cfg : XCfg} {tb : Tab} {c : XCall} {c1 : CallF} (hle : CallLe c1 (retOf c)) {n : Nat} {ops : List Oper} {d : Option (Nat × List AV)} {rest : List Oper} {tm tm' : T AV} {h h' : AHeap} (e : evOps tb c1 n ops rest tm h = some (tm', h')) :
  evOpsX cfg tb c n ops rest tm h d = some (.go .normal tm' h' d) := by
 have := evOpsX_pre hle (cfg := cfg) (d := d) (post := []) e
 rw [List.append_nil] at this
 rw [this]
 rfl
class Shy (cfg : XCfg) (tb : Tab) : Prop where
 shy : ∀ f args l, cfg.thr f args = some l → ∀ K h, evCall tb (run tb K) f args h = none
theorem runX_succ (cfg : XCfg) (tb : Tab) (K n : Nat) (c : Code) (tm : T AV) (h : AHeap) (d : Option (Nat × List AV)) : runX cfg tb (K + 1) n c tm h d = evCodeX cfg tb (evCallX cfg tb (runX cfg tb K)) n (runX cfg tb K n) c tm h d := rfl
section lift
variable {cfg : XCfg} {tb : Tab} [hS : Shy cfg tb]
theorem evCall_X {K : Nat} (ih : ∀ n c tm h ex tm' h' d, run tb K n c tm h = some (ex, tm', h') → runX cfg tb K n c tm h d = some (.go ex tm' h' d)) {f : Nat} {args : List AV} {h : AHeap} {v : AV} {h' : AHeap}
  (e : evCall tb (run tb K) f args h = some (v, h')) : evCallX cfg tb (runX cfg tb K) f args h = some (.ret v h') := by
 have e0 := e
 unfold evCall at e
 unfold evCallX
 split at e
 ·rename_i u hu
  simp only [Option.some.injEq, Prod.mk.injEq] at e
  obtain ⟨rfl, rfl⟩ := e
  rw [hu]
 ·rename_i hu
  rw [hu]
  simp only
  cases ht : cfg.thr f args with
  | some l => rw [hS.shy f args l ht K h] at e0; cases e0
  | none =>
   simp only
   split at e
   ·rename_i fn hf
    rw [hf]
    simp only
    split at e
    ·rename_i c hb hle
     rw [hb, hle]
     simp only
     split at e
     ·cases e
     ·rename_i ex tm1 h1 hex hr
      rw [ih _ _ _ _ _ _ _ none hr]
      split at e
      ·rename_i l hl
       simp only [Option.some.injEq, Prod.mk.injEq] at e
       obtain ⟨rfl, rfl⟩ := e
       cases ex with
       | exit i => exact absurd rfl (hex i)
       | normal => show endX tb _ _ _ = _; unfold endX; rw [hl]
       | ret => show endX tb _ _ _ = _; unfold endX; rw [hl]
      ·cases e
     ·cases e
    ·cases e
   ·cases e
theorem run_X : ∀ (K n : Nat) (c : Code) (tm : T AV) (h : AHeap) (ex : Ex) (tm' : T AV) (h' : AHeap) (d : Option (Nat × List AV)), run tb K n c tm h = some (ex, tm', h') → runX cfg tb K n c tm h d = some (.go ex tm' h' d)
 | 0, n, c, tm, h, ex, tm', h', d, e => by cases e
 | K + 1, n, c, tm, h, ex, tm', h', d, e => by
  have ih := run_X K
  have hle : CallLe (evCall tb (run tb K)) (retOf (evCallX cfg tb (runX cfg tb K))) := by
   intro f a hp r hr
   obtain ⟨v, h1⟩ := r
   unfold retOf
   rw [evCall_X ih hr]
   rfl
  rw [run_succ] at e
  rw [runX_succ]
  cases c with
  | skip => cases e; rfl
  | label i => cases e; rfl
  | ret => cases e; rfl
  | exit i => cases e; rfl
  | region id ops draw =>
   unfold evCode at e
   unfold evCodeX
   cases draw with
   | true =>
    simp only at e ⊢
    split at e
    ·rename_i tm1 h1 hd
     cases e
     unfold evDrawX
     rw [evDraw_le hle hd]
    ·cases e
   | false =>
    simp only at e ⊢
    split at e
    ·rename_i tm1 h1 hd
     cases e
     exact evOpsX_of hle hd
    ·cases e
  | seq a b =>
   unfold evCode at e
   unfold evCodeX
   simp only at e ⊢
   split at e
   ·rename_i tm1 h1 ha
    rw [ih _ _ _ _ _ _ _ d ha]
    exact ih _ _ _ _ _ _ _ d e
   ·rename_i hn
    rw [ih _ _ _ _ _ _ _ d e]
    cases ex with
    | normal => exact absurd e (hn _ _)
    | exit i => rfl
    | ret => rfl
  | cond x a b =>
   unfold evCode at e
   unfold evCodeX
   simp only at e ⊢
   split at e
   ·rename_i hx; rw [hx]; exact ih _ _ _ _ _ _ _ d e
   ·rename_i hx; rw [hx]; exact ih _ _ _ _ _ _ _ d e
   ·cases e
  | block id b =>
   unfold evCode at e
   unfold evCodeX
   simp only at e ⊢
   split at e
   ·rename_i j tm1 h1 hb
    rw [ih _ _ _ _ _ _ _ d hb]
    simp only
    split at e
    ·rename_i hj; cases e; rw [hj]
    ·rename_i hj; cases e; rw [hj]
   ·rename_i hn
    rw [ih _ _ _ _ _ _ _ d e]
    cases ex with
    | normal => rfl
    | exit i => exact absurd e (hn _ _ _)
    | ret => rfl
  | loop b =>
   unfold evCode at e
   unfold evCodeX
   simp only at e ⊢
   split at e
   ·rename_i tm1 h1 ha
    rw [ih _ _ _ _ _ _ _ d ha]
    exact ih _ _ _ _ _ _ _ d e
   ·rename_i hn
    rw [ih _ _ _ _ _ _ _ d e]
    cases ex with
    | normal => exact absurd e (hn _ _)
    | exit i => rfl
    | ret => rfl
  | _ => cases e
theorem call_X {K f : Nat} {args : List AV} {h : AHeap} {v : AV} {h' : AHeap} (e : evCall tb (run tb K) f args h = some (v, h')) : evCallX cfg tb (runX cfg tb K) f args h = some (.ret v h') := evCall_X (run_X K) e
theorem callLe_X (K : Nat) : CallLe (evCall tb (run tb K)) (retOf (evCallX cfg tb (runX cfg tb K))) := by
 intro f a hp r hr
 obtain ⟨v, h1⟩ := r
 unfold retOf
 rw [call_X hr]
 rfl
end lift
end
end Go.Proofs.YtfkbfnpjggkdmaaGreatDoor.Ev
