/- Walks over the evaluator, part 15: statements whose makers float. -/
import Derived.Test.YtfkbfnpjggkdmaaGreatDoorOAwJ
namespace Go.Proofs.YtfkbfnpjggkdmaaGreatDoor.Ev
open Go.RowKit
noncomputable section
def noMem : Op → Bool
 | .move _ => true
 | .assign _ => true
 | .extract _ _ => true
 | _ => false
theorem evOp_noMem {tb : Tab} {call : CallF} {tm : T AV} {h h' : AHeap} {op : Op} (hn : noMem op = true) : evOp tb call tm h op = evOp tb call tm h' op := by
 cases op <;> first | rfl | (simp [noMem] at hn)
def bitF (ops : List Oper) (ord : List Nat) (p q : Nat) : Bool := ((aheadOf ops []).getD (ord.getD p 0) 0).testBit (ord.getD q 0)
def loudF (l : List Oper) (p : Nat) : Bool := match l[p]? with
 | some o => loudOp o.op
 | none => false
def hardF (l : List Oper) (p : Nat) : Bool := match l[p]? with
 | some o => loudOp o.op && !(isMaker o.op)
 | none => false
def pickF (ops : List Oper) (ord : List Nat) : List Oper := ord.filterMap fun i => ops[i]?
def statF (ops : List Oper) (ord : List Nat) (m : Nat) : Bool :=
 drawOk ops && !(drawFree ops) && wantsFloat ops && decide (sinkOrd ops = ord) && ordOk (aheadOf ops []) ops.length ord &&
 ((List.range (pickF ops ord).length).all fun p => (List.range p).all fun q => !(hardF (pickF ops ord) p) || !(loudF (pickF ops ord) q) || bitF ops ord p q) &&
 ((List.range m).all fun p => bitF ops ord m p)
def GoodF (tb : Tab) (l : List Oper) (m : Nat) (h0 : AHeap) (i : Nat) (es : List Ent) (ms : List (Nat × AHeap)) : Prop :=
 (∀ e ∈ es, l[e.i]? = some e.o ∧ (e.kind = 1 → e.v.beq e.v = true ∧ (e.i < m → evQ tb e.tm h0 e.o.op = some e.v) ∧ (m ≤ e.i → ∀ H, evQ tb e.tm H e.o.op = some e.v)) ∧
  (e.kind = 2 → loudOp e.o.op = true ∧ isMaker e.o.op = false) ∧ (e.kind = 3 → loudOp e.o.op = true)) ∧
 (∀ p ∈ ms, m < p.1) ∧ (i ≤ m → ∃ e ∈ es, e.i = m ∧ e.kind = 2)
theorem flOk_of {tb : Tab} {ops : List Oper} {ord : List Nat} {m : Nat} {h0 : AHeap} {es : List Ent} {ms : List (Nat × AHeap)}
  (hA : ((List.range (pickF ops ord).length).all fun p => (List.range p).all fun q => !(hardF (pickF ops ord) p) || !(loudF (pickF ops ord) q) || bitF ops ord p q) = true)
  (hB : ((List.range m).all fun p => bitF ops ord m p) = true) (hG : GoodF tb (pickF ops ord) m h0 0 es ms) :
  es.all (flOk tb (fun p q => ((aheadOf ops []).getD (ord.getD p 0) 0).testBit (ord.getD q 0)) (kindsOf 2 es) (kindsOf 3 es) ((0, h0) :: ms)) = true := by
 obtain ⟨g1, g2, g3⟩ := hG
 have kin : ∀ k i, i ∈ kindsOf k es → ∃ e ∈ es, e.i = i ∧ e.kind = k := by
  intro k i hi
  obtain ⟨e, he, h⟩ := List.mem_filterMap.1 hi
  by_cases hk : e.kind = k
  ·rw [if_pos hk] at h
   simp only [Option.some.injEq] at h
   exact ⟨e, he, h, hk⟩
  ·rw [if_neg hk] at h; cases h
 have kof : ∀ e ∈ es, e.i ∈ kindsOf e.kind es := fun e he => List.mem_filterMap.2 ⟨e, he, by simp⟩
 rw [List.all_eq_true]
 intro e he
 obtain ⟨a1, a2, a3, a4⟩ := g1 e he
 have hl := (List.getElem?_eq_some_iff.1 a1).1
 unfold flOk
 split
 ·rename_i hk
  obtain ⟨b1, b2⟩ := a3 hk
  have hh : hardF (pickF ops ord) e.i = true := by unfold hardF; rw [a1]; simp [b1, b2]
  have key : ∀ e' ∈ es, loudOp e'.o.op = true → (!(Nat.blt e'.i e.i) || ((aheadOf ops []).getD (ord.getD e.i 0) 0).testBit (ord.getD e'.i 0)) = true := by
   intro e' he' hl'
   rcases Nat.lt_or_ge e'.i e.i with h | h
   ·have hlo : loudF (pickF ops ord) e'.i = true := by unfold loudF; rw [(g1 e' he').1]; exact hl'
    have := List.all_eq_true.1 (List.all_eq_true.1 hA e.i (List.mem_range.2 hl)) e'.i (List.mem_range.2 h)
    simp only [hh, hlo, Bool.not_true, Bool.false_or] at this
    rw [Bool.or_eq_true]
    exact .inr this
   ·have : Nat.blt e'.i e.i = false := by
     cases hb : Nat.blt e'.i e.i with
     | true => have := Nat.blt_eq.mp hb; omega
     | false => rfl
    rw [this]; rfl
  rw [Bool.and_eq_true, List.all_eq_true, List.all_eq_true]
  refine ⟨fun i hi => ?_, fun i hi => ?_⟩
  ·obtain ⟨e', he', rfl, hk'⟩ := kin _ _ hi
   exact key e' he' ((g1 e' he').2.2.1 hk').1
  ·obtain ⟨e', he', rfl, hk'⟩ := kin _ _ hi
   exact key e' he' ((g1 e' he').2.2.2 hk')
 ·rename_i hk
  obtain ⟨b1, b2, b3⟩ := a2 hk
  rw [List.all_eq_true]
  rintro ⟨n, h⟩ hn
  rcases Nat.lt_or_ge e.i m with him | him
  ·rcases List.mem_cons.1 hn with hn | hn
   ·simp only [Prod.mk.injEq] at hn
    obtain ⟨rfl, rfl⟩ := hn
    simp only [b2 him, b1, Bool.or_true]
   ·have hmn := g2 _ hn
    simp only at hmn
    obtain ⟨e0, he0, h0i, h0k⟩ := g3 (Nat.zero_le _)
    have hm0 : m ∈ kindsOf 2 es := by rw [← h0i, ← h0k]; exact kof e0 he0
    have hbit := List.all_eq_true.1 hB e.i (List.mem_range.2 him)
    unfold bitF at hbit
    have hnle : Nat.ble n m = false := by
     cases hb : Nat.ble n m with
     | true => have := Nat.ble_eq.mp hb; omega
     | false => rfl
    have hf : (List.all (kindsOf 2 es) fun i => (!(((aheadOf ops []).getD (ord.getD e.i 0) 0).testBit (ord.getD i 0)) || Nat.blt i n) && (!(((aheadOf ops []).getD (ord.getD i 0) 0).testBit (ord.getD e.i 0)) || Nat.ble n i)) = false := by
     rw [List.all_eq_false]
     exact ⟨m, hm0, by rw [hbit, hnle]; simp⟩
    simp only [hf, Bool.false_and, Bool.not_false, Bool.true_or]
  ·simp only [b3 him h, b1, Bool.or_true]
 ·rfl
section
variable {tb : Tab} {n : Nat} {E : Env} {s : St} {hs : HSt} {R : T AV → AHeap → Prop} {ops l rest : List Oper} {d : Nat} {ty : TypeId} {pos : String} {aft : Array Edge} {t : TypeId} {m i base : Nat} {h0 : AHeap}
def WF (tb : Tab) (n : Nat) (ops l : List Oper) (m base : Nat) (h0 : AHeap) (i : Nat) (rest : List Oper) (E : Env) (s : St) (hs : HSt) (R : T AV → AHeap → Prop) : Prop :=
 ∀ tm h, Has tm s → HS E hs h → l.drop i = rest → (i ≤ m → h = h0) → E.h0.next ≤ base → base + ops.length ≤ h.next → (∀ e ∈ hs, e.b < base + i ∨ base + ops.length ≤ e.b) →
  ∃ es ms tm' h', evTraceF tb (callOf (callE tb)) n ops base i rest tm h = some (es, ms, tm', h') ∧ GoodF tb l m h0 i es ms ∧ ∀ TM, SubT tm' TM → R TM h'
theorem WF.nil (hi : Nat.blt m i = true) (h : End E s hs R) : WF tb n ops l m base h0 i [] E s hs R :=
 fun tm hp ht hh _ _ _ _ _ => ⟨[], [], tm, hp, rfl, ⟨fun e he => by simp at he, fun p hp => by simp at hp, fun h => by have := Nat.blt_eq.mp hi; omega⟩, fun TM hT => h TM hp (ht.mono hT) hh⟩
theorem WF.subH {hs' : HSt} (h : SubH hs' hs) (g : WF tb n ops l m base h0 i rest E s hs' R) : WF tb n ops l m base h0 i rest E s hs R :=
 fun tm hp ht hh hd hm hE hb ha => g tm hp ht (hh.sub h) hd hm hE hb fun e he => ha e (h.1 e he)
theorem drop_step {o : Oper} (h : l.drop i = o :: rest) : l[i]? = some o ∧ l.drop (i + 1) = rest := by
 refine ⟨?_, ?_⟩
 ·have : (l.drop i)[0]? = some o := by rw [h]; rfl
  rwa [List.getElem?_drop, Nat.add_zero] at this
 ·rw [← List.drop_drop, h]; rfl
theorem wf_step {tm tm1 : T AV} {h h1 : AHeap} {o : Oper} {v : AV} {k : Nat} (hl : l[i]? = some o) (he : ev1F tb (callOf (callE tb)) ops (base + i) tm h o = some (v, h1, k)) (hp : putDst tm n o.dst v = some tm1)
  (hq : k = 1 → v.beq v = true ∧ (i < m → evQ tb tm h0 o.op = some v) ∧ (m ≤ i → ∀ H, evQ tb tm H o.op = some v)) (h2 : k = 2 → loudOp o.op = true ∧ isMaker o.op = false) (h3 : k = 3 → loudOp o.op = true) (hm : 2 ≤ k → m ≤ i) (him : i = m → k = 2)
  (hk : ∃ es ms tm' h', evTraceF tb (callOf (callE tb)) n ops base (i + 1) rest tm1 h1 = some (es, ms, tm', h') ∧ GoodF tb l m h0 (i + 1) es ms ∧ ∀ TM, SubT tm' TM → R TM h') :
  ∃ es ms tm' h', evTraceF tb (callOf (callE tb)) n ops base i (o :: rest) tm h = some (es, ms, tm', h') ∧ GoodF tb l m h0 i es ms ∧ ∀ TM, SubT tm' TM → R TM h' := by
 obtain ⟨es, ms, tm2, h2', e, ⟨g1, g2, g3⟩, hR⟩ := hk
 refine ⟨_, _, tm2, h2', by unfold evTraceF; simp only [he, hp, e]; rfl, ⟨fun x hx => ?_, fun p hp => ?_, fun hi => ?_⟩, hR⟩
 ·rcases List.mem_cons.1 hx with rfl | hx
  ·exact ⟨hl, hq, h2, h3⟩
  ·exact g1 x hx
 ·by_cases hk2 : 2 ≤ k
  ·rw [if_pos hk2] at hp
   rcases List.mem_cons.1 hp with rfl | hp
   ·have := hm hk2; show m < i + 1; omega
   ·exact g2 p hp
  ·rw [if_neg hk2] at hp
   exact g2 p hp
 ·by_cases hi2 : i = m
  ·exact ⟨_, List.mem_cons_self .., hi2, him hi2⟩
  ·obtain ⟨e, h1, h2⟩ := g3 (by omega)
   exact ⟨e, List.mem_cons_of_mem _ h1, h2⟩
theorem mk_notq {tm : T AV} {h : AHeap} {op : Op} {r : Option AV} {call : CallF} (e : evOp tb call tm h op = .q r) : isMaker op = false := by
 cases op <;> first | rfl | (simp [evOp] at e)
theorem WF.q {op : Op} {v : AV} (hq : QV tb s hs op v) (hb : v.beq v = true) (hd : Nat.blt d n = true) (him : Nat.beq i m = false) (hn : (Nat.blt i m || noMem op) = true) (hk : WF tb n ops l m base h0 (i + 1) rest E ((d, v) :: s) hs R) :
  WF tb n ops l m base h0 i (⟨some d, op, ty, pos, aft, none⟩ :: rest) E s hs R := by
 intro tm h ht hh hdr hm hE hbs ha
 have hv := hq tm h ht hh.keep
 obtain ⟨hl, hdr'⟩ := drop_step hdr
 have hne : i ≠ m := fun e => by rw [e, Nat.beq_refl] at him; cases him
 refine wf_step (v := v) (k := 1) (h1 := h) (tm1 := tm.set d v) hl ?_ (putDst_at hd) (fun _ => ⟨hb, fun hlt => ?_, fun hge H => ?_⟩) (fun h => by cases h) (fun h => by cases h) (fun h => by omega) (fun h => absurd h hne)
  (hk _ _ (ht.set d v) hh hdr' (fun h => hm (by omega)) hE hbs fun e he => (ha e he).imp (fun h => by omega) id)
 ·unfold ev1F
  rw [mk_notq (hv (callOf (callE tb)))]
  simp only
  unfold ev1
  have : wantedA ops tm ⟨some d, op, ty, pos, aft, none⟩ = some true := rfl
  rw [this]
  simp only [hv]
 ·rw [← hm (by omega)]
  unfold evQ
  rw [hv]
 ·have hno : noMem op = true := by
   rcases Bool.or_eq_true _ _ ▸ hn with h | h
   ·have := Nat.blt_eq.mp h; omega
   ·exact h
  unfold evQ
  rw [evOp_noMem (h' := h) hno, hv]
theorem WF.alloc {ob : AObj} (ho : AO tb t = some ob) (hd : Nat.blt d n = true) (hi : Nat.blt m i = true) (hlt : Nat.blt i ops.length = true) (hk : ∀ b, WF tb n ops l m base h0 (i + 1) rest E ((d, .ptr b 0) :: s) (⟨b, ob, true⟩ :: hs) R) :
  WF tb n ops l m base h0 i (⟨some d, .alloc t, ty, pos, aft, none⟩ :: rest) E s hs R := by
 intro tm h ht hh hdr hm hE hbs ha
 obtain ⟨hl, hdr'⟩ := drop_step hdr
 have him := Nat.blt_eq.mp hi
 have hil := Nat.blt_eq.mp hlt
 have hnew : HS E (⟨base + i, ob, true⟩ :: hs) ⟨h.next, h.objs.set (base + i) ob⟩ := by
  refine ⟨fun e he => ?_, ?_, hh.fr.1, fun c hc hcS => ?_⟩
  ·rcases List.mem_cons.1 he with rfl | he
   ·exact ⟨by simp [T.get_set], by show base + i < h.next; omega, fun _ => .inl (by show E.h0.next ≤ base + i; omega)⟩
   ·obtain ⟨a1, a2, a3⟩ := hh.at_ e he
    refine ⟨?_, a2, a3⟩
    have := ha e he
    rw [T.get_set, if_neg (by omega)]
    exact a1
  ·simp only [List.map_cons, List.nodup_cons]
   refine ⟨fun hm => ?_, hh.nd⟩
   obtain ⟨e, he, hb⟩ := List.mem_map.1 hm
   have := ha e he
   omega
  ·show (h.objs.set (base + i) ob).get c = _
   rw [T.get_set, if_neg (by omega)]
   exact hh.fr.2 c hc hcS
 refine wf_step (v := .ptr (base + i) 0) (k := 3) (h1 := ⟨h.next, h.objs.set (base + i) ob⟩) (tm1 := tm.set d (.ptr (base + i) 0)) hl ?_ (putDst_at hd) (fun h => by cases h) (fun h => by cases h) (fun _ => rfl) (fun _ => by omega) (fun h => by omega)
  (hk (base + i) _ _ (ht.set d _) hnew hdr' (fun h => by omega) hE hbs fun e he => ?_)
 ·unfold ev1F
  have hmk : isMaker (Op.alloc t) = true := rfl
  have hw : wantedA ops tm ⟨some d, .alloc t, ty, pos, aft, none⟩ = some true := rfl
  rw [hmk, hw]
  unfold mkA
  unfold AO at ho
  split at ho
  ·rename_i z hz
   simp only [Option.some.injEq] at ho
   simp only [hz, ho]
  ·cases ho
 ·rcases List.mem_cons.1 he with rfl | he
  ·left; show base + i < base + (i + 1); omega
  ·exact (ha e he).imp (fun h => by omega) id
theorem WF.hard {op : Op} {v : AV} {tm tm1 : T AV} {h h1 : AHeap} {dst : Option Nat} (hmk : isMaker op = false) (hl : l[i]? = some ⟨dst, op, ty, pos, aft, none⟩) (he : evOp tb (callOf (callE tb)) tm h op = .l (some (v, h1))) (hp : putDst tm n dst v = some tm1) (hmi : m ≤ i)
  (hk : ∃ es ms tm' h', evTraceF tb (callOf (callE tb)) n ops base (i + 1) rest tm1 h1 = some (es, ms, tm', h') ∧ GoodF tb l m h0 (i + 1) es ms ∧ ∀ TM, SubT tm' TM → R TM h') :
  ∃ es ms tm' h', evTraceF tb (callOf (callE tb)) n ops base i (⟨dst, op, ty, pos, aft, none⟩ :: rest) tm h = some (es, ms, tm', h') ∧ GoodF tb l m h0 i es ms ∧ ∀ TM, SubT tm' TM → R TM h' := by
 refine wf_step (v := v) (k := 2) (h1 := h1) (tm1 := tm1) hl ?_ hp (fun h => by cases h) (fun _ => ⟨loud_is he, hmk⟩) (fun h => by cases h) (fun _ => hmi) (fun _ => rfl) hk
 unfold ev1F
 rw [hmk]
 simp only
 unfold ev1
 have : wantedA ops tm ⟨dst, op, ty, pos, aft, none⟩ = some true := rfl
 rw [this]
 simp only [he]
theorem WF.store {ox oy : Operand} {j b o k : Nat} {ob : AObj} {v : AV} {cs : List AV} {hs' : HSt} (hz : tb.size t = some k) (hx : oL s ox = some (.ptr b o)) (hy : oL s oy = some v) (hm : hs[j]? = some ⟨b, ob, true⟩)
  (hb : (Nat.beq v.cells.length k && Nat.ble (o + k) ob.cells.length && v.cells.all AV.isCell) = true) (hc : layL ob.cells o v.cells = cs) (hs_ : hs.set j ⟨b, ⟨ob.sz, ob.exact_, cs⟩, true⟩ = hs') (hi : Nat.blt m i = true)
  (hk : WF tb n ops l m base h0 (i + 1) rest E s hs' R) (hz0 : Nat.blt 0 ob.sz = true := by rfl) : WF tb n ops l m base h0 i (⟨none, .store t ox oy, ty, pos, aft, none⟩ :: rest) E s hs R := by
 intro tm h ht hh hdr hmh hE hbs ha
 obtain ⟨hl, hdr'⟩ := drop_step hdr
 have him := Nat.blt_eq.mp hi
 subst hs_
 refine WF.hard (v := .tuple []) (h1 := ⟨h.next, h.objs.set b ⟨ob.sz, ob.exact_, cs⟩⟩) (tm1 := tm) rfl hl ?_ rfl (by omega) (hk tm _ ht (hh.put hm) hdr' (fun h => by omega) hE hbs fun e he => ?_)
 ·show Res.l (evStore tb tm h t ox oy) = _
  unfold evStore
  simp only [oL_ok ht hx, oL_ok ht hy]
  unfold storeA
  have h1 := (hh.at_ _ (mem_at hm)).1
  simp only at h1
  simp only [hz, h1, hb, hc, hz0]
 ·have : e.b ∈ hs.map (·.b) := by
   obtain ⟨q, hq⟩ := List.getElem?_of_mem he
   rw [List.getElem?_set] at hq
   by_cases hjq : j = q
   ·subst hjq
    split at hq
    ·split at hq
     ·cases hq; exact List.mem_map.2 ⟨_, mem_at hm, rfl⟩
     ·cases hq
    ·rename_i h; exact absurd rfl h
   ·rw [if_neg hjq] at hq; exact List.mem_map.2 ⟨_, List.mem_of_getElem? hq, rfl⟩
  obtain ⟨x, hx, hxb⟩ := List.mem_map.1 this
  have := ha x hx
  rw [← hxb]
  omega
theorem WF.call0 {of : Operand} {args : List Operand} {ts : Array TypeId} {g : Nat} {caps la l' : List AV} {hsc : HSt} {Post : AV → HSt → Prop} (hf : oL s of = some (.func g caps)) (ha : oLs s args = some la) (hl : argsOf la caps = l')
  (hsp : Spec tb g l' [] hsc Post) (hsub : SubR hsc hs) (hd : Nat.blt d n = true) (hi : Nat.ble m i = true) (hk : ∀ v D, Post v D → WF tb n ops l m base h0 (i + 1) rest E ((d, v) :: s) (D ++ hs) R) :
  WF tb n ops l m base h0 i (⟨some d, .call ⟨.value of, args.toArray, ts⟩, ty, pos, aft, none⟩ :: rest) E s hs R := by
 intro tm h ht hh hdr hmh hE hbs haw
 obtain ⟨hl0, hdr'⟩ := drop_step hdr
 have him := Nat.ble_eq.mp hi
 obtain ⟨v, h', D, hEv, hP, hw, hD⟩ := hsp h (hh.enter hsub)
 have hnx : h.next ≤ h'.next := hD.fr.1
 refine WF.hard (v := v) (h1 := h') (tm1 := tm.set d v) rfl hl0 ?_ (putDst_at hd) him (hk v D hP _ _ (ht.set d _) (hh.back hw hD) hdr' (fun h => by omega) hE (by omega) fun e he => ?_)
 ·show Res.l (evCallVal tm h (callOf (callE tb)) of args.toArray) = _
  rw [evCallVal_eq (oL_ok ht hf) (by exact oLs_ok ht ha)]
  subst hl
  rw [callOf_eq hEv]
 ·rcases List.mem_append.1 he with he | he
  ·right
   rcases (hD.at_ e he).2.2 (hw e he) with h1 | h1
   ·exact Nat.le_trans hbs h1
   ·cases h1
  ·exact (haw e he).imp (fun h => by omega) id
theorem W.regF {Q} {id : Nat} {ops : List Oper} (m : Nat) (ord : List Nat) (hst : statF ops ord m = true)
  (hk : ∀ base h0, WF tb n ops (pickF ops ord) m base h0 0 (pickF ops ord) E s hs (Q .normal)) : W tb n (.region id ops.toArray true) E s hs Q := by
 intro tm hp ht hh
 unfold statF at hst
 simp only [Bool.and_eq_true, Bool.not_eq_true', decide_eq_true_eq] at hst
 obtain ⟨⟨⟨⟨⟨⟨c1, c2⟩, c3⟩, c4⟩, c5⟩, c6⟩, c7⟩ := hst
 have hh0 : HS E hs ⟨hp.next + ops.length, hp.objs⟩ := ⟨fun e he => ⟨(hh.at_ e he).1, Nat.lt_of_lt_of_le (hh.at_ e he).2.1 (Nat.le_add_right _ _), (hh.at_ e he).2.2⟩, hh.nd, Nat.le_trans hh.fr.1 (Nat.le_add_right _ _), hh.fr.2⟩
 obtain ⟨es, ms, tm1, h1, he, hG, hR⟩ := hk hp.next ⟨hp.next + ops.length, hp.objs⟩ tm _ ht hh0 rfl (fun _ => rfl) hh.fr.1 (Nat.le_refl _) fun e he => .inl (hh.at_ e he).2.1
 have hd : evDraw tb (callOf (callE tb)) n ops tm hp = some (tm1, h1) := by
  unfold evDraw
  simp only [c1, c2, c3]
  unfold evFloat
  rw [c4, c5]
  simp only
  have he' : evTraceF tb (callOf (callE tb)) n ops hp.next 0 (List.filterMap (fun i => ops[i]?) ord) tm ⟨hp.next + ops.length, hp.objs⟩ = some (es, ms, tm1, h1) := he
  rw [he']
  simp only
  rw [flOk_of c6 c7 hG]
 obtain ⟨TM, g1, g2⟩ := evDraw_mono (callE_ok tb) (SubT.refl tm) hd
 refine ⟨.normal, TM, h1, g2.step fun K hK => ?_, hR TM g1⟩
 rw [run_succ]
 unfold evCode
 simp only [hK]
end
end
end Go.Proofs.YtfkbfnpjggkdmaaGreatDoor.Ev
