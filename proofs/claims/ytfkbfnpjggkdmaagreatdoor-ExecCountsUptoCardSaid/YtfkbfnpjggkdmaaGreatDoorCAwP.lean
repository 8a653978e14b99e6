/- Walks over the evaluator, part 15: statements whose makers float. -/
import Derived.Test.YtfkbfnpjggkdmaaGreatDoorCAwJ
namespace Go.Proofs.YtfkbfnpjggkdmaaGreatDoor.Ev
open Go.RowKit
noncomputable section
def yp : Op -> Bool
 | .move _ => true
 | .assign _ => true
 | .extract _ _ => true
 | _ => false
theorem vx {tb : Tab} {call : il} {tm : T AV} {h h' : AHeap} {op : Op} (hn : yp op = true) : cO tb call tm h op = cO tb call tm h' op := by
 cases op <;> first | rfl | (simp [yp] at hn)
def Ic (ops : List Oper) (ord : List Nat) (p q : Nat) : Bool := ((ay ops []).getD (ord.getD p 0) 0).testBit (ord.getD q 0)
def yh (l : List Oper) (p : Nat) : Bool := match l[p]? with
 | some o => bR o.op
 | none => false
def w7 (l : List Oper) (p : Nat) : Bool := match l[p]? with
 | some o => bR o.op && !(df o.op)
 | none => false
def jS (ops : List Oper) (ord : List Nat) : List Oper := ord.filterMap fun i => ops[i]?
def sV (tb : Tab) (l : List Oper) (m : Nat) (h0 : AHeap) (i : Nat) (es : List Ent) (ms : List (Nat × AHeap)) : Prop :=
 (∀ e ∈ es, l[e.i]? = some e.o /\ (e.kind = 1 -> e.v.beq e.v = true /\ (e.i < m -> kQ tb e.tm h0 e.o.op = some e.v) /\ (m <= e.i -> ∀ H, kQ tb e.tm H e.o.op = some e.v)) /\
  (e.kind = 2 -> bR e.o.op = true /\ df e.o.op = false) /\ (e.kind = 3 -> bR e.o.op = true)) /\
 (∀ p ∈ ms, m < p.1) /\ (i <= m -> ∃ e ∈ es, e.i = m /\ e.kind = 2)
section
variable {tb : Tab} {n : Nat} {E : Env} {s : St} {hs : af} {R : T AV -> AHeap -> Prop} {ops l rest : List Oper} {d : Nat} {ty : TypeId} {pos : String} {aft : Array Edge} {t : TypeId} {m i base : Nat} {h0 : AHeap}
def WF (tb : Tab) (n : Nat) (ops l : List Oper) (m base : Nat) (h0 : AHeap) (i : Nat) (rest : List Oper) (E : Env) (s : St) (hs : af) (R : T AV -> AHeap -> Prop) : Prop :=
 ∀ tm h, Has tm s -> HS E hs h -> l.drop i = rest -> (i <= m -> h = h0) -> E.h0.next <= base -> base + ops.length <= h.next -> (∀ e ∈ hs, e.b < base + i \/ base + ops.length <= e.b) ->
  ∃ es ms tm' h', bw tb (aD (callE tb)) n ops base i rest tm h = some (es, ms, tm', h') /\ sV tb l m h0 i es ms /\ ∀ TM, SubT tm' TM -> R TM h'
theorem WF.nil (hi : Nat.blt m i = true) (h : End E s hs R) : WF tb n ops l m base h0 i [] E s hs R :=
 fun tm hp ht hh _ _ _ _ _ => ⟨[], [], tm, hp, rfl, ⟨fun e he => by simp at he, fun p hp => by simp at hp, fun h => by have := Nat.blt_eq.mp hi; omega⟩, fun TM hT => h TM hp (ht.mono hT) hh⟩
theorem fG {o : Oper} (h : l.drop i = o :: rest) : l[i]? = some o /\ l.drop (i + 1) = rest := by
 refine ⟨?_, ?_⟩
 ·have : (l.drop i)[0]? = some o := by rw [h]; rfl
  rwa [List.getElem?_drop, Nat.add_zero] at this
 ·rw [<- List.drop_drop, h]; rfl
theorem sO {tm tm1 : T AV} {h h1 : AHeap} {o : Oper} {v : AV} {k : Nat} (hl : l[i]? = some o) (he : gG tb (aD (callE tb)) ops (base + i) tm h o = some (v, h1, k)) (hp : bE tm n o.dst v = some tm1)
  (hq : k = 1 -> v.beq v = true /\ (i < m -> kQ tb tm h0 o.op = some v) /\ (m <= i -> ∀ H, kQ tb tm H o.op = some v)) (h2 : k = 2 -> bR o.op = true /\ df o.op = false) (h3 : k = 3 -> bR o.op = true) (hm : 2 <= k -> m <= i) (him : i = m -> k = 2)
  (hk : ∃ es ms tm' h', bw tb (aD (callE tb)) n ops base (i + 1) rest tm1 h1 = some (es, ms, tm', h') /\ sV tb l m h0 (i + 1) es ms /\ ∀ TM, SubT tm' TM -> R TM h') :
  ∃ es ms tm' h', bw tb (aD (callE tb)) n ops base i (o :: rest) tm h = some (es, ms, tm', h') /\ sV tb l m h0 i es ms /\ ∀ TM, SubT tm' TM -> R TM h' := by
 obtain ⟨es, ms, tm2, h2', e, ⟨g1, g2, g3⟩, hR⟩ := hk
 refine ⟨_, _, tm2, h2', by unfold bw; simp only [he, hp, e]; rfl, ⟨fun x hx => ?_, fun p hp => ?_, fun hi => ?_⟩, hR⟩
 ·rcases List.mem_cons.1 hx with rfl | hx
  ·exact ⟨hl, hq, h2, h3⟩
  ·exact g1 x hx
 ·by_cases hk2 : 2 <= k
  ·rw [if_pos hk2] at hp
   rcases List.mem_cons.1 hp with rfl | hp
   ·have := hm hk2; show m < i + 1; omega
   ·exact g2 p hp
  ·rw [if_neg hk2] at hp
   exact g2 p hp
 ·by_cases hi2 : i = m
  ·exact ⟨_, List.mem_cons_self .., hi2, him hi2⟩
  ·obtain ⟨e, h1, h2⟩ := g3 zy
   exact ⟨e, List.mem_cons_of_mem _ h1, h2⟩
theorem yl {tm : T AV} {h : AHeap} {op : Op} {r : Option AV} {call : il} (e : cO tb call tm h op = .q r) : df op = false := by
 cases op <;> first | rfl | (simp [cO] at e)
theorem WF.q {op : Op} {v : AV} (hq : QV tb s hs op v) (hb : v.beq v = true) (hd : Nat.blt d n = true) (him : Nat.beq i m = false) (hn : (Nat.blt i m || yp op) = true) (hk : WF tb n ops l m base h0 (i + 1) rest E ((d, v) :: s) hs R) :
  WF tb n ops l m base h0 i (⟨some d, op, ty, pos, aft, none⟩ :: rest) E s hs R := by
 intro tm h ht hh hdr hm hE hbs ha
 have hv := hq tm h ht hh.keep
 obtain ⟨hl, hdr'⟩ := fG hdr
 have hne : i ≠ m := fun e => by rw [e, Nat.beq_refl] at him; cases him
 refine sO (v := v) (k := 1) (h1 := h) (tm1 := tm.set d v) hl ?_ (aO hd) (fun _ => ⟨hb, fun hlt => ?_, fun hge H => ?_⟩) (fun h => by cases h) (fun h => by cases h) (fun h => by omega) (fun h => absurd h hne)
  (hk _ _ (ht.set d v) hh hdr' (fun h => hm zy) hE hbs fun e he => (ha e he).imp (fun h => by omega) id)
 ·unfold gG
  rw [yl (hv (aD (callE tb)))]
  simp only
  unfold fT
  have : aK ops tm ⟨some d, op, ty, pos, aft, none⟩ = some true := rfl
  rw [this]
  simp only [hv]
 ·rw [<- hm zy]
  unfold kQ
  rw [hv]
 ·have hno : yp op = true := by
   rcases Bool.or_eq_true _ _ ▸ hn with h | h
   ·have := Nat.blt_eq.mp h; omega
   ·exact h
  unfold kQ
  rw [vx (h' := h) hno, hv]
theorem WF.alloc {ob : AObj} (ho : AO tb t = some ob) (hd : Nat.blt d n = true) (hi : Nat.blt m i = true) (hlt : Nat.blt i ops.length = true) (hk : ∀ b, WF tb n ops l m base h0 (i + 1) rest E ((d, .ptr b 0) :: s) (⟨b, ob, true⟩ :: hs) R) :
  WF tb n ops l m base h0 i (⟨some d, .alloc t, ty, pos, aft, none⟩ :: rest) E s hs R := by
 intro tm h ht hh hdr hm hE hbs ha
 obtain ⟨hl, hdr'⟩ := fG hdr
 have him := Nat.blt_eq.mp hi
 have hil := Nat.blt_eq.mp hlt
 have hnew : HS E (⟨base + i, ob, true⟩ :: hs) ⟨h.next, h.objs.set (base + i) ob⟩ := by
  refine ⟨fun e he => ?_, ?_, hh.fr.1, fun c hc hcS => ?_⟩
  ·rcases List.mem_cons.1 he with rfl | he
   ·exact ⟨by simp [az], by show base + i < h.next; omega, fun _ => .inl (by show E.h0.next <= base + i; omega)⟩
   ·obtain ⟨a1, a2, a3⟩ := hh.at_ e he
    refine ⟨?_, a2, a3⟩
    have := ha e he
    rw [az, if_neg zy]
    exact a1
  ·simp only [List.map_cons, List.nodup_cons]
   refine ⟨fun hm => ?_, hh.nd⟩
   obtain ⟨e, he, hb⟩ := List.mem_map.1 hm
   have := ha e he
   omega
  ·show (h.objs.set (base + i) ob).get c = _
   rw [az, if_neg zy]
   exact hh.fr.2 c hc hcS
 refine sO (v := .ptr (base + i) 0) (k := 3) (h1 := ⟨h.next, h.objs.set (base + i) ob⟩) (tm1 := tm.set d (.ptr (base + i) 0)) hl ?_ (aO hd) (fun h => by cases h) (fun h => by cases h) (fun _ => rfl) (fun _ => by omega) (fun h => by omega)
  (hk (base + i) _ _ (ht.set d _) hnew hdr' (fun h => by omega) hE hbs fun e he => ?_)
 ·unfold gG
  have hmk : df (Op.alloc t) = true := rfl
  have hw : aK ops tm ⟨some d, .alloc t, ty, pos, aft, none⟩ = some true := rfl
  rw [hmk, hw]
  unfold vI
  unfold AO at ho
  split at ho
  ·rename_i z hz
   simp only [Option.some.injEq] at ho
   simp only [hz, ho]
  ·cases ho
 ·rcases List.mem_cons.1 he with rfl | he
  ·left; show base + i < base + (i + 1); omega
  ·exact (ha e he).imp (fun h => by omega) id
theorem WF.hard {op : Op} {v : AV} {tm tm1 : T AV} {h h1 : AHeap} {dst : Option Nat} (hmk : df op = false) (hl : l[i]? = some ⟨dst, op, ty, pos, aft, none⟩) (he : cO tb (aD (callE tb)) tm h op = .l (some (v, h1))) (hp : bE tm n dst v = some tm1) (hmi : m <= i)
  (hk : ∃ es ms tm' h', bw tb (aD (callE tb)) n ops base (i + 1) rest tm1 h1 = some (es, ms, tm', h') /\ sV tb l m h0 (i + 1) es ms /\ ∀ TM, SubT tm' TM -> R TM h') :
  ∃ es ms tm' h', bw tb (aD (callE tb)) n ops base i (⟨dst, op, ty, pos, aft, none⟩ :: rest) tm h = some (es, ms, tm', h') /\ sV tb l m h0 i es ms /\ ∀ TM, SubT tm' TM -> R TM h' := by
 refine sO (v := v) (k := 2) (h1 := h1) (tm1 := tm1) hl ?_ hp (fun h => by cases h) (fun _ => ⟨gJ he, hmk⟩) (fun h => by cases h) (fun _ => hmi) (fun _ => rfl) hk
 unfold gG
 rw [hmk]
 simp only
 unfold fT
 have : aK ops tm ⟨dst, op, ty, pos, aft, none⟩ = some true := rfl
 rw [this]
 simp only [he]
theorem WF.store {ox oy : Operand} {j b o k : Nat} {ob : AObj} {v : AV} {cs : List AV} {hs' : af} (hz : tb.size t = some k) (hx : oL s ox = some (.ptr b o)) (hy : oL s oy = some v) (hm : hs[j]? = some ⟨b, ob, true⟩)
  (hb : (Nat.beq v.cells.length k && Nat.ble (o + k) ob.cells.length && v.cells.all AV.isCell) = true) (hc : ct ob.cells o v.cells = cs) (hs_ : hs.set j ⟨b, ⟨ob.sz, ob.exact_, cs⟩, true⟩ = hs') (hi : Nat.blt m i = true)
  (hk : WF tb n ops l m base h0 (i + 1) rest E s hs' R) (hz0 : Nat.blt 0 ob.sz = true := by rfl) : WF tb n ops l m base h0 i (⟨none, .store t ox oy, ty, pos, aft, none⟩ :: rest) E s hs R := by
 intro tm h ht hh hdr hmh hE hbs ha
 obtain ⟨hl, hdr'⟩ := fG hdr
 have him := Nat.blt_eq.mp hi
 subst hs_
 refine WF.hard (v := .tuple []) (h1 := ⟨h.next, h.objs.set b ⟨ob.sz, ob.exact_, cs⟩⟩) (tm1 := tm) rfl hl ?_ rfl zy (hk tm _ ht (hh.put hm) hdr' (fun h => by omega) hE hbs fun e he => ?_)
 ·show Res.l (dw tb tm h t ox oy) = _
  unfold dw
  simp only [aR ht hx, aR ht hy]
  unfold eJ
  have h1 := (hh.at_ _ (dl hm)).1
  simp only at h1
  simp only [hz, h1, hb, hc, hz0]
 ·have : e.b ∈ hs.map (·.b) := by
   obtain ⟨q, hq⟩ := List.getElem?_of_mem he
   rw [List.getElem?_set] at hq
   by_cases hjq : j = q
   ·subst hjq
    split at hq
    ·split at hq
     ·cases hq; exact List.mem_map.2 ⟨_, dl hm, rfl⟩
     ·cases hq
    ·rename_i h; exact absurd rfl h
   ·rw [if_neg hjq] at hq; exact List.mem_map.2 ⟨_, List.mem_of_getElem? hq, rfl⟩
  obtain ⟨x, hx, hxb⟩ := List.mem_map.1 this
  have := ha x hx
  rw [<- hxb]
  omega
end
end
noncomputable section
def FK (ops : List Oper) (ord : List Nat) : Bool :=
 gz ops && !(fh ops) && fA ops && decide (cm ops = ord) && ug (ay ops []) ops.length ord &&
 ((List.range (jS ops ord).length).all fun p => (List.range p).all fun q => !(w7 (jS ops ord) p) || !(yh (jS ops ord) q) || Ic ops ord p q)
def qe (tb : Tab) (l : List Oper) (keep : af) (es : List Ent) (ms : List (Nat × AHeap)) : Prop :=
 (∀ e ∈ es, l[e.i]? = some e.o /\ (e.kind = 1 -> e.v.beq e.v = true /\ ∀ H, dj keep H -> kQ tb e.tm H e.o.op = some e.v) /\
  (e.kind = 2 -> bR e.o.op = true /\ df e.o.op = false) /\ (e.kind = 3 -> bR e.o.op = true)) /\ ∀ p ∈ ms, dj keep p.2
theorem BQ {tb : Tab} {ops : List Oper} {ord : List Nat} {keep : af} {h0 : AHeap} {es : List Ent} {ms : List (Nat × AHeap)}
  (hA : ((List.range (jS ops ord).length).all fun p => (List.range p).all fun q => !(w7 (jS ops ord) p) || !(yh (jS ops ord) q) || Ic ops ord p q) = true)
  (h0k : dj keep h0) (hG : qe tb (jS ops ord) keep es ms) :
  es.all (tQ tb (fun p q => ((ay ops []).getD (ord.getD p 0) 0).testBit (ord.getD q 0)) (fp 2 es) (fp 3 es) ((0, h0) :: ms)) = true := by
 obtain ⟨g1, g2⟩ := hG
 have kin : ∀ k i, i ∈ fp k es -> ∃ e ∈ es, e.i = i /\ e.kind = k := by
  intro k i hi
  obtain ⟨e, he, h⟩ := List.mem_filterMap.1 hi
  by_cases hk : e.kind = k
  ·rw [if_pos hk] at h
   simp only [Option.some.injEq] at h
   exact ⟨e, he, h, hk⟩
  ·rw [if_neg hk] at h; cases h
 rw [List.all_eq_true]
 intro e he
 obtain ⟨a1, a2, a3, a4⟩ := g1 e he
 have hl := (List.getElem?_eq_some_iff.1 a1).1
 unfold tQ
 split
 ·rename_i hk
  obtain ⟨b1, b2⟩ := a3 hk
  have hh : w7 (jS ops ord) e.i = true := by unfold w7; rw [a1]; simp [b1, b2]
  have key : ∀ e' ∈ es, bR e'.o.op = true -> (!(Nat.blt e'.i e.i) || ((ay ops []).getD (ord.getD e.i 0) 0).testBit (ord.getD e'.i 0)) = true := by
   intro e' he' hl'
   rcases Nat.lt_or_ge e'.i e.i with h | h
   ·have hlo : yh (jS ops ord) e'.i = true := by unfold yh; rw [(g1 e' he').1]; exact hl'
    have := List.all_eq_true.1 (List.all_eq_true.1 hA e.i (List.mem_range.2 hl)) e'.i (List.mem_range.2 h)
    simp only [hh, hlo, Bool.not_true, Bool.false_or] at this
    rw [Bool.or_eq_true]
    exact .inr this
   ·have : Nat.blt e'.i e.i = false := by
     cases hb : Nat.blt e'.i e.i with
     | true => have := Nat.blt_eq.mp hb; omega
     | false => rfl
    rw [this]; rfl
  rw [Bool.and_eq_true, List.all_eq_true, List.all_eq_true]
  refine ⟨fun i hi => ?_, fun i hi => ?_⟩
  ·obtain ⟨e', he', rfl, hk'⟩ := kin _ _ hi
   exact key e' he' ((g1 e' he').2.2.1 hk').1
  ·obtain ⟨e', he', rfl, hk'⟩ := kin _ _ hi
   exact key e' he' ((g1 e' he').2.2.2 hk')
 ·rename_i hk
  obtain ⟨b1, b2⟩ := a2 hk
  rw [List.all_eq_true]
  rintro ⟨n, h⟩ hn
  have hkp : dj keep h := by
   rcases List.mem_cons.1 hn with hn | hn
   ·simp only [Prod.mk.injEq] at hn
    obtain ⟨_, rfl⟩ := hn
    exact h0k
   ·exact g2 _ hn
  simp only [b2 h hkp, b1, Bool.or_true]
 ·rfl
section
variable {tb : Tab} {n : Nat} {E : Env} {s : St} {hs : af} {R : T AV -> AHeap -> Prop} {ops l rest : List Oper} {d : Nat} {ty : TypeId} {pos : String} {aft : Array Edge} {t : TypeId} {i base : Nat} {keep : af}
def WG (tb : Tab) (n : Nat) (ops l : List Oper) (keep : af) (base : Nat) (i : Nat) (rest : List Oper) (E : Env) (s : St) (hs : af) (R : T AV -> AHeap -> Prop) : Prop :=
 ∀ tm h, Has tm s -> HS E hs h -> dj keep h -> l.drop i = rest -> E.h0.next <= base -> base + ops.length <= h.next -> (∀ e ∈ hs, e.b < base + i \/ base + ops.length <= e.b) ->
  ∃ es ms tm' h', bw tb (aD (callE tb)) n ops base i rest tm h = some (es, ms, tm', h') /\ qe tb l keep es ms /\ ∀ TM, SubT tm' TM -> R TM h'
theorem WG.nil (h : End E s hs R) : WG tb n ops l keep base i [] E s hs R :=
 fun tm hp ht hh _ _ _ _ _ => ⟨[], [], tm, hp, rfl, ⟨fun e he => by simp at he, fun p hp => by simp at hp⟩, fun TM hT => h TM hp (ht.mono hT) hh⟩
theorem WG.subH {hs' : af} (h : SubH hs' hs) (g : WG tb n ops l keep base i rest E s hs' R) : WG tb n ops l keep base i rest E s hs R :=
 fun tm hp ht hh hk hd hE hb ha => g tm hp ht (hh.sub h) hk hd hE hb fun e he => ha e (h.1 e he)
theorem od {tm tm1 : T AV} {h h1 : AHeap} {o : Oper} {v : AV} {k : Nat} (hl : l[i]? = some o) (he : gG tb (aD (callE tb)) ops (base + i) tm h o = some (v, h1, k)) (hp : bE tm n o.dst v = some tm1)
  (hq : k = 1 -> v.beq v = true /\ ∀ H, dj keep H -> kQ tb tm H o.op = some v) (h2 : k = 2 -> bR o.op = true /\ df o.op = false) (h3 : k = 3 -> bR o.op = true) (hkp : 2 <= k -> dj keep h1)
  (hk : ∃ es ms tm' h', bw tb (aD (callE tb)) n ops base (i + 1) rest tm1 h1 = some (es, ms, tm', h') /\ qe tb l keep es ms /\ ∀ TM, SubT tm' TM -> R TM h') :
  ∃ es ms tm' h', bw tb (aD (callE tb)) n ops base i (o :: rest) tm h = some (es, ms, tm', h') /\ qe tb l keep es ms /\ ∀ TM, SubT tm' TM -> R TM h' := by
 obtain ⟨es, ms, tm2, h2', e, ⟨g1, g2⟩, hR⟩ := hk
 refine ⟨_, _, tm2, h2', by unfold bw; simp only [he, hp, e]; rfl, ⟨fun x hx => ?_, fun p hp => ?_⟩, hR⟩
 ·rcases List.mem_cons.1 hx with rfl | hx
  ·exact ⟨hl, hq, h2, h3⟩
  ·exact g1 x hx
 ·by_cases hk2 : 2 <= k
  ·rw [if_pos hk2] at hp
   rcases List.mem_cons.1 hp with rfl | hp
   ·exact hkp hk2
   ·exact g2 p hp
  ·rw [if_neg hk2] at hp
   exact g2 p hp
theorem WG.q {op : Op} {v : AV} (hq : QV tb s keep op v) (hb : v.beq v = true) (hd : Nat.blt d n = true) (hk : WG tb n ops l keep base (i + 1) rest E ((d, v) :: s) hs R) :
  WG tb n ops l keep base i (⟨some d, op, ty, pos, aft, none⟩ :: rest) E s hs R := by
 intro tm h ht hh hkp hdr hE hbs ha
 have hv := hq tm h ht hkp
 obtain ⟨hl, hdr'⟩ := fG hdr
 refine od (v := v) (k := 1) (h1 := h) (tm1 := tm.set d v) hl ?_ (aO hd) (fun _ => ⟨hb, fun H hH => ?_⟩) (fun h => by cases h) (fun h => by cases h) (fun h => by omega)
  (hk _ _ (ht.set d v) hh hkp hdr' hE hbs fun e he => (ha e he).imp (fun h => by omega) id)
 ·unfold gG
  rw [yl (hv (aD (callE tb)))]
  simp only
  unfold fT
  have : aK ops tm ⟨some d, op, ty, pos, aft, none⟩ = some true := rfl
  rw [this]
  simp only [hv]
 ·unfold kQ
  rw [hq tm H ht hH]
theorem WG.alloc {ob : AObj} (ho : AO tb t = some ob) (hd : Nat.blt d n = true) (hkp : KIn keep hs) (hlt : Nat.blt i ops.length = true) (hk : ∀ b, WG tb n ops l keep base (i + 1) rest E ((d, .ptr b 0) :: s) (⟨b, ob, true⟩ :: hs) R) :
  WG tb n ops l keep base i (⟨some d, .alloc t, ty, pos, aft, none⟩ :: rest) E s hs R := by
 intro tm h ht hh _ hdr hE hbs ha
 obtain ⟨hl, hdr'⟩ := fG hdr
 have hil := Nat.blt_eq.mp hlt
 have hnew : HS E (⟨base + i, ob, true⟩ :: hs) ⟨h.next, h.objs.set (base + i) ob⟩ := by
  refine ⟨fun e he => ?_, ?_, hh.fr.1, fun c hc hcS => ?_⟩
  ·rcases List.mem_cons.1 he with rfl | he
   ·exact ⟨by simp [az], by show base + i < h.next; omega, fun _ => .inl (by show E.h0.next <= base + i; omega)⟩
   ·obtain ⟨a1, a2, a3⟩ := hh.at_ e he
    refine ⟨?_, a2, a3⟩
    have := ha e he
    rw [az, if_neg zy]
    exact a1
  ·simp only [List.map_cons, List.nodup_cons]
   refine ⟨fun hm => ?_, hh.nd⟩
   obtain ⟨e, he, hb⟩ := List.mem_map.1 hm
   have := ha e he
   omega
  ·show (h.objs.set (base + i) ob).get c = _
   rw [az, if_neg zy]
   exact hh.fr.2 c hc hcS
 have hkn : dj keep ⟨h.next, h.objs.set (base + i) ob⟩ := KIn.keepIn (show KIn keep (⟨base + i, ob, true⟩ :: hs) from fun e he => let ⟨w, hm⟩ := hkp e he; ⟨w, List.mem_cons_of_mem _ hm⟩) hnew
 refine od (v := .ptr (base + i) 0) (k := 3) (h1 := ⟨h.next, h.objs.set (base + i) ob⟩) (tm1 := tm.set d (.ptr (base + i) 0)) hl ?_ (aO hd) (fun h => by cases h) (fun h => by cases h) (fun _ => rfl) (fun _ => hkn)
  (hk (base + i) _ _ (ht.set d _) hnew hkn hdr' hE hbs fun e he => ?_)
 ·unfold gG
  have hmk : df (Op.alloc t) = true := rfl
  have hw : aK ops tm ⟨some d, .alloc t, ty, pos, aft, none⟩ = some true := rfl
  rw [hmk, hw]
  unfold vI
  unfold AO at ho
  split at ho
  ·rename_i z hz
   simp only [Option.some.injEq] at ho
   simp only [hz, ho]
  ·cases ho
 ·rcases List.mem_cons.1 he with rfl | he
  ·left; show base + i < base + (i + 1); omega
  ·exact (ha e he).imp (fun h => by omega) id
theorem WG.hard {op : Op} {v : AV} {tm tm1 : T AV} {h h1 : AHeap} {dst : Option Nat} (hmk : df op = false) (hl : l[i]? = some ⟨dst, op, ty, pos, aft, none⟩) (he : cO tb (aD (callE tb)) tm h op = .l (some (v, h1))) (hp : bE tm n dst v = some tm1) (hkp : dj keep h1)
  (hk : ∃ es ms tm' h', bw tb (aD (callE tb)) n ops base (i + 1) rest tm1 h1 = some (es, ms, tm', h') /\ qe tb l keep es ms /\ ∀ TM, SubT tm' TM -> R TM h') :
  ∃ es ms tm' h', bw tb (aD (callE tb)) n ops base i (⟨dst, op, ty, pos, aft, none⟩ :: rest) tm h = some (es, ms, tm', h') /\ qe tb l keep es ms /\ ∀ TM, SubT tm' TM -> R TM h' := by
 refine od (v := v) (k := 2) (h1 := h1) (tm1 := tm1) hl ?_ hp (fun h => by cases h) (fun _ => ⟨gJ he, hmk⟩) (fun h => by cases h) (fun _ => hkp) hk
 unfold gG
 rw [hmk]
 simp only
 unfold fT
 have : aK ops tm ⟨dst, op, ty, pos, aft, none⟩ = some true := rfl
 rw [this]
 simp only [he]
theorem WG.store {ox oy : Operand} {j b o k : Nat} {ob : AObj} {v : AV} {cs : List AV} {hs' : af} (hz : tb.size t = some k) (hx : oL s ox = some (.ptr b o)) (hy : oL s oy = some v) (hm : hs[j]? = some ⟨b, ob, true⟩)
  (hb : (Nat.beq v.cells.length k && Nat.ble (o + k) ob.cells.length && v.cells.all AV.isCell) = true) (hc : ct ob.cells o v.cells = cs) (hs_ : hs.set j ⟨b, ⟨ob.sz, ob.exact_, cs⟩, true⟩ = hs') (hkp : KIn keep hs')
  (hk : WG tb n ops l keep base (i + 1) rest E s hs' R) (hz0 : Nat.blt 0 ob.sz = true := by rfl) : WG tb n ops l keep base i (⟨none, .store t ox oy, ty, pos, aft, none⟩ :: rest) E s hs R := by
 intro tm h ht hh _ hdr hE hbs ha
 obtain ⟨hl, hdr'⟩ := fG hdr
 subst hs_
 refine WG.hard (v := .tuple []) (h1 := ⟨h.next, h.objs.set b ⟨ob.sz, ob.exact_, cs⟩⟩) (tm1 := tm) rfl hl ?_ rfl (hkp.keepIn (hh.put hm)) (hk tm _ ht (hh.put hm) (hkp.keepIn (hh.put hm)) hdr' hE hbs fun e he => ?_)
 ·show Res.l (dw tb tm h t ox oy) = _
  unfold dw
  simp only [aR ht hx, aR ht hy]
  unfold eJ
  have h1 := (hh.at_ _ (dl hm)).1
  simp only at h1
  simp only [hz, h1, hb, hc, hz0]
 ·have : e.b ∈ hs.map (·.b) := by
   obtain ⟨q, hq⟩ := List.getElem?_of_mem he
   rw [List.getElem?_set] at hq
   by_cases hjq : j = q
   ·subst hjq
    split at hq
    ·split at hq
     ·cases hq; exact List.mem_map.2 ⟨_, dl hm, rfl⟩
     ·cases hq
    ·rename_i h; exact absurd rfl h
   ·rw [if_neg hjq] at hq; exact List.mem_map.2 ⟨_, List.mem_of_getElem? hq, rfl⟩
  obtain ⟨x, hx, hxb⟩ := List.mem_map.1 this
  have := ha x hx
  rw [<- hxb]
  omega
theorem FT {Q} {id : Nat} {ops : List Oper} (keep : af) (ord : List Nat) (hst : FK ops ord = true) (hkp : KIn keep hs)
  (hk : ∀ base, WG tb n ops (jS ops ord) keep base 0 (jS ops ord) E s hs (Q .normal)) : W tb n (.region id ops.toArray true) E s hs Q := by
 intro tm hp ht hh
 unfold FK at hst
 simp only [Bool.and_eq_true, Bool.not_eq_true', decide_eq_true_eq] at hst
 obtain ⟨⟨⟨⟨⟨c1, c2⟩, c3⟩, c4⟩, c5⟩, c6⟩ := hst
 have hh0 : HS E hs ⟨hp.next + ops.length, hp.objs⟩ := ⟨fun e he => ⟨(hh.at_ e he).1, Nat.lt_of_lt_of_le (hh.at_ e he).2.1 (Nat.le_add_right _ _), (hh.at_ e he).2.2⟩, hh.nd, Nat.le_trans hh.fr.1 (Nat.le_add_right _ _), hh.fr.2⟩
 obtain ⟨es, ms, tm1, h1, he, hG, hR⟩ := hk hp.next tm _ ht hh0 (hkp.keepIn hh0) rfl hh.fr.1 (Nat.le_refl _) fun e he => .inl (hh.at_ e he).2.1
 have hd : c7 tb (aD (callE tb)) n ops tm hp = some (tm1, h1) := by
  unfold c7
  simp only [c1, c2, c3]
  unfold eQ
  rw [c4, c5]
  simp only
  have he' : bw tb (aD (callE tb)) n ops hp.next 0 (List.filterMap (fun i => ops[i]?) ord) tm ⟨hp.next + ops.length, hp.objs⟩ = some (es, ms, tm1, h1) := he
  rw [he']
  simp only
  rw [BQ c6 (hkp.keepIn hh0) hG]
 obtain ⟨TM, g1, g2⟩ := iu (gQ tb) (SubT.refl tm) hd
 refine ⟨.normal, TM, h1, g2.step fun K hK => ?_, hR TM g1⟩
 rw [cu]
 unfold cA
 simp only [hK]
end
end
end Go.Proofs.YtfkbfnpjggkdmaaGreatDoor.Ev
