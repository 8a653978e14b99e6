/- Walks over the evaluator, part 16: statements whose makers float, and that look into memory which they leave as it is. -/
import Derived.Test.YtfkbfnpjggkdmaaGreatDoorOAwO
import Derived.Test.YtfkbfnpjggkdmaaGreatDoorOOwE
namespace Go.Proofs.YtfkbfnpjggkdmaaGreatDoor.Ev
open Go.RowKit
noncomputable section
def statG (ops : List Oper) (ord : List Nat) : Bool :=
 drawOk ops && !(drawFree ops) && wantsFloat ops && decide (sinkOrd ops = ord) && ordOk (aheadOf ops []) ops.length ord &&
 ((List.range (pickF ops ord).length).all fun p => (List.range p).all fun q => !(hardF (pickF ops ord) p) || !(loudF (pickF ops ord) q) || bitF ops ord p q)
def GoodG (tb : Tab) (l : List Oper) (keep : HSt) (es : List Ent) (ms : List (Nat × AHeap)) : Prop :=
 (∀ e ∈ es, l[e.i]? = some e.o ∧ (e.kind = 1 → e.v.beq e.v = true ∧ ∀ H, KeepIn keep H → evQ tb e.tm H e.o.op = some e.v) ∧
  (e.kind = 2 → loudOp e.o.op = true ∧ isMaker e.o.op = false) ∧ (e.kind = 3 → loudOp e.o.op = true)) ∧ ∀ p ∈ ms, KeepIn keep p.2
theorem flOk_ofG {tb : Tab} {ops : List Oper} {ord : List Nat} {keep : HSt} {h0 : AHeap} {es : List Ent} {ms : List (Nat × AHeap)}
  (hA : ((List.range (pickF ops ord).length).all fun p => (List.range p).all fun q => !(hardF (pickF ops ord) p) || !(loudF (pickF ops ord) q) || bitF ops ord p q) = true)
  (h0k : KeepIn keep h0) (hG : GoodG tb (pickF ops ord) keep es ms) :
  es.all (flOk tb (fun p q => ((aheadOf ops []).getD (ord.getD p 0) 0).testBit (ord.getD q 0)) (kindsOf 2 es) (kindsOf 3 es) ((0, h0) :: ms)) = true := by
 obtain ⟨g1, g2⟩ := hG
 have kin : ∀ k i, i ∈ kindsOf k es → ∃ e ∈ es, e.i = i ∧ e.kind = k := by
  intro k i hi
  obtain ⟨e, he, h⟩ := List.mem_filterMap.1 hi
  by_cases hk : e.kind = k
  ·rw [if_pos hk] at h
   simp only [Option.some.injEq] at h
   exact ⟨e, he, h, hk⟩
  ·rw [if_neg hk] at h; cases h
 rw [List.all_eq_true]
 intro e he
 obtain ⟨a1, a2, a3, a4⟩ := g1 e he
 have hl := (List.getElem?_eq_some_iff.1 a1).1
 unfold flOk
 split
 ·rename_i hk
  obtain ⟨b1, b2⟩ := a3 hk
  have hh : hardF (pickF ops ord) e.i = true := by unfold hardF; rw [a1]; simp [b1, b2]
  have key : ∀ e' ∈ es, loudOp e'.o.op = true → (!(Nat.blt e'.i e.i) || ((aheadOf ops []).getD (ord.getD e.i 0) 0).testBit (ord.getD e'.i 0)) = true := by
   intro e' he' hl'
   rcases Nat.lt_or_ge e'.i e.i with h | h
   ·have hlo : loudF (pickF ops ord) e'.i = true := by unfold loudF; rw [(g1 e' he').1]; exact hl'
    have := List.all_eq_true.1 (List.all_eq_true.1 hA e.i (List.mem_range.2 hl)) e'.i (List.mem_range.2 h)
    simp only [hh, hlo, Bool.not_true, Bool.false_or] at this
    rw [Bool.or_eq_true]
    exact .inr this
   ·have : Nat.blt e'.i e.i = false := by
     cases hb : Nat.blt e'.i e.i with
     | true => have := Nat.blt_eq.mp hb; omega
     | false => rfl
    rw [this]; rfl
  rw [Bool.and_eq_true, List.all_eq_true, List.all_eq_true]
  refine ⟨fun i hi => ?_, fun i hi => ?_⟩
  ·obtain ⟨e', he', rfl, hk'⟩ := kin _ _ hi
   exact key e' he' ((g1 e' he').2.2.1 hk').1
  ·obtain ⟨e', he', rfl, hk'⟩ := kin _ _ hi
   exact key e' he' ((g1 e' he').2.2.2 hk')
 ·rename_i hk
  obtain ⟨b1, b2⟩ := a2 hk
  rw [List.all_eq_true]
  rintro ⟨n, h⟩ hn
  have hkp : KeepIn keep h := by
   rcases List.mem_cons.1 hn with hn | hn
   ·simp only [Prod.mk.injEq] at hn
    obtain ⟨_, rfl⟩ := hn
    exact h0k
   ·exact g2 _ hn
  simp only [b2 h hkp, b1, Bool.or_true]
 ·rfl
section
variable {tb : Tab} {n : Nat} {E : Env} {s : St} {hs : HSt} {R : T AV → AHeap → Prop} {ops l rest : List Oper} {d : Nat} {ty : TypeId} {pos : String} {aft : Array Edge} {t : TypeId} {i base : Nat} {keep : HSt}
def WG (tb : Tab) (n : Nat) (ops l : List Oper) (keep : HSt) (base : Nat) (i : Nat) (rest : List Oper) (E : Env) (s : St) (hs : HSt) (R : T AV → AHeap → Prop) : Prop :=
 ∀ tm h, Has tm s → HS E hs h → KeepIn keep h → l.drop i = rest → E.h0.next ≤ base → base + ops.length ≤ h.next → (∀ e ∈ hs, e.b < base + i ∨ base + ops.length ≤ e.b) →
  ∃ es ms tm' h', evTraceF tb (callOf (callE tb)) n ops base i rest tm h = some (es, ms, tm', h') ∧ GoodG tb l keep es ms ∧ ∀ TM, SubT tm' TM → R TM h'
theorem WG.nil (h : End E s hs R) : WG tb n ops l keep base i [] E s hs R :=
 fun tm hp ht hh _ _ _ _ _ => ⟨[], [], tm, hp, rfl, ⟨fun e he => by simp at he, fun p hp => by simp at hp⟩, fun TM hT => h TM hp (ht.mono hT) hh⟩
theorem WG.subH {hs' : HSt} (h : SubH hs' hs) (g : WG tb n ops l keep base i rest E s hs' R) : WG tb n ops l keep base i rest E s hs R :=
 fun tm hp ht hh hk hd hE hb ha => g tm hp ht (hh.sub h) hk hd hE hb fun e he => ha e (h.1 e he)
theorem wg_step {tm tm1 : T AV} {h h1 : AHeap} {o : Oper} {v : AV} {k : Nat} (hl : l[i]? = some o) (he : ev1F tb (callOf (callE tb)) ops (base + i) tm h o = some (v, h1, k)) (hp : putDst tm n o.dst v = some tm1)
  (hq : k = 1 → v.beq v = true ∧ ∀ H, KeepIn keep H → evQ tb tm H o.op = some v) (h2 : k = 2 → loudOp o.op = true ∧ isMaker o.op = false) (h3 : k = 3 → loudOp o.op = true) (hkp : 2 ≤ k → KeepIn keep h1)
  (hk : ∃ es ms tm' h', evTraceF tb (callOf (callE tb)) n ops base (i + 1) rest tm1 h1 = some (es, ms, tm', h') ∧ GoodG tb l keep es ms ∧ ∀ TM, SubT tm' TM → R TM h') :
  ∃ es ms tm' h', evTraceF tb (callOf (callE tb)) n ops base i (o :: rest) tm h = some (es, ms, tm', h') ∧ GoodG tb l keep es ms ∧ ∀ TM, SubT tm' TM → R TM h' := by
 obtain ⟨es, ms, tm2, h2', e, ⟨g1, g2⟩, hR⟩ := hk
 refine ⟨_, _, tm2, h2', by unfold evTraceF; simp only [he, hp, e]; rfl, ⟨fun x hx => ?_, fun p hp => ?_⟩, hR⟩
 ·rcases List.mem_cons.1 hx with rfl | hx
  ·exact ⟨hl, hq, h2, h3⟩
  ·exact g1 x hx
 ·by_cases hk2 : 2 ≤ k
  ·rw [if_pos hk2] at hp
   rcases List.mem_cons.1 hp with rfl | hp
   ·exact hkp hk2
   ·exact g2 p hp
  ·rw [if_neg hk2] at hp
   exact g2 p hp
theorem WG.q {op : Op} {v : AV} (hq : QV tb s keep op v) (hb : v.beq v = true) (hd : Nat.blt d n = true) (hk : WG tb n ops l keep base (i + 1) rest E ((d, v) :: s) hs R) :
  WG tb n ops l keep base i (⟨some d, op, ty, pos, aft, none⟩ :: rest) E s hs R := by
 intro tm h ht hh hkp hdr hE hbs ha
 have hv := hq tm h ht hkp
 obtain ⟨hl, hdr'⟩ := drop_step hdr
 refine wg_step (v := v) (k := 1) (h1 := h) (tm1 := tm.set d v) hl ?_ (putDst_at hd) (fun _ => ⟨hb, fun H hH => ?_⟩) (fun h => by cases h) (fun h => by cases h) (fun h => by omega)
  (hk _ _ (ht.set d v) hh hkp hdr' hE hbs fun e he => (ha e he).imp (fun h => by omega) id)
 ·unfold ev1F
  rw [mk_notq (hv (callOf (callE tb)))]
  simp only
  unfold ev1
  have : wantedA ops tm ⟨some d, op, ty, pos, aft, none⟩ = some true := rfl
  rw [this]
  simp only [hv]
 ·unfold evQ
  rw [hq tm H ht hH]
theorem WG.alloc {ob : AObj} (ho : AO tb t = some ob) (hd : Nat.blt d n = true) (hkp : KIn keep hs) (hlt : Nat.blt i ops.length = true) (hk : ∀ b, WG tb n ops l keep base (i + 1) rest E ((d, .ptr b 0) :: s) (⟨b, ob, true⟩ :: hs) R) :
  WG tb n ops l keep base i (⟨some d, .alloc t, ty, pos, aft, none⟩ :: rest) E s hs R := by
 intro tm h ht hh _ hdr hE hbs ha
 obtain ⟨hl, hdr'⟩ := drop_step hdr
 have hil := Nat.blt_eq.mp hlt
 have hnew : HS E (⟨base + i, ob, true⟩ :: hs) ⟨h.next, h.objs.set (base + i) ob⟩ := by
  refine ⟨fun e he => ?_, ?_, hh.fr.1, fun c hc hcS => ?_⟩
  ·rcases List.mem_cons.1 he with rfl | he
   ·exact ⟨by simp [T.get_set], by show base + i < h.next; omega, fun _ => .inl (by show E.h0.next ≤ base + i; omega)⟩
   ·obtain ⟨a1, a2, a3⟩ := hh.at_ e he
    refine ⟨?_, a2, a3⟩
    have := ha e he
    rw [T.get_set, if_neg (by omega)]
    exact a1
  ·simp only [List.map_cons, List.nodup_cons]
   refine ⟨fun hm => ?_, hh.nd⟩
   obtain ⟨e, he, hb⟩ := List.mem_map.1 hm
   have := ha e he
   omega
  ·show (h.objs.set (base + i) ob).get c = _
   rw [T.get_set, if_neg (by omega)]
   exact hh.fr.2 c hc hcS
 have hkn : KeepIn keep ⟨h.next, h.objs.set (base + i) ob⟩ := KIn.keepIn (show KIn keep (⟨base + i, ob, true⟩ :: hs) from fun e he => let ⟨w, hm⟩ := hkp e he; ⟨w, List.mem_cons_of_mem _ hm⟩) hnew
 refine wg_step (v := .ptr (base + i) 0) (k := 3) (h1 := ⟨h.next, h.objs.set (base + i) ob⟩) (tm1 := tm.set d (.ptr (base + i) 0)) hl ?_ (putDst_at hd) (fun h => by cases h) (fun h => by cases h) (fun _ => rfl) (fun _ => hkn)
  (hk (base + i) _ _ (ht.set d _) hnew hkn hdr' hE hbs fun e he => ?_)
 ·unfold ev1F
  have hmk : isMaker (Op.alloc t) = true := rfl
  have hw : wantedA ops tm ⟨some d, .alloc t, ty, pos, aft, none⟩ = some true := rfl
  rw [hmk, hw]
  unfold mkA
  unfold AO at ho
  split at ho
  ·rename_i z hz
   simp only [Option.some.injEq] at ho
   simp only [hz, ho]
  ·cases ho
 ·rcases List.mem_cons.1 he with rfl | he
  ·left; show base + i < base + (i + 1); omega
  ·exact (ha e he).imp (fun h => by omega) id
theorem WG.hard {op : Op} {v : AV} {tm tm1 : T AV} {h h1 : AHeap} {dst : Option Nat} (hmk : isMaker op = false) (hl : l[i]? = some ⟨dst, op, ty, pos, aft, none⟩) (he : evOp tb (callOf (callE tb)) tm h op = .l (some (v, h1))) (hp : putDst tm n dst v = some tm1) (hkp : KeepIn keep h1)
  (hk : ∃ es ms tm' h', evTraceF tb (callOf (callE tb)) n ops base (i + 1) rest tm1 h1 = some (es, ms, tm', h') ∧ GoodG tb l keep es ms ∧ ∀ TM, SubT tm' TM → R TM h') :
  ∃ es ms tm' h', evTraceF tb (callOf (callE tb)) n ops base i (⟨dst, op, ty, pos, aft, none⟩ :: rest) tm h = some (es, ms, tm', h') ∧ GoodG tb l keep es ms ∧ ∀ TM, SubT tm' TM → R TM h' := by
 refine wg_step (v := v) (k := 2) (h1 := h1) (tm1 := tm1) hl ?_ hp (fun h => by cases h) (fun _ => ⟨loud_is he, hmk⟩) (fun h => by cases h) (fun _ => hkp) hk
 unfold ev1F
 rw [hmk]
 simp only
 unfold ev1
 have : wantedA ops tm ⟨dst, op, ty, pos, aft, none⟩ = some true := rfl
 rw [this]
 simp only [he]
theorem WG.store {ox oy : Operand} {j b o k : Nat} {ob : AObj} {v : AV} {cs : List AV} {hs' : HSt} (hz : tb.size t = some k) (hx : oL s ox = some (.ptr b o)) (hy : oL s oy = some v) (hm : hs[j]? = some ⟨b, ob, true⟩)
  (hb : (Nat.beq v.cells.length k && Nat.ble (o + k) ob.cells.length && v.cells.all AV.isCell) = true) (hc : layL ob.cells o v.cells = cs) (hs_ : hs.set j ⟨b, ⟨ob.sz, ob.exact_, cs⟩, true⟩ = hs') (hkp : KIn keep hs')
  (hk : WG tb n ops l keep base (i + 1) rest E s hs' R) (hz0 : Nat.blt 0 ob.sz = true := by rfl) : WG tb n ops l keep base i (⟨none, .store t ox oy, ty, pos, aft, none⟩ :: rest) E s hs R := by
 intro tm h ht hh _ hdr hE hbs ha
 obtain ⟨hl, hdr'⟩ := drop_step hdr
 subst hs_
 refine WG.hard (v := .tuple []) (h1 := ⟨h.next, h.objs.set b ⟨ob.sz, ob.exact_, cs⟩⟩) (tm1 := tm) rfl hl ?_ rfl (hkp.keepIn (hh.put hm)) (hk tm _ ht (hh.put hm) (hkp.keepIn (hh.put hm)) hdr' hE hbs fun e he => ?_)
 ·show Res.l (evStore tb tm h t ox oy) = _
  unfold evStore
  simp only [oL_ok ht hx, oL_ok ht hy]
  unfold storeA
  have h1 := (hh.at_ _ (mem_at hm)).1
  simp only at h1
  simp only [hz, h1, hb, hc, hz0]
 ·have : e.b ∈ hs.map (·.b) := by
   obtain ⟨q, hq⟩ := List.getElem?_of_mem he
   rw [List.getElem?_set] at hq
   by_cases hjq : j = q
   ·subst hjq
    split at hq
    ·split at hq
     ·cases hq; exact List.mem_map.2 ⟨_, mem_at hm, rfl⟩
     ·cases hq
    ·rename_i h; exact absurd rfl h
   ·rw [if_neg hjq] at hq; exact List.mem_map.2 ⟨_, List.mem_of_getElem? hq, rfl⟩
  obtain ⟨x, hx, hxb⟩ := List.mem_map.1 this
  have := ha x hx
  rw [← hxb]
  omega
theorem W.regG {Q} {id : Nat} {ops : List Oper} (keep : HSt) (ord : List Nat) (hst : statG ops ord = true) (hkp : KIn keep hs)
  (hk : ∀ base, WG tb n ops (pickF ops ord) keep base 0 (pickF ops ord) E s hs (Q .normal)) : W tb n (.region id ops.toArray true) E s hs Q := by
 intro tm hp ht hh
 unfold statG at hst
 simp only [Bool.and_eq_true, Bool.not_eq_true', decide_eq_true_eq] at hst
 obtain ⟨⟨⟨⟨⟨c1, c2⟩, c3⟩, c4⟩, c5⟩, c6⟩ := hst
 have hh0 : HS E hs ⟨hp.next + ops.length, hp.objs⟩ := ⟨fun e he => ⟨(hh.at_ e he).1, Nat.lt_of_lt_of_le (hh.at_ e he).2.1 (Nat.le_add_right _ _), (hh.at_ e he).2.2⟩, hh.nd, Nat.le_trans hh.fr.1 (Nat.le_add_right _ _), hh.fr.2⟩
 obtain ⟨es, ms, tm1, h1, he, hG, hR⟩ := hk hp.next tm _ ht hh0 (hkp.keepIn hh0) rfl hh.fr.1 (Nat.le_refl _) fun e he => .inl (hh.at_ e he).2.1
 have hd : evDraw tb (callOf (callE tb)) n ops tm hp = some (tm1, h1) := by
  unfold evDraw
  simp only [c1, c2, c3]
  unfold evFloat
  rw [c4, c5]
  simp only
  have he' : evTraceF tb (callOf (callE tb)) n ops hp.next 0 (List.filterMap (fun i => ops[i]?) ord) tm ⟨hp.next + ops.length, hp.objs⟩ = some (es, ms, tm1, h1) := he
  rw [he']
  simp only
  rw [flOk_ofG c6 (hkp.keepIn hh0) hG]
 obtain ⟨TM, g1, g2⟩ := evDraw_mono (callE_ok tb) (SubT.refl tm) hd
 refine ⟨.normal, TM, h1, g2.step fun K hK => ?_, hR TM g1⟩
 rw [run_succ]
 unfold evCode
 simp only [hK]
end
end
noncomputable section
variable {tb : Tab} {n : Nat} {E : Env} {s : St} {hs : HSt} {R : T AV → AHeap → Prop} {ops l rest : List Oper} {d : Nat} {ty : TypeId} {pos : String} {aft : Array Edge} {t : TypeId} {i base : Nat} {keep : HSt}
theorem WG.bslice {m sz e : Nat} {zc cs : List AV} {pl : List (Nat × Operand)} {ps : List (Nat × AV)} (hu : tb.und t = some (.slice e)) (hz : tb.size e = some sz) {z : AV} (h0 : tb.zero e = some z) (hzc : z.cells = zc) (ho : oPs s pl = some ps)
  (hb : (Nat.ble (m * sz) 16777216 && Nat.beq zc.length sz && Nat.blt 0 sz) = true) (hf : fillA (fun i => some (i * sz, sz)) (repl m zc) ps = some cs) (hc : cs.all AV.isCell = true) (hd : Nat.blt d n = true) (hkp : KIn keep hs) (hlt : Nat.blt i ops.length = true)
  (hk : ∀ b, WG tb n ops l keep base (i + 1) rest E ((d, .slice b 0 m sz) :: s) (⟨b, ⟨sz, true, cs⟩, true⟩ :: hs) R) :
  WG tb n ops l keep base i (⟨some d, .buildSlice t m pl.toArray, ty, pos, aft, none⟩ :: rest) E s hs R := by
 intro tm h ht hh _ hdr hE hbs ha
 obtain ⟨hl, hdr'⟩ := drop_step hdr
 have hil := Nat.blt_eq.mp hlt
 have hnew : HS E (⟨base + i, ⟨sz, true, cs⟩, true⟩ :: hs) ⟨h.next, h.objs.set (base + i) ⟨sz, true, cs⟩⟩ := by
  refine ⟨fun e he => ?_, ?_, hh.fr.1, fun c hc hcS => ?_⟩
  ·rcases List.mem_cons.1 he with rfl | he
   ·exact ⟨by simp [T.get_set], by show base + i < h.next; omega, fun _ => .inl (by show E.h0.next ≤ base + i; omega)⟩
   ·obtain ⟨a1, a2, a3⟩ := hh.at_ e he
    refine ⟨?_, a2, a3⟩
    have := ha e he
    rw [T.get_set, if_neg (by omega)]
    exact a1
  ·simp only [List.map_cons, List.nodup_cons]
   refine ⟨fun hm => ?_, hh.nd⟩
   obtain ⟨e, he, hb⟩ := List.mem_map.1 hm
   have := ha e he
   omega
  ·show (h.objs.set (base + i) _).get c = _
   rw [T.get_set, if_neg (by omega)]
   exact hh.fr.2 c hc hcS
 have hkn : KeepIn keep ⟨h.next, h.objs.set (base + i) ⟨sz, true, cs⟩⟩ := KIn.keepIn (show KIn keep (⟨base + i, ⟨sz, true, cs⟩, true⟩ :: hs) from fun e he => let ⟨w, hm⟩ := hkp e he; ⟨w, List.mem_cons_of_mem _ hm⟩) hnew
 refine wg_step (v := .slice (base + i) 0 m sz) (k := 3) (h1 := ⟨h.next, h.objs.set (base + i) ⟨sz, true, cs⟩⟩) (tm1 := tm.set d (.slice (base + i) 0 m sz)) hl ?_ (putDst_at hd) (fun h => by cases h) (fun h => by cases h) (fun _ => rfl) (fun _ => hkn)
  (hk (base + i) _ _ (ht.set d _) hnew hkn hdr' hE hbs fun e he => ?_)
 ·unfold ev1F
  have hmk : isMaker (Op.buildSlice t m pl.toArray) = true := rfl
  have hw : wantedA ops tm ⟨some d, .buildSlice t m pl.toArray, ty, pos, aft, none⟩ = some true := rfl
  rw [hmk, hw]
  unfold mkA
  have hps : opndPairs tm pl.toArray.toList = some ps := oPs_ok ht ho
  subst hzc
  simp only [hu, hz, h0]
  rw [hps]
  simp only [hb, hf, hc]
 ·rcases List.mem_cons.1 he with rfl | he
  ·left; show base + i < base + (i + 1); omega
  ·exact (ha e he).imp (fun h => by omega) id
theorem WG.ld {op : Op} {C : AV → HSt → Prop} (hmk : isMaker op = false) (hld : ∀ tm h r, evOp tb (callOf (callE tb)) tm h op ≠ .q r)
  (hw : ∀ E R, (∀ v hs', C v hs' → End E ((d, v) :: s) hs' R) → WO tb n ops [⟨some d, op, ty, pos, aft, none⟩] E s hs R)
  (hC : ∀ v hs', C v hs' → KIn keep hs' ∧ ∀ e ∈ hs', e.w = false → ∃ x ∈ hs, x.b = e.b) (hk : ∀ v hs', C v hs' → WG tb n ops l keep base (i + 1) rest E ((d, v) :: s) hs' R) :
  WG tb n ops l keep base i (⟨some d, op, ty, pos, aft, none⟩ :: rest) E s hs R := by
 intro tm h ht hh hkp0 hdr hE hbs ha
 obtain ⟨hl, hdr'⟩ := drop_step hdr
 have hS : ∀ c, c ∈ (hs.filter (·.w)).map (·.b) → ∃ x ∈ hs, x.w = true ∧ x.b = c := by
  intro c hc
  obtain ⟨x, hx, rfl⟩ := List.mem_map.1 hc
  obtain ⟨h1, h2⟩ := List.mem_filter.1 hx
  exact ⟨x, h1, h2, rfl⟩
 have hh2 : HS ⟨h, (hs.filter (·.w)).map (·.b)⟩ hs h := ⟨fun e he => ⟨(hh.at_ e he).1, (hh.at_ e he).2.1, fun hw => .inr (List.mem_map.2 ⟨e, List.mem_filter.2 ⟨he, hw⟩, rfl⟩)⟩, hh.nd, Fr.refl _ _⟩
 obtain ⟨tm1, h1, e, hR⟩ := hw ⟨h, (hs.filter (·.w)).map (·.b)⟩ (fun tm' h' => ∃ v hs', C v hs' ∧ HS ⟨h, (hs.filter (·.w)).map (·.b)⟩ hs' h' ∧ tm'.get d = some v) (fun v hs' hC tm' h' ht' hh' => ⟨v, hs', hC, hh', ht' d v (by simp [lk])⟩) tm h ht hh2
 unfold evOps at e
 cases hv : ev1 tb (callOf (callE tb)) ops tm h ⟨some d, op, ty, pos, aft, none⟩ with
 | none => rw [hv] at e; cases e
 | some p =>
  obtain ⟨v, h3, k⟩ := p
  rw [hv] at e
  simp only at e
  cases hp : putDst tm n (some d) v with
  | none => rw [hp] at e; cases e
  | some tm2 =>
   rw [hp] at e
   simp only [evOps, Option.some.injEq, Prod.mk.injEq] at e
   obtain ⟨rfl, rfl⟩ := e
   obtain ⟨v', hs', hCv, hH, hg⟩ := hR _ (SubT.refl _)
   have hset : tm2 = tm.set d v := by
    have hp' : (match Nat.blt d n with
     | true => some (tm.set d v)
     | false => none) = some tm2 := hp
    cases hbd : Nat.blt d n with
    | false => rw [hbd] at hp'; cases hp'
    | true => rw [hbd] at hp'; exact (Option.some.inj hp').symm
   have hvv : v' = v := by
    rw [hset, T.get_set, if_pos rfl] at hg
    exact (Option.some.inj hg).symm
   subst hvv
   have hop : evOp tb (callOf (callE tb)) tm h op = .l (some (v', h3)) := by
    unfold ev1 at hv
    have : wantedA ops tm ⟨some d, op, ty, pos, aft, none⟩ = some true := rfl
    rw [this] at hv
    simp only at hv
    cases ho : evOp tb (callOf (callE tb)) tm h op with
    | q r => exact absurd ho (hld _ _ _)
    | l r =>
     rw [ho] at hv
     cases r with
     | none => cases hv
     | some p =>
      obtain ⟨v1, h2⟩ := p
      simp only [Option.some.injEq, Prod.mk.injEq] at hv
      rw [hv.1, hv.2.1]
   have hfr := hH.fr
   have hB : HS E hs' h3 := by
    refine ⟨fun e he => ?_, hH.nd, Nat.le_trans hh.fr.1 hfr.1, fun c hc hcS => ?_⟩
    ·obtain ⟨a1, a2, a3⟩ := hH.at_ e he
     refine ⟨a1, a2, fun hw' => ?_⟩
     rcases a3 hw' with b1 | b1
     ·exact .inl (Nat.le_trans hh.fr.1 b1)
     ·obtain ⟨x, hx, hxw, hxb⟩ := hS _ b1
      rw [← hxb]
      exact (hh.at_ x hx).2.2 hxw
    ·rw [hfr.2 c (Nat.lt_of_lt_of_le hc hh.fr.1) (fun hm => by
      obtain ⟨x, hx, hxw, hxb⟩ := hS _ hm
      rcases (hh.at_ x hx).2.2 hxw with g | g
      ·omega
      ·exact hcS (hxb ▸ g))]
     exact hh.fr.2 c hc hcS
   obtain ⟨hkn, hold⟩ := hC _ _ hCv
   refine WG.hard (v := v') (h1 := h3) (tm1 := tm2) hmk hl hop hp (hkn.keepIn hB) ?_
   rw [hset]
   refine hk v' hs' hCv _ _ (ht.set d v') hB (hkn.keepIn hB) hdr' hE (Nat.le_trans hbs hfr.1) fun e he => ?_
   have hold' : (∃ x ∈ hs, x.b = e.b) → e.b < base + (i + 1) ∨ base + ops.length ≤ e.b := fun ⟨x, hx, hxb⟩ => hxb ▸ (ha x hx).imp (fun h => by omega) id
   cases hew : e.w with
   | false => exact hold' (hold e he hew)
   | true =>
    rcases (hH.at_ e he).2.2 hew with b1 | b1
    ·exact .inr (Nat.le_trans hbs b1)
    ·obtain ⟨x, hx, _, hxb⟩ := hS _ b1
     exact hold' ⟨x, hx, hxb⟩
theorem WG.appAny {ox oy : Operand} {t2 sz len m : Nat} {tl : List Nat} {A hp : HSt} {cells new : List AV} {v x : AV} (ha : AP tb t t2 = some sz) (hO : OwnE sz cells len v hp) (hx : oL s ox = some v) (hy : oL s oy = some x) (hc : Src hs sz x m new)
  (hl : new.length = m * sz) (hn : len + m ≤ 1073741824) (hz : 0 < sz) (hs_ : SubH (A ++ hp) hs) (hd : Nat.blt d n = true) (hkp : KIn keep A)
  (hk : ∀ v' hp', OwnE sz (cells ++ new) (len + m) v' hp' → WG tb n ops l keep base (i + 1) rest E ((d, v') :: s) (A ++ hp') R) :
  WG tb n ops l keep base i (⟨some d, .call ⟨.builtin .append, #[ox, oy], (t :: t2 :: tl).toArray⟩, ty, pos, aft, none⟩ :: rest) E s hs R :=
 WG.ld (C := fun v' hs' => ∃ hp', OwnE sz (cells ++ new) (len + m) v' hp' ∧ hs' = A ++ hp') rfl (fun tm h r e => by cases e) (fun E R hR => WO.appAny ha hO hx hy hc hl hn hz hs_ hd fun v' hp' h => WO.nil (hR _ _ ⟨hp', h, rfl⟩))
  (fun v' hs' ⟨hp', h1, h2⟩ => by
   subst h2
   refine ⟨fun e he => let ⟨w, hm⟩ := hkp e he; ⟨w, List.mem_append_left _ hm⟩, fun e he hw => ?_⟩
   rcases List.mem_append.1 he with he | he
   ·exact ⟨e, hs_.1 e (List.mem_append_left _ he), rfl⟩
   ·rw [h1.w e he] at hw; cases hw) (fun v' hs' ⟨hp', h1, h2⟩ => by subst h2; exact hk v' hp' h1)
end
end Go.Proofs.YtfkbfnpjggkdmaaGreatDoor.Ev
