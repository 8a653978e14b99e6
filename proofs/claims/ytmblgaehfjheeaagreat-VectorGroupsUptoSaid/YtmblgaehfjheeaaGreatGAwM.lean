/- Chapter 19, walks: elements by their keys' texts. -/
import Derived.Test.YtmblgaehfjheeaaGreatGZg
import Derived.Test.YtmblgaehfjheeaaGreatGYa
import Derived.Test.YtmblgaehfjheeaaGreatRows
import Derived.Test.YtmblgaehfjheeaaGreatGFixN
import Derived.Test.YtmblgaehfjheeaaGreatGYd
import Derived.Deep.SlicePairs
namespace Go.Proofs.YtmblgaehfjheeaaGreat.Ev
open Go.RowKit
set_option linter.unusedVariables false
set_option linter.unusedSimpArgs false
set_option maxRecDepth 100000
set_option maxHeartbeats 1000000
theorem SIn.bq {hs : HSt} {N : List (List Nat)} {v : AV} (h : SIn hs N v) : v.beq v = true := by
 rcases h with ⟨rfl, _⟩ | ⟨b, sz, ex, rfl, _⟩
 ·rfl
 ·simp [AV.beq, beq1, beq0]
theorem key_mem {V : List El} (hK : ∀ i, i < V.length → KeyOK (eg V i).2.1) {x : El} (h : x ∈ V) : KeyOK x.2.1 := by
 obtain ⟨i, hi, rfl⟩ := List.getElem_of_mem h
 have := hK i hi
 have e : eg V i = V[i] := by unfold eg; rw [List.getD_eq_getElem?_getD, List.getElem?_eq_getElem hi]; rfl
 rw [e] at this
 exact this
def prF (op : List Nat) (sd n m : Int) : Int × Int := numM op (if sd = 2 then m else n) (if sd = 2 then n else m)
def binI (op : List Nat) (bl : Bool) (md sd : Int) (N : List (List Nat)) (x : PE) (m : Int) : List PE :=
 if cmpB op = true ∧ bl = false then (if (prF op sd x.2 m).1 ≠ 0 then [x] else []) else [(if sd = 0 then keyM md N x.1 else x.1.filter (dropP [[95, 95, 110, 97, 109, 101, 95, 95]]), (prF op sd x.2 m).1)]
def hvP (md : Int) (N : List (List Nat)) (L : List PE) (k : List Lab) : List PE := L.filter fun y => decide (keyM md N y.1 = k)
def st1 (op : List Nat) (md : Int) (N : List (List Nat)) (M : List PE) (x : PE) : List PE := if op = [111, 114] ∨ ((hvP md N M (keyM md N x.1) ≠ []) ↔ op = [97, 110, 100]) then [x] else []
def st2 (op : List Nat) (md : Int) (N : List (List Nat)) (L : List PE) (x : PE) : List PE := if op = [111, 114] ∧ hvP md N L (keyM md N x.1) = [] then [x] else []
def setL (op : List Nat) (md : Int) (N : List (List Nat)) (L M : List PE) : List PE := L.flatMap (st1 op md N M) ++ M.flatMap (st2 op md N L)
theorem KIn.ofH {keep hs : HSt} (h : SubH keep hs) : KIn keep hs := fun e he => ⟨e.w, h.1 e he⟩
theorem EIn.bq {hs : HSt} {V : List El} {v : AV} (h : EIn hs V v) : v.beq v = true := by
 rcases h.1 with ⟨rfl, _⟩ | ⟨b, sz, ex, rfl, _⟩
 ·rfl
 ·simp [AV.beq, beq1, beq0]
theorem lbd_nil : LBd [] := ⟨by simp, fun x hx => by simp at hx⟩
theorem i64_0 : I64 0 := by unfold I64; omega
theorem lbd_key {A : List Lab} {md : Int} {N : List (List Nat)} (h : LBd A) : LBd (keyM md N A) := by
 unfold keyM
 split
 ·exact LBd.filter h _
 ·split
  ·exact LBd.filter (LBd.filter h _) _
  ·exact LBd.filter h _
noncomputable section
def noMem : Op → Bool
 | .move _ => true
 | .assign _ => true
 | .extract _ _ => true
 | _ => false
theorem evOp_noMem {tb : Tab} {call : CallF} {tm : T AV} {h h' : AHeap} {op : Op} (hn : noMem op = true) : evOp tb call tm h op = evOp tb call tm h' op := by
 cases op <;> first | rfl | (simp [noMem] at hn)
def GoodF (tb : Tab) (l : List Oper) (m : Nat) (h0 : AHeap) (i : Nat) (es : List Ent) (ms : List (Nat × AHeap)) : Prop :=
 (∀ e ∈ es, l[e.i]? = some e.o ∧ (e.kind = 1 → e.v.beq e.v = true ∧ (e.i < m → evQ tb e.tm h0 e.o.op = some e.v) ∧ (m ≤ e.i → ∀ H, evQ tb e.tm H e.o.op = some e.v)) ∧
  (e.kind = 2 → loudOp e.o.op = true ∧ isMaker e.o.op = false) ∧ (e.kind = 3 → loudOp e.o.op = true)) ∧
 (∀ p ∈ ms, m < p.1) ∧ (i ≤ m → ∃ e ∈ es, e.i = m ∧ e.kind = 2)
section
variable {tb : Tab} {n : Nat} {E : Env} {s : St} {hs : HSt} {R : T AV → AHeap → Prop} {ops l rest : List Oper} {d : Nat} {ty : TypeId} {pos : String} {aft : Array Edge} {t : TypeId} {m i base : Nat} {h0 : AHeap}
def WF (tb : Tab) (n : Nat) (ops l : List Oper) (m base : Nat) (h0 : AHeap) (i : Nat) (rest : List Oper) (E : Env) (s : St) (hs : HSt) (R : T AV → AHeap → Prop) : Prop :=
 ∀ tm h, Has tm s → HS E hs h → l.drop i = rest → (i ≤ m → h = h0) → E.h0.next ≤ base → base + ops.length ≤ h.next → (∀ e ∈ hs, e.b < base + i ∨ base + ops.length ≤ e.b) →
  ∃ es ms tm' h', evTraceF tb (callOf (callE tb)) n ops base i rest tm h = some (es, ms, tm', h') ∧ GoodF tb l m h0 i es ms ∧ ∀ TM, SubT tm' TM → R TM h'
theorem WF.nil (hi : Nat.blt m i = true) (h : End E s hs R) : WF tb n ops l m base h0 i [] E s hs R :=
 fun tm hp ht hh _ _ _ _ _ => ⟨[], [], tm, hp, rfl, ⟨fun e he => by simp at he, fun p hp => by simp at hp, fun h => by have := Nat.blt_eq.mp hi; omega⟩, fun TM hT => h TM hp (ht.mono hT) hh⟩
theorem drop_step {o : Oper} (h : l.drop i = o :: rest) : l[i]? = some o ∧ l.drop (i + 1) = rest := by
 refine ⟨?_, ?_⟩
 ·have : (l.drop i)[0]? = some o := by rw [h]; rfl
  rwa [List.getElem?_drop, Nat.add_zero] at this
 ·rw [← List.drop_drop, h]; rfl
theorem wf_step {tm tm1 : T AV} {h h1 : AHeap} {o : Oper} {v : AV} {k : Nat} (hl : l[i]? = some o) (he : ev1F tb (callOf (callE tb)) ops (base + i) tm h o = some (v, h1, k)) (hp : putDst tm n o.dst v = some tm1)
  (hq : k = 1 → v.beq v = true ∧ (i < m → evQ tb tm h0 o.op = some v) ∧ (m ≤ i → ∀ H, evQ tb tm H o.op = some v)) (h2 : k = 2 → loudOp o.op = true ∧ isMaker o.op = false) (h3 : k = 3 → loudOp o.op = true) (hm : 2 ≤ k → m ≤ i) (him : i = m → k = 2)
  (hk : ∃ es ms tm' h', evTraceF tb (callOf (callE tb)) n ops base (i + 1) rest tm1 h1 = some (es, ms, tm', h') ∧ GoodF tb l m h0 (i + 1) es ms ∧ ∀ TM, SubT tm' TM → R TM h') :
  ∃ es ms tm' h', evTraceF tb (callOf (callE tb)) n ops base i (o :: rest) tm h = some (es, ms, tm', h') ∧ GoodF tb l m h0 i es ms ∧ ∀ TM, SubT tm' TM → R TM h' := by
 obtain ⟨es, ms, tm2, h2', e, ⟨g1, g2, g3⟩, hR⟩ := hk
 refine ⟨_, _, tm2, h2', by unfold evTraceF; simp only [he, hp, e]; rfl, ⟨fun x hx => ?_, fun p hp => ?_, fun hi => ?_⟩, hR⟩
 ·rcases List.mem_cons.1 hx with rfl | hx
  ·exact ⟨hl, hq, h2, h3⟩
  ·exact g1 x hx
 ·by_cases hk2 : 2 ≤ k
  ·rw [if_pos hk2] at hp
   rcases List.mem_cons.1 hp with rfl | hp
   ·have := hm hk2; show m < i + 1; omega
   ·exact g2 p hp
  ·rw [if_neg hk2] at hp
   exact g2 p hp
 ·by_cases hi2 : i = m
  ·exact ⟨_, List.mem_cons_self .., hi2, him hi2⟩
  ·obtain ⟨e, h1, h2⟩ := g3 zy
   exact ⟨e, List.mem_cons_of_mem _ h1, h2⟩
theorem mk_notq {tm : T AV} {h : AHeap} {op : Op} {r : Option AV} {call : CallF} (e : evOp tb call tm h op = .q r) : isMaker op = false := by
 cases op <;> first | rfl | (simp [evOp] at e)
theorem WF.q {op : Op} {v : AV} (hq : QV tb s hs op v) (hb : v.beq v = true) (hd : Nat.blt d n = true) (him : Nat.beq i m = false) (hn : (Nat.blt i m || noMem op) = true) (hk : WF tb n ops l m base h0 (i + 1) rest E ((d, v) :: s) hs R) :
  WF tb n ops l m base h0 i (⟨some d, op, ty, pos, aft, none⟩ :: rest) E s hs R := by
 intro tm h ht hh hdr hm hE hbs ha
 have hv := hq tm h ht hh.keep
 obtain ⟨hl, hdr'⟩ := drop_step hdr
 have hne : i ≠ m := fun e => by rw [e, Nat.beq_refl] at him; cases him
 refine wf_step (v := v) (k := 1) (h1 := h) (tm1 := tm.set d v) hl ?_ (putDst_at hd) (fun _ => ⟨hb, fun hlt => ?_, fun hge H => ?_⟩) (fun h => by cases h) (fun h => by cases h) (fun h => by omega) (fun h => absurd h hne)
  (hk _ _ (ht.set d v) hh hdr' (fun h => hm zy) hE hbs fun e he => (ha e he).imp (fun h => by omega) id)
 ·unfold ev1F
  rw [mk_notq (hv (callOf (callE tb)))]
  simp only
  unfold ev1
  have : wantedA ops tm ⟨some d, op, ty, pos, aft, none⟩ = some true := rfl
  rw [this]
  simp only [hv]
 ·rw [← hm zy]
  unfold evQ
  rw [hv]
 ·have hno : noMem op = true := by
   rcases Bool.or_eq_true _ _ ▸ hn with h | h
   ·have := Nat.blt_eq.mp h; omega
   ·exact h
  unfold evQ
  rw [evOp_noMem (h' := h) hno, hv]
theorem WF.alloc {ob : AObj} (ho : AO tb t = some ob) (hd : Nat.blt d n = true) (hi : Nat.blt m i = true) (hlt : Nat.blt i ops.length = true) (hk : ∀ b, WF tb n ops l m base h0 (i + 1) rest E ((d, .ptr b 0) :: s) (⟨b, ob, true⟩ :: hs) R) :
  WF tb n ops l m base h0 i (⟨some d, .alloc t, ty, pos, aft, none⟩ :: rest) E s hs R := by
 intro tm h ht hh hdr hm hE hbs ha
 obtain ⟨hl, hdr'⟩ := drop_step hdr
 have him := Nat.blt_eq.mp hi
 have hil := Nat.blt_eq.mp hlt
 have hnew : HS E (⟨base + i, ob, true⟩ :: hs) ⟨h.next, h.objs.set (base + i) ob⟩ := by
  refine ⟨fun e he => ?_, ?_, hh.fr.1, fun c hc hcS => ?_⟩
  ·rcases List.mem_cons.1 he with rfl | he
   ·exact ⟨by simp [T.get_set], by show base + i < h.next; omega, fun _ => .inl (by show E.h0.next ≤ base + i; omega)⟩
   ·obtain ⟨a1, a2, a3⟩ := hh.at_ e he
    refine ⟨?_, a2, a3⟩
    have := ha e he
    rw [T.get_set, if_neg zy]
    exact a1
  ·simp only [List.map_cons, List.nodup_cons]
   refine ⟨fun hm => ?_, hh.nd⟩
   obtain ⟨e, he, hb⟩ := List.mem_map.1 hm
   have := ha e he
   omega
  ·show (h.objs.set (base + i) ob).get c = _
   rw [T.get_set, if_neg zy]
   exact hh.fr.2 c hc hcS
 refine wf_step (v := .ptr (base + i) 0) (k := 3) (h1 := ⟨h.next, h.objs.set (base + i) ob⟩) (tm1 := tm.set d (.ptr (base + i) 0)) hl ?_ (putDst_at hd) (fun h => by cases h) (fun h => by cases h) (fun _ => rfl) (fun _ => by omega) (fun h => by omega)
  (hk (base + i) _ _ (ht.set d _) hnew hdr' (fun h => by omega) hE hbs fun e he => ?_)
 ·unfold ev1F
  have hmk : isMaker (Op.alloc t) = true := rfl
  have hw : wantedA ops tm ⟨some d, .alloc t, ty, pos, aft, none⟩ = some true := rfl
  rw [hmk, hw]
  unfold mkA
  unfold AO at ho
  split at ho
  ·rename_i z hz
   simp only [Option.some.injEq] at ho
   simp only [hz, ho]
  ·cases ho
 ·rcases List.mem_cons.1 he with rfl | he
  ·left; show base + i < base + (i + 1); omega
  ·exact (ha e he).imp (fun h => by omega) id
theorem WF.hard {op : Op} {v : AV} {tm tm1 : T AV} {h h1 : AHeap} {dst : Option Nat} (hmk : isMaker op = false) (hl : l[i]? = some ⟨dst, op, ty, pos, aft, none⟩) (he : evOp tb (callOf (callE tb)) tm h op = .l (some (v, h1))) (hp : putDst tm n dst v = some tm1) (hmi : m ≤ i)
  (hk : ∃ es ms tm' h', evTraceF tb (callOf (callE tb)) n ops base (i + 1) rest tm1 h1 = some (es, ms, tm', h') ∧ GoodF tb l m h0 (i + 1) es ms ∧ ∀ TM, SubT tm' TM → R TM h') :
  ∃ es ms tm' h', evTraceF tb (callOf (callE tb)) n ops base i (⟨dst, op, ty, pos, aft, none⟩ :: rest) tm h = some (es, ms, tm', h') ∧ GoodF tb l m h0 i es ms ∧ ∀ TM, SubT tm' TM → R TM h' := by
 refine wf_step (v := v) (k := 2) (h1 := h1) (tm1 := tm1) hl ?_ hp (fun h => by cases h) (fun _ => ⟨loud_is he, hmk⟩) (fun h => by cases h) (fun _ => hmi) (fun _ => rfl) hk
 unfold ev1F
 rw [hmk]
 simp only
 unfold ev1
 have : wantedA ops tm ⟨dst, op, ty, pos, aft, none⟩ = some true := rfl
 rw [this]
 simp only [he]
theorem WF.store {ox oy : Operand} {j b o k : Nat} {ob : AObj} {v : AV} {cs : List AV} {hs' : HSt} (hz : tb.size t = some k) (hx : oL s ox = some (.ptr b o)) (hy : oL s oy = some v) (hm : hs[j]? = some ⟨b, ob, true⟩)
  (hb : (Nat.beq v.cells.length k && Nat.ble (o + k) ob.cells.length && v.cells.all AV.isCell) = true) (hc : layL ob.cells o v.cells = cs) (hs_ : hs.set j ⟨b, ⟨ob.sz, ob.exact_, cs⟩, true⟩ = hs') (hi : Nat.blt m i = true)
  (hk : WF tb n ops l m base h0 (i + 1) rest E s hs' R) (hz0 : Nat.blt 0 ob.sz = true := by rfl) : WF tb n ops l m base h0 i (⟨none, .store t ox oy, ty, pos, aft, none⟩ :: rest) E s hs R := by
 intro tm h ht hh hdr hmh hE hbs ha
 obtain ⟨hl, hdr'⟩ := drop_step hdr
 have him := Nat.blt_eq.mp hi
 subst hs_
 refine WF.hard (v := .tuple []) (h1 := ⟨h.next, h.objs.set b ⟨ob.sz, ob.exact_, cs⟩⟩) (tm1 := tm) rfl hl ?_ rfl zy (hk tm _ ht (hh.put hm) hdr' (fun h => by omega) hE hbs fun e he => ?_)
 ·show Res.l (evStore tb tm h t ox oy) = _
  unfold evStore
  simp only [oL_ok ht hx, oL_ok ht hy]
  unfold storeA
  have h1 := (hh.at_ _ (mem_at hm)).1
  simp only at h1
  simp only [hz, h1, hb, hc, hz0]
 ·have : e.b ∈ hs.map (·.b) := by
   obtain ⟨q, hq⟩ := List.getElem?_of_mem he
   rw [List.getElem?_set] at hq
   by_cases hjq : j = q
   ·subst hjq
    split at hq
    ·split at hq
     ·cases hq; exact List.mem_map.2 ⟨_, mem_at hm, rfl⟩
     ·cases hq
    ·rename_i h; exact absurd rfl h
   ·rw [if_neg hjq] at hq; exact List.mem_map.2 ⟨_, List.mem_of_getElem? hq, rfl⟩
  obtain ⟨x, hx, hxb⟩ := List.mem_map.1 this
  have := ha x hx
  rw [← hxb]
  omega
end
end
def setB (op : List Nat) : Bool := decide (op = [97, 110, 100] ∨ op = [111, 114] ∨ op = [117, 110, 108, 101, 115, 115])
def z0 (L : List PE) : Int := (L.getD 0 ([], 0)).2
def binE (op : List Nat) (md sd : Int) (N : List (List Nat)) (M L : List PE) (x : PE) : Nat :=
 if hvP md N L (keyM md N x.1) = [] then 0
 else if 1 < (hvP md N L (keyM md N x.1)).length ∨ (sd = 0 ∧ 1 < (hvP md N M (keyM md N x.1)).length) then 17
 else (prF op sd x.2 (z0 (hvP md N L (keyM md N x.1)))).2.toNat
def binL (op : List Nat) (bl : Bool) (md sd : Int) (N : List (List Nat)) (L : List PE) (x : PE) : List PE :=
 if hvP md N L (keyM md N x.1) = [] then [] else binI op bl md sd N x (z0 (hvP md N L (keyM md N x.1)))
def binG (op : List Nat) (md sd : Int) (N : List (List Nat)) (M L : List El) (i : Nat) : Nat := binE op md sd N (P2 M) (P2 L) (eg M i).2
noncomputable def binPre (op : List Nat) (md sd : Int) (V U : List El) : Option Nat :=
 if vchk V ≠ 0 then some (vchk V) else if vchk U ≠ 0 then some (vchk U)
 else if setB op = false ∧ ariB op = false ∧ cmpB op = false then some 9
 else if md < 0 ∨ 2 < md ∨ sd < 0 ∨ 2 < sd then some 2
 else if sd ≠ 0 ∧ (md = 0 ∨ setB op = true) then some 2 else none
def coreR (op : List Nat) (bl : Bool) (md sd : Int) (N : List (List Nat)) (M L : List El) (e : Nat) (W : List PE) : Prop :=
 (fstE (binG op md sd N M L) M.length 0 = e ∧ e ≠ 0 ∧ W = []) ∨ (fstE (binG op md sd N M L) M.length 0 = 0 ∧ OrdR ((P2 M).flatMap (binL op bl md sd N (P2 L))) e W)
def BinR (op : List Nat) (bl : Bool) (md sd : Int) (N : List (List Nat)) (V U : List El) (e : Nat) (W : List PE) : Prop :=
 (binPre op md sd V U = some e ∧ W = []) ∨ (binPre op md sd V U = none ∧ setB op = true ∧ OrdR (setL op md N (P2 V) (P2 U)) e W) ∨
 (binPre op md sd V U = none ∧ setB op = false ∧ coreR op bl md sd N (if sd = 2 then U else V) (if sd = 2 then V else U) e W)
section
variable {op : List Nat} {bl : Bool} {md sd : Int} {N : List (List Nat)} {V U M L F : List El} {A B : List PE} {x : PE} {e : Nat} {W : List PE}
theorem p2_ln : (P2 F).length = F.length := List.length_map _
theorem fl_mem {kf : PE → List Nat} {k : List Nat} {y : El} (h : y ∈ fl kf V k) : y ∈ V := (List.mem_filter.1 h).1
theorem vchk_len {V : List El} (h : vchk V = 0) : V.length ≤ 256 := by
 rcases Nat.eq_zero_or_pos V.length with g | g
 ·omega
 ·exact (vchk_lchk h g).2
theorem EIn.cell {hs : HSt} {V : List El} {v : AV} (h : EIn hs V v) : v.isCell = true := by
 rcases h.1 with ⟨rfl, _⟩ | ⟨b, sz, ex, rfl, _⟩ <;> rfl
end

open Go.RowKit Go.ChangeShapes Go.WideShapes
theorem cell_cells' {w : World} {b o : Nat} {v : Value} (h : w.cell? ⟨b, o, none⟩ = some v) : ∃ c e fr, w.heap[b]? = some (.cells c e fr) ∧ c[o]? = some v := by
 unfold World.cell? at h
 cases hb : w.heap[b]? with
 | none => rw [hb] at h; cases h
 | some x =>
  rw [hb] at h
  cases x with
  | cells c e fr => exact ⟨c, e, fr, rfl, h⟩
  | _ => cases h
theorem bk_one {H : Type} (d : DataW H) : 1 ≤ Rows.uptoBulk d := by
 cases d with
 | lit l => cases l <;> simp [Rows.uptoBulk]
 | nil => simp [Rows.uptoBulk]
 | ptr d => simp [Rows.uptoBulk]
 | slice elems spare => simp [Rows.uptoBulk]
 | agg parts => simp [Rows.uptoBulk]
 | iface t d => simp [Rows.uptoBulk]
 | map entries => simp [Rows.uptoBulk]
 | held h => simp [Rows.uptoBulk]
theorem bk_part {H : Type} {d : DataW H} {l : List (DataW H)} (h : d ∈ l) : Rows.uptoBulk d ≤ Rows.uptoBulkAll l := by
 induction l with
 | nil => cases h
 | cons x r ih =>
  simp only [Rows.uptoBulkAll]
  rcases List.mem_cons.1 h with e | e
  ·subst e; omega
  ·have := ih e; omega
theorem bk_len {H : Type} (l : List (DataW H)) : l.length ≤ Rows.uptoBulkAll l := by
 induction l with
 | nil => simp [Rows.uptoBulkAll]
 | cons x r ih => have := bk_one x; simp only [Rows.uptoBulkAll, List.length_cons]; omega
theorem bk_str {H : Type} (bytes : List UInt8) : Rows.uptoBulk (DataW.lit (H := H) (.string bytes)) = bytes.length + 1 := by simp [Rows.uptoBulk]
theorem bk_pair {H : Type} (x y : DataW H) : Rows.uptoBulk x + Rows.uptoBulk y + 1 = Rows.uptoBulk (.agg [x, y]) := by simp [Rows.uptoBulk, Rows.uptoBulkAll]
instance : Inhabited AV := ⟨.nils⟩
instance : Inhabited InB := ⟨⟨⟨0, 0, 0, 0, undef⟩, true, []⟩⟩
def CellsOK (w : World) (M : Inj) (x : InB) : Prop := x.live = true ∧ x.bi.val = undef ∧ ∃ c e fr, w.heap[x.bi.blk]? = some (.cells c e fr) ∧ ∀ k v, x.cells[k]? = some v → v.isCell = true ∧ ∃ u, c[x.bi.off + k]? = some u ∧ VRel M v u
def strOf : Value → List Nat
 | .string s => s.data.toList.map UInt8.toNat
 | _ => []
def numV : Value → Int
 | .int _ n => n
 | _ => 0
theorem str_rel {M : Inj} {s : ByteArray} : VRel M (.str (strOf (.string s))) (.string s) := .str s _ rfl
theorem str_bytes (s : ByteArray) : Bytes (strOf (.string s)) := by
 intro c hc
 obtain ⟨x, _, rfl⟩ := List.mem_map.1 hc
 exact x.toNat_lt
theorem str_len (s : ByteArray) : (strOf (.string s)).length = s.data.toList.length := by simp [strOf]
section
variable {H : Type} {enc : TypeId × Value → H} {P : Program} {w : World} {held : Bool}
theorem lab_in {t e : TypeId} {f0 f1 : Field} {n : Nat} {u : Value} {D : DataW H} {Pl : List MemPlace} (ht : P.underlying t = some (.slice e)) (he : P.underlying e = some (.struct #[f0, f1])) (ce : P.cellsOf e = 2) (o0 : f0.offset = 0) (o1 : f1.offset = 1) (c0 : P.cellsOf f0.type = 1) (c1 : P.cellsOf f1.type = 1)
  (s0 : P.underlying f0.type = some .string) (s1 : P.underlying f1.type = some .string) (h : DataW.trod enc P w 0 (fun _ => true) held n t [u] = some (D, Pl)) (hb : Rows.uptoBulk D ≤ 1048576) (B : Nat) (hB : ∃ c e fr, w.heap[B]? = some (.cells c e fr)) (k : Nat) :
  ∃ q : AV × List Lab × InB, ((q.1 = .nils ∧ q.2.1 = []) ∨ (q.1 = .slice k 0 q.2.1.length 2 ∧ q.2.2.cells = cL q.2.1)) ∧ LBd q.2.1 ∧ ∀ M : Inj, M k = some q.2.2.bi → VRel M q.1 u ∧ CellsOK w M q.2.2 := by
 obtain ⟨cB, eB, fB, hB⟩ := hB
 rcases Deep.open_slice_pairs ht he ce o0 o1 c0 c1 h with ⟨h1, h2⟩ | ⟨a, len, cap, m, n', V0, V1, D0, D1, P0, P1, h1, hb0, hle, hcap, hm, hx, hcell⟩
 ·simp only [List.cons.injEq, and_true] at h1
  subst h1
  exact ⟨(.nils, [], ⟨⟨B, 0, 0, 2, undef⟩, true, []⟩), .inl ⟨rfl, rfl⟩, ⟨by simp, fun x hx => by simp at hx⟩, fun M hM => ⟨.nils, rfl, rfl, cB, eB, fB, hB, fun k v hv => by simp at hv⟩⟩
 ·simp only [List.cons.injEq, and_true] at h1
  subst h1
  have hm : m = cap := hm
  subst hm
  simp only [Prod.mk.injEq] at hx
  obtain ⟨hD, _⟩ := hx
  have hs0 : ∀ i, i < m → ∃ s : ByteArray, V0 i = .string s ∧ D0 i = .lit (.string s.data.toList) := fun i hi => by
   obtain ⟨s, e1, e2, _⟩ := DataW.trod_string s0 (hcell i hi).2.2.1
   simp only [List.cons.injEq, and_true] at e1
   exact ⟨s, e1, (Prod.mk.inj e2).1⟩
  have hs1 : ∀ i, i < m → ∃ s : ByteArray, V1 i = .string s ∧ D1 i = .lit (.string s.data.toList) := fun i hi => by
   obtain ⟨s, e1, e2, _⟩ := DataW.trod_string s1 (hcell i hi).2.2.2
   simp only [List.cons.injEq, and_true] at e1
   exact ⟨s, e1, (Prod.mk.inj e2).1⟩
  have hbd : Rows.uptoBulkAll ((List.range len).map fun i => DataW.agg [D0 i, D1 i]) ≤ 1048576 := by
   rw [hD] at hb
   simp only [Rows.uptoBulk] at hb
   omega
  have hlen : len ≤ 1048576 := by
   have := bk_len ((List.range len).map fun i => DataW.agg [D0 i, D1 i])
   simp only [List.length_map, List.length_range] at this
   omega
  have hl : ∀ i, i < len → ((List.range len).map fun i => (strOf (V0 i), strOf (V1 i)))[i]? = some (strOf (V0 i), strOf (V1 i)) := fun i hi => by simp [hi]
  have hLB : LBd ((List.range len).map fun i => (strOf (V0 i), strOf (V1 i))) := by
   refine ⟨by simpa using hlen, fun x hx => ?_⟩
   obtain ⟨i, hi, rfl⟩ := List.mem_map.1 hx
   have hi : i < len := by simpa using hi
   obtain ⟨sa, e1, e2⟩ := hs0 i zy
   obtain ⟨sb, e3, e4⟩ := hs1 i zy
   have hp := bk_part (List.mem_map.2 ⟨i, by simpa using hi, rfl⟩ : (DataW.agg [D0 i, D1 i] : DataW H) ∈ (List.range len).map fun i => DataW.agg [D0 i, D1 i])
   rw [← bk_pair, e2, e4, bk_str, bk_str] at hp
   refine ⟨?_, ?_, ?_, ?_⟩
   ·show Bytes (strOf (V0 i)); rw [e1]; exact str_bytes sa
   ·show Bytes (strOf (V1 i)); rw [e3]; exact str_bytes sb
   ·show (strOf (V0 i)).length ≤ _; rw [e1, str_len]; omega
   ·show (strOf (V1 i)).length ≤ _; rw [e3, str_len]; omega
  by_cases hc : m = 0
  ·subst hc
   obtain rfl : len = 0 := by omega
   exact ⟨(.slice k 0 0 2, [], ⟨⟨B, 0, 0, 2, undef⟩, true, []⟩), .inr ⟨rfl, rfl⟩, ⟨by simp, fun x hx => by simp at hx⟩, fun M hM => ⟨.slice k 0 0 0 a ⟨B, 0, 0, 2, undef⟩ hM rfl (Nat.le_refl _) (.inr rfl) rfl, rfl, rfl, cB, eB, fB, hB, fun k v hv => by simp at hv⟩⟩
  ·obtain ⟨b, off, spot⟩ := a
   have hspot : spot = none := by simpa [Addr.add] using World.cell?_spot (hcell 0 zy).1
   subst hspot
   refine ⟨(.slice k 0 ((List.range len).map fun i => (strOf (V0 i), strOf (V1 i))).length 2, (List.range len).map fun i => (strOf (V0 i), strOf (V1 i)), ⟨⟨b, off, m, 2, undef⟩, true, cL ((List.range len).map fun i => (strOf (V0 i), strOf (V1 i)))⟩), .inr ⟨rfl, rfl⟩, hLB, fun M hM => ⟨?_, rfl, rfl, ?_⟩⟩
   ·have e : ((List.range len).map fun i => (strOf (V0 i), strOf (V1 i))).length = len := by simp
    rw [e]
    exact .slice k 0 len m _ ⟨b, off, m, 2, undef⟩ hM (Nat.zero_add _) hle (.inl (by simp)) rfl
   ·have hc0 := (hcell 0 zy).1
    have e0 : (⟨b, off, none⟩ : Addr).add (0 * 2) = ⟨b, off + 0, none⟩ := by simp [Addr.add]
    rw [e0] at hc0
    obtain ⟨c, e, fr, g1, _⟩ := cell_cells' hc0
    refine ⟨c, e, fr, g1, fun j v hv => ?_⟩
    have hj : j < len * 2 := by
     have := (List.getElem?_eq_some_iff.1 hv).1
     rw [cL_len] at this
     simpa using this
    have hi : j / 2 < len := by omega
    obtain ⟨k1, k2⟩ := cL_get ((List.range len).map fun i => (strOf (V0 i), strOf (V1 i))) (j / 2) (by simpa using hi)
    have elg : lg ((List.range len).map fun i => (strOf (V0 i), strOf (V1 i))) (j / 2) = (strOf (V0 (j / 2)), strOf (V1 (j / 2))) := by
     unfold lg
     rw [List.getD_eq_getElem?_getD, hl _ hi]; rfl
    rw [elg] at k1 k2
    obtain ⟨h3, h4, _⟩ := hcell (j / 2) zy
    rcases Nat.mod_two_eq_zero_or_one j with hr | hr
    ·have ej : j / 2 * 2 = j := by omega
     rw [ej] at k1 h3
     have hv : (cL ((List.range len).map fun i => (strOf (V0 i), strOf (V1 i))))[j]? = some v := hv
     rw [k1] at hv
     cases hv
     obtain ⟨s, e1, _⟩ := hs0 (j / 2) zy
     have e2 : (⟨b, off, none⟩ : Addr).add j = ⟨b, off + j, none⟩ := by rw [add_none]
     rw [e2, e1] at h3
     obtain ⟨c', e', fr', g2, g3⟩ := cell_cells' h3
     rw [g1] at g2
     cases g2
     exact ⟨rfl, _, g3, by rw [e1]; exact str_rel⟩
    ·have ej : j / 2 * 2 + 1 = j := by omega
     rw [ej] at k2 h4
     have hv : (cL ((List.range len).map fun i => (strOf (V0 i), strOf (V1 i))))[j]? = some v := hv
     rw [k2] at hv
     cases hv
     obtain ⟨s, e1, _⟩ := hs1 (j / 2) zy
     have e2 : (⟨b, off, none⟩ : Addr).add j = ⟨b, off + j, none⟩ := by rw [add_none]
     rw [e2, e1] at h4
     obtain ⟨c', e', fr', g2, g3⟩ := cell_cells' h4
     rw [g1] at g2
     cases g2
     exact ⟨rfl, _, g3, by rw [e1]; exact str_rel⟩
def hsIn : Nat → List InB → HSt
 | _, [] => []
 | k, x :: l => ⟨k, ⟨0, false, x.cells⟩, false⟩ :: hsIn (k + 1) l
theorem hsIn_ro : ∀ (l : List InB) (k : Nat), ∀ e ∈ hsIn k l, e.w = false
 | [], k, e, h => by cases h
 | x :: l, k, e, h => by
  rcases List.mem_cons.1 h with rfl | h
  ·rfl
  ·exact hsIn_ro l _ e h
theorem hsIn_at : ∀ (l : List InB) (k j : Nat) (x : InB), l[j]? = some x → (⟨k + j, ⟨0, false, x.cells⟩, false⟩ : HE) ∈ hsIn k l
 | [], k, j, x, h => by simp at h
 | y :: l, k, 0, x, h => by simp at h; subst h; exact List.mem_cons_self
 | y :: l, k, j + 1, x, h => by
  have := hsIn_at l (k + 1) j x (by simpa using h)
  rw [show k + (j + 1) = k + 1 + j by omega]
  exact List.mem_cons_of_mem _ this
theorem hsIn_mem : ∀ (l : List InB) (k : Nat) (e : HE), e ∈ hsIn k l → ∃ j x, l[j]? = some x ∧ e = ⟨k + j, ⟨0, false, x.cells⟩, false⟩
 | [], k, e, h => by cases h
 | y :: l, k, e, h => by
  rcases List.mem_cons.1 h with rfl | h
  ·exact ⟨0, y, rfl, rfl⟩
  ·obtain ⟨j, x, h1, h2⟩ := hsIn_mem l _ e h
   exact ⟨j + 1, x, by simpa using h1, by rw [h2, show k + 1 + j = k + (j + 1) by omega]⟩
theorem hsIn_nd : ∀ (l : List InB) (k : Nat), ((hsIn k l).map (·.b)).Nodup
 | [], k => List.nodup_nil
 | x :: l, k => by
  show (k :: (hsIn (k + 1) l).map (·.b)).Nodup
  refine List.nodup_cons.2 ⟨fun h => ?_, hsIn_nd l _⟩
  obtain ⟨e, he, hb⟩ := List.mem_map.1 h
  obtain ⟨j, x, _, rfl⟩ := hsIn_mem l _ e he
  simp only at hb
  omega
theorem hsIn_app : ∀ (l m : List InB) (k : Nat), hsIn k (l ++ m) = hsIn k l ++ hsIn (k + l.length) m
 | [], m, k => rfl
 | x :: l, m, k => by
  show _ :: hsIn (k + 1) (l ++ m) = _ :: _
  rw [hsIn_app l m (k + 1), List.length_cons, show k + 1 + l.length = k + (l.length + 1) by omega]; rfl
theorem hsIn_seen {I : List InB} (h : ∀ x ∈ I, x.live = true) : SeenIn I (hsIn 0 I) := by
 refine ⟨hsIn_nd I 0, fun e he => ?_⟩
 obtain ⟨j, x, h1, rfl⟩ := hsIn_mem I 0 e he
 exact ⟨rfl, x, by simpa using h1, h x (List.mem_of_getElem? h1), rfl⟩
theorem elems_in {t e lt le : TypeId} {f0 f1 g0 g1 : Field} {n : Nat} {v : Value} {D : DataW H} {Pl : List MemPlace} (ht : P.underlying t = some (.slice e)) (he : P.underlying e = some (.struct #[f0, f1])) (ce : P.cellsOf e = 2) (o0 : f0.offset = 0) (o1 : f1.offset = 1) (c0 : P.cellsOf f0.type = 1) (c1 : P.cellsOf f1.type = 1)
  (hf0 : f0.type = lt) (hf1 : P.underlying f1.type = some (.int .i64)) (hl : P.underlying lt = some (.slice le)) (hle : P.underlying le = some (.struct #[g0, g1])) (cle : P.cellsOf le = 2) (p0 : g0.offset = 0) (p1 : g1.offset = 1) (d0 : P.cellsOf g0.type = 1) (d1 : P.cellsOf g1.type = 1)
  (s0 : P.underlying g0.type = some .string) (s1 : P.underlying g1.type = some .string) (h : DataW.trod enc P w 0 (fun _ => true) held n t [v] = some (D, Pl)) (hb : Rows.uptoBulk D ≤ 1048576) (hok : ∀ a len cap, v = .slice (some a) len cap → a.spot = none ∧ ∃ c e fr, w.heap[a.block]? = some (.cells c e fr)) (k : Nat) :
  ∃ (V : List El) (va : AV) (I : List InB), EIn (hsIn k I) V va ∧ EBd V ∧ ∀ M : Inj, (∀ j x, I[j]? = some x → M (k + j) = some x.bi) → VRel M va v ∧ ∀ x ∈ I, CellsOK w M x := by
 rcases Deep.open_slice_pairs ht he ce o0 o1 c0 c1 h with ⟨h1, h2⟩ | ⟨a, len, cap, m, n', V0, V1, D0, D1, P0, P1, h1, hb0, hlc, hcap, hm, hx, hcell⟩
 ·simp only [List.cons.injEq, and_true] at h1
  subst h1
  exact ⟨[], .nils, [], ⟨.inl ⟨rfl, rfl⟩, fun x hx => by simp at hx⟩, ⟨by simp, fun x hx => by simp at hx⟩, fun M hM => ⟨.nils, fun x hx => by simp at hx⟩⟩
 ·simp only [List.cons.injEq, and_true] at h1
  subst h1
  have hm : m = cap := hm
  subst hm
  obtain ⟨b, off, spot⟩ := a
  obtain ⟨hspot, cB, eB, fB, hB⟩ := hok _ _ _ rfl
  simp only at hspot hB
  subst hspot
  simp only [Prod.mk.injEq] at hx
  obtain ⟨hD, _⟩ := hx
  have hbd : Rows.uptoBulkAll ((List.range len).map fun i => DataW.agg [D0 i, D1 i]) ≤ 1048576 := by
   rw [hD] at hb
   simp only [Rows.uptoBulk] at hb
   omega
  have hlen : len ≤ 1048576 := by
   have := bk_len ((List.range len).map fun i => DataW.agg [D0 i, D1 i])
   simp only [List.length_map, List.length_range] at this
   omega
  have hnum : ∀ i, i < m → ∃ z, V1 i = .int .i64 z ∧ I64 z := fun i hi => by
   obtain ⟨z, e1, _, e2⟩ := DataW.trod_int hf1 (hcell i hi).2.2.2
   simp only [List.cons.injEq, and_true] at e1
   simp only [Lit.wf, Bool.and_eq_true, decide_eq_true_eq] at e2
   exact ⟨z, e1, e2⟩
  have hq : ∀ i, i < len → ∃ q : AV × List Lab × InB, ((q.1 = .nils ∧ q.2.1 = []) ∨ (q.1 = .slice (k + (i + 1)) 0 q.2.1.length 2 ∧ q.2.2.cells = cL q.2.1)) ∧ LBd q.2.1 ∧ ∀ M : Inj, M (k + (i + 1)) = some q.2.2.bi → VRel M q.1 (V0 i) ∧ CellsOK w M q.2.2 := fun i hi => by
   have hp := bk_part (List.mem_map.2 ⟨i, by simpa using hi, rfl⟩ : (DataW.agg [D0 i, D1 i] : DataW H) ∈ (List.range len).map fun i => DataW.agg [D0 i, D1 i])
   rw [← bk_pair] at hp
   have := (hcell i zy).2.2.1
   rw [hf0] at this
   exact lab_in hl hle cle p0 p1 d0 d1 s0 s1 this zy b ⟨cB, eB, fB, hB⟩ _
  obtain ⟨q, hq⟩ := Deep.choose_lt hq
  have hV : ∀ i, i < len → ((List.range len).map fun i => ((q i).1, (q i).2.1, numV (V1 i)))[i]? = some ((q i).1, (q i).2.1, numV (V1 i)) := fun i hi => by simp [hi]
  have hVl : ((List.range len).map fun i => ((q i).1, (q i).2.1, numV (V1 i))).length = len := by simp
  have hI : ∀ i, i < len → (⟨⟨b, off, m, 2, undef⟩, true, cE ((List.range len).map fun i => ((q i).1, (q i).2.1, numV (V1 i)))⟩ :: (List.range len).map fun i => (q i).2.2 : List InB)[i + 1]? = some (q i).2.2 := fun i hi => by simp [hi]
  refine ⟨(List.range len).map fun i => ((q i).1, (q i).2.1, numV (V1 i)), .slice k 0 len 2, ⟨⟨b, off, m, 2, undef⟩, true, cE ((List.range len).map fun i => ((q i).1, (q i).2.1, numV (V1 i)))⟩ :: (List.range len).map fun i => (q i).2.2, ⟨.inr ⟨k, 0, false, by rw [hVl], false, List.mem_cons_self⟩, fun x hx => ?_⟩, ⟨by rw [hVl]; exact hlen, fun x hx => ?_⟩, fun M hM => ⟨.slice k 0 len m _ ⟨b, off, m, 2, undef⟩ (by simpa using hM 0 _ rfl) (Nat.zero_add _) hlc (.inl (by simp)) rfl, fun x hx => ?_⟩⟩
  ·obtain ⟨i, hi, rfl⟩ := List.mem_map.1 hx
   have hi : i < len := by simpa using hi
   rcases (hq i hi).1 with h1 | ⟨h1, h2⟩
   ·exact .inl h1
   ·refine .inr ⟨k + (i + 1), 0, false, h1, false, ?_⟩
    have := hsIn_at _ k (i + 1) _ (hI i hi)
    rw [h2] at this
    exact this
  ·obtain ⟨i, hi, rfl⟩ := List.mem_map.1 hx
   have hi : i < len := by simpa using hi
   obtain ⟨z, e1, e2⟩ := hnum i zy
   refine ⟨(hq i hi).2.1, ?_⟩
   show I64 (numV (V1 i))
   rw [e1]; exact e2
  ·have hMi : ∀ i, i < len → VRel M (q i).1 (V0 i) ∧ CellsOK w M (q i).2.2 := fun i hi => (hq i hi).2.2 M (hM (i + 1) _ (hI i hi))
   rcases List.mem_cons.1 hx with rfl | hx
   ·refine ⟨rfl, rfl, cB, eB, fB, hB, fun j v hv => ?_⟩
    have hv : (cE ((List.range len).map fun i => ((q i).1, (q i).2.1, numV (V1 i))))[j]? = some v := hv
    have hj : j < len * 2 := by
     have := (List.getElem?_eq_some_iff.1 hv).1
     rw [cE_len, hVl] at this
     exact this
    have hi : j / 2 < len := by omega
    obtain ⟨k1, k2⟩ := cE_get ((List.range len).map fun i => ((q i).1, (q i).2.1, numV (V1 i))) (j / 2) (by rw [hVl]; exact hi)
    have eeg : eg ((List.range len).map fun i => ((q i).1, (q i).2.1, numV (V1 i))) (j / 2) = ((q (j / 2)).1, (q (j / 2)).2.1, numV (V1 (j / 2))) := by
     unfold eg
     rw [List.getD_eq_getElem?_getD, hV _ hi]; rfl
    rw [eeg] at k1 k2
    obtain ⟨h3, h4, _⟩ := hcell (j / 2) zy
    have e2 : (⟨b, off, none⟩ : Addr).add j = ⟨b, off + j, none⟩ := by rw [add_none]
    rcases Nat.mod_two_eq_zero_or_one j with hr | hr
    ·have ej : j / 2 * 2 = j := by omega
     rw [ej] at k1 h3
     rw [k1] at hv
     cases hv
     rw [e2] at h3
     obtain ⟨c', e', fr', g2, g3⟩ := cell_cells' h3
     rw [hB] at g2
     cases g2
     refine ⟨?_, _, g3, (hMi _ hi).1⟩
     rcases (hq _ hi).1 with ⟨h1, _⟩ | ⟨h1, _⟩ <;> (show (q (j / 2)).1.isCell = true) <;> rw [h1] <;> rfl
    ·have ej : j / 2 * 2 + 1 = j := by omega
     rw [ej] at k2 h4
     rw [k2] at hv
     cases hv
     obtain ⟨z, e1, _⟩ := hnum (j / 2) zy
     rw [e2, e1] at h4
     obtain ⟨c', e', fr', g2, g3⟩ := cell_cells' h4
     rw [hB] at g2
     cases g2
     exact ⟨rfl, _, g3, by rw [e1]; exact .int _ _⟩
   ·obtain ⟨i, hi, rfl⟩ := List.mem_map.1 hx
    exact (hMi i (by simpa using hi)).2
theorem slice_there {base : Nat} {t e : TypeId} {v : Value} (hu : P.underlying t = some (.slice e)) (hv : Value.okWide P w .any base t v) : ∀ a len cap, v = .slice (some a) len cap → a.spot = none ∧ ∃ c e fr, w.heap[a.block]? = some (.cells c e fr) := by
 intro a len cap h
 subst h
 simp only [Value.okWide, hu, Cell.okWide, Cell.ok] at hv
 obtain ⟨_, _, h3⟩ := hv
 obtain ⟨_, h4, row, cells, h5, _⟩ := h3
 refine ⟨h4, ?_⟩
 unfold World.shape? at h5
 split at h5
 ·rename_i c e fr hc
  exact ⟨c, e, fr, hc⟩
 ·cases h5
end
end Go.Proofs.YtmblgaehfjheeaaGreat.Ev
