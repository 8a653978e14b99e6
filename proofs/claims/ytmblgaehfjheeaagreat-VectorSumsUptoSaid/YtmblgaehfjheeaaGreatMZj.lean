/- Chapter 19, walks: elements by their keys' texts. -/
import Derived.Test.YtmblgaehfjheeaaGreatMZg
import Derived.Test.YtmblgaehfjheeaaGreatMYa
namespace Go.Proofs.YtmblgaehfjheeaaGreat.Ev
open Go.RowKit
set_option linter.unusedVariables false
set_option linter.unusedSimpArgs false
set_option maxRecDepth 100000
set_option maxHeartbeats 1000000
def CellQ (v : AV) : Prop := v.isCell = true ∧ v.beq v = true ∧ beq0 v v = true
theorem SIn.bq0 {hs : HSt} {N : List (List Nat)} {v : AV} (h : SIn hs N v) : beq0 v v = true := by
  rcases h with ⟨rfl, _⟩ | ⟨b, sz, ex, rfl, _⟩
  · rfl
  · simp [beq0]
theorem SIn.bq {hs : HSt} {N : List (List Nat)} {v : AV} (h : SIn hs N v) : v.beq v = true := by
  rcases h with ⟨rfl, _⟩ | ⟨b, sz, ex, rfl, _⟩
  · rfl
  · simp [AV.beq, beq1, beq0]
def entT (G : List Ge) : List Te := G.map fun g => (g.1.1, g.2)
theorem key_mem {V : List El} (hK : ∀ i, i < V.length → KeyOK (eg V i).2.1) {x : El} (h : x ∈ V) : KeyOK x.2.1 := by
  obtain ⟨i, hi, rfl⟩ := List.getElem_of_mem h
  have := hK i hi
  have e : eg V i = V[i] := by unfold eg; rw [List.getD_eq_getElem?_getD, List.getElem?_eq_getElem hi]; rfl
  rw [e] at this
  exact this
def MapIs (kf : PE → List Nat) (V : List El) (u : AV) (D : HSt) : Prop := ∃ mb G D', u = .map mb ∧ D = ⟨mb, ⟨(entT G).length, true, mapT 0 (entT G)⟩, true⟩ :: D' ∧ GInv kf V G ∧ GB G D'
def prF (op : List Nat) (sd n m : Int) : Int × Int := numM op (if sd = 2 then m else n) (if sd = 2 then n else m)
def binI (op : List Nat) (bl : Bool) (md sd : Int) (N : List (List Nat)) (x : PE) (m : Int) : List PE :=
  if cmpB op = true ∧ bl = false then (if (prF op sd x.2 m).1 ≠ 0 then [x] else []) else [(if sd = 0 then keyM md N x.1 else x.1.filter (dropP [[95, 95, 110, 97, 109, 101, 95, 95]]), (prF op sd x.2 m).1)]
def hvP (md : Int) (N : List (List Nat)) (L : List PE) (k : List Lab) : List PE := L.filter fun y => decide (keyM md N y.1 = k)
def st1 (op : List Nat) (md : Int) (N : List (List Nat)) (M : List PE) (x : PE) : List PE := if op = [111, 114] ∨ ((hvP md N M (keyM md N x.1) ≠ []) ↔ op = [97, 110, 100]) then [x] else []
def st2 (op : List Nat) (md : Int) (N : List (List Nat)) (L : List PE) (x : PE) : List PE := if op = [111, 114] ∧ hvP md N L (keyM md N x.1) = [] then [x] else []
def setL (op : List Nat) (md : Int) (N : List (List Nat)) (L M : List PE) : List PE := L.flatMap (st1 op md N M) ++ M.flatMap (st2 op md N L)
theorem KIn.ofH {keep hs : HSt} (h : SubH keep hs) : KIn keep hs := fun e he => ⟨e.w, h.1 e he⟩
theorem EIn.bq {hs : HSt} {V : List El} {v : AV} (h : EIn hs V v) : v.beq v = true := by
  rcases h.1 with ⟨rfl, _⟩ | ⟨b, sz, ex, rfl, _⟩
  · rfl
  · simp [AV.beq, beq1, beq0]
theorem lbd_nil : LBd [] := ⟨by simp, fun x hx => by simp at hx⟩
theorem lbd_key {A : List Lab} {md : Int} {N : List (List Nat)} (h : LBd A) : LBd (keyM md N A) := by
  unfold keyM
  split
  · exact LBd.filter h _
  · split
    · exact LBd.filter (LBd.filter h _) _
    · exact LBd.filter h _
noncomputable section
def noMem : Op → Bool
  | .move _ => true
  | .assign _ => true
  | .extract _ _ => true
  | _ => false
theorem evOp_noMem {tb : Tab} {call : CallF} {tm : T AV} {h h' : AHeap} {op : Op} (hn : noMem op = true) : evOp tb call tm h op = evOp tb call tm h' op := by
  cases op <;> first | rfl | (simp [noMem] at hn)
def bitF (ops : List Oper) (ord : List Nat) (p q : Nat) : Bool := ((aheadOf ops []).getD (ord.getD p 0) 0).testBit (ord.getD q 0)
def loudF (l : List Oper) (p : Nat) : Bool := match l[p]? with
  | some o => loudOp o.op
  | none => false
def hardF (l : List Oper) (p : Nat) : Bool := match l[p]? with
  | some o => loudOp o.op && !(isMaker o.op)
  | none => false
def pickF (ops : List Oper) (ord : List Nat) : List Oper := ord.filterMap fun i => ops[i]?
def statF (ops : List Oper) (ord : List Nat) (m : Nat) : Bool :=
  drawOk ops && !(drawFree ops) && wantsFloat ops && decide (sinkOrd ops = ord) && ordOk (aheadOf ops []) ops.length ord &&
  ((List.range (pickF ops ord).length).all fun p => (List.range p).all fun q => !(hardF (pickF ops ord) p) || !(loudF (pickF ops ord) q) || bitF ops ord p q) &&
  ((List.range m).all fun p => bitF ops ord m p)
def GoodF (tb : Tab) (l : List Oper) (m : Nat) (h0 : AHeap) (i : Nat) (es : List Ent) (ms : List (Nat × AHeap)) : Prop :=
  (∀ e ∈ es, l[e.i]? = some e.o ∧ (e.kind = 1 → e.v.beq e.v = true ∧ (e.i < m → evQ tb e.tm h0 e.o.op = some e.v) ∧ (m ≤ e.i → ∀ H, evQ tb e.tm H e.o.op = some e.v)) ∧
    (e.kind = 2 → loudOp e.o.op = true ∧ isMaker e.o.op = false) ∧ (e.kind = 3 → loudOp e.o.op = true)) ∧
  (∀ p ∈ ms, m < p.1) ∧ (i ≤ m → ∃ e ∈ es, e.i = m ∧ e.kind = 2)
section
variable {tb : Tab} {n : Nat} {E : Env} {s : St} {hs : HSt} {R : T AV → AHeap → Prop} {ops l rest : List Oper} {d : Nat} {ty : TypeId} {pos : String} {aft : Array Edge} {t : TypeId} {m i base : Nat} {h0 : AHeap}
def WF (tb : Tab) (n : Nat) (ops l : List Oper) (m base : Nat) (h0 : AHeap) (i : Nat) (rest : List Oper) (E : Env) (s : St) (hs : HSt) (R : T AV → AHeap → Prop) : Prop :=
  ∀ tm h, Has tm s → HS E hs h → l.drop i = rest → (i ≤ m → h = h0) → E.h0.next ≤ base → base + ops.length ≤ h.next → (∀ e ∈ hs, e.b < base + i ∨ base + ops.length ≤ e.b) →
    ∃ es ms tm' h', evTraceF tb (callOf (callE tb)) n ops base i rest tm h = some (es, ms, tm', h') ∧ GoodF tb l m h0 i es ms ∧ ∀ TM, SubT tm' TM → R TM h'
theorem WF.nil (hi : Nat.blt m i = true) (h : End E s hs R) : WF tb n ops l m base h0 i [] E s hs R :=
  fun tm hp ht hh _ _ _ _ _ => ⟨[], [], tm, hp, rfl, ⟨fun e he => by simp at he, fun p hp => by simp at hp, fun h => by have := Nat.blt_eq.mp hi; omega⟩, fun TM hT => h TM hp (ht.mono hT) hh⟩
theorem WF.subH {hs' : HSt} (h : SubH hs' hs) (g : WF tb n ops l m base h0 i rest E s hs' R) : WF tb n ops l m base h0 i rest E s hs R :=
  fun tm hp ht hh hd hm hE hb ha => g tm hp ht (hh.sub h) hd hm hE hb fun e he => ha e (h.1 e he)
theorem drop_step {o : Oper} (h : l.drop i = o :: rest) : l[i]? = some o ∧ l.drop (i + 1) = rest := by
  refine ⟨?_, ?_⟩
  · have : (l.drop i)[0]? = some o := by rw [h]; rfl
    rwa [List.getElem?_drop, Nat.add_zero] at this
  · rw [← List.drop_drop, h]; rfl
theorem wf_step {tm tm1 : T AV} {h h1 : AHeap} {o : Oper} {v : AV} {k : Nat} (hl : l[i]? = some o) (he : ev1F tb (callOf (callE tb)) ops (base + i) tm h o = some (v, h1, k)) (hp : putDst tm n o.dst v = some tm1)
    (hq : k = 1 → v.beq v = true ∧ (i < m → evQ tb tm h0 o.op = some v) ∧ (m ≤ i → ∀ H, evQ tb tm H o.op = some v)) (h2 : k = 2 → loudOp o.op = true ∧ isMaker o.op = false) (h3 : k = 3 → loudOp o.op = true) (hm : 2 ≤ k → m ≤ i) (him : i = m → k = 2)
    (hk : ∃ es ms tm' h', evTraceF tb (callOf (callE tb)) n ops base (i + 1) rest tm1 h1 = some (es, ms, tm', h') ∧ GoodF tb l m h0 (i + 1) es ms ∧ ∀ TM, SubT tm' TM → R TM h') :
    ∃ es ms tm' h', evTraceF tb (callOf (callE tb)) n ops base i (o :: rest) tm h = some (es, ms, tm', h') ∧ GoodF tb l m h0 i es ms ∧ ∀ TM, SubT tm' TM → R TM h' := by
  obtain ⟨es, ms, tm2, h2', e, ⟨g1, g2, g3⟩, hR⟩ := hk
  refine ⟨_, _, tm2, h2', by unfold evTraceF; simp only [he, hp, e]; rfl, ⟨fun x hx => ?_, fun p hp => ?_, fun hi => ?_⟩, hR⟩
  · rcases List.mem_cons.1 hx with rfl | hx
    · exact ⟨hl, hq, h2, h3⟩
    · exact g1 x hx
  · by_cases hk2 : 2 ≤ k
    · rw [if_pos hk2] at hp
      rcases List.mem_cons.1 hp with rfl | hp
      · have := hm hk2; show m < i + 1; omega
      · exact g2 p hp
    · rw [if_neg hk2] at hp
      exact g2 p hp
  · by_cases hi2 : i = m
    · exact ⟨_, List.mem_cons_self .., hi2, him hi2⟩
    · obtain ⟨e, h1, h2⟩ := g3 (by omega)
      exact ⟨e, List.mem_cons_of_mem _ h1, h2⟩
theorem mk_notq {tm : T AV} {h : AHeap} {op : Op} {r : Option AV} {call : CallF} (e : evOp tb call tm h op = .q r) : isMaker op = false := by
  cases op <;> first | rfl | (simp [evOp] at e)
theorem WF.q {op : Op} {v : AV} (hq : QV tb s hs op v) (hb : v.beq v = true) (hd : Nat.blt d n = true) (him : Nat.beq i m = false) (hn : (Nat.blt i m || noMem op) = true) (hk : WF tb n ops l m base h0 (i + 1) rest E ((d, v) :: s) hs R) :
    WF tb n ops l m base h0 i (⟨some d, op, ty, pos, aft, none⟩ :: rest) E s hs R := by
  intro tm h ht hh hdr hm hE hbs ha
  have hv := hq tm h ht hh.keep
  obtain ⟨hl, hdr'⟩ := drop_step hdr
  have hne : i ≠ m := fun e => by rw [e, Nat.beq_refl] at him; cases him
  refine wf_step (v := v) (k := 1) (h1 := h) (tm1 := tm.set d v) hl ?_ (putDst_at hd) (fun _ => ⟨hb, fun hlt => ?_, fun hge H => ?_⟩) (fun h => by cases h) (fun h => by cases h) (fun h => by omega) (fun h => absurd h hne)
    (hk _ _ (ht.set d v) hh hdr' (fun h => hm (by omega)) hE hbs fun e he => (ha e he).imp (fun h => by omega) id)
  · unfold ev1F
    rw [mk_notq (hv (callOf (callE tb)))]
    simp only
    unfold ev1
    have : wantedA ops tm ⟨some d, op, ty, pos, aft, none⟩ = some true := rfl
    rw [this]
    simp only [hv]
  · rw [← hm (by omega)]
    unfold evQ
    rw [hv]
  · have hno : noMem op = true := by
      rcases Bool.or_eq_true _ _ ▸ hn with h | h
      · have := Nat.blt_eq.mp h; omega
      · exact h
    unfold evQ
    rw [evOp_noMem (h' := h) hno, hv]
theorem WF.alloc {ob : AObj} (ho : AO tb t = some ob) (hd : Nat.blt d n = true) (hi : Nat.blt m i = true) (hlt : Nat.blt i ops.length = true) (hk : ∀ b, WF tb n ops l m base h0 (i + 1) rest E ((d, .ptr b 0) :: s) (⟨b, ob, true⟩ :: hs) R) :
    WF tb n ops l m base h0 i (⟨some d, .alloc t, ty, pos, aft, none⟩ :: rest) E s hs R := by
  intro tm h ht hh hdr hm hE hbs ha
  obtain ⟨hl, hdr'⟩ := drop_step hdr
  have him := Nat.blt_eq.mp hi
  have hil := Nat.blt_eq.mp hlt
  have hnew : HS E (⟨base + i, ob, true⟩ :: hs) ⟨h.next, h.objs.set (base + i) ob⟩ := by
    refine ⟨fun e he => ?_, ?_, hh.fr.1, fun c hc hcS => ?_⟩
    · rcases List.mem_cons.1 he with rfl | he
      · exact ⟨by simp [T.get_set], by show base + i < h.next; omega, fun _ => .inl (by show E.h0.next ≤ base + i; omega)⟩
      · obtain ⟨a1, a2, a3⟩ := hh.at_ e he
        refine ⟨?_, a2, a3⟩
        have := ha e he
        rw [T.get_set, if_neg (by omega)]
        exact a1
    · simp only [List.map_cons, List.nodup_cons]
      refine ⟨fun hm => ?_, hh.nd⟩
      obtain ⟨e, he, hb⟩ := List.mem_map.1 hm
      have := ha e he
      omega
    · show (h.objs.set (base + i) ob).get c = _
      rw [T.get_set, if_neg (by omega)]
      exact hh.fr.2 c hc hcS
  refine wf_step (v := .ptr (base + i) 0) (k := 3) (h1 := ⟨h.next, h.objs.set (base + i) ob⟩) (tm1 := tm.set d (.ptr (base + i) 0)) hl ?_ (putDst_at hd) (fun h => by cases h) (fun h => by cases h) (fun _ => rfl) (fun _ => by omega) (fun h => by omega)
    (hk (base + i) _ _ (ht.set d _) hnew hdr' (fun h => by omega) hE hbs fun e he => ?_)
  · unfold ev1F
    have hmk : isMaker (Op.alloc t) = true := rfl
    have hw : wantedA ops tm ⟨some d, .alloc t, ty, pos, aft, none⟩ = some true := rfl
    rw [hmk, hw]
    unfold mkA
    unfold AO at ho
    split at ho
    · rename_i z hz
      simp only [Option.some.injEq] at ho
      simp only [hz, ho]
    · cases ho
  · rcases List.mem_cons.1 he with rfl | he
    · left; show base + i < base + (i + 1); omega
    · exact (ha e he).imp (fun h => by omega) id
theorem WF.hard {op : Op} {v : AV} {tm tm1 : T AV} {h h1 : AHeap} {dst : Option Nat} (hmk : isMaker op = false) (hl : l[i]? = some ⟨dst, op, ty, pos, aft, none⟩) (he : evOp tb (callOf (callE tb)) tm h op = .l (some (v, h1))) (hp : putDst tm n dst v = some tm1) (hmi : m ≤ i)
    (hk : ∃ es ms tm' h', evTraceF tb (callOf (callE tb)) n ops base (i + 1) rest tm1 h1 = some (es, ms, tm', h') ∧ GoodF tb l m h0 (i + 1) es ms ∧ ∀ TM, SubT tm' TM → R TM h') :
    ∃ es ms tm' h', evTraceF tb (callOf (callE tb)) n ops base i (⟨dst, op, ty, pos, aft, none⟩ :: rest) tm h = some (es, ms, tm', h') ∧ GoodF tb l m h0 i es ms ∧ ∀ TM, SubT tm' TM → R TM h' := by
  refine wf_step (v := v) (k := 2) (h1 := h1) (tm1 := tm1) hl ?_ hp (fun h => by cases h) (fun _ => ⟨loud_is he, hmk⟩) (fun h => by cases h) (fun _ => hmi) (fun _ => rfl) hk
  unfold ev1F
  rw [hmk]
  simp only
  unfold ev1
  have : wantedA ops tm ⟨dst, op, ty, pos, aft, none⟩ = some true := rfl
  rw [this]
  simp only [he]
theorem WF.store {ox oy : Operand} {j b o k : Nat} {ob : AObj} {v : AV} {cs : List AV} {hs' : HSt} (hz : tb.size t = some k) (hx : oL s ox = some (.ptr b o)) (hy : oL s oy = some v) (hm : hs[j]? = some ⟨b, ob, true⟩)
    (hb : (Nat.beq v.cells.length k && Nat.ble (o + k) ob.cells.length && v.cells.all AV.isCell) = true) (hc : layL ob.cells o v.cells = cs) (hs_ : hs.set j ⟨b, ⟨ob.sz, ob.exact_, cs⟩, true⟩ = hs') (hi : Nat.blt m i = true)
    (hk : WF tb n ops l m base h0 (i + 1) rest E s hs' R) (hz0 : Nat.blt 0 ob.sz = true := by rfl) : WF tb n ops l m base h0 i (⟨none, .store t ox oy, ty, pos, aft, none⟩ :: rest) E s hs R := by
  intro tm h ht hh hdr hmh hE hbs ha
  obtain ⟨hl, hdr'⟩ := drop_step hdr
  have him := Nat.blt_eq.mp hi
  subst hs_
  refine WF.hard (v := .tuple []) (h1 := ⟨h.next, h.objs.set b ⟨ob.sz, ob.exact_, cs⟩⟩) (tm1 := tm) rfl hl ?_ rfl (by omega) (hk tm _ ht (hh.put hm) hdr' (fun h => by omega) hE hbs fun e he => ?_)
  · show Res.l (evStore tb tm h t ox oy) = _
    unfold evStore
    simp only [oL_ok ht hx, oL_ok ht hy]
    unfold storeA
    have h1 := (hh.at_ _ (mem_at hm)).1
    simp only at h1
    simp only [hz, h1, hb, hc, hz0]
  · have : e.b ∈ hs.map (·.b) := by
      obtain ⟨q, hq⟩ := List.getElem?_of_mem he
      rw [List.getElem?_set] at hq
      by_cases hjq : j = q
      · subst hjq
        split at hq
        · split at hq
          · cases hq; exact List.mem_map.2 ⟨_, mem_at hm, rfl⟩
          · cases hq
        · rename_i h; exact absurd rfl h
      · rw [if_neg hjq] at hq; exact List.mem_map.2 ⟨_, List.mem_of_getElem? hq, rfl⟩
    obtain ⟨x, hx, hxb⟩ := List.mem_map.1 this
    have := ha x hx
    rw [← hxb]
    omega
theorem WF.call0 {of : Operand} {args : List Operand} {ts : Array TypeId} {g : Nat} {caps la l' : List AV} {hsc : HSt} {Post : AV → HSt → Prop} (hf : oL s of = some (.func g caps)) (ha : oLs s args = some la) (hl : la ++ caps = l')
    (hsp : Spec tb g l' [] hsc Post) (hsub : SubR hsc hs) (hd : Nat.blt d n = true) (hi : Nat.ble m i = true) (hk : ∀ v D, Post v D → WF tb n ops l m base h0 (i + 1) rest E ((d, v) :: s) (D ++ hs) R) :
    WF tb n ops l m base h0 i (⟨some d, .call ⟨.value of, args.toArray, ts⟩, ty, pos, aft, none⟩ :: rest) E s hs R := by
  intro tm h ht hh hdr hmh hE hbs haw
  obtain ⟨hl0, hdr'⟩ := drop_step hdr
  have him := Nat.ble_eq.mp hi
  obtain ⟨v, h', D, hEv, hP, hw, hD⟩ := hsp h (hh.enter hsub)
  have hnx : h.next ≤ h'.next := hD.fr.1
  refine WF.hard (v := v) (h1 := h') (tm1 := tm.set d v) rfl hl0 ?_ (putDst_at hd) him (hk v D hP _ _ (ht.set d _) (hh.back hw hD) hdr' (fun h => by omega) hE (by omega) fun e he => ?_)
  · show Res.l (evCallVal tm h (callOf (callE tb)) of args.toArray) = _
    unfold evCallVal
    simp only [oL_ok ht hf, oLs_ok ht ha]
    subst hl
    rw [callOf_eq hEv]
  · rcases List.mem_append.1 he with he | he
    · right
      rcases (hD.at_ e he).2.2 (hw e he) with h1 | h1
      · exact Nat.le_trans hbs h1
      · cases h1
    · exact (haw e he).imp (fun h => by omega) id
end
end
def setB (op : List Nat) : Bool := decide (op = [97, 110, 100] ∨ op = [111, 114] ∨ op = [117, 110, 108, 101, 115, 115])
def z0 (L : List PE) : Int := (L.getD 0 ([], 0)).2
def binE (op : List Nat) (md sd : Int) (N : List (List Nat)) (M L : List PE) (x : PE) : Nat :=
  if hvP md N L (keyM md N x.1) = [] then 0
  else if 1 < (hvP md N L (keyM md N x.1)).length ∨ (sd = 0 ∧ 1 < (hvP md N M (keyM md N x.1)).length) then 17
  else (prF op sd x.2 (z0 (hvP md N L (keyM md N x.1)))).2.toNat
def binL (op : List Nat) (bl : Bool) (md sd : Int) (N : List (List Nat)) (L : List PE) (x : PE) : List PE :=
  if hvP md N L (keyM md N x.1) = [] then [] else binI op bl md sd N x (z0 (hvP md N L (keyM md N x.1)))
def binG (op : List Nat) (md sd : Int) (N : List (List Nat)) (M L : List El) (i : Nat) : Nat := binE op md sd N (P2 M) (P2 L) (eg M i).2
noncomputable def binPre (op : List Nat) (md sd : Int) (V U : List El) : Option Nat :=
  if vchk V ≠ 0 then some (vchk V) else if vchk U ≠ 0 then some (vchk U)
  else if setB op = false ∧ ariB op = false ∧ cmpB op = false then some 9
  else if md < 0 ∨ 2 < md ∨ sd < 0 ∨ 2 < sd then some 2
  else if sd ≠ 0 ∧ (md = 0 ∨ setB op = true) then some 2 else none
def coreR (op : List Nat) (bl : Bool) (md sd : Int) (N : List (List Nat)) (M L : List El) (e : Nat) (W : List PE) : Prop :=
  (fstE (binG op md sd N M L) M.length 0 = e ∧ e ≠ 0 ∧ W = []) ∨ (fstE (binG op md sd N M L) M.length 0 = 0 ∧ OrdR ((P2 M).flatMap (binL op bl md sd N (P2 L))) e W)
def BinR (op : List Nat) (bl : Bool) (md sd : Int) (N : List (List Nat)) (V U : List El) (e : Nat) (W : List PE) : Prop :=
  (binPre op md sd V U = some e ∧ W = []) ∨ (binPre op md sd V U = none ∧ setB op = true ∧ OrdR (setL op md N (P2 V) (P2 U)) e W) ∨
  (binPre op md sd V U = none ∧ setB op = false ∧ coreR op bl md sd N (if sd = 2 then U else V) (if sd = 2 then V else U) e W)
section
variable {op : List Nat} {bl : Bool} {md sd : Int} {N : List (List Nat)} {V U M L F : List El} {A B : List PE} {x : PE} {e : Nat} {W : List PE}
theorem p2_ln : (P2 F).length = F.length := List.length_map _
theorem fl_mem {kf : PE → List Nat} {k : List Nat} {y : El} (h : y ∈ fl kf V k) : y ∈ V := (List.mem_filter.1 h).1
theorem vchk_len {V : List El} (h : vchk V = 0) : V.length ≤ 256 := by
  rcases Nat.eq_zero_or_pos V.length with g | g
  · omega
  · exact (vchk_lchk h g).2
theorem EIn.cell {hs : HSt} {V : List El} {v : AV} (h : EIn hs V v) : v.isCell = true := by
  rcases h.1 with ⟨rfl, _⟩ | ⟨b, sz, ex, rfl, _⟩ <;> rfl
end

end Go.Proofs.YtmblgaehfjheeaaGreat.Ev
