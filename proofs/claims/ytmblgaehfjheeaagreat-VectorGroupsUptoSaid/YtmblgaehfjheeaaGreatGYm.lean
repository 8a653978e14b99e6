/- Walks over the evaluator: statements that draw their order, where what is read is ordered against all that is written. -/
import Derived.Test.YtmblgaehfjheeaaGreatGYa
import Derived.Test.YtmblgaehfjheeaaGreatGYk
namespace Go.Proofs.YtmblgaehfjheeaaGreat.Ev
open Go.RowKit
set_option linter.unusedVariables false
set_option linter.unusedSimpArgs false
noncomputable section
def sure (l : List Oper) (k : Nat) : Bool :=
 l.zipIdx.all fun (o, i) => !(loudOp o.op) || Nat.beq i k || (if Nat.blt i k then ((aheadOf l []).getD k 0).testBit i else ((aheadOf l []).getD i 0).testBit k)
theorem sure_lo {l : List Oper} {k i : Nat} {o : Oper} (h : sure l k = true) (ho : l[i]? = some o) (hl : loudOp o.op = true) (hik : i < k) : ((aheadOf l []).getD k 0).testBit i = true := by
 have := List.all_eq_true.1 h (o, i) (by rw [List.mem_zipIdx_iff_getElem?]; simpa using ho)
 have hb : Nat.blt i k = true := by rw [Nat.blt_eq]; exact hik
 have hn : Nat.beq i k = false := by
  cases hx : Nat.beq i k with
  | false => rfl
  | true => have := Nat.eq_of_beq_eq_true hx; omega
 simpa [hl, hb, hn] using this
theorem sure_hi {l : List Oper} {k i : Nat} {o : Oper} (h : sure l k = true) (ho : l[i]? = some o) (hl : loudOp o.op = true) (hik : k < i) : ((aheadOf l []).getD i 0).testBit k = true := by
 have := List.all_eq_true.1 h (o, i) (by rw [List.mem_zipIdx_iff_getElem?]; simpa using ho)
 have hb : Nat.blt i k = false := by
  cases hx : Nat.blt i k with
  | false => rfl
  | true => rw [Nat.blt_eq] at hx; omega
 have hn : Nat.beq i k = false := by
  cases hx : Nat.beq i k with
  | false => rfl
  | true => have := Nat.eq_of_beq_eq_true hx; omega
 simpa [hl, hb, hn] using this
def statS (l : List Oper) : Bool :=
 drawOk l && (l.zipIdx.all fun (o, j) => !(loudOp o.op) || l.zipIdx.all fun (x, i) => !(loudOp x.op) || !(Nat.blt i j) || ((aheadOf l []).getD j 0).testBit i)
def GoodS (tb : Tab) (l : List Oper) (es : List Ent) : Prop := ∀ e ∈ es, e.kind = 1 → e.v.beq e.v = true ∧ (sure l e.i = false → ∀ H, evQ tb e.tm H e.o.op = some e.v)
theorem draw_ofS {tb : Tab} {callq : CallQ} {n : Nat} {l : List Oper} {tm tm' : T AV} {h h' : AHeap} {es : List Ent} {ms : List (Nat × AHeap)} (hst : statS l = true)
  (ht : evTrace tb (callOf callq) n l 0 l tm h = some (es, ms, tm', h')) (hG : GoodS tb l es) : evDraw tb (callOf callq) n l tm h = some (tm', h') := by
 unfold statS at hst
 simp only [Bool.and_eq_true] at hst
 obtain ⟨h1, h2⟩ := hst
 unfold evDraw
 simp only [h1]
 cases hF : drawFree l with
 | true => exact ops_of_trace ht
 | false =>
  simp only [ht, no_float h2]
  cases hms : ms with
  | nil => rfl
  | cons p0 ms0 =>
   rw [← hms]
   have hall : (es.all (entOk tb (aheadOf l []) (es.filterMap fun e => if e.kind = 2 then some e.i else none) ((0, h) :: ms))) = true := by
    obtain ⟨S, Hp, V, K, Rc⟩ := trace_rec ht
    obtain ⟨hinc, hmk⟩ := trace_inc ht
    have hS0 := Rc.s0
    have hH0 := Rc.h0
    have rec_ : ∀ e ∈ es, ∃ k o, l[k]? = some o ∧ e = ⟨k, o, S k, V k, K k⟩ ∧ ev1 tb (callOf callq) l (S k) (Hp k) o = some (V k, Hp (k + 1), K k) := by
     intro e he
     obtain ⟨k, o, a1, a2⟩ := Rc.of e he
     have a3 := (Rc.step k o a1).1
     simp only [Nat.zero_add] at a2 a3
     exact ⟨k, o, a1, a2, a3⟩
    have hsame : ∀ d p, p + d ≤ l.length → (∀ i, p ≤ i → i < p + d → K i ≠ 2) → Hp (p + d) = Hp p := by
     intro d
     induction d with
     | zero => intro p _ _; rfl
     | succ d ih =>
      intro p hp hn
      have hlt : p + d < l.length := by omega
      have s1 := (Rc.step (p + d) _ (List.getElem?_eq_getElem hlt)).1
      simp only [Nat.zero_add] at s1
      have h2 : Hp (p + d + 1) = Hp (p + d) := by
       rcases ev1_kind s1 with h | h | h
       ·exact h.2.2.2
       ·exact h.2.2.2
       ·exact absurd h.1 (hn (p + d) zy zy)
      rw [show p + (d + 1) = p + d + 1 by omega, h2]
      exact ih p zy (fun i h1 h2 => hn i h1 zy)
    have hlouds : ∀ k, k < l.length → K k = 2 → k ∈ es.filterMap fun e => if e.kind = 2 then some e.i else none := by
     intro k hk h2
     have := Rc.mem k _ (List.getElem?_eq_getElem hk)
     simp only [Nat.zero_add] at this
     exact List.mem_filterMap.2 ⟨_, this, by simp [h2]⟩
    have hloud_of : ∀ i, i ∈ (es.filterMap fun e => if e.kind = 2 then some e.i else none) → i < l.length ∧ K i = 2 ∧ ∃ o, l[i]? = some o ∧ loudOp o.op = true := by
     intro i hi
     obtain ⟨e, he, hi⟩ := List.mem_filterMap.1 hi
     obtain ⟨k, o, a1, rfl, a3⟩ := rec_ e he
     simp only at hi
     by_cases hk2 : K k = 2
     ·rw [if_pos hk2] at hi
      simp only [Option.some.injEq] at hi
      subst hi
      refine ⟨(List.getElem?_eq_some_iff.1 a1).1, hk2, o, a1, ?_⟩
      rcases ev1_kind a3 with h | h | h
      ·omega
      ·omega
      ·exact loud_is h.2.2
     ·rw [if_neg hk2] at hi; cases hi
    rw [List.all_eq_true]
    intro e he
    obtain ⟨k, o, a1, rfl, a3⟩ := rec_ e he
    have hkl := (List.getElem?_eq_some_iff.1 a1).1
    unfold entOk
    rcases ev1_kind a3 with g | g | g
    ·simp only [g.1]
    ·-- quiet
     have hgood := hG _ he g.1
     simp only [g.1]
     rw [List.all_eq_true]
     rintro ⟨q, H⟩ hq
     simp only [Bool.or_eq_true, Bool.not_eq_true']
     rcases Bool.eq_false_or_eq_true (List.all (es.filterMap fun e : Ent => if e.kind = 2 then some e.i else none) fun i => (!(((aheadOf l []).getD k 0).testBit i) || Nat.blt i q) && (!(((aheadOf l []).getD i 0).testBit k) || Nat.ble q i)) with hc | hc
     ·right
      have hc' : ∀ i, i < l.length → K i = 2 → (((aheadOf l []).getD k 0).testBit i = true → i < q) ∧ (((aheadOf l []).getD i 0).testBit k = true → q ≤ i) := by
       intro i hi h2
       have := List.all_eq_true.1 hc i (hlouds i hi h2)
       simp only [Bool.and_eq_true, Bool.or_eq_true, Bool.not_eq_true', Nat.blt_eq] at this
       refine ⟨fun hb => ?_, fun hb => ?_⟩
       ·rcases this.1 with h | h
        ·rw [hb] at h; cases h
        ·exact h
       ·rcases this.2 with h | h
        ·rw [hb] at h; cases h
        ·exact Nat.ble_eq.mp h
      have hval : evQ tb (S k) H o.op = some (V k) := by
       have hmark : (q = 0 ∧ H = Hp 0) ∨ ∃ i, i < l.length ∧ K i = 2 ∧ q = i + 1 ∧ H = Hp (i + 1) := by
        rcases List.mem_cons.1 hq with hq | hq
        ·simp only [Prod.mk.injEq] at hq
         exact .inl ⟨hq.1, by rw [hq.2, hH0]⟩
        ·obtain ⟨_, e2, b1, b2, b3⟩ := hmk _ hq
         obtain ⟨i, o2, c1, rfl, c3⟩ := rec_ e2 b1
         have hil := (List.getElem?_eq_some_iff.1 c1).1
         have hm2 := Rc.mark i hil (by simpa using b2)
         simp only [Nat.zero_add] at hm2
         have := inc_uniq hinc hq hm2 (by simpa using b3)
         simp only [Prod.mk.injEq] at this
         exact .inr ⟨i, hil, by simpa using b2, this.1, this.2⟩
       cases hsu : sure l k with
       | false => exact hgood.2 hsu H
       | true =>
        have lo : ∀ i, i < l.length → K i = 2 → i < k → ((aheadOf l []).getD k 0).testBit i = true := by
         intro i hil hi2 hik
         exact sure_lo hsu (List.getElem?_eq_getElem hil) (by
          have := (Rc.step i _ (List.getElem?_eq_getElem hil)).1
          simp only [Nat.zero_add] at this
          rcases ev1_kind this with h | h | h
          ·omega
          ·omega
          ·exact loud_is h.2.2) hik
        have hi_ : ∀ i, i < l.length → K i = 2 → k < i → ((aheadOf l []).getD i 0).testBit k = true := by
         intro i hil hi2 hik
         exact sure_hi hsu (List.getElem?_eq_getElem hil) (by
          have := (Rc.step i _ (List.getElem?_eq_getElem hil)).1
          simp only [Nat.zero_add] at this
          rcases ev1_kind this with h | h | h
          ·omega
          ·omega
          ·exact loud_is h.2.2) hik
        have hHk : H = Hp k := by
         rcases hmark with ⟨rfl, rfl⟩ | ⟨i, hil, hi2, rfl, rfl⟩
         ·have := hsame k 0 zy (fun i h1 h2 h3 => by
           have := (hc' i zy h3).1 (lo i zy h3 zy)
           omega)
          rw [Nat.zero_add] at this
          exact this.symm
         ·have hik : i < k := by
           rcases Nat.lt_trichotomy i k with h | h | h
           ·exact h
           ·subst h; omega
           ·have := (hc' i hil hi2).2 (hi_ i hil hi2 h)
            omega
          have := hsame (k - (i + 1)) (i + 1) zy (fun i' h1 h2 h3 => by
           have := (hc' i' zy h3).1 (lo i' zy h3 zy)
           omega)
          rw [show i + 1 + (k - (i + 1)) = k by omega] at this
          exact this.symm
        rw [hHk]
        unfold evQ
        rw [evOp_q (SubT.refl _) g.2.2.1]
      simp only [hval]
      exact hgood.1
     ·left; exact hc
    ·-- loud
     simp only [g.1]
     rw [List.all_eq_true]
     intro i hi
     obtain ⟨hil, hi2, x, hx, hxl⟩ := hloud_of i hi
     have hol : loudOp o.op = true := loud_is g.2.2
     have hmj : (o, k) ∈ l.zipIdx := by rw [List.mem_zipIdx_iff_getElem?]; simpa using a1
     have hmi : (x, i) ∈ l.zipIdx := by rw [List.mem_zipIdx_iff_getElem?]; simpa using hx
     have := List.all_eq_true.1 h2 _ hmj
     simp only [hol, Bool.not_true, Bool.false_or] at this
     have := List.all_eq_true.1 this _ hmi
     simp only [hxl, Bool.not_true, Bool.false_or] at this
     exact this
   rw [hall]
   cases ms with
   | nil => cases hms
   | cons a b => rfl

section
variable {tb : Tab} {n : Nat} {E : Env} {s : St} {hs : HSt} {R : T AV → AHeap → Prop} {ops rest : List Oper} {d : Nat} {ty : TypeId} {pos : String} {aft : Array Edge} {t : TypeId} {i : Nat}
def WX (tb : Tab) (n : Nat) (ops : List Oper) (i : Nat) (rest : List Oper) (E : Env) (s : St) (hs : HSt) (R : T AV → AHeap → Prop) : Prop :=
 ∀ tm h, Has tm s → HS E hs h → ∃ es ms tm' h', evTrace tb (callOf (Ev.callE tb)) n ops i rest tm h = some (es, ms, tm', h') ∧ GoodS tb ops es ∧ ∀ TM, SubT tm' TM → R TM h'
theorem W.regX {Q} {id : Nat} {l : List Oper} (hst : statS l = true) (h : WX tb n l 0 l E s hs (Q .normal)) : W tb n (.region id l.toArray true) E s hs Q := by
 intro tm hp ht hh
 obtain ⟨es, ms, tm1, h1, he, hG, hR⟩ := h tm hp ht hh
 have hd := draw_ofS hst he hG
 obtain ⟨TM, g1, g2⟩ := evDraw_mono (callE_ok tb) (SubT.refl tm) hd
 refine ⟨.normal, TM, h1, g2.step fun K hK => ?_, hR TM g1⟩
 rw [run_succ]
 unfold evCode
 simp only [hK]
theorem WX.nil (h : End E s hs R) : WX tb n ops i [] E s hs R :=
 fun tm hp ht hh => ⟨[], [], tm, hp, rfl, fun e he => by simp at he, fun TM hT => h TM hp (ht.mono hT) hh⟩
theorem wx_step {tm tm1 : T AV} {h h1 : AHeap} {o : Oper} {v : AV} {k : Nat} (he : ev1 tb (callOf (Ev.callE tb)) ops tm h o = some (v, h1, k)) (hp : putDst tm n o.dst v = some tm1)
  (hq : k = 1 → v.beq v = true ∧ (sure ops i = false → ∀ H, evQ tb tm H o.op = some v))
  (hk : ∃ es ms tm' h', evTrace tb (callOf (Ev.callE tb)) n ops (i + 1) rest tm1 h1 = some (es, ms, tm', h') ∧ GoodS tb ops es ∧ ∀ TM, SubT tm' TM → R TM h') :
  ∃ es ms tm' h', evTrace tb (callOf (Ev.callE tb)) n ops i (o :: rest) tm h = some (es, ms, tm', h') ∧ GoodS tb ops es ∧ ∀ TM, SubT tm' TM → R TM h' := by
 obtain ⟨es, ms, tm2, h2, e, hG, hR⟩ := hk
 refine ⟨_, _, tm2, h2, by unfold evTrace; simp only [he, hp, e]; rfl, fun x hx hx1 => ?_, hR⟩
 rcases List.mem_cons.1 hx with rfl | hx
 ·exact hq hx1
 ·exact hG x hx hx1
theorem WX.q {op : Op} {v : AV} (hs_ : sure ops i = true) (hq : QV tb s hs op v) (hb : v.beq v = true) (hd : Nat.blt d n = true) (hk : WX tb n ops (i + 1) rest E ((d, v) :: s) hs R) :
  WX tb n ops i (⟨some d, op, ty, pos, aft, none⟩ :: rest) E s hs R := by
 intro tm h ht hh
 have hv : ∀ call, evOp tb call tm h op = .q (some v) := hq tm h ht hh.keep
 refine wx_step (v := v) (k := 1) (h1 := h) (tm1 := tm.set d v) ?_ (putDst_at hd) (fun _ => ⟨hb, fun g => by rw [hs_] at g; cases g⟩) (hk _ _ (ht.set d v) hh)
 unfold ev1
 have : wantedA ops tm ⟨some d, op, ty, pos, aft, none⟩ = some true := rfl
 rw [this]
 simp only [hv]
theorem WX.f {op : Op} {v : AV} (hq : QV tb s [] op v) (hb : v.beq v = true) (hd : Nat.blt d n = true) (hk : WX tb n ops (i + 1) rest E ((d, v) :: s) hs R) :
  WX tb n ops i (⟨some d, op, ty, pos, aft, none⟩ :: rest) E s hs R := by
 intro tm h ht hh
 have hv : ∀ H call, evOp tb call tm H op = .q (some v) := fun H => hq tm H ht fun e he => by simp at he
 refine wx_step (v := v) (k := 1) (h1 := h) (tm1 := tm.set d v) ?_ (putDst_at hd) (fun _ => ⟨hb, fun _ H => by unfold evQ; rw [hv]⟩) (hk _ _ (ht.set d v) hh)
 unfold ev1
 have : wantedA ops tm ⟨some d, op, ty, pos, aft, none⟩ = some true := rfl
 rw [this]
 simp only [hv]
theorem WX.store {ox oy : Operand} {j b o q : Nat} {ob : AObj} {v : AV} {cs : List AV} {hs' : HSt} (hz : tb.size t = some q) (hx : oL s ox = some (.ptr b o)) (hy : oL s oy = some v) (hm : hs[j]? = some ⟨b, ob, true⟩)
  (hb : (Nat.beq v.cells.length q && Nat.ble (o + q) ob.cells.length && v.cells.all AV.isCell) = true) (hc : layL ob.cells o v.cells = cs) (hs_ : hs.set j ⟨b, ⟨ob.sz, ob.exact_, cs⟩, true⟩ = hs')
  (hk : WX tb n ops (i + 1) rest E s hs' R) (hz0 : Nat.blt 0 ob.sz = true := by rfl) : WX tb n ops i (⟨none, .store t ox oy, ty, pos, aft, none⟩ :: rest) E s hs R := by
 intro tm h ht hh
 subst hs_
 have hH := hh.put (ob' := ⟨ob.sz, ob.exact_, cs⟩) hm
 refine wx_step (v := .tuple []) (k := 2) (h1 := ⟨h.next, h.objs.set b ⟨ob.sz, ob.exact_, cs⟩⟩) (tm1 := tm) ?_ rfl (fun h => by cases h) (hk tm _ ht hH)
 unfold ev1
 have : wantedA ops tm ⟨none, .store t ox oy, ty, pos, aft, none⟩ = some true := rfl
 rw [this]
 have he : evOp tb (callOf (Ev.callE tb)) tm h (.store t ox oy) = .l (some (.tuple [], ⟨h.next, h.objs.set b ⟨ob.sz, ob.exact_, cs⟩⟩)) := by
  show Res.l (evStore tb tm h t ox oy) = _
  unfold evStore
  simp only [oL_ok ht hx, oL_ok ht hy]
  unfold storeA
  have h1 := (hh.at_ _ (mem_at hm)).1
  simp only at h1
  simp only [hz, h1, hb, hc, hz0]
 simp only [he]
end

end
set_option maxRecDepth 100000
set_option maxHeartbeats 1000000
theorem bq_agg2 {v : AV} {k : IntKind} {m : Int} (h : beq0 v v = true) : (AV.agg [v, .int k m]).beq (.agg [v, .int k m]) = true := by
 show (beq0 v v && (beq0 (.int k m) (.int k m) && true)) = true
 rw [h]; simp [beq0]
theorem sto_ck {α : Type} {raw : α → El} {f : Nat → α} {N i : Nat} {x : AV} {m : Int} (hx : x.isCell = true) (h : i < N) :
  (Nat.beq (AV.agg [x, .int .i64 m]).cells.length 2 && Nat.ble ((0 + i) * 2 + 2) (cE (vF raw f N)).length && (AV.agg [x, .int .i64 m]).cells.all AV.isCell) = true := by
 have e : Nat.ble ((0 + i) * 2 + 2) (cE (vF raw f N)).length = true := by rw [cE_len, vF_len]; apply Nat.ble_eq.mpr; omega
 rw [e]
 exact and_tt rfl (and_tt hx rfl)
def swF {α : Type} (f : Nat → α) (a b n : Nat) : Nat → α := fun x => if a ≤ x ∧ x < a + n then f (x - a + b) else if b ≤ x ∧ x < b + n then f (x - b + a) else f x
theorem swF_0 {α : Type} {f : Nat → α} {a b : Nat} : swF f a b 0 = f := by
 funext x
 unfold swF
 rw [if_neg zy, if_neg zy]
theorem swF_step {α : Type} {f : Nat → α} {a b i : Nat} (h : a + i < b) : swF f a b (i + 1) = sw (swF f a b i) (a + i) (b + i) := by
 funext x
 unfold sw
 by_cases h1 : x = a + i
 ·subst h1
  rw [if_pos rfl]
  unfold swF
  rw [if_pos zy, if_neg zy, if_neg zy]
  congr 1; omega
 ·rw [if_neg h1]
  by_cases h2 : x = b + i
  ·subst h2
   rw [if_pos rfl]
   unfold swF
   rw [if_neg zy, if_pos zy, if_neg zy, if_neg zy]
   congr 1; omega
  ·rw [if_neg h2]
   unfold swF
   by_cases h3 : a ≤ x ∧ x < a + i
   ·rw [if_pos zy, if_pos h3]
   ·rw [if_neg zy, if_neg h3]
    by_cases h4 : b ≤ x ∧ x < b + i
    ·rw [if_pos zy, if_pos h4]
    ·rw [if_neg zy, if_neg h4]
theorem swr_spec {α : Type} (raw : α → El) (hraw : ∀ x, (raw x).1.isCell = true ∧ (raw x).1.beq (raw x).1 = true ∧ beq0 (raw x).1 (raw x).1 = true) (B N : Nat) (ex : Bool) (hN : N ≤ 1048576) (f : Nat → α) (a b n F : Nat) (caps : List AV) (hab : a + n ≤ b) (hb : b + n ≤ N) : Spec tab 161 [.slice B 0 N 2, .int .i64 ((a : Nat) : Int), .int .i64 ((b : Nat) : Int), .int .i64 ((n : Nat) : Int), .func F caps] [B] [⟨B, ⟨2, ex, cE (vF raw (f) N)⟩, true⟩] (fun v D => D = [⟨B, ⟨2, ex, cE (vF raw (swF f a b n) N)⟩, true⟩]) := by
 refine Spec.en (ftg 161 Tryz.func161) rfl (m := 38) rfl (rs := []) rfl (st := [(0, .slice B 0 N 2), (1, .int .i64 ((a : Nat) : Int)), (2, .int .i64 ((b : Nat) : Int)), (3, .int .i64 ((n : Nat) : Int)), (4, .func F caps)]) rfl rfl (fun _ => rfl) (fun E => zr (za (zi 0) (zk (W.block (W.loop_ind (fun (i : Nat) => [(0, .slice B 0 N 2), (1, .int .i64 ((a : Nat) : Int)), (2, .int .i64 ((b : Nat) : Int)), (3, .int .i64 ((n : Nat) : Int)), (10, .int .i64 ((i : Nat) : Int))]) (fun (i : Nat) => [⟨B, ⟨2, ex, cE (vF raw (swF f a b i) N)⟩, true⟩]) (fun (i : Nat) => i ≤ n) (fun (i : Nat) => n - i) (0) (Nat.zero_le _) zv (by rw [swF_0]; exact SubH.refl _) (fun i hI0 ih0 => ?_))))))
 have h1 := hI0
 refine W.seq (zr (zm rfl (zm rfl (zq (Q.bin rfl rfl rfl (bvl ltn)) (zk (W.cD rfl (fun hc13 => ?_) (fun hc13 => ?_)))))))
 ·refine zw (W.seq (W.block (W.regX (by kernel_rfl) (WX.f (Q.move rfl) bqs rfl (WX.f (Q.move rfl) bqi rfl (WX.f (Q.move rfl) bqi rfl (WX.f (Q.bin rfl rfl rfl zp) bqi rfl (WX.f (Q.move rfl) bqs rfl (WX.f (Q.move rfl) bqi rfl (WX.f (Q.move rfl) bqi rfl (WX.f (Q.bin rfl rfl rfl zp) bqi rfl (WX.f (Q.move rfl) bqs rfl (WX.f (Q.move rfl) bqi rfl (WX.f (Q.move rfl) bqi rfl (WX.f (Q.bin rfl rfl rfl zp) bqi rfl (WX.f (Q.iS ud22 sz35 rfl rfl zo) bqp rfl (WX.q (by kernel_rfl) (Q.loadN rfl (zt 0 rfl) ag35 sz35 (vF_at zo)) (bq_agg2 (hraw _).2.2) rfl (WX.f (Q.move rfl) bqs rfl (WX.f (Q.move rfl) bqi rfl (WX.f (Q.move rfl) bqi rfl (WX.f (Q.bin rfl rfl rfl zp) bqi rfl (WX.f (Q.iS ud22 sz35 rfl rfl zo) bqp rfl (WX.q (by kernel_rfl) (Q.loadN rfl (zt 0 rfl) ag35 sz35 (vF_at zo)) (bq_agg2 (hraw _).2.2) rfl ?_)))))))))))))))))))))))
  refine WX.f (Q.iS ud22 sz35 rfl rfl zo) bqp rfl (WX.store sz35 rfl rfl (j := 0) rfl (sto_ck (hraw _).1 zo) (vF_lay (x := swF f a b i (b + i)) zo) (hs' := [_]) rfl (WX.f (Q.iS ud22 sz35 rfl rfl zo) bqp rfl (WX.store sz35 rfl rfl (j := 0) rfl (sto_ck (hraw _).1 zo) (vF_lay (x := swF f a b i (a + i)) zo) (hs' := [_]) rfl (WX.nil (End.KB (End.K (W.sub (zc 0 rfl (zc 1 rfl (zc 2 rfl (zc 3 rfl (zc 10 rfl zzn))))) (W.reg (zm rfl (zq (Q.bin rfl (zi 1) rfl zp) (za rfl (WO.nil (End.KL (W.sub zv (W.sH (by rw [swF_step zy, ← upd_sw]; exact SubH.refl _) (ih0 (i + 1) ?_ ?_))))))))))))))))
  ·exact zy
  exact zo
 refine W.exit ?_
 refine End.Kx (End.Lx (End.Bh (End.fall ResL.nil (hs' := [⟨B, ⟨2, ex, cE (vF raw (swF f a b n) N)⟩, true⟩]) rfl (ww no_wl) (by rw [show n = i by omega]; exact SubH.refl _))))
def rotF {α : Type} (f : Nat → α) (m i j : Nat) : Nat → α := fun x => if m - i ≤ x ∧ x < m - i + j then f (x + i) else if m - i + j ≤ x ∧ x < m + j then f (x - j) else f x
theorem rot_e {α : Type} {g : Nat → α} {m i : Nat} (h : i ≤ m) : rotF g m i i = swF g (m - i) m i := by
 funext x
 unfold rotF swF
 by_cases h1 : m - i ≤ x ∧ x < m - i + i
 ·rw [if_pos h1, if_pos h1]; congr 1; omega
 ·rw [if_neg h1, if_neg h1]
  by_cases h2 : m ≤ x ∧ x < m + i
  ·rw [if_pos zy, if_pos h2]; congr 1; omega
  ·rw [if_neg zy, if_neg h2]
theorem rot_l {α : Type} {g : Nat → α} {m i j : Nat} (h : j < i ∧ i ≤ m) : rotF (swF g (m - i) m j) m (i - j) j = rotF g m i j := by
 funext x
 unfold rotF swF
 by_cases h1 : m - i ≤ x ∧ x < m - i + j
 ·rw [if_neg zy, if_neg zy, if_pos h1, if_pos h1]; congr 1; omega
 ·simp only [if_neg h1]
  by_cases h2 : m - i + j ≤ x ∧ x < m + j
  ·simp only [if_pos h2]
   by_cases h3 : x < m - (i - j) + j
   ·rw [if_pos zy, if_neg zy, if_pos zy]; congr 1; omega
   ·rw [if_neg zy, if_pos zy, if_neg zy, if_neg zy]
  ·simp only [if_neg h2]; rw [if_neg zy, if_neg zy, if_neg zy]
theorem rot_r {α : Type} {g : Nat → α} {m i j : Nat} (h : i < j ∧ i ≤ m) : rotF (swF g (m - i) (m + j - i) i) m i (j - i) = rotF g m i j := by
 funext x
 unfold rotF swF
 by_cases h1 : m - i ≤ x ∧ x < m - i + (j - i)
 ·rw [if_pos h1, if_neg zy, if_neg zy, if_pos zy]
 ·rw [if_neg h1]
  by_cases h2 : m - i + (j - i) ≤ x ∧ x < m + (j - i)
  ·rw [if_pos h2, if_pos zy, if_pos zy]; congr 1; omega
  ·rw [if_neg h2]
   by_cases h3 : m + j - i ≤ x ∧ x < m + j
   ·rw [if_neg zy, if_pos zy, if_neg zy, if_pos zy]; congr 1; omega
   ·rw [if_neg zy, if_neg zy, if_neg zy, if_neg zy]
theorem rot_spec {α : Type} (raw : α → El) (hraw : ∀ x, (raw x).1.isCell = true ∧ (raw x).1.beq (raw x).1 = true ∧ beq0 (raw x).1 (raw x).1 = true) (B N : Nat) (ex : Bool) (hN : N ≤ 1048576) (f : Nat → α) (a m b F : Nat) (caps : List AV) (ham : a < m) (hmb : m < b) (hb : b ≤ N) : Spec tab 157 [.slice B 0 N 2, .int .i64 ((a : Nat) : Int), .int .i64 ((m : Nat) : Int), .int .i64 ((b : Nat) : Int), .func F caps] [B] [⟨B, ⟨2, ex, cE (vF raw (f) N)⟩, true⟩] (fun v D => D = [⟨B, ⟨2, ex, cE (vF raw (rotF f m (m - a) (b - m)) N)⟩, true⟩]) := by
 refine Spec.en (ftg 157 Tryz.func157) rfl (m := 58) rfl (rs := []) rfl (st := [(0, .slice B 0 N 2), (1, .int .i64 ((a : Nat) : Int)), (2, .int .i64 ((m : Nat) : Int)), (3, .int .i64 ((b : Nat) : Int)), (4, .func F caps)]) rfl rfl (fun _ => rfl) (fun E => zr (zm rfl (zm rfl (zq (Q.bin rfl rfl rfl (bv_sub (wns zo))) (za rfl (zk (zr (zm rfl (zm rfl (zq (Q.bin rfl rfl rfl (bv_sub (wns zo))) (za rfl (zk (W.seq (W.block (W.loop_ind3 (fun (i : Nat) (j : Nat) (g : Nat → α) => [(0, .slice B 0 N 2), (2, .int .i64 ((m : Nat) : Int)), (4, .func F caps), (10, .int .i64 ((i : Nat) : Int)), (11, .int .i64 ((j : Nat) : Int))]) (fun (i : Nat) (j : Nat) (g : Nat → α) => [⟨B, ⟨2, ex, cE (vF raw (g) N)⟩, true⟩]) (fun (i : Nat) (j : Nat) (g : Nat → α) => 0 < i ∧ 0 < j ∧ i ≤ m ∧ m + j ≤ N ∧ rotF g m i j = rotF f m (m - a) (b - m)) (fun (i : Nat) (j : Nat) (g : Nat → α) => i + j) (m - a) (b - m) (f) ⟨by omega, by omega, by omega, by omega, rfl⟩ zv (SubH.refl _) (fun i j g hI0 ih0 => ?_))))))))))))))))
 obtain ⟨h1, h2, h3, h4, h5⟩ := hI0
 refine W.seq (zr (zm rfl (zm rfl (zq (Q.bin rfl rfl rfl (bv_neq ne_nat)) (zk (W.cD rfl (fun hc20 => ?_) (fun hc20 => ?_)))))))
 ·refine zw (W.block (zr (zm rfl (zm rfl (zq (Q.bin rfl rfl rfl (bv_gtr ltn)) (zk (W.cD rfl (fun hc23 => ?_) (fun hc23 => ?_))))))))
  ·refine zr (zm rfl (zm rfl (zm rfl (zq (Q.bin rfl rfl rfl (bv_sub (wns zo))) (zm rfl (zm rfl (zm rfl (WO.call1 rfl (oLc rfl (oLc rfl (oLc rfl (oLc rfl (oLc rfl oz))))) rfl (i := 0) rfl (swr_spec raw hraw B N ex hN (g) (m - i) m j F caps zy zy) SubR.nil (hs' := []) rfl rfl (fun v31 D31 hP31 => ?_)))))))))
   obtain rfl := hP31
   refine zk (W.sub (zc 0 rfl (zc 2 rfl (zc 4 rfl (zc 10 rfl (zc 11 rfl zzn))))) (W.reg (zm rfl (zm rfl (zq (Q.bin rfl rfl rfl (bv_sub (wns zo))) (za rfl (WO.nil (End.KB (End.KL (W.sub zv (W.sH (SubH.refl _) (ih0 (i - j) (j) (swF g (m - i) m j) ?_ ?_))))))))))))
   ·exact ⟨by omega, by omega, by omega, by omega, by rw [← h5, rot_l zy]⟩
   exact zo
  refine zr (zm rfl (zm rfl (zm rfl (zq (Q.bin rfl rfl rfl (bv_sub (wns zo))) (zm rfl (zm rfl (zq (Q.bin rfl rfl rfl zp) (zm rfl (zq (Q.bin rfl rfl rfl (bv_sub (wns zo))) (zm rfl (zm rfl (WO.call1 rfl (oLc rfl (oLc rfl (oLc rfl (oLc rfl (oLc rfl oz))))) rfl (i := 0) rfl (swr_spec raw hraw B N ex hN (g) (m - i) (m + j - i) i F caps zy zy) SubR.nil (hs' := []) rfl rfl (fun v46 D46 hP46 => ?_)))))))))))))
  obtain rfl := hP46
  refine zk (W.sub (zc 0 rfl (zc 2 rfl (zc 4 rfl (zc 10 rfl (zc 11 rfl zzn))))) (W.reg (zm rfl (zm rfl (zq (Q.bin rfl rfl rfl (bv_sub (wns zo))) (za rfl (WO.nil (End.KB (End.KL (W.sub zv (W.sH (SubH.refl _) (ih0 (i) (j - i) (swF g (m - i) (m + j - i) i) ?_ ?_))))))))))))
  ·exact ⟨by omega, by omega, by omega, by omega, by rw [← h5, rot_r zy]⟩
  exact zo
 refine W.exit (End.Kx (End.Lx (End.Bh (End.K (W.reg (zm rfl (zm rfl (zm rfl (zq (Q.bin rfl rfl rfl (bv_sub (wns zo))) (zm rfl (zm rfl (zm rfl (WO.call1 rfl (oLc rfl (oLc rfl (oLc rfl (oLc rfl (oLc rfl oz))))) rfl (i := 0) rfl (swr_spec raw hraw B N ex hN (g) (m - i) m i F caps zy zy) SubR.nil (hs' := []) rfl rfl (fun v57 D57 hP57 => ?_))))))))))))))
 obtain rfl := hP57
 refine WO.nil ?_
 refine End.fall ResL.nil (hs' := [⟨B, ⟨2, ex, cE (vF raw (rotF f m (m - a) (b - m)) N)⟩, true⟩]) rfl (ww no_wl) (by rw [← h5, show j = i by omega, rot_e zy]; exact SubH.refl _)
end Go.Proofs.YtmblgaehfjheeaaGreat.Ev
