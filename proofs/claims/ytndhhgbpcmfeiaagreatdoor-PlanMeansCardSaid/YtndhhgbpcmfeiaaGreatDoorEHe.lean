/- Walks over the evaluator: statements that draw their order, where what is read is ordered against all that is written. -/
import Derived.Test.YtndhhgbpcmfeiaaGreatDoorEAwJ
import Derived.Test.YtndhhgbpcmfeiaaGreatDoorEHc
import Derived.Test.YtndhhgbpcmfeiaaGreatDoorEGf
namespace Go.Proofs.YtndhhgbpcmfeiaaGreatDoor.Ev
open Go.RowKit
noncomputable section
def sure (l : List Oper) (k : Nat) : Bool :=
 l.zipIdx.all fun (o, i) => !(loudOp o.op) || Nat.beq i k || (if Nat.blt i k then ((aheadOf l []).getD k 0).testBit i else ((aheadOf l []).getD i 0).testBit k)
theorem sure_lo {l : List Oper} {k i : Nat} {o : Oper} (h : sure l k = true) (ho : l[i]? = some o) (hl : loudOp o.op = true) (hik : i < k) : ((aheadOf l []).getD k 0).testBit i = true := by
 have := List.all_eq_true.1 h (o, i) (by rw [List.mem_zipIdx_iff_getElem?]; simpa using ho)
 have hb : Nat.blt i k = true := by rw [Nat.blt_eq]; exact hik
 have hn : Nat.beq i k = false := by
  cases hx : Nat.beq i k with
  | false => rfl
  | true => have := Nat.eq_of_beq_eq_true hx; omega
 simpa [hl, hb, hn] using this
theorem sure_hi {l : List Oper} {k i : Nat} {o : Oper} (h : sure l k = true) (ho : l[i]? = some o) (hl : loudOp o.op = true) (hik : k < i) : ((aheadOf l []).getD i 0).testBit k = true := by
 have := List.all_eq_true.1 h (o, i) (by rw [List.mem_zipIdx_iff_getElem?]; simpa using ho)
 have hb : Nat.blt i k = false := by
  cases hx : Nat.blt i k with
  | false => rfl
  | true => rw [Nat.blt_eq] at hx; omega
 have hn : Nat.beq i k = false := by
  cases hx : Nat.beq i k with
  | false => rfl
  | true => have := Nat.eq_of_beq_eq_true hx; omega
 simpa [hl, hb, hn] using this
def statS (l : List Oper) : Bool :=
 drawOk l && (l.zipIdx.all fun (o, j) => !(loudOp o.op) || l.zipIdx.all fun (x, i) => !(loudOp x.op) || !(Nat.blt i j) || ((aheadOf l []).getD j 0).testBit i)
def GoodS (tb : Tab) (l : List Oper) (es : List Ent) : Prop := ∀ e ∈ es, e.kind = 1 → e.v.beq e.v = true ∧ (sure l e.i = false → ∀ H, evQ tb e.tm H e.o.op = some e.v)
theorem draw_ofS {tb : Tab} {callq : CallQ} {n : Nat} {l : List Oper} {tm tm' : T AV} {h h' : AHeap} {es : List Ent} {ms : List (Nat × AHeap)} (hst : statS l = true)
  (ht : evTrace tb (callOf callq) n l 0 l tm h = some (es, ms, tm', h')) (hG : GoodS tb l es) : evDraw tb (callOf callq) n l tm h = some (tm', h') := by
 unfold statS at hst
 simp only [Bool.and_eq_true] at hst
 obtain ⟨h1, h2⟩ := hst
 unfold evDraw
 simp only [h1]
 cases hF : drawFree l with
 | true => exact ops_of_trace ht
 | false =>
  simp only [ht, no_float h2]
  cases hms : ms with
  | nil => rfl
  | cons p0 ms0 =>
   rw [← hms]
   have hall : (es.all (entOk tb (aheadOf l []) (es.filterMap fun e => if e.kind = 2 then some e.i else none) ((0, h) :: ms))) = true := by
    obtain ⟨S, Hp, V, K, Rc⟩ := trace_rec ht
    obtain ⟨hinc, hmk⟩ := trace_inc ht
    have hS0 := Rc.s0
    have hH0 := Rc.h0
    have rec_ : ∀ e ∈ es, ∃ k o, l[k]? = some o ∧ e = ⟨k, o, S k, V k, K k⟩ ∧ ev1 tb (callOf callq) l (S k) (Hp k) o = some (V k, Hp (k + 1), K k) := by
     intro e he
     obtain ⟨k, o, a1, a2⟩ := Rc.of e he
     have a3 := (Rc.step k o a1).1
     simp only [Nat.zero_add] at a2 a3
     exact ⟨k, o, a1, a2, a3⟩
    have hsame : ∀ d p, p + d ≤ l.length → (∀ i, p ≤ i → i < p + d → K i ≠ 2) → Hp (p + d) = Hp p := by
     intro d
     induction d with
     | zero => intro p _ _; rfl
     | succ d ih =>
      intro p hp hn
      have hlt : p + d < l.length := by omega
      have s1 := (Rc.step (p + d) _ (List.getElem?_eq_getElem hlt)).1
      simp only [Nat.zero_add] at s1
      have h2 : Hp (p + d + 1) = Hp (p + d) := by
       rcases ev1_kind s1 with h | h | h
       ·exact h.2.2.2
       ·exact h.2.2.2
       ·exact absurd h.1 (hn (p + d) zy zy)
      rw [show p + (d + 1) = p + d + 1 by omega, h2]
      exact ih p zy (fun i h1 h2 => hn i h1 zy)
    have hlouds : ∀ k, k < l.length → K k = 2 → k ∈ es.filterMap fun e => if e.kind = 2 then some e.i else none := by
     intro k hk h2
     have := Rc.mem k _ (List.getElem?_eq_getElem hk)
     simp only [Nat.zero_add] at this
     exact List.mem_filterMap.2 ⟨_, this, by simp [h2]⟩
    have hloud_of : ∀ i, i ∈ (es.filterMap fun e => if e.kind = 2 then some e.i else none) → i < l.length ∧ K i = 2 ∧ ∃ o, l[i]? = some o ∧ loudOp o.op = true := by
     intro i hi
     obtain ⟨e, he, hi⟩ := List.mem_filterMap.1 hi
     obtain ⟨k, o, a1, rfl, a3⟩ := rec_ e he
     simp only at hi
     by_cases hk2 : K k = 2
     ·rw [if_pos hk2] at hi
      simp only [Option.some.injEq] at hi
      subst hi
      refine ⟨(List.getElem?_eq_some_iff.1 a1).1, hk2, o, a1, ?_⟩
      rcases ev1_kind a3 with h | h | h
      ·omega
      ·omega
      ·exact loud_is h.2.2
     ·rw [if_neg hk2] at hi; cases hi
    rw [List.all_eq_true]
    intro e he
    obtain ⟨k, o, a1, rfl, a3⟩ := rec_ e he
    have hkl := (List.getElem?_eq_some_iff.1 a1).1
    unfold entOk
    rcases ev1_kind a3 with g | g | g
    ·simp only [g.1]
    ·-- quiet
     have hgood := hG _ he g.1
     simp only [g.1]
     rw [List.all_eq_true]
     rintro ⟨q, H⟩ hq
     simp only [Bool.or_eq_true, Bool.not_eq_true']
     rcases Bool.eq_false_or_eq_true (List.all (es.filterMap fun e : Ent => if e.kind = 2 then some e.i else none) fun i => (!(((aheadOf l []).getD k 0).testBit i) || Nat.blt i q) && (!(((aheadOf l []).getD i 0).testBit k) || Nat.ble q i)) with hc | hc
     ·right
      have hc' : ∀ i, i < l.length → K i = 2 → (((aheadOf l []).getD k 0).testBit i = true → i < q) ∧ (((aheadOf l []).getD i 0).testBit k = true → q ≤ i) := by
       intro i hi h2
       have := List.all_eq_true.1 hc i (hlouds i hi h2)
       simp only [Bool.and_eq_true, Bool.or_eq_true, Bool.not_eq_true', Nat.blt_eq] at this
       refine ⟨fun hb => ?_, fun hb => ?_⟩
       ·rcases this.1 with h | h
        ·rw [hb] at h; cases h
        ·exact h
       ·rcases this.2 with h | h
        ·rw [hb] at h; cases h
        ·exact Nat.ble_eq.mp h
      have hval : evQ tb (S k) H o.op = some (V k) := by
       have hmark : (q = 0 ∧ H = Hp 0) ∨ ∃ i, i < l.length ∧ K i = 2 ∧ q = i + 1 ∧ H = Hp (i + 1) := by
        rcases List.mem_cons.1 hq with hq | hq
        ·simp only [Prod.mk.injEq] at hq
         exact .inl ⟨hq.1, by rw [hq.2, hH0]⟩
        ·obtain ⟨_, e2, b1, b2, b3⟩ := hmk _ hq
         obtain ⟨i, o2, c1, rfl, c3⟩ := rec_ e2 b1
         have hil := (List.getElem?_eq_some_iff.1 c1).1
         have hm2 := Rc.mark i hil (by simpa using b2)
         simp only [Nat.zero_add] at hm2
         have := inc_uniq hinc hq hm2 (by simpa using b3)
         simp only [Prod.mk.injEq] at this
         exact .inr ⟨i, hil, by simpa using b2, this.1, this.2⟩
       cases hsu : sure l k with
       | false => exact hgood.2 hsu H
       | true =>
        have lo : ∀ i, i < l.length → K i = 2 → i < k → ((aheadOf l []).getD k 0).testBit i = true := by
         intro i hil hi2 hik
         exact sure_lo hsu (List.getElem?_eq_getElem hil) (by
          have := (Rc.step i _ (List.getElem?_eq_getElem hil)).1
          simp only [Nat.zero_add] at this
          rcases ev1_kind this with h | h | h
          ·omega
          ·omega
          ·exact loud_is h.2.2) hik
        have hi_ : ∀ i, i < l.length → K i = 2 → k < i → ((aheadOf l []).getD i 0).testBit k = true := by
         intro i hil hi2 hik
         exact sure_hi hsu (List.getElem?_eq_getElem hil) (by
          have := (Rc.step i _ (List.getElem?_eq_getElem hil)).1
          simp only [Nat.zero_add] at this
          rcases ev1_kind this with h | h | h
          ·omega
          ·omega
          ·exact loud_is h.2.2) hik
        have hHk : H = Hp k := by
         rcases hmark with ⟨rfl, rfl⟩ | ⟨i, hil, hi2, rfl, rfl⟩
         ·have := hsame k 0 zy (fun i h1 h2 h3 => by
           have := (hc' i zy h3).1 (lo i zy h3 zy)
           omega)
          rw [Nat.zero_add] at this
          exact this.symm
         ·have hik : i < k := by
           rcases Nat.lt_trichotomy i k with h | h | h
           ·exact h
           ·subst h; omega
           ·have := (hc' i hil hi2).2 (hi_ i hil hi2 h)
            omega
          have := hsame (k - (i + 1)) (i + 1) zy (fun i' h1 h2 h3 => by
           have := (hc' i' zy h3).1 (lo i' zy h3 zy)
           omega)
          rw [show i + 1 + (k - (i + 1)) = k by omega] at this
          exact this.symm
        rw [hHk]
        unfold evQ
        rw [evOp_q (SubT.refl _) g.2.2.1]
      simp only [hval]
      exact hgood.1
     ·left; exact hc
    ·-- loud
     simp only [g.1]
     rw [List.all_eq_true]
     intro i hi
     obtain ⟨hil, hi2, x, hx, hxl⟩ := hloud_of i hi
     have hol : loudOp o.op = true := loud_is g.2.2
     have hmj : (o, k) ∈ l.zipIdx := by rw [List.mem_zipIdx_iff_getElem?]; simpa using a1
     have hmi : (x, i) ∈ l.zipIdx := by rw [List.mem_zipIdx_iff_getElem?]; simpa using hx
     have := List.all_eq_true.1 h2 _ hmj
     simp only [hol, Bool.not_true, Bool.false_or] at this
     have := List.all_eq_true.1 this _ hmi
     simp only [hxl, Bool.not_true, Bool.false_or] at this
     exact this
   rw [hall]
   cases ms with
   | nil => cases hms
   | cons a b => rfl

section
variable {tb : Tab} {n : Nat} {E : Env} {s : St} {hs : HSt} {R : T AV → AHeap → Prop} {ops rest : List Oper} {d : Nat} {ty : TypeId} {pos : String} {aft : Array Edge} {t : TypeId} {i : Nat}
def WX (tb : Tab) (n : Nat) (ops : List Oper) (i : Nat) (rest : List Oper) (E : Env) (s : St) (hs : HSt) (R : T AV → AHeap → Prop) : Prop :=
 ∀ tm h, Has tm s → HS E hs h → ∃ es ms tm' h', evTrace tb (callOf (Ev.callE tb)) n ops i rest tm h = some (es, ms, tm', h') ∧ GoodS tb ops es ∧ ∀ TM, SubT tm' TM → R TM h'
theorem W.regX {Q} {id : Nat} {l : List Oper} (hst : statS l = true) (h : WX tb n l 0 l E s hs (Q .normal)) : W tb n (.region id l.toArray true) E s hs Q := by
 intro tm hp ht hh
 obtain ⟨es, ms, tm1, h1, he, hG, hR⟩ := h tm hp ht hh
 have hd := draw_ofS hst he hG
 obtain ⟨TM, g1, g2⟩ := evDraw_mono (callE_ok tb) (SubT.refl tm) hd
 refine ⟨.normal, TM, h1, g2.step fun K hK => ?_, hR TM g1⟩
 rw [run_succ]
 unfold evCode
 simp only [hK]
theorem WX.nil (h : End E s hs R) : WX tb n ops i [] E s hs R :=
 fun tm hp ht hh => ⟨[], [], tm, hp, rfl, fun e he => by simp at he, fun TM hT => h TM hp (ht.mono hT) hh⟩
theorem wx_step {tm tm1 : T AV} {h h1 : AHeap} {o : Oper} {v : AV} {k : Nat} (he : ev1 tb (callOf (Ev.callE tb)) ops tm h o = some (v, h1, k)) (hp : putDst tm n o.dst v = some tm1)
  (hq : k = 1 → v.beq v = true ∧ (sure ops i = false → ∀ H, evQ tb tm H o.op = some v))
  (hk : ∃ es ms tm' h', evTrace tb (callOf (Ev.callE tb)) n ops (i + 1) rest tm1 h1 = some (es, ms, tm', h') ∧ GoodS tb ops es ∧ ∀ TM, SubT tm' TM → R TM h') :
  ∃ es ms tm' h', evTrace tb (callOf (Ev.callE tb)) n ops i (o :: rest) tm h = some (es, ms, tm', h') ∧ GoodS tb ops es ∧ ∀ TM, SubT tm' TM → R TM h' := by
 obtain ⟨es, ms, tm2, h2, e, hG, hR⟩ := hk
 refine ⟨_, _, tm2, h2, by unfold evTrace; simp only [he, hp, e]; rfl, fun x hx hx1 => ?_, hR⟩
 rcases List.mem_cons.1 hx with rfl | hx
 ·exact hq hx1
 ·exact hG x hx hx1
theorem WX.q {op : Op} {v : AV} (hs_ : sure ops i = true) (hq : QV tb s hs op v) (hb : v.beq v = true) (hd : Nat.blt d n = true) (hk : WX tb n ops (i + 1) rest E ((d, v) :: s) hs R) :
  WX tb n ops i (⟨some d, op, ty, pos, aft, none⟩ :: rest) E s hs R := by
 intro tm h ht hh
 have hv : ∀ call, evOp tb call tm h op = .q (some v) := hq tm h ht hh.keep
 refine wx_step (v := v) (k := 1) (h1 := h) (tm1 := tm.set d v) ?_ (putDst_at hd) (fun _ => ⟨hb, fun g => by rw [hs_] at g; cases g⟩) (hk _ _ (ht.set d v) hh)
 unfold ev1
 have : wantedA ops tm ⟨some d, op, ty, pos, aft, none⟩ = some true := rfl
 rw [this]
 simp only [hv]
theorem WX.f {op : Op} {v : AV} (hq : QV tb s [] op v) (hb : v.beq v = true) (hd : Nat.blt d n = true) (hk : WX tb n ops (i + 1) rest E ((d, v) :: s) hs R) :
  WX tb n ops i (⟨some d, op, ty, pos, aft, none⟩ :: rest) E s hs R := by
 intro tm h ht hh
 have hv : ∀ H call, evOp tb call tm H op = .q (some v) := fun H => hq tm H ht fun e he => by simp at he
 refine wx_step (v := v) (k := 1) (h1 := h) (tm1 := tm.set d v) ?_ (putDst_at hd) (fun _ => ⟨hb, fun _ H => by unfold evQ; rw [hv]⟩) (hk _ _ (ht.set d v) hh)
 unfold ev1
 have : wantedA ops tm ⟨some d, op, ty, pos, aft, none⟩ = some true := rfl
 rw [this]
 simp only [hv]
theorem WX.store {ox oy : Operand} {j b o q : Nat} {ob : AObj} {v : AV} {cs : List AV} {hs' : HSt} (hz : tb.size t = some q) (hx : oL s ox = some (.ptr b o)) (hy : oL s oy = some v) (hm : hs[j]? = some ⟨b, ob, true⟩)
  (hb : (Nat.beq v.cells.length q && Nat.ble (o + q) ob.cells.length && v.cells.all AV.isCell) = true) (hc : layL ob.cells o v.cells = cs) (hs_ : hs.set j ⟨b, ⟨ob.sz, ob.exact_, cs⟩, true⟩ = hs')
  (hk : WX tb n ops (i + 1) rest E s hs' R) (hz0 : Nat.blt 0 ob.sz = true := by rfl) : WX tb n ops i (⟨none, .store t ox oy, ty, pos, aft, none⟩ :: rest) E s hs R := by
 intro tm h ht hh
 subst hs_
 have hH := hh.put (ob' := ⟨ob.sz, ob.exact_, cs⟩) hm
 refine wx_step (v := .tuple []) (k := 2) (h1 := ⟨h.next, h.objs.set b ⟨ob.sz, ob.exact_, cs⟩⟩) (tm1 := tm) ?_ rfl (fun h => by cases h) (hk tm _ ht hH)
 unfold ev1
 have : wantedA ops tm ⟨none, .store t ox oy, ty, pos, aft, none⟩ = some true := rfl
 rw [this]
 have he : evOp tb (callOf (Ev.callE tb)) tm h (.store t ox oy) = .l (some (.tuple [], ⟨h.next, h.objs.set b ⟨ob.sz, ob.exact_, cs⟩⟩)) := by
  show Res.l (evStore tb tm h t ox oy) = _
  unfold evStore
  simp only [oL_ok ht hx, oL_ok ht hy]
  unfold storeA
  have h1 := (hh.at_ _ (mem_at hm)).1
  simp only at h1
  simp only [hz, h1, hb, hc, hz0]
 simp only [he]
end

end
theorem WO.callS {tb : Tab} {n : Nat} {E : Env} {s : St} {hs : HSt} {R : T AV → AHeap → Prop} {ops rest : List Oper} {d : Nat} {ty : TypeId} {pos : String} {aft : Array Edge} {of : Operand} {args : List Operand} {ts : Array TypeId} {g : Nat} {caps l l' : List AV} {M A hsc : HSt} {Post : AV → HSt → Prop} (hf : oL s of = some (.func g caps)) (ha : oLs s args = some l) (hl : l ++ caps = l')
  (hM : ∀ e ∈ M, e.w = true) (hs_ : SubH (M ++ A) hs) (hsp : Spec tb g l' (M.map (·.b)) (M ++ hsc) Post) (hsub : SubR hsc A) (hd : Nat.blt d n = true)
  (hk : ∀ v D, Post v D → WO tb n ops rest E ((d, v) :: s) (D ++ A) R) :
  WO tb n ops (⟨some d, .call ⟨.value of, args.toArray, ts⟩, ty, pos, aft, none⟩ :: rest) E s hs R := by
 refine WO.l (s' := s) fun tm h ht hh0 => ?_
 have hh := hh0.sub hs_
 have hnd := hh.nd
 rw [List.map_append] at hnd
 obtain ⟨n1, n2, n3⟩ := List.nodup_append.1 hnd
 have hne : ∀ e ∈ A, e.b ∉ M.map (·.b) := fun e he hm => n3 e.b hm e.b (List.mem_map.2 ⟨e, he, rfl⟩) rfl
 have hA : ∀ e ∈ A, _ := fun e he => hh.at_ e (List.mem_append_right _ he)
 have hMa : ∀ e ∈ M, _ := fun e he => hh.at_ e (List.mem_append_left _ he)
 have hin : HS ⟨h, M.map (·.b)⟩ (M ++ hsc) h := by
  refine ⟨fun e he => ?_, ?_, Fr.refl _ _⟩
  ·rcases List.mem_append.1 he with he | he
   ·exact ⟨(hMa e he).1, (hMa e he).2.1, fun _ => .inr (List.mem_map.2 ⟨e, he, rfl⟩)⟩
   ·obtain ⟨hw, w, hm⟩ := hsub.1 e he
    obtain ⟨a1, a2, a3⟩ := hA _ hm
    exact ⟨a1, a2, fun h' => by rw [hw] at h'; cases h'⟩
  ·rw [List.map_append]
   refine List.nodup_append.2 ⟨n1, hsub.2 n2, ?_⟩
   intro a ha' b hb hab
   obtain ⟨y, hy, rfl⟩ := List.mem_map.1 hb
   obtain ⟨hw, w, hm⟩ := hsub.1 y hy
   exact hne _ hm (hab ▸ ha')
 obtain ⟨v, h', D, hE, hP, hw, hD⟩ := hsp h hin
 have hfr := hD.fr
 have hback : HS E (D ++ A) h' := by
  refine ⟨fun e he => ?_, ?_, ?_, fun c hc hcS => ?_⟩
  ·rcases List.mem_append.1 he with he | he
   ·obtain ⟨a1, a2, a3⟩ := hD.at_ e he
    refine ⟨a1, a2, fun hw' => ?_⟩
    rcases a3 hw' with b1 | b1
    ·exact .inl (Nat.le_trans hh.fr.1 b1)
    ·obtain ⟨x, hx, hxe⟩ := List.mem_map.1 b1
     rw [← hxe]
     exact (hMa x hx).2.2 (hM x hx)
   ·obtain ⟨a1, a2, a3⟩ := hA e he
    refine ⟨?_, Nat.lt_of_lt_of_le a2 hfr.1, a3⟩
    rw [hfr.2 e.b a2 (hne e he)]
    exact a1
  ·rw [List.map_append]
   refine List.nodup_append.2 ⟨hD.nd, n2, ?_⟩
   intro a ha' b hb' hab
   obtain ⟨x, hx, rfl⟩ := List.mem_map.1 ha'
   obtain ⟨y, hy, rfl⟩ := List.mem_map.1 hb'
   have h1 := (hA y hy).2.1
   have hab : x.b = y.b := hab
   rcases (hD.at_ x hx).2.2 (hw x hx) with b1 | b1
   ·have b1 : h.next ≤ x.b := b1
    omega
   ·exact hne y hy (hab ▸ b1)
  ·exact Nat.le_trans hh.fr.1 hfr.1
  ·have hcb : c ∉ M.map (·.b) := by
    intro hm
    obtain ⟨x, hx, rfl⟩ := List.mem_map.1 hm
    rcases (hMa x hx).2.2 (hM x hx) with g | g
    ·omega
    ·exact hcS g
   rw [hfr.2 c (Nat.lt_of_lt_of_le hc hh.fr.1) hcb]
   exact hh.fr.2 c hc hcS
 refine ⟨v, h', tm.set d v, ?_, putDst_at hd, hk v D hP _ _ (ht.set d _) hback⟩
 show Res.l (evCallVal tm h (callOf (Ev.callE tb)) of args.toArray) = _
 unfold evCallVal
 simp only [oL_ok ht hf, oLs_ok ht ha]
 subst hl
 rw [callOf_eq hE]
theorem Spec.sub {tb : Tab} {f : Nat} {args : List AV} {S : List Nat} {hs hs' : HSt} {Post : AV → HSt → Prop} (h : Spec tb f args S hs Post) (g : SubH hs hs') : Spec tb f args S hs' Post := fun h0 hh => h h0 (hh.sub g)
set_option maxRecDepth 100000
set_option maxHeartbeats 1000000
section
variable {hs hl hl3 ha hp : HSt} {W W2 W3 : List IE} {ks : List TD} {i : Nat} {L : List (ND × List Int)} {d : ND} {vm vn ar v : AV} {A : List Int}
theorem szK_step (h : i < ks.length) : szK (ks.take i) + szT (kd ks i) ≤ szK ks := by
 have h1 := szK_take (ks := ks) (i := i + 1)
 rw [List.take_add_one, kd_at h, szK_app] at h1
 show _ ≤ _
 have e : szK (Option.toList (some (kd ks i))) = szT (kd ks i) := by show szK [kd ks i] = _; rw [szK, szK]; rfl
 omega
theorem take_kd (h : i < ks.length) : ks.take (i + 1) = ks.take i ++ [kd ks i] := by rw [List.take_add_one, kd_at h]; rfl
theorem lay_take (h : i < ks.length) : layT (kd ks i) (layK (ks.take i) L []).1 = (layK (ks.take (i + 1)) L []).1 := by rw [take_kd h, layK_snoc]
theorem lay_take2 (h : i < ks.length) : (layK (ks.take (i + 1)) L []).2 = (layK (ks.take i) L []).2 ++ [(((layT (kd ks i) (layK (ks.take i) L []).1).length - 1 : Nat) : Int)] := by rw [take_kd h, layK_snoc]
theorem lay_rows (h : ∀ x ∈ W2, IOK (hs ++ hl) x ∧ x.vk = .nils ∧ IBd x) (g : ∀ x ∈ W3, IOK (hs ++ hl3) x ∧ x.vk = .nils ∧ IBd x) : ∀ x ∈ W2 ++ W3, IOK (hs ++ (hl ++ hl3)) x ∧ x.vk = .nils ∧ IBd x := fun x hx => by
 rcases List.mem_append.1 hx with hx | hx
 ·exact ⟨(h x hx).1.mono fun b o ⟨w, q⟩ => ⟨w, by simp only [List.mem_append] at q ⊢; exact q.elim .inl fun r => .inr (.inl r)⟩, (h x hx).2⟩
 ·exact ⟨(g x hx).1.mono fun b o ⟨w, q⟩ => ⟨w, by simp only [List.mem_append] at q ⊢; exact q.elim .inl fun r => .inr (.inr r)⟩, (g x hx).2⟩
theorem layK_bd : ∀ {ks : List TD} {L : List (ND × List Int)} {A : List Int}, ∀ n ∈ (layK ks L A).2, n ∈ A ∨ (0 ≤ n ∧ n < ((L.length + szK ks : Nat) : Int))
 | [], L, A, n, h => by rw [layK] at h; exact .inl h
 | k :: ks, L, A, n, h => by
  rw [layK] at h
  rcases layK_bd n h with h1 | h1
  ·rcases List.mem_append.1 h1 with h1 | h1
   ·exact .inl h1
   ·rw [List.mem_singleton] at h1
    have e := layT_len (t := k) (L := L)
    have p := szT_pos (t := k)
    refine .inr ?_
    rw [h1, e, szK]
    omega
  ·rw [layT_len] at h1
   refine .inr ?_
   rw [szK]
   omega
theorem lay_fin (h : ∀ x ∈ W2, IOK (hs ++ hl) x ∧ x.vk = .nils ∧ IBd x) (hm : RIn hs 3 d.ms.length (cM d.ms) vm) (hn : RIn hs 1 d.nm.length (cS d.nm) vn) (hA : OwnE 1 (cA (layK ks L []).2) ks.length ar ha) (hd : d.bd) (hks : ks.length ≤ 1048576) (hb : L.length + szK ks ≤ 2097152) :
  ∀ x ∈ W2 ++ [⟨d, (layK ks L []).2, 0, vm, vn, .nils, ar⟩], IOK (hs ++ (hl ++ ha)) x ∧ x.vk = .nils ∧ IBd x := fun x hx => by
 have hl2 : (layK ks L []).2.length = ks.length := by rw [layK_len2]; simp
 rcases List.mem_append.1 hx with hx | hx
 ·exact ⟨(h x hx).1.mono fun b o ⟨w, q⟩ => ⟨w, by simp only [List.mem_append] at q ⊢; exact q.elim .inl fun r => .inr (.inl r)⟩, (h x hx).2⟩
 ·rw [List.mem_singleton.1 hx]
  refine ⟨⟨hm.appl, hn.appl, .inl ⟨rfl, rfl⟩, ?_⟩, rfl, hd, by show (layK ks L []).2.length ≤ _; omega, fun n hn => ?_⟩
  ·show RIn _ 1 (layK ks L []).2.length _ _
   rw [hl2]
   exact (RIn.own hA).app.app
  ·rcases layK_bd n hn with h1 | h1
   ·simp at h1
   ·exact ⟨by omega, by omega⟩
theorem lay_own {k : Nat} (h : OwnE 1 (cA A ++ [.int .i64 ((k : Nat) : Int)]) (i + 1) v hp) : OwnE 1 (cA (A ++ [((k : Nat) : Int)])) (i + 1) v hp := by
 rw [cA, List.map_append]; exact h
end

def mkE (tt er : Nat) : Nat := if er = 0 ∧ tt = 3 then 16 else er
def MakeP (hs : HSt) (k : TD) (e0 : Nat) (v : AV) (D : HSt) : Prop := ∃ (e : Nat) (_ : e = e0) (Z : List IE) (w : AV) (hp hl : HSt), v = .tuple [w, .int .i64 ((e : Nat) : Int)] ∧ OwnE 12 (cI Z) Z.length w hp ∧ (∀ x ∈ Z, IOK (hs ++ hl) x ∧ x.vk = .nils ∧ IBd x) ∧ (e = 0 → D2 Z = layT k []) ∧ (e ≠ 0 → Z = []) ∧ (∀ y ∈ hl, y.w = true) ∧ D = hp ++ hl

end Go.Proofs.YtndhhgbpcmfeiaaGreatDoor.Ev
