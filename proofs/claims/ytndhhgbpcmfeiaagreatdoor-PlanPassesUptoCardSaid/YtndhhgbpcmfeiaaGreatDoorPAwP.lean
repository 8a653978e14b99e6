/- Walks over the evaluator, part 16: statements whose makers float, and that look into memory which they leave as it is. -/
import Derived.Test.YtndhhgbpcmfeiaaGreatDoorPAwO
namespace Go.Proofs.YtndhhgbpcmfeiaaGreatDoor.Ev
open Go.RowKit
noncomputable section
def A5 (ops : List Oper) (ord : List Nat) : Bool :=
 gY ops && !(eP ops) && eD ops && decide (bK ops = ord) && qL (am ops []) ops.length ord &&
 ((List.range (iW ops ord).length).all fun p => (List.range p).all fun q => !(tg (iW ops ord) p) || !(tz (iW ops ord) q) || Cy ops ord p q)
def nB (tb : Tab) (l : List Oper) (keep : ad) (es : List Ent) (ms : List (Nat × AHeap)) : Prop :=
 (∀ e ∈ es, l[e.i]? = some e.o /\ (e.kind = 1 -> e.v.beq e.v = true /\ ∀ H, co keep H -> nw tb e.tm H e.o.op = some e.v) /\
  (e.kind = 2 -> cC e.o.op = true /\ dP e.o.op = false) /\ (e.kind = 3 -> cC e.o.op = true)) /\ ∀ p ∈ ms, co keep p.2
theorem wg {tb : Tab} {ops : List Oper} {ord : List Nat} {keep : ad} {h0 : AHeap} {es : List Ent} {ms : List (Nat × AHeap)}
  (hA : ((List.range (iW ops ord).length).all fun p => (List.range p).all fun q => !(tg (iW ops ord) p) || !(tz (iW ops ord) q) || Cy ops ord p q) = true)
  (h0k : co keep h0) (hG : nB tb (iW ops ord) keep es ms) :
  es.all (qp tb (fun p q => ((am ops []).getD (ord.getD p 0) 0).testBit (ord.getD q 0)) (dQ 2 es) (dQ 3 es) ((0, h0) :: ms)) = true := by
 obtain ⟨g1, g2⟩ := hG
 have kin : ∀ k i, i ∈ dQ k es -> ∃ e ∈ es, e.i = i /\ e.kind = k := by
  intro k i hi
  obtain ⟨e, he, h⟩ := List.mem_filterMap.1 hi
  by_cases hk : e.kind = k
  ·rw [if_pos hk] at h
   simp only [Option.some.injEq] at h
   exact ⟨e, he, h, hk⟩
  ·rw [if_neg hk] at h; cases h
 rw [List.all_eq_true]
 intro e he
 obtain ⟨a1, a2, a3, a4⟩ := g1 e he
 have hl := (List.getElem?_eq_some_iff.1 a1).1
 unfold qp
 split
 ·rename_i hk
  obtain ⟨b1, b2⟩ := a3 hk
  have hh : tg (iW ops ord) e.i = true := by unfold tg; rw [a1]; simp [b1, b2]
  have key : ∀ e' ∈ es, cC e'.o.op = true -> (!(Nat.blt e'.i e.i) || ((am ops []).getD (ord.getD e.i 0) 0).testBit (ord.getD e'.i 0)) = true := by
   intro e' he' hl'
   rcases Nat.lt_or_ge e'.i e.i with h | h
   ·have hlo : tz (iW ops ord) e'.i = true := by unfold tz; rw [(g1 e' he').1]; exact hl'
    have := List.all_eq_true.1 (List.all_eq_true.1 hA e.i (List.mem_range.2 hl)) e'.i (List.mem_range.2 h)
    simp only [hh, hlo, Bool.not_true, Bool.false_or] at this
    rw [Bool.or_eq_true]
    exact .inr this
   ·have : Nat.blt e'.i e.i = false := by
     cases hb : Nat.blt e'.i e.i with
     | true => have := Nat.blt_eq.mp hb; omega
     | false => rfl
    rw [this]; rfl
  rw [Bool.and_eq_true, List.all_eq_true, List.all_eq_true]
  refine ⟨fun i hi => ?_, fun i hi => ?_⟩
  ·obtain ⟨e', he', rfl, hk'⟩ := kin _ _ hi
   exact key e' he' ((g1 e' he').2.2.1 hk').1
  ·obtain ⟨e', he', rfl, hk'⟩ := kin _ _ hi
   exact key e' he' ((g1 e' he').2.2.2 hk')
 ·rename_i hk
  obtain ⟨b1, b2⟩ := a2 hk
  rw [List.all_eq_true]
  rintro ⟨n, h⟩ hn
  have hkp : co keep h := by
   rcases List.mem_cons.1 hn with hn | hn
   ·simp only [Prod.mk.injEq] at hn
    obtain ⟨_, rfl⟩ := hn
    exact h0k
   ·exact g2 _ hn
  simp only [b2 h hkp, b1, Bool.or_true]
 ·rfl
section
variable {tb : Tab} {n : Nat} {E : Env} {s : St} {hs : ad} {R : T AV -> AHeap -> Prop} {ops l rest : List Oper} {d : Nat} {ty : TypeId} {pos : String} {aft : Array Edge} {t : TypeId} {i base : Nat} {keep : ad}
def WG (tb : Tab) (n : Nat) (ops l : List Oper) (keep : ad) (base : Nat) (i : Nat) (rest : List Oper) (E : Env) (s : St) (hs : ad) (R : T AV -> AHeap -> Prop) : Prop :=
 ∀ tm h, Has tm s -> HS E hs h -> co keep h -> l.drop i = rest -> E.h0.next <= base -> base + ops.length <= h.next -> (∀ e ∈ hs, e.b < base + i \/ base + ops.length <= e.b) ->
  ∃ es ms tm' h', bF tb (av (callE tb)) n ops base i rest tm h = some (es, ms, tm', h') /\ nB tb l keep es ms /\ ∀ TM, SubT tm' TM -> R TM h'
theorem WG.nil (h : End E s hs R) : WG tb n ops l keep base i [] E s hs R :=
 fun tm hp ht hh _ _ _ _ _ => ⟨[], [], tm, hp, rfl, ⟨fun e he => by simp at he, fun p hp => by simp at hp⟩, fun TM hT => h TM hp (ht.mono hT) hh⟩
theorem WG.subH {hs' : ad} (h : SubH hs' hs) (g : WG tb n ops l keep base i rest E s hs' R) : WG tb n ops l keep base i rest E s hs R :=
 fun tm hp ht hh hk hd hE hb ha => g tm hp ht (hh.sub h) hk hd hE hb fun e he => ha e (h.1 e he)
theorem pD {tm tm1 : T AV} {h h1 : AHeap} {o : Oper} {v : AV} {k : Nat} (hl : l[i]? = some o) (he : jr tb (av (callE tb)) ops (base + i) tm h o = some (v, h1, k)) (hp : bc tm n o.dst v = some tm1)
  (hq : k = 1 -> v.beq v = true /\ ∀ H, co keep H -> nw tb tm H o.op = some v) (h2 : k = 2 -> cC o.op = true /\ dP o.op = false) (h3 : k = 3 -> cC o.op = true) (hkp : 2 <= k -> co keep h1)
  (hk : ∃ es ms tm' h', bF tb (av (callE tb)) n ops base (i + 1) rest tm1 h1 = some (es, ms, tm', h') /\ nB tb l keep es ms /\ ∀ TM, SubT tm' TM -> R TM h') :
  ∃ es ms tm' h', bF tb (av (callE tb)) n ops base i (o :: rest) tm h = some (es, ms, tm', h') /\ nB tb l keep es ms /\ ∀ TM, SubT tm' TM -> R TM h' := by
 obtain ⟨es, ms, tm2, h2', e, ⟨g1, g2⟩, hR⟩ := hk
 refine ⟨_, _, tm2, h2', by unfold bF; simp only [he, hp, e]; rfl, ⟨fun x hx => ?_, fun p hp => ?_⟩, hR⟩
 ·rcases List.mem_cons.1 hx with rfl | hx
  ·exact ⟨hl, hq, h2, h3⟩
  ·exact g1 x hx
 ·by_cases hk2 : 2 <= k
  ·rw [if_pos hk2] at hp
   rcases List.mem_cons.1 hp with rfl | hp
   ·exact hkp hk2
   ·exact g2 p hp
  ·rw [if_neg hk2] at hp
   exact g2 p hp
theorem WG.q {op : Op} {v : AV} (hq : QV tb s keep op v) (hb : v.beq v = true) (hd : Nat.blt d n = true) (hk : WG tb n ops l keep base (i + 1) rest E ((d, v) :: s) hs R) :
  WG tb n ops l keep base i (⟨some d, op, ty, pos, aft, none⟩ :: rest) E s hs R := by
 intro tm h ht hh hkp hdr hE hbs ha
 have hv := hq tm h ht hkp
 obtain ⟨hl, hdr'⟩ := jf hdr
 refine pD (v := v) (k := 1) (h1 := h) (tm1 := tm.set d v) hl ?_ (aT hd) (fun _ => ⟨hb, fun H hH => ?_⟩) (fun h => by cases h) (fun h => by cases h) (fun h => by omega)
  (hk _ _ (ht.set d v) hh hkp hdr' hE hbs fun e he => (ha e he).imp (fun h => by omega) id)
 ·unfold jr
  rw [zZ (hv (av (callE tb)))]
  simp only
  unfold gZ
  have : aF ops tm ⟨some d, op, ty, pos, aft, none⟩ = some true := rfl
  rw [this]
  simp only [hv]
 ·unfold nw
  rw [hq tm H ht hH]
theorem WG.alloc {ob : AObj} (ho : AO tb t = some ob) (hd : Nat.blt d n = true) (hkp : KIn keep hs) (hlt : Nat.blt i ops.length = true) (hk : ∀ b, WG tb n ops l keep base (i + 1) rest E ((d, .ptr b 0) :: s) (⟨b, ob, true⟩ :: hs) R) :
  WG tb n ops l keep base i (⟨some d, .alloc t, ty, pos, aft, none⟩ :: rest) E s hs R := by
 intro tm h ht hh _ hdr hE hbs ha
 obtain ⟨hl, hdr'⟩ := jf hdr
 have hil := Nat.blt_eq.mp hlt
 have hnew : HS E (⟨base + i, ob, true⟩ :: hs) ⟨h.next, h.objs.set (base + i) ob⟩ := by
  refine ⟨fun e he => ?_, ?_, hh.fr.1, fun c hc hcS => ?_⟩
  ·rcases List.mem_cons.1 he with rfl | he
   ·exact ⟨by simp [aj], by show base + i < h.next; omega, fun _ => .inl (by show E.h0.next <= base + i; omega)⟩
   ·obtain ⟨a1, a2, a3⟩ := hh.at_ e he
    refine ⟨?_, a2, a3⟩
    have := ha e he
    rw [aj, if_neg zy]
    exact a1
  ·simp only [List.map_cons, List.nodup_cons]
   refine ⟨fun hm => ?_, hh.nd⟩
   obtain ⟨e, he, hb⟩ := List.mem_map.1 hm
   have := ha e he
   omega
  ·show (h.objs.set (base + i) ob).get c = _
   rw [aj, if_neg zy]
   exact hh.fr.2 c hc hcS
 have hkn : co keep ⟨h.next, h.objs.set (base + i) ob⟩ := KIn.keepIn (show KIn keep (⟨base + i, ob, true⟩ :: hs) from fun e he => let ⟨w, hm⟩ := hkp e he; ⟨w, List.mem_cons_of_mem _ hm⟩) hnew
 refine pD (v := .ptr (base + i) 0) (k := 3) (h1 := ⟨h.next, h.objs.set (base + i) ob⟩) (tm1 := tm.set d (.ptr (base + i) 0)) hl ?_ (aT hd) (fun h => by cases h) (fun h => by cases h) (fun _ => rfl) (fun _ => hkn)
  (hk (base + i) _ _ (ht.set d _) hnew hkn hdr' hE hbs fun e he => ?_)
 ·unfold jr
  have hmk : dP (Op.alloc t) = true := rfl
  have hw : aF ops tm ⟨some d, .alloc t, ty, pos, aft, none⟩ = some true := rfl
  rw [hmk, hw]
  unfold ur
  unfold AO at ho
  split at ho
  ·rename_i z hz
   simp only [Option.some.injEq] at ho
   simp only [hz, ho]
  ·cases ho
 ·rcases List.mem_cons.1 he with rfl | he
  ·left; show base + i < base + (i + 1); omega
  ·exact (ha e he).imp (fun h => by omega) id
theorem WG.hard {op : Op} {v : AV} {tm tm1 : T AV} {h h1 : AHeap} {dst : Option Nat} (hmk : dP op = false) (hl : l[i]? = some ⟨dst, op, ty, pos, aft, none⟩) (he : cQ tb (av (callE tb)) tm h op = .l (some (v, h1))) (hp : bc tm n dst v = some tm1) (hkp : co keep h1)
  (hk : ∃ es ms tm' h', bF tb (av (callE tb)) n ops base (i + 1) rest tm1 h1 = some (es, ms, tm', h') /\ nB tb l keep es ms /\ ∀ TM, SubT tm' TM -> R TM h') :
  ∃ es ms tm' h', bF tb (av (callE tb)) n ops base i (⟨dst, op, ty, pos, aft, none⟩ :: rest) tm h = some (es, ms, tm', h') /\ nB tb l keep es ms /\ ∀ TM, SubT tm' TM -> R TM h' := by
 refine pD (v := v) (k := 2) (h1 := h1) (tm1 := tm1) hl ?_ hp (fun h => by cases h) (fun _ => ⟨lL he, hmk⟩) (fun h => by cases h) (fun _ => hkp) hk
 unfold jr
 rw [hmk]
 simp only
 unfold gZ
 have : aF ops tm ⟨dst, op, ty, pos, aft, none⟩ = some true := rfl
 rw [this]
 simp only [he]
theorem WG.store {ox oy : Operand} {j b o k : Nat} {ob : AObj} {v : AV} {cs : List AV} {hs' : ad} (hz : tb.size t = some k) (hx : oL s ox = some (.ptr b o)) (hy : oL s oy = some v) (hm : hs[j]? = some ⟨b, ob, true⟩)
  (hb : (Nat.beq v.cells.length k && Nat.ble (o + k) ob.cells.length && v.cells.all AV.isCell) = true) (hc : bJ ob.cells o v.cells = cs) (hs_ : hs.set j ⟨b, ⟨ob.sz, ob.exact_, cs⟩, true⟩ = hs') (hkp : KIn keep hs')
  (hk : WG tb n ops l keep base (i + 1) rest E s hs' R) (hz0 : Nat.blt 0 ob.sz = true := by rfl) : WG tb n ops l keep base i (⟨none, .store t ox oy, ty, pos, aft, none⟩ :: rest) E s hs R := by
 intro tm h ht hh _ hdr hE hbs ha
 obtain ⟨hl, hdr'⟩ := jf hdr
 subst hs_
 refine WG.hard (v := .tuple []) (h1 := ⟨h.next, h.objs.set b ⟨ob.sz, ob.exact_, cs⟩⟩) (tm1 := tm) rfl hl ?_ rfl (hkp.keepIn (hh.put hm)) (hk tm _ ht (hh.put hm) (hkp.keepIn (hh.put hm)) hdr' hE hbs fun e he => ?_)
 ·show Res.l (df tb tm h t ox oy) = _
  unfold df
  simp only [aX ht hx, aX ht hy]
  unfold kU
  have h1 := (hh.at_ _ (eo hm)).1
  simp only at h1
  simp only [hz, h1, hb, hc, hz0]
 ·have : e.b ∈ hs.map (·.b) := by
   obtain ⟨q, hq⟩ := List.getElem?_of_mem he
   rw [List.getElem?_set] at hq
   by_cases hjq : j = q
   ·subst hjq
    split at hq
    ·split at hq
     ·cases hq; exact List.mem_map.2 ⟨_, eo hm, rfl⟩
     ·cases hq
    ·rename_i h; exact absurd rfl h
   ·rw [if_neg hjq] at hq; exact List.mem_map.2 ⟨_, List.mem_of_getElem? hq, rfl⟩
  obtain ⟨x, hx, hxb⟩ := List.mem_map.1 this
  have := ha x hx
  rw [<- hxb]
  omega
theorem WG.call0 {of : Operand} {args : List Operand} {ts : Array TypeId} {g : Nat} {caps la l' : List AV} {hsc : ad} {Post : AV -> ad -> Prop} (hf : oL s of = some (.func g caps)) (ha : pI s args = some la) (hl : la ++ caps = l')
  (hsp : Spec tb g l' [] hsc Post) (hsub : SubR hsc hs) (hd : Nat.blt d n = true) (hkp : KIn keep hs) (hk : ∀ v D, Post v D -> WG tb n ops l keep base (i + 1) rest E ((d, v) :: s) (D ++ hs) R) :
  WG tb n ops l keep base i (⟨some d, .call ⟨.value of, args.toArray, ts⟩, ty, pos, aft, none⟩ :: rest) E s hs R := by
 intro tm h ht hh _ hdr hE hbs haw
 obtain ⟨hl0, hdr'⟩ := jf hdr
 obtain ⟨v, h', D, hEv, hP, hw, hD⟩ := hsp h (hh.enter hsub)
 have hnx : h.next <= h'.next := hD.fr.1
 have hkn : co keep h' := KIn.keepIn (show KIn keep (D ++ hs) from fun e he => let ⟨w, hm⟩ := hkp e he; ⟨w, List.mem_append_right _ hm⟩) (hh.back hw hD)
 refine WG.hard (v := v) (h1 := h') (tm1 := tm.set d v) rfl hl0 ?_ (aT hd) hkn (hk v D hP _ _ (ht.set d _) (hh.back hw hD) hkn hdr' hE zy fun e he => ?_)
 ·show Res.l (bT tm h (av (callE tb)) of args.toArray) = _
  unfold bT
  simp only [aX ht hf, kO ht ha]
  subst hl
  rw [jd hEv]
 ·rcases List.mem_append.1 he with he | he
  ·right
   rcases (hD.at_ e he).2.2 (hw e he) with h1 | h1
   ·exact Nat.le_trans hbs h1
   ·cases h1
  ·exact (haw e he).imp (fun h => by omega) id
theorem Be {Q} {id : Nat} {ops : List Oper} (keep : ad) (ord : List Nat) (hst : A5 ops ord = true) (hkp : KIn keep hs)
  (hk : ∀ base, WG tb n ops (iW ops ord) keep base 0 (iW ops ord) E s hs (Q .normal)) : W tb n (.region id ops.toArray true) E s hs Q := by
 intro tm hp ht hh
 unfold A5 at hst
 simp only [Bool.and_eq_true, Bool.not_eq_true', decide_eq_true_eq] at hst
 obtain ⟨⟨⟨⟨⟨c1, c2⟩, c3⟩, c4⟩, c5⟩, c6⟩ := hst
 have hh0 : HS E hs ⟨hp.next + ops.length, hp.objs⟩ := ⟨fun e he => ⟨(hh.at_ e he).1, Nat.lt_of_lt_of_le (hh.at_ e he).2.1 (Nat.le_add_right _ _), (hh.at_ e he).2.2⟩, hh.nd, Nat.le_trans hh.fr.1 (Nat.le_add_right _ _), hh.fr.2⟩
 obtain ⟨es, ms, tm1, h1, he, hG, hR⟩ := hk hp.next tm _ ht hh0 (hkp.keepIn hh0) rfl hh.fr.1 (Nat.le_refl _) fun e he => .inl (hh.at_ e he).2.1
 have hd : dG tb (av (callE tb)) n ops tm hp = some (tm1, h1) := by
  unfold dG
  simp only [c1, c2, c3]
  unfold eE
  rw [c4, c5]
  simp only
  have he' : bF tb (av (callE tb)) n ops hp.next 0 (List.filterMap (fun i => ops[i]?) ord) tm ⟨hp.next + ops.length, hp.objs⟩ = some (es, ms, tm1, h1) := he
  rw [he']
  simp only
  rw [wg c6 (hkp.keepIn hh0) hG]
 obtain ⟨TM, g1, g2⟩ := lc (l8 tb) (SubT.refl tm) hd
 refine ⟨.normal, TM, h1, g2.step fun K hK => ?_, hR TM g1⟩
 rw [cm]
 unfold dc
 simp only [hK]
end
end
end Go.Proofs.YtndhhgbpcmfeiaaGreatDoor.Ev
