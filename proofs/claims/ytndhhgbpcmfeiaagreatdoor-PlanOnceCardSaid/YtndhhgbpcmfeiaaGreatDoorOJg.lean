/- Walks over the evaluator, part 16: statements whose makers float, and that look into memory which they leave as it is. -/
import Derived.Test.YtndhhgbpcmfeiaaGreatDoorOAwO
import Derived.Test.YtndhhgbpcmfeiaaGreatDoorOHh
namespace Go.Proofs.YtndhhgbpcmfeiaaGreatDoor.Ev
open Go.RowKit
noncomputable section
def FB (ops : List Oper) (ord : List Nat) : Bool :=
 jc ops && !(fO ops) && gf ops && decide (cG ops = ord) && uA (aO ops []) ops.length ord &&
 ((List.range (kC ops ord).length).all fun p => (List.range p).all fun q => !(yo (kC ops ord) p) || !(yD (kC ops ord) q) || GZ ops ord p q)
def qO (tb : Tab) (l : List Oper) (keep : ak) (es : List Ent) (ms : List (Nat × AHeap)) : Prop :=
 (∀ e ∈ es, l[e.i]? = some e.o /\ (e.kind = 1 -> e.v.beq e.v = true /\ ∀ H, du keep H -> pv tb e.tm H e.o.op = some e.v) /\
  (e.kind = 2 -> cO e.o.op = true /\ fq e.o.op = false) /\ (e.kind = 3 -> cO e.o.op = true)) /\ ∀ p ∈ ms, du keep p.2
theorem BQ {tb : Tab} {ops : List Oper} {ord : List Nat} {keep : ak} {h0 : AHeap} {es : List Ent} {ms : List (Nat × AHeap)}
  (hA : ((List.range (kC ops ord).length).all fun p => (List.range p).all fun q => !(yo (kC ops ord) p) || !(yD (kC ops ord) q) || GZ ops ord p q) = true)
  (h0k : du keep h0) (hG : qO tb (kC ops ord) keep es ms) :
  es.all (t8 tb (fun p q => ((aO ops []).getD (ord.getD p 0) 0).testBit (ord.getD q 0)) (fu 2 es) (fu 3 es) ((0, h0) :: ms)) = true := by
 obtain ⟨g1, g2⟩ := hG
 have kin : ∀ k i, i ∈ fu k es -> ∃ e ∈ es, e.i = i /\ e.kind = k := by
  intro k i hi
  obtain ⟨e, he, h⟩ := List.mem_filterMap.1 hi
  by_cases hk : e.kind = k
  ·rw [if_pos hk] at h
   simp only [Option.some.injEq] at h
   exact ⟨e, he, h, hk⟩
  ·rw [if_neg hk] at h; cases h
 rw [List.all_eq_true]
 intro e he
 obtain ⟨a1, a2, a3, a4⟩ := g1 e he
 have hl := (List.getElem?_eq_some_iff.1 a1).1
 unfold t8
 split
 ·rename_i hk
  obtain ⟨b1, b2⟩ := a3 hk
  have hh : yo (kC ops ord) e.i = true := by unfold yo; rw [a1]; simp [b1, b2]
  have key : ∀ e' ∈ es, cO e'.o.op = true -> (!(Nat.blt e'.i e.i) || ((aO ops []).getD (ord.getD e.i 0) 0).testBit (ord.getD e'.i 0)) = true := by
   intro e' he' hl'
   rcases Nat.lt_or_ge e'.i e.i with h | h
   ·have hlo : yD (kC ops ord) e'.i = true := by unfold yD; rw [(g1 e' he').1]; exact hl'
    have := List.all_eq_true.1 (List.all_eq_true.1 hA e.i (List.mem_range.2 hl)) e'.i (List.mem_range.2 h)
    simp only [hh, hlo, Bool.not_true, Bool.false_or] at this
    rw [Bool.or_eq_true]
    exact .inr this
   ·have : Nat.blt e'.i e.i = false := by
     cases hb : Nat.blt e'.i e.i with
     | true => have := Nat.blt_eq.mp hb; omega
     | false => rfl
    rw [this]; rfl
  rw [Bool.and_eq_true, List.all_eq_true, List.all_eq_true]
  refine ⟨fun i hi => ?_, fun i hi => ?_⟩
  ·obtain ⟨e', he', rfl, hk'⟩ := kin _ _ hi
   exact key e' he' ((g1 e' he').2.2.1 hk').1
  ·obtain ⟨e', he', rfl, hk'⟩ := kin _ _ hi
   exact key e' he' ((g1 e' he').2.2.2 hk')
 ·rename_i hk
  obtain ⟨b1, b2⟩ := a2 hk
  rw [List.all_eq_true]
  rintro ⟨n, h⟩ hn
  have hkp : du keep h := by
   rcases List.mem_cons.1 hn with hn | hn
   ·simp only [Prod.mk.injEq] at hn
    obtain ⟨_, rfl⟩ := hn
    exact h0k
   ·exact g2 _ hn
  simp only [b2 h hkp, b1, Bool.or_true]
 ·rfl
section
variable {tb : Tab} {n : Nat} {E : Env} {s : St} {hs : ak} {R : T AV -> AHeap -> Prop} {ops l rest : List Oper} {d : Nat} {ty : TypeId} {pos : String} {aft : Array Edge} {t : TypeId} {i base : Nat} {keep : ak}
def WG (tb : Tab) (n : Nat) (ops l : List Oper) (keep : ak) (base : Nat) (i : Nat) (rest : List Oper) (E : Env) (s : St) (hs : ak) (R : T AV -> AHeap -> Prop) : Prop :=
 ∀ tm h, Has tm s -> HS E hs h -> du keep h -> l.drop i = rest -> E.h0.next <= base -> base + ops.length <= h.next -> (∀ e ∈ hs, e.b < base + i \/ base + ops.length <= e.b) ->
  ∃ es ms tm' h', cx tb (aS (callE tb)) n ops base i rest tm h = some (es, ms, tm', h') /\ qO tb l keep es ms /\ ∀ TM, SubT tm' TM -> R TM h'
theorem WG.nil (h : End E s hs R) : WG tb n ops l keep base i [] E s hs R :=
 fun tm hp ht hh _ _ _ _ _ => ⟨[], [], tm, hp, rfl, ⟨fun e he => by simp at he, fun p hp => by simp at hp⟩, fun TM hT => h TM hp (ht.mono hT) hh⟩
theorem WG.subH {hs' : ak} (h : SubH hs' hs) (g : WG tb n ops l keep base i rest E s hs' R) : WG tb n ops l keep base i rest E s hs R :=
 fun tm hp ht hh hk hd hE hb ha => g tm hp ht (hh.sub h) hk hd hE hb fun e he => ha e (h.1 e he)
theorem tq {tm tm1 : T AV} {h h1 : AHeap} {o : Oper} {v : AV} {k : Nat} (hl : l[i]? = some o) (he : lg tb (aS (callE tb)) ops (base + i) tm h o = some (v, h1, k)) (hp : ch tm n o.dst v = some tm1)
  (hq : k = 1 -> v.beq v = true /\ ∀ H, du keep H -> pv tb tm H o.op = some v) (h2 : k = 2 -> cO o.op = true /\ fq o.op = false) (h3 : k = 3 -> cO o.op = true) (hkp : 2 <= k -> du keep h1)
  (hk : ∃ es ms tm' h', cx tb (aS (callE tb)) n ops base (i + 1) rest tm1 h1 = some (es, ms, tm', h') /\ qO tb l keep es ms /\ ∀ TM, SubT tm' TM -> R TM h') :
  ∃ es ms tm' h', cx tb (aS (callE tb)) n ops base i (o :: rest) tm h = some (es, ms, tm', h') /\ qO tb l keep es ms /\ ∀ TM, SubT tm' TM -> R TM h' := by
 obtain ⟨es, ms, tm2, h2', e, ⟨g1, g2⟩, hR⟩ := hk
 refine ⟨_, _, tm2, h2', by unfold cx; simp only [he, hp, e]; rfl, ⟨fun x hx => ?_, fun p hp => ?_⟩, hR⟩
 ·rcases List.mem_cons.1 hx with rfl | hx
  ·exact ⟨hl, hq, h2, h3⟩
  ·exact g1 x hx
 ·by_cases hk2 : 2 <= k
  ·rw [if_pos hk2] at hp
   rcases List.mem_cons.1 hp with rfl | hp
   ·exact hkp hk2
   ·exact g2 p hp
  ·rw [if_neg hk2] at hp
   exact g2 p hp
theorem WG.q {op : Op} {v : AV} (hq : QV tb s keep op v) (hb : v.beq v = true) (hd : Nat.blt d n = true) (hk : WG tb n ops l keep base (i + 1) rest E ((d, v) :: s) hs R) :
  WG tb n ops l keep base i (⟨some d, op, ty, pos, aft, none⟩ :: rest) E s hs R := by
 intro tm h ht hh hkp hdr hE hbs ha
 have hv := hq tm h ht hkp
 obtain ⟨hl, hdr'⟩ := kS hdr
 refine tq (v := v) (k := 1) (h1 := h) (tm1 := tm.set d v) hl ?_ (bJ hd) (fun _ => ⟨hb, fun H hH => ?_⟩) (fun h => by cases h) (fun h => by cases h) (fun h => by omega)
  (hk _ _ (ht.set d v) hh hkp hdr' hE hbs fun e he => (ha e he).imp (fun h => by omega) id)
 ·unfold lg
  rw [Ez (hv (aS (callE tb)))]
  simp only
  unfold iG
  have : aX ops tm ⟨some d, op, ty, pos, aft, none⟩ = some true := rfl
  rw [this]
  simp only [hv]
 ·unfold pv
  rw [hq tm H ht hH]
theorem WG.alloc {ob : AObj} (ho : AO tb t = some ob) (hd : Nat.blt d n = true) (hkp : KIn keep hs) (hlt : Nat.blt i ops.length = true) (hk : ∀ b, WG tb n ops l keep base (i + 1) rest E ((d, .ptr b 0) :: s) (⟨b, ob, true⟩ :: hs) R) :
  WG tb n ops l keep base i (⟨some d, .alloc t, ty, pos, aft, none⟩ :: rest) E s hs R := by
 intro tm h ht hh _ hdr hE hbs ha
 obtain ⟨hl, hdr'⟩ := kS hdr
 have hil := Nat.blt_eq.mp hlt
 have hnew : HS E (⟨base + i, ob, true⟩ :: hs) ⟨h.next, h.objs.set (base + i) ob⟩ := by
  refine ⟨fun e he => ?_, ?_, hh.fr.1, fun c hc hcS => ?_⟩
  ·rcases List.mem_cons.1 he with rfl | he
   ·exact ⟨by simp [aP], by show base + i < h.next; omega, fun _ => .inl (by show E.h0.next <= base + i; omega)⟩
   ·obtain ⟨a1, a2, a3⟩ := hh.at_ e he
    refine ⟨?_, a2, a3⟩
    have := ha e he
    rw [aP, if_neg zy]
    exact a1
  ·simp only [List.map_cons, List.nodup_cons]
   refine ⟨fun hm => ?_, hh.nd⟩
   obtain ⟨e, he, hb⟩ := List.mem_map.1 hm
   have := ha e he
   omega
  ·show (h.objs.set (base + i) ob).get c = _
   rw [aP, if_neg zy]
   exact hh.fr.2 c hc hcS
 have hkn : du keep ⟨h.next, h.objs.set (base + i) ob⟩ := KIn.keepIn (show KIn keep (⟨base + i, ob, true⟩ :: hs) from fun e he => let ⟨w, hm⟩ := hkp e he; ⟨w, List.mem_cons_of_mem _ hm⟩) hnew
 refine tq (v := .ptr (base + i) 0) (k := 3) (h1 := ⟨h.next, h.objs.set (base + i) ob⟩) (tm1 := tm.set d (.ptr (base + i) 0)) hl ?_ (bJ hd) (fun h => by cases h) (fun h => by cases h) (fun _ => rfl) (fun _ => hkn)
  (hk (base + i) _ _ (ht.set d _) hnew hkn hdr' hE hbs fun e he => ?_)
 ·unfold lg
  have hmk : fq (Op.alloc t) = true := rfl
  have hw : aX ops tm ⟨some d, .alloc t, ty, pos, aft, none⟩ = some true := rfl
  rw [hmk, hw]
  unfold Ac
  unfold AO at ho
  split at ho
  ·rename_i z hz
   simp only [Option.some.injEq] at ho
   simp only [hz, ho]
  ·cases ho
 ·rcases List.mem_cons.1 he with rfl | he
  ·left; show base + i < base + (i + 1); omega
  ·exact (ha e he).imp (fun h => by omega) id
theorem WG.hard {op : Op} {v : AV} {tm tm1 : T AV} {h h1 : AHeap} {dst : Option Nat} (hmk : fq op = false) (hl : l[i]? = some ⟨dst, op, ty, pos, aft, none⟩) (he : d6 tb (aS (callE tb)) tm h op = .l (some (v, h1))) (hp : ch tm n dst v = some tm1) (hkp : du keep h1)
  (hk : ∃ es ms tm' h', cx tb (aS (callE tb)) n ops base (i + 1) rest tm1 h1 = some (es, ms, tm', h') /\ qO tb l keep es ms /\ ∀ TM, SubT tm' TM -> R TM h') :
  ∃ es ms tm' h', cx tb (aS (callE tb)) n ops base i (⟨dst, op, ty, pos, aft, none⟩ :: rest) tm h = some (es, ms, tm', h') /\ qO tb l keep es ms /\ ∀ TM, SubT tm' TM -> R TM h' := by
 refine tq (v := v) (k := 2) (h1 := h1) (tm1 := tm1) hl ?_ hp (fun h => by cases h) (fun _ => ⟨iR he, hmk⟩) (fun h => by cases h) (fun _ => hkp) hk
 unfold lg
 rw [hmk]
 simp only
 unfold iG
 have : aX ops tm ⟨dst, op, ty, pos, aft, none⟩ = some true := rfl
 rw [this]
 simp only [he]
theorem WG.store {ox oy : Operand} {j b o k : Nat} {ob : AObj} {v : AV} {cs : List AV} {hs' : ak} (hz : tb.size t = some k) (hx : oL s ox = some (.ptr b o)) (hy : oL s oy = some v) (hm : hs[j]? = some ⟨b, ob, true⟩)
  (hb : (Nat.beq v.cells.length k && Nat.ble (o + k) ob.cells.length && v.cells.all AV.isCell) = true) (hc : db ob.cells o v.cells = cs) (hs_ : hs.set j ⟨b, ⟨ob.sz, ob.exact_, cs⟩, true⟩ = hs') (hkp : KIn keep hs')
  (hk : WG tb n ops l keep base (i + 1) rest E s hs' R) (hz0 : Nat.blt 0 ob.sz = true := by rfl) : WG tb n ops l keep base i (⟨none, .store t ox oy, ty, pos, aft, none⟩ :: rest) E s hs R := by
 intro tm h ht hh _ hdr hE hbs ha
 obtain ⟨hl, hdr'⟩ := kS hdr
 subst hs_
 refine WG.hard (v := .tuple []) (h1 := ⟨h.next, h.objs.set b ⟨ob.sz, ob.exact_, cs⟩⟩) (tm1 := tm) rfl hl ?_ rfl (hkp.keepIn (hh.put hm)) (hk tm _ ht (hh.put hm) (hkp.keepIn (hh.put hm)) hdr' hE hbs fun e he => ?_)
 ·show Res.l (eh tb tm h t ox oy) = _
  unfold eh
  simp only [bD ht hx, bD ht hy]
  unfold nG
  have h1 := (hh.at_ _ (fD hm)).1
  simp only at h1
  simp only [hz, h1, hb, hc, hz0]
 ·have : e.b ∈ hs.map (·.b) := by
   obtain ⟨q, hq⟩ := List.getElem?_of_mem he
   rw [List.getElem?_set] at hq
   by_cases hjq : j = q
   ·subst hjq
    split at hq
    ·split at hq
     ·cases hq; exact List.mem_map.2 ⟨_, fD hm, rfl⟩
     ·cases hq
    ·rename_i h; exact absurd rfl h
   ·rw [if_neg hjq] at hq; exact List.mem_map.2 ⟨_, List.mem_of_getElem? hq, rfl⟩
  obtain ⟨x, hx, hxb⟩ := List.mem_map.1 this
  have := ha x hx
  rw [<- hxb]
  omega
theorem WG.call0 {of : Operand} {args : List Operand} {ts : Array TypeId} {g : Nat} {caps la l' : List AV} {hsc : ak} {Post : AV -> ak -> Prop} (hf : oL s of = some (.func g caps)) (ha : pW s args = some la) (hl : la ++ caps = l')
  (hsp : Spec tb g l' [] hsc Post) (hsub : SubR hsc hs) (hd : Nat.blt d n = true) (hkp : KIn keep hs) (hk : ∀ v D, Post v D -> WG tb n ops l keep base (i + 1) rest E ((d, v) :: s) (D ++ hs) R) :
  WG tb n ops l keep base i (⟨some d, .call ⟨.value of, args.toArray, ts⟩, ty, pos, aft, none⟩ :: rest) E s hs R := by
 intro tm h ht hh _ hdr hE hbs haw
 obtain ⟨hl0, hdr'⟩ := kS hdr
 obtain ⟨v, h', D, hEv, hP, hw, hD⟩ := hsp h (hh.enter hsub)
 have hnx : h.next <= h'.next := hD.fr.1
 have hkn : du keep h' := KIn.keepIn (show KIn keep (D ++ hs) from fun e he => let ⟨w, hm⟩ := hkp e he; ⟨w, List.mem_append_right _ hm⟩) (hh.back hw hD)
 refine WG.hard (v := v) (h1 := h') (tm1 := tm.set d v) rfl hl0 ?_ (bJ hd) hkn (hk v D hP _ _ (ht.set d _) (hh.back hw hD) hkn hdr' hE zy fun e he => ?_)
 ·show Res.l (cZ tm h (aS (callE tb)) of args.toArray) = _
  unfold cZ
  simp only [bD ht hf, kz ht ha]
  subst hl
  rw [kQ hEv]
 ·rcases List.mem_append.1 he with he | he
  ·right
   rcases (hD.at_ e he).2.2 (hw e he) with h1 | h1
   ·exact Nat.le_trans hbs h1
   ·cases h1
  ·exact (haw e he).imp (fun h => by omega) id
theorem FJ {Q} {id : Nat} {ops : List Oper} (keep : ak) (ord : List Nat) (hst : FB ops ord = true) (hkp : KIn keep hs)
  (hk : ∀ base, WG tb n ops (kC ops ord) keep base 0 (kC ops ord) E s hs (Q .normal)) : W tb n (.region id ops.toArray true) E s hs Q := by
 intro tm hp ht hh
 unfold FB at hst
 simp only [Bool.and_eq_true, Bool.not_eq_true', decide_eq_true_eq] at hst
 obtain ⟨⟨⟨⟨⟨c1, c2⟩, c3⟩, c4⟩, c5⟩, c6⟩ := hst
 have hh0 : HS E hs ⟨hp.next + ops.length, hp.objs⟩ := ⟨fun e he => ⟨(hh.at_ e he).1, Nat.lt_of_lt_of_le (hh.at_ e he).2.1 (Nat.le_add_right _ _), (hh.at_ e he).2.2⟩, hh.nd, Nat.le_trans hh.fr.1 (Nat.le_add_right _ _), hh.fr.2⟩
 obtain ⟨es, ms, tm1, h1, he, hG, hR⟩ := hk hp.next tm _ ht hh0 (hkp.keepIn hh0) rfl hh.fr.1 (Nat.le_refl _) fun e he => .inl (hh.at_ e he).2.1
 have hd : eE tb (aS (callE tb)) n ops tm hp = some (tm1, h1) := by
  unfold eE
  simp only [c1, c2, c3]
  unfold gi
  rw [c4, c5]
  simp only
  have he' : cx tb (aS (callE tb)) n ops hp.next 0 (List.filterMap (fun i => ops[i]?) ord) tm ⟨hp.next + ops.length, hp.objs⟩ = some (es, ms, tm1, h1) := he
  rw [he']
  simp only
  rw [BQ c6 (hkp.keepIn hh0) hG]
 obtain ⟨TM, g1, g2⟩ := kr (l8 tb) (SubT.refl tm) hd
 refine ⟨.normal, TM, h1, g2.step fun K hK => ?_, hR TM g1⟩
 rw [dc]
 unfold dV
 simp only [hK]
end
end
set_option maxRecDepth 100000
set_option maxHeartbeats 1000000
def AG (L : List IE) (e : Nat) (Q : List PI) : Prop := (d5 L ≠ 0 /\ e = d5 L /\ Q = []) \/ (d5 L = 0 /\ e = 0 /\ Q = cr (D2 L))
theorem yH {U A : List Int} : (ll U A).length = A.length := by unfold ll; rw [List.length_map]
theorem Gw {X : List IE} {O : List PI} (h : D2 X = O) (k : Nat) : (pd O k).1 = (ei X k).d := by rw [<- h, tP]
theorem Gx {P O : List PI} {i : Nat} {T A : List Int} (h : ShI P i O T) (hi : i <= 1048576) (hA : ∀ a ∈ A, 0 <= a /\ a < ((i : Nat) : Int)) : ∀ n ∈ ll T A, DF n := fun n hn => by
 obtain ⟨a, ha, rfl⟩ := List.mem_map.1 hn
 have h1 := hA a ha
 have h2 := h.lt a.toNat zy
 have := h.le
 unfold DF
 omega
theorem Fz {T : List Int} {x : Int} {v : AV} {hp : ak} (h : OwnE 1 (cA T ++ [.int .i64 x]) (T.length + 1) v hp) : OwnE 1 (cA (T ++ [x])) (T ++ [x]).length v hp := by
 rw [cA, List.map_append, List.length_append]; exact h
theorem Fy {X : List IE} {d : ND} {A : List Int} {vm vn va : AV} (hX : ∀ x ∈ X, IBd x) (hd : d.bd) (hl : A.length <= 1048576) (hi : ∀ n ∈ A, DF n) : ∀ x ∈ X ++ [⟨d, A, 0, vm, vn, .nils, va⟩], IBd x := by
 intro x hx
 rcases List.mem_append.1 hx with hx | hx
 ·exact hX x hx
 ·rw [List.mem_singleton.1 hx]
  exact ⟨hd, hl, hi⟩
theorem C4 {sz n : Nat} {cells : List AV} {v : AV} {hp hs : ak} (h : OwnE sz cells n v hp) (hm : ∀ e ∈ hp, e ∈ hs) : RIn (ro hs) sz n cells v := ((RIn.own h).mono fun b o ⟨w, q⟩ => ⟨w, hm _ q⟩).ro
theorem Cu : dx (aN.und 82) = some (9, 40) := by kernel_rfl
theorem bH : aN.und 9 = some .string := by kernel_rfl
theorem GK : aN.zero 40 = some (.nils) := by kernel_rfl
theorem EY {hs : ak} (hro : ∀ e ∈ hs, e.w = false) (X : List IE) (u : AV) (hX : IIn hs X u) (hXb : ILB X) (hXk : ∀ x ∈ X, x.nk = 0) (bo bx : Nat) (mo : MemH hs bo ⟨1, true, [u]⟩) (d : ND) (vm vn va : AV) (mx : MemH hs bx ⟨12, true, d.c vm vn .nils ++ [va]⟩)
  (hm : RIn hs 3 d.ms.length (cM d.ms) vm) (hn : RIn hs 1 d.nm.length (cS d.nm) vn) (hd : d.bd) (hva : va.isCell = true) (A : List Int) (vg : AV) (hA : RIn hs 1 A.length (cA A) vg) (hAl : A.length <= 1048576) (hlt : ∀ q, q < A.length -> 0 <= ai A q /\ ai A q < ((X.length : Nat) : Int)) :
  Spec aN 45 [vg, .func 46 [.ptr bo 0, .ptr bx 0]] [] hs (eQ fun u => ∃ r : Int, u = .int .i64 r /\ ((r = -1 /\ ∀ q, q < A.length -> (ei X (ai A q).toNat).d ≠ d) \/ ∃ j : Nat, r = ((j : Nat) : Int) /\ j < A.length /\ (ei X (ai A j).toNat).d = d /\ ∀ q, q < j -> (ei X (ai A q).toNat).d ≠ d)) := by
 refine (B4 hs hro A vg hA hAl 46 [.ptr bo 0, .ptr bx 0] (fun q => decide ((ei X (ai A q).toNat).d = d)) fun j hj => ?_).mono ?_
 ·have h1 := hlt j hj
  have h2 := C3 hs hro X u hX hXb hXk bo bx mo d vm vn va mx hm hn hd hva (ai A j).toNat zy
  rw [Int.toNat_of_nonneg h1.1] at h2
  exact h2
 ·rintro v D ⟨⟨r, h1, h2⟩, h3⟩
  refine ⟨⟨r, h1, ?_⟩, h3⟩
  rcases h2 with ⟨h4, h5⟩ | ⟨j, h4, h5, h6, h7⟩
  ·exact .inl ⟨h4, fun q hq => of_decide_eq_false (h5 q hq)⟩
  ·exact .inr ⟨j, h4, h5, of_decide_eq_true h6, fun q hq => of_decide_eq_false (h7 q hq)⟩
theorem qf (hs : ak) (hro : ∀ e ∈ hs, e.w = false) (L : List IE) (v : AV) (hV : IIn hs L v) (hB : ILB L) (hKy : ∀ x ∈ L, lN x.d) : Spec aN 18 [v] [] hs (fun r D => ∃ (e : Nat) (Y : List IE) (w : AV), AG L e (D2 Y) /\ IOwn Y w D /\ r = .tuple [w, .int .i64 ((e : Nat) : Int)]) := by
 have hBl := hB.1
 refine av (cX 18 Tryz.func18) rfl (m := 79) rfl (rs := [.tmp 2, .tmp 3]) rfl (st := [(0, v)]) rfl rfl (fun _ => rfl) (fun E => zr (za rfl (za (zi 0) (zk (W.seq (zr (zm rfl (aJ rfl (aD rfl oz) rfl (o8 hs hro L _ hV hB) (cw hro) rfl (za rfl (zk (zr (zm rfl (zq (aa rfl (zi 0) rfl (aR cf)) (zk (aw rfl (fun hc16 => ?_) (fun hc16 => ?_))))))))))))))))
 ·refine zr (zm rfl (za rfl (za rfl (zk (W.ret ?_)))))
  refine ac (End.ret (ResL.tmp rfl (z1 rfl)) (hs' := []) ⟨d5 L, [], .nils, .inl ⟨by omega, rfl, rfl⟩, IOwn.nil, rfl⟩ dr (SubH.nil _))
 obtain ⟨h0, hL, hok⟩ := gH (L := L) zy
 have hOK := Gq (L := L) zy
 refine zw (zr (WO.makeMap Cu rfl (fun mb => za rfl (zk (zr (WO.alloc GU rfl (fun b1 => zk (zr (za rfl (zk (W.seq (zr (zm rfl (zq (Q.len dO rfl hV.1.len) (zq (Q.move (zi 0)) (zk (W.block (tC (fun (i : Nat) (X : List IE) (u : AV) (hp : ak) (hl : ak) (M : List Te) (hm : ak) (tv : AV) (hq : ak) => [(0, v), (5, .map mb), (6, .ptr b1 0), (7, tv), (19, v), (20, .int .i64 ((L.length : Nat) : Int)), (21, .int .i64 ((i : Nat) : Int))]) (fun (i : Nat) (X : List IE) (u : AV) (hp : ak) (hl : ak) (M : List Te) (hm : ak) (tv : AV) (hq : ak) => (⟨mb, ⟨(M).length, true, gB 0 (M)⟩, true⟩ :: ⟨b1, ⟨1, true, [u]⟩, true⟩ :: (hs ++ hl ++ hm ++ hq ++ hp))) (fun (i : Nat) (X : List IE) (u : AV) (hp : ak) (hl : ak) (M : List Te) (hm : ak) (tv : AV) (hq : ak) => i <= L.length /\ D2 X = (eO (D2 L) i).1 /\ OwnE 12 (cI X) X.length u hp /\ (∀ x ∈ X, IOK hl x /\ x.nk = 0) /\ (∀ e ∈ hl, e.w = true) /\ (∀ x ∈ X, IBd x) /\ OwnE 1 (cA (eO (D2 L) i).2) (eO (D2 L) i).2.length tv hq /\ ShM (eO (D2 L) i).1 M hm) (fun (i : Nat) (X : List IE) (u : AV) (hp : ak) (hl : ak) (M : List Te) (hm : ak) (tv : AV) (hq : ak) => L.length - i) (0) ([]) (.nils) ([]) ([]) ([]) ([]) (.nils) ([]) ⟨Nat.zero_le _, rfl, OwnE.nil 12, fun x hx => by simp at hx, dr, fun x hx => by simp at hx, OwnE.nil 1, ShM.zero⟩ zv (show SubH (⟨mb, ⟨0, true, []⟩, true⟩ :: ⟨b1, ⟨1, true, [.nils]⟩, true⟩ :: (hs ++ [] ++ [] ++ [] ++ [])) _ from gc) (fun i X u hp hl M hm tv hq hI0 ih0 => ?_)))))))))))))))))))
 obtain ⟨h3, hX2, hO, hX, hw, hXb, hT, hM⟩ := hI0
 refine zr (zq (aa rfl rfl rfl (ec dM)) (zk (W.seq (aw rfl (fun hc22 => ?_) (fun hc22 => ?_)))))
 ·obtain ⟨bv, szv, exv, rfl, wv, mv⟩ := hV.1.full zy
  have hI := ShI.all hOK (i := i) (by rw [bP]; omega)
  have hTl := hI.t
  have hOi := hI.le
  have hXl : X.length = (eO (D2 L) i).1.length := (by rw [<- hX2, bP])
  have hpl := EQ (O := (eO (D2 L) i).1) (k := gA ((ei L i).d, ll (eO (D2 L) i).2 (ei L i).ars))
  have hyS : rC (eO (D2 L) i).2 (pd (D2 L) i) = ((ei L i).d, ll (eO (D2 L) i).2 (ei L i).ars) := (by unfold rC; rw [<- tP, <- Ee])
  obtain ⟨hA_, hg, hB_, rfl, hG, hput⟩ := hM.get (gA ((ei L i).d, ll (eO (D2 L) i).2 (ei L i).ars))
  refine bX (hs' := ⟨mb, ⟨(M).length, true, gB 0 (M)⟩, true⟩ :: ⟨b1, ⟨1, true, [u]⟩, true⟩ :: (hs ++ hl ++ hA_ ++ hB_ ++ hq ++ hp ++ hg)) gc (zw (W.seq (W.block (zr (zm rfl (zq (ci dO eK rfl rfl zo) (zq (aU rfl (List.mem_cons_of_mem _ (List.mem_cons_of_mem _ (List.mem_append_left _ (List.mem_append_left _ (List.mem_append_left _ (List.mem_append_left _ (List.mem_append_left _ (List.mem_append_left _ mv)))))))) oT eK (l6 zo)) (WO.alloc AQ rfl (fun b2 => za rfl (WO.store eK rfl rfl (i := 0) rfl (aQ rfl (IOK.cells (hV.at zy))) (cs := [_, _, _, _, _, _, _, _, _, _, _, _]) rfl (hs' := _ :: _ :: _ :: _) rfl (zk (W.seq (FJ [⟨b2, _, false⟩] [0, 1, 2, 3, 4, 5, 6, 7, 8, 9] (by kernel_rfl) (KIn.cons (zt 0 rfl) KIn.nil) (fun base => WG.q (Q.fieldAddr fB rfl (o' := 0) rfl) iF rfl (WG.q (zL rfl (zt 0 rfl) bh aL rfl) (o0 (hV.at zy)) rfl (WG.call0 rfl (aD rfl oz) rfl (kN hs hro (ei L i).d _ _ _ (hV.at zy).m (hV.at zy).n _ (hV.at zy).k (hB.at zy).d) (SubR.t (SubR.t (SubR.t (SubR.appl (SubR.appl (SubR.appl (SubR.appl (SubR.appl (SubR.appl (cw hro)))))))))) rfl (KIn.cons (zt 0 rfl) KIn.nil) (fun v28 D28 hP28 => ?_)))))))))))))))))
  obtain ⟨vm2, vn2, Dm, Dn, rfl, hOm, hOn, hDD⟩ := hP28
  have hwD : ∀ e ∈ D28, e.w = true := (by rw [hDD]; exact wa (OwnE.w hOm) (OwnE.w hOn))
  refine WG.subH (hs' := _ :: _ :: _ :: (hs ++ hl ++ hA_ ++ hB_ ++ hq ++ hp ++ hg ++ D28)) (SubH.op (aG (N := []) (G := D28) (K := [_, _, _]) (X := hs ++ hl ++ hA_ ++ hB_ ++ hq ++ hp ++ hg))) (WG.q (Q.fieldAddr im rfl (o' := 11) rfl) iF rfl (WG.q (ap rfl (zt 0 rfl) oS rfl) (hV.at zo).a.bq rfl (WG.q (Q.move rfl) (OwnE.bq hT) rfl (WG.call0 rfl (aD rfl (aD rfl oz)) rfl (uq (ro hq ++ hs) (qb hro) (ei L i).ars _ (hV.at zy).a.app (hB.at zy).a (eO (D2 L) i).2 _ (RIn.own hT).ro.appl (fun a ha => by have := gD (hok i zy) ha; rw [hTl]; omega) (by rw [hTl]; omega)) (kh gc hro) rfl (KIn.cons (zt 0 rfl) KIn.nil) (fun v32 D32 hP32 => ?_)))))
  have hP32' : OwnE 1 (cA (ll (eO (D2 L) i).2 (ei L i).ars)) (ll (eO (D2 L) i).2 (ei L i).ars).length v32 D32 := (by rw [yH]; exact hP32)
  have hAl2 : (ll (eO (D2 L) i).2 (ei L i).ars).length <= 1048576 := (by rw [yH]; exact (hB.at zy).a)
  have hAi2 := Gx hI zy (fun a ha => gD (hok i zy) ha)
  refine WG.subH (hs' := _ :: _ :: _ :: (hs ++ hl ++ hA_ ++ hB_ ++ hq ++ hp ++ hg ++ D28 ++ D32)) (SubH.op (aG (N := []) (G := D32) (K := [_, _, _]) (X := hs ++ hl ++ hA_ ++ hB_ ++ hq ++ hp ++ hg ++ D28))) (WG.q (Q.build CR (bz rfl (bz rfl aq)) rfl (cs := [_, _, _, _, _, _, _, _, _, _, _, _]) (sM (OwnE.cell hP32))) (w9 (OwnE.bq0 hOm) (OwnE.bq0 hOn) (OwnE.bq0 hP32)) rfl (WG.alloc AQ rfl (KIn.cons (zt 0 rfl) KIn.nil) rfl (fun b3 => WG.store eK rfl rfl (j := 0) rfl (aQ rfl (tG (OwnE.cell hOm) (OwnE.cell hOn) (OwnE.cell hP32))) (cs := [_, _, _, _, _, _, _, _, _, _, _, _]) rfl (hs' := _ :: _ :: _ :: _ :: _) rfl (KIn.cons (zt 1 rfl) KIn.nil) (WG.nil (End.K (zr (zq (aU rfl (zt 0 rfl) oT eK (l := [_, _, _, _, _, _, _, _, _, _, _, _]) rfl) (aJ rfl (aD rfl oz) rfl (B9 (RIn.own hP32' ).ro hAl2 hAi2 (hKy _ (jd zy))) (SubR.ro gc) rfl (za rfl (zk (W.sub (zc 11 rfl (zc 10 rfl (zc 8 rfl (zc 0 rfl (zc 5 rfl (zc 6 rfl (zc 7 rfl (zc 19 rfl (zc 20 rfl (zc 21 rfl aI)))))))))) (zr (zm rfl (zm rfl (zq (rP Cu bH GK rfl rfl (zt 2 rfl)) (zq (rQ (aD rfl (aD rfl oz))) (WO.callE rfl (aD rfl (aD rfl oz)) rfl (EY (hs := ro (⟨b1, ⟨1, true, [u]⟩, true⟩ :: ⟨b3, ⟨12, true, [.int .i64 (ei L i).d.kd, .str (ei L i).d.op, .int .i64 (ei L i).d.n, vm2, .int .i64 (ei L i).d.rg, .int .i64 (ei L i).d.off, .int .i64 (ei L i).d.md, vn2, .int .i64 (ei L i).d.sd, .bool (ei L i).d.bl, .nils, v32]⟩, true⟩ :: (hl ++ hp ++ D28 ++ D32 ++ hg))) iH X u ⟨(RIn.own hO).mono (fun b o ⟨w, q⟩ => MemH.ro ⟨w, by simp [q]⟩), fun x hx => (hX x hx).1.mono (fun b o ⟨w, q⟩ => MemH.ro ⟨w, by simp [q]⟩)⟩ ⟨by omega, hXb⟩ (fun x hx => (hX x hx).2) b1 b3 (MemH.ro ⟨true, List.mem_cons_self⟩) (ei L i).d vm2 vn2 v32 (MemH.ro (MemH.tl ⟨true, List.mem_cons_self⟩)) (C4 hOm (fun e h => by rw [hDD]; simp [h])) (C4 hOn (fun e h => by rw [hDD]; simp [h])) (hB.at zy).d (OwnE.cell hP32) (dQ (eO (D2 L) i).1 (gA ((ei L i).d, ll (eO (D2 L) i).2 (ei L i).ars))) _ ((RIn.own hG).mono (fun b o ⟨w, q⟩ => MemH.ro ⟨w, by simp [q]⟩)) zy (fun q hq => by obtain ⟨a, e, ha, _⟩ := yL hq; rw [e]; omega)) (SubR.ro gc) rfl (fun v40 hP40 => ?_))))))))))))))))))
  obtain ⟨r, rfl, hr⟩ := hP40
  refine za rfl (zk (ou (fun (zz : Nat) => [(0, .slice bv 0 L.length 12), (5, .map mb), (6, .ptr b1 0), (7, tv), (10, .ptr b3 0), (11, .str (gA ((ei L i).d, ll (eO (D2 L) i).2 (ei L i).ars))), (19, .slice bv 0 L.length 12), (20, .int .i64 ((L.length : Nat) : Int)), (21, .int .i64 ((i : Nat) : Int))]) (fun (zz : Nat) => (⟨b3, ⟨12, true, [.int .i64 (ei L i).d.kd, .str (ei L i).d.op, .int .i64 (ei L i).d.n, vm2, .int .i64 (ei L i).d.rg, .int .i64 (ei L i).d.off, .int .i64 (ei L i).d.md, vn2, .int .i64 (ei L i).d.sd, .bool (ei L i).d.bl, .nils, v32]⟩, true⟩ :: ⟨mb, ⟨(M).length, true, gB 0 (M)⟩, true⟩ :: ⟨b1, ⟨1, true, [u]⟩, true⟩ :: (hs ++ hl ++ hA_ ++ hB_ ++ D28 ++ D32 ++ hq ++ hp ++ hg))) (fun (zz : Nat) => (i + 1 = L.length \/ ((ei L i).d, ll (eO (D2 L) i).2 (ei L i).ars) ∉ (eO (D2 L) i).1)) (fun zz hI15 => ?_) (fun hJ15 => ?_)))
  ·have hnew := hI15
   have hst := Gy (P := D2 L) (i := i) hTl (by rw [hyS, bP]; exact hnew)
   rw [hyS] at hst
   refine zr (zm rfl (zm rfl (zm rfl (zm rfl (zq (rP Cu bH GK rfl rfl (zt 1 rfl)) (zq (ap rfl (zt 2 rfl) tF rfl) (zq (Q.len dO rfl hO.len) (WO.bslice bc di yY rfl (bz rfl aq) rfl (cs := [_]) rfl rfl rfl (fun b4 => WO.appAny (A := ([_, _, _] ++ hs ++ hl ++ hA_ ++ hB_ ++ D28 ++ D32 ++ hq ++ hp)) fp hG rfl rfl (Src.slice (zt 0 rfl) rfl) rfl zy (by decide) (SubH.of_sublist (List.sublist_cons_self _ _)) rfl (fun v67 hp67 hO67 => y4 Cu bH rfl rfl rfl (i := 1) rfl (hs' := _ :: _ :: _ :: _) rfl (zk (zr (zm rfl (zq (ap rfl (zt 2 rfl) tF rfl) (zq (Q.len dO rfl hO.len) (WO.bslice bc di yY rfl (bz rfl aq) rfl (cs := [_]) rfl rfl rfl (fun b5 => WO.subH (hs' := _ :: _ :: _ :: _ :: (hs ++ hl ++ hA_ ++ hB_ ++ D28 ++ D32 ++ hp ++ hp67 ++ hq)) (SubH.op (List.Perm.append_left [_, _, _, _] (List.perm_iff_count.2 (by intro z; simp only [List.append_eq, List.count_append, List.count_nil]; omega)))) (WO.appAny (A := ([_, _, _] ++ hs ++ hl ++ hA_ ++ hB_ ++ D28 ++ D32 ++ hp ++ hp67)) fp hT rfl rfl (Src.slice (zt 0 rfl) rfl) rfl zy (by decide) (SubH.of_sublist (List.sublist_cons_self _ _)) rfl (fun v72 hp72 hO72 => za rfl (zk (W.sub (zc 7 rfl (zc 0 rfl (zc 5 rfl (zc 6 rfl (zc 10 rfl (zc 19 rfl (zc 20 rfl (zc 21 rfl aI)))))))) (am (zq (ap rfl (zt 2 rfl) tF rfl) ?_)))))))))))))))))))))))
   refine zq (aU rfl (zt 0 rfl) oT eK (l := [_, _, _, _, _, _, _, _, _, _, _, _]) rfl) (WO.bslice dO eK Dv rfl (bz rfl aq) rfl (cs := [_, _, _, _, _, _, _, _, _, _, _, _]) rfl (tG (OwnE.cell hOm) (OwnE.cell hOn) (OwnE.cell hP32)) rfl (fun b6 => WO.subH (hs' := _ :: _ :: _ :: _ :: (hs ++ hl ++ hA_ ++ hB_ ++ D28 ++ D32 ++ hp67 ++ hp72 ++ hp)) (SubH.op (List.Perm.append_left [_, _, _, _] (List.perm_iff_count.2 (by intro z; simp only [List.append_eq, List.count_append, List.count_nil]; omega)))) (WO.appAny (A := ([_, _, _] ++ hs ++ hl ++ hA_ ++ hB_ ++ D28 ++ D32 ++ hp67 ++ hp72)) lV hO rfl rfl (Src.slice (zt 0 rfl) rfl) rfl zy (by decide) (SubH.of_sublist (List.sublist_cons_self _ _)) rfl (fun v76 hp76 hO76 => WO.store Hu rfl rfl (i := 2) rfl (Fl (OwnE.cell hO76) rfl) (cs := [_]) (Ft (OwnE.cell hO76)) (hs' := _ :: _ :: _ :: _) rfl (WO.nil (End.KB (End.K (am (zq (aa rfl (zi 1) rfl zp) (zm rfl (WO.nil (End.KL (W.sub zv (bX gc (ih0 (i + 1) (X ++ [⟨(ei L i).d, ll (eO (D2 L) i).2 (ei L i).ars, 0, vm2, vn2, .nils, v32⟩]) (v76) (hp76) (hl ++ D28 ++ D32) (jx M (gA ((ei L i).d, ll (eO (D2 L) i).2 (ei L i).ars)) v67) (hA_ ++ (hp67 ++ hB_)) (v72) (hp72) ?_ ?_)))))))))))))))
   ·exact ⟨by omega, by rw [hst, mc, hX2], by rw [l7, List.length_append]; exact hO76, nI hX hOm hOn hP32' hDD, wa (wa hw hwD) (OwnE.w hP32), Fy hXb (hB.at zy).d hAl2 hAi2, by rw [hst, <- hXl]; exact Fz hO72, by rw [hst]; exact hput _ v67 hp67 rfl (by rw [<- hXl]; exact hO67)⟩
   exact zo
  refine zr (zm rfl (zq (aa rfl (zi 0) rfl (cy ir)) (zm rfl (ay (d := 43) rfl (fun hc43 => ?_) (fun hc43 => ?_)))))
  ·refine zT (zm rfl (zT (zq (aa rfl (zi 1) rfl zp) (zT (zm rfl (zT (zq (Q.len dO rfl hV.1.len) (zT (zq (aa rfl rfl rfl (ec dM)) (zq (aj rfl rfl) (zk (W.sub (zc 49 rfl (zc 12 rfl (zc 11 rfl (zc 10 rfl (zc 0 rfl (zc 5 rfl (zc 6 rfl (zc 7 rfl (zc 19 rfl (zc 20 rfl (zc 21 rfl aI))))))))))) (aw rfl (fun hc49 => ?_) (fun hc49 => ?_))))))))))))))
   ·obtain ⟨j0, rfl, hj0, hpj, hqj⟩ := hr.resolve_left (fun h => by omega)
    obtain ⟨hf1, hf2⟩ := Aj (O := (eO (D2 L) i).1) (y := ((ei L i).d, ll (eO (D2 L) i).2 (ei L i).ars)) hj0 ((Gw hX2 _).trans hpj) (fun q hq e => hqj q hq ((Gw hX2 _).symm.trans e))
    have hst := EZ (P := D2 L) (i := i) hTl (by rw [bP]; omega) (by rw [hyS]; exact hf1)
    rw [hyS] at hst
    obtain ⟨bg, exg, hge, rfl⟩ := hG.full zy
    refine zr (zm rfl (zm rfl (zm rfl (zq (DK Cu bH GK rfl rfl (zt 2 rfl) hge) (zm rfl (zq (ci bc di rfl rfl zo) (zq (ap rfl (List.mem_cons_of_mem _ (List.mem_cons_of_mem _ (List.mem_cons_of_mem _ (List.mem_cons_of_mem _ (List.mem_append_left _ (List.mem_append_left _ (List.mem_append_right _ List.mem_cons_self))))))) bU (o6 zo)) (WO.bslice bc di yY rfl (bz rfl aq) rfl (cs := [_]) rfl rfl rfl (fun b7 => WO.subH (hs' := _ :: _ :: _ :: _ :: _ :: (hs ++ hl ++ hA_ ++ hB_ ++ hp ++ [⟨bg, ⟨1, exg, cA (dQ (eO (D2 L) i).1 (gA ((ei L i).d, ll (eO (D2 L) i).2 (ei L i).ars)))⟩, true⟩] ++ D28 ++ D32 ++ hq)) (SubH.op (List.Perm.append_left [_, _, _, _, _] (List.perm_iff_count.2 (by intro z; simp only [List.append_eq, List.count_append, List.count_nil]; omega)))) (WO.appAny (A := ([_, _, _, _] ++ hs ++ hl ++ hA_ ++ hB_ ++ hp ++ [⟨bg, ⟨1, exg, cA (dQ (eO (D2 L) i).1 (gA ((ei L i).d, ll (eO (D2 L) i).2 (ei L i).ars)))⟩, true⟩] ++ D28 ++ D32)) fp hT rfl rfl (Src.slice (zt 0 rfl) rfl) rfl zy (by decide) (SubH.of_sublist (List.sublist_cons_self _ _)) rfl (fun v58 hp58 hO58 => za rfl (zk (W.exit (aC (aB (End.K (am (zq (aa rfl (zi 1) rfl zp) (zm rfl (WO.nil (End.KL (W.sub zv (bX gc (ih0 (i + 1) (X) (u) (hp) (hl) (M) (hA_ ++ ([⟨bg, ⟨1, exg, cA (dQ (eO (D2 L) i).1 (gA ((ei L i).d, ll (eO (D2 L) i).2 (ei L i).ars)))⟩, true⟩] ++ hB_)) (v58) (hp58) ?_ ?_))))))))))))))))))))))))
    ·exact ⟨by omega, by rw [hst]; exact hX2, hO, hX, hw, hXb, by rw [hst, <- hf2]; exact Fz hO58, by rw [hst]; exact hM⟩
    exact zo
   refine W.skip (End.K (W.sub zv (bX gc (hJ15 (0) ?_))))
   exact .inl zy
  refine z2 (z2 (zG (zq (ax rfl rfl) (zk (W.sub (zc 49 rfl (zc 12 rfl (zc 11 rfl (zc 10 rfl (zc 0 rfl (zc 5 rfl (zc 6 rfl (zc 7 rfl (zc 19 rfl (zc 20 rfl (zc 21 rfl aI))))))))))) (az rfl (W.skip (End.K (W.sub zv (bX gc (hJ15 (0) ?_)))))))))))
  exact (by rcases hr with ⟨_, h⟩ | ⟨j, e, _⟩; exact .inr (CT fun q hq e => h q hq ((Gw hX2 _).symm.trans e)); omega)
 have hI := ShI.all hOK (i := i) (by rw [bP]; omega)
 have hXle := hI.le
 rw [<- hX2, bP] at hXle
 refine W.exit (aC (aK (aB (End.K (zr (zq (ap rfl (zt 1 rfl) tF rfl) (za rfl (za (zi 0) (zk (W.ret ?_))))))))))
 refine End.ret (ResL.tmp rfl (z1 rfl)) (hs' := hp ++ hl) ⟨0, X, u, .inr ⟨by omega, rfl, by rw [hX2, show i = L.length by omega]; unfold cr; rw [bP]⟩, ⟨hp, hl, rfl, hO, hX, hw, ⟨by omega, hXb⟩⟩, rfl⟩ (wa (OwnE.w hO) hw) gc
end Go.Proofs.YtndhhgbpcmfeiaaGreatDoor.Ev
