/- Rows that are made of one thing. -/
import Derived.Test.YtndhhgbpcmfeiaaGreatDoorNGc
namespace Go.Proofs.YtndhhgbpcmfeiaaGreatDoor.Ev
open Go.RowKit
noncomputable def MS (tb : Tab) (t : Nat) : Option (Nat × List AV) :=
 match tb.und t with
 | some (.slice e) => match tb.tt.get e, tb.zero e with
  | some ti, some z => match Nat.ble ti.bytes 4096 && Nat.beq z.cells.length ti.size && Nat.blt 0 ti.size with
   | true => some (ti.size, z.cells)
   | false => none
  | _, _ => none
 | _ => none
section
variable {tb : Tab} {n : Nat} {E : Env} {s : St} {hs : af} {R : T AV -> AHeap -> Prop} {ops rest : List Oper} {d : Nat} {t : TypeId} {ty : TypeId} {pos : String} {aft : Array Edge}
theorem nz {ol oc : Operand} {m sz : Nat} {zc cs : List AV} (hM : MS tb t = some (sz, zc)) (hl : oL s ol = some (.int .i64 ((m : Nat) : Int))) (hc : oL s oc = some (.int .i64 ((m : Nat) : Int))) (hm : m <= 1073741824) (hr : gG m zc = cs) (hd : Nat.blt d n = true)
  (hk : ∀ b, WO tb n ops rest E ((d, .slice b 0 m sz) :: s) (⟨b, ⟨sz, true, cs⟩, true⟩ :: hs) R) :
  WO tb n ops (⟨some d, .makeSlice t ol oc, ty, pos, aft, none⟩ :: rest) E s hs R := by
 refine WO.l (s' := s) fun tm h ht hh => ?_
 refine ⟨.slice h.next 0 m sz, ⟨h.next + 1, h.objs.set h.next ⟨sz, true, cs⟩⟩, tm.set d (.slice h.next 0 m sz), ?_, aT hd, hk h.next _ _ (ht.set d _) (hh.new _)⟩
 show Res.l (cw tb tm h t ol oc) = _
 unfold MS at hM
 split at hM
 rotate_left
 ·cases hM
 rename_i e hu
 split at hM
 rotate_left
 ·cases hM
 rename_i ti z h1 h2
 split at hM
 rotate_left
 ·cases hM
 rename_i hb
 simp only [Option.some.injEq, Prod.mk.injEq] at hM
 obtain ⟨rfl, rfl⟩ := hM
 simp only [Bool.and_eq_true] at hb
 have e1 : d8 (some (AV.int .i64 ((m : Nat) : Int))) = some m := rfl
 have e2 : Nat.ble m 1073741824 = true := Nat.ble_eq.mpr hm
 have e3 : Nat.ble m m = true := Nat.ble_eq.mpr (Nat.le_refl m)
 unfold cw
 simp only [hu, aW ht hl, aW ht hc, e1, h1, h2, hb.1.1, hb.1.2, hb.2, e2, e3, Bool.and_self, hr]
end
def cB (g : Nat -> Bool) (n : Nat) : List AV := (List.range n).map fun j => AV.bool (g j)
def cN (g : Nat -> Int) (n : Nat) : List AV := (List.range n).map fun j => AV.int .i64 (g j)
theorem mL {v : AV} : ∀ n : Nat, gG n [v] = (List.range n).map fun _ => v
 | 0 => rfl
 | n + 1 => by rw [List.range_succ_eq_map, List.map_cons, List.map_map]; exact congrArg (v :: ·) (mL n)
theorem B4 (n : Nat) : gG n [.bool false] = cB (fun _ => false) n := mL n
theorem B5 (n : Nat) : gG n [.int .i64 0] = cN (fun _ => 0) n := mL n
section
variable {g : Nat -> Bool} {f : Nat -> Int} {n j : Nat} {b : Bool} {x : Int}
theorem uU : (cB g n).length = n := by simp [cB]
theorem uW : (cN f n).length = n := by simp [cN]
theorem uS (h : j < n) : (cB g n)[(0 + j) * 1]? = some (.bool (g j)) := by
 rw [Nat.zero_add, Nat.mul_one, cB, List.getElem?_map, List.getElem?_range h]; rfl
theorem uT (h : j < n) : Nat.ble ((0 + j) * 1 + 1) (cB g n).length = true := Nat.ble_eq.mpr (by rw [uU]; omega)
theorem CF (h : j < n) : Nat.ble ((0 + j) * 1 + 1) (cN f n).length = true := Nat.ble_eq.mpr (by rw [uW]; omega)
theorem rk (h : j < n) : cn (cB g n) ((0 + j) * 1) (AV.bool b).cells = cB (fun k => if k = j then b else g k) n := by
 rw [Nat.zero_add, Nat.mul_one, dT rfl, pj _ _ _ (by rw [uU]; exact h)]
 apply List.ext_getElem?
 intro k
 rw [List.getElem?_set]
 unfold cB
 by_cases hk : k < n
 ·by_cases e : j = k
  ·subst e; simp [h]
  ·have e' : ¬ k = j := fun q => e q.symm
   simp [hk, e, e']
 ·rw [List.getElem?_eq_none (by simp; omega), List.getElem?_eq_none (by simp; omega)]
  simp; omega
theorem Bp (h : j < n) : cn (cN f n) ((0 + j) * 1) (AV.int .i64 x).cells = cN (fun k => if k = j then x else f k) n := by
 rw [Nat.zero_add, Nat.mul_one, dT rfl, pj _ _ _ (by rw [uW]; exact h)]
 apply List.ext_getElem?
 intro k
 rw [List.getElem?_set]
 unfold cN
 by_cases hk : k < n
 ·by_cases e : j = k
  ·subst e; simp [h]
  ·have e' : ¬ k = j := fun q => e q.symm
   simp [hk, e, e']
 ·rw [List.getElem?_eq_none (by simp; omega), List.getElem?_eq_none (by simp; omega)]
  simp; omega
theorem iy {g' : Nat -> Bool} (h : ∀ j, j < n -> g j = g' j) : cB g n = cB g' n := List.map_congr_left fun j hj => by rw [h j (List.mem_range.1 hj)]
theorem lJ {f' : Nat -> Int} (h : ∀ j, j < n -> f j = f' j) : cN f n = cN f' n := List.map_congr_left fun j hj => by rw [h j (List.mem_range.1 hj)]
theorem Bq : cN f n = cA ((List.range n).map f) := by unfold cN cA; rw [List.map_map]; rfl
theorem Bb (h : j < n) : ai ((List.range n).map f) j = f j := by
 unfold ai
 rw [List.getD_eq_getElem?_getD, List.getElem?_map, List.getElem?_range h]; rfl
end
inductive Need (L : List IE) : Nat -> Prop
 | last : Need L (L.length - 1)
 | arg {i : Nat} {a : Int} : Need L i -> i < L.length -> a ∈ (ei L i).ars -> Need L a.toNat
open Classical in
noncomputable def nb (L : List IE) (j : Nat) : Bool := decide (Need L j)
open Classical in
noncomputable def wI (L : List IE) (t : Nat) (j : Nat) : Bool := decide (j = L.length - 1 \/ ∃ (i : Nat) (a : Int), L.length - t <= i /\ i < L.length /\ Need L i /\ a ∈ (ei L i).ars /\ a.toNat = j)
open Classical in
noncomputable def yA (L : List IE) (t q : Nat) (j : Nat) : Bool := wI L t j || decide (Need L (L.length - 1 - t) /\ ∃ p, p < q /\ p < (ei L (L.length - 1 - t)).ars.length /\ (ai (ei L (L.length - 1 - t)).ars p).toNat = j)
section
variable {L : List IE} {t q i j k : Nat}
theorem kU : nb L j = true ↔ Need L j := by unfold nb; simp only [decide_eq_true_eq]
theorem ku : wI L t j = true ↔ (j = L.length - 1 \/ ∃ (i : Nat) (a : Int), L.length - t <= i /\ i < L.length /\ Need L i /\ a ∈ (ei L i).ars /\ a.toNat = j) := by unfold wI; simp only [decide_eq_true_eq]
theorem js : yA L t q j = true ↔ (wI L t j = true \/ (Need L (L.length - 1 - t) /\ ∃ p, p < q /\ p < (ei L (L.length - 1 - t)).ars.length /\ (ai (ei L (L.length - 1 - t)).ars p).toNat = j)) := by
 unfold yA
 rw [Bool.or_eq_true]
 simp only [decide_eq_true_eq]
theorem jl {a b : Bool} (h : a = true ↔ b = true) : a = b := by cases a <;> cases b <;> simp_all
theorem C1 : cB (fun k => if k = L.length - 1 then true else false) L.length = cB (wI L 0) L.length := by
 refine iy fun j hj => jl ?_
 rw [ku]
 constructor
 ·intro h
  split at h
  ·exact .inl (by assumption)
  ·cases h
 ·rintro (h | ⟨i, a, h1, h2, _⟩)
  ·simp [h]
  ·omega
theorem th (h : wI L t j = true) : Need L j := by
 rcases ku.1 h with rfl | ⟨i, a, h1, h2, h3, h4, rfl⟩
 ·exact .last
 ·exact .arg h3 h2 h4
theorem wJ (hok : ∀ i, i < L.length -> qE L i = true) (ht : t < L.length) : wI L t (L.length - 1 - t) = nb L (L.length - 1 - t) := by
 refine jl ⟨fun h => kU.2 (th h), fun h => ?_⟩
 rw [ku]
 have h := kU.1 h
 generalize hj : L.length - 1 - t = j at h
 cases h with
 | last => exact .inl rfl
 | arg h1 h2 h3 =>
  rename_i i a
  have := mE (hok _ h2) h3
  exact .inr ⟨i, a, by omega, h2, h1, h3, rfl⟩
theorem C2 : cB (wI L t) L.length = cB (yA L t 0) L.length := by
 refine iy fun j hj => jl ?_
 rw [js]
 exact ⟨.inl, fun h => h.elim id fun ⟨_, p, hp, _⟩ => absurd hp (Nat.not_lt_zero _)⟩
theorem wK (hok : ∀ i, i < L.length -> qE L i = true) (ht : t < L.length) : yA L t q (L.length - 1 - t) = nb L (L.length - 1 - t) := by
 rw [<- wJ hok ht]
 refine jl ?_
 rw [js]
 refine ⟨fun h => h.elim id fun ⟨_, p, _, hp, e⟩ => ?_, .inl⟩
 have := mE (hok (L.length - 1 - t) zy) (jj hp)
 omega
theorem qy (hok : ∀ i, i < L.length -> qE L i = true) (ht : t < L.length) (hq : q < (ei L (L.length - 1 - t)).ars.length) {b : Bool} (hb : b = (yA L t q (ai (ei L (L.length - 1 - t)).ars q).toNat || yA L t q (L.length - 1 - t))) :
  cB (fun k => if k = (ai (ei L (L.length - 1 - t)).ars q).toNat then b else yA L t q k) L.length = cB (yA L t (q + 1)) L.length := by
 refine iy fun j hj => jl ?_
 rw [wK hok ht] at hb
 by_cases e : j = (ai (ei L (L.length - 1 - t)).ars q).toNat
 ·rw [if_pos e, hb, Bool.or_eq_true, kU, js, js, e]
  constructor
  ·rintro ((h | ⟨h1, p, h2, h3⟩) | h)
   ·exact .inl h
   ·exact .inr ⟨h1, p, by omega, h3⟩
   ·exact .inr ⟨h, q, by omega, hq, rfl⟩
  ·rintro (h | ⟨h1, p, h2, h3⟩)
   ·exact .inl (.inl h)
   ·exact .inr h1
 ·rw [if_neg e, js, js]
  constructor
  ·rintro (h | ⟨h1, p, h2, h3⟩)
   ·exact .inl h
   ·exact .inr ⟨h1, p, by omega, h3⟩
  ·rintro (h | ⟨h1, p, h2, h3, h4⟩)
   ·exact .inl h
   ·rcases Nat.lt_or_ge p q with hp | hp
    ·exact .inr ⟨h1, p, hp, h3, h4⟩
    ·obtain rfl : p = q := by omega
     exact absurd h4.symm e
theorem zJ (ht : t < L.length) : cB (yA L t (ei L (L.length - 1 - t)).ars.length) L.length = cB (wI L (t + 1)) L.length := by
 refine iy fun j hj => jl ?_
 rw [js, ku, ku]
 constructor
 ·rintro ((h | ⟨i, a, h1, h2⟩) | ⟨h1, p, h2, h3, h4⟩)
  ·exact .inl h
  ·exact .inr ⟨i, a, by omega, h2⟩
  ·exact .inr ⟨L.length - 1 - t, _, by omega, by omega, h1, jj h3, h4⟩
 ·rintro (h | ⟨i, a, h1, h2, h3, h4, h5⟩)
  ·exact .inl (.inl h)
  ·rcases Nat.lt_or_ge i (L.length - t) with hi | hi
   ·obtain rfl : i = L.length - 1 - t := by omega
    obtain ⟨p, hp⟩ := List.getElem?_of_mem h4
    have hl := (List.getElem?_eq_some_iff.1 hp).1
    rw [jC hl] at hp
    exact .inr ⟨h3, p, hl, hl, by rw [Option.some.inj hp]; exact h5⟩
   ·exact .inl (.inr ⟨i, a, hi, h2, h3, h4, h5⟩)
theorem zI : cB (wI L L.length) L.length = cB (nb L) L.length := by
 refine iy fun j hj => jl ?_
 rw [kU]
 refine ⟨th, fun h => ku.2 ?_⟩
 cases h with
 | last => exact .inl rfl
 | arg h1 h2 h3 => exact .inr ⟨_, _, by omega, h2, h1, h3, rfl⟩
end
noncomputable def fo (L : List IE) (j : Nat) : Nat := ((List.range j).filter (nb L)).length
noncomputable def sn (L : List IE) (i j : Nat) : Int := if j < i /\ nb L j = true then ((fo L j : Nat) : Int) else 0
noncomputable def ip (L : List IE) (A : List Int) : List Int := A.map fun a => ((fo L a.toNat : Nat) : Int)
noncomputable def iq (L : List IE) (i : Nat) : List (ND × List Int) := ((List.range i).filter (nb L)).map fun j => ((ei L j).d, ip L (ei L j).ars)
section
variable {L : List IE} {i j : Nat}
theorem yc (h : nb L j = true) : fo L (j + 1) = fo L j + 1 := by
 unfold fo
 rw [List.range_succ, List.filter_append, List.length_append]
 simp [h]
theorem AQ (h : nb L j = false) : fo L (j + 1) = fo L j := by
 unfold fo
 rw [List.range_succ, List.filter_append, List.length_append]
 simp [h]
theorem sc : fo L j <= j := Nat.le_trans (List.length_filter_le _ _) (by rw [List.length_range]; exact Nat.le_refl _)
theorem mS : (iq L i).length = fo L i := by unfold iq fo; rw [List.length_map]
theorem Cf (h : nb L i = true) : iq L (i + 1) = iq L i ++ [((ei L i).d, ip L (ei L i).ars)] := by
 unfold iq
 rw [List.range_succ, List.filter_append, List.map_append]
 simp [h]
theorem Ds (h : nb L i = false) : iq L (i + 1) = iq L i := by
 unfold iq
 rw [List.range_succ, List.filter_append, List.map_append]
 simp [h]
theorem D7 : cN (fun _ => 0) L.length = cN (sn L 0) L.length := lJ fun j _ => by unfold sn; rw [if_neg zy]
theorem Eb (h : nb L i = true) : cN (fun k => if k = i then ((fo L i : Nat) : Int) else sn L i k) L.length = cN (sn L (i + 1)) L.length := by
 refine lJ fun j _ => ?_
 unfold sn
 by_cases e : j = i
 ·subst e; rw [if_pos rfl, if_pos ⟨by omega, h⟩]
 ·rw [if_neg e]
  by_cases g : j < i /\ nb L j = true
  ·rw [if_pos g, if_pos ⟨by omega, g.2⟩]
  ·rw [if_neg g, if_neg fun q => g ⟨by omega, q.2⟩]
theorem Ea (h : nb L i = false) : cN (sn L i) L.length = cN (sn L (i + 1)) L.length := by
 refine lJ fun j _ => ?_
 unfold sn
 by_cases g : j < i /\ nb L j = true
 ·rw [if_pos g, if_pos ⟨by omega, g.2⟩]
 ·rw [if_neg g, if_neg fun q => g ⟨by
   have : j ≠ i := fun e => by subst e; rw [h] at q; exact absurd q.2 (by decide)
   omega, q.2⟩]
theorem zH (hok : qE L i = true) (hi : i < L.length) (hn : nb L i = true) : AM ((List.range L.length).map (sn L (i + 1))) (ei L i).ars = ip L (ei L i).ars := by
 unfold AM ip
 refine List.map_congr_left fun a ha => ?_
 obtain ⟨h1, h2⟩ := mE hok ha
 rw [Bb zy]
 unfold sn
 rw [if_pos ⟨by omega, kU.2 (.arg (kU.1 hn) hi ha)⟩]
theorem oh {A : List Int} : (ip L A).length = A.length := by unfold ip; rw [List.length_map]
end
def D2 (W : List IE) : List (ND × List Int) := W.map fun x => (x.d, x.ars)
def WZ (hl : af) : Prop := ∀ e ∈ hl, e.w = true /\ 0 < e.o.sz
theorem WZ.nil : WZ [] := fun e h => by simp at h
theorem WZ.app {a b : af} (h : WZ a) (g : WZ b) : WZ (a ++ b) := fun e he => (List.mem_append.1 he).elim (h e) (g e)
theorem WZ.w {a : af} (h : WZ a) : ∀ e ∈ a, e.w = true := fun e he => (h e he).1
theorem WZ.own {sz n : Nat} {cells : List AV} {v : AV} {hp : af} (h : OwnE (sz + 1) cells n v hp) : WZ hp := by
 rcases h with ⟨_, _, _, rfl⟩ | ⟨b, ex, _, rfl, _⟩
 ·exact WZ.nil
 ·intro e he
  rw [List.mem_singleton.1 he]
  exact ⟨rfl, Nat.succ_pos _⟩
def IOwn (W : List IE) (w : AV) (D : af) : Prop := ∃ hp hl, D = hp ++ hl /\ OwnE 12 (cI W) W.length w hp /\ (∀ x ∈ W, IOK hl x /\ x.nk = 0) /\ WZ hl /\ ILB W
section
variable {W : List IE} {wv : AV} {D hs : af} {x : IE}
theorem lr : D2 (W ++ [x]) = D2 W ++ [(x.d, x.ars)] := by unfold D2; rw [List.map_append]; rfl
theorem dr : (D2 W).length = W.length := List.length_map _
theorem lq : cI (W ++ [x]) = cI W ++ x.c := by unfold cI; rw [List.flatMap_append]; simp
theorem IOwn.nil : IOwn [] .nils [] := ⟨[], [], rfl, OwnE.nil 12, fun x hx => by simp at hx, WZ.nil, by simp, fun x hx => by simp at hx⟩
theorem IOwn.w (h : IOwn W wv D) : ∀ e ∈ D, e.w = true := by
 obtain ⟨hp, hl, rfl, hO, _, hw, _⟩ := h
 exact wa (OwnE.w hO) hw.w
theorem IOwn.iin (h : IOwn W wv D) : IIn D W wv := by
 obtain ⟨hp, hl, rfl, hO, hx, hw, _⟩ := h
 exact ⟨(RIn.own hO).appl, fun x hx' => (hx x hx').1.mono fun b o q => q.app⟩
theorem IOwn.lb (h : IOwn W wv D) : ILB W := by
 obtain ⟨hp, hl, rfl, hO, hx, hw, hb⟩ := h
 exact hb
theorem IOwn.nk (h : IOwn W wv D) : ∀ x ∈ W, x.nk = 0 := by
 obtain ⟨hp, hl, rfl, hO, hx, hw, hb⟩ := h
 exact fun x h => (hx x h).2
theorem IIn.ro {L : List IE} {v : AV} (h : IIn hs L v) : IIn (ro hs) L v := h.mono fun b o q => q.ro
theorem IIn.app {A : af} {L : List IE} {v : AV} (h : IIn hs L v) : IIn (A ++ hs) L v := h.mono fun b o q => q.app
theorem IIn.appl {A : af} {L : List IE} {v : AV} (h : IIn hs L v) : IIn (hs ++ A) L v := h.mono fun b o q => q.appl'
end
def AA (L : List IE) (e : Nat) (Q : List (ND × List Int)) : Prop := (eW L ≠ 0 /\ e = eW L /\ Q = []) \/ (eW L = 0 /\ e = 0 /\ Q = iq L L.length)
inductive TD
 | node (d : ND) (ks : List TD)
mutual
def TRep (hs : af) : TD -> List AV -> Prop
 | .node d ks, c => ∃ vm vn vk cs, c = d.c vm vn vk /\ RIn hs 3 d.ms.length (cM d.ms) vm /\ RIn hs 1 d.nm.length (cS d.nm) vn /\ RIn hs 11 ks.length (cs.flatMap id) vk /\ d.bd /\ ks.length <= 1048576 /\ TReps hs ks cs
def TReps (hs : af) : List TD -> List (List AV) -> Prop
 | [], cs => cs = []
 | k :: ks, cs => ∃ c r, cs = c :: r /\ TRep hs k c /\ TReps hs ks r
end
mutual
theorem TRep.mono {hs hs' : af} (hm : ∀ b o, MemH hs b o -> MemH hs' b o) : ∀ {t : TD} {c : List AV}, TRep hs t c -> TRep hs' t c
 | .node d ks, c, h => by
  rw [TRep] at h ⊢
  obtain ⟨vm, vn, vk, cs, h1, h2, h3, h4, h5, h6, h7⟩ := h
  exact ⟨vm, vn, vk, cs, h1, h2.mono hm, h3.mono hm, h4.mono hm, h5, h6, TReps.mono hm h7⟩
theorem TReps.mono {hs hs' : af} (hm : ∀ b o, MemH hs b o -> MemH hs' b o) : ∀ {ks : List TD} {cs : List (List AV)}, TReps hs ks cs -> TReps hs' ks cs
 | [], cs, h => by rw [TReps] at h ⊢; exact h
 | k :: ks, cs, h => by
  rw [TReps] at h ⊢
  obtain ⟨c, r, h1, h2, h3⟩ := h
  exact ⟨c, r, h1, TRep.mono hm h2, TReps.mono hm h3⟩
end
section
variable {hs : af} {t : TD} {ks : List TD} {c : List AV} {cs : List (List AV)}
theorem TRep.len (h : TRep hs t c) : c.length = 11 := by
 cases t with
 | node d ks =>
  rw [TRep] at h
  obtain ⟨vm, vn, vk, cs, rfl, _⟩ := h
  rfl
theorem TReps.length : ∀ {ks : List TD} {cs : List (List AV)}, TReps hs ks cs -> cs.length = ks.length
 | [], cs, h => by rw [TReps] at h; subst h; rfl
 | k :: ks, cs, h => by
  rw [TReps] at h
  obtain ⟨c, r, rfl, _, h3⟩ := h
  rw [List.length_cons, List.length_cons, TReps.length h3]
theorem TReps.at : ∀ {ks : List TD} {cs : List (List AV)} {i : Nat} {k : TD}, TReps hs ks cs -> ks[i]? = some k -> ∃ c, cs[i]? = some c /\ TRep hs k c
 | [], cs, i, k, h, hk => by simp at hk
 | x :: ks, cs, 0, k, h, hk => by
  rw [TReps] at h
  obtain ⟨c, r, rfl, h2, _⟩ := h
  simp at hk
  subst hk
  exact ⟨c, rfl, h2⟩
 | x :: ks, cs, i + 1, k, h, hk => by
  rw [TReps] at h
  obtain ⟨c, r, rfl, _, h3⟩ := h
  obtain ⟨c', h4, h5⟩ := TReps.at (i := i) h3 (by simpa using hk)
  exact ⟨c', by simpa using h4, h5⟩
theorem TReps.lens : ∀ {ks : List TD} {cs : List (List AV)}, TReps hs ks cs -> ∀ c ∈ cs, c.length = 11
 | [], cs, h, c, hc => by rw [TReps] at h; subst h; simp at hc
 | k :: ks, cs, h, c, hc => by
  rw [TReps] at h
  obtain ⟨c', r, rfl, h2, h3⟩ := h
  rcases List.mem_cons.1 hc with rfl | hc
  ·exact h2.len
  ·exact TReps.lens h3 c hc
theorem kP : ∀ {cs : List (List AV)}, (∀ c ∈ cs, c.length = 11) -> (cs.flatMap id).length = cs.length * 11
 | [], _ => rfl
 | c :: cs, h => by
  rw [List.flatMap_cons, List.length_append, kP fun x hx => h x (List.mem_cons_of_mem _ hx), List.length_cons, id, h c List.mem_cons_self]; omega
theorem kQ : ∀ {cs : List (List AV)} {i : Nat} {c : List AV}, (∀ c ∈ cs, c.length = 11) -> cs[i]? = some c -> ch (cs.flatMap id) (i * 11) 11 = some c
 | [], i, c, _, h => by simp at h
 | y :: cs, 0, c, hl, h => by
  simp at h
  subst h
  have hy := hl y List.mem_cons_self
  unfold ch
  rw [List.flatMap_cons, Nat.zero_mul, Nat.zero_add, id]
  have e : Nat.ble 11 (y ++ cs.flatMap id).length = true := Nat.ble_eq.mpr (by rw [List.length_append, hy]; omega)
  simp only [e]
  rw [List.drop_zero, List.take_append_of_le_length zy, List.take_of_length_le zy]
 | y :: cs, i + 1, c, hl, h => by
  have hy := hl y List.mem_cons_self
  have hl' : ∀ c ∈ cs, c.length = 11 := fun x hx => hl x (List.mem_cons_of_mem _ hx)
  have ih := kQ hl' (i := i) (c := c) (by simpa using h)
  have hlen := kP hl'
  have hi : i < cs.length := by simpa using (List.getElem?_eq_some_iff.1 h).1
  unfold ch at ih ⊢
  rw [List.flatMap_cons, id]
  have e : Nat.ble ((i + 1) * 11 + 11) (y ++ cs.flatMap id).length = true := Nat.ble_eq.mpr (by rw [List.length_append, hy, hlen]; omega)
  have e2 : Nat.ble (i * 11 + 11) (cs.flatMap id).length = true := Nat.ble_eq.mpr (by rw [hlen]; omega)
  simp only [e, e2] at ih ⊢
  rw [<- ih, List.drop_append, List.drop_of_length_le (by rw [hy]; omega), List.nil_append, hy]
  congr 3
  omega
end
def yx (L : List IE) : Nat -> Nat -> TD
 | 0, _ => .node ND.zero []
 | k + 1, i => .node (ei L i).d ((ei L i).ars.map fun a => yx L k a.toNat)
def AW (L : List IE) (i : Nat) : TD := yx L (i + 1) i
def A4 : TD := .node ND.zero []
section
variable {L : List IE} {i : Nat}
end
end Go.Proofs.YtndhhgbpcmfeiaaGreatDoor.Ev
