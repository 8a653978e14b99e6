/- What is needed of a plan, as plain law; a function's own instructions. -/
import Derived.Test.YtndhhgbpcmfeiaaGreatDoorPGd
namespace Go.Proofs.YtndhhgbpcmfeiaaGreatDoor.Ev
open Go.RowKit
inductive Need (L : List IE) : Nat -> Prop
 | last : Need L (L.length - 1)
 | arg {i : Nat} {a : Int} : Need L i -> i < L.length -> a ∈ (ei L i).ars -> Need L a.toNat
open Classical in
noncomputable def nb (L : List IE) (j : Nat) : Bool := decide (Need L j)
open Classical in
noncomputable def rW (L : List IE) (t : Nat) (j : Nat) : Bool := decide (j = L.length - 1 \/ ∃ (i : Nat) (a : Int), L.length - t <= i /\ i < L.length /\ Need L i /\ a ∈ (ei L i).ars /\ a.toNat = j)
open Classical in
noncomputable def wX (L : List IE) (t q : Nat) (j : Nat) : Bool := rW L t j || decide (Need L (L.length - 1 - t) /\ ∃ p, p < q /\ p < (ei L (L.length - 1 - t)).ars.length /\ (ai (ei L (L.length - 1 - t)).ars p).toNat = j)
section
variable {L : List IE} {t q i j k : Nat}
theorem iR : nb L j = true ↔ Need L j := by unfold nb; simp only [decide_eq_true_eq]
theorem kN : rW L t j = true ↔ (j = L.length - 1 \/ ∃ (i : Nat) (a : Int), L.length - t <= i /\ i < L.length /\ Need L i /\ a ∈ (ei L i).ars /\ a.toNat = j) := by unfold rW; simp only [decide_eq_true_eq]
theorem ik : wX L t q j = true ↔ (rW L t j = true \/ (Need L (L.length - 1 - t) /\ ∃ p, p < q /\ p < (ei L (L.length - 1 - t)).ars.length /\ (ai (ei L (L.length - 1 - t)).ars p).toNat = j)) := by
 unfold wX
 rw [Bool.or_eq_true]
 simp only [decide_eq_true_eq]
theorem gR {a b : Bool} (h : a = true ↔ b = true) : a = b := by cases a <;> cases b <;> simp_all
theorem AW : cB (fun k => if k = L.length - 1 then true else false) L.length = cB (rW L 0) L.length := by
 refine gE fun j hj => gR ?_
 rw [kN]
 constructor
 ·intro h
  split at h
  ·exact .inl (by assumption)
  ·cases h
 ·rintro (h | ⟨i, a, h1, h2, _⟩)
  ·simp [h]
  ·omega
theorem tE (h : rW L t j = true) : Need L j := by
 rcases kN.1 h with rfl | ⟨i, a, h1, h2, h3, h4, rfl⟩
 ·exact .last
 ·exact .arg h3 h2 h4
theorem wW (hok : ∀ i, i < L.length -> iD L i = true) (ht : t < L.length) : rW L t (L.length - 1 - t) = nb L (L.length - 1 - t) := by
 refine gR ⟨fun h => iR.2 (tE h), fun h => ?_⟩
 rw [kN]
 have h := iR.1 h
 generalize hj : L.length - 1 - t = j at h
 cases h with
 | last => exact .inl rfl
 | arg h1 h2 h3 =>
  rename_i i a
  have := eU (hok _ h2) h3
  exact .inr ⟨i, a, by omega, h2, h1, h3, rfl⟩
theorem AX : cB (rW L t) L.length = cB (wX L t 0) L.length := by
 refine gE fun j hj => gR ?_
 rw [ik]
 exact ⟨.inl, fun h => h.elim id fun ⟨_, p, hp, _⟩ => absurd hp (Nat.not_lt_zero _)⟩
theorem mN (hok : ∀ i, i < L.length -> iD L i = true) (ht : t < L.length) : wX L t q (L.length - 1 - t) = nb L (L.length - 1 - t) := by
 rw [<- wW hok ht]
 refine gR ?_
 rw [ik]
 refine ⟨fun h => h.elim id fun ⟨_, p, _, hp, e⟩ => ?_, .inl⟩
 have := eU (hok (L.length - 1 - t) zy) (gj hp)
 omega
theorem mO (hok : ∀ i, i < L.length -> iD L i = true) (ht : t < L.length) (hq : q < (ei L (L.length - 1 - t)).ars.length) {b : Bool} (hb : b = (wX L t q (ai (ei L (L.length - 1 - t)).ars q).toNat || wX L t q (L.length - 1 - t))) :
  cB (fun k => if k = (ai (ei L (L.length - 1 - t)).ars q).toNat then b else wX L t q k) L.length = cB (wX L t (q + 1)) L.length := by
 refine gE fun j hj => gR ?_
 rw [mN hok ht] at hb
 by_cases e : j = (ai (ei L (L.length - 1 - t)).ars q).toNat
 ·rw [if_pos e, hb, Bool.or_eq_true, iR, ik, ik, e]
  constructor
  ·rintro ((h | ⟨h1, p, h2, h3⟩) | h)
   ·exact .inl h
   ·exact .inr ⟨h1, p, by omega, h3⟩
   ·exact .inr ⟨h, q, by omega, hq, rfl⟩
  ·rintro (h | ⟨h1, p, h2, h3⟩)
   ·exact .inl (.inl h)
   ·exact .inr h1
 ·rw [if_neg e, ik, ik]
  constructor
  ·rintro (h | ⟨h1, p, h2, h3⟩)
   ·exact .inl h
   ·exact .inr ⟨h1, p, by omega, h3⟩
  ·rintro (h | ⟨h1, p, h2, h3, h4⟩)
   ·exact .inl h
   ·rcases Nat.lt_or_ge p q with hp | hp
    ·exact .inr ⟨h1, p, hp, h3, h4⟩
    ·obtain rfl : p = q := by omega
     exact absurd h4.symm e
theorem tC (ht : t < L.length) : cB (wX L t (ei L (L.length - 1 - t)).ars.length) L.length = cB (rW L (t + 1)) L.length := by
 refine gE fun j hj => gR ?_
 rw [ik, kN, kN]
 constructor
 ·rintro ((h | ⟨i, a, h1, h2⟩) | ⟨h1, p, h2, h3, h4⟩)
  ·exact .inl h
  ·exact .inr ⟨i, a, by omega, h2⟩
  ·exact .inr ⟨L.length - 1 - t, _, by omega, by omega, h1, gj h3, h4⟩
 ·rintro (h | ⟨i, a, h1, h2, h3, h4, h5⟩)
  ·exact .inl (.inl h)
  ·rcases Nat.lt_or_ge i (L.length - t) with hi | hi
   ·obtain rfl : i = L.length - 1 - t := by omega
    obtain ⟨p, hp⟩ := List.getElem?_of_mem h4
    have hl := (List.getElem?_eq_some_iff.1 hp).1
    rw [iz hl] at hp
    exact .inr ⟨h3, p, hl, hl, by rw [Option.some.inj hp]; exact h5⟩
   ·exact .inl (.inr ⟨i, a, hi, h2, h3, h4, h5⟩)
theorem tB : cB (rW L L.length) L.length = cB (nb L) L.length := by
 refine gE fun j hj => gR ?_
 rw [iR]
 refine ⟨tE, fun h => kN.2 ?_⟩
 cases h with
 | last => exact .inl rfl
 | arg h1 h2 h3 => exact .inr ⟨_, _, by omega, h2, h1, h3, rfl⟩
end
noncomputable def j9 (L : List IE) (j : Nat) : Nat := ((List.range j).filter (nb L)).length
noncomputable def sF (L : List IE) (i j : Nat) : Int := if j < i /\ nb L j = true then ((j9 L j : Nat) : Int) else 0
noncomputable def fN (L : List IE) (A : List Int) : List Int := A.map fun a => ((j9 L a.toNat : Nat) : Int)
noncomputable def gf (L : List IE) (i : Nat) : List (ND × List Int) := ((List.range i).filter (nb L)).map fun j => ((ei L j).d, fN L (ei L j).ars)
section
variable {L : List IE} {i j : Nat}
theorem po : j9 L j <= j := Nat.le_trans (List.length_filter_le _ _) (by rw [List.length_range]; exact Nat.le_refl _)
theorem yJ : (gf L i).length = j9 L i := by unfold gf j9; rw [List.length_map]
theorem C0 (h : nb L i = true) : gf L (i + 1) = gf L i ++ [((ei L i).d, fN L (ei L i).ars)] := by
 unfold gf
 rw [List.range_succ, List.filter_append, List.map_append]
 simp [h]
theorem CZ (h : nb L i = false) : gf L (i + 1) = gf L i := by
 unfold gf
 rw [List.range_succ, List.filter_append, List.map_append]
 simp [h]
theorem Do : cN (fun _ => 0) L.length = cN (sF L 0) L.length := l7 fun j _ => by unfold sF; rw [if_neg zy]
theorem Dq (h : nb L i = true) : cN (fun k => if k = i then ((j9 L i : Nat) : Int) else sF L i k) L.length = cN (sF L (i + 1)) L.length := by
 refine l7 fun j _ => ?_
 unfold sF
 by_cases e : j = i
 ·subst e; rw [if_pos rfl, if_pos ⟨by omega, h⟩]
 ·rw [if_neg e]
  by_cases g : j < i /\ nb L j = true
  ·rw [if_pos g, if_pos ⟨by omega, g.2⟩]
  ·rw [if_neg g, if_neg fun q => g ⟨by omega, q.2⟩]
theorem Dp (h : nb L i = false) : cN (sF L i) L.length = cN (sF L (i + 1)) L.length := by
 refine l7 fun j _ => ?_
 unfold sF
 by_cases g : j < i /\ nb L j = true
 ·rw [if_pos g, if_pos ⟨by omega, g.2⟩]
 ·rw [if_neg g, if_neg fun q => g ⟨by
   have : j ≠ i := fun e => by subst e; rw [h] at q; exact absurd q.2 (by decide)
   omega, q.2⟩]
theorem Ac (hok : iD L i = true) (hi : i < L.length) (hn : nb L i = true) : ez ((List.range L.length).map (sF L (i + 1))) (ei L i).ars = fN L (ei L i).ars := by
 unfold ez fN
 refine List.map_congr_left fun a ha => ?_
 obtain ⟨h1, h2⟩ := eU hok ha
 rw [uZ zy]
 unfold sF
 rw [if_pos ⟨by omega, iR.2 (.arg (iR.1 hn) hi ha)⟩]
theorem kV {A : List Int} : (fN L A).length = A.length := by unfold fN; rw [List.length_map]
end
def D2 (W : List IE) : List (ND × List Int) := W.map fun x => (x.d, x.ars)
def WZ (hl : ad) : Prop := ∀ e ∈ hl, e.w = true /\ 0 < e.o.sz
theorem WZ.nil : WZ [] := fun e h => by simp at h
theorem WZ.app {a b : ad} (h : WZ a) (g : WZ b) : WZ (a ++ b) := fun e he => (List.mem_append.1 he).elim (h e) (g e)
theorem WZ.w {a : ad} (h : WZ a) : ∀ e ∈ a, e.w = true := fun e he => (h e he).1
theorem WZ.own {sz n : Nat} {cells : List AV} {v : AV} {hp : ad} (h : OwnE (sz + 1) cells n v hp) : WZ hp := by
 rcases h with ⟨_, _, _, rfl⟩ | ⟨b, ex, _, rfl, _⟩
 ·exact WZ.nil
 ·intro e he
  rw [List.mem_singleton.1 he]
  exact ⟨rfl, Nat.succ_pos _⟩
def IOwn (W : List IE) (w : AV) (D : ad) : Prop := ∃ hp hl, D = hp ++ hl /\ OwnE 12 (cI W) W.length w hp /\ (∀ x ∈ W, IOK hl x /\ x.nk = 0) /\ WZ hl /\ ILB W
section
variable {W : List IE} {wv : AV} {D hs : ad} {x : IE}
theorem fq : D2 (W ++ [x]) = D2 W ++ [(x.d, x.ars)] := by unfold D2; rw [List.map_append]; rfl
theorem aK : (D2 W).length = W.length := List.length_map _
theorem fp : cI (W ++ [x]) = cI W ++ x.c := by unfold cI; rw [List.flatMap_append]; simp
theorem IOwn.nil : IOwn [] .nils [] := ⟨[], [], rfl, OwnE.nil 12, fun x hx => by simp at hx, WZ.nil, by simp, fun x hx => by simp at hx⟩
theorem IOwn.w (h : IOwn W wv D) : ∀ e ∈ D, e.w = true := by
 obtain ⟨hp, hl, rfl, hO, _, hw, _⟩ := h
 exact wa (OwnE.w hO) hw.w
theorem IOwn.iin (h : IOwn W wv D) : IIn D W wv := by
 obtain ⟨hp, hl, rfl, hO, hx, hw, _⟩ := h
 exact ⟨(RIn.own hO).appl, fun x hx' => (hx x hx').1.mono fun b o q => q.app⟩
theorem IOwn.lb (h : IOwn W wv D) : ILB W := by
 obtain ⟨hp, hl, rfl, hO, hx, hw, hb⟩ := h
 exact hb
theorem IOwn.nk (h : IOwn W wv D) : ∀ x ∈ W, x.nk = 0 := by
 obtain ⟨hp, hl, rfl, hO, hx, hw, hb⟩ := h
 exact fun x h => (hx x h).2
theorem IIn.ro {L : List IE} {v : AV} (h : IIn hs L v) : IIn (ro hs) L v := h.mono fun b o q => q.ro
theorem IIn.app {A : ad} {L : List IE} {v : AV} (h : IIn hs L v) : IIn (A ++ hs) L v := h.mono fun b o q => q.app
theorem IIn.appl {A : ad} {L : List IE} {v : AV} (h : IIn hs L v) : IIn (hs ++ A) L v := h.mono fun b o q => q.appl'
end
def sM (L : List IE) (e : Nat) (Q : List (ND × List Int)) : Prop := (dE L ≠ 0 /\ e = dE L /\ Q = []) \/ (dE L = 0 /\ e = 0 /\ Q = gf L L.length)
inductive TD
 | node (d : ND) (ks : List TD)
mutual
def TRep (hs : ad) : TD -> List AV -> Prop
 | .node d ks, c => ∃ vm vn vk cs, c = d.c vm vn vk /\ RIn hs 3 d.ms.length (cM d.ms) vm /\ RIn hs 1 d.nm.length (cS d.nm) vn /\ RIn hs 11 ks.length (cs.flatMap id) vk /\ d.bd /\ ks.length <= 1048576 /\ TReps hs ks cs
def TReps (hs : ad) : List TD -> List (List AV) -> Prop
 | [], cs => cs = []
 | k :: ks, cs => ∃ c r, cs = c :: r /\ TRep hs k c /\ TReps hs ks r
end
mutual
theorem TRep.mono {hs hs' : ad} (hm : ∀ b o, MemH hs b o -> MemH hs' b o) : ∀ {t : TD} {c : List AV}, TRep hs t c -> TRep hs' t c
 | .node d ks, c, h => by
  rw [TRep] at h ⊢
  obtain ⟨vm, vn, vk, cs, h1, h2, h3, h4, h5, h6, h7⟩ := h
  exact ⟨vm, vn, vk, cs, h1, h2.mono hm, h3.mono hm, h4.mono hm, h5, h6, TReps.mono hm h7⟩
theorem TReps.mono {hs hs' : ad} (hm : ∀ b o, MemH hs b o -> MemH hs' b o) : ∀ {ks : List TD} {cs : List (List AV)}, TReps hs ks cs -> TReps hs' ks cs
 | [], cs, h => by rw [TReps] at h ⊢; exact h
 | k :: ks, cs, h => by
  rw [TReps] at h ⊢
  obtain ⟨c, r, h1, h2, h3⟩ := h
  exact ⟨c, r, h1, TRep.mono hm h2, TReps.mono hm h3⟩
end
section
variable {hs : ad} {t : TD} {ks : List TD} {c : List AV} {cs : List (List AV)}
theorem TRep.len (h : TRep hs t c) : c.length = 11 := by
 cases t with
 | node d ks =>
  rw [TRep] at h
  obtain ⟨vm, vn, vk, cs, rfl, _⟩ := h
  rfl
theorem TReps.length : ∀ {ks : List TD} {cs : List (List AV)}, TReps hs ks cs -> cs.length = ks.length
 | [], cs, h => by rw [TReps] at h; subst h; rfl
 | k :: ks, cs, h => by
  rw [TReps] at h
  obtain ⟨c, r, rfl, _, h3⟩ := h
  rw [List.length_cons, List.length_cons, TReps.length h3]
theorem TReps.at : ∀ {ks : List TD} {cs : List (List AV)} {i : Nat} {k : TD}, TReps hs ks cs -> ks[i]? = some k -> ∃ c, cs[i]? = some c /\ TRep hs k c
 | [], cs, i, k, h, hk => by simp at hk
 | x :: ks, cs, 0, k, h, hk => by
  rw [TReps] at h
  obtain ⟨c, r, rfl, h2, _⟩ := h
  simp at hk
  subst hk
  exact ⟨c, rfl, h2⟩
 | x :: ks, cs, i + 1, k, h, hk => by
  rw [TReps] at h
  obtain ⟨c, r, rfl, _, h3⟩ := h
  obtain ⟨c', h4, h5⟩ := TReps.at (i := i) h3 (by simpa using hk)
  exact ⟨c', by simpa using h4, h5⟩
theorem TReps.lens : ∀ {ks : List TD} {cs : List (List AV)}, TReps hs ks cs -> ∀ c ∈ cs, c.length = 11
 | [], cs, h, c, hc => by rw [TReps] at h; subst h; simp at hc
 | k :: ks, cs, h, c, hc => by
  rw [TReps] at h
  obtain ⟨c', r, rfl, h2, h3⟩ := h
  rcases List.mem_cons.1 hc with rfl | hc
  ·exact h2.len
  ·exact TReps.lens h3 c hc
theorem li : ∀ {cs : List (List AV)}, (∀ c ∈ cs, c.length = 11) -> (cs.flatMap id).length = cs.length * 11
 | [], _ => rfl
 | c :: cs, h => by
  rw [List.flatMap_cons, List.length_append, li fun x hx => h x (List.mem_cons_of_mem _ hx), List.length_cons, id, h c List.mem_cons_self]; omega
theorem iP : ∀ {cs : List (List AV)} {i : Nat} {c : List AV}, (∀ c ∈ cs, c.length = 11) -> cs[i]? = some c -> du (cs.flatMap id) (i * 11) 11 = some c
 | [], i, c, _, h => by simp at h
 | y :: cs, 0, c, hl, h => by
  simp at h
  subst h
  have hy := hl y List.mem_cons_self
  unfold du
  rw [List.flatMap_cons, Nat.zero_mul, Nat.zero_add, id]
  have e : Nat.ble 11 (y ++ cs.flatMap id).length = true := Nat.ble_eq.mpr (by rw [List.length_append, hy]; omega)
  simp only [e]
  rw [List.drop_zero, List.take_append_of_le_length zy, List.take_of_length_le zy]
 | y :: cs, i + 1, c, hl, h => by
  have hy := hl y List.mem_cons_self
  have hl' : ∀ c ∈ cs, c.length = 11 := fun x hx => hl x (List.mem_cons_of_mem _ hx)
  have ih := iP hl' (i := i) (c := c) (by simpa using h)
  have hlen := li hl'
  have hi : i < cs.length := by simpa using (List.getElem?_eq_some_iff.1 h).1
  unfold du at ih ⊢
  rw [List.flatMap_cons, id]
  have e : Nat.ble ((i + 1) * 11 + 11) (y ++ cs.flatMap id).length = true := Nat.ble_eq.mpr (by rw [List.length_append, hy, hlen]; omega)
  have e2 : Nat.ble (i * 11 + 11) (cs.flatMap id).length = true := Nat.ble_eq.mpr (by rw [hlen]; omega)
  simp only [e, e2] at ih ⊢
  rw [<- ih, List.drop_append, List.drop_of_length_le (by rw [hy]; omega), List.nil_append, hy]
  congr 3
  omega
end
def C1 : TD := .node ND.zero []
section
variable {L : List IE} {i : Nat}
end
end Go.Proofs.YtndhhgbpcmfeiaaGreatDoor.Ev
