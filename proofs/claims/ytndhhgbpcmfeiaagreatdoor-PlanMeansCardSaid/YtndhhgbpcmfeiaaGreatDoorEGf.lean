/- Rows that are made of one thing. -/
import Derived.Test.YtndhhgbpcmfeiaaGreatDoorEGc
namespace Go.Proofs.YtndhhgbpcmfeiaaGreatDoor.Ev
open Go.RowKit
noncomputable def MS (tb : Tab) (t : Nat) : Option (Nat × List AV) :=
 match tb.und t with
 | some (.slice e) => match tb.tt.get e, tb.zero e with
  | some ti, some z => match Nat.ble ti.bytes 4096 && Nat.beq z.cells.length ti.size && Nat.blt 0 ti.size with
   | true => some (ti.size, z.cells)
   | false => none
  | _, _ => none
 | _ => none
section
variable {tb : Tab} {n : Nat} {E : Env} {s : St} {hs : HSt} {R : T AV → AHeap → Prop} {ops rest : List Oper} {d : Nat} {t : TypeId} {ty : TypeId} {pos : String} {aft : Array Edge}
theorem WO.mslice {ol oc : Operand} {m sz : Nat} {zc cs : List AV} (hM : MS tb t = some (sz, zc)) (hl : oL s ol = some (.int .i64 ((m : Nat) : Int))) (hc : oL s oc = some (.int .i64 ((m : Nat) : Int))) (hm : m ≤ 1073741824) (hr : repl m zc = cs) (hd : Nat.blt d n = true)
  (hk : ∀ b, WO tb n ops rest E ((d, .slice b 0 m sz) :: s) (⟨b, ⟨sz, true, cs⟩, true⟩ :: hs) R) :
  WO tb n ops (⟨some d, .makeSlice t ol oc, ty, pos, aft, none⟩ :: rest) E s hs R := by
 refine WO.l (s' := s) fun tm h ht hh => ?_
 refine ⟨.slice h.next 0 m sz, ⟨h.next + 1, h.objs.set h.next ⟨sz, true, cs⟩⟩, tm.set d (.slice h.next 0 m sz), ?_, putDst_at hd, hk h.next _ _ (ht.set d _) (hh.new _)⟩
 show Res.l (evMakeSlice tb tm h t ol oc) = _
 unfold MS at hM
 split at hM
 rotate_left
 ·cases hM
 rename_i e hu
 split at hM
 rotate_left
 ·cases hM
 rename_i ti z h1 h2
 split at hM
 rotate_left
 ·cases hM
 rename_i hb
 simp only [Option.some.injEq, Prod.mk.injEq] at hM
 obtain ⟨rfl, rfl⟩ := hM
 simp only [Bool.and_eq_true] at hb
 have e1 : natOf (some (AV.int .i64 ((m : Nat) : Int))) = some m := rfl
 have e2 : Nat.ble m 1073741824 = true := Nat.ble_eq.mpr hm
 have e3 : Nat.ble m m = true := Nat.ble_eq.mpr (Nat.le_refl m)
 unfold evMakeSlice
 simp only [hu, oL_ok ht hl, oL_ok ht hc, e1, h1, h2, hb.1.1, hb.1.2, hb.2, e2, e3, Bool.and_self, hr]
end
def cB (g : Nat → Bool) (n : Nat) : List AV := (List.range n).map fun j => AV.bool (g j)
def cN (g : Nat → Int) (n : Nat) : List AV := (List.range n).map fun j => AV.int .i64 (g j)
theorem repl_map {v : AV} : ∀ n : Nat, repl n [v] = (List.range n).map fun _ => v
 | 0 => rfl
 | n + 1 => by rw [List.range_succ_eq_map, List.map_cons, List.map_map]; exact congrArg (v :: ·) (repl_map n)
theorem repl_b (n : Nat) : repl n [.bool false] = cB (fun _ => false) n := repl_map n
theorem repl_n (n : Nat) : repl n [.int .i64 0] = cN (fun _ => 0) n := repl_map n
section
variable {g : Nat → Bool} {f : Nat → Int} {n j : Nat} {b : Bool} {x : Int}
theorem cB_len : (cB g n).length = n := by simp [cB]
theorem cN_len : (cN f n).length = n := by simp [cN]
theorem cB_at (h : j < n) : (cB g n)[(0 + j) * 1]? = some (.bool (g j)) := by
 rw [Nat.zero_add, Nat.mul_one, cB, List.getElem?_map, List.getElem?_range h]; rfl
theorem cN_at (h : j < n) : (cN f n)[(0 + j) * 1]? = some (.int .i64 (f j)) := by
 rw [Nat.zero_add, Nat.mul_one, cN, List.getElem?_map, List.getElem?_range h]; rfl
theorem cB_le (h : j < n) : Nat.ble ((0 + j) * 1 + 1) (cB g n).length = true := Nat.ble_eq.mpr (by rw [cB_len]; omega)
theorem cN_le (h : j < n) : Nat.ble ((0 + j) * 1 + 1) (cN f n).length = true := Nat.ble_eq.mpr (by rw [cN_len]; omega)
theorem cB_lay (h : j < n) : layL (cB g n) ((0 + j) * 1) (AV.bool b).cells = cB (fun k => if k = j then b else g k) n := by
 rw [Nat.zero_add, Nat.mul_one, cells_cell rfl, lay_set _ _ _ (by rw [cB_len]; exact h)]
 apply List.ext_getElem?
 intro k
 rw [List.getElem?_set]
 unfold cB
 by_cases hk : k < n
 ·by_cases e : j = k
  ·subst e; simp [h]
  ·have e' : ¬ k = j := fun q => e q.symm
   simp [hk, e, e']
 ·rw [List.getElem?_eq_none (by simp; omega), List.getElem?_eq_none (by simp; omega)]
  simp; omega
theorem cN_lay (h : j < n) : layL (cN f n) ((0 + j) * 1) (AV.int .i64 x).cells = cN (fun k => if k = j then x else f k) n := by
 rw [Nat.zero_add, Nat.mul_one, cells_cell rfl, lay_set _ _ _ (by rw [cN_len]; exact h)]
 apply List.ext_getElem?
 intro k
 rw [List.getElem?_set]
 unfold cN
 by_cases hk : k < n
 ·by_cases e : j = k
  ·subst e; simp [h]
  ·have e' : ¬ k = j := fun q => e q.symm
   simp [hk, e, e']
 ·rw [List.getElem?_eq_none (by simp; omega), List.getElem?_eq_none (by simp; omega)]
  simp; omega
theorem cB_congr {g' : Nat → Bool} (h : ∀ j, j < n → g j = g' j) : cB g n = cB g' n := List.map_congr_left fun j hj => by rw [h j (List.mem_range.1 hj)]
theorem cN_congr {f' : Nat → Int} (h : ∀ j, j < n → f j = f' j) : cN f n = cN f' n := List.map_congr_left fun j hj => by rw [h j (List.mem_range.1 hj)]
theorem cN_row : cN f n = cA ((List.range n).map f) := by unfold cN cA; rw [List.map_map]; rfl
theorem ai_map (h : j < n) : ai ((List.range n).map f) j = f j := by
 unfold ai
 rw [List.getD_eq_getElem?_getD, List.getElem?_map, List.getElem?_range h]; rfl
end
inductive Need (L : List IE) : Nat → Prop
 | last : Need L (L.length - 1)
 | arg {i : Nat} {a : Int} : Need L i → i < L.length → a ∈ (ei L i).ars → Need L a.toNat
open Classical in
noncomputable def nb (L : List IE) (j : Nat) : Bool := decide (Need L j)
open Classical in
noncomputable def ndF (L : List IE) (t : Nat) (j : Nat) : Bool := decide (j = L.length - 1 ∨ ∃ (i : Nat) (a : Int), L.length - t ≤ i ∧ i < L.length ∧ Need L i ∧ a ∈ (ei L i).ars ∧ a.toNat = j)
open Classical in
noncomputable def ndG (L : List IE) (t q : Nat) (j : Nat) : Bool := ndF L t j || decide (Need L (L.length - 1 - t) ∧ ∃ p, p < q ∧ p < (ei L (L.length - 1 - t)).ars.length ∧ (ai (ei L (L.length - 1 - t)).ars p).toNat = j)
section
variable {L : List IE} {t q i j k : Nat}
theorem nb_is : nb L j = true ↔ Need L j := by unfold nb; simp only [decide_eq_true_eq]
theorem ndF_is : ndF L t j = true ↔ (j = L.length - 1 ∨ ∃ (i : Nat) (a : Int), L.length - t ≤ i ∧ i < L.length ∧ Need L i ∧ a ∈ (ei L i).ars ∧ a.toNat = j) := by unfold ndF; simp only [decide_eq_true_eq]
theorem ndG_is : ndG L t q j = true ↔ (ndF L t j = true ∨ (Need L (L.length - 1 - t) ∧ ∃ p, p < q ∧ p < (ei L (L.length - 1 - t)).ars.length ∧ (ai (ei L (L.length - 1 - t)).ars p).toNat = j)) := by
 unfold ndG
 rw [Bool.or_eq_true]
 simp only [decide_eq_true_eq]
theorem beq_of {a b : Bool} (h : a = true ↔ b = true) : a = b := by cases a <;> cases b <;> simp_all
theorem ndF_0 : cB (fun k => if k = L.length - 1 then true else false) L.length = cB (ndF L 0) L.length := by
 refine cB_congr fun j hj => beq_of ?_
 rw [ndF_is]
 constructor
 ·intro h
  split at h
  ·exact .inl (by assumption)
  ·cases h
 ·rintro (h | ⟨i, a, h1, h2, _⟩)
  ·simp [h]
  ·omega
theorem nd_need (h : ndF L t j = true) : Need L j := by
 rcases ndF_is.1 h with rfl | ⟨i, a, h1, h2, h3, h4, rfl⟩
 ·exact .last
 ·exact .arg h3 h2 h4
theorem ndF_self (hok : ∀ i, i < L.length → okI L i = true) (ht : t < L.length) : ndF L t (L.length - 1 - t) = nb L (L.length - 1 - t) := by
 refine beq_of ⟨fun h => nb_is.2 (nd_need h), fun h => ?_⟩
 rw [ndF_is]
 have h := nb_is.1 h
 generalize hj : L.length - 1 - t = j at h
 cases h with
 | last => exact .inl rfl
 | arg h1 h2 h3 =>
  rename_i i a
  have := ok_ar (hok _ h2) h3
  exact .inr ⟨i, a, by omega, h2, h1, h3, rfl⟩
theorem ndG_0 : cB (ndF L t) L.length = cB (ndG L t 0) L.length := by
 refine cB_congr fun j hj => beq_of ?_
 rw [ndG_is]
 exact ⟨.inl, fun h => h.elim id fun ⟨_, p, hp, _⟩ => absurd hp (Nat.not_lt_zero _)⟩
theorem ndG_self (hok : ∀ i, i < L.length → okI L i = true) (ht : t < L.length) : ndG L t q (L.length - 1 - t) = nb L (L.length - 1 - t) := by
 rw [← ndF_self hok ht]
 refine beq_of ?_
 rw [ndG_is]
 refine ⟨fun h => h.elim id fun ⟨_, p, _, hp, e⟩ => ?_, .inl⟩
 have := ok_ar (hok (L.length - 1 - t) zy) (ai_mem hp)
 omega
theorem ndG_step (hok : ∀ i, i < L.length → okI L i = true) (ht : t < L.length) (hq : q < (ei L (L.length - 1 - t)).ars.length) {b : Bool} (hb : b = (ndG L t q (ai (ei L (L.length - 1 - t)).ars q).toNat || ndG L t q (L.length - 1 - t))) :
  cB (fun k => if k = (ai (ei L (L.length - 1 - t)).ars q).toNat then b else ndG L t q k) L.length = cB (ndG L t (q + 1)) L.length := by
 refine cB_congr fun j hj => beq_of ?_
 rw [ndG_self hok ht] at hb
 by_cases e : j = (ai (ei L (L.length - 1 - t)).ars q).toNat
 ·rw [if_pos e, hb, Bool.or_eq_true, nb_is, ndG_is, ndG_is, e]
  constructor
  ·rintro ((h | ⟨h1, p, h2, h3⟩) | h)
   ·exact .inl h
   ·exact .inr ⟨h1, p, by omega, h3⟩
   ·exact .inr ⟨h, q, by omega, hq, rfl⟩
  ·rintro (h | ⟨h1, p, h2, h3⟩)
   ·exact .inl (.inl h)
   ·exact .inr h1
 ·rw [if_neg e, ndG_is, ndG_is]
  constructor
  ·rintro (h | ⟨h1, p, h2, h3⟩)
   ·exact .inl h
   ·exact .inr ⟨h1, p, by omega, h3⟩
  ·rintro (h | ⟨h1, p, h2, h3, h4⟩)
   ·exact .inl h
   ·rcases Nat.lt_or_ge p q with hp | hp
    ·exact .inr ⟨h1, p, hp, h3, h4⟩
    ·obtain rfl : p = q := by omega
     exact absurd h4.symm e
theorem ndG_end (ht : t < L.length) : cB (ndG L t (ei L (L.length - 1 - t)).ars.length) L.length = cB (ndF L (t + 1)) L.length := by
 refine cB_congr fun j hj => beq_of ?_
 rw [ndG_is, ndF_is, ndF_is]
 constructor
 ·rintro ((h | ⟨i, a, h1, h2⟩) | ⟨h1, p, h2, h3, h4⟩)
  ·exact .inl h
  ·exact .inr ⟨i, a, by omega, h2⟩
  ·exact .inr ⟨L.length - 1 - t, _, by omega, by omega, h1, ai_mem h3, h4⟩
 ·rintro (h | ⟨i, a, h1, h2, h3, h4, h5⟩)
  ·exact .inl (.inl h)
  ·rcases Nat.lt_or_ge i (L.length - t) with hi | hi
   ·obtain rfl : i = L.length - 1 - t := by omega
    obtain ⟨p, hp⟩ := List.getElem?_of_mem h4
    have hl := (List.getElem?_eq_some_iff.1 hp).1
    rw [ai_at hl] at hp
    exact .inr ⟨h3, p, hl, hl, by rw [Option.some.inj hp]; exact h5⟩
   ·exact .inl (.inr ⟨i, a, hi, h2, h3, h4, h5⟩)
theorem ndF_all : cB (ndF L L.length) L.length = cB (nb L) L.length := by
 refine cB_congr fun j hj => beq_of ?_
 rw [nb_is]
 refine ⟨nd_need, fun h => ndF_is.2 ?_⟩
 cases h with
 | last => exact .inl rfl
 | arg h1 h2 h3 => exact .inr ⟨_, _, by omega, h2, h1, h3, rfl⟩
end
noncomputable def posN (L : List IE) (j : Nat) : Nat := ((List.range j).filter (nb L)).length
noncomputable def toF (L : List IE) (i j : Nat) : Int := if j < i ∧ nb L j = true then ((posN L j : Nat) : Int) else 0
noncomputable def trimA (L : List IE) (A : List Int) : List Int := A.map fun a => ((posN L a.toNat : Nat) : Int)
noncomputable def trimP (L : List IE) (i : Nat) : List (ND × List Int) := ((List.range i).filter (nb L)).map fun j => ((ei L j).d, trimA L (ei L j).ars)
section
variable {L : List IE} {i j : Nat}
theorem pos_y (h : nb L j = true) : posN L (j + 1) = posN L j + 1 := by
 unfold posN
 rw [List.range_succ, List.filter_append, List.length_append]
 simp [h]
theorem pos_n (h : nb L j = false) : posN L (j + 1) = posN L j := by
 unfold posN
 rw [List.range_succ, List.filter_append, List.length_append]
 simp [h]
theorem pos_le : posN L j ≤ j := Nat.le_trans (List.length_filter_le _ _) (by rw [List.length_range]; exact Nat.le_refl _)
theorem tp_len : (trimP L i).length = posN L i := by unfold trimP posN; rw [List.length_map]
theorem tp_y (h : nb L i = true) : trimP L (i + 1) = trimP L i ++ [((ei L i).d, trimA L (ei L i).ars)] := by
 unfold trimP
 rw [List.range_succ, List.filter_append, List.map_append]
 simp [h]
theorem tp_n (h : nb L i = false) : trimP L (i + 1) = trimP L i := by
 unfold trimP
 rw [List.range_succ, List.filter_append, List.map_append]
 simp [h]
theorem to_0 : cN (fun _ => 0) L.length = cN (toF L 0) L.length := cN_congr fun j _ => by unfold toF; rw [if_neg zy]
theorem to_y (h : nb L i = true) : cN (fun k => if k = i then ((posN L i : Nat) : Int) else toF L i k) L.length = cN (toF L (i + 1)) L.length := by
 refine cN_congr fun j _ => ?_
 unfold toF
 by_cases e : j = i
 ·subst e; rw [if_pos rfl, if_pos ⟨by omega, h⟩]
 ·rw [if_neg e]
  by_cases g : j < i ∧ nb L j = true
  ·rw [if_pos g, if_pos ⟨by omega, g.2⟩]
  ·rw [if_neg g, if_neg fun q => g ⟨by omega, q.2⟩]
theorem to_n (h : nb L i = false) : cN (toF L i) L.length = cN (toF L (i + 1)) L.length := by
 refine cN_congr fun j _ => ?_
 unfold toF
 by_cases g : j < i ∧ nb L j = true
 ·rw [if_pos g, if_pos ⟨by omega, g.2⟩]
 ·rw [if_neg g, if_neg fun q => g ⟨by
   have : j ≠ i := fun e => by subst e; rw [h] at q; exact absurd q.2 (by decide)
   omega, q.2⟩]
theorem mv_trim (hok : okI L i = true) (hi : i < L.length) (hn : nb L i = true) : mvA ((List.range L.length).map (toF L (i + 1))) (ei L i).ars = trimA L (ei L i).ars := by
 unfold mvA trimA
 refine List.map_congr_left fun a ha => ?_
 obtain ⟨h1, h2⟩ := ok_ar hok ha
 rw [ai_map zy]
 unfold toF
 rw [if_pos ⟨by omega, nb_is.2 (.arg (nb_is.1 hn) hi ha)⟩]
theorem trimA_len {A : List Int} : (trimA L A).length = A.length := by unfold trimA; rw [List.length_map]
end
def D2 (W : List IE) : List (ND × List Int) := W.map fun x => (x.d, x.ars)
def IOwn (W : List IE) (w : AV) (D : HSt) : Prop := ∃ hp hl, D = hp ++ hl ∧ OwnE 12 (cI W) W.length w hp ∧ (∀ x ∈ W, IOK hl x ∧ x.nk = 0) ∧ (∀ e ∈ hl, e.w = true) ∧ ILB W
section
variable {W : List IE} {wv : AV} {D hs : HSt} {x : IE}
theorem d2_snoc : D2 (W ++ [x]) = D2 W ++ [(x.d, x.ars)] := by unfold D2; rw [List.map_append]; rfl
theorem d2_len : (D2 W).length = W.length := List.length_map _
theorem cI_snoc : cI (W ++ [x]) = cI W ++ x.c := by unfold cI; rw [List.flatMap_append]; simp
theorem IOwn.nil : IOwn [] .nils [] := ⟨[], [], rfl, OwnE.nil 12, fun x hx => by simp at hx, no_wl, by simp, fun x hx => by simp at hx⟩
theorem IOwn.w (h : IOwn W wv D) : ∀ e ∈ D, e.w = true := by
 obtain ⟨hp, hl, rfl, hO, _, hw, _⟩ := h
 exact wa (OwnE.w hO) hw
theorem IOwn.iin (h : IOwn W wv D) : IIn D W wv := by
 obtain ⟨hp, hl, rfl, hO, hx, hw, _⟩ := h
 exact ⟨(RIn.own hO).appl, fun x hx' => (hx x hx').1.mono fun b o q => q.app⟩
theorem IOwn.lb (h : IOwn W wv D) : ILB W := by
 obtain ⟨hp, hl, rfl, hO, hx, hw, hb⟩ := h
 exact hb
theorem IOwn.nk (h : IOwn W wv D) : ∀ x ∈ W, x.nk = 0 := by
 obtain ⟨hp, hl, rfl, hO, hx, hw, hb⟩ := h
 exact fun x h => (hx x h).2
theorem IIn.ro {L : List IE} {v : AV} (h : IIn hs L v) : IIn (ro hs) L v := h.mono fun b o q => q.ro
theorem IIn.app {A : HSt} {L : List IE} {v : AV} (h : IIn hs L v) : IIn (A ++ hs) L v := h.mono fun b o q => q.app
theorem IIn.appl {A : HSt} {L : List IE} {v : AV} (h : IIn hs L v) : IIn (hs ++ A) L v := h.mono fun b o q => q.appl'
end
def TrimR (L : List IE) (e : Nat) (Q : List (ND × List Int)) : Prop := (chkI L ≠ 0 ∧ e = chkI L ∧ Q = []) ∨ (chkI L = 0 ∧ e = 0 ∧ Q = trimP L L.length)
inductive TD
 | node (d : ND) (ks : List TD)
mutual
def TRep (hs : HSt) : TD → List AV → Prop
 | .node d ks, c => ∃ vm vn vk cs, c = d.c vm vn vk ∧ RIn hs 3 d.ms.length (cM d.ms) vm ∧ RIn hs 1 d.nm.length (cS d.nm) vn ∧ RIn hs 11 ks.length (cs.flatMap id) vk ∧ d.bd ∧ ks.length ≤ 1048576 ∧ TReps hs ks cs
def TReps (hs : HSt) : List TD → List (List AV) → Prop
 | [], cs => cs = []
 | k :: ks, cs => ∃ c r, cs = c :: r ∧ TRep hs k c ∧ TReps hs ks r
end
mutual
theorem TRep.mono {hs hs' : HSt} (hm : ∀ b o, MemH hs b o → MemH hs' b o) : ∀ {t : TD} {c : List AV}, TRep hs t c → TRep hs' t c
 | .node d ks, c, h => by
  rw [TRep] at h ⊢
  obtain ⟨vm, vn, vk, cs, h1, h2, h3, h4, h5, h6, h7⟩ := h
  exact ⟨vm, vn, vk, cs, h1, h2.mono hm, h3.mono hm, h4.mono hm, h5, h6, TReps.mono hm h7⟩
theorem TReps.mono {hs hs' : HSt} (hm : ∀ b o, MemH hs b o → MemH hs' b o) : ∀ {ks : List TD} {cs : List (List AV)}, TReps hs ks cs → TReps hs' ks cs
 | [], cs, h => by rw [TReps] at h ⊢; exact h
 | k :: ks, cs, h => by
  rw [TReps] at h ⊢
  obtain ⟨c, r, h1, h2, h3⟩ := h
  exact ⟨c, r, h1, TRep.mono hm h2, TReps.mono hm h3⟩
end
section
variable {hs : HSt} {t : TD} {ks : List TD} {c : List AV} {cs : List (List AV)}
theorem TRep.len (h : TRep hs t c) : c.length = 11 := by
 cases t with
 | node d ks =>
  rw [TRep] at h
  obtain ⟨vm, vn, vk, cs, rfl, _⟩ := h
  rfl
theorem TReps.length : ∀ {ks : List TD} {cs : List (List AV)}, TReps hs ks cs → cs.length = ks.length
 | [], cs, h => by rw [TReps] at h; subst h; rfl
 | k :: ks, cs, h => by
  rw [TReps] at h
  obtain ⟨c, r, rfl, _, h3⟩ := h
  rw [List.length_cons, List.length_cons, TReps.length h3]
theorem TReps.at : ∀ {ks : List TD} {cs : List (List AV)} {i : Nat} {k : TD}, TReps hs ks cs → ks[i]? = some k → ∃ c, cs[i]? = some c ∧ TRep hs k c
 | [], cs, i, k, h, hk => by simp at hk
 | x :: ks, cs, 0, k, h, hk => by
  rw [TReps] at h
  obtain ⟨c, r, rfl, h2, _⟩ := h
  simp at hk
  subst hk
  exact ⟨c, rfl, h2⟩
 | x :: ks, cs, i + 1, k, h, hk => by
  rw [TReps] at h
  obtain ⟨c, r, rfl, _, h3⟩ := h
  obtain ⟨c', h4, h5⟩ := TReps.at (i := i) h3 (by simpa using hk)
  exact ⟨c', by simpa using h4, h5⟩
theorem TReps.snoc : ∀ {ks : List TD} {cs : List (List AV)} {k : TD} {c : List AV}, TReps hs ks cs → TRep hs k c → TReps hs (ks ++ [k]) (cs ++ [c])
 | [], cs, k, c, h, hk => by
  rw [TReps] at h
  subst h
  show TReps hs [k] [c]
  rw [TReps]
  exact ⟨c, [], rfl, hk, by rw [TReps]⟩
 | x :: ks, cs, k, c, h, hk => by
  rw [TReps] at h
  obtain ⟨c', r, rfl, h2, h3⟩ := h
  show TReps hs (x :: (ks ++ [k])) (c' :: (r ++ [c]))
  rw [TReps]
  exact ⟨c', _, rfl, h2, TReps.snoc h3 hk⟩
theorem TReps.lens : ∀ {ks : List TD} {cs : List (List AV)}, TReps hs ks cs → ∀ c ∈ cs, c.length = 11
 | [], cs, h, c, hc => by rw [TReps] at h; subst h; simp at hc
 | k :: ks, cs, h, c, hc => by
  rw [TReps] at h
  obtain ⟨c', r, rfl, h2, h3⟩ := h
  rcases List.mem_cons.1 hc with rfl | hc
  ·exact h2.len
  ·exact TReps.lens h3 c hc
theorem flat_id_len : ∀ {cs : List (List AV)}, (∀ c ∈ cs, c.length = 11) → (cs.flatMap id).length = cs.length * 11
 | [], _ => rfl
 | c :: cs, h => by
  rw [List.flatMap_cons, List.length_append, flat_id_len fun x hx => h x (List.mem_cons_of_mem _ hx), List.length_cons, id, h c List.mem_cons_self]; omega
theorem flat_id_sub : ∀ {cs : List (List AV)} {i : Nat} {c : List AV}, (∀ c ∈ cs, c.length = 11) → cs[i]? = some c → sub? (cs.flatMap id) (i * 11) 11 = some c
 | [], i, c, _, h => by simp at h
 | y :: cs, 0, c, hl, h => by
  simp at h
  subst h
  have hy := hl y List.mem_cons_self
  unfold sub?
  rw [List.flatMap_cons, Nat.zero_mul, Nat.zero_add, id]
  have e : Nat.ble 11 (y ++ cs.flatMap id).length = true := Nat.ble_eq.mpr (by rw [List.length_append, hy]; omega)
  simp only [e]
  rw [List.drop_zero, List.take_append_of_le_length zy, List.take_of_length_le zy]
 | y :: cs, i + 1, c, hl, h => by
  have hy := hl y List.mem_cons_self
  have hl' : ∀ c ∈ cs, c.length = 11 := fun x hx => hl x (List.mem_cons_of_mem _ hx)
  have ih := flat_id_sub hl' (i := i) (c := c) (by simpa using h)
  have hlen := flat_id_len hl'
  have hi : i < cs.length := by simpa using (List.getElem?_eq_some_iff.1 h).1
  unfold sub? at ih ⊢
  rw [List.flatMap_cons, id]
  have e : Nat.ble ((i + 1) * 11 + 11) (y ++ cs.flatMap id).length = true := Nat.ble_eq.mpr (by rw [List.length_append, hy, hlen]; omega)
  have e2 : Nat.ble (i * 11 + 11) (cs.flatMap id).length = true := Nat.ble_eq.mpr (by rw [hlen]; omega)
  simp only [e, e2] at ih ⊢
  rw [← ih, List.drop_append, List.drop_of_length_le (by rw [hy]; omega), List.nil_append, hy]
  congr 3
  omega
end
def treeF (L : List IE) : Nat → Nat → TD
 | 0, _ => .node ND.zero []
 | k + 1, i => .node (ei L i).d ((ei L i).ars.map fun a => treeF L k a.toNat)
def treeM (L : List IE) (i : Nat) : TD := treeF L (i + 1) i
def szF (L : List IE) : Nat → Nat → Nat
 | 0, _ => 0
 | k + 1, i => (ei L i).ars.foldl (fun n a => min 4097 (n + szF L k a.toNat)) 1
def szM (L : List IE) (i : Nat) : Nat := szF L (i + 1) i
def zeroT : TD := .node ND.zero []
section
variable {L : List IE} {i : Nat}
theorem treeF_eq (hok : ∀ i, i < L.length → okI L i = true) : ∀ (k i : Nat), i < k → i < L.length → treeF L k i = treeM L i := by
 intro k
 induction k using Nat.strongRecOn with
 | _ k ih =>
  intro i hk hi
  cases k with
  | zero => omega
  | succ k =>
   unfold treeM
   show TD.node _ _ = TD.node _ _
   congr 1
   refine List.map_congr_left fun a ha => ?_
   obtain ⟨h1, h2⟩ := ok_ar (hok i hi) ha
   rcases Nat.lt_or_ge i k with g | g
   ·rw [ih k zy a.toNat zy zy, ih i zy a.toNat zy zy]
   ·obtain rfl : k = i := by omega
    rfl
theorem treeM_eq (hok : ∀ i, i < L.length → okI L i = true) (hi : i < L.length) : treeM L i = .node (ei L i).d ((ei L i).ars.map fun a => treeM L a.toNat) := by
 unfold treeM
 show TD.node _ _ = TD.node _ _
 congr 1
 refine List.map_congr_left fun a ha => ?_
 obtain ⟨h1, h2⟩ := ok_ar (hok i hi) ha
 exact treeF_eq hok i a.toNat zy zy
theorem szF_eq (hok : ∀ i, i < L.length → okI L i = true) : ∀ (k i : Nat), i < k → i < L.length → szF L k i = szM L i := by
 intro k
 induction k using Nat.strongRecOn with
 | _ k ih =>
  intro i hk hi
  cases k with
  | zero => omega
  | succ k =>
   unfold szM
   show List.foldl _ _ _ = List.foldl _ _ _
   refine fold_congr fun n a ha => ?_
   obtain ⟨h1, h2⟩ := ok_ar (hok i hi) ha
   rcases Nat.lt_or_ge i k with g | g
   ·rw [ih k zy a.toNat zy zy, ih i zy a.toNat zy zy]
   ·obtain rfl : k = i := by omega
    rfl
where
 fold_congr {f g : Nat → Int → Nat} : ∀ {l : List Int} {n : Nat}, (∀ n a, a ∈ l → f n a = g n a) → l.foldl f n = l.foldl g n
  | [], n, _ => rfl
  | a :: l, n, h => by
   rw [List.foldl_cons, List.foldl_cons, h n a List.mem_cons_self]
   exact fold_congr fun n b hb => h n b (List.mem_cons_of_mem _ hb)
theorem szM_eq (hok : ∀ i, i < L.length → okI L i = true) (hi : i < L.length) : szM L i = (ei L i).ars.foldl (fun n a => min 4097 (n + szM L a.toNat)) 1 := by
 unfold szM
 show List.foldl _ _ _ = _
 refine szF_eq.fold_congr fun n a ha => ?_
 obtain ⟨h1, h2⟩ := ok_ar (hok i hi) ha
 rw [szF_eq hok i a.toNat zy zy]; rfl
end
def TreeR (L : List IE) (e : Nat) (t : TD) : Prop := (chkI L ≠ 0 ∧ e = chkI L ∧ t = zeroT) ∨ (chkI L = 0 ∧ 4096 < szM L (L.length - 1) ∧ e = 3 ∧ t = zeroT) ∨ (chkI L = 0 ∧ szM L (L.length - 1) ≤ 4096 ∧ e = 0 ∧ t = treeM L (L.length - 1))
set_option maxRecDepth 100000
set_option maxHeartbeats 1000000
section
variable {L X : List IE} {hs hl Dm Dn Da D : HSt} {i : Nat} {A : List Int} {d : ND} {vm vn va v : AV}
theorem to_lay {x : Nat} (h : i < L.length) (hX : x = posN L i) (hn : nb L i = true) : layL (cN (toF L i) L.length) ((0 + i) * 1) (AV.int .i64 ((x : Nat) : Int)).cells = cN (toF L (i + 1)) L.length := by
 rw [cN_lay h, hX]; exact to_y hn
theorem rin_to {b n : Nat} {f : Nat → Int} : RIn (ro [⟨b, ⟨1, true, cN f n⟩, true⟩] ++ hs) 1 ((List.range n).map f).length (cA ((List.range n).map f)) (.slice b 0 n 1) := by
 refine .inr ⟨b, 1, true, by rw [List.length_map, List.length_range], ⟨false, ?_⟩, by rw [cA_len]⟩
 rw [← cN_row]
 exact List.mem_cons_self
theorem trim_mv (hok : okI L i = true) (hi : i < L.length) (hn : nb L i = true) (h : OwnE 1 (cA (mvA ((List.range L.length).map (toF L (i + 1))) (ei L i).ars)) (ei L i).ars.length v D) : OwnE 1 (cA (trimA L (ei L i).ars)) (trimA L (ei L i).ars).length v D := by
 rw [mv_trim hok hi hn] at h
 rw [trimA_len]; exact h
theorem trim_snoc (hX : ∀ x ∈ X, IOK hl x ∧ x.nk = 0) (hm : OwnE 3 (cM d.ms) d.ms.length vm Dm) (hn : OwnE 1 (cS d.nm) d.nm.length vn Dn) (ha : OwnE 1 (cA A) A.length va Da) (hD : D = Dm ++ Dn) : ∀ x ∈ X ++ [⟨d, A, 0, vm, vn, .nils, va⟩], IOK (hl ++ D ++ Da) x ∧ x.nk = 0 := by
 intro x hx
 rcases List.mem_append.1 hx with hx | hx
 ·obtain ⟨h1, h2⟩ := hX x hx
  exact ⟨h1.mono fun b o q => q.appl'.appl', h2⟩
 ·rw [List.mem_singleton.1 hx, hD]
  exact ⟨⟨(RIn.own hm).appl.app.appl, (RIn.own hn).app.app.appl, .inl ⟨rfl, rfl⟩, (RIn.own ha).app⟩, rfl⟩
theorem trim_bd (hX : ∀ x ∈ X, IBd x) (hd : IBd (ei L i)) (hi : i < 1048576) (hok : okI L i = true) : ∀ x ∈ X ++ [⟨(ei L i).d, trimA L (ei L i).ars, 0, vm, vn, .nils, va⟩], IBd x := by
 intro x hx
 rcases List.mem_append.1 hx with hx | hx
 ·exact hX x hx
 ·rw [List.mem_singleton.1 hx]
  refine ⟨hd.d, by rw [trimA_len]; exact hd.a, fun n hn => ?_⟩
  obtain ⟨a, ha, rfl⟩ := List.mem_map.1 hn
  have := pos_le (L := L) (j := a.toNat)
  have := ok_ar hok ha
  unfold I64
  omega
theorem fill12 (h : va.isCell = true) : fillA (fun i => [(0, 11), (11, 1)][i]?) [.int .i64 0, .str [], .int .i64 0, .nils, .int .i64 0, .int .i64 0, .int .i64 0, .nils, .int .i64 0, .bool false, .nils, .nils] [(0, .agg (d.c vm vn .nils)), (1, va)] = some (d.c vm vn .nils ++ [va]) := by
 simp only [fillA, cells_cell h]; rfl
theorem bq12o (hm : beq0 vm vm = true) (hn : beq0 vn vn = true) (ha : beq0 va va = true) : (AV.agg (d.c vm vn .nils ++ [va])).beq (AV.agg (d.c vm vn .nils ++ [va])) = true :=
 beqL_self (by simp only [ND.c, nodeC, List.cons_append, List.nil_append, List.all_cons, List.all_nil, hm, hn, ha, bi_int, bi_str, bi_bool, Bool.and_true]; rfl)
theorem all12 (hm : vm.isCell = true) (hn : vn.isCell = true) (ha : va.isCell = true) : ((d.c vm vn .nils ++ [va]).all AV.isCell) = true := by
 simp only [ND.c, nodeC, List.cons_append, List.nil_append, List.all_cons, List.all_nil, hm, hn, ha, Bool.and_true, Bool.true_and]
 rfl
end
theorem ag4 : tab.isAgg 4 = some false := by kernel_rfl
theorem ap30_30 : AP tab 30 30 = some 12 := by kernel_rfl
theorem ms40 : MS tab 40 = some (1, [.int .i64 0]) := by kernel_rfl
theorem ms52 : MS tab 52 = some (1, [.bool false]) := by kernel_rfl
theorem pl42 : PL tab 42 [.int .i64 0, .str [], .int .i64 0, .nils, .int .i64 0, .int .i64 0, .int .i64 0, .nils, .int .i64 0, .bool false, .nils, .nils] [(0, 11), (11, 1)] = true := by kernel_rfl
theorem sz4 : tab.size 4 = some 1 := by kernel_rfl
theorem ud52 : tab.und 52 = some (.slice 4) := by kernel_rfl
theorem zr42 : tab.zero 42 = some (.agg [.int .i64 0, .str [], .int .i64 0, .nils, .int .i64 0, .int .i64 0, .int .i64 0, .nils, .int .i64 0, .bool false, .nils, .nils]) := by kernel_rfl
theorem trim_spec (hs : HSt) (hro : ∀ e ∈ hs, e.w = false) (L : List IE) (v : AV) (hV : IIn hs L v) (hB : ILB L) : Spec tab 20 [v] [] hs (fun r D => ∃ (e : Nat) (Y : List IE) (w : AV), TrimR L e (D2 Y) ∧ IOwn Y w D ∧ r = .tuple [w, .int .i64 ((e : Nat) : Int)]) := by
 have hBl := hB.1
 refine Spec.en (ftg 20 Tryz.func20) rfl (m := 94) rfl (rs := [.tmp 2, .tmp 3]) rfl (st := [(0, v)]) rfl rfl (fun _ => rfl) (fun E => zr (za rfl (za (zi 0) (zk (W.seq (zr (zm rfl (WO.cV rfl (oLc rfl oz) rfl (chk_spec hs hro L _ hV hB) (SubR.s hro) rfl (za rfl (zk (zr (zm rfl (zq (Q.bin rfl (zi 0) rfl (bv_neq ne_nat)) (zk (W.cD rfl (fun hc17 => ?_) (fun hc17 => ?_))))))))))))))))
 ·refine zr (zm rfl (za rfl (za rfl (zk (W.ret ?_)))))
  refine End.Kr (End.ret (ResL.tmp rfl (z1 rfl)) (hs' := []) ⟨chkI L, [], .nils, .inl ⟨by omega, rfl, rfl⟩, IOwn.nil, rfl⟩ no_wl (SubH.nil _))
 obtain ⟨h0, hL, hok⟩ := chk_ok (L := L) zy
 refine zw (zr (zm rfl (zq (Q.len ud30 rfl hV.1.len) (WO.mslice ms52 rfl rfl zy (repl_b _) rfl (fun bn => za rfl (zk (zr (zm rfl (zm rfl (zq (Q.len ud30 rfl hV.1.len) (zq (Q.bin rfl (zi 1) rfl (bv_sub (wns zo))) (zq (Q.iS ud52 sz4 rfl rfl zo) (WO.store sz4 rfl rfl (i := 0) rfl (ck1 rfl (cB_le zy)) (cB_lay zy) (hs' := _ :: _) rfl (zk (W.sub (zc 5 rfl (zc 0 rfl zzn)) (W.seq (zr (zm rfl (zq (Q.len ud30 rfl hV.1.len) (zq (Q.move (zi 0)) (zk (W.block (W.loop_ind (fun (t : Nat) => [(0, v), (5, .slice bn 0 L.length 1), (28, .int .i64 ((L.length : Nat) : Int)), (29, .int .i64 ((t : Nat) : Int))]) (fun (t : Nat) => (⟨bn, ⟨1, true, cB (ndF L t) L.length⟩, true⟩ :: hs)) (fun (t : Nat) => t ≤ L.length) (fun (t : Nat) => L.length - t) (0) (Nat.zero_le _) zv (by rw [← ndF_0]; exact SubH.refl _) (fun t hI0 ih0 => ?_))))))))))))))))))))))))
 have h1 := hI0
 refine zr (zq (Q.bin rfl rfl rfl (bvl ltn)) (zk (W.seq (W.cD rfl (fun hc30 => ?_) (fun hc30 => ?_)))))
 ·obtain ⟨bv, szv, exv, rfl, wv, mv⟩ := hV.1.full zy
  have hal := (hB.at (i := L.length - 1 - t) zy).a
  refine zw (W.seq (W.block (zr (zm rfl (za rfl (zk (zr (zm rfl (zq (Q.len ud30 rfl rfl) (zq (Q.bin rfl (zi 1) rfl (bv_sub (wns zo))) (zm rfl (zq (Q.bin rfl rfl rfl (bv_sub (wns zo))) (za rfl (zk (zr (zm rfl (zm rfl (zq (Q.iS ud30 sz42 rfl rfl zo) (zq (Q.fieldAddr fa42_1 rfl rfl) (zq (Q.l1 rfl (List.mem_cons_of_mem _ mv) ag40 (cI_f 11 zo rfl)) (zq (Q.len ud40 rfl (hV.at zo).a.len) (zq (Q.move (zi 0)) (zk ?_)))))))))))))))))))))))
  refine W.block (W.loop_ind2 (fun (q : Nat) (xa : AV) => [(0, .slice bv 0 L.length 12), (5, .slice bn 0 L.length 1), (7, .int .i64 ((L.length - 1 - t : Nat) : Int)), (28, .int .i64 ((L.length : Nat) : Int)), (29, .int .i64 ((t : Nat) : Int)), (41, xa), (42, .int .i64 (((ei L (L.length - 1 - t)).ars.length : Nat) : Int)), (43, .int .i64 ((q : Nat) : Int))]) (fun (q : Nat) (xa : AV) => (⟨bn, ⟨1, true, cB (ndG L t q) L.length⟩, true⟩ :: hs)) (fun (q : Nat) (xa : AV) => q ≤ (ei L (L.length - 1 - t)).ars.length ∧ RIn hs 1 (ei L (L.length - 1 - t)).ars.length (cA (ei L (L.length - 1 - t)).ars) xa) (fun (q : Nat) (xa : AV) => (ei L (L.length - 1 - t)).ars.length - q) (0) (_) ⟨Nat.zero_le _, (hV.at zy).a⟩ zv (by rw [← ndG_0]; exact SubH.refl _) (fun q xa hI1 ih1 => ?_))
  obtain ⟨h2, hxa⟩ := hI1
  refine zr (zq (Q.bin rfl rfl rfl (bvl ltn)) (zk (W.seq (W.cD rfl (fun hc44 => ?_) (fun hc44 => ?_)))))
  ·have hq1 := ok_ar (hok (L.length - 1 - t) zy) (ai_mem (A := (ei L (L.length - 1 - t)).ars) (q := q) zy)
   obtain ⟨ba, sza, exa, rfl, wa_, ma⟩ := hxa.full zy
   refine zw (W.seq (W.block (zr (zq (Q.iS ud40 sz3 rfl rfl zo) (zq (Q.l1 rfl (List.mem_cons_of_mem _ ma) ag3 (cA_atN zo hq1.1)) (za rfl (zk (W.reg (zm rfl (zm rfl (zm rfl (zm rfl (zq (Q.iS ud52 sz4 rfl rfl zo) (zq (Q.l1 rfl (zt 0 rfl) ag4 (cB_at zo)) (zm rfl (WO.split (d := 53) rfl (fun hc53 => ?_) (fun hc53 => ?_)))))))))))))))))
   ·refine zG (zG (zG (zG (zq (Q.pT rfl rfl) (zq (Q.iS ud52 sz4 rfl rfl zo) (WO.store sz4 rfl rfl (i := 0) rfl (ck1 rfl (cB_le zy)) (cB_lay zy) (hs' := _ :: _) rfl (WO.nil (End.KB (End.K (W.sub (zc 0 rfl (zc 5 rfl (zc 7 rfl (zc 28 rfl (zc 29 rfl (zc 41 rfl (zc 42 rfl (zc 43 rfl zzn)))))))) (W.reg (zq (Q.bin rfl (zi 1) rfl zp) (zm rfl (WO.nil (End.KL (W.sub zv (W.sH (by rw [← ndG_step hok zy zy (by rw [hc53]; try rfl)]; exact SubH.refl _) (ih1 (q + 1) (_) ?_ ?_))))))))))))))))))
    ·exact ⟨by omega, hxa⟩
    exact zo
   refine zT (zm rfl (zT (zm rfl (zT (zq (Q.iS ud52 sz4 rfl rfl zo) (zT (zq (Q.l1 rfl (zt 0 rfl) ag4 (cB_at zo)) (zq (Q.pF rfl rfl) (zq (Q.iS ud52 sz4 rfl rfl zo) (WO.store sz4 rfl rfl (i := 0) rfl (ck1 rfl (cB_le zy)) (cB_lay zy) (hs' := _ :: _) rfl (WO.nil (End.KB (End.K (W.sub (zc 0 rfl (zc 5 rfl (zc 7 rfl (zc 28 rfl (zc 29 rfl (zc 41 rfl (zc 42 rfl (zc 43 rfl zzn)))))))) (W.reg (zq (Q.bin rfl (zi 1) rfl zp) (zm rfl (WO.nil (End.KL (W.sub zv (W.sH (by rw [← ndG_step hok zy zy (by rw [hc53]; try rfl)]; exact SubH.refl _) (ih1 (q + 1) (_) ?_ ?_))))))))))))))))))))))
   ·exact ⟨by omega, hxa⟩
   exact zo
  obtain rfl : q = (ei L (L.length - 1 - t)).ars.length := zy
  refine W.exit (End.Kx (End.Lx (End.Bh (End.KB (End.K (W.reg (zq (Q.bin rfl (zi 1) rfl zp) (zm rfl (WO.nil (End.KL (W.sub zv (W.sH (by rw [← ndG_end zy]; exact SubH.refl _) (ih0 (t + 1) ?_ ?_)))))))))))))
  ·exact zy
  exact zo
 obtain rfl : t = L.length := zy
 rw [ndF_all]
 refine W.exit (End.Kx (End.Lx (End.Bh (End.K (zr (zm rfl (zq (Q.len ud30 rfl hV.1.len) (WO.mslice ms40 rfl rfl zy (repl_n _) rfl (fun bt => za rfl (zk (zr (za rfl (zk (W.seq (zr (zm rfl (zq (Q.len ud30 rfl hV.1.len) (zq (Q.move (zi 0)) (zk (W.block (W.loop_ind5 (fun (i : Nat) (X : List IE) (u : AV) (hp : HSt) (hl : HSt) => [(5, .slice bn 0 L.length 1), (10, .slice bt 0 L.length 1), (11, u), (65, v), (66, .int .i64 ((L.length : Nat) : Int)), (67, .int .i64 ((i : Nat) : Int))]) (fun (i : Nat) (X : List IE) (u : AV) (hp : HSt) (hl : HSt) => (⟨bt, ⟨1, true, cN (toF L (i)) L.length⟩, true⟩ :: ⟨bn, ⟨1, true, cB (nb L) L.length⟩, true⟩ :: (hs ++ hp ++ hl))) (fun (i : Nat) (X : List IE) (u : AV) (hp : HSt) (hl : HSt) => i ≤ L.length ∧ D2 X = trimP L i ∧ OwnE 12 (cI X) X.length u hp ∧ (∀ x ∈ X, IOK hl x ∧ x.nk = 0) ∧ (∀ e ∈ hl, e.w = true) ∧ (∀ x ∈ X, IBd x)) (fun (i : Nat) (X : List IE) (u : AV) (hp : HSt) (hl : HSt) => L.length - i) (0) ([]) (.nils) ([]) ([]) ⟨Nat.zero_le _, rfl, OwnE.nil 12, fun x hx => by simp at hx, no_wl, fun x hx => by simp at hx⟩ zv (by rw [List.append_nil, List.append_nil, ← to_0]; exact SubH.refl _) (fun i X u hp hl hI2 ih2 => ?_))))))))))))))))))))))
 obtain ⟨h3, hX2, hO, hX, hw, hXb⟩ := hI2
 have hXl : X.length = posN L i := (by rw [← d2_len, hX2, tp_len])
 have hpl := pos_le (L := L) (j := i)
 refine zr (zq (Q.bin rfl rfl rfl (bvl ltn)) (zk (W.seq (W.cD rfl (fun hc68 => ?_) (fun hc68 => ?_)))))
 ·obtain ⟨bv, szv, exv, rfl, wv, mv⟩ := hV.1.full zy
  refine zw (W.seq (W.block (zr (zm rfl (zq (Q.iS ud30 sz42 rfl rfl zo) (zq (Q.loadN rfl (List.mem_cons_of_mem _ (List.mem_cons_of_mem _ (List.mem_append_left _ (List.mem_append_left _ mv)))) ag42 sz42 (cI_at zo)) (WO.alloc ao42 rfl (fun b1 => za rfl (WO.store sz42 rfl rfl (i := 0) rfl (and_tt rfl (IOK.cells (hV.at zy))) (cs := [_, _, _, _, _, _, _, _, _, _, _, _]) rfl (hs' := _ :: _ :: _ :: _) rfl (zk (zr (zm rfl (zm rfl (zq (Q.iS ud52 sz4 rfl rfl zo) (zq (Q.l1 rfl (zt 2 rfl) ag4 (cB_at zo)) (zk (W.condS rfl (fun hc75 => ?_) (fun hc75 => ?_))))))))))))))))))
  ·have hnb : nb L i = true := hc75
   refine zr (zm rfl (zm rfl (zm rfl (zq (Q.len ud30 rfl hO.len) (zq (Q.iS ud40 sz3 rfl rfl zo) (WO.store sz3 rfl rfl (i := 1) rfl (ck1 rfl (cN_le zy)) (to_lay zy hXl hnb) (hs' := _ :: _ :: _ :: _) rfl (zk (W.sub (zc 13 rfl (zc 5 rfl (zc 10 rfl (zc 11 rfl (zc 65 rfl (zc 66 rfl (zc 67 rfl zzn))))))) (W.regD 10 (⟨b1, _, false⟩ :: hs) (by kernel_rfl) (KIn.cons (zt 0 rfl) (fun e he => ⟨e.w, by obtain ⟨b, o, w⟩ := e; simp [he]⟩)) (WD.q (Q.move rfl) (OwnE.bq hO) rfl (WD.q (Q.fieldAddr fa42_0 rfl (o' := 0) rfl) bqp rfl (WD.q (zL rfl (zt 0 rfl) ag26 sz26 rfl) (bq_agg11 (hV.at zy)) rfl (WD.call0 rfl (oLc rfl oz) rfl (bare_spec hs hro (ei L i).d _ _ _ (hV.at zy).m (hV.at zy).n _ (hV.at zy).k (hB.at zy).d) (SubR.t (SubR.t (SubR.t (SubR.appl (SubR.appl (SubR.s hro)))))) (KIn.cons (zt 0 rfl) (fun e he => ⟨e.w, by obtain ⟨b, o, w⟩ := e; simp [he]⟩)) rfl (fun v84 D84 hP84 => ?_))))))))))))))
   obtain ⟨vm2, vn2, Dm, Dn, rfl, hOm, hOn, hDD⟩ := hP84
   have hwD : ∀ e ∈ D84, e.w = true := (by rw [hDD]; exact wa (OwnE.w hOm) (OwnE.w hOn))
   refine WD.subH (hs' := _ :: _ :: _ :: (hs ++ hp ++ hl ++ D84)) (SubH.op (perm_tail (N := []) (G := D84) (K := [_, _, _]) (X := hs ++ hp ++ hl))) (WD.q (Q.fieldAddr fa42_1 rfl (o' := 11) rfl) bqp rfl (WD.q (Q.l1 rfl (zt 0 rfl) ag40 rfl) (hV.at zo).a.bq rfl (WD.q (Q.move rfl) bqs rfl (WD.call0 rfl (oLc rfl (oLc rfl oz)) rfl (mov_spec (ro [⟨bt, ⟨1, true, cN (toF L (i + 1)) L.length⟩, true⟩] ++ hs) (ro_app hro) (ei L i).ars _ (hV.at zy).a.app (hB.at zy).a _ _ rin_to (fun a ha => by have := ok_ar (hok i zy) ha; rw [List.length_map, List.length_range]; omega) (by rw [List.length_map, List.length_range]; exact hBl)) (SubR.mix gc hro) (KIn.cons (zt 0 rfl) (fun e he => ⟨e.w, by obtain ⟨b, o, w⟩ := e; simp [he]⟩)) rfl (fun v88 D88 hP88 => ?_)))))
   have hA88 := trim_mv (hok i zy) zy hnb hP88
   refine WD.subH (hs' := _ :: _ :: _ :: (hs ++ hl ++ D84 ++ D88 ++ hp)) (SubH.op (perm_tailO (N := []) (G := D88) (K := [_, _, _]) (X := hs ++ hp ++ hl ++ D84) (by simp only [List.append_assoc, List.nil_append]; exact List.perm_iff_count.2 (by intro z; simp only [List.append_eq, List.count_append, List.count_nil]; omega)))) (WD.q (Q.build pl42 (opc rfl (opc rfl oPs_nil)) rfl (cs := [_, _, _, _, _, _, _, _, _, _, _, _]) (fill12 (OwnE.cell hP88))) (bq12o (OwnE.bq0 hOm) (OwnE.bq0 hOn) (OwnE.bq0 hP88)) rfl (WD.bslice ud30 sz42 zr42 rfl (opc rfl oPs_nil) rfl (cs := [_, _, _, _, _, _, _, _, _, _, _, _]) rfl (all12 (OwnE.cell hOm) (OwnE.cell hOn) (OwnE.cell hP88)) rfl (KIn.cons (zt 0 rfl) (fun e he => ⟨e.w, by obtain ⟨b, o, w⟩ := e; simp [he]⟩)) (fun b2 => WD.appAny (A := ([_, _, _] ++ hs ++ hl ++ D84 ++ D88)) ap30_30 hO rfl rfl (Src.slice (zt 0 rfl) rfl) rfl zy (by decide) (SubH.of_sublist (List.sublist_cons_self _ _)) rfl (KIn.cons (zt 0 rfl) (fun e he => ⟨e.w, by obtain ⟨b, o, w⟩ := e; simp [he]⟩)) (fun v91 hp91 hO91 => WD.q (Q.assign rfl) (OwnE.bq hO91) rfl (WD.nil (End.KB (End.K (W.reg (zq (Q.bin rfl (zi 1) rfl zp) (zm rfl (WO.nil (End.KL (W.sub zv (W.sH gc (ih2 (i + 1) (X ++ [⟨(ei L i).d, trimA L (ei L i).ars, 0, vm2, vn2, .nils, v88⟩]) (v91) (hp91) (hl ++ D84 ++ D88) ?_ ?_)))))))))))))))
   ·exact ⟨by omega, by rw [d2_snoc, tp_y hnb, hX2], by rw [cI_snoc, List.length_append]; exact hO91, trim_snoc hX hOm hOn hA88 hDD, wa (wa hw hwD) (OwnE.w hP88), trim_bd hXb (hB.at zy) zy (hok i zy)⟩
   exact zo
  have hnb : nb L i = false := (by simpa using hc75)
  rw [to_n hnb]
  refine W.skip (End.KB (End.K (W.reg (zq (Q.bin rfl (zi 1) rfl zp) (zm rfl (WO.nil (End.KL (W.sub zv (W.sH gc (ih2 (i + 1) (X) (u) (hp) (hl) ?_ ?_))))))))))
  ·exact ⟨by omega, by rw [tp_n hnb]; exact hX2, hO, hX, hw, hXb⟩
  exact zo
 refine W.exit (End.Kx (End.Lx (End.Bh (End.K (zr (zm rfl (za rfl (za (zi 0) (zk (W.ret ?_))))))))))
 refine End.ret (ResL.tmp rfl (z1 rfl)) (hs' := hp ++ hl) ⟨0, X, u, .inr ⟨by omega, rfl, by rw [hX2, show i = L.length by omega]⟩, ⟨hp, hl, rfl, hO, hX, hw, ⟨by omega, hXb⟩⟩, rfl⟩ (wa (OwnE.w hO) hw) gc
end Go.Proofs.YtndhhgbpcmfeiaaGreatDoor.Ev
