/- Chapter 19, the plain law of operators that are turned: sums, products and comparisons with bool. -/
import Derived.Test.YtmblgaehfjheeaaGreatKZo
import Derived.Test.YtmblgaehfjheeaaGreatKZs
namespace Go.Proofs.YtmblgaehfjheeaaGreat.Ev
open Go.RowKit
set_option linter.unusedVariables false
set_option linter.unusedSimpArgs false
set_option maxRecDepth 100000
def tnB (op : List Nat) : List Nat := if op = [60] then [62] else if op = [62] then [60] else if op = [60, 61] then [62, 61] else if op = [62, 61] then [60, 61] else op
def TnOK (op : List Nat) : Prop := op ≠ [45] ∧ op ≠ [47] ∧ op ≠ [37] ∧ setB op = false
section
variable {op : List Nat} {md : Int} {N : List (List Nat)} {V U : List El} {A B : List PE}
theorem fm_app {β γ : Type} (f g : β → List γ) : ∀ B : List β, (B.flatMap f ++ B.flatMap g).Perm (B.flatMap fun y => f y ++ g y)
  | [] => by simp
  | y :: B => by
    rw [List.flatMap_cons, List.flatMap_cons, List.flatMap_cons, List.append_assoc, List.append_assoc]
    refine List.Perm.append_left _ ?_
    refine List.Perm.trans ?_ (List.Perm.append_left _ (fm_app f g B))
    rw [← List.append_assoc, ← List.append_assoc]
    exact List.Perm.append_right _ List.perm_append_comm
theorem fst_zero {g : Nat → Nat} : ∀ (d i : Nat), fstE g d i = 0 ↔ ∀ j, i ≤ j → j < i + d → g j = 0
  | 0, i => ⟨fun _ j h1 h2 => by omega, fun _ => rfl⟩
  | d + 1, i => by
    rw [fstE]
    constructor
    · intro h j h1 h2
      split at h
      · rename_i q; exact absurd h q
      · rename_i q
        rcases Nat.lt_or_ge i j with k | k
        · exact (fst_zero d (i + 1)).1 h j (by omega) (by omega)
        · have : j = i := by omega
          subst this; exact Classical.not_not.1 q
    · intro h
      rw [if_neg (by simpa using h i (Nat.le_refl _) (by omega))]
      exact (fst_zero d (i + 1)).2 fun j h1 h2 => h j (by omega) (by omega)
theorem ord_pm {L M : List PE} {e : Nat} {W : List PE} (p : L.Perm M) (h : OrdR L e W) : OrdR M e W := by
  rcases h with ⟨h1, h2, h3⟩ | ⟨h1, h2, h3⟩
  · exact .inl ⟨h1, h2, fun k => h3 (((p.map _).nodup_iff).2 k)⟩
  · exact .inr ⟨h1, h2.trans p, h3⟩
end
def aggKey (md : Int) (N : List (List Nat)) (A : List Lab) : List Lab := if md = 0 then [] else keyM md N A
def tkB (op : List Nat) : Bool := decide (op = [116, 111, 112, 107] ∨ op = [98, 111, 116, 116, 111, 109, 107])
def agB (op : List Nat) : Bool := decide (op = [115, 117, 109] ∨ op = [97, 118, 103] ∨ op = [109, 105, 110] ∨ op = [109, 97, 120] ∨ op = [99, 111, 117, 110, 116])
def befP (op : List Nat) (y x : PE) : Bool := if op = [116, 111, 112, 107] then decide (x.2 < y.2 ∨ (y.2 = x.2 ∧ cmpL y.1 x.1 < 0)) else decide (y.2 < x.2 ∨ (y.2 = x.2 ∧ cmpL y.1 x.1 < 0))
def stP (op : List Nat) (k : Int) (L : List PE) (x : PE) : Bool := decide (((L.filter fun y => befP op y x).length : Int) < k)
def topL (op : List Nat) (k : Int) (kf : PE → List Nat) (L : List PE) : List PE := L.filter fun x => stP op k (L.filter fun y => decide (kf y = kf x)) x
theorem cmpL_self (a : List Lab) : cmpL a a = 0 := cmpL_eq.2 rfl
section
variable {op : List Nat} {V : List El} {L M : List PE} {k : Int} {g : Nat → Nat} {kf : PE → List Nat} {G G' : List Ge}
theorem bef_asym {x y : PE} (h : befP op x y = true) : befP op y x = false := by
  have := cmpL_swap x.1 y.1
  unfold befP at *
  split at h
  · rw [if_pos ‹_›]
    have := of_decide_eq_true h
    exact decide_eq_false (by omega)
  · rw [if_neg ‹_›]
    have := of_decide_eq_true h
    exact decide_eq_false (by omega)
theorem bef_irr {x : PE} : befP op x x = false := by
  have := cmpL_self x.1
  unfold befP
  split <;> exact decide_eq_false (by omega)
theorem rank_at {A B : List PE} {x : PE} (h : (A ++ x :: B).Pairwise fun a b => befP op a b = true) : ((A ++ x :: B).filter fun y => befP op y x) = A := by
  rw [List.pairwise_append] at h
  obtain ⟨_, h2, h3⟩ := h
  rw [List.pairwise_cons] at h2
  rw [List.filter_append, List.filter_cons, if_neg (by rw [bef_irr]; decide)]
  have e1 : A.filter (fun y => befP op y x) = A := List.filter_eq_self.2 fun a ha => h3 a ha x (by simp)
  have e2 : B.filter (fun y => befP op y x) = [] := List.filter_eq_nil_iff.2 fun b hb => by rw [bef_asym (h2.1 b hb)]; decide
  rw [e1, e2, List.append_nil]
theorem rank_ix (h : M.Pairwise fun a b => befP op a b = true) {i : Nat} {x : PE} (hi : M[i]? = some x) : (M.filter fun y => befP op y x).length = i := by
  obtain ⟨hl, hx⟩ := List.getElem?_eq_some_iff.1 hi
  have e : M = M.take i ++ x :: M.drop (i + 1) := by
    rw [← hx, ← List.drop_eq_getElem_cons hl, List.take_append_drop]
  have := rank_at (e ▸ h)
  rw [← e] at this
  rw [this, List.length_take]
  omega
theorem take_stays (h : M.Pairwise fun a b => befP op a b = true) : M.take (min (max 0 k) (M.length : Int)).toNat = M.filter (stP op k M) := by
  obtain ⟨K, hK⟩ : ∃ K, K = (min (max 0 k) (M.length : Int)).toNat := ⟨_, rfl⟩
  rw [← hK]
  conv => rhs; rw [← List.take_append_drop K M]
  rw [List.filter_append]
  have e1 : (M.take K).filter (stP op k (M.take K ++ M.drop K)) = M.take K := by
    rw [List.take_append_drop]
    refine List.filter_eq_self.2 fun a ha => ?_
    obtain ⟨i, hi⟩ := List.getElem?_of_mem ha
    have hl := (List.getElem?_eq_some_iff.1 hi).1
    rw [List.length_take] at hl
    rw [List.getElem?_take] at hi
    rw [if_pos (by omega)] at hi
    unfold stP
    rw [rank_ix h hi]
    exact decide_eq_true (by omega)
  have e2 : (M.drop K).filter (stP op k (M.take K ++ M.drop K)) = [] := by
    rw [List.take_append_drop]
    refine List.filter_eq_nil_iff.2 fun a ha => ?_
    obtain ⟨i, hi⟩ := List.getElem?_of_mem ha
    rw [List.getElem?_drop] at hi
    have hl := (List.getElem?_eq_some_iff.1 hi).1
    unfold stP
    rw [rank_ix h hi]
    simp only [decide_eq_true_eq]
    omega
  rw [e1, e2, List.append_nil]
theorem stP_perm (h : M.Perm L) : stP op k M = stP op k L := by
  funext x
  unfold stP
  rw [(h.filter _).length_eq]
theorem best_pw (hS : Srt (P2 V)) (p : PermOn 0 V.length id g) (s : SrtOn (bleN op V) 0 V.length g) : (P2 (vF (eg V) g V.length)).Pairwise fun a b => befP op a b = true := by
  unfold P2 vF
  rw [List.map_map, List.pairwise_map]
  refine List.Pairwise.imp_of_mem ?_ List.pairwise_lt_range
  intro i j hi hj hij
  rw [List.mem_range] at hi hj
  have hgi := perm_bd p hi
  have hgj := perm_bd p hj
  have hne : g i ≠ g j := fun e => by have := perm_inj p e; omega
  have hb := s i j (Nat.zero_le _) hij hj
  have hlt : ∀ a b, a < b → b < V.length → cmpL (eg V a).2.1 (eg V b).2.1 < 0 := by
    intro a b hab hb
    have hS' := List.pairwise_iff_getElem.1 hS a b (by rw [p2_ln]; omega) (by rw [p2_ln]; omega) hab
    have ei : (P2 V)[a]'(by rw [p2_ln]; omega) = (eg V a).2 := Option.some.inj ((List.getElem?_eq_getElem _).symm.trans (p2_eg (by omega)))
    have ej : (P2 V)[b]'(by rw [p2_ln]; omega) = (eg V b).2 := Option.some.inj ((List.getElem?_eq_getElem _).symm.trans (p2_eg (by omega)))
    rw [ei, ej] at hS'
    exact hS'
  show befP op (eg V (g i)).2 (eg V (g j)).2 = true
  unfold bleN at hb
  unfold befP
  split at hb
  · rw [if_pos ‹_›]
    refine decide_eq_true ?_
    rcases hb with q | ⟨q, r⟩
    · exact .inl q
    · exact .inr ⟨q, hlt _ _ (by omega) hgj⟩
  · rw [if_neg ‹_›]
    refine decide_eq_true ?_
    rcases hb with q | ⟨q, r⟩
    · exact .inl q
    · exact .inr ⟨q, hlt _ _ (by omega) hgj⟩
theorem best_perm (hS : Srt (P2 V)) (p : PermOn 0 V.length id g) (s : SrtOn (bleN op V) 0 V.length g) : ((P2 (vF (eg V) g V.length)).take (min (max 0 k) (V.length : Int)).toNat).Perm ((P2 V).filter (stP op k (P2 V))) := by
  have hp : (P2 (vF (eg V) g V.length)).Perm (P2 V) := (ord_perm p).map _
  have hl : (P2 (vF (eg V) g V.length)).length = V.length := hp.length_eq.trans p2_ln
  have := take_stays (k := k) (best_pw hS p s)
  rw [hl] at this
  rw [this, stP_perm hp]
  exact hp.filter _
theorem hit_one {κ α : Type} [DecidableEq κ] (c : κ) (x : α) : ∀ ks : List κ, ks.Nodup → c ∈ ks → (ks.flatMap fun q => if c = q then [x] else []) = [x]
  | [], _, h => by cases h
  | q :: ks, hn, h => by
    rw [List.nodup_cons] at hn
    rw [List.flatMap_cons]
    by_cases e : c = q
    · subst e
      have : (ks.flatMap fun q => if c = q then [x] else []) = [] := by
        rw [List.flatMap_eq_nil_iff]
        intro a ha
        have hne : c ≠ a := fun e => hn.1 (by rw [e]; exact ha)
        rw [if_neg hne]
      rw [this, if_pos rfl]; rfl
    · rw [if_neg e, List.nil_append]
      exact hit_one c x ks hn.2 ((List.mem_cons.1 h).resolve_left e)
theorem part_perm {κ α : Type} [DecidableEq κ] (f : α → κ) (ks : List κ) (hn : ks.Nodup) : ∀ L : List α, (∀ x ∈ L, f x ∈ ks) → (ks.flatMap fun c => L.filter fun x => decide (f x = c)).Perm L
  | [], _ => by simp
  | x :: L, h => by
    have e : (fun c => (x :: L).filter fun x => decide (f x = c)) = fun c => (if f x = c then [x] else []) ++ L.filter fun x => decide (f x = c) := by
      funext c
      rw [List.filter_cons]
      by_cases q : f x = c <;> simp [q]
    rw [e]
    refine (fm_app _ _ ks).symm.trans ?_
    rw [hit_one (f x) x ks hn (h x (by simp))]
    exact List.Perm.cons x (part_perm f ks hn L fun y hy => h y (by simp [hy]))
theorem p2_fl {key : List Nat} : P2 (fl kf V key) = (P2 V).filter fun x => decide (kf x = key) := by
  unfold fl P2
  rw [List.filter_map]; rfl
theorem GInv.perm (h : GInv kf V G) (p : G'.Perm G) : GInv kf V G' :=
  ⟨((p.map _).nodup_iff).2 h.1, fun g hg => h.2.1 g (p.mem_iff.1 hg), fun x hx => by obtain ⟨g, hg, e⟩ := h.2.2 x hx; exact ⟨g, p.mem_iff.2 hg, e⟩⟩
theorem grp_perm (h : GInv kf V G) : (G.flatMap fun g => (P2 g.1.2).filter (stP op k (P2 g.1.2))).Perm (topL op k kf (P2 V)) := by
  have e : ∀ g ∈ G, (P2 g.1.2).filter (stP op k (P2 g.1.2)) = (topL op k kf (P2 V)).filter fun x => decide (kf x = g.1.1) := by
    intro g hg
    have hm := (h.2.1 g hg).1
    rw [hm, p2_fl]
    unfold topL
    rw [List.filter_filter, List.filter_filter]
    refine List.filter_congr fun x hx => ?_
    by_cases q : kf x = g.1.1
    · simp only [q, decide_true, Bool.and_true, Bool.true_and]
    · simp only [q, decide_false, Bool.and_false, Bool.false_and]
  have e2 : (G.flatMap fun g => (P2 g.1.2).filter (stP op k (P2 g.1.2))) = (G.map (·.1.1)).flatMap fun c => (topL op k kf (P2 V)).filter fun x => decide (kf x = c) := by
    rw [List.flatMap_def, List.flatMap_def, List.map_map, List.map_congr_left e]; rfl
  rw [e2]
  refine part_perm kf _ h.1 _ fun x hx => ?_
  have hx' := (List.mem_filter.1 hx).1
  obtain ⟨y, hy, rfl⟩ := List.mem_map.1 hx'
  obtain ⟨g, hg, e⟩ := h.2.2 y hy
  exact List.mem_map.2 ⟨g, hg, e⟩
end
noncomputable def aggPre (op : List Nat) (md k : Int) (V : List El) : Option Nat :=
  if vchk V ≠ 0 then some (vchk V) else if fitB k = false then some 2 else if agB op = false ∧ tkB op = false then some 9 else if md < 0 ∨ 2 < md then some 2 else none
def TopR (op : List Nat) (md : Int) (N : List (List Nat)) (k : Int) (V : List El) (e : Nat) (W : List PE) : Prop :=
  (aggPre op md k V = some e ∧ W = []) ∨ (aggPre op md k V = none ∧ OrdR (topL op (k.tdiv 1000000) (fun x : PE => prM (aggKey md N x.1)) (P2 V)) e W)
section
variable {op : List Nat} {V : List El} {md k : Int}
theorem ag_1 (h : vchk V ≠ 0) : aggPre op md k V = some (vchk V) := if_pos h
theorem ag_2 (h : vchk V = 0) (g : fitB k = false) : aggPre op md k V = some 2 := by unfold aggPre; rw [if_neg (by simp [h]), if_pos g]
theorem ag_9 (h : vchk V = 0) (g : fitB k = true) (q : agB op = false ∧ tkB op = false) : aggPre op md k V = some 9 := by unfold aggPre; rw [if_neg (by simp [h]), if_neg (by simp [g]), if_pos q]
theorem ag_r (h : vchk V = 0) (g : fitB k = true) (q : agB op = true ∨ tkB op = true) (r : md < 0 ∨ 2 < md) : aggPre op md k V = some 2 := by
  unfold aggPre; rw [if_neg (by simp [h]), if_neg (by simp [g]), if_neg (by rintro ⟨a, b⟩; simp [a, b] at q), if_pos r]
theorem ag_no (h : vchk V = 0) (g : fitB k = true) (q : agB op = true ∨ tkB op = true) (r : 0 ≤ md ∧ md ≤ 2) : aggPre op md k V = none := by
  unfold aggPre; rw [if_neg (by simp [h]), if_neg (by simp [g]), if_neg (by rintro ⟨a, b⟩; simp [a, b] at q), if_neg (by omega)]
end
theorem GB.ein {hs : HSt} {G : List Ge} {D : HSt} {g : Ge} (h : GB G D) (hg : g ∈ G) (hL : ∀ x ∈ g.1.2, LIn hs x.2.1 x.1) : EIn (ro D ++ hs) g.1.2 g.2 := by
  obtain ⟨j, hj⟩ := List.getElem?_of_mem hg
  obtain ⟨A, hp, B, rfl, hO, _⟩ := GB.at h hj
  refine ⟨?_, fun x hx => (hL x hx).mono fun b o h => h.app⟩
  rcases hO with ⟨h1, _, h2, _⟩ | ⟨b, ex, h1, rfl, _⟩
  · exact .inl ⟨h2, List.length_eq_zero_iff.1 h1⟩
  · exact .inr ⟨b, 2, ex, h1, ⟨false, by simp [ro]⟩⟩
set_option maxHeartbeats 1000000
theorem keyok_nil : KeyOK [] := ⟨Nat.zero_le _, fun x hx => by simp at hx⟩
section
variable {md : Int} {N : List (List Nat)} {A : List Lab}
theorem ak_0 (h : md = 0) : aggKey md N A = [] := if_pos h
theorem ak_1 (h : md ≠ 0) : aggKey md N A = keyM md N A := if_neg h
theorem ak_bd (h : LBd A) (md : Int) (N : List (List Nat)) : LBd (aggKey md N A) := by
  unfold aggKey
  split
  · exact lbd_nil
  · exact lbd_key h
theorem ak_key (h : KeyOK A) (md : Int) (N : List (List Nat)) : KeyOK (aggKey md N A) := by
  unfold aggKey
  split
  · exact keyok_nil
  · exact h.key md N
end
theorem eq74n : evBin tab .eql 74 .nilf .nilf = some (.bool true) := by kernel_rfl
theorem ag76 : tab.isAgg 76 = some true := by kernel_rfl
theorem ag80 : tab.isAgg 80 = some false := by kernel_rfl
theorem ao76 : AO tab 76 = some ⟨1, true, [.nilf]⟩ := by kernel_rfl
theorem pl76 : PL tab 76 [.nilf] [(0, 1)] = true := by kernel_rfl
theorem sz76 : tab.size 76 = some 1 := by kernel_rfl
theorem agg1_spec (hs : HSt) (hro : ∀ e ∈ hs, e.w = false) (A : List Lab) (va : AV) (ha : LIn hs A va) (hA : LBd A) (n : Int) (N : List (List Nat)) (vn : AV) (hN : SIn hs N vn) (hNb : SBd N) (md : Int) (bM bN : Nat) (m1 : MemH hs bM ⟨1, true, [.int .i64 md]⟩) (mN : MemH hs bN ⟨1, true, [vn]⟩) : Spec tab 54 [.agg [va, .int .i64 n], .ptr bM 0, .ptr bN 0] [] hs (fun v D => OwnE 2 (cL (aggKey md N A)) (aggKey md N A).length v D) := by
 have m1o := m1
 have mNo := mN
 obtain ⟨w1, m1⟩ := m1
 obtain ⟨wN, mN⟩ := mN
 refine Spec.enter' (ft_get 54 Tryz.func54) rfl (m := 12) rfl (rs := [.tmp 4]) rfl (st := [(0, .agg [va, .int .i64 n]), (1, .ptr bM 0), (2, .ptr bN 0)]) rfl rfl (fun _ => rfl) (fun E => zr (WO.box rfl (all_c2 (LIn.cell ha)) (bx35 _ rfl) rfl (fun b1 => za rfl (zk (W.seq (zr (zq (Q.load1 rfl (List.mem_cons_of_mem _ m1) ag3 rfl) (zq (Q.bin rfl (zi 0) rfl (bv_eql eq_int)) (zk (W.condDS rfl (fun hc6 => ?_) (fun hc6 => ?_)))))))))))
 · refine zr (za rfl (zk (W.ret ?_)))
   refine End.K_ret (End.ret (z1 rfl) (hs' := []) (by rw [ak_0 (by simpa using hc6)]; exact OwnE.nil 2) no_wl (SubH.nil _))
 refine zw (zr (zq (Q.load1 rfl (List.mem_cons_of_mem _ m1) ag3 rfl) (zq (Q.load1 rfl (List.mem_cons_of_mem _ mN) ag40 rfl) (zf fa35_0 rfl 0 (zq (Q.load1 rfl (zt 0 rfl) ag33 rfl) (WO.call0 rfl (oLs_cons rfl (oLs_cons rfl (oLs_cons rfl oLs_nil))) rfl (key_spec hs hro A _ ha hA N _ hN hNb md) (SubR.tl (SubR.self hro)) rfl (fun v11 D11 hP11 => WO.subH (hs' := _ :: (hs ++ D11)) (SubH.of_perm (perm_tail (N := []) (G := D11) (K := [_]) (X := hs))) (za rfl (zk (W.ret ?_))))))))))
 refine End.ret (z1 rfl) (hs' := D11) (by rw [ak_1 (by simpa using hc6)]; exact hP11) (OwnE.w hP11) gc

theorem agg2_spec (hs : HSt) (hro : ∀ e ∈ hs, e.w = false) (A : List Lab) (va : AV) (ha : LIn hs A va) (hK : KeyOK A) (n : Int) (N : List (List Nat)) (vn : AV) (hN : SIn hs N vn) (hNb : SBd N) (md : Int) (bM bN : Nat) (m1 : MemH hs bM ⟨1, true, [.int .i64 md]⟩) (mN : MemH hs bN ⟨1, true, [vn]⟩) (bL : Nat) (m4 : MemH hs bL ⟨1, true, [.func 54 [.ptr bM 0, .ptr bN 0]]⟩) : Spec tab 57 [.agg [va, .int .i64 n], .ptr bL 0] [] hs (Val (.str (prM (aggKey md N A)))) := by
 have m4o := m4
 obtain ⟨w4, m4⟩ := m4
 refine Spec.enter' (ft_get 57 Tryz.func57) rfl (m := 8) rfl (rs := [.tmp 3]) rfl (st := [(0, .agg [va, .int .i64 n]), (1, .ptr bL 0)]) rfl rfl (fun _ => rfl) (fun E => zr (WO.box rfl (all_c2 (LIn.cell ha)) (bx35 _ rfl) rfl (fun b1 => zq (Q.assign (oc (v := .str []) (by kernel_rfl))) (zk (zr (zq (Q.load1 rfl (List.mem_cons_of_mem _ m4) ag80 rfl) (zq (Q.loadN rfl (zt 0 rfl) ag35 sz35 (l := [_, _]) rfl) (WO.call0 rfl (oLs_cons rfl oLs_nil) rfl (agg1_spec hs hro A _ ha hK.bd n N vn hN hNb md bM bN m1 mN) (SubR.tl (SubR.self hro)) rfl (fun v6 D6 hP6 => WO.subH (hs' := _ :: (hs ++ D6)) (SubH.of_perm (perm_tail (N := []) (G := D6) (K := [_]) (X := hs))) (WO.callV rfl (oLs_cons rfl oLs_nil) rfl (print_spec (ro D6) ro_w _ _ ((LIn.own hP6).mono fun b o h => h.ro) (ak_key hK md N)) (SubR.ro gc) rfl (za rfl (zk (W.ret (End.retV (z1 rfl) ?_))))))))))))))
 rfl

theorem agg3_spec (hs : HSt) (hro : ∀ e ∈ hs, e.w = false) (X Y : List El) (bx by_ szx szy : Nat) (exx exy : Bool) (mx : MemH hs bx ⟨szx, exx, cE X⟩) (my : MemH hs by_ ⟨szy, exy, cE Y⟩) (hXL : ∀ x ∈ X, LIn hs x.2.1 x.1) (hYL : ∀ x ∈ Y, LIn hs x.2.1 x.1) (hXB : EBd X) (hYB : EBd Y) (hx0 : 0 < X.length) (hy0 : 0 < Y.length) (N : List (List Nat)) (vn : AV) (hN : SIn hs N vn) (hNb : SBd N) (md : Int) (bM bN : Nat) (m1 : MemH hs bM ⟨1, true, [.int .i64 md]⟩) (mN : MemH hs bN ⟨1, true, [vn]⟩) (bL : Nat) (m4 : MemH hs bL ⟨1, true, [.func 54 [.ptr bM 0, .ptr bN 0]]⟩) : Spec tab 60 [.slice bx 0 X.length 2, .slice by_ 0 Y.length 2, .ptr bL 0] [] hs (Val (.int .i64 (cmpL (aggKey md N (eg X 0).2.1) (aggKey md N (eg Y 0).2.1)))) := by
 have hX : EIn hs X (.slice bx 0 X.length 2) := ⟨.inr ⟨_, _, _, rfl, mx⟩, hXL⟩
 have hY : EIn hs Y (.slice by_ 0 Y.length 2) := ⟨.inr ⟨_, _, _, rfl, my⟩, hYL⟩
 obtain ⟨wx, mx⟩ := mx
 obtain ⟨wy, my⟩ := my
 have hXl := hXB.1
 have hYl := hYB.1
 obtain ⟨w4, m4⟩ := m4
 refine Spec.enter' (ft_get 60 Tryz.func60) rfl (m := 17) rfl (rs := [.tmp 5]) rfl (st := [(0, .slice bx 0 X.length 2), (1, .slice by_ 0 Y.length 2), (2, .ptr bL 0)]) rfl rfl (fun _ => rfl) (fun E => zr (za (zi 0) (zk (W.seq (W.regD 9 _ (by kernel_rfl) (KIn.refl _) (WD.q (Q.load1 rfl m4 ag80 rfl) (by simp [AV.beq, beq1, beq0, beqL]) rfl (WD.q (Q.move rfl) bq_slice rfl (WD.q (Q.iaddrL ud22 sz35 rfl (zi 0) zo (o' := 0) rfl) bq_ptr rfl (WD.q (Q.loadN rfl mx ag35 sz35 (cE_at (V := X) (i := 0) (by omega))) (bq_agg2 (LIn.bq0 (hX.at (by omega)))) rfl (WD.call0 rfl (oLs_cons rfl oLs_nil) rfl (agg1_spec hs hro _ _ (hX.at (by omega)) (hXB.at (by omega)).1 _ N vn hN hNb md bM bN m1 mN) (SubR.self hro) (KIn.refl _) rfl (fun v10 D10 hP10 => WD.subH (hs' := (hs ++ D10)) (SubH.of_perm (perm_tail (N := []) (G := D10) (K := []) (X := hs))) (WD.q (Q.load1 rfl m4 ag80 rfl) (by simp [AV.beq, beq1, beq0, beqL]) rfl (WD.q (Q.move rfl) bq_slice rfl (WD.q (Q.iaddrL ud22 sz35 rfl (zi 0) zo (o' := 0) rfl) bq_ptr rfl (WD.q (Q.loadN rfl my ag35 sz35 (cE_at (V := Y) (i := 0) (by omega))) (bq_agg2 (LIn.bq0 (hY.at (by omega)))) rfl (WD.call0 rfl (oLs_cons rfl oLs_nil) rfl (agg1_spec hs hro _ _ (hY.at (by omega)) (hYB.at (by omega)).1 _ N vn hN hNb md bM bN m1 mN) (SubR.appl (SubR.self hro)) (KIn.ofH gc) rfl (fun v15 D15 hP15 => WD.subH (hs' := (hs ++ D10 ++ D15)) (SubH.of_perm (perm_tail (N := []) (G := D15) (K := []) (X := hs ++ D10))) (WD.callV rfl (oLs_cons rfl (oLs_cons rfl oLs_nil)) rfl (cmp_spec (ro (D10 ++ D15)) ro_w _ _ _ _ ((LIn.own hP10).mono fun b o h => h.appl.ro) ((LIn.own hP15).mono fun b o h => h.app.ro) (ak_bd (hXB.at (by omega)).1 md N) (ak_bd (hYB.at (by omega)).1 md N)) (SubR.ro gc) (KIn.ofH gc) rfl (WD.q (Q.assign rfl) bq_int rfl (WD.nil (End.K (W.sub (zc 5 rfl zzn) (W.ret ?_)))))))))))))))))))))))
 refine End.retV (z1 rfl) ?_
 rfl

theorem known_top (op : List Nat) (ho : Bytes op) (h : agB op = false) : Spec tab 53 [.str op] [] [] (Val (.tuple [.agg [.nilf], .bool (tkB op)])) := by
 refine Spec.enter' (ft_get 53 Tryz.func53) rfl (m := 27) rfl (rs := [.cell 2 76, .tmp 3]) rfl (st := [(0, .str op)]) rfl rfl (fun _ => rfl) (fun E => zr (WO.alloc ao76 rfl (fun b1 => za rfl (zk (W.seq (zr (zm rfl (zk (W.block (zr (zq (Q.bin rfl (oc (v := .str [115, 117, 109]) (by kernel_rfl)) rfl bv_seql) (za rfl (zk (W.condDS rfl (fun hc5 => ?_) (fun hc5 => ?_)))))))))))))))
 · have h0 := h; exact absurd (by unfold agB; simp_all) (Bool.eq_false_iff.1 h0)
 refine zr (zq (Q.bin rfl (oc (v := .str [97, 118, 103]) (by kernel_rfl)) rfl bv_seql) (za rfl (zk (W.condDS rfl (fun hc8 => ?_) (fun hc8 => ?_)))))
 · have h0 := h; exact absurd (by unfold agB; simp_all) (Bool.eq_false_iff.1 h0)
 refine zr (zq (Q.bin rfl (oc (v := .str [109, 105, 110]) (by kernel_rfl)) rfl bv_seql) (za rfl (zk (W.condDS rfl (fun hc11 => ?_) (fun hc11 => ?_)))))
 · have h0 := h; exact absurd (by unfold agB; simp_all) (Bool.eq_false_iff.1 h0)
 refine zr (zq (Q.bin rfl (oc (v := .str [109, 97, 120]) (by kernel_rfl)) rfl bv_seql) (za rfl (zk (W.condDS rfl (fun hc14 => ?_) (fun hc14 => ?_)))))
 · have h0 := h; exact absurd (by unfold agB; simp_all) (Bool.eq_false_iff.1 h0)
 refine zr (zq (Q.bin rfl (oc (v := .str [99, 111, 117, 110, 116]) (by kernel_rfl)) rfl bv_seql) (za rfl (zk (W.condDS rfl (fun hc17 => ?_) (fun hc17 => ?_)))))
 · have h0 := h; exact absurd (by unfold agB; simp_all) (Bool.eq_false_iff.1 h0)
 refine W.skip (End.KB (End.K (zr (zq (Q.build pl76 oPs_nil rfl (cs := [_]) rfl) (zm rfl (zq (Q.bin rfl (oc (v := .str [116, 111, 112, 107]) (by kernel_rfl)) rfl bv_seql) (zm rfl (WO.splitD (d := 23) rfl (fun hc23 => ?_) (fun hc23 => ?_)))))))))
 · refine zg rfl rfl (zg rfl rfl (zq (Q.pickT rfl rfl) (WO.store sz76 rfl rfl (i := 0) rfl rfl (cs := [_]) rfl (hs' := [_]) rfl (za rfl (zk (W.sub (zc 3 rfl (zc 2 rfl zzn)) (W.ret (End.retV (ResL.agg (c := [_]) rfl (zt 0 rfl) ag76 sz76 rfl (z1 rfl)) ?_))))))))
   first | rfl | (refine congrArg AV.tuple ?_; simp_all [tkB]; done)
 refine WO.gT rfl rfl (zm rfl (WO.gT rfl rfl (zq (Q.bin rfl (oc (v := .str [98, 111, 116, 116, 111, 109, 107]) (by kernel_rfl)) rfl bv_seql) (zq (Q.pickF rfl rfl) (WO.store sz76 rfl rfl (i := 0) rfl rfl (cs := [_]) rfl (hs' := [_]) rfl (za rfl (zk (W.sub (zc 3 rfl (zc 2 rfl zzn)) (W.ret (End.retV (ResL.agg (c := [_]) rfl (zt 0 rfl) ag76 sz76 rfl (z1 rfl)) ?_))))))))))
 first | rfl | (refine congrArg AV.tuple ?_; simp_all [tkB]; done)
end Go.Proofs.YtmblgaehfjheeaaGreat.Ev
