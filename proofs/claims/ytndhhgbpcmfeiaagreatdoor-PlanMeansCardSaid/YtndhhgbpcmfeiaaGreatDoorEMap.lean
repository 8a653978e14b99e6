/- Plans as plain lists; what they mean; sharing, as plain law. -/
import Derived.Test.YtndhhgbpcmfeiaaGreatDoorEGj
import Derived.Test.YtndhhgbpcmfeiaaGreatDoorEHc
import Derived.Test.YtndhhgbpcmfeiaaGreatDoorEGa
namespace Go.Proofs.YtndhhgbpcmfeiaaGreatDoor.Ev
open Go.RowKit
abbrev PI := ND × List Int
def pd (L : List PI) (i : Nat) : PI := L.getD i (ND.zero, [])
section
variable {L P Q : List PI} {T A : List Int} {i j k : Nat} {x : PI} {c : Int}
theorem pd_at (h : i < L.length) : L[i]? = some (pd L i) := by
 unfold pd
 rw [List.getD_eq_getElem?_getD, List.getElem?_eq_getElem h]; rfl
theorem pd_mem (h : i < L.length) : pd L i ∈ L := List.mem_of_getElem? (pd_at h)
theorem pd_of (h : L[i]? = some x) : pd L i = x := by
 unfold pd
 rw [List.getD_eq_getElem?_getD, h]; rfl
theorem pd_app (h : i < P.length) : pd (P ++ Q) i = pd P i := pd_of (by rw [List.getElem?_append_left h]; exact pd_at h)
theorem pd_end : pd (P ++ [x]) P.length = x := pd_of (by rw [List.getElem?_append_right (Nat.le_refl _), Nat.sub_self]; rfl)
theorem ai_of (h : A[i]? = some c) : ai A i = c := by
 unfold ai
 rw [List.getD_eq_getElem?_getD, h]; rfl
theorem ai_app (h : i < T.length) : ai (T ++ A) i = ai T i := ai_of (by rw [List.getElem?_append_left h]; exact ai_at h)
theorem ai_end : ai (T ++ [c]) T.length = c := ai_of (by rw [List.getElem?_append_right (Nat.le_refl _), Nat.sub_self]; rfl)
theorem mv_app {U : List Int} (h : ∀ a ∈ A, 0 ≤ a ∧ a < ((T.length : Nat) : Int)) : mvA (T ++ U) A = mvA T A := by
 unfold mvA
 refine List.map_congr_left fun a ha => ?_
 have := h a ha
 rw [ai_app zy]
theorem ei_pd (L : List IE) (i : Nat) : ((ei L i).d, (ei L i).ars) = pd (D2 L) i := by
 unfold ei pd D2
 rw [List.getD_eq_getElem?_getD, List.getD_eq_getElem?_getD, List.getElem?_map]
 cases L[i]? <;> rfl
theorem ei_d {L : List IE} {i : Nat} : (ei L i).d = (pd (D2 L) i).1 := congrArg Prod.fst (ei_pd L i)
theorem ei_a {L : List IE} {i : Nat} : (ei L i).ars = (pd (D2 L) i).2 := congrArg Prod.snd (ei_pd L i)
end
def OKP (L : List PI) : Prop := ∀ i, i < L.length → ∀ a ∈ (pd L i).2, 0 ≤ a ∧ a < ((i : Nat) : Int)
theorem okp_of {L : List IE} (h : chkI L = 0) : OKP (D2 L) := fun i hi a ha => by
 obtain ⟨_, _, hok⟩ := chk_ok h
 rw [d2_len] at hi
 rw [← ei_a] at ha
 exact ok_ar (hok i hi) ha
theorem chk_okp {L : List IE} (h : OKP (D2 L)) (hn : ∀ x ∈ L, x.nk = 0) (h0 : 0 < L.length) (h1 : L.length ≤ 1024) : chkI L = 0 :=
 chk_d zy zy fun i hi => by
  unfold okI
  rw [Bool.and_eq_true, decide_eq_true_eq, Bool.not_eq_true']
  refine ⟨hn _ (ei_mem hi), any_no fun q hq => ?_⟩
  have := h i (by rw [d2_len]; exact hi) (ai (ei L i).ars q) (by rw [← ei_a]; exact ai_mem hq)
  unfold badK
  rw [Bool.or_eq_false_iff, decide_eq_false_iff_not, decide_eq_false_iff_not]
  omega
theorem OKP.nil : OKP [] := fun i hi => absurd hi (Nat.not_lt_zero _)
theorem OKP.snoc {L : List PI} {x : PI} (h : OKP L) (hx : ∀ a ∈ x.2, 0 ≤ a ∧ a < ((L.length : Nat) : Int)) : OKP (L ++ [x]) := fun i hi a ha => by
 rw [List.length_append, List.length_cons, List.length_nil] at hi
 rcases Nat.lt_or_ge i L.length with g | g
 ·rw [pd_app g] at ha; exact h i g a ha
 ·obtain rfl : i = L.length := by omega
  rw [pd_end] at ha; exact hx a ha
theorem OKP.left {P Q : List PI} (h : OKP (P ++ Q)) : OKP P := fun i hi a ha => h i (by rw [List.length_append]; omega) a (by rw [pd_app hi]; exact ha)
def trF (P : List PI) : Nat → Nat → TD
 | 0, _ => zeroT
 | k + 1, i => .node (pd P i).1 ((pd P i).2.map fun a => trF P k a.toNat)
def trP (P : List PI) (i : Nat) : TD := trF P (i + 1) i
theorem trF_of {L : List IE} : ∀ (k i : Nat), treeF L k i = trF (D2 L) k i
 | 0, _ => rfl
 | k + 1, i => by
  show TD.node _ _ = TD.node _ _
  rw [ei_d, ei_a]
  congr 1
  exact List.map_congr_left fun a _ => trF_of k a.toNat
theorem trP_of {L : List IE} {i : Nat} : treeM L i = trP (D2 L) i := trF_of _ _
section
variable {P Q : List PI} {i j : Nat}
theorem trF_eq (hok : OKP P) : ∀ (k i : Nat), i < k → i < P.length → trF P k i = trP P i := by
 intro k
 induction k using Nat.strongRecOn with
 | _ k ih =>
  intro i hk hi
  cases k with
  | zero => omega
  | succ k =>
   unfold trP
   show TD.node _ _ = TD.node _ _
   congr 1
   refine List.map_congr_left fun a ha => ?_
   obtain ⟨h1, h2⟩ := hok i hi a ha
   rcases Nat.lt_or_ge i k with g | g
   ·rw [ih k zy a.toNat zy zy, ih i zy a.toNat zy zy]
   ·obtain rfl : k = i := by omega
    rfl
theorem trP_eq (hok : OKP P) (hi : i < P.length) : trP P i = .node (pd P i).1 ((pd P i).2.map fun a => trP P a.toNat) := by
 unfold trP
 show TD.node _ _ = TD.node _ _
 congr 1
 refine List.map_congr_left fun a ha => ?_
 obtain ⟨h1, h2⟩ := hok i hi a ha
 exact trF_eq hok i a.toNat zy zy
theorem trP_app (hok : OKP (P ++ Q)) : ∀ i, i < P.length → trP (P ++ Q) i = trP P i := by
 intro i
 induction i using Nat.strongRecOn with
 | _ i ih =>
  intro hi
  rw [trP_eq hok (by rw [List.length_append]; omega), trP_eq hok.left hi, pd_app hi]
  congr 1
  refine List.map_congr_left fun a ha => ?_
  have := hok.left i hi a ha
  exact ih a.toNat zy zy
end
theorem fold_min {f : Int → Nat} : ∀ {l : List Int} {n : Nat}, l.foldl (fun n a => min 4097 (n + min 4097 (f a))) (min 4097 n) = min 4097 (n + (l.map f).sum)
 | [], n => by simp
 | a :: l, n => by
  rw [List.foldl_cons, show min 4097 (min 4097 n + min 4097 (f a)) = min 4097 (n + f a) by omega, fold_min, List.map_cons, List.sum_cons, Nat.add_assoc]
theorem szK_sum : ∀ {ks : List TD}, szK ks = (ks.map szT).sum
 | [] => by rw [szK]; rfl
 | k :: ks => by rw [szK, List.map_cons, List.sum_cons, szK_sum]
theorem szM_is {L : List IE} (hok : ∀ i, i < L.length → okI L i = true) : ∀ i, i < L.length → szM L i = min 4097 (szT (treeM L i)) := by
 intro i
 induction i using Nat.strongRecOn with
 | _ i ih =>
  intro hi
  rw [szM_eq hok hi, treeM_eq hok hi, szT, szK_sum, List.map_map]
  have e : (ei L i).ars.foldl (fun n a => min 4097 (n + szM L a.toNat)) 1 = (ei L i).ars.foldl (fun n a => min 4097 (n + min 4097 (szT (treeM L a.toNat)))) (min 4097 1) := by
   refine szF_eq.fold_congr fun n a ha => ?_
   have := ok_ar (hok i hi) ha
   rw [ih a.toNat zy zy]
  rw [e, fold_min (f := fun a => szT (treeM L a.toNat)), Nat.add_comm]
  rfl
theorem tree_of {L : List IE} {t : TD} {e : Nat} {u : TD} (hc : chkI L = 0) (ht : treeM L (L.length - 1) = t) (hs : szT t ≤ 4096) (h : TreeR L e u) : e = 0 ∧ u = t := by
 obtain ⟨h0, _, hok⟩ := chk_ok hc
 have hz := szM_is hok (L.length - 1) zy
 rw [ht] at hz
 rcases h with ⟨g, _⟩ | ⟨_, g, _⟩ | ⟨_, _, h1, h2⟩
 ·exact absurd hc g
 ·omega
 ·exact ⟨h1, h2.trans ht⟩
def SzP (P : List PI) : Prop := ∀ j, j < P.length → szT (trP P j) ≤ j + 1
mutual
theorem layT_tree : ∀ (t : TD) (P : List PI), OKP P → SzP P → OKP (layT t P) ∧ SzP (layT t P) ∧ (∃ Q, layT t P = P ++ Q) ∧ trP (layT t P) ((layT t P).length - 1) = t
 | .node d ks, P, h, hz => by
  obtain ⟨g1, g2, ⟨Q, g3⟩, B, g4, g5, g6⟩ := layK_tree ks P [] h hz
  have hl := layT_len (t := .node d ks) (L := P)
  rw [layT] at hl ⊢
  rw [List.nil_append] at g4
  have h1 : OKP ((layK ks P []).1 ++ [(d, (layK ks P []).2)]) := g1.snoc (by rw [g4]; exact g5)
  have h2 : trP ((layK ks P []).1 ++ [(d, (layK ks P []).2)]) (layK ks P []).1.length = .node d ks := by
   rw [trP_eq h1 (by simp), pd_end]
   have e : B.map (fun a => trP ((layK ks P []).1 ++ [(d, (layK ks P []).2)]) a.toNat) = ks := (List.map_congr_left fun a ha => by
    have := g5 a ha
    exact trP_app h1 _ zy).trans g6
   show TD.node d ((layK ks P []).2.map _) = _
   rw [g4] at e ⊢
   rw [e]
  refine ⟨h1, fun j hj => ?_, ⟨Q ++ [(d, (layK ks P []).2)], by rw [g3, List.append_assoc]⟩, by rw [List.length_append, List.length_cons, List.length_nil, Nat.zero_add, Nat.add_sub_cancel]; exact h2⟩
  rw [List.length_append, List.length_cons, List.length_nil] at hj hl
  rcases Nat.lt_or_ge j (layK ks P []).1.length with q | q
  ·rw [trP_app h1 j q]; exact g2 j q
  ·obtain rfl : j = (layK ks P []).1.length := by omega
   rw [h2]; omega
theorem layK_tree : ∀ (ks : List TD) (P : List PI) (A : List Int), OKP P → SzP P → OKP (layK ks P A).1 ∧ SzP (layK ks P A).1 ∧ (∃ Q, (layK ks P A).1 = P ++ Q) ∧
  ∃ B, (layK ks P A).2 = A ++ B ∧ (∀ b ∈ B, 0 ≤ b ∧ b < (((layK ks P A).1.length : Nat) : Int)) ∧ B.map (fun a => trP (layK ks P A).1 a.toNat) = ks
 | [], P, A, h, hz => by rw [layK]; exact ⟨h, hz, ⟨[], by simp⟩, [], by simp, fun b hb => by simp at hb, rfl⟩
 | k :: ks, P, A, h, hz => by
  obtain ⟨g1, g2, ⟨Q, g3⟩, g4⟩ := layT_tree k P h hz
  obtain ⟨k1, k2, ⟨Q', k3⟩, B, k4, k5, k6⟩ := layK_tree ks (layT k P) (A ++ [(((layT k P).length - 1 : Nat) : Int)]) g1 g2
  have hp := szT_pos (t := k)
  have hl := layT_len (t := k) (L := P)
  have hl2 := layK_len ks (layT k P) (A ++ [(((layT k P).length - 1 : Nat) : Int)])
  rw [layK]
  refine ⟨k1, k2, ⟨Q ++ Q', by rw [k3, g3, List.append_assoc]⟩, (((layT k P).length - 1 : Nat) : Int) :: B, by rw [k4, List.append_assoc]; rfl, fun b hb => ?_, ?_⟩
  ·rcases List.mem_cons.1 hb with rfl | hb
   ·omega
   ·exact k5 b hb
  ·rw [List.map_cons, k6]
   congr 1
   rw [Int.toNat_natCast]
   generalize (layK ks (layT k P) (A ++ [(((layT k P).length - 1 : Nat) : Int)])).1 = Z at *
   subst k3
   rw [trP_app k1 _ zy]
   exact g4
end
def shAt (last : Bool) (O : List PI) (y : PI) : Nat := if last = true then O.length else O.idxOf y
def shY (T : List Int) (x : PI) : PI := (x.1, mvA T x.2)
def shO (k : Nat) (O : List PI) (y : PI) : List PI := if k < O.length then O else O ++ [y]
def shS (n : Nat) (x : PI) (s : List PI × List Int) : List PI × List Int :=
 (shO (shAt (decide (s.2.length + 1 = n)) s.1 (shY s.2 x)) s.1 (shY s.2 x), s.2 ++ [((shAt (decide (s.2.length + 1 = n)) s.1 (shY s.2 x) : Nat) : Int)])
def shF (L : List PI) : Nat → List PI × List Int
 | 0 => ([], [])
 | i + 1 => shS L.length (pd L i) (shF L i)
def shareP (L : List PI) : List PI := (shF L L.length).1
theorem shAt_le {b : Bool} {O : List PI} {y : PI} : shAt b O y ≤ O.length := by
 unfold shAt
 split
 ·exact Nat.le_refl _
 ·exact List.idxOf_le_length
theorem shAt_pd {b : Bool} {O : List PI} {y : PI} (h : shAt b O y < O.length) : pd O (shAt b O y) = y := by
 unfold shAt at h ⊢
 split at h
 ·omega
 ·rename_i hb
  rw [if_neg hb]
  exact pd_of (by rw [List.getElem?_eq_getElem h, List.getElem_idxOf h])
theorem shAt_no {O : List PI} {y : PI} (h : ¬ shAt false O y < O.length) : y ∉ O := fun hy => h (by
 unfold shAt
 rw [if_neg (by decide)]
 exact List.idxOf_lt_length_of_mem hy)
structure ShI (L : List PI) (i : Nat) (O : List PI) (T : List Int) : Prop where
 t : T.length = i
 le : O.length ≤ i
 lt : ∀ j, j < i → 0 ≤ ai T j ∧ ai T j < ((O.length : Nat) : Int)
 sa : ∀ j, j < i → pd O (ai T j).toNat = shY T (pd L j)
 ok : OKP O
 nd : i < L.length → O.Nodup
 on : ∀ k, k < O.length → ∃ j, j < i ∧ ai T j = ((k : Nat) : Int)
 la : i = L.length → 0 < i → ai T (i - 1) = ((O.length : Nat) : Int) - 1
theorem ShI.zero {L : List PI} : ShI L 0 [] [] := ⟨rfl, Nat.le_refl _, fun j h => absurd h (Nat.not_lt_zero _), fun j h => absurd h (Nat.not_lt_zero _), OKP.nil, fun _ => List.nodup_nil, fun k h => absurd h (Nat.not_lt_zero _), fun _ h => absurd h (Nat.lt_irrefl _)⟩
theorem ShI.step {L O : List PI} {T : List Int} {i : Nat} (hL : OKP L) (hi : i < L.length) (h : ShI L i O T) : ShI L (i + 1) (shS L.length (pd L i) (O, T)).1 (shS L.length (pd L i) (O, T)).2 := by
 unfold shS
 simp only
 have ht := h.t
 generalize hb : decide (T.length + 1 = L.length) = b
 generalize hy : shY T (pd L i) = y
 generalize hk : shAt b O y = k
 have hkl : k ≤ O.length := by rw [← hk]; exact shAt_le
 have hA := hL i hi
 have hya : ∀ a ∈ y.2, 0 ≤ a ∧ a < ((O.length : Nat) : Int) := fun a ha => by
  rw [← hy] at ha
  obtain ⟨c, hc, rfl⟩ := List.mem_map.1 ha
  have := hA c hc
  exact h.lt c.toNat zy
 have hT : ∀ j, j < i → ai (T ++ [((k : Nat) : Int)]) j = ai T j := fun j hj => ai_app zy
 have hTi : ai (T ++ [((k : Nat) : Int)]) i = k := by rw [← ht]; exact ai_end
 have hshY : ∀ j, j ≤ i → j < L.length → shY (T ++ [((k : Nat) : Int)]) (pd L j) = shY T (pd L j) := fun j hj hjl => by
  unfold shY
  rw [mv_app fun a ha => by have := hL j hjl a ha; omega]
 unfold shO
 by_cases hkO : k < O.length
 ·rw [if_pos hkO]
  have hpk : pd O k = y := by rw [← hk]; exact shAt_pd (by rw [hk]; exact hkO)
  refine ⟨by simp [ht], by have := h.le; omega, fun j hj => ?_, fun j hj => ?_, h.ok, fun _ => h.nd hi, fun q hq => ?_, fun hl _ => ?_⟩
  ·rcases Nat.lt_or_ge j i with g | g
   ·rw [hT j g]; exact h.lt j g
   ·obtain rfl : j = i := by omega
    rw [hTi]; omega
  ·rcases Nat.lt_or_ge j i with g | g
   ·rw [hT j g, hshY j zy zy]; exact h.sa j g
   ·obtain rfl : j = i := by omega
    rw [hTi, hshY j zy zy, hy]; exact hpk
  ·obtain ⟨j, h1, h2⟩ := h.on q hq
   exact ⟨j, by omega, by rw [hT j h1]; exact h2⟩
  ·exfalso
   have : b = true := by rw [← hb]; exact decide_eq_true zy
   rw [← hk, this] at hkO
   unfold shAt at hkO
   rw [if_pos rfl] at hkO
   omega
 ·rw [if_neg hkO]
  obtain rfl : k = O.length := by omega
  refine ⟨by simp [ht], by have := h.le; simp; omega, fun j hj => ?_, fun j hj => ?_, h.ok.snoc hya, fun hl => ?_, fun q hq => ?_, fun hl _ => ?_⟩
  ·rw [List.length_append, List.length_cons, List.length_nil]
   rcases Nat.lt_or_ge j i with g | g
   ·rw [hT j g]; have := h.lt j g; omega
   ·obtain rfl : j = i := by omega
    rw [hTi]; omega
  ·rcases Nat.lt_or_ge j i with g | g
   ·rw [hT j g, hshY j zy zy, pd_app (by have := h.lt j g; omega)]; exact h.sa j g
   ·obtain rfl : j = i := by omega
    rw [hTi, hshY j zy zy, hy]; exact pd_end
  ·have hbf : b = false := by rw [← hb]; exact decide_eq_false zy
   rw [hbf] at hk
   have hn := shAt_no (by rw [hk]; exact hkO)
   exact List.nodup_append.2 ⟨h.nd hi, by simp, fun u hu v hv e => by rw [List.mem_singleton.1 hv] at e; exact hn (e ▸ hu)⟩
  ·rw [List.length_append, List.length_cons, List.length_nil] at hq
   rcases Nat.lt_or_ge q O.length with g | g
   ·obtain ⟨j, h1, h2⟩ := h.on q g
    exact ⟨j, by omega, by rw [hT j h1]; exact h2⟩
   ·exact ⟨i, by omega, by rw [hTi]; omega⟩
  ·rw [Nat.add_sub_cancel, hTi, List.length_append, List.length_cons, List.length_nil]; omega
theorem ShI.all {L : List PI} (hL : OKP L) : ∀ {i : Nat}, i ≤ L.length → ShI L i (shF L i).1 (shF L i).2
 | 0, _ => ShI.zero
 | i + 1, hi => ShI.step hL zy (ShI.all hL (i := i) zy)
section
variable {L : List PI}
theorem share_le (hL : OKP L) : (shareP L).length ≤ L.length := (ShI.all hL (Nat.le_refl _)).le
theorem share_ok (hL : OKP L) : OKP (shareP L) := (ShI.all hL (Nat.le_refl _)).ok
theorem share_tree (hL : OKP L) : ∀ j, j < L.length → trP (shareP L) (ai (shF L L.length).2 j).toNat = trP L j := by
 have h := ShI.all hL (Nat.le_refl L.length)
 unfold shareP
 intro j
 induction j using Nat.strongRecOn with
 | _ j ih =>
  intro hj
  have hl := h.lt j hj
  rw [trP_eq h.ok zy, trP_eq hL hj, h.sa j hj]
  unfold shY mvA
  rw [List.map_map]
  congr 1
  refine List.map_congr_left fun a ha => ?_
  have := hL j hj a ha
  exact ih a.toNat zy zy
theorem share_pos (hL : OKP L) (h0 : 0 < L.length) : 0 < (shareP L).length := by
 have := (ShI.all hL (Nat.le_refl L.length)).lt 0 h0
 unfold shareP
 omega
theorem share_last (hL : OKP L) (h0 : 0 < L.length) : trP (shareP L) ((shareP L).length - 1) = trP L (L.length - 1) := by
 have h1 := share_tree hL (L.length - 1) zy
 have h2 := (ShI.all hL (Nat.le_refl L.length)).la rfl h0
 have h3 := share_pos hL h0
 rw [h2] at h1
 unfold shareP at h3 ⊢
 rw [← h1]
 unfold shareP
 congr 1
 omega
end
abbrev Te := List Nat × AV
def mapT : Nat → List Te → List AV
 | _, [] => []
 | i, x :: M => .str x.1 :: x.2 :: .int .i64 ((i : Nat) : Int) :: mapT (i + 1) M
def getT : List Te → List Nat → AV
 | [], _ => .nils
 | x :: M, k => if x.1 = k then x.2 else getT M k
def putT : List Te → List Nat → AV → List Te
 | [], k, v => [(k, v)]
 | x :: M, k, v => if x.1 = k then (k, v) :: M else x :: putT M k v
theorem mapT_append : ∀ (M N : List Te) (i : Nat), mapT i (M ++ N) = mapT i M ++ mapT (i + M.length) N
 | [], N, i => rfl
 | x :: M, N, i => by
  simp only [List.cons_append, mapT, mapT_append M N, List.length_cons]
  rw [show i + 1 + M.length = i + (M.length + 1) by omega]
theorem mapT_push (M : List Te) (k : List Nat) (z : AV) : mapT 0 M ++ [.str k, z, .int .i64 ((M.length : Nat) : Int)] = mapT 0 (M ++ [(k, z)]) := by
 rw [mapT_append, Nat.zero_add]; rfl
theorem mapT_get : ∀ (M : List Te) (i j : Nat) (x : Te), M[j]? = some x → (mapT i M)[3 * j]? = some (.str x.1) ∧ (mapT i M)[3 * j + 1]? = some x.2
 | [], i, j, x, h => by simp at h
 | y :: M, i, 0, x, h => by simp at h; subst h; exact ⟨rfl, rfl⟩
 | y :: M, i, j + 1, x, h => by
  have := mapT_get M (i + 1) j x (by simpa using h)
  have e1 : 3 * (j + 1) = 3 * j + 1 + 1 + 1 := by omega
  rw [e1]
  exact this
theorem mapT_set : ∀ (M : List Te) (i j : Nat) (k : List Nat) (w v : AV), M[j]? = some (k, w) → layL (mapT i M) (3 * j) [.str k, v] = mapT i (M.set j (k, v))
 | [], i, j, k, w, v, h => by simp at h
 | y :: M, i, 0, k, w, v, h => by
  simp at h
  subst h
  simp [layL, mapT]
 | y :: M, i, j + 1, k, w, v, h => by
  have ih := mapT_set M (i + 1) j k w v (by simpa using h)
  have e1 : 3 * (j + 1) = 3 * j + 1 + 1 + 1 := by omega
  rw [e1]
  simp only [mapT, layL, List.set_cons_succ, ih]
theorem keyT_ok {tb : Tab} {kt : Nat} (hu : tb.und kt = some .string) (k : List Nat) : keyOk tb (tb.und kt) (.str k) = true := by
 unfold keyOk
 simp only [hu]
theorem keyT_eq {tb : Tab} {kt : Nat} (hu : tb.und kt = some .string) (x y : List Nat) : eqIn tb 20 kt (.str x) (.str y) = some (decide (x = y)) := by
 unfold eqIn
 simp only [hu, eq_str]
theorem mapT_where {eq : AV → AV → Option Bool} (heq : ∀ x y : List Nat, eq (.str x) (.str y) = some (decide (x = y))) (k : List Nat) : ∀ (M : List Te) (i c : Nat),
  (findM eq (.str k) (mapT i M) c = some none ∧ getT M k = .nils ∧ ∀ v, putT M k v = M ++ [(k, v)]) ∨ ∃ j, M[j]? = some (k, getT M k) ∧ (∀ v, putT M k v = M.set j (k, v)) ∧ findM eq (.str k) (mapT i M) c = some (some (c + j))
 | [], i, c => .inl ⟨rfl, rfl, fun _ => rfl⟩
 | y :: M, i, c => by
  by_cases e : k = y.1
  ·subst e
   have e1 : getT (y :: M) y.1 = y.2 := if_pos rfl
   refine .inr ⟨0, by rw [e1]; rfl, fun v => if_pos rfl, ?_⟩
   show (match eq (.str y.1) (.str y.1) with | some true => some (some c) | some false => _ | none => none) = _
   rw [heq, decide_eq_true rfl]; rfl
  ·have h0 : findM eq (.str k) (mapT i (y :: M)) c = findM eq (.str k) (mapT (i + 1) M) (c + 1) := by
    show (match eq (.str k) (.str y.1) with | some true => some (some c) | some false => findM eq (.str k) (mapT (i + 1) M) (c + 1) | none => none) = _
    rw [heq, decide_eq_false e]
   have e1 : getT (y :: M) k = getT M k := if_neg fun q => e q.symm
   have e2 : ∀ v, putT (y :: M) k v = y :: putT M k v := fun v => if_neg fun q => e q.symm
   rw [h0]
   rcases mapT_where heq k M (i + 1) (c + 1) with ⟨h1, h2, h3⟩ | ⟨j, h1, h2, h3⟩
   ·exact .inl ⟨h1, by rw [e1]; exact h2, fun v => by rw [e2, h3]; rfl⟩
   ·refine .inr ⟨j + 1, by rw [e1]; simpa using h1, fun v => by rw [e2, h2]; rfl, ?_⟩
    rw [h3]
    congr 2
    omega
section
variable {tb : Tab} {n : Nat} {E : Env} {s : St} {hs : HSt} {R : T AV → AHeap → Prop} {ops rest : List Oper} {d : Nat} {t : TypeId} {ty : TypeId} {pos : String} {aft : Array Edge}
theorem Spec.knownM {f : Nat} {args : List AV} {v : AV} (ho : ∀ h, KeepIn hs h → tb.orc f args h = some v) : Spec tb f args [] hs (Val v) := by
 intro h hh
 exact ⟨v, h, [], Evt.of fun K => by unfold evCall; rw [ho h hh.keep], ⟨rfl, rfl⟩, fun e he => no_w he, hh.sub (SubH.nil _)⟩
theorem WO.makeMap {kt et : Nat} (hu : mapTypes (tb.und t) = some (kt, et)) (hd : Nat.blt d n = true) (hk : ∀ b, WO tb n ops rest E ((d, .map b) :: s) (⟨b, ⟨0, true, []⟩, true⟩ :: hs) R) :
  WO tb n ops (⟨some d, .makeMap t none, ty, pos, aft, none⟩ :: rest) E s hs R := by
 refine WO.l (s' := s) fun tm h ht hh => ?_
 refine ⟨.map h.next, ⟨h.next + 1, h.objs.set h.next ⟨0, true, []⟩⟩, tm.set d (.map h.next), ?_, putDst_at hd, hk h.next _ _ (ht.set d _) (hh.new _)⟩
 show Res.l (evMakeMap tb tm h t none) = _
 unfold evMakeMap
 simp only [hu]
theorem Q.lookM {ox ok : Operand} {kt et b : Nat} {M : List Te} {ex w : Bool} {k : List Nat} (hu : mapTypes (tb.und t) = some (kt, et)) (hs_ : tb.und kt = some .string) (hz : tb.zero et = some .nils) (hx : oL s ox = some (.map b)) (hy : oL s ok = some (.str k)) (hm : ⟨b, ⟨M.length, ex, mapT 0 M⟩, w⟩ ∈ hs) :
  QV tb s hs (.lookup t ox ok false) (getT M k) := by
 intro tm h ht hh call
 have hob := hh _ hm
 simp only at hob
 show Res.q (evLookup tb tm h.objs t ox ok false) = _
 unfold evLookup
 simp only [hu, oL_ok ht hx, oL_ok ht hy]
 unfold lookA
 simp only [keyT_ok hs_, hob, hz]
 rcases mapT_where (keyT_eq (tb := tb) hs_) k M 0 0 with ⟨h1, h2, _⟩ | ⟨j, h1, _, h3⟩
 ·rw [h1, h2]; rfl
 ·rw [h3, Nat.zero_add]
  unfold lookIn
  simp only [(mapT_get M 0 j _ h1).2]
  rfl
theorem Q.lookE {ox ok : Operand} {kt et b : Nat} {M : List Te} {ex w : Bool} {k : List Nat} {v : AV} (hu : mapTypes (tb.und t) = some (kt, et)) (hs_ : tb.und kt = some .string) (hz : tb.zero et = some .nils) (hx : oL s ox = some (.map b)) (hy : oL s ok = some (.str k)) (hm : ⟨b, ⟨M.length, ex, mapT 0 M⟩, w⟩ ∈ hs) (he : getT M k = v) :
  QV tb s hs (.lookup t ox ok false) v := he ▸ Q.lookM hu hs_ hz hx hy hm
theorem WO.mapPut {ox ok oy : Operand} {kt et i b : Nat} {M : List Te} {ex : Bool} {k : List Nat} {v : AV} {hs' : HSt} (hu : mapTypes (tb.und t) = some (kt, et)) (hst : tb.und kt = some .string) (hx : oL s ox = some (.map b)) (hy : oL s ok = some (.str k)) (hv : oL s oy = some v) (hi : hs[i]? = some ⟨b, ⟨M.length, ex, mapT 0 M⟩, true⟩)
  (hs_ : hs.set i ⟨b, ⟨(putT M k v).length, ex, mapT 0 (putT M k v)⟩, true⟩ = hs') (hk : WO tb n ops rest E s hs' R) :
  WO tb n ops (⟨none, .mapUpdate t ox ok oy, ty, pos, aft, none⟩ :: rest) E s hs R := by
 refine WO.l (s' := s) fun tm h ht hh => ?_
 have hob := (hh.at_ _ (mem_at hi)).1
 simp only at hob
 subst hs_
 refine ⟨.tuple [], ⟨h.next, h.objs.set b ⟨(putT M k v).length, ex, mapT 0 (putT M k v)⟩⟩, tm, ?_, rfl, hk _ _ ht (hh.put hi)⟩
 show Res.l (evMapUpdate tb tm h t ox ok oy) = _
 unfold evMapUpdate
 simp only [hu, oL_ok ht hx, oL_ok ht hy, oL_ok ht hv, keyT_ok hst, hob]
 rcases mapT_where (keyT_eq (tb := tb) hst) k M 0 0 with ⟨h1, _, h2⟩ | ⟨j, h1, h2, h3⟩
 ·rw [h1, h2 v]
  unfold putM
  simp only [List.length_append, List.length_cons, List.length_nil, Nat.zero_add]
  rw [← mapT_push]
  rfl
 ·rw [h3, h2 v, Nat.zero_add]
  unfold putM
  have e : (AV.str k).beq (.str k) = true := by simp [AV.beq, beq1, beq0]
  simp only [(mapT_get M 0 j _ h1).1, e, mapT_set M 0 j k _ v h1, List.length_set]
  rfl
end
theorem W.loop_ind9 {α0 α1 α2 α3 α4 α5 α6 α7 α8 : Type} {tb : Tab} {n : Nat} {E : Env} {s : St} {hs : HSt} {b : Code} {Q} (st : α0 → α1 → α2 → α3 → α4 → α5 → α6 → α7 → α8 → St) (hp : α0 → α1 → α2 → α3 → α4 → α5 → α6 → α7 → α8 → HSt) (Inv : α0 → α1 → α2 → α3 → α4 → α5 → α6 → α7 → α8 → Prop) (μ : α0 → α1 → α2 → α3 → α4 → α5 → α6 → α7 → α8 → Nat) (z0 : α0) (z1 : α1) (z2 : α2) (z3 : α3) (z4 : α4) (z5 : α5) (z6 : α6) (z7 : α7) (z8 : α8) (h0 : Inv z0 z1 z2 z3 z4 z5 z6 z7 z8)
  (hsub : SubS (st z0 z1 z2 z3 z4 z5 z6 z7 z8) s) (hsubH : SubH (hp z0 z1 z2 z3 z4 z5 z6 z7 z8) hs)
  (step : ∀ a0 a1 a2 a3 a4 a5 a6 a7 a8, Inv a0 a1 a2 a3 a4 a5 a6 a7 a8 → (∀ b0 b1 b2 b3 b4 b5 b6 b7 b8, Inv b0 b1 b2 b3 b4 b5 b6 b7 b8 → μ b0 b1 b2 b3 b4 b5 b6 b7 b8 < μ a0 a1 a2 a3 a4 a5 a6 a7 a8 → W tb n (.loop b) E (st b0 b1 b2 b3 b4 b5 b6 b7 b8) (hp b0 b1 b2 b3 b4 b5 b6 b7 b8) Q) → W tb n b E (st a0 a1 a2 a3 a4 a5 a6 a7 a8) (hp a0 a1 a2 a3 a4 a5 a6 a7 a8) (KL tb n b Q)) :
  W tb n (.loop b) E s hs Q :=
 W.loop_ind (α := α0 × α1 × α2 × α3 × α4 × α5 × α6 × α7 × α8) (fun x => st x.1 x.2.1 x.2.2.1 x.2.2.2.1 x.2.2.2.2.1 x.2.2.2.2.2.1 x.2.2.2.2.2.2.1 x.2.2.2.2.2.2.2.1 x.2.2.2.2.2.2.2.2) (fun x => hp x.1 x.2.1 x.2.2.1 x.2.2.2.1 x.2.2.2.2.1 x.2.2.2.2.2.1 x.2.2.2.2.2.2.1 x.2.2.2.2.2.2.2.1 x.2.2.2.2.2.2.2.2) (fun x => Inv x.1 x.2.1 x.2.2.1 x.2.2.2.1 x.2.2.2.2.1 x.2.2.2.2.2.1 x.2.2.2.2.2.2.1 x.2.2.2.2.2.2.2.1 x.2.2.2.2.2.2.2.2) (fun x => μ x.1 x.2.1 x.2.2.1 x.2.2.2.1 x.2.2.2.2.1 x.2.2.2.2.2.1 x.2.2.2.2.2.2.1 x.2.2.2.2.2.2.2.1 x.2.2.2.2.2.2.2.2)
  (z0, z1, z2, z3, z4, z5, z6, z7, z8) h0 hsub hsubH fun a ha ih => step a.1 a.2.1 a.2.2.1 a.2.2.2.1 a.2.2.2.2.1 a.2.2.2.2.2.1 a.2.2.2.2.2.2.1 a.2.2.2.2.2.2.2.1 a.2.2.2.2.2.2.2.2 ha fun b0 b1 b2 b3 b4 b5 b6 b7 b8 => ih (b0, b1, b2, b3, b4, b5, b6, b7, b8)
end Go.Proofs.YtndhhgbpcmfeiaaGreatDoor.Ev
