/- Trees in memory; what a plan means, as plain law. -/
import Derived.Test.YtndhhgbpcmfeiaaGreatDoorGGe
namespace Go.Proofs.YtndhhgbpcmfeiaaGreatDoor.Ev
open Go.RowKit
set_option linter.unusedVariables false
set_option linter.unusedSimpArgs false
/-- A tree. -/
inductive TD
  | node (d : ND) (ks : List TD)
mutual
/-- A tree's node in memory. -/
def TRep (hs : HSt) : TD → List AV → Prop
  | .node d ks, c => ∃ vm vn vk cs, c = d.c vm vn vk ∧ RIn hs 3 d.ms.length (cM d.ms) vm ∧ RIn hs 1 d.nm.length (cS d.nm) vn ∧ RIn hs 11 ks.length (cs.flatMap id) vk ∧ d.bd ∧ ks.length ≤ 1048576 ∧ TReps hs ks cs
def TReps (hs : HSt) : List TD → List (List AV) → Prop
  | [], cs => cs = []
  | k :: ks, cs => ∃ c r, cs = c :: r ∧ TRep hs k c ∧ TReps hs ks r
end
mutual
theorem TRep.mono {hs hs' : HSt} (hm : ∀ b o, MemH hs b o → MemH hs' b o) : ∀ {t : TD} {c : List AV}, TRep hs t c → TRep hs' t c
  | .node d ks, c, h => by
    rw [TRep] at h ⊢
    obtain ⟨vm, vn, vk, cs, h1, h2, h3, h4, h5, h6, h7⟩ := h
    exact ⟨vm, vn, vk, cs, h1, h2.mono hm, h3.mono hm, h4.mono hm, h5, h6, TReps.mono hm h7⟩
theorem TReps.mono {hs hs' : HSt} (hm : ∀ b o, MemH hs b o → MemH hs' b o) : ∀ {ks : List TD} {cs : List (List AV)}, TReps hs ks cs → TReps hs' ks cs
  | [], cs, h => by rw [TReps] at h ⊢; exact h
  | k :: ks, cs, h => by
    rw [TReps] at h ⊢
    obtain ⟨c, r, h1, h2, h3⟩ := h
    exact ⟨c, r, h1, TRep.mono hm h2, TReps.mono hm h3⟩
end
section
variable {hs : HSt} {t : TD} {ks : List TD} {c : List AV} {cs : List (List AV)}
theorem TRep.len (h : TRep hs t c) : c.length = 11 := by
  cases t with
  | node d ks =>
    rw [TRep] at h
    obtain ⟨vm, vn, vk, cs, rfl, _⟩ := h
    rfl
theorem TReps.length : ∀ {ks : List TD} {cs : List (List AV)}, TReps hs ks cs → cs.length = ks.length
  | [], cs, h => by rw [TReps] at h; subst h; rfl
  | k :: ks, cs, h => by
    rw [TReps] at h
    obtain ⟨c, r, rfl, _, h3⟩ := h
    rw [List.length_cons, List.length_cons, TReps.length h3]
theorem TReps.at : ∀ {ks : List TD} {cs : List (List AV)} {i : Nat} {k : TD}, TReps hs ks cs → ks[i]? = some k → ∃ c, cs[i]? = some c ∧ TRep hs k c
  | [], cs, i, k, h, hk => by simp at hk
  | x :: ks, cs, 0, k, h, hk => by
    rw [TReps] at h
    obtain ⟨c, r, rfl, h2, _⟩ := h
    simp at hk
    subst hk
    exact ⟨c, rfl, h2⟩
  | x :: ks, cs, i + 1, k, h, hk => by
    rw [TReps] at h
    obtain ⟨c, r, rfl, _, h3⟩ := h
    obtain ⟨c', h4, h5⟩ := TReps.at (i := i) h3 (by simpa using hk)
    exact ⟨c', by simpa using h4, h5⟩
theorem TReps.snoc : ∀ {ks : List TD} {cs : List (List AV)} {k : TD} {c : List AV}, TReps hs ks cs → TRep hs k c → TReps hs (ks ++ [k]) (cs ++ [c])
  | [], cs, k, c, h, hk => by
    rw [TReps] at h
    subst h
    show TReps hs [k] [c]
    rw [TReps]
    exact ⟨c, [], rfl, hk, by rw [TReps]⟩
  | x :: ks, cs, k, c, h, hk => by
    rw [TReps] at h
    obtain ⟨c', r, rfl, h2, h3⟩ := h
    show TReps hs (x :: (ks ++ [k])) (c' :: (r ++ [c]))
    rw [TReps]
    exact ⟨c', _, rfl, h2, TReps.snoc h3 hk⟩
theorem TReps.lens : ∀ {ks : List TD} {cs : List (List AV)}, TReps hs ks cs → ∀ c ∈ cs, c.length = 11
  | [], cs, h, c, hc => by rw [TReps] at h; subst h; simp at hc
  | k :: ks, cs, h, c, hc => by
    rw [TReps] at h
    obtain ⟨c', r, rfl, h2, h3⟩ := h
    rcases List.mem_cons.1 hc with rfl | hc
    · exact h2.len
    · exact TReps.lens h3 c hc
theorem flat_id_len : ∀ {cs : List (List AV)}, (∀ c ∈ cs, c.length = 11) → (cs.flatMap id).length = cs.length * 11
  | [], _ => rfl
  | c :: cs, h => by
    rw [List.flatMap_cons, List.length_append, flat_id_len fun x hx => h x (List.mem_cons_of_mem _ hx), List.length_cons, id, h c List.mem_cons_self]; omega
theorem flat_id_sub : ∀ {cs : List (List AV)} {i : Nat} {c : List AV}, (∀ c ∈ cs, c.length = 11) → cs[i]? = some c → sub? (cs.flatMap id) (i * 11) 11 = some c
  | [], i, c, _, h => by simp at h
  | y :: cs, 0, c, hl, h => by
    simp at h
    subst h
    have hy := hl y List.mem_cons_self
    unfold sub?
    rw [List.flatMap_cons, Nat.zero_mul, Nat.zero_add, id]
    have e : Nat.ble 11 (y ++ cs.flatMap id).length = true := Nat.ble_eq.mpr (by rw [List.length_append, hy]; omega)
    simp only [e]
    rw [List.drop_zero, List.take_append_of_le_length (by omega), List.take_of_length_le (by omega)]
  | y :: cs, i + 1, c, hl, h => by
    have hy := hl y List.mem_cons_self
    have hl' : ∀ c ∈ cs, c.length = 11 := fun x hx => hl x (List.mem_cons_of_mem _ hx)
    have ih := flat_id_sub hl' (i := i) (c := c) (by simpa using h)
    have hlen := flat_id_len hl'
    have hi : i < cs.length := by simpa using (List.getElem?_eq_some_iff.1 h).1
    unfold sub? at ih ⊢
    rw [List.flatMap_cons, id]
    have e : Nat.ble ((i + 1) * 11 + 11) (y ++ cs.flatMap id).length = true := Nat.ble_eq.mpr (by rw [List.length_append, hy, hlen]; omega)
    have e2 : Nat.ble (i * 11 + 11) (cs.flatMap id).length = true := Nat.ble_eq.mpr (by rw [hlen]; omega)
    simp only [e, e2] at ih ⊢
    rw [← ih, List.drop_append, List.drop_of_length_le (by rw [hy]; omega), List.nil_append, hy]
    congr 3
    omega
end
/-- The tree that a plan's instruction means. -/
def treeF (L : List IE) : Nat → Nat → TD
  | 0, _ => .node ND.zero []
  | k + 1, i => .node (ei L i).d ((ei L i).ars.map fun a => treeF L k a.toNat)
def treeM (L : List IE) (i : Nat) : TD := treeF L (i + 1) i
/-- How many nodes it has, as far as they count. -/
def szF (L : List IE) : Nat → Nat → Nat
  | 0, _ => 0
  | k + 1, i => (ei L i).ars.foldl (fun n a => min 4097 (n + szF L k a.toNat)) 1
def szM (L : List IE) (i : Nat) : Nat := szF L (i + 1) i
def zeroT : TD := .node ND.zero []
section
variable {L : List IE} {i : Nat}
theorem treeF_eq (hok : ∀ i, i < L.length → okI L i = true) : ∀ (k i : Nat), i < k → i < L.length → treeF L k i = treeM L i := by
  intro k
  induction k using Nat.strongRecOn with
  | _ k ih =>
    intro i hk hi
    cases k with
    | zero => omega
    | succ k =>
      unfold treeM
      show TD.node _ _ = TD.node _ _
      congr 1
      refine List.map_congr_left fun a ha => ?_
      obtain ⟨h1, h2⟩ := ok_ar (hok i hi) ha
      rcases Nat.lt_or_ge i k with g | g
      · rw [ih k (by omega) a.toNat (by omega) (by omega), ih i (by omega) a.toNat (by omega) (by omega)]
      · obtain rfl : k = i := by omega
        rfl
theorem treeM_eq (hok : ∀ i, i < L.length → okI L i = true) (hi : i < L.length) : treeM L i = .node (ei L i).d ((ei L i).ars.map fun a => treeM L a.toNat) := by
  unfold treeM
  show TD.node _ _ = TD.node _ _
  congr 1
  refine List.map_congr_left fun a ha => ?_
  obtain ⟨h1, h2⟩ := ok_ar (hok i hi) ha
  exact treeF_eq hok i a.toNat (by omega) (by omega)
theorem szF_eq (hok : ∀ i, i < L.length → okI L i = true) : ∀ (k i : Nat), i < k → i < L.length → szF L k i = szM L i := by
  intro k
  induction k using Nat.strongRecOn with
  | _ k ih =>
    intro i hk hi
    cases k with
    | zero => omega
    | succ k =>
      unfold szM
      show List.foldl _ _ _ = List.foldl _ _ _
      refine fold_congr fun n a ha => ?_
      obtain ⟨h1, h2⟩ := ok_ar (hok i hi) ha
      rcases Nat.lt_or_ge i k with g | g
      · rw [ih k (by omega) a.toNat (by omega) (by omega), ih i (by omega) a.toNat (by omega) (by omega)]
      · obtain rfl : k = i := by omega
        rfl
where
  fold_congr {f g : Nat → Int → Nat} : ∀ {l : List Int} {n : Nat}, (∀ n a, a ∈ l → f n a = g n a) → l.foldl f n = l.foldl g n
    | [], n, _ => rfl
    | a :: l, n, h => by
      rw [List.foldl_cons, List.foldl_cons, h n a List.mem_cons_self]
      exact fold_congr fun n b hb => h n b (List.mem_cons_of_mem _ hb)
theorem szM_eq (hok : ∀ i, i < L.length → okI L i = true) (hi : i < L.length) : szM L i = (ei L i).ars.foldl (fun n a => min 4097 (n + szM L a.toNat)) 1 := by
  unfold szM
  show List.foldl _ _ _ = _
  refine szF_eq.fold_congr fun n a ha => ?_
  obtain ⟨h1, h2⟩ := ok_ar (hok i hi) ha
  rw [szF_eq hok i a.toNat (by omega) (by omega)]; rfl
end
/-- What Tree makes. -/
def TreeR (L : List IE) (e : Nat) (t : TD) : Prop := (chkI L ≠ 0 ∧ e = chkI L ∧ t = zeroT) ∨ (chkI L = 0 ∧ 4096 < szM L (L.length - 1) ∧ e = 3 ∧ t = zeroT) ∨ (chkI L = 0 ∧ szM L (L.length - 1) ≤ 4096 ∧ e = 0 ∧ t = treeM L (L.length - 1))
end Go.Proofs.YtndhhgbpcmfeiaaGreatDoor.Ev
