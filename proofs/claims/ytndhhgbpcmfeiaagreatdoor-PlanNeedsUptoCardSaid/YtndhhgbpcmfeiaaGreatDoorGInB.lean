/- Instructions that come in. -/
import Derived.Test.YtndhhgbpcmfeiaaGreatDoorGNod
import Derived.Test.YtndhhgbpcmfeiaaGreatDoorGGi
namespace Go.Proofs.YtndhhgbpcmfeiaaGreatDoor.Ev
open Go.RowKit Go.ChangeShapes Go.WideShapes
set_option linter.unusedVariables false
set_option linter.unusedSimpArgs false
set_option maxRecDepth 100000
/-- A text's cells. -/
theorem cells_plain {H : Type} {P : Program} {w : World} {b off i sz : Nat} {cs : List Value} (h : w.cells? 0 ((⟨b, off, none⟩ : Addr).add (i * sz)) sz = some cs) : cs.length = sz ∧ ∀ j, j < sz → w.cell? ⟨b, off + (i * sz + j), none⟩ = cs[j]? := by
  obtain ⟨_, h2, h3⟩ := World.cells?_some h
  refine ⟨h2, fun j hj => ?_⟩
  have := h3 j hj
  rw [Deep.add_add, add_none] at this
  exact this
section
variable {H : Type} {enc : TypeId × Value → H} {P : Program} {w : World} {held : Bool}
/-- A flat row that comes in. -/
theorem row_in {α : Type} [Inhabited α] {f : α → List AV} {sz : Nat} {Good : α → Prop} {t e : TypeId} {n : Nat} {u : Value} {D : DataW H} {Pl : List MemPlace} (ht : P.underlying t = some (.slice e)) (ce : P.cellsOf e = sz) (hz : 0 < sz) (hf : ∀ x, (f x).length = sz)
    (hel : ∀ (n : Nat) (cs : List Value) (d : DataW H) (p : List MemPlace), DataW.trod enc P w 0 (fun _ => true) held n e cs = some (d, p) → Rows.uptoBulk d ≤ 1048576 → ∃ x : α, Good x ∧ ∀ (M : Inj) (j : Nat) (v : AV), (f x)[j]? = some v → v.isCell = true ∧ ∃ u, cs[j]? = some u ∧ VRel M v u)
    (h : DataW.trod enc P w 0 (fun _ => true) held n t [u] = some (D, Pl)) (hb : Rows.uptoBulk D ≤ 1048576) (B : Nat) (hB : ∃ c e fr, w.heap[B]? = some (.cells c e fr)) (k : Nat) :
    ∃ (X : List α) (va : AV) (x : InB), ((va = .nils ∧ X = []) ∨ (va = .slice k 0 X.length sz ∧ x.cells = X.flatMap f)) ∧ X.length ≤ 1048576 ∧ (∀ y ∈ X, Good y) ∧ ∀ M : Inj, M k = some x.bi → VRel M va u ∧ CellsOK w M x := by
  obtain ⟨cB, eB, fB, hB⟩ := hB
  rcases Deep.open_slice ht h with ⟨h1, h2⟩ | ⟨a, len, cap, m, n', Dd, Pd, h1, hb0, hle, hcap, hm, hx, hcell⟩
  · simp only [List.cons.injEq, and_true] at h1
    subst h1
    exact ⟨[], .nils, ⟨⟨B, 0, 0, sz, undef⟩, true, []⟩, .inl ⟨rfl, rfl⟩, by simp, fun x hx => by simp at hx, fun M hM => ⟨.nils, rfl, rfl, cB, eB, fB, hB, fun k v hv => by simp at hv⟩⟩
  · simp only [List.cons.injEq, and_true] at h1
    subst h1
    have hm : m = cap := hm
    subst hm
    simp only [Prod.mk.injEq] at hx
    obtain ⟨hD, _⟩ := hx
    have hbd : Rows.uptoBulkAll ((List.range len).map Dd) ≤ 1048576 := by
      rw [hD] at hb
      simp only [Rows.uptoBulk] at hb
      omega
    have hlen : len ≤ 1048576 := by
      have := bk_len ((List.range len).map Dd)
      simp only [List.length_map, List.length_range] at this
      omega
    by_cases hc : m = 0
    · subst hc
      obtain rfl : len = 0 := by omega
      exact ⟨[], .slice k 0 0 sz, ⟨⟨B, 0, 0, sz, undef⟩, true, []⟩, .inr ⟨rfl, rfl⟩, by simp, fun x hx => by simp at hx, fun M hM => ⟨.slice k 0 0 0 a ⟨B, 0, 0, sz, undef⟩ hM rfl (Nat.le_refl _) (.inr rfl) rfl, rfl, rfl, cB, eB, fB, hB, fun k v hv => by simp at hv⟩⟩
    obtain ⟨b, off, spot⟩ := a
    have hspot : spot = none := by
      obtain ⟨cs0, g1, _⟩ := hcell 0 (by omega)
      rw [ce] at g1
      obtain ⟨_, g2, g3⟩ := World.cells?_some g1
      have g4 := g3 0 hz
      rw [List.getElem?_eq_getElem (by omega)] at g4
      simpa [Addr.add] using World.cell?_spot g4
    subst hspot
    have hq : ∀ i, i < len → ∃ q : List Value × α, q.1.length = sz ∧ (∀ j, j < sz → w.cell? ⟨b, off + (i * sz + j), none⟩ = q.1[j]?) ∧ Good q.2 ∧ ∀ (M : Inj) (j : Nat) (v : AV), (f q.2)[j]? = some v → v.isCell = true ∧ ∃ u, q.1[j]? = some u ∧ VRel M v u := fun i hi => by
      obtain ⟨cs, g1, g2⟩ := hcell i (by omega)
      rw [ce] at g1
      obtain ⟨g3, g4⟩ := cells_plain (H := H) (P := P) g1
      have hp := bk_part (List.mem_map.2 ⟨i, by simpa using hi, rfl⟩ : Dd i ∈ (List.range len).map Dd)
      obtain ⟨x, g5, g6⟩ := hel _ _ _ _ g2 (by omega)
      exact ⟨(cs, x), g3, g4, g5, g6⟩
    obtain ⟨q, hq⟩ := Deep.choose_lt hq
    have hX : ((List.range len).map fun i => (q i).2).length = len := by simp
    have hXi : ∀ i, i < len → ((List.range len).map fun i => (q i).2)[i]? = some (q i).2 := fun i hi => by simp [hi]
    refine ⟨(List.range len).map fun i => (q i).2, .slice k 0 len sz, ⟨⟨b, off, m, sz, undef⟩, true, ((List.range len).map fun i => (q i).2).flatMap f⟩, .inr ⟨by rw [hX], rfl⟩, by omega, fun y hy => ?_, fun M hM => ⟨.slice k 0 len m _ ⟨b, off, m, sz, undef⟩ hM (Nat.zero_add _) hle (.inl (by simp)) rfl, rfl, rfl, ?_⟩⟩
    · obtain ⟨i, hi, rfl⟩ := List.mem_map.1 hy
      exact (hq i (by simpa using hi)).2.2.1
    · obtain ⟨cs0, g1, _⟩ := hcell 0 (by omega)
      rw [ce] at g1
      obtain ⟨g2, g3⟩ := cells_plain (H := H) (P := P) g1
      have g4 := g3 0 hz
      rw [List.getElem?_eq_getElem (by omega)] at g4
      obtain ⟨c, e, fr, g5, _⟩ := cell_cells' g4
      refine ⟨c, e, fr, g5, fun j v hv => ?_⟩
      have hv : (((List.range len).map fun i => (q i).2).flatMap f)[j]? = some v := hv
      have hj : j < len * sz := by
        have := (List.getElem?_eq_some_iff.1 hv).1
        rw [flat_len hf, hX] at this
        exact this
      have hi : j / sz < len := Nat.div_lt_of_lt_mul (by rw [Nat.mul_comm]; exact hj)
      have hr : j % sz < sz := Nat.mod_lt _ hz
      have ej : j / sz * sz + j % sz = j := by rw [Nat.mul_comm]; exact Nat.div_add_mod j sz
      have h3 := flat_at hf _ (j / sz) (j % sz) _ (hXi _ hi) hr
      rw [ej, hv] at h3
      obtain ⟨k1, k2, _, k4⟩ := hq _ hi
      obtain ⟨h4, u, h5, h6⟩ := k4 M _ _ h3.symm
      have h7 := k2 _ hr
      rw [h5, ej] at h7
      obtain ⟨c', e', fr', h8, h9⟩ := cell_cells' h7
      rw [g5] at h8
      cases h8
      exact ⟨h4, u, h9, h6⟩
/-- A row of which the length is known alone. -/
theorem len_in {sz : Nat} {t e : TypeId} {n : Nat} {u : Value} {D : DataW H} {Pl : List MemPlace} (ht : P.underlying t = some (.slice e)) (ce : P.cellsOf e = sz) (hz : 0 < sz)
    (h : DataW.trod enc P w 0 (fun _ => true) held n t [u] = some (D, Pl)) (B : Nat) (hB : ∃ c e fr, w.heap[B]? = some (.cells c e fr)) (k : Nat) :
    ∃ (nk : Nat) (va : AV) (x : InB), KLn va nk ∧ ∀ M : Inj, M k = some x.bi → VRel M va u ∧ CellsOK w M x := by
  obtain ⟨cB, eB, fB, hB⟩ := hB
  rcases Deep.open_slice ht h with ⟨h1, h2⟩ | ⟨a, len, cap, m, n', Dd, Pd, h1, hb0, hle, hcap, hm, hx, hcell⟩
  · simp only [List.cons.injEq, and_true] at h1
    subst h1
    exact ⟨0, .nils, ⟨⟨B, 0, 0, sz, undef⟩, true, []⟩, .inl ⟨rfl, rfl⟩, fun M hM => ⟨.nils, rfl, rfl, cB, eB, fB, hB, fun k v hv => by simp at hv⟩⟩
  · simp only [List.cons.injEq, and_true] at h1
    subst h1
    have hm : m = cap := hm
    subst hm
    by_cases hc : m = 0
    · subst hc
      obtain rfl : len = 0 := by omega
      exact ⟨0, .slice k 0 0 sz, ⟨⟨B, 0, 0, sz, undef⟩, true, []⟩, .inr ⟨k, 0, sz, rfl⟩, fun M hM => ⟨.slice k 0 0 0 a ⟨B, 0, 0, sz, undef⟩ hM rfl (Nat.le_refl _) (.inr rfl) rfl, rfl, rfl, cB, eB, fB, hB, fun k v hv => by simp at hv⟩⟩
    obtain ⟨b, off, spot⟩ := a
    obtain ⟨cs0, g1, _⟩ := hcell 0 (by omega)
    rw [ce] at g1
    have hspot : spot = none := by
      obtain ⟨_, g2, g3⟩ := World.cells?_some g1
      have g4 := g3 0 hz
      rw [List.getElem?_eq_getElem (by omega)] at g4
      simpa [Addr.add] using World.cell?_spot g4
    subst hspot
    obtain ⟨g2, g3⟩ := cells_plain (H := H) (P := P) g1
    have g4 := g3 0 hz
    rw [List.getElem?_eq_getElem (by omega)] at g4
    obtain ⟨c, e, fr, g5, _⟩ := cell_cells' g4
    exact ⟨len, .slice k 0 len sz, ⟨⟨b, off, m, sz, undef⟩, true, []⟩, .inr ⟨k, 0, sz, rfl⟩, fun M hM => ⟨.slice k 0 len m _ ⟨b, off, m, sz, undef⟩ hM (Nat.zero_add _) hle (.inl (by simp)) rfl, rfl, rfl, c, e, fr, g5, fun j v hv => by simp at hv⟩⟩
theorem str_in {e : TypeId} (he : P.underlying e = some .string) : ∀ (n : Nat) (cs : List Value) (d : DataW H) (p : List MemPlace), DataW.trod enc P w 0 (fun _ => true) held n e cs = some (d, p) → Rows.uptoBulk d ≤ 1048576 → ∃ x : List Nat, Bytes x ∧ ∀ (M : Inj) (j : Nat) (v : AV), [AV.str x][j]? = some v → v.isCell = true ∧ ∃ u, cs[j]? = some u ∧ VRel M v u := by
  intro n cs d p h _
  obtain ⟨s, rfl, _⟩ := DataW.trod_string he h
  refine ⟨strOf (.string s), str_bytes s, fun M j v hv => ?_⟩
  match j with
  | 0 => simp at hv; subst hv; exact ⟨rfl, _, rfl, str_rel⟩
  | j + 1 => simp at hv
theorem num_in {e : TypeId} (he : P.underlying e = some (.int .i64)) : ∀ (n : Nat) (cs : List Value) (d : DataW H) (p : List MemPlace), DataW.trod enc P w 0 (fun _ => true) held n e cs = some (d, p) → Rows.uptoBulk d ≤ 1048576 → ∃ x : Int, I64 x ∧ ∀ (M : Inj) (j : Nat) (v : AV), [AV.int .i64 x][j]? = some v → v.isCell = true ∧ ∃ u, cs[j]? = some u ∧ VRel M v u := by
  intro n cs d p h _
  obtain ⟨z, rfl, _, hz⟩ := DataW.trod_int he h
  simp only [Lit.wf, Bool.and_eq_true, decide_eq_true_eq] at hz
  refine ⟨z, hz, fun M j v hv => ?_⟩
  match j with
  | 0 => simp at hv; subst hv; exact ⟨rfl, _, rfl, .int _ _⟩
  | j + 1 => simp at hv
theorem mt_in {e : TypeId} {f0 f1 f2 : Field} (he : P.underlying e = some (.struct #[f0, f1, f2])) (o0 : f0.offset = 0) (o1 : f1.offset = 1) (o2 : f2.offset = 2) (c0 : P.cellsOf f0.type = 1) (c1 : P.cellsOf f1.type = 1) (c2 : P.cellsOf f2.type = 1) (ce : P.cellsOf e = 3)
    (s0 : P.underlying f0.type = some (.int .i64)) (s1 : P.underlying f1.type = some .string) (s2 : P.underlying f2.type = some .string) : ∀ (n : Nat) (cs : List Value) (d : DataW H) (p : List MemPlace), DataW.trod enc P w 0 (fun _ => true) held n e cs = some (d, p) → Rows.uptoBulk d ≤ 1048576 →
    ∃ x : Mt, (Bytes x.2.1 ∧ Bytes x.2.2) ∧ ∀ (M : Inj) (j : Nat) (v : AV), (mC x)[j]? = some v → v.isCell = true ∧ ∃ u, cs[j]? = some u ∧ VRel M v u := by
  intro n cs d p h _
  obtain ⟨y0, y1, y2, n', _, hl, g0, g1, g2⟩ := Deep.trod_struct3 he h
  rw [ce] at hl
  match cs, hl with
  | [v0, v1, v2], _ =>
    rw [o0, c0] at g0
    rw [o1, c1] at g1
    rw [o2, c2] at g2
    obtain ⟨z, e0, _⟩ := DataW.trod_int s0 g0
    obtain ⟨a, e1, _⟩ := DataW.trod_string s1 g1
    obtain ⟨b, e2, _⟩ := DataW.trod_string s2 g2
    simp at e0 e1 e2
    subst e0 e1 e2
    refine ⟨(z, strOf (.string a), strOf (.string b)), ⟨str_bytes a, str_bytes b⟩, fun M j v hv => ?_⟩
    match j with
    | 0 => simp [mC] at hv; subst hv; exact ⟨rfl, _, rfl, .int _ _⟩
    | 1 => simp [mC] at hv; subst hv; exact ⟨rfl, _, rfl, str_rel⟩
    | 2 => simp [mC] at hv; subst hv; exact ⟨rfl, _, rfl, str_rel⟩
    | j + 3 => simp [mC] at hv
end
theorem flat_one {α : Type} (g : α → AV) : ∀ l : List α, (l.flatMap fun x => [g x]) = l.map g
  | [] => rfl
  | x :: l => by rw [List.flatMap_cons, flat_one g l]; rfl
end Go.Proofs.YtndhhgbpcmfeiaaGreatDoor.Ev
