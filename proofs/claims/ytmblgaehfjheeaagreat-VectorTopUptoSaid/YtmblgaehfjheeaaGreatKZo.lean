/- Vectors that come in: what a reading of the input gives the walks. -/
import Derived.Test.YtmblgaehfjheeaaGreatRows
import Derived.Test.YtmblgaehfjheeaaGreatKFixN
import Derived.Test.YtmblgaehfjheeaaGreatKYc
import Derived.Deep.SlicePairs
import Derived.Test.YtmblgaehfjheeaaGreatKAwN
import Derived.Test.YtmblgaehfjheeaaGreatKZj
namespace Go.Proofs.YtmblgaehfjheeaaGreat.Ev
open Go.RowKit Go.ChangeShapes Go.WideShapes
set_option linter.unusedVariables false
set_option linter.unusedSimpArgs false
theorem cell_cells' {w : World} {b o : Nat} {v : Value} (h : w.cell? ⟨b, o, none⟩ = some v) : ∃ c e fr, w.heap[b]? = some (.cells c e fr) ∧ c[o]? = some v := by
  unfold World.cell? at h
  cases hb : w.heap[b]? with
  | none => rw [hb] at h; cases h
  | some x =>
    rw [hb] at h
    cases x with
    | cells c e fr => exact ⟨c, e, fr, rfl, h⟩
    | _ => cases h
theorem bk_one {H : Type} (d : DataW H) : 1 ≤ Rows.uptoBulk d := by
  cases d with
  | lit l => cases l <;> simp [Rows.uptoBulk]
  | nil => simp [Rows.uptoBulk]
  | ptr d => simp [Rows.uptoBulk]
  | slice elems spare => simp [Rows.uptoBulk]
  | agg parts => simp [Rows.uptoBulk]
  | iface t d => simp [Rows.uptoBulk]
  | map entries => simp [Rows.uptoBulk]
  | held h => simp [Rows.uptoBulk]
theorem bk_part {H : Type} {d : DataW H} {l : List (DataW H)} (h : d ∈ l) : Rows.uptoBulk d ≤ Rows.uptoBulkAll l := by
  induction l with
  | nil => cases h
  | cons x r ih =>
    simp only [Rows.uptoBulkAll]
    rcases List.mem_cons.1 h with e | e
    · subst e; omega
    · have := ih e; omega
theorem bk_len {H : Type} (l : List (DataW H)) : l.length ≤ Rows.uptoBulkAll l := by
  induction l with
  | nil => simp [Rows.uptoBulkAll]
  | cons x r ih => have := bk_one x; simp only [Rows.uptoBulkAll, List.length_cons]; omega
theorem bk_str {H : Type} (bytes : List UInt8) : Rows.uptoBulk (DataW.lit (H := H) (.string bytes)) = bytes.length + 1 := by simp [Rows.uptoBulk]
theorem bk_pair {H : Type} (x y : DataW H) : Rows.uptoBulk x + Rows.uptoBulk y + 1 = Rows.uptoBulk (.agg [x, y]) := by simp [Rows.uptoBulk, Rows.uptoBulkAll]
instance : Inhabited AV := ⟨.nils⟩
instance : Inhabited InB := ⟨⟨⟨0, 0, 0, 0, undef⟩, true, []⟩⟩
def CellsOK (w : World) (M : Inj) (x : InB) : Prop := x.live = true ∧ x.bi.val = undef ∧ ∃ c e fr, w.heap[x.bi.blk]? = some (.cells c e fr) ∧ ∀ k v, x.cells[k]? = some v → v.isCell = true ∧ ∃ u, c[x.bi.off + k]? = some u ∧ VRel M v u
def strOf : Value → List Nat
  | .string s => s.data.toList.map UInt8.toNat
  | _ => []
def numV : Value → Int
  | .int _ n => n
  | _ => 0
theorem str_rel {M : Inj} {s : ByteArray} : VRel M (.str (strOf (.string s))) (.string s) := .str s _ rfl
theorem str_bytes (s : ByteArray) : Bytes (strOf (.string s)) := by
  intro c hc
  obtain ⟨x, _, rfl⟩ := List.mem_map.1 hc
  exact x.toNat_lt
theorem str_len (s : ByteArray) : (strOf (.string s)).length = s.data.toList.length := by simp [strOf]
section
variable {H : Type} {enc : TypeId × Value → H} {P : Program} {w : World} {held : Bool}
theorem lab_in {t e : TypeId} {f0 f1 : Field} {n : Nat} {u : Value} {D : DataW H} {Pl : List MemPlace} (ht : P.underlying t = some (.slice e)) (he : P.underlying e = some (.struct #[f0, f1])) (ce : P.cellsOf e = 2) (o0 : f0.offset = 0) (o1 : f1.offset = 1) (c0 : P.cellsOf f0.type = 1) (c1 : P.cellsOf f1.type = 1)
    (s0 : P.underlying f0.type = some .string) (s1 : P.underlying f1.type = some .string) (h : DataW.trod enc P w 0 (fun _ => true) held n t [u] = some (D, Pl)) (hb : Rows.uptoBulk D ≤ 1048576) (B : Nat) (hB : ∃ c e fr, w.heap[B]? = some (.cells c e fr)) (k : Nat) :
    ∃ q : AV × List Lab × InB, ((q.1 = .nils ∧ q.2.1 = []) ∨ (q.1 = .slice k 0 q.2.1.length 2 ∧ q.2.2.cells = cL q.2.1)) ∧ LBd q.2.1 ∧ ∀ M : Inj, M k = some q.2.2.bi → VRel M q.1 u ∧ CellsOK w M q.2.2 := by
  obtain ⟨cB, eB, fB, hB⟩ := hB
  rcases Deep.open_slice_pairs ht he ce o0 o1 c0 c1 h with ⟨h1, h2⟩ | ⟨a, len, cap, m, n', V0, V1, D0, D1, P0, P1, h1, hb0, hle, hcap, hm, hx, hcell⟩
  · simp only [List.cons.injEq, and_true] at h1
    subst h1
    exact ⟨(.nils, [], ⟨⟨B, 0, 0, 2, undef⟩, true, []⟩), .inl ⟨rfl, rfl⟩, ⟨by simp, fun x hx => by simp at hx⟩, fun M hM => ⟨.nils, rfl, rfl, cB, eB, fB, hB, fun k v hv => by simp at hv⟩⟩
  · simp only [List.cons.injEq, and_true] at h1
    subst h1
    have hm : m = cap := hm
    subst hm
    simp only [Prod.mk.injEq] at hx
    obtain ⟨hD, _⟩ := hx
    have hs0 : ∀ i, i < m → ∃ s : ByteArray, V0 i = .string s ∧ D0 i = .lit (.string s.data.toList) := fun i hi => by
      obtain ⟨s, e1, e2, _⟩ := DataW.trod_string s0 (hcell i hi).2.2.1
      simp only [List.cons.injEq, and_true] at e1
      exact ⟨s, e1, (Prod.mk.inj e2).1⟩
    have hs1 : ∀ i, i < m → ∃ s : ByteArray, V1 i = .string s ∧ D1 i = .lit (.string s.data.toList) := fun i hi => by
      obtain ⟨s, e1, e2, _⟩ := DataW.trod_string s1 (hcell i hi).2.2.2
      simp only [List.cons.injEq, and_true] at e1
      exact ⟨s, e1, (Prod.mk.inj e2).1⟩
    have hbd : Rows.uptoBulkAll ((List.range len).map fun i => DataW.agg [D0 i, D1 i]) ≤ 1048576 := by
      rw [hD] at hb
      simp only [Rows.uptoBulk] at hb
      omega
    have hlen : len ≤ 1048576 := by
      have := bk_len ((List.range len).map fun i => DataW.agg [D0 i, D1 i])
      simp only [List.length_map, List.length_range] at this
      omega
    have hl : ∀ i, i < len → ((List.range len).map fun i => (strOf (V0 i), strOf (V1 i)))[i]? = some (strOf (V0 i), strOf (V1 i)) := fun i hi => by simp [hi]
    have hLB : LBd ((List.range len).map fun i => (strOf (V0 i), strOf (V1 i))) := by
      refine ⟨by simpa using hlen, fun x hx => ?_⟩
      obtain ⟨i, hi, rfl⟩ := List.mem_map.1 hx
      have hi : i < len := by simpa using hi
      obtain ⟨sa, e1, e2⟩ := hs0 i (by omega)
      obtain ⟨sb, e3, e4⟩ := hs1 i (by omega)
      have hp := bk_part (List.mem_map.2 ⟨i, by simpa using hi, rfl⟩ : (DataW.agg [D0 i, D1 i] : DataW H) ∈ (List.range len).map fun i => DataW.agg [D0 i, D1 i])
      rw [← bk_pair, e2, e4, bk_str, bk_str] at hp
      refine ⟨?_, ?_, ?_, ?_⟩
      · show Bytes (strOf (V0 i)); rw [e1]; exact str_bytes sa
      · show Bytes (strOf (V1 i)); rw [e3]; exact str_bytes sb
      · show (strOf (V0 i)).length ≤ _; rw [e1, str_len]; omega
      · show (strOf (V1 i)).length ≤ _; rw [e3, str_len]; omega
    by_cases hc : m = 0
    · subst hc
      obtain rfl : len = 0 := by omega
      exact ⟨(.slice k 0 0 2, [], ⟨⟨B, 0, 0, 2, undef⟩, true, []⟩), .inr ⟨rfl, rfl⟩, ⟨by simp, fun x hx => by simp at hx⟩, fun M hM => ⟨.slice k 0 0 0 a ⟨B, 0, 0, 2, undef⟩ hM rfl (Nat.le_refl _) (.inr rfl) rfl, rfl, rfl, cB, eB, fB, hB, fun k v hv => by simp at hv⟩⟩
    · obtain ⟨b, off, spot⟩ := a
      have hspot : spot = none := by simpa [Addr.add] using World.cell?_spot (hcell 0 (by omega)).1
      subst hspot
      refine ⟨(.slice k 0 ((List.range len).map fun i => (strOf (V0 i), strOf (V1 i))).length 2, (List.range len).map fun i => (strOf (V0 i), strOf (V1 i)), ⟨⟨b, off, m, 2, undef⟩, true, cL ((List.range len).map fun i => (strOf (V0 i), strOf (V1 i)))⟩), .inr ⟨rfl, rfl⟩, hLB, fun M hM => ⟨?_, rfl, rfl, ?_⟩⟩
      · have e : ((List.range len).map fun i => (strOf (V0 i), strOf (V1 i))).length = len := by simp
        rw [e]
        exact .slice k 0 len m _ ⟨b, off, m, 2, undef⟩ hM (Nat.zero_add _) hle (.inl (by simp)) rfl
      · have hc0 := (hcell 0 (by omega)).1
        have e0 : (⟨b, off, none⟩ : Addr).add (0 * 2) = ⟨b, off + 0, none⟩ := by simp [Addr.add]
        rw [e0] at hc0
        obtain ⟨c, e, fr, g1, _⟩ := cell_cells' hc0
        refine ⟨c, e, fr, g1, fun j v hv => ?_⟩
        have hj : j < len * 2 := by
          have := (List.getElem?_eq_some_iff.1 hv).1
          rw [cL_len] at this
          simpa using this
        have hi : j / 2 < len := by omega
        obtain ⟨k1, k2⟩ := cL_get ((List.range len).map fun i => (strOf (V0 i), strOf (V1 i))) (j / 2) (by simpa using hi)
        have elg : lg ((List.range len).map fun i => (strOf (V0 i), strOf (V1 i))) (j / 2) = (strOf (V0 (j / 2)), strOf (V1 (j / 2))) := by
          unfold lg
          rw [List.getD_eq_getElem?_getD, hl _ hi]; rfl
        rw [elg] at k1 k2
        obtain ⟨h3, h4, _⟩ := hcell (j / 2) (by omega)
        rcases Nat.mod_two_eq_zero_or_one j with hr | hr
        · have ej : j / 2 * 2 = j := by omega
          rw [ej] at k1 h3
          have hv : (cL ((List.range len).map fun i => (strOf (V0 i), strOf (V1 i))))[j]? = some v := hv
          rw [k1] at hv
          cases hv
          obtain ⟨s, e1, _⟩ := hs0 (j / 2) (by omega)
          have e2 : (⟨b, off, none⟩ : Addr).add j = ⟨b, off + j, none⟩ := by rw [add_none]
          rw [e2, e1] at h3
          obtain ⟨c', e', fr', g2, g3⟩ := cell_cells' h3
          rw [g1] at g2
          cases g2
          exact ⟨rfl, _, g3, by rw [e1]; exact str_rel⟩
        · have ej : j / 2 * 2 + 1 = j := by omega
          rw [ej] at k2 h4
          have hv : (cL ((List.range len).map fun i => (strOf (V0 i), strOf (V1 i))))[j]? = some v := hv
          rw [k2] at hv
          cases hv
          obtain ⟨s, e1, _⟩ := hs1 (j / 2) (by omega)
          have e2 : (⟨b, off, none⟩ : Addr).add j = ⟨b, off + j, none⟩ := by rw [add_none]
          rw [e2, e1] at h4
          obtain ⟨c', e', fr', g2, g3⟩ := cell_cells' h4
          rw [g1] at g2
          cases g2
          exact ⟨rfl, _, g3, by rw [e1]; exact str_rel⟩
def hsIn : Nat → List InB → HSt
  | _, [] => []
  | k, x :: l => ⟨k, ⟨0, false, x.cells⟩, false⟩ :: hsIn (k + 1) l
theorem hsIn_ro : ∀ (l : List InB) (k : Nat), ∀ e ∈ hsIn k l, e.w = false
  | [], k, e, h => by cases h
  | x :: l, k, e, h => by
    rcases List.mem_cons.1 h with rfl | h
    · rfl
    · exact hsIn_ro l _ e h
theorem hsIn_at : ∀ (l : List InB) (k j : Nat) (x : InB), l[j]? = some x → (⟨k + j, ⟨0, false, x.cells⟩, false⟩ : HE) ∈ hsIn k l
  | [], k, j, x, h => by simp at h
  | y :: l, k, 0, x, h => by simp at h; subst h; exact List.mem_cons_self
  | y :: l, k, j + 1, x, h => by
    have := hsIn_at l (k + 1) j x (by simpa using h)
    rw [show k + (j + 1) = k + 1 + j by omega]
    exact List.mem_cons_of_mem _ this
theorem hsIn_mem : ∀ (l : List InB) (k : Nat) (e : HE), e ∈ hsIn k l → ∃ j x, l[j]? = some x ∧ e = ⟨k + j, ⟨0, false, x.cells⟩, false⟩
  | [], k, e, h => by cases h
  | y :: l, k, e, h => by
    rcases List.mem_cons.1 h with rfl | h
    · exact ⟨0, y, rfl, rfl⟩
    · obtain ⟨j, x, h1, h2⟩ := hsIn_mem l _ e h
      exact ⟨j + 1, x, by simpa using h1, by rw [h2, show k + 1 + j = k + (j + 1) by omega]⟩
theorem hsIn_nd : ∀ (l : List InB) (k : Nat), ((hsIn k l).map (·.b)).Nodup
  | [], k => List.nodup_nil
  | x :: l, k => by
    show (k :: (hsIn (k + 1) l).map (·.b)).Nodup
    refine List.nodup_cons.2 ⟨fun h => ?_, hsIn_nd l _⟩
    obtain ⟨e, he, hb⟩ := List.mem_map.1 h
    obtain ⟨j, x, _, rfl⟩ := hsIn_mem l _ e he
    simp only at hb
    omega
theorem hsIn_seen {I : List InB} (h : ∀ x ∈ I, x.live = true) : SeenIn I (hsIn 0 I) := by
  refine ⟨hsIn_nd I 0, fun e he => ?_⟩
  obtain ⟨j, x, h1, rfl⟩ := hsIn_mem I 0 e he
  exact ⟨rfl, x, by simpa using h1, h x (List.mem_of_getElem? h1), rfl⟩
theorem elems_in {t e lt le : TypeId} {f0 f1 g0 g1 : Field} {n : Nat} {v : Value} {D : DataW H} {Pl : List MemPlace} (ht : P.underlying t = some (.slice e)) (he : P.underlying e = some (.struct #[f0, f1])) (ce : P.cellsOf e = 2) (o0 : f0.offset = 0) (o1 : f1.offset = 1) (c0 : P.cellsOf f0.type = 1) (c1 : P.cellsOf f1.type = 1)
    (hf0 : f0.type = lt) (hf1 : P.underlying f1.type = some (.int .i64)) (hl : P.underlying lt = some (.slice le)) (hle : P.underlying le = some (.struct #[g0, g1])) (cle : P.cellsOf le = 2) (p0 : g0.offset = 0) (p1 : g1.offset = 1) (d0 : P.cellsOf g0.type = 1) (d1 : P.cellsOf g1.type = 1)
    (s0 : P.underlying g0.type = some .string) (s1 : P.underlying g1.type = some .string) (h : DataW.trod enc P w 0 (fun _ => true) held n t [v] = some (D, Pl)) (hb : Rows.uptoBulk D ≤ 1048576) (hok : ∀ a len cap, v = .slice (some a) len cap → a.spot = none ∧ ∃ c e fr, w.heap[a.block]? = some (.cells c e fr)) (k : Nat) :
    ∃ (V : List El) (va : AV) (I : List InB), EIn (hsIn k I) V va ∧ EBd V ∧ ∀ M : Inj, (∀ j x, I[j]? = some x → M (k + j) = some x.bi) → VRel M va v ∧ ∀ x ∈ I, CellsOK w M x := by
  rcases Deep.open_slice_pairs ht he ce o0 o1 c0 c1 h with ⟨h1, h2⟩ | ⟨a, len, cap, m, n', V0, V1, D0, D1, P0, P1, h1, hb0, hlc, hcap, hm, hx, hcell⟩
  · simp only [List.cons.injEq, and_true] at h1
    subst h1
    exact ⟨[], .nils, [], ⟨.inl ⟨rfl, rfl⟩, fun x hx => by simp at hx⟩, ⟨by simp, fun x hx => by simp at hx⟩, fun M hM => ⟨.nils, fun x hx => by simp at hx⟩⟩
  · simp only [List.cons.injEq, and_true] at h1
    subst h1
    have hm : m = cap := hm
    subst hm
    obtain ⟨b, off, spot⟩ := a
    obtain ⟨hspot, cB, eB, fB, hB⟩ := hok _ _ _ rfl
    simp only at hspot hB
    subst hspot
    simp only [Prod.mk.injEq] at hx
    obtain ⟨hD, _⟩ := hx
    have hbd : Rows.uptoBulkAll ((List.range len).map fun i => DataW.agg [D0 i, D1 i]) ≤ 1048576 := by
      rw [hD] at hb
      simp only [Rows.uptoBulk] at hb
      omega
    have hlen : len ≤ 1048576 := by
      have := bk_len ((List.range len).map fun i => DataW.agg [D0 i, D1 i])
      simp only [List.length_map, List.length_range] at this
      omega
    have hnum : ∀ i, i < m → ∃ z, V1 i = .int .i64 z ∧ I64 z := fun i hi => by
      obtain ⟨z, e1, _, e2⟩ := DataW.trod_int hf1 (hcell i hi).2.2.2
      simp only [List.cons.injEq, and_true] at e1
      simp only [Lit.wf, Bool.and_eq_true, decide_eq_true_eq] at e2
      exact ⟨z, e1, e2⟩
    have hq : ∀ i, i < len → ∃ q : AV × List Lab × InB, ((q.1 = .nils ∧ q.2.1 = []) ∨ (q.1 = .slice (k + (i + 1)) 0 q.2.1.length 2 ∧ q.2.2.cells = cL q.2.1)) ∧ LBd q.2.1 ∧ ∀ M : Inj, M (k + (i + 1)) = some q.2.2.bi → VRel M q.1 (V0 i) ∧ CellsOK w M q.2.2 := fun i hi => by
      have hp := bk_part (List.mem_map.2 ⟨i, by simpa using hi, rfl⟩ : (DataW.agg [D0 i, D1 i] : DataW H) ∈ (List.range len).map fun i => DataW.agg [D0 i, D1 i])
      rw [← bk_pair] at hp
      have := (hcell i (by omega)).2.2.1
      rw [hf0] at this
      exact lab_in hl hle cle p0 p1 d0 d1 s0 s1 this (by omega) b ⟨cB, eB, fB, hB⟩ _
    obtain ⟨q, hq⟩ := Deep.choose_lt hq
    have hV : ∀ i, i < len → ((List.range len).map fun i => ((q i).1, (q i).2.1, numV (V1 i)))[i]? = some ((q i).1, (q i).2.1, numV (V1 i)) := fun i hi => by simp [hi]
    have hVl : ((List.range len).map fun i => ((q i).1, (q i).2.1, numV (V1 i))).length = len := by simp
    have hI : ∀ i, i < len → (⟨⟨b, off, m, 2, undef⟩, true, cE ((List.range len).map fun i => ((q i).1, (q i).2.1, numV (V1 i)))⟩ :: (List.range len).map fun i => (q i).2.2 : List InB)[i + 1]? = some (q i).2.2 := fun i hi => by simp [hi]
    refine ⟨(List.range len).map fun i => ((q i).1, (q i).2.1, numV (V1 i)), .slice k 0 len 2, ⟨⟨b, off, m, 2, undef⟩, true, cE ((List.range len).map fun i => ((q i).1, (q i).2.1, numV (V1 i)))⟩ :: (List.range len).map fun i => (q i).2.2, ⟨.inr ⟨k, 0, false, by rw [hVl], false, List.mem_cons_self⟩, fun x hx => ?_⟩, ⟨by rw [hVl]; exact hlen, fun x hx => ?_⟩, fun M hM => ⟨.slice k 0 len m _ ⟨b, off, m, 2, undef⟩ (by simpa using hM 0 _ rfl) (Nat.zero_add _) hlc (.inl (by simp)) rfl, fun x hx => ?_⟩⟩
    · obtain ⟨i, hi, rfl⟩ := List.mem_map.1 hx
      have hi : i < len := by simpa using hi
      rcases (hq i hi).1 with h1 | ⟨h1, h2⟩
      · exact .inl h1
      · refine .inr ⟨k + (i + 1), 0, false, h1, false, ?_⟩
        have := hsIn_at _ k (i + 1) _ (hI i hi)
        rw [h2] at this
        exact this
    · obtain ⟨i, hi, rfl⟩ := List.mem_map.1 hx
      have hi : i < len := by simpa using hi
      obtain ⟨z, e1, e2⟩ := hnum i (by omega)
      refine ⟨(hq i hi).2.1, ?_⟩
      show I64 (numV (V1 i))
      rw [e1]; exact e2
    · have hMi : ∀ i, i < len → VRel M (q i).1 (V0 i) ∧ CellsOK w M (q i).2.2 := fun i hi => (hq i hi).2.2 M (hM (i + 1) _ (hI i hi))
      rcases List.mem_cons.1 hx with rfl | hx
      · refine ⟨rfl, rfl, cB, eB, fB, hB, fun j v hv => ?_⟩
        have hv : (cE ((List.range len).map fun i => ((q i).1, (q i).2.1, numV (V1 i))))[j]? = some v := hv
        have hj : j < len * 2 := by
          have := (List.getElem?_eq_some_iff.1 hv).1
          rw [cE_len, hVl] at this
          exact this
        have hi : j / 2 < len := by omega
        obtain ⟨k1, k2⟩ := cE_get ((List.range len).map fun i => ((q i).1, (q i).2.1, numV (V1 i))) (j / 2) (by rw [hVl]; exact hi)
        have eeg : eg ((List.range len).map fun i => ((q i).1, (q i).2.1, numV (V1 i))) (j / 2) = ((q (j / 2)).1, (q (j / 2)).2.1, numV (V1 (j / 2))) := by
          unfold eg
          rw [List.getD_eq_getElem?_getD, hV _ hi]; rfl
        rw [eeg] at k1 k2
        obtain ⟨h3, h4, _⟩ := hcell (j / 2) (by omega)
        have e2 : (⟨b, off, none⟩ : Addr).add j = ⟨b, off + j, none⟩ := by rw [add_none]
        rcases Nat.mod_two_eq_zero_or_one j with hr | hr
        · have ej : j / 2 * 2 = j := by omega
          rw [ej] at k1 h3
          rw [k1] at hv
          cases hv
          rw [e2] at h3
          obtain ⟨c', e', fr', g2, g3⟩ := cell_cells' h3
          rw [hB] at g2
          cases g2
          refine ⟨?_, _, g3, (hMi _ hi).1⟩
          rcases (hq _ hi).1 with ⟨h1, _⟩ | ⟨h1, _⟩ <;> (show (q (j / 2)).1.isCell = true) <;> rw [h1] <;> rfl
        · have ej : j / 2 * 2 + 1 = j := by omega
          rw [ej] at k2 h4
          rw [k2] at hv
          cases hv
          obtain ⟨z, e1, _⟩ := hnum (j / 2) (by omega)
          rw [e2, e1] at h4
          obtain ⟨c', e', fr', g2, g3⟩ := cell_cells' h4
          rw [hB] at g2
          cases g2
          exact ⟨rfl, _, g3, by rw [e1]; exact .int _ _⟩
      · obtain ⟨i, hi, rfl⟩ := List.mem_map.1 hx
        exact (hMi i (by simpa using hi)).2
theorem slice_there {base : Nat} {t e : TypeId} {v : Value} (hu : P.underlying t = some (.slice e)) (hv : Value.okWide P w .any base t v) : ∀ a len cap, v = .slice (some a) len cap → a.spot = none ∧ ∃ c e fr, w.heap[a.block]? = some (.cells c e fr) := by
  intro a len cap h
  subst h
  simp only [Value.okWide, hu, Cell.okWide, Cell.ok] at hv
  obtain ⟨_, _, h3⟩ := hv
  obtain ⟨_, h4, row, cells, h5, _⟩ := h3
  refine ⟨h4, ?_⟩
  unfold World.shape? at h5
  split at h5
  · rename_i c e fr hc
    exact ⟨c, e, fr, hc⟩
  · cases h5
end
open Go.RowKit
set_option maxRecDepth 100000
set_option maxHeartbeats 1000000
theorem VOwn.ein {W : List El} {w : AV} {D : HSt} (h : VOwn W w D) : EIn (ro D) W w := by
  obtain ⟨hp, hl, rfl, hO, hL, _, _⟩ := h
  exact EIn.own hO hL
theorem VOwn.ebd {W : List El} {w : AV} {D : HSt} (h : VOwn W w D) : EBd W := by
  obtain ⟨hp, hl, rfl, hO, hL, _, h⟩ := h
  exact h
theorem VOwn.w {W : List El} {w : AV} {D : HSt} (h : VOwn W w D) : ∀ e ∈ D, e.w = true := by
  obtain ⟨hp, hl, rfl, hO, hL, h, _⟩ := h
  exact wa (OwnE.w hO) h.w
theorem MemH.ro_r {A hs : HSt} {b : Nat} {o : AObj} (h : MemH (Ev.ro hs) b o) : MemH (Ev.ro (A ++ hs)) b o := by
  obtain ⟨w, g⟩ := h
  obtain ⟨x, hx, e⟩ := List.mem_map.1 g
  exact ⟨w, List.mem_map.2 ⟨x, List.mem_append_right _ hx, e⟩⟩
theorem ro_id : ∀ {b : HSt}, (∀ e ∈ b, e.w = false) → ro b = b
  | [], _ => rfl
  | ⟨c, o, w⟩ :: b, h => by
    have h1 : w = false := h _ List.mem_cons_self
    subst h1
    show _ :: ro b = _
    rw [ro_id fun e he => h e (List.mem_cons_of_mem _ he)]
theorem SubR.mix {a b hs : HSt} (g : SubH (a ++ b) hs) (hb : ∀ e ∈ b, e.w = false) : SubR (Ev.ro a ++ b) hs := by
  have := SubR.ro g
  have e : Ev.ro (a ++ b) = Ev.ro a ++ b := by
    unfold Ev.ro
    rw [List.map_append]
    congr 1
    exact ro_id hb
  rwa [e] at this
theorem VRes.ein {hs : HSt} {W : List El} {w : AV} {D : HSt} (h : VRes hs W w D) : EIn (ro D ++ hs) W w := by
  obtain ⟨hp, hl, rfl, hO, hL, _, _⟩ := h
  exact EIn.mixd hO hL
theorem VRes.ebd {hs : HSt} {W : List El} {w : AV} {D : HSt} (h : VRes hs W w D) : EBd W := by
  obtain ⟨hp, hl, rfl, hO, hL, _, h⟩ := h
  exact h
theorem MemH.mixd2 {A D hs : HSt} {b : Nat} {o : AObj} (h : MemH (Ev.ro D ++ hs) b o) : MemH (Ev.ro (A ++ D) ++ hs) b o := by
  obtain ⟨w, g⟩ := h
  rcases List.mem_append.1 g with g | g
  · exact (MemH.ro_r ⟨w, g⟩).appl
  · exact ⟨w, List.mem_append_right _ g⟩
def mdN (md : Int) (N : List (List Nat)) : List (List Nat) := if md = 0 then [] else N
def mdV (md : Int) (v : AV) : AV := if md = 0 then .nils else v
def rkeyM (md : Int) (N : List (List Nat)) (A : List Lab) : List Lab := if md = 1 then A.filter (pickP N true) else (A.filter (dropP N)).filter (dropP [[95, 95, 110, 97, 109, 101, 95, 95]])
def hvL (md : Int) (N : List (List Nat)) (V : List El) (k : List Lab) : List El := V.filter fun y => decide (keyM md N y.2.1 = k)
section
variable {op : List Nat} {md : Int} {N : List (List Nat)} {V : List El} {k : List Lab} {i : Nat}
end

section
variable {op : List Nat} {bl : Bool} {md sd : Int} {N : List (List Nat)} {V U X Y : List El} {e e' : Nat} {W W' : List PE}
theorem coreR.fn (h : coreR op bl md sd N V U e W) (g : coreR op bl md sd N V U e' W') : e = e' ∧ W = W' := by
  rcases h with ⟨h1, h2, h3⟩ | ⟨h1, h2⟩ <;> rcases g with ⟨g1, g2, g3⟩ | ⟨g1, g2⟩
  · exact ⟨h1.symm.trans g1, h3.trans g3.symm⟩
  · exact absurd (h1.symm.trans g1) h2
  · exact absurd (g1.symm.trans h1) g2
  · exact h2.fn g2
theorem BinR.fn (h : BinR op bl md sd N V U e W) (g : BinR op bl md sd N V U e' W') : e = e' ∧ W = W' := by
  rcases h with ⟨h1, h2⟩ | ⟨h1, h2, h3⟩ | ⟨h1, h2, h3⟩ <;> rcases g with ⟨g1, g2⟩ | ⟨g1, g2, g3⟩ | ⟨g1, g2, g3⟩
  · rw [h1] at g1; cases g1; exact ⟨rfl, h2.trans g2.symm⟩
  · rw [h1] at g1; cases g1
  · rw [h1] at g1; cases g1
  · rw [h1] at g1; cases g1
  · exact h3.fn g3
  · rw [h2] at g2; cases g2
  · rw [h1] at g1; cases g1
  · rw [h2] at g2; cases g2
  · exact h3.fn g3
end

theorem lt_trans3 {x y z : List Lab} (h : cmpL x y < 0) (g : cmpL y z < 0) : cmpL x z < 0 := by
  have q : leL x z := leL_trans (y := y) (by unfold leL; omega) (by unfold leL; omega)
  have q : cmpL x z ≤ 0 := q
  rcases Int.lt_or_eq_of_le q with q | q
  · exact q
  · have e := cmpL_eq.1 q
    subst e
    have := cmpL_swap x y
    omega
def Srt (L : List PE) : Prop := L.Pairwise fun x y => cmpL x.1 y.1 < 0
theorem vchk_next {V : List El} (h : vchk V = 0) {i : Nat} (hi : i + 1 < V.length) : cmpL (eg V i).2.1 (eg V (i + 1)).2.1 < 0 := by
  unfold vchk at h
  split at h
  · rename_i g; exact absurd h g
  rename_i g
  have g : ichk V = 0 := Classical.not_not.1 g
  unfold ichk at g
  split at g
  · cases g
  have := fstE_all _ _ g (i + 1) (Nat.zero_le _) (by omega)
  unfold ichk1 at this
  split at this
  · rename_i q; exact absurd this q
  · split at this
    · cases this
    · rename_i q
      rw [Nat.add_sub_cancel] at q
      by_cases q2 : 0 ≤ cmpL (eg V i).2.1 (eg V (i + 1)).2.1
      · exact absurd ⟨by omega, q2⟩ q
      · omega
theorem vchk_srt {V : List El} (h : vchk V = 0) : Srt (P2 V) := by
  have key : ∀ d i, i + d + 1 < V.length → cmpL (eg V i).2.1 (eg V (i + d + 1)).2.1 < 0 := by
    intro d
    induction d with
    | zero => intro i hi; exact vchk_next h hi
    | succ d ih => intro i hi; exact lt_trans3 (ih i (by omega)) (vchk_next h (i := i + d + 1) (by omega))
  unfold Srt
  rw [List.pairwise_iff_getElem]
  intro i j hi hj hij
  have hlen : (P2 V).length = V.length := p2_ln
  have ei : (P2 V)[i] = (eg V i).2 := Option.some.inj ((List.getElem?_eq_getElem hi).symm.trans (p2_eg (by omega)))
  have ej : (P2 V)[j] = (eg V j).2 := Option.some.inj ((List.getElem?_eq_getElem hj).symm.trans (p2_eg (by omega)))
  rw [ei, ej]
  have := key (j - i - 1) i (by omega)
  rwa [show i + (j - i - 1) + 1 = j by omega] at this
theorem ord_one {L M : List PE} {e : Nat} {W : List PE} (hs : Srt M) (hp : M.Perm L) (h : OrdR L e W) : e = 0 ∧ W = M := h.fn (.inr ⟨rfl, hp, hs⟩)
section
variable {md : Int} {N : List (List Nat)} {L M W W1 W2 : List PE} {e e1 e2 : Nat}
def hasB (md : Int) (N : List (List Nat)) (M : List PE) (x : PE) : Bool := decide (hvP md N M (keyM md N x.1) ≠ [])
theorem srt_filter (h : Srt L) (p : PE → Bool) : Srt (L.filter p) := List.Pairwise.filter p h
theorem srt_nd (h : Srt L) : L.Nodup := by
  unfold Srt at h
  refine List.Pairwise.imp ?_ h
  intro a b q e
  subst e
  have := cmpL_eq.2 (rfl : a.1 = a.1)
  omega
def cntA (A R : List PE) (i : Nat) : Nat := ((R.take i).filter fun r => decide (r ∈ A)).length
theorem sub_flt {A R : List PE} (hA : Srt A) (hR : Srt R) (hs : ∀ x ∈ A, x ∈ R) : R.filter (fun r => decide (r ∈ A)) = A := by
  have n1 : A.Nodup := srt_nd hA
  have n2 : (R.filter fun r => decide (r ∈ A)).Nodup := srt_nd (srt_filter hR _)
  have hp : A.Perm (R.filter fun r => decide (r ∈ A)) := (List.perm_ext_iff_of_nodup n1 n2).2 fun x => by simp; exact fun hx => hs x hx
  exact (ord_one hA hp (.inr ⟨rfl, List.Perm.refl _, srt_filter hR _⟩)).2
theorem cnt_end {A R : List PE} (hA : Srt A) (hR : Srt R) (hs : ∀ x ∈ A, x ∈ R) {i : Nat} (hi : R.length ≤ i) : cntA A R i = A.length := by
  unfold cntA
  rw [List.take_of_length_le hi, sub_flt hA hR hs]
theorem cnt_split {A R : List PE} (hA : Srt A) (hR : Srt R) (hs : ∀ x ∈ A, x ∈ R) {i : Nat} {r : PE} (hi : R[i]? = some r) : ∃ B C, A = B ++ C ∧ B.length = cntA A R i ∧ C = (if r ∈ A then [r] else []) ++ (R.drop (i + 1)).filter (fun r => decide (r ∈ A)) ∧ cntA A R (i + 1) = cntA A R i + (if r ∈ A then 1 else 0) := by
  refine ⟨(R.take i).filter (fun r => decide (r ∈ A)), (R.drop i).filter (fun r => decide (r ∈ A)), ?_, rfl, ?_, ?_⟩
  · rw [← List.filter_append, List.take_append_drop]; exact (sub_flt hA hR hs).symm
  · have e : R.drop i = r :: R.drop (i + 1) := by
      have h1 := (List.getElem?_eq_some_iff.1 hi)
      obtain ⟨h1, h2⟩ := h1
      rw [List.drop_eq_getElem_cons h1, h2]
    rw [e, List.filter_cons]
    by_cases h : r ∈ A <;> simp [h]
  · unfold cntA
    rw [List.take_add_one, hi, List.filter_append, List.length_append]
    by_cases h : r ∈ A <;> simp [h]
theorem seq_yes {A R : List PE} (hA : Srt A) (hR : Srt R) (hs : ∀ x ∈ A, x ∈ R) {i : Nat} {r a : PE} (hi : R[i]? = some r) (ha : A[cntA A R i]? = some a) (h : r.1 = a.1) : r = a ∧ cntA A R (i + 1) = cntA A R i + 1 := by
  have har : a ∈ A := List.mem_of_getElem? ha
  have haR := hs a har
  have e : r = a := by
    obtain ⟨j, hj⟩ := List.getElem?_of_mem haR
    have hn := srt_nodup hR
    have e1 : (R.map (·.1))[i]? = some r.1 := by rw [List.getElem?_map, hi]; rfl
    have e2 : (R.map (·.1))[j]? = some r.1 := by rw [List.getElem?_map, hj, h]; rfl
    have hij := nodup_at hn e1 e2
    subst hij
    rw [hi] at hj
    exact Option.some.inj hj
  refine ⟨e, ?_⟩
  obtain ⟨B, C, _, _, _, h4⟩ := cnt_split hA hR hs hi
  rw [h4, if_pos (e ▸ har)]
theorem seq_no {A R : List PE} (hA : Srt A) (hR : Srt R) (hs : ∀ x ∈ A, x ∈ R) {i : Nat} {r : PE} (hi : R[i]? = some r) (h : ∀ a, A[cntA A R i]? = some a → r.1 ≠ a.1) : cntA A R (i + 1) = cntA A R i := by
  obtain ⟨B, C, h1, h2, h3, h4⟩ := cnt_split hA hR hs hi
  rw [h4]
  by_cases hr : r ∈ A
  · exfalso
    rw [if_pos hr] at h3
    refine h r ?_ rfl
    rw [← h2]
    conv => lhs; rw [h1]
    rw [List.getElem?_append_right (Nat.le_refl _), Nat.sub_self, h3]; rfl
  · rw [if_neg hr, Nat.add_zero]
theorem cnt_le {A R : List PE} (i : Nat) : cntA A R i ≤ i := Nat.le_trans (List.length_filter_le _ _) (by simp; omega)
end
theorem VOwn.lin {W : List El} {w : AV} {D : HSt} (h : VOwn W w D) : ∀ x ∈ W, LIn D x.2.1 x.1 := by
  obtain ⟨hp, hl, rfl, hO, hL, _, _⟩ := h
  exact fun x hx => (hL x hx).mono fun b o h => h.app
theorem VOwn.src {W : List El} {w : AV} {D hs : HSt} (h : VOwn W w D) (hm : ∀ e ∈ D, MemH hs e.b e.o) : Src hs 2 w W.length (cE W) := by
  obtain ⟨hp, hl, rfl, hO, hL, _, _⟩ := h
  rcases hO with ⟨h1, h2, rfl, _⟩ | ⟨b, ex, rfl, rfl, h3⟩
  · rw [h1, h2]; exact Src.nils
  · exact Src.all (hm ⟨b, ⟨2, ex, cE W⟩, true⟩ (by simp)) h3
end Go.Proofs.YtmblgaehfjheeaaGreat.Ev
