/- Vectors that come in: what a reading of the input gives the walks. -/
import Derived.Test.YtmblgaehfjheeaaGreatRows
import Derived.Test.YtmblgaehfjheeaaGreatMFixN
import Derived.Test.YtmblgaehfjheeaaGreatMYd
import Derived.Deep.SlicePairs
namespace Go.Proofs.YtmblgaehfjheeaaGreat.Ev
open Go.RowKit Go.ChangeShapes Go.WideShapes
set_option linter.unusedVariables false
set_option linter.unusedSimpArgs false
theorem cell_cells' {w : World} {b o : Nat} {v : Value} (h : w.cell? ⟨b, o, none⟩ = some v) : ∃ c e fr, w.heap[b]? = some (.cells c e fr) ∧ c[o]? = some v := by
  unfold World.cell? at h
  cases hb : w.heap[b]? with
  | none => rw [hb] at h; cases h
  | some x =>
    rw [hb] at h
    cases x with
    | cells c e fr => exact ⟨c, e, fr, rfl, h⟩
    | _ => cases h
theorem bk_one {H : Type} (d : DataW H) : 1 ≤ Rows.uptoBulk d := by
  cases d with
  | lit l => cases l <;> simp [Rows.uptoBulk]
  | nil => simp [Rows.uptoBulk]
  | ptr d => simp [Rows.uptoBulk]
  | slice elems spare => simp [Rows.uptoBulk]
  | agg parts => simp [Rows.uptoBulk]
  | iface t d => simp [Rows.uptoBulk]
  | map entries => simp [Rows.uptoBulk]
  | held h => simp [Rows.uptoBulk]
theorem bk_part {H : Type} {d : DataW H} {l : List (DataW H)} (h : d ∈ l) : Rows.uptoBulk d ≤ Rows.uptoBulkAll l := by
  induction l with
  | nil => cases h
  | cons x r ih =>
    simp only [Rows.uptoBulkAll]
    rcases List.mem_cons.1 h with e | e
    · subst e; omega
    · have := ih e; omega
theorem bk_len {H : Type} (l : List (DataW H)) : l.length ≤ Rows.uptoBulkAll l := by
  induction l with
  | nil => simp [Rows.uptoBulkAll]
  | cons x r ih => have := bk_one x; simp only [Rows.uptoBulkAll, List.length_cons]; omega
theorem bk_str {H : Type} (bytes : List UInt8) : Rows.uptoBulk (DataW.lit (H := H) (.string bytes)) = bytes.length + 1 := by simp [Rows.uptoBulk]
theorem bk_pair {H : Type} (x y : DataW H) : Rows.uptoBulk x + Rows.uptoBulk y + 1 = Rows.uptoBulk (.agg [x, y]) := by simp [Rows.uptoBulk, Rows.uptoBulkAll]
instance : Inhabited AV := ⟨.nils⟩
instance : Inhabited InB := ⟨⟨⟨0, 0, 0, 0, undef⟩, true, []⟩⟩
def CellsOK (w : World) (M : Inj) (x : InB) : Prop := x.live = true ∧ x.bi.val = undef ∧ ∃ c e fr, w.heap[x.bi.blk]? = some (.cells c e fr) ∧ ∀ k v, x.cells[k]? = some v → v.isCell = true ∧ ∃ u, c[x.bi.off + k]? = some u ∧ VRel M v u
def strOf : Value → List Nat
  | .string s => s.data.toList.map UInt8.toNat
  | _ => []
def numV : Value → Int
  | .int _ n => n
  | _ => 0
theorem str_rel {M : Inj} {s : ByteArray} : VRel M (.str (strOf (.string s))) (.string s) := .str s _ rfl
theorem str_bytes (s : ByteArray) : Bytes (strOf (.string s)) := by
  intro c hc
  obtain ⟨x, _, rfl⟩ := List.mem_map.1 hc
  exact x.toNat_lt
theorem str_len (s : ByteArray) : (strOf (.string s)).length = s.data.toList.length := by simp [strOf]
section
variable {H : Type} {enc : TypeId × Value → H} {P : Program} {w : World} {held : Bool}
theorem lab_in {t e : TypeId} {f0 f1 : Field} {n : Nat} {u : Value} {D : DataW H} {Pl : List MemPlace} (ht : P.underlying t = some (.slice e)) (he : P.underlying e = some (.struct #[f0, f1])) (ce : P.cellsOf e = 2) (o0 : f0.offset = 0) (o1 : f1.offset = 1) (c0 : P.cellsOf f0.type = 1) (c1 : P.cellsOf f1.type = 1)
    (s0 : P.underlying f0.type = some .string) (s1 : P.underlying f1.type = some .string) (h : DataW.trod enc P w 0 (fun _ => true) held n t [u] = some (D, Pl)) (hb : Rows.uptoBulk D ≤ 1048576) (B : Nat) (hB : ∃ c e fr, w.heap[B]? = some (.cells c e fr)) (k : Nat) :
    ∃ q : AV × List Lab × InB, ((q.1 = .nils ∧ q.2.1 = []) ∨ (q.1 = .slice k 0 q.2.1.length 2 ∧ q.2.2.cells = cL q.2.1)) ∧ LBd q.2.1 ∧ ∀ M : Inj, M k = some q.2.2.bi → VRel M q.1 u ∧ CellsOK w M q.2.2 := by
  obtain ⟨cB, eB, fB, hB⟩ := hB
  rcases Deep.open_slice_pairs ht he ce o0 o1 c0 c1 h with ⟨h1, h2⟩ | ⟨a, len, cap, m, n', V0, V1, D0, D1, P0, P1, h1, hb0, hle, hcap, hm, hx, hcell⟩
  · simp only [List.cons.injEq, and_true] at h1
    subst h1
    exact ⟨(.nils, [], ⟨⟨B, 0, 0, 2, undef⟩, true, []⟩), .inl ⟨rfl, rfl⟩, ⟨by simp, fun x hx => by simp at hx⟩, fun M hM => ⟨.nils, rfl, rfl, cB, eB, fB, hB, fun k v hv => by simp at hv⟩⟩
  · simp only [List.cons.injEq, and_true] at h1
    subst h1
    have hm : m = cap := hm
    subst hm
    simp only [Prod.mk.injEq] at hx
    obtain ⟨hD, _⟩ := hx
    have hs0 : ∀ i, i < m → ∃ s : ByteArray, V0 i = .string s ∧ D0 i = .lit (.string s.data.toList) := fun i hi => by
      obtain ⟨s, e1, e2, _⟩ := DataW.trod_string s0 (hcell i hi).2.2.1
      simp only [List.cons.injEq, and_true] at e1
      exact ⟨s, e1, (Prod.mk.inj e2).1⟩
    have hs1 : ∀ i, i < m → ∃ s : ByteArray, V1 i = .string s ∧ D1 i = .lit (.string s.data.toList) := fun i hi => by
      obtain ⟨s, e1, e2, _⟩ := DataW.trod_string s1 (hcell i hi).2.2.2
      simp only [List.cons.injEq, and_true] at e1
      exact ⟨s, e1, (Prod.mk.inj e2).1⟩
    have hbd : Rows.uptoBulkAll ((List.range len).map fun i => DataW.agg [D0 i, D1 i]) ≤ 1048576 := by
      rw [hD] at hb
      simp only [Rows.uptoBulk] at hb
      omega
    have hlen : len ≤ 1048576 := by
      have := bk_len ((List.range len).map fun i => DataW.agg [D0 i, D1 i])
      simp only [List.length_map, List.length_range] at this
      omega
    have hl : ∀ i, i < len → ((List.range len).map fun i => (strOf (V0 i), strOf (V1 i)))[i]? = some (strOf (V0 i), strOf (V1 i)) := fun i hi => by simp [hi]
    have hLB : LBd ((List.range len).map fun i => (strOf (V0 i), strOf (V1 i))) := by
      refine ⟨by simpa using hlen, fun x hx => ?_⟩
      obtain ⟨i, hi, rfl⟩ := List.mem_map.1 hx
      have hi : i < len := by simpa using hi
      obtain ⟨sa, e1, e2⟩ := hs0 i (by omega)
      obtain ⟨sb, e3, e4⟩ := hs1 i (by omega)
      have hp := bk_part (List.mem_map.2 ⟨i, by simpa using hi, rfl⟩ : (DataW.agg [D0 i, D1 i] : DataW H) ∈ (List.range len).map fun i => DataW.agg [D0 i, D1 i])
      rw [← bk_pair, e2, e4, bk_str, bk_str] at hp
      refine ⟨?_, ?_, ?_, ?_⟩
      · show Bytes (strOf (V0 i)); rw [e1]; exact str_bytes sa
      · show Bytes (strOf (V1 i)); rw [e3]; exact str_bytes sb
      · show (strOf (V0 i)).length ≤ _; rw [e1, str_len]; omega
      · show (strOf (V1 i)).length ≤ _; rw [e3, str_len]; omega
    by_cases hc : m = 0
    · subst hc
      obtain rfl : len = 0 := by omega
      exact ⟨(.slice k 0 0 2, [], ⟨⟨B, 0, 0, 2, undef⟩, true, []⟩), .inr ⟨rfl, rfl⟩, ⟨by simp, fun x hx => by simp at hx⟩, fun M hM => ⟨.slice k 0 0 0 a ⟨B, 0, 0, 2, undef⟩ hM rfl (Nat.le_refl _) (.inr rfl) rfl, rfl, rfl, cB, eB, fB, hB, fun k v hv => by simp at hv⟩⟩
    · obtain ⟨b, off, spot⟩ := a
      have hspot : spot = none := by simpa [Addr.add] using World.cell?_spot (hcell 0 (by omega)).1
      subst hspot
      refine ⟨(.slice k 0 ((List.range len).map fun i => (strOf (V0 i), strOf (V1 i))).length 2, (List.range len).map fun i => (strOf (V0 i), strOf (V1 i)), ⟨⟨b, off, m, 2, undef⟩, true, cL ((List.range len).map fun i => (strOf (V0 i), strOf (V1 i)))⟩), .inr ⟨rfl, rfl⟩, hLB, fun M hM => ⟨?_, rfl, rfl, ?_⟩⟩
      · have e : ((List.range len).map fun i => (strOf (V0 i), strOf (V1 i))).length = len := by simp
        rw [e]
        exact .slice k 0 len m _ ⟨b, off, m, 2, undef⟩ hM (Nat.zero_add _) hle (.inl (by simp)) rfl
      · have hc0 := (hcell 0 (by omega)).1
        have e0 : (⟨b, off, none⟩ : Addr).add (0 * 2) = ⟨b, off + 0, none⟩ := by simp [Addr.add]
        rw [e0] at hc0
        obtain ⟨c, e, fr, g1, _⟩ := cell_cells' hc0
        refine ⟨c, e, fr, g1, fun j v hv => ?_⟩
        have hj : j < len * 2 := by
          have := (List.getElem?_eq_some_iff.1 hv).1
          rw [cL_len] at this
          simpa using this
        have hi : j / 2 < len := by omega
        obtain ⟨k1, k2⟩ := cL_get ((List.range len).map fun i => (strOf (V0 i), strOf (V1 i))) (j / 2) (by simpa using hi)
        have elg : lg ((List.range len).map fun i => (strOf (V0 i), strOf (V1 i))) (j / 2) = (strOf (V0 (j / 2)), strOf (V1 (j / 2))) := by
          unfold lg
          rw [List.getD_eq_getElem?_getD, hl _ hi]; rfl
        rw [elg] at k1 k2
        obtain ⟨h3, h4, _⟩ := hcell (j / 2) (by omega)
        rcases Nat.mod_two_eq_zero_or_one j with hr | hr
        · have ej : j / 2 * 2 = j := by omega
          rw [ej] at k1 h3
          have hv : (cL ((List.range len).map fun i => (strOf (V0 i), strOf (V1 i))))[j]? = some v := hv
          rw [k1] at hv
          cases hv
          obtain ⟨s, e1, _⟩ := hs0 (j / 2) (by omega)
          have e2 : (⟨b, off, none⟩ : Addr).add j = ⟨b, off + j, none⟩ := by rw [add_none]
          rw [e2, e1] at h3
          obtain ⟨c', e', fr', g2, g3⟩ := cell_cells' h3
          rw [g1] at g2
          cases g2
          exact ⟨rfl, _, g3, by rw [e1]; exact str_rel⟩
        · have ej : j / 2 * 2 + 1 = j := by omega
          rw [ej] at k2 h4
          have hv : (cL ((List.range len).map fun i => (strOf (V0 i), strOf (V1 i))))[j]? = some v := hv
          rw [k2] at hv
          cases hv
          obtain ⟨s, e1, _⟩ := hs1 (j / 2) (by omega)
          have e2 : (⟨b, off, none⟩ : Addr).add j = ⟨b, off + j, none⟩ := by rw [add_none]
          rw [e2, e1] at h4
          obtain ⟨c', e', fr', g2, g3⟩ := cell_cells' h4
          rw [g1] at g2
          cases g2
          exact ⟨rfl, _, g3, by rw [e1]; exact str_rel⟩
def hsIn : Nat → List InB → HSt
  | _, [] => []
  | k, x :: l => ⟨k, ⟨0, false, x.cells⟩, false⟩ :: hsIn (k + 1) l
theorem hsIn_ro : ∀ (l : List InB) (k : Nat), ∀ e ∈ hsIn k l, e.w = false
  | [], k, e, h => by cases h
  | x :: l, k, e, h => by
    rcases List.mem_cons.1 h with rfl | h
    · rfl
    · exact hsIn_ro l _ e h
theorem hsIn_at : ∀ (l : List InB) (k j : Nat) (x : InB), l[j]? = some x → (⟨k + j, ⟨0, false, x.cells⟩, false⟩ : HE) ∈ hsIn k l
  | [], k, j, x, h => by simp at h
  | y :: l, k, 0, x, h => by simp at h; subst h; exact List.mem_cons_self
  | y :: l, k, j + 1, x, h => by
    have := hsIn_at l (k + 1) j x (by simpa using h)
    rw [show k + (j + 1) = k + 1 + j by omega]
    exact List.mem_cons_of_mem _ this
theorem hsIn_mem : ∀ (l : List InB) (k : Nat) (e : HE), e ∈ hsIn k l → ∃ j x, l[j]? = some x ∧ e = ⟨k + j, ⟨0, false, x.cells⟩, false⟩
  | [], k, e, h => by cases h
  | y :: l, k, e, h => by
    rcases List.mem_cons.1 h with rfl | h
    · exact ⟨0, y, rfl, rfl⟩
    · obtain ⟨j, x, h1, h2⟩ := hsIn_mem l _ e h
      exact ⟨j + 1, x, by simpa using h1, by rw [h2, show k + 1 + j = k + (j + 1) by omega]⟩
theorem hsIn_nd : ∀ (l : List InB) (k : Nat), ((hsIn k l).map (·.b)).Nodup
  | [], k => List.nodup_nil
  | x :: l, k => by
    show (k :: (hsIn (k + 1) l).map (·.b)).Nodup
    refine List.nodup_cons.2 ⟨fun h => ?_, hsIn_nd l _⟩
    obtain ⟨e, he, hb⟩ := List.mem_map.1 h
    obtain ⟨j, x, _, rfl⟩ := hsIn_mem l _ e he
    simp only at hb
    omega
theorem hsIn_app : ∀ (l m : List InB) (k : Nat), hsIn k (l ++ m) = hsIn k l ++ hsIn (k + l.length) m
  | [], m, k => rfl
  | x :: l, m, k => by
    show _ :: hsIn (k + 1) (l ++ m) = _ :: _
    rw [hsIn_app l m (k + 1), List.length_cons, show k + 1 + l.length = k + (l.length + 1) by omega]; rfl
theorem hsIn_seen {I : List InB} (h : ∀ x ∈ I, x.live = true) : SeenIn I (hsIn 0 I) := by
  refine ⟨hsIn_nd I 0, fun e he => ?_⟩
  obtain ⟨j, x, h1, rfl⟩ := hsIn_mem I 0 e he
  exact ⟨rfl, x, by simpa using h1, h x (List.mem_of_getElem? h1), rfl⟩
theorem elems_in {t e lt le : TypeId} {f0 f1 g0 g1 : Field} {n : Nat} {v : Value} {D : DataW H} {Pl : List MemPlace} (ht : P.underlying t = some (.slice e)) (he : P.underlying e = some (.struct #[f0, f1])) (ce : P.cellsOf e = 2) (o0 : f0.offset = 0) (o1 : f1.offset = 1) (c0 : P.cellsOf f0.type = 1) (c1 : P.cellsOf f1.type = 1)
    (hf0 : f0.type = lt) (hf1 : P.underlying f1.type = some (.int .i64)) (hl : P.underlying lt = some (.slice le)) (hle : P.underlying le = some (.struct #[g0, g1])) (cle : P.cellsOf le = 2) (p0 : g0.offset = 0) (p1 : g1.offset = 1) (d0 : P.cellsOf g0.type = 1) (d1 : P.cellsOf g1.type = 1)
    (s0 : P.underlying g0.type = some .string) (s1 : P.underlying g1.type = some .string) (h : DataW.trod enc P w 0 (fun _ => true) held n t [v] = some (D, Pl)) (hb : Rows.uptoBulk D ≤ 1048576) (hok : ∀ a len cap, v = .slice (some a) len cap → a.spot = none ∧ ∃ c e fr, w.heap[a.block]? = some (.cells c e fr)) (k : Nat) :
    ∃ (V : List El) (va : AV) (I : List InB), EIn (hsIn k I) V va ∧ EBd V ∧ ∀ M : Inj, (∀ j x, I[j]? = some x → M (k + j) = some x.bi) → VRel M va v ∧ ∀ x ∈ I, CellsOK w M x := by
  rcases Deep.open_slice_pairs ht he ce o0 o1 c0 c1 h with ⟨h1, h2⟩ | ⟨a, len, cap, m, n', V0, V1, D0, D1, P0, P1, h1, hb0, hlc, hcap, hm, hx, hcell⟩
  · simp only [List.cons.injEq, and_true] at h1
    subst h1
    exact ⟨[], .nils, [], ⟨.inl ⟨rfl, rfl⟩, fun x hx => by simp at hx⟩, ⟨by simp, fun x hx => by simp at hx⟩, fun M hM => ⟨.nils, fun x hx => by simp at hx⟩⟩
  · simp only [List.cons.injEq, and_true] at h1
    subst h1
    have hm : m = cap := hm
    subst hm
    obtain ⟨b, off, spot⟩ := a
    obtain ⟨hspot, cB, eB, fB, hB⟩ := hok _ _ _ rfl
    simp only at hspot hB
    subst hspot
    simp only [Prod.mk.injEq] at hx
    obtain ⟨hD, _⟩ := hx
    have hbd : Rows.uptoBulkAll ((List.range len).map fun i => DataW.agg [D0 i, D1 i]) ≤ 1048576 := by
      rw [hD] at hb
      simp only [Rows.uptoBulk] at hb
      omega
    have hlen : len ≤ 1048576 := by
      have := bk_len ((List.range len).map fun i => DataW.agg [D0 i, D1 i])
      simp only [List.length_map, List.length_range] at this
      omega
    have hnum : ∀ i, i < m → ∃ z, V1 i = .int .i64 z ∧ I64 z := fun i hi => by
      obtain ⟨z, e1, _, e2⟩ := DataW.trod_int hf1 (hcell i hi).2.2.2
      simp only [List.cons.injEq, and_true] at e1
      simp only [Lit.wf, Bool.and_eq_true, decide_eq_true_eq] at e2
      exact ⟨z, e1, e2⟩
    have hq : ∀ i, i < len → ∃ q : AV × List Lab × InB, ((q.1 = .nils ∧ q.2.1 = []) ∨ (q.1 = .slice (k + (i + 1)) 0 q.2.1.length 2 ∧ q.2.2.cells = cL q.2.1)) ∧ LBd q.2.1 ∧ ∀ M : Inj, M (k + (i + 1)) = some q.2.2.bi → VRel M q.1 (V0 i) ∧ CellsOK w M q.2.2 := fun i hi => by
      have hp := bk_part (List.mem_map.2 ⟨i, by simpa using hi, rfl⟩ : (DataW.agg [D0 i, D1 i] : DataW H) ∈ (List.range len).map fun i => DataW.agg [D0 i, D1 i])
      rw [← bk_pair] at hp
      have := (hcell i (by omega)).2.2.1
      rw [hf0] at this
      exact lab_in hl hle cle p0 p1 d0 d1 s0 s1 this (by omega) b ⟨cB, eB, fB, hB⟩ _
    obtain ⟨q, hq⟩ := Deep.choose_lt hq
    have hV : ∀ i, i < len → ((List.range len).map fun i => ((q i).1, (q i).2.1, numV (V1 i)))[i]? = some ((q i).1, (q i).2.1, numV (V1 i)) := fun i hi => by simp [hi]
    have hVl : ((List.range len).map fun i => ((q i).1, (q i).2.1, numV (V1 i))).length = len := by simp
    have hI : ∀ i, i < len → (⟨⟨b, off, m, 2, undef⟩, true, cE ((List.range len).map fun i => ((q i).1, (q i).2.1, numV (V1 i)))⟩ :: (List.range len).map fun i => (q i).2.2 : List InB)[i + 1]? = some (q i).2.2 := fun i hi => by simp [hi]
    refine ⟨(List.range len).map fun i => ((q i).1, (q i).2.1, numV (V1 i)), .slice k 0 len 2, ⟨⟨b, off, m, 2, undef⟩, true, cE ((List.range len).map fun i => ((q i).1, (q i).2.1, numV (V1 i)))⟩ :: (List.range len).map fun i => (q i).2.2, ⟨.inr ⟨k, 0, false, by rw [hVl], false, List.mem_cons_self⟩, fun x hx => ?_⟩, ⟨by rw [hVl]; exact hlen, fun x hx => ?_⟩, fun M hM => ⟨.slice k 0 len m _ ⟨b, off, m, 2, undef⟩ (by simpa using hM 0 _ rfl) (Nat.zero_add _) hlc (.inl (by simp)) rfl, fun x hx => ?_⟩⟩
    · obtain ⟨i, hi, rfl⟩ := List.mem_map.1 hx
      have hi : i < len := by simpa using hi
      rcases (hq i hi).1 with h1 | ⟨h1, h2⟩
      · exact .inl h1
      · refine .inr ⟨k + (i + 1), 0, false, h1, false, ?_⟩
        have := hsIn_at _ k (i + 1) _ (hI i hi)
        rw [h2] at this
        exact this
    · obtain ⟨i, hi, rfl⟩ := List.mem_map.1 hx
      have hi : i < len := by simpa using hi
      obtain ⟨z, e1, e2⟩ := hnum i (by omega)
      refine ⟨(hq i hi).2.1, ?_⟩
      show I64 (numV (V1 i))
      rw [e1]; exact e2
    · have hMi : ∀ i, i < len → VRel M (q i).1 (V0 i) ∧ CellsOK w M (q i).2.2 := fun i hi => (hq i hi).2.2 M (hM (i + 1) _ (hI i hi))
      rcases List.mem_cons.1 hx with rfl | hx
      · refine ⟨rfl, rfl, cB, eB, fB, hB, fun j v hv => ?_⟩
        have hv : (cE ((List.range len).map fun i => ((q i).1, (q i).2.1, numV (V1 i))))[j]? = some v := hv
        have hj : j < len * 2 := by
          have := (List.getElem?_eq_some_iff.1 hv).1
          rw [cE_len, hVl] at this
          exact this
        have hi : j / 2 < len := by omega
        obtain ⟨k1, k2⟩ := cE_get ((List.range len).map fun i => ((q i).1, (q i).2.1, numV (V1 i))) (j / 2) (by rw [hVl]; exact hi)
        have eeg : eg ((List.range len).map fun i => ((q i).1, (q i).2.1, numV (V1 i))) (j / 2) = ((q (j / 2)).1, (q (j / 2)).2.1, numV (V1 (j / 2))) := by
          unfold eg
          rw [List.getD_eq_getElem?_getD, hV _ hi]; rfl
        rw [eeg] at k1 k2
        obtain ⟨h3, h4, _⟩ := hcell (j / 2) (by omega)
        have e2 : (⟨b, off, none⟩ : Addr).add j = ⟨b, off + j, none⟩ := by rw [add_none]
        rcases Nat.mod_two_eq_zero_or_one j with hr | hr
        · have ej : j / 2 * 2 = j := by omega
          rw [ej] at k1 h3
          rw [k1] at hv
          cases hv
          rw [e2] at h3
          obtain ⟨c', e', fr', g2, g3⟩ := cell_cells' h3
          rw [hB] at g2
          cases g2
          refine ⟨?_, _, g3, (hMi _ hi).1⟩
          rcases (hq _ hi).1 with ⟨h1, _⟩ | ⟨h1, _⟩ <;> (show (q (j / 2)).1.isCell = true) <;> rw [h1] <;> rfl
        · have ej : j / 2 * 2 + 1 = j := by omega
          rw [ej] at k2 h4
          rw [k2] at hv
          cases hv
          obtain ⟨z, e1, _⟩ := hnum (j / 2) (by omega)
          rw [e2, e1] at h4
          obtain ⟨c', e', fr', g2, g3⟩ := cell_cells' h4
          rw [hB] at g2
          cases g2
          exact ⟨rfl, _, g3, by rw [e1]; exact .int _ _⟩
      · obtain ⟨i, hi, rfl⟩ := List.mem_map.1 hx
        exact (hMi i (by simpa using hi)).2
theorem slice_there {base : Nat} {t e : TypeId} {v : Value} (hu : P.underlying t = some (.slice e)) (hv : Value.okWide P w .any base t v) : ∀ a len cap, v = .slice (some a) len cap → a.spot = none ∧ ∃ c e fr, w.heap[a.block]? = some (.cells c e fr) := by
  intro a len cap h
  subst h
  simp only [Value.okWide, hu, Cell.okWide, Cell.ok] at hv
  obtain ⟨_, _, h3⟩ := hv
  obtain ⟨_, h4, row, cells, h5, _⟩ := h3
  refine ⟨h4, ?_⟩
  unfold World.shape? at h5
  split at h5
  · rename_i c e fr hc
    exact ⟨c, e, fr, hc⟩
  · cases h5
end
end Go.Proofs.YtmblgaehfjheeaaGreat.Ev
