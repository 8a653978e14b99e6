/- Instructions as an argument. -/
import Derived.Test.YtndhhgbpcmfeiaaGreatDoorGInB
namespace Go.Proofs.YtndhhgbpcmfeiaaGreatDoor.Ev
open Go.RowKit Go.ChangeShapes Go.WideShapes
set_option linter.unusedVariables false
set_option linter.unusedSimpArgs false
set_option maxRecDepth 100000
theorem field_one {H : Type} {enc : TypeId × Value → H} {P : Program} {w : World} {n : Nat} {fs : Array Field} {cs : List Value} {xs : List (DataW H × List MemPlace)}
    (hF : ∀ (i : Nat) (f : Field), fs[i]? = some f → DataW.trod enc P w 0 (fun _ => true) true n f.type ((cs.drop f.offset).take (P.cellsOf f.type)) = xs[i]?) (i : Nat) {f : Field} (hf : fs[i]? = some f) (ho : f.offset = i) (hc : P.cellsOf f.type = 1) {c : Value} {y : DataW H × List MemPlace}
    (hci : cs[i]? = some c) (hx : xs[i]? = some y) : DataW.trod enc P w 0 (fun _ => true) true n f.type [c] = some y := by
  have h := hF i f hf
  rw [ho, hc, hx] at h
  have e : (cs.drop i).take 1 = [c] := by
    rw [List.take_one, List.head?_drop, hci]; rfl
  rwa [e] at h
theorem list11 {α : Type} {l : List α} (h : l.length = 11) : ∃ c0 c1 c2 c3 c4 c5 c6 c7 c8 c9 c10, l = [c0, c1, c2, c3, c4, c5, c6, c7, c8, c9, c10] := by
  match l, h with
  | [c0, c1, c2, c3, c4, c5, c6, c7, c8, c9, c10], _ => exact ⟨c0, c1, c2, c3, c4, c5, c6, c7, c8, c9, c10, rfl⟩
theorem list12 {α : Type} {l : List α} (h : l.length = 12) : ∃ c0 c1 c2 c3 c4 c5 c6 c7 c8 c9 c10 c11, l = [c0, c1, c2, c3, c4, c5, c6, c7, c8, c9, c10, c11] := by
  match l, h with
  | [c0, c1, c2, c3, c4, c5, c6, c7, c8, c9, c10, c11], _ => exact ⟨c0, c1, c2, c3, c4, c5, c6, c7, c8, c9, c10, c11, rfl⟩
/-- A slice's row. -/
def RowI (k : Nat) {α : Type} (sz : Nat) (f : List α → List AV) (X : List α) (va : AV) (x : InB) : Prop := (va = .nils ∧ X = []) ∨ (va = .slice k 0 X.length sz ∧ x.cells = f X)
theorem RowI.cell {k sz : Nat} {α : Type} {f : List α → List AV} {X : List α} {va : AV} {x : InB} (h : RowI k sz f X va x) : va.isCell = true := by
  rcases h with ⟨rfl, _⟩ | ⟨rfl, _⟩ <;> rfl
theorem RowI.rin {k sz : Nat} {α : Type} {f : List α → List AV} {X : List α} {va : AV} {x : InB} {hs : HSt} (h : RowI k sz f X va x) (hf : (f X).length = X.length * sz) (hm : MemH hs k ⟨0, false, x.cells⟩) : RIn hs sz X.length (f X) va := by
  rcases h with ⟨rfl, rfl⟩ | ⟨rfl, h2⟩
  · refine .inl ⟨rfl, rfl, ?_⟩
    have : (f []).length = 0 := by rw [hf]; simp
    exact List.length_eq_zero_iff.1 this
  · exact .inr ⟨k, 0, false, rfl, by rw [← h2]; exact hm, hf⟩
section
variable {H : Type} {enc : TypeId × Value → H} {W : World}
/-- An instruction that comes in. -/
theorem el_in {n : Nat} {cs : List Value} {d : DataW H} {p : List MemPlace} (h : DataW.trod enc Tryz.prog W 0 (fun _ => true) true n 42 cs = some (d, p)) (hb : Rows.uptoBulk d ≤ 1048576) (B : Nat) (hB : ∃ c e fr, W.heap[B]? = some (.cells c e fr)) (k : Nat) :
    ∃ (x : IE) (bl : Nat → InB), RowI k 3 cM x.d.ms x.vm (bl 0) ∧ RowI (k + 1) 1 cS x.d.nm x.vn (bl 1) ∧ KLn x.vk x.nk ∧ RowI (k + 3) 1 cA x.ars x.va (bl 3) ∧ IBd x ∧
      ∀ M : Inj, (∀ r, r < 4 → M (k + r) = some (bl r).bi) → (∀ (j : Nat) (v : AV), x.c[j]? = some v → v.isCell = true ∧ ∃ u, cs[j]? = some u ∧ VRel M v u) ∧ ∀ r, r < 4 → CellsOK W M (bl r) := by
  have i1 : Tryz.prog.cellsOf 3 = 1 := by kernel_rfl
  have s1 : Tryz.prog.cellsOf 9 = 1 := by kernel_rfl
  have b1 : Tryz.prog.cellsOf 4 = 1 := by kernel_rfl
  have n1 : Tryz.prog.cellsOf 23 = 1 := by kernel_rfl
  have m1 : Tryz.prog.cellsOf 22 = 1 := by kernel_rfl
  have k1 : Tryz.prog.cellsOf 24 = 1 := by kernel_rfl
  have a1 : Tryz.prog.cellsOf 40 = 1 := by kernel_rfl
  have e3 : Tryz.prog.cellsOf 91 = 3 := by kernel_rfl
  have e11 : Tryz.prog.cellsOf 26 = 11 := by kernel_rfl
  have e12 : Tryz.prog.cellsOf 42 = 12 := by kernel_rfl
  obtain ⟨y, ya, n2, hy, hcs, ht0, ht1⟩ := trod_struct2 Tryz.underlying42 h
  obtain ⟨c0, c1, c2, c3, c4, c5, c6, c7, c8, c9, c10, c11, rfl⟩ := list12 (hcs.trans e12)
  have h0 : DataW.trod enc Tryz.prog W 0 (fun _ => true) true n2 26 [c0, c1, c2, c3, c4, c5, c6, c7, c8, c9, c10] = some y := by
    have := ht0
    rw [show (Field.type _ : TypeId) = 26 from rfl, e11] at this
    exact this
  have g11 : DataW.trod enc Tryz.prog W 0 (fun _ => true) true n2 40 [c11] = some ya := by
    have := ht1
    rw [show (Field.type _ : TypeId) = 40 from rfl, a1] at this
    exact this
  obtain ⟨xs, n3, _, hx, _, hlen, hF⟩ := DataW.trod_struct Tryz.underlying26 h0
  obtain ⟨y0, y1, y2, y3, y4, y5, y6, y7, y8, y9, y10, rfl⟩ := list11 (hlen.trans rfl)
  have g0 : DataW.trod enc Tryz.prog W 0 (fun _ => true) true n3 3 [c0] = some y0 := field_one hF 0 rfl rfl i1 rfl rfl
  have g1 : DataW.trod enc Tryz.prog W 0 (fun _ => true) true n3 9 [c1] = some y1 := field_one hF 1 rfl rfl s1 rfl rfl
  have g2 : DataW.trod enc Tryz.prog W 0 (fun _ => true) true n3 3 [c2] = some y2 := field_one hF 2 rfl rfl i1 rfl rfl
  have g3 : DataW.trod enc Tryz.prog W 0 (fun _ => true) true n3 22 [c3] = some y3 := field_one hF 3 rfl rfl m1 rfl rfl
  have g4 : DataW.trod enc Tryz.prog W 0 (fun _ => true) true n3 3 [c4] = some y4 := field_one hF 4 rfl rfl i1 rfl rfl
  have g5 : DataW.trod enc Tryz.prog W 0 (fun _ => true) true n3 3 [c5] = some y5 := field_one hF 5 rfl rfl i1 rfl rfl
  have g6 : DataW.trod enc Tryz.prog W 0 (fun _ => true) true n3 3 [c6] = some y6 := field_one hF 6 rfl rfl i1 rfl rfl
  have g7 : DataW.trod enc Tryz.prog W 0 (fun _ => true) true n3 23 [c7] = some y7 := field_one hF 7 rfl rfl n1 rfl rfl
  have g8 : DataW.trod enc Tryz.prog W 0 (fun _ => true) true n3 3 [c8] = some y8 := field_one hF 8 rfl rfl i1 rfl rfl
  have g9 : DataW.trod enc Tryz.prog W 0 (fun _ => true) true n3 4 [c9] = some y9 := field_one hF 9 rfl rfl b1 rfl rfl
  have g10 : DataW.trod enc Tryz.prog W 0 (fun _ => true) true n3 24 [c10] = some y10 := field_one hF 10 rfl rfl k1 rfl rfl
  have hby : Rows.uptoBulk y.1 + Rows.uptoBulk ya.1 + 1 ≤ 1048576 := by
    have := (Prod.mk.inj hy).1
    rw [bk_pair, ← this]; exact hb
  have hbx : Rows.uptoBulkAll ([y0, y1, y2, y3, y4, y5, y6, y7, y8, y9, y10].map (·.1)) ≤ 1048576 := by
    rw [hx] at hby
    simp only [Rows.uptoBulk] at hby ⊢
    omega
  have hb3 : Rows.uptoBulk y3.1 ≤ 1048576 := Nat.le_trans (bk_part (by simp)) hbx
  have hb7 : Rows.uptoBulk y7.1 ≤ 1048576 := Nat.le_trans (bk_part (by simp)) hbx
  obtain ⟨kd, q0, _⟩ := DataW.trod_int Tryz.underlying3 g0
  obtain ⟨op, q1, _⟩ := DataW.trod_string Tryz.underlying9 g1
  obtain ⟨nn, q2, _⟩ := DataW.trod_int Tryz.underlying3 g2
  obtain ⟨rg, q4, _⟩ := DataW.trod_int Tryz.underlying3 g4
  obtain ⟨off, q5, _⟩ := DataW.trod_int Tryz.underlying3 g5
  obtain ⟨md, q6, _⟩ := DataW.trod_int Tryz.underlying3 g6
  obtain ⟨sd, q8, _⟩ := DataW.trod_int Tryz.underlying3 g8
  obtain ⟨bl, q9, _⟩ := DataW.trod_bool Tryz.underlying4 g9
  simp only [List.cons.injEq, and_true] at q0 q1 q2 q4 q5 q6 q8 q9
  subst q0 q1 q2 q4 q5 q6 q8 q9
  obtain ⟨ms, vm, xm, rm, lm, gm, Mm⟩ := row_in (f := mC) (D := y3.1) (Pl := y3.2) Tryz.underlying22 e3 (by decide) (fun _ => rfl) (mt_in Tryz.underlying91 rfl rfl rfl i1 s1 s1 e3 Tryz.underlying3 Tryz.underlying9 Tryz.underlying9) g3 hb3 B hB k
  obtain ⟨nm, vn, xn, rn, ln, gn, Mn⟩ := row_in (f := fun x => [AV.str x]) (D := y7.1) (Pl := y7.2) Tryz.underlying23 s1 (by decide) (fun _ => rfl) (str_in Tryz.underlying9) g7 hb7 B hB (k + 1)
  obtain ⟨nk, vk, xk, rk, Mk⟩ := len_in (D := y10.1) (Pl := y10.2) Tryz.underlying24 e11 (by decide) g10 B hB (k + 2)
  obtain ⟨ax, va, xa, ra, la, ga, Ma⟩ := row_in (f := fun x => [AV.int .i64 x]) (D := ya.1) (Pl := ya.2) Tryz.underlying40 i1 (by decide) (fun _ => rfl) (num_in Tryz.underlying3) g11 (by omega) B hB (k + 3)
  rw [flat_one] at rn ra
  refine ⟨⟨⟨kd, strOf (.string op), nn, ms, rg, off, md, nm, sd, bl⟩, ax, nk, vm, vn, vk, va⟩, fun r => match r with
    | 0 => xm
    | 1 => xn
    | 2 => xk
    | _ => xa, rm, rn, rk, ra, ⟨⟨str_bytes op, ⟨lm, gm⟩, ⟨ln, gn⟩⟩, la, ga⟩, fun M hM => ?_⟩
  obtain ⟨p3, w3⟩ := Mm M (hM 0 (by decide))
  obtain ⟨p7, w7⟩ := Mn M (hM 1 (by decide))
  obtain ⟨p10, w10⟩ := Mk M (hM 2 (by decide))
  obtain ⟨p11, w11⟩ := Ma M (hM 3 (by decide))
  refine ⟨fun j v hv => ?_, fun r hr => ?_⟩
  · match j with
    | 0 => obtain rfl := Option.some.inj hv; exact ⟨rfl, _, rfl, .int _ _⟩
    | 1 => obtain rfl := Option.some.inj hv; exact ⟨rfl, _, rfl, str_rel⟩
    | 2 => obtain rfl := Option.some.inj hv; exact ⟨rfl, _, rfl, .int _ _⟩
    | 3 => obtain rfl := Option.some.inj hv; exact ⟨RowI.cell (k := k) (sz := 3) (f := cM) (X := ms) (x := xm) rm, _, rfl, p3⟩
    | 4 => obtain rfl := Option.some.inj hv; exact ⟨rfl, _, rfl, .int _ _⟩
    | 5 => obtain rfl := Option.some.inj hv; exact ⟨rfl, _, rfl, .int _ _⟩
    | 6 => obtain rfl := Option.some.inj hv; exact ⟨rfl, _, rfl, .int _ _⟩
    | 7 => obtain rfl := Option.some.inj hv; exact ⟨RowI.cell (k := k + 1) (sz := 1) (f := cS) (X := nm) (x := xn) rn, _, rfl, p7⟩
    | 8 => obtain rfl := Option.some.inj hv; exact ⟨rfl, _, rfl, .int _ _⟩
    | 9 => obtain rfl := Option.some.inj hv; exact ⟨rfl, _, rfl, .bool _⟩
    | 10 => obtain rfl := Option.some.inj hv; exact ⟨rk.cell, _, rfl, p10⟩
    | 11 => obtain rfl := Option.some.inj hv; exact ⟨RowI.cell (k := k + 3) (sz := 1) (f := cA) (X := ax) (x := xa) ra, _, rfl, p11⟩
    | j + 12 => cases hv
  · match r, hr with
    | 0, _ => exact w3
    | 1, _ => exact w7
    | 2, _ => exact w10
    | 3, _ => exact w11
/-- Instructions that come in. -/
theorem insts_in {n : Nat} {v : Value} {D : DataW H} {Pl : List MemPlace} (h : DataW.trod enc Tryz.prog W 0 (fun _ => true) true n 30 [v] = some (D, Pl)) (hb : Rows.uptoBulk D ≤ 1048576) (hok : ∀ a len cap, v = .slice (some a) len cap → a.spot = none ∧ ∃ c e fr, W.heap[a.block]? = some (.cells c e fr)) (k : Nat) :
    ∃ (L : List IE) (va : AV) (I : List InB), IIn (hsIn k I) L va ∧ ILB L ∧ ∀ M : Inj, (∀ j x, I[j]? = some x → M (k + j) = some x.bi) → VRel M va v ∧ ∀ x ∈ I, CellsOK W M x := by
  have e12 : Tryz.prog.cellsOf 42 = 12 := by kernel_rfl
  rcases Deep.open_slice Tryz.underlying30 h with ⟨h1, h2⟩ | ⟨a, len, cap, m, n', Dd, Pd, h1, hb0, hle, hcap, hm, hx, hcell⟩
  · simp only [List.cons.injEq, and_true] at h1
    subst h1
    exact ⟨[], .nils, [], ⟨RIn.nil, fun x hx => by simp at hx⟩, ⟨by simp, fun x hx => by simp at hx⟩, fun M hM => ⟨.nils, fun x hx => by simp at hx⟩⟩
  · simp only [List.cons.injEq, and_true] at h1
    subst h1
    have hm : m = cap := hm
    subst hm
    obtain ⟨b, off, spot⟩ := a
    obtain ⟨hspot, cB, eB, fB, hB⟩ := hok _ _ _ rfl
    simp only at hspot hB
    subst hspot
    simp only [Prod.mk.injEq] at hx
    obtain ⟨hD, _⟩ := hx
    have hbd : Rows.uptoBulkAll ((List.range len).map Dd) ≤ 1048576 := by
      rw [hD] at hb
      simp only [Rows.uptoBulk] at hb
      omega
    have hlen : len ≤ 1048576 := by
      have := bk_len ((List.range len).map Dd)
      simp only [List.length_map, List.length_range] at this
      omega
    have hq : ∀ i, i < len → ∃ q : IE × (Nat → InB) × List Value, (∀ j, j < 12 → W.cell? ⟨b, off + (i * 12 + j), none⟩ = q.2.2[j]?) ∧ RowI (k + (1 + i * 4)) 3 cM q.1.d.ms q.1.vm (q.2.1 0) ∧ RowI (k + (1 + i * 4) + 1) 1 cS q.1.d.nm q.1.vn (q.2.1 1) ∧ KLn q.1.vk q.1.nk ∧ RowI (k + (1 + i * 4) + 3) 1 cA q.1.ars q.1.va (q.2.1 3) ∧ IBd q.1 ∧
        ∀ M : Inj, (∀ r, r < 4 → M (k + (1 + i * 4) + r) = some (q.2.1 r).bi) → (∀ (j : Nat) (v : AV), q.1.c[j]? = some v → v.isCell = true ∧ ∃ u, q.2.2[j]? = some u ∧ VRel M v u) ∧ ∀ r, r < 4 → CellsOK W M (q.2.1 r) := fun i hi => by
      obtain ⟨cs, g1, g2⟩ := hcell i (by omega)
      rw [e12] at g1
      obtain ⟨g3, g4⟩ := cells_plain (H := H) (P := Tryz.prog) g1
      have hp := bk_part (List.mem_map.2 ⟨i, by simpa using hi, rfl⟩ : Dd i ∈ (List.range len).map Dd)
      obtain ⟨x, bl, g5⟩ := el_in g2 (by omega) b ⟨cB, eB, fB, hB⟩ (k + (1 + i * 4))
      exact ⟨(x, bl, cs), g4, g5⟩
    obtain ⟨q, hq⟩ := Deep.choose_lt hq
    let L := (List.range len).map fun i => (q i).1
    have hL : L.length = len := by simp [L]
    have hLi : ∀ i, i < len → L[i]? = some (q i).1 := fun i hi => by simp [L, hi]
    let I : List InB := ⟨⟨b, off, m, 12, undef⟩, true, cI L⟩ :: (List.range (len * 4)).map fun j => (q (j / 4)).2.1 (j % 4)
    have hI : ∀ i r, i < len → r < 4 → I[1 + i * 4 + r]? = some ((q i).2.1 r) := fun i r hi hr => by
      have e1 : 1 + i * 4 + r = (i * 4 + r) + 1 := by omega
      have e2 : (i * 4 + r) / 4 = i := by omega
      have e3 : (i * 4 + r) % 4 = r := by omega
      rw [e1]
      show ((List.range (len * 4)).map fun j => (q (j / 4)).2.1 (j % 4))[i * 4 + r]? = _
      rw [List.getElem?_map, List.getElem?_range (by omega)]
      show some ((q ((i * 4 + r) / 4)).2.1 ((i * 4 + r) % 4)) = _
      rw [e2, e3]
    have hmem : ∀ i r, i < len → r < 4 → MemH (hsIn k I) (k + (1 + i * 4) + r) ⟨0, false, ((q i).2.1 r).cells⟩ := fun i r hi hr => by
      have := hsIn_at I k _ _ (hI i r hi hr)
      rw [show k + (1 + i * 4 + r) = k + (1 + i * 4) + r by omega] at this
      exact ⟨false, this⟩
    refine ⟨L, .slice k 0 len 12, I, ⟨.inr ⟨k, 0, false, by rw [hL], ⟨false, List.mem_cons_self⟩, cI_len L⟩, fun x hx => ?_⟩, ⟨by rw [hL]; exact hlen, fun x hx => ?_⟩, fun M hM => ⟨.slice k 0 len m _ ⟨b, off, m, 12, undef⟩ (by simpa using hM 0 _ rfl) (Nat.zero_add _) hle (.inl (by simp)) rfl, fun x hx => ?_⟩⟩
    · obtain ⟨i, hi, rfl⟩ := List.mem_map.1 hx
      have hi : i < len := by simpa using hi
      obtain ⟨_, r0, r1, rk, r3, _⟩ := hq i hi
      exact ⟨r0.rin (cM_len _) (hmem i 0 hi (by decide)), r1.rin (cS_len _) (hmem i 1 hi (by decide)), rk, r3.rin (cA_len _) (hmem i 3 hi (by decide))⟩
    · obtain ⟨i, hi, rfl⟩ := List.mem_map.1 hx
      exact (hq i (by simpa using hi)).2.2.2.2.2.1
    · have hMi : ∀ i, i < len → (∀ (j : Nat) (v : AV), (q i).1.c[j]? = some v → v.isCell = true ∧ ∃ u, (q i).2.2[j]? = some u ∧ VRel M v u) ∧ ∀ r, r < 4 → CellsOK W M ((q i).2.1 r) := fun i hi => (hq i hi).2.2.2.2.2.2 M fun r hr => by
        have := hM _ _ (hI i r hi hr)
        rw [show k + (1 + i * 4 + r) = k + (1 + i * 4) + r by omega] at this
        exact this
      rcases List.mem_cons.1 hx with rfl | hx
      · refine ⟨rfl, rfl, cB, eB, fB, hB, fun j v hv => ?_⟩
        have hv : (cI L)[j]? = some v := hv
        have hj : j < len * 12 := by
          have := (List.getElem?_eq_some_iff.1 hv).1
          rw [cI_len, hL] at this
          exact this
        have hi : j / 12 < len := by omega
        have hr : j % 12 < 12 := by omega
        have ej : j / 12 * 12 + j % 12 = j := by omega
        have h3 := flat_at (f := IE.c) (sz := 12) (fun _ => rfl) L (j / 12) (j % 12) _ (hLi _ hi) hr
        rw [ej] at h3
        have h3' : (cI L)[j]? = (q (j / 12)).1.c[j % 12]? := h3
        rw [hv] at h3'
        obtain ⟨h4, u, h5, h6⟩ := (hMi _ hi).1 _ _ h3'.symm
        have h7 := (hq _ hi).1 _ hr
        rw [h5, ej] at h7
        obtain ⟨c', e', fr', h8, h9⟩ := cell_cells' h7
        rw [hB] at h8
        cases h8
        exact ⟨h4, u, h9, h6⟩
      · obtain ⟨j, hj, rfl⟩ := List.mem_map.1 hx
        have hj : j < len * 4 := by simpa using hj
        exact (hMi (j / 4) (by omega)).2 _ (by omega)
/-- Instructions as an argument. -/
theorem insts_arg {base : Nat} {v : Value} {d : DataW H} {p : List MemPlace} (hval : Value.okWide Tryz.prog W .any base 30 v) (h : DataW.Trod enc Tryz.prog W 0 (fun _ => true) true 30 v d p) (hb : Rows.uptoBulk d ≤ 1048576) (k : Nat) :
    ∃ (L : List IE) (va : AV) (I : List InB), IIn (hsIn k I) L va ∧ ILB L ∧ ∀ M : Inj, (∀ j x, I[j]? = some x → M (k + j) = some x.bi) → VRel M va v ∧ ∀ x ∈ I, CellsOK W M x := by
  obtain ⟨fuel, hf⟩ := h
  have hc : v.cells.toList = [v] := by
    obtain ⟨a, len, cap, rfl⟩ := okWide_slice Tryz.underlying30 hval
    rfl
  rw [hc] at hf
  exact insts_in hf hb (slice_there Tryz.underlying30 hval) k
end
end Go.Proofs.YtndhhgbpcmfeiaaGreatDoor.Ev
