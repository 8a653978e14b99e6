/- Matchers and series that come in. -/
import Derived.Test.YtfkbfnpjggkdmaaGreatDoorOInA
import Derived.Test.YtfkbfnpjggkdmaaGreatDoorOEaf
import Derived.ChangeSame
namespace Go.Proofs.YtfkbfnpjggkdmaaGreatDoor.Ev
open Go.RowKit Go.ChangeShapes Go.WideShapes
set_option maxRecDepth 100000
def RIn (hs : HSt) (sz n : Nat) (cells : List AV) (v : AV) : Prop := (v = .nils ∧ n = 0 ∧ cells = []) ∨ ∃ b z ex, v = .slice b 0 n sz ∧ MemH hs b ⟨z, ex, cells⟩ ∧ cells.length = n * sz
theorem cells_plain {H : Type} {P : Program} {w : World} {b off i sz : Nat} {cs : List Value} (h : w.cells? 0 ((⟨b, off, none⟩ : Addr).add (i * sz)) sz = some cs) : cs.length = sz ∧ ∀ j, j < sz → w.cell? ⟨b, off + (i * sz + j), none⟩ = cs[j]? := by
 obtain ⟨_, h2, h3⟩ := World.cells?_some h
 refine ⟨h2, fun j hj => ?_⟩
 have := h3 j hj
 rw [Deep.add_add, add_none] at this
 exact this
theorem flat_id_at : ∀ {cs : List (List AV)} {sz i j : Nat} {c : List AV}, (∀ c ∈ cs, c.length = sz) → cs[i]? = some c → j < sz → (cs.flatMap id)[i * sz + j]? = c[j]?
 | [], sz, i, j, c, _, h, _ => by simp at h
 | y :: cs, sz, 0, j, c, hl, h, hj => by
  simp at h
  subst h
  rw [List.flatMap_cons, Nat.zero_mul, Nat.zero_add, id, List.getElem?_append_left (by rw [hl _ List.mem_cons_self]; exact hj)]
 | y :: cs, sz, i + 1, j, c, hl, h, hj => by
  have hy := hl y List.mem_cons_self
  rw [List.flatMap_cons, id, List.getElem?_append_right (by rw [hy, Nat.add_mul]; omega), hy, show (i + 1) * sz + j - sz = i * sz + j by rw [Nat.add_mul]; omega]
  exact flat_id_at (fun x hx => hl x (List.mem_cons_of_mem _ hx)) (by simpa using h) hj
section
variable {H : Type} {enc : TypeId × Value → H} {P : Program} {w : World} {held : Bool}
theorem rows_in {α : Type} {f : α → List AV} {sz : Nat} {G : HSt → α → Prop} (hG : ∀ hs hs' x, (∀ b o, MemH hs b o → MemH hs' b o) → G hs x → G hs' x) (hf : ∀ hs x, G hs x → (f x).length = sz)
  {t e : TypeId} {n : Nat} {u : Value} {D : DataW H} {Pl : List MemPlace} (ht : P.underlying t = some (.slice e)) (ce : P.cellsOf e = sz) (hz : 0 < sz)
  (hel : ∀ (n : Nat) (cs : List Value) (d : DataW H) (p : List MemPlace), DataW.trod enc P w 0 (fun _ => true) held n e cs = some (d, p) → Rows.uptoBulk d < Rows.uptoBulk D → ∀ (B : Nat), (∃ c e fr, w.heap[B]? = some (.cells c e fr)) → ∀ k : Nat,
   ∃ (x : α) (I : List InB), G (hsIn k I) x ∧ ∀ M : Inj, (∀ j y, I[j]? = some y → M (k + j) = some y.bi) → (∀ (j : Nat) (v : AV), (f x)[j]? = some v → v.isCell = true ∧ ∃ u, cs[j]? = some u ∧ VRel M v u) ∧ ∀ y ∈ I, CellsOK w M y)
  (h : DataW.trod enc P w 0 (fun _ => true) held n t [u] = some (D, Pl)) (hb : Rows.uptoBulk D ≤ 1048576) (B : Nat) (hB : (∃ a len cap, u = .slice (some a) len cap) → ∃ c e fr, w.heap[B]? = some (.cells c e fr)) (k : Nat) :
  ∃ (X : List α) (va : AV) (I : List InB), RIn (hsIn k I) sz X.length ((X.map f).flatMap id) va ∧ X.length ≤ 1048576 ∧ (∀ y ∈ X, G (hsIn k I) y) ∧ ∀ M : Inj, (∀ j y, I[j]? = some y → M (k + j) = some y.bi) → VRel M va u ∧ ∀ y ∈ I, CellsOK w M y := by
 rcases Deep.open_slice ht h with ⟨h1, h2⟩ | ⟨a, len, cap, m, n', Dd, Pd, h1, hb0, hle, hcap, hm, hx, hcell⟩
 ·simp only [List.cons.injEq, and_true] at h1
  subst h1
  exact ⟨[], .nils, [], (.inl ⟨rfl, rfl, rfl⟩), by simp, fun x hx => by simp at hx, fun M hM => ⟨.nils, fun x hx => by simp at hx⟩⟩
 ·simp only [List.cons.injEq, and_true] at h1
  subst h1
  obtain ⟨cB, eB, fB, hBB⟩ := hB ⟨_, _, _, rfl⟩
  have hm : m = cap := hm
  subst hm
  simp only [Prod.mk.injEq] at hx
  obtain ⟨hD, _⟩ := hx
  have hbd : Rows.uptoBulkAll ((List.range len).map Dd) < Rows.uptoBulk D := by
   rw [hD]
   simp only [Rows.uptoBulk]
   omega
  have hlen : len ≤ 1048576 := by
   have := bk_len ((List.range len).map Dd)
   simp only [List.length_map, List.length_range] at this
   omega
  by_cases hc : m = 0
  ·subst hc
   obtain rfl : len = 0 := by omega
   refine ⟨[], .slice k 0 0 sz, [⟨⟨B, 0, 0, sz, undef⟩, true, []⟩], .inr ⟨k, 0, false, rfl, ⟨false, List.mem_cons_self⟩, by simp⟩, by simp, fun x hx => by simp at hx, fun M hM => ⟨.slice k 0 0 0 a ⟨B, 0, 0, sz, undef⟩ (by simpa using hM 0 _ rfl) rfl (Nat.le_refl _) (.inr rfl) rfl, fun x hx => ?_⟩⟩
   rw [List.mem_singleton.1 hx]
   exact ⟨rfl, rfl, cB, eB, fB, hBB, fun k v hv => by simp at hv⟩
  obtain ⟨b, off, spot⟩ := a
  have hspot : spot = none := by
   obtain ⟨cs0, g1, _⟩ := hcell 0 (by omega)
   rw [ce] at g1
   obtain ⟨_, g2, g3⟩ := World.cells?_some g1
   have g4 := g3 0 hz
   rw [List.getElem?_eq_getElem (by omega)] at g4
   simpa [Addr.add] using World.cell?_spot g4
  subst hspot
  have hq : ∀ q, q ≤ len → ∃ (X : List α) (I : List InB), X.length = q ∧ (∀ y ∈ X, G (hsIn (k + 1) I) y) ∧ ∀ M : Inj, (∀ j y, I[j]? = some y → M (k + 1 + j) = some y.bi) →
    (∀ (i j : Nat) (x : α) (v : AV), X[i]? = some x → (f x)[j]? = some v → v.isCell = true ∧ ∃ u, w.cell? ⟨b, off + (i * sz + j), none⟩ = some u ∧ VRel M v u) ∧ ∀ y ∈ I, CellsOK w M y := by
   intro q
   induction q with
   | zero => exact fun _ => ⟨[], [], rfl, fun y hy => by simp at hy, fun M hM => ⟨fun i j x v hx => by simp at hx, fun y hy => by simp at hy⟩⟩
   | succ q ih =>
    intro hq
    obtain ⟨X, I, g1, g2, g3⟩ := ih (by omega)
    obtain ⟨cs, k1, k2⟩ := hcell q (by omega)
    rw [ce] at k1
    obtain ⟨k3, k4⟩ := cells_plain (H := H) (P := P) k1
    have hp := bk_part (List.mem_map.2 ⟨q, by simpa using (show q < len by omega), rfl⟩ : Dd q ∈ (List.range len).map Dd)
    obtain ⟨x, J, k5, k6⟩ := hel _ _ _ _ k2 (by omega) B ⟨cB, eB, fB, hBB⟩ (k + 1 + I.length)
    have hA : ∀ b o, MemH (hsIn (k + 1) I) b o → MemH (hsIn (k + 1) (I ++ J)) b o := fun b o ⟨w, g⟩ => ⟨w, by rw [hsIn_app]; exact List.mem_append_left _ g⟩
    have hA2 : ∀ b o, MemH (hsIn (k + 1 + I.length) J) b o → MemH (hsIn (k + 1) (I ++ J)) b o := fun b o ⟨w, g⟩ => ⟨w, by rw [hsIn_app]; exact List.mem_append_right _ g⟩
    refine ⟨X ++ [x], I ++ J, by simp [g1], fun y hy => ?_, fun M hM => ?_⟩
    ·rcases List.mem_append.1 hy with hy | hy
     ·exact hG _ _ _ hA (g2 y hy)
     ·rw [List.mem_singleton.1 hy]
      exact hG _ _ _ hA2 k5
    ·obtain ⟨m1, m2⟩ := g3 M fun j y hj => hM j y (by rw [List.getElem?_append_left (List.getElem?_eq_some_iff.1 hj).1]; exact hj)
     obtain ⟨m3, m4⟩ := k6 M fun j y hj => by
      have := hM (I.length + j) y (by rw [List.getElem?_append_right (by omega), show I.length + j - I.length = j by omega]; exact hj)
      rwa [show k + 1 + (I.length + j) = k + 1 + I.length + j by omega] at this
     refine ⟨fun i j x' v hx' hv => ?_, fun y hy => ?_⟩
     ·rcases Nat.lt_or_ge i X.length with hi | hi
      ·exact m1 i j x' v (by rw [List.getElem?_append_left hi] at hx'; exact hx') hv
      ·rw [List.getElem?_append_right hi] at hx'
       have hi0 : i - X.length = 0 := by
        have := (List.getElem?_eq_some_iff.1 hx').1
        simp at this
        omega
       rw [hi0] at hx'
       simp at hx'
       subst hx'
       obtain ⟨n1, u, n2, n3⟩ := m3 j v hv
       have hj : j < sz := by
        have := (List.getElem?_eq_some_iff.1 n2).1
        omega
       refine ⟨n1, u, ?_, n3⟩
       rw [show i = q by omega, k4 j hj, n2]
     ·rcases List.mem_append.1 hy with hy | hy
      ·exact m2 y hy
      ·exact m4 y hy
  obtain ⟨X, I, g1, g2, g3⟩ := hq len (Nat.le_refl _)
  have hl : ∀ c ∈ X.map f, c.length = sz := fun c hc => by
   obtain ⟨x, hx, rfl⟩ := List.mem_map.1 hc
   exact hf _ _ (g2 x hx)
  have hfl : ((X.map f).flatMap id).length = X.length * sz := by
   have : ∀ cs : List (List AV), (∀ c ∈ cs, c.length = sz) → (cs.flatMap id).length = cs.length * sz := fun cs => by
    induction cs with
    | nil => simp
    | cons c cs ih =>
     intro h
     rw [List.flatMap_cons, List.length_append, ih fun x hx => h x (List.mem_cons_of_mem _ hx), List.length_cons, id, h c List.mem_cons_self, Nat.add_mul]; omega
   rw [this _ hl, List.length_map]
  have hA : ∀ b o, MemH (hsIn (k + 1) I) b o → MemH (hsIn k (⟨⟨b, off, m, sz, undef⟩, true, (X.map f).flatMap id⟩ :: I)) b o := fun b o ⟨w, g⟩ => ⟨w, List.mem_cons_of_mem _ g⟩
  refine ⟨X, .slice k 0 len sz, ⟨⟨b, off, m, sz, undef⟩, true, (X.map f).flatMap id⟩ :: I, .inr ⟨k, 0, false, by rw [g1], ⟨false, List.mem_cons_self⟩, hfl⟩, by omega, fun y hy => hG _ _ _ (fun b o ⟨w, g⟩ => ⟨w, List.mem_cons_of_mem _ g⟩) (g2 y hy), fun M hM => ⟨.slice k 0 len m _ ⟨b, off, m, sz, undef⟩ (by simpa using hM 0 _ rfl) (Nat.zero_add _) hle (.inl (by simp)) rfl, fun y hy => ?_⟩⟩
  obtain ⟨m1, m2⟩ := g3 M fun j y hj => by
   have := hM (j + 1) y (by simpa using hj)
   rwa [show k + (j + 1) = k + 1 + j by omega] at this
  rcases List.mem_cons.1 hy with rfl | hy
  ·obtain ⟨cs0, k1, _⟩ := hcell 0 (by omega)
   rw [ce] at k1
   obtain ⟨k2, k3⟩ := cells_plain (H := H) (P := P) k1
   have k4 := k3 0 hz
   rw [List.getElem?_eq_getElem (by omega)] at k4
   obtain ⟨c, e, fr, g5, _⟩ := cell_cells' k4
   refine ⟨rfl, rfl, c, e, fr, g5, fun j v hv => ?_⟩
   have hv : ((X.map f).flatMap id)[j]? = some v := hv
   have hj : j < len * sz := by
    have := (List.getElem?_eq_some_iff.1 hv).1
    rw [hfl, g1] at this
    exact this
   have hi : j / sz < len := Nat.div_lt_of_lt_mul (by rw [Nat.mul_comm]; exact hj)
   have hr : j % sz < sz := Nat.mod_lt _ hz
   have ej : j / sz * sz + j % sz = j := by rw [Nat.mul_comm]; exact Nat.div_add_mod j sz
   have hxi : X[j / sz]? = some (X[j / sz]'(by omega)) := List.getElem?_eq_getElem (by omega)
   have h3 := flat_id_at hl (i := j / sz) (j := j % sz) (c := f (X[j / sz]'(by omega))) (by rw [List.getElem?_map, hxi]; rfl) hr
   rw [ej, hv] at h3
   obtain ⟨n1, u, n2, n3⟩ := m1 _ _ _ _ hxi h3.symm
   rw [ej] at n2
   obtain ⟨c', e', fr', h8, h9⟩ := cell_cells' n2
   rw [g5] at h8
   cases h8
   exact ⟨n1, u, h9, n3⟩
  ·exact m2 y hy
theorem two_str {e : TypeId} {f0 f1 : Field} (he : P.underlying e = some (.struct #[f0, f1])) (ce : P.cellsOf e = 2) (o0 : f0.offset = 0) (o1 : f1.offset = 1) (c0 : P.cellsOf f0.type = 1) (c1 : P.cellsOf f1.type = 1) (s0 : P.underlying f0.type = some .string) (s1 : P.underlying f1.type = some .string)
  (n : Nat) (cs : List Value) (d : DataW H) (p : List MemPlace) (h : DataW.trod enc P w 0 (fun _ => true) held n e cs = some (d, p)) (hb : Rows.uptoBulk d ≤ 1048576) :
  ∃ x : Lab, (Bytes x.1 ∧ Bytes x.2 ∧ x.1.length ≤ 1048576 ∧ x.2.length ≤ 1048576) ∧ ∀ (M : Inj) (j : Nat) (v : AV), [AV.str x.1, AV.str x.2][j]? = some v → v.isCell = true ∧ ∃ u, cs[j]? = some u ∧ VRel M v u := by
 obtain ⟨y0, y1, n', hx, hl, g0, g1⟩ := trod_struct2 he h
 simp only [Prod.mk.injEq] at hx
 obtain ⟨hd, _⟩ := hx
 rw [ce] at hl
 match cs, hl with
 | [v0, v1], _ =>
  rw [o0, c0] at g0
  rw [o1, c1] at g1
  obtain ⟨a, e0, q0, _⟩ := DataW.trod_string s0 g0
  obtain ⟨b, e1, q1, _⟩ := DataW.trod_string s1 g1
  simp at e0 e1
  subst e0 e1
  have hbk : Rows.uptoBulk y0.1 + Rows.uptoBulk y1.1 + 1 = Rows.uptoBulk d := by rw [hd]; exact bk_pair _ _
  rw [q0, q1, bk_str, bk_str] at hbk
  refine ⟨(strOf (.string a), strOf (.string b)), ⟨str_bytes a, str_bytes b, by rw [str_len]; omega, by rw [str_len]; omega⟩, fun M j v hv => ?_⟩
  match j with
  | 0 => simp at hv; subst hv; exact ⟨rfl, _, rfl, str_rel⟩
  | 1 => simp at hv; subst hv; exact ⟨rfl, _, rfl, str_rel⟩
  | j + 2 => simp at hv
theorem two_int {e : TypeId} {f0 f1 : Field} (he : P.underlying e = some (.struct #[f0, f1])) (ce : P.cellsOf e = 2) (o0 : f0.offset = 0) (o1 : f1.offset = 1) (c0 : P.cellsOf f0.type = 1) (c1 : P.cellsOf f1.type = 1) (s0 : P.underlying f0.type = some (.int .i64)) (s1 : P.underlying f1.type = some (.int .i64))
  (n : Nat) (cs : List Value) (d : DataW H) (p : List MemPlace) (h : DataW.trod enc P w 0 (fun _ => true) held n e cs = some (d, p)) :
  ∃ x : Smp, ∀ (M : Inj) (j : Nat) (v : AV), [AV.int .i64 x.1, AV.int .i64 x.2][j]? = some v → v.isCell = true ∧ ∃ u, cs[j]? = some u ∧ VRel M v u := by
 obtain ⟨y0, y1, n', hx, hl, g0, g1⟩ := trod_struct2 he h
 rw [ce] at hl
 match cs, hl with
 | [v0, v1], _ =>
  rw [o0, c0] at g0
  rw [o1, c1] at g1
  obtain ⟨a, e0, _⟩ := DataW.trod_int s0 g0
  obtain ⟨b, e1, _⟩ := DataW.trod_int s1 g1
  simp at e0 e1
  subst e0 e1
  refine ⟨(a, b), fun M j v hv => ?_⟩
  match j with
  | 0 => simp at hv; subst hv; exact ⟨rfl, _, rfl, .int _ _⟩
  | 1 => simp at hv; subst hv; exact ⟨rfl, _, rfl, .int _ _⟩
  | j + 2 => simp at hv
theorem mt_el {e : TypeId} {f0 f1 f2 : Field} (he : P.underlying e = some (.struct #[f0, f1, f2])) (ce : P.cellsOf e = 3) (o0 : f0.offset = 0) (o1 : f1.offset = 1) (o2 : f2.offset = 2) (c0 : P.cellsOf f0.type = 1) (c1 : P.cellsOf f1.type = 1) (c2 : P.cellsOf f2.type = 1)
  (s0 : P.underlying f0.type = some (.int .i64)) (s1 : P.underlying f1.type = some .string) (s2 : P.underlying f2.type = some .string) (n : Nat) (cs : List Value) (d : DataW H) (p : List MemPlace) (h : DataW.trod enc P w 0 (fun _ => true) held n e cs = some (d, p)) (hb : Rows.uptoBulk d ≤ 1048576) :
  ∃ x : MtT, MtOk x ∧ ∀ (M : Inj) (j : Nat) (v : AV), (mC x)[j]? = some v → v.isCell = true ∧ ∃ u, cs[j]? = some u ∧ VRel M v u := by
 obtain ⟨y0, y1, y2, n', hx, hl, g0, g1, g2⟩ := Deep.trod_struct3 he h
 simp only [Prod.mk.injEq] at hx
 obtain ⟨hd, _⟩ := hx
 rw [ce] at hl
 match cs, hl with
 | [v0, v1, v2], _ =>
  rw [o0, c0] at g0
  rw [o1, c1] at g1
  rw [o2, c2] at g2
  obtain ⟨z, e0, _⟩ := DataW.trod_int s0 g0
  obtain ⟨a, e1, q1, _⟩ := DataW.trod_string s1 g1
  obtain ⟨b, e2, q2, _⟩ := DataW.trod_string s2 g2
  simp at e0 e1 e2
  subst e0 e1 e2
  have p1 : Rows.uptoBulk y1.1 ≤ Rows.uptoBulkAll [y0.1, y1.1, y2.1] := bk_part (by simp)
  have p2 : Rows.uptoBulk y2.1 ≤ Rows.uptoBulkAll [y0.1, y1.1, y2.1] := bk_part (by simp)
  rw [hd] at hb
  simp only [Rows.uptoBulk] at hb
  have e1 : Rows.uptoBulk y1.1 = a.data.toList.length + 1 := by rw [q1]; exact bk_str _
  have e2 : Rows.uptoBulk y2.1 = b.data.toList.length + 1 := by rw [q2]; exact bk_str _
  refine ⟨(z, strOf (.string a), strOf (.string b)), ⟨str_bytes a, Nat.le_trans (Nat.le_of_eq (str_len a)) (by omega), str_bytes b, Nat.le_trans (Nat.le_of_eq (str_len b)) (by omega)⟩, fun M j v hv => ?_⟩
  match j with
  | 0 => simp [mC] at hv; subst hv; exact ⟨rfl, _, rfl, .int _ _⟩
  | 1 => simp [mC] at hv; subst hv; exact ⟨rfl, _, rfl, str_rel⟩
  | 2 => simp [mC] at hv; subst hv; exact ⟨rfl, _, rfl, str_rel⟩
  | j + 3 => simp [mC] at hv
end
theorem flat_map_id {α β : Type} (f : α → List β) (l : List α) : (l.map f).flatMap id = l.flatMap f := by
 induction l with
 | nil => rfl
 | cons x l ih => rw [List.map_cons, List.flatMap_cons, ih, List.flatMap_cons]; rfl
section
variable {H : Type} {enc : TypeId × Value → H} {W : World}
noncomputable abbrev tr (enc : TypeId × Value → H) (W : World) (n : Nat) (t : TypeId) (cs : List Value) := DataW.trod enc Tryz.prog W 0 (fun _ => true) true n t cs
theorem labs_in {n : Nat} {u : Value} {D : DataW H} {Pl : List MemPlace} (h : tr enc W n 63 [u] = some (D, Pl)) (hb : Rows.uptoBulk D ≤ 1048576) (B : Nat) (hB : ∃ c e fr, W.heap[B]? = some (.cells c e fr)) (k : Nat) :
  ∃ (X : List Lab) (va : AV) (I : List InB), LIn (hsIn k I) X va ∧ LBd X ∧ ∀ M : Inj, (∀ j y, I[j]? = some y → M (k + j) = some y.bi) → VRel M va u ∧ ∀ y ∈ I, CellsOK W M y := by
 obtain ⟨X, va, I, h1, h2, h3, h4⟩ := rows_in (α := Lab) (f := fun x => [.str x.1, .str x.2]) (sz := 2) (G := fun _ x => Bytes x.1 ∧ Bytes x.2 ∧ x.1.length ≤ 1048576 ∧ x.2.length ≤ 1048576) (fun _ _ _ _ g => g) (fun _ _ _ => rfl) Tryz.underlying63 (by kernel_rfl) (by omega)
  (fun n cs d p g gb B hB k => by
   obtain ⟨x, hx, hM⟩ := two_str Tryz.underlying70 (by kernel_rfl) rfl rfl (by kernel_rfl) (by kernel_rfl) Tryz.underlying9 Tryz.underlying9 n cs d p g (by omega)
   exact ⟨x, [], hx, fun M _ => ⟨hM M, fun y hy => by simp at hy⟩⟩) h hb B (fun _ => hB) k
 refine ⟨X, va, I, ?_, ⟨h2, h3⟩, h4⟩
 rw [flat_map_id] at h1
 rcases h1 with ⟨g1, g2, _⟩ | ⟨b, z, ex, g1, g2, _⟩
 ·exact .inl ⟨g1, List.eq_nil_of_length_eq_zero g2⟩
 ·exact .inr ⟨b, z, ex, g1, g2⟩
theorem smps_in {n : Nat} {u : Value} {D : DataW H} {Pl : List MemPlace} (h : tr enc W n 66 [u] = some (D, Pl)) (hb : Rows.uptoBulk D ≤ 1048576) (B : Nat) (hB : ∃ c e fr, W.heap[B]? = some (.cells c e fr)) (k : Nat) :
  ∃ (X : List Smp) (va : AV) (I : List InB), SIn (hsIn k I) X va ∧ SBd X ∧ ∀ M : Inj, (∀ j y, I[j]? = some y → M (k + j) = some y.bi) → VRel M va u ∧ ∀ y ∈ I, CellsOK W M y := by
 obtain ⟨X, va, I, h1, h2, h3, h4⟩ := rows_in (α := Smp) (f := fun x => [.int .i64 x.1, .int .i64 x.2]) (sz := 2) (G := fun _ _ => True) (fun _ _ _ _ g => g) (fun _ _ _ => rfl) Tryz.underlying66 (by kernel_rfl) (by omega)
  (fun n cs d p g gb B hB k => by
   obtain ⟨x, hM⟩ := two_int Tryz.underlying72 (by kernel_rfl) rfl rfl (by kernel_rfl) (by kernel_rfl) Tryz.underlying3 Tryz.underlying3 n cs d p g
   exact ⟨x, [], trivial, fun M _ => ⟨hM M, fun y hy => by simp at hy⟩⟩) h hb B (fun _ => hB) k
 refine ⟨X, va, I, ?_, h2, h4⟩
 rw [flat_map_id] at h1
 rcases h1 with ⟨g1, g2, _⟩ | ⟨b, z, ex, g1, g2, _⟩
 ·exact .inl ⟨g1, List.eq_nil_of_length_eq_zero g2⟩
 ·exact .inr ⟨b, z, ex, g1, g2⟩
def SerG (hs : HSt) (x : Ser) : Prop := LIn hs x.2.1 x.1 ∧ SIn hs x.2.2.2 x.2.2.1 ∧ LBd x.2.1 ∧ SBd x.2.2.2
theorem ser_in {n : Nat} {cs : List Value} {d : DataW H} {p : List MemPlace} (h : tr enc W n 68 cs = some (d, p)) (hb : Rows.uptoBulk d ≤ 1048576) (B : Nat) (hB : ∃ c e fr, W.heap[B]? = some (.cells c e fr)) (k : Nat) :
  ∃ (x : Ser) (I : List InB), SerG (hsIn k I) x ∧ ∀ M : Inj, (∀ j y, I[j]? = some y → M (k + j) = some y.bi) → (∀ (j : Nat) (v : AV), [x.1, x.2.2.1][j]? = some v → v.isCell = true ∧ ∃ u, cs[j]? = some u ∧ VRel M v u) ∧ ∀ y ∈ I, CellsOK W M y := by
 obtain ⟨y0, y1, n', hx, hl, g0, g1⟩ := trod_struct2 Tryz.underlying68 h
 simp only [Prod.mk.injEq] at hx
 obtain ⟨hd, _⟩ := hx
 have hbk : Rows.uptoBulk y0.1 + Rows.uptoBulk y1.1 + 1 = Rows.uptoBulk d := by rw [hd]; exact bk_pair _ _
 rw [show Tryz.prog.cellsOf 68 = 2 by kernel_rfl] at hl
 match cs, hl with
 | [v0, v1], _ =>
  have k0 : Tryz.prog.cellsOf 63 = 1 := by kernel_rfl
  have k1 : Tryz.prog.cellsOf 66 = 1 := by kernel_rfl
  have g0' : tr enc W n' 63 (([v0, v1].drop 0).take (Tryz.prog.cellsOf 63)) = some y0 := g0
  have g1' : tr enc W n' 66 (([v0, v1].drop 1).take (Tryz.prog.cellsOf 66)) = some y1 := g1
  rw [k0] at g0'
  rw [k1] at g1'
  obtain ⟨L, va, I, a1, a2, a3⟩ := labs_in (D := y0.1) (Pl := y0.2) (u := v0) g0' (by omega) B hB k
  obtain ⟨S, vb, J, b1, b2, b3⟩ := smps_in (D := y1.1) (Pl := y1.2) (u := v1) g1' (by omega) B hB (k + I.length)
  refine ⟨(va, L, vb, S), I ++ J, ⟨a1.mono fun b o ⟨w, g⟩ => ⟨w, by rw [hsIn_app]; exact List.mem_append_left _ g⟩, b1.mono fun b o ⟨w, g⟩ => ⟨w, by rw [hsIn_app]; exact List.mem_append_right _ g⟩, a2, b2⟩, fun M hM => ?_⟩
  obtain ⟨m1, m2⟩ := a3 M fun j y hj => hM j y (by rw [List.getElem?_append_left (List.getElem?_eq_some_iff.1 hj).1]; exact hj)
  obtain ⟨m3, m4⟩ := b3 M fun j y hj => by
   have := hM (I.length + j) y (by rw [List.getElem?_append_right (by omega), show I.length + j - I.length = j by omega]; exact hj)
   rwa [show k + (I.length + j) = k + I.length + j by omega] at this
  refine ⟨fun j v hv => ?_, fun y hy => (List.mem_append.1 hy).elim (m2 y) (m4 y)⟩
  match j with
  | 0 => simp at hv; subst hv; exact ⟨a1.cell, _, rfl, m1⟩
  | 1 => simp at hv; subst hv; exact ⟨b1.cell, _, rfl, m3⟩
  | j + 2 => simp at hv
theorem sers_arg {base : Nat} {v : Value} {d : DataW H} {p : List MemPlace} (hval : Value.okWide Tryz.prog W .any base 22 v) (h : DataW.Trod enc Tryz.prog W 0 (fun _ => true) true 22 v d p) (hb : Rows.uptoBulk d ≤ 1048576) (k : Nat) :
  ∃ (R : List Ser) (va : AV) (I : List InB), RSl (hsIn k I) R 0 va ∧ RAll (hsIn k I) R ∧ RBd R ∧ ∀ M : Inj, (∀ j x, I[j]? = some x → M (k + j) = some x.bi) → VRel M va v ∧ ∀ x ∈ I, CellsOK W M x := by
 obtain ⟨fuel, hf⟩ := h
 obtain ⟨a, len, cap, rfl⟩ := okWide_slice Tryz.underlying22 hval
 have hc : (Value.slice a len cap).cells.toList = [.slice a len cap] := rfl
 rw [hc] at hf
 have hth := slice_there Tryz.underlying22 hval
 obtain ⟨X, va, I, h1, h2, h3, h4⟩ := rows_in (α := Ser) (f := fun x => [x.1, x.2.2.1]) (sz := 2) (G := SerG) (fun hs hs' x hm g => ⟨g.1.mono hm, g.2.1.mono hm, g.2.2⟩) (fun _ _ _ => rfl) Tryz.underlying22 (by kernel_rfl) (by omega)
  (fun n cs d p g gb B hB k => ser_in g (by omega) B hB k) hf hb ((a.map (·.block)).getD 0) (fun ⟨a', l', c', e⟩ => by
   cases e
   exact (hth _ _ _ rfl).2) k
 refine ⟨X, va, I, ?_, fun x hx => ⟨(h3 x hx).1, (h3 x hx).2.1⟩, ⟨h2, fun x hx => (h3 x hx).2.2⟩, h4⟩
 rw [flat_map_id] at h1
 rcases h1 with ⟨g1, g2, _⟩ | ⟨b, z, ex, g1, g2, _⟩
 ·exact .inl ⟨g1, List.eq_nil_of_length_eq_zero g2⟩
 ·exact .inr ⟨b, z, ex, g1, g2⟩
theorem mts_arg {base : Nat} {v : Value} {d : DataW H} {p : List MemPlace} (hval : Value.okWide Tryz.prog W .any base 49 v) (h : DataW.Trod enc Tryz.prog W 0 (fun _ => true) true 49 v d p) (hb : Rows.uptoBulk d ≤ 1048576) (k : Nat) :
  ∃ (M0 : List MtT) (va : AV) (I : List InB), ISm (hsIn k I) M0 va ∧ MOk M0 ∧ ∀ M : Inj, (∀ j x, I[j]? = some x → M (k + j) = some x.bi) → VRel M va v ∧ ∀ x ∈ I, CellsOK W M x := by
 obtain ⟨fuel, hf⟩ := h
 obtain ⟨a, len, cap, rfl⟩ := okWide_slice Tryz.underlying49 hval
 have hc : (Value.slice a len cap).cells.toList = [.slice a len cap] := rfl
 rw [hc] at hf
 have hth := slice_there Tryz.underlying49 hval
 obtain ⟨X, va, I, h1, h2, h3, h4⟩ := rows_in (α := MtT) (f := mC) (sz := 3) (G := fun _ x => MtOk x) (fun hs hs' x hm g => g) (fun _ _ _ => rfl) Tryz.underlying49 (by kernel_rfl) (by omega)
  (fun n cs d p g gb B hB k => by
   obtain ⟨x, hx, hM⟩ := mt_el Tryz.underlying62 (by kernel_rfl) rfl rfl rfl (by kernel_rfl) (by kernel_rfl) (by kernel_rfl) Tryz.underlying3 Tryz.underlying9 Tryz.underlying9 n cs d p g (by omega)
   exact ⟨x, [], hx, fun M _ => ⟨hM M, fun y hy => by simp at hy⟩⟩) hf hb ((a.map (·.block)).getD 0) (fun ⟨a', l', c', e⟩ => by
   cases e
   exact (hth _ _ _ rfl).2) k
 refine ⟨X, va, I, ?_, ⟨h2, h3⟩, h4⟩
 rw [flat_map_id] at h1
 rcases h1 with ⟨g1, g2, _⟩ | ⟨b, z, ex, g1, g2, _⟩
 ·exact .inl ⟨g1, List.eq_nil_of_length_eq_zero g2⟩
 ·exact .inr ⟨b, z, ex, g1, g2⟩
end
end Go.Proofs.YtfkbfnpjggkdmaaGreatDoor.Ev
