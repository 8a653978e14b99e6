/- Matchers and series that come in. -/
import Derived.Test.YtfkbfnpjggkdmaaGreatDoorCInA
import Derived.Test.YtfkbfnpjggkdmaaGreatDoorCPYc
import Derived.ChangeSame
import Derived.Test.YtfkbfnpjggkdmaaGreatDoorCEay
import Derived.Test.YtfkbfnpjggkdmaaGreatDoorTie
import Derived.Test.YtfkbfnpjggkdmaaGreatDoorCards
import Derived.WalkKit
import Derived.ProofKit
import Derived.Carry
import Derived.OpenShut
import Derived.LaidMore
import Derived.LaidLaws
import Derived.LaidHandle
import Derived.SevenTiedAt
import Derived.Stop.Joined
import Derived.JoinedCond
namespace Go.Proofs.YtfkbfnpjggkdmaaGreatDoor.Ev
open Go.RowKit Go.ChangeShapes Go.WideShapes
set_option maxRecDepth 100000
def Kp (hs : af) (sz n : Nat) (cells : List AV) (v : AV) : Prop := (v = .nils /\ n = 0 /\ cells = []) \/ ∃ b z ex, v = .slice b 0 n sz /\ MemH hs b ⟨z, ex, cells⟩ /\ cells.length = n * sz
theorem nf {H : Type} {P : Program} {w : World} {b off i sz : Nat} {cs : List Value} (h : w.cells? 0 ((⟨b, off, none⟩ : Addr).add (i * sz)) sz = some cs) : cs.length = sz /\ ∀ j, j < sz -> w.cell? ⟨b, off + (i * sz + j), none⟩ = cs[j]? := by
 obtain ⟨_, h2, h3⟩ := World.cells?_some h
 refine ⟨h2, fun j hj => ?_⟩
 have := h3 j hj
 rw [Deep.add_add, fc] at this
 exact this
theorem pa : ∀ {cs : List (List AV)} {sz i j : Nat} {c : List AV}, (∀ c ∈ cs, c.length = sz) -> cs[i]? = some c -> j < sz -> (cs.flatMap id)[i * sz + j]? = c[j]?
 | [], sz, i, j, c, _, h, _ => by simp at h
 | y :: cs, sz, 0, j, c, hl, h, hj => by
  simp at h
  subst h
  rw [List.flatMap_cons, Nat.zero_mul, Nat.zero_add, id, List.getElem?_append_left (by rw [hl _ List.mem_cons_self]; exact hj)]
 | y :: cs, sz, i + 1, j, c, hl, h, hj => by
  have hy := hl y List.mem_cons_self
  rw [List.flatMap_cons, id, List.getElem?_append_right (by rw [hy, Nat.add_mul]; omega), hy, show (i + 1) * sz + j - sz = i * sz + j by rw [Nat.add_mul]; omega]
  exact pa (fun x hx => hl x (List.mem_cons_of_mem _ hx)) (by simpa using h) hj
section
variable {H : Type} {enc : TypeId × Value -> H} {P : Program} {w : World} {held : Bool}
theorem sF {α : Type} {f : α -> List AV} {sz : Nat} {G : af -> α -> Prop} (hG : ∀ hs hs' x, (∀ b o, MemH hs b o -> MemH hs' b o) -> G hs x -> G hs' x) (hf : ∀ hs x, G hs x -> (f x).length = sz)
  {t e : TypeId} {n : Nat} {u : Value} {D : DataW H} {Pl : List MemPlace} (ht : P.underlying t = some (.slice e)) (ce : P.cellsOf e = sz) (hz : 0 < sz)
  (hel : ∀ (n : Nat) (cs : List Value) (d : DataW H) (p : List MemPlace), DataW.trod enc P w 0 (fun _ => true) held n e cs = some (d, p) -> Rows.uptoBulk d < Rows.uptoBulk D -> ∀ (B : Nat), (∃ c e fr, w.heap[B]? = some (.cells c e fr)) -> ∀ k : Nat,
   ∃ (x : α) (I : List InB), G (gA k I) x /\ ∀ M : Inj, (∀ j y, I[j]? = some y -> M (k + j) = some y.bi) -> (∀ (j : Nat) (v : AV), (f x)[j]? = some v -> v.isCell = true /\ ∃ u, cs[j]? = some u /\ VRel M v u) /\ ∀ y ∈ I, CellsOK w M y)
  (h : DataW.trod enc P w 0 (fun _ => true) held n t [u] = some (D, Pl)) (hb : Rows.uptoBulk D <= 1048576) (B : Nat) (hB : (∃ a len cap, u = .slice (some a) len cap) -> ∃ c e fr, w.heap[B]? = some (.cells c e fr)) (k : Nat) :
  ∃ (X : List α) (va : AV) (I : List InB), Kp (gA k I) sz X.length ((X.map f).flatMap id) va /\ X.length <= 1048576 /\ (∀ y ∈ X, G (gA k I) y) /\ ∀ M : Inj, (∀ j y, I[j]? = some y -> M (k + j) = some y.bi) -> VRel M va u /\ ∀ y ∈ I, CellsOK w M y := by
 rcases Deep.open_slice ht h with ⟨h1, h2⟩ | ⟨a, len, cap, m, n', Dd, Pd, h1, hb0, hle, hcap, hm, hx, hcell⟩
 ·simp only [List.cons.injEq, and_true] at h1
  subst h1
  exact ⟨[], .nils, [], (.inl ⟨rfl, rfl, rfl⟩), by simp, fun x hx => by simp at hx, fun M hM => ⟨.nils, fun x hx => by simp at hx⟩⟩
 ·simp only [List.cons.injEq, and_true] at h1
  subst h1
  obtain ⟨cB, eB, fB, hBB⟩ := hB ⟨_, _, _, rfl⟩
  have hm : m = cap := hm
  subst hm
  simp only [Prod.mk.injEq] at hx
  obtain ⟨hD, _⟩ := hx
  have hbd : Rows.uptoBulkAll ((List.range len).map Dd) < Rows.uptoBulk D := by
   rw [hD]
   simp only [Rows.uptoBulk]
   omega
  have hlen : len <= 1048576 := by
   have := F4 ((List.range len).map Dd)
   simp only [List.length_map, List.length_range] at this
   omega
  by_cases hc : m = 0
  ·subst hc
   obtain rfl : len = 0 := by omega
   refine ⟨[], .slice k 0 0 sz, [⟨⟨B, 0, 0, sz, undef⟩, true, []⟩], .inr ⟨k, 0, false, rfl, ⟨false, List.mem_cons_self⟩, by simp⟩, by simp, fun x hx => by simp at hx, fun M hM => ⟨.slice k 0 0 0 a ⟨B, 0, 0, sz, undef⟩ (by simpa using hM 0 _ rfl) rfl (Nat.le_refl _) (.inr rfl) rfl, fun x hx => ?_⟩⟩
   rw [List.mem_singleton.1 hx]
   exact ⟨rfl, rfl, cB, eB, fB, hBB, fun k v hv => by simp at hv⟩
  obtain ⟨b, off, spot⟩ := a
  have hspot : spot = none := by
   obtain ⟨cs0, g1, _⟩ := hcell 0 zy
   rw [ce] at g1
   obtain ⟨_, g2, g3⟩ := World.cells?_some g1
   have g4 := g3 0 hz
   rw [List.getElem?_eq_getElem zy] at g4
   simpa [Addr.add] using World.cell?_spot g4
  subst hspot
  have hq : ∀ q, q <= len -> ∃ (X : List α) (I : List InB), X.length = q /\ (∀ y ∈ X, G (gA (k + 1) I) y) /\ ∀ M : Inj, (∀ j y, I[j]? = some y -> M (k + 1 + j) = some y.bi) ->
    (∀ (i j : Nat) (x : α) (v : AV), X[i]? = some x -> (f x)[j]? = some v -> v.isCell = true /\ ∃ u, w.cell? ⟨b, off + (i * sz + j), none⟩ = some u /\ VRel M v u) /\ ∀ y ∈ I, CellsOK w M y := by
   intro q
   induction q with
   | zero => exact fun _ => ⟨[], [], rfl, fun y hy => by simp at hy, fun M hM => ⟨fun i j x v hx => by simp at hx, fun y hy => by simp at hy⟩⟩
   | succ q ih =>
    intro hq
    obtain ⟨X, I, g1, g2, g3⟩ := ih zy
    obtain ⟨cs, k1, k2⟩ := hcell q zy
    rw [ce] at k1
    obtain ⟨k3, k4⟩ := nf (H := H) (P := P) k1
    have hp := bk_part (List.mem_map.2 ⟨q, by simpa using (show q < len by omega), rfl⟩ : Dd q ∈ (List.range len).map Dd)
    obtain ⟨x, J, k5, k6⟩ := hel _ _ _ _ k2 zy B ⟨cB, eB, fB, hBB⟩ (k + 1 + I.length)
    have hA : ∀ b o, MemH (gA (k + 1) I) b o -> MemH (gA (k + 1) (I ++ J)) b o := fun b o ⟨w, g⟩ => ⟨w, by rw [jM]; exact List.mem_append_left _ g⟩
    have hA2 : ∀ b o, MemH (gA (k + 1 + I.length) J) b o -> MemH (gA (k + 1) (I ++ J)) b o := fun b o ⟨w, g⟩ => ⟨w, by rw [jM]; exact List.mem_append_right _ g⟩
    refine ⟨X ++ [x], I ++ J, by simp [g1], fun y hy => ?_, fun M hM => ?_⟩
    ·rcases List.mem_append.1 hy with hy | hy
     ·exact hG _ _ _ hA (g2 y hy)
     ·rw [List.mem_singleton.1 hy]
      exact hG _ _ _ hA2 k5
    ·obtain ⟨m1, m2⟩ := g3 M fun j y hj => hM j y (by rw [List.getElem?_append_left (List.getElem?_eq_some_iff.1 hj).1]; exact hj)
     obtain ⟨m3, m4⟩ := k6 M fun j y hj => by
      have := hM (I.length + j) y (by rw [List.getElem?_append_right zy, show I.length + j - I.length = j by omega]; exact hj)
      rwa [show k + 1 + (I.length + j) = k + 1 + I.length + j by omega] at this
     refine ⟨fun i j x' v hx' hv => ?_, fun y hy => ?_⟩
     ·rcases Nat.lt_or_ge i X.length with hi | hi
      ·exact m1 i j x' v (by rw [List.getElem?_append_left hi] at hx'; exact hx') hv
      ·rw [List.getElem?_append_right hi] at hx'
       have hi0 : i - X.length = 0 := by
        have := (List.getElem?_eq_some_iff.1 hx').1
        simp at this
        omega
       rw [hi0] at hx'
       simp at hx'
       subst hx'
       obtain ⟨n1, u, n2, n3⟩ := m3 j v hv
       have hj : j < sz := by
        have := (List.getElem?_eq_some_iff.1 n2).1
        omega
       refine ⟨n1, u, ?_, n3⟩
       rw [show i = q by omega, k4 j hj, n2]
     ·rcases List.mem_append.1 hy with hy | hy
      ·exact m2 y hy
      ·exact m4 y hy
  obtain ⟨X, I, g1, g2, g3⟩ := hq len (Nat.le_refl _)
  have hl : ∀ c ∈ X.map f, c.length = sz := fun c hc => by
   obtain ⟨x, hx, rfl⟩ := List.mem_map.1 hc
   exact hf _ _ (g2 x hx)
  have hfl : ((X.map f).flatMap id).length = X.length * sz := by
   have : ∀ cs : List (List AV), (∀ c ∈ cs, c.length = sz) -> (cs.flatMap id).length = cs.length * sz := fun cs => by
    induction cs with
    | nil => simp
    | cons c cs ih =>
     intro h
     rw [List.flatMap_cons, List.length_append, ih fun x hx => h x (List.mem_cons_of_mem _ hx), List.length_cons, id, h c List.mem_cons_self, Nat.add_mul]; omega
   rw [this _ hl, List.length_map]
  have hA : ∀ b o, MemH (gA (k + 1) I) b o -> MemH (gA k (⟨⟨b, off, m, sz, undef⟩, true, (X.map f).flatMap id⟩ :: I)) b o := fun b o ⟨w, g⟩ => ⟨w, List.mem_cons_of_mem _ g⟩
  refine ⟨X, .slice k 0 len sz, ⟨⟨b, off, m, sz, undef⟩, true, (X.map f).flatMap id⟩ :: I, .inr ⟨k, 0, false, by rw [g1], ⟨false, List.mem_cons_self⟩, hfl⟩, by omega, fun y hy => hG _ _ _ (fun b o ⟨w, g⟩ => ⟨w, List.mem_cons_of_mem _ g⟩) (g2 y hy), fun M hM => ⟨.slice k 0 len m _ ⟨b, off, m, sz, undef⟩ (by simpa using hM 0 _ rfl) (Nat.zero_add _) hle (.inl (by simp)) rfl, fun y hy => ?_⟩⟩
  obtain ⟨m1, m2⟩ := g3 M fun j y hj => by
   have := hM (j + 1) y (by simpa using hj)
   rwa [show k + (j + 1) = k + 1 + j by omega] at this
  rcases List.mem_cons.1 hy with rfl | hy
  ·obtain ⟨cs0, k1, _⟩ := hcell 0 zy
   rw [ce] at k1
   obtain ⟨k2, k3⟩ := nf (H := H) (P := P) k1
   have k4 := k3 0 hz
   rw [List.getElem?_eq_getElem zy] at k4
   obtain ⟨c, e, fr, g5, _⟩ := nc k4
   refine ⟨rfl, rfl, c, e, fr, g5, fun j v hv => ?_⟩
   have hv : ((X.map f).flatMap id)[j]? = some v := hv
   have hj : j < len * sz := by
    have := (List.getElem?_eq_some_iff.1 hv).1
    rw [hfl, g1] at this
    exact this
   have hi : j / sz < len := Nat.div_lt_of_lt_mul (by rw [Nat.mul_comm]; exact hj)
   have hr : j % sz < sz := Nat.mod_lt _ hz
   have ej : j / sz * sz + j % sz = j := by rw [Nat.mul_comm]; exact Nat.div_add_mod j sz
   have hxi : X[j / sz]? = some (X[j / sz]'zy) := List.getElem?_eq_getElem zy
   have h3 := pa hl (i := j / sz) (j := j % sz) (c := f (X[j / sz]'zy)) (by rw [List.getElem?_map, hxi]; rfl) hr
   rw [ej, hv] at h3
   obtain ⟨n1, u, n2, n3⟩ := m1 _ _ _ _ hxi h3.symm
   rw [ej] at n2
   obtain ⟨c', e', fr', h8, h9⟩ := nc n2
   rw [g5] at h8
   cases h8
   exact ⟨n1, u, h9, n3⟩
  ·exact m2 y hy
theorem Fh {e : TypeId} {f0 f1 : Field} (he : P.underlying e = some (.struct #[f0, f1])) (ce : P.cellsOf e = 2) (o0 : f0.offset = 0) (o1 : f1.offset = 1) (c0 : P.cellsOf f0.type = 1) (c1 : P.cellsOf f1.type = 1) (s0 : P.underlying f0.type = some .string) (s1 : P.underlying f1.type = some .string)
  (n : Nat) (cs : List Value) (d : DataW H) (p : List MemPlace) (h : DataW.trod enc P w 0 (fun _ => true) held n e cs = some (d, p)) (hb : Rows.uptoBulk d <= 1048576) :
  ∃ x : bA, (Bytes x.1 /\ Bytes x.2 /\ x.1.length <= 1048576 /\ x.2.length <= 1048576) /\ ∀ (M : Inj) (j : Nat) (v : AV), [AV.str x.1, AV.str x.2][j]? = some v -> v.isCell = true /\ ∃ u, cs[j]? = some u /\ VRel M v u := by
 obtain ⟨y0, y1, n', hx, hl, g0, g1⟩ := trod_struct2 he h
 simp only [Prod.mk.injEq] at hx
 obtain ⟨hd, _⟩ := hx
 rw [ce] at hl
 match cs, hl with
 | [v0, v1], _ =>
  rw [o0, c0] at g0
  rw [o1, c1] at g1
  obtain ⟨a, e0, q0, _⟩ := DataW.trod_string s0 g0
  obtain ⟨b, e1, q1, _⟩ := DataW.trod_string s1 g1
  simp at e0 e1
  subst e0 e1
  have hbk : Rows.uptoBulk y0.1 + Rows.uptoBulk y1.1 + 1 = Rows.uptoBulk d := by rw [hd]; exact wC _ _
  rw [q0, q1, AQ, AQ] at hbk
  refine ⟨(rb (.string a), rb (.string b)), ⟨rc a, rc b, by rw [yz]; omega, by rw [yz]; omega⟩, fun M j v hv => ?_⟩
  match j with
  | 0 => simp at hv; subst hv; exact ⟨rfl, _, rfl, yA⟩
  | 1 => simp at hv; subst hv; exact ⟨rfl, _, rfl, yA⟩
  | j + 2 => simp at hv
theorem Fg {e : TypeId} {f0 f1 : Field} (he : P.underlying e = some (.struct #[f0, f1])) (ce : P.cellsOf e = 2) (o0 : f0.offset = 0) (o1 : f1.offset = 1) (c0 : P.cellsOf f0.type = 1) (c1 : P.cellsOf f1.type = 1) (s0 : P.underlying f0.type = some (.int .i64)) (s1 : P.underlying f1.type = some (.int .i64))
  (n : Nat) (cs : List Value) (d : DataW H) (p : List MemPlace) (h : DataW.trod enc P w 0 (fun _ => true) held n e cs = some (d, p)) :
  ∃ x : bP, ∀ (M : Inj) (j : Nat) (v : AV), [AV.int .i64 x.1, AV.int .i64 x.2][j]? = some v -> v.isCell = true /\ ∃ u, cs[j]? = some u /\ VRel M v u := by
 obtain ⟨y0, y1, n', hx, hl, g0, g1⟩ := trod_struct2 he h
 rw [ce] at hl
 match cs, hl with
 | [v0, v1], _ =>
  rw [o0, c0] at g0
  rw [o1, c1] at g1
  obtain ⟨a, e0, _⟩ := DataW.trod_int s0 g0
  obtain ⟨b, e1, _⟩ := DataW.trod_int s1 g1
  simp at e0 e1
  subst e0 e1
  refine ⟨(a, b), fun M j v hv => ?_⟩
  match j with
  | 0 => simp at hv; subst hv; exact ⟨rfl, _, rfl, .int _ _⟩
  | 1 => simp at hv; subst hv; exact ⟨rfl, _, rfl, .int _ _⟩
  | j + 2 => simp at hv
end
theorem jL {α β : Type} (f : α -> List β) (l : List α) : (l.map f).flatMap id = l.flatMap f := by
 induction l with
 | nil => rfl
 | cons x l ih => rw [List.map_cons, List.flatMap_cons, ih, List.flatMap_cons]; rfl
section
variable {H : Type} {enc : TypeId × Value -> H} {W : World}
noncomputable abbrev tr (enc : TypeId × Value -> H) (W : World) (n : Nat) (t : TypeId) (cs : List Value) := DataW.trod enc Tryz.prog W 0 (fun _ => true) true n t cs
theorem EC {n : Nat} {u : Value} {D : DataW H} {Pl : List MemPlace} (h : tr enc W n 63 [u] = some (D, Pl)) (hb : Rows.uptoBulk D <= 1048576) (B : Nat) (hB : ∃ c e fr, W.heap[B]? = some (.cells c e fr)) (k : Nat) :
  ∃ (X : List bA) (va : AV) (I : List InB), LIn (gA k I) X va /\ LBd X /\ ∀ M : Inj, (∀ j y, I[j]? = some y -> M (k + j) = some y.bi) -> VRel M va u /\ ∀ y ∈ I, CellsOK W M y := by
 obtain ⟨X, va, I, h1, h2, h3, h4⟩ := sF (α := bA) (f := fun x => [.str x.1, .str x.2]) (sz := 2) (G := fun _ x => Bytes x.1 /\ Bytes x.2 /\ x.1.length <= 1048576 /\ x.2.length <= 1048576) (fun _ _ _ _ g => g) (fun _ _ _ => rfl) Tryz.underlying63 (by kernel_rfl) zy
  (fun n cs d p g gb B hB k => by
   obtain ⟨x, hx, hM⟩ := Fh Tryz.underlying70 (by kernel_rfl) rfl rfl (by kernel_rfl) (by kernel_rfl) Tryz.underlying9 Tryz.underlying9 n cs d p g zy
   exact ⟨x, [], hx, fun M _ => ⟨hM M, fun y hy => by simp at hy⟩⟩) h hb B (fun _ => hB) k
 refine ⟨X, va, I, ?_, ⟨h2, h3⟩, h4⟩
 rw [jL] at h1
 rcases h1 with ⟨g1, g2, _⟩ | ⟨b, z, ex, g1, g2, _⟩
 ·exact .inl ⟨g1, List.eq_nil_of_length_eq_zero g2⟩
 ·exact .inr ⟨b, z, ex, g1, g2⟩
theorem E4 {n : Nat} {u : Value} {D : DataW H} {Pl : List MemPlace} (h : tr enc W n 66 [u] = some (D, Pl)) (hb : Rows.uptoBulk D <= 1048576) (B : Nat) (hB : ∃ c e fr, W.heap[B]? = some (.cells c e fr)) (k : Nat) :
  ∃ (X : List bP) (va : AV) (I : List InB), SIn (gA k I) X va /\ SBd X /\ ∀ M : Inj, (∀ j y, I[j]? = some y -> M (k + j) = some y.bi) -> VRel M va u /\ ∀ y ∈ I, CellsOK W M y := by
 obtain ⟨X, va, I, h1, h2, h3, h4⟩ := sF (α := bP) (f := fun x => [.int .i64 x.1, .int .i64 x.2]) (sz := 2) (G := fun _ _ => True) (fun _ _ _ _ g => g) (fun _ _ _ => rfl) Tryz.underlying66 (by kernel_rfl) zy
  (fun n cs d p g gb B hB k => by
   obtain ⟨x, hM⟩ := Fg Tryz.underlying72 (by kernel_rfl) rfl rfl (by kernel_rfl) (by kernel_rfl) Tryz.underlying3 Tryz.underlying3 n cs d p g
   exact ⟨x, [], trivial, fun M _ => ⟨hM M, fun y hy => by simp at hy⟩⟩) h hb B (fun _ => hB) k
 refine ⟨X, va, I, ?_, h2, h4⟩
 rw [jL] at h1
 rcases h1 with ⟨g1, g2, _⟩ | ⟨b, z, ex, g1, g2, _⟩
 ·exact .inl ⟨g1, List.eq_nil_of_length_eq_zero g2⟩
 ·exact .inr ⟨b, z, ex, g1, g2⟩
def HY (hs : af) (x : bV) : Prop := LIn hs x.2.1 x.1 /\ SIn hs x.2.2.2 x.2.2.1 /\ LBd x.2.1 /\ SBd x.2.2.2
theorem Hn {n : Nat} {cs : List Value} {d : DataW H} {p : List MemPlace} (h : tr enc W n 68 cs = some (d, p)) (hb : Rows.uptoBulk d <= 1048576) (B : Nat) (hB : ∃ c e fr, W.heap[B]? = some (.cells c e fr)) (k : Nat) :
  ∃ (x : bV) (I : List InB), HY (gA k I) x /\ ∀ M : Inj, (∀ j y, I[j]? = some y -> M (k + j) = some y.bi) -> (∀ (j : Nat) (v : AV), [x.1, x.2.2.1][j]? = some v -> v.isCell = true /\ ∃ u, cs[j]? = some u /\ VRel M v u) /\ ∀ y ∈ I, CellsOK W M y := by
 obtain ⟨y0, y1, n', hx, hl, g0, g1⟩ := trod_struct2 Tryz.underlying68 h
 simp only [Prod.mk.injEq] at hx
 obtain ⟨hd, _⟩ := hx
 have hbk : Rows.uptoBulk y0.1 + Rows.uptoBulk y1.1 + 1 = Rows.uptoBulk d := by rw [hd]; exact wC _ _
 rw [show Tryz.prog.cellsOf 68 = 2 by kernel_rfl] at hl
 match cs, hl with
 | [v0, v1], _ =>
  have k0 : Tryz.prog.cellsOf 63 = 1 := by kernel_rfl
  have k1 : Tryz.prog.cellsOf 66 = 1 := by kernel_rfl
  have g0' : tr enc W n' 63 (([v0, v1].drop 0).take (Tryz.prog.cellsOf 63)) = some y0 := g0
  have g1' : tr enc W n' 66 (([v0, v1].drop 1).take (Tryz.prog.cellsOf 66)) = some y1 := g1
  rw [k0] at g0'
  rw [k1] at g1'
  obtain ⟨L, va, I, a1, a2, a3⟩ := EC (D := y0.1) (Pl := y0.2) (u := v0) g0' zy B hB k
  obtain ⟨S, vb, J, b1, b2, b3⟩ := E4 (D := y1.1) (Pl := y1.2) (u := v1) g1' zy B hB (k + I.length)
  refine ⟨(va, L, vb, S), I ++ J, ⟨a1.mono fun b o ⟨w, g⟩ => ⟨w, by rw [jM]; exact List.mem_append_left _ g⟩, b1.mono fun b o ⟨w, g⟩ => ⟨w, by rw [jM]; exact List.mem_append_right _ g⟩, a2, b2⟩, fun M hM => ?_⟩
  obtain ⟨m1, m2⟩ := a3 M fun j y hj => hM j y (by rw [List.getElem?_append_left (List.getElem?_eq_some_iff.1 hj).1]; exact hj)
  obtain ⟨m3, m4⟩ := b3 M fun j y hj => by
   have := hM (I.length + j) y (by rw [List.getElem?_append_right zy, show I.length + j - I.length = j by omega]; exact hj)
   rwa [show k + (I.length + j) = k + I.length + j by omega] at this
  refine ⟨fun j v hv => ?_, fun y hy => (List.mem_append.1 hy).elim (m2 y) (m4 y)⟩
  match j with
  | 0 => simp at hv; subst hv; exact ⟨a1.cell, _, rfl, m1⟩
  | 1 => simp at hv; subst hv; exact ⟨b1.cell, _, rfl, m3⟩
  | j + 2 => simp at hv
theorem sers_arg {base : Nat} {v : Value} {d : DataW H} {p : List MemPlace} (hval : Value.okWide Tryz.prog W .any base 22 v) (h : DataW.Trod enc Tryz.prog W 0 (fun _ => true) true 22 v d p) (hb : Rows.uptoBulk d <= 1048576) (k : Nat) :
  ∃ (R : List bV) (va : AV) (I : List InB), RSl (gA k I) R 0 va /\ RAll (gA k I) R /\ kp R /\ ∀ M : Inj, (∀ j x, I[j]? = some x -> M (k + j) = some x.bi) -> VRel M va v /\ ∀ x ∈ I, CellsOK W M x := by
 obtain ⟨fuel, hf⟩ := h
 obtain ⟨a, len, cap, rfl⟩ := okWide_slice Tryz.underlying22 hval
 have hc : (Value.slice a len cap).cells.toList = [.slice a len cap] := rfl
 rw [hc] at hf
 have hth := up Tryz.underlying22 hval
 obtain ⟨X, va, I, h1, h2, h3, h4⟩ := sF (α := bV) (f := fun x => [x.1, x.2.2.1]) (sz := 2) (G := HY) (fun hs hs' x hm g => ⟨g.1.mono hm, g.2.1.mono hm, g.2.2⟩) (fun _ _ _ => rfl) Tryz.underlying22 (by kernel_rfl) zy
  (fun n cs d p g gb B hB k => Hn g zy B hB k) hf hb ((a.map (·.block)).getD 0) (fun ⟨a', l', c', e⟩ => by
   cases e
   exact (hth _ _ _ rfl).2) k
 refine ⟨X, va, I, ?_, fun x hx => ⟨(h3 x hx).1, (h3 x hx).2.1⟩, ⟨h2, fun x hx => (h3 x hx).2.2⟩, h4⟩
 rw [jL] at h1
 rcases h1 with ⟨g1, g2, _⟩ | ⟨b, z, ex, g1, g2, _⟩
 ·exact .inl ⟨g1, List.eq_nil_of_length_eq_zero g2⟩
 ·exact .inr ⟨b, z, ex, g1, g2⟩
end
end Go.Proofs.YtfkbfnpjggkdmaaGreatDoor.Ev
/- ExecCounts: the call, at every input that the row takes. -/
namespace Go.Proofs.YtfkbfnpjggkdmaaGreatDoor.execCounts
open Go.ChangeShapes Go.WideShapes Go.ChangeAt Go.RowKit Go.ChangeMaps Go.Proofs.YtfkbfnpjggkdmaaGreatDoor
set_option maxRecDepth 100000
theorem own : ownKnob Tryz.prog.godebug = none := by kernel_rfl
theorem ED : laidOutB Tryz.prog = true := by kernel_rfl
theorem et : Tryz.prog.globalNamed "errors.errorType" = some 0 := by kernel_rfl
theorem rt : (Tryz.prog.cutTypes.find? (·.1 == "internal/reflectlite.rtype")).map (·.2) = some 195 := by kernel_rfl
theorem G4 : ((List.range 389).filter fun t => Tryz.prog.rowNamed t [101, 114, 114, 111, 114]) = [122] := by kernel_rfl
theorem size : Tryz.prog.types.size = 389 := by kernel_rfl
def qJ : List (String × DataW Unit) := [("errors.errorType", Rows.laid_errors_errorType)]
theorem pd {W : World} (h : laidMetH Tryz.prog qJ W) : Ev.HandleAt W := by
 have h' : laidMet Tryz.prog [] W /\ handlesMet Tryz.prog qJ W := h
 obtain ⟨name, u, ty, e1, e2, e3, e4, e5⟩ := h'.2 _ (List.mem_singleton.2 rfl)
 have en : name = [101, 114, 114, 111, 114] := (Option.some.inj e1).symm
 subst en
 obtain rfl := Option.some.inj (rt.symm.trans e2)
 have hm : ty ∈ (List.range 389).filter fun t => Tryz.prog.rowNamed t [101, 114, 114, 111, 114] := List.mem_filter.2 ⟨List.mem_range.2 (by rw [<- size]; exact e3), e4⟩
 rw [G4] at hm
 obtain rfl := List.mem_singleton.1 hm
 have hh : typeHandle Tryz.prog 122 = .pointer (some ⟨4, 122, none⟩) := by kernel_rfl
 rw [hh] at e5
 unfold Ev.HandleAt
 simpa using World.var?_cell et e5 0
noncomputable def qK (os : Os) : World :=
 let w0 := World.holding Tryz.prog os ⟨#[], #[], []⟩
 { w0 with heap := w0.heap.modify 0 fun
   | .cells _ t frozen => .cells #[.iface 195 (.agg #[.pointer (some ⟨4, 122, none⟩)])] t frozen
   | o => o }
theorem qb (os : Os) (args : Array Value) : laidMetH Tryz.prog qJ ((qK os).forCall (fun _ _ => 0) ⟨#[], args, []⟩).memory :=
 laidMetH_of_parts (laidMet_nil _ _) (by kernel_rfl)
theorem kE {H : Type} {enc : TypeId × Value -> H} {P : Program} (hl : laidOutB P = true) {W W' : World} (hb : Below W.heap.size W W') :
  ∀ {ts : List TypeId} {vs : List Value} {ds : List (DataW H)} {ps : List MemPlace}, (ts.all fun t => P.readableRec t && decide (t < P.types.size)) = true -> DataW.TrodAll enc P W 0 (fun _ => true) true ts vs ds ps -> (∀ x ∈ ps, x.block < W.heap.size) ->
  DataW.TrodAll enc P W' 0 (fun b => decide (b < W.heap.size)) true ts vs ds ps
 | [], vs, ds, ps, _, h, _ => by
  obtain ⟨rfl, rfl, rfl⟩ := trodAll_nil h
  exact trodAll_mk0
 | t :: ts, vs, ds, ps, hr, h, hlt => by
  obtain ⟨v0, vs0, d0, ds0, p0, q0, rfl, rfl, rfl, h0, r0⟩ := trodAll_cons h
  simp only [List.all_cons, Bool.and_eq_true, decide_eq_true_eq] at hr
  exact trodAll_cons_mk (Below.trod hl hr.1.1 hr.1.2 h0 hb fun x hx => hlt x (List.mem_append_left _ hx)) (kE hl hb (by simpa using hr.2) r0 fun x hx => hlt x (List.mem_append_right _ hx))
theorem kZ {H : Type} {enc : TypeId × Value -> H} {a : Assume} {C : Checked} {os : Os} {f : FuncId} {fn : Func} {s : OpenSpec} {k : (H : Type) -> List (DataW H) -> Bool} (hk : s.cond = some k) {F : Stop.Interp} {conds : List PathCond} {apart fresh handsOn again : Bool} {X : World -> Array Value -> Prop}
  (own : ownKnob C.prog.godebug = none) (started : os.Started) (noInit : C.prog.inits.idxOf? f = none) (hfn : C.prog.funcs[f]? = some fn)
  (witness : ∃ (w : World) (tape : Tape) (i : Input), w.os = os /\ (w.forCall tape i).Shaped C.prog /\ i.vars = [] /\ Input.okWide C.prog (w.forCall tape i) .any w.heap.size f i /\
   ((s.pre enc C.prog fn conds apart (w.forCall tape i).memory i.args /\ X (w.forCall tape i).memory i.args) /\ sizedMet enc C.prog fn s apart (w.forCall tape i).memory i.args) /\ a.holds C.prog (lone (Frame.enter C.prog f i.args .normal) [] (w.forCall tape i)))
  (hX : ∀ (w w' : World) (args : Array Value), w'.heap = w.heap -> X w args -> X w' args) (oO : ∀ (W : World) (base : Nat) (args : Array Value) (ds gs : List (DataW H)) (before : List MemPlace),
   (∀ (j : Nat) t v, fn.params[j]? = some t -> args[j]? = some v -> Value.okWide C.prog W .any base t v) ->
   DataW.Whole enc C.prog fn.params.toList s.vars apart W args.toList ds gs before -> k H (ds ++ gs) = true -> X W args ->
   Calls C.prog f args W fun e W' => ∃ v, e = .returned v /\ (s.at F).post enc C.prog fn apart fresh handsOn again W args v W') :
  ReturnsInHanded a C os f .any (fun w args => (s.pre enc C.prog fn conds apart w args /\ X w args) /\ sizedMet enc C.prog fn s apart w args) ((s.at F).post enc C.prog fn apart fresh handsOn again) := by
 refine returnsInHanded_of_calls own started noInit witness ?_
 intro w tape i _ _ _ hok hpre hholds
 obtain ⟨_, _, _, fn', hfn', _, _, _, _, hval⟩ := hok
 have e : fn' = fn := Option.some.inj (hfn'.symm.trans hfn)
 subst e
 obtain ⟨ds, gs, before, hw, hc, hkk⟩ := (OpenSpec.pre_some hk conds apart _ _).1 hpre.1.1
 have hw' := DataW.Whole.of_heap (w' := w.forCall tape i) (by rfl) hw
 refine (oO (w.forCall tape i) w.heap.size i.args ds gs before hval hw' hkk (hX _ _ _ (by rfl) hpre.1.2)).mono fun e W' ⟨v, he, hp⟩ => ?_
 subst he
 exact ChangeSpec.post_blind hp
theorem l0 {H : Type} {enc : TypeId × Value -> H} {C : Checked} {os : Os} {f : FuncId} {fn : Func} {s : OpenSpec} {k : (H : Type) -> List (DataW H) -> Bool} (hk : s.cond = some k) {conds : List PathCond} {apart : Bool} {X : World -> Array Value -> Prop} (modest : Bool) (w0 : World) (args : Array Value) (fuel : Nat) (hos : w0.os = os)
  (hsh : (w0.forCall (fun _ _ => 0) ⟨#[], args, []⟩).Shaped C.prog)
  (hok : Input.okWideB C.prog (w0.forCall (fun _ _ => 0) ⟨#[], args, []⟩) f ⟨#[], args, []⟩ = true)
  {x : List (DataW H) × List (DataW H) × List MemPlace} (hx : DataW.whole enc C.prog (w0.forCall (fun _ _ => 0) ⟨#[], args, []⟩).memory fn.params.toList s.vars apart args.toList fuel = some x)
  (hconds : conds.all (PathCond.test C.prog ⟨fn.params.toList, x.1, s.bare.plain.varTypes C.prog, x.2.1⟩) = true) (hkk : k H (x.1 ++ x.2.1) = true)
  (hsz : s.bare.sizedB enc C.prog fn apart (w0.forCall (fun _ _ => 0) ⟨#[], args, []⟩).memory args fuel = true)
  (hX : X (w0.forCall (fun _ _ => 0) ⟨#[], args, []⟩).memory args) :
  ∃ (w : World) (tape : Tape) (i : Input), w.os = os /\ (w.forCall tape i).Shaped C.prog /\ i.vars = [] /\ Input.okWide C.prog (w.forCall tape i) .any w.heap.size f i /\
   ((s.pre enc C.prog fn conds apart (w.forCall tape i).memory i.args /\ X (w.forCall tape i).memory i.args) /\ sizedMet enc C.prog fn s apart (w.forCall tape i).memory i.args) /\ ({ modest := modest } : Assume).holds C.prog (lone (Frame.enter C.prog f i.args .normal) [] (w.forCall tape i)) :=
 ⟨w0, fun _ _ => 0, ⟨#[], args, []⟩, hos, hsh, (Input.okWide_of_okWideB (base := 0) hok).1, (Input.okWide_of_okWideB hok).2,
  ⟨⟨(OpenSpec.pre_some hk conds apart _ _).2 ⟨x.1, x.2.1, x.2.2, DataW.Whole_of_whole hx, hconds, hkk⟩, hX⟩, sizedMet_of_sizedB hsz⟩, by
  simp only [Assume.holds]
  exact ⟨by simp, by simp, fun _ => Modest.zero, by simp, by simp⟩⟩
theorem AN {H : Type} {l : List (DataW H)} (hk : Rows.uptoSmall H l = true) {d : DataW H} (hd : d ∈ l) : Rows.uptoBulk d <= 1048576 := by
 have := of_decide_eq_true hk
 exact Nat.le_trans (Ev.bk_part hd) this
theorem IF {W : World} {I : List Ev.InB} (h : ∀ x ∈ I, Ev.CellsOK W (Ev.injIn I) x) : Ev.InOK W I := fun x hx _ => let ⟨_, h2, h3⟩ := h x hx; ⟨h2, h3⟩
theorem oO (H : Type) (enc : TypeId × Value -> H) (W : World) (base : Nat) (args : Array Value) (ds gs : List (DataW H)) (before : List MemPlace)
  (hval0 : ∀ (j : Nat) t v, Tryz.f6.params[j]? = some t -> args[j]? = some v -> Value.okWide Tryz.prog W .any base t v)
  (hW : DataW.Whole enc Tryz.prog Tryz.f6.params.toList Rows.execCountsSpec.vars false W args.toList ds gs before) (hk : Rows.uptoSmall H (ds ++ gs) = true) (hG : Ev.HandleAt W) :
  Calls Tryz.prog 6 args W fun e W' => ∃ v, e = .returned v /\ Rows.execCountsSpec.post enc Tryz.prog Tryz.f6 false true false false W args v W' := by
 have hval := hval0
 have hW' := hW
 obtain ⟨p, q, hA0, hV, rfl, hfz, hnd⟩ := hW
 have hA : DataW.TrodAll enc Tryz.prog W 0 (fun _ => true) true Tryz.f6.params.toList args.toList ds p := hA0
 rw [Tryz.params6] at hA hval
 have hA1 := hA
 obtain ⟨v0, vs0, d0, ds0, p0, q0, hargs, rfl, rfl, h0, r0⟩ := trodAll_cons hA
 obtain ⟨v1, vs1, d1, ds1, p1, q1, rfl, rfl, rfl, h1, r1⟩ := trodAll_cons r0
 obtain ⟨v2, vs2, d2, ds2, p2, q2, rfl, rfl, rfl, h2, r2⟩ := trodAll_cons r1
 obtain ⟨rfl, rfl, rfl⟩ := trodAll_nil r2
 obtain rfl : args = #[v0, v1, v2] := by cases args; simp_all
 obtain ⟨rfl, rfl⟩ := trodVars_none hV
 obtain ⟨R1, va1, I1, hE1, hA1', hB1, hM1⟩ := Ev.sers_arg (hval 0 22 v0 rfl rfl) h0 (AN hk (by simp)) 0
 obtain ⟨a2, rfl, rfl, rfl, w2⟩ := open_int Tryz.underlying3 (hval 1 3 v1 rfl rfl) h1
 obtain ⟨a3, rfl, rfl, rfl, w3⟩ := open_int Tryz.underlying3 (hval 2 3 v2 rfl rfl) h2
 clear hA0 hval0
 obtain ⟨hr1, hc1⟩ := hM1 (Ev.injIn I1) (fun i x h => by rw [Nat.zero_add]; unfold Ev.injIn; rw [h]; rfl)
 have hS := Ev.hsIn_seen (I := I1) fun x hx => (hc1 x hx).1
 have hro := Ev.hsIn_ro I1 0
 have hOK := IF hc1
 refine (Ev.in_callX (Ev.counts_spec _ hro R1 va1 hE1 hA1' hB1 a2 a3) (u := .bool true) rfl hS (.cons hr1 (.cons (.int _ _) (.cons (.int _ _) (.nil _)))) W hOK hG).mono fun e W' ⟨he, hg⟩ => ?_
 subst he
 refine ⟨_, rfl, _, _, _, [], (p0 ++ ([] ++ ([] ++ []))), [], hW', ?_, ?_, ?_, hg.frame _, fun h => by cases h⟩
 ·exact (trodAll_cons_mk (shut_bool Tryz.underlying4 _) trodAll_mk0)
 ·exact kE ED hg (by kernel_rfl) hA1 (fun x hx => by have := hW'.lt x (by simpa using hx); simpa using this)
 ·rfl
theorem GI (os : Os) (started : os.Started) (H : Type) (enc : TypeId × Value -> H) (F : Stop.Interp) :
  ReturnsInHanded {} Tryz.checked os 6 .any (fun w args => ((Rows.OpenSpec.upto Rows.execCountsSpec).pre enc Tryz.prog Tryz.f6 Rows.execCountsUptoRow.domain false w args /\ laidMetH Tryz.prog qJ w) /\ sizedMet enc Tryz.prog Tryz.f6 (Rows.OpenSpec.upto Rows.execCountsSpec) false w args) (((Rows.OpenSpec.upto Rows.execCountsSpec).at F).post enc Tryz.prog Tryz.f6 false true false false) := by
 refine kZ (hX := fun _ _ _ hh h => h.of_heap hh.symm) (C := Tryz.checked) (s := Rows.OpenSpec.upto Rows.execCountsSpec) (k := Rows.uptoSmall) (X := fun w _ => laidMetH Tryz.prog qJ w) rfl own started (by kernel_rfl) Tryz.func6
  (l0 (enc := enc) (C := Tryz.checked) (os := os) (s := Rows.OpenSpec.upto Rows.execCountsSpec) (k := Rows.uptoSmall) (X := fun w _ => laidMetH Tryz.prog qJ w) rfl false (qK os) #[.slice none 0 0, .int .i64 0, .int .i64 0] 8 rfl
   (World.shaped_of_B (by kernel_rfl) (by kernel_rfl)) (by kernel_rfl) (x := ([.nil, .lit (.int .i64 0), .lit (.int .i64 0)], [], [])) (by kernel_rfl) rfl (by kernel_rfl) (by kernel_rfl) (qb os _)) ?_
 intro W base args ds gs before hval hW hk hL
 exact oO H enc W base args ds gs before hval hW hk (pd hL)
open Go.ChangeShapes Go.WideShapes Go.RowKit
noncomputable abbrev cN : OpenClaim := Rows.execCountsUptoRow
noncomputable abbrev pN : Program := Tryz.pinned.checked.prog
noncomputable abbrev fN : Func := Tryz.f6
noncomputable abbrev nN : Nat := 6
theorem k2 : laidOutB pN = true := by kernel_rfl
theorem k3 : mapsRowed pN = true := by kernel_rfl
theorem Do : (cN.inPlace == pN.inPlace nN) = true := by kernel_rfl
theorem Ey : (cN.unfollowed == pN.unfollowed nN) = true := by kernel_rfl
theorem Kq : (cN.recurses == pN.recurses nN) = true := by kernel_rfl
theorem Ks : (cN.named == pN.varsNamed nN) = true := by kernel_rfl
theorem fu {a b : Bool} (h : a = true) (g : b = true) : (a && b) = true := by rw [h, g]; rfl
theorem kJ : joinedFacts pN nN fN (Rows.OpenSpec.upto Rows.execCountsSpec).bare cN = true := by
 unfold joinedFacts
 refine fu (fu (fu (fu (fu (fu (fu (fu (fu (fu (fu (fu (fu (fu (fu (fu (fu (fu (fu (fu (fu (fu (fu (fu (fu (fu (fu (fu (fu (fu (fu ?_ k2) k3) ?_) ?_) ?_) ?_) ?_) ?_) Do) Ey) Kq) Ks) ?_) ?_) ?_) ?_) ?_) ?_) ?_) ?_) ?_) ?_) ?_) ?_) ?_) ?_) ?_) ?_) ?_) ?_) ?_ <;> kernel_rfl
end Go.Proofs.YtfkbfnpjggkdmaaGreatDoor.execCounts
