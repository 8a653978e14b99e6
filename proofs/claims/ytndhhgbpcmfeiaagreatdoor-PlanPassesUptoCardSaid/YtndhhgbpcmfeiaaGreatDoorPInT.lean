/- Trees, and instructions with their nodes' parts, that come in. -/
import Derived.Test.YtndhhgbpcmfeiaaGreatDoorPInC
import Derived.Test.YtndhhgbpcmfeiaaGreatDoorPHh
namespace Go.Proofs.YtndhhgbpcmfeiaaGreatDoor.Ev
open Go.RowKit Go.ChangeShapes Go.WideShapes
set_option maxRecDepth 100000
theorem mB : ∀ {cs : List (List AV)} {sz i j : Nat} {c : List AV}, (∀ c ∈ cs, c.length = sz) -> cs[i]? = some c -> j < sz -> (cs.flatMap id)[i * sz + j]? = c[j]?
 | [], sz, i, j, c, _, h, _ => by simp at h
 | y :: cs, sz, 0, j, c, hl, h, hj => by
  simp at h
  subst h
  rw [List.flatMap_cons, Nat.zero_mul, Nat.zero_add, id, List.getElem?_append_left (by rw [hl _ List.mem_cons_self]; exact hj)]
 | y :: cs, sz, i + 1, j, c, hl, h, hj => by
  have hy := hl y List.mem_cons_self
  rw [List.flatMap_cons, id, List.getElem?_append_right (by rw [hy, Nat.add_mul]; omega), hy, show (i + 1) * sz + j - sz = i * sz + j by rw [Nat.add_mul]; omega]
  exact mB (fun x hx => hl x (List.mem_cons_of_mem _ hx)) (by simpa using h) hj
theorem uh {I : List InB} {k j : Nat} {x : InB} (h : I[j]? = some x) : MemH (dW k I) (k + j) ⟨0, false, x.cells⟩ := ⟨false, tk I k j x h⟩
section
variable {H : Type} {enc : TypeId × Value -> H} {P : Program} {w : World} {held : Bool}
theorem tK {α : Type} {f : α -> List AV} {sz : Nat} {G : ad -> α -> Prop} (hG : ∀ hs hs' x, (∀ b o, MemH hs b o -> MemH hs' b o) -> G hs x -> G hs' x) (hf : ∀ hs x, G hs x -> (f x).length = sz)
  {t e : TypeId} {n : Nat} {u : Value} {D : DataW H} {Pl : List MemPlace} (ht : P.underlying t = some (.slice e)) (ce : P.cellsOf e = sz) (hz : 0 < sz)
  (hel : ∀ (n : Nat) (cs : List Value) (d : DataW H) (p : List MemPlace), DataW.trod enc P w 0 (fun _ => true) held n e cs = some (d, p) -> Rows.uptoBulk d < Rows.uptoBulk D -> ∀ (B : Nat), (∃ c e fr, w.heap[B]? = some (.cells c e fr)) -> ∀ k : Nat,
   ∃ (x : α) (I : List InB), G (dW k I) x /\ ∀ M : Inj, (∀ j y, I[j]? = some y -> M (k + j) = some y.bi) -> (∀ (j : Nat) (v : AV), (f x)[j]? = some v -> v.isCell = true /\ ∃ u, cs[j]? = some u /\ VRel M v u) /\ ∀ y ∈ I, fQ w M y)
  (h : DataW.trod enc P w 0 (fun _ => true) held n t [u] = some (D, Pl)) (hb : Rows.uptoBulk D <= 1048576) (B : Nat) (hB : (∃ a len cap, u = .slice (some a) len cap) -> ∃ c e fr, w.heap[B]? = some (.cells c e fr)) (k : Nat) :
  ∃ (X : List α) (va : AV) (I : List InB), RIn (dW k I) sz X.length ((X.map f).flatMap id) va /\ X.length <= 1048576 /\ (∀ y ∈ X, G (dW k I) y) /\ ∀ M : Inj, (∀ j y, I[j]? = some y -> M (k + j) = some y.bi) -> VRel M va u /\ ∀ y ∈ I, fQ w M y := by
 rcases Deep.open_slice ht h with ⟨h1, h2⟩ | ⟨a, len, cap, m, n', Dd, Pd, h1, hb0, hle, hcap, hm, hx, hcell⟩
 ·simp only [List.cons.injEq, and_true] at h1
  subst h1
  exact ⟨[], .nils, [], RIn.nil, by simp, fun x hx => by simp at hx, fun M hM => ⟨.nils, fun x hx => by simp at hx⟩⟩
 ·simp only [List.cons.injEq, and_true] at h1
  subst h1
  obtain ⟨cB, eB, fB, hBB⟩ := hB ⟨_, _, _, rfl⟩
  have hm : m = cap := hm
  subst hm
  simp only [Prod.mk.injEq] at hx
  obtain ⟨hD, _⟩ := hx
  have hbd : Rows.uptoBulkAll ((List.range len).map Dd) < Rows.uptoBulk D := by
   rw [hD]
   simp only [Rows.uptoBulk]
   omega
  have hlen : len <= 1048576 := by
   have := vi ((List.range len).map Dd)
   simp only [List.length_map, List.length_range] at this
   omega
  by_cases hc : m = 0
  ·subst hc
   obtain rfl : len = 0 := by omega
   refine ⟨[], .slice k 0 0 sz, [⟨⟨B, 0, 0, sz, undef⟩, true, []⟩], .inr ⟨k, 0, false, rfl, ⟨false, List.mem_cons_self⟩, by simp⟩, by simp, fun x hx => by simp at hx, fun M hM => ⟨.slice k 0 0 0 a ⟨B, 0, 0, sz, undef⟩ (by simpa using hM 0 _ rfl) rfl (Nat.le_refl _) (.inr rfl) rfl, fun x hx => ?_⟩⟩
   rw [List.mem_singleton.1 hx]
   exact ⟨rfl, rfl, cB, eB, fB, hBB, fun k v hv => by simp at hv⟩
  obtain ⟨b, off, spot⟩ := a
  have hspot : spot = none := by
   obtain ⟨cs0, g1, _⟩ := hcell 0 zy
   rw [ce] at g1
   obtain ⟨_, g2, g3⟩ := World.cells?_some g1
   have g4 := g3 0 hz
   rw [List.getElem?_eq_getElem zy] at g4
   simpa [Addr.add] using World.cell?_spot g4
  subst hspot
  have hq : ∀ q, q <= len -> ∃ (X : List α) (I : List InB), X.length = q /\ (∀ y ∈ X, G (dW (k + 1) I) y) /\ ∀ M : Inj, (∀ j y, I[j]? = some y -> M (k + 1 + j) = some y.bi) ->
    (∀ (i j : Nat) (x : α) (v : AV), X[i]? = some x -> (f x)[j]? = some v -> v.isCell = true /\ ∃ u, w.cell? ⟨b, off + (i * sz + j), none⟩ = some u /\ VRel M v u) /\ ∀ y ∈ I, fQ w M y := by
   intro q
   induction q with
   | zero => exact fun _ => ⟨[], [], rfl, fun y hy => by simp at hy, fun M hM => ⟨fun i j x v hx => by simp at hx, fun y hy => by simp at hy⟩⟩
   | succ q ih =>
    intro hq
    obtain ⟨X, I, g1, g2, g3⟩ := ih zy
    obtain ⟨cs, k1, k2⟩ := hcell q zy
    rw [ce] at k1
    obtain ⟨k3, k4⟩ := fV (H := H) (P := P) k1
    have hp := gS (List.mem_map.2 ⟨q, by simpa using (show q < len by omega), rfl⟩ : Dd q ∈ (List.range len).map Dd)
    obtain ⟨x, J, k5, k6⟩ := hel _ _ _ _ k2 zy B ⟨cB, eB, fB, hBB⟩ (k + 1 + I.length)
    have hA : ∀ b o, MemH (dW (k + 1) I) b o -> MemH (dW (k + 1) (I ++ J)) b o := fun b o ⟨w, g⟩ => ⟨w, by rw [j4]; exact List.mem_append_left _ g⟩
    have hA2 : ∀ b o, MemH (dW (k + 1 + I.length) J) b o -> MemH (dW (k + 1) (I ++ J)) b o := fun b o ⟨w, g⟩ => ⟨w, by rw [j4]; exact List.mem_append_right _ g⟩
    refine ⟨X ++ [x], I ++ J, by simp [g1], fun y hy => ?_, fun M hM => ?_⟩
    ·rcases List.mem_append.1 hy with hy | hy
     ·exact hG _ _ _ hA (g2 y hy)
     ·rw [List.mem_singleton.1 hy]
      exact hG _ _ _ hA2 k5
    ·obtain ⟨m1, m2⟩ := g3 M fun j y hj => hM j y (by rw [List.getElem?_append_left (List.getElem?_eq_some_iff.1 hj).1]; exact hj)
     obtain ⟨m3, m4⟩ := k6 M fun j y hj => by
      have := hM (I.length + j) y (by rw [List.getElem?_append_right zy, show I.length + j - I.length = j by omega]; exact hj)
      rwa [show k + 1 + (I.length + j) = k + 1 + I.length + j by omega] at this
     refine ⟨fun i j x' v hx' hv => ?_, fun y hy => ?_⟩
     ·rcases Nat.lt_or_ge i X.length with hi | hi
      ·exact m1 i j x' v (by rw [List.getElem?_append_left hi] at hx'; exact hx') hv
      ·rw [List.getElem?_append_right hi] at hx'
       have hi0 : i - X.length = 0 := by
        have := (List.getElem?_eq_some_iff.1 hx').1
        simp at this
        omega
       rw [hi0] at hx'
       simp at hx'
       subst hx'
       obtain ⟨n1, u, n2, n3⟩ := m3 j v hv
       have hj : j < sz := by
        have := (List.getElem?_eq_some_iff.1 n2).1
        omega
       refine ⟨n1, u, ?_, n3⟩
       rw [show i = q by omega, k4 j hj, n2]
     ·rcases List.mem_append.1 hy with hy | hy
      ·exact m2 y hy
      ·exact m4 y hy
  obtain ⟨X, I, g1, g2, g3⟩ := hq len (Nat.le_refl _)
  have hl : ∀ c ∈ X.map f, c.length = sz := fun c hc => by
   obtain ⟨x, hx, rfl⟩ := List.mem_map.1 hc
   exact hf _ _ (g2 x hx)
  have hfl : ((X.map f).flatMap id).length = X.length * sz := by
   have : ∀ cs : List (List AV), (∀ c ∈ cs, c.length = sz) -> (cs.flatMap id).length = cs.length * sz := fun cs => by
    induction cs with
    | nil => simp
    | cons c cs ih =>
     intro h
     rw [List.flatMap_cons, List.length_append, ih fun x hx => h x (List.mem_cons_of_mem _ hx), List.length_cons, id, h c List.mem_cons_self, Nat.add_mul]; omega
   rw [this _ hl, List.length_map]
  have hA : ∀ b o, MemH (dW (k + 1) I) b o -> MemH (dW k (⟨⟨b, off, m, sz, undef⟩, true, (X.map f).flatMap id⟩ :: I)) b o := fun b o ⟨w, g⟩ => ⟨w, List.mem_cons_of_mem _ g⟩
  refine ⟨X, .slice k 0 len sz, ⟨⟨b, off, m, sz, undef⟩, true, (X.map f).flatMap id⟩ :: I, .inr ⟨k, 0, false, by rw [g1], ⟨false, List.mem_cons_self⟩, hfl⟩, by omega, fun y hy => hG _ _ _ (fun b o ⟨w, g⟩ => ⟨w, List.mem_cons_of_mem _ g⟩) (g2 y hy), fun M hM => ⟨.slice k 0 len m _ ⟨b, off, m, sz, undef⟩ (by simpa using hM 0 _ rfl) (Nat.zero_add _) hle (.inl (by simp)) rfl, fun y hy => ?_⟩⟩
  obtain ⟨m1, m2⟩ := g3 M fun j y hj => by
   have := hM (j + 1) y (by simpa using hj)
   rwa [show k + (j + 1) = k + 1 + j by omega] at this
  rcases List.mem_cons.1 hy with rfl | hy
  ·obtain ⟨cs0, k1, _⟩ := hcell 0 zy
   rw [ce] at k1
   obtain ⟨k2, k3⟩ := fV (H := H) (P := P) k1
   have k4 := k3 0 hz
   rw [List.getElem?_eq_getElem zy] at k4
   obtain ⟨c, e, fr, g5, _⟩ := fU k4
   refine ⟨rfl, rfl, c, e, fr, g5, fun j v hv => ?_⟩
   have hv : ((X.map f).flatMap id)[j]? = some v := hv
   have hj : j < len * sz := by
    have := (List.getElem?_eq_some_iff.1 hv).1
    rw [hfl, g1] at this
    exact this
   have hi : j / sz < len := Nat.div_lt_of_lt_mul (by rw [Nat.mul_comm]; exact hj)
   have hr : j % sz < sz := Nat.mod_lt _ hz
   have ej : j / sz * sz + j % sz = j := by rw [Nat.mul_comm]; exact Nat.div_add_mod j sz
   have hxi : X[j / sz]? = some (X[j / sz]'zy) := List.getElem?_eq_getElem zy
   have h3 := mB hl (i := j / sz) (j := j % sz) (c := f (X[j / sz]'zy)) (by rw [List.getElem?_map, hxi]; rfl) hr
   rw [ej, hv] at h3
   obtain ⟨n1, u, n2, n3⟩ := m1 _ _ _ _ hxi h3.symm
   rw [ej] at n2
   obtain ⟨c', e', fr', h8, h9⟩ := fU n2
   rw [g5] at h8
   cases h8
   exact ⟨n1, u, h9, n3⟩
  ·exact m2 y hy
end
abbrev TC := TD × List AV
theorem rb : ∀ {hs : ad} {X : List TC}, (∀ y ∈ X, TRep hs y.1 y.2) -> TReps hs (X.map (·.1)) (X.map (·.2))
 | hs, [], _ => by rw [List.map_nil, List.map_nil, TReps]
 | hs, x :: X, h => by
  rw [List.map_cons, List.map_cons, TReps]
  exact ⟨_, _, rfl, h x List.mem_cons_self, rb fun y hy => h y (List.mem_cons_of_mem _ hy)⟩
section
variable {H : Type} {enc : TypeId × Value -> H} {W : World}
def yr : TD -> Prop
 | .node d _ => oo d
theorem Af : ∀ (m : Nat) (n : Nat) (cs : List Value) (d : DataW H) (p : List MemPlace), Rows.uptoBulk d <= m -> m <= 1048576 -> DataW.trod enc Tryz.prog W 0 (fun _ => true) true n 26 cs = some (d, p) -> ∀ (B : Nat), (∃ c e fr, W.heap[B]? = some (.cells c e fr)) -> ∀ k : Nat,
  ∃ (x : TC) (I : List InB), (TRep (dW k I) x.1 x.2 /\ yr x.1) /\ ∀ M : Inj, (∀ j y, I[j]? = some y -> M (k + j) = some y.bi) -> (∀ (j : Nat) (v : AV), x.2[j]? = some v -> v.isCell = true /\ ∃ u, cs[j]? = some u /\ VRel M v u) /\ ∀ y ∈ I, fQ W M y := by
 intro m
 induction m using Nat.strongRecOn with
 | _ m ih =>
 intro n cs d p hb hm h B hB k
 have i1 : Tryz.prog.cellsOf 3 = 1 := by kernel_rfl
 have s1 : Tryz.prog.cellsOf 9 = 1 := by kernel_rfl
 have b1 : Tryz.prog.cellsOf 4 = 1 := by kernel_rfl
 have n1 : Tryz.prog.cellsOf 23 = 1 := by kernel_rfl
 have m1 : Tryz.prog.cellsOf 22 = 1 := by kernel_rfl
 have k1 : Tryz.prog.cellsOf 24 = 1 := by kernel_rfl
 have e3 : Tryz.prog.cellsOf 91 = 3 := by kernel_rfl
 have e11 : Tryz.prog.cellsOf 26 = 11 := by kernel_rfl
 obtain ⟨xs, n3, _, hx, hcl, hlen, hF⟩ := DataW.trod_struct Tryz.underlying26 h
 obtain ⟨c0, c1, c2, c3, c4, c5, c6, c7, c8, c9, c10, rfl⟩ := wO (hcl.trans e11)
 obtain ⟨y0, y1, y2, y3, y4, y5, y6, y7, y8, y9, y10, rfl⟩ := wO (hlen.trans rfl)
 have g0 : DataW.trod enc Tryz.prog W 0 (fun _ => true) true n3 3 [c0] = some y0 := cJ hF 0 rfl rfl i1 rfl rfl
 have g1 : DataW.trod enc Tryz.prog W 0 (fun _ => true) true n3 9 [c1] = some y1 := cJ hF 1 rfl rfl s1 rfl rfl
 have g2 : DataW.trod enc Tryz.prog W 0 (fun _ => true) true n3 3 [c2] = some y2 := cJ hF 2 rfl rfl i1 rfl rfl
 have g3 : DataW.trod enc Tryz.prog W 0 (fun _ => true) true n3 22 [c3] = some y3 := cJ hF 3 rfl rfl m1 rfl rfl
 have g4 : DataW.trod enc Tryz.prog W 0 (fun _ => true) true n3 3 [c4] = some y4 := cJ hF 4 rfl rfl i1 rfl rfl
 have g5 : DataW.trod enc Tryz.prog W 0 (fun _ => true) true n3 3 [c5] = some y5 := cJ hF 5 rfl rfl i1 rfl rfl
 have g6 : DataW.trod enc Tryz.prog W 0 (fun _ => true) true n3 3 [c6] = some y6 := cJ hF 6 rfl rfl i1 rfl rfl
 have g7 : DataW.trod enc Tryz.prog W 0 (fun _ => true) true n3 23 [c7] = some y7 := cJ hF 7 rfl rfl n1 rfl rfl
 have g8 : DataW.trod enc Tryz.prog W 0 (fun _ => true) true n3 3 [c8] = some y8 := cJ hF 8 rfl rfl i1 rfl rfl
 have g9 : DataW.trod enc Tryz.prog W 0 (fun _ => true) true n3 4 [c9] = some y9 := cJ hF 9 rfl rfl b1 rfl rfl
 have g10 : DataW.trod enc Tryz.prog W 0 (fun _ => true) true n3 24 [c10] = some y10 := cJ hF 10 rfl rfl k1 rfl rfl
 have hbx : Rows.uptoBulkAll ([y0, y1, y2, y3, y4, y5, y6, y7, y8, y9, y10].map (·.1)) + 1 <= m := by
  have hx := (Prod.mk.inj hx).1
  rw [hx] at hb
  simp only [Rows.uptoBulk] at hb ⊢
  omega
 have hb3 : Rows.uptoBulk y3.1 <= 1048576 := Nat.le_trans (gS (by simp)) (Nat.le_trans (Nat.le_of_succ_le hbx) hm)
 have hb7 : Rows.uptoBulk y7.1 <= 1048576 := Nat.le_trans (gS (by simp)) (Nat.le_trans (Nat.le_of_succ_le hbx) hm)
 have hb10 : Rows.uptoBulk y10.1 < m := Nat.lt_of_le_of_lt (gS (by simp)) hbx
 obtain ⟨kd, q0, _, hkz⟩ := DataW.trod_int Tryz.underlying3 g0
 obtain ⟨op, q1, e1, _⟩ := DataW.trod_string Tryz.underlying9 g1
 have hb1 : Rows.uptoBulk y1.1 <= 1048576 := Nat.le_trans (gS (by simp)) (Nat.le_trans (Nat.le_of_succ_le hbx) hm)
 rw [e1, Bm] at hb1
 simp only [Lit.wf, Bool.and_eq_true, decide_eq_true_eq] at hkz
 have hol : (lv (.string op)).length <= 1048576 := by
  show (List.map _ _).length <= _
  rw [List.length_map]
  omega
 obtain ⟨nn, q2, _⟩ := DataW.trod_int Tryz.underlying3 g2
 obtain ⟨rg, q4, _⟩ := DataW.trod_int Tryz.underlying3 g4
 obtain ⟨off, q5, _⟩ := DataW.trod_int Tryz.underlying3 g5
 obtain ⟨md, q6, _⟩ := DataW.trod_int Tryz.underlying3 g6
 obtain ⟨sd, q8, _⟩ := DataW.trod_int Tryz.underlying3 g8
 obtain ⟨bl, q9, _⟩ := DataW.trod_bool Tryz.underlying4 g9
 simp only [List.cons.injEq, and_true] at q0 q1 q2 q4 q5 q6 q8 q9
 subst q0 q1 q2 q4 q5 q6 q8 q9
 obtain ⟨ms, vm, xm, rm, lm, gm, Mm⟩ := so (f := mC) (D := y3.1) (Pl := y3.2) Tryz.underlying22 e3 (by decide) (fun _ => rfl) (CN Tryz.underlying91 rfl rfl rfl i1 s1 s1 e3 Tryz.underlying3 Tryz.underlying9 Tryz.underlying9) g3 hb3 B hB k
 obtain ⟨nm, vn, xn, rn, ln, gn, Mn⟩ := so (f := fun x => [AV.str x]) (D := y7.1) (Pl := y7.2) Tryz.underlying23 s1 (by decide) (fun _ => rfl) (Ce Tryz.underlying9) g7 hb7 B hB (k + 1)
 rw [mD] at rn
 obtain ⟨X, vk, I, rk, lk, gk, Mk⟩ := tK (f := fun x : TC => x.2) (G := fun hs x => TRep hs x.1 x.2 /\ yr x.1) (D := y10.1) (Pl := y10.2) (fun hs hs' x hm h => ⟨TRep.mono hm h.1, h.2⟩) (fun hs x h => TRep.len h.1) Tryz.underlying24 e11 (by decide)
  (fun n cs d p h hb B hB k => ih (Rows.uptoBulk d) zy n cs d p (Nat.le_refl _) zy h B hB k) g10 zy B (fun _ => hB) (k + 2)
 have hA : ∀ b o, MemH (dW (k + 2) I) b o -> MemH (dW k (xm :: xn :: I)) b o := fun b o ⟨w, g⟩ => ⟨w, List.mem_cons_of_mem _ (List.mem_cons_of_mem _ g)⟩
 refine ⟨(.node ⟨kd, lv (.string op), nn, ms, rg, off, md, nm, sd, bl⟩ (X.map (·.1)), ND.c ⟨kd, lv (.string op), nn, ms, rg, off, md, nm, sd, bl⟩ vm vn vk), xm :: xn :: I, ⟨?_, hol, hkz⟩, fun M hM => ?_⟩
 ·rw [TRep]
  refine ⟨vm, vn, vk, X.map (·.2), rfl, RowI.rin (k := k) (x := xm) rm (Bp _) ⟨false, List.mem_cons_self⟩, RowI.rin (k := k + 1) (x := xn) rn (Bt _) ⟨false, List.mem_cons_of_mem _ List.mem_cons_self⟩, ?_, ⟨jn op, ⟨lm, gm⟩, ⟨Nat.le_trans ln (by decide), gn⟩⟩, by rw [List.length_map]; exact lk, rb fun y hy => TRep.mono hA (gk y hy).1⟩
  rw [List.length_map]
  exact rk.mono hA
 ·obtain ⟨p3, w3⟩ := Mm M (hM 0 _ rfl)
  obtain ⟨p7, w7⟩ := Mn M (hM 1 _ rfl)
  obtain ⟨p10, w10⟩ := Mk M fun j y hj => by
   have := hM (j + 2) y (by simpa using hj)
   rwa [show k + (j + 2) = k + 2 + j by omega] at this
  refine ⟨fun j v hv => ?_, fun y hy => ?_⟩
  ·match j with
   | 0 => obtain rfl := Option.some.inj hv; exact ⟨rfl, _, rfl, .int _ _⟩
   | 1 => obtain rfl := Option.some.inj hv; exact ⟨rfl, _, rfl, lP⟩
   | 2 => obtain rfl := Option.some.inj hv; exact ⟨rfl, _, rfl, .int _ _⟩
   | 3 => obtain rfl := Option.some.inj hv; exact ⟨RowI.cell (k := k) (sz := 3) (f := cM) (X := ms) (x := xm) rm, _, rfl, p3⟩
   | 4 => obtain rfl := Option.some.inj hv; exact ⟨rfl, _, rfl, .int _ _⟩
   | 5 => obtain rfl := Option.some.inj hv; exact ⟨rfl, _, rfl, .int _ _⟩
   | 6 => obtain rfl := Option.some.inj hv; exact ⟨rfl, _, rfl, .int _ _⟩
   | 7 => obtain rfl := Option.some.inj hv; exact ⟨RowI.cell (k := k + 1) (sz := 1) (f := cS) (X := nm) (x := xn) rn, _, rfl, p7⟩
   | 8 => obtain rfl := Option.some.inj hv; exact ⟨rfl, _, rfl, .int _ _⟩
   | 9 => obtain rfl := Option.some.inj hv; exact ⟨rfl, _, rfl, .bool _⟩
   | 10 => obtain rfl := Option.some.inj hv; exact ⟨rk.cell, _, rfl, p10⟩
   | j + 11 => cases hv
  ·rcases List.mem_cons.1 hy with rfl | hy
   ·exact w3
   rcases List.mem_cons.1 hy with rfl | hy
   ·exact w7
   ·exact w10 y hy
def KidsIn (hs : ad) (x : IE) (ks : List TD) : Prop := ∃ cs, RIn hs 11 ks.length (cs.flatMap id) x.vk /\ ks.length <= 1048576 /\ TReps hs ks cs
theorem KidsIn.mono {hs hs' : ad} {x : IE} {ks : List TD} (hm : ∀ b o, MemH hs b o -> MemH hs' b o) (h : KidsIn hs x ks) : KidsIn hs' x ks := let ⟨cs, h1, h2, h3⟩ := h; ⟨cs, h1.mono hm, h2, TReps.mono hm h3⟩
abbrev IK := IE × List TD
structure IKOK (hs : ad) (x : IK) : Prop where
 o : IOK hs x.1
 b : IBd x.1
 k : KidsIn hs x.1 x.2
 q : oo x.1.d
theorem KLn.rin {hs : ad} {sz n : Nat} {cells : List AV} {v : AV} (h : RIn hs sz n cells v) : KLn v n := by
 rcases h with ⟨rfl, rfl, _⟩ | ⟨b, z, ex, rfl, _⟩
 ·exact .inl ⟨rfl, rfl⟩
 ·exact .inr ⟨_, _, _, rfl⟩
theorem zP (n : Nat) (cs : List Value) (d : DataW H) (p : List MemPlace) (h : DataW.trod enc Tryz.prog W 0 (fun _ => true) true n 42 cs = some (d, p)) (hb : Rows.uptoBulk d <= 1048576) (B : Nat) (hB : ∃ c e fr, W.heap[B]? = some (.cells c e fr)) (k : Nat) :
  ∃ (x : IK) (I : List InB), IKOK (dW k I) x /\ ∀ M : Inj, (∀ j y, I[j]? = some y -> M (k + j) = some y.bi) -> (∀ (j : Nat) (v : AV), x.1.c[j]? = some v -> v.isCell = true /\ ∃ u, cs[j]? = some u /\ VRel M v u) /\ ∀ y ∈ I, fQ W M y := by
 have i1 : Tryz.prog.cellsOf 3 = 1 := by kernel_rfl
 have a1 : Tryz.prog.cellsOf 40 = 1 := by kernel_rfl
 have e11 : Tryz.prog.cellsOf 26 = 11 := by kernel_rfl
 have e12 : Tryz.prog.cellsOf 42 = 12 := by kernel_rfl
 obtain ⟨y, ya, n2, hy, hcs, ht0, ht1⟩ := trod_struct2 Tryz.underlying42 h
 obtain ⟨c0, c1, c2, c3, c4, c5, c6, c7, c8, c9, c10, c11, rfl⟩ := BH (hcs.trans e12)
 have h0 : DataW.trod enc Tryz.prog W 0 (fun _ => true) true n2 26 [c0, c1, c2, c3, c4, c5, c6, c7, c8, c9, c10] = some y := by
  have := ht0
  rw [show (Field.type _ : TypeId) = 26 from rfl, e11] at this
  exact this
 have g11 : DataW.trod enc Tryz.prog W 0 (fun _ => true) true n2 40 [c11] = some ya := by
  have := ht1
  rw [show (Field.type _ : TypeId) = 40 from rfl, a1] at this
  exact this
 have hby : Rows.uptoBulk y.1 + Rows.uptoBulk ya.1 + 1 <= 1048576 := by
  have := (Prod.mk.inj hy).1
  rw [yW, <- this]; exact hb
 obtain ⟨⟨t, c⟩, I, ⟨g1, gky⟩, g2⟩ := Af 1048576 n2 _ y.1 y.2 zy (Nat.le_refl _) h0 B hB k
 cases t with
 | node d ks =>
 simp only at g1 g2
 rw [TRep] at g1
 obtain ⟨vm, vn, vk, ws, rfl, h2, h3, h4, h5, h6, h7⟩ := g1
 obtain ⟨ax, va, xa, ra, la, ga, Ma⟩ := so (f := fun x => [AV.int .i64 x]) (D := ya.1) (Pl := ya.2) Tryz.underlying40 i1 (by decide) (fun _ => rfl) (BW Tryz.underlying3) g11 zy B hB (k + I.length)
 rw [mD] at ra
 have hA : ∀ b o, MemH (dW k I) b o -> MemH (dW k (I ++ [xa])) b o := fun b o ⟨w, g⟩ => ⟨w, by rw [j4]; exact List.mem_append_left _ g⟩
 have hxa : MemH (dW k (I ++ [xa])) (k + I.length) ⟨0, false, xa.cells⟩ := uh (by simp)
 refine ⟨(⟨d, ax, ks.length, vm, vn, vk, va⟩, ks), I ++ [xa], ⟨⟨h2.mono hA, h3.mono hA, KLn.rin h4, ?_⟩, ⟨h5, la, ga⟩, ⟨ws, h4.mono hA, h6, TReps.mono hA h7⟩, gky⟩, fun M hM => ?_⟩
 ·exact RowI.rin (k := k + I.length) (x := xa) ra (vq _) hxa
 ·obtain ⟨p0, w0⟩ := g2 M fun j y hj => hM j y (by rw [List.getElem?_append_left (List.getElem?_eq_some_iff.1 hj).1]; exact hj)
  obtain ⟨p11, w11⟩ := Ma M (hM I.length xa (by simp))
  refine ⟨fun j v hv => ?_, fun y hy => ?_⟩
  ·rcases Nat.lt_or_ge j 11 with hj | hj
   ·have hv : (ND.c d vm vn vk ++ [va])[j]? = some v := hv
    rw [List.getElem?_append_left (by exact hj)] at hv
    obtain ⟨q1, u, q2, q3⟩ := p0 j v hv
    refine ⟨q1, u, ?_, q3⟩
    match j, hj with
    | 0, _ | 1, _ | 2, _ | 3, _ | 4, _ | 5, _ | 6, _ | 7, _ | 8, _ | 9, _ | 10, _ => exact q2
   ·match j, hj with
    | 11, _ => obtain rfl := Option.some.inj hv; exact ⟨RowI.cell (k := k + I.length) (sz := 1) (f := cA) (X := ax) (x := xa) ra, _, rfl, p11⟩
    | j + 12, _ => cases hv
  ·rcases List.mem_append.1 hy with hy | hy
   ·exact w0 y hy
   ·rw [List.mem_singleton.1 hy]; exact w11
theorem qq {α β : Type} (f : α -> List β) (l : List α) : (l.map f).flatMap id = l.flatMap f := by
 induction l with
 | nil => rfl
 | cons x l ih => rw [List.map_cons, List.flatMap_cons, List.flatMap_cons, ih]; rfl
theorem insts_argK {base : Nat} {v : Value} {d : DataW H} {p : List MemPlace} (hval : Value.okWide Tryz.prog W .any base 30 v) (h : DataW.Trod enc Tryz.prog W 0 (fun _ => true) true 30 v d p) (hb : Rows.uptoBulk d <= 1048576) (k : Nat) :
  ∃ (L : List IE) (KS : List (List TD)) (va : AV) (I : List InB), IIn (dW k I) L va /\ ILB L /\ (∀ x ∈ L, oo x.d) /\ KS.length = L.length /\ (∀ (i : Nat) (x : IE) (ks : List TD), L[i]? = some x -> KS[i]? = some ks -> KidsIn (dW k I) x ks) /\ ∀ M : Inj, (∀ j x, I[j]? = some x -> M (k + j) = some x.bi) -> VRel M va v /\ ∀ x ∈ I, fQ W M x := by
 have e12 : Tryz.prog.cellsOf 42 = 12 := by kernel_rfl
 obtain ⟨fuel, hf⟩ := h
 have hc : v.cells.toList = [v] := by
  obtain ⟨a, len, cap, rfl⟩ := okWide_slice Tryz.underlying30 hval
  rfl
 rw [hc] at hf
 have hB : ∃ B : Nat, (∃ a len cap, v = .slice (some a) len cap) -> ∃ c e fr, W.heap[B]? = some (.cells c e fr) := by
  by_cases hv : ∃ a len cap, v = .slice (some a) len cap
  ·obtain ⟨a, len, cap, e⟩ := hv
   obtain ⟨_, h2⟩ := qW Tryz.underlying30 hval a len cap e
   exact ⟨a.block, fun _ => h2⟩
  ·exact ⟨0, fun h => absurd h hv⟩
 obtain ⟨B, hB⟩ := hB
 obtain ⟨X, va, I, g1, g2, g3, g4⟩ := tK (f := fun x : IK => x.1.c) (G := IKOK) (D := d) (Pl := p) (fun hs hs' x hm h => ⟨h.o.mono hm, h.b, h.k.mono hm, h.q⟩) (fun hs x h => rfl) Tryz.underlying30 e12 (by decide)
  (fun n cs d p h hb' B hB k => zP n cs d p h zy B hB k) hf hb B hB k
 refine ⟨X.map (·.1), X.map (·.2), va, I, ⟨?_, fun x hx => ?_⟩, ⟨by rw [List.length_map]; exact g2, fun x hx => ?_⟩, fun x hx => by obtain ⟨y, hy, rfl⟩ := List.mem_map.1 hx; exact (g3 y hy).q, by simp, fun i x ks hx hk => ?_, g4⟩
 ·rw [List.length_map]
  have e : cI (X.map (·.1)) = (X.map fun x : IK => x.1.c).flatMap id := by
   rw [qq]
   unfold cI
   rw [List.flatMap_map]
  rw [e]
  exact g1
 ·obtain ⟨y, hy, rfl⟩ := List.mem_map.1 hx
  exact (g3 y hy).o
 ·obtain ⟨y, hy, rfl⟩ := List.mem_map.1 hx
  exact (g3 y hy).b
 ·rw [List.getElem?_map] at hx hk
  cases hX : X[i]? with
  | none => rw [hX] at hx; cases hx
  | some y =>
   rw [hX] at hx hk
   obtain rfl := Option.some.inj hx
   obtain rfl := Option.some.inj hk
   exact (g3 y (List.mem_of_getElem? hX)).k
end
end Go.Proofs.YtndhhgbpcmfeiaaGreatDoor.Ev
