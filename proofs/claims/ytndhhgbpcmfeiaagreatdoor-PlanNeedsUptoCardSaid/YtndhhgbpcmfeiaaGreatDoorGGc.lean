/- Chapter 20, walks: copies of nodes and of places. -/
import Derived.Test.YtndhhgbpcmfeiaaGreatDoorGGb
namespace Go.Proofs.YtndhhgbpcmfeiaaGreatDoor.Ev
open Go.RowKit
set_option linter.unusedVariables false
set_option linter.unusedSimpArgs false
set_option maxRecDepth 100000
theorem bv_eqNN {tb : Tab} {t e : Nat} (hu : tb.und t = some (.slice e)) : evBin tb .eql t .nils .nils = some (.bool true) := by
  show (match eqIn tb 20 t .nils .nils with | some b => some (AV.bool b) | none => none) = _
  unfold eqIn
  simp only [hu]
  rfl
theorem bv_eqSN {tb : Tab} {t e b o n z : Nat} (hu : tb.und t = some (.slice e)) : evBin tb .eql t (.slice b o n z) .nils = some (.bool false) := by
  show (match eqIn tb 20 t (.slice b o n z) .nils with | some b => some (AV.bool b) | none => none) = _
  unfold eqIn
  simp only [hu]
  rfl
theorem cells_cell {v : AV} (h : v.isCell = true) : v.cells = [v] := by cases v <;> first | rfl | cases h
theorem ck1 {v : AV} {o n : Nat} (h : v.isCell = true) (hle : Nat.ble (o + 1) n = true) : (Nat.beq v.cells.length 1 && Nat.ble (o + 1) n && v.cells.all AV.isCell) = true := by
  rw [cells_cell h, hle]; simp [h]
theorem lay_3 {a0 a1 a2 a3 v : AV} {b : List AV} (h : v.isCell = true) : layL (a0 :: a1 :: a2 :: a3 :: b) 3 v.cells = a0 :: a1 :: a2 :: v :: b := by
  rw [cells_cell h]; simp [layL]
theorem lay_7 {a0 a1 a2 a3 a4 a5 a6 a7 v : AV} {b : List AV} (h : v.isCell = true) : layL (a0 :: a1 :: a2 :: a3 :: a4 :: a5 :: a6 :: a7 :: b) 7 v.cells = a0 :: a1 :: a2 :: a3 :: a4 :: a5 :: a6 :: v :: b := by
  rw [cells_cell h]; simp [layL]
theorem lay_10 {a0 a1 a2 a3 a4 a5 a6 a7 a8 a9 a10 v : AV} {b : List AV} (h : v.isCell = true) : layL (a0 :: a1 :: a2 :: a3 :: a4 :: a5 :: a6 :: a7 :: a8 :: a9 :: a10 :: b) 10 v.cells = a0 :: a1 :: a2 :: a3 :: a4 :: a5 :: a6 :: a7 :: a8 :: a9 :: v :: b := by
  rw [cells_cell h]; simp [layL]
theorem lay_set : ∀ (l : List AV) (j : Nat) (v : AV), j < l.length → layL l j [v] = l.set j v
  | x :: l, 0, v, _ => by simp [layL]
  | x :: l, j + 1, v, h => by simp only [layL, List.set_cons_succ, lay_set l j v (by simpa using h)]
/-- A node's cells are cells. -/
theorem nd_cells {d : ND} {vm vn vk : AV} (hm : vm.isCell = true) (hn : vn.isCell = true) (hk : vk.isCell = true) : (((AV.agg (d.c vm vn vk)).cells).all AV.isCell) = true := by
  show ((d.c vm vn vk).all AV.isCell) = true
  simp only [ND.c, nodeC, List.all_cons, List.all_nil, hm, hn, hk, Bool.and_true, Bool.true_and]
  rfl
theorem nd_ck {d : ND} {vm vn : AV} (hm : vm.isCell = true) (hn : vn.isCell = true) : (Nat.beq (AV.agg (d.c vm vn .nils)).cells.length 11 && Nat.ble (0 + 11) 11 && ((AV.agg (d.c vm vn .nils)).cells).all AV.isCell) = true := and_tt rfl (nd_cells hm hn rfl)
theorem ai_mem {A : List Int} {q : Nat} (h : q < A.length) : ai A q ∈ A := List.mem_of_getElem? (ai_at h)
/-- Whole numbers that are not negative, as places. -/
theorem cA_atN {A : List Int} {q : Nat} (h : q < A.length) (g : 0 ≤ ai A q) : (cA A)[(0 + q) * 1]? = some (.int .i64 (((ai A q).toNat : Nat) : Int)) := by
  rw [cA_at h, Int.toNat_of_nonneg g]
def mvA (U A : List Int) : List Int := A.map fun a => ai U a.toNat
theorem mv_snoc {U A : List Int} {i : Nat} (h : i < A.length) : cA (mvA U (A.take (i + 1))) = cA (mvA U (A.take i)) ++ [.int .i64 (ai U (ai A i).toNat)] := by
  rw [List.take_add_one, ai_at h]
  unfold mvA cA
  rw [List.map_append, List.map_append]; rfl
theorem ag22 : tab.isAgg 22 = some false := by kernel_rfl
theorem ag23 : tab.isAgg 23 = some false := by kernel_rfl
theorem ag26 : tab.isAgg 26 = some true := by kernel_rfl
theorem ao26 : AO tab 26 = some ⟨11, true, [.int .i64 0, .str [], .int .i64 0, .nils, .int .i64 0, .int .i64 0, .int .i64 0, .nils, .int .i64 0, .bool false, .nils]⟩ := by kernel_rfl
theorem ap22_22 : AP tab 22 22 = some 3 := by kernel_rfl
theorem ap23_23 : AP tab 23 23 = some 1 := by kernel_rfl
theorem ap40_40 : AP tab 40 40 = some 1 := by kernel_rfl
theorem bx26 : ∀ l : List AV, l.length = 11 → varObj tab 26 l = ⟨11, true, l⟩ := by intro l h; exact varObj_plain (by kernel_rfl) h
theorem fa26_3 : FA tab 26 3 = some (3, 0 + 1) := by kernel_rfl
theorem fa26_7 : FA tab 26 7 = some (7, 0 + 1) := by kernel_rfl
theorem sz22 : tab.size 22 = some 1 := by kernel_rfl
theorem sz23 : tab.size 23 = some 1 := by kernel_rfl
theorem sz24 : tab.size 24 = some 1 := by kernel_rfl
theorem sz26 : tab.size 26 = some 11 := by kernel_rfl
theorem sz9 : tab.size 9 = some 1 := by kernel_rfl
theorem sz91 : tab.size 91 = some 3 := by kernel_rfl
theorem ud22 : tab.und 22 = some (.slice 91) := by kernel_rfl
theorem ud23 : tab.und 23 = some (.slice 9) := by kernel_rfl
theorem zr3 : tab.zero 3 = some (.int .i64 0) := by kernel_rfl
theorem zr9 : tab.zero 9 = some (.str []) := by kernel_rfl
theorem zr91 : tab.zero 91 = some (.agg [.int .i64 0, .str [], .str []]) := by kernel_rfl
theorem clm_nil  : Spec tab 69 [.nils] [] [] (Val (.nils)) := by
  refine Spec.enter' (ft_get 69 Tryz.func69) rfl (m := 8) rfl (rs := [.tmp 2]) rfl (st := [(0, .nils)]) rfl rfl (fun _ => rfl) (fun E => ?_)
  refine W.seq ?_
  refine W.reg ?_
  refine WO.q (Q.assign rfl) rfl ?_
  refine WO.nil ?_
  refine End.K ?_
  refine W.seq ?_
  refine W.seq ?_
  refine W.reg ?_
  refine WO.q (Q.move rfl) rfl ?_
  refine WO.q (Q.bin rfl rfl rfl (bv_eqNN ud22)) rfl ?_
  refine WO.nil ?_
  refine End.K ?_
  refine W.condT rfl ?_
  refine W.seq ?_
  refine W.reg ?_
  refine WO.q (Q.assign rfl) rfl ?_
  refine WO.nil ?_
  refine End.K ?_
  refine W.ret ?_
  refine End.K_ret (End.retV (ResL.tmp rfl ResL.nil) ?_)
  rfl

theorem clm_some (hs : HSt) (hro : ∀ e ∈ hs, e.w = false) (n : Nat) (cells : List AV) (b : Nat) (ha : RIn hs 3 n cells (.slice b 0 n 3)) (hn : n ≤ 1048576) : Spec tab 69 [.slice b 0 n 3] [] hs (fun v D => OwnE 3 cells n v D) := by
  refine Spec.enter' (ft_get 69 Tryz.func69) rfl (m := 8) rfl (rs := [.tmp 2]) rfl (st := [(0, .slice b 0 n 3)]) rfl rfl (fun _ => rfl) (fun E => ?_)
  refine W.seq ?_
  refine W.reg ?_
  refine WO.q (Q.assign rfl) rfl ?_
  refine WO.nil ?_
  refine End.K ?_
  refine W.seq ?_
  refine W.seq ?_
  refine W.reg ?_
  refine WO.q (Q.move rfl) rfl ?_
  refine WO.q (Q.bin rfl rfl rfl (bv_eqSN ud22)) rfl ?_
  refine WO.nil ?_
  refine End.K ?_
  refine W.condF rfl ?_
  refine W.skip ?_
  refine End.K ?_
  refine W.seq ?_
  refine W.reg ?_
  refine WO.bslice ud22 sz91 zr91 rfl oPs_nil rfl (cs := []) rfl rfl rfl (fun b1 => ?_)
  refine WO.q (Q.move rfl) rfl ?_
  refine WO.appAny (A := _) ap22_22 (OwnE.cons rfl) rfl rfl (Src.mono (fun e he => MemH.tl ⟨e.w, by obtain ⟨b, o, w⟩ := e; exact he⟩) ha.src) ha.length (by omega) (by decide) (SubH.of_perm (List.perm_append_singleton _ _)) rfl (fun v7 hp7 hO7 => ?_)
  refine WO.q (Q.assign rfl) rfl ?_
  refine WO.nil ?_
  refine End.K ?_
  refine W.ret ?_
  refine End.ret (ResL.tmp rfl ResL.nil) (hs' := hp7) (by rw [one1]; simpa using hO7) (OwnE.w hO7) gc

theorem cls_nil  : Spec tab 70 [.nils] [] [] (Val (.nils)) := by
  refine Spec.enter' (ft_get 70 Tryz.func70) rfl (m := 8) rfl (rs := [.tmp 2]) rfl (st := [(0, .nils)]) rfl rfl (fun _ => rfl) (fun E => ?_)
  refine W.seq ?_
  refine W.reg ?_
  refine WO.q (Q.assign rfl) rfl ?_
  refine WO.nil ?_
  refine End.K ?_
  refine W.seq ?_
  refine W.seq ?_
  refine W.reg ?_
  refine WO.q (Q.move rfl) rfl ?_
  refine WO.q (Q.bin rfl rfl rfl (bv_eqNN ud23)) rfl ?_
  refine WO.nil ?_
  refine End.K ?_
  refine W.condT rfl ?_
  refine W.seq ?_
  refine W.reg ?_
  refine WO.q (Q.assign rfl) rfl ?_
  refine WO.nil ?_
  refine End.K ?_
  refine W.ret ?_
  refine End.K_ret (End.retV (ResL.tmp rfl ResL.nil) ?_)
  rfl

theorem cls_some (hs : HSt) (hro : ∀ e ∈ hs, e.w = false) (n : Nat) (cells : List AV) (b : Nat) (ha : RIn hs 1 n cells (.slice b 0 n 1)) (hn : n ≤ 1048576) : Spec tab 70 [.slice b 0 n 1] [] hs (fun v D => OwnE 1 cells n v D) := by
  refine Spec.enter' (ft_get 70 Tryz.func70) rfl (m := 8) rfl (rs := [.tmp 2]) rfl (st := [(0, .slice b 0 n 1)]) rfl rfl (fun _ => rfl) (fun E => ?_)
  refine W.seq ?_
  refine W.reg ?_
  refine WO.q (Q.assign rfl) rfl ?_
  refine WO.nil ?_
  refine End.K ?_
  refine W.seq ?_
  refine W.seq ?_
  refine W.reg ?_
  refine WO.q (Q.move rfl) rfl ?_
  refine WO.q (Q.bin rfl rfl rfl (bv_eqSN ud23)) rfl ?_
  refine WO.nil ?_
  refine End.K ?_
  refine W.condF rfl ?_
  refine W.skip ?_
  refine End.K ?_
  refine W.seq ?_
  refine W.reg ?_
  refine WO.bslice ud23 sz9 zr9 rfl oPs_nil rfl (cs := []) rfl rfl rfl (fun b1 => ?_)
  refine WO.q (Q.move rfl) rfl ?_
  refine WO.appAny (A := _) ap23_23 (OwnE.cons rfl) rfl rfl (Src.mono (fun e he => MemH.tl ⟨e.w, by obtain ⟨b, o, w⟩ := e; exact he⟩) ha.src) ha.length (by omega) (by decide) (SubH.of_perm (List.perm_append_singleton _ _)) rfl (fun v7 hp7 hO7 => ?_)
  refine WO.q (Q.assign rfl) rfl ?_
  refine WO.nil ?_
  refine End.K ?_
  refine W.ret ?_
  refine End.ret (ResL.tmp rfl ResL.nil) (hs' := hp7) (by rw [one1]; simpa using hO7) (OwnE.w hO7) gc

theorem clm_spec (hs : HSt) (hro : ∀ e ∈ hs, e.w = false) (n : Nat) (cells : List AV) (va : AV) (ha : RIn hs 3 n cells va) (hn : n ≤ 1048576) : Spec tab 69 [va] [] hs (fun v D => OwnE 3 cells n v D) := by
  rcases id ha with ⟨rfl, rfl, rfl⟩ | ⟨b, z, ex, rfl, _, _⟩
  · intro h hh
    obtain ⟨v, h', hs', h1, ⟨h2, h3⟩, h4, h5⟩ := clm_nil h (hh.sub (SubH.nil _))
    exact ⟨v, h', hs', h1, .inl ⟨rfl, rfl, h2, h3⟩, h4, h5⟩
  · exact clm_some hs hro n cells b ha hn
theorem cls_spec (hs : HSt) (hro : ∀ e ∈ hs, e.w = false) (n : Nat) (cells : List AV) (va : AV) (ha : RIn hs 1 n cells va) (hn : n ≤ 1048576) : Spec tab 70 [va] [] hs (fun v D => OwnE 1 cells n v D) := by
  rcases id ha with ⟨rfl, rfl, rfl⟩ | ⟨b, z, ex, rfl, _, _⟩
  · intro h hh
    obtain ⟨v, h', hs', h1, ⟨h2, h3⟩, h4, h5⟩ := cls_nil h (hh.sub (SubH.nil _))
    exact ⟨v, h', hs', h1, .inl ⟨rfl, rfl, h2, h3⟩, h4, h5⟩
  · exact cls_some hs hro n cells b ha hn
theorem bare_spec (hs : HSt) (hro : ∀ e ∈ hs, e.w = false) (d : ND) (vm vn vk : AV) (hm : RIn hs 3 d.ms.length (cM d.ms) vm) (hn : RIn hs 1 d.nm.length (cS d.nm) vn) (nk : Nat) (hk : KLn vk nk) (hd : d.bd) : Spec tab 37 [.agg (d.c vm vn vk)] [] hs (fun v D => ∃ vm2 vn2 Dm Dn, v = .agg (d.c vm2 vn2 .nils) ∧ OwnE 3 (cM d.ms) d.ms.length vm2 Dm ∧ OwnE 1 (cS d.nm) d.nm.length vn2 Dn ∧ D = Dm ++ Dn) := by
  refine Spec.enter' (ft_get 37 Tryz.func37) rfl (m := 13) rfl (rs := [.cell 2 26]) rfl (st := [(0, .agg (d.c vm vn vk))]) rfl rfl (fun _ => rfl) (fun E => ?_)
  refine W.seq ?_
  refine W.reg ?_
  refine WO.box rfl (nd_cells hm.cell hn.cell hk.cell) (bx26 _ rfl) rfl (fun b1 => ?_)
  refine WO.alloc ao26 rfl (fun b2 => ?_)
  refine WO.nil ?_
  refine End.K ?_
  refine W.seq ?_
  refine W.reg ?_
  refine WO.q (Q.fieldAddr fa26_10 rfl (o' := 10) rfl) rfl ?_
  refine WO.store sz24 rfl rfl (i := 1) rfl rfl (cs := [_, _, _, _, _, _, _, _, _, _, _]) rfl (hs' := _ :: _ :: _) rfl ?_
  refine WO.nil ?_
  refine End.K ?_
  refine W.seq ?_
  refine W.regD 7 _ (by kernel_rfl) (KIn.refl _) ?_
  refine WD.q (Q.fieldAddr fa26_3 rfl (o' := 3) rfl) bq_ptr rfl ?_
  refine WD.q (Q.load1 rfl (mem_at (i := 1) rfl) ag22 rfl) hm.bq rfl ?_
  refine WD.call0 rfl (oLs_cons rfl oLs_nil) rfl (clm_spec hs hro _ _ _ hm (by have := hd.2.1.1; omega)) (SubR.tl (SubR.tl (SubR.self hro))) (KIn.refl _) rfl (fun v6 D6 hP6 => ?_)
  refine WD.subH (hs' := _ :: _ :: (hs ++ D6)) (SubH.of_perm (perm_tail (N := []) (G := D6) (K := [_, _]) (X := hs))) ?_
  refine WD.q (Q.fieldAddr fa26_7 rfl (o' := 7) rfl) bq_ptr rfl ?_
  refine WD.q (Q.load1 rfl (mem_at (i := 1) rfl) ag23 rfl) hn.bq rfl ?_
  refine WD.call0 rfl (oLs_cons rfl oLs_nil) rfl (cls_spec hs hro _ _ _ hn (by have := hd.2.2.1; omega)) (SubR.tl (SubR.tl (SubR.appl (SubR.self hro)))) (KIn.ofH gc) rfl (fun v9 D9 hP9 => ?_)
  refine WD.subH (hs' := _ :: _ :: (hs ++ D6 ++ D9)) (SubH.of_perm (perm_tail (N := []) (G := D9) (K := [_, _]) (X := hs ++ D6))) ?_
  refine WD.q (Q.fieldAddr fa26_3 rfl (o' := 3) rfl) bq_ptr rfl ?_
  refine WD.store sz22 rfl rfl (j := 1) rfl (ck1 (OwnE.cell hP6) rfl) (cs := [_, _, _, _, _, _, _, _, _, _, _]) (lay_3 (OwnE.cell hP6)) (hs' := _ :: _ :: _) rfl (fun h => by cases h) ?_
  refine WD.q (Q.fieldAddr fa26_7 rfl (o' := 7) rfl) bq_ptr rfl ?_
  refine WD.store sz23 rfl rfl (j := 1) rfl (ck1 (OwnE.cell hP9) rfl) (cs := [_, _, _, _, _, _, _, _, _, _, _]) (lay_7 (OwnE.cell hP9)) (hs' := _ :: _ :: _) rfl (fun h => by cases h) ?_
  refine WD.nil ?_
  refine End.K ?_
  refine W.seq ?_
  refine W.reg ?_
  refine WO.q (Q.loadN rfl (mem_at (i := 1) rfl) ag26 sz26 (l := [_, _, _, _, _, _, _, _, _, _, _]) rfl) rfl ?_
  refine WO.store sz26 rfl rfl (i := 0) rfl (nd_ck (OwnE.cell hP6) (OwnE.cell hP9)) (cs := [_, _, _, _, _, _, _, _, _, _, _]) rfl (hs' := _ :: _ :: _) rfl ?_
  refine WO.nil ?_
  refine End.K ?_
  refine W.ret ?_
  refine End.ret (ResL.agg (c := [_, _, _, _, _, _, _, _, _, _, _]) rfl (mem_at (i := 0) rfl) ag26 sz26 rfl ResL.nil) (hs' := D6 ++ D9) ⟨v6, v9, D6, D9, rfl, hP6, hP9, rfl⟩ (wa (OwnE.w hP6) (OwnE.w hP9)) gc

theorem mov_spec (hs : HSt) (hro : ∀ e ∈ hs, e.w = false) (A : List Int) (va : AV) (hA : RIn hs 1 A.length (cA A) va) (hAl : A.length ≤ 1048576) (U : List Int) (vu : AV) (hU : RIn hs 1 U.length (cA U) vu) (hok : ∀ a ∈ A, 0 ≤ a ∧ a < U.length) (hUl : U.length ≤ 1048576) : Spec tab 43 [va, vu] [] hs (fun v D => OwnE 1 (cA (mvA U A)) A.length v D) := by
  refine Spec.enter' (ft_get 43 Tryz.func43) rfl (m := 23) rfl (rs := [.tmp 4]) rfl (st := [(0, va), (1, vu)]) rfl rfl (fun _ => rfl) (fun E => ?_)
  refine W.seq ?_
  refine W.reg ?_
  refine WO.q (Q.assign rfl) rfl ?_
  refine WO.nil ?_
  refine End.K ?_
  refine W.seq ?_
  refine W.reg ?_
  refine WO.q (Q.assign rfl) rfl ?_
  refine WO.nil ?_
  refine End.K ?_
  refine W.seq ?_
  refine W.seq ?_
  refine W.reg ?_
  refine WO.q (Q.move rfl) rfl ?_
  refine WO.q (Q.len ud40 rfl hA.len) rfl ?_
  refine WO.q (Q.move (oc (v := .int .i64 ((0 : Nat) : Int)) rfl)) rfl ?_
  refine WO.nil ?_
  refine End.K ?_
  refine W.block ?_
  refine W.loop_ind3 (fun (i : Nat) (u : AV) (hp : HSt) => [(1, vu), (5, u), (8, va), (9, .int .i64 ((A.length : Nat) : Int)), (10, .int .i64 ((i : Nat) : Int))]) (fun (i : Nat) (u : AV) (hp : HSt) => (hs ++ hp)) (fun (i : Nat) (u : AV) (hp : HSt) => i ≤ A.length ∧ OwnE 1 (cA (mvA U (A.take i))) i u hp) (fun (i : Nat) (u : AV) (hp : HSt) => A.length - i) (0) (.nils) ([]) ⟨Nat.zero_le _, OwnE.nil 1⟩ (SubS.cons rfl (SubS.cons rfl (SubS.cons rfl (SubS.cons rfl (SubS.cons rfl (SubS.nil _)))))) (by rw [List.append_nil]; exact SubH.refl _) (fun i u hp hI0 ih0 => ?_)
  obtain ⟨h1, hO⟩ := hI0
  refine W.seq ?_
  refine W.reg ?_
  refine WO.q (Q.bin rfl rfl rfl (bv_lss lt_nat)) rfl ?_
  refine WO.nil ?_
  refine End.K ?_
  refine W.seq ?_
  refine W.condDS rfl (fun hc11 => ?_) (fun hc11 => ?_)
  · skip -- L0T
    obtain ⟨ba, sza, exa, rfl, wa, ma⟩ := hA.full (by omega)
    have hq := hok _ (ai_mem (A := A) (q := i) (by omega))
    obtain ⟨bu, szu, exu, rfl, wu, mu⟩ := hU.full (by omega)
    refine W.skip ?_
    refine End.K ?_
    refine W.seq ?_
    refine W.block ?_
    refine W.seq ?_
    refine W.reg ?_
    refine WO.q (Q.iaddrS ud40 sz3 rfl rfl (by first | omega | (simp at * <;> omega))) rfl ?_
    refine WO.q (Q.load1 rfl (List.mem_append_left _ ma) ag3 (cA_atN (by first | omega | (simp at * <;> omega)) (hok _ (ai_mem (by first | omega | (simp at * <;> omega)))).1)) rfl ?_
    refine WO.q (Q.assign rfl) rfl ?_
    refine WO.nil ?_
    refine End.K ?_
    refine W.reg ?_
    refine WO.q (Q.move rfl) rfl ?_
    refine WO.q (Q.move rfl) rfl ?_
    refine WO.q (Q.move rfl) rfl ?_
    refine WO.q (Q.iaddrS ud40 sz3 rfl rfl (by first | omega | (simp at * <;> omega))) rfl ?_
    refine WO.q (Q.load1 rfl (List.mem_append_left _ mu) ag3 (cA_at (by first | omega | (simp at * <;> omega)))) rfl ?_
    refine WO.bslice ud40 sz3 zr3 rfl (oPs_cons rfl oPs_nil) rfl (cs := [_]) rfl rfl rfl (fun b1 => ?_)
    refine WO.appAny (A := ([] ++ hs)) ap40_40 hO rfl rfl (Src.slice (mem_at (i := 0) rfl) rfl) rfl (by omega) (by decide) (SubH.of_sublist (List.sublist_cons_self _ _)) rfl (fun v20 hp20 hO20 => ?_)
    refine WO.q (Q.assign rfl) rfl ?_
    refine WO.nil ?_
    refine End.KB (End.K ?_)
    refine W.reg ?_
    refine WO.q (Q.bin rfl (oc (v := .int .i64 ((1 : Nat) : Int)) rfl) rfl (bv_add (wn_add (by first | omega | (simp at * <;> omega))))) rfl ?_
    refine WO.q (Q.move rfl) rfl ?_
    refine WO.nil ?_
    refine End.KL ?_
    refine W.sub (SubS.cons rfl (SubS.cons rfl (SubS.cons rfl (SubS.cons rfl (SubS.cons rfl (SubS.nil _)))))) (W.subH gc (ih0 (i + 1) (v20) (hp20) ?_ ?_))
    · exact ⟨by omega, by rw [mv_snoc (by omega)]; exact hO20⟩
    · exact (by first | omega | (simp at * <;> omega))
  · skip -- L0F
    refine W.exit ?_
    refine End.K_exit (End.KL_exit (End.KB_hit (End.K ?_)))
    refine W.seq ?_
    refine W.reg ?_
    refine WO.q (Q.move rfl) rfl ?_
    refine WO.q (Q.assign rfl) rfl ?_
    refine WO.nil ?_
    refine End.K ?_
    refine W.ret ?_
    refine End.ret (ResL.tmp rfl ResL.nil) (hs' := hp) (by rw [List.take_of_length_le (by omega)] at hO; exact (show i = A.length by omega) ▸ hO) (OwnE.w hO) gc
end Go.Proofs.YtndhhgbpcmfeiaaGreatDoor.Ev
