/- Chapters 12 to 14: samples between times; rows of series put together. -/
import Derived.Test.YtfkbfnpjggkdmaaGreatDoorOEa1
namespace Go.Proofs.YtfkbfnpjggkdmaaGreatDoor.Ev
open Go.RowKit
set_option maxRecDepth 100000
set_option maxHeartbeats 1000000
def btS (lo hi : Int) (x : Smp) : Bool := decide (lo ≤ x.1) && decide (x.1 ≤ hi)
theorem take_snoc {α : Type} (S : List α) (d : α) {i : Nat} (h : i < S.length) : S.take (i + 1) = S.take i ++ [S.getD i d] := by
 rw [List.take_add_one, List.getD_eq_getElem?_getD, List.getElem?_eq_getElem h]
 rfl
theorem btS_yes {S : List Smp} {lo hi : Int} {i : Nat} (h : i < S.length) (g : btS lo hi (sg S (0 + i)) = true) : (S.take (i + 1)).filter (btS lo hi) = (S.take i).filter (btS lo hi) ++ [sg S (0 + i)] := by
 rw [Nat.zero_add] at g ⊢
 rw [take_snoc S (0, 0) h, List.filter_append]
 congr 1
 exact List.filter_cons_of_pos g
theorem btS_no {S : List Smp} {lo hi : Int} {i : Nat} (h : i < S.length) (g : btS lo hi (sg S (0 + i)) = false) : (S.take (i + 1)).filter (btS lo hi) = (S.take i).filter (btS lo hi) := by
 rw [Nat.zero_add] at g
 rw [take_snoc S (0, 0) h, List.filter_append]
 have : List.filter (btS lo hi) [S.getD i (0, 0)] = [] := List.filter_cons_of_neg (by rw [show S.getD i (0, 0) = sg S i from rfl, g]; simp)
 rw [this, List.append_nil]
theorem own_s {O : List Smp} {x : Smp} {v : AV} {ho : HSt} (h : Own 2 (cS O ++ [.int .i64 x.1, .int .i64 x.2]) (O.length + 1) v ho) : Own 2 (cS (O ++ [x])) (O ++ [x]).length v ho := by
 have e1 : cS (O ++ [x]) = cS O ++ [.int .i64 x.1, .int .i64 x.2] := by rw [cS, c2_append]; rfl
 rw [e1, List.length_append]
 exact h
theorem ck2 {a b : AV} (ha : a.isCell = true) (hb : b.isCell = true) : (a.isCell && (b.isCell && true)) = true := by rw [ha, hb]; rfl
theorem own_end {R : List Ser} {i : Nat} {v : AV} {ho : HSt} (h1 : R.length ≤ i) (h2 : i ≤ R.length) (h : Own 2 (cR (R.take i)) i v ho) : Own 2 (cR R) R.length v ho := by
 rw [List.take_of_length_le h1] at h
 rw [show R.length = i from by omega]
 exact h
theorem own_r {R : List Ser} {i : Nat} {v : AV} {ho : HSt} (hi : i < R.length) (h : Own 2 (cR (R.take i) ++ [(rg R (i + 0)).1, (rg R (i + 0)).2.2.1]) (i + 1) v ho) : Own 2 (cR (R.take (i + 1))) (i + 1) v ho := by
 have e1 : cR (R.take (i + 1)) = cR (R.take i) ++ [(rg R (i + 0)).1, (rg R (i + 0)).2.2.1] := by rw [take_snoc R sd0 hi, cR, c2_append]; rfl
 rw [e1]
 exact h
theorem betw_spec (hs : HSt) (hro : ∀ e ∈ hs, e.w = false) (S : List Smp) (v : AV) (hS : SIn hs S v) (hSb : SBd S) (lo hi : Int) : Spec tab 94 [v, .int .i64 lo, .int .i64 hi] [] hs (fun v D => Own 2 (cS (S.filter (btS lo hi))) (S.filter (btS lo hi)).length v D) := by
 have hSl : S.length ≤ 1048576 := hSb
 refine Spec.en (ftg 94 Tryz.func94) rfl (m := 39) rfl (rs := [.tmp 6]) rfl (st := [(0, v), (1, .int .i64 lo), (2, .int .i64 hi)]) rfl rfl (fun _ => rfl) (fun E => ?_)
 refine W.seq ?_
 refine W.reg ?_
 refine WO.q (Q.assign rfl) rfl ?_
 refine WO.nil ?_
 refine End.K ?_
 refine W.seq ?_
 refine W.reg ?_
 refine WO.q (Q.assign rfl) rfl ?_
 refine WO.nil ?_
 refine End.K ?_
 refine W.seq ?_
 refine W.seq ?_
 refine W.reg ?_
 refine WO.q (Q.assign (oc (v := .int .i64 ((0 : Nat) : Int)) rfl)) rfl ?_
 refine WO.nil ?_
 refine End.K ?_
 refine W.block ?_
 refine W.loop_ind4 (fun (i : Nat) (O : List Smp) (o : AV) (ho : HSt) => [(0, v), (1, .int .i64 lo), (2, .int .i64 hi), (7, o), (8, .int .i64 ((i : Nat) : Int))]) (fun (i : Nat) (O : List Smp) (o : AV) (ho : HSt) => hs ++ ho) (fun (i : Nat) (O : List Smp) (o : AV) (ho : HSt) => i ≤ S.length ∧ O = (S.take i).filter (btS lo hi) ∧ Own 2 (cS O) O.length o ho) (fun (i : Nat) (O : List Smp) (o : AV) (ho : HSt) => S.length - i) (0) ([]) (.nils) ([]) ⟨Nat.zero_le _, by simp, Own.nil 2⟩ (SubS.cons rfl (SubS.cons rfl (SubS.cons rfl (SubS.cons rfl (SubS.cons rfl (SubS.nil _)))))) (SubH.of_sublist (by simp)) (fun i O o ho hI0 ih0 => ?_)
 obtain ⟨hi1, hO1, hO⟩ := hI0
 have hOl : O.length ≤ S.length := by rw [hO1]; exact Nat.le_trans (List.length_filter_le _ _) (by rw [List.length_take]; omega)
 have hOc := cS_len O
 refine W.seq ?_
 refine W.seq ?_
 refine W.reg ?_
 refine WO.q (Q.move rfl) rfl ?_
 refine WO.q (Q.move rfl) rfl ?_
 refine WO.q (Q.len ud66 rfl (SIn.len hS)) rfl ?_
 refine WO.q (Q.bin rfl rfl rfl (bvl ltn)) rfl ?_
 refine WO.nil ?_
 refine End.K ?_
 refine W.cD rfl (fun hc12 => ?_) (fun hc12 => ?_)
 ·skip -- L0T
  obtain ⟨bs, szs, exs, rfl, ws, ms⟩ := SIn.full hS (by omega)
  refine W.skip ?_
  refine End.K ?_
  refine W.seq ?_
  refine W.block ?_
  refine W.seq ?_
  refine W.reg ?_
  refine WO.q (Q.move rfl) rfl ?_
  refine WO.q (Q.move rfl) rfl ?_
  refine WO.q (Q.iS ud66 sz72 rfl rfl zo) rfl ?_
  refine WO.q (Q.fieldAddr fa72_0 rfl rfl) rfl ?_
  refine WO.q (Q.l1 rfl (List.mem_append_left _ ms) ag3 (cS_f0 zo)) rfl ?_
  refine WO.q (Q.move rfl) rfl ?_
  refine WO.q (Q.bin rfl rfl rfl (bv_geq le_int)) rfl ?_
  refine WO.q (Q.move rfl) rfl ?_
  refine WO.sD (d := 22) rfl (fun hc22 => ?_) (fun hc22 => ?_)
  ·skip -- L0Tt
   refine WO.gT rfl rfl ?_
   refine WO.q (Q.move rfl) rfl ?_
   refine WO.gT rfl rfl ?_
   refine WO.q (Q.move rfl) rfl ?_
   refine WO.gT rfl rfl ?_
   refine WO.q (Q.iS ud66 sz72 rfl rfl zo) rfl ?_
   refine WO.gT rfl rfl ?_
   refine WO.q (Q.fieldAddr fa72_0 rfl rfl) rfl ?_
   refine WO.gT rfl rfl ?_
   refine WO.q (Q.l1 rfl (List.mem_append_left _ ms) ag3 (cS_f0 zo)) rfl ?_
   refine WO.gT rfl rfl ?_
   refine WO.q (Q.move rfl) rfl ?_
   refine WO.gT rfl rfl ?_
   refine WO.q (Q.bin rfl rfl rfl (bv_leq le_int)) rfl ?_
   refine WO.q (Q.pT rfl rfl) rfl ?_
   refine WO.nil ?_
   refine End.K ?_
   refine W.sub (SubS.cons (k := 30) rfl (SubS.cons (k := 0) rfl (SubS.cons (k := 1) rfl (SubS.cons (k := 2) rfl (SubS.cons (k := 7) rfl (SubS.cons (k := 8) rfl (SubS.nil _))))))) ?_
   refine W.cD rfl (fun hc30 => ?_) (fun hc30 => ?_)
   ·skip -- L0TtT
    refine W.reg ?_
    refine WO.q (Q.move rfl) rfl ?_
    refine WO.q (Q.move rfl) rfl ?_
    refine WO.q (Q.move rfl) rfl ?_
    refine WO.q (Q.iS ud66 sz72 rfl rfl zo) rfl ?_
    refine WO.q (Q.loadN rfl (List.mem_append_left _ ms) ag72 sz72 (cS_at zo)) rfl ?_
    refine WO.bslice ud66 sz72 zr72 rfl (opc rfl opn) rfl (cs := [_, _]) rfl rfl rfl (fun b1 => ?_)
    refine WO.appOwn (e := ⟨b1, _, true⟩) (A := ([] ++ hs)) ap66_66 hO rfl rfl rfl rfl ⟨by first | omega | (simp at * <;> omega), by first | omega | (simp at * <;> omega)⟩ (by decide) rfl rfl (fun v37 hp37 hO37 => ?_)
    refine WO.q (Q.assign rfl) rfl ?_
    refine WO.nil ?_
    refine End.KB (End.K ?_)
    refine W.reg ?_
    refine WO.q (Q.move rfl) rfl ?_
    refine WO.q (Q.bin rfl (oc (v := .int .i64 ((1 : Nat) : Int)) rfl) rfl (bv_add (wna zo))) rfl ?_
    refine WO.q (Q.assign rfl) rfl ?_
    refine WO.nil ?_
    refine End.KL ?_
    refine W.sub (SubS.cons rfl (SubS.cons rfl (SubS.cons rfl (SubS.cons rfl (SubS.cons rfl (SubS.nil _)))))) (W.sH (SubH.refl _) (ih0 (i + 1) (O ++ [sg S (0 + i)]) (v37) (hp37) ?_ ?_))
    ·exact ⟨by omega, by rw [hO1, btS_yes (by omega) (by simp only [btS, Bool.and_eq_true, decide_eq_true_eq]; exact ⟨by omega, by omega⟩)], own_s hO37⟩
    ·exact zo
   ·skip -- L0TtF
    refine W.skip ?_
    refine End.KB (End.K ?_)
    refine W.reg ?_
    refine WO.q (Q.move rfl) rfl ?_
    refine WO.q (Q.bin rfl (oc (v := .int .i64 ((1 : Nat) : Int)) rfl) rfl (bv_add (wna zo))) rfl ?_
    refine WO.q (Q.assign rfl) rfl ?_
    refine WO.nil ?_
    refine End.KL ?_
    refine W.sub (SubS.cons rfl (SubS.cons rfl (SubS.cons rfl (SubS.cons rfl (SubS.cons rfl (SubS.nil _)))))) (W.sH (SubH.refl _) (ih0 (i + 1) (O) (o) (ho) ?_ ?_))
    ·exact ⟨by omega, by rw [hO1, btS_no (by omega) (by simp only [btS, Bool.and_eq_false_iff, decide_eq_false_iff_not]; first | (left; omega) | (right; omega))], hO⟩
    ·exact zo
  ·skip -- L0Tf
   refine WO.gF rfl rfl (.inl rfl) rfl ?_
   refine WO.gF rfl rfl (.inl rfl) rfl ?_
   refine WO.gF rfl rfl (.inl rfl) rfl ?_
   refine WO.gF rfl rfl (.inl rfl) rfl ?_
   refine WO.gF rfl rfl (.inl rfl) rfl ?_
   refine WO.gF rfl rfl (.inl rfl) rfl ?_
   refine WO.gF rfl rfl (.inl rfl) rfl ?_
   refine WO.q (Q.pF rfl rfl) rfl ?_
   refine WO.nil ?_
   refine End.K ?_
   refine W.sub (SubS.cons (k := 30) rfl (SubS.cons (k := 0) rfl (SubS.cons (k := 1) rfl (SubS.cons (k := 2) rfl (SubS.cons (k := 7) rfl (SubS.cons (k := 8) rfl (SubS.nil _))))))) ?_
   refine W.condF rfl ?_
   refine W.skip ?_
   refine End.KB (End.K ?_)
   refine W.reg ?_
   refine WO.q (Q.move rfl) rfl ?_
   refine WO.q (Q.bin rfl (oc (v := .int .i64 ((1 : Nat) : Int)) rfl) rfl (bv_add (wna zo))) rfl ?_
   refine WO.q (Q.assign rfl) rfl ?_
   refine WO.nil ?_
   refine End.KL ?_
   refine W.sub (SubS.cons rfl (SubS.cons rfl (SubS.cons rfl (SubS.cons rfl (SubS.cons rfl (SubS.nil _)))))) (W.sH (SubH.refl _) (ih0 (i + 1) (O) (o) (ho) ?_ ?_))
   ·exact ⟨by omega, by rw [hO1, btS_no (by omega) (by simp only [btS, Bool.and_eq_false_iff, decide_eq_false_iff_not]; first | (left; omega) | (right; omega))], hO⟩
   ·exact zo
 ·skip -- L0F
  refine W.exit ?_
  refine End.Kx (End.Lx (End.Bh (End.K ?_)))
  refine W.seq ?_
  refine W.reg ?_
  refine WO.q (Q.move rfl) rfl ?_
  refine WO.q (Q.assign rfl) rfl ?_
  refine WO.nil ?_
  refine End.K ?_
  refine W.ret ?_
  refine End.ret (ResL.tmp rfl ResL.nil) (hs' := ho) (by rw [show S.filter (btS lo hi) = O by rw [hO1, List.take_of_length_le (by omega)]]; exact hO) hO.w (SubH.of_sublist (by simp))

theorem join_nb (hs : HSt) (hro : ∀ e ∈ hs, e.w = false) (R : List Ser) (v : AV) (hR : RSl hs R 0 v) (hRA : RAll hs R) (hRb : RBd R) : Spec tab 95 [.nils, v] [] hs (fun v D => Own 2 (cR R) R.length v D) := by
 have hRl := hRb.1
 refine Spec.en (ftg 95 Tryz.func95) rfl (m := 67) rfl (rs := [.tmp 4]) rfl (st := [(0, .nils), (1, v)]) rfl rfl (fun _ => rfl) (fun E => ?_)
 refine W.seq ?_
 refine W.reg ?_
 refine WO.q (Q.assign rfl) rfl ?_
 refine WO.nil ?_
 refine End.K ?_
 refine W.seq ?_
 refine W.reg ?_
 refine WO.q (Q.assign rfl) rfl ?_
 refine WO.nil ?_
 refine End.K ?_
 refine W.seq ?_
 refine W.block ?_
 refine W.loop_ind4 (fun (i : Nat) (u : AV) (o : AV) (ho : HSt) => [(0, .nils), (1, u), (5, o)]) (fun (i : Nat) (u : AV) (o : AV) (ho : HSt) => hs ++ ho) (fun (i : Nat) (u : AV) (o : AV) (ho : HSt) => i ≤ R.length ∧ RSl hs R i u ∧ Own 2 (cR (R.take i)) i o ho) (fun (i : Nat) (u : AV) (o : AV) (ho : HSt) => R.length - i) (0) (v) (.nils) ([]) ⟨Nat.zero_le _, hR, Own.nil 2⟩ (SubS.cons rfl (SubS.cons rfl (SubS.cons rfl (SubS.nil _)))) (SubH.of_sublist (by simp)) (fun i u o ho hI0 ih0 => ?_)
 obtain ⟨hi1, hU, hO⟩ := hI0
 have hOc := cR_len (R.take i)
 refine W.seq ?_
 refine W.seq ?_
 refine W.reg ?_
 refine WO.q (Q.move rfl) rfl ?_
 refine WO.q (Q.len ud22 rfl rfl) rfl ?_
 refine WO.q (Q.bin rfl (oc (v := .int .i64 ((0 : Nat) : Int)) rfl) rfl (bv_gtr (p := false) rfl)) rfl ?_
 refine WO.q (Q.move rfl) rfl ?_
 refine WO.gT rfl rfl ?_
 refine WO.q (Q.move rfl) rfl ?_
 refine WO.gT rfl rfl ?_
 refine WO.q (Q.len ud22 rfl (RSl.len hU)) rfl ?_
 refine WO.gT rfl rfl ?_
 refine WO.q (Q.bin rfl (oc (v := .int .i64 ((0 : Nat) : Int)) rfl) rfl (bv_gtr ltn)) rfl ?_
 refine WO.q (Q.pF rfl rfl) rfl ?_
 refine WO.nil ?_
 refine End.K ?_
 refine W.cD rfl (fun hc15 => ?_) (fun hc15 => ?_)
 ·skip -- L0T
  obtain ⟨br, szr, exr, rfl, wr, mr⟩ := RSl.full hU (by omega)
  have hx := hRA _ (rg_mem (R := R) (i := i + 0) (by omega))
  refine W.skip ?_
  refine End.K ?_
  refine W.block ?_
  refine W.seq ?_
  refine W.reg ?_
  refine WO.q (Q.assign (oc (v := .int .i64 ((0 : Nat) : Int)) rfl)) rfl ?_
  refine WO.nil ?_
  refine End.K ?_
  refine W.seq ?_
  refine W.block ?_
  refine W.seq ?_
  refine W.reg ?_
  refine WO.q (Q.move rfl) rfl ?_
  refine WO.q (Q.len ud22 rfl rfl) rfl ?_
  refine WO.q (Q.bin rfl (oc (v := .int .i64 ((0 : Nat) : Int)) rfl) rfl (bv_eql (p := true) rfl)) rfl ?_
  refine WO.q (Q.assign rfl) rfl ?_
  refine WO.nil ?_
  refine End.K ?_
  refine W.condT rfl ?_
  refine W.reg ?_
  refine WO.q (Q.assign (oc (v := .int .i64 ((1 : Nat) : Int)) rfl)) rfl ?_
  refine WO.nil ?_
  refine End.KB (End.K ?_)
  refine W.seq ?_
  refine W.seq ?_
  refine W.reg ?_
  refine WO.q (Q.move rfl) rfl ?_
  refine WO.q (Q.bin rfl (oc (v := .int .i64 ((0 : Nat) : Int)) rfl) rfl (bvl (p := false) rfl)) rfl ?_
  refine WO.nil ?_
  refine End.K ?_
  refine W.condF rfl ?_
  refine W.skip ?_
  refine End.K ?_
  refine W.sub (SubS.cons (k := 6) rfl (SubS.cons (k := 0) rfl (SubS.cons (k := 1) rfl (SubS.cons (k := 5) rfl (SubS.nil _))))) ?_
  refine W.seq ?_
  refine W.reg ?_
  refine WO.q (Q.move rfl) rfl ?_
  refine WO.q (Q.iS ud22 sz68 rfl (oc (v := .int .i64 ((0 : Nat) : Int)) rfl) zo) rfl ?_
  refine WO.q (Q.loadN rfl (List.mem_append_left _ mr) ag68 sz68 (cR_at zo)) rfl ?_
  refine WO.alloc ao68 rfl (fun b1 => ?_)
  refine WO.store sz68 rfl rfl (i := 0) rfl (ck2 (LIn.cell hx.1) (SIn.cell hx.2)) (cs := [_, _]) rfl (hs' := _ :: _) rfl ?_
  refine WO.nil ?_
  refine End.K ?_
  refine W.seq ?_
  refine W.seq ?_
  refine W.reg ?_
  refine WO.q (Q.move rfl) rfl ?_
  refine WO.q (Q.bin rfl (oc (v := .int .i64 ((0 : Nat) : Int)) rfl) rfl (bv_eql (p := false) rfl)) rfl ?_
  refine WO.nil ?_
  refine End.K ?_
  refine W.condF rfl ?_
  refine W.skip ?_
  refine End.K ?_
  refine W.seq ?_
  refine W.reg ?_
  refine WO.q (Q.move rfl) rfl ?_
  refine WO.q (Q.loadN rfl (mem_at (i := 0) rfl) ag68 sz68 (l := [_, _]) rfl) rfl ?_
  refine WO.bslice ud22 sz68 zr68 rfl (opc rfl opn) rfl (cs := [_, _]) rfl (ck2 (LIn.cell hx.1) (SIn.cell hx.2)) rfl (fun b2 => ?_)
  refine WO.appOwn (e := ⟨b2, _, true⟩) (A := ([_] ++ hs)) ap22_22 hO rfl rfl rfl rfl ⟨by first | omega | (simp at * <;> omega), by first | omega | (simp at * <;> omega)⟩ (by decide) rfl rfl (fun v63 hp63 hO63 => ?_)
  refine WO.q (Q.assign rfl) rfl ?_
  refine WO.nil ?_
  refine End.K ?_
  refine W.reg ?_
  refine WO.q (Q.move rfl) rfl ?_
  refine WO.q (Q.sliceL ud22 sz68 rfl rfl zo) rfl ?_
  refine WO.q (Q.assign rfl) rfl ?_
  refine WO.nil ?_
  refine End.KB (End.KL ?_)
  refine W.sub (SubS.cons rfl (SubS.cons rfl (SubS.cons rfl (SubS.nil _)))) (W.sH (SubH.of_sublist (List.sublist_cons_self _ _)) (ih0 (i + 1) (_) (v63) (hp63) ?_ ?_))
  ·exact ⟨by omega, RSl.next wr mr, own_r (by omega) hO63⟩
  ·exact zo
 ·skip -- L0F
  refine W.exit ?_
  refine End.Kx (End.Lx (End.Bh (End.K ?_)))
  refine W.seq ?_
  refine W.reg ?_
  refine WO.q (Q.move rfl) rfl ?_
  refine WO.q (Q.assign rfl) rfl ?_
  refine WO.nil ?_
  refine End.K ?_
  refine W.ret ?_
  refine End.ret (ResL.tmp rfl ResL.nil) (hs' := ho) (own_end (by omega) (by omega) hO) hO.w (SubH.of_sublist (by simp))

theorem join_an (hs : HSt) (hro : ∀ e ∈ hs, e.w = false) (R : List Ser) (v : AV) (hR : RSl hs R 0 v) (hRA : RAll hs R) (hRb : RBd R) : Spec tab 95 [v, .nils] [] hs (fun v D => Own 2 (cR R) R.length v D) := by
 have hRl := hRb.1
 refine Spec.en (ftg 95 Tryz.func95) rfl (m := 67) rfl (rs := [.tmp 4]) rfl (st := [(0, v), (1, .nils)]) rfl rfl (fun _ => rfl) (fun E => ?_)
 refine W.seq ?_
 refine W.reg ?_
 refine WO.q (Q.assign rfl) rfl ?_
 refine WO.nil ?_
 refine End.K ?_
 refine W.seq ?_
 refine W.reg ?_
 refine WO.q (Q.assign rfl) rfl ?_
 refine WO.nil ?_
 refine End.K ?_
 refine W.seq ?_
 refine W.block ?_
 refine W.loop_ind4 (fun (i : Nat) (u : AV) (o : AV) (ho : HSt) => [(0, u), (1, .nils), (5, o)]) (fun (i : Nat) (u : AV) (o : AV) (ho : HSt) => hs ++ ho) (fun (i : Nat) (u : AV) (o : AV) (ho : HSt) => i ≤ R.length ∧ RSl hs R i u ∧ Own 2 (cR (R.take i)) i o ho) (fun (i : Nat) (u : AV) (o : AV) (ho : HSt) => R.length - i) (0) (v) (.nils) ([]) ⟨Nat.zero_le _, hR, Own.nil 2⟩ (SubS.cons rfl (SubS.cons rfl (SubS.cons rfl (SubS.nil _)))) (SubH.of_sublist (by simp)) (fun i u o ho hI0 ih0 => ?_)
 obtain ⟨hi1, hU, hO⟩ := hI0
 have hOc := cR_len (R.take i)
 refine W.seq ?_
 refine W.seq ?_
 refine W.reg ?_
 refine WO.q (Q.move rfl) rfl ?_
 refine WO.q (Q.len ud22 rfl (RSl.len hU)) rfl ?_
 refine WO.q (Q.bin rfl (oc (v := .int .i64 ((0 : Nat) : Int)) rfl) rfl (bv_gtr ltn)) rfl ?_
 refine WO.q (Q.move rfl) rfl ?_
 refine WO.sD (d := 11) rfl (fun hc11 => ?_) (fun hc11 => ?_)
 ·skip -- L0t
  refine WO.gF rfl rfl (.inl rfl) rfl ?_
  refine WO.gF rfl rfl (.inl rfl) rfl ?_
  refine WO.gF rfl rfl (.inl rfl) rfl ?_
  refine WO.q (Q.pT rfl rfl) rfl ?_
  refine WO.nil ?_
  refine End.K ?_
  refine W.condT rfl ?_
  refine W.skip ?_
  refine End.K ?_
  refine W.block ?_
  refine W.seq ?_
  refine W.reg ?_
  refine WO.q (Q.assign (oc (v := .int .i64 ((0 : Nat) : Int)) rfl)) rfl ?_
  refine WO.nil ?_
  refine End.K ?_
  refine W.seq ?_
  refine W.block ?_
  refine W.seq ?_
  refine W.reg ?_
  refine WO.q (Q.move rfl) rfl ?_
  refine WO.q (Q.len ud22 rfl (RSl.len hU)) rfl ?_
  refine WO.q (Q.bin rfl (oc (v := .int .i64 ((0 : Nat) : Int)) rfl) rfl (bv_eql eq_nat)) rfl ?_
  refine WO.q (Q.assign rfl) rfl ?_
  refine WO.nil ?_
  refine End.K ?_
  refine W.cD rfl (fun hc25 => ?_) (fun hc25 => ?_)
  ·exfalso; omega
  ·skip -- L0tF
   obtain ⟨br, szr, exr, rfl, wr, mr⟩ := RSl.full hU (by omega)
   have hx := hRA _ (rg_mem (R := R) (i := i + 0) (by omega))
   refine W.seq ?_
   refine W.reg ?_
   refine WO.q (Q.move rfl) rfl ?_
   refine WO.q (Q.len ud22 rfl rfl) rfl ?_
   refine WO.q (Q.bin rfl (oc (v := .int .i64 ((0 : Nat) : Int)) rfl) rfl (bv_eql (p := true) rfl)) rfl ?_
   refine WO.q (Q.assign rfl) rfl ?_
   refine WO.nil ?_
   refine End.K ?_
   refine W.sub (SubS.cons (k := 29) rfl (SubS.cons (k := 0) rfl (SubS.cons (k := 1) rfl (SubS.cons (k := 5) rfl (SubS.nil _))))) ?_
   refine W.condT rfl ?_
   refine W.reg ?_
   refine WO.q (Q.assign rfl) rfl ?_
   refine WO.nil ?_
   refine End.KB (End.K ?_)
   refine W.seq ?_
   refine W.seq ?_
   refine W.reg ?_
   refine WO.q (Q.move rfl) rfl ?_
   refine WO.q (Q.bin rfl (oc (v := .int .i64 ((0 : Nat) : Int)) rfl) rfl (bvl (p := true) rfl)) rfl ?_
   refine WO.nil ?_
   refine End.K ?_
   refine W.condT rfl ?_
   refine W.seq ?_
   refine W.reg ?_
   refine WO.q (Q.move rfl) rfl ?_
   refine WO.q (Q.move rfl) rfl ?_
   refine WO.q (Q.iS ud22 sz68 rfl (oc (v := .int .i64 ((0 : Nat) : Int)) rfl) zo) rfl ?_
   refine WO.q (Q.loadN rfl (List.mem_append_left _ mr) ag68 sz68 (cR_at zo)) rfl ?_
   refine WO.bslice ud22 sz68 zr68 rfl (opc rfl opn) rfl (cs := [_, _]) rfl (ck2 (LIn.cell hx.1) (SIn.cell hx.2)) rfl (fun b1 => ?_)
   refine WO.appOwn (e := ⟨b1, _, true⟩) (A := ([] ++ hs)) ap22_22 hO rfl rfl rfl rfl ⟨by first | omega | (simp at * <;> omega), by first | omega | (simp at * <;> omega)⟩ (by decide) rfl rfl (fun v40 hp40 hO40 => ?_)
   refine WO.q (Q.assign rfl) rfl ?_
   refine WO.nil ?_
   refine End.K ?_
   refine W.seq ?_
   refine W.reg ?_
   refine WO.q (Q.move rfl) rfl ?_
   refine WO.q (Q.sliceL ud22 sz68 rfl rfl zo) rfl ?_
   refine WO.q (Q.assign rfl) rfl ?_
   refine WO.nil ?_
   refine End.K ?_
   refine W.exit ?_
   refine End.Kx (End.Bh (End.KL ?_))
   refine W.sub (SubS.cons rfl (SubS.cons rfl (SubS.cons rfl (SubS.nil _)))) (W.sH (SubH.refl _) (ih0 (i + 1) (_) (v40) (hp40) ?_ ?_))
   ·exact ⟨by omega, RSl.next wr mr, own_r (by omega) hO40⟩
   ·exact zo
 ·skip -- L0f
  refine WO.gT rfl rfl ?_
  refine WO.q (Q.move rfl) rfl ?_
  refine WO.gT rfl rfl ?_
  refine WO.q (Q.len ud22 rfl rfl) rfl ?_
  refine WO.gT rfl rfl ?_
  refine WO.q (Q.bin rfl (oc (v := .int .i64 ((0 : Nat) : Int)) rfl) rfl (bv_gtr (p := false) rfl)) rfl ?_
  refine WO.q (Q.pF rfl rfl) rfl ?_
  refine WO.nil ?_
  refine End.K ?_
  refine W.condF rfl ?_
  refine W.exit ?_
  refine End.Kx (End.Lx (End.Bh (End.K ?_)))
  refine W.seq ?_
  refine W.reg ?_
  refine WO.q (Q.move rfl) rfl ?_
  refine WO.q (Q.assign rfl) rfl ?_
  refine WO.nil ?_
  refine End.K ?_
  refine W.ret ?_
  refine End.ret (ResL.tmp rfl ResL.nil) (hs' := ho) (own_end (by omega) (by omega) hO) hO.w (SubH.of_sublist (by simp))

theorem ser_nil  : Spec tab 96 [.nils] [] [] (Val (.nils)) := by
 refine Spec.en (ftg 96 Tryz.func96) rfl (m := 58) rfl (rs := [.tmp 2]) rfl (st := [(0, .nils)]) rfl rfl (fun _ => rfl) (fun E => ?_)
 refine W.seq ?_
 refine W.reg ?_
 refine WO.q (Q.assign rfl) rfl ?_
 refine WO.nil ?_
 refine End.K ?_
 refine W.seq ?_
 refine W.reg ?_
 refine WO.q (Q.assign rfl) rfl ?_
 refine WO.nil ?_
 refine End.K ?_
 refine W.seq ?_
 refine W.seq ?_
 refine W.reg ?_
 refine WO.q (Q.assign (oc (v := .int .i64 ((0 : Nat) : Int)) rfl)) rfl ?_
 refine WO.nil ?_
 refine End.K ?_
 refine W.block ?_
 refine W.loop ?_
 refine W.seq ?_
 refine W.seq ?_
 refine W.reg ?_
 refine WO.q (Q.move rfl) rfl ?_
 refine WO.q (Q.move rfl) rfl ?_
 refine WO.q (Q.len ud22 rfl rfl) rfl ?_
 refine WO.q (Q.bin rfl rfl rfl (bvl (p := false) rfl)) rfl ?_
 refine WO.nil ?_
 refine End.K ?_
 refine W.condF rfl ?_
 refine W.exit ?_
 refine End.Kx (End.Lx (End.Bh (End.K ?_)))
 refine W.seq ?_
 refine W.reg ?_
 refine WO.q (Q.move rfl) rfl ?_
 refine WO.q (Q.assign rfl) rfl ?_
 refine WO.nil ?_
 refine End.K ?_
 refine W.ret ?_
 refine End.rV (ResL.tmp rfl ResL.nil) ?_
 rfl
end Go.Proofs.YtfkbfnpjggkdmaaGreatDoor.Ev
