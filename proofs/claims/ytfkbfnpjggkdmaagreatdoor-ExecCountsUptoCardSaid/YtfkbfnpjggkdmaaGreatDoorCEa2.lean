/- Chapters 6 and 8: whether matchers fit labels. -/
import Derived.Test.YtfkbfnpjggkdmaaGreatDoorCFactsE
import Derived.Test.YtfkbfnpjggkdmaaGreatDoorCYb
namespace Go.Proofs.YtfkbfnpjggkdmaaGreatDoor.Ev
open Go.RowKit
set_option maxRecDepth 100000
set_option maxHeartbeats 1000000
theorem Gu {m : ed} {l : List bA} (h : nE m ≠ 0) : bW [AV.bool false] = .bool (fitB m l) := by unfold fitB; rw [if_pos h]; rfl
theorem Gs {m : ed} {l : List bA} (h : nE m = 0) (h3 : m.1 < 3) : bW [AV.bool (decide (gt l m.2.1 = m.2.2) == decide (m.1 = 1))] = .bool (fitB m l) := by unfold fitB; rw [if_neg (by simp [h]), if_pos h3]; rfl
theorem Gv {m : ed} {l : List bA} (h : nE m = 0) (h3 : ¬ m.1 < 3) : bW [AV.bool (tP m.2.2 (gt l m.2.1) == decide (m.1 = 3))] = .bool (fitB m l) := by unfold fitB; rw [if_neg (by simp [h]), if_neg h3]; rfl
theorem qj {M : List ed} {i : Nat} {l : List bA} (h : i < M.length) : jB (M.drop i) l = (fitB (mg M i) l && jB (M.drop (i + 1)) l) := by
 rw [yk h]; rfl
theorem AF {M : List ed} {i : Nat} {l : List bA} (h : M.length <= i) : jB (M.drop i) l = true := by
 rw [List.drop_eq_nil_of_le h]; rfl
theorem tn {M : List ed} {i : Nat} {e : Int} (h : i < M.length) : Gb (M.drop i) e = if nE (mg M i) ≠ 0 then nE (mg M i) else Gb (M.drop (i + 1)) e := by
 rw [yk h]; rfl
theorem wK {M : List ed} {i : Nat} {e : Int} (h : M.length <= i) : Gb (M.drop i) e = e := by
 rw [List.drop_eq_nil_of_le h]; rfl
theorem BW (hs : af) (hro : ∀ e ∈ hs, e.w = false) (A : List bA) (va : AV) (ha : LIn hs A va) (hA : LBd A) (n : List Nat) (hn : Bytes n) : Spec tab 164 [va, .str n] [] hs (bN (.str (gt A n))) := by
 have hAl := hA.1
 refine ac (bz 164 Tryz.func164) rfl (m := 24) rfl (rs := [.tmp 4]) rfl (st := [(0, va), (1, .str n)]) rfl rfl (fun _ => rfl) (fun E => zr (zq (Q.assign (oc (v := .str []) (by kernel_rfl))) (zk (W.seq (zr (za (zi 0) (zk (W.block (W.loop_ind (fun (i : Nat) => [(0, va), (1, .str n), (5, .int .i64 ((i : Nat) : Int))]) (fun _ => _) (fun (i : Nat) => i <= A.length /\ gt A n = gt (A.drop i) n) (fun (i : Nat) => A.length - i) (0) ⟨Nat.zero_le _, rfl⟩ zv (SubH.refl _) (fun i hI0 ih0 => ?_))))))))))
 obtain ⟨h1, h3⟩ := hI0
 refine W.seq (zr (zm rfl (zm rfl (zq (Q.len cW rfl (LIn.len ha)) (zq (aa rfl rfl rfl (bu bY)) (zk (aB rfl (fun hc9 => ?_) (fun hc9 => ?_))))))))
 ·obtain ⟨ba, sza, exa, rfl, wa, ma⟩ := LIn.full ha zy
  refine zw (W.seq (W.block (zr (zm rfl (zm rfl (zq (bj cW eo rfl rfl zo) (zq (Q.fieldAddr fw rfl rfl) (zq (ag rfl ma gP (m9 zo)) (zm rfl (zq (aa rfl rfl rfl jb) (zk (aB rfl (fun hc18 => ?_) (fun hc18 => ?_)))))))))))))
  ·refine zr (zm rfl (zm rfl (zq (bj cW eo rfl rfl zo) (zq (Q.fieldAddr gX rfl rfl) (zq (ag rfl ma gP (tk zo)) (za rfl (zk (W.sub (zc 4 rfl aI) (W.ret (ah (ad (aU (ah (ad (ae (z1 rfl) ?_)))))))))))))))
   rw [h3, qE zy, if_pos (by simp_all)]; simp_all [fz]
  refine W.skip (End.KB (End.K (W.reg (zm rfl (zq (aa rfl (zi 1) rfl zp) (za rfl (WO.nil (End.KL (W.sub zv (ih0 (i + 1) ?_ ?_))))))))))
  ·exact ⟨by omega, by rw [h3, qE zy, if_neg (by simp_all)]⟩
  exact zo
 refine W.exit (am (aq (ap (End.K (zr (zq (Q.assign (oc (v := .str []) (by kernel_rfl))) (zk (W.ret (ae (z1 rfl) ?_)))))))))
 rw [h3, BV zy]; rfl

theorem vH (hs : af) (hro : ∀ e ∈ hs, e.w = false) (A : List bA) (va : AV) (ha : LIn hs A va) (hA : LBd A) (m : ed) (hm : Du m) : Spec tab 128 [.agg (mC m), va] [] hs (bN (.bool (fitB m A))) := by
 refine ac (bz 128 Tryz.func128) rfl (m := 38) rfl (rs := [.tmp 4]) rfl (st := [(0, .agg (mC m)), (1, va)]) rfl rfl (fun _ => rfl) (fun E => zr (WO.box rfl rfl (DU _ rfl) rfl (fun b1 => za rfl (zk (W.seq (zr (zq (ax rfl (zt 0 rfl) FV vY (l := [_, _, _]) rfl) (ak rfl (aj rfl oz) rfl (tw hm) SubR.nil rfl (zq (aa rfl (zi 0) rfl (bd f5)) (zk (aB rfl (fun hc10 => ?_) (fun hc10 => ?_))))))))))))
 ·refine zr (za rfl (zk (W.ret (ad (ae (z1 rfl) ?_)))))
  exact Gu (by simp_all)
 refine zw (zr (zm rfl (zf sc rfl 1 (zq (ag rfl (zt 0 rfl) gP rfl) (ak rfl (aj rfl (aj rfl oz)) rfl (BW hs hro A _ ha hA _ hm.1) (aQ (aN hro)) rfl (za rfl (zk (W.seq (zr (zf iM rfl 0 (zq (ag rfl (zt 0 rfl) bH rfl) (zq (aa rfl (zi 3) rfl (bu (bS _ _))) (zk (aB rfl (fun hc17 => ?_) (fun hc17 => ?_)))))))))))))))
 ·refine zr (zm rfl (zf kT rfl 2 (zq (ag rfl (zt 0 rfl) gP rfl) (zq (aa rfl rfl rfl jb) (zf iM rfl 0 (zq (ag rfl (zt 0 rfl) bH rfl) (zq (aa rfl (zi 1) rfl (ai oR)) (zq (aa rfl rfl rfl (wD Jy)) (za rfl (zk (W.sub (zc 4 rfl aI) (W.ret (ad (ae (z1 rfl) ?_))))))))))))))
  exact Gs (by simp_all) zy
 refine zw (zr (zf kT rfl 2 (zq (ag rfl (zt 0 rfl) gP rfl) (zm rfl (WO.callE rfl (aj rfl (aj rfl oz)) rfl (mD hm.2.2.1 hm.2.2.2 (sf hA).1 (sf hA).2) SubR.nil rfl (fun v30 hP30 => ?_))))))
 obtain ⟨fe, rfl⟩ := hP30
 refine zm rfl (zq (Q.extract rfl rfl) (zq (Q.extract rfl rfl) (za rfl (za rfl (zk (W.sub (zc 6 rfl (zc 2 rfl aI)) (zr (zm rfl (zf iM rfl 0 (zq (ag rfl (zt 0 rfl) bH rfl) (zq (aa rfl (zi 3) rfl (ai oR)) (zq (aa rfl rfl rfl (wD Jy)) (za rfl (zk (W.ret (ae (z1 rfl) ?_))))))))))))))))
 exact Gv (by simp_all) zy

theorem qQ (hs : af) (hro : ∀ e ∈ hs, e.w = false) (A : List bA) (va : AV) (ha : LIn hs A va) (hA : LBd A) (M : List ed) (v : AV) (hM : ISm hs M v) (hok : nB M) : Spec tab 93 [v, va] [] hs (bN (.bool (jB M A))) := by
 have hMl := hok.1
 refine ac (bz 93 Tryz.func93) rfl (m := 19) rfl (rs := [.tmp 4]) rfl (st := [(0, v), (1, va)]) rfl rfl (fun _ => rfl) (fun E => zr (za rfl (zk (W.seq (zr (za (zi 0) (zk (W.block (W.loop_ind (fun (i : Nat) => [(0, v), (1, va), (5, .int .i64 ((i : Nat) : Int))]) (fun _ => _) (fun (i : Nat) => i <= M.length /\ jB M A = jB (M.drop i) A) (fun (i : Nat) => M.length - i) (0) ⟨Nat.zero_le _, rfl⟩ zv (SubH.refl _) (fun i hI0 ih0 => ?_))))))))))
 obtain ⟨hi, h3⟩ := hI0
 refine W.seq (zr (zm rfl (zm rfl (zq (Q.len v8 rfl (sm hM)) (zq (aa rfl rfl rfl (bu bY)) (zk (aB rfl (fun hc9 => ?_) (fun hc9 => ?_))))))))
 ·obtain ⟨bm, szm, exm, rfl, wm, mm⟩ := tU hM zy
  have hx := Cn hok (i := i) zy
  refine zw (W.seq (W.block (zr (zm rfl (zm rfl (zq (bj v8 vY rfl rfl zo) (zq (ax rfl mm FV vY (IY zy)) (zm rfl (ak rfl (aj rfl (aj rfl oz)) rfl (vH hs hro A _ ha hA (mg M i) hx) (aN hro) rfl (zq (Q.not rfl rfl) (zk (W.condS rfl (fun hc18 => ?_) (fun hc18 => ?_)))))))))))))
  ·refine zr (za rfl (zk (W.sub (zc 4 rfl aI) (W.ret (ah (ad (aU (ah (ad (ae (z1 rfl) ?_))))))))))
   rw [h3, qj zy]; simp_all [fz]
  refine W.skip (End.KB (End.K (W.reg (zm rfl (zq (aa rfl (zi 1) rfl zp) (za rfl (WO.nil (End.KL (W.sub zv (ih0 (i + 1) ?_ ?_))))))))))
  ·exact ⟨by omega, by rw [h3, qj zy]; simp_all⟩
  exact zo
 refine W.exit (am (aq (ap (End.K (zr (za rfl (zk (W.ret (ae (z1 rfl) ?_)))))))))
 rw [h3, AF zy]; rfl

theorem Cj (hs : af) (hro : ∀ e ∈ hs, e.w = false) (M : List ed) (v : AV) (hM : ISm hs M v) (hok : nB M) : Spec tab 58 [v] [] hs (bN (.int .i64 (uF M))) := by
 have hMl := hok.1
 refine ac (bz 58 Tryz.func58) rfl (m := 24) rfl (rs := [.tmp 2]) rfl (st := [(0, v)]) rfl rfl (fun _ => rfl) (fun E => zr (za (zi 0) (zk (W.seq (zr (zm rfl (zq (Q.len v8 rfl (sm hM)) (zq (aa rfl (zi 8) rfl (aJ bY)) (zk (aB rfl (fun hc7 => ?_) (fun hc7 => ?_)))))))))))
 ·refine zr (za (zi 3) (zk (W.ret (ad (ae (z1 rfl) ?_)))))
  unfold uF; rw [if_pos zy]; rfl
 refine zw (W.seq (zr (za (zi 0) (zk (W.block (W.loop_ind (fun (i : Nat) => [(0, v), (3, .int .i64 ((i : Nat) : Int))]) (fun _ => _) (fun (i : Nat) => i <= M.length /\ uF M = Gb (M.drop i) (if jB M [] = true then 2 else 0)) (fun (i : Nat) => M.length - i) (0) ⟨Nat.zero_le _, by unfold uF; rw [if_neg zy]; rfl⟩ zv (SubH.refl _) (fun i hI0 ih0 => ?_)))))))
 obtain ⟨hi, h3⟩ := hI0
 refine W.seq (zr (zm rfl (zm rfl (zq (Q.len v8 rfl (sm hM)) (zq (aa rfl rfl rfl (bu bY)) (zk (aB rfl (fun hc11 => ?_) (fun hc11 => ?_))))))))
 ·obtain ⟨bm, szm, exm, rfl, wm, mm⟩ := tU hM zy
  have hx := Cn hok (i := i) zy
  refine zw (W.seq (W.block (zr (zm rfl (zm rfl (zq (bj v8 vY rfl rfl zo) (zq (ax rfl mm FV vY (IY zy)) (ak rfl (aj rfl oz) rfl (tw (m := mg M i) hx) SubR.nil rfl (za rfl (zk (zr (zm rfl (zq (aa rfl (zi 0) rfl (bd f5)) (zk (aB rfl (fun hc20 => ?_) (fun hc20 => ?_))))))))))))))))
  ·refine zr (zm rfl (za rfl (zk (W.sub (zc 2 rfl aI) (W.ret (ah (ad (aU (ah (ad (ae (z1 rfl) ?_)))))))))))
   rw [h3, tn zy]; simp_all [fz]
  refine W.skip (End.KB (End.K (W.reg (zm rfl (zq (aa rfl (zi 1) rfl zp) (za rfl (WO.nil (End.KL (W.sub zv (ih0 (i + 1) ?_ ?_))))))))))
  ·exact ⟨by omega, by rw [h3, tn zy]; simp_all⟩
  exact zo
 refine W.exit (am (aq (ap (End.K (W.seq (zr (zm rfl (ak rfl (aj rfl (aj rfl oz)) rfl (qQ hs hro [] .nils (.inl ⟨rfl, rfl⟩) ⟨by simp, fun x h => by simp at h⟩ M _ hM hok) (aN hro) rfl (zk (W.condS rfl (fun hc23 => ?_) (fun hc23 => ?_)))))))))))
 ·refine zr (za (zi 2) (zk (W.ret (ad (ae (z1 rfl) ?_)))))
  rw [h3, wK zy]; simp_all [fz]
 refine zw (zr (za (zi 0) (zk (W.ret (ae (z1 rfl) ?_)))))
 rw [h3, wK zy]; simp_all [fz]
def ky (lo hi : Int) (x : bP) : Bool := decide (lo <= x.1) && decide (x.1 <= hi)
theorem cb {α : Type} (S : List α) (d : α) {i : Nat} (h : i < S.length) : S.take (i + 1) = S.take i ++ [S.getD i d] := by
 rw [List.take_add_one, List.getD_eq_getElem?_getD, List.getElem?_eq_getElem h]
 rfl
theorem DO {S : List bP} {lo hi : Int} {i : Nat} (h : i < S.length) (g : ky lo hi (sg S (0 + i)) = true) : (S.take (i + 1)).filter (ky lo hi) = (S.take i).filter (ky lo hi) ++ [sg S (0 + i)] := by
 rw [Nat.zero_add] at g ⊢
 rw [cb S (0, 0) h, List.filter_append]
 congr 1
 exact List.filter_cons_of_pos g
theorem AR {S : List bP} {lo hi : Int} {i : Nat} (h : i < S.length) (g : ky lo hi (sg S (0 + i)) = false) : (S.take (i + 1)).filter (ky lo hi) = (S.take i).filter (ky lo hi) := by
 rw [Nat.zero_add] at g
 rw [cb S (0, 0) h, List.filter_append]
 have : List.filter (ky lo hi) [S.getD i (0, 0)] = [] := List.filter_cons_of_neg (by rw [show S.getD i (0, 0) = sg S i from rfl, g]; simp)
 rw [this, List.append_nil]
theorem Jb {O : List bP} {x : bP} {v : AV} {ho : af} (h : Own 2 (cS O ++ [.int .i64 x.1, .int .i64 x.2]) (O.length + 1) v ho) : Own 2 (cS (O ++ [x])) (O ++ [x]).length v ho := by
 have e1 : cS (O ++ [x]) = cS O ++ [.int .i64 x.1, .int .i64 x.2] := by rw [cS, iV]; rfl
 rw [e1, List.length_append]
 exact h
theorem uG {a b : AV} (ha : a.isCell = true) (hb : b.isCell = true) : (a.isCell && (b.isCell && true)) = true := by rw [ha, hb]; rfl
theorem yq {R : List bV} {i : Nat} {v : AV} {ho : af} (h1 : R.length <= i) (h2 : i <= R.length) (h : Own 2 (cR (R.take i)) i v ho) : Own 2 (cR R) R.length v ho := by
 rw [List.take_of_length_le h1] at h
 rw [show R.length = i from by omega]
 exact h
theorem FG {R : List bV} {i : Nat} {v : AV} {ho : af} (hi : i < R.length) (h : Own 2 (cR (R.take i) ++ [(rg R (i + 0)).1, (rg R (i + 0)).2.2.1]) (i + 1) v ho) : Own 2 (cR (R.take (i + 1))) (i + 1) v ho := by
 have e1 : cR (R.take (i + 1)) = cR (R.take i) ++ [(rg R (i + 0)).1, (rg R (i + 0)).2.2.1] := by rw [cb R CO hi, cR, iV]; rfl
 rw [e1]
 exact h
theorem yX (hs : af) (hro : ∀ e ∈ hs, e.w = false) (S : List bP) (v : AV) (hS : SIn hs S v) (hSb : SBd S) (lo hi : Int) : Spec tab 94 [v, .int .i64 lo, .int .i64 hi] [] hs (fun v D => Own 2 (cS (S.filter (ky lo hi))) (S.filter (ky lo hi)).length v D) := by
 have hSl : S.length <= 1048576 := hSb
 refine ac (bz 94 Tryz.func94) rfl (m := 39) rfl (rs := [.tmp 6]) rfl (st := [(0, v), (1, .int .i64 lo), (2, .int .i64 hi)]) rfl rfl (fun _ => rfl) (fun E => zr (za rfl (zk (zr (za rfl (zk (W.seq (zr (za (zi 0) (zk (W.block (fD (fun (i : Nat) (O : List bP) (o : AV) (ho : af) => [(0, v), (1, .int .i64 lo), (2, .int .i64 hi), (7, o), (8, .int .i64 ((i : Nat) : Int))]) (fun (i : Nat) (O : List bP) (o : AV) (ho : af) => hs ++ ho) (fun (i : Nat) (O : List bP) (o : AV) (ho : af) => i <= S.length /\ O = (S.take i).filter (ky lo hi) /\ Own 2 (cS O) O.length o ho) (fun (i : Nat) (O : List bP) (o : AV) (ho : af) => S.length - i) (0) ([]) (.nils) ([]) ⟨Nat.zero_le _, by simp, Own.nil 2⟩ zv (SubH.of_sublist (by simp)) (fun i O o ho hI0 ih0 => ?_)))))))))))))
 obtain ⟨hi1, hO1, hO⟩ := hI0
 have hOl : O.length <= S.length := by rw [hO1]; exact Nat.le_trans (List.length_filter_le _ _) (by rw [List.length_take]; omega)
 have hOc := oJ O
 refine W.seq (zr (zm rfl (zm rfl (zq (Q.len fm rfl (SIn.len hS)) (zq (aa rfl rfl rfl (bu bY)) (zk (aB rfl (fun hc12 => ?_) (fun hc12 => ?_))))))))
 ·obtain ⟨bs, szs, exs, rfl, ws, ms⟩ := SIn.full hS zy
  refine zw (W.seq (W.block (zr (zm rfl (zm rfl (zq (bj fm ik rfl rfl zo) (zq (Q.fieldAddr fX rfl rfl) (zq (ag rfl (List.mem_append_left _ ms) bH (na zo)) (zm rfl (zq (aa rfl rfl rfl (bp dc)) (zm rfl (aC (d := 22) rfl (fun hc22 => ?_) (fun hc22 => ?_)))))))))))))
  ·refine zT (zm rfl (zT (zm rfl (zT (zq (bj fm ik rfl rfl zo) (zT (zq (Q.fieldAddr fX rfl rfl) (zT (zq (ag rfl (List.mem_append_left _ ms) bH (na zo)) (zT (zm rfl (zT (zq (aa rfl rfl rfl (aZ dc)) (zq (aA rfl rfl) (zk (W.sub (zc 30 rfl (zc 0 rfl (zc 1 rfl (zc 2 rfl (zc 7 rfl (zc 8 rfl aI)))))) (aB rfl (fun hc30 => ?_) (fun hc30 => ?_))))))))))))))))))
   ·refine W.reg (zm rfl (zm rfl (zm rfl (zq (bj fm ik rfl rfl zo) (zq (ax rfl (List.mem_append_left _ ms) DI ik (A4 zo)) (WO.bslice fm ik HN rfl (cy rfl dE) rfl (cs := [_, _]) rfl rfl rfl (fun b1 => cw (e := ⟨b1, _, true⟩) (A := ([] ++ hs)) rE hO rfl rfl rfl rfl ⟨by first | omega | (simp at * <;> omega), by first | omega | (simp at * <;> omega)⟩ (by decide) rfl rfl (fun v37 hp37 hO37 => za rfl (WO.nil (End.KB (End.K (W.reg (zm rfl (zq (aa rfl (zi 1) rfl zp) (za rfl (WO.nil (End.KL (W.sub zv (cz (SubH.refl _) (ih0 (i + 1) (O ++ [sg S (0 + i)]) (v37) (hp37) ?_ ?_))))))))))))))))))))
    ·exact ⟨by omega, by rw [hO1, DO zy (by simp only [ky, Bool.and_eq_true, decide_eq_true_eq]; exact ⟨by omega, by omega⟩)], Jb hO37⟩
    exact zo
   refine W.skip (End.KB (End.K (W.reg (zm rfl (zq (aa rfl (zi 1) rfl zp) (za rfl (WO.nil (End.KL (W.sub zv (cz (SubH.refl _) (ih0 (i + 1) (O) (o) (ho) ?_ ?_)))))))))))
   ·exact ⟨by omega, by rw [hO1, AR zy (by simp only [ky, Bool.and_eq_false_iff, decide_eq_false_iff_not]; first | (left; omega) | (right; omega))], hO⟩
   exact zo
  refine z2 (z2 (z2 (zG (zq (aF rfl rfl) (zk (W.sub (zc 30 rfl (zc 0 rfl (zc 1 rfl (zc 2 rfl (zc 7 rfl (zc 8 rfl aI)))))) (W.condF rfl (W.skip (End.KB (End.K (W.reg (zm rfl (zq (aa rfl (zi 1) rfl zp) (za rfl (WO.nil (End.KL (W.sub zv (cz (SubH.refl _) (ih0 (i + 1) (O) (o) (ho) ?_ ?_)))))))))))))))))))
  ·exact ⟨by omega, by rw [hO1, AR zy (by simp only [ky, Bool.and_eq_false_iff, decide_eq_false_iff_not]; first | (left; omega) | (right; omega))], hO⟩
  exact zo
 refine W.exit (am (aq (ap (End.K (zr (zm rfl (za rfl (zk (W.ret ?_)))))))))
 refine End.ret (z1 rfl) (hs' := ho) (by rw [show S.filter (ky lo hi) = O by rw [hO1, List.take_of_length_le zy]]; exact hO) hO.w (SubH.of_sublist (by simp))

theorem Ew (hs : af) (hro : ∀ e ∈ hs, e.w = false) (R : List bV) (v : AV) (hR : RSl hs R 0 v) (hRA : RAll hs R) (hRb : kp R) : Spec tab 95 [.nils, v] [] hs (fun v D => Own 2 (cR R) R.length v D) := by
 have hRl := hRb.1
 refine ac (bz 95 Tryz.func95) rfl (m := 67) rfl (rs := [.tmp 4]) rfl (st := [(0, .nils), (1, v)]) rfl rfl (fun _ => rfl) (fun E => zr (za rfl (zk (zr (za rfl (zk (W.seq (W.block (fD (fun (i : Nat) (u : AV) (o : AV) (ho : af) => [(0, .nils), (1, u), (5, o)]) (fun (i : Nat) (u : AV) (o : AV) (ho : af) => hs ++ ho) (fun (i : Nat) (u : AV) (o : AV) (ho : af) => i <= R.length /\ RSl hs R i u /\ Own 2 (cR (R.take i)) i o ho) (fun (i : Nat) (u : AV) (o : AV) (ho : af) => R.length - i) (0) (v) (.nils) ([]) ⟨Nat.zero_le _, hR, Own.nil 2⟩ zv (SubH.of_sublist (by simp)) (fun i u o ho hI0 ih0 => ?_))))))))))
 obtain ⟨hi1, hU, hO⟩ := hI0
 have hOc := A3 (R.take i)
 refine W.seq (zr (zm rfl (zq (Q.len dA rfl rfl) (zq (aa rfl (zi 0) rfl (aJ (p := false) rfl)) (zm rfl (zT (zm rfl (zT (zq (Q.len dA rfl (RSl.len hU)) (zT (zq (aa rfl (zi 0) rfl (aJ bY)) (zq (aF rfl rfl) (zk (aB rfl (fun hc15 => ?_) (fun hc15 => ?_)))))))))))))))
 ·obtain ⟨br, szr, exr, rfl, wr, mr⟩ := RSl.full hU zy
  have hx := hRA _ (eZ (R := R) (i := i + 0) zy)
  refine zw (W.block (zr (za (zi 0) (zk (W.seq (W.block (zr (zm rfl (zq (Q.len dA rfl rfl) (zq (aa rfl (zi 0) rfl (ai (p := true) rfl)) (za rfl (zk (W.condT rfl (W.reg (za (zi 1) (WO.nil (End.KB (End.K (W.seq (zr (zm rfl (zq (aa rfl (zi 0) rfl (bu (p := false) rfl)) (zk (W.condF rfl ?_))))))))))))))))))))))))
  refine zw (W.sub (zc 6 rfl (zc 0 rfl (zc 1 rfl (zc 5 rfl aI)))) (zr (zm rfl (zq (bj dA fk rfl (zi 0) zo) (zq (ax rfl (List.mem_append_left _ mr) AC fk (wJ zo)) (WO.alloc FX rfl (fun b1 => WO.store fk rfl rfl (i := 0) rfl (uG (LIn.cell hx.1) (SIn.cell hx.2)) (cs := [_, _]) rfl (hs' := _ :: _) rfl (zk (W.seq (zr (zm rfl (zq (aa rfl (zi 0) rfl (ai (p := false) rfl)) (zk (W.condF rfl (zw (zr (zm rfl (zq (ax rfl (zt 0 rfl) AC fk (l := [_, _]) rfl) (WO.bslice dA fk Dl rfl (cy rfl dE) rfl (cs := [_, _]) rfl (uG (LIn.cell hx.1) (SIn.cell hx.2)) rfl (fun b2 => cw (e := ⟨b2, _, true⟩) (A := ([_] ++ hs)) ln hO rfl rfl rfl rfl ⟨by first | omega | (simp at * <;> omega), by first | omega | (simp at * <;> omega)⟩ (by decide) rfl rfl (fun v63 hp63 hO63 => za rfl (zk (W.reg ?_)))))))))))))))))))))))
  refine zm rfl (zq (dZ dA fk rfl rfl zo) (za rfl (WO.nil (End.KB (End.KL (W.sub zv (cz (SubH.of_sublist (List.sublist_cons_self _ _)) (ih0 (i + 1) (_) (v63) (hp63) ?_ ?_))))))))
  ·exact ⟨by omega, RSl.next wr mr, FG zy hO63⟩
  exact zo
 refine W.exit (am (aq (ap (End.K (zr (zm rfl (za rfl (zk (W.ret ?_)))))))))
 refine End.ret (z1 rfl) (hs' := ho) (yq zy zy hO) hO.w (SubH.of_sublist (by simp))

theorem Eu (hs : af) (hro : ∀ e ∈ hs, e.w = false) (R : List bV) (v : AV) (hR : RSl hs R 0 v) (hRA : RAll hs R) (hRb : kp R) : Spec tab 95 [v, .nils] [] hs (fun v D => Own 2 (cR R) R.length v D) := by
 have hRl := hRb.1
 refine ac (bz 95 Tryz.func95) rfl (m := 67) rfl (rs := [.tmp 4]) rfl (st := [(0, v), (1, .nils)]) rfl rfl (fun _ => rfl) (fun E => zr (za rfl (zk (zr (za rfl (zk (W.seq (W.block (fD (fun (i : Nat) (u : AV) (o : AV) (ho : af) => [(0, u), (1, .nils), (5, o)]) (fun (i : Nat) (u : AV) (o : AV) (ho : af) => hs ++ ho) (fun (i : Nat) (u : AV) (o : AV) (ho : af) => i <= R.length /\ RSl hs R i u /\ Own 2 (cR (R.take i)) i o ho) (fun (i : Nat) (u : AV) (o : AV) (ho : af) => R.length - i) (0) (v) (.nils) ([]) ⟨Nat.zero_le _, hR, Own.nil 2⟩ zv (SubH.of_sublist (by simp)) (fun i u o ho hI0 ih0 => ?_))))))))))
 obtain ⟨hi1, hU, hO⟩ := hI0
 have hOc := A3 (R.take i)
 refine W.seq (zr (zm rfl (zq (Q.len dA rfl (RSl.len hU)) (zq (aa rfl (zi 0) rfl (aJ bY)) (zm rfl (aC (d := 11) rfl (fun hc11 => ?_) (fun hc11 => ?_)))))))
 ·refine z2 (zG (zq (aA rfl rfl) (zk (W.condT rfl (zw (W.block (zr (za (zi 0) (zk (W.seq (W.block (zr (zm rfl (zq (Q.len dA rfl (RSl.len hU)) (zq (aa rfl (zi 0) rfl (ai aG)) (za rfl (zk (aB rfl (fun hc25 => ?_) (fun hc25 => ?_)))))))))))))))))))
  ·exfalso; omega
  obtain ⟨br, szr, exr, rfl, wr, mr⟩ := RSl.full hU zy
  have hx := hRA _ (eZ (R := R) (i := i + 0) zy)
  refine zr (zm rfl (zq (Q.len dA rfl rfl) (zq (aa rfl (zi 0) rfl (ai (p := true) rfl)) (za rfl (zk (W.sub (zc 29 rfl (zc 0 rfl (zc 1 rfl (zc 5 rfl aI)))) (W.condT rfl (W.reg (za rfl (WO.nil (End.KB (End.K (W.seq (zr (zm rfl (zq (aa rfl (zi 0) rfl (bu (p := true) rfl)) (zk (W.condT rfl (zr (zm rfl (zm rfl (zq (bj dA fk rfl (zi 0) zo) (zq (ax rfl (List.mem_append_left _ mr) AC fk (wJ zo)) (WO.bslice dA fk Dl rfl (cy rfl dE) rfl (cs := [_, _]) rfl (uG (LIn.cell hx.1) (SIn.cell hx.2)) rfl (fun b1 => ?_)))))))))))))))))))))))))
  refine cw (e := ⟨b1, _, true⟩) (A := ([] ++ hs)) ln hO rfl rfl rfl rfl ⟨by first | omega | (simp at * <;> omega), by first | omega | (simp at * <;> omega)⟩ (by decide) rfl rfl (fun v40 hp40 hO40 => za rfl (zk (zr (zm rfl (zq (dZ dA fk rfl rfl zo) (za rfl (zk (W.exit (am (ap (End.KL (W.sub zv (cz (SubH.refl _) (ih0 (i + 1) (_) (v40) (hp40) ?_ ?_))))))))))))))
  ·exact ⟨by omega, RSl.next wr mr, FG zy hO40⟩
  exact zo
 refine zT (zm rfl (zT (zq (Q.len dA rfl rfl) (zT (zq (aa rfl (zi 0) rfl (aJ (p := false) rfl)) (zq (aF rfl rfl) (zk (W.condF rfl (W.exit (am (aq (ap (End.K (zr (zm rfl (za rfl (zk (W.ret ?_))))))))))))))))))
 refine End.ret (z1 rfl) (hs' := ho) (yq zy zy hO) hO.w (SubH.of_sublist (by simp))

theorem E3  : Spec tab 96 [.nils] [] [] (bN (.nils)) := by
 refine ac (bz 96 Tryz.func96) rfl (m := 58) rfl (rs := [.tmp 2]) rfl (st := [(0, .nils)]) rfl rfl (fun _ => rfl) (fun E => zr (za rfl (zk (zr (za rfl (zk (W.seq (zr (za (zi 0) (zk (W.block (W.loop (W.seq (zr (zm rfl (zm rfl (zq (Q.len dA rfl rfl) (zq (aa rfl rfl rfl (bu (p := false) rfl)) (zk (W.condF rfl (W.exit (am (aq (ap (End.K (zr ?_))))))))))))))))))))))))))
 refine zm rfl (za rfl (zk (W.ret (ae (z1 rfl) ?_))))
 rfl
end Go.Proofs.YtfkbfnpjggkdmaaGreatDoor.Ev
