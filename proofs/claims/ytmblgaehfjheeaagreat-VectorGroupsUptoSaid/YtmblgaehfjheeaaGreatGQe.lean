/- Chapter 19, walks: what topk and bottomk make of a vector. -/
import Derived.Test.YtmblgaehfjheeaaGreatGZt
namespace Go.Proofs.YtmblgaehfjheeaaGreat.Ev
open Go.RowKit
set_option linter.unusedVariables false
set_option linter.unusedSimpArgs false
set_option maxRecDepth 100000
set_option maxHeartbeats 1000000
theorem keyok_nil : KeyOK [] := ⟨Nat.zero_le _, fun x hx => by simp at hx⟩
section
variable {md : Int} {N : List (List Nat)} {A : List Lab}
theorem ak_0 (h : md = 0) : aggKey md N A = [] := if_pos h
theorem ak_1 (h : md ≠ 0) : aggKey md N A = keyM md N A := if_neg h
theorem ak_bd (h : LBd A) (md : Int) (N : List (List Nat)) : LBd (aggKey md N A) := by
 unfold aggKey
 split
 ·exact lbd_nil
 ·exact lbd_key h
theorem ak_key (h : KeyOK A) (md : Int) (N : List (List Nat)) : KeyOK (aggKey md N A) := by
 unfold aggKey
 split
 ·exact keyok_nil
 ·exact h.key md N
end
theorem eq74n : evBin tab .eql 74 .nilf .nilf = some (.bool true) := by kernel_rfl
theorem ag76 : tab.isAgg 76 = some true := by kernel_rfl
theorem ag80 : tab.isAgg 80 = some false := by kernel_rfl
theorem ao76 : AO tab 76 = some ⟨1, true, [.nilf]⟩ := by kernel_rfl
theorem pl76 : PL tab 76 [.nilf] [(0, 1)] = true := by kernel_rfl
theorem sz76 : tab.size 76 = some 1 := by kernel_rfl
theorem agg1_spec (hs : HSt) (hro : ∀ e ∈ hs, e.w = false) (A : List Lab) (va : AV) (ha : LIn hs A va) (hA : LBd A) (n : Int) (N : List (List Nat)) (vn : AV) (hN : SIn hs N vn) (hNb : SBd N) (md : Int) (bM bN : Nat) (m1 : MemH hs bM ⟨1, true, [.int .i64 md]⟩) (mN : MemH hs bN ⟨1, true, [vn]⟩) : Spec tab 54 [.agg [va, .int .i64 n], .ptr bM 0, .ptr bN 0] [] hs (fun v D => OwnE 2 (cL (aggKey md N A)) (aggKey md N A).length v D) := by
 have m1o := m1
 have mNo := mN
 obtain ⟨w1, m1⟩ := m1
 obtain ⟨wN, mN⟩ := mN
 refine Spec.en (ftg 54 Tryz.func54) rfl (m := 12) rfl (rs := [.tmp 4]) rfl (st := [(0, .agg [va, .int .i64 n]), (1, .ptr bM 0), (2, .ptr bN 0)]) rfl rfl (fun _ => rfl) (fun E => zr (WO.box rfl (all_c2 (LIn.cell ha)) (bx35 _ rfl) rfl (fun b1 => za rfl (zk (W.seq (zr (zq (Q.l1 rfl (List.mem_cons_of_mem _ m1) ag3 rfl) (zq (Q.bin rfl (zi 0) rfl (bv_eql eq_int)) (zk (W.cD rfl (fun hc6 => ?_) (fun hc6 => ?_)))))))))))
 ·refine zr (za rfl (zk (W.ret ?_)))
  refine End.Kr (End.ret (z1 rfl) (hs' := []) (by rw [ak_0 (by simpa using hc6)]; exact OwnE.nil 2) no_wl (SubH.nil _))
 refine zw (zr (zq (Q.l1 rfl (List.mem_cons_of_mem _ m1) ag3 rfl) (zq (Q.l1 rfl (List.mem_cons_of_mem _ mN) ag40 rfl) (zf fa35_0 rfl 0 (zq (Q.l1 rfl (zt 0 rfl) ag33 rfl) (WO.call0 rfl (oLc rfl (oLc rfl (oLc rfl oz))) rfl (key_spec hs hro A _ ha hA N _ hN hNb md) (SubR.t (SubR.s hro)) rfl (fun v11 D11 hP11 => WO.subH (hs' := _ :: (hs ++ D11)) (SubH.op (perm_tail (N := []) (G := D11) (K := [_]) (X := hs))) (za rfl (zk (W.ret ?_))))))))))
 refine End.ret (z1 rfl) (hs' := D11) (by rw [ak_1 (by simpa using hc6)]; exact hP11) (OwnE.w hP11) gc

theorem agg2_spec (hs : HSt) (hro : ∀ e ∈ hs, e.w = false) (A : List Lab) (va : AV) (ha : LIn hs A va) (hK : KeyOK A) (n : Int) (N : List (List Nat)) (vn : AV) (hN : SIn hs N vn) (hNb : SBd N) (md : Int) (bM bN : Nat) (m1 : MemH hs bM ⟨1, true, [.int .i64 md]⟩) (mN : MemH hs bN ⟨1, true, [vn]⟩) (bL : Nat) (m4 : MemH hs bL ⟨1, true, [.func 54 [.ptr bM 0, .ptr bN 0]]⟩) : Spec tab 57 [.agg [va, .int .i64 n], .ptr bL 0] [] hs (Val (.str (prM (aggKey md N A)))) := by
 have m4o := m4
 obtain ⟨w4, m4⟩ := m4
 refine Spec.en (ftg 57 Tryz.func57) rfl (m := 8) rfl (rs := [.tmp 3]) rfl (st := [(0, .agg [va, .int .i64 n]), (1, .ptr bL 0)]) rfl rfl (fun _ => rfl) (fun E => zr (WO.box rfl (all_c2 (LIn.cell ha)) (bx35 _ rfl) rfl (fun b1 => zq (Q.assign (oc (v := .str []) (by kernel_rfl))) (zk (zr (zq (Q.l1 rfl (List.mem_cons_of_mem _ m4) ag80 rfl) (zq (Q.loadN rfl (zt 0 rfl) ag35 sz35 (l := [_, _]) rfl) (WO.call0 rfl (oLc rfl oz) rfl (agg1_spec hs hro A _ ha hK.bd n N vn hN hNb md bM bN m1 mN) (SubR.t (SubR.s hro)) rfl (fun v6 D6 hP6 => WO.subH (hs' := _ :: (hs ++ D6)) (SubH.op (perm_tail (N := []) (G := D6) (K := [_]) (X := hs))) (WO.cV rfl (oLc rfl oz) rfl (print_spec (ro D6) ro_w _ _ ((LIn.own hP6).mono fun b o h => h.ro) (ak_key hK md N)) (SubR.ro gc) rfl (za rfl (zk (W.ret (End.rV (z1 rfl) ?_))))))))))))))
 rfl

theorem agg3_spec (hs : HSt) (hro : ∀ e ∈ hs, e.w = false) (X Y : List El) (bx by_ szx szy : Nat) (exx exy : Bool) (mx : MemH hs bx ⟨szx, exx, cE X⟩) (my : MemH hs by_ ⟨szy, exy, cE Y⟩) (hXL : ∀ x ∈ X, LIn hs x.2.1 x.1) (hYL : ∀ x ∈ Y, LIn hs x.2.1 x.1) (hXB : EBd X) (hYB : EBd Y) (hx0 : 0 < X.length) (hy0 : 0 < Y.length) (N : List (List Nat)) (vn : AV) (hN : SIn hs N vn) (hNb : SBd N) (md : Int) (bM bN : Nat) (m1 : MemH hs bM ⟨1, true, [.int .i64 md]⟩) (mN : MemH hs bN ⟨1, true, [vn]⟩) (bL : Nat) (m4 : MemH hs bL ⟨1, true, [.func 54 [.ptr bM 0, .ptr bN 0]]⟩) : Spec tab 60 [.slice bx 0 X.length 2, .slice by_ 0 Y.length 2, .ptr bL 0] [] hs (Val (.int .i64 (cmpL (aggKey md N (eg X 0).2.1) (aggKey md N (eg Y 0).2.1)))) := by
 have hX : EIn hs X (.slice bx 0 X.length 2) := ⟨.inr ⟨_, _, _, rfl, mx⟩, hXL⟩
 have hY : EIn hs Y (.slice by_ 0 Y.length 2) := ⟨.inr ⟨_, _, _, rfl, my⟩, hYL⟩
 obtain ⟨wx, mx⟩ := mx
 obtain ⟨wy, my⟩ := my
 have hXl := hXB.1
 have hYl := hYB.1
 obtain ⟨w4, m4⟩ := m4
 refine Spec.en (ftg 60 Tryz.func60) rfl (m := 17) rfl (rs := [.tmp 5]) rfl (st := [(0, .slice bx 0 X.length 2), (1, .slice by_ 0 Y.length 2), (2, .ptr bL 0)]) rfl rfl (fun _ => rfl) (fun E => zr (za (zi 0) (zk (W.seq (W.regD 9 _ (by kernel_rfl) (KIn.refl _) (WD.q (Q.l1 rfl m4 ag80 rfl) (by simp [AV.beq, beq1, beq0, beqL]) rfl (WD.q (Q.move rfl) bqs rfl (WD.q (Q.iaddrL ud22 sz35 rfl (zi 0) zo (o' := 0) rfl) bqp rfl (WD.q (Q.loadN rfl mx ag35 sz35 (cE_at (V := X) (i := 0) zy)) (bq_agg2 (LIn.bq0 (hX.at zy))) rfl (WD.call0 rfl (oLc rfl oz) rfl (agg1_spec hs hro _ _ (hX.at zy) (hXB.at zy).1 _ N vn hN hNb md bM bN m1 mN) (SubR.s hro) (KIn.refl _) rfl (fun v10 D10 hP10 => WD.subH (hs' := (hs ++ D10)) (SubH.op (perm_tail (N := []) (G := D10) (K := []) (X := hs))) (WD.q (Q.l1 rfl m4 ag80 rfl) (by simp [AV.beq, beq1, beq0, beqL]) rfl (WD.q (Q.move rfl) bqs rfl (WD.q (Q.iaddrL ud22 sz35 rfl (zi 0) zo (o' := 0) rfl) bqp rfl (WD.q (Q.loadN rfl my ag35 sz35 (cE_at (V := Y) (i := 0) zy)) (bq_agg2 (LIn.bq0 (hY.at zy))) rfl (WD.call0 rfl (oLc rfl oz) rfl (agg1_spec hs hro _ _ (hY.at zy) (hYB.at zy).1 _ N vn hN hNb md bM bN m1 mN) (SubR.appl (SubR.s hro)) (KIn.ofH gc) rfl (fun v15 D15 hP15 => WD.subH (hs' := (hs ++ D10 ++ D15)) (SubH.op (perm_tail (N := []) (G := D15) (K := []) (X := hs ++ D10))) (WD.callV rfl (oLc rfl (oLc rfl oz)) rfl (cmp_spec (ro (D10 ++ D15)) ro_w _ _ _ _ ((LIn.own hP10).mono fun b o h => h.appl.ro) ((LIn.own hP15).mono fun b o h => h.app.ro) (ak_bd (hXB.at zy).1 md N) (ak_bd (hYB.at zy).1 md N)) (SubR.ro gc) (KIn.ofH gc) rfl (WD.q (Q.assign rfl) bqi rfl (WD.nil (End.K (W.sub (zc 5 rfl zzn) (W.ret ?_)))))))))))))))))))))))
 refine End.rV (z1 rfl) ?_
 rfl

theorem known_top (op : List Nat) (ho : Bytes op) (h : agB op = false) : Spec tab 53 [.str op] [] [] (Val (.tuple [.agg [.nilf], .bool (tkB op)])) := by
 refine Spec.en (ftg 53 Tryz.func53) rfl (m := 27) rfl (rs := [.cell 2 76, .tmp 3]) rfl (st := [(0, .str op)]) rfl rfl (fun _ => rfl) (fun E => zr (WO.alloc ao76 rfl (fun b1 => za rfl (zk (W.seq (zr (zm rfl (zk (W.block (zr (zq (Q.bin rfl (oc (v := .str [115, 117, 109]) (by kernel_rfl)) rfl bv_seql) (za rfl (zk (W.cD rfl (fun hc5 => ?_) (fun hc5 => ?_)))))))))))))))
 ·have h0 := h; exact absurd (by unfold agB; simp_all) (Bool.eq_false_iff.1 h0)
 refine zr (zq (Q.bin rfl (oc (v := .str [97, 118, 103]) (by kernel_rfl)) rfl bv_seql) (za rfl (zk (W.cD rfl (fun hc8 => ?_) (fun hc8 => ?_)))))
 ·have h0 := h; exact absurd (by unfold agB; simp_all) (Bool.eq_false_iff.1 h0)
 refine zr (zq (Q.bin rfl (oc (v := .str [109, 105, 110]) (by kernel_rfl)) rfl bv_seql) (za rfl (zk (W.cD rfl (fun hc11 => ?_) (fun hc11 => ?_)))))
 ·have h0 := h; exact absurd (by unfold agB; simp_all) (Bool.eq_false_iff.1 h0)
 refine zr (zq (Q.bin rfl (oc (v := .str [109, 97, 120]) (by kernel_rfl)) rfl bv_seql) (za rfl (zk (W.cD rfl (fun hc14 => ?_) (fun hc14 => ?_)))))
 ·have h0 := h; exact absurd (by unfold agB; simp_all) (Bool.eq_false_iff.1 h0)
 refine zr (zq (Q.bin rfl (oc (v := .str [99, 111, 117, 110, 116]) (by kernel_rfl)) rfl bv_seql) (za rfl (zk (W.cD rfl (fun hc17 => ?_) (fun hc17 => ?_)))))
 ·have h0 := h; exact absurd (by unfold agB; simp_all) (Bool.eq_false_iff.1 h0)
 refine W.skip (End.KB (End.K (zr (zq (Q.build pl76 opn rfl (cs := [_]) rfl) (zm rfl (zq (Q.bin rfl (oc (v := .str [116, 111, 112, 107]) (by kernel_rfl)) rfl bv_seql) (zm rfl (WO.sD (d := 23) rfl (fun hc23 => ?_) (fun hc23 => ?_)))))))))
 ·refine zg rfl rfl (zg rfl rfl (zq (Q.pT rfl rfl) (WO.store sz76 rfl rfl (i := 0) rfl rfl (cs := [_]) rfl (hs' := [_]) rfl (za rfl (zk (W.sub (zc 3 rfl (zc 2 rfl zzn)) (W.ret (End.rV (ResL.agg (c := [_]) rfl (zt 0 rfl) ag76 sz76 rfl (z1 rfl)) ?_))))))))
  first | rfl | (refine congrArg AV.tuple ?_; simp_all [tkB]; done)
 refine WO.gT rfl rfl (zm rfl (WO.gT rfl rfl (zq (Q.bin rfl (oc (v := .str [98, 111, 116, 116, 111, 109, 107]) (by kernel_rfl)) rfl bv_seql) (zq (Q.pF rfl rfl) (WO.store sz76 rfl rfl (i := 0) rfl rfl (cs := [_]) rfl (hs' := [_]) rfl (za rfl (zk (W.sub (zc 3 rfl (zc 2 rfl zzn)) (W.ret (End.rV (ResL.agg (c := [_]) rfl (zt 0 rfl) ag76 sz76 rfl (z1 rfl)) ?_))))))))))
 first | rfl | (refine congrArg AV.tuple ?_; simp_all [tkB]; done)
def il (L : List Int) (i : Nat) : Int := L.getD i 0
noncomputable def sumG : Int → List Int → Int × Nat
 | a, [] => (a, 0)
 | a, n :: l => if (fAdd a n).2.toNat ≠ 0 then (0, (fAdd a n).2.toNat) else sumG (fAdd a n).1 l
noncomputable def sumM (L : List Int) : Int × Nat := sumG ((0 : Nat) : Int) L
noncomputable def meanM (L : List Int) : Int × Nat := if (sumM L).2 ≠ 0 then (0, (sumM L).2) else ((fScale (sumM L).1 ((1 : Nat) : Int) ((L.length : Nat) : Int)).1, (fScale (sumM L).1 ((1 : Nat) : Int) ((L.length : Nat) : Int)).2.toNat)
def minM (L : List Int) : Int := (L.drop 1).foldl min (il L 0)
def maxM (L : List Int) : Int := (L.drop 1).foldl max (il L 0)
noncomputable def toldM (op : List Nat) (L : List Int) : Int × Nat :=
 if op = [115, 117, 109] then sumM L else if op = [97, 118, 103] then meanM L else if op = [99, 111, 117, 110, 116] then (((L.length * 1000000 : Nat) : Int), 0) else if op = [109, 105, 110] then (minM L, 0) else (maxM L, 0)
theorem told_sum {L : List Int} : toldM [115, 117, 109] L = sumM L := if_pos rfl
theorem told_avg {L : List Int} : toldM [97, 118, 103] L = meanM L := by unfold toldM; rw [if_neg (by decide), if_pos rfl]
theorem told_count {L : List Int} : toldM [99, 111, 117, 110, 116] L = (((L.length * 1000000 : Nat) : Int), 0) := by unfold toldM; rw [if_neg (by decide), if_neg (by decide), if_pos rfl]
theorem told_min {L : List Int} : toldM [109, 105, 110] L = (minM L, 0) := by unfold toldM; rw [if_neg (by decide), if_neg (by decide), if_neg (by decide), if_pos rfl]
theorem told_max {L : List Int} : toldM [109, 97, 120] L = (maxM L, 0) := by unfold toldM; rw [if_neg (by decide), if_neg (by decide), if_neg (by decide), if_neg (by decide)]
theorem il_at {L : List Int} {i : Nat} (h : i < L.length) : L[i]? = some (il L i) := by
 unfold il
 rw [List.getD_eq_getElem?_getD, List.getElem?_eq_getElem h]; rfl
theorem iread {L : List Int} {i : Nat} (h : i < L.length) : (L.map (AV.int .i64))[(0 + i) * 1]? = some (.int .i64 (il L i)) := by
 rw [Nat.zero_add, Nat.mul_one, List.getElem?_map, il_at h]; rfl
theorem drop_il {L : List Int} {i : Nat} (h : i < L.length) : L.drop i = il L i :: L.drop (i + 1) := by
 rw [List.drop_eq_getElem_cons h]
 congr 1
 exact Option.some.inj ((List.getElem?_eq_getElem h).symm.trans (il_at h))
theorem sum_step {L : List Int} {i : Nat} {a : Int} (h : i < L.length) : sumG a (L.drop i) = if (fAdd a (il L i)).2.toNat ≠ 0 then (0, (fAdd a (il L i)).2.toNat) else sumG (fAdd a (il L i)).1 (L.drop (i + 1)) := by
 rw [drop_il h, sumG]
def TellS (F : Nat) (op : List Nat) : Prop := ∀ (hs : HSt) (hro : ∀ e ∈ hs, e.w = false) (L : List Int) (b sz : Nat) (ex : Bool) (m : MemH hs b ⟨sz, ex, L.map (AV.int .i64)⟩) (h0 : 0 < L.length) (hl : L.length ≤ 256),
 Spec tab F [.slice b 0 L.length 1] [] hs (Val (.tuple [.int .i64 (toldM op L).1, .int .i64 (((toldM op L).2 : Nat) : Int)]))

theorem sum_spec (hs : HSt) (hro : ∀ e ∈ hs, e.w = false) (L : List Int) (b sz : Nat) (ex : Bool) (m : MemH hs b ⟨sz, ex, L.map (AV.int .i64)⟩) (h0 : 0 < L.length) (hl : L.length ≤ 256) : Spec tab 89 [.slice b 0 L.length 1] [] hs (Val (.tuple [.int .i64 (sumM L).1, .int .i64 (((sumM L).2 : Nat) : Int)])) := by
 have mo := m
 obtain ⟨wb, mb⟩ := m
 refine Spec.en (ftg 89 Tryz.func89) rfl (m := 27) rfl (rs := [.tmp 2, .tmp 3]) rfl (st := [(0, .slice b 0 L.length 1)]) rfl rfl (fun _ => rfl) (fun E => zr (za (zi 0) (za (zi 0) (zk (zr (za (zi 0) (zk (W.seq (zr (zm rfl (zq (Q.len ud89 rfl rfl) (zq (Q.move (zi 0)) (zk (W.block (W.loop_ind2 (fun (i : Nat) (a : Int) => [(9, .slice b 0 L.length 1), (10, .int .i64 ((L.length : Nat) : Int)), (4, .int .i64 a), (11, .int .i64 ((i : Nat) : Int))]) (fun (i : Nat) (a : Int) => hs) (fun (i : Nat) (a : Int) => i ≤ L.length ∧ sumM L = sumG a (L.drop i)) (fun (i : Nat) (a : Int) => L.length - i) (0) (((0 : Nat) : Int)) ⟨Nat.zero_le _, rfl⟩ zv (SubH.refl _) (fun i a hI0 ih0 => ?_))))))))))))))))
 obtain ⟨h1, h2⟩ := hI0
 refine zr (zq (Q.bin rfl rfl rfl (bvl ltn)) (zk (W.seq (W.cD rfl (fun hc12 => ?_) (fun hc12 => ?_)))))
 ·refine zw (W.seq (W.block (zr (zq (Q.iS ud89 sz3 rfl rfl zo) (zq (Q.l1 rfl mb ag3 (iread zo)) (za rfl (zk (zr (zm rfl (zm rfl (WO.cV rfl (oLc rfl (oLc rfl oz)) rfl (Spec.known (fun _ => rfl)) SubR.nil rfl (zm rfl (zq (Q.extract rfl rfl) (zq (Q.extract rfl rfl) (za rfl (za rfl (zk (W.seq (zr (zm rfl (zq (Q.bin rfl (zi 0) rfl (bv_neq ne_nat)) (zk (W.cD rfl (fun hc22 => ?_) (fun hc22 => ?_))))))))))))))))))))))))
  ·refine zr (zm rfl (za (zi 0) (za rfl (zk (W.sub (zc 3 rfl (zc 2 rfl zzn)) (W.ret (End.Kr (End.Br (End.Kr (End.Lr (End.Br (End.Kr (End.rV (ResL.tmp rfl (z1 rfl)) ?_)))))))))))))
   have he : (fAdd a (il L i)).2.toNat ≠ 0 := zy
   rw [h2, sum_step zy, if_pos he]; rfl
  refine zw (W.sub (zc 7 rfl (zc 9 rfl (zc 10 rfl (zc 11 rfl zzn)))) (W.reg (zm rfl (za rfl (WO.nil (End.KB (End.K (W.reg (zq (Q.bin rfl (zi 1) rfl zp) (zm rfl (WO.nil (End.KL (W.sub zv (W.sH (SubH.refl _) (ih0 (i + 1) ((fAdd a (il L i)).1) ?_ ?_)))))))))))))))
  ·exact ⟨by omega, by rw [h2, sum_step zy, if_neg zy]⟩
  exact zo
 refine W.exit (End.Kx (End.Lx (End.Bh (End.K (zr (zm rfl (za rfl (za (zi 0) (zk (W.ret (End.rV (ResL.tmp rfl (z1 rfl)) ?_)))))))))))
 rw [h2, List.drop_of_length_le zy]; rfl

theorem rsum_spec (hs : HSt) (hro : ∀ e ∈ hs, e.w = false) (L : List Int) (b sz : Nat) (ex : Bool) (m : MemH hs b ⟨sz, ex, L.map (AV.int .i64)⟩) (h0 : 0 < L.length) (hl : L.length ≤ 256) : Spec tab 142 [.slice b 0 L.length 1] [] hs (Val (.tuple [.int .i64 (sumM L).1, .int .i64 (((sumM L).2 : Nat) : Int)])) := by
 have mo := m
 obtain ⟨wb, mb⟩ := m
 refine Spec.en (ftg 142 Tryz.func142) rfl (m := 28) rfl (rs := [.tmp 2, .tmp 3]) rfl (st := [(0, .slice b 0 L.length 1)]) rfl rfl (fun _ => rfl) (fun E => zr (za (zi 0) (za (zi 0) (zk (zr (za (zi 0) (zk (W.seq (zr (za (zi 0) (zk (W.block (W.loop_ind2 (fun (i : Nat) (a : Int) => [(0, .slice b 0 L.length 1), (4, .int .i64 a), (5, .int .i64 ((i : Nat) : Int))]) (fun (i : Nat) (a : Int) => hs) (fun (i : Nat) (a : Int) => i ≤ L.length ∧ sumM L = sumG a (L.drop i)) (fun (i : Nat) (a : Int) => L.length - i) (0) (((0 : Nat) : Int)) ⟨Nat.zero_le _, rfl⟩ zv (SubH.refl _) (fun i a hI0 ih0 => ?_))))))))))))))
 obtain ⟨h1, h2⟩ := hI0
 refine W.seq (zr (zm rfl (zm rfl (zq (Q.len ud89 rfl rfl) (zq (Q.bin rfl rfl rfl (bvl ltn)) (zk (W.cD rfl (fun hc11 => ?_) (fun hc11 => ?_))))))))
 ·refine zw (W.seq (W.block (zr (zm rfl (zm rfl (zm rfl (zq (Q.iS ud89 sz3 rfl rfl zo) (zq (Q.l1 rfl mb ag3 (iread zo)) (WO.cV rfl (oLc rfl (oLc rfl oz)) rfl (Spec.known (fun _ => rfl)) SubR.nil rfl (zm rfl (zq (Q.extract rfl rfl) (zq (Q.extract rfl rfl) (za rfl (za rfl (zk (W.sub (zc 7 rfl (zc 6 rfl (zc 0 rfl (zc 5 rfl zzn)))) (W.seq (zr (zm rfl (zq (Q.bin rfl (zi 0) rfl (bv_neq ne_nat)) (zk (W.cD rfl (fun hc24 => ?_) (fun hc24 => ?_)))))))))))))))))))))))
  ·refine zr (zm rfl (za (zi 0) (za rfl (zk (W.ret (End.Kr (End.Br (End.Kr (End.Lr (End.Br (End.Kr (End.rV (ResL.tmp rfl (z1 rfl)) ?_))))))))))))
   have he : (fAdd a (il L i)).2.toNat ≠ 0 := zy
   rw [h2, sum_step zy, if_pos he]; rfl
  refine zw (W.reg (zm rfl (za rfl (WO.nil (End.KB (End.K (W.reg (zm rfl (zq (Q.bin rfl (zi 1) rfl zp) (za rfl (WO.nil (End.KL (W.sub zv (W.sH (SubH.refl _) (ih0 (i + 1) ((fAdd a (il L i)).1) ?_ ?_)))))))))))))))
  ·exact ⟨by omega, by rw [h2, sum_step zy, if_neg zy]⟩
  exact zo
 refine W.exit (End.Kx (End.Lx (End.Bh (End.K (zr (zm rfl (za rfl (za (zi 0) (zk (W.ret (End.rV (ResL.tmp rfl (z1 rfl)) ?_)))))))))))
 rw [h2, List.drop_of_length_le zy]; rfl

theorem mean_spec (hs : HSt) (hro : ∀ e ∈ hs, e.w = false) (L : List Int) (b sz : Nat) (ex : Bool) (m : MemH hs b ⟨sz, ex, L.map (AV.int .i64)⟩) (h0 : 0 < L.length) (hl : L.length ≤ 256) : Spec tab 90 [.slice b 0 L.length 1] [] hs (Val (.tuple [.int .i64 (meanM L).1, .int .i64 (((meanM L).2 : Nat) : Int)])) := by
 have mo := m
 obtain ⟨wb, mb⟩ := m
 refine Spec.en (ftg 90 Tryz.func90) rfl (m := 20) rfl (rs := [.tmp 2, .tmp 3]) rfl (st := [(0, .slice b 0 L.length 1)]) rfl rfl (fun _ => rfl) (fun E => zr (za (zi 0) (za (zi 0) (zk (zr (zm rfl (WO.cV rfl (oLc rfl oz) rfl (sum_spec hs hro L b sz ex mo h0 hl) (SubR.s hro) rfl (zm rfl (zq (Q.extract rfl rfl) (zq (Q.extract rfl rfl) (za rfl (za rfl (zk (W.seq (zr (zm rfl (zq (Q.bin rfl (zi 0) rfl (bv_neq ne_nat)) (zk (W.cD rfl (fun hc12 => ?_) (fun hc12 => ?_))))))))))))))))))))
 ·refine zr (zm rfl (za (zi 0) (za rfl (zk (W.ret (End.Kr (End.rV (ResL.tmp rfl (z1 rfl)) ?_)))))))
  have he : (sumM L).2 ≠ 0 := zy
  unfold meanM; rw [if_pos he]; rfl
 refine zw (zr (zm rfl (zm rfl (zq (Q.len ud89 rfl rfl) (WO.cV rfl (oLc rfl (oLc (zi 1) (oLc rfl oz))) rfl (Spec.known (fun _ => rfl)) SubR.nil rfl (zq (Q.extract rfl rfl) (zq (Q.extract rfl rfl) (za rfl (za rfl (zk (W.sub (zc 3 rfl (zc 2 rfl zzn)) (W.ret (End.rV (ResL.tmp rfl (z1 rfl)) ?_)))))))))))))
 have he : ¬ (sumM L).2 ≠ 0 := zy
 unfold meanM; rw [if_neg he]; rfl

theorem min_spec (hs : HSt) (hro : ∀ e ∈ hs, e.w = false) (L : List Int) (b sz : Nat) (ex : Bool) (m : MemH hs b ⟨sz, ex, L.map (AV.int .i64)⟩) (h0 : 0 < L.length) (hl : L.length ≤ 256) : Spec tab 92 [.slice b 0 L.length 1] [] hs (Val (.int .i64 (minM L))) := by
 have mo := m
 obtain ⟨wb, mb⟩ := m
 refine Spec.en (ftg 92 Tryz.func92) rfl (m := 25) rfl (rs := [.tmp 2]) rfl (st := [(0, .slice b 0 L.length 1)]) rfl rfl (fun _ => rfl) (fun E => zr (za (zi 0) (zk (W.seq (zr (zm rfl (zq (Q.len ud89 rfl rfl) (zq (Q.bin rfl (zi 1) rfl (bvl ltn)) (zk (W.cD rfl (fun hc7 => ?_) (fun hc7 => ?_)))))))))))
 ·exfalso; omega
 refine zw (zr (zm rfl (zq (Q.iaddrL ud89 sz3 rfl (zi 0) zo (o' := 0) rfl) (zq (Q.l1 rfl mb ag3 (iread zo)) (za rfl (zk (W.seq (zr (za (zi 1) (zk (W.block (W.loop_ind2 (fun (i : Nat) (a : Int) => [(0, .slice b 0 L.length 1), (3, .int .i64 a), (4, .int .i64 ((i : Nat) : Int))]) (fun (i : Nat) (a : Int) => hs) (fun (i : Nat) (a : Int) => 1 ≤ i ∧ i ≤ L.length ∧ minM L = (L.drop i).foldl min a) (fun (i : Nat) (a : Int) => L.length - i) (1) (il L 0) ⟨Nat.le_refl _, by omega, rfl⟩ zv (SubH.refl _) (fun i a hI0 ih0 => ?_)))))))))))))
 obtain ⟨h1, h2, h3⟩ := hI0
 refine W.seq (zr (zm rfl (zm rfl (zq (Q.len ud89 rfl rfl) (zq (Q.bin rfl rfl rfl (bvl ltn)) (zk (W.cD rfl (fun hc15 => ?_) (fun hc15 => ?_))))))))
 ·refine zw (W.seq (W.block (W.reg (zm rfl (zm rfl (zm rfl (zq (Q.iS ud89 sz3 rfl rfl zo) (zq (Q.l1 rfl mb ag3 (iread zo)) (zq (Q.minmax false (oLc rfl (oLc rfl oz)) mm_minI) (za rfl (WO.nil (End.KB (End.K (W.reg (zm rfl (zq (Q.bin rfl (zi 1) rfl zp) (za rfl (WO.nil (End.KL (W.sub zv (W.sH (SubH.refl _) (ih0 (i + 1) (min a (il L i)) ?_ ?_))))))))))))))))))))))
  ·exact ⟨by omega, by omega, by rw [h3, drop_il zy]; rfl⟩
  exact zo
 refine W.exit (End.Kx (End.Lx (End.Bh (End.K (zr (zm rfl (za rfl (zk (W.ret (End.rV (z1 rfl) ?_))))))))))
 rw [h3, List.drop_of_length_le zy]; rfl

theorem max_spec (hs : HSt) (hro : ∀ e ∈ hs, e.w = false) (L : List Int) (b sz : Nat) (ex : Bool) (m : MemH hs b ⟨sz, ex, L.map (AV.int .i64)⟩) (h0 : 0 < L.length) (hl : L.length ≤ 256) : Spec tab 94 [.slice b 0 L.length 1] [] hs (Val (.int .i64 (maxM L))) := by
 have mo := m
 obtain ⟨wb, mb⟩ := m
 refine Spec.en (ftg 94 Tryz.func94) rfl (m := 25) rfl (rs := [.tmp 2]) rfl (st := [(0, .slice b 0 L.length 1)]) rfl rfl (fun _ => rfl) (fun E => zr (za (zi 0) (zk (W.seq (zr (zm rfl (zq (Q.len ud89 rfl rfl) (zq (Q.bin rfl (zi 1) rfl (bvl ltn)) (zk (W.cD rfl (fun hc7 => ?_) (fun hc7 => ?_)))))))))))
 ·exfalso; omega
 refine zw (zr (zm rfl (zq (Q.iaddrL ud89 sz3 rfl (zi 0) zo (o' := 0) rfl) (zq (Q.l1 rfl mb ag3 (iread zo)) (za rfl (zk (W.seq (zr (za (zi 1) (zk (W.block (W.loop_ind2 (fun (i : Nat) (a : Int) => [(0, .slice b 0 L.length 1), (3, .int .i64 a), (4, .int .i64 ((i : Nat) : Int))]) (fun (i : Nat) (a : Int) => hs) (fun (i : Nat) (a : Int) => 1 ≤ i ∧ i ≤ L.length ∧ maxM L = (L.drop i).foldl max a) (fun (i : Nat) (a : Int) => L.length - i) (1) (il L 0) ⟨Nat.le_refl _, by omega, rfl⟩ zv (SubH.refl _) (fun i a hI0 ih0 => ?_)))))))))))))
 obtain ⟨h1, h2, h3⟩ := hI0
 refine W.seq (zr (zm rfl (zm rfl (zq (Q.len ud89 rfl rfl) (zq (Q.bin rfl rfl rfl (bvl ltn)) (zk (W.cD rfl (fun hc15 => ?_) (fun hc15 => ?_))))))))
 ·refine zw (W.seq (W.block (W.reg (zm rfl (zm rfl (zm rfl (zq (Q.iS ud89 sz3 rfl rfl zo) (zq (Q.l1 rfl mb ag3 (iread zo)) (zq (Q.minmax true (oLc rfl (oLc rfl oz)) mm_maxI) (za rfl (WO.nil (End.KB (End.K (W.reg (zm rfl (zq (Q.bin rfl (zi 1) rfl zp) (za rfl (WO.nil (End.KL (W.sub zv (W.sH (SubH.refl _) (ih0 (i + 1) (max a (il L i)) ?_ ?_))))))))))))))))))))))
  ·exact ⟨by omega, by omega, by rw [h3, drop_il zy]; rfl⟩
  exact zo
 refine W.exit (End.Kx (End.Lx (End.Bh (End.K (zr (zm rfl (za rfl (zk (W.ret (End.rV (z1 rfl) ?_))))))))))
 rw [h3, List.drop_of_length_le zy]; rfl

theorem kmin_spec (hs : HSt) (hro : ∀ e ∈ hs, e.w = false) (L : List Int) (b sz : Nat) (ex : Bool) (m : MemH hs b ⟨sz, ex, L.map (AV.int .i64)⟩) (h0 : 0 < L.length) (hl : L.length ≤ 256) : Spec tab 91 [.slice b 0 L.length 1] [] hs (Val (.tuple [.int .i64 (minM L), .int .i64 ((0 : Nat) : Int)])) := by
 have mo := m
 obtain ⟨wb, mb⟩ := m
 refine Spec.en (ftg 91 Tryz.func91) rfl (m := 6) rfl (rs := [.tmp 2, .tmp 3]) rfl (st := [(0, .slice b 0 L.length 1)]) rfl rfl (fun _ => rfl) (fun E => zr (za (zi 0) (za (zi 0) (zk (zr (zm rfl (WO.cV rfl (oLc rfl oz) rfl (min_spec hs hro L b sz ex mo h0 hl) (SubR.s hro) rfl (za rfl (za (zi 0) (zk (W.ret (End.rV (ResL.tmp rfl (z1 rfl)) ?_))))))))))))
 rfl

theorem kmax_spec (hs : HSt) (hro : ∀ e ∈ hs, e.w = false) (L : List Int) (b sz : Nat) (ex : Bool) (m : MemH hs b ⟨sz, ex, L.map (AV.int .i64)⟩) (h0 : 0 < L.length) (hl : L.length ≤ 256) : Spec tab 93 [.slice b 0 L.length 1] [] hs (Val (.tuple [.int .i64 (maxM L), .int .i64 ((0 : Nat) : Int)])) := by
 have mo := m
 obtain ⟨wb, mb⟩ := m
 refine Spec.en (ftg 93 Tryz.func93) rfl (m := 6) rfl (rs := [.tmp 2, .tmp 3]) rfl (st := [(0, .slice b 0 L.length 1)]) rfl rfl (fun _ => rfl) (fun E => zr (za (zi 0) (za (zi 0) (zk (zr (zm rfl (WO.cV rfl (oLc rfl oz) rfl (max_spec hs hro L b sz ex mo h0 hl) (SubR.s hro) rfl (za rfl (za (zi 0) (zk (W.ret (End.rV (ResL.tmp rfl (z1 rfl)) ?_))))))))))))
 rfl

theorem kcnt_spec (hs : HSt) (hro : ∀ e ∈ hs, e.w = false) (L : List Int) (b sz : Nat) (ex : Bool) (m : MemH hs b ⟨sz, ex, L.map (AV.int .i64)⟩) (h0 : 0 < L.length) (hl : L.length ≤ 256) : Spec tab 95 [.slice b 0 L.length 1] [] hs (Val (.tuple [.int .i64 ((L.length * 1000000 : Nat) : Int), .int .i64 ((0 : Nat) : Int)])) := by
 have mo := m
 obtain ⟨wb, mb⟩ := m
 refine Spec.en (ftg 95 Tryz.func95) rfl (m := 7) rfl (rs := [.tmp 2, .tmp 3]) rfl (st := [(0, .slice b 0 L.length 1)]) rfl rfl (fun _ => rfl) (fun E => zr (za (zi 0) (za (zi 0) (zk (zr (zm rfl (zq (Q.len ud89 rfl rfl) (zq (Q.bin rfl (zi 1000000) rfl (bv_mul (wn_mul zo))) (za rfl (za (zi 0) (zk (W.ret (End.rV (ResL.tmp rfl (z1 rfl)) ?_)))))))))))))
 rfl

theorem known_tell (op : List Nat) (ho : Bytes op) (h : agB op = true) : Spec tab 53 [.str op] [] [] (ValE (fun v => ∃ F : Nat, v = .tuple [.agg [.func F []], .bool true] ∧ TellS F op)) := by
 refine Spec.en (ftg 53 Tryz.func53) rfl (m := 27) rfl (rs := [.cell 2 76, .tmp 3]) rfl (st := [(0, .str op)]) rfl rfl (fun _ => rfl) (fun E => zr (WO.alloc ao76 rfl (fun b1 => za rfl (zk (W.seq (zr (zm rfl (zk (W.block (zr (zq (Q.bin rfl (oc (v := .str [115, 117, 109]) (by kernel_rfl)) rfl bv_seql) (za rfl (zk (W.cD rfl (fun hc5 => ?_) (fun hc5 => ?_)))))))))))))))
 ·refine zr (zq (Q.build pl76 (opc rfl opn) rfl (cs := [_]) rfl) (WO.store sz76 rfl rfl (i := 0) rfl rfl (cs := [_]) rfl (hs' := [_]) rfl (za rfl (zk (W.ret (End.Br (End.Kr (End.retE (ResL.agg (c := [_]) rfl (zt 0 rfl) ag76 sz76 rfl (z1 rfl)) ?_))))))))
  have e0 : op = [115, 117, 109] := (by assumption)
  subst e0
  exact ⟨89, rfl, fun hs hro L b sz ex m h0 hl => by rw [told_sum]; exact sum_spec hs hro L b sz ex m h0 hl⟩
 refine zr (zq (Q.bin rfl (oc (v := .str [97, 118, 103]) (by kernel_rfl)) rfl bv_seql) (za rfl (zk (W.cD rfl (fun hc8 => ?_) (fun hc8 => ?_)))))
 ·refine zr (zq (Q.build pl76 (opc rfl opn) rfl (cs := [_]) rfl) (WO.store sz76 rfl rfl (i := 0) rfl rfl (cs := [_]) rfl (hs' := [_]) rfl (za rfl (zk (W.ret (End.Br (End.Kr (End.retE (ResL.agg (c := [_]) rfl (zt 0 rfl) ag76 sz76 rfl (z1 rfl)) ?_))))))))
  have e0 : op = [97, 118, 103] := (by assumption)
  subst e0
  exact ⟨90, rfl, fun hs hro L b sz ex m h0 hl => by rw [told_avg]; exact mean_spec hs hro L b sz ex m h0 hl⟩
 refine zr (zq (Q.bin rfl (oc (v := .str [109, 105, 110]) (by kernel_rfl)) rfl bv_seql) (za rfl (zk (W.cD rfl (fun hc11 => ?_) (fun hc11 => ?_)))))
 ·refine zr (zq (Q.build pl76 (opc rfl opn) rfl (cs := [_]) rfl) (WO.store sz76 rfl rfl (i := 0) rfl rfl (cs := [_]) rfl (hs' := [_]) rfl (za rfl (zk (W.ret (End.Br (End.Kr (End.retE (ResL.agg (c := [_]) rfl (zt 0 rfl) ag76 sz76 rfl (z1 rfl)) ?_))))))))
  have e0 : op = [109, 105, 110] := (by assumption)
  subst e0
  exact ⟨91, rfl, fun hs hro L b sz ex m h0 hl => by rw [told_min]; exact kmin_spec hs hro L b sz ex m h0 hl⟩
 refine zr (zq (Q.bin rfl (oc (v := .str [109, 97, 120]) (by kernel_rfl)) rfl bv_seql) (za rfl (zk (W.cD rfl (fun hc14 => ?_) (fun hc14 => ?_)))))
 ·refine zr (zq (Q.build pl76 (opc rfl opn) rfl (cs := [_]) rfl) (WO.store sz76 rfl rfl (i := 0) rfl rfl (cs := [_]) rfl (hs' := [_]) rfl (za rfl (zk (W.ret (End.Br (End.Kr (End.retE (ResL.agg (c := [_]) rfl (zt 0 rfl) ag76 sz76 rfl (z1 rfl)) ?_))))))))
  have e0 : op = [109, 97, 120] := (by assumption)
  subst e0
  exact ⟨93, rfl, fun hs hro L b sz ex m h0 hl => by rw [told_max]; exact kmax_spec hs hro L b sz ex m h0 hl⟩
 refine zr (zq (Q.bin rfl (oc (v := .str [99, 111, 117, 110, 116]) (by kernel_rfl)) rfl bv_seql) (za rfl (zk (W.cD rfl (fun hc17 => ?_) (fun hc17 => ?_)))))
 ·refine zr (zq (Q.build pl76 (opc rfl opn) rfl (cs := [_]) rfl) (WO.store sz76 rfl rfl (i := 0) rfl rfl (cs := [_]) rfl (hs' := [_]) rfl (za rfl (zk (W.ret (End.Br (End.Kr (End.retE (ResL.agg (c := [_]) rfl (zt 0 rfl) ag76 sz76 rfl (z1 rfl)) ?_))))))))
  have e0 : op = [99, 111, 117, 110, 116] := (by assumption)
  subst e0
  exact ⟨95, rfl, fun hs hro L b sz ex m h0 hl => by rw [told_count]; exact kcnt_spec hs hro L b sz ex m h0 hl⟩
 exact absurd h (by unfold agB; simp_all)
end Go.Proofs.YtmblgaehfjheeaaGreat.Ev
