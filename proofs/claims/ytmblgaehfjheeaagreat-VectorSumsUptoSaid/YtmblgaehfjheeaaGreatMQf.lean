/- Chapters 3 and 19, walks: what is told of a group's numbers. -/
import Derived.Test.YtmblgaehfjheeaaGreatMZu
namespace Go.Proofs.YtmblgaehfjheeaaGreat.Ev
open Go.RowKit
set_option linter.unusedVariables false
set_option linter.unusedSimpArgs false
set_option maxRecDepth 100000
set_option maxHeartbeats 1000000
def il (L : List Int) (i : Nat) : Int := L.getD i 0
noncomputable def sumG : Int → List Int → Int × Nat
  | a, [] => (a, 0)
  | a, n :: l => if (fAdd a n).2.toNat ≠ 0 then (0, (fAdd a n).2.toNat) else sumG (fAdd a n).1 l
noncomputable def sumM (L : List Int) : Int × Nat := sumG ((0 : Nat) : Int) L
noncomputable def meanM (L : List Int) : Int × Nat := if (sumM L).2 ≠ 0 then (0, (sumM L).2) else ((fScale (sumM L).1 ((1 : Nat) : Int) ((L.length : Nat) : Int)).1, (fScale (sumM L).1 ((1 : Nat) : Int) ((L.length : Nat) : Int)).2.toNat)
def minM (L : List Int) : Int := (L.drop 1).foldl min (il L 0)
def maxM (L : List Int) : Int := (L.drop 1).foldl max (il L 0)
noncomputable def toldM (op : List Nat) (L : List Int) : Int × Nat :=
  if op = [115, 117, 109] then sumM L else if op = [97, 118, 103] then meanM L else if op = [99, 111, 117, 110, 116] then (((L.length * 1000000 : Nat) : Int), 0) else if op = [109, 105, 110] then (minM L, 0) else (maxM L, 0)
theorem told_sum {L : List Int} : toldM [115, 117, 109] L = sumM L := if_pos rfl
theorem told_avg {L : List Int} : toldM [97, 118, 103] L = meanM L := by unfold toldM; rw [if_neg (by decide), if_pos rfl]
theorem told_count {L : List Int} : toldM [99, 111, 117, 110, 116] L = (((L.length * 1000000 : Nat) : Int), 0) := by unfold toldM; rw [if_neg (by decide), if_neg (by decide), if_pos rfl]
theorem told_min {L : List Int} : toldM [109, 105, 110] L = (minM L, 0) := by unfold toldM; rw [if_neg (by decide), if_neg (by decide), if_neg (by decide), if_pos rfl]
theorem told_max {L : List Int} : toldM [109, 97, 120] L = (maxM L, 0) := by unfold toldM; rw [if_neg (by decide), if_neg (by decide), if_neg (by decide), if_neg (by decide)]
theorem il_at {L : List Int} {i : Nat} (h : i < L.length) : L[i]? = some (il L i) := by
  unfold il
  rw [List.getD_eq_getElem?_getD, List.getElem?_eq_getElem h]; rfl
theorem iread {L : List Int} {i : Nat} (h : i < L.length) : (L.map (AV.int .i64))[(0 + i) * 1]? = some (.int .i64 (il L i)) := by
  rw [Nat.zero_add, Nat.mul_one, List.getElem?_map, il_at h]; rfl
theorem drop_il {L : List Int} {i : Nat} (h : i < L.length) : L.drop i = il L i :: L.drop (i + 1) := by
  rw [List.drop_eq_getElem_cons h]
  congr 1
  exact Option.some.inj ((List.getElem?_eq_getElem h).symm.trans (il_at h))
theorem sum_step {L : List Int} {i : Nat} {a : Int} (h : i < L.length) : sumG a (L.drop i) = if (fAdd a (il L i)).2.toNat ≠ 0 then (0, (fAdd a (il L i)).2.toNat) else sumG (fAdd a (il L i)).1 (L.drop (i + 1)) := by
  rw [drop_il h, sumG]
def TellS (F : Nat) (op : List Nat) : Prop := ∀ (hs : HSt) (hro : ∀ e ∈ hs, e.w = false) (L : List Int) (b sz : Nat) (ex : Bool) (m : MemH hs b ⟨sz, ex, L.map (AV.int .i64)⟩) (h0 : 0 < L.length) (hl : L.length ≤ 256),
  Spec tab F [.slice b 0 L.length 1] [] hs (Val (.tuple [.int .i64 (toldM op L).1, .int .i64 (((toldM op L).2 : Nat) : Int)]))

theorem sum_spec (hs : HSt) (hro : ∀ e ∈ hs, e.w = false) (L : List Int) (b sz : Nat) (ex : Bool) (m : MemH hs b ⟨sz, ex, L.map (AV.int .i64)⟩) (h0 : 0 < L.length) (hl : L.length ≤ 256) : Spec tab 89 [.slice b 0 L.length 1] [] hs (Val (.tuple [.int .i64 (sumM L).1, .int .i64 (((sumM L).2 : Nat) : Int)])) := by
 have mo := m
 obtain ⟨wb, mb⟩ := m
 refine Spec.enter' (ft_get 89 Tryz.func89) rfl (m := 27) rfl (rs := [.tmp 2, .tmp 3]) rfl (st := [(0, .slice b 0 L.length 1)]) rfl rfl (fun _ => rfl) (fun E => zr (za (zi 0) (za (zi 0) (zk (zr (za (zi 0) (zk (W.seq (zr (zm rfl (zq (Q.len ud89 rfl rfl) (zq (Q.move (zi 0)) (zk (W.block (W.loop_ind2 (fun (i : Nat) (a : Int) => [(9, .slice b 0 L.length 1), (10, .int .i64 ((L.length : Nat) : Int)), (4, .int .i64 a), (11, .int .i64 ((i : Nat) : Int))]) (fun (i : Nat) (a : Int) => hs) (fun (i : Nat) (a : Int) => i ≤ L.length ∧ sumM L = sumG a (L.drop i)) (fun (i : Nat) (a : Int) => L.length - i) (0) (((0 : Nat) : Int)) ⟨Nat.zero_le _, rfl⟩ zv (SubH.refl _) (fun i a hI0 ih0 => ?_))))))))))))))))
 obtain ⟨h1, h2⟩ := hI0
 refine zr (zq (Q.bin rfl rfl rfl (bv_lss lt_nat)) (zk (W.seq (W.condDS rfl (fun hc12 => ?_) (fun hc12 => ?_)))))
 · refine zw (W.seq (W.block (zr (zq (Q.iaddrS ud89 sz3 rfl rfl zo) (zq (Q.load1 rfl mb ag3 (iread zo)) (za rfl (zk (zr (zm rfl (zm rfl (WO.callV rfl (oLs_cons rfl (oLs_cons rfl oLs_nil)) rfl (Spec.known (fun _ => rfl)) SubR.nil rfl (zm rfl (zq (Q.extract rfl rfl) (zq (Q.extract rfl rfl) (za rfl (za rfl (zk (W.seq (zr (zm rfl (zq (Q.bin rfl (zi 0) rfl (bv_neq ne_nat)) (zk (W.condDS rfl (fun hc22 => ?_) (fun hc22 => ?_))))))))))))))))))))))))
   · refine zr (zm rfl (za (zi 0) (za rfl (zk (W.sub (zc 3 rfl (zc 2 rfl zzn)) (W.ret (End.K_ret (End.KB_ret (End.K_ret (End.KL_ret (End.KB_ret (End.K_ret (End.retV (ResL.tmp rfl (z1 rfl)) ?_)))))))))))))
     have he : (fAdd a (il L i)).2.toNat ≠ 0 := (by omega)
     rw [h2, sum_step (by omega), if_pos he]; rfl
   refine zw (W.sub (zc 7 rfl (zc 9 rfl (zc 10 rfl (zc 11 rfl zzn)))) (W.reg (zm rfl (za rfl (WO.nil (End.KB (End.K (W.reg (zq (Q.bin rfl (zi 1) rfl zp) (zm rfl (WO.nil (End.KL (W.sub zv (W.subH (SubH.refl _) (ih0 (i + 1) ((fAdd a (il L i)).1) ?_ ?_)))))))))))))))
   · exact ⟨by omega, by rw [h2, sum_step (by omega), if_neg (by omega)]⟩
   exact zo
 refine W.exit (End.K_exit (End.KL_exit (End.KB_hit (End.K (zr (zm rfl (za rfl (za (zi 0) (zk (W.ret (End.retV (ResL.tmp rfl (z1 rfl)) ?_)))))))))))
 rw [h2, List.drop_of_length_le (by omega)]; rfl

theorem mean_spec (hs : HSt) (hro : ∀ e ∈ hs, e.w = false) (L : List Int) (b sz : Nat) (ex : Bool) (m : MemH hs b ⟨sz, ex, L.map (AV.int .i64)⟩) (h0 : 0 < L.length) (hl : L.length ≤ 256) : Spec tab 90 [.slice b 0 L.length 1] [] hs (Val (.tuple [.int .i64 (meanM L).1, .int .i64 (((meanM L).2 : Nat) : Int)])) := by
 have mo := m
 obtain ⟨wb, mb⟩ := m
 refine Spec.enter' (ft_get 90 Tryz.func90) rfl (m := 20) rfl (rs := [.tmp 2, .tmp 3]) rfl (st := [(0, .slice b 0 L.length 1)]) rfl rfl (fun _ => rfl) (fun E => zr (za (zi 0) (za (zi 0) (zk (zr (zm rfl (WO.callV rfl (oLs_cons rfl oLs_nil) rfl (sum_spec hs hro L b sz ex mo h0 hl) (SubR.self hro) rfl (zm rfl (zq (Q.extract rfl rfl) (zq (Q.extract rfl rfl) (za rfl (za rfl (zk (W.seq (zr (zm rfl (zq (Q.bin rfl (zi 0) rfl (bv_neq ne_nat)) (zk (W.condDS rfl (fun hc12 => ?_) (fun hc12 => ?_))))))))))))))))))))
 · refine zr (zm rfl (za (zi 0) (za rfl (zk (W.ret (End.K_ret (End.retV (ResL.tmp rfl (z1 rfl)) ?_)))))))
   have he : (sumM L).2 ≠ 0 := (by omega)
   unfold meanM; rw [if_pos he]; rfl
 refine zw (zr (zm rfl (zm rfl (zq (Q.len ud89 rfl rfl) (WO.callV rfl (oLs_cons rfl (oLs_cons (zi 1) (oLs_cons rfl oLs_nil))) rfl (Spec.known (fun _ => rfl)) SubR.nil rfl (zq (Q.extract rfl rfl) (zq (Q.extract rfl rfl) (za rfl (za rfl (zk (W.sub (zc 3 rfl (zc 2 rfl zzn)) (W.ret (End.retV (ResL.tmp rfl (z1 rfl)) ?_)))))))))))))
 have he : ¬ (sumM L).2 ≠ 0 := (by omega)
 unfold meanM; rw [if_neg he]; rfl

theorem min_spec (hs : HSt) (hro : ∀ e ∈ hs, e.w = false) (L : List Int) (b sz : Nat) (ex : Bool) (m : MemH hs b ⟨sz, ex, L.map (AV.int .i64)⟩) (h0 : 0 < L.length) (hl : L.length ≤ 256) : Spec tab 92 [.slice b 0 L.length 1] [] hs (Val (.int .i64 (minM L))) := by
 have mo := m
 obtain ⟨wb, mb⟩ := m
 refine Spec.enter' (ft_get 92 Tryz.func92) rfl (m := 25) rfl (rs := [.tmp 2]) rfl (st := [(0, .slice b 0 L.length 1)]) rfl rfl (fun _ => rfl) (fun E => zr (za (zi 0) (zk (W.seq (zr (zm rfl (zq (Q.len ud89 rfl rfl) (zq (Q.bin rfl (zi 1) rfl (bv_lss lt_nat)) (zk (W.condDS rfl (fun hc7 => ?_) (fun hc7 => ?_)))))))))))
 · exfalso; omega
 refine zw (zr (zm rfl (zq (Q.iaddrL ud89 sz3 rfl (zi 0) zo (o' := 0) rfl) (zq (Q.load1 rfl mb ag3 (iread zo)) (za rfl (zk (W.seq (zr (za (zi 1) (zk (W.block (W.loop_ind2 (fun (i : Nat) (a : Int) => [(0, .slice b 0 L.length 1), (3, .int .i64 a), (4, .int .i64 ((i : Nat) : Int))]) (fun (i : Nat) (a : Int) => hs) (fun (i : Nat) (a : Int) => 1 ≤ i ∧ i ≤ L.length ∧ minM L = (L.drop i).foldl min a) (fun (i : Nat) (a : Int) => L.length - i) (1) (il L 0) ⟨Nat.le_refl _, by omega, rfl⟩ zv (SubH.refl _) (fun i a hI0 ih0 => ?_)))))))))))))
 obtain ⟨h1, h2, h3⟩ := hI0
 refine W.seq (zr (zm rfl (zm rfl (zq (Q.len ud89 rfl rfl) (zq (Q.bin rfl rfl rfl (bv_lss lt_nat)) (zk (W.condDS rfl (fun hc15 => ?_) (fun hc15 => ?_))))))))
 · refine zw (W.seq (W.block (W.reg (zm rfl (zm rfl (zm rfl (zq (Q.iaddrS ud89 sz3 rfl rfl zo) (zq (Q.load1 rfl mb ag3 (iread zo)) (zq (Q.minmax false (oLs_cons rfl (oLs_cons rfl oLs_nil)) mm_minI) (za rfl (WO.nil (End.KB (End.K (W.reg (zm rfl (zq (Q.bin rfl (zi 1) rfl zp) (za rfl (WO.nil (End.KL (W.sub zv (W.subH (SubH.refl _) (ih0 (i + 1) (min a (il L i)) ?_ ?_))))))))))))))))))))))
   · exact ⟨by omega, by omega, by rw [h3, drop_il (by omega)]; rfl⟩
   exact zo
 refine W.exit (End.K_exit (End.KL_exit (End.KB_hit (End.K (zr (zm rfl (za rfl (zk (W.ret (End.retV (z1 rfl) ?_))))))))))
 rw [h3, List.drop_of_length_le (by omega)]; rfl

theorem max_spec (hs : HSt) (hro : ∀ e ∈ hs, e.w = false) (L : List Int) (b sz : Nat) (ex : Bool) (m : MemH hs b ⟨sz, ex, L.map (AV.int .i64)⟩) (h0 : 0 < L.length) (hl : L.length ≤ 256) : Spec tab 94 [.slice b 0 L.length 1] [] hs (Val (.int .i64 (maxM L))) := by
 have mo := m
 obtain ⟨wb, mb⟩ := m
 refine Spec.enter' (ft_get 94 Tryz.func94) rfl (m := 25) rfl (rs := [.tmp 2]) rfl (st := [(0, .slice b 0 L.length 1)]) rfl rfl (fun _ => rfl) (fun E => zr (za (zi 0) (zk (W.seq (zr (zm rfl (zq (Q.len ud89 rfl rfl) (zq (Q.bin rfl (zi 1) rfl (bv_lss lt_nat)) (zk (W.condDS rfl (fun hc7 => ?_) (fun hc7 => ?_)))))))))))
 · exfalso; omega
 refine zw (zr (zm rfl (zq (Q.iaddrL ud89 sz3 rfl (zi 0) zo (o' := 0) rfl) (zq (Q.load1 rfl mb ag3 (iread zo)) (za rfl (zk (W.seq (zr (za (zi 1) (zk (W.block (W.loop_ind2 (fun (i : Nat) (a : Int) => [(0, .slice b 0 L.length 1), (3, .int .i64 a), (4, .int .i64 ((i : Nat) : Int))]) (fun (i : Nat) (a : Int) => hs) (fun (i : Nat) (a : Int) => 1 ≤ i ∧ i ≤ L.length ∧ maxM L = (L.drop i).foldl max a) (fun (i : Nat) (a : Int) => L.length - i) (1) (il L 0) ⟨Nat.le_refl _, by omega, rfl⟩ zv (SubH.refl _) (fun i a hI0 ih0 => ?_)))))))))))))
 obtain ⟨h1, h2, h3⟩ := hI0
 refine W.seq (zr (zm rfl (zm rfl (zq (Q.len ud89 rfl rfl) (zq (Q.bin rfl rfl rfl (bv_lss lt_nat)) (zk (W.condDS rfl (fun hc15 => ?_) (fun hc15 => ?_))))))))
 · refine zw (W.seq (W.block (W.reg (zm rfl (zm rfl (zm rfl (zq (Q.iaddrS ud89 sz3 rfl rfl zo) (zq (Q.load1 rfl mb ag3 (iread zo)) (zq (Q.minmax true (oLs_cons rfl (oLs_cons rfl oLs_nil)) mm_maxI) (za rfl (WO.nil (End.KB (End.K (W.reg (zm rfl (zq (Q.bin rfl (zi 1) rfl zp) (za rfl (WO.nil (End.KL (W.sub zv (W.subH (SubH.refl _) (ih0 (i + 1) (max a (il L i)) ?_ ?_))))))))))))))))))))))
   · exact ⟨by omega, by omega, by rw [h3, drop_il (by omega)]; rfl⟩
   exact zo
 refine W.exit (End.K_exit (End.KL_exit (End.KB_hit (End.K (zr (zm rfl (za rfl (zk (W.ret (End.retV (z1 rfl) ?_))))))))))
 rw [h3, List.drop_of_length_le (by omega)]; rfl

theorem kmin_spec (hs : HSt) (hro : ∀ e ∈ hs, e.w = false) (L : List Int) (b sz : Nat) (ex : Bool) (m : MemH hs b ⟨sz, ex, L.map (AV.int .i64)⟩) (h0 : 0 < L.length) (hl : L.length ≤ 256) : Spec tab 91 [.slice b 0 L.length 1] [] hs (Val (.tuple [.int .i64 (minM L), .int .i64 ((0 : Nat) : Int)])) := by
 have mo := m
 obtain ⟨wb, mb⟩ := m
 refine Spec.enter' (ft_get 91 Tryz.func91) rfl (m := 6) rfl (rs := [.tmp 2, .tmp 3]) rfl (st := [(0, .slice b 0 L.length 1)]) rfl rfl (fun _ => rfl) (fun E => zr (za (zi 0) (za (zi 0) (zk (zr (zm rfl (WO.callV rfl (oLs_cons rfl oLs_nil) rfl (min_spec hs hro L b sz ex mo h0 hl) (SubR.self hro) rfl (za rfl (za (zi 0) (zk (W.ret (End.retV (ResL.tmp rfl (z1 rfl)) ?_))))))))))))
 rfl

theorem kmax_spec (hs : HSt) (hro : ∀ e ∈ hs, e.w = false) (L : List Int) (b sz : Nat) (ex : Bool) (m : MemH hs b ⟨sz, ex, L.map (AV.int .i64)⟩) (h0 : 0 < L.length) (hl : L.length ≤ 256) : Spec tab 93 [.slice b 0 L.length 1] [] hs (Val (.tuple [.int .i64 (maxM L), .int .i64 ((0 : Nat) : Int)])) := by
 have mo := m
 obtain ⟨wb, mb⟩ := m
 refine Spec.enter' (ft_get 93 Tryz.func93) rfl (m := 6) rfl (rs := [.tmp 2, .tmp 3]) rfl (st := [(0, .slice b 0 L.length 1)]) rfl rfl (fun _ => rfl) (fun E => zr (za (zi 0) (za (zi 0) (zk (zr (zm rfl (WO.callV rfl (oLs_cons rfl oLs_nil) rfl (max_spec hs hro L b sz ex mo h0 hl) (SubR.self hro) rfl (za rfl (za (zi 0) (zk (W.ret (End.retV (ResL.tmp rfl (z1 rfl)) ?_))))))))))))
 rfl

theorem kcnt_spec (hs : HSt) (hro : ∀ e ∈ hs, e.w = false) (L : List Int) (b sz : Nat) (ex : Bool) (m : MemH hs b ⟨sz, ex, L.map (AV.int .i64)⟩) (h0 : 0 < L.length) (hl : L.length ≤ 256) : Spec tab 95 [.slice b 0 L.length 1] [] hs (Val (.tuple [.int .i64 ((L.length * 1000000 : Nat) : Int), .int .i64 ((0 : Nat) : Int)])) := by
 have mo := m
 obtain ⟨wb, mb⟩ := m
 refine Spec.enter' (ft_get 95 Tryz.func95) rfl (m := 7) rfl (rs := [.tmp 2, .tmp 3]) rfl (st := [(0, .slice b 0 L.length 1)]) rfl rfl (fun _ => rfl) (fun E => zr (za (zi 0) (za (zi 0) (zk (zr (zm rfl (zq (Q.len ud89 rfl rfl) (zq (Q.bin rfl (zi 1000000) rfl (bv_mul (wn_mul zo))) (za rfl (za (zi 0) (zk (W.ret (End.retV (ResL.tmp rfl (z1 rfl)) ?_)))))))))))))
 rfl

theorem known_tell (op : List Nat) (ho : Bytes op) (h : agB op = true) : Spec tab 53 [.str op] [] [] (ValE (fun v => ∃ F : Nat, v = .tuple [.agg [.func F []], .bool true] ∧ TellS F op)) := by
 refine Spec.enter' (ft_get 53 Tryz.func53) rfl (m := 27) rfl (rs := [.cell 2 76, .tmp 3]) rfl (st := [(0, .str op)]) rfl rfl (fun _ => rfl) (fun E => zr (WO.alloc ao76 rfl (fun b1 => za rfl (zk (W.seq (zr (zm rfl (zk (W.block (zr (zq (Q.bin rfl (oc (v := .str [115, 117, 109]) (by kernel_rfl)) rfl bv_seql) (za rfl (zk (W.condDS rfl (fun hc5 => ?_) (fun hc5 => ?_)))))))))))))))
 · refine zr (zq (Q.build pl76 (oPs_cons rfl oPs_nil) rfl (cs := [_]) rfl) (WO.store sz76 rfl rfl (i := 0) rfl rfl (cs := [_]) rfl (hs' := [_]) rfl (za rfl (zk (W.ret (End.KB_ret (End.K_ret (End.retE (ResL.agg (c := [_]) rfl (zt 0 rfl) ag76 sz76 rfl (z1 rfl)) ?_))))))))
   have e0 : op = [115, 117, 109] := (by assumption)
   subst e0
   exact ⟨89, rfl, fun hs hro L b sz ex m h0 hl => by rw [told_sum]; exact sum_spec hs hro L b sz ex m h0 hl⟩
 refine zr (zq (Q.bin rfl (oc (v := .str [97, 118, 103]) (by kernel_rfl)) rfl bv_seql) (za rfl (zk (W.condDS rfl (fun hc8 => ?_) (fun hc8 => ?_)))))
 · refine zr (zq (Q.build pl76 (oPs_cons rfl oPs_nil) rfl (cs := [_]) rfl) (WO.store sz76 rfl rfl (i := 0) rfl rfl (cs := [_]) rfl (hs' := [_]) rfl (za rfl (zk (W.ret (End.KB_ret (End.K_ret (End.retE (ResL.agg (c := [_]) rfl (zt 0 rfl) ag76 sz76 rfl (z1 rfl)) ?_))))))))
   have e0 : op = [97, 118, 103] := (by assumption)
   subst e0
   exact ⟨90, rfl, fun hs hro L b sz ex m h0 hl => by rw [told_avg]; exact mean_spec hs hro L b sz ex m h0 hl⟩
 refine zr (zq (Q.bin rfl (oc (v := .str [109, 105, 110]) (by kernel_rfl)) rfl bv_seql) (za rfl (zk (W.condDS rfl (fun hc11 => ?_) (fun hc11 => ?_)))))
 · refine zr (zq (Q.build pl76 (oPs_cons rfl oPs_nil) rfl (cs := [_]) rfl) (WO.store sz76 rfl rfl (i := 0) rfl rfl (cs := [_]) rfl (hs' := [_]) rfl (za rfl (zk (W.ret (End.KB_ret (End.K_ret (End.retE (ResL.agg (c := [_]) rfl (zt 0 rfl) ag76 sz76 rfl (z1 rfl)) ?_))))))))
   have e0 : op = [109, 105, 110] := (by assumption)
   subst e0
   exact ⟨91, rfl, fun hs hro L b sz ex m h0 hl => by rw [told_min]; exact kmin_spec hs hro L b sz ex m h0 hl⟩
 refine zr (zq (Q.bin rfl (oc (v := .str [109, 97, 120]) (by kernel_rfl)) rfl bv_seql) (za rfl (zk (W.condDS rfl (fun hc14 => ?_) (fun hc14 => ?_)))))
 · refine zr (zq (Q.build pl76 (oPs_cons rfl oPs_nil) rfl (cs := [_]) rfl) (WO.store sz76 rfl rfl (i := 0) rfl rfl (cs := [_]) rfl (hs' := [_]) rfl (za rfl (zk (W.ret (End.KB_ret (End.K_ret (End.retE (ResL.agg (c := [_]) rfl (zt 0 rfl) ag76 sz76 rfl (z1 rfl)) ?_))))))))
   have e0 : op = [109, 97, 120] := (by assumption)
   subst e0
   exact ⟨93, rfl, fun hs hro L b sz ex m h0 hl => by rw [told_max]; exact kmax_spec hs hro L b sz ex m h0 hl⟩
 refine zr (zq (Q.bin rfl (oc (v := .str [99, 111, 117, 110, 116]) (by kernel_rfl)) rfl bv_seql) (za rfl (zk (W.condDS rfl (fun hc17 => ?_) (fun hc17 => ?_)))))
 · refine zr (zq (Q.build pl76 (oPs_cons rfl oPs_nil) rfl (cs := [_]) rfl) (WO.store sz76 rfl rfl (i := 0) rfl rfl (cs := [_]) rfl (hs' := [_]) rfl (za rfl (zk (W.ret (End.KB_ret (End.K_ret (End.retE (ResL.agg (c := [_]) rfl (zt 0 rfl) ag76 sz76 rfl (z1 rfl)) ?_))))))))
   have e0 : op = [99, 111, 117, 110, 116] := (by assumption)
   subst e0
   exact ⟨95, rfl, fun hs hro L b sz ex m h0 hl => by rw [told_count]; exact kcnt_spec hs hro L b sz ex m h0 hl⟩
 exact absurd h (by unfold agB; simp_all)
theorem agg3_any {hs : HSt} (hro : ∀ e ∈ hs, e.w = false) {X Y : List El} {vx vy : AV} (hX : EIn hs X vx) (hY : EIn hs Y vy) (hXB : EBd X) (hYB : EBd Y) (hx0 : 0 < X.length) (hy0 : 0 < Y.length) (N : List (List Nat)) (vn : AV) (hN : SIn hs N vn) (hNb : SBd N) (md : Int) (bM bN : Nat) (m1 : MemH hs bM ⟨1, true, [.int .i64 md]⟩) (mN : MemH hs bN ⟨1, true, [vn]⟩) (bL : Nat) (m4 : MemH hs bL ⟨1, true, [.func 54 [.ptr bM 0, .ptr bN 0]]⟩) : ∃ c : Int, Spec tab 60 ([vx, vy] ++ [.ptr bL 0]) [] hs (Val (.int .i64 c)) := by
  obtain ⟨bx, szx, exx, rfl, mx⟩ := EIn.full hX hx0
  obtain ⟨by_, szy, exy, rfl, my⟩ := EIn.full hY hy0
  exact ⟨_, agg3_spec hs hro X Y bx by_ szx szy exx exy mx my hX.2 hY.2 hXB hYB hx0 hy0 N vn hN hNb md bM bN m1 mN bL m4⟩
theorem mem_s1 {SB L hs : HSt} {b : Nat} {o : AObj} {w : Bool} (h : SB = L) (i : Nat) (hi : L[i]? = some ⟨b, o, w⟩) : MemH (ro SB ++ hs) b o := by
  subst h
  refine ⟨false, List.mem_append_left _ ?_⟩
  exact List.mem_map.2 ⟨_, List.mem_of_getElem? hi, rfl⟩
theorem mem_sb {SB L D hs : HSt} {b : Nat} {o : AObj} {w : Bool} (h : SB = L) (i : Nat) (hi : L[i]? = some ⟨b, o, w⟩) : MemH (ro (SB ++ D) ++ hs) b o := by
  subst h
  refine ⟨false, List.mem_append_left _ ?_⟩
  exact List.mem_map.2 ⟨_, List.mem_append_left _ (List.mem_of_getElem? hi), rfl⟩
theorem quo_k {k : Int} (h : fitB k = true) : IntKind.i64.wrap (k.tdiv ((1000000 : Nat) : Int)) = k.tdiv 1000000 := by
  have hb : -1152921504606846976 ≤ k ∧ k ≤ 1152921504606846976 := by unfold fitB at h; simpa using h
  obtain ⟨h1, h2⟩ := tdiv_m k
  refine wr64 ?_
  show -9223372036854775808 ≤ k.tdiv 1000000 ∧ k.tdiv 1000000 ≤ 9223372036854775807
  rcases Int.lt_or_le k 0 with g | g
  · rw [h2 g]; omega
  · rw [h1 g]; omega
section
variable {X Y : List El} {hs hl D : HSt} {u : AV}
theorem take_ge {G : List Ge} {i : Nat} {g : Ge} (h : G[i]? = some g) : G.take (i + 1) = G.take i ++ [g] := by rw [List.take_add_one, h]; rfl
theorem VOwn.wz (h : VOwn X u D) : WZ D := by
  obtain ⟨hp, hl, rfl, h1, h2, h3, h4⟩ := h
  exact WZ.app (OwnE.wz h1) h3
end
theorem ag74 : tab.isAgg 74 = some false := by kernel_rfl
theorem ao80 : AO tab 80 = some ⟨1, true, [.nilf]⟩ := by kernel_rfl
theorem bx3 : ∀ l : List AV, l.length = 1 → varObj tab 3 l = ⟨1, true, l⟩ := by intro l h; exact varObj_plain (by kernel_rfl) h
theorem fa76_0 : FA tab 76 0 = some (0, 0 + 1) := by kernel_rfl
theorem sz80 : tab.size 80 = some 1 := by kernel_rfl
def vsE (M : List El) : List Int := M.map (·.2.2)
noncomputable def vlA (op : List Nat) (md : Int) (N : List (List Nat)) (L : List PE) (x : PE) : Int × Nat := toldM op ((L.filter fun y => decide (prM (aggKey md N y.1) = prM (aggKey md N x.1))).map (·.2))
def TellR (op : List Nat) (md : Int) (N : List (List Nat)) (k : Int) (V : List El) (e : Nat) (W : List PE) : Prop :=
  (aggPre op md k V = some e ∧ W = []) ∨ (aggPre op md k V = none ∧ (((∃ x ∈ P2 V, (vlA op md N (P2 V) x).2 ≠ 0 ∧ e = (vlA op md N (P2 V) x).2) ∧ W = []) ∨
    ((∀ x ∈ P2 V, (vlA op md N (P2 V) x).2 = 0) ∧ e = 0 ∧ Srt W ∧ ∀ p, p ∈ W ↔ ∃ x ∈ P2 V, p = (aggKey md N x.1, (vlA op md N (P2 V) x).1))))
section
variable {op : List Nat} {md : Int} {N : List (List Nat)} {V : List El} {G : List Ge}
theorem vs_len {M : List El} : (vsE M).length = M.length := List.length_map _
theorem vs_at {M : List El} {j : Nat} (h : j < M.length) : (vsE M).take (j + 1) = (vsE M).take j ++ [(eg M j).2.2] := by
  rw [List.take_add_one]
  congr 1
  unfold vsE eg
  rw [List.getElem?_map, List.getElem?_eq_getElem h, List.getD_eq_getElem?_getD, List.getElem?_eq_getElem h]
  rfl
theorem vs_p2 {M : List El} : vsE M = (P2 M).map (·.2) := by unfold vsE P2; rw [List.map_map]; rfl
theorem grp_key (h : GInv (fun x : PE => prM (aggKey md N x.1)) V G) {g : Ge} (hg : g ∈ G) {z : El} (hz : z ∈ g.1.2) : prM (aggKey md N z.2.1) = g.1.1 := by
  rw [(h.2.1 g hg).1] at hz
  exact of_decide_eq_true (List.mem_filter.1 hz).2
theorem grp_val (h : GInv (fun x : PE => prM (aggKey md N x.1)) V G) {g : Ge} (hg : g ∈ G) {z : El} (hz : z ∈ g.1.2) : toldM op (vsE g.1.2) = vlA op md N (P2 V) z.2 := by
  unfold vlA
  rw [grp_key h hg hz, vs_p2]
  conv => lhs; rw [(h.2.1 g hg).1]
  rw [p2_fl]
theorem grp_hd (h : GInv (fun x : PE => prM (aggKey md N x.1)) V G) {g : Ge} (hg : g ∈ G) : eg g.1.2 0 ∈ g.1.2 := eg_mem (List.length_pos_iff.2 (h.2.1 g hg).2)
theorem grp_in (h : GInv (fun x : PE => prM (aggKey md N x.1)) V G) {g : Ge} (hg : g ∈ G) {z : El} (hz : z ∈ g.1.2) : z.2 ∈ P2 V := by
  rw [(h.2.1 g hg).1] at hz
  exact List.mem_map.2 ⟨z, fl_mem hz, rfl⟩
noncomputable def grpE (op : List Nat) (md : Int) (N : List (List Nat)) (g : Ge) : PE := (aggKey md N (eg g.1.2 0).2.1, (toldM op (vsE g.1.2)).1)
theorem tell_fin {e : Nat} {W : List PE} (h : GInv (fun x : PE => prM (aggKey md N x.1)) V G) (hK : ∀ i, i < V.length → KeyOK (eg V i).2.1) (hz : ∀ g ∈ G, (toldM op (vsE g.1.2)).2 = 0) (hR : OrdR (G.map (grpE op md N)) e W) :
    (∀ x ∈ P2 V, (vlA op md N (P2 V) x).2 = 0) ∧ e = 0 ∧ Srt W ∧ ∀ p, p ∈ W ↔ ∃ x ∈ P2 V, p = (aggKey md N x.1, (vlA op md N (P2 V) x).1) := by
  have hx : ∀ x ∈ P2 V, ∃ g ∈ G, ∃ z ∈ g.1.2, z.2 = x := by
    intro x hx
    obtain ⟨y, hy, rfl⟩ := List.mem_map.1 hx
    obtain ⟨g, hg, e⟩ := h.2.2 y hy
    refine ⟨g, hg, y, ?_, rfl⟩
    rw [(h.2.1 g hg).1]
    exact List.mem_filter.2 ⟨hy, decide_eq_true e.symm⟩
  have hn : ((G.map (grpE op md N)).map (·.1)).Nodup := by
    rw [List.map_map]
    have h1 := h.1
    unfold List.Nodup at h1 ⊢
    rw [List.pairwise_map] at h1 ⊢
    refine List.Pairwise.imp_of_mem ?_ h1
    intro a b ha hb hab e
    refine hab ?_
    rw [← grp_key h ha (grp_hd h ha), ← grp_key h hb (grp_hd h hb)]
    exact congrArg prM e
  refine ⟨fun x hx' => ?_, ?_⟩
  · obtain ⟨g, hg, z, hz', rfl⟩ := hx x hx'
    rw [← grp_val h hg hz']
    exact hz g hg
  rcases hR with ⟨_, _, h3⟩ | ⟨h1, h2, h3⟩
  · exact absurd hn h3
  refine ⟨h1, h3, fun p => ?_⟩
  rw [h2.mem_iff, List.mem_map]
  constructor
  · rintro ⟨g, hg, rfl⟩
    refine ⟨(eg g.1.2 0).2, grp_in h hg (grp_hd h hg), ?_⟩
    unfold grpE
    rw [grp_val h hg (grp_hd h hg)]
  · rintro ⟨x, hx', rfl⟩
    obtain ⟨g, hg, z, hz', rfl⟩ := hx x hx'
    refine ⟨g, hg, ?_⟩
    have hkz : KeyOK z.2.1 := key_mem hK (by rw [(h.2.1 g hg).1] at hz'; exact fl_mem hz')
    have hkh : KeyOK (eg g.1.2 0).2.1 := key_mem hK (by have := grp_hd h hg; rw [(h.2.1 g hg).1] at this ⊢; exact fl_mem this)
    have e : aggKey md N (eg g.1.2 0).2.1 = aggKey md N z.2.1 := pr_inj (ak_key hkh md N).lab (ak_key hkz md N).lab ((grp_key h hg (grp_hd h hg)).trans (grp_key h hg hz').symm)
    unfold grpE
    rw [e, grp_val h hg hz']
end
theorem told_add {a b : Int} : I64 (fAdd a b).1 := by
  unfold fAdd fTold
  split
  · split
    · rename_i h
      unfold fitsB at h
      simp only [Bool.and_eq_true, decide_eq_true_eq] at h
      unfold I64; omega
    · unfold I64; decide
  · unfold I64; decide
theorem sum_i64 : ∀ (l : List Int) (a : Int), I64 a → I64 (sumG a l).1
  | [], a, h => h
  | n :: l, a, h => by
    rw [sumG]
    split
    · show I64 0; unfold I64; decide
    · exact sum_i64 l _ told_add
theorem scale_i64 {a b c : Int} : I64 (fScale a b c).1 := by
  unfold fScale fScaled
  split
  · split
    · rename_i h
      show I64 (sgn _ _)
      unfold sgn I64
      generalize hq : a.natAbs * b.natAbs / c.natAbs = q at *
      split <;> omega
    · unfold I64; decide
  · unfold I64; decide
theorem mm_i64 {f : Int → Int → Int} (hf : ∀ a b, I64 a → I64 b → I64 (f a b)) : ∀ (l : List Int) (a : Int), I64 a → (∀ n ∈ l, I64 n) → I64 (l.foldl f a)
  | [], a, h, _ => h
  | n :: l, a, h, g => mm_i64 hf l _ (hf _ _ h (g n (by simp))) fun m hm => g m (by simp [hm])
theorem told_i64 {op : List Nat} {L : List Int} (h : ∀ n ∈ L, I64 n) (hl : L.length ≤ 256) : I64 (toldM op L).1 := by
  have h0 : I64 (il L 0) := by
    unfold il
    rw [List.getD_eq_getElem?_getD]
    cases e : L[0]? with
    | none => unfold I64; decide
    | some n => exact h n (List.mem_of_getElem? e)
  have hd : ∀ n ∈ L.drop 1, I64 n := fun n hn => h n (List.mem_of_mem_drop hn)
  unfold toldM
  split
  · exact sum_i64 _ _ (by unfold I64; decide)
  split
  · unfold meanM
    split
    · show I64 0; unfold I64; decide
    · exact scale_i64
  split
  · show I64 ((L.length * 1000000 : Nat) : Int)
    unfold I64; omega
  split
  · exact mm_i64 (fun a b ha hb => by unfold I64 at *; omega) _ _ h0 hd
  · exact mm_i64 (fun a b ha hb => by unfold I64 at *; omega) _ _ h0 hd
theorem eq74f {F : Nat} : evBin tab .eql 74 (.func F []) .nilf = some (.bool false) := by rfl
end Go.Proofs.YtmblgaehfjheeaaGreat.Ev
