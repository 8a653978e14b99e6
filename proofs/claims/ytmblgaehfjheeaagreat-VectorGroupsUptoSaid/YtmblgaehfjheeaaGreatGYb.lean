/- Chapters 6 and 19, walks: which labels are ahead, names. -/
import Derived.Test.YtmblgaehfjheeaaGreatGNod
import Derived.Test.YtmblgaehfjheeaaGreatGYa
namespace Go.Proofs.YtmblgaehfjheeaaGreat.Ev
open Go.RowKit
set_option linter.unusedVariables false
set_option linter.unusedSimpArgs false
set_option maxRecDepth 100000
set_option maxHeartbeats 1000000
theorem lg_drop {A : List Lab} {i : Nat} (h : i < A.length) : A.drop i = lg A i :: A.drop (i + 1) := by
 rw [List.drop_eq_getElem_cons h]
 unfold lg
 rw [List.getD_eq_getElem?_getD, List.getElem?_eq_getElem h]; rfl
theorem cmpL_step {A B : List Lab} {i : Nat} (ha : i < A.length) (hb : i < B.length) : cmpL (A.drop i) (B.drop i) = if cmp1 (lg A i) (lg B i) ≠ 0 then cmp1 (lg A i) (lg B i) else cmpL (A.drop (i + 1)) (B.drop (i + 1)) := by
 rw [lg_drop ha, lg_drop hb]; rfl
theorem cmpL_long {A B : List Lab} {i : Nat} (ha : i < A.length) (hb : B.length ≤ i) : cmpL (A.drop i) (B.drop i) = 1 := by
 rw [lg_drop ha, List.drop_eq_nil_of_le hb]; rfl
theorem cmpL_end {A B : List Lab} {i : Nat} (ha : A.length ≤ i ∧ i ≤ A.length ∧ i ≤ B.length) : cmpL (A.drop i) (B.drop i) = if A.length < B.length then -1 else 0 := by
 rw [List.drop_eq_nil_of_le ha.1]
 split
 ·rw [lg_drop zy]; rfl
 ·rw [List.drop_eq_nil_of_le zy]; rfl
theorem cmpL_fin {A B : List Lab} {i : Nat} (h : (A.length ≤ i ∨ B.length ≤ i) ∧ i ≤ A.length ∧ i ≤ B.length) : cmpL (A.drop i) (B.drop i) = if A.length < B.length then -1 else if A.length > B.length then 1 else 0 := by
 by_cases ha : A.length ≤ i
 ·rw [cmpL_end ⟨ha, h.2⟩]
  split
  ·rfl
  ·rw [if_neg zy]
 ·rw [cmpL_long zy zy, if_neg zy, if_pos zy]
def nchr (i c : Nat) : Prop := (97 ≤ c ∧ c ≤ 122) ∨ (65 ≤ c ∧ c ≤ 90) ∨ c = 95 ∨ (0 < i ∧ 48 ≤ c ∧ c ≤ 57)
instance (i c : Nat) : Decidable (nchr i c) := by unfold nchr; exact inferInstance
def nameB (s : List Nat) : Bool := decide (s ≠ [] ∧ s.length ≤ 32 ∧ ∀ i, i < s.length → nchr i (s.getD i 0))
theorem nam_no {s : List Nat} {i : Nat} (hi : i < s.length) (h : ¬ nchr i (s.getD i 0)) : oneOf [AV.bool false] = .bool (nameB s) := by
 have : ¬ (s ≠ [] ∧ s.length ≤ 32 ∧ ∀ i, i < s.length → nchr i (s.getD i 0)) := fun g => h (g.2.2 i hi)
 unfold nameB
 rw [decide_eq_false this]; rfl
theorem nam_yes {s : List Nat} {i : Nat} (hi : s.length ≤ i) (h : ∀ j, j < i → nchr j (s.getD j 0)) (hne : s ≠ []) : oneOf [AV.bool (decide (s.length ≤ 32))] = .bool (nameB s) := by
 show AV.bool _ = _
 rw [AV.bool.injEq]
 unfold nameB
 rw [decide_eq_decide]
 exact ⟨fun g => ⟨hne, g, fun j hj => h j zy⟩, fun g => g.2.1⟩
theorem nam_nil {s : List Nat} (hne : s = []) : oneOf [AV.bool false] = .bool (nameB s) := by
 subst hne; rfl
theorem isnan_spec (x : List Nat) (hx : Bytes x) : Spec tab 141 [.str x] [] [] (Val (.bool false)) := by
 refine Spec.en (ftg 141 Tryz.func141) rfl (m := 6) rfl (rs := [.tmp 2]) rfl (st := [(0, .str x)]) rfl rfl (fun _ => rfl) (fun E => zr (za rfl (zk (zr (zm rfl (zm rfl (zq (Q.bin rfl rfl rfl bv_sneq) (za rfl (zk (W.ret (End.rV (z1 rfl) ?_)))))))))))
 simp [one1]

theorem cmpc_spec (x y : List Nat) (hx : Bytes x) (hy : Bytes y) : Spec tab 104 [.str x, .str y] [] [] (Val (.int .i64 (cmpT x y))) := by
 refine Spec.en (ftg 104 Tryz.func104) rfl (m := 20) rfl (rs := [.tmp 4]) rfl (st := [(0, .str x), (1, .str y)]) rfl rfl (fun _ => rfl) (fun E => zr (za (zi 0) (zk (zr (zm rfl (WO.cV rfl (oLc rfl oz) rfl (isnan_spec _ hx) SubR.nil rfl (za rfl (zk (zr (zm rfl (WO.cV rfl (oLc rfl oz) rfl (isnan_spec _ hy) SubR.nil rfl (za rfl (zk (W.seq (zr (zm rfl (zk (W.condF rfl (zw (W.seq (zr (zm rfl (zk ?_)))))))))))))))))))))))
 refine W.condF rfl (zw (W.seq (zr (zm rfl (zm rfl (zq (Q.bin rfl rfl rfl bv_slss) (zk (W.condS rfl (fun hc16 => ?_) (fun hc16 => ?_)))))))))
 ·refine zr (za rfl (zk (W.ret (End.Kr (End.rV (z1 rfl) ?_)))))
  simp [one1, cmpT, *]
 refine zw (W.seq (zr (zm rfl (zm rfl (zq (Q.bin rfl rfl rfl bv_sgtr) (zk (W.sub (zc 19 rfl zzn) (W.condS rfl (fun hc19 => ?_) (fun hc19 => ?_)))))))))
 ·refine zr (za (zi 1) (zk (W.ret (End.Kr (End.rV (z1 rfl) ?_)))))
  simp [one1, cmpT, *]
 refine zw (zr (za (zi 0) (zk (W.ret (End.rV (z1 rfl) ?_)))))
 simp [one1, cmpT, *]

theorem text_spec (x y : List Nat) (hx : Bytes x) (hy : Bytes y) : Spec tab 111 [.str x, .str y] [] [] (Val (.int .i64 (cmpT x y))) := by
 refine Spec.en (ftg 111 Tryz.func111) rfl (m := 11) rfl (rs := [.tmp 4]) rfl (st := [(0, .str x), (1, .str y)]) rfl rfl (fun _ => rfl) (fun E => zr (za (zi 0) (zk (W.seq (zr (zm rfl (zm rfl (zq (Q.bin rfl rfl rfl bv_slss) (zk (W.condS rfl (fun hc7 => ?_) (fun hc7 => ?_)))))))))))
 ·refine zr (za rfl (zk (W.ret (End.Kr (End.rV (z1 rfl) ?_)))))
  simp [one1, cmpT, *]
 refine zw (W.seq (zr (zm rfl (zm rfl (zq (Q.bin rfl rfl rfl bv_sgtr) (zk (W.condS rfl (fun hc10 => ?_) (fun hc10 => ?_))))))))
 ·refine zr (za (zi 1) (zk (W.ret (End.Kr (End.rV (z1 rfl) ?_)))))
  simp [one1, cmpT, *]
 refine zw (zr (za (zi 0) (zk (W.ret (End.rV (z1 rfl) ?_)))))
 simp [one1, cmpT, *]

theorem or_spec (b : Nat) (ex : Bool) (u v : Int) : Spec tab 103 [.slice b 0 2 1] [] [⟨b, ⟨1, ex, [.int .i64 u, .int .i64 v]⟩, false⟩] (Val (.int .i64 (if u ≠ 0 then u else v))) := by
 refine Spec.en (ftg 103 Tryz.func103) rfl (m := 18) rfl (rs := [.tmp 2]) rfl (st := [(0, .slice b 0 2 1)]) rfl rfl (fun _ => rfl) (fun E => zr (za (zi 0) (zk (zr (za (zi 0) (zk (W.seq (zr (zm rfl (zq (Q.len ud89 rfl rfl) (zq (Q.move (zi 0)) (zk (W.block (W.loop (zr (zq (Q.bin rfl rfl rfl (bvl (p := true) rfl)) (zk (W.seq (W.condT rfl (zw (W.seq (W.block (zr ?_)))))))))))))))))))))))
 refine zq (Q.iaddrL ud89 sz3 rfl rfl zo (o' := 0) rfl) (zq (Q.l1 rfl (zt 0 rfl) ag3 rfl) (za rfl (zk (zr (zm rfl (zm rfl (zq (Q.bin rfl rfl rfl (bv_neq ne_int)) (zk (W.cD rfl (fun hc14 => ?_) (fun hc14 => ?_))))))))))
 ·refine zr (zm rfl (za rfl (zk (W.ret (End.Br (End.Kr (End.Lr (End.Br (End.Kr (End.rV (z1 rfl) ?_))))))))))
  simp_all [one1]
 refine W.skip (End.KB (End.K (W.reg (zq (Q.bin rfl (zi 1) rfl (bv_add (c := (((1 : Nat)) : Int)) (by decide))) (zm rfl (WO.nil (End.KL (W.loop (zr (zq (Q.bin rfl rfl rfl (bvl (p := true) rfl)) (zk (W.seq (W.condT rfl (zw (W.seq (W.block (zr (zq (Q.iaddrL ud89 sz3 rfl rfl zo (o' := 1) rfl) (zq (Q.l1 rfl (zt 0 rfl) ag3 rfl) (za rfl (zk (zr (zm rfl (zm rfl ?_))))))))))))))))))))))))
 refine zq (Q.bin rfl rfl rfl (bv_neq ne_int)) (zk (W.cD rfl (fun hc14 => ?_) (fun hc14 => ?_)))
 ·refine zr (zm rfl (za rfl (zk (W.sub (zc 2 rfl zzn) (W.ret (End.Br (End.Kr (End.Lr (End.Br (End.Kr (End.rV (z1 rfl) ?_)))))))))))
  simp_all [one1]
 refine W.skip (End.KB (End.K (W.reg (zq (Q.bin rfl (zi 1) rfl (bv_add (c := (((2 : Nat)) : Int)) (by decide))) (zm rfl (WO.nil (End.KL (W.loop (zr (zq (Q.bin rfl rfl rfl (bvl (p := false) rfl)) (zk (W.seq (W.condF rfl (W.exit (End.Kx (End.Lx (End.Bh (End.K (zr (zm rfl (za rfl (zk (W.sub (zc 2 rfl zzn) (W.ret (End.rV (z1 rfl) ?_)))))))))))))))))))))))))
 simp_all [one1]

theorem cmp1_spec (a b c d : List Nat) (ha : Bytes a) (hb : Bytes b) (hc : Bytes c) (hd : Bytes d) : Spec tab 102 [.agg [.str a, .str b], .agg [.str c, .str d]] [] [] (Val (.int .i64 (cmp1 (a, b) (c, d)))) := by
 refine Spec.en (ftg 102 Tryz.func102) rfl (m := 17) rfl (rs := [.tmp 4]) rfl (st := [(0, .agg [.str a, .str b]), (1, .agg [.str c, .str d])]) rfl rfl (fun _ => rfl) (fun E => zr (WO.box rfl rfl (bx68 _ rfl) rfl (fun b1 => WO.box rfl rfl (bx68 _ rfl) rfl (fun b2 => za (zi 0) (zk (W.seq (W.regD 9 _ (by kernel_rfl) (KIn.refl _) (WD.q (Q.fieldAddr fa68_0 rfl (o' := 0) rfl) bqp rfl (WD.q (Q.l1 rfl (zt 1 rfl) ag9 rfl) bq_str rfl (WD.q (Q.fieldAddr fa68_0 rfl (o' := 0) rfl) bqp rfl (WD.q (Q.l1 rfl (zt 0 rfl) ag9 rfl) bq_str rfl (WD.callV rfl (oLc rfl (oLc rfl oz)) rfl (cmpc_spec _ _ ha hc) SubR.nil (KIn.refl _) rfl (WD.q (Q.fieldAddr fa68_1 rfl (o' := 1) rfl) bqp rfl (WD.q (Q.l1 rfl (zt 1 rfl) ag9 rfl) bq_str rfl (WD.q (Q.fieldAddr fa68_1 rfl (o' := 1) rfl) bqp rfl (WD.q (Q.l1 rfl (zt 0 rfl) ag9 rfl) bq_str rfl (WD.callV rfl (oLc rfl (oLc rfl oz)) rfl (cmpc_spec _ _ hb hd) SubR.nil (KIn.refl _) rfl (WD.bslice ud89 sz3 zr3 rfl (opc rfl (opc rfl opn)) rfl (cs := [_, _]) rfl rfl rfl (KIn.refl _) (fun b3 => WD.callV rfl (oLc rfl oz) rfl (or_spec _ _ _ _) (SubR.one (zt 0 rfl)) (KIn.tl (KIn.refl _)) rfl (WD.q (Q.assign rfl) bqi rfl (WD.nil (End.K (W.sub (zc 4 rfl zzn) ?_)))))))))))))))))))))))
 refine W.ret (End.rV (z1 rfl) ?_)
 rfl

theorem cmpf_spec (hs : HSt) (hro : ∀ e ∈ hs, e.w = false) (A B : List Lab) (va vb : AV) (ha : LIn hs A va) (hb : LIn hs B vb) (hA : LBd A) (hB : LBd B) : Spec tab 101 [va, vb, .func 102 []] [] hs (Val (.int .i64 (cmpL A B))) := by
 have hAl := hA.1
 have hBl := hB.1
 refine Spec.en (ftg 101 Tryz.func101) rfl (m := 39) rfl (rs := [.tmp 6]) rfl (st := [(0, va), (1, vb), (2, .func 102 [])]) rfl rfl (fun _ => rfl) (fun E => zr (za (zi 0) (zk (W.seq (zr (zm rfl (zq (Q.len ud33 rfl (LIn.len ha)) (zq (Q.move (zi 0)) (zk (W.block (W.loop_ind (fun (i : Nat) => [(0, va), (1, vb), (2, .func 102 []), (11, va), (12, .int .i64 ((A.length : Nat) : Int)), (13, .int .i64 ((i : Nat) : Int))]) (fun _ => _) (fun (i : Nat) => i ≤ A.length ∧ i ≤ B.length ∧ cmpL A B = cmpL (A.drop i) (B.drop i)) (fun (i : Nat) => A.length - i) (0) ⟨Nat.zero_le _, Nat.zero_le _, rfl⟩ zv (SubH.refl _) (fun i hI0 ih0 => ?_))))))))))))
 obtain ⟨h1, h2, h3⟩ := hI0
 refine zr (zq (Q.bin rfl rfl rfl (bvl ltn)) (zk (W.seq (W.cD rfl (fun hc14 => ?_) (fun hc14 => ?_)))))
 ·obtain ⟨ba, sza, exa, rfl, wa, ma⟩ := LIn.full ha zy
  refine zw (W.seq (W.block (zr (zm rfl (zq (Q.iS ud33 sz68 rfl rfl zo) (zq (Q.loadN rfl ma ag68 sz68 (cL_at zo)) (WO.alloc ao68 rfl (fun b1 => za rfl (WO.store sz68 rfl rfl (i := 0) rfl rfl (cs := [_, _]) rfl (hs' := _ :: _) rfl (zk (W.seq (zr (zm rfl (zm rfl (zq (Q.len ud33 rfl (LIn.len hb)) (zq (Q.bin rfl rfl rfl (bv_geq le_nat)) (zk (W.cD rfl (fun hc21 => ?_) (fun hc21 => ?_)))))))))))))))))))
  ·refine zr (za (zi 1) (zk (W.sub (zc 6 rfl zzn) (W.ret (End.Kr (End.Br (End.Kr (End.Lr (End.Br (End.Kr (End.rV (z1 rfl) ?_)))))))))))
   rw [h3, cmpL_long zy zy]; rfl
  obtain ⟨bb, szb, exb, rfl, wb, mb⟩ := LIn.full hb zy
  refine zw (zr (zm rfl (zm rfl (zq (Q.iS ud33 sz68 rfl rfl zo) (zq (Q.loadN rfl (List.mem_cons_of_mem _ mb) ag68 sz68 (cL_at zo)) (WO.alloc ao68 rfl (fun b2 => WO.store sz68 rfl rfl (i := 0) rfl rfl (cs := [_, _]) rfl (hs' := _ :: _ :: _) rfl (zk (zr (zm rfl (zq (Q.loadN rfl (zt 1 rfl) ag68 sz68 (l := [_, _]) rfl) (zq (Q.loadN rfl (zt 0 rfl) ag68 sz68 (l := [_, _]) rfl) (WO.cV rfl (oLc rfl (oLc rfl oz)) rfl (cmp1_spec _ _ _ _ (hA.at zo).1 (hA.at zo).2.1 (hB.at zo).1 (hB.at zo).2.1) SubR.nil rfl (za rfl (zk (W.sub (zc 10 rfl (zc 0 rfl (zc 1 rfl (zc 2 rfl (zc 11 rfl (zc 12 rfl (zc 13 rfl zzn))))))) (zr (zm rfl (zq (Q.bin rfl (zi 0) rfl (bv_neq ne_int)) (zk (W.cD rfl (fun hc31 => ?_) (fun hc31 => ?_))))))))))))))))))))))
  ·refine zr (zm rfl (za rfl (zk (W.ret (End.Br (End.Kr (End.Lr (End.Br (End.Kr (End.rV (z1 rfl) ?_))))))))))
   rw [h3, cmpL_step zy zy, if_pos (show cmp1 (lg A i) (lg B i) ≠ 0 from hc31)]; rfl
  refine W.skip (End.KB (End.K (W.reg (zq (Q.bin rfl (zi 1) rfl zp) (zm rfl (WO.nil (End.KL (W.sub zv (W.sH (SubH.of_sublist (by simp)) (ih0 (i + 1) ?_ ?_))))))))))
  ·exact ⟨by omega, by omega, by rw [h3, cmpL_step zy zy, if_neg (by simp_all)]⟩
  exact zo
 refine W.exit (End.Kx (End.Lx (End.Bh (End.K (W.seq (zr (zm rfl (zq (Q.len ud33 rfl (LIn.len ha)) (zm rfl (zq (Q.len ud33 rfl (LIn.len hb)) (zq (Q.bin rfl rfl rfl (bvl ltn)) (zk (W.cD rfl (fun hc38 => ?_) (fun hc38 => ?_))))))))))))))
 ·refine zr (za rfl (zk (W.ret (End.Kr (End.rV (z1 rfl) ?_)))))
  rw [h3, cmpL_end zy, if_pos zy]; rfl
 refine zw (zr (za (zi 0) (zk (W.ret (End.rV (z1 rfl) ?_)))))
 rw [h3, cmpL_end zy, if_neg zy]; rfl

theorem cmp_spec (hs : HSt) (hro : ∀ e ∈ hs, e.w = false) (A B : List Lab) (va vb : AV) (ha : LIn hs A va) (hb : LIn hs B vb) (hA : LBd A) (hB : LBd B) : Spec tab 61 [va, vb] [] hs (Val (.int .i64 (cmpL A B))) := by
 refine Spec.en (ftg 61 Tryz.func61) rfl (m := 8) rfl (rs := [.tmp 4]) rfl (st := [(0, va), (1, vb)]) rfl rfl (fun _ => rfl) (fun E => zr (za (zi 0) (zk (zr (zm rfl (zm rfl (WO.cV rfl (oLc rfl (oLc rfl (oLc rfl oz))) rfl (cmpf_spec hs hro A B _ _ ha hb hA hB) (SubR.s hro) rfl (za rfl (zk (W.ret (End.rV (z1 rfl) ?_)))))))))))
 rfl

theorem rcmp_spec (hs : HSt) (hro : ∀ e ∈ hs, e.w = false) (A B : List Lab) (va vb : AV) (ha : LIn hs A va) (hb : LIn hs B vb) (hA : LBd A) (hB : LBd B) : Spec tab 75 [va, vb] [] hs (Val (.int .i64 (cmpL A B))) := by
 have hAl := hA.1
 have hBl := hB.1
 refine Spec.en (ftg 75 Tryz.func75) rfl (m := 58) rfl (rs := [.tmp 4]) rfl (st := [(0, va), (1, vb)]) rfl rfl (fun _ => rfl) (fun E => zr (za (zi 0) (zk (W.seq (zr (za (zi 0) (zk (W.block (W.loop_ind (fun (i : Nat) => [(0, va), (1, vb), (5, .int .i64 ((i : Nat) : Int))]) (fun _ => _) (fun (i : Nat) => i ≤ A.length ∧ i ≤ B.length ∧ cmpL A B = cmpL (A.drop i) (B.drop i)) (fun (i : Nat) => A.length - i) (0) ⟨Nat.zero_le _, Nat.zero_le _, rfl⟩ zv (SubH.refl _) (fun i hI0 ih0 => ?_))))))))))
 obtain ⟨h1, h2, h3⟩ := hI0
 refine W.seq (zr (zm rfl (zm rfl (zq (Q.len ud33 rfl (LIn.len ha)) (zq (Q.bin rfl rfl rfl (bvl ltn)) (zm rfl (WO.sD (d := 12) rfl (fun hc12 => ?_) (fun hc12 => ?_))))))))
 ·refine WO.gT rfl rfl (zm rfl (WO.gT rfl rfl (zm rfl (WO.gT rfl rfl (zq (Q.len ud33 rfl (LIn.len hb)) (WO.gT rfl rfl (zq (Q.bin rfl rfl rfl (bvl ltn)) (zq (Q.pT rfl rfl) (zk (W.cD rfl (fun hc17 => ?_) (fun hc17 => ?_)))))))))))
  ·obtain ⟨ba, sza, exa, rfl, wa, ma⟩ := LIn.full ha zy
   obtain ⟨bb, szb, exb, rfl, wb, mb⟩ := LIn.full hb zy
   refine zw (W.seq (W.block (W.seq (W.seq (W.regT (by kernel_rfl) (zm rfl (zm rfl (zq (Q.iS ud33 sz68 rfl rfl zo) (zq (Q.fieldAddr fa68_0 rfl rfl) (zq (Q.l1 rfl ma ag9 (cL_f0 zo)) (zm rfl (zm rfl (zq (Q.iS ud33 sz68 rfl rfl zo) (zq (Q.fieldAddr fa68_0 rfl rfl) (zq (Q.l1 rfl mb ag9 (cL_f0 zo)) (WO.cV rfl (oLc rfl (oLc rfl oz)) rfl (text_spec _ _ (hA.at zo).1 (hB.at zo).1) SubR.nil rfl (za rfl (zk (W.sub (zc 6 rfl (zc 0 rfl (zc 1 rfl (zc 5 rfl zzn)))) (zr (zm rfl (zq (Q.bin rfl (zi 0) rfl (bv_neq ne_int)) (zk ?_)))))))))))))))))))))))
   refine W.cD rfl (fun hc32 => ?_) (fun hc32 => ?_)
   ·refine zr (zm rfl (za rfl (zk (W.ret (End.Kr (End.Br (End.Kr (End.Lr (End.Br (End.Kr (End.rV (z1 rfl) ?_)))))))))))
    rw [h3, cmpL_step zy zy, if_pos (by simp_all [cmp1])]; simp_all [cmp1, one1]
   refine zw (W.seq (W.regT (by kernel_rfl) (zm rfl (zm rfl (zq (Q.iS ud33 sz68 rfl rfl zo) (zq (Q.fieldAddr fa68_1 rfl rfl) (zq (Q.l1 rfl ma ag9 (cL_f1 zo)) (zm rfl (zm rfl (zq (Q.iS ud33 sz68 rfl rfl zo) (zq (Q.fieldAddr fa68_1 rfl rfl) (zq (Q.l1 rfl mb ag9 (cL_f1 zo)) (WO.cV rfl (oLc rfl (oLc rfl oz)) rfl (text_spec _ _ (hA.at zo).2.1 (hB.at zo).2.1) SubR.nil rfl (za rfl (zk (W.sub (zc 7 rfl (zc 0 rfl (zc 1 rfl (zc 5 rfl zzn)))) (zr (zm rfl (zq (Q.bin rfl (zi 0) rfl (bv_neq ne_int)) (zk (W.cD rfl (fun hc46 => ?_) (fun hc46 => ?_))))))))))))))))))))))
   ·refine zr (zm rfl (za rfl (zk (W.ret (End.Br (End.Kr (End.Lr (End.Br (End.Kr (End.rV (z1 rfl) ?_))))))))))
    rw [h3, cmpL_step zy zy, if_pos (by simp_all [cmp1])]; simp_all [cmp1, one1]
   refine W.skip (End.KB (End.K (W.reg (zm rfl (zq (Q.bin rfl (zi 1) rfl zp) (za rfl (WO.nil (End.KL (W.sub zv (W.sH (SubH.of_sublist (by simp)) (ih0 (i + 1) ?_ ?_)))))))))))
   ·exact ⟨by omega, by omega, by rw [h3, cmpL_step zy zy, if_neg (by simp_all [cmp1])]⟩
   exact zo
  refine W.exit (End.Kx (End.Lx (End.Bh (End.K (W.seq (zr (zm rfl (zq (Q.len ud33 rfl (LIn.len ha)) (zm rfl (zq (Q.len ud33 rfl (LIn.len hb)) (zq (Q.bin rfl rfl rfl (bvl ltn)) (zk (W.sub (zc 52 rfl (zc 0 rfl (zc 1 rfl zzn))) (W.cD rfl (fun hc52 => ?_) (fun hc52 => ?_)))))))))))))))
  ·refine zr (za rfl (zk (W.ret (End.Kr (End.rV (z1 rfl) ?_)))))
   rw [h3, cmpL_fin zy, if_pos zy]; rfl
  refine zw (W.seq (zr (zm rfl (zq (Q.len ud33 rfl (LIn.len ha)) (zm rfl (zq (Q.len ud33 rfl (LIn.len hb)) (zq (Q.bin rfl rfl rfl (bv_gtr ltn)) (zk (W.cD rfl (fun hc57 => ?_) (fun hc57 => ?_))))))))))
  ·refine zr (za (zi 1) (zk (W.ret (End.Kr (End.rV (z1 rfl) ?_)))))
   rw [h3, cmpL_fin zy, if_neg zy, if_pos zy]; rfl
  refine zw (zr (za (zi 0) (zk (W.ret (End.rV (z1 rfl) ?_)))))
  rw [h3, cmpL_fin zy, if_neg zy, if_neg zy]; rfl
 refine zg rfl rfl (zg rfl rfl (zg rfl rfl (zg rfl rfl (zq (Q.pF rfl rfl) (zk (W.condF rfl (W.exit (End.Kx (End.Lx (End.Bh (End.K (W.seq (zr (zm rfl (zq (Q.len ud33 rfl (LIn.len ha)) (zm rfl (zq (Q.len ud33 rfl (LIn.len hb)) (zq (Q.bin rfl rfl rfl (bvl ltn)) (zk (W.sub (zc 52 rfl (zc 0 rfl (zc 1 rfl zzn))) (W.cD rfl (fun hc52 => ?_) (fun hc52 => ?_))))))))))))))))))))))
 ·refine zr (za rfl (zk (W.ret (End.Kr (End.rV (z1 rfl) ?_)))))
  rw [h3, cmpL_fin zy, if_pos zy]; rfl
 refine zw (W.seq (zr (zm rfl (zq (Q.len ud33 rfl (LIn.len ha)) (zm rfl (zq (Q.len ud33 rfl (LIn.len hb)) (zq (Q.bin rfl rfl rfl (bv_gtr ltn)) (zk (W.cD rfl (fun hc57 => ?_) (fun hc57 => ?_))))))))))
 ·refine zr (za (zi 1) (zk (W.ret (End.Kr (End.rV (z1 rfl) ?_)))))
  rw [h3, cmpL_fin zy, if_neg zy, if_pos zy]; rfl
 refine zw (zr (za (zi 0) (zk (W.ret (End.rV (z1 rfl) ?_)))))
 rw [h3, cmpL_fin zy, if_neg zy, if_neg zy]; rfl

theorem rsame_spec (hs : HSt) (hro : ∀ e ∈ hs, e.w = false) (A B : List Lab) (va vb : AV) (ha : LIn hs A va) (hb : LIn hs B vb) (hA : LBd A) (hB : LBd B) : Spec tab 24 [va, vb] [] hs (Val (.bool (decide (A = B)))) := by
 refine Spec.en (ftg 24 Tryz.func24) rfl (m := 9) rfl (rs := [.tmp 4]) rfl (st := [(0, va), (1, vb)]) rfl rfl (fun _ => rfl) (fun E => zr (za rfl (zk (zr (zm rfl (zm rfl (WO.cV rfl (oLc rfl (oLc rfl oz)) rfl (rcmp_spec hs hro A B _ _ ha hb hA hB) (SubR.s hro) rfl (zq (Q.bin rfl (zi 0) rfl (bv_eql eq_int)) (za rfl (zk (W.ret (End.rV (z1 rfl) ?_))))))))))))
 exact congrArg AV.bool (decide_eq_decide.2 cmpL_eq)

theorem name_spec (s : List Nat) (hs : Bytes s) (hl : s.length ≤ 1048576) : Spec tab 144 [.str s] [] [] (Val (.bool (nameB s))) := by
 refine Spec.en (ftg 144 Tryz.func144) rfl (m := 47) rfl (rs := [.tmp 2]) rfl (st := [(0, .str s)]) rfl rfl (fun _ => rfl) (fun E => zr (za rfl (zk (W.seq (zr (zm rfl (zq (Q.len ud9 rfl rfl) (zq (Q.move (zi 0)) (zk (W.block (W.loop_ind (fun (i : Nat) => [(0, .str s), (6, .int .i64 ((s.length : Nat) : Int)), (7, .int .i64 ((i : Nat) : Int))]) (fun _ => _) (fun (i : Nat) => i ≤ s.length ∧ ∀ j, j < i → nchr j (s.getD j 0)) (fun (i : Nat) => s.length - i) (0) ⟨Nat.zero_le _, fun j h => by omega⟩ zv (SubH.refl _) (fun i hI0 ih0 => ?_))))))))))))
 obtain ⟨hi, hno⟩ := hI0
 refine zr (zq (Q.bin rfl rfl rfl (bvl ltn)) (zk (W.seq (W.cD rfl (fun hc8 => ?_) (fun hc8 => ?_)))))
 ·refine zw (W.seq (W.block (zr (zm rfl (za rfl (zk (zr (zm rfl (zm rfl (WO.indexB hs ud9 rfl rfl zo rfl (fun c12 hd12 hb12 => za rfl (zk (W.block (W.seq (zr (zm rfl (zq (Q.bin rfl (zu 97) rfl (bv_geq le_nat)) (zm rfl (WO.sD (d := 16) rfl (fun hc16 => ?_) (fun hc16 => ?_))))))))))))))))))))
  ·refine WO.gT rfl rfl (zm rfl (WO.gT rfl rfl (zq (Q.bin rfl (zu 122) rfl (bv_leq le_nat)) (zq (Q.pT rfl rfl) (za rfl (zk (W.cD rfl (fun hc13 => ?_) (fun hc13 => ?_))))))))
   ·refine zw (W.condT rfl (W.skip (End.KB (End.KB (End.K (W.sub (zc 0 rfl (zc 6 rfl (zc 7 rfl zzn))) (W.reg (zq (Q.bin rfl (zi 1) rfl zp) (zm rfl (WO.nil (End.KL (W.sub zv (ih0 (i + 1) ?_ ?_)))))))))))))
    ·exact ⟨by omega, fun j h => by rcases Nat.lt_or_ge j i with g | g; exact hno j g; have hji : j = i := zy; subst hji; unfold nchr; simp only [hd12] at *; simp_all <;> omega⟩
    exact zo
   refine zr (zm rfl (zq (Q.bin rfl (zu 65) rfl (bv_geq le_nat)) (zm rfl (WO.sD (d := 22) rfl (fun hc22 => ?_) (fun hc22 => ?_)))))
   ·refine WO.gT rfl rfl (zm rfl (WO.gT rfl rfl (zq (Q.bin rfl (zu 90) rfl (bv_leq le_nat)) (zq (Q.pT rfl rfl) (za rfl (zk (W.sub (zc 13 rfl (zc 4 rfl (zc 3 rfl (zc 0 rfl (zc 6 rfl (zc 7 rfl zzn)))))) (W.cD rfl (fun hc13 => ?_) (fun hc13 => ?_)))))))))
    ·refine zw (W.condT rfl (W.skip (End.KB (End.KB (End.K (W.reg (zq (Q.bin rfl (zi 1) rfl zp) (zm rfl (WO.nil (End.KL (W.sub zv (ih0 (i + 1) ?_ ?_))))))))))))
     ·exact ⟨by omega, fun j h => by rcases Nat.lt_or_ge j i with g | g; exact hno j g; have hji : j = i := zy; subst hji; unfold nchr; simp only [hd12] at *; simp_all <;> omega⟩
     exact zo
    refine W.reg (zm rfl (zq (Q.bin rfl (zu 95) rfl (bv_eql eq_nat)) (za rfl (zk (W.cD rfl (fun hc13 => ?_) (fun hc13 => ?_))))))
    ·refine W.skip (End.KB (End.KB (End.K (W.reg (zq (Q.bin rfl (zi 1) rfl zp) (zm rfl (WO.nil (End.KL (W.sub zv (ih0 (i + 1) ?_ ?_))))))))))
     ·exact ⟨by omega, fun j h => by rcases Nat.lt_or_ge j i with g | g; exact hno j g; have hji : j = i := zy; subst hji; unfold nchr; simp only [hd12] at *; simp_all <;> omega⟩
     exact zo
    refine zr (zm rfl (zq (Q.bin rfl (zi 0) rfl (bv_gtr ltn)) (zm rfl (WO.sD (d := 31) rfl (fun hc31 => ?_) (fun hc31 => ?_)))))
    ·refine WO.gT rfl rfl (zm rfl (WO.gT rfl rfl (zq (Q.bin rfl (zu 48) rfl (bv_geq le_nat)) (zq (Q.pT rfl rfl) (zm rfl (WO.sD (d := 35) rfl (fun hc35 => ?_) (fun hc35 => ?_)))))))
     ·refine WO.gT rfl rfl (zm rfl (WO.gT rfl rfl (zq (Q.bin rfl (zu 57) rfl (bv_leq le_nat)) (zq (Q.pT rfl rfl) (za rfl (zk (W.sub (zc 28 rfl (zc 0 rfl (zc 6 rfl (zc 7 rfl zzn)))) (W.cD rfl (fun hc28 => ?_) (fun hc28 => ?_)))))))))
      ·refine W.skip (End.KB (End.KB (End.K (W.reg (zq (Q.bin rfl (zi 1) rfl zp) (zm rfl (WO.nil (End.KL (W.sub zv (ih0 (i + 1) ?_ ?_))))))))))
       ·exact ⟨by omega, fun j h => by rcases Nat.lt_or_ge j i with g | g; exact hno j g; have hji : j = i := zy; subst hji; unfold nchr; simp only [hd12] at *; simp_all <;> omega⟩
       exact zo
      refine zr (za rfl (zk (W.ret (End.Br (End.Br (End.Kr (End.Lr (End.Br (End.Kr (End.rV (z1 rfl) ?_))))))))))
      exact nam_no (i := i) zy (by unfold nchr; simp only [hd12] at *; simp_all <;> omega)
     refine zg rfl rfl (zg rfl rfl (zq (Q.pF rfl rfl) (za rfl (zk (W.sub (zc 28 rfl (zc 0 rfl (zc 6 rfl (zc 7 rfl zzn)))) (W.condF rfl (zr (za rfl (zk (W.ret (End.Br (End.Br (End.Kr (End.Lr (End.Br (End.Kr (End.rV (z1 rfl) ?_)))))))))))))))))
     exact nam_no (i := i) zy (by unfold nchr; simp only [hd12] at *; simp_all <;> omega)
    refine zg rfl rfl (zg rfl rfl (zq (Q.pF rfl rfl) (zm rfl (zg rfl rfl (zg rfl rfl (zq (Q.pF rfl rfl) (za rfl (zk (W.sub (zc 28 rfl (zc 0 rfl (zc 6 rfl (zc 7 rfl zzn)))) (W.condF rfl (zr (za rfl (zk (W.ret (End.Br (End.Br (End.Kr (End.Lr (End.Br (End.Kr (End.rV (z1 rfl) ?_)))))))))))))))))))))
    exact nam_no (i := i) zy (by unfold nchr; simp only [hd12] at *; simp_all <;> omega)
   refine zg rfl rfl (zg rfl rfl (zq (Q.pF rfl rfl) (za rfl (zk (W.sub (zc 13 rfl (zc 4 rfl (zc 3 rfl (zc 0 rfl (zc 6 rfl (zc 7 rfl zzn)))))) (W.condF rfl (W.reg (zm rfl (zq (Q.bin rfl (zu 95) rfl (bv_eql eq_nat)) (za rfl (zk (W.cD rfl (fun hc13 => ?_) (fun hc13 => ?_)))))))))))))
   ·refine W.skip (End.KB (End.KB (End.K (W.reg (zq (Q.bin rfl (zi 1) rfl zp) (zm rfl (WO.nil (End.KL (W.sub zv (ih0 (i + 1) ?_ ?_))))))))))
    ·exact ⟨by omega, fun j h => by rcases Nat.lt_or_ge j i with g | g; exact hno j g; have hji : j = i := zy; subst hji; unfold nchr; simp only [hd12] at *; simp_all <;> omega⟩
    exact zo
   refine zr (zm rfl (zq (Q.bin rfl (zi 0) rfl (bv_gtr ltn)) (zm rfl (WO.sD (d := 31) rfl (fun hc31 => ?_) (fun hc31 => ?_)))))
   ·refine WO.gT rfl rfl (zm rfl (WO.gT rfl rfl (zq (Q.bin rfl (zu 48) rfl (bv_geq le_nat)) (zq (Q.pT rfl rfl) (zm rfl (WO.sD (d := 35) rfl (fun hc35 => ?_) (fun hc35 => ?_)))))))
    ·refine WO.gT rfl rfl (zm rfl (WO.gT rfl rfl (zq (Q.bin rfl (zu 57) rfl (bv_leq le_nat)) (zq (Q.pT rfl rfl) (za rfl (zk (W.sub (zc 28 rfl (zc 0 rfl (zc 6 rfl (zc 7 rfl zzn)))) (W.cD rfl (fun hc28 => ?_) (fun hc28 => ?_)))))))))
     ·refine W.skip (End.KB (End.KB (End.K (W.reg (zq (Q.bin rfl (zi 1) rfl zp) (zm rfl (WO.nil (End.KL (W.sub zv (ih0 (i + 1) ?_ ?_))))))))))
      ·exact ⟨by omega, fun j h => by rcases Nat.lt_or_ge j i with g | g; exact hno j g; have hji : j = i := zy; subst hji; unfold nchr; simp only [hd12] at *; simp_all <;> omega⟩
      exact zo
     refine zr (za rfl (zk (W.ret (End.Br (End.Br (End.Kr (End.Lr (End.Br (End.Kr (End.rV (z1 rfl) ?_))))))))))
     exact nam_no (i := i) zy (by unfold nchr; simp only [hd12] at *; simp_all <;> omega)
    refine zg rfl rfl (zg rfl rfl (zq (Q.pF rfl rfl) (za rfl (zk (W.sub (zc 28 rfl (zc 0 rfl (zc 6 rfl (zc 7 rfl zzn)))) (W.condF rfl (zr (za rfl (zk (W.ret (End.Br (End.Br (End.Kr (End.Lr (End.Br (End.Kr (End.rV (z1 rfl) ?_)))))))))))))))))
    exact nam_no (i := i) zy (by unfold nchr; simp only [hd12] at *; simp_all <;> omega)
   refine zg rfl rfl (zg rfl rfl (zq (Q.pF rfl rfl) (zm rfl (zg rfl rfl (zg rfl rfl (zq (Q.pF rfl rfl) (za rfl (zk (W.sub (zc 28 rfl (zc 0 rfl (zc 6 rfl (zc 7 rfl zzn)))) (W.condF rfl (zr (za rfl (zk (W.ret (End.Br (End.Br (End.Kr (End.Lr (End.Br (End.Kr (End.rV (z1 rfl) ?_)))))))))))))))))))))
   exact nam_no (i := i) zy (by unfold nchr; simp only [hd12] at *; simp_all <;> omega)
  refine zg rfl rfl (zg rfl rfl (zq (Q.pF rfl rfl) (za rfl (zk (W.condF rfl (zr (zm rfl (zq (Q.bin rfl (zu 65) rfl (bv_geq le_nat)) (zm rfl (WO.sD (d := 22) rfl (fun hc22 => ?_) (fun hc22 => ?_)))))))))))
  ·refine WO.gT rfl rfl (zm rfl (WO.gT rfl rfl (zq (Q.bin rfl (zu 90) rfl (bv_leq le_nat)) (zq (Q.pT rfl rfl) (za rfl (zk (W.sub (zc 13 rfl (zc 4 rfl (zc 3 rfl (zc 0 rfl (zc 6 rfl (zc 7 rfl zzn)))))) (W.cD rfl (fun hc13 => ?_) (fun hc13 => ?_)))))))))
   ·refine zw (W.condT rfl (W.skip (End.KB (End.KB (End.K (W.reg (zq (Q.bin rfl (zi 1) rfl zp) (zm rfl (WO.nil (End.KL (W.sub zv (ih0 (i + 1) ?_ ?_))))))))))))
    ·exact ⟨by omega, fun j h => by rcases Nat.lt_or_ge j i with g | g; exact hno j g; have hji : j = i := zy; subst hji; unfold nchr; simp only [hd12] at *; simp_all <;> omega⟩
    exact zo
   refine W.reg (zm rfl (zq (Q.bin rfl (zu 95) rfl (bv_eql eq_nat)) (za rfl (zk (W.cD rfl (fun hc13 => ?_) (fun hc13 => ?_))))))
   ·refine W.skip (End.KB (End.KB (End.K (W.reg (zq (Q.bin rfl (zi 1) rfl zp) (zm rfl (WO.nil (End.KL (W.sub zv (ih0 (i + 1) ?_ ?_))))))))))
    ·exact ⟨by omega, fun j h => by rcases Nat.lt_or_ge j i with g | g; exact hno j g; have hji : j = i := zy; subst hji; unfold nchr; simp only [hd12] at *; simp_all <;> omega⟩
    exact zo
   refine zr (zm rfl (zq (Q.bin rfl (zi 0) rfl (bv_gtr ltn)) (zm rfl (WO.sD (d := 31) rfl (fun hc31 => ?_) (fun hc31 => ?_)))))
   ·refine WO.gT rfl rfl (zm rfl (WO.gT rfl rfl (zq (Q.bin rfl (zu 48) rfl (bv_geq le_nat)) (zq (Q.pT rfl rfl) (zm rfl (WO.sD (d := 35) rfl (fun hc35 => ?_) (fun hc35 => ?_)))))))
    ·refine WO.gT rfl rfl (zm rfl (WO.gT rfl rfl (zq (Q.bin rfl (zu 57) rfl (bv_leq le_nat)) (zq (Q.pT rfl rfl) (za rfl (zk (W.sub (zc 28 rfl (zc 0 rfl (zc 6 rfl (zc 7 rfl zzn)))) (W.cD rfl (fun hc28 => ?_) (fun hc28 => ?_)))))))))
     ·refine W.skip (End.KB (End.KB (End.K (W.reg (zq (Q.bin rfl (zi 1) rfl zp) (zm rfl (WO.nil (End.KL (W.sub zv (ih0 (i + 1) ?_ ?_))))))))))
      ·exact ⟨by omega, fun j h => by rcases Nat.lt_or_ge j i with g | g; exact hno j g; have hji : j = i := zy; subst hji; unfold nchr; simp only [hd12] at *; simp_all <;> omega⟩
      exact zo
     refine zr (za rfl (zk (W.ret (End.Br (End.Br (End.Kr (End.Lr (End.Br (End.Kr (End.rV (z1 rfl) ?_))))))))))
     exact nam_no (i := i) zy (by unfold nchr; simp only [hd12] at *; simp_all <;> omega)
    refine zg rfl rfl (zg rfl rfl (zq (Q.pF rfl rfl) (za rfl (zk (W.sub (zc 28 rfl (zc 0 rfl (zc 6 rfl (zc 7 rfl zzn)))) (W.condF rfl (zr (za rfl (zk (W.ret (End.Br (End.Br (End.Kr (End.Lr (End.Br (End.Kr (End.rV (z1 rfl) ?_)))))))))))))))))
    exact nam_no (i := i) zy (by unfold nchr; simp only [hd12] at *; simp_all <;> omega)
   refine zg rfl rfl (zg rfl rfl (zq (Q.pF rfl rfl) (zm rfl (zg rfl rfl (zg rfl rfl (zq (Q.pF rfl rfl) (za rfl (zk (W.sub (zc 28 rfl (zc 0 rfl (zc 6 rfl (zc 7 rfl zzn)))) (W.condF rfl (zr (za rfl (zk (W.ret (End.Br (End.Br (End.Kr (End.Lr (End.Br (End.Kr (End.rV (z1 rfl) ?_)))))))))))))))))))))
   exact nam_no (i := i) zy (by unfold nchr; simp only [hd12] at *; simp_all <;> omega)
  refine zg rfl rfl (zg rfl rfl (zq (Q.pF rfl rfl) (za rfl (zk (W.sub (zc 13 rfl (zc 4 rfl (zc 3 rfl (zc 0 rfl (zc 6 rfl (zc 7 rfl zzn)))))) (W.condF rfl (W.reg (zm rfl (zq (Q.bin rfl (zu 95) rfl (bv_eql eq_nat)) (za rfl (zk (W.cD rfl (fun hc13 => ?_) (fun hc13 => ?_)))))))))))))
  ·refine W.skip (End.KB (End.KB (End.K (W.reg (zq (Q.bin rfl (zi 1) rfl zp) (zm rfl (WO.nil (End.KL (W.sub zv (ih0 (i + 1) ?_ ?_))))))))))
   ·exact ⟨by omega, fun j h => by rcases Nat.lt_or_ge j i with g | g; exact hno j g; have hji : j = i := zy; subst hji; unfold nchr; simp only [hd12] at *; simp_all <;> omega⟩
   exact zo
  refine zr (zm rfl (zq (Q.bin rfl (zi 0) rfl (bv_gtr ltn)) (zm rfl (WO.sD (d := 31) rfl (fun hc31 => ?_) (fun hc31 => ?_)))))
  ·refine WO.gT rfl rfl (zm rfl (WO.gT rfl rfl (zq (Q.bin rfl (zu 48) rfl (bv_geq le_nat)) (zq (Q.pT rfl rfl) (zm rfl (WO.sD (d := 35) rfl (fun hc35 => ?_) (fun hc35 => ?_)))))))
   ·refine WO.gT rfl rfl (zm rfl (WO.gT rfl rfl (zq (Q.bin rfl (zu 57) rfl (bv_leq le_nat)) (zq (Q.pT rfl rfl) (za rfl (zk (W.sub (zc 28 rfl (zc 0 rfl (zc 6 rfl (zc 7 rfl zzn)))) (W.cD rfl (fun hc28 => ?_) (fun hc28 => ?_)))))))))
    ·refine W.skip (End.KB (End.KB (End.K (W.reg (zq (Q.bin rfl (zi 1) rfl zp) (zm rfl (WO.nil (End.KL (W.sub zv (ih0 (i + 1) ?_ ?_))))))))))
     ·exact ⟨by omega, fun j h => by rcases Nat.lt_or_ge j i with g | g; exact hno j g; have hji : j = i := zy; subst hji; unfold nchr; simp only [hd12] at *; simp_all <;> omega⟩
     exact zo
    refine zr (za rfl (zk (W.ret (End.Br (End.Br (End.Kr (End.Lr (End.Br (End.Kr (End.rV (z1 rfl) ?_))))))))))
    exact nam_no (i := i) zy (by unfold nchr; simp only [hd12] at *; simp_all <;> omega)
   refine zg rfl rfl (zg rfl rfl (zq (Q.pF rfl rfl) (za rfl (zk (W.sub (zc 28 rfl (zc 0 rfl (zc 6 rfl (zc 7 rfl zzn)))) (W.condF rfl (zr (za rfl (zk (W.ret (End.Br (End.Br (End.Kr (End.Lr (End.Br (End.Kr (End.rV (z1 rfl) ?_)))))))))))))))))
   exact nam_no (i := i) zy (by unfold nchr; simp only [hd12] at *; simp_all <;> omega)
  refine zg rfl rfl (zg rfl rfl (zq (Q.pF rfl rfl) (zm rfl (zg rfl rfl (zg rfl rfl (zq (Q.pF rfl rfl) (za rfl (zk (W.sub (zc 28 rfl (zc 0 rfl (zc 6 rfl (zc 7 rfl zzn)))) (W.condF rfl (zr (za rfl (zk (W.ret (End.Br (End.Br (End.Kr (End.Lr (End.Br (End.Kr (End.rV (z1 rfl) ?_)))))))))))))))))))))
  exact nam_no (i := i) zy (by unfold nchr; simp only [hd12] at *; simp_all <;> omega)
 refine W.exit (End.Kx (End.Lx (End.Bh (End.K (zr (zm rfl (zq (Q.bin rfl (oc (v := .str []) (by kernel_rfl)) rfl bv_sneq) (zm rfl (WO.sD (d := 42) rfl (fun hc42 => ?_) (fun hc42 => ?_))))))))))
 ·refine WO.gT rfl rfl (zm rfl (WO.gT rfl rfl (zq (Q.len ud9 rfl rfl) (WO.gT rfl rfl (zq (Q.bin rfl (zi 32) rfl (bv_leq le_nat)) (zq (Q.pT rfl rfl) (za rfl (zk (W.ret (End.rV (z1 rfl) ?_))))))))))
  exact nam_yes zy hno (by simp_all)
 refine zg rfl rfl (zg rfl rfl (zg rfl rfl (zq (Q.pF rfl rfl) (za rfl (zk (W.ret (End.rV (z1 rfl) ?_)))))))
 exact nam_nil (by simp_all)

theorem rname_spec (s : List Nat) (hs : Bytes s) (hl : s.length ≤ 1048576) : Spec tab 145 [.str s] [] [] (Val (.bool (nameB s))) := by
 refine Spec.en (ftg 145 Tryz.func145) rfl (m := 54) rfl (rs := [.tmp 2]) rfl (st := [(0, .str s)]) rfl rfl (fun _ => rfl) (fun E => zr (za rfl (zk (W.seq (zr (za (zi 0) (zk (W.block (W.loop_ind (fun (i : Nat) => [(0, .str s), (3, .int .i64 ((i : Nat) : Int))]) (fun _ => _) (fun (i : Nat) => i ≤ s.length ∧ ∀ j, j < i → nchr j (s.getD j 0)) (fun (i : Nat) => s.length - i) (0) ⟨Nat.zero_le _, fun j h => by omega⟩ zv (SubH.refl _) (fun i hI0 ih0 => ?_))))))))))
 obtain ⟨hi, hno⟩ := hI0
 refine W.seq (zr (zm rfl (zm rfl (zq (Q.len ud9 rfl rfl) (zq (Q.bin rfl rfl rfl (bvl ltn)) (zk (W.cD rfl (fun hc9 => ?_) (fun hc9 => ?_))))))))
 ·refine zw (W.seq (W.block (zr (zm rfl (zm rfl (WO.indexB hs ud9 rfl rfl zo rfl (fun c14 hd14 hb14 => za rfl (zk (W.seqK1 (fun (lt : Bool) => [(0, .str s), (3, .int .i64 ((i : Nat) : Int)), (4, .int .u8 ((c14 : Nat) : Int)), (5, .bool lt)]) (fun (lt : Bool) => (lt = true ↔ ((97 ≤ c14 ∧ c14 ≤ 122) ∨ (65 ≤ c14 ∧ c14 ≤ 90) ∨ c14 = 95))) (fun lt hI6 => ?_) (fun hJ6 => ?_))))))))))
  ·refine zr (zm rfl (zq (Q.not rfl rfl) (zm rfl (WO.split (d := 35) rfl (fun hc35 => ?_) (fun hc35 => ?_)))))
   ·refine WO.gT rfl rfl (zm rfl (WO.gT rfl rfl (zq (Q.bin rfl (zi 0) rfl (bv_eql eq_nat)) (WO.gT rfl rfl (zm rfl (WO.sD (d := 38) rfl (fun hc38 => ?_) (fun hc38 => ?_)))))))
    ·refine zg rfl rfl (zg rfl rfl (WO.gT rfl rfl (zq (Q.pT rfl rfl) (WO.gT rfl rfl (zm rfl (zg rfl rfl (zg rfl rfl (WO.gT rfl rfl (zq (Q.pT rfl rfl) (zq (Q.pT rfl rfl) (zk (W.sub (zc 46 rfl (zc 0 rfl (zc 3 rfl zzn))) (W.condT rfl (zr (za rfl (zk (W.ret (End.Br (End.Kr (End.Lr (End.Br (End.Kr (End.rV (z1 rfl) ?_)))))))))))))))))))))))
     exact nam_no (i := i) zy (by unfold nchr; simp only [hd14] at *; simp_all <;> omega)
    refine WO.gT rfl rfl (zm rfl (WO.gT rfl rfl (zq (Q.bin rfl (zu 48) rfl (bvl ltn)) (WO.gT rfl rfl (zq (Q.pF rfl rfl) (WO.gT rfl rfl (zm rfl (WO.sD (d := 42) rfl (fun hc42 => ?_) (fun hc42 => ?_)))))))))
    ·refine zg rfl rfl (zg rfl rfl (WO.gT rfl rfl (zq (Q.pT rfl rfl) (zq (Q.pT rfl rfl) (zk (W.sub (zc 46 rfl (zc 0 rfl (zc 3 rfl zzn))) (W.condT rfl (zr (za rfl (zk (W.ret (End.Br (End.Kr (End.Lr (End.Br (End.Kr (End.rV (z1 rfl) ?_)))))))))))))))))
     exact nam_no (i := i) zy (by unfold nchr; simp only [hd14] at *; simp_all <;> omega)
    refine WO.gT rfl rfl (zm rfl (WO.gT rfl rfl (zq (Q.bin rfl (zu 57) rfl (bv_gtr ltn)) (WO.gT rfl rfl (zq (Q.pF rfl rfl) (zq (Q.pT rfl rfl) (zk (W.sub (zc 46 rfl (zc 0 rfl (zc 3 rfl zzn))) (W.cD rfl (fun hc46 => ?_) (fun hc46 => ?_))))))))))
    ·refine zr (za rfl (zk (W.ret (End.Br (End.Kr (End.Lr (End.Br (End.Kr (End.rV (z1 rfl) ?_)))))))))
     exact nam_no (i := i) zy (by unfold nchr; simp only [hd14] at *; simp_all <;> omega)
    refine W.skip (End.KB (End.K (W.reg (zm rfl (zq (Q.bin rfl (zi 1) rfl zp) (za rfl (WO.nil (End.KL (W.sub zv (ih0 (i + 1) ?_ ?_))))))))))
    ·exact ⟨by omega, fun j h => by rcases Nat.lt_or_ge j i with g | g; exact hno j g; have hji : j = i := zy; subst hji; unfold nchr; simp only [hd14] at *; simp_all <;> omega⟩
    exact zo
   refine zg rfl rfl (zg rfl rfl (zg rfl rfl (WO.gF rfl rfl (.inr rfl) rfl (WO.gF rfl rfl (.inr rfl) rfl (zg rfl rfl (zg rfl rfl (WO.gF rfl rfl (.inr rfl) rfl (WO.gF rfl rfl (.inr rfl) rfl (zg rfl rfl (zq (Q.pF rfl rfl) (zk (W.sub (zc 46 rfl (zc 0 rfl (zc 3 rfl zzn))) (W.condF rfl (W.skip (End.KB (End.K (W.reg (zm rfl (zq (Q.bin rfl (zi 1) rfl zp) (za rfl (WO.nil (End.KL (W.sub zv (ih0 (i + 1) ?_ ?_))))))))))))))))))))))))
   ·exact ⟨by omega, fun j h => by rcases Nat.lt_or_ge j i with g | g; exact hno j g; have hji : j = i := zy; subst hji; unfold nchr; simp only [hd14] at *; simp_all <;> omega⟩
   exact zo
  refine W.reg (zm rfl (zq (Q.bin rfl (zu 97) rfl (bv_geq le_nat)) (zm rfl (WO.sD (d := 17) rfl (fun hc17 => ?_) (fun hc17 => ?_)))))
  ·refine WO.gT rfl rfl (zm rfl (WO.gT rfl rfl (zq (Q.bin rfl (zu 122) rfl (bv_leq le_nat)) (zq (Q.pT rfl rfl) (zm rfl (WO.sD (d := 21) rfl (fun hc21 => ?_) (fun hc21 => ?_)))))))
   ·refine zg rfl rfl (zg rfl rfl (zg rfl rfl (WO.gF rfl rfl (.inr rfl) rfl (WO.gF rfl rfl (.inr rfl) rfl (zg rfl rfl (zq (Q.pT rfl rfl) (zm rfl (zg rfl rfl (zg rfl rfl (zq (Q.pT rfl rfl) (za rfl (WO.nil (End.K (W.sub zv (hJ6 (_) ?_)))))))))))))))
    exact (by simp_all <;> omega)
   refine WO.gT rfl rfl (zm rfl (WO.gT rfl rfl (zq (Q.bin rfl (zu 65) rfl (bv_geq le_nat)) (WO.gT rfl rfl (zm rfl (WO.sD (d := 24) rfl (fun hc24 => ?_) (fun hc24 => ?_)))))))
   ·refine WO.gT rfl rfl (zm rfl (WO.gT rfl rfl (zq (Q.bin rfl (zu 90) rfl (bv_leq le_nat)) (WO.gT rfl rfl (zq (Q.pT rfl rfl) (zq (Q.pF rfl rfl) (zm rfl (WO.sD (d := 29) rfl (fun hc29 => ?_) (fun hc29 => ?_)))))))))
    ·refine zg rfl rfl (zg rfl rfl (zq (Q.pT rfl rfl) (za rfl (WO.nil (End.K (W.sub zv (hJ6 (_) ?_)))))))
     exact (by simp_all <;> omega)
    refine WO.gT rfl rfl (zm rfl (WO.gT rfl rfl (zq (Q.bin rfl (zu 95) rfl (bv_eql eq_nat)) (zq (Q.pF rfl rfl) (za rfl (WO.nil (End.K (W.sub zv (hJ6 (_) ?_)))))))))
    exact (by simp_all <;> omega)
   refine zg rfl rfl (zg rfl rfl (WO.gT rfl rfl (zq (Q.pF rfl rfl) (zq (Q.pF rfl rfl) (zm rfl (WO.gT rfl rfl (zm rfl (WO.gT rfl rfl (zq (Q.bin rfl (zu 95) rfl (bv_eql eq_nat)) (zq (Q.pF rfl rfl) (za rfl (WO.nil (End.K (W.sub zv (hJ6 (_) ?_)))))))))))))))
   exact (by simp_all <;> omega)
  refine zg rfl rfl (zg rfl rfl (zq (Q.pF rfl rfl) (zm rfl (WO.gT rfl rfl (zm rfl (WO.gT rfl rfl (zq (Q.bin rfl (zu 65) rfl (bv_geq le_nat)) (WO.gT rfl rfl (zm rfl (WO.sD (d := 24) rfl (fun hc24 => ?_) (fun hc24 => ?_)))))))))))
  ·refine WO.gT rfl rfl (zm rfl (WO.gT rfl rfl (zq (Q.bin rfl (zu 90) rfl (bv_leq le_nat)) (WO.gT rfl rfl (zq (Q.pT rfl rfl) (zq (Q.pF rfl rfl) (zm rfl (WO.sD (d := 29) rfl (fun hc29 => ?_) (fun hc29 => ?_)))))))))
   ·refine zg rfl rfl (zg rfl rfl (zq (Q.pT rfl rfl) (za rfl (WO.nil (End.K (W.sub zv (hJ6 (_) ?_)))))))
    exact (by simp_all <;> omega)
   refine WO.gT rfl rfl (zm rfl (WO.gT rfl rfl (zq (Q.bin rfl (zu 95) rfl (bv_eql eq_nat)) (zq (Q.pF rfl rfl) (za rfl (WO.nil (End.K (W.sub zv (hJ6 (_) ?_)))))))))
   exact (by simp_all <;> omega)
  refine zg rfl rfl (zg rfl rfl (WO.gT rfl rfl (zq (Q.pF rfl rfl) (zq (Q.pF rfl rfl) (zm rfl (WO.gT rfl rfl (zm rfl (WO.gT rfl rfl (zq (Q.bin rfl (zu 95) rfl (bv_eql eq_nat)) (zq (Q.pF rfl rfl) (za rfl (WO.nil (End.K (W.sub zv (hJ6 (_) ?_)))))))))))))))
  exact (by simp_all <;> omega)
 refine W.exit (End.Kx (End.Lx (End.Bh (End.K (zr (zm rfl (zq (Q.bin rfl (oc (v := .str []) (by kernel_rfl)) rfl bv_sneq) (zm rfl (WO.sD (d := 49) rfl (fun hc49 => ?_) (fun hc49 => ?_))))))))))
 ·refine WO.gT rfl rfl (zm rfl (WO.gT rfl rfl (zq (Q.len ud9 rfl rfl) (WO.gT rfl rfl (zq (Q.bin rfl (zi 32) rfl (bv_leq le_nat)) (zq (Q.pT rfl rfl) (za rfl (zk (W.ret (End.rV (z1 rfl) ?_))))))))))
  exact nam_yes zy hno (by simp_all)
 refine zg rfl rfl (zg rfl rfl (zg rfl rfl (zq (Q.pF rfl rfl) (za rfl (zk (W.ret (End.rV (z1 rfl) ?_)))))))
 exact nam_nil (by simp_all)
end Go.Proofs.YtmblgaehfjheeaaGreat.Ev
