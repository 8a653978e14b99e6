/- Chapters 6 and 19, walks: which labels are ahead, names. -/
import Derived.Test.YtfkbfnpjggkdmaaGreatDoorCFactsE
import Derived.Test.YtfkbfnpjggkdmaaGreatDoorCExA
namespace Go.Proofs.YtfkbfnpjggkdmaaGreatDoor.Ev
open Go.RowKit
set_option maxRecDepth 100000
set_option maxHeartbeats 1000000
theorem nW {A : List bA} {i : Nat} (h : i < A.length) : A.drop i = lg A i :: A.drop (i + 1) := by
 rw [List.drop_eq_getElem_cons h]
 unfold lg
 rw [List.getD_eq_getElem?_getD, List.getElem?_eq_getElem h]; rfl
theorem iZ {A B : List bA} {i : Nat} (ha : i < A.length) (hb : i < B.length) : dD (A.drop i) (B.drop i) = if fP (lg A i) (lg B i) ≠ 0 then fP (lg A i) (lg B i) else dD (A.drop (i + 1)) (B.drop (i + 1)) := by
 rw [nW ha, nW hb]; rfl
theorem qp {A B : List bA} {i : Nat} (ha : i < A.length) (hb : B.length <= i) : dD (A.drop i) (B.drop i) = 1 := by
 rw [nW ha, List.drop_eq_nil_of_le hb]; rfl
theorem oM {A B : List bA} {i : Nat} (ha : A.length <= i /\ i <= A.length /\ i <= B.length) : dD (A.drop i) (B.drop i) = if A.length < B.length then -1 else 0 := by
 rw [List.drop_eq_nil_of_le ha.1]
 split
 ·rw [nW zy]; rfl
 ·rw [List.drop_eq_nil_of_le zy]; rfl
theorem iY {A B : List bA} {i : Nat} (h : (A.length <= i \/ B.length <= i) /\ i <= A.length /\ i <= B.length) : dD (A.drop i) (B.drop i) = if A.length < B.length then -1 else if A.length > B.length then 1 else 0 := by
 by_cases ha : A.length <= i
 ·rw [oM ⟨ha, h.2⟩]
  split
  ·rfl
  ·rw [if_neg zy]
 ·rw [qp zy zy, if_neg zy, if_pos zy]
def ew (i c : Nat) : Prop := (97 <= c /\ c <= 122) \/ (65 <= c /\ c <= 90) \/ c = 95 \/ (0 < i /\ 48 <= c /\ c <= 57)
instance (i c : Nat) : Decidable (ew i c) := by unfold ew; exact inferInstance
def jQ (s : List Nat) : Bool := decide (s ≠ [] /\ s.length <= 32 /\ ∀ i, i < s.length -> ew i (s.getD i 0))
theorem fy {s : List Nat} {i : Nat} (hi : i < s.length) (h : ¬ ew i (s.getD i 0)) : bW [AV.bool false] = .bool (jQ s) := by
 have : ¬ (s ≠ [] /\ s.length <= 32 /\ ∀ i, i < s.length -> ew i (s.getD i 0)) := fun g => h (g.2.2 i hi)
 unfold jQ
 rw [decide_eq_false this]; rfl
theorem yo {s : List Nat} {i : Nat} (hi : s.length <= i) (h : ∀ j, j < i -> ew j (s.getD j 0)) (hne : s ≠ []) : bW [AV.bool (decide (s.length <= 32))] = .bool (jQ s) := by
 show AV.bool _ = _
 rw [AV.bool.injEq]
 unfold jQ
 rw [decide_eq_decide]
 exact ⟨fun g => ⟨hne, g, fun j hj => h j zy⟩, fun g => g.2.1⟩
theorem yn {s : List Nat} (hne : s = []) : bW [AV.bool false] = .bool (jQ s) := by
 subst hne; rfl
theorem pm (x : List Nat) (hx : Bytes x) : Spec tab 255 [.str x] [] [] (bN (.bool false)) := by
 refine ac (bz 255 Tryz.func255) rfl (m := 6) rfl (rs := [.tmp 2]) rfl (st := [(0, .str x)]) rfl rfl (fun _ => rfl) (fun E => zr (za rfl (zk (zr (zm rfl (zm rfl (zq (aa rfl rfl rfl lx) (za rfl (zk (W.ret (ae (z1 rfl) ?_)))))))))))
 simp [fz]

theorem qr (x y : List Nat) (hx : Bytes x) (hy : Bytes y) : Spec tab 225 [.str x, .str y] [] [] (bN (.int .i64 (gn x y))) := by
 refine ac (bz 225 Tryz.func225) rfl (m := 20) rfl (rs := [.tmp 4]) rfl (st := [(0, .str x), (1, .str y)]) rfl rfl (fun _ => rfl) (fun E => zr (za (zi 0) (zk (zr (zm rfl (ak rfl (aj rfl oz) rfl (pm _ hx) SubR.nil rfl (za rfl (zk (zr (zm rfl (ak rfl (aj rfl oz) rfl (pm _ hy) SubR.nil rfl (za rfl (zk (W.seq (zr (zm rfl (zk (W.condF rfl (zw (W.seq (zr (zm rfl (zk ?_)))))))))))))))))))))))
 refine W.condF rfl (zw (W.seq (zr (zm rfl (zm rfl (zq (aa rfl rfl rfl wG) (zk (W.condS rfl (fun hc16 => ?_) (fun hc16 => ?_)))))))))
 ·refine zr (za rfl (zk (W.ret (ad (ae (z1 rfl) ?_)))))
  simp [fz, gn, *]
 refine zw (W.seq (zr (zm rfl (zm rfl (zq (aa rfl rfl rfl wE) (zk (W.sub (zc 19 rfl aI) (W.condS rfl (fun hc19 => ?_) (fun hc19 => ?_)))))))))
 ·refine zr (za (zi 1) (zk (W.ret (ad (ae (z1 rfl) ?_)))))
  simp [fz, gn, *]
 refine zw (zr (za (zi 0) (zk (W.ret (ae (z1 rfl) ?_)))))
 simp [fz, gn, *]

theorem rf (x y : List Nat) (hx : Bytes x) (hy : Bytes y) : Spec tab 73 [.str x, .str y] [] [] (bN (.int .i64 (gn x y))) := by
 refine ac (bz 73 Tryz.func73) rfl (m := 11) rfl (rs := [.tmp 4]) rfl (st := [(0, .str x), (1, .str y)]) rfl rfl (fun _ => rfl) (fun E => zr (za (zi 0) (zk (W.seq (zr (zm rfl (zm rfl (zq (aa rfl rfl rfl wG) (zk (W.condS rfl (fun hc7 => ?_) (fun hc7 => ?_)))))))))))
 ·refine zr (za rfl (zk (W.ret (ad (ae (z1 rfl) ?_)))))
  simp [fz, gn, *]
 refine zw (W.seq (zr (zm rfl (zm rfl (zq (aa rfl rfl rfl wE) (zk (W.condS rfl (fun hc10 => ?_) (fun hc10 => ?_))))))))
 ·refine zr (za (zi 1) (zk (W.ret (ad (ae (z1 rfl) ?_)))))
  simp [fz, gn, *]
 refine zw (zr (za (zi 0) (zk (W.ret (ae (z1 rfl) ?_)))))
 simp [fz, gn, *]

theorem EU (b : Nat) (ex : Bool) (u v : Int) : Spec tab 224 [.slice b 0 2 1] [] [⟨b, ⟨1, ex, [.int .i64 u, .int .i64 v]⟩, false⟩] (bN (.int .i64 (if u ≠ 0 then u else v))) := by
 refine ac (bz 224 Tryz.func224) rfl (m := 18) rfl (rs := [.tmp 2]) rfl (st := [(0, .slice b 0 2 1)]) rfl rfl (fun _ => rfl) (fun E => zr (za (zi 0) (zk (zr (za (zi 0) (zk (W.seq (zr (zm rfl (zq (Q.len aP rfl rfl) (zq (Q.move (zi 0)) (zk (W.block (W.loop (zr (zq (aa rfl rfl rfl (bu (p := true) rfl)) (zk (W.seq (W.condT rfl (zw (W.seq (W.block (zr ?_)))))))))))))))))))))))
 refine zq (ao aP dn rfl rfl zo (o' := 0) rfl) (zq (ag rfl (zt 0 rfl) bH rfl) (za rfl (zk (zr (zm rfl (zm rfl (zq (aa rfl rfl rfl (bd f5)) (zk (aB rfl (fun hc14 => ?_) (fun hc14 => ?_))))))))))
 ·refine zr (zm rfl (za rfl (zk (W.ret (ah (ad (aU (ah (ad (ae (z1 rfl) ?_))))))))))
  simp_all [fz]
 refine W.skip (End.KB (End.K (W.reg (zq (aa rfl (zi 1) rfl (bc (c := (((1 : Nat)) : Int)) (by decide))) (zm rfl (WO.nil (End.KL (W.loop (zr (zq (aa rfl rfl rfl (bu (p := true) rfl)) (zk (W.seq (W.condT rfl (zw (W.seq (W.block (zr (zq (ao aP dn rfl rfl zo (o' := 1) rfl) (zq (ag rfl (zt 0 rfl) bH rfl) (za rfl (zk (zr (zm rfl (zm rfl ?_))))))))))))))))))))))))
 refine zq (aa rfl rfl rfl (bd f5)) (zk (aB rfl (fun hc14 => ?_) (fun hc14 => ?_)))
 ·refine zr (zm rfl (za rfl (zk (W.sub (zc 2 rfl aI) (W.ret (ah (ad (aU (ah (ad (ae (z1 rfl) ?_)))))))))))
  simp_all [fz]
 refine W.skip (End.KB (End.K (W.reg (zq (aa rfl (zi 1) rfl (bc (c := (((2 : Nat)) : Int)) (by decide))) (zm rfl (WO.nil (End.KL (W.loop (zr (zq (aa rfl rfl rfl (bu (p := false) rfl)) (zk (W.seq (W.condF rfl (W.exit (am (aq (ap (End.K (zr (zm rfl (za rfl (zk (W.sub (zc 2 rfl aI) (W.ret (ae (z1 rfl) ?_)))))))))))))))))))))))))
 simp_all [fz]

theorem y6 (a b c d : List Nat) (ha : Bytes a) (hb : Bytes b) (hc : Bytes c) (hd : Bytes d) : Spec tab 223 [.agg [.str a, .str b], .agg [.str c, .str d]] [] [] (bN (.int .i64 (fP (a, b) (c, d)))) := by
 refine ac (bz 223 Tryz.func223) rfl (m := 17) rfl (rs := [.tmp 4]) rfl (st := [(0, .agg [.str a, .str b]), (1, .agg [.str c, .str d])]) rfl rfl (fun _ => rfl) (fun E => zr (WO.box rfl rfl (DW _ rfl) rfl (fun b1 => WO.box rfl rfl (DW _ rfl) rfl (fun b2 => za (zi 0) (zk (W.seq (ez 9 _ (by kernel_rfl) (KIn.refl _) (WD.q (Q.fieldAddr fw rfl (o' := 0) rfl) eO rfl (WD.q (ag rfl (zt 1 rfl) gP rfl) rG rfl (WD.q (Q.fieldAddr fw rfl (o' := 0) rfl) eO rfl (WD.q (ag rfl (zt 0 rfl) gP rfl) rG rfl (d5 rfl (aj rfl (aj rfl oz)) rfl (qr _ _ ha hc) SubR.nil (KIn.refl _) rfl (WD.q (Q.fieldAddr gX rfl (o' := 1) rfl) eO rfl (WD.q (ag rfl (zt 1 rfl) gP rfl) rG rfl (WD.q (Q.fieldAddr gX rfl (o' := 1) rfl) eO rfl (WD.q (ag rfl (zt 0 rfl) gP rfl) rG rfl (d5 rfl (aj rfl (aj rfl oz)) rfl (qr _ _ hb hd) SubR.nil (KIn.refl _) rfl (WD.bslice aP dn sS rfl (cy rfl (cy rfl dE)) rfl (cs := [_, _]) rfl rfl rfl (KIn.refl _) (fun b3 => d5 rfl (aj rfl oz) rfl (EU _ _ _ _) (SubR.one (zt 0 rfl)) (KIn.tl (KIn.refl _)) rfl (WD.q (Q.assign rfl) cZ rfl (WD.nil (End.K (W.sub (zc 4 rfl aI) ?_)))))))))))))))))))))))
 refine W.ret (ae (z1 rfl) ?_)
 rfl

theorem y8 (hs : af) (hro : ∀ e ∈ hs, e.w = false) (A B : List bA) (va vb : AV) (ha : LIn hs A va) (hb : LIn hs B vb) (hA : LBd A) (hB : LBd B) : Spec tab 222 [va, vb, .func 223 []] [] hs (bN (.int .i64 (dD A B))) := by
 have hAl := hA.1
 have hBl := hB.1
 refine ac (bz 222 Tryz.func222) rfl (m := 39) rfl (rs := [.tmp 6]) rfl (st := [(0, va), (1, vb), (2, .func 223 [])]) rfl rfl (fun _ => rfl) (fun E => zr (za (zi 0) (zk (W.seq (zr (zm rfl (zq (Q.len cW rfl (LIn.len ha)) (zq (Q.move (zi 0)) (zk (W.block (W.loop_ind (fun (i : Nat) => [(0, va), (1, vb), (2, .func 223 []), (11, va), (12, .int .i64 ((A.length : Nat) : Int)), (13, .int .i64 ((i : Nat) : Int))]) (fun _ => _) (fun (i : Nat) => i <= A.length /\ i <= B.length /\ dD A B = dD (A.drop i) (B.drop i)) (fun (i : Nat) => A.length - i) (0) ⟨Nat.zero_le _, Nat.zero_le _, rfl⟩ zv (SubH.refl _) (fun i hI0 ih0 => ?_))))))))))))
 obtain ⟨h1, h2, h3⟩ := hI0
 refine zr (zq (aa rfl rfl rfl (bu bY)) (zk (W.seq (aB rfl (fun hc14 => ?_) (fun hc14 => ?_)))))
 ·obtain ⟨ba, sza, exa, rfl, wa, ma⟩ := LIn.full ha zy
  refine zw (W.seq (W.block (zr (zm rfl (zq (bj cW eo rfl rfl zo) (zq (ax rfl ma p4 eo (tj zo)) (WO.alloc yS rfl (fun b1 => za rfl (WO.store eo rfl rfl (i := 0) rfl rfl (cs := [_, _]) rfl (hs' := _ :: _) rfl (zk (W.seq (zr (zm rfl (zm rfl (zq (Q.len cW rfl (LIn.len hb)) (zq (aa rfl rfl rfl (bp bf)) (zk (aB rfl (fun hc21 => ?_) (fun hc21 => ?_)))))))))))))))))))
  ·refine zr (za (zi 1) (zk (W.sub (zc 6 rfl aI) (W.ret (ad (ah (ad (aU (ah (ad (ae (z1 rfl) ?_)))))))))))
   rw [h3, qp zy zy]; rfl
  obtain ⟨bb, szb, exb, rfl, wb, mb⟩ := LIn.full hb zy
  refine zw (zr (zm rfl (zm rfl (zq (bj cW eo rfl rfl zo) (zq (ax rfl (List.mem_cons_of_mem _ mb) p4 eo (tj zo)) (WO.alloc yS rfl (fun b2 => WO.store eo rfl rfl (i := 0) rfl rfl (cs := [_, _]) rfl (hs' := _ :: _ :: _) rfl (zk (zr (zm rfl (zq (ax rfl (zt 1 rfl) p4 eo (l := [_, _]) rfl) (zq (ax rfl (zt 0 rfl) p4 eo (l := [_, _]) rfl) (ak rfl (aj rfl (aj rfl oz)) rfl (y6 _ _ _ _ (hA.at zo).1 (hA.at zo).2.1 (hB.at zo).1 (hB.at zo).2.1) SubR.nil rfl (za rfl (zk (W.sub (zc 10 rfl (zc 0 rfl (zc 1 rfl (zc 2 rfl (zc 11 rfl (zc 12 rfl (zc 13 rfl aI))))))) (zr (zm rfl (zq (aa rfl (zi 0) rfl (bd f5)) (zk (aB rfl (fun hc31 => ?_) (fun hc31 => ?_))))))))))))))))))))))
  ·refine zr (zm rfl (za rfl (zk (W.ret (ah (ad (aU (ah (ad (ae (z1 rfl) ?_))))))))))
   rw [h3, iZ zy zy, if_pos (show fP (lg A i) (lg B i) ≠ 0 from hc31)]; rfl
  refine W.skip (End.KB (End.K (W.reg (zq (aa rfl (zi 1) rfl zp) (zm rfl (WO.nil (End.KL (W.sub zv (cz (SubH.of_sublist (by simp)) (ih0 (i + 1) ?_ ?_))))))))))
  ·exact ⟨by omega, by omega, by rw [h3, iZ zy zy, if_neg (by simp_all)]⟩
  exact zo
 refine W.exit (am (aq (ap (End.K (W.seq (zr (zm rfl (zq (Q.len cW rfl (LIn.len ha)) (zm rfl (zq (Q.len cW rfl (LIn.len hb)) (zq (aa rfl rfl rfl (bu bY)) (zk (aB rfl (fun hc38 => ?_) (fun hc38 => ?_))))))))))))))
 ·refine zr (za rfl (zk (W.ret (ad (ae (z1 rfl) ?_)))))
  rw [h3, oM zy, if_pos zy]; rfl
 refine zw (zr (za (zi 0) (zk (W.ret (ae (z1 rfl) ?_)))))
 rw [h3, oM zy, if_neg zy]; rfl

theorem tz (hs : af) (hro : ∀ e ∈ hs, e.w = false) (A B : List bA) (va vb : AV) (ha : LIn hs A va) (hb : LIn hs B vb) (hA : LBd A) (hB : LBd B) : Spec tab 183 [va, vb] [] hs (bN (.int .i64 (dD A B))) := by
 refine ac (bz 183 Tryz.func183) rfl (m := 8) rfl (rs := [.tmp 4]) rfl (st := [(0, va), (1, vb)]) rfl rfl (fun _ => rfl) (fun E => zr (za (zi 0) (zk (zr (zm rfl (zm rfl (ak rfl (aj rfl (aj rfl (aj rfl oz))) rfl (y8 hs hro A B _ _ ha hb hA hB) (aN hro) rfl (za rfl (zk (W.ret (ae (z1 rfl) ?_)))))))))))
 rfl

theorem z9 (hs : af) (hro : ∀ e ∈ hs, e.w = false) (A B : List bA) (va vb : AV) (ha : LIn hs A va) (hb : LIn hs B vb) (hA : LBd A) (hB : LBd B) : Spec tab 44 [va, vb] [] hs (bN (.int .i64 (dD A B))) := by
 have hAl := hA.1
 have hBl := hB.1
 refine ac (bz 44 Tryz.func44) rfl (m := 58) rfl (rs := [.tmp 4]) rfl (st := [(0, va), (1, vb)]) rfl rfl (fun _ => rfl) (fun E => zr (za (zi 0) (zk (W.seq (zr (za (zi 0) (zk (W.block (W.loop_ind (fun (i : Nat) => [(0, va), (1, vb), (5, .int .i64 ((i : Nat) : Int))]) (fun _ => _) (fun (i : Nat) => i <= A.length /\ i <= B.length /\ dD A B = dD (A.drop i) (B.drop i)) (fun (i : Nat) => A.length - i) (0) ⟨Nat.zero_le _, Nat.zero_le _, rfl⟩ zv (SubH.refl _) (fun i hI0 ih0 => ?_))))))))))
 obtain ⟨h1, h2, h3⟩ := hI0
 refine W.seq (zr (zm rfl (zm rfl (zq (Q.len cW rfl (LIn.len ha)) (zq (aa rfl rfl rfl (bu bY)) (zm rfl (aC (d := 12) rfl (fun hc12 => ?_) (fun hc12 => ?_))))))))
 ·refine zT (zm rfl (zT (zm rfl (zT (zq (Q.len cW rfl (LIn.len hb)) (zT (zq (aa rfl rfl rfl (bu bY)) (zq (aA rfl rfl) (zk (aB rfl (fun hc17 => ?_) (fun hc17 => ?_)))))))))))
  ·obtain ⟨ba, sza, exa, rfl, wa, ma⟩ := LIn.full ha zy
   obtain ⟨bb, szb, exb, rfl, wb, mb⟩ := LIn.full hb zy
   refine zw (W.seq (W.block (W.seq (W.seq (cX (by kernel_rfl) (zm rfl (zm rfl (zq (bj cW eo rfl rfl zo) (zq (Q.fieldAddr fw rfl rfl) (zq (ag rfl ma gP (m9 zo)) (zm rfl (zm rfl (zq (bj cW eo rfl rfl zo) (zq (Q.fieldAddr fw rfl rfl) (zq (ag rfl mb gP (m9 zo)) (ak rfl (aj rfl (aj rfl oz)) rfl (rf _ _ (hA.at zo).1 (hB.at zo).1) SubR.nil rfl (za rfl (zk (W.sub (zc 6 rfl (zc 0 rfl (zc 1 rfl (zc 5 rfl aI)))) (zr (zm rfl (zq (aa rfl (zi 0) rfl (bd f5)) (zk ?_)))))))))))))))))))))))
   refine aB rfl (fun hc32 => ?_) (fun hc32 => ?_)
   ·refine zr (zm rfl (za rfl (zk (W.ret (ad (ah (ad (aU (ah (ad (ae (z1 rfl) ?_)))))))))))
    rw [h3, iZ zy zy, if_pos (by simp_all [fP])]; simp_all [fP, fz]
   refine zw (W.seq (cX (by kernel_rfl) (zm rfl (zm rfl (zq (bj cW eo rfl rfl zo) (zq (Q.fieldAddr gX rfl rfl) (zq (ag rfl ma gP (tk zo)) (zm rfl (zm rfl (zq (bj cW eo rfl rfl zo) (zq (Q.fieldAddr gX rfl rfl) (zq (ag rfl mb gP (tk zo)) (ak rfl (aj rfl (aj rfl oz)) rfl (rf _ _ (hA.at zo).2.1 (hB.at zo).2.1) SubR.nil rfl (za rfl (zk (W.sub (zc 7 rfl (zc 0 rfl (zc 1 rfl (zc 5 rfl aI)))) (zr (zm rfl (zq (aa rfl (zi 0) rfl (bd f5)) (zk (aB rfl (fun hc46 => ?_) (fun hc46 => ?_))))))))))))))))))))))
   ·refine zr (zm rfl (za rfl (zk (W.ret (ah (ad (aU (ah (ad (ae (z1 rfl) ?_))))))))))
    rw [h3, iZ zy zy, if_pos (by simp_all [fP])]; simp_all [fP, fz]
   refine W.skip (End.KB (End.K (W.reg (zm rfl (zq (aa rfl (zi 1) rfl zp) (za rfl (WO.nil (End.KL (W.sub zv (cz (SubH.of_sublist (by simp)) (ih0 (i + 1) ?_ ?_)))))))))))
   ·exact ⟨by omega, by omega, by rw [h3, iZ zy zy, if_neg (by simp_all [fP])]⟩
   exact zo
  refine W.exit (am (aq (ap (End.K (W.seq (zr (zm rfl (zq (Q.len cW rfl (LIn.len ha)) (zm rfl (zq (Q.len cW rfl (LIn.len hb)) (zq (aa rfl rfl rfl (bu bY)) (zk (W.sub (zc 52 rfl (zc 0 rfl (zc 1 rfl aI))) (aB rfl (fun hc52 => ?_) (fun hc52 => ?_)))))))))))))))
  ·refine zr (za rfl (zk (W.ret (ad (ae (z1 rfl) ?_)))))
   rw [h3, iY zy, if_pos zy]; rfl
  refine zw (W.seq (zr (zm rfl (zq (Q.len cW rfl (LIn.len ha)) (zm rfl (zq (Q.len cW rfl (LIn.len hb)) (zq (aa rfl rfl rfl (aJ bY)) (zk (aB rfl (fun hc57 => ?_) (fun hc57 => ?_))))))))))
  ·refine zr (za (zi 1) (zk (W.ret (ad (ae (z1 rfl) ?_)))))
   rw [h3, iY zy, if_neg zy, if_pos zy]; rfl
  refine zw (zr (za (zi 0) (zk (W.ret (ae (z1 rfl) ?_)))))
  rw [h3, iY zy, if_neg zy, if_neg zy]; rfl
 refine z2 (z2 (zq (aF rfl rfl) (zk (W.condF rfl (W.exit (am (aq (ap (End.K (W.seq (zr (zm rfl (zq (Q.len cW rfl (LIn.len ha)) (zm rfl (zq (Q.len cW rfl (LIn.len hb)) (zq (aa rfl rfl rfl (bu bY)) (zk (W.sub (zc 52 rfl (zc 0 rfl (zc 1 rfl aI))) (aB rfl (fun hc52 => ?_) (fun hc52 => ?_))))))))))))))))))))
 ·refine zr (za rfl (zk (W.ret (ad (ae (z1 rfl) ?_)))))
  rw [h3, iY zy, if_pos zy]; rfl
 refine zw (W.seq (zr (zm rfl (zq (Q.len cW rfl (LIn.len ha)) (zm rfl (zq (Q.len cW rfl (LIn.len hb)) (zq (aa rfl rfl rfl (aJ bY)) (zk (aB rfl (fun hc57 => ?_) (fun hc57 => ?_))))))))))
 ·refine zr (za (zi 1) (zk (W.ret (ad (ae (z1 rfl) ?_)))))
  rw [h3, iY zy, if_neg zy, if_pos zy]; rfl
 refine zw (zr (za (zi 0) (zk (W.ret (ae (z1 rfl) ?_)))))
 rw [h3, iY zy, if_neg zy, if_neg zy]; rfl

theorem z3 (s : List Nat) (hs : Bytes s) (hl : s.length <= 1048576) : Spec tab 280 [.str s] [] [] (bN (.bool (jQ s))) := by
 refine ac (bz 280 Tryz.func280) rfl (m := 47) rfl (rs := [.tmp 2]) rfl (st := [(0, .str s)]) rfl rfl (fun _ => rfl) (fun E => zr (za rfl (zk (W.seq (zr (zm rfl (zq (Q.len cf rfl rfl) (zq (Q.move (zi 0)) (zk (W.block (W.loop_ind (fun (i : Nat) => [(0, .str s), (6, .int .i64 ((s.length : Nat) : Int)), (7, .int .i64 ((i : Nat) : Int))]) (fun _ => _) (fun (i : Nat) => i <= s.length /\ ∀ j, j < i -> ew j (s.getD j 0)) (fun (i : Nat) => s.length - i) (0) ⟨Nat.zero_le _, fun j h => by omega⟩ zv (SubH.refl _) (fun i hI0 ih0 => ?_))))))))))))
 obtain ⟨hi, hno⟩ := hI0
 refine zr (zq (aa rfl rfl rfl (bu bY)) (zk (W.seq (aB rfl (fun hc8 => ?_) (fun hc8 => ?_)))))
 ·refine zw (W.seq (W.block (zr (zm rfl (za rfl (zk (zr (zm rfl (zm rfl (aE hs cf rfl rfl zo rfl (fun c12 hd12 hb12 => za rfl (zk (W.block (W.seq (zr (zm rfl (zq (aa rfl (zu 97) rfl (bp bf)) (zm rfl (aC (d := 16) rfl (fun hc16 => ?_) (fun hc16 => ?_))))))))))))))))))))
  ·refine zT (zm rfl (zT (zq (aa rfl (zu 122) rfl (aZ bf)) (zq (aA rfl rfl) (za rfl (zk (aB rfl (fun hc13 => ?_) (fun hc13 => ?_))))))))
   ·refine zw (W.condT rfl (W.skip (End.KB (End.KB (End.K (W.sub (zc 0 rfl (zc 6 rfl (zc 7 rfl aI))) (W.reg (zq (aa rfl (zi 1) rfl zp) (zm rfl (WO.nil (End.KL (W.sub zv (ih0 (i + 1) ?_ ?_)))))))))))))
    ·exact ⟨by omega, fun j h => by rcases Nat.lt_or_ge j i with g | g; exact hno j g; have hji : j = i := zy; subst hji; unfold ew; simp only [hd12] at *; simp_all <;> omega⟩
    exact zo
   refine zr (zm rfl (zq (aa rfl (zu 65) rfl (bp bf)) (zm rfl (aC (d := 22) rfl (fun hc22 => ?_) (fun hc22 => ?_)))))
   ·refine zT (zm rfl (zT (zq (aa rfl (zu 90) rfl (aZ bf)) (zq (aA rfl rfl) (za rfl (zk (W.sub (zc 13 rfl (zc 4 rfl (zc 3 rfl (zc 0 rfl (zc 6 rfl (zc 7 rfl aI)))))) (aB rfl (fun hc13 => ?_) (fun hc13 => ?_)))))))))
    ·refine zw (W.condT rfl (W.skip (End.KB (End.KB (End.K (W.reg (zq (aa rfl (zi 1) rfl zp) (zm rfl (WO.nil (End.KL (W.sub zv (ih0 (i + 1) ?_ ?_))))))))))))
     ·exact ⟨by omega, fun j h => by rcases Nat.lt_or_ge j i with g | g; exact hno j g; have hji : j = i := zy; subst hji; unfold ew; simp only [hd12] at *; simp_all <;> omega⟩
     exact zo
    refine W.reg (zm rfl (zq (aa rfl (zu 95) rfl (ai aG)) (za rfl (zk (aB rfl (fun hc13 => ?_) (fun hc13 => ?_))))))
    ·refine W.skip (End.KB (End.KB (End.K (W.reg (zq (aa rfl (zi 1) rfl zp) (zm rfl (WO.nil (End.KL (W.sub zv (ih0 (i + 1) ?_ ?_))))))))))
     ·exact ⟨by omega, fun j h => by rcases Nat.lt_or_ge j i with g | g; exact hno j g; have hji : j = i := zy; subst hji; unfold ew; simp only [hd12] at *; simp_all <;> omega⟩
     exact zo
    refine zr (zm rfl (zq (aa rfl (zi 0) rfl (aJ bY)) (zm rfl (aC (d := 31) rfl (fun hc31 => ?_) (fun hc31 => ?_)))))
    ·refine zT (zm rfl (zT (zq (aa rfl (zu 48) rfl (bp bf)) (zq (aA rfl rfl) (zm rfl (aC (d := 35) rfl (fun hc35 => ?_) (fun hc35 => ?_)))))))
     ·refine zT (zm rfl (zT (zq (aa rfl (zu 57) rfl (aZ bf)) (zq (aA rfl rfl) (za rfl (zk (W.sub (zc 28 rfl (zc 0 rfl (zc 6 rfl (zc 7 rfl aI)))) (aB rfl (fun hc28 => ?_) (fun hc28 => ?_)))))))))
      ·refine W.skip (End.KB (End.KB (End.K (W.reg (zq (aa rfl (zi 1) rfl zp) (zm rfl (WO.nil (End.KL (W.sub zv (ih0 (i + 1) ?_ ?_))))))))))
       ·exact ⟨by omega, fun j h => by rcases Nat.lt_or_ge j i with g | g; exact hno j g; have hji : j = i := zy; subst hji; unfold ew; simp only [hd12] at *; simp_all <;> omega⟩
       exact zo
      refine zr (za rfl (zk (W.ret (ah (ah (ad (aU (ah (ad (ae (z1 rfl) ?_))))))))))
      exact fy (i := i) zy (by unfold ew; simp only [hd12] at *; simp_all <;> omega)
     refine z2 (zq (aF rfl rfl) (za rfl (zk (W.sub (zc 28 rfl (zc 0 rfl (zc 6 rfl (zc 7 rfl aI)))) (W.condF rfl (zr (za rfl (zk (W.ret (ah (ah (ad (aU (ah (ad (ae (z1 rfl) ?_))))))))))))))))
     exact fy (i := i) zy (by unfold ew; simp only [hd12] at *; simp_all <;> omega)
    refine z2 (zq (aF rfl rfl) (zm rfl (z2 (zq (aF rfl rfl) (za rfl (zk (W.sub (zc 28 rfl (zc 0 rfl (zc 6 rfl (zc 7 rfl aI)))) (W.condF rfl (zr (za rfl (zk (W.ret (ah (ah (ad (aU (ah (ad (ae (z1 rfl) ?_)))))))))))))))))))
    exact fy (i := i) zy (by unfold ew; simp only [hd12] at *; simp_all <;> omega)
   refine z2 (zq (aF rfl rfl) (za rfl (zk (W.sub (zc 13 rfl (zc 4 rfl (zc 3 rfl (zc 0 rfl (zc 6 rfl (zc 7 rfl aI)))))) (W.condF rfl (W.reg (zm rfl (zq (aa rfl (zu 95) rfl (ai aG)) (za rfl (zk (aB rfl (fun hc13 => ?_) (fun hc13 => ?_))))))))))))
   ·refine W.skip (End.KB (End.KB (End.K (W.reg (zq (aa rfl (zi 1) rfl zp) (zm rfl (WO.nil (End.KL (W.sub zv (ih0 (i + 1) ?_ ?_))))))))))
    ·exact ⟨by omega, fun j h => by rcases Nat.lt_or_ge j i with g | g; exact hno j g; have hji : j = i := zy; subst hji; unfold ew; simp only [hd12] at *; simp_all <;> omega⟩
    exact zo
   refine zr (zm rfl (zq (aa rfl (zi 0) rfl (aJ bY)) (zm rfl (aC (d := 31) rfl (fun hc31 => ?_) (fun hc31 => ?_)))))
   ·refine zT (zm rfl (zT (zq (aa rfl (zu 48) rfl (bp bf)) (zq (aA rfl rfl) (zm rfl (aC (d := 35) rfl (fun hc35 => ?_) (fun hc35 => ?_)))))))
    ·refine zT (zm rfl (zT (zq (aa rfl (zu 57) rfl (aZ bf)) (zq (aA rfl rfl) (za rfl (zk (W.sub (zc 28 rfl (zc 0 rfl (zc 6 rfl (zc 7 rfl aI)))) (aB rfl (fun hc28 => ?_) (fun hc28 => ?_)))))))))
     ·refine W.skip (End.KB (End.KB (End.K (W.reg (zq (aa rfl (zi 1) rfl zp) (zm rfl (WO.nil (End.KL (W.sub zv (ih0 (i + 1) ?_ ?_))))))))))
      ·exact ⟨by omega, fun j h => by rcases Nat.lt_or_ge j i with g | g; exact hno j g; have hji : j = i := zy; subst hji; unfold ew; simp only [hd12] at *; simp_all <;> omega⟩
      exact zo
     refine zr (za rfl (zk (W.ret (ah (ah (ad (aU (ah (ad (ae (z1 rfl) ?_))))))))))
     exact fy (i := i) zy (by unfold ew; simp only [hd12] at *; simp_all <;> omega)
    refine z2 (zq (aF rfl rfl) (za rfl (zk (W.sub (zc 28 rfl (zc 0 rfl (zc 6 rfl (zc 7 rfl aI)))) (W.condF rfl (zr (za rfl (zk (W.ret (ah (ah (ad (aU (ah (ad (ae (z1 rfl) ?_))))))))))))))))
    exact fy (i := i) zy (by unfold ew; simp only [hd12] at *; simp_all <;> omega)
   refine z2 (zq (aF rfl rfl) (zm rfl (z2 (zq (aF rfl rfl) (za rfl (zk (W.sub (zc 28 rfl (zc 0 rfl (zc 6 rfl (zc 7 rfl aI)))) (W.condF rfl (zr (za rfl (zk (W.ret (ah (ah (ad (aU (ah (ad (ae (z1 rfl) ?_)))))))))))))))))))
   exact fy (i := i) zy (by unfold ew; simp only [hd12] at *; simp_all <;> omega)
  refine z2 (zq (aF rfl rfl) (za rfl (zk (W.condF rfl (zr (zm rfl (zq (aa rfl (zu 65) rfl (bp bf)) (zm rfl (aC (d := 22) rfl (fun hc22 => ?_) (fun hc22 => ?_))))))))))
  ·refine zT (zm rfl (zT (zq (aa rfl (zu 90) rfl (aZ bf)) (zq (aA rfl rfl) (za rfl (zk (W.sub (zc 13 rfl (zc 4 rfl (zc 3 rfl (zc 0 rfl (zc 6 rfl (zc 7 rfl aI)))))) (aB rfl (fun hc13 => ?_) (fun hc13 => ?_)))))))))
   ·refine zw (W.condT rfl (W.skip (End.KB (End.KB (End.K (W.reg (zq (aa rfl (zi 1) rfl zp) (zm rfl (WO.nil (End.KL (W.sub zv (ih0 (i + 1) ?_ ?_))))))))))))
    ·exact ⟨by omega, fun j h => by rcases Nat.lt_or_ge j i with g | g; exact hno j g; have hji : j = i := zy; subst hji; unfold ew; simp only [hd12] at *; simp_all <;> omega⟩
    exact zo
   refine W.reg (zm rfl (zq (aa rfl (zu 95) rfl (ai aG)) (za rfl (zk (aB rfl (fun hc13 => ?_) (fun hc13 => ?_))))))
   ·refine W.skip (End.KB (End.KB (End.K (W.reg (zq (aa rfl (zi 1) rfl zp) (zm rfl (WO.nil (End.KL (W.sub zv (ih0 (i + 1) ?_ ?_))))))))))
    ·exact ⟨by omega, fun j h => by rcases Nat.lt_or_ge j i with g | g; exact hno j g; have hji : j = i := zy; subst hji; unfold ew; simp only [hd12] at *; simp_all <;> omega⟩
    exact zo
   refine zr (zm rfl (zq (aa rfl (zi 0) rfl (aJ bY)) (zm rfl (aC (d := 31) rfl (fun hc31 => ?_) (fun hc31 => ?_)))))
   ·refine zT (zm rfl (zT (zq (aa rfl (zu 48) rfl (bp bf)) (zq (aA rfl rfl) (zm rfl (aC (d := 35) rfl (fun hc35 => ?_) (fun hc35 => ?_)))))))
    ·refine zT (zm rfl (zT (zq (aa rfl (zu 57) rfl (aZ bf)) (zq (aA rfl rfl) (za rfl (zk (W.sub (zc 28 rfl (zc 0 rfl (zc 6 rfl (zc 7 rfl aI)))) (aB rfl (fun hc28 => ?_) (fun hc28 => ?_)))))))))
     ·refine W.skip (End.KB (End.KB (End.K (W.reg (zq (aa rfl (zi 1) rfl zp) (zm rfl (WO.nil (End.KL (W.sub zv (ih0 (i + 1) ?_ ?_))))))))))
      ·exact ⟨by omega, fun j h => by rcases Nat.lt_or_ge j i with g | g; exact hno j g; have hji : j = i := zy; subst hji; unfold ew; simp only [hd12] at *; simp_all <;> omega⟩
      exact zo
     refine zr (za rfl (zk (W.ret (ah (ah (ad (aU (ah (ad (ae (z1 rfl) ?_))))))))))
     exact fy (i := i) zy (by unfold ew; simp only [hd12] at *; simp_all <;> omega)
    refine z2 (zq (aF rfl rfl) (za rfl (zk (W.sub (zc 28 rfl (zc 0 rfl (zc 6 rfl (zc 7 rfl aI)))) (W.condF rfl (zr (za rfl (zk (W.ret (ah (ah (ad (aU (ah (ad (ae (z1 rfl) ?_))))))))))))))))
    exact fy (i := i) zy (by unfold ew; simp only [hd12] at *; simp_all <;> omega)
   refine z2 (zq (aF rfl rfl) (zm rfl (z2 (zq (aF rfl rfl) (za rfl (zk (W.sub (zc 28 rfl (zc 0 rfl (zc 6 rfl (zc 7 rfl aI)))) (W.condF rfl (zr (za rfl (zk (W.ret (ah (ah (ad (aU (ah (ad (ae (z1 rfl) ?_)))))))))))))))))))
   exact fy (i := i) zy (by unfold ew; simp only [hd12] at *; simp_all <;> omega)
  refine z2 (zq (aF rfl rfl) (za rfl (zk (W.sub (zc 13 rfl (zc 4 rfl (zc 3 rfl (zc 0 rfl (zc 6 rfl (zc 7 rfl aI)))))) (W.condF rfl (W.reg (zm rfl (zq (aa rfl (zu 95) rfl (ai aG)) (za rfl (zk (aB rfl (fun hc13 => ?_) (fun hc13 => ?_))))))))))))
  ·refine W.skip (End.KB (End.KB (End.K (W.reg (zq (aa rfl (zi 1) rfl zp) (zm rfl (WO.nil (End.KL (W.sub zv (ih0 (i + 1) ?_ ?_))))))))))
   ·exact ⟨by omega, fun j h => by rcases Nat.lt_or_ge j i with g | g; exact hno j g; have hji : j = i := zy; subst hji; unfold ew; simp only [hd12] at *; simp_all <;> omega⟩
   exact zo
  refine zr (zm rfl (zq (aa rfl (zi 0) rfl (aJ bY)) (zm rfl (aC (d := 31) rfl (fun hc31 => ?_) (fun hc31 => ?_)))))
  ·refine zT (zm rfl (zT (zq (aa rfl (zu 48) rfl (bp bf)) (zq (aA rfl rfl) (zm rfl (aC (d := 35) rfl (fun hc35 => ?_) (fun hc35 => ?_)))))))
   ·refine zT (zm rfl (zT (zq (aa rfl (zu 57) rfl (aZ bf)) (zq (aA rfl rfl) (za rfl (zk (W.sub (zc 28 rfl (zc 0 rfl (zc 6 rfl (zc 7 rfl aI)))) (aB rfl (fun hc28 => ?_) (fun hc28 => ?_)))))))))
    ·refine W.skip (End.KB (End.KB (End.K (W.reg (zq (aa rfl (zi 1) rfl zp) (zm rfl (WO.nil (End.KL (W.sub zv (ih0 (i + 1) ?_ ?_))))))))))
     ·exact ⟨by omega, fun j h => by rcases Nat.lt_or_ge j i with g | g; exact hno j g; have hji : j = i := zy; subst hji; unfold ew; simp only [hd12] at *; simp_all <;> omega⟩
     exact zo
    refine zr (za rfl (zk (W.ret (ah (ah (ad (aU (ah (ad (ae (z1 rfl) ?_))))))))))
    exact fy (i := i) zy (by unfold ew; simp only [hd12] at *; simp_all <;> omega)
   refine z2 (zq (aF rfl rfl) (za rfl (zk (W.sub (zc 28 rfl (zc 0 rfl (zc 6 rfl (zc 7 rfl aI)))) (W.condF rfl (zr (za rfl (zk (W.ret (ah (ah (ad (aU (ah (ad (ae (z1 rfl) ?_))))))))))))))))
   exact fy (i := i) zy (by unfold ew; simp only [hd12] at *; simp_all <;> omega)
  refine z2 (zq (aF rfl rfl) (zm rfl (z2 (zq (aF rfl rfl) (za rfl (zk (W.sub (zc 28 rfl (zc 0 rfl (zc 6 rfl (zc 7 rfl aI)))) (W.condF rfl (zr (za rfl (zk (W.ret (ah (ah (ad (aU (ah (ad (ae (z1 rfl) ?_)))))))))))))))))))
  exact fy (i := i) zy (by unfold ew; simp only [hd12] at *; simp_all <;> omega)
 refine W.exit (am (aq (ap (End.K (zr (zm rfl (zq (aa rfl (oc (v := .str []) (by kernel_rfl)) rfl lx) (zm rfl (aC (d := 42) rfl (fun hc42 => ?_) (fun hc42 => ?_))))))))))
 ·refine zT (zm rfl (zT (zq (Q.len cf rfl rfl) (zT (zq (aa rfl (zi 32) rfl (aZ bf)) (zq (aA rfl rfl) (za rfl (zk (W.ret (ae (z1 rfl) ?_))))))))))
  exact yo zy hno (by simp_all)
 refine z2 (zG (zq (aF rfl rfl) (za rfl (zk (W.ret (ae (z1 rfl) ?_))))))
 exact yn (by simp_all)

theorem vR (s : List Nat) (hs : Bytes s) (hl : s.length <= 1048576) : Spec tab 72 [.str s] [] [] (bN (.bool (jQ s))) := by
 refine ac (bz 72 Tryz.func72) rfl (m := 54) rfl (rs := [.tmp 2]) rfl (st := [(0, .str s)]) rfl rfl (fun _ => rfl) (fun E => zr (za rfl (zk (W.seq (zr (za (zi 0) (zk (W.block (W.loop_ind (fun (i : Nat) => [(0, .str s), (3, .int .i64 ((i : Nat) : Int))]) (fun _ => _) (fun (i : Nat) => i <= s.length /\ ∀ j, j < i -> ew j (s.getD j 0)) (fun (i : Nat) => s.length - i) (0) ⟨Nat.zero_le _, fun j h => by omega⟩ zv (SubH.refl _) (fun i hI0 ih0 => ?_))))))))))
 obtain ⟨hi, hno⟩ := hI0
 refine W.seq (zr (zm rfl (zm rfl (zq (Q.len cf rfl rfl) (zq (aa rfl rfl rfl (bu bY)) (zk (aB rfl (fun hc9 => ?_) (fun hc9 => ?_))))))))
 ·refine zw (W.seq (W.block (zr (zm rfl (zm rfl (aE hs cf rfl rfl zo rfl (fun c14 hd14 hb14 => za rfl (zk (j5 (fun (lt : Bool) => [(0, .str s), (3, .int .i64 ((i : Nat) : Int)), (4, .int .u8 ((c14 : Nat) : Int)), (5, .bool lt)]) (fun (lt : Bool) => (lt = true ↔ ((97 <= c14 /\ c14 <= 122) \/ (65 <= c14 /\ c14 <= 90) \/ c14 = 95))) (fun lt hI6 => ?_) (fun hJ6 => ?_))))))))))
  ·refine zr (zm rfl (zq (Q.not rfl rfl) (zm rfl (WO.split (d := 35) rfl (fun hc35 => ?_) (fun hc35 => ?_)))))
   ·refine zT (zm rfl (zT (zq (aa rfl (zi 0) rfl (ai aG)) (zT (zm rfl (aC (d := 38) rfl (fun hc38 => ?_) (fun hc38 => ?_)))))))
    ·refine z2 (zT (zq (aA rfl rfl) (zT (zm rfl (z2 (zT (zq (aA rfl rfl) (zq (aA rfl rfl) (zk (W.sub (zc 46 rfl (zc 0 rfl (zc 3 rfl aI))) (W.condT rfl (zr (za rfl (zk (W.ret (ah (ad (aU (ah (ad (ae (z1 rfl) ?_)))))))))))))))))))))
     exact fy (i := i) zy (by unfold ew; simp only [hd14] at *; simp_all <;> omega)
    refine zT (zm rfl (zT (zq (aa rfl (zu 48) rfl (bu bY)) (zT (zq (aF rfl rfl) (zT (zm rfl (aC (d := 42) rfl (fun hc42 => ?_) (fun hc42 => ?_)))))))))
    ·refine z2 (zT (zq (aA rfl rfl) (zq (aA rfl rfl) (zk (W.sub (zc 46 rfl (zc 0 rfl (zc 3 rfl aI))) (W.condT rfl (zr (za rfl (zk (W.ret (ah (ad (aU (ah (ad (ae (z1 rfl) ?_))))))))))))))))
     exact fy (i := i) zy (by unfold ew; simp only [hd14] at *; simp_all <;> omega)
    refine zT (zm rfl (zT (zq (aa rfl (zu 57) rfl (aJ bY)) (zT (zq (aF rfl rfl) (zq (aA rfl rfl) (zk (W.sub (zc 46 rfl (zc 0 rfl (zc 3 rfl aI))) (aB rfl (fun hc46 => ?_) (fun hc46 => ?_))))))))))
    ·refine zr (za rfl (zk (W.ret (ah (ad (aU (ah (ad (ae (z1 rfl) ?_)))))))))
     exact fy (i := i) zy (by unfold ew; simp only [hd14] at *; simp_all <;> omega)
    refine W.skip (End.KB (End.K (W.reg (zm rfl (zq (aa rfl (zi 1) rfl zp) (za rfl (WO.nil (End.KL (W.sub zv (ih0 (i + 1) ?_ ?_))))))))))
    ·exact ⟨by omega, fun j h => by rcases Nat.lt_or_ge j i with g | g; exact hno j g; have hji : j = i := zy; subst hji; unfold ew; simp only [hd14] at *; simp_all <;> omega⟩
    exact zo
   refine z2 (zG (aW rfl rfl (.inr rfl) rfl (aW rfl rfl (.inr rfl) rfl (z2 (aW rfl rfl (.inr rfl) rfl (aW rfl rfl (.inr rfl) rfl (zG (zq (aF rfl rfl) (zk (W.sub (zc 46 rfl (zc 0 rfl (zc 3 rfl aI))) (W.condF rfl (W.skip (End.KB (End.K (W.reg (zm rfl (zq (aa rfl (zi 1) rfl zp) (za rfl (WO.nil (End.KL (W.sub zv (ih0 (i + 1) ?_ ?_))))))))))))))))))))))
   ·exact ⟨by omega, fun j h => by rcases Nat.lt_or_ge j i with g | g; exact hno j g; have hji : j = i := zy; subst hji; unfold ew; simp only [hd14] at *; simp_all <;> omega⟩
   exact zo
  refine W.reg (zm rfl (zq (aa rfl (zu 97) rfl (bp bf)) (zm rfl (aC (d := 17) rfl (fun hc17 => ?_) (fun hc17 => ?_)))))
  ·refine zT (zm rfl (zT (zq (aa rfl (zu 122) rfl (aZ bf)) (zq (aA rfl rfl) (zm rfl (aC (d := 21) rfl (fun hc21 => ?_) (fun hc21 => ?_)))))))
   ·refine z2 (zG (aW rfl rfl (.inr rfl) rfl (aW rfl rfl (.inr rfl) rfl (zG (zq (aA rfl rfl) (zm rfl (z2 (zq (aA rfl rfl) (za rfl (WO.nil (End.K (W.sub zv (hJ6 (_) ?_)))))))))))))
    exact (by simp_all <;> omega)
   refine zT (zm rfl (zT (zq (aa rfl (zu 65) rfl (bp bf)) (zT (zm rfl (aC (d := 24) rfl (fun hc24 => ?_) (fun hc24 => ?_)))))))
   ·refine zT (zm rfl (zT (zq (aa rfl (zu 90) rfl (aZ bf)) (zT (zq (aA rfl rfl) (zq (aF rfl rfl) (zm rfl (aC (d := 29) rfl (fun hc29 => ?_) (fun hc29 => ?_)))))))))
    ·refine z2 (zq (aA rfl rfl) (za rfl (WO.nil (End.K (W.sub zv (hJ6 (_) ?_))))))
     exact (by simp_all <;> omega)
    refine zT (zm rfl (zT (zq (aa rfl (zu 95) rfl (ai aG)) (zq (aF rfl rfl) (za rfl (WO.nil (End.K (W.sub zv (hJ6 (_) ?_)))))))))
    exact (by simp_all <;> omega)
   refine z2 (zT (zq (aF rfl rfl) (zq (aF rfl rfl) (zm rfl (zT (zm rfl (zT (zq (aa rfl (zu 95) rfl (ai aG)) (zq (aF rfl rfl) (za rfl (WO.nil (End.K (W.sub zv (hJ6 (_) ?_))))))))))))))
   exact (by simp_all <;> omega)
  refine z2 (zq (aF rfl rfl) (zm rfl (zT (zm rfl (zT (zq (aa rfl (zu 65) rfl (bp bf)) (zT (zm rfl (aC (d := 24) rfl (fun hc24 => ?_) (fun hc24 => ?_))))))))))
  ·refine zT (zm rfl (zT (zq (aa rfl (zu 90) rfl (aZ bf)) (zT (zq (aA rfl rfl) (zq (aF rfl rfl) (zm rfl (aC (d := 29) rfl (fun hc29 => ?_) (fun hc29 => ?_)))))))))
   ·refine z2 (zq (aA rfl rfl) (za rfl (WO.nil (End.K (W.sub zv (hJ6 (_) ?_))))))
    exact (by simp_all <;> omega)
   refine zT (zm rfl (zT (zq (aa rfl (zu 95) rfl (ai aG)) (zq (aF rfl rfl) (za rfl (WO.nil (End.K (W.sub zv (hJ6 (_) ?_)))))))))
   exact (by simp_all <;> omega)
  refine z2 (zT (zq (aF rfl rfl) (zq (aF rfl rfl) (zm rfl (zT (zm rfl (zT (zq (aa rfl (zu 95) rfl (ai aG)) (zq (aF rfl rfl) (za rfl (WO.nil (End.K (W.sub zv (hJ6 (_) ?_))))))))))))))
  exact (by simp_all <;> omega)
 refine W.exit (am (aq (ap (End.K (zr (zm rfl (zq (aa rfl (oc (v := .str []) (by kernel_rfl)) rfl lx) (zm rfl (aC (d := 49) rfl (fun hc49 => ?_) (fun hc49 => ?_))))))))))
 ·refine zT (zm rfl (zT (zq (Q.len cf rfl rfl) (zT (zq (aa rfl (zi 32) rfl (aZ bf)) (zq (aA rfl rfl) (za rfl (zk (W.ret (ae (z1 rfl) ?_))))))))))
  exact yo zy hno (by simp_all)
 refine z2 (zG (zq (aF rfl rfl) (za rfl (zk (W.ret (ae (z1 rfl) ?_))))))
 exact yn (by simp_all)
end Go.Proofs.YtfkbfnpjggkdmaaGreatDoor.Ev
