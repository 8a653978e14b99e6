/- Chapter 20, walks: a text of numbers alone is one number. -/
import Derived.Test.YtndhhgbpcmfeiaaGreatDoorNJu
import Derived.Test.YtndhhgbpcmfeiaaGreatDoorNUn
import Derived.Test.YtndhhgbpcmfeiaaGreatDoorNInC
import Derived.Test.YtndhhgbpcmfeiaaGreatDoorNAwK
namespace Go.Proofs.YtndhhgbpcmfeiaaGreatDoor.Ev
open Go.RowKit
set_option maxRecDepth 100000
set_option maxHeartbeats 1000000
def Ei (v : AV) (D : af) : Prop := ∃ (t : TD) (c : List AV) (w : AV) (Z : List IE) (n : Int), v = .tuple [w, .agg c, .bool true] /\ TRep D t c /\ jx t <= 1024 /\ yG t /\ IIn D Z w /\ ILB Z /\ D2 Z = aI t [] /\ (∀ x ∈ Z, x.vk = .nils) /\ NumT t n /\ ∀ e ∈ D, e.w = true
theorem tT {Z Y : List IE} {t : TD} {v : Int} (hZ : D2 Z = aI t []) (hY : D2 Y = bI (D2 Z)) (h : NumT t v) : (ei Y (Y.length - 1)).d.kd = 1 /\ (ei Y (Y.length - 1)).ars = [] := by
 obtain ⟨h1, h2, h3⟩ := wW h [] OKP.nil fun j hj => absurd hj (Nat.not_lt_zero _)
 have hl : Y.length = (aI t []).length := by rw [<- dr, hY, bI, eF, hZ]
 rw [rr, Bu, hY, hZ, hl]
 exact ⟨h1, h3⟩
theorem Aq (op : Int) : ∃ u : Nat, IntKind.u64.wrap op = (u : Int) := by
 refine ⟨(IntKind.u64.wrap op).toNat, ?_⟩
 have : 0 <= IntKind.u64.wrap op := by
  have e : (2 ^ 64 : Int) = 18446744073709551616 := by decide
  simp only [IntKind.wrap, IntKind.bits, IntKind.signed, Bool.false_and, Bool.false_eq_true, if_false, e]
  omega
 omega
theorem D3 (u : Nat) : Int.tmod ((u : Nat) : Int) ((5 : Nat) : Int) = ((u % 5 : Nat) : Int) := by
 rw [Int.tmod_eq_emod_of_nonneg (Int.natCast_nonneg u)]; rfl
def BR : List (List Nat) := [[32, 43, 32, 50], [32, 45, 32, 51], [32, 42, 32, 52], [32, 47, 32, 53], [32, 37, 32, 55]]
theorem zR (u : Nat) : ∃ c d, qV c d /\ BR.getD (u % 5) [] = [32, c, 32, 48 + d] := by
 have h : u % 5 < 5 := Nat.mod_lt _ (by decide)
 generalize u % 5 = k at h
 match k, h with
 | 0, _ => exact ⟨43, 2, .inl ⟨rfl, rfl⟩, rfl⟩
 | 1, _ => exact ⟨45, 3, .inr (.inl ⟨rfl, rfl⟩), rfl⟩
 | 2, _ => exact ⟨42, 4, .inr (.inr (.inl ⟨rfl, rfl⟩)), rfl⟩
 | 3, _ => exact ⟨47, 5, .inr (.inr (.inr (.inl ⟨rfl, rfl⟩))), rfl⟩
 | 4, _ => exact ⟨37, 7, .inr (.inr (.inr (.inr ⟨rfl, rfl⟩))), rfl⟩
theorem BQ {i : Nat} {nm : List Nat} (h : i < 5) (e : BR.getD i [] = nm) : (BR.map AV.str)[(0 + i) * 1]? = some (.str nm) := by
 rw [Nat.zero_add, Nat.mul_one, List.getElem?_map, <- e, List.getD_eq_getElem?_getD, List.getElem?_eq_getElem (by exact h)]
 rfl
theorem CD {B : List Bool} {q : Nat} (h : q < B.length) : (B.map AV.bool)[(0 + q) * 1]? = some (.bool (B.getD q false)) := by
 rw [Nat.zero_add, Nat.mul_one, List.getElem?_map, List.getD_eq_getElem?_getD, List.getElem?_eq_getElem h]
 rfl
section
variable {r : P16.OpL} {c d : Nat} {b : Bool}
theorem iH (h : P16.OpsOK r) (g : qV c d) : P16.OpsOK (((c, d), b) :: r) := fun x hx => by
 rcases List.mem_cons.1 hx with rfl | hx
 ·exact g
 ·exact h x hx
theorem Ca (h : P16.OpsOK r) (hl : r.length <= 8) : ([40] : List Nat).length + (P16.numS r).length <= 4611686018427387904 := by
 have := P16.numS_len (r := r); simp; omega
theorem Ad (h : P16.OpsOK r) (hl : r.length <= 8) : (40 :: P16.numS r).length + ([32, c, 32, 48 + d] : List Nat).length <= 4611686018427387904 := by
 have := P16.numS_len (r := r); simp; omega
theorem Ae (h : P16.OpsOK r) (hl : r.length <= 8) : (40 :: (P16.numS r ++ [32, c, 32, 48 + d])).length + ([41] : List Nat).length <= 4611686018427387904 := by
 have := P16.numS_len (r := r); simp; omega
theorem Af (h : P16.OpsOK r) (hl : r.length <= 9) : ([45] : List Nat).length + (P16.numS r).length <= 4611686018427387904 := by
 have := P16.numS_len (r := r); simp; omega
theorem zP : (40 :: (P16.numS r ++ [32, c, 32, 48 + d])) ++ [41] = P16.numS (((c, d), false) :: r) := by simp [P16.numS]
end
theorem uC : aA.und 3 = some (.int .i64) := by kernel_rfl
theorem Dt : aA.und 53 = some (.int .u64) := by kernel_rfl
theorem BZ (r : P16.OpL) (hr : P16.OpsOK r) (h8 : r.length <= 8) (hd : P16.dpN r <= 12) : Spec aA 25 [.str (P16.numS r)] [] [] (Ei) := by
 refine aj (dW 25 Tryz.func25) rfl (m := 28) rfl (rs := [.tmp 2, .cell 3 26, .tmp 4]) rfl (st := [(0, .str (P16.numS r))]) rfl rfl (fun _ => rfl) (fun E => zr (za rfl (WO.alloc eU rfl (fun b1 => za rfl (zk (zr (zm rfl (WO.call0 rfl (aX rfl oz) rfl (P16.num_parse hr h8 hd) SubR.nil rfl (fun v12 D12 hP12 => ?_)))))))))
 obtain ⟨x, hq, rfl, nm, nw, rfl⟩ := hP12
 obtain ⟨m, nk⟩ := nm.ok
 obtain ⟨t, v, ht, hv, ⟨_, _, hz⟩, hky⟩ := nm.nt
 refine WO.subH (hs' := _ :: (D12)) (SubH.op (aS (N := []) (G := D12) (K := [_]) (X := []))) (zm rfl (zq (Q.extract rfl rfl) (zq (Q.extract rfl rfl) (zq (Q.extract rfl rfl) (WO.alloc eU rfl (fun b2 => zS bb rfl rfl (i := 0) rfl (bG rfl (P16.ckA nk.ms nk.nm nk.kd)) rfl (hs' := _ :: _ :: _) rfl (za rfl (za rfl (zk (W.seq (zr (zm rfl (zq (Q.bin rfl (zi 0) rfl (bE (p := false) rfl)) (zk (ad rfl (zw (zr (zq (zL rfl (zt 0 rfl) cG bb rfl) (WO.call0 rfl (aX rfl oz) rfl (BE (ro D12) se t _ (TRep.mono (fun b o h => h.ro) ht) zy 1 0 (nm.tr (ro D12) se (fun b o h => h.ro))) (SubR.ro gc) rfl (fun v21 D21 hP21 => ?_))))))))))))))))))))
 obtain ⟨ee1, he1, Z1, w1, hp1, hl1, rfl, hO1, hX1, hD1, hE1, hw1, hDD1⟩ := hP21
 have hl1' : Z1.length <= 1048576 := (by by_cases q : Co 1 0 = 0 <;> first | (rw [<- dr, hD1 (he1.trans q), ew]; simp; omega) | (rw [hE1 zy]; simp))
 have he0 : ee1 = 0 := he1
 subst he0
 refine WO.subH (hs' := _ :: _ :: (D12 ++ D21)) (SubH.op (aS (N := []) (G := D21) (K := [_, _]) (X := D12))) (zm rfl (zq (Q.extract rfl rfl) (zq (Q.extract rfl rfl) (za rfl (za rfl (zk (W.sub (zc 9 rfl (zc 8 rfl (zc 5 rfl (zc 3 rfl aU)))) (W.seq (A9 (by kernel_rfl) (WX.f (Q.move rfl) (OwnE.bq hO1) rfl (WX.q (by kernel_rfl) (zL rfl (zt 0 rfl) cG bb rfl) (C8 ht) rfl (WX.f (Q.move rfl) CE rfl (WX.f (Q.bin rfl (zi 0) rfl (ag (p := true) rfl)) oM rfl (WX.f (Q.assign rfl) (OwnE.bq hO1) rfl (WX.store bb rfl rfl (j := 1) rfl (bG rfl (P16.ckA nk.ms nk.nm nk.kd)) (cs := [_, _, _, _, _, _, _, _, _, _, _]) rfl (hs' := _ :: _ :: _) rfl (WX.f (Q.assign rfl) oM rfl (WX.nil (End.K (W.ret ?_)))))))))))))))))))
 refine End.ret (ResL.tmp rfl (zA rfl (zt 1 rfl) cG bb rfl (z1 rfl))) (hs' := D12 ++ D21) ⟨t, _, w1, Z1, v, rfl, TRep.mono (fun b o q => q.appl') ht, by omega, hky, BY hO1 hX1 hDD1, BG hX1 hl1', hD1 rfl, fun x hx => (hX1 x hx).2.1, hv, wa nw (by rw [hDD1]; exact wa (OwnE.w hO1) hw1)⟩ (wa nw (by rw [hDD1]; exact wa (OwnE.w hO1) hw1)) gc

theorem law_numbers (hs : af) (hro : ∀ e ∈ hs, e.w = false) (A : List Int) (B : List Bool) (va vb : AV) (hA : RIn hs 1 A.length (cA A) va) (hM : RIn hs 1 B.length (B.map AV.bool) vb) (hAl : A.length <= 1048576) (hMl : B.length <= 1048576) : Spec aA 6 [va, vb] [] hs (eA (.bool true)) := by
 refine aj (dW 6 Tryz.func6) rfl (m := 105) rfl (rs := [.tmp 4]) rfl (st := [(0, va), (1, vb)]) rfl rfl (fun _ => rfl) (fun E => zr (za rfl (zk (W.seq (zr (zm rfl (zq (Q.len dh rfl hA.len) (zq (Q.bin rfl (zi 8) rfl (bf jr)) (zk (ax rfl (fun hc17 => ?_) (fun hc17 => ?_)))))))))))
 ·refine zr (az rfl oz rfl (dR (fun _ => rfl)) SubR.nil rfl (za rfl (zk (W.ret (aa (ab (z1 rfl) ?_))))))
  rfl
 refine zw (zr (zq (Q.assign (oc (v := .str [49]) (by kernel_rfl))) (zk (W.seq (zr (za (zi 0) (zk (W.block (kG (fun (i : Nat) (r : P16.OpL) => [(0, va), (1, vb), (5, .str (P16.numS r)), (6, .int .i64 ((i : Nat) : Int))]) (fun (i : Nat) (r : P16.OpL) => hs) (fun (i : Nat) (r : P16.OpL) => i <= A.length /\ r.length = i /\ P16.OpsOK r /\ P16.dpN r <= i + min i 2) (fun (i : Nat) (r : P16.OpL) => A.length - i) (0) ([]) ⟨Nat.zero_le _, rfl, fun x hx => by simp at hx, Nat.le_refl _⟩ zv (SubH.refl _) (fun i r hI0 ih0 => ?_))))))))))
 obtain ⟨h1, hrl, hr, hdp⟩ := hI0
 refine W.seq (zr (zm rfl (zm rfl (zq (Q.len dh rfl hA.len) (zq (Q.bin rfl rfl rfl (ec jr)) (zk (ax rfl (fun hc22 => ?_) (fun hc22 => ?_))))))))
 ·obtain ⟨u, hu⟩ := Aq (ai A i)
  obtain ⟨c, d, ho, hnm⟩ := zR u
  obtain ⟨ba, sza, exa, rfl, wa_, ma⟩ := hA.full zy
  refine zw (W.seq (W.block (zr (WO.bslice jd uB Av rfl (b8 (oc (v := .str [32, 43, 32, 50]) (by kernel_rfl)) (b8 (oc (v := .str [32, 45, 32, 51]) (by kernel_rfl)) (b8 (oc (v := .str [32, 42, 32, 52]) (by kernel_rfl)) (b8 (oc (v := .str [32, 47, 32, 53]) (by kernel_rfl)) (b8 (oc (v := .str [32, 37, 32, 55]) (by kernel_rfl)) ak))))) rfl (cs := [_, _, _, _, _]) rfl rfl rfl (fun b1 => zm rfl (zm rfl (zq (ee dh i8 rfl rfl zo) (zq (aG rfl (List.mem_cons_of_mem _ ma) d7 (sN zo)) (zq (fS uC Dt rfl hu) (zq (Q.bin rfl (oc (v := .int .u64 ((5 : Nat) : Int)) rfl) rfl (Bn (by decide) (D3 u))) (zq (fS Dt uC rfl (ns zy)) (zq (ee jd uB rfl rfl zo) (zq (aG rfl (zt 0 rfl) uy (BQ zy hnm)) (za rfl (zk (W.sub (zc 7 rfl (zc 0 rfl (zc 1 rfl (zc 5 rfl (zc 6 rfl aU))))) (zr (zm rfl (zq (Q.bin (oc (v := .str [40]) rfl) rfl rfl (P16.bv_saddP (r := 40 :: P16.numS r) rfl (Ca hr zy))) (zm rfl (zq (Q.bin rfl rfl rfl (P16.bv_saddP (r := 40 :: (P16.numS r ++ [32, c, 32, 48 + d])) rfl (Ad hr zy))) (zq (Q.bin rfl (oc (v := .str [41]) rfl) rfl (P16.bv_saddP (r := P16.numS (((c, d), false) :: r)) (zP) (Ae hr zy))) (za rfl ?_)))))))))))))))))))))))
  refine zk (zr (zm rfl (zm rfl (zq (Q.len qP rfl hM.len) (zq (Q.bin rfl rfl rfl (ec jr)) (zm rfl (aQ (d := 44) rfl (fun hc44 => ?_) (fun hc44 => ?_))))))))
  ·obtain ⟨bm, szm, exm, rfl, wm, mm⟩ := hM.full zy
   refine zT (zm rfl (zT (zm rfl (zT (zq (ee qP ym rfl rfl zo) (zT (zq (aG rfl (List.mem_cons_of_mem _ mm) uI (CD zo)) (zq (aC rfl rfl) (zm rfl (WO.split (d := 50) rfl (fun hc50 => ?_) (fun hc50 => ?_)))))))))))
   ·refine zT (zm rfl (zT (zq (Q.bin rfl (zi 2) rfl (ec jr)) (zq (aC rfl rfl) (zk (W.sub (zc 53 rfl (zc 5 rfl (zc 0 rfl (zc 1 rfl (zc 6 rfl aU))))) (ax rfl (fun hc53 => ?_) (fun hc53 => ?_))))))))
    ·refine aF (zm rfl (zq (Q.bin (oc (v := .str [45]) rfl) rfl rfl (P16.bv_saddP (r := P16.numS (((c, d), true) :: r)) rfl (Af (iH hr ho) (by simp; omega)))) (za rfl (WO.nil (End.KB (End.K (aF (zm rfl (zq (Q.bin rfl (zi 1) rfl zp) (za rfl (WO.nil (End.KL (W.sub zv (gM gc (ih0 (i + 1) (((c, d), true) :: r) ?_ ?_)))))))))))))))
     ·exact ⟨by omega, by simp; omega, iH hr ho, by show 2 + P16.dpN r <= _; omega⟩
     exact zo
    refine W.skip (End.KB (End.K (aF (zm rfl (zq (Q.bin rfl (zi 1) rfl zp) (za rfl (WO.nil (End.KL (W.sub zv (gM gc (ih0 (i + 1) (((c, d), false) :: r) ?_ ?_)))))))))))
    ·exact ⟨by omega, by simp; omega, iH hr ho, by show 1 + P16.dpN r <= _; omega⟩
    exact zo
   refine z2 (zq (aH rfl rfl) (zk (W.sub (zc 53 rfl (zc 5 rfl (zc 0 rfl (zc 1 rfl (zc 6 rfl aU))))) (ad rfl (W.skip (End.KB (End.K (aF (zm rfl (zq (Q.bin rfl (zi 1) rfl zp) (za rfl (WO.nil (End.KL (W.sub zv (gM gc (ih0 (i + 1) (((c, d), false) :: r) ?_ ?_))))))))))))))))
   ·exact ⟨by omega, by simp; omega, iH hr ho, by show 1 + P16.dpN r <= _; omega⟩
   exact zo
  refine z2 (z2 (zq (aH rfl rfl) (zm rfl (z2 (zq (aH rfl rfl) (zk (W.sub (zc 53 rfl (zc 5 rfl (zc 0 rfl (zc 1 rfl (zc 6 rfl aU))))) (ad rfl (W.skip (End.KB (End.K (aF (zm rfl (zq (Q.bin rfl (zi 1) rfl zp) (za rfl (WO.nil (End.KL (W.sub zv (gM gc (ih0 (i + 1) (((c, d), false) :: r) ?_ ?_))))))))))))))))))))
  ·exact ⟨by omega, by simp; omega, iH hr ho, by show 1 + P16.dpN r <= _; omega⟩
  exact zo
 refine W.exit (av (aL (aq (End.K (zr (zm rfl (WO.call0 rfl (aX rfl oz) rfl (BZ r hr zy zy) SubR.nil rfl (fun v58 D58 hP58 => ?_))))))))
 obtain ⟨t, c0, w0, Z, nv, rfl, hT0, hz, hky, hZ, hZb, hDz, hvk, hnt, hw0⟩ := hP58
 obtain ⟨d0, vm0, vn0, vk0, rfl, hqm0, hqn0, hqk0, hqo0⟩ := jz hT0
 obtain ⟨hZl, hck, hOK, hTr, htm, hKy⟩ := BX hZ hvk hDz hz hky
 refine WO.subH (hs' := (hs ++ D58)) (SubH.op (aS (N := []) (G := D58) (K := []) (X := hs))) (zm rfl (zq (Q.extract rfl rfl) (zq (Q.extract rfl rfl) (zq (Q.extract rfl rfl) (WO.alloc eU rfl (fun b2 => za rfl (zS bb rfl rfl (i := 0) rfl (bG rfl (rT hqm0.cell hqn0.cell hqk0.cell)) rfl (hs' := _ :: _) rfl (za rfl (zk (W.sub (zc 10 rfl (zc 8 rfl aU)) (zr (zm rfl (WO.call0 rfl (aX rfl oz) rfl (tU (ro D58) se Z _ hZ.ro hZb) (SubR.ro gc) rfl (fun v64 D64 hP64 => ?_))))))))))))))
 obtain ⟨e1, Y1, w1, hR1, hO1, rfl⟩ := hP64
 have hY1 := hO1.iin
 obtain ⟨rfl, hD1⟩ := y0 hck hR1
 obtain ⟨hc1, hl1⟩ := uf hOK hck hO1.nk hD1
 have hE1 := tT hDz hD1 hnt
 refine WO.subH (hs' := _ :: (hs ++ D58 ++ D64)) (SubH.op (aS (N := []) (G := D64) (K := [_]) (X := hs ++ D58))) (zm rfl (zq (Q.extract rfl rfl) (zq (Q.extract rfl rfl) (za rfl (za rfl (zk (zr (zm rfl (WO.call0 rfl (aX rfl oz) rfl (uw (ro D64) se Y1 _ hY1.ro hO1.lb) (SubR.ro gc) rfl (fun v69 D69 hP69 => ?_))))))))))
 obtain ⟨e2, Y2, w2, hR2, hO2, rfl⟩ := hP69
 have hY2 := hO2.iin
 obtain ⟨rfl, hT2⟩ := Ao hc1 hR2 hO2.nk
 obtain ⟨hY21, hYd, hYa⟩ := yy hT2 hE1.2
 have hYk : (ei Y2 0).d.kd = 1 := (by rw [hYd]; exact hE1.1)
 obtain ⟨bt, szt, ext, rfl, wt, mt⟩ := hY2.1.full zy
 refine WO.subH (hs' := _ :: (hs ++ D58 ++ D64 ++ D69)) (SubH.op (aS (N := []) (G := D69) (K := [_]) (X := hs ++ D58 ++ D64))) (zm rfl (zq (Q.extract rfl rfl) (zq (Q.extract rfl rfl) (za rfl (za rfl (zk (zr (zm rfl (zm rfl (zT (zm rfl (zT (zq (Q.bin rfl (zi 0) rfl (ag (p := true) rfl)) (zq (aC rfl rfl) (zm rfl (zT (zm rfl (zT (zq (Q.bin rfl (zi 0) rfl (ag (p := true) rfl)) (zq (aC rfl rfl) (zm rfl (zT (zm rfl ?_)))))))))))))))))))))))
 refine zT (zq (Q.len ez rfl rfl) (zT (zq (Q.bin rfl (zi 1) rfl (ag (p := true) (by rw [hY21]; rfl))) (zq (aC rfl rfl) (zm rfl (zT (zm rfl (zT (zq (dI ez gp rfl (zi 0) zo (o' := 0) rfl) (zT (zf fE rfl 0 (zT (zf iC rfl 0 (zT (zq (aG rfl (List.mem_cons_of_mem _ (List.mem_append_right _ mt)) d7 (rl (L := Y2) (i := 0) 0 zy rfl)) (zT (zq (Q.bin rfl (zi 1) rfl (ag (p := true) (by rw [hYk]; rfl))) (zq (aC rfl rfl) (zm rfl (zT (zm rfl (zT (zq (dI ez gp rfl (zi 0) zo (o' := 0) rfl) ?_)))))))))))))))))))))))
 refine zT (zf gW rfl 11 (zT (zq (aG rfl (List.mem_cons_of_mem _ (List.mem_append_right _ mt)) oC (rl (L := Y2) (i := 0) 11 zy rfl)) (zT (zq (Q.len dh rfl (hY2.at (i := 0) zy).a.len) (zT (zq (Q.bin rfl (zi 0) rfl (ag (p := true) (by rw [hYa]; rfl))) (zq (aC rfl rfl) (zm rfl (zT (az rfl oz rfl (dR (fun _ => rfl)) SubR.nil rfl (zq (aC rfl rfl) (za rfl (zk (W.sub (zc 4 rfl aU) (W.ret (ab (z1 rfl) ?_)))))))))))))))))
 rfl
open Go.RowKit Go.ChangeShapes Go.WideShapes
theorem l6 : ∀ {cs : List (List AV)} {sz i j : Nat} {c : List AV}, (∀ c ∈ cs, c.length = sz) -> cs[i]? = some c -> j < sz -> (cs.flatMap id)[i * sz + j]? = c[j]?
 | [], sz, i, j, c, _, h, _ => by simp at h
 | y :: cs, sz, 0, j, c, hl, h, hj => by
  simp at h
  subst h
  rw [List.flatMap_cons, Nat.zero_mul, Nat.zero_add, id, List.getElem?_append_left (by rw [hl _ List.mem_cons_self]; exact hj)]
 | y :: cs, sz, i + 1, j, c, hl, h, hj => by
  have hy := hl y List.mem_cons_self
  rw [List.flatMap_cons, id, List.getElem?_append_right (by rw [hy, Nat.add_mul]; omega), hy, show (i + 1) * sz + j - sz = i * sz + j by rw [Nat.add_mul]; omega]
  exact l6 (fun x hx => hl x (List.mem_cons_of_mem _ hx)) (by simpa using h) hj
section
variable {H : Type} {enc : TypeId × Value -> H} {P : Program} {w : World} {held : Bool}
theorem Ab {α : Type} {f : α -> List AV} {sz : Nat} {G : af -> α -> Prop} (hG : ∀ hs hs' x, (∀ b o, MemH hs b o -> MemH hs' b o) -> G hs x -> G hs' x) (hf : ∀ hs x, G hs x -> (f x).length = sz)
  {t e : TypeId} {n : Nat} {u : Value} {D : DataW H} {Pl : List MemPlace} (ht : P.underlying t = some (.slice e)) (ce : P.cellsOf e = sz) (hz : 0 < sz)
  (hel : ∀ (n : Nat) (cs : List Value) (d : DataW H) (p : List MemPlace), DataW.trod enc P w 0 (fun _ => true) held n e cs = some (d, p) -> Rows.uptoBulk d < Rows.uptoBulk D -> ∀ (B : Nat), (∃ c e fr, w.heap[B]? = some (.cells c e fr)) -> ∀ k : Nat,
   ∃ (x : α) (I : List InB), G (eX k I) x /\ ∀ M : Inj, (∀ j y, I[j]? = some y -> M (k + j) = some y.bi) -> (∀ (j : Nat) (v : AV), (f x)[j]? = some v -> v.isCell = true /\ ∃ u, cs[j]? = some u /\ VRel M v u) /\ ∀ y ∈ I, CellsOK w M y)
  (h : DataW.trod enc P w 0 (fun _ => true) held n t [u] = some (D, Pl)) (hb : Rows.uptoBulk D <= 1048576) (B : Nat) (hB : (∃ a len cap, u = .slice (some a) len cap) -> ∃ c e fr, w.heap[B]? = some (.cells c e fr)) (k : Nat) :
  ∃ (X : List α) (va : AV) (I : List InB), RIn (eX k I) sz X.length ((X.map f).flatMap id) va /\ X.length <= 1048576 /\ (∀ y ∈ X, G (eX k I) y) /\ ∀ M : Inj, (∀ j y, I[j]? = some y -> M (k + j) = some y.bi) -> VRel M va u /\ ∀ y ∈ I, CellsOK w M y := by
 rcases Deep.open_slice ht h with ⟨h1, h2⟩ | ⟨a, len, cap, m, n', Dd, Pd, h1, hb0, hle, hcap, hm, hx, hcell⟩
 ·simp only [List.cons.injEq, and_true] at h1
  subst h1
  exact ⟨[], .nils, [], RIn.nil, by simp, fun x hx => by simp at hx, fun M hM => ⟨.nils, fun x hx => by simp at hx⟩⟩
 ·simp only [List.cons.injEq, and_true] at h1
  subst h1
  obtain ⟨cB, eB, fB, hBB⟩ := hB ⟨_, _, _, rfl⟩
  have hm : m = cap := hm
  subst hm
  simp only [Prod.mk.injEq] at hx
  obtain ⟨hD, _⟩ := hx
  have hbd : Rows.uptoBulkAll ((List.range len).map Dd) < Rows.uptoBulk D := by
   rw [hD]
   simp only [Rows.uptoBulk]
   omega
  have hlen : len <= 1048576 := by
   have := Bi ((List.range len).map Dd)
   simp only [List.length_map, List.length_range] at this
   omega
  by_cases hc : m = 0
  ·subst hc
   obtain rfl : len = 0 := by omega
   refine ⟨[], .slice k 0 0 sz, [⟨⟨B, 0, 0, sz, undef⟩, true, []⟩], .inr ⟨k, 0, false, rfl, ⟨false, List.mem_cons_self⟩, by simp⟩, by simp, fun x hx => by simp at hx, fun M hM => ⟨.slice k 0 0 0 a ⟨B, 0, 0, sz, undef⟩ (by simpa using hM 0 _ rfl) rfl (Nat.le_refl _) (.inr rfl) rfl, fun x hx => ?_⟩⟩
   rw [List.mem_singleton.1 hx]
   exact ⟨rfl, rfl, cB, eB, fB, hBB, fun k v hv => by simp at hv⟩
  obtain ⟨b, off, spot⟩ := a
  have hspot : spot = none := by
   obtain ⟨cs0, g1, _⟩ := hcell 0 zy
   rw [ce] at g1
   obtain ⟨_, g2, g3⟩ := World.cells?_some g1
   have g4 := g3 0 hz
   rw [List.getElem?_eq_getElem zy] at g4
   simpa [Addr.add] using World.cell?_spot g4
  subst hspot
  have hq : ∀ q, q <= len -> ∃ (X : List α) (I : List InB), X.length = q /\ (∀ y ∈ X, G (eX (k + 1) I) y) /\ ∀ M : Inj, (∀ j y, I[j]? = some y -> M (k + 1 + j) = some y.bi) ->
    (∀ (i j : Nat) (x : α) (v : AV), X[i]? = some x -> (f x)[j]? = some v -> v.isCell = true /\ ∃ u, w.cell? ⟨b, off + (i * sz + j), none⟩ = some u /\ VRel M v u) /\ ∀ y ∈ I, CellsOK w M y := by
   intro q
   induction q with
   | zero => exact fun _ => ⟨[], [], rfl, fun y hy => by simp at hy, fun M hM => ⟨fun i j x v hx => by simp at hx, fun y hy => by simp at hy⟩⟩
   | succ q ih =>
    intro hq
    obtain ⟨X, I, g1, g2, g3⟩ := ih zy
    obtain ⟨cs, k1, k2⟩ := hcell q zy
    rw [ce] at k1
    obtain ⟨k3, k4⟩ := kJ (H := H) (P := P) k1
    have hp := sK (List.mem_map.2 ⟨q, by simpa using (show q < len by omega), rfl⟩ : Dd q ∈ (List.range len).map Dd)
    obtain ⟨x, J, k5, k6⟩ := hel _ _ _ _ k2 zy B ⟨cB, eB, fB, hBB⟩ (k + 1 + I.length)
    have hA : ∀ b o, MemH (eX (k + 1) I) b o -> MemH (eX (k + 1) (I ++ J)) b o := fun b o ⟨w, g⟩ => ⟨w, by rw [iE]; exact List.mem_append_left _ g⟩
    have hA2 : ∀ b o, MemH (eX (k + 1 + I.length) J) b o -> MemH (eX (k + 1) (I ++ J)) b o := fun b o ⟨w, g⟩ => ⟨w, by rw [iE]; exact List.mem_append_right _ g⟩
    refine ⟨X ++ [x], I ++ J, by simp [g1], fun y hy => ?_, fun M hM => ?_⟩
    ·rcases List.mem_append.1 hy with hy | hy
     ·exact hG _ _ _ hA (g2 y hy)
     ·rw [List.mem_singleton.1 hy]
      exact hG _ _ _ hA2 k5
    ·obtain ⟨m1, m2⟩ := g3 M fun j y hj => hM j y (by rw [List.getElem?_append_left (List.getElem?_eq_some_iff.1 hj).1]; exact hj)
     obtain ⟨m3, m4⟩ := k6 M fun j y hj => by
      have := hM (I.length + j) y (by rw [List.getElem?_append_right zy, show I.length + j - I.length = j by omega]; exact hj)
      rwa [show k + 1 + (I.length + j) = k + 1 + I.length + j by omega] at this
     refine ⟨fun i j x' v hx' hv => ?_, fun y hy => ?_⟩
     ·rcases Nat.lt_or_ge i X.length with hi | hi
      ·exact m1 i j x' v (by rw [List.getElem?_append_left hi] at hx'; exact hx') hv
      ·rw [List.getElem?_append_right hi] at hx'
       have hi0 : i - X.length = 0 := by
        have := (List.getElem?_eq_some_iff.1 hx').1
        simp at this
        omega
       rw [hi0] at hx'
       simp at hx'
       subst hx'
       obtain ⟨n1, u, n2, n3⟩ := m3 j v hv
       have hj : j < sz := by
        have := (List.getElem?_eq_some_iff.1 n2).1
        omega
       refine ⟨n1, u, ?_, n3⟩
       rw [show i = q by omega, k4 j hj, n2]
     ·rcases List.mem_append.1 hy with hy | hy
      ·exact m2 y hy
      ·exact m4 y hy
  obtain ⟨X, I, g1, g2, g3⟩ := hq len (Nat.le_refl _)
  have hl : ∀ c ∈ X.map f, c.length = sz := fun c hc => by
   obtain ⟨x, hx, rfl⟩ := List.mem_map.1 hc
   exact hf _ _ (g2 x hx)
  have hfl : ((X.map f).flatMap id).length = X.length * sz := by
   have : ∀ cs : List (List AV), (∀ c ∈ cs, c.length = sz) -> (cs.flatMap id).length = cs.length * sz := fun cs => by
    induction cs with
    | nil => simp
    | cons c cs ih =>
     intro h
     rw [List.flatMap_cons, List.length_append, ih fun x hx => h x (List.mem_cons_of_mem _ hx), List.length_cons, id, h c List.mem_cons_self, Nat.add_mul]; omega
   rw [this _ hl, List.length_map]
  have hA : ∀ b o, MemH (eX (k + 1) I) b o -> MemH (eX k (⟨⟨b, off, m, sz, undef⟩, true, (X.map f).flatMap id⟩ :: I)) b o := fun b o ⟨w, g⟩ => ⟨w, List.mem_cons_of_mem _ g⟩
  refine ⟨X, .slice k 0 len sz, ⟨⟨b, off, m, sz, undef⟩, true, (X.map f).flatMap id⟩ :: I, .inr ⟨k, 0, false, by rw [g1], ⟨false, List.mem_cons_self⟩, hfl⟩, by omega, fun y hy => hG _ _ _ (fun b o ⟨w, g⟩ => ⟨w, List.mem_cons_of_mem _ g⟩) (g2 y hy), fun M hM => ⟨.slice k 0 len m _ ⟨b, off, m, sz, undef⟩ (by simpa using hM 0 _ rfl) (Nat.zero_add _) hle (.inl (by simp)) rfl, fun y hy => ?_⟩⟩
  obtain ⟨m1, m2⟩ := g3 M fun j y hj => by
   have := hM (j + 1) y (by simpa using hj)
   rwa [show k + (j + 1) = k + 1 + j by omega] at this
  rcases List.mem_cons.1 hy with rfl | hy
  ·obtain ⟨cs0, k1, _⟩ := hcell 0 zy
   rw [ce] at k1
   obtain ⟨k2, k3⟩ := kJ (H := H) (P := P) k1
   have k4 := k3 0 hz
   rw [List.getElem?_eq_getElem zy] at k4
   obtain ⟨c, e, fr, g5, _⟩ := kI k4
   refine ⟨rfl, rfl, c, e, fr, g5, fun j v hv => ?_⟩
   have hv : ((X.map f).flatMap id)[j]? = some v := hv
   have hj : j < len * sz := by
    have := (List.getElem?_eq_some_iff.1 hv).1
    rw [hfl, g1] at this
    exact this
   have hi : j / sz < len := Nat.div_lt_of_lt_mul (by rw [Nat.mul_comm]; exact hj)
   have hr : j % sz < sz := Nat.mod_lt _ hz
   have ej : j / sz * sz + j % sz = j := by rw [Nat.mul_comm]; exact Nat.div_add_mod j sz
   have hxi : X[j / sz]? = some (X[j / sz]'zy) := List.getElem?_eq_getElem zy
   have h3 := l6 hl (i := j / sz) (j := j % sz) (c := f (X[j / sz]'zy)) (by rw [List.getElem?_map, hxi]; rfl) hr
   rw [ej, hv] at h3
   obtain ⟨n1, u, n2, n3⟩ := m1 _ _ _ _ hxi h3.symm
   rw [ej] at n2
   obtain ⟨c', e', fr', h8, h9⟩ := kI n2
   rw [g5] at h8
   cases h8
   exact ⟨n1, u, h9, n3⟩
  ·exact m2 y hy
end
section
variable {H : Type} {enc : TypeId × Value -> H} {W : World}
def KidsIn (hs : af) (x : IE) (ks : List TD) : Prop := ∃ cs, RIn hs 11 ks.length (cs.flatMap id) x.vk /\ ks.length <= 1048576 /\ TReps hs ks cs
theorem KidsIn.mono {hs hs' : af} {x : IE} {ks : List TD} (hm : ∀ b o, MemH hs b o -> MemH hs' b o) (h : KidsIn hs x ks) : KidsIn hs' x ks := let ⟨cs, h1, h2, h3⟩ := h; ⟨cs, h1.mono hm, h2, TReps.mono hm h3⟩
end
section
variable {H : Type} {enc : TypeId × Value -> H} {W : World}
theorem nH {α : Type} (f : α -> AV) : ∀ X : List α, ((X.map fun x => [f x]).flatMap id) = X.map f
 | [] => rfl
 | x :: X => by rw [List.map_cons, List.flatMap_cons, nH f X, List.map_cons]; rfl
theorem row_arg {α : Type} {f : α -> AV} {t e : TypeId} {base : Nat} {v : Value} {d : DataW H} {p : List MemPlace} (ht : Tryz.prog.underlying t = some (.slice e)) (ce : Tryz.prog.cellsOf e = 1)
  (hel : ∀ (n : Nat) (cs : List Value) (d : DataW H) (p : List MemPlace), DataW.trod enc Tryz.prog W 0 (fun _ => true) true n e cs = some (d, p) -> ∃ (x : α) (u : Value), cs[0]? = some u /\ (f x).isCell = true /\ ∀ M : Inj, VRel M (f x) u)
  (hval : Value.okWide Tryz.prog W .any base t v) (h : DataW.Trod enc Tryz.prog W 0 (fun _ => true) true t v d p) (hb : Rows.uptoBulk d <= 1048576) (k : Nat) :
  ∃ (X : List α) (va : AV) (I : List InB), RIn (eX k I) 1 X.length (X.map f) va /\ X.length <= 1048576 /\ ∀ M : Inj, (∀ j x, I[j]? = some x -> M (k + j) = some x.bi) -> VRel M va v /\ ∀ x ∈ I, CellsOK W M x := by
 obtain ⟨fuel, hf⟩ := h
 have hc : v.cells.toList = [v] := by
  obtain ⟨a, len, cap, rfl⟩ := okWide_slice ht hval
  rfl
 rw [hc] at hf
 have hB : ∃ B : Nat, (∃ a len cap, v = .slice (some a) len cap) -> ∃ c e fr, W.heap[B]? = some (.cells c e fr) := by
  by_cases hv : ∃ a len cap, v = .slice (some a) len cap
  ·obtain ⟨a, len, cap, e⟩ := hv
   obtain ⟨_, h2⟩ := qL ht hval a len cap e
   exact ⟨a.block, fun _ => h2⟩
  ·exact ⟨0, fun h => absurd h hv⟩
 obtain ⟨B, hB⟩ := hB
 obtain ⟨X, va, I, g1, g2, g3, g4⟩ := Ab (f := fun x : α => [f x]) (G := fun _ _ => True) (D := d) (Pl := p) (fun _ _ _ _ h => h) (fun _ _ _ => rfl) ht ce (by decide)
  (fun n cs d p h _ B _ k => by
   obtain ⟨x, u, h1, h2, h3⟩ := hel n cs d p h
   refine ⟨x, [], trivial, fun M _ => ⟨fun j v hv => ?_, fun y hy => by simp at hy⟩⟩
   match j with
   | 0 => simp at hv; subst hv; exact ⟨h2, u, h1, h3 M⟩
   | j + 1 => simp at hv) hf hb B hB k
 exact ⟨X, va, I, by rw [<- nH]; exact g1, g2, g4⟩
theorem int_el {e : TypeId} (he : Tryz.prog.underlying e = some (.int .i64)) (n : Nat) (cs : List Value) (d : DataW H) (p : List MemPlace) (h : DataW.trod enc Tryz.prog W 0 (fun _ => true) true n e cs = some (d, p)) : ∃ (x : Int) (u : Value), cs[0]? = some u /\ (AV.int .i64 x).isCell = true /\ ∀ M : Inj, VRel M (.int .i64 x) u := by
 obtain ⟨z, rfl, _⟩ := DataW.trod_int he h
 exact ⟨z, _, rfl, rfl, fun M => .int _ _⟩
theorem bool_el {e : TypeId} (he : Tryz.prog.underlying e = some .bool) (n : Nat) (cs : List Value) (d : DataW H) (p : List MemPlace) (h : DataW.trod enc Tryz.prog W 0 (fun _ => true) true n e cs = some (d, p)) : ∃ (x : Bool) (u : Value), cs[0]? = some u /\ (AV.bool x).isCell = true /\ ∀ M : Inj, VRel M (.bool x) u := by
 obtain ⟨z, rfl, _⟩ := DataW.trod_bool he h
 exact ⟨z, _, rfl, rfl, fun M => .bool _⟩
theorem two_left {I J : List InB} {i : Nat} {x : InB} (h : I[i]? = some x) : injIn (I ++ J) (0 + i) = some x.bi := by
 rw [Nat.zero_add]; unfold injIn; rw [List.getElem?_append_left (List.getElem?_eq_some_iff.1 h).1, h]; rfl
theorem two_right {I J : List InB} {i : Nat} {x : InB} (h : J[i]? = some x) : injIn (I ++ J) (I.length + i) = some x.bi := by
 unfold injIn; rw [List.getElem?_append_right zy, Nat.add_sub_cancel_left, h]; rfl
theorem mem_left {I J : List InB} {b : Nat} {o : AObj} (h : MemH (eX 0 I) b o) : MemH (eX 0 (I ++ J)) b o := by
 obtain ⟨w, h⟩ := h
 exact ⟨w, by rw [iE]; exact List.mem_append_left _ h⟩
theorem mem_right {I J : List InB} {b : Nat} {o : AObj} (h : MemH (eX I.length J) b o) : MemH (eX 0 (I ++ J)) b o := by
 obtain ⟨w, h⟩ := h
 exact ⟨w, by rw [iE, Nat.zero_add]; exact List.mem_append_right _ h⟩
end
end Go.Proofs.YtndhhgbpcmfeiaaGreatDoor.Ev
