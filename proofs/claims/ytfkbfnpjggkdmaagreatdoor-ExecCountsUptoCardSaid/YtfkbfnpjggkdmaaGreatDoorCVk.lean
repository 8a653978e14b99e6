/- Chapters 5, 6, 10, 12: what the checks of what is stored tell. -/
import Derived.Test.YtfkbfnpjggkdmaaGreatDoorCPYc
import Derived.Test.YtfkbfnpjggkdmaaGreatDoorCPYd
import Derived.Test.YtfkbfnpjggkdmaaGreatDoorCFactsE
namespace Go.Proofs.YtfkbfnpjggkdmaaGreatDoor.Ev
open Go.RowKit
set_option maxRecDepth 100000
set_option maxHeartbeats 1000000
def su (a b : Int) : Prop := 0 <= a /\ a <= 1099511627776 /\ -1152921504606846976 <= b /\ b <= 1152921504606846976
def ep (S : List bP) (i : Nat) : Prop := ∀ j, j < i -> su (sg S j).1 (sg S j).2 /\ (0 < j -> (sg S (j - 1)).1 < (sg S j).1)
theorem pI {S : List bP} {i : Nat} (h : ep S i) (h1 : su (sg S i).1 (sg S i).2) (h2 : 0 < i -> (sg S (i - 1)).1 < (sg S i).1) : ep S (i + 1) := fun j hj => by
 rcases Nat.lt_or_ge j i with g | g
 ·exact h j g
 ·obtain rfl : j = i := by omega
  exact ⟨h1, h2⟩
def JG (A : List bA) (i : Nat) : Prop := ∀ j, j < i -> (lg A j).2 ≠ [] /\ (lg A j).2.length <= 64
theorem oC {p : Nat -> Prop} {i : Nat} (h : ∀ j, j < i -> p j) (h1 : p i) : ∀ j, j < i + 1 -> p j := fun j hj => by
 rcases Nat.lt_or_ge j i with g | g
 ·exact h j g
 ·obtain rfl : j = i := by omega
  exact h1
def JH (x : bV) : Prop := P19.lchk x.2.1 = 0 /\ ep x.2.2.2 x.2.2.2.length /\ 0 < x.2.2.2.length

theorem IW (a b : Int) : Spec tab 45 [.agg [.int .i64 a, .int .i64 b]] [] [] (ij (fun v => ∃ m : Bool, v = .bool m /\ (m = true -> su a b))) := by
 refine ac (bz 45 Tryz.func45) rfl (m := 21) rfl (rs := [.tmp 2]) rfl (st := [(0, .agg [.int .i64 a, .int .i64 b])]) rfl rfl (fun _ => rfl) (fun E => zr (WO.box rfl rfl (Ig _ rfl) rfl (fun b1 => za rfl (zk (zr (zf fX rfl 0 (zq (ag rfl (zt 0 rfl) bH rfl) (zq (aa rfl (zi 0) rfl (bp dc)) (zm rfl (aC (d := 6) rfl (fun hc6 => ?_) (fun hc6 => ?_)))))))))))
 ·refine zT (zf fX rfl 0 (zT (zq (ag rfl (zt 0 rfl) bH rfl) (zT (zq (aa rfl (zi 1099511627776) rfl (aZ dc)) (zq (aA rfl rfl) (zm rfl (aC (d := 11) rfl (fun hc11 => ?_) (fun hc11 => ?_)))))))))
  ·refine zT (zf o8 rfl 1 (zT (zq (ag rfl (zt 0 rfl) bH rfl) (zT (zq (aa rfl rfl rfl (bp dc)) (zq (aA rfl rfl) (zm rfl (aC (d := 16) rfl (fun hc16 => ?_) (fun hc16 => ?_)))))))))
   ·refine zT (zf o8 rfl 1 (zT (zq (ag rfl (zt 0 rfl) bH rfl) (zT (zq (aa rfl (zi 1152921504606846976) rfl (aZ dc)) (zq (aA rfl rfl) (za rfl (zk (W.sub (zc 2 rfl aI) (W.ret (ar (z1 rfl) ?_)))))))))))
    exact ⟨_, rfl, fun h => (by first | (cases h; done) | (have h := of_decide_eq_true h; exact ⟨by omega, by omega, by omega, by omega⟩))⟩
   refine z2 (zG (zq (aF rfl rfl) (za rfl (zk (W.sub (zc 2 rfl aI) (W.ret (ar (z1 rfl) ?_)))))))
   exact ⟨_, rfl, fun h => (by first | (cases h; done) | (have h := of_decide_eq_true h; exact ⟨by omega, by omega, by omega, by omega⟩))⟩
  refine z2 (zG (zq (aF rfl rfl) (zm rfl (z2 (zG (zq (aF rfl rfl) (za rfl (zk (W.sub (zc 2 rfl aI) (W.ret (ar (z1 rfl) ?_)))))))))))
  exact ⟨_, rfl, fun h => (by first | (cases h; done) | (have h := of_decide_eq_true h; exact ⟨by omega, by omega, by omega, by omega⟩))⟩
 refine z2 (zG (zq (aF rfl rfl) (zm rfl (z2 (zG (zq (aF rfl rfl) (zm rfl (z2 (zG (zq (aF rfl rfl) (za rfl (zk (W.sub (zc 2 rfl aI) (W.ret (ar (z1 rfl) ?_)))))))))))))))
 exact ⟨_, rfl, fun h => (by first | (cases h; done) | (have h := of_decide_eq_true h; exact ⟨by omega, by omega, by omega, by omega⟩))⟩

theorem E0 (hs : af) (hro : ∀ e ∈ hs, e.w = false) (S : List bP) (v : AV) (hS : SIn hs S v) (hSb : SBd S) : Spec tab 26 [v] [] hs (ij (fun v => ∃ n : Int, v = .int .i64 n /\ (n = 0 -> ep S S.length))) := by
 have hSl : S.length <= 1048576 := hSb
 refine ac (bz 26 Tryz.func26) rfl (m := 32) rfl (rs := [.tmp 2]) rfl (st := [(0, v)]) rfl rfl (fun _ => rfl) (fun E => zr (za (zi 0) (zk (W.seq (zr (za (zi 0) (zk (W.block (W.loop_ind (fun (i : Nat) => [(0, v), (3, .int .i64 ((i : Nat) : Int))]) (fun _ => _) (fun (i : Nat) => i <= S.length /\ ep S i) (fun (i : Nat) => S.length - i) (0) ⟨Nat.zero_le _, fun j h => absurd h (Nat.not_lt_zero j)⟩ zv (SubH.refl _) (fun i hI0 ih0 => ?_))))))))))
 obtain ⟨hi1, hri⟩ := hI0
 refine W.seq (zr (zm rfl (zm rfl (zq (Q.len fm rfl (SIn.len hS)) (zq (aa rfl rfl rfl (bu bY)) (zk (aB rfl (fun hc7 => ?_) (fun hc7 => ?_))))))))
 ·obtain ⟨bs, szs, exs, rfl, ws, ms⟩ := SIn.full hS zy
  refine zw (W.seq (W.block (W.seq (zr (zm rfl (zm rfl (zq (bj fm ik rfl rfl zo) (zq (ax rfl ms DI ik (A4 zo)) (WO.callE rfl (aj rfl oz) rfl (IW _ _) SubR.nil rfl (fun v14 hP14 => ?_))))))))))
  obtain ⟨mb, rfl, hmb⟩ := hP14
  refine zq (Q.not rfl rfl) (zk (W.condS rfl (fun hc15 => ?_) (fun hc15 => ?_)))
  ·refine zr (za (zi 11) (zk (W.ret (ad (ah (ad (aU (ah (ad (ar (z1 rfl) ?_))))))))))
   exact ⟨_, rfl, fun h => absurd h (by decide)⟩
  refine zw (W.seq (cX (by kernel_rfl) (zm rfl (zq (aa rfl (zi 0) rfl (aJ bY)) (zm rfl (aC (d := 18) rfl (fun hc18 => ?_) (fun hc18 => ?_)))))))
  ·refine zT (zm rfl (zT (zm rfl (zT (zq (bj fm ik rfl rfl zo) (zT (zq (Q.fieldAddr fX rfl rfl) (zT (zq (ag rfl ms bH (na zo)) (zT (zm rfl (zT (zm rfl (zT (zq (aa rfl (zi 1) rfl (bM (oe zo))) (zT (zq (bj fm ik rfl rfl zo) (zT (zq (Q.fieldAddr fX rfl rfl) (zT (zq (ag rfl ms bH (na zo)) (zT (zq (aa rfl rfl rfl (aZ dc)) ?_)))))))))))))))))))))))
   refine zq (aA rfl rfl) (zk (W.sub (zc 31 rfl (zc 0 rfl (zc 3 rfl aI))) (aB rfl (fun hc31 => ?_) (fun hc31 => ?_))))
   ·refine zr (za (zi 13) (zk (W.ret (ah (ad (aU (ah (ad (ar (z1 rfl) ?_)))))))))
    exact ⟨_, rfl, fun h => absurd h (by decide)⟩
   refine W.skip (End.KB (End.K (W.reg (zm rfl (zq (aa rfl (zi 1) rfl zp) (za rfl (WO.nil (End.KL (W.sub zv (ih0 (i + 1) ?_ ?_))))))))))
   ·exact ⟨by omega, pI hri (by simp_all) (by simp_all)⟩
   exact zo
  refine z2 (z2 (z2 (z2 (z2 (z2 (zq (aF rfl rfl) (zk (W.sub (zc 31 rfl (zc 0 rfl (zc 3 rfl aI))) (W.condF rfl (W.skip (End.KB (End.K (W.reg (zm rfl (zq (aa rfl (zi 1) rfl zp) (za rfl (WO.nil (End.KL ?_))))))))))))))))))
  refine W.sub zv (ih0 (i + 1) ?_ ?_)
  ·exact ⟨by omega, pI hri (by simp_all) (by simp_all)⟩
  exact zo
 refine W.exit (am (aq (ap (End.K (zr (za (zi 0) (zk (W.ret (ar (z1 rfl) ?_)))))))))
 exact ⟨_, rfl, fun _ => (by have e : i = S.length := zy; rw [<- e]; exact hri)⟩

theorem Hi (hs : af) (hro : ∀ e ∈ hs, e.w = false) (R : List bV) (v : AV) (hT : TIn hs R v) (hRA : RAll hs R) (hRb : kp R) : Spec tab 24 [v] [] hs (ij (fun v => ∃ n : Int, v = .int .i64 n /\ (n = 0 -> ∀ j, j < R.length -> P19.lchk (rg R j).2.1 = 0))) := by
 have hRl := hRb.1
 refine ac (bz 24 Tryz.func24) rfl (m := 37) rfl (rs := [.tmp 2]) rfl (st := [(0, v)]) rfl rfl (fun _ => rfl) (fun E => zr (za (zi 0) (zk (W.seq (zr (zm rfl (zq (Q.len mZ rfl (TIn.len hT)) (zq (aa rfl (zi 256) rfl (aJ bY)) (zk (aB rfl (fun hc7 => ?_) (fun hc7 => ?_)))))))))))
 ·refine zr (za (zi 3) (zk (W.ret (ad (ar (z1 rfl) ?_)))))
  exact ⟨_, rfl, fun h => absurd h (by decide)⟩
 refine zw (W.seq (zr (za (zi 0) (zk (W.block (W.loop_ind (fun (i : Nat) => [(0, v), (3, .int .i64 ((i : Nat) : Int))]) (fun _ => _) (fun (i : Nat) => i <= R.length /\ ∀ j, j < i -> P19.lchk (rg R j).2.1 = 0) (fun (i : Nat) => R.length - i) (0) ⟨Nat.zero_le _, fun j h => absurd h (Nat.not_lt_zero j)⟩ zv (SubH.refl _) (fun i hI0 ih0 => ?_)))))))
 obtain ⟨hi1, hlo⟩ := hI0
 refine W.seq (zr (zm rfl (zm rfl (zq (Q.len mZ rfl (TIn.len hT)) (zq (aa rfl rfl rfl (bu bY)) (zk (aB rfl (fun hc11 => ?_) (fun hc11 => ?_))))))))
 ·obtain ⟨bt, szt, ext, rfl, wt, mt⟩ := TIn.full hT zy
  refine zw (W.seq (W.block (W.seq (zr (zm rfl (zm rfl (zq (bj mZ sL rfl rfl zo) (zq (ag rfl mt jA (qn zo)) (ak rfl (aj rfl oz) rfl (P19.rlchk_spec hs hro _ _ ((hRA _ (eZ (R := R) (i := 0 + i) zy)).1) ((hRb.2 _ (eZ (R := R) (i := 0 + i) zy)).1)) (aN hro) rfl (za rfl (zk (zr (zm rfl (zq (aa rfl (zi 0) rfl (bd gB)) (zk (aB rfl (fun hc20 => ?_) (fun hc20 => ?_)))))))))))))))))
  ·refine zr (zm rfl (za rfl (zk (W.sub (zc 2 rfl aI) (W.ret (ad (ah (ad (aU (ah (ad (ar (z1 rfl) ?_))))))))))))
   exact ⟨_, rfl, fun h => absurd h (by simpa using hc20)⟩
  refine zw (W.seq (cX (by kernel_rfl) (zm rfl (zq (aa rfl (zi 0) rfl (aJ bY)) (zm rfl (aC (d := 24) rfl (fun hc24 => ?_) (fun hc24 => ?_)))))))
  ·refine zT (zm rfl (zT (zm rfl (zT (zq (aa rfl (zi 1) rfl (bM (oe zo))) (zT (zq (bj mZ sL rfl rfl zo) (zT (zq (ag rfl mt jA (qn zo)) (zT (zm rfl (zT (zm rfl (zT (zq (bj mZ sL rfl rfl zo) (zT (zq (ag rfl mt jA (qn zo)) (zT (ak rfl (aj rfl (aj rfl oz)) rfl (z9 hs hro _ _ _ _ ((hRA _ (eZ (R := R) (i := 0 + (i - 1)) zy)).1) ((hRA _ (eZ (R := R) (i := 0 + i) zy)).1) ((hRb.2 _ (eZ (R := R) (i := 0 + (i - 1)) zy)).1) ((hRb.2 _ (eZ (R := R) (i := 0 + i) zy)).1)) (aN hro) rfl (zT (zq (aa rfl (zi 0) rfl (bp dc)) (zq (aA rfl rfl) (zk ?_)))))))))))))))))))))))
   refine W.sub (zc 36 rfl (zc 0 rfl (zc 3 rfl aI))) (aB rfl (fun hc36 => ?_) (fun hc36 => ?_))
   ·refine zr (za (zi 13) (zk (W.ret (ah (ad (aU (ah (ad (ar (z1 rfl) ?_)))))))))
    exact ⟨_, rfl, fun h => absurd h (by decide)⟩
   refine W.skip (End.KB (End.K (W.reg (zm rfl (zq (aa rfl (zi 1) rfl zp) (za rfl (WO.nil (End.KL (W.sub zv (ih0 (i + 1) ?_ ?_))))))))))
   ·exact ⟨by omega, oC hlo (by simpa using hc20)⟩
   exact zo
  refine z2 (z2 (z2 (z2 (z2 (zG (zq (aF rfl rfl) (zk (W.sub (zc 36 rfl (zc 0 rfl (zc 3 rfl aI))) (W.condF rfl (W.skip (End.KB (End.K (W.reg (zm rfl (zq (aa rfl (zi 1) rfl zp) (za rfl (WO.nil (End.KL (W.sub zv (ih0 (i + 1) ?_ ?_))))))))))))))))))))
  ·exact ⟨by omega, oC hlo (by simpa using hc20)⟩
  exact zo
 refine W.exit (am (aq (ap (End.K (zr (za (zi 0) (zk (W.ret (ar (z1 rfl) ?_)))))))))
 exact ⟨_, rfl, fun _ => (by have e : i = R.length := zy; rw [<- e]; exact hlo)⟩

theorem Hh (hs : af) (hro : ∀ e ∈ hs, e.w = false) (R : List bV) (v : AV) (hR : RSl hs R 0 v) (hRA : RAll hs R) (hRb : kp R) : Spec tab 10 [v] [] hs (ij (fun v => ∃ n : Int, v = .int .i64 n /\ (n = 0 -> ∀ j, j < R.length -> JH (rg R j)))) := by
 have hRl := hRb.1
 refine ac (bz 10 Tryz.func10) rfl (m := 42) rfl (rs := [.tmp 2]) rfl (st := [(0, v)]) rfl rfl (fun _ => rfl) (fun E => zr (za (zi 0) (zk (W.seq (zr (zm rfl (zq (Q.len dA rfl (RSl.len hR)) (zq (aa rfl (zi 256) rfl (aJ bY)) (zm rfl (aC (d := 9) rfl (fun hc9 => ?_) (fun hc9 => ?_)))))))))))
 ·refine z2 (zG (zq (aA rfl rfl) (zk (W.condT rfl (zr (za (zi 3) (zk (W.ret (ad (ar (z1 rfl) ?_))))))))))
  exact ⟨_, rfl, fun h => absurd h (by decide)⟩
 refine zT (zm rfl (zT (WO.callE rfl (aj rfl oz) rfl (tA hs hro R v hR hRA hRb) (aN hro) rfl (fun v11 hP11 => ?_))))
 obtain ⟨cn, rfl⟩ := hP11
 refine zT (zq (aa rfl (zi 65536) rfl (aJ (bS _ _))) (zq (aF rfl rfl) (zk (aB rfl (fun hc13 => ?_) (fun hc13 => ?_)))))
 ·refine zr (za (zi 3) (zk (W.ret (ad (ar (z1 rfl) ?_)))))
  exact ⟨_, rfl, fun h => absurd h (by decide)⟩
 refine zw (W.seq (zr (zm rfl (WO.call0 rfl (aj rfl oz) rfl (Ab hs hro R v hR hRA hRb) (aN hro) rfl (fun v15 D15 hP15 => WO.subH (hs' := (hs ++ D15)) (SubH.op (aw (N := []) (G := D15) (K := []) (X := hs))) (WO.callE rfl (aj rfl oz) rfl (Hi (ro (hs ++ D15)) ie R _ ((TIn.own hP15).mono fun b o h => h.app.ro) (hRA.mono fun b o h => h.ap1.ro) hRb) (SubR.ro gc) rfl (fun v16 hP16 => ?_)))))))
 obtain ⟨ck, rfl, hck⟩ := hP16
 refine za rfl (zk (zr (zm rfl (zq (aa rfl (zi 0) rfl (bd f5)) (zk (aB rfl (fun hc18 => ?_) (fun hc18 => ?_)))))))
 ·refine zr (zm rfl (za rfl (zk (W.sub (zc 2 rfl aI) (W.ret (ad (ar (z1 rfl) ?_)))))))
  exact ⟨_, rfl, fun h => absurd h (by simpa using hc18)⟩
 refine zw (W.sub (zc 0 rfl aI) (W.seq (zr (za (zi 0) (zk (W.block (W.loop_ind (fun (i : Nat) => [(0, v), (4, .int .i64 ((i : Nat) : Int))]) (fun (i : Nat) => hs) (fun (i : Nat) => i <= R.length /\ ∀ j, j < i -> JH (rg R j)) (fun (i : Nat) => R.length - i) (0) ⟨Nat.zero_le _, fun j h => absurd h (Nat.not_lt_zero j)⟩ zv gc (fun i hI0 ih0 => ?_))))))))
 obtain ⟨hi1, hlo⟩ := hI0
 refine W.seq (zr (zm rfl (zm rfl (zq (Q.len dA rfl (RSl.len hR)) (zq (aa rfl rfl rfl (bu bY)) (zk (aB rfl (fun hc23 => ?_) (fun hc23 => ?_))))))))
 ·obtain ⟨br, szr, exr, rfl, wr, mr⟩ := RSl.full hR zy
  have hm0 := eZ (R := R) (i := 0 + i) zy
  have hx := hRA _ hm0
  have hxb := hRb.2 _ hm0
  refine zw (W.seq (W.block (W.seq (zr (zm rfl (zm rfl (zq (bj dA fk rfl rfl zo) (zq (Q.fieldAddr jm rfl rfl) (zq (ag rfl mr l8 (oI zo)) (zq (Q.len fm rfl (SIn.len hx.2)) (zq (aa rfl (zi 0) rfl (ai aG)) (zk (aB rfl (fun hc32 => ?_) (fun hc32 => ?_))))))))))))))
  ·refine zr (za (zi 2) (zk (W.ret (ad (ah (ad (aU (ah (ad (ar (z1 rfl) ?_))))))))))
   exact ⟨_, rfl, fun h => absurd h (by decide)⟩
  refine zw (zr (zm rfl (zm rfl (zq (bj dA fk rfl rfl zo) (zq (Q.fieldAddr jm rfl rfl) (zq (ag rfl mr l8 (oI zo)) (WO.callE rfl (aj rfl oz) rfl (E0 hs hro _ _ hx.2 hxb.2) (aN hro) rfl (fun v38 hP38 => ?_))))))))
  obtain ⟨rn, rfl, hrn⟩ := hP38
  refine za rfl (zk (W.sub (zc 5 rfl (zc 0 rfl (zc 4 rfl aI))) (zr (zm rfl (zq (aa rfl (zi 0) rfl (bd f5)) (zk (aB rfl (fun hc40 => ?_) (fun hc40 => ?_))))))))
  ·refine zr (zm rfl (za rfl (zk (W.ret (ah (ad (aU (ah (ad (ar (z1 rfl) ?_))))))))))
   exact ⟨_, rfl, fun h => absurd h (by simpa using hc40)⟩
  refine W.skip (End.KB (End.K (W.reg (zm rfl (zq (aa rfl (zi 1) rfl zp) (za rfl (WO.nil (End.KL (W.sub zv (cz (SubH.refl _) (ih0 (i + 1) ?_ ?_)))))))))))
  ·exact ⟨by omega, oC hlo (by have h1 := hck (Classical.not_not.1 hc18) i zy; have h2 := hrn (Classical.not_not.1 hc40); rw [Nat.zero_add] at h2; exact ⟨h1, h2, by have h3 := hc32; rw [Nat.zero_add] at h3; first | omega | (simp at h3; exact List.length_pos_iff.2 h3)⟩)⟩
  exact zo
 refine W.exit (am (aq (ap (End.K (zr (za (zi 0) (zk (W.ret (ar (z1 rfl) ?_)))))))))
 exact ⟨_, rfl, fun _ => (by have e : i = R.length := zy; rw [<- e]; exact hlo)⟩

theorem sI {g : Nat -> Bool} : ∀ (k i j : Nat), i <= j -> j - i < k -> (∀ p q, i <= p -> p <= q -> q < j -> g p = true -> g q = true) ->
  (∀ q, i <= q -> q < pG g k i j -> g q = false) /\ (∀ q, pG g k i j <= q -> q < j -> g q = true)
 | 0, i, j, _, h, _ => absurd h (Nat.not_lt_zero _)
 | k + 1, i, j, hij, hk, hm => by
  by_cases h : i < j
  ·cases hg : g ((i + j) / 2) with
   | true =>
    rw [CV h hg]
    obtain ⟨a, b⟩ := sI k i ((i + j) / 2) zy zy fun p q h1 h2 h3 h4 => hm p q h1 h2 zy h4
    refine ⟨a, fun q h1 h2 => ?_⟩
    rcases Nat.lt_or_ge q ((i + j) / 2) with h3 | h3
    ·exact b q h1 h3
    ·exact hm _ q zy h3 h2 hg
   | false =>
    rw [CW h hg]
    obtain ⟨a, b⟩ := sI k ((i + j) / 2 + 1) j zy zy fun p q h1 h2 h3 h4 => hm p q zy h2 h3 h4
    refine ⟨fun q h1 h2 => ?_, b⟩
    rcases Nat.lt_or_ge ((i + j) / 2) q with h3 | h3
    ·exact a q zy h2
    ·cases hq : g q with
     | false => rfl
     | true => exact absurd (hm q _ h1 h3 zy hq) (by rw [hg]; decide)
  ·rw [CU h]
   exact ⟨fun q h1 h2 => absurd h2 zy, fun q h1 h2 => absurd h2 zy⟩
theorem pH {S : List bP} {n : Nat} (h : ep S n) : ∀ p q, p <= q -> q < n -> (sg S p).1 <= (sg S q).1 := by
 intro p q hpq
 induction q with
 | zero =>
  intro _
  have e0 : p = 0 := by omega
  rw [e0]
  exact Int.le_refl _
 | succ q ih =>
  intro hq
  rcases Nat.lt_or_ge p (q + 1) with h1 | h1
  ·have h2 := ih zy zy
   have h3 := (h (q + 1) hq).2 zy
   rw [Nat.add_sub_cancel] at h3
   omega
  ·obtain rfl : p = q + 1 := by omega
   exact Int.le_refl _
theorem mH {S : List bP} (h : ep S S.length) (e : Int) : (∀ q, q < lH S e -> (sg S q).1 <= e) /\ (∀ q, lH S e <= q -> q < S.length -> e < (sg S q).1) := by
 obtain ⟨a, b⟩ := sI (g := fun i => decide (e < (sg S (0 + i)).1)) (S.length + 1) 0 S.length (Nat.zero_le _) zy fun p q _ h2 h3 h4 => by
  have := pH h p q h2 h3
  simp only [Nat.zero_add, decide_eq_true_eq] at h4 ⊢
  omega
 refine ⟨fun q hq => ?_, fun q h1 h2 => ?_⟩
 ·have := a q (Nat.zero_le _) hq
  simp only [Nat.zero_add, decide_eq_false_iff_not] at this
  omega
 ·have := b q h1 h2
  simpa only [Nat.zero_add, decide_eq_true_eq] using this
theorem HJ {e t r : Int} (h1 : 0 <= t) (h2 : t <= e) (h3 : e <= 1099511627776) (h4 : 0 < r) (h5 : r <= 1099511627776) : Dc e t r = decide (e - t < r) := by
 unfold Dc
 have q1 : IntKind.u64.wrap e = e := nz zy
 have q2 : IntKind.u64.wrap t = t := nz zy
 have q3 : IntKind.u64.wrap r = r := nz zy
 have q4 : IntKind.u64.wrap (e - t) = e - t := nz zy
 rw [q1, q2, q3, q4]
theorem GJ {S : List bP} (h : ep S S.length) {e r : Int} (h3 : e <= 1099511627776) (h4 : 0 < r) (h5 : r <= 1099511627776) : Dp S e r = lH S (e - r) := by
 obtain ⟨a, b⟩ := mH h e
 obtain ⟨a', b'⟩ := mH h (e - r)
 have hl := jo S e
 have hl' := jo S (e - r)
 have hu : ∀ q, q < lH S e -> Dc e (sg S (0 + q)).1 r = decide (e - (sg S q).1 < r) := fun q hq => by
  rw [Nat.zero_add]
  exact HJ (h q zy).1.1 (a q hq) h3 h4 h5
 obtain ⟨c, d⟩ := sI (g := fun i => Dc e (sg S (0 + i)).1 r) (lH S e + 1) 0 (lH S e) (Nat.zero_le _) zy fun p q _ h2 h6 h7 => by
  have h8 := pH h p q h2 zy
  have h7 : Dc e (sg S (0 + p)).1 r = true := h7
  show Dc e (sg S (0 + q)).1 r = true
  rw [hu p zy] at h7
  rw [hu q h6]
  simp only [decide_eq_true_eq] at h7 ⊢
  omega
 have hle := Cg S e r
 have c : ∀ q, 0 <= q -> q < Dp S e r -> Dc e (sg S (0 + q)).1 r = false := c
 have d : ∀ q, Dp S e r <= q -> q < lH S e -> Dc e (sg S (0 + q)).1 r = true := d
 rcases Nat.lt_trichotomy (Dp S e r) (lH S (e - r)) with g | g | g
 ·have h6 := a' _ g
  rcases Nat.lt_or_ge (Dp S e r) (lH S e) with h7 | h7
  ·have h8 := d _ (Nat.le_refl _) h7
   rw [hu _ h7, decide_eq_true_eq] at h8
   omega
  ·have h8 := b _ h7 zy
   omega
 ·exact g
 ·have h6 := b' _ (Nat.le_refl _) zy
  have h8 := c _ (Nat.zero_le _) g
  rw [hu _ zy, decide_eq_false_iff_not] at h8
  omega
theorem CK {S : List bP} (h : ep S S.length) {e r : Int} (h3 : e <= 1099511627776) (h4 : 0 < r) (h5 : r <= 1099511627776) : (fQ S e r).length = lH S e - lH S (e - r) := by
 rw [lR, GJ h h3 h4 h5]
theorem tS {S : List bP} (h : ep S S.length) {e e' : Int} (he : e <= e') : lH S e <= lH S e' := by
 obtain ⟨a, b⟩ := mH h e
 obtain ⟨a', b'⟩ := mH h e'
 have hl := jo S e
 have hl' := jo S e'
 rcases Nat.lt_or_ge (lH S e') (lH S e) with g | g
 ·have h1 := a _ g
  have h2 := b' _ (Nat.le_refl _) zy
  omega
 ·exact g
theorem rA {S : List bP} (h : ep S S.length) {r : Nat} (hr : 0 < r) : ∀ n : Nat, n * r <= 1099511627776 -> r <= 1099511627776 -> ((List.range n).map fun k => (fQ S (((k + 1) * r : Nat) : Int) ((r : Nat) : Int)).length).sum = lH S ((n * r : Nat) : Int) - lH S 0
 | 0, _, _ => by simp
 | n + 1, hn, h5 => by
  rw [List.range_succ, List.map_append, List.sum_append, rA h hr n (by rw [Nat.add_mul] at hn; omega) h5]
  have e1 : ((((n + 1) * r : Nat) : Int) - ((r : Nat) : Int)) = ((n * r : Nat) : Int) := by rw [Nat.add_mul]; omega
  have h1 := CK h (e := (((n + 1) * r : Nat) : Int)) (r := ((r : Nat) : Int)) zy zy zy
  rw [e1] at h1
  have h2 := tS h (e := ((n * r : Nat) : Int)) (e' := (((n + 1) * r : Nat) : Int)) (by rw [Nat.add_mul]; omega)
  have h3 := tS h (e := 0) (e' := ((n * r : Nat) : Int)) zy
  simp only [List.map_cons, List.map_nil, List.sum_cons, List.sum_nil]
  rw [h1]
  omega
theorem uR {S : List bP} (h : ep S S.length) {r n : Nat} (hr : 0 < r) (hn : n * r <= 1099511627776) (h5 : r <= 1099511627776) (hlo : ∀ q, q < S.length -> 0 < (sg S q).1 /\ (sg S q).1 <= ((n * r : Nat) : Int)) : ((List.range n).map fun k => (fQ S (((k + 1) * r : Nat) : Int) ((r : Nat) : Int)).length).sum = S.length := by
 rw [rA h hr n hn h5]
 have e0 : lH S 0 = 0 := by
  rcases Nat.eq_zero_or_pos (lH S 0) with g | g
  ·exact g
  ·have h1 := (mH h 0).1 0 g
   have h2 := (hlo 0 (Nat.lt_of_lt_of_le g (jo S 0))).1
   omega
 have e1 : lH S ((n * r : Nat) : Int) = S.length := by
  have hl := jo S ((n * r : Nat) : Int)
  rcases Nat.lt_or_ge (lH S ((n * r : Nat) : Int)) S.length with g | g
  ·have h1 := (mH h ((n * r : Nat) : Int)).2 _ (Nat.le_refl _) g
   have h2 := (hlo _ g).2
   omega
  ·omega
 rw [e0, e1, Nat.sub_zero]
def SrtI {α : Type} (lt : α -> α -> Prop) (W : List α) (i : Nat) : Prop := ∀ p q a b, p < q -> q <= i -> W[p]? = some a -> W[q]? = some b -> lt a b
def InsI {α : Type} (lt : α -> α -> Prop) (W : List α) (i k : Nat) : Prop := ∀ p q a b, p < q -> q <= i -> q ≠ k -> W[p]? = some a -> W[q]? = some b -> lt a b
theorem SrtI.zero {α : Type} (lt : α -> α -> Prop) (W : List α) : SrtI lt W 0 := fun p q a b h1 h2 _ _ => by omega
theorem uI {α : Type} {lt : α -> α -> Prop} {W : List α} {i : Nat} (h : SrtI lt W i) : InsI lt W (i + 1) (i + 1) := fun p q a b h1 h2 h3 ha hb => h p q a b h1 zy ha hb
theorem InsI.done {α : Type} {lt : α -> α -> Prop} {W : List α} {i : Nat} (h : InsI lt W i 0) : SrtI lt W i := fun p q a b h1 h2 ha hb => h p q a b h1 h2 zy ha hb
theorem Al {α : Type} {lt : α -> α -> Prop} (tr : ∀ x y z, lt x y -> lt y z -> lt x z) {W : List α} {i k : Nat} (h : InsI lt W i (k + 1)) (hki : k + 1 <= i) {x y : α} (hx : W[k]? = some x) (hy : W[k + 1]? = some y) (hl : lt x y) : SrtI lt W i := by
 intro p q a b h1 h2 ha hb
 by_cases hq : q = k + 1
 ·subst hq
  rw [hy] at hb; cases hb
  by_cases hp : p = k
  ·subst hp; rw [hx] at ha; cases ha; exact hl
  ·exact tr _ _ _ (h p k a x zy zy zy ha hx) hl
 ·exact h p q a b h1 h2 hq ha hb
theorem InsI.swap {α : Type} {lt : α -> α -> Prop} {W : List α} {i k : Nat} (h : InsI lt W i (k + 1)) (hki : k + 1 <= i) {x y : α} (hx : W[k]? = some x) (hy : W[k + 1]? = some y) (hl : lt y x) : InsI lt ((W.set k y).set (k + 1) x) i k := by
 have hk1 : k + 1 < W.length := (List.getElem?_eq_some_iff.mp hy).1
 have hget : ∀ j, ((W.set k y).set (k + 1) x)[j]? = if j = k + 1 then some x else if j = k then some y else W[j]? := by
  intro j
  by_cases h1 : j = k + 1
  ·subst h1; rw [if_pos rfl, List.getElem?_set_self (by rw [List.length_set]; exact hk1)]
  ·rw [if_neg h1, List.getElem?_set_ne (fun e => h1 e.symm)]
   by_cases h2 : j = k
   ·subst h2; rw [if_pos rfl, List.getElem?_set_self zy]
   ·rw [if_neg h2, List.getElem?_set_ne (fun e => h2 e.symm)]
 intro p q a b h1 h2 h3 ha hb
 rw [hget] at ha hb
 rw [if_neg h3] at hb
 by_cases hq : q = k + 1
 ·rw [if_pos hq] at hb; cases hb
  rw [if_neg zy] at ha
  by_cases hp : p = k
  ·rw [if_pos hp] at ha; cases ha; exact hl
  ·rw [if_neg hp] at ha; exact h p k a _ zy zy zy ha hx
 ·rw [if_neg hq] at hb
  by_cases hp : p = k + 1
  ·rw [if_pos hp] at ha; cases ha; exact h k q _ b zy h2 hq hx hb
  ·rw [if_neg hp] at ha
   by_cases hp2 : p = k
   ·rw [if_pos hp2] at ha; cases ha; exact h (k + 1) q _ b zy h2 hq hy hb
   ·rw [if_neg hp2] at ha; exact h p q a b h1 h2 hq ha hb
theorem C6 {α : Type} {W : List α} {k : Nat} {x y : α} (hx : W[k]? = some x) (hy : W[k + 1]? = some y) : ((W.set k y).set (k + 1) x).Perm W := by
 induction W generalizing k with
 | nil => simp at hx
 | cons a W ih =>
  cases k with
  | zero =>
   cases W with
   | nil => simp at hy
   | cons b W =>
    simp at hx hy; subst hx; subst hy
    exact List.Perm.swap _ _ _
  | succ k =>
   exact List.Perm.cons a (ih (by simpa using hx) (by simpa using hy))
end Go.Proofs.YtfkbfnpjggkdmaaGreatDoor.Ev
/- Chapter 7, by the document: what a point and a plus fit, exactly. -/
namespace Go.Proofs.YtfkbfnpjggkdmaaGreatDoor.Ev.P7
open Go.RowKit
set_option maxRecDepth 100000
set_option maxHeartbeats 1000000
theorem gS {L : List Nat} {i : Nat} (h : i < L.length) (x : Nat) : x ∈ L.drop i ↔ x = L.getD (i + 0) 0 \/ x ∈ L.drop (i + 1) := by
 have e : L.getD (i + 0) 0 = L[i] := by rw [Nat.add_zero, List.getD_eq_getElem?_getD, List.getElem?_eq_getElem h]; rfl
 rw [e, List.drop_eq_getElem_cons h, List.mem_cons]
theorem qt {L : List Nat} {i : Nat} (h : L.length <= i) (x : Nat) : ¬ x ∈ L.drop i := by rw [List.drop_eq_nil_of_le h]; simp
def MU (A B : List Nat) (i j : Nat) (O : List Nat) : Prop := ∀ x, (x ∈ O \/ x ∈ A.drop i \/ x ∈ B.drop j) ↔ (x ∈ A \/ x ∈ B)
def MV (A B : List Nat) (i j : Nat) (O : List Nat) (q : Nat) : Prop := ∀ x, (x ∈ O \/ x = q \/ x ∈ A.drop i \/ x ∈ B.drop j) ↔ (x ∈ A \/ x ∈ B)
theorem MU.init {A B : List Nat} : MU A B 0 0 [] := fun x => by simp
theorem MU.midA {A B : List Nat} {i j : Nat} {O : List Nat} (h : MU A B i j O) (hi : i < A.length) : MV A B (i + 1) j O (A.getD (i + 0) 0) := fun x => by
 have := h x
 rw [gS hi x] at this
 grind
theorem MU.midB {A B : List Nat} {i j : Nat} {O : List Nat} (h : MU A B i j O) (hj : j < B.length) : MV A B i (j + 1) O (B.getD (j + 0) 0) := fun x => by
 have := h x
 rw [gS hj x] at this
 grind
theorem MV.app {A B : List Nat} {i j q : Nat} {O : List Nat} (h : MV A B i j O q) : MU A B i j (O ++ [q]) := fun x => by
 have := h x
 rw [List.mem_append, List.mem_singleton]
 grind
theorem MV.skip {A B : List Nat} {i j q : Nat} {O : List Nat} (h : MV A B i j O q) (hq : q ∈ O) : MU A B i j O := fun x => by
 have := h x
 grind
theorem MU.fin {A B : List Nat} {i j : Nat} {O : List Nat} (h : MU A B i j O) (hi : A.length <= i) (hj : B.length <= j) : ∀ x, x ∈ O ↔ (x ∈ A \/ x ∈ B) := fun x => by
 have := h x
 have h1 := qt hi x
 have h2 := qt hj x
 grind
theorem Ck {O : List Nat} {q : Nat} (hl : 0 < O.length) (h : O.getD (0 + (O.length - 1)) 0 = q) : q ∈ O := by
 rw [<- h, List.getD_eq_getElem?_getD, List.getElem?_eq_getElem zy]
 exact List.getElem_mem _
theorem B8 {O : List Nat} {v : AV} {ho : af} (h : Own 1 (cI O) O.length v ho) : IS ho O 0 v := by
 by_cases h0 : 0 < O.length
 ·obtain ⟨b, ex, rfl, hm⟩ := lM h h0
  exact .inr ⟨b, ex, rfl, true, hm⟩
 ·have : O = [] := List.eq_nil_of_length_eq_zero zy
  subst this
  rcases h with ⟨_, _, rfl, _⟩ | ⟨b, ex, rfl, rfl, _⟩
  ·exact .inl ⟨rfl, rfl⟩
  ·exact .inr ⟨b, ex, rfl, true, List.mem_singleton.2 rfl⟩
def OU (N : Nat) (L : List Nat) (i : Nat) (O : List Nat) : Prop := ∀ x, (x ∈ O \/ ∃ y ∈ L.drop i, y < N /\ x = y + 1) ↔ ∃ y ∈ L, y < N /\ x = y + 1
theorem OU.init {N : Nat} {L : List Nat} : OU N L 0 [] := fun x => by simp
theorem OU.skip {N : Nat} {L : List Nat} {i : Nat} {O : List Nat} (h : OU N L i O) (hi : i < L.length) (hn : ¬ L.getD (0 + i) 0 < N) : OU N L (i + 1) O := fun x => by
 have := h x
 rw [Nat.zero_add] at hn
 rw [<- this]
 constructor
 ·rintro (h | ⟨y, h1, h2⟩)
  ·exact .inl h
  ·exact .inr ⟨y, (gS hi y).2 (.inr h1), h2⟩
 ·rintro (h | ⟨y, h1, h2, h3⟩)
  ·exact .inl h
  ·rcases (gS hi y).1 h1 with g | g
   ·rw [Nat.add_zero] at g
    exact absurd h2 (by rw [g]; exact hn)
   ·exact .inr ⟨y, g, h2, h3⟩
theorem OU.app {N : Nat} {L : List Nat} {i : Nat} {O : List Nat} (h : OU N L i O) (hi : i < L.length) (hq : L.getD (0 + i) 0 < N) : OU N L (i + 1) (O ++ [L.getD (0 + i) 0 + 1]) := fun x => by
 have := h x
 rw [Nat.zero_add] at hq ⊢
 rw [<- this, List.mem_append, List.mem_singleton]
 constructor
 ·rintro ((h | h) | ⟨y, h1, h2⟩)
  ·exact .inl h
  ·exact .inr ⟨_, (gS hi _).2 (.inl (by rw [Nat.add_zero])), hq, h⟩
  ·exact .inr ⟨y, (gS hi y).2 (.inr h1), h2⟩
 ·rintro (h | ⟨y, h1, h2, h3⟩)
  ·exact .inl (.inl h)
  ·rcases (gS hi y).1 h1 with g | g
   ·rw [Nat.add_zero] at g
    exact .inl (.inr (by rw [h3, g]))
   ·exact .inr ⟨y, g, h2, h3⟩
theorem OU.fin {N : Nat} {L : List Nat} {i : Nat} {O : List Nat} (h : OU N L i O) (hi : L.length <= i) : ∀ x, x ∈ O ↔ ∃ y ∈ L, y < N /\ x = y + 1 := fun x => by
 have := h x
 rw [List.drop_eq_nil_of_le hi] at this
 simpa using this
theorem yj (hs : af) (hro : ∀ e ∈ hs, e.w = false) (N : Nat) (A B : List Nat) (va vb : AV) (hA : IS hs A 0 va) (hB : IS hs B 0 vb) (hIA : Inc N A) (hIB : Inc N B) (hN : N <= 64) : Spec tab 252 [va, vb] [] hs (fun v D => (∃ Z : List Nat, Inc N Z /\ (∀ x, x ∈ Z ↔ (x ∈ A \/ x ∈ B)) /\ IS D Z 0 v) /\ ∀ e ∈ D, e.w = true) := by
 refine ac (bz 252 Tryz.func252) rfl (m := 60) rfl (rs := [.tmp 4]) rfl (st := [(0, va), (1, vb)]) rfl rfl (fun _ => rfl) (fun E => zr (za rfl (zk (zr (za rfl (zk (W.seq (W.block (m5 (fun (i : Nat) (j : Nat) (va : AV) (vb : AV) (O : List Nat) (v : AV) (ho : af) => [(0, va), (1, vb), (5, v)]) (fun (i : Nat) (j : Nat) (va : AV) (vb : AV) (O : List Nat) (v : AV) (ho : af) => hs ++ ho) (fun (i : Nat) (j : Nat) (va : AV) (vb : AV) (O : List Nat) (v : AV) (ho : af) => IS hs A i va /\ IS hs B j vb /\ (MInv N A B i j O /\ MU A B i j O) /\ Own 1 (cI O) O.length v ho) (fun (i : Nat) (j : Nat) (va : AV) (vb : AV) (O : List Nat) (v : AV) (ho : af) => A.length - i + (B.length - j)) (0) (0) (va) (vb) ([]) (.nils) ([]) ⟨hA, hB, ⟨MInv.init hIA hIB, MU.init⟩, Own.nil 1⟩ zv (SubH.of_sublist (by simp)) (fun i j va vb O v ho hI0 ih0 => ?_))))))))))
 obtain ⟨hA, hB, ⟨hM, hU⟩, hO⟩ := hI0
 have hOl := (hM.2.2.1).len
 have hOc := rK O
 refine wh (fun (z : Unit) => [(0, va), (1, vb), (5, v)]) (fun (z : Unit) => hs ++ ho) (fun (z : Unit) => 0 < A.length - i \/ 0 < B.length - j) (fun z hI3 => ?_) (fun hJ3 => ?_)
 ·have hsome := hI3
  refine W.block (zr (za (zi 0) (zk (wi (fun (i2 : Nat) (j2 : Nat) (ua : AV) (ub : AV) (q : Nat) => [(0, ua), (1, ub), (5, v), (6, .int .i64 ((q : Nat) : Int))]) (fun (i2 : Nat) (j2 : Nat) (ua : AV) (ub : AV) (q : Nat) => hs ++ ho) (fun (i2 : Nat) (j2 : Nat) (ua : AV) (ub : AV) (q : Nat) => IS hs A i2 ua /\ IS hs B j2 ub /\ (MMid N A B i2 j2 O q /\ MV A B i2 j2 O q) /\ A.length - i2 + (B.length - j2) < A.length - i + (B.length - j)) (fun i2 j2 ua ub q hI9 => ?_) (fun hJ9 => ?_)))))
  ·obtain ⟨hA2, hB2, ⟨hM2, hV2⟩, hms⟩ := hI9
   have hqN := hM2.le
   refine zr (zm rfl (zq (Q.len aP rfl hO.len) (zq (aa rfl (zi 0) rfl (ai aG)) (zm rfl (aC (d := 45) rfl (fun hc45 => ?_) (fun hc45 => ?_))))))
   ·refine z2 (z2 (z2 (z2 (zq (aA rfl rfl) (zk (W.condT rfl (W.reg (zm rfl (zm rfl (WO.bslice aP dn sS rfl (cy rfl dE) rfl (cs := [_]) rfl rfl rfl (fun b1 => cw (e := ⟨b1, _, true⟩) (A := ([] ++ hs)) eM hO rfl rfl rfl rfl ⟨by first | omega | (simp at * <;> omega), by first | omega | (simp at * <;> omega)⟩ (by decide) rfl rfl (fun v58 hp58 hO58 => za rfl (WO.nil (End.KB (End.KL (W.sub zv (cz (SubH.refl _) (ih0 (i2) (j2) (ua) (ub) (O ++ [q]) (v58) (hp58) ?_ ?_))))))))))))))))))
    ·exact ⟨hA2, hB2, ⟨hM2.app (.inl zy), hV2.app⟩, kj hO58⟩
    exact zo
   obtain ⟨bo, exo, rfl, mo⟩ := lM hO zy
   refine zT (zm rfl (zT (zm rfl (zT (zq (Q.len aP rfl rfl) (zT (zq (aa rfl (zi 1) rfl (bM (oe zo))) (zT (zq (bj aP dn rfl rfl zo) (zT (zq (ag rfl (List.mem_append_right _ mo) bH (eX (L := O) zy)) (zT (zm rfl (zT (zq (aa rfl rfl rfl (bd gB)) (zq (aF rfl rfl) (zk (aB rfl (fun hc54 => ?_) (fun hc54 => ?_)))))))))))))))))))
   ·refine W.reg (zm rfl (zm rfl (WO.bslice aP dn sS rfl (cy rfl dE) rfl (cs := [_]) rfl rfl rfl (fun b3 => cw (e := ⟨b3, _, true⟩) (A := ([] ++ hs)) eM hO rfl rfl rfl rfl ⟨by first | omega | (simp at * <;> omega), by first | omega | (simp at * <;> omega)⟩ (by decide) rfl rfl (fun v58 hp58 hO58 => za rfl (WO.nil (End.KB (End.KL (W.sub zv (cz (SubH.refl _) (ih0 (i2) (j2) (ua) (ub) (O ++ [q]) (v58) (hp58) ?_ ?_)))))))))))
    ·exact ⟨hA2, hB2, ⟨hM2.app (.inr hc54), hV2.app⟩, kj hO58⟩
    exact zo
   refine W.skip (End.KB (End.KL (W.sub zv (cz (SubH.refl _) (ih0 (i2) (j2) (ua) (ub) (O) (_) (ho) ?_ ?_)))))
   ·exact ⟨hA2, hB2, ⟨hM2.skip, hV2.skip (Ck zy (Classical.not_not.1 hc54))⟩, hO⟩
   exact zo
  refine W.seq (cX (by kernel_rfl) (zm rfl (zq (Q.len aP rfl (fZ hB)) (zq (aa rfl (zi 0) rfl (ai aG)) (zm rfl (aC (d := 18) rfl (fun hc18 => ?_) (fun hc18 => ?_)))))))
  ·obtain ⟨ba, exa, rfl, wa, ma⟩ := fo hA zy
   refine z2 (z2 (aW rfl rfl (.inr rfl) rfl (aW rfl rfl (.inr rfl) rfl (aW rfl rfl (.inr rfl) rfl (aW rfl rfl (.inr rfl) rfl (aW rfl rfl (.inr rfl) rfl (aW rfl rfl (.inr rfl) rfl (aW rfl rfl (.inr rfl) rfl (zG (zq (aA rfl rfl) (zk (W.sub (zc 31 rfl (zc 0 rfl (zc 1 rfl (zc 5 rfl aI)))) (W.condT rfl (zr (zm rfl (zq (bj aP dn rfl (zi 0) zo) (zq (ag rfl (List.mem_append_left _ ma) bH (eX (L := A) zy)) (za rfl (zk (W.reg (zm rfl ?_)))))))))))))))))))))
   refine zq (dZ aP dn rfl rfl zo) (za rfl (WO.nil (End.K (W.sub zv (hJ9 (i + 1) (j) (_) (vb) (_) ?_)))))
   exact ⟨iw wa ma, hB, ⟨hM.midA zy zy, hU.midA zy⟩, by omega⟩
  refine zT (zm rfl (zT (zq (Q.len aP rfl (fZ hA)) (zT (zq (aa rfl (zi 0) rfl (aJ bY)) (zT (zm rfl (aC (d := 22) rfl (fun hc22 => ?_) (fun hc22 => ?_)))))))))
  ·obtain ⟨ba, exa, rfl, wa, ma⟩ := fo hA zy
   obtain ⟨bb, exb, rfl, wb, mb⟩ := fo hB zy
   refine zT (zm rfl (zT (zq (bj aP dn rfl (zi 0) zo) (zT (zq (ag rfl (List.mem_append_left _ ma) bH (eX (L := A) zy)) (zT (zm rfl (zT (zq (bj aP dn rfl (zi 0) zo) (zT (zq (ag rfl (List.mem_append_left _ mb) bH (eX (L := B) zy)) (zT (zq (aa rfl rfl rfl (aZ bf)) (zT (zq (aA rfl rfl) (zq (aF rfl rfl) (zk (W.sub (zc 31 rfl (zc 0 rfl (zc 1 rfl (zc 5 rfl aI)))) (aB rfl (fun hc31 => ?_) (fun hc31 => ?_))))))))))))))))))))
   ·refine zr (zm rfl (zq (bj aP dn rfl (zi 0) zo) (zq (ag rfl (List.mem_append_left _ ma) bH (eX (L := A) zy)) (za rfl (zk (W.reg (zm rfl (zq (dZ aP dn rfl rfl zo) (za rfl (WO.nil (End.K (W.sub zv (hJ9 (i + 1) (j) (_) (.slice bb j (B.length - j) 1) (_) ?_)))))))))))))
    exact ⟨iw wa ma, .inr ⟨bb, exb, rfl, wb, mb⟩, ⟨hM.midA zy zy, hU.midA zy⟩, by omega⟩
   refine zr (zm rfl (zq (bj aP dn rfl (zi 0) zo) (zq (ag rfl (List.mem_append_left _ mb) bH (eX (L := B) zy)) (za rfl (zk (W.reg (zm rfl (zq (dZ aP dn rfl rfl zo) (za rfl (WO.nil (End.K (W.sub zv (hJ9 (i) (j + 1) (.slice ba i (A.length - i) 1) (_) (_) ?_)))))))))))))
   exact ⟨.inr ⟨ba, exa, rfl, wa, ma⟩, iw wb mb, ⟨hM.midB zy zy, hU.midB zy⟩, by omega⟩
  obtain ⟨bb, exb, rfl, wb, mb⟩ := fo hB zy
  refine z2 (z2 (z2 (zG (zT (zq (aF rfl rfl) (zq (aF rfl rfl) (zk (W.sub (zc 31 rfl (zc 0 rfl (zc 1 rfl (zc 5 rfl aI)))) (W.condF rfl (zr (zm rfl (zq (bj aP dn rfl (zi 0) zo) (zq (ag rfl (List.mem_append_left _ mb) bH (eX (L := B) zy)) (za rfl (zk (W.reg (zm rfl (zq (dZ aP dn rfl rfl zo) (za rfl (WO.nil ?_))))))))))))))))))))
  refine End.K (W.sub zv (hJ9 (i) (j + 1) (va) (_) (_) ?_))
  exact ⟨hA, iw wb mb, ⟨hM.midB zy zy, hU.midB zy⟩, by omega⟩
 refine zr (zm rfl (zq (Q.len aP rfl (fZ hA)) (zq (aa rfl (zi 0) rfl (aJ bY)) (zm rfl (aC (d := 10) rfl (fun hc10 => ?_) (fun hc10 => ?_))))))
 ·refine z2 (zG (zq (aA rfl rfl) (zk (W.condT rfl (W.skip (End.K (W.sub zv (hJ3 (()) ?_))))))))
  exact zy
 refine zT (zm rfl (zT (zq (Q.len aP rfl (fZ hB)) (zT (zq (aa rfl (zi 0) rfl (aJ bY)) (zq (aF rfl rfl) (zk (aB rfl (fun hc14 => ?_) (fun hc14 => ?_)))))))))
 ·refine W.skip (End.K (W.sub zv (hJ3 (()) ?_)))
  exact zy
 refine W.exit (am (aq (ap (End.K (zr (zm rfl (za rfl (zk (W.ret ?_)))))))))
 refine End.ret (z1 rfl) (hs' := ho) ⟨⟨O, hM.2.2.1, hU.fin zy zy, B8 hO⟩, hO.w⟩ hO.w (SubH.of_sublist (by simp))

theorem Ii (c : Nat) (hc : c < 256) : Spec tab 296 [.str [46], .int .u8 ((c : Nat) : Int)] [] [] (bN (.bool true)) := by
 refine ac (bz 296 Tryz.func296) rfl (m := 33) rfl (rs := [.tmp 4]) rfl (st := [(0, .str [46]), (1, .int .u8 ((c : Nat) : Int))]) rfl rfl (fun _ => rfl) (fun E => zr (za rfl (zk (W.seq (zr (zm rfl (zq (dY (c := 46) cf rfl (zi 0) (by decide) rfl) (zq (aa rfl (zu 92) rfl (ai (p := false) rfl)) (zk (W.condF rfl (zw (W.seq (zr (zm rfl (zq (dY (c := 46) cf rfl (zi 0) (by decide) rfl) (zq (aa rfl (zu 91) rfl (ai (p := false) rfl)) (zk (W.condF rfl (zw (zr (zm rfl (zq (dY (c := 46) cf rfl (zi 0) (by decide) rfl) (zq (aa rfl (zu 46) rfl (ai (p := true) rfl)) ?_)))))))))))))))))))))))
 refine zm rfl (z2 (z2 (zq (aA rfl rfl) (za rfl (zk (W.sub (zc 4 rfl aI) (W.ret (ae (z1 rfl) ?_))))))))
 rfl

theorem fz (s : List Nat) (hS : Bytes s) (hsl : s.length <= 64) (hs : af) (hro : ∀ e ∈ hs, e.w = false) (L : List Nat) (v : AV) (hIL : Inc s.length L) (hL : IS hs L 0 v) : Spec tab 291 [.str [46], .str s, v] [] hs (fun v D => (∃ Z : List Nat, Inc s.length Z /\ (∀ x, x ∈ Z ↔ ∃ y ∈ L, y < s.length /\ x = y + 1) /\ IS D Z 0 v) /\ ∀ e ∈ D, e.w = true) := by
 refine ac (bz 291 Tryz.func291) rfl (m := 52) rfl (rs := [.tmp 6]) rfl (st := [(0, .str [46]), (1, .str s), (2, v)]) rfl rfl (fun _ => rfl) (fun E => zr (za rfl (zk (W.seq (zr (zm rfl (zq (dY (c := 46) cf rfl (zi 0) (by decide) rfl) (zq (aa rfl (zu 40) rfl (ai (p := false) rfl)) (zk (W.condF rfl (zw (zr (za rfl (zk (W.seq (zr (za (zi 0) (zk (W.block (fD (fun (i : Nat) (O : List Nat) (o : AV) (ho : af) => [(0, .str [46]), (1, .str s), (2, v), (7, o), (8, .int .i64 ((i : Nat) : Int))]) (fun (i : Nat) (O : List Nat) (o : AV) (ho : af) => hs ++ ho) (fun (i : Nat) (O : List Nat) (o : AV) (ho : af) => (OInv s.length L i O /\ OU s.length L i O) /\ Own 1 (cI O) O.length o ho) (fun (i : Nat) (O : List Nat) (o : AV) (ho : af) => L.length - i) (0) ([]) (.nils) ([]) ⟨⟨OInv.init hIL, OU.init⟩, Own.nil 1⟩ zv (SubH.of_sublist (by simp)) (fun i O o ho hI0 ih0 => ?_)))))))))))))))))))))
 obtain ⟨⟨hM, hU⟩, hO⟩ := hI0
 have hOl := (hM.1).len
 have hOc := rK O
 have hLl := hIL.len
 refine W.seq (zr (zm rfl (zm rfl (zq (Q.len aP rfl (fZ hL)) (zq (aa rfl rfl rfl (bu bY)) (zk (aB rfl (fun hc23 => ?_) (fun hc23 => ?_))))))))
 ·have hiL : i < L.length := zy
  obtain ⟨bl, exl, rfl, wl, ml⟩ := fo hL zy
  refine zw (W.seq (W.block (zr (zm rfl (zm rfl (zq (bj aP dn rfl rfl zo) (zq (ag rfl (List.mem_append_left _ ml) bH (eX (L := L) zy)) (zm rfl (zq (Q.len cf rfl rfl) (zq (aa rfl rfl rfl (bu bY)) (zm rfl (aC (d := 33) rfl (fun hc33 => ?_) (fun hc33 => ?_)))))))))))))
  ·refine zT (zm rfl (zT (zm rfl (zT (zm rfl (zT (zm rfl (zT (zq (bj aP dn rfl rfl zo) (zT (zq (ag rfl (List.mem_append_left _ ml) bH (eX (L := L) zy)) (zT (aE hS cf rfl rfl zo rfl (fun c40 hd40 hb40 => zT (ak rfl (aj rfl (aj rfl oz)) rfl (Ii _ zy) SubR.nil rfl (zq (aA rfl rfl) (zk (W.sub (zc 42 rfl (zc 0 rfl (zc 1 rfl (zc 2 rfl (zc 7 rfl (zc 8 rfl aI)))))) (W.condT rfl (W.reg (zm rfl (zm rfl (zm rfl ?_)))))))))))))))))))))))
   refine zq (bj aP dn rfl rfl zo) (zq (ag rfl (List.mem_append_left _ ml) bH (eX (L := L) zy)) (zq (aa rfl (zi 1) rfl zp) (WO.bslice aP dn sS rfl (cy rfl dE) rfl (cs := [_]) rfl rfl rfl (fun b1 => cw (e := ⟨b1, _, true⟩) (A := ([] ++ hs)) eM hO rfl rfl rfl rfl ⟨by first | omega | (simp at * <;> omega), by first | omega | (simp at * <;> omega)⟩ (by decide) rfl rfl (fun v50 hp50 hO50 => za rfl (WO.nil (End.KB (End.K (W.reg (zm rfl (zq (aa rfl (zi 1) rfl zp) (za rfl (WO.nil (End.KL (W.sub zv (cz (SubH.refl _) (ih0 (i + 1) (O ++ [L.getD (0 + i) 0 + 1]) (v50) (hp50) ?_ ?_)))))))))))))))))
   ·exact ⟨⟨hM.app zy zy, hU.app zy zy⟩, kj hO50⟩
   exact zo
  refine z2 (z2 (z2 (z2 (zq (aF rfl rfl) (zk (W.sub (zc 42 rfl (zc 0 rfl (zc 1 rfl (zc 2 rfl (zc 7 rfl (zc 8 rfl aI)))))) (W.condF rfl (W.skip (End.KB (End.K (W.reg (zm rfl (zq (aa rfl (zi 1) rfl zp) (za rfl (WO.nil (End.KL (W.sub zv (cz (SubH.refl _) (ih0 (i + 1) (O) (o) (ho) ?_ ?_)))))))))))))))))))
  ·exact ⟨⟨hM.skip zy, hU.skip zy zy⟩, hO⟩
  exact zo
 refine W.exit (am (aq (ap (End.K (zr (zm rfl (za rfl (zk (W.ret ?_)))))))))
 refine End.ret (z1 rfl) (hs' := ho) ⟨⟨O, hM.1, hU.fin zy, B8 hO⟩, hO.w⟩ hO.w (SubH.of_sublist (by simp))
end Go.Proofs.YtfkbfnpjggkdmaaGreatDoor.Ev.P7
