/- Chapter 18: how many samples a range holds. -/
import Derived.Test.YtfkbfnpjggkdmaaGreatDoorCEah
import Derived.Test.YtfkbfnpjggkdmaaGreatDoorCVk
namespace Go.Proofs.YtfkbfnpjggkdmaaGreatDoor.Ev
open Go.RowKit
set_option maxRecDepth 100000
set_option maxHeartbeats 1000000
theorem EZ {S : List bP} {n j i : Nat} (h : ep S n) (hi : 0 < i) (hj : j + i < n) : ¬ (sg S (j + i)).1 <= (sg S (j + (i - 1))).1 := by
 have := (h (j + i) hj).2 zy
 rw [show j + i - 1 = j + (i - 1) by omega] at this
 omega
theorem EK {i : Nat} : dh true (.int .i64 ((0 : Nat) : Int)) [.int .i64 (((i : Nat) : Int) - ((1 : Nat) : Int))] = some (.int .i64 ((i - 1 : Nat) : Int)) := by
 rw [sw, show max ((0 : Nat) : Int) (((i : Nat) : Int) - ((1 : Nat) : Int)) = ((i - 1 : Nat) : Int) by omega]

theorem Gg (a b : Int) (h : su a b) : Spec tab 212 [.agg [.int .i64 a, .int .i64 b]] [] [] (bN (.bool true)) := by
 refine ac (bz 212 Tryz.func212) rfl (m := 21) rfl (rs := [.tmp 2]) rfl (st := [(0, .agg [.int .i64 a, .int .i64 b])]) rfl rfl (fun _ => rfl) (fun E => zr (WO.box rfl rfl (Ig _ rfl) rfl (fun b1 => za rfl (zk (zr (zf fX rfl 0 (zq (ag rfl (zt 0 rfl) bH rfl) (zq (aa (zi 0) rfl rfl (aZ dc)) (zm rfl (aC (d := 6) rfl (fun hc6 => ?_) (fun hc6 => ?_)))))))))))
 ·refine zT (zf fX rfl 0 (zT (zq (ag rfl (zt 0 rfl) bH rfl) (zT (zq (aa rfl (zi 1099511627776) rfl (aZ dc)) (zq (aA rfl rfl) (zm rfl (aC (d := 11) rfl (fun hc11 => ?_) (fun hc11 => ?_)))))))))
  ·refine zT (zf o8 rfl 1 (zT (zq (ag rfl (zt 0 rfl) bH rfl) (zT (zq (aa rfl rfl rfl (aZ dc)) (zq (aA rfl rfl) (zm rfl (aC (d := 16) rfl (fun hc16 => ?_) (fun hc16 => ?_)))))))))
   ·refine zT (zf o8 rfl 1 (zT (zq (ag rfl (zt 0 rfl) bH rfl) (zT (zq (aa rfl (zi 1152921504606846976) rfl (aZ dc)) (zq (aA rfl rfl) (za rfl (zk (W.sub (zc 2 rfl aI) (W.ret (ae (z1 rfl) ?_)))))))))))
    exact congrArg AV.bool (decide_eq_true h.2.2.2)
   exfalso; unfold su at h; omega
  exfalso; unfold su at h; omega
 exfalso; unfold su at h; omega

theorem Gd (hs : af) (hro : ∀ e ∈ hs, e.w = false) (S : List bP) (bs szs : Nat) (exs ws : Bool) (ms : (⟨bs, ⟨szs, exs, cS S⟩, ws⟩ : HE) ∈ hs) (hSb : SBd S) (hr : ep S S.length) (j m : Nat) (hj : j + m <= S.length) (hm0 : 0 < m) (hm2 : m <= 120) : Spec tab 178 [.slice bs j m 2] [] hs (bN (.int .i64 ((0 : Nat) : Int))) := by
 refine ac (bz 178 Tryz.func178) rfl (m := 39) rfl (rs := [.tmp 2]) rfl (st := [(0, .slice bs j m 2)]) rfl rfl (fun _ => rfl) (fun E => zr (za (zi 0) (zk (W.seq (zr (zm rfl (zq (Q.len fm rfl rfl) (zq (aa rfl (zi 0) rfl (ai aG)) (zm rfl (aC (d := 8) rfl (fun hc8 => ?_) (fun hc8 => ?_)))))))))))
 ·exfalso; omega
 refine zT (zm rfl (zT (zq (Q.len fm rfl rfl) (zT (zq (aa rfl (zi 120) rfl (aJ bY)) (zq (aF rfl rfl) (zk (aB rfl (fun hc12 => ?_) (fun hc12 => ?_)))))))))
 ·exfalso; omega
 refine zw (W.seq (zr (zm rfl (zq (Q.len fm rfl rfl) (zq (Q.move (zi 0)) (zk (W.block (W.loop_ind (fun (i : Nat) => [(0, .slice bs j m 2), (13, .slice bs j m 2), (14, .int .i64 ((m : Nat) : Int)), (15, .int .i64 ((i : Nat) : Int))]) (fun (i : Nat) => hs) (fun (i : Nat) => i <= m) (fun (i : Nat) => m - i) (0) (Nat.zero_le _) zv (SubH.refl _) (fun i hI0 ih0 => ?_)))))))))
 have hi1 := hI0
 refine zr (zq (aa rfl rfl rfl (bu bY)) (zk (W.seq (aB rfl (fun hc16 => ?_) (fun hc16 => ?_)))))
 ·refine zw (W.seq (W.block (zr (zm rfl (zq (bj fm ik rfl rfl zo) (zq (ax rfl ms DI ik (A4 zo)) (WO.alloc JS rfl (fun b1 => za rfl (WO.store ik rfl rfl (i := 0) rfl rfl (cs := [_, _]) rfl (hs' := _ :: _) rfl (zk (W.block (zr (zq (ax rfl (zt 0 rfl) DI ik (l := [_, _]) rfl) (ak rfl (aj rfl oz) rfl (Gg _ _ (hr (j + i) zy).1) SubR.nil rfl (zq (Q.not rfl rfl) (za rfl (zk (W.condF rfl (W.seq (cX (by kernel_rfl) (zm rfl (zq (aa rfl (zi 0) rfl (aJ bY)) (zm rfl ?_)))))))))))))))))))))))
  refine aC (d := 27) rfl (fun hc27 => ?_) (fun hc27 => ?_)
  ·refine zT (zf fX rfl 0 (zT (zq (ag rfl (zt 0 rfl) bH rfl) (zT (zm rfl (zT (zm rfl (zT (zq (aa rfl (zi 1) rfl (bM (oe zo))) (zT (zq (bj fm ik rfl rfl zo) (zT (zq (Q.fieldAddr fX rfl rfl) (zT (zq (ag rfl (List.mem_cons_of_mem _ ms) bH (na zo)) (zT (zq (aa rfl rfl rfl (aZ dc)) (zq (aA rfl rfl) (za rfl (zk (W.sub (zc 24 rfl (zc 0 rfl (zc 13 rfl (zc 14 rfl (zc 15 rfl aI))))) (aB rfl (fun hc24 => ?_) (fun hc24 => ?_)))))))))))))))))))))))
   ·exfalso; have := EZ (j := j) (i := i) hr zy zy; omega
   refine W.skip (End.KB (End.KB (End.K (W.reg (zq (aa rfl (zi 1) rfl zp) (zm rfl (WO.nil (End.KL (W.sub zv (cz gc (ih0 (i + 1) ?_ ?_)))))))))))
   ·exact zy
   exact zo
  refine z2 (z2 (z2 (z2 (zG (zq (aF rfl rfl) (za rfl (zk (W.sub (zc 24 rfl (zc 0 rfl (zc 13 rfl (zc 14 rfl (zc 15 rfl aI))))) (W.condF rfl (W.skip (End.KB (End.KB (End.K (W.reg (zq (aa rfl (zi 1) rfl zp) (zm rfl (WO.nil (End.KL (W.sub zv (cz gc (ih0 (i + 1) ?_ ?_)))))))))))))))))))))
  ·exact zy
  exact zo
 refine W.exit (am (aq (ap (End.K (zr (za (zi 0) (zk (W.ret (ae (z1 rfl) ?_)))))))))
 rfl

theorem GF  : Spec tab 177 [.str [99, 111, 117, 110, 116, 95, 111, 118, 101, 114, 95, 116, 105, 109, 101]] [] [] (bN (.int .i64 ((1 : Nat) : Int))) := by
 refine ac (bz 177 Tryz.func177) rfl (m := 15) rfl (rs := [.tmp 2]) rfl (st := [(0, .str [99, 111, 117, 110, 116, 95, 111, 118, 101, 114, 95, 116, 105, 109, 101])]) rfl rfl (fun _ => rfl) (fun E => zr (za (zi 0) (zk (W.seq (zr (zm rfl (zk (W.block (W.seq (zr (zq (aa rfl (oc (v := .str [99, 111, 117, 110, 116, 95, 111, 118, 101, 114, 95, 116, 105, 109, 101]) (by kernel_rfl)) rfl (aH (p := true) rfl)) (za rfl (zk (W.condT rfl (zw (W.condT rfl (zr (za (zi 1) (zk (W.ret (ah (ad (ae (z1 rfl) ?_)))))))))))))))))))))))
 rfl

theorem Jw (hs : af) (hro : ∀ e ∈ hs, e.w = false) (S : List bP) (bs szs : Nat) (exs ws : Bool) (ms : (⟨bs, ⟨szs, exs, cS S⟩, ws⟩ : HE) ∈ hs) (hSb : SBd S) (hl : 0 < S.length) (r : Nat) : Spec tab 179 [.str [99, 111, 117, 110, 116, 95, 111, 118, 101, 114, 95, 116, 105, 109, 101], .slice bs 0 S.length 2, .int .i64 ((r : Nat) : Int)] [] hs (bN (.tuple [.int .i64 ((S.length * 1000000 : Nat) : Int), .int .i64 ((0 : Nat) : Int)])) := by
 have hSl : S.length <= 1048576 := hSb
 refine ac (bz 179 Tryz.func179) rfl (m := 102) rfl (rs := [.tmp 6, .tmp 7]) rfl (st := [(0, .str [99, 111, 117, 110, 116, 95, 111, 118, 101, 114, 95, 116, 105, 109, 101]), (1, .slice bs 0 S.length 2), (2, .int .i64 ((r : Nat) : Int))]) rfl rfl (fun _ => rfl) (fun E => zr (za (zi 0) (za (zi 0) (zk (zr (zm rfl (zq (ao fm ik rfl (zi 0) zo (o' := 0) rfl) (zf o8 rfl 1 (zq (ag rfl ms bH (Ik (a := 0) (b := 0) zy)) (za rfl (zk (W.seq (zr (zm rfl (zk (W.block (zr (zq (aa rfl (oc (v := .str [99, 111, 117, 110, 116, 95, 111, 118, 101, 114, 95, 116, 105, 109, 101]) (by kernel_rfl)) rfl (aH (p := true) rfl)) (za rfl (zk (W.condT rfl (zr (zm rfl ?_)))))))))))))))))))))))
 refine zq (Q.len fm rfl rfl) (zq (aa rfl (zi 1000000) rfl (oF (pP zo))) (za rfl (za (zi 0) (zk (W.sub (zc 7 rfl (zc 6 rfl aI)) (W.ret (ah (ad (ae (ResL.tmp rfl (z1 rfl)) ?_)))))))))
 rfl

theorem FY (hs : af) (hro : ∀ e ∈ hs, e.w = false) (S : List bP) (bs szs : Nat) (exs ws : Bool) (ms : (⟨bs, ⟨szs, exs, cS S⟩, ws⟩ : HE) ∈ hs) (hSb : SBd S) (hr : ep S S.length) (hl : 0 < S.length) (r : Nat) (hr0 : 0 < r) (hrb : r <= 2147483648) : Spec tab 153 [.str [99, 111, 117, 110, 116, 95, 111, 118, 101, 114, 95, 116, 105, 109, 101], .slice bs 0 S.length 2, .int .i64 ((r : Nat) : Int)] [] hs (bN (.tuple [.int .i64 ((S.length * 1000000 : Nat) : Int), .bool true, .int .i64 ((0 : Nat) : Int)])) := by
 have hSl : S.length <= 1048576 := hSb
 refine ac (bz 153 Tryz.func153) rfl (m := 58) rfl (rs := [.tmp 6, .tmp 7, .tmp 8]) rfl (st := [(0, .str [99, 111, 117, 110, 116, 95, 111, 118, 101, 114, 95, 116, 105, 109, 101]), (1, .slice bs 0 S.length 2), (2, .int .i64 ((r : Nat) : Int))]) rfl rfl (fun _ => rfl) (fun E => zr (za (zi 0) (za rfl (za (zi 0) (zk (zr (zm rfl (ak rfl (aj rfl oz) rfl GF SubR.nil rfl (za rfl (zk (W.seq (W.block (zr (zm rfl (zq (aa rfl (zi 0) rfl (ai (p := false) rfl)) (za rfl (zk (W.condF rfl (zr (zm rfl (zq (aa rfl (zi 1) rfl (bu bY)) (zm rfl (aC (d := 22) rfl (fun hc22 => ?_) (fun hc22 => ?_))))))))))))))))))))))))
 ·exfalso; omega
 refine zT (zm rfl (zT (zq (aa rfl (zi 2147483648) rfl (aJ bY)) (zq (aF rfl rfl) (za rfl (zk (W.sub (zc 19 rfl (zc 9 rfl (zc 0 rfl (zc 1 rfl (zc 2 rfl aI))))) (aB rfl (fun hc19 => ?_) (fun hc19 => ?_)))))))))
 ·exfalso; omega
 refine W.skip (End.KB (End.K (W.seq (zr (zm rfl (zq (Q.len fm rfl rfl) (zq (Q.move (zi 0)) (zk (W.block (W.loop_ind (fun (i : Nat) => [(0, .str [99, 111, 117, 110, 116, 95, 111, 118, 101, 114, 95, 116, 105, 109, 101]), (1, .slice bs 0 S.length 2), (2, .int .i64 ((r : Nat) : Int)), (9, .int .i64 ((1 : Nat) : Int)), (27, .int .i64 ((S.length : Nat) : Int)), (28, .int .i64 ((i : Nat) : Int))]) (fun _ => _) (fun (i : Nat) => i <= S.length) (fun (i : Nat) => S.length - i) (0) (Nat.zero_le _) zv (SubH.refl _) (fun i hI0 ih0 => ?_)))))))))))
 have hi1 := hI0
 refine zr (zq (aa rfl rfl rfl (bu bY)) (zk (W.seq (aB rfl (fun hc29 => ?_) (fun hc29 => ?_)))))
 ·refine zw (W.seq (W.block (zr (zm rfl (za rfl (zk (zr (zm rfl (zm rfl (zq (aa rfl (zi 1) rfl (bM (sQ zo))) (zq (jD true (aj (zi 0) (aj rfl oz)) EK) (zm rfl (zq (aa rfl (zi 1) rfl zp) (zq (dZ fm ik rfl rfl zo) (ak rfl (aj rfl oz) rfl (Gd hs hro S bs szs exs ws ms hSb hr _ _ zy zy zy) (aN hro) rfl (za rfl (zk (zr (zm rfl (zq (aa rfl (zi 0) rfl (bd (p := false) rfl)) (zk (W.condF rfl (W.skip ?_)))))))))))))))))))))))
  refine End.KB (End.K (W.sub (zc 0 rfl (zc 1 rfl (zc 2 rfl (zc 9 rfl (zc 27 rfl (zc 28 rfl aI)))))) (W.reg (zq (aa rfl (zi 1) rfl zp) (zm rfl (WO.nil (End.KL (W.sub zv (ih0 (i + 1) ?_ ?_)))))))))
  ·exact zy
  exact zo
 refine W.exit (am (aq (ap (End.K (W.seq (zr (zm rfl (zq (Q.len fm rfl rfl) (zm rfl (zq (aa rfl rfl rfl (bu bY)) (zk (aB rfl (fun hc46 => ?_) (fun hc46 => ?_)))))))))))))
 ·exfalso; omega
 refine zw (zr (zm rfl (zm rfl (zm rfl (ak rfl (aj rfl (aj rfl (aj rfl oz))) rfl (Jw hs hro S bs szs exs ws ms hSb hl r) (aN hro) rfl (zm rfl (zq (Q.extract rfl rfl) (zq (Q.extract rfl rfl) (za rfl (za rfl (zk (W.sub (zc 13 rfl (zc 12 rfl aI)) (zr (zm rfl (zm rfl (zq (aa rfl (zi 0) rfl (ai (p := true) rfl)) (zm rfl (za rfl (za rfl (za rfl (zk (W.ret (ae (ResL.tmp rfl (ResL.tmp rfl (z1 rfl))) ?_)))))))))))))))))))))))
 rfl

theorem Ix (b : Bool) (e : Int) (he : e ≠ 0) : SpecX jC tab 86 [.bool b, .int .i64 e] [] [] (fun v D => (v = .tuple [] /\ D = []) /\ b = true) (fun l => l = [.int .i64 e] /\ b = false) := by
 refine SpecX.enter (bz 86 Tryz.func86) rfl (m := 8) rfl (rs := []) rfl (st := [(0, .bool b), (1, .int .i64 e)]) rfl rfl (fun _ => rfl) rfl (fun E => Ev.X.seq (Ev.X.w (W.reg (zm rfl (zq (Q.not rfl rfl) (WO.nil (XEnd.K (Ev.X.condS rfl (fun hc5 => ?_) (fun hc5 => ?_)))))))))
 ·refine Ev.X.reg (XO.pre 1 (zm rfl (WO.nil (eC (XO.call (M := []) (A := _) rfl (aj rfl oz) rfl dB (SubH.refl _) (GU e) SubR.nil rfl (fun l hB tm h ht hh => by show _ /\ _; exact ⟨⟨hB.1, by simp_all⟩, hh.fr⟩) (fun v7 D7 hP7 => ?_))))))
  obtain ⟨⟨rfl, rfl⟩, hca⟩ := hP7
  refine XO.nil ?_
  refine XEnd.fall ResL.nil (hs' := []) (absurd hca he) dB (SubH.nil _)
 refine Ev.X.skip ?_
 refine XEnd.fall ResL.nil (hs' := []) ⟨⟨rfl, rfl⟩, by simp_all⟩ dB (SubH.nil _)

def y3 (N : List Nat) : List AV := N.map fun x => .int .i64 ((x : Nat) : Int)
def NIn (hs : af) (N : List Nat) (v : AV) : Prop := (v = .nils /\ N = []) \/ ∃ b sz ex, v = .slice b 0 N.length 1 /\ MemH hs b ⟨sz, ex, y3 N⟩
theorem NIn.len {hs : af} {N : List Nat} {v : AV} {e : Nat} (h : NIn hs N v) : iN (.slice e) v = some N.length := by
 rcases h with ⟨rfl, rfl⟩ | ⟨b, sz, ex, rfl, _⟩ <;> rfl
theorem NIn.full {hs : af} {N : List Nat} {v : AV} (h : NIn hs N v) (hl : 0 < N.length) : ∃ b sz ex, v = .slice b 0 N.length 1 /\ MemH hs b ⟨sz, ex, y3 N⟩ := by
 rcases h with ⟨_, rfl⟩ | h
 ·simp at hl
 ·exact h
theorem Ij {N : List Nat} {a b : Nat} (h : a + b < N.length) : (y3 N)[(a + b) * 1]? = some (.int .i64 ((N.getD (a + b) 0 : Nat) : Int)) := by
 rw [Nat.mul_one]
 unfold y3
 rw [List.getElem?_map, List.getD_eq_getElem?_getD, List.getElem?_eq_getElem h]
 rfl
theorem uz {N : List Nat} {i : Nat} (h : i < N.length) : (N.take (i + 1)).sum = (N.take i).sum + N.getD i 0 := by
 rw [cb N 0 h, List.sum_append]
 simp
theorem uu {N : List Nat} {i s : Nat} (hs : s = (N.take i).sum) (h : i < N.length) : s + N.getD (0 + i) 0 = (N.take (i + 1)).sum := by
 rw [uz h, hs, Nat.zero_add]
theorem Hx {N : List Nat} {i s : Nat} (hs : s = (N.take i).sum) (h : i < N.length) : s + N.getD (0 + i) 0 <= N.sum := by
 rw [uu hs h]
 conv => rhs; rw [<- List.take_append_drop (i + 1) N, List.sum_append]
 exact Nat.le_add_right _ _

theorem o9 (a : Nat) (ha : a <= 1152921504606846976) : Spec tab 90 [.int .i64 ((a : Nat) : Int)] [] [] (bN (.bool true)) := by
 refine ac (bz 90 Tryz.func90) rfl (m := 9) rfl (rs := [.tmp 2]) rfl (st := [(0, .int .i64 ((a : Nat) : Int))]) rfl rfl (fun _ => rfl) (fun E => zr (za rfl (zk (zr (zm rfl (zq (aa rfl rfl rfl (aZ dc)) (zm rfl (aC (d := 5) rfl (fun hc5 => ?_) (fun hc5 => ?_)))))))))
 ·refine zT (zm rfl (zT (zq (aa rfl (zi 1152921504606846976) rfl (aZ bf)) (zq (aA rfl rfl) (za rfl (zk (W.ret (ae (z1 rfl) ?_))))))))
  exact congrArg AV.bool (decide_eq_true zy)
 exfalso; omega

theorem Ek (a : Nat) (ha : a <= 1152921504606846976) : Spec tab 246 [.int .i64 ((a : Nat) : Int)] [] [] (bN (.tuple [.int .i64 ((a : Nat) : Int), .int .i64 ((0 : Nat) : Int)])) := by
 refine ac (bz 246 Tryz.func246) rfl (m := 8) rfl (rs := [.tmp 2, .tmp 3]) rfl (st := [(0, .int .i64 ((a : Nat) : Int))]) rfl rfl (fun _ => rfl) (fun E => zr (za (zi 0) (za (zi 0) (zk (W.seq (zr (zm rfl (ak rfl (aj rfl oz) rfl (o9 _ zy) SubR.nil rfl (zq (Q.not rfl rfl) (zk (W.condF rfl (zw (zr (zm rfl (za rfl (za (zi 0) (zk (W.ret (ae (ResL.tmp rfl (z1 rfl)) ?_)))))))))))))))))))
 rfl

theorem Gq (a b : Nat) (ha : a + b <= 1152921504606846976) : Spec tab 199 [.int .i64 ((a : Nat) : Int), .int .i64 ((b : Nat) : Int)] [] [] (bN (.tuple [.int .i64 ((a + b : Nat) : Int), .int .i64 ((0 : Nat) : Int)])) := by
 refine ac (bz 199 Tryz.func199) rfl (m := 20) rfl (rs := [.tmp 4, .tmp 5]) rfl (st := [(0, .int .i64 ((a : Nat) : Int)), (1, .int .i64 ((b : Nat) : Int))]) rfl rfl (fun _ => rfl) (fun E => zr (za (zi 0) (za (zi 0) (zk (W.seq (zr (zm rfl (ak rfl (aj rfl oz) rfl (o9 _ zy) SubR.nil rfl (zq (Q.not rfl rfl) (zm rfl (zT (zm rfl (zT (ak rfl (aj rfl oz) rfl (o9 _ zy) SubR.nil rfl (zT (zq (Q.not rfl rfl) (zq (aF rfl rfl) (zk (W.condF rfl (zw (zr (zm rfl (zm rfl ?_)))))))))))))))))))))))
 refine zq (aa rfl rfl rfl zp) (ak rfl (aj rfl oz) rfl (Ek _ zy) SubR.nil rfl (zq (Q.extract rfl rfl) (zq (Q.extract rfl rfl) (za rfl (za rfl (zk (W.sub (zc 5 rfl (zc 4 rfl aI)) (W.ret (ae (ResL.tmp rfl (z1 rfl)) ?_)))))))))
 rfl

theorem Gw (hs : af) (hro : ∀ e ∈ hs, e.w = false) (N : List Nat) (v : AV) (hN : NIn hs N v) (hl : N.length <= 1048576) (hb : N.sum <= 1152921504606846976) : Spec tab 232 [v] [] hs (bN (.tuple [.int .i64 ((N.sum : Nat) : Int), .int .i64 ((0 : Nat) : Int)])) := by
 refine ac (bz 232 Tryz.func232) rfl (m := 27) rfl (rs := [.tmp 2, .tmp 3]) rfl (st := [(0, v)]) rfl rfl (fun _ => rfl) (fun E => zr (za (zi 0) (za (zi 0) (zk (zr (za (zi 0) (zk (W.seq (zr (zm rfl (zq (Q.len aP rfl (NIn.len hN)) (zq (Q.move (zi 0)) (zk (W.block (W.loop_ind2 (fun (i : Nat) (s : Nat) => [(4, .int .i64 ((s : Nat) : Int)), (9, v), (10, .int .i64 ((N.length : Nat) : Int)), (11, .int .i64 ((i : Nat) : Int))]) (fun _ _ => _) (fun (i : Nat) (s : Nat) => i <= N.length /\ s = (N.take i).sum) (fun (i : Nat) (s : Nat) => N.length - i) (0) (0) ⟨Nat.zero_le _, rfl⟩ zv (SubH.refl _) (fun i s hI0 ih0 => ?_))))))))))))))))
 obtain ⟨hi1, hs1⟩ := hI0
 refine zr (zq (aa rfl rfl rfl (bu bY)) (zk (W.seq (aB rfl (fun hc12 => ?_) (fun hc12 => ?_)))))
 ·obtain ⟨bn, szn, exn, rfl, wn, mn⟩ := NIn.full hN zy
  have hsb := Hx hs1 zy
  refine zw (W.seq (W.block (zr (zq (bj aP dn rfl rfl zo) (zq (ag rfl mn bH (Ij zy)) (za rfl (zk (zr (zm rfl (zm rfl (ak rfl (aj rfl (aj rfl oz)) rfl (Gq _ _ zy) SubR.nil rfl (zm rfl (zq (Q.extract rfl rfl) (zq (Q.extract rfl rfl) (za rfl (za rfl (zk (W.seq (zr (zm rfl (zq (aa rfl (zi 0) rfl (bd (p := false) rfl)) (zk (W.condF rfl ?_)))))))))))))))))))))))
  refine zw (W.sub (zc 7 rfl (zc 9 rfl (zc 10 rfl (zc 11 rfl aI)))) (W.reg (zm rfl (za rfl (WO.nil (End.KB (End.K (W.reg (zq (aa rfl (zi 1) rfl zp) (zm rfl (WO.nil (End.KL (W.sub zv (ih0 (i + 1) (s + N.getD (0 + i) 0) ?_ ?_))))))))))))))
  ·exact ⟨by omega, uu hs1 zy⟩
  exact zo
 refine W.exit (am (aq (ap (End.K (zr (zm rfl (za rfl (za (zi 0) (zk (W.ret (ae (ResL.tmp rfl (z1 rfl)) ?_)))))))))))
 rw [show s = N.sum by rw [hs1, List.take_of_length_le zy]]; rfl

def sT (a b : El) : Prop := dD a.2.1 b.2.1 < 0
theorem G0 (x y z : El) (h : sT x y) (g : sT y z) : sT x z := by
 unfold sT at *
 have h1 : HT x.2.1 z.2.1 := zR (Int.le_of_lt h) (Int.le_of_lt g)
 refine Int.lt_iff_le_and_ne.2 ⟨h1, fun e => ?_⟩
 have e := nP.1 e
 have h2 : HT y.2.1 z.2.1 := Int.le_of_lt g
 have h3 := mi x.2.1 y.2.1
 rw [e] at h h3
 omega
theorem qu {Y : List El} {i : Nat} (h : i < Y.length) : Y[i]? = some (eg Y (0 + i)) := by
 unfold eg
 rw [Nat.zero_add, List.getD_eq_getElem?_getD, List.getElem?_eq_getElem h]; rfl
theorem Ae {Y : List El} {i : Nat} (h0 : 1 <= i) (h : SrtI sT Y (i - 1)) : InsI sT Y i i := by
 obtain ⟨j, rfl⟩ : ∃ j, i = j + 1 := ⟨i - 1, by omega⟩
 exact uI h
theorem Er {Y : List El} {i k : Nat} (h : InsI sT Y i k) (h0 : 0 < k) (hki : k <= i) (hl : k < Y.length) (hc : dD (eg Y (0 + (k - 1))).2.1 (eg Y (0 + k)).2.1 < 0) : SrtI sT Y (i + 1 - 1) := by
 obtain ⟨j, rfl⟩ : ∃ j, k = j + 1 := ⟨k - 1, by omega⟩
 exact Al G0 h hki (qu zy) (qu hl) hc
theorem B4 {Y : List El} {i k : Nat} (h : InsI sT Y i k) (h0 : 0 < k) (hki : k <= i) (hl : k < Y.length) (hc : dD (eg Y (0 + (k - 1))).2.1 (eg Y (0 + k)).2.1 > 0) : InsI sT ((Y.set (k - 1) (eg Y (0 + k))).set k (eg Y (0 + (k - 1)))) i (k - 1) := by
 obtain ⟨j, rfl⟩ : ∃ j, k = j + 1 := ⟨k - 1, by omega⟩
 refine InsI.swap h hki (qu zy) (qu hl) ?_
 show dD _ _ < 0
 rw [mi]
 have hc : dD (eg Y (0 + j)).2.1 (eg Y (0 + (j + 1))).2.1 > 0 := hc
 omega
theorem B3 {Y : List El} {k : Nat} (h : 0 < k /\ k < Y.length) : ((Y.set (k - 1) (eg Y (0 + k))).set k (eg Y (0 + (k - 1)))).Perm Y := by
 obtain ⟨j, rfl⟩ : ∃ j, k = j + 1 := ⟨k - 1, by omega⟩
 exact C6 (qu zy) (qu h.2)
theorem E5 {Y : List El} {i : Nat} (h : SrtI sT Y (i - 1)) (hl : Y.length <= i) : SrtI sT Y Y.length := fun p q a b h1 h2 ha hb => h p q a b h1 (by have := (List.getElem?_eq_some_iff.1 hb).1; omega) ha hb
theorem yd : ∀ (l : List AV) (j : Nat) (a b : AV), j + 1 < l.length -> ct l j [a, b] = (l.set j a).set (j + 1) b
 | x :: y :: l, 0, a, b, _ => by simp [ct]
 | x :: l, j + 1, a, b, h => by simp only [ct, List.set_cons_succ, yd l j a b (by simpa using h)]
theorem AZ : ∀ {Y : List El} {i : Nat} {x : El}, i < Y.length -> ((cE Y).set (i * 2) x.1).set (i * 2 + 1) (.int .i64 x.2.2) = cE (Y.set i x)
 | q :: Y, 0, x, _ => rfl
 | q :: Y, i + 1, x, h => by
  rw [show (i + 1) * 2 = i * 2 + 1 + 1 by omega]
  exact congrArg (fun l => q.1 :: .int .i64 q.2.2 :: l) (AZ (Y := Y) (i := i) (x := x) (by simpa using h))
theorem wH : ∀ Y : List El, (cE Y).length = Y.length * 2
 | [] => rfl
 | q :: Y => by
  have := wH Y
  show (_ :: _ :: cE Y).length = _
  simp only [List.length_cons]
  omega
theorem Cc {Y : List El} {i : Nat} {x : El} (h : i < Y.length) (hc : x.1.isCell = true) : ct (cE Y) ((0 + i) * 2) (AV.agg [x.1, .int .i64 x.2.2]).cells = cE (Y.set i x) := by
 rw [Nat.zero_add, <- AZ h]
 exact yd _ _ _ _ (by rw [wH]; omega)
theorem In {Y : List El} {i : Nat} {a : AV} {n : Int} (h : i < Y.length) (hc : a.isCell = true) : (Nat.beq (AV.agg [a, .int .i64 n]).cells.length 2 && Nat.ble ((0 + i) * 2 + 2) (cE Y).length && (AV.agg [a, .int .i64 n]).cells.all AV.isCell) = true := by
 have e : Nat.ble ((0 + i) * 2 + 2) (cE Y).length = true := by
  rw [wH]
  exact Nat.ble_eq.mpr zy
 rw [e]
 show (true && true && (a.isCell && (true && true))) = true
 rw [hc]; rfl
theorem JX {Y V : List El} {i : Nat} {hs : af} {l : List bA} {a : AV} {n : Int} (hl : Y.length = V.length) (h : i < Y.length) (hc : LIn hs l a) : (Nat.beq (AV.agg [a, .int .i64 n]).cells.length 2 && Nat.ble ((0 + i) * 2 + 2) (cE Y).length && (AV.agg [a, .int .i64 n]).cells.all AV.isCell) = true := In h hc.cell
theorem lJ {hs : af} {l : List bA} {v : AV} {n : Int} (h : LIn hs l v) : (AV.agg [v, .int .i64 n]).beq (.agg [v, .int .i64 n]) = true := by
 rcases h with ⟨rfl, _⟩ | ⟨b, sz, ex, rfl, _⟩ <;> simp [AV.beq, dG, dF, d6, dO]

theorem I8 (hs : af) (hro : ∀ e ∈ hs, e.w = false) (V : List El) (hVA : EAll hs V) (hVb : EBd V) (B : Nat) (ex : Bool) : SpecX jC tab 155 [.slice B 0 V.length 2] [B] (⟨B, ⟨2, ex, cE V⟩, true⟩ :: hs) (fun v D => ∃ Y : List El, v = .agg [.int .i64 ((2 : Nat) : Int), .int .i64 0, .slice B 0 V.length 2, .nils] /\ D = [⟨B, ⟨2, ex, cE Y⟩, true⟩] /\ Y.Perm V /\ SrtI sT Y Y.length) (fun l => l = [.int .i64 ((17 : Nat) : Int)]) := by
 have hVl := hVb.1
 refine SpecX.enter (bz 155 Tryz.func155) rfl (m := 52) rfl (rs := [.cell 2 136]) rfl (st := [(0, .slice B 0 V.length 2)]) rfl rfl (fun _ => rfl) rfl (fun E => Ev.X.seq (Ev.X.w (W.reg (WO.alloc ll rfl (fun b1 => WO.nil (XEnd.K (Ev.X.seq (Ev.X.seq (Ev.X.w (W.reg (za (zi 1) (WO.nil (XEnd.K (Ev.X.block (Ev.X.loop_ind2 (fun (i : Nat) (Y : List El) => [(0, .slice B 0 V.length 2), (2, .ptr b1 0), (3, .int .i64 ((i : Nat) : Int))]) (fun (i : Nat) (Y : List El) => ⟨b1, ⟨4, true, [.int .i64 0, .int .i64 0, .nils, .nils]⟩, true⟩ :: ⟨B, ⟨2, ex, cE Y⟩, true⟩ :: hs) (fun (i : Nat) (Y : List El) => 1 <= i /\ (i = 1 \/ i <= V.length) /\ Y.Perm V /\ SrtI sT Y (i - 1)) (fun (i : Nat) (Y : List El) => V.length - i) (1) (V) ⟨Nat.le_refl _, .inl rfl, List.Perm.refl _, SrtI.zero _ _⟩ zv (SubH.refl _) (fun i Y hI0 ih0 => ?_))))))))))))))))
 obtain ⟨hi1, hi2, hQp, hQs⟩ := hI0
 refine Ev.X.seq (Ev.X.seq (Ev.X.w (W.reg (zm rfl (zm rfl (zq (Q.len eW rfl rfl) (zq (aa rfl rfl rfl (bu bY)) (WO.nil (XEnd.K (Ev.X.condDS rfl (fun hc9 => ?_) (fun hc9 => ?_)))))))))))
 ·refine Ev.X.skip (XEnd.K (Ev.X.seq (Ev.X.block (Ev.X.seq (Ev.X.w (W.reg (zm rfl (za rfl (WO.nil (XEnd.K (Ev.X.block (Ev.X.loop_ind2 (fun (k : Nat) (Y : List El) => [(0, .slice B 0 V.length 2), (2, .ptr b1 0), (3, .int .i64 ((i : Nat) : Int)), (4, .int .i64 ((k : Nat) : Int))]) (fun (k : Nat) (Y : List El) => ⟨b1, ⟨4, true, [.int .i64 0, .int .i64 0, .nils, .nils]⟩, true⟩ :: ⟨B, ⟨2, ex, cE Y⟩, true⟩ :: hs) (fun (k : Nat) (Y : List El) => k <= i /\ Y.Perm V /\ InsI sT Y i k) (fun (k : Nat) (Y : List El) => k) (i) (Y) ⟨Nat.le_refl _, hQp, Ae zy hQs⟩ zv (SubH.refl _) (fun k Y hI1 ih1 => ?_)))))))))))))
  clear hQp hQs
  obtain ⟨hk1, hQp, hQs⟩ := hI1
  have hQl : Y.length = V.length := hQp.length_eq
  have hWL : ∀ x ∈ Y, LIn hs x.2.1 x.1 := fun x hx => hVA x (hQp.mem_iff.1 hx)
  have hWb : ∀ x ∈ Y, LBd x.2.1 := fun x hx => hVb.2 x (hQp.mem_iff.1 hx)
  refine Ev.X.seq (Ev.X.seq (Ev.X.w (W.reg (zm rfl (zq (aa rfl (zi 0) rfl (aJ bY)) (WO.nil (XEnd.K (Ev.X.condDS rfl (fun hc14 => ?_) (fun hc14 => ?_)))))))))
  ·have hk0 : 0 < k := zy
   refine Ev.X.skip (XEnd.K (Ev.X.seq (Ev.X.block (Ev.X.seq (Ev.X.w (cX (by kernel_rfl) (zm rfl (zm rfl (zq (aa rfl (zi 1) rfl (bM (oe zo))) (zq (bj eW dN rfl rfl zo) (zq (Q.fieldAddr o6 rfl rfl) (zq (ag rfl (zt 1 rfl) jA (AY zo)) (zm rfl (zm rfl (zq (bj eW dN rfl rfl zo) (zq (Q.fieldAddr o6 rfl rfl) (zq (ag rfl (zt 1 rfl) jA (AY zo)) (ak rfl (aj rfl (aj rfl oz)) rfl (tz hs hro _ _ _ _ (hWL _ (cg (O := Y) (i := 0 + (k - 1)) zy)) (hWL _ (cg (O := Y) (i := 0 + k) zy)) (hWb _ (cg (O := Y) (i := 0 + (k - 1)) zy)) (hWb _ (cg (O := Y) (i := 0 + k) zy))) (aQ (aQ (aN hro))) rfl (za rfl (WO.nil (XEnd.K (Ev.X.sub (zc 5 rfl (zc 0 rfl (zc 2 rfl (zc 3 rfl (zc 4 rfl aI))))) (Ev.X.seq (Ev.X.reg ?_))))))))))))))))))))))))
   refine XO.pre 2 (zm rfl (zq (aa rfl (zi 0) rfl (bd f5)) (WO.nil (eC (XO.call (M := []) (A := _) rfl (aj rfl (aj (zi 17) oz)) rfl dB (SubH.refl _) (Ix _ ((17 : Nat) : Int) (by decide)) SubR.nil rfl (fun l hB tm h ht hh => by show _ /\ _; exact ⟨hB.1, hh.fr⟩) (fun v31 D31 hP31 => ?_))))))
   obtain ⟨⟨rfl, rfl⟩, hcn⟩ := hP31
   have hc0 : dD (eg Y (0 + (k - 1))).2.1 (eg Y (0 + k)).2.1 ≠ 0 := (by simpa using hcn)
   refine XO.nil (XEnd.K (Ev.X.seq (Ev.X.seq (Ev.X.w (W.reg (zm rfl (zq (aa rfl (zi 0) rfl (bu (bS _ _))) (WO.nil (XEnd.K (Ev.X.condDS rfl (fun hc33 => ?_) (fun hc33 => ?_)))))))))))
   ·refine Ev.X.exit (bF (XEnd.KB_miss rfl (bF (bD (bJ (XEnd.KB (XEnd.K (Ev.X.w (W.reg (zm rfl (zq (aa rfl (zi 1) rfl zp) (za rfl (WO.nil (XEnd.KL (Ev.X.sub zv (Ev.X.subH (SubH.refl _) (ih0 (i + 1) (Y) ?_ ?_)))))))))))))))))
    ·exact ⟨by omega, by omega, hQp, Er hQs zy zy zy zy⟩
    exact zo
   refine Ev.X.skip (XEnd.K (Ev.X.w (FU (by kernel_rfl) (lf (Q.move rfl) uY rfl (lf (Q.move rfl) cZ rfl (lf (aa rfl (zi 1) rfl (bM (oe zo))) cZ rfl (lf (Q.move rfl) uY rfl (lf (Q.move rfl) cZ rfl (lf (Q.move rfl) uY rfl (lf (Q.move rfl) cZ rfl (lf (bj eW dN rfl rfl zo) eO rfl (WX.q (by kernel_rfl) (ax rfl (zt 1 rfl) kK dN (lz zo)) (lJ (hWL _ (cg (O := Y) (i := 0 + k) zy))) rfl (lf (Q.move rfl) uY rfl (lf (Q.move rfl) cZ rfl (lf (aa rfl (zi 1) rfl (bM (oe zo))) cZ rfl (lf (bj eW dN rfl rfl zo) eO rfl (WX.q (by kernel_rfl) (ax rfl (zt 1 rfl) kK dN (lz zo)) (lJ (hWL _ (cg (O := Y) (i := 0 + (k - 1)) zy))) rfl (lf (bj eW dN rfl rfl zo) eO rfl (WX.store dN rfl rfl (j := 1) rfl (JX hQl zy (hWL _ (cg (O := Y) (i := 0 + k) zy))) (Cc (x := eg Y (0 + k)) zy (hWL _ (cg (O := Y) (i := 0 + k) zy)).cell) (hs' := _ :: _ :: _) rfl (lf (bj eW dN rfl rfl zo) eO rfl (WX.store dN rfl rfl (j := 1) rfl (In (by rw [List.length_set]; omega) (hWL _ (cg (O := Y) (i := 0 + (k - 1)) zy)).cell) (Cc (x := eg Y (0 + (k - 1))) (by rw [List.length_set]; omega) (hWL _ (cg (O := Y) (i := 0 + (k - 1)) zy)).cell) (hs' := _ :: _ :: _) rfl (WX.nil (XEnd.KB (XEnd.K (Ev.X.sub (zc 0 rfl (zc 2 rfl (zc 3 rfl (zc 4 rfl aI)))) ?_)))))))))))))))))))))))))
   refine Ev.X.w (W.reg (zm rfl (zq (aa rfl (zi 1) rfl (bM (oe zo))) (za rfl (WO.nil (XEnd.KL (Ev.X.sub zv (Ev.X.subH (SubH.refl _) (ih1 (k - 1) (((Y.set (k - 1) (eg Y (0 + k))).set k (eg Y (0 + (k - 1))))) ?_ ?_)))))))))
   ·exact ⟨by omega, (B3 zy).trans hQp, B4 hQs zy zy zy zy⟩
   exact zo
  refine Ev.X.exit (bF (bD (bJ (XEnd.KB (XEnd.K (Ev.X.w (W.reg (zm rfl (zq (aa rfl (zi 1) rfl zp) (za rfl (WO.nil (XEnd.KL (Ev.X.sub zv (Ev.X.subH (SubH.refl _) (ih0 (i + 1) (Y) ?_ ?_)))))))))))))))
  ·exact ⟨by omega, by omega, hQp, by have e : k = 0 := zy; rw [e] at hQs; exact hQs.done⟩
  exact zy
 refine Ev.X.exit (bF (bD (bJ (XEnd.K (Ev.X.seq (Ev.X.w (W.reg (zm rfl (zq (Q.build yr (cy (zi 2) (cy rfl dE)) rfl (cs := [_, _, _, _]) rfl) (WO.store di rfl rfl (i := 0) rfl rfl (cs := [_, _, _, _]) rfl (hs' := _ :: _ :: _) rfl (WO.nil (XEnd.K (Ev.X.ret ?_)))))))))))))
 refine XEnd.ret (ResL.agg (c := [_, _, _, _]) rfl (zt 0 rfl) jF di rfl ResL.nil) (hs' := [⟨B, ⟨2, ex, cE Y⟩, true⟩]) ⟨Y, rfl, rfl, hQp, E5 hQs (by have := hQp.length_eq; omega)⟩ lc gc

end Go.Proofs.YtfkbfnpjggkdmaaGreatDoor.Ev
