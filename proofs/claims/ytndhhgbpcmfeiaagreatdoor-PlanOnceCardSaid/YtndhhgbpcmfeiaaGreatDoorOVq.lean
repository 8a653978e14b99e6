/- Chapter 16, by the document: matchers. -/
import Derived.Test.YtndhhgbpcmfeiaaGreatDoorOVn
namespace Go.Proofs.YtndhhgbpcmfeiaaGreatDoor.Ev.P16
open Go.RowKit
set_option maxRecDepth 100000
set_option maxHeartbeats 1000000
theorem C2 {i : Nat} (h : i < 4) : Bytes (([[61], [33, 61], [61, 126], [33, 126]] : List (List Nat)).getD i []) := by
 have : ∀ w : Fin 4, Bytes (([[61], [33, 61], [61, 126], [33, 126]] : List (List Nat)).getD w.val []) := by unfold Bytes; decide
 exact this ⟨i, h⟩
theorem sY (toks : List dS) (n : Nat) (hn : toks.length = n + 1) (hnl : n <= 1048576) (hok : jm toks) (tb : Nat) (ex : Bool) (X a : Nat) (ha : a <= n) (dp e bd : Int) (hla : (tg toks n).1 = 6) : Spec aN 150 [.ptr X 0] [X] [pB X tb n a dp e bd true, ⟨tb, ⟨4, ex, bO toks⟩, false⟩] (fun v D => (∃ x : kf, v = .agg (mC x) /\ Bytes x.2.1 /\ x.2.1.length <= 1048576 /\ Bytes x.2.2 /\ x.2.2.length <= 1048576) /\ ∃ (a2 : Nat) (e2 bd2 : Int), a <= a2 /\ a2 <= n /\ (e ≠ 0 -> e2 = e /\ a2 = a) /\ (e2 = 0 -> e = 0 /\ a < a2) /\ D = [pB X tb n a2 dp e2 bd2 true]) := by
 refine av (cX 150 Tryz.func150) rfl (m := 68) rfl (rs := [.cell 2 91]) rfl (st := [(0, .ptr X 0)]) rfl rfl (fun _ => rfl) (fun E => zr (WO.alloc GV rfl (fun b1 => zk (zr (zm rfl (WO.call1 rfl (aD rfl (aD (zi 1) oz)) rfl (i := 1) rfl (gb toks n hn hnl hok tb ex X a ha dp e bd hla 1 (by decide)) (SubR.one (zt 1 rfl)) (hs' := [_, _]) rfl rfl (fun v9 D9 hP9 => ?_)))))))
 obtain ⟨rfl, a9, e9, f9, p9, q9, r9, s9, rfl⟩ := hP9
 refine WO.alloc mV rfl (fun b2 => WO.store dj rfl rfl (i := 0) rfl rfl (cs := [_, _, _, _]) rfl (hs' := [_, _, _, _]) rfl (zk (zr (zf dX rfl 1 (zq (ap rfl (zt 0 rfl) fW rfl) (zq (Q.build Hn (bz rfl aq) rfl (cs := [_, _, _]) rfl) (WO.alloc GV rfl (fun b3 => kL eA rfl rfl (i := 0) rfl rfl rfl (hs' := [_, _, _, _, _]) rfl (zk (zr (WO.bslice dk kb ve rfl (bz (oc (v := .str [61]) (by kernel_rfl)) (bz (oc (v := .str [33, 61]) (by kernel_rfl)) (bz (oc (v := .str [61, 126]) (by kernel_rfl)) (bz (oc (v := .str [33, 126]) (by kernel_rfl)) aq)))) rfl (cs := [_, _, _, _]) rfl rfl rfl (fun b4 => za rfl (zk (W.seq (zr (za (zi 0) (zk (W.block (gq (fun (i : Nat) (kk : Nat) => [(0, .ptr X 0), (2, .ptr b1 0), (3, .ptr b2 0), (4, .ptr b3 0), (5, .slice b4 0 4 1), (6, .int .i64 ((i : Nat) : Int))]) (fun (i : Nat) (kk : Nat) => ⟨b4, ⟨1, true, ([[61], [33, 61], [61, 126], [33, 126]] : List (List Nat)).map AV.str⟩, true⟩ :: ⟨b3, ⟨3, true, [.int .i64 ((kk : Nat) : Int), .str (tg toks a).2.1, .str []]⟩, true⟩ :: ⟨b2, ⟨4, true, lH (tg toks a)⟩, true⟩ :: pB X tb n a9 dp e9 f9 true :: ⟨b1, ⟨3, true, [.int .i64 0, .str [], .str []]⟩, true⟩ :: [⟨tb, ⟨4, ex, bO toks⟩, false⟩]) (fun (i : Nat) (kk : Nat) => i <= 4 /\ (kk ≠ 0 -> (tg toks a9).1 ≠ 6)) (fun (i : Nat) (kk : Nat) => 4 - i) (0) (0) ⟨by omega, fun h => absurd rfl h⟩ zv (SubH.refl _) (fun i kk hI0 ih0 => ?_))))))))))))))))))))
 obtain ⟨hi, hkk⟩ := hI0
 refine W.seq (zr (zm rfl (zq (aa rfl (zi 4) rfl (ec dM)) (zk (aw rfl (fun hc15 => ?_) (fun hc15 => ?_))))))
 ·refine zw (W.seq (W.block (zr (zm rfl (zm rfl (zm rfl (zq (ci dk kb rfl rfl zo) (zq (ap rfl (zt 0 rfl) fW (eH (L := [[61], [33, 61], [61, 126], [33, 126]]) (by simp; omega))) (aJ rfl (aD rfl (aD rfl oz)) rfl (cu toks n hn hnl hok tb ex X a9 zy dp e9 f9 _ (C2 zy)) (SubR.pair (i := 3) (j := 5) rfl rfl (by decide)) rfl (zk (aE rfl (fun hc23 => ?_) (fun hc23 => ?_))))))))))))
  ·have hv := gL hc23
   refine am (zm rfl (zq (aa rfl (zi 1) rfl zp) (zf ku rfl 0 (kL di rfl rfl (i := 1) rfl rfl rfl (hs' := [_, _, _, _, _, _]) rfl (WO.nil (End.KB (End.K (am (zm rfl (zq (aa rfl (zi 1) rfl zp) (za rfl (WO.nil (End.KL (W.sub zv (ih0 (i + 1) (i + 1) ?_ ?_)))))))))))))))
   ·exact ⟨by omega, fun _ => by omega⟩
   exact zo
  refine W.skip (End.KB (End.K (am (zm rfl (zq (aa rfl (zi 1) rfl zp) (za rfl (WO.nil (End.KL (W.sub zv (ih0 (i + 1) (kk) ?_ ?_))))))))))
  ·exact ⟨by omega, hkk⟩
  exact zo
 refine W.exit (aC (aK (aB (End.K (W.seq (zr (zf ku rfl 0 (zq (ap rfl (zt 1 rfl) bU rfl) (zq (aa rfl (zi 0) rfl (ag aA)) (zk (aw rfl (fun hc29 => ?_) (fun hc29 => ?_))))))))))))
 ·refine am (zm rfl (zm rfl (aJ rfl (aD rfl oz) rfl (ct toks n hn hnl hok tb ex X a9 zy dp e9 f9) (SubR.pair (i := 3) (j := 5) rfl rfl (by decide)) rfl (zq (cm ly rfl rfl) (WO.call1 rfl (aD rfl (aD (zi 14) (aD rfl oz))) rfl (i := 3) rfl (da n tb X a9 dp e9 f9 _ _) SubR.nil (hs' := [_, _, _, _, _]) rfl rfl (fun v34 D34 hP34 => ?_))))))
  obtain ⟨rfl, rfl⟩ := hP34
  refine zk (lT (fun (a3 : Nat) (e3 : Int) (f3 : Int) => [(0, .ptr X 0), (2, .ptr b1 0), (3, .ptr b2 0), (4, .ptr b3 0)]) (fun (a3 : Nat) (e3 : Int) (f3 : Int) => ⟨b4, ⟨1, true, ([[61], [33, 61], [61, 126], [33, 126]] : List (List Nat)).map AV.str⟩, true⟩ :: ⟨b3, ⟨3, true, [.int .i64 ((kk : Nat) : Int), .str (tg toks a).2.1, .str []]⟩, true⟩ :: ⟨b2, ⟨4, true, lH (tg toks a)⟩, true⟩ :: pB X tb n a3 dp e3 f3 true :: ⟨b1, ⟨3, true, [.int .i64 0, .str [], .str []]⟩, true⟩ :: [⟨tb, ⟨4, ex, bO toks⟩, false⟩]) (fun (a3 : Nat) (e3 : Int) (f3 : Int) => a9 <= a3 /\ a3 <= n /\ (e9 ≠ 0 -> e3 = e9 /\ a3 = a9) /\ (e3 = 0 -> e9 = 0 /\ a9 < a3)) (fun a3 e3 f3 hI13 => ?_) (fun hJ13 => ?_))
  ·obtain ⟨j1, j2, j3, j4⟩ := hI13
   have hB1 := (cQ hok (i := a) zy).2
   have hB2 := (cQ hok (i := a3) zy).2
   refine zr (zm rfl (WO.call1 rfl (aD rfl (aD (zi 4) oz)) rfl (i := 3) rfl (gb toks n hn hnl hok tb ex X a3 zy dp e3 f3 hla 4 (by decide)) (SubR.one (zt 4 rfl)) (hs' := [_, _, _, _, _]) rfl rfl (fun v48 D48 hP48 => ?_)))
   obtain ⟨rfl, a48, e48, f48, p48, q48, r48, s48, rfl⟩ := hP48
   refine zq (cm lx rfl rfl) (zf nc rfl 2 (kL kb rfl rfl (i := 2) rfl rfl rfl (hs' := [_, _, _, _, _, _]) rfl (zk (W.seq (zr (zq (aU rfl (zt 2 rfl) iE eA (l := [_, _, _]) rfl) (WO.callE rfl (aD rfl oz) rfl (kV _ _ _ (cQ hok zy).1 (cQ hok zy).1 zy zy) SubR.nil rfl (fun v52 hP52 => ?_))))))))
   obtain ⟨y52, rfl⟩ := hP52
   refine za rfl (zk (zr (zm rfl (zq (aF rfl) (zf dB rfl 3 (zq (ap rfl (zt 0 rfl) bU rfl) (zq (aa rfl (zi 0) rfl (ag bj)) (zm rfl (ay (d := 58) rfl (fun hc58 => ?_) (fun hc58 => ?_))))))))))
   ·refine zT (zm rfl (zT (zq (aa rfl (zi 0) rfl (aR cP)) (zq (aj rfl rfl) (zk (W.sub (zc 61 rfl (zc 7 rfl (zc 0 rfl (zc 2 rfl (zc 3 rfl (zc 4 rfl aI)))))) (aw rfl (fun hc61 => ?_) (fun hc61 => ?_))))))))
    ·refine am (zm rfl (zm rfl (zf jR rfl 3 (zq (ap rfl (zt 3 rfl) bU rfl) (WO.call1 rfl (aD rfl (aD rfl (aD rfl oz))) rfl (i := 0) rfl (da n tb X a48 dp e48 f48 _ _) SubR.nil (hs' := [_, _, _, _, _]) rfl rfl (fun v66 D66 hP66 => ?_))))))
     obtain ⟨rfl, rfl⟩ := hP66
     refine zk (zr (zq (aU rfl (zt 2 rfl) iE eA (l := [_, _, _]) rfl) (kL eA rfl rfl (i := 4) rfl rfl rfl (hs' := [_, _, _, _, _, _]) rfl (zk (W.ret ?_)))))
     refine End.ret (oq rfl (zt 4 rfl) iE eA rfl ResL.nil) (hs' := [pB X tb n a48 dp (if e48 = 0 then y52 else e48) (if e48 = 0 then (tg toks a).2.2.2 else f48) true]) ⟨⟨(((kk : Nat) : Int), (tg toks a).2.1, (tg toks a3).2.1), rfl, (cQ hok zy).1, (Nat.le_trans (cQ hok (i := a) zy).2 (by decide)), (cQ hok zy).1, (Nat.le_trans (cQ hok (i := a3) zy).2 (by decide))⟩, a48, _, _, by omega, by omega, (by intro h; have := r9 h; have := j3 zy; have := r48 zy; exact ⟨by rw [if_neg zy]; omega, by omega⟩), (by intro h; exfalso; split at h <;> omega), rfl⟩ zW (SubH.of_sublist (by simp))
    refine zw (zr (zq (aU rfl (zt 2 rfl) iE eA (l := [_, _, _]) rfl) (kL eA rfl rfl (i := 4) rfl rfl rfl (hs' := [_, _, _, _, _, _]) rfl (zk (W.ret ?_)))))
    refine End.ret (oq rfl (zt 4 rfl) iE eA rfl ResL.nil) (hs' := [pB X tb n a48 dp e48 f48 true]) ⟨⟨(((kk : Nat) : Int), (tg toks a).2.1, (tg toks a3).2.1), rfl, (cQ hok zy).1, (Nat.le_trans (cQ hok (i := a) zy).2 (by decide)), (cQ hok zy).1, (Nat.le_trans (cQ hok (i := a3) zy).2 (by decide))⟩, a48, e48, f48, by omega, by omega, (by intro h; have := r9 h; have := j3 zy; have := r48 zy; exact ⟨by omega, by omega⟩), (by intro h; have := s48 h; have := j4 this.1; have := s9 this.1; exact ⟨this.1, by omega⟩), rfl⟩ zW (SubH.of_sublist (by simp))
   refine z2 (zq (ax rfl rfl) (zk (W.sub (zc 61 rfl (zc 7 rfl (zc 0 rfl (zc 2 rfl (zc 3 rfl (zc 4 rfl aI)))))) (az rfl (zw (zr (zq (aU rfl (zt 2 rfl) iE eA (l := [_, _, _]) rfl) (kL eA rfl rfl (i := 4) rfl rfl rfl (hs' := [_, _, _, _, _, _]) rfl (zk (W.ret ?_))))))))))
   refine End.ret (oq rfl (zt 4 rfl) iE eA rfl ResL.nil) (hs' := [pB X tb n a48 dp e48 f48 true]) ⟨⟨(((kk : Nat) : Int), (tg toks a).2.1, (tg toks a3).2.1), rfl, (cQ hok zy).1, (Nat.le_trans (cQ hok (i := a) zy).2 (by decide)), (cQ hok zy).1, (Nat.le_trans (cQ hok (i := a3) zy).2 (by decide))⟩, a48, e48, f48, by omega, by omega, (by intro h; have := r9 h; have := j3 zy; have := r48 zy; exact ⟨by omega, by omega⟩), (by intro h; have := s48 h; have := j4 this.1; have := s9 this.1; exact ⟨this.1, by omega⟩), rfl⟩ zW (SubH.of_sublist (by simp))
  refine zr (zm rfl (zq (aF rfl) (zf dB rfl 3 (zq (ap rfl (zt 0 rfl) bU rfl) (zq (aa rfl (zi 0) rfl (ag bj)) (zk (W.sub (zc 39 rfl (zc 0 rfl (zc 2 rfl (zc 3 rfl (zc 4 rfl aI))))) (aw rfl (fun hc39 => ?_) (fun hc39 => ?_)))))))))
  ·have hk3 : kk ≠ 0 := (by first | omega | (exfalso; split at hc39 <;> omega))
   have hlt : a9 < n := aY hla zy (hkk hk3)
   refine am (zm rfl (zq (aF rfl) (zf aZ rfl 1 (zq (ap rfl (zt 0 rfl) bU rfl) (zq (aa rfl (zi 1) rfl zp) (zq (aF rfl) (zf aZ rfl 1 (lM di rfl rfl (i := 0) rfl rfl rfl (hs' := [_, _, _, _, _, _]) rfl (WO.nil (End.K (W.sub zv (bX (SubH.op (List.perm_middle (l₁ := [_, _, _]))) (hJ13 (_) (_) (_) ?_)))))))))))))
   exact zo
  refine W.skip (End.K (W.sub zv (bX (SubH.op (List.perm_middle (l₁ := [_, _, _]))) (hJ13 (_) (_) (_) ?_))))
  exact zo
 refine zw (lT (fun (a3 : Nat) (e3 : Int) (f3 : Int) => [(0, .ptr X 0), (2, .ptr b1 0), (3, .ptr b2 0), (4, .ptr b3 0)]) (fun (a3 : Nat) (e3 : Int) (f3 : Int) => ⟨b4, ⟨1, true, ([[61], [33, 61], [61, 126], [33, 126]] : List (List Nat)).map AV.str⟩, true⟩ :: ⟨b3, ⟨3, true, [.int .i64 ((kk : Nat) : Int), .str (tg toks a).2.1, .str []]⟩, true⟩ :: ⟨b2, ⟨4, true, lH (tg toks a)⟩, true⟩ :: pB X tb n a3 dp e3 f3 true :: ⟨b1, ⟨3, true, [.int .i64 0, .str [], .str []]⟩, true⟩ :: [⟨tb, ⟨4, ex, bO toks⟩, false⟩]) (fun (a3 : Nat) (e3 : Int) (f3 : Int) => a9 <= a3 /\ a3 <= n /\ (e9 ≠ 0 -> e3 = e9 /\ a3 = a9) /\ (e3 = 0 -> e9 = 0 /\ a9 < a3)) (fun a3 e3 f3 hI13 => ?_) (fun hJ13 => ?_))
 ·obtain ⟨j1, j2, j3, j4⟩ := hI13
  have hB1 := (cQ hok (i := a) zy).2
  have hB2 := (cQ hok (i := a3) zy).2
  refine zr (zm rfl (WO.call1 rfl (aD rfl (aD (zi 4) oz)) rfl (i := 3) rfl (gb toks n hn hnl hok tb ex X a3 zy dp e3 f3 hla 4 (by decide)) (SubR.one (zt 4 rfl)) (hs' := [_, _, _, _, _]) rfl rfl (fun v48 D48 hP48 => ?_)))
  obtain ⟨rfl, a48, e48, f48, p48, q48, r48, s48, rfl⟩ := hP48
  refine zq (cm lx rfl rfl) (zf nc rfl 2 (kL kb rfl rfl (i := 2) rfl rfl rfl (hs' := [_, _, _, _, _, _]) rfl (zk (W.seq (zr (zq (aU rfl (zt 2 rfl) iE eA (l := [_, _, _]) rfl) (WO.callE rfl (aD rfl oz) rfl (kV _ _ _ (cQ hok zy).1 (cQ hok zy).1 zy zy) SubR.nil rfl (fun v52 hP52 => ?_))))))))
  obtain ⟨y52, rfl⟩ := hP52
  refine za rfl (zk (zr (zm rfl (zq (aF rfl) (zf dB rfl 3 (zq (ap rfl (zt 0 rfl) bU rfl) (zq (aa rfl (zi 0) rfl (ag bj)) (zm rfl (ay (d := 58) rfl (fun hc58 => ?_) (fun hc58 => ?_))))))))))
  ·refine zT (zm rfl (zT (zq (aa rfl (zi 0) rfl (aR cP)) (zq (aj rfl rfl) (zk (W.sub (zc 61 rfl (zc 7 rfl (zc 0 rfl (zc 2 rfl (zc 3 rfl (zc 4 rfl aI)))))) (aw rfl (fun hc61 => ?_) (fun hc61 => ?_))))))))
   ·refine am (zm rfl (zm rfl (zf jR rfl 3 (zq (ap rfl (zt 3 rfl) bU rfl) (WO.call1 rfl (aD rfl (aD rfl (aD rfl oz))) rfl (i := 0) rfl (da n tb X a48 dp e48 f48 _ _) SubR.nil (hs' := [_, _, _, _, _]) rfl rfl (fun v66 D66 hP66 => ?_))))))
    obtain ⟨rfl, rfl⟩ := hP66
    refine zk (zr (zq (aU rfl (zt 2 rfl) iE eA (l := [_, _, _]) rfl) (kL eA rfl rfl (i := 4) rfl rfl rfl (hs' := [_, _, _, _, _, _]) rfl (zk (W.ret ?_)))))
    refine End.ret (oq rfl (zt 4 rfl) iE eA rfl ResL.nil) (hs' := [pB X tb n a48 dp (if e48 = 0 then y52 else e48) (if e48 = 0 then (tg toks a).2.2.2 else f48) true]) ⟨⟨(((kk : Nat) : Int), (tg toks a).2.1, (tg toks a3).2.1), rfl, (cQ hok zy).1, (Nat.le_trans (cQ hok (i := a) zy).2 (by decide)), (cQ hok zy).1, (Nat.le_trans (cQ hok (i := a3) zy).2 (by decide))⟩, a48, _, _, by omega, by omega, (by intro h; have := r9 h; have := j3 zy; have := r48 zy; exact ⟨by rw [if_neg zy]; omega, by omega⟩), (by intro h; exfalso; split at h <;> omega), rfl⟩ zW (SubH.of_sublist (by simp))
   refine zw (zr (zq (aU rfl (zt 2 rfl) iE eA (l := [_, _, _]) rfl) (kL eA rfl rfl (i := 4) rfl rfl rfl (hs' := [_, _, _, _, _, _]) rfl (zk (W.ret ?_)))))
   refine End.ret (oq rfl (zt 4 rfl) iE eA rfl ResL.nil) (hs' := [pB X tb n a48 dp e48 f48 true]) ⟨⟨(((kk : Nat) : Int), (tg toks a).2.1, (tg toks a3).2.1), rfl, (cQ hok zy).1, (Nat.le_trans (cQ hok (i := a) zy).2 (by decide)), (cQ hok zy).1, (Nat.le_trans (cQ hok (i := a3) zy).2 (by decide))⟩, a48, e48, f48, by omega, by omega, (by intro h; have := r9 h; have := j3 zy; have := r48 zy; exact ⟨by omega, by omega⟩), (by intro h; have := s48 h; have := j4 this.1; have := s9 this.1; exact ⟨this.1, by omega⟩), rfl⟩ zW (SubH.of_sublist (by simp))
  refine z2 (zq (ax rfl rfl) (zk (W.sub (zc 61 rfl (zc 7 rfl (zc 0 rfl (zc 2 rfl (zc 3 rfl (zc 4 rfl aI)))))) (az rfl (zw (zr (zq (aU rfl (zt 2 rfl) iE eA (l := [_, _, _]) rfl) (kL eA rfl rfl (i := 4) rfl rfl rfl (hs' := [_, _, _, _, _, _]) rfl (zk (W.ret ?_))))))))))
  refine End.ret (oq rfl (zt 4 rfl) iE eA rfl ResL.nil) (hs' := [pB X tb n a48 dp e48 f48 true]) ⟨⟨(((kk : Nat) : Int), (tg toks a).2.1, (tg toks a3).2.1), rfl, (cQ hok zy).1, (Nat.le_trans (cQ hok (i := a) zy).2 (by decide)), (cQ hok zy).1, (Nat.le_trans (cQ hok (i := a3) zy).2 (by decide))⟩, a48, e48, f48, by omega, by omega, (by intro h; have := r9 h; have := j3 zy; have := r48 zy; exact ⟨by omega, by omega⟩), (by intro h; have := s48 h; have := j4 this.1; have := s9 this.1; exact ⟨this.1, by omega⟩), rfl⟩ zW (SubH.of_sublist (by simp))
 refine zr (zm rfl (zq (aF rfl) (zf dB rfl 3 (zq (ap rfl (zt 3 rfl) bU rfl) (zq (aa rfl (zi 0) rfl (ag bj)) (zk (aw rfl (fun hc39 => ?_) (fun hc39 => ?_))))))))
 ·have hk3 : kk ≠ 0 := (by first | omega | (exfalso; split at hc39 <;> omega))
  have hlt : a9 < n := aY hla zy (hkk hk3)
  refine am (zm rfl (zq (aF rfl) (zf aZ rfl 1 (zq (ap rfl (zt 3 rfl) bU rfl) (zq (aa rfl (zi 1) rfl zp) (zq (aF rfl) (zf aZ rfl 1 (lM di rfl rfl (i := 3) rfl rfl rfl (hs' := [_, _, _, _, _, _]) rfl (WO.nil (End.K (W.sub zv (hJ13 (_) (_) (_) ?_))))))))))))
  exact zo
 refine W.skip (End.K (W.sub zv (hJ13 (_) (_) (_) ?_)))
 exact zo
theorem WD.call1 {tb : Tab} {n m i : Nat} {ops rest : List Oper} {keep : ak} {E : Env} {s : St} {hs : ak} {R : T AV -> AHeap -> Prop} {d : Nat} {ty : TypeId} {pos : String} {aft : Array Edge} {of : Operand} {args : List Operand} {ts : Array TypeId} {g j b : Nat} {caps l l' : List AV} {ob : AObj} {hsc hs' : ak} {Post : AV -> ak -> Prop} (hf : oL s of = some (.func g caps)) (ha : pW s args = some l) (hl : l ++ caps = l')
  (hi : hs[j]? = some ⟨b, ob, true⟩) (hsp : Spec tb g l' [b] (⟨b, ob, true⟩ :: hsc) Post) (hsub : SubR hsc (hs.eraseIdx j)) (he : hs.eraseIdx j = hs') (hkp : KIn keep hs') (hd : Nat.blt d n = true)
  (hk : ∀ v D, Post v D -> WD tb n ops keep m (i + 1) rest E ((d, v) :: s) (D ++ hs') R) :
  WD tb n ops keep m i (⟨some d, .call ⟨.value of, args.toArray, ts⟩, ty, pos, aft, none⟩ :: rest) E s hs R :=
 WD.l (C := fun v hq => ∃ D, Post v D /\ hq = D ++ hs') (fun tm h r e => by cases e) (fun R hR => WO.call1 hf ha hl hi hsp hsub he hd fun v D h => WO.nil (hR _ _ ⟨D, h, rfl⟩))
  (fun v hq ⟨D, _, h2⟩ _ => by subst h2; exact fun e he => let ⟨w, hm⟩ := hkp e he; ⟨w, List.mem_append_right _ hm⟩) (fun v hq ⟨D, h1, h2⟩ => by subst h2; exact hk v D h1)
theorem wM (toks : List dS) (n : Nat) (hn : toks.length = n + 1) (hnl : n <= 1048576) (hok : jm toks) (tb : Nat) (ex : Bool) (X a : Nat) (ha : a <= n) (dp e bd : Int) (fr : Nat) : Spec aN 154 [.ptr X 0, .int .i64 ((fr : Nat) : Int)] [X] [pB X tb n a dp e bd true, ⟨tb, ⟨4, ex, bO toks⟩, false⟩] (fun v D => v = .tuple [] /\ ∃ e2 bd2 : Int, (e2 = 0 -> e = 0) /\ D = [pB X tb n a dp e2 bd2 true]) := by
 refine av (cX 154 Tryz.func154) rfl (m := 89) rfl (rs := []) rfl (st := [(0, .ptr X 0), (1, .int .i64 ((fr : Nat) : Int))]) rfl rfl (fun _ => rfl) (fun E => zr (za (zi 0) (za (zi 0) (zk (zr (zm rfl (za rfl (zk (W.block (dE (fun (i : Nat) (dq : Int) (sn : Int) => [(0, .ptr X 0), (4, .int .i64 dq), (5, .int .i64 sn), (6, .int .i64 ((i : Nat) : Int))]) (fun (i : Nat) (dq : Int) (sn : Int) => (pB X tb n a dp e bd true) :: [⟨tb, ⟨4, ex, bO toks⟩, false⟩]) (fun (i : Nat) (dq : Int) (sn : Int) => True) (fun (i : Nat) (dq : Int) (sn : Int) => n + 1 - i) (fr) (0) (0) trivial zv (SubH.refl _) (fun i dq sn hI0 ih0 => W.seq (zr (zm rfl (zm rfl (zq (aF rfl) (zf na rfl 0 (zq (ap rfl (zt 0 rfl) y5 rfl) (zq (Q.len uV rfl rfl) (zq (aa rfl rfl rfl (ec dM)) (zk (aw rfl (fun hc15 => ?_) (fun hc15 => ?_))))))))))))))))))))))
 ·refine zw (W.seq (W.block (zr (zm rfl (zq (aF rfl) (zf na rfl 0 (zq (ap rfl (zt 0 rfl) y5 rfl) (zm rfl (zq (ci uV dj rfl rfl zo) (zq (aU rfl (zt 1 rfl) i6 dj (GF zy)) (WO.alloc mV rfl (fun b1 => WO.store dj rfl rfl (i := 0) rfl rfl (cs := [_, _, _, _]) rfl (hs' := [_, _, _]) rfl (zk (W.sub (zc 7 rfl (zc 0 rfl (zc 4 rfl (zc 5 rfl (zc 6 rfl aI))))) (de (fun (dq : Int) => [(0, .ptr X 0), (4, .int .i64 dq), (5, .int .i64 sn), (6, .int .i64 ((i : Nat) : Int)), (7, .ptr b1 0)]) (fun (dq : Int) => True) (fun dq hI7 => ?_) (fun hJ7 => ?_))))))))))))))))
  ·refine de (fun (dq : Int) => [(0, .ptr X 0), (4, .int .i64 dq), (5, .int .i64 sn), (6, .int .i64 ((i : Nat) : Int)), (7, .ptr b1 0)]) (fun (dq : Int) => True) (fun dq hI9 => ?_) (fun hJ9 => ?_)
   ·refine zr (zf io rfl 0 (zq (ap rfl (zt 0 rfl) bU rfl) (zq (aa rfl (zi 5) rfl (ag aA)) (zm rfl (ay (d := 68) rfl (fun hc68 => ?_) (fun hc68 => ?_))))))
    ·refine zT (zf dX rfl 1 (zT (zq (ap rfl (zt 0 rfl) fW rfl) (zT (zq (aa rfl (oc (v := .str [44]) (by kernel_rfl)) rfl aH) (zq (aj rfl rfl) (zm rfl (ay (d := 73) rfl (fun hc73 => ?_) (fun hc73 => ?_)))))))))
     ·refine zT (zm rfl (zT (zq (aa rfl (zi 1) rfl (ag bj)) (zq (aj rfl rfl) (zk (aw rfl (fun hc76 => ?_) (fun hc76 => ?_)))))))
      ·refine zr (zm rfl (zq (aa rfl (zi 1) rfl (fY rfl)) (za rfl (zk (W.sub (zc 5 rfl (zc 0 rfl (zc 4 rfl (zc 6 rfl (zc 7 rfl aI))))) (zr (zm rfl (zq (aa rfl (zi 2) rfl (ag bj)) (zk (aw rfl (fun hc80 => ?_) (fun hc80 => ?_)))))))))))
       ·refine W.seq (eC 7 [⟨b1, _, false⟩] (by kernel_rfl) (KIn.cons (zt 0 rfl) KIn.nil) (WD.q (Q.move rfl) iF rfl (WD.q (Q.move rfl) iF rfl (WD.q (Q.fieldAddr jR rfl (o' := 3) rfl) iF rfl (WD.q (ap rfl (zt 0 rfl) bU rfl) kg rfl (WD.q (aF rfl) iF rfl (WD.q (Q.fieldAddr dB rfl (o' := 3) rfl) iF rfl (WD.store di rfl (zi 14) (j := 1) rfl rfl (cs := [_, _, _, _, _]) rfl (hs' := [_, _, _]) rfl (fun _ => (KIn.cons (zt 0 rfl) KIn.nil)) (WD.q (aF rfl) iF rfl (WD.q (Q.fieldAddr vS rfl (o' := 4) rfl) iF rfl (WD.store di rfl rfl (j := 1) rfl rfl (cs := [_, _, _, _, _]) rfl (hs' := [_, _, _]) rfl (fun h => by cases h) (WD.nil (End.K (W.sub aI (W.ret ?_)))))))))))))))
        refine ad (ac (bE (ad (End.ret ResL.nil (hs' := [pB X tb n a dp 14 (tg toks i).2.2.2 true]) ⟨rfl, 14, _, fun h => absurd h (by decide), rfl⟩ zW (SubH.of_sublist (by simp))))))
       refine W.skip (End.KB (End.K (am (zm rfl (zq (aa rfl (zi 1) rfl zp) (za rfl (WO.nil (End.KL (W.sub zv (bX (SubH.of_sublist (by simp)) (ih0 (i + 1) (_) (_) ?_ ?_)))))))))))
       ·exact trivial
       exact zo
      refine W.skip (End.KB (End.K (am (zm rfl (zq (aa rfl (zi 1) rfl zp) (za rfl (WO.nil (End.KL (W.sub zv (bX (SubH.of_sublist (by simp)) (ih0 (i + 1) (_) (_) ?_ ?_)))))))))))
      ·exact trivial
      exact zo
     refine z2 (zq (ax rfl rfl) (zk (az rfl (W.skip (End.KB (End.K (am (zm rfl (zq (aa rfl (zi 1) rfl zp) (za rfl (WO.nil (End.KL (W.sub zv (bX (SubH.of_sublist (by simp)) (ih0 (i + 1) (_) (_) ?_ ?_)))))))))))))))
     ·exact trivial
     exact zo
    refine z2 (zG (zq (ax rfl rfl) (zm rfl (z2 (zq (ax rfl rfl) (zk (az rfl (W.skip (End.KB (End.K (am (zm rfl (zq (aa rfl (zi 1) rfl zp) (za rfl (WO.nil (End.KL (W.sub zv (bX (SubH.of_sublist (by simp)) (ih0 (i + 1) (_) (_) ?_ ?_)))))))))))))))))))
    ·exact trivial
    exact zo
   refine zr (zf io rfl 0 (zq (ap rfl (zt 0 rfl) bU rfl) (zq (aa rfl (zi 5) rfl (ag aA)) (zm rfl (ay (d := 48) rfl (fun hc48 => ?_) (fun hc48 => ?_))))))
   ·refine zT (zf dX rfl 1 (zT (zq (ap rfl (zt 0 rfl) fW rfl) (zT (zq (aa rfl (oc (v := .str [41]) (by kernel_rfl)) rfl aH) (zT (zm rfl (ay (d := 52) rfl (fun hc52 => ?_) (fun hc52 => ?_)))))))))
    ·refine z2 (zG (zT (zq (aj rfl rfl) (zT (zm rfl (z2 (zG (zT (zq (aj rfl rfl) (zq (aj rfl rfl) (zk (W.sub (zc 62 rfl (zc 0 rfl (zc 4 rfl (zc 5 rfl (zc 6 rfl (zc 7 rfl aI)))))) (au rfl (am (zm rfl (zq (aa rfl (zi 1) rfl (cT rfl)) (za rfl (WO.nil (End.K (W.sub zv (hJ9 (_) ?_)))))))))))))))))))))
     exact trivial
    refine zT (zf dX rfl 1 (zT (zq (ap rfl (zt 0 rfl) fW rfl) (zT (zq (aa rfl (oc (v := .str [125]) (by kernel_rfl)) rfl aH) (zT (zq (ax rfl rfl) (zT (zm rfl (ay (d := 57) rfl (fun hc57 => ?_) (fun hc57 => ?_)))))))))))
    ·refine z2 (zG (zT (zq (aj rfl rfl) (zq (aj rfl rfl) (zk (W.sub (zc 62 rfl (zc 0 rfl (zc 4 rfl (zc 5 rfl (zc 6 rfl (zc 7 rfl aI)))))) (au rfl (am (zm rfl (zq (aa rfl (zi 1) rfl (cT rfl)) (za rfl (WO.nil (End.K (W.sub zv (hJ9 (_) ?_)))))))))))))))
     exact trivial
    refine zT (zf dX rfl 1 (zT (zq (ap rfl (zt 0 rfl) fW rfl) (zT (zq (aa rfl (oc (v := .str [93]) (by kernel_rfl)) rfl aH) (zT (zq (ax rfl rfl) (zq (aj rfl rfl) (zk (W.sub (zc 62 rfl (zc 0 rfl (zc 4 rfl (zc 5 rfl (zc 6 rfl (zc 7 rfl aI)))))) (aw rfl (fun hc62 => ?_) (fun hc62 => ?_))))))))))))
    ·refine am (zm rfl (zq (aa rfl (zi 1) rfl (cT rfl)) (za rfl (WO.nil (End.K (W.sub zv (hJ9 (_) ?_)))))))
     exact trivial
    refine W.skip (End.K (W.sub zv (hJ9 (_) ?_)))
    exact trivial
   refine z2 (z2 (WO.gF rfl rfl (.inr rfl) rfl (WO.gF rfl rfl (.inr rfl) rfl (WO.gF rfl rfl (.inr rfl) rfl (z2 (WO.gF rfl rfl (.inr rfl) rfl (WO.gF rfl rfl (.inr rfl) rfl (WO.gF rfl rfl (.inr rfl) rfl (zG (zq (ax rfl rfl) (zk (W.sub (zc 62 rfl (zc 0 rfl (zc 4 rfl (zc 5 rfl (zc 6 rfl (zc 7 rfl aI)))))) (az rfl (W.skip (End.K (W.sub zv (hJ9 (_) ?_)))))))))))))))))
   exact trivial
  refine zr (zf io rfl 0 (zq (ap rfl (zt 0 rfl) bU rfl) (zq (aa rfl (zi 5) rfl (ag aA)) (zm rfl (ay (d := 28) rfl (fun hc28 => ?_) (fun hc28 => ?_))))))
  ·refine zT (zf dX rfl 1 (zT (zq (ap rfl (zt 0 rfl) fW rfl) (zT (zq (aa rfl (oc (v := .str [40]) (by kernel_rfl)) rfl aH) (zT (zm rfl (ay (d := 32) rfl (fun hc32 => ?_) (fun hc32 => ?_)))))))))
   ·refine z2 (zG (zT (zq (aj rfl rfl) (zT (zm rfl (z2 (zG (zT (zq (aj rfl rfl) (zq (aj rfl rfl) (zk (W.sub (zc 42 rfl (zc 7 rfl (zc 0 rfl (zc 4 rfl (zc 5 rfl (zc 6 rfl aI)))))) (au rfl (am (zm rfl (zq (aa rfl (zi 1) rfl (fY rfl)) (za rfl (WO.nil (End.K (W.sub zv (hJ7 (_) ?_)))))))))))))))))))))
    exact trivial
   refine zT (zf dX rfl 1 (zT (zq (ap rfl (zt 0 rfl) fW rfl) (zT (zq (aa rfl (oc (v := .str [123]) (by kernel_rfl)) rfl aH) (zT (zq (ax rfl rfl) (zT (zm rfl (ay (d := 37) rfl (fun hc37 => ?_) (fun hc37 => ?_)))))))))))
   ·refine z2 (zG (zT (zq (aj rfl rfl) (zq (aj rfl rfl) (zk (W.sub (zc 42 rfl (zc 7 rfl (zc 0 rfl (zc 4 rfl (zc 5 rfl (zc 6 rfl aI)))))) (au rfl (am (zm rfl (zq (aa rfl (zi 1) rfl (fY rfl)) (za rfl (WO.nil (End.K (W.sub zv (hJ7 (_) ?_)))))))))))))))
    exact trivial
   refine zT (zf dX rfl 1 (zT (zq (ap rfl (zt 0 rfl) fW rfl) (zT (zq (aa rfl (oc (v := .str [91]) (by kernel_rfl)) rfl aH) (zT (zq (ax rfl rfl) (zq (aj rfl rfl) (zk (W.sub (zc 42 rfl (zc 7 rfl (zc 0 rfl (zc 4 rfl (zc 5 rfl (zc 6 rfl aI)))))) (aw rfl (fun hc42 => ?_) (fun hc42 => ?_))))))))))))
   ·refine am (zm rfl (zq (aa rfl (zi 1) rfl (fY rfl)) (za rfl (WO.nil (End.K (W.sub zv (hJ7 (_) ?_)))))))
    exact trivial
   refine W.skip (End.K (W.sub zv (hJ7 (_) ?_)))
   exact trivial
  refine z2 (z2 (WO.gF rfl rfl (.inr rfl) rfl (WO.gF rfl rfl (.inr rfl) rfl (WO.gF rfl rfl (.inr rfl) rfl (z2 (WO.gF rfl rfl (.inr rfl) rfl (WO.gF rfl rfl (.inr rfl) rfl (WO.gF rfl rfl (.inr rfl) rfl (zG (zq (ax rfl rfl) (zk (W.sub (zc 42 rfl (zc 7 rfl (zc 0 rfl (zc 4 rfl (zc 5 rfl (zc 6 rfl aI)))))) (az rfl (W.skip (End.K (W.sub zv (hJ7 (_) ?_)))))))))))))))))
  exact trivial
 refine W.exit ?_
 refine aC (aK (aB (jj ResL.nil (hs' := [pB X tb n a dp e bd true]) ⟨rfl, e, bd, fun h => h, rfl⟩ zW (SubH.of_sublist (by simp)))))
end Go.Proofs.YtndhhgbpcmfeiaaGreatDoor.Ev.P16
