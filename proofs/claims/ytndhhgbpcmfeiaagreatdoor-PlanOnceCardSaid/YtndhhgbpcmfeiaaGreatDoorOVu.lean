/- Chapter 16, by the document: operators. -/
import Derived.Test.YtndhhgbpcmfeiaaGreatDoorOVs
namespace Go.Proofs.YtndhhgbpcmfeiaaGreatDoor.Ev.P16
open Go.RowKit
set_option maxRecDepth 100000
set_option maxHeartbeats 1000000
theorem s3 {a b : List AV} (h : a.all AV.isCell = true) (g : b.all AV.isCell = true) : (a ++ b).all AV.isCell = true := by rw [List.all_append, h, g]; rfl
theorem zI (toks : List dS) (n : Nat) (hn : toks.length = n + 1) (hnl : n <= 1048576) (hok : jm toks) (tb : Nat) (ex : Bool) (X a : Nat) (ha : a <= n) (dp e bd : Int) (hla : (tg toks n).1 = 6) (l : Nat) (hl5 : l <= 5) (hI : GM toks n tb ex X (mz n a e * 20 + (9 - l))) : Spec aN 31 [.ptr X 0, .int .i64 ((l : Nat) : Int)] [X] [pB X tb n a dp e bd true, ⟨tb, ⟨4, ex, bO toks⟩, false⟩] (NP n tb X a e) := by
 refine av (cX 31 Tryz.func31) rfl (m := 79) rfl (rs := [.cell 4 26]) rfl (st := [(0, .ptr X 0), (1, .int .i64 ((l : Nat) : Int))]) rfl rfl (fun _ => rfl) (fun E => zr (WO.alloc ia rfl (fun b1 => zk (W.seq (zr (zm rfl (zq (aa rfl (zi 5) rfl (ag aA)) (zk (aw rfl (fun hc9 => ?_) (fun hc9 => ?_))))))))))
 ·refine zr (zm rfl (WO.call1 rfl (aD rfl oz) rfl (i := 1) rfl ((hI a dp e bd zy).2.1 (by unfold mz; (repeat' split) <;> omega)) (SubR.one (zt 1 rfl)) (hs' := [_, _]) rfl rfl (fun v11 D11 hP11 => ?_)))
  obtain ⟨x11, hq11, m11, a11, d11, e11, f11, rfl, nk11, nw11, p11, q11, r11, s11, rfl⟩ := hP11
  refine WO.subH (hs' := _ :: _ :: _ :: (hq11)) (SubH.op (aG (N := [_]) (G := hq11) (K := [_, _]) (X := []))) (zS aL rfl rfl (i := 1) rfl (by first | rfl | exact aQ rfl ckA) rfl (hs' := _ :: _ :: _ :: _) rfl (zk (W.ret ?_)))
  refine ac (End.ret (zA rfl (zt 1 rfl) bh aL rfl ResL.nil) (hs' := pB X tb n a11 d11 e11 f11 true :: hq11) ⟨x11, hq11, _, a11, d11, e11, f11, rfl, nk11, nw11, zy, zy, zy, zy, rfl⟩ (ww nw11) gG)
 refine zw (zr (zm rfl (zm rfl (zq (aa rfl (zi 1) rfl zp) (WO.call1 rfl (aD rfl (aD rfl oz)) rfl (i := 1) rfl ((hI a dp e bd zy).1 (l + 1) zy (by unfold mz; (repeat' split) <;> omega)) (SubR.one (zt 1 rfl)) (hs' := [_, _]) rfl rfl (fun v15 D15 hP15 => ?_))))))
 obtain ⟨x15, hq15, m15, a15, d15, e15, f15, rfl, nk15, nw15, p15, q15, r15, s15, rfl⟩ := hP15
 refine WO.subH (hs' := _ :: _ :: _ :: (hq15)) (SubH.op (aG (N := [_]) (G := hq15) (K := [_, _]) (X := []))) (WO.alloc ia rfl (fun b2 => zS aL rfl rfl (i := 0) rfl (by first | rfl | exact aQ rfl ckA) rfl (hs' := _ :: _ :: _ :: _ :: _) rfl (zk (W.seq (W.block (gu (fun (a1 : Nat) (d1 : Int) (e1 : Int) (f1 : Int) (x : NodT) (hp : ak) (m : Nat) => [(0, .ptr X 0), (1, .int .i64 ((l : Nat) : Int)), (4, .ptr b1 0), (5, .ptr b2 0)]) (fun (a1 : Nat) (d1 : Int) (e1 : Int) (f1 : Int) (x : NodT) (hp : ak) (m : Nat) => (pB X tb n a1 d1 e1 f1 true) :: ⟨b2, ⟨11, true, nC x⟩, true⟩ :: ⟨b1, ⟨11, true, bS 0 [] 0 .nils 0 0 0 .nils 0 false .nils⟩, true⟩ :: ⟨tb, ⟨4, ex, bO toks⟩, false⟩ :: hp) (fun (a1 : Nat) (d1 : Int) (e1 : Int) (f1 : Int) (x : NodT) (hp : ak) (m : Nat) => a <= a1 /\ a1 <= n /\ (e ≠ 0 -> e1 = e /\ a1 = a) /\ (e1 = 0 -> e = 0 /\ a < a1 /\ m + a <= a1) /\ NOk hp x m /\ (∀ y ∈ hp, y.w = true)) (fun (a1 : Nat) (d1 : Int) (e1 : Int) (f1 : Int) (x : NodT) (hp : ak) (m : Nat) => (if e1 = 0 then 1 + n - a1 else 0)) (a15) (d15) (e15) (f15) (x15) (hq15) (m15) ⟨p15, q15, r15, s15, nk15, nw15⟩ zv gG (fun a1 d1 e1 f1 x hp m hI0 ih0 => ?_)))))))
 obtain ⟨h1, h2, h3, h4, hx, hw⟩ := hI0
 refine ou (fun (z : Unit) => [(0, .ptr X 0), (1, .int .i64 ((l : Nat) : Int)), (4, .ptr b1 0), (5, .ptr b2 0)]) (fun (z : Unit) => (pB X tb n a1 d1 e1 f1 true) :: ⟨b2, ⟨11, true, nC x⟩, true⟩ :: ⟨b1, ⟨11, true, bS 0 [] 0 .nils 0 0 0 .nils 0 false .nils⟩, true⟩ :: ⟨tb, ⟨4, ex, bO toks⟩, false⟩ :: hp) (fun (z : Unit) => e1 = 0 /\ a1 < n) (fun z hI5 => ?_) (fun hJ5 => ?_)
 ·obtain ⟨he1, hlt⟩ := hI5
  have hob : Bytes (tg toks a1).2.1 := (cQ hok zy).1
  have hol : (tg toks a1).2.1.length <= 1048576 := Nat.le_trans (cQ hok (i := a1) zy).2 (by decide)
  refine W.block (zr (zm rfl (aJ rfl (aD rfl oz) rfl (ct toks n hn hnl hok tb ex X a1 zy d1 e1 f1) (SubR.pair (i := 0) (j := 3) rfl rfl (by decide)) rfl (zq (cm lx rfl rfl) (zq (zB ka (bz (zi 5) (bz rfl aq)) rfl rfl) (WO.alloc ia rfl (fun b3 => zS aL rfl rfl (i := 0) rfl (by first | rfl | exact aQ rfl ckA) rfl (hs' := _ :: _ :: _ :: _ :: _ :: _) rfl (zk (zr (zm rfl (zq (aF rfl) (zf aZ rfl 1 (zq (ap rfl (zt 1 rfl) bU rfl) (zq (aa rfl (zi 1) rfl zp) (zq (aF rfl) (zf aZ rfl 1 (lM di rfl rfl (i := 1) rfl rfl rfl (hs' := _ :: _ :: _ :: _ :: _ :: _) rfl (zk (lS (fun (a3 : Nat) (bl : Bool) => [(0, .ptr X 0), (1, .int .i64 ((l : Nat) : Int)), (4, .ptr b1 0), (5, .ptr b2 0), (6, .ptr b3 0)]) (fun (a3 : Nat) (bl : Bool) => (pB X tb n a3 d1 e1 f1 true) :: ⟨b3, ⟨11, true, bS (((5 : Nat) : Int)) (tg toks a1).2.1 0 .nils 0 0 0 .nils 0 bl .nils⟩, true⟩ :: ⟨b2, ⟨11, true, nC x⟩, true⟩ :: ⟨b1, ⟨11, true, bS 0 [] 0 .nils 0 0 0 .nils 0 false .nils⟩, true⟩ :: ⟨tb, ⟨4, ex, bO toks⟩, false⟩ :: hp) (fun (a3 : Nat) (bl : Bool) => a1 < a3 /\ a3 <= n) (fun a3 bl hI10 => ?_) (fun hJ10 => ?_))))))))))))))))))))
  ·obtain ⟨j1, j2⟩ := hI10
   refine zr (zm rfl (zq (zL rfl (zt 1 rfl) bh aL rfl) (WO.call1 rfl (aD rfl (aD rfl oz)) rfl (i := 0) rfl (we toks n hn hnl hok tb ex X a3 zy d1 e1 f1 hla _ _ hob _ _ _ _ _ _ _ _ _ rfl rfl rfl) (SubR.one (zt 3 rfl)) (hs' := _ :: _ :: _ :: _ :: _) rfl rfl (fun v68 D68 hP68 => ?_))))
   obtain ⟨hN68, ⟨md68, nm68, sd68, hnm68, rfl⟩, a68, e68, f68, p68, q68, r68, s68, rfl⟩ := hP68
   have hnr68 : NmR hN68 nm68 := hnm68.elim (fun h => by rw [h.1, h.2]; exact NmR.nil) id
   have hnc68 := hnr68.cell
   refine WO.subH (hs' := _ :: _ :: _ :: _ :: _ :: (hp ++ hN68)) (SubH.op (aG (N := [_]) (G := hN68) (K := [_, _, _, _]) (X := hp))) (zS aL rfl rfl (i := 1) rfl (by first | rfl | exact aQ rfl ckA) rfl (hs' := _ :: _ :: _ :: _ :: _ :: _) rfl (zk (zr (zm rfl (zm rfl (zq (aa rfl (zi 1) rfl zp) (WO.call1 rfl (aD rfl (aD rfl oz)) rfl (i := 0) rfl ((hI a68 d1 e68 f68 zy).1 (l + 1) zy (by unfold mz; (repeat' split) <;> omega)) (SubR.one (zt 3 rfl)) (hs' := _ :: _ :: _ :: _ :: _) rfl rfl (fun v72 D72 hP72 => ?_))))))))
   obtain ⟨x72, hq72, m72, a72, d72, e72, f72, rfl, nk72, nw72, p72, q72, r72, s72, rfl⟩ := hP72
   refine WO.subH (hs' := _ :: _ :: _ :: _ :: _ :: (hp ++ hN68 ++ hq72)) (SubH.op (aG (N := [_]) (G := hq72) (K := [_, _, _, _]) (X := hp ++ hN68))) (WO.alloc ia rfl (fun b4 => zS aL rfl rfl (i := 0) rfl (by first | rfl | exact aQ rfl ckA) rfl (hs' := _ :: _ :: _ :: _ :: _ :: _ :: _) rfl (zk (zr (zq (zL rfl (zt 3 rfl) bh aL rfl) (zq (zL rfl (zt 0 rfl) bh aL rfl) (WO.bslice ke aL Fb rfl (bz rfl (bz rfl aq)) rfl (cs := [_, _, _, _, _, _, _, _, _, _, _, _, _, _, _, _, _, _, _, _, _, _]) rfl (s3 ckA ckA) rfl (fun b5 => zf eW rfl 10 (zS E5 rfl rfl (i := 3) rfl rfl rfl (hs' := _ :: _ :: _ :: _ :: _ :: _ :: _ :: _) rfl (zk (am (zq (zL rfl (zt 3 rfl) bh aL rfl) (zS aL rfl rfl (i := 4) rfl (by first | rfl | exact aQ rfl ckA) rfl (hs' := _ :: _ :: _ :: _ :: _ :: _ :: _ :: _) rfl (WO.nil (End.KB (End.KL (W.sub zv (bX gG (ih0 (a72) (d72) (e72) (f72) (⟨(((5 : Nat) : Int)), (tg toks a1).2.1, 0, .nils, 0, 0, md68, nm68, sd68, bl, .slice b5 0 2 11⟩) (((hp ++ hN68) ++ hq72) ++ [⟨b5, ⟨11, true, nC x ++ nC x72⟩, true⟩]) (m + m72 + 1) ?_ ?_)))))))))))))))))))
   ·exact ⟨by omega, by omega, by omega, by omega, NOk.of (KVn.two (hx.up (fun y hy => List.mem_append_left _ (List.mem_append_left _ (List.mem_append_left _ hy)))) (nk72.up (fun y hy => List.mem_append_left _ (List.mem_append_right _ hy))) ⟨true, List.mem_append_right _ List.mem_cons_self⟩) hob hol AD (hnr68.ok.up (fun y hy => List.mem_append_left _ (List.mem_append_left _ (List.mem_append_right _ hy)))), gh (gh (gh hw hnr68.w) nw72) (by intro y hy; simp at hy; subst hy; rfl)⟩
   exact (by rw [if_pos he1]; split <;> omega)
  refine zr (zm rfl (zq (aa rfl (zi 2) rfl (ag aA)) (zm rfl (ay (d := 54) rfl (fun hc54 => ?_) (fun hc54 => ?_)))))
  ·refine zT (zm rfl (zT (aJ rfl (aD rfl (aD (oc (v := .str [98, 111, 111, 108]) (by kernel_rfl)) oz)) rfl (cu toks n hn hnl hok tb ex X (a1 + 1) zy d1 e1 f1 _ (by unfold Bytes; decide)) (SubR.pair (i := 1) (j := 4) rfl rfl (by decide)) rfl (zq (aj rfl rfl) (zk (W.sub (zc 57 rfl (zc 6 rfl (zc 0 rfl (zc 1 rfl (zc 4 rfl (zc 5 rfl aI)))))) (aE rfl (fun hc57 => ?_) (fun hc57 => ?_))))))))
   ·have hv := gL (by simpa using hc57)
    have hlt2 : a1 + 1 < n := aY hla zy zy
    refine zr (zf gJ rfl 9 (zS De rfl rfl (i := 0) rfl rfl rfl (hs' := _ :: _ :: _ :: _ :: _ :: _) rfl (zk (am (zm rfl (zq (aF rfl) (zf aZ rfl 1 (zq (ap rfl (zt 1 rfl) bU rfl) (zq (aa rfl (zi 1) rfl zp) (zq (aF rfl) (zf aZ rfl 1 (lM di rfl rfl (i := 1) rfl rfl rfl (hs' := _ :: _ :: _ :: _ :: _ :: _) rfl (WO.nil (End.K (W.sub zv (bX gG (hJ10 (a1 + 1 + 1) (true) ?_)))))))))))))))))
    exact ⟨by omega, by omega⟩
   refine W.skip (End.K (W.sub zv (bX gG (hJ10 (a1 + 1) (false) ?_))))
   exact ⟨by omega, by omega⟩
  refine z2 (zq (ax rfl rfl) (zk (W.sub (zc 57 rfl (zc 6 rfl (zc 0 rfl (zc 1 rfl (zc 4 rfl (zc 5 rfl aI)))))) (az rfl (W.skip (End.K (W.sub zv (bX gG (hJ10 (a1 + 1) (false) ?_)))))))))
  exact ⟨by omega, by omega⟩
 refine zr (zm rfl (zq (aF rfl) (zf dB rfl 3 (zq (ap rfl (zt 0 rfl) bU rfl) (zq (aa rfl (zi 0) rfl (ag bj)) (zm rfl (ay (d := 21) rfl (fun hc21 => ?_) (fun hc21 => ?_))))))))
 ·have he1 : e1 = 0 := (by simpa using hc21)
  refine zT (zm rfl (zT (aJ rfl (aD rfl oz) rfl (ct toks n hn hnl hok tb ex X a1 zy d1 e1 f1) (SubR.pair (i := 0) (j := 3) rfl rfl (by decide)) rfl (zT (zq (cm sN rfl rfl) (zT (zq (aa rfl (zi 1) rfl (ag aA)) (zT (zm rfl (ay (d := 26) rfl (fun hc26 => ?_) (fun hc26 => ?_)))))))))))
  ·refine z2 (z2 (zT (zq (aj rfl rfl) (zq (aj rfl rfl) (zm rfl (zT (zm rfl (zT (WO.call0 rfl (aD rfl oz) rfl (pN l) SubR.nil rfl (fun v35 D35 hP35 => ?_))))))))))
   obtain ⟨lb, lL, lh, rfl, rfl⟩ := hP35
   refine zT (zm rfl (zT (aJ rfl (aD rfl oz) rfl (ct toks n hn hnl hok tb ex X a1 zy d1 e1 f1) (SubR.pair (i := 1) (j := 4) rfl rfl (by decide)) rfl (zT (zq (cm lx rfl rfl) (zT (WO.callE rfl (aD rfl (aD rfl oz)) rfl (kW lL zy lb true _ (cQ hok zy).1) (SubR.one (zt 0 rfl)) rfl (fun v39 hP39 => ?_))))))))
   obtain ⟨ob39, rfl⟩ := hP39
   refine zq (aj rfl rfl) (zk (W.sub (zc 40 rfl (zc 0 rfl (zc 1 rfl (zc 4 rfl (zc 5 rfl aI))))) (aE rfl (fun hc40 => ?_) (fun hc40 => ?_))))
   ·refine W.skip (End.K (W.sub zv (bX gG (hJ5 (()) ?_))))
    exact ⟨he1, aY hla zy zy⟩
   refine W.exit (aC (aK (aB (End.K (zr (zq (zL rfl (zt 2 rfl) bh aL rfl) (zS aL rfl rfl (i := 3) rfl (by first | rfl | exact aQ rfl ckA) rfl (hs' := _ :: _ :: _ :: _ :: _ :: _) rfl (zk (W.ret ?_)))))))))
   refine End.ret (zA rfl (zt 3 rfl) bh aL rfl ResL.nil) (hs' := pB X tb n a1 d1 e1 f1 true :: hp) ⟨x, hp, _, a1, d1, e1, f1, rfl, hx, hw, zy, zy, h3, h4, rfl⟩ (ww hw) gG
  refine zT (zm rfl (zT (aJ rfl (aD rfl oz) rfl (ct toks n hn hnl hok tb ex X a1 zy d1 e1 f1) (SubR.pair (i := 0) (j := 3) rfl rfl (by decide)) rfl (zT (zq (cm sN rfl rfl) (zT (zq (aa rfl (zi 5) rfl (ag aA)) (zT (zq (ax rfl rfl) (zq (aj rfl rfl) (zm rfl (ay (d := 33) rfl (fun hc33 => ?_) (fun hc33 => ?_)))))))))))))
  ·refine zT (zm rfl (zT (WO.call0 rfl (aD rfl oz) rfl (pN l) SubR.nil rfl (fun v35 D35 hP35 => ?_))))
   obtain ⟨lb, lL, lh, rfl, rfl⟩ := hP35
   refine zT (zm rfl (zT (aJ rfl (aD rfl oz) rfl (ct toks n hn hnl hok tb ex X a1 zy d1 e1 f1) (SubR.pair (i := 1) (j := 4) rfl rfl (by decide)) rfl (zT (zq (cm lx rfl rfl) (zT (WO.callE rfl (aD rfl (aD rfl oz)) rfl (kW lL zy lb true _ (cQ hok zy).1) (SubR.one (zt 0 rfl)) rfl (fun v39 hP39 => ?_))))))))
   obtain ⟨ob39, rfl⟩ := hP39
   refine zq (aj rfl rfl) (zk (W.sub (zc 40 rfl (zc 0 rfl (zc 1 rfl (zc 4 rfl (zc 5 rfl aI))))) (aE rfl (fun hc40 => ?_) (fun hc40 => ?_))))
   ·refine W.skip (End.K (W.sub zv (bX gG (hJ5 (()) ?_))))
    exact ⟨he1, aY hla zy zy⟩
   refine W.exit (aC (aK (aB (End.K (zr (zq (zL rfl (zt 2 rfl) bh aL rfl) (zS aL rfl rfl (i := 3) rfl (by first | rfl | exact aQ rfl ckA) rfl (hs' := _ :: _ :: _ :: _ :: _ :: _) rfl (zk (W.ret ?_)))))))))
   refine End.ret (zA rfl (zt 3 rfl) bh aL rfl ResL.nil) (hs' := pB X tb n a1 d1 e1 f1 true :: hp) ⟨x, hp, _, a1, d1, e1, f1, rfl, hx, hw, zy, zy, h3, h4, rfl⟩ (ww hw) gG
  refine z2 (z2 (z2 (zq (ax rfl rfl) (zk (W.sub (zc 40 rfl (zc 0 rfl (zc 1 rfl (zc 4 rfl (zc 5 rfl aI))))) (az rfl (W.exit (aC (aK (aB (End.K (zr (zq (zL rfl (zt 1 rfl) bh aL rfl) (zS aL rfl rfl (i := 2) rfl (by first | rfl | exact aQ rfl ckA) rfl (hs' := _ :: _ :: _ :: _ :: _) rfl (zk (W.ret ?_))))))))))))))))
  refine End.ret (zA rfl (zt 2 rfl) bh aL rfl ResL.nil) (hs' := pB X tb n a1 d1 e1 f1 true :: hp) ⟨x, hp, _, a1, d1, e1, f1, rfl, hx, hw, zy, zy, h3, h4, rfl⟩ (ww hw) gG
 refine z2 (z2 (zG (WO.gF rfl rfl (.inr rfl) rfl (WO.gF rfl rfl (.inr rfl) rfl (WO.gF rfl rfl (.inr rfl) rfl (WO.gF rfl rfl (.inr rfl) rfl (zG (zq (ax rfl rfl) (zm rfl (z2 (z2 (z2 (zq (ax rfl rfl) (zk (W.sub (zc 40 rfl (zc 0 rfl (zc 1 rfl (zc 4 rfl (zc 5 rfl aI))))) (az rfl (W.exit (aC (aK (aB (End.K ?_)))))))))))))))))))))
 refine zr (zq (zL rfl (zt 1 rfl) bh aL rfl) (zS aL rfl rfl (i := 2) rfl (by first | rfl | exact aQ rfl ckA) rfl (hs' := _ :: _ :: _ :: _ :: _) rfl (zk (W.ret ?_))))
 refine End.ret (zA rfl (zt 2 rfl) bh aL rfl ResL.nil) (hs' := pB X tb n a1 d1 e1 f1 true :: hp) ⟨x, hp, _, a1, d1, e1, f1, rfl, hx, hw, zy, zy, h3, h4, rfl⟩ (ww hw) gG
structure OwT where
 len : Nat
 cs : List AV
 v : AV
 hp : ak
theorem wA (toks : List dS) (n : Nat) (hn : toks.length = n + 1) (hnl : n <= 1048576) (hok : jm toks) (tb : Nat) (ex : Bool) (X a : Nat) (ha : a <= n) (dp e bd : Int) (hla : (tg toks n).1 = 6) (bn : Bool) (hI : GM toks n tb ex X (mz n a e * 20 + 0)) : Spec aN 132 [.ptr X 0, .bool bn] [X] [pB X tb n a dp e bd true, ⟨tb, ⟨4, ex, bO toks⟩, false⟩] (PP n tb X a e) := by
 refine av (cX 132 Tryz.func132) rfl (m := 53) rfl (rs := [.tmp 4]) rfl (st := [(0, .ptr X 0), (1, .bool bn)]) rfl rfl (fun _ => rfl) (fun E => zr (za rfl (zk (zr (za rfl (zk (lT (fun (d1 : Int) (e1 : Int) (f1 : Int) => [(0, .ptr X 0), (1, .bool bn), (5, .nils)]) (fun (d1 : Int) (e1 : Int) (f1 : Int) => (pB X tb n a d1 e1 f1 true) :: [⟨tb, ⟨4, ex, bO toks⟩, false⟩]) (fun (d1 : Int) (e1 : Int) (f1 : Int) => (e ≠ 0 -> e1 = e) /\ (e1 = 0 -> e = 0)) (fun d1 e1 f1 hI4 => ?_) (fun hJ4 => ?_))))))))
 ·obtain ⟨j1, j2⟩ := hI4
  refine zr (zm rfl (WO.call1 rfl (aD rfl (aD (oc (v := .str [40]) (by kernel_rfl)) oz)) rfl (i := 0) rfl (dD toks n hn hnl hok tb ex X a zy d1 e1 f1 hla _ (by unfold Bytes; decide)) (SubR.one (zt 0 rfl)) (hs' := [_]) rfl rfl (fun v14 D14 hP14 => ?_)))
  obtain ⟨rfl, a14, e14, f14, p14, q14, r14, s14, rfl⟩ := hP14
  refine zk (DN (fun (a3 : Nat) (d3 : Int) (e3 : Int) (f3 : Int) (o3 : OwT) (hN3 : ak) (m3 : Nat) => [(0, .ptr X 0), (5, o3.v)]) (fun (a3 : Nat) (d3 : Int) (e3 : Int) (f3 : Int) (o3 : OwT) (hN3 : ak) (m3 : Nat) => (pB X tb n a3 d3 e3 f3 true) :: ⟨tb, ⟨4, ex, bO toks⟩, false⟩ :: (hN3 ++ o3.hp)) (fun (a3 : Nat) (d3 : Int) (e3 : Int) (f3 : Int) (o3 : OwT) (hN3 : ak) (m3 : Nat) => a14 <= a3 /\ a3 <= n /\ (e14 ≠ 0 -> e3 = e14 /\ a3 = a14) /\ (e3 = 0 -> e14 = 0 /\ m3 + a14 <= a3) /\ Own 11 o3.cs o3.len o3.v o3.hp /\ KN hN3 o3.cs o3.len m3 /\ (∀ y ∈ hN3, y.w = true) /\ o3.len <= n) (fun a3 d3 e3 f3 o3 hN3 m3 hI9 => ?_) (fun hJ9 => ?_))
  ·obtain ⟨k1, k2, k3, k4, hO3, hK3, hw3, k8⟩ := hI9
   refine zr (zm rfl (WO.call1 rfl (aD rfl (aD (oc (v := .str [41]) (by kernel_rfl)) oz)) rfl (i := 0) rfl (dD toks n hn hnl hok tb ex X a3 zy d3 e3 f3 hla _ (by unfold Bytes; decide)) (SubR.one (zt 0 rfl)) (hs' := _ :: _) rfl rfl (fun v44 D44 hP44 => ?_)))
   obtain ⟨rfl, a44, e44, f44, p44, q44, r44, s44, rfl⟩ := hP44
   refine zk (zr (zm rfl (zq (aF rfl) (zf jQ rfl 2 (zq (ap rfl (zt 0 rfl) bU rfl) (zq (aa rfl (zi 1) rfl (cT rfl)) (zq (aF rfl) (zf jQ rfl 2 (lM di rfl rfl (i := 0) rfl rfl rfl (hs' := _ :: _ :: _) rfl (zk (zr (zm rfl (za rfl (zk (W.ret ?_)))))))))))))))
   refine End.ret (z1 rfl) (hs' := pB X tb n a44 (IntKind.i64.wrap (d3 - ((1 : Nat) : Int))) e44 f44 true :: (hN3 ++ o3.hp)) ⟨o3.len, hN3 ++ o3.hp, m3, a44, _, e44, f44, EN hO3 hK3 zy, gh hw3 hO3.w, by omega, by omega, by omega, by omega, rfl⟩ (ww (gh hw3 hO3.w)) gG
  refine W.block (gu (fun (a2 : Nat) (d2 : Int) (e2 : Int) (f2 : Int) (o : OwT) (hN : ak) (m : Nat) => [(0, .ptr X 0), (1, .bool bn), (5, o.v)]) (fun (a2 : Nat) (d2 : Int) (e2 : Int) (f2 : Int) (o : OwT) (hN : ak) (m : Nat) => (pB X tb n a2 d2 e2 f2 true) :: ⟨tb, ⟨4, ex, bO toks⟩, false⟩ :: (hN ++ o.hp)) (fun (a2 : Nat) (d2 : Int) (e2 : Int) (f2 : Int) (o : OwT) (hN : ak) (m : Nat) => a14 <= a2 /\ a2 <= n /\ (e14 ≠ 0 -> e2 = e14 /\ a2 = a14) /\ (e2 = 0 -> e14 = 0 /\ m + a14 <= a2) /\ Own 11 o.cs o.len o.v o.hp /\ KN hN o.cs o.len m /\ (∀ y ∈ hN, y.w = true) /\ o.len + 1 <= a2 + (if e2 = 0 then 0 else 1)) (fun (a2 : Nat) (d2 : Int) (e2 : Int) (f2 : Int) (o : OwT) (hN : ak) (m : Nat) => (if e2 = 0 then 1 + n - a2 else 0)) (a14) (d1) (e14) (f14) (⟨0, [], .nils, []⟩) ([]) (0) ⟨Nat.le_refl _, q14, fun h => ⟨rfl, rfl⟩, (fun h => ⟨h, Nat.le_of_eq (Nat.zero_add _)⟩), Own.nil 11, KN.nil, dr, by show 0 + 1 <= _; split <;> omega⟩ zv gG (fun a2 d2 e2 f2 o hN m hI0 ih0 => ?_))
  obtain ⟨h1, h2, h3, h4, hO, hK, hw, h8⟩ := hI0
  refine ou (fun (z : Unit) => [(0, .ptr X 0), (1, .bool bn), (5, o.v)]) (fun (z : Unit) => (pB X tb n a2 d2 e2 f2 true) :: ⟨tb, ⟨4, ex, bO toks⟩, false⟩ :: (hN ++ o.hp)) (fun (z : Unit) => e2 = 0) (fun z hI6 => ?_) (fun hJ6 => ?_)
  ·have he2 := hI6
   rw [if_pos he2] at h8
   refine W.block (zr (zm rfl (zm rfl (WO.call1 rfl (aD rfl (aD (zi 0) oz)) rfl (i := 0) rfl ((hI a2 d2 e2 f2 zy).1 (0) zy (by unfold mz; (repeat' split) <;> omega)) (SubR.one (zt 0 rfl)) (hs' := _ :: _) rfl rfl (fun v36 D36 hP36 => ?_)))))
   obtain ⟨x36, hq36, m36, a36, d36, e36, f36, rfl, nk36, nw36, p36, q36, r36, s36, rfl⟩ := hP36
   refine WO.subH (hs' := _ :: _ :: (hN ++ hq36 ++ o.hp)) (SubH.op (iz (N := [_]) (G := hq36) (K := [_]) (X := hN ++ o.hp) (by simp only [List.append_assoc, List.nil_append]; exact List.perm_iff_count.2 (by intro z; simp only [List.append_eq, List.count_append, List.count_nil]; omega)))) (WO.bslice ke aL Fb rfl (bz rfl aq) rfl (cs := [_, _, _, _, _, _, _, _, _, _, _]) rfl ckA rfl (fun b1 => WO.appOwn (e := ⟨b1, _, true⟩) (A := ([_, _] ++ hN ++ hq36)) wY hO rfl rfl rfl rfl ⟨by first | omega | (simp at * <;> omega), by first | omega | (simp at * <;> omega)⟩ (by decide) rfl rfl (fun v38 hp38 hO38 => za rfl (zk (W.seq (zr (zm rfl (aJ rfl (aD rfl (aD (oc (v := .str [41]) (by kernel_rfl)) oz)) rfl (cu toks n hn hnl hok tb ex X a36 zy d36 e36 f36 _ (by unfold Bytes; decide)) SubR.two rfl (zk (aE rfl (fun hc40 => ?_) (fun hc40 => ?_)))))))))))
   ·refine W.exit (aC (dl rfl (aK (aB (End.K (W.sub zv (bX gG (hJ9 (a36) (d36) (e36) (f36) (⟨o.len + 1, o.cs ++ [.int .i64 x36.k, .str x36.op, .int .i64 x36.n, x36.ms, .int .i64 x36.rg, .int .i64 x36.off, .int .i64 x36.md, x36.nm, .int .i64 x36.sd, .bool x36.bl, x36.kd], v38, hp38⟩) (hN ++ hq36) (m + m36) ?_))))))))
    exact ⟨by omega, by omega, (by intro h; exact absurd (h4 he2).1 h), (by have := h4 he2; omega), hO38, (KN.snoc hK hO.length nk36), gh hw nw36, by show o.len + 1 <= _; omega⟩
   refine zw (am (zm rfl (WO.call1 rfl (aD rfl (aD (oc (v := .str [44]) (by kernel_rfl)) oz)) rfl (i := 0) rfl (dD toks n hn hnl hok tb ex X a36 zy d36 e36 f36 hla _ (by unfold Bytes; decide)) (SubR.one (zt 0 rfl)) (hs' := _ :: _) rfl rfl (fun v42 D42 hP42 => ?_))))
   obtain ⟨rfl, a42, e42, f42, p42, q42, r42, s42, rfl⟩ := hP42
   refine WO.nil (End.KB (End.KL (W.sub zv (bX gG (ih0 (a42) (d36) (e42) (f42) (⟨o.len + 1, o.cs ++ [.int .i64 x36.k, .str x36.op, .int .i64 x36.n, x36.ms, .int .i64 x36.rg, .int .i64 x36.off, .int .i64 x36.md, x36.nm, .int .i64 x36.sd, .bool x36.bl, x36.kd], v38, hp38⟩) (hN ++ hq36) (m + m36) ?_ ?_)))))
   ·exact ⟨by omega, by omega, (by intro h; exact absurd (h4 he2).1 h), (by have := h4 he2; omega), hO38, (KN.snoc hK hO.length nk36), gh hw nw36, by show o.len + 1 + 1 <= _; split <;> omega⟩
   exact (by rw [if_pos he2]; split <;> omega)
  refine zr (zm rfl (zq (aF rfl) (zf dB rfl 3 (zq (ap rfl (zt 0 rfl) bU rfl) (zq (aa rfl (zi 0) rfl (ag bj)) (zm rfl (ay (d := 20) rfl (fun hc20 => ?_) (fun hc20 => ?_))))))))
  ·refine zT (zm rfl (zT (zq (Q.not rfl rfl) (zT (zm rfl (WO.split (d := 23) rfl (fun hc23 => ?_) (fun hc23 => ?_)))))))
   ·refine z2 (zG (zT (zq (aj rfl rfl) (zT (zm rfl (z2 (zG (zT (zq (aj rfl rfl) (zq (aj rfl rfl) (zk (W.sub (zc 33 rfl (zc 0 rfl (zc 1 rfl (zc 5 rfl aI)))) (au rfl (W.skip (End.K (W.sub zv (bX gG (hJ6 (()) ?_))))))))))))))))))
    exact (by simpa using hc20)
   refine zT (zm rfl (zT (zq (Q.len ke rfl hO.len) (zT (zq (aa rfl (zi 0) rfl (aV dM)) (zT (zq (ax rfl rfl) (zT (zm rfl (ay (d := 28) rfl (fun hc28 => ?_) (fun hc28 => ?_)))))))))))
   ·refine z2 (zG (zT (zq (aj rfl rfl) (zq (aj rfl rfl) (zk (W.sub (zc 33 rfl (zc 0 rfl (zc 1 rfl (zc 5 rfl aI)))) (au rfl (W.skip (End.K (W.sub zv (bX gG (hJ6 (()) ?_))))))))))))
    exact (by simpa using hc20)
   refine zT (zm rfl (zT (aJ rfl (aD rfl (aD (oc (v := .str [41]) (by kernel_rfl)) oz)) rfl (cu toks n hn hnl hok tb ex X a2 zy d2 e2 f2 _ (by unfold Bytes; decide)) SubR.two rfl (zT (zq (Q.not rfl rfl) (zT (zq (ax rfl rfl) (zq (aj rfl rfl) (zk (W.sub (zc 33 rfl (zc 0 rfl (zc 1 rfl (zc 5 rfl aI)))) (aE rfl (fun hc33 => ?_) (fun hc33 => ?_))))))))))))
   ·refine W.skip (End.K (W.sub zv (bX gG (hJ6 (()) ?_))))
    exact (by simpa using hc20)
   refine W.exit (aC (aK (aB (End.K (W.sub zv (bX gG (hJ9 (a2) (d2) (e2) (f2) (o) (hN) (m) ?_)))))))
   exact ⟨h1, h2, h3, h4, hO, hK, hw, by split at h8 <;> omega⟩
  refine z2 (zG (WO.gF rfl rfl (.inr rfl) rfl (WO.gF rfl rfl (.inr rfl) rfl (WO.gF rfl rfl (.inr rfl) rfl (z2 (WO.gF rfl rfl (.inr rfl) rfl (WO.gF rfl rfl (.inr rfl) rfl (WO.gF rfl rfl (.inr rfl) rfl (zG (zq (ax rfl rfl) (zk (W.sub (zc 33 rfl (zc 0 rfl (zc 1 rfl (zc 5 rfl aI)))) (az rfl (W.exit (aC (aK (aB (End.K (W.sub zv (bX gG (hJ9 (a2) (d2) (e2) (f2) (o) (hN) (m) ?_)))))))))))))))))))))
  exact ⟨h1, h2, h3, h4, hO, hK, hw, by split at h8 <;> omega⟩
 refine zr (zm rfl (aJ rfl (aD rfl (aD (oc (v := .str [40]) (by kernel_rfl)) oz)) rfl (cu toks n hn hnl hok tb ex X a zy dp e bd _ (by unfold Bytes; decide)) SubR.two rfl (zk (aE rfl (fun hc7 => ?_) (fun hc7 => ?_)))))
 ·refine am (zm rfl (zm rfl (aJ rfl (aD rfl oz) rfl (ct toks n hn hnl hok tb ex X a zy dp e bd) SubR.two rfl (zq (cm ly rfl rfl) (WO.call1 rfl (aD rfl (aD rfl oz)) rfl (i := 0) rfl (lu n tb X a dp e bd _) SubR.nil (hs' := [_]) rfl rfl (fun v12 D12 hP12 => ?_))))))
  obtain ⟨rfl, d12, e12, f12, g12, h12, rfl⟩ := hP12
  refine WO.nil (End.K (W.sub zv (bX gG (hJ4 (d12) (e12) (f12) ?_))))
  exact ⟨by omega, by omega⟩
 refine W.skip (End.K (W.sub zv (bX gG (hJ4 (dp) (e) (bd) ?_))))
 exact ⟨by omega, by omega⟩

theorem AI (toks : List dS) (n : Nat) (hn : toks.length = n + 1) (hnl : n <= 1048576) (hok : jm toks) (tb : Nat) (ex : Bool) (X a : Nat) (ha : a <= n) (dp e bd : Int) (hla : (tg toks n).1 = 6) (he : e = 0) (hk : (tg toks a).1 = 1) (hI : GM toks n tb ex X (mz n a e * 20 + 1)) : Spec aN 131 [.ptr X 0] [X] [pB X tb n a dp e bd true, ⟨tb, ⟨4, ex, bO toks⟩, false⟩] (NP n tb X a e) := by
 have hlt : a < n := aY hla ha zy
 have hob : Bytes (tg toks a).2.1 := (cQ hok zy).1
 have hol : (tg toks a).2.1.length <= 1048576 := Nat.le_trans (cQ hok (i := a) zy).2 (by decide)
 refine av (cX 131 Tryz.func131) rfl (m := 41) rfl (rs := [.cell 2 26]) rfl (st := [(0, .ptr X 0)]) rfl rfl (fun _ => rfl) (fun E => zr (WO.alloc ia rfl (fun b1 => zk (zr (zm rfl (aJ rfl (aD rfl oz) rfl (ct toks n hn hnl hok tb ex X a zy dp e bd) (SubR.t SubR.two) rfl (zq (cm lx rfl rfl) (zq (zB ka (bz (zi 4) (bz rfl aq)) rfl rfl) (WO.alloc ia rfl (fun b2 => zS aL rfl rfl (i := 0) rfl (by first | rfl | exact aQ rfl ckA) rfl (hs' := [_, _, _, _]) rfl (zk (zr (zm rfl (zq (aF rfl) (zf aZ rfl 1 (zq (ap rfl (zt 2 rfl) bU rfl) (zq (aa rfl (zi 1) rfl zp) (zq (aF rfl) (zf aZ rfl 1 (lM di rfl rfl (i := 2) rfl rfl rfl (hs' := [_, _, _, _]) rfl (zk (zr (zm rfl ?_)))))))))))))))))))))))
 refine zq (zL rfl (zt 0 rfl) bh aL rfl) (WO.call1 rfl (aD rfl (aD rfl oz)) rfl (i := 2) rfl (pE toks n hn hnl hok tb ex X (a + 1) zy dp e bd hla _ _ hob _ _ _ _ _ _ _ _ _ rfl rfl rfl) (SubR.one (zt 2 rfl)) (hs' := [_, _, _]) rfl rfl (fun v19 D19 hP19 => ?_))
 obtain ⟨hN19, ⟨md19, nm19, hnm19, rfl⟩, a19, e19, f19, p19, q19, r19, s19, rfl⟩ := hP19
 have hnr19 : NmR hN19 nm19 := hnm19.elim (fun h => by rw [h.1, h.2]; exact NmR.nil) id
 have hnc19 := hnr19.cell
 refine WO.subH (hs' := _ :: _ :: _ :: _ :: (hN19)) (SubH.op (aG (N := [_]) (G := hN19) (K := [_, _, _]) (X := []))) (zS aL rfl rfl (i := 1) rfl (by first | rfl | exact aQ rfl ckA) rfl (hs' := _ :: _ :: _ :: _ :: _) rfl (zk (W.sub (zc 3 rfl (zc 2 rfl (zc 0 rfl aI))) (zr (zm rfl (zq (aF rfl) (zf aZ rfl 1 (zq (ap rfl (zt 0 rfl) bU rfl) (za rfl (zk (zr (zm rfl (WO.call1 rfl (aD rfl (aD rfl oz)) rfl (i := 0) rfl ((hI a19 dp e19 f19 zy).2.2.2.2 _ (by unfold mz; (repeat' split) <;> omega)) (SubR.one (zt 2 rfl)) (hs' := _ :: _ :: _ :: _) rfl rfl (fun v25 D25 hP25 => ?_))))))))))))))
 obtain ⟨l25, hq25, m25, a25, d25, e25, f25, kv25, nw25, p25, q25, r25, s25, rfl⟩ := hP25
 refine WO.subH (hs' := _ :: _ :: _ :: _ :: (hN19 ++ hq25)) (SubH.op (aG (N := [_]) (G := hq25) (K := [_, _, _]) (X := hN19))) (za rfl (zk (zr (zm rfl (zf eW rfl 10 (zS E5 rfl rfl (i := 1) rfl (qj kv25.cell rfl) (mB kv25.cell rfl) (hs' := _ :: _ :: _ :: _ :: _) rfl (zk (lS (fun (e3 : Int) (f3 : Int) => [(0, .ptr X 0), (2, .ptr b1 0), (3, .ptr b2 0)]) (fun (e3 : Int) (f3 : Int) => (pB X tb n a25 d25 e3 f3 true) :: ⟨b2, ⟨11, true, bS (((4 : Nat) : Int)) (tg toks a).2.1 0 .nils 0 0 md19 nm19 0 false v25⟩, true⟩ :: ⟨b1, ⟨11, true, bS 0 [] 0 .nils 0 0 0 .nils 0 false .nils⟩, true⟩ :: ⟨tb, ⟨4, ex, bO toks⟩, false⟩ :: (hN19 ++ hq25)) (fun (e3 : Int) (f3 : Int) => (e3 = 0 -> e25 = 0)) (fun e3 f3 hI9 => ?_) (fun hJ9 => ?_)))))))))
 ·have j3 := hI9
  refine W.seq (zr (zf il rfl 6 (zq (ap rfl (zt 1 rfl) bU rfl) (zq (aa rfl (zi 0) rfl (ag bj)) (zk (aw rfl (fun hc36 => ?_) (fun hc36 => ?_)))))))
  ·refine am (zm rfl (zq (zL rfl (zt 1 rfl) bh aL rfl) (WO.call1 rfl (aD rfl (aD rfl oz)) rfl (i := 0) rfl (pE toks n hn hnl hok tb ex X a25 zy d25 e3 f3 hla _ _ hob _ _ _ _ _ _ _ _ _ rfl hnc19 kv25.cell) (SubR.one (zt 2 rfl)) (hs' := _ :: _ :: _ :: _) rfl rfl (fun v39 D39 hP39 => ?_))))
   obtain ⟨hN39, ⟨md39, nm39, hnm39, rfl⟩, a39, e39, f39, p39, q39, r39, s39, rfl⟩ := hP39
   have hnc39 : nm39.isCell = true := hnm39.elim (fun h => by rw [h.1]; exact hnc19) NmR.cell
   have hw39 : ∀ y ∈ hN39, y.w = true := hnm39.elim (fun h => by rw [h.2]; exact dr) NmR.w
   refine WO.subH (hs' := _ :: _ :: _ :: _ :: (hN19 ++ hq25 ++ hN39)) (SubH.op (aG (N := [_]) (G := hN39) (K := [_, _, _]) (X := hN19 ++ hq25))) (zS aL rfl rfl (i := 1) rfl (by first | rfl | exact aQ rfl ckA) rfl (hs' := _ :: _ :: _ :: _ :: _) rfl (zk (zr (zq (zL rfl (zt 1 rfl) bh aL rfl) (zS aL rfl rfl (i := 2) rfl (by first | rfl | exact aQ rfl ckA) rfl (hs' := _ :: _ :: _ :: _ :: _) rfl (zk (W.ret ?_)))))))
   refine End.ret (zA rfl (zt 2 rfl) bh aL rfl ResL.nil) (hs' := pB X tb n a39 d25 e39 f39 true :: ((hN19 ++ hq25) ++ hN39)) ⟨⟨4, (tg toks a).2.1, 0, .nils, 0, 0, md39, nm39, 0, false, v25⟩, ((hN19 ++ hq25) ++ hN39), _, a39, d25, e39, f39, rfl, (NOk.of (kv25.up (fun y hy => List.mem_append_left _ (List.mem_append_right _ hy))) hob hol AD (hnm39.elim (fun h => h.1 ▸ hnr19.ok.up (fun y hy => List.mem_append_left _ (List.mem_append_left _ hy))) (fun h => h.ok.up (fun y hy => List.mem_append_right _ hy)))), (gh (gh hnr19.w nw25) hw39), zy, zy, (fun h => absurd he h), zy, rfl⟩ (ww (gh (gh hnr19.w nw25) hw39)) gG
  refine zw (zr (zq (zL rfl (zt 1 rfl) bh aL rfl) (zS aL rfl rfl (i := 2) rfl (by first | rfl | exact aQ rfl ckA) rfl (hs' := _ :: _ :: _ :: _ :: _) rfl (zk (W.ret ?_)))))
  refine End.ret (zA rfl (zt 2 rfl) bh aL rfl ResL.nil) (hs' := pB X tb n a25 d25 e3 f3 true :: (hN19 ++ hq25)) ⟨⟨4, (tg toks a).2.1, 0, .nils, 0, 0, md19, nm19, 0, false, v25⟩, (hN19 ++ hq25), _, a25, d25, e3, f3, rfl, (NOk.of (kv25.up (fun y hy => List.mem_append_right _ hy)) hob hol AD (hnr19.ok.up (fun y hy => List.mem_append_left _ hy))), (gh hnr19.w nw25), zy, zy, (fun h => absurd he h), zy, rfl⟩ (ww (gh hnr19.w nw25)) gG
 refine zr (zm rfl (zq (Q.len ke rfl (F7 kv25)) (zq (aa rfl (zi 2) rfl (aV dM)) (zk (aw rfl (fun hc30 => ?_) (fun hc30 => ?_))))))
 ·refine am (zm rfl (zm rfl (WO.call1 rfl (aD rfl (aD rfl oz)) rfl (i := 0) rfl (wM toks n hn hnl hok tb ex X a25 zy d25 e25 f25 a19) (SubR.one (zt 2 rfl)) (hs' := _ :: _ :: _ :: _) rfl rfl (fun v33 D33 hP33 => ?_))))
  obtain ⟨rfl, e33, f33, g33, rfl⟩ := hP33
  refine WO.nil (End.K (W.sub zv (bX gG (hJ9 (e33) (f33) ?_))))
  exact g33
 refine W.skip (End.K (W.sub zv (bX gG (hJ9 (e25) (f25) ?_))))
 exact (fun h => h)

theorem Ah (toks : List dS) (n : Nat) (hn : toks.length = n + 1) (hnl : n <= 1048576) (hok : jm toks) (tb : Nat) (ex : Bool) (X : Nat) (hla : (tg toks n).1 = 6) : ∀ m, GM toks n tb ex X m := by
 intro m
 induction m using Nat.strongRecOn with
 | _ m ih =>
  intro a dp e bd ha
  refine ⟨fun l hl h => ?_, fun h => ?_, fun h => ?_, fun he hk h => ?_, fun bn h => ?_⟩
  ·exact zI toks n hn hnl hok tb ex X a ha dp e bd hla l hl (ih _ h)
  ·exact uO toks n hn hnl hok tb ex X a ha dp e bd hla (ih _ h)
  ·exact wB toks n hn hnl hok tb ex X a ha dp e bd hla (ih _ h)
  ·exact AI toks n hn hnl hok tb ex X a ha dp e bd hla he hk (ih _ h)
  ·exact wA toks n hn hnl hok tb ex X a ha dp e bd hla bn (ih _ h)
end Go.Proofs.YtndhhgbpcmfeiaaGreatDoor.Ev.P16
