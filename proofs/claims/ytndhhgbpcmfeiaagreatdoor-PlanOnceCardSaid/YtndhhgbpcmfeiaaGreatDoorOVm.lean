/- Chapter 16, by the document: words and levels. -/
import Derived.Test.YtndhhgbpcmfeiaaGreatDoorOVk
namespace Go.Proofs.YtndhhgbpcmfeiaaGreatDoor.Ev.P16
open Go.RowKit
set_option maxRecDepth 100000
set_option maxHeartbeats 1000000
theorem kW (L : List (List Nat)) (hL : L.length <= 1048576) (b : Nat) (ex : Bool) (s : List Nat) (hs : Bytes s) : Spec aN 57 [.slice b 0 L.length 1, .str s] [] [⟨b, ⟨1, ex, L.map AV.str⟩, false⟩] (eQ (fun v => ∃ b : Bool, v = .bool b)) := by
 refine av (cX 57 Tryz.func57) rfl (m := 18) rfl (rs := [.tmp 4]) rfl (st := [(0, .slice b 0 L.length 1), (1, .str s)]) rfl rfl (fun _ => rfl) (fun E => zr (za rfl (zk (W.seq (zr (za (zi 0) (zk (W.block (aM (fun (i : Nat) => [(0, .slice b 0 L.length 1), (1, .str s), (5, .int .i64 ((i : Nat) : Int))]) (fun _ => _) (fun (i : Nat) => i <= L.length) (fun (i : Nat) => L.length - i) (0) (Nat.zero_le _) zv (SubH.refl _) (fun i hI0 ih0 => ?_))))))))))
 have hi := hI0
 refine W.seq (zr (zm rfl (zm rfl (zq (Q.len dk rfl rfl) (zq (aa rfl rfl rfl (ec dM)) (zk (aw rfl (fun hc9 => ?_) (fun hc9 => ?_))))))))
 ·refine zw (W.seq (W.block (zr (zm rfl (zm rfl (zq (ci dk kb rfl rfl zo) (zq (ap rfl (zt 0 rfl) fW (eH zy)) (zm rfl (zq (aa rfl rfl rfl aH) (zk (aw rfl (fun hc17 => ?_) (fun hc17 => ?_))))))))))))
  ·refine zr (za rfl (zk (W.ret (ad (ac (bE (ad (ac (af (z1 rfl) ?_)))))))))
   exact ⟨_, rfl⟩
  refine W.skip (End.KB (End.K (am (zm rfl (zq (aa rfl (zi 1) rfl zp) (za rfl (WO.nil (End.KL (W.sub zv (ih0 (i + 1) ?_ ?_))))))))))
  ·exact zy
  exact zo
 refine W.exit (aC (aK (aB (End.K (zr (za rfl (zk (W.ret (af (z1 rfl) ?_)))))))))
 exact ⟨_, rfl⟩

theorem wQ  : Spec aN 128 [] [] [] (fun v D => ∃ (b : Nat) (L : List (List Nat)), L.length <= 11 /\ v = .slice b 0 L.length 1 /\ D = [⟨b, ⟨1, true, L.map AV.str⟩, true⟩]) := by
 refine av (cX 128 Tryz.func128) rfl (m := 2) rfl (rs := [.tmp 0]) rfl (st := []) rfl rfl (fun _ => rfl) (fun E => zr (za rfl (zk (zr (WO.bslice dk kb ve rfl (bz (oc (v := .str [111, 114]) (by kernel_rfl)) (bz (oc (v := .str [97, 110, 100]) (by kernel_rfl)) (bz (oc (v := .str [117, 110, 108, 101, 115, 115]) (by kernel_rfl)) (bz (oc (v := .str [98, 111, 111, 108]) (by kernel_rfl)) (bz (oc (v := .str [111, 110]) (by kernel_rfl)) (bz (oc (v := .str [105, 103, 110, 111, 114, 105, 110, 103]) (by kernel_rfl)) (bz (oc (v := .str [103, 114, 111, 117, 112, 95, 108, 101, 102, 116]) (by kernel_rfl)) (bz (oc (v := .str [103, 114, 111, 117, 112, 95, 114, 105, 103, 104, 116]) (by kernel_rfl)) (bz (oc (v := .str [98, 121]) (by kernel_rfl)) (bz (oc (v := .str [119, 105, 116, 104, 111, 117, 116]) (by kernel_rfl)) (bz (oc (v := .str [111, 102, 102, 115, 101, 116]) (by kernel_rfl)) aq))))))))))) rfl (cs := [_, _, _, _, _, _, _, _, _, _, _]) rfl rfl rfl (fun b1 => za rfl (zk (W.ret ?_))))))))
 refine End.ret (z1 rfl) (hs' := [⟨b1, ⟨1, true, ([[111, 114], [97, 110, 100], [117, 110, 108, 101, 115, 115], [98, 111, 111, 108], [111, 110], [105, 103, 110, 111, 114, 105, 110, 103], [103, 114, 111, 117, 112, 95, 108, 101, 102, 116], [103, 114, 111, 117, 112, 95, 114, 105, 103, 104, 116], [98, 121], [119, 105, 116, 104, 111, 117, 116], [111, 102, 102, 115, 101, 116]] : List (List Nat)).map AV.str⟩, true⟩]) ⟨b1, [[111, 114], [97, 110, 100], [117, 110, 108, 101, 115, 115], [98, 111, 111, 108], [111, 110], [105, 103, 110, 111, 114, 105, 110, 103], [103, 114, 111, 117, 112, 95, 108, 101, 102, 116], [103, 114, 111, 117, 112, 95, 114, 105, 103, 104, 116], [98, 121], [119, 105, 116, 104, 111, 117, 116], [111, 102, 102, 115, 101, 116]], by decide, rfl, rfl⟩ zW (SubH.of_sublist (List.Sublist.cons_cons _ (List.nil_sublist _)))

theorem CM  : Spec aN 129 [] [] [] (fun v D => ∃ (b : Nat) (L : List (List Nat)), L.length <= 11 /\ v = .slice b 0 L.length 1 /\ D = [⟨b, ⟨1, true, L.map AV.str⟩, true⟩]) := by
 refine av (cX 129 Tryz.func129) rfl (m := 2) rfl (rs := [.tmp 0]) rfl (st := []) rfl rfl (fun _ => rfl) (fun E => zr (za rfl (zk (zr (WO.bslice dk kb ve rfl (bz (oc (v := .str [115, 117, 109]) (by kernel_rfl)) (bz (oc (v := .str [97, 118, 103]) (by kernel_rfl)) (bz (oc (v := .str [109, 105, 110]) (by kernel_rfl)) (bz (oc (v := .str [109, 97, 120]) (by kernel_rfl)) (bz (oc (v := .str [99, 111, 117, 110, 116]) (by kernel_rfl)) (bz (oc (v := .str [116, 111, 112, 107]) (by kernel_rfl)) (bz (oc (v := .str [98, 111, 116, 116, 111, 109, 107]) (by kernel_rfl)) aq))))))) rfl (cs := [_, _, _, _, _, _, _]) rfl rfl rfl (fun b1 => za rfl (zk (W.ret ?_))))))))
 refine End.ret (z1 rfl) (hs' := [⟨b1, ⟨1, true, ([[115, 117, 109], [97, 118, 103], [109, 105, 110], [109, 97, 120], [99, 111, 117, 110, 116], [116, 111, 112, 107], [98, 111, 116, 116, 111, 109, 107]] : List (List Nat)).map AV.str⟩, true⟩]) ⟨b1, [[115, 117, 109], [97, 118, 103], [109, 105, 110], [109, 97, 120], [99, 111, 117, 110, 116], [116, 111, 112, 107], [98, 111, 116, 116, 111, 109, 107]], by decide, rfl, rfl⟩ zW (SubH.of_sublist (List.Sublist.cons_cons _ (List.nil_sublist _)))

theorem pN (m : Nat) : Spec aN 58 [.int .i64 ((m : Nat) : Int)] [] [] (fun v D => ∃ (b : Nat) (L : List (List Nat)), L.length <= 11 /\ v = .slice b 0 L.length 1 /\ D = [⟨b, ⟨1, true, L.map AV.str⟩, true⟩]) := by
 refine av (cX 58 Tryz.func58) rfl (m := 17) rfl (rs := [.tmp 2]) rfl (st := [(0, .int .i64 ((m : Nat) : Int))]) rfl rfl (fun _ => rfl) (fun E => zr (za rfl (zk (W.seq (zr (zm rfl (zk (W.block (zr (zq (aa rfl (zi 0) rfl (ag aA)) (za rfl (zk (aw rfl (fun hc4 => ?_) (fun hc4 => ?_))))))))))))))
 ·refine zr (WO.bslice dk kb ve rfl (bz (oc (v := .str [111, 114]) (by kernel_rfl)) aq) rfl (cs := [_]) rfl rfl rfl (fun b1 => za rfl (zk (W.ret ?_))))
  refine ad (ac (End.ret (z1 rfl) (hs' := [⟨b1, ⟨1, true, ([[111, 114]] : List (List Nat)).map AV.str⟩, true⟩]) ⟨b1, [[111, 114]], by decide, rfl, rfl⟩ zW (SubH.of_sublist (List.Sublist.cons_cons _ (List.nil_sublist _)))))
 refine zr (zq (aa rfl (zi 1) rfl (ag aA)) (za rfl (zk (aw rfl (fun hc7 => ?_) (fun hc7 => ?_)))))
 ·refine zr (WO.bslice dk kb ve rfl (bz (oc (v := .str [97, 110, 100]) (by kernel_rfl)) (bz (oc (v := .str [117, 110, 108, 101, 115, 115]) (by kernel_rfl)) aq)) rfl (cs := [_, _]) rfl rfl rfl (fun b2 => za rfl (zk (W.ret ?_))))
  refine ad (ac (End.ret (z1 rfl) (hs' := [⟨b2, ⟨1, true, ([[97, 110, 100], [117, 110, 108, 101, 115, 115]] : List (List Nat)).map AV.str⟩, true⟩]) ⟨b2, [[97, 110, 100], [117, 110, 108, 101, 115, 115]], by decide, rfl, rfl⟩ zW (SubH.of_sublist (List.Sublist.cons_cons _ (List.nil_sublist _)))))
 refine zr (zq (aa rfl (zi 2) rfl (ag aA)) (za rfl (zk (aw rfl (fun hc10 => ?_) (fun hc10 => ?_)))))
 ·refine zr (WO.bslice dk kb ve rfl (bz (oc (v := .str [61, 61]) (by kernel_rfl)) (bz (oc (v := .str [33, 61]) (by kernel_rfl)) (bz (oc (v := .str [60, 61]) (by kernel_rfl)) (bz (oc (v := .str [62, 61]) (by kernel_rfl)) (bz (oc (v := .str [60]) (by kernel_rfl)) (bz (oc (v := .str [62]) (by kernel_rfl)) aq)))))) rfl (cs := [_, _, _, _, _, _]) rfl rfl rfl (fun b3 => za rfl (zk (W.ret ?_))))
  refine ad (ac (End.ret (z1 rfl) (hs' := [⟨b3, ⟨1, true, ([[61, 61], [33, 61], [60, 61], [62, 61], [60], [62]] : List (List Nat)).map AV.str⟩, true⟩]) ⟨b3, [[61, 61], [33, 61], [60, 61], [62, 61], [60], [62]], by decide, rfl, rfl⟩ zW (SubH.of_sublist (List.Sublist.cons_cons _ (List.nil_sublist _)))))
 refine zr (zq (aa rfl (zi 3) rfl (ag aA)) (za rfl (zk (aw rfl (fun hc13 => ?_) (fun hc13 => ?_)))))
 ·refine zr (WO.bslice dk kb ve rfl (bz (oc (v := .str [43]) (by kernel_rfl)) (bz (oc (v := .str [45]) (by kernel_rfl)) aq)) rfl (cs := [_, _]) rfl rfl rfl (fun b4 => za rfl (zk (W.ret ?_))))
  refine ad (ac (End.ret (z1 rfl) (hs' := [⟨b4, ⟨1, true, ([[43], [45]] : List (List Nat)).map AV.str⟩, true⟩]) ⟨b4, [[43], [45]], by decide, rfl, rfl⟩ zW (SubH.of_sublist (List.Sublist.cons_cons _ (List.nil_sublist _)))))
 refine W.skip (End.KB (End.K (zr (WO.bslice dk kb ve rfl (bz (oc (v := .str [42]) (by kernel_rfl)) (bz (oc (v := .str [47]) (by kernel_rfl)) (bz (oc (v := .str [37]) (by kernel_rfl)) aq))) rfl (cs := [_, _, _]) rfl rfl rfl (fun b5 => za rfl (zk (W.ret ?_)))))))
 refine End.ret (z1 rfl) (hs' := [⟨b5, ⟨1, true, ([[42], [47], [37]] : List (List Nat)).map AV.str⟩, true⟩]) ⟨b5, [[42], [47], [37]], by decide, rfl, rfl⟩ zW (SubH.of_sublist (List.Sublist.cons_cons _ (List.nil_sublist _)))

theorem nS (toks : List dS) (n : Nat) (hn : toks.length = n + 1) (hnl : n <= 1048576) (hok : jm toks) (tb : Nat) (ex : Bool) (X a : Nat) (ha : a <= n) (dp e bd : Int) (hla : (tg toks n).1 = 6) : Spec aN 152 [.ptr X 0] [X] [pB X tb n a dp e bd true, ⟨tb, ⟨4, ex, bO toks⟩, false⟩] (fun v D => ∃ x : Int, v = .int .i64 x /\ ∃ (a2 : Nat) (e2 bd2 : Int), a <= a2 /\ a2 <= n /\ (e ≠ 0 -> e2 = e /\ a2 = a) /\ (e2 = 0 -> e = 0 /\ a < a2) /\ D = [pB X tb n a2 dp e2 bd2 true]) := by
 refine av (cX 152 Tryz.func152) rfl (m := 21) rfl (rs := [.tmp 2]) rfl (st := [(0, .ptr X 0)]) rfl rfl (fun _ => rfl) (fun E => zr (za (zi 0) (zk (zr (zm rfl (aJ rfl (aD rfl oz) rfl (ct toks n hn hnl hok tb ex X a ha dp e bd) SubR.two rfl (WO.alloc mV rfl (fun b1 => WO.store dj rfl rfl (i := 0) rfl rfl (cs := [_, _, _, _]) rfl (hs' := [_, _, _]) rfl (zk (W.seq (zr (zf io rfl 0 (zq (ap rfl (zt 0 rfl) bU rfl) (zq (aa rfl (zi 3) rfl (ag aA)) (zm rfl (ay (d := 9) rfl (fun hc9 => ?_) (fun hc9 => ?_)))))))))))))))))
 ·refine zT (zf BJ rfl 2 (zT (zq (ap rfl (zt 0 rfl) bU rfl) (zT (zq (aa rfl (zi 0) rfl (ag bj)) (zq (aj rfl rfl) (zk (aw rfl (fun hc13 => ?_) (fun hc13 => ?_)))))))))
  ·refine am (zm rfl (zf jR rfl 3 (zq (ap rfl (zt 0 rfl) bU rfl) (WO.call1 rfl (aD rfl (aD (zi 14) (aD rfl oz))) rfl (i := 1) rfl (da n tb X a dp e bd _ _) SubR.nil (hs' := [_, _]) rfl rfl (fun v17 D17 hP17 => ?_)))))
   obtain ⟨rfl, rfl⟩ := hP17
   refine zk (W.sub (zc 0 rfl aI) (zr (zm rfl (WO.call1 rfl (aD rfl (aD (zi 3) oz)) rfl (i := 0) rfl (gb toks n hn hnl hok tb ex X a ha dp (if e = 0 then (((14 : Nat) : Int)) else e) _ hla 3 (by decide)) (SubR.one (zt 1 rfl)) (hs' := [_, _]) rfl rfl (fun v19 D19 hP19 => ?_)))))
   obtain ⟨rfl, a19, e19, f19, p19, q19, r19, s19, rfl⟩ := hP19
   refine zq (cm vV rfl rfl) (za rfl (zk (W.ret ?_)))
   refine End.ret (z1 rfl) (hs' := [pB X tb n a19 dp e19 f19 true]) ⟨_, rfl, a19, e19, f19, p19, q19, (by intro h; have g := r19 (by split <;> omega); exact ⟨by rw [g.1, if_neg h], g.2⟩), (by intro h; exfalso; have g := (s19 h).1; split at g <;> omega), rfl⟩ zW (SubH.of_sublist (by simp))
  refine zw (zr (zm rfl (WO.call1 rfl (aD rfl (aD (zi 3) oz)) rfl (i := 1) rfl (gb toks n hn hnl hok tb ex X a ha dp e bd hla 3 (by decide)) (SubR.one (zt 1 rfl)) (hs' := [_, _]) rfl rfl (fun v19 D19 hP19 => ?_))))
  obtain ⟨rfl, a19, e19, f19, p19, q19, r19, s19, rfl⟩ := hP19
  refine zq (cm vV rfl rfl) (za rfl (zk (W.sub (zc 2 rfl aI) (W.ret ?_))))
  refine End.ret (z1 rfl) (hs' := [pB X tb n a19 dp e19 f19 true]) ⟨_, rfl, a19, e19, f19, p19, q19, r19, (fun h => ⟨(s19 h).1, (s19 h).2.1⟩), rfl⟩ zW (SubH.of_sublist (by simp))
 refine z2 (zG (zq (ax rfl rfl) (zk (az rfl (zw (zr (zm rfl (WO.call1 rfl (aD rfl (aD (zi 3) oz)) rfl (i := 1) rfl (gb toks n hn hnl hok tb ex X a ha dp e bd hla 3 (by decide)) (SubR.one (zt 1 rfl)) (hs' := [_, _]) rfl rfl (fun v19 D19 hP19 => ?_)))))))))
 obtain ⟨rfl, a19, e19, f19, p19, q19, r19, s19, rfl⟩ := hP19
 refine zq (cm vV rfl rfl) (za rfl (zk (W.sub (zc 2 rfl aI) (W.ret ?_))))
 refine End.ret (z1 rfl) (hs' := [pB X tb n a19 dp e19 f19 true]) ⟨_, rfl, a19, e19, f19, p19, q19, r19, (fun h => ⟨(s19 h).1, (s19 h).2.1⟩), rfl⟩ zW (SubH.of_sublist (by simp))
def NmR (hN : ak) (v : AV) : Prop := ∃ N : List (List Nat), Own 1 (N.map AV.str) N.length v hN /\ (∀ x ∈ N, Bytes x) /\ N.length <= 2097152
theorem NmR.nil : NmR [] .nils := ⟨[], Own.nil 1, fun x hx => by simp at hx, by simp⟩
theorem NmR.cell {hN : ak} {v : AV} (h : NmR hN v) : v.isCell = true := let ⟨_, h, _⟩ := h; kB h
theorem NmR.w {hN : ak} {v : AV} (h : NmR hN v) : ∀ y ∈ hN, y.w = true := let ⟨_, h, _⟩ := h; h.w
theorem sZ {cs : List (List Nat)} {x : List Nat} (h : ∀ y ∈ cs, Bytes y) (g : Bytes x) : ∀ y ∈ cs ++ [x], Bytes y := fun y hy => by
 rcases List.mem_append.1 hy with hy | hy
 ·exact h y hy
 ·simp at hy; subst hy; exact g
theorem kU (toks : List dS) (n : Nat) (hn : toks.length = n + 1) (hnl : n <= 1048576) (hok : jm toks) (tb : Nat) (ex : Bool) (X a : Nat) (ha : a <= n) (dp e bd : Int) (hla : (tg toks n).1 = 6) : Spec aN 91 [.ptr X 0] [X] [pB X tb n a dp e bd true, ⟨tb, ⟨4, ex, bO toks⟩, false⟩] (fun v D => ∃ hN : ak, NmR hN v /\ ∃ (a2 : Nat) (e2 bd2 : Int), a <= a2 /\ a2 <= n /\ (e ≠ 0 -> e2 = e /\ a2 = a) /\ (e2 = 0 -> e = 0 /\ a < a2) /\ D = (pB X tb n a2 dp e2 bd2 true) :: hN) := by
 refine av (cX 91 Tryz.func91) rfl (m := 57) rfl (rs := [.tmp 2]) rfl (st := [(0, .ptr X 0)]) rfl rfl (fun _ => rfl) (fun E => zr (za rfl (zk (zr (za rfl (zk (zr (zm rfl (aJ rfl (aD rfl oz) rfl (ct toks n hn hnl hok tb ex X a ha dp e bd) SubR.two rfl (zq (cm ly rfl rfl) (za rfl (zk (zr (zm rfl (WO.call1 rfl (aD rfl (aD (oc (v := .str [40]) (by kernel_rfl)) oz)) rfl (i := 0) rfl (dD toks n hn hnl hok tb ex X a ha dp e bd hla _ (by unfold Bytes; decide)) (SubR.one (zt 0 rfl)) (hs' := [_]) rfl rfl (fun v10 D10 hP10 => ?_))))))))))))))))
 obtain ⟨rfl, a10, e10, f10, p10, q10, r10, s10, rfl⟩ := hP10
 refine zk (W.seq (W.block (ki (fun (a1 : Nat) (e1 : Int) (f1 : Int) (cs : List (List Nat)) (v : AV) (hp : ak) => [(0, .ptr X 0), (3, v), (4, .int .i64 (tg toks a).2.2.2)]) (fun (a1 : Nat) (e1 : Int) (f1 : Int) (cs : List (List Nat)) (v : AV) (hp : ak) => (pB X tb n a1 dp e1 f1 true) :: ⟨tb, ⟨4, ex, bO toks⟩, false⟩ :: hp) (fun (a1 : Nat) (e1 : Int) (f1 : Int) (cs : List (List Nat)) (v : AV) (hp : ak) => a <= a1 /\ a1 <= n /\ (e ≠ 0 -> e1 = e /\ a1 = a) /\ (e1 = 0 -> e = 0 /\ a < a1) /\ Own 1 (cs.map AV.str) cs.length v hp /\ cs.length <= a1 + (if e1 = 0 then 0 else 1) /\ (∀ x ∈ cs, Bytes x)) (fun (a1 : Nat) (e1 : Int) (f1 : Int) (cs : List (List Nat)) (v : AV) (hp : ak) => (if e1 = 0 then 1 + n - a1 else 0)) (a10) (e10) (f10) ([]) (.nils) ([]) ⟨p10, q10, r10, s10, Own.nil 1, by simp, fun x hx => by simp at hx⟩ zv (SubH.refl _) (fun a1 e1 f1 cs v hp hI0 ih0 => ?_))))
 obtain ⟨h1, h2, h3, h4, hO, h5, hB⟩ := hI0
 refine W.seq (zr (zm rfl (zq (aF rfl) (zf dB rfl 3 (zq (ap rfl (zt 0 rfl) bU rfl) (zq (aa rfl (zi 0) rfl (ag bj)) (zm rfl (ay (d := 16) rfl (fun hc16 => ?_) (fun hc16 => ?_)))))))))
 ·have he1 : e1 = 0 := (by simpa using hc16)
  have h6 : cs.length <= a1 := (by rw [if_pos he1] at h5; omega)
  refine zT (zm rfl (zT (aJ rfl (aD rfl (aD (oc (v := .str [41]) (by kernel_rfl)) oz)) rfl (cu toks n hn hnl hok tb ex X a1 zy dp e1 f1 _ (by unfold Bytes; decide)) SubR.two rfl (zT (zq (Q.not rfl rfl) (zq (aj rfl rfl) (zk (aE rfl (fun hc20 => ?_) (fun hc20 => ?_)))))))))
  ·refine zw (W.block (lT (fun (a3 : Nat) (e3 : Int) (f3 : Int) => [(0, .ptr X 0), (3, v), (4, .int .i64 (tg toks a).2.2.2)]) (fun (a3 : Nat) (e3 : Int) (f3 : Int) => (pB X tb n a3 dp e3 f3 true) :: ⟨tb, ⟨4, ex, bO toks⟩, false⟩ :: hp) (fun (a3 : Nat) (e3 : Int) (f3 : Int) => a1 <= a3 /\ a3 <= n) (fun a3 e3 f3 hI7 => ?_) (fun hJ7 => ?_)))
   ·obtain ⟨j1, j2⟩ := hI7
    refine zr (zm rfl (WO.call1 rfl (aD rfl (aD (zi 1) oz)) rfl (i := 0) rfl (gb toks n hn hnl hok tb ex X a3 zy dp e3 f3 hla 1 (by decide)) (SubR.one (zt 0 rfl)) (hs' := _ :: _) rfl rfl (fun v27 D27 hP27 => ?_)))
    obtain ⟨rfl, a27, e27, f27, p27, q27, r27, s27, rfl⟩ := hP27
    refine WO.alloc mV rfl (fun b1 => WO.store dj rfl rfl (i := 0) rfl rfl (cs := [_, _, _, _]) rfl (hs' := _ :: _ :: _ :: _) rfl (zk (W.seq (zr (zm rfl (zq (aF rfl) (zf dB rfl 3 (zq (ap rfl (zt 1 rfl) bU rfl) (zq (aa rfl (zi 0) rfl (ag bj)) (zm rfl (ay (d := 33) rfl (fun hc33 => ?_) (fun hc33 => ?_))))))))))))
    ·refine zT (zf dX rfl 1 (zT (zq (ap rfl (zt 0 rfl) fW rfl) (zT (WO.callE rfl (aD rfl oz) rfl (ur _ (cQ hok zy).1 (by have := (cQ hok (i := a3) zy).2; omega)) SubR.nil rfl (fun v36 hP36 => ?_))))))
     obtain ⟨nb, rfl⟩ := hP36
     refine zT (zq (Q.not rfl rfl) (zq (aj rfl rfl) (zk (aE rfl (fun hc38 => ?_) (fun hc38 => ?_)))))
     ·refine am (zm rfl (zf jR rfl 3 (zq (ap rfl (zt 0 rfl) bU rfl) (WO.call1 rfl (aD rfl (aD (zi 8) (aD rfl oz))) rfl (i := 1) rfl (da n tb X a27 dp e27 f27 _ _) SubR.nil (hs' := _ :: _ :: _) rfl rfl (fun v42 D42 hP42 => ?_)))))
      obtain ⟨rfl, rfl⟩ := hP42
      refine zk (W.sub (zc 5 rfl (zc 0 rfl (zc 3 rfl (zc 4 rfl aI)))) (am (zm rfl (zf dX rfl 1 (zq (ap rfl (zt 1 rfl) fW rfl) (WO.bslice dk kb ve rfl (bz rfl aq) rfl (cs := [_]) rfl rfl rfl (fun b2 => WO.appOwn (e := ⟨b2, _, true⟩) (A := [_, _, _]) jF hO rfl rfl rfl rfl ⟨by first | omega | (simp at * <;> omega), by first | omega | (simp at * <;> omega)⟩ (by decide) rfl rfl (fun v47 hp47 hO47 => za rfl (WO.nil (End.KB (End.KL (W.sub zv (bX (SubH.of_sublist (by simp)) (ih0 (a27) ((if e27 = 0 then (((8 : Nat) : Int)) else e27)) ((if e27 = 0 then (tg toks a3).2.2.2 else f27)) (cs ++ [(tg toks a3).2.1]) (v47) (hp47) ?_ ?_))))))))))))))
      ·exact ⟨by omega, by omega, by intro h; exact absurd (h4 he1).1 h, by intro h; exfalso; split at h <;> omega, by rw [List.map_append, List.length_append]; simpa using hO47, by rw [List.length_append, if_neg (by intro h; split at h <;> omega)]; show cs.length + 1 <= _; omega, sZ hB (cQ hok zy).1⟩
      exact (by rw [if_pos he1, if_neg (by intro h; split at h <;> omega)]; omega)
     refine zw (am (zm rfl (zf dX rfl 1 (zq (ap rfl (zt 0 rfl) fW rfl) (WO.bslice dk kb ve rfl (bz rfl aq) rfl (cs := [_]) rfl rfl rfl (fun b4 => WO.appOwn (e := ⟨b4, _, true⟩) (A := [_, _, _]) jF hO rfl rfl rfl rfl ⟨by first | omega | (simp at * <;> omega), by first | omega | (simp at * <;> omega)⟩ (by decide) rfl rfl (fun v47 hp47 hO47 => za rfl (WO.nil (End.KB (End.KL (W.sub zv (bX (SubH.of_sublist (by simp)) (ih0 (a27) (e27) (f27) (cs ++ [(tg toks a3).2.1]) (v47) (hp47) ?_ ?_)))))))))))))
     ·exact ⟨by omega, by omega, by intro h; exact absurd (h4 he1).1 h, by intro h; have := s27 h; exact ⟨(h4 he1).1, by omega⟩, by rw [List.map_append, List.length_append]; simpa using hO47, by rw [List.length_append]; show cs.length + 1 <= _; split <;> omega, sZ hB (cQ hok zy).1⟩
     exact (by rw [if_pos he1]; split <;> omega)
    refine z2 (z2 (zq (ax rfl rfl) (zk (az rfl (zw (am (zm rfl (zf dX rfl 1 (zq (ap rfl (zt 0 rfl) fW rfl) (WO.bslice dk kb ve rfl (bz rfl aq) rfl (cs := [_]) rfl rfl rfl (fun b6 => WO.appOwn (e := ⟨b6, _, true⟩) (A := [_, _, _]) jF hO rfl rfl rfl rfl ⟨by first | omega | (simp at * <;> omega), by first | omega | (simp at * <;> omega)⟩ (by decide) rfl rfl (fun v47 hp47 hO47 => za rfl (WO.nil (End.KB (End.KL (W.sub zv (bX (SubH.of_sublist (by simp)) (ih0 (a27) (e27) (f27) (cs ++ [(tg toks a3).2.1]) (v47) (hp47) ?_ ?_))))))))))))))))))
    ·exact ⟨by omega, by omega, by intro h; exact absurd (h4 he1).1 h, by intro h; have := s27 h; exact ⟨(h4 he1).1, by omega⟩, by rw [List.map_append, List.length_append]; simpa using hO47, by rw [List.length_append]; show cs.length + 1 <= _; split <;> omega, sZ hB (cQ hok zy).1⟩
    exact (by rw [if_pos he1]; split <;> omega)
   refine zr (zm rfl (zq (Q.len dk rfl hO.len) (zq (aa rfl (zi 0) rfl (aV dM)) (zk (aw rfl (fun hc23 => ?_) (fun hc23 => ?_))))))
   ·refine am (zm rfl (WO.call1 rfl (aD rfl (aD (oc (v := .str [44]) (by kernel_rfl)) oz)) rfl (i := 0) rfl (dD toks n hn hnl hok tb ex X a1 zy dp e1 f1 hla _ (by unfold Bytes; decide)) (SubR.one (zt 0 rfl)) (hs' := _ :: _) rfl rfl (fun v25 D25 hP25 => ?_)))
    obtain ⟨rfl, a25, e25, f25, p25, q25, r25, s25, rfl⟩ := hP25
    refine WO.nil (End.K (W.sub zv (hJ7 (_) (_) (_) ?_)))
    exact ⟨by omega, by omega⟩
   refine W.skip (End.K (W.sub zv (hJ7 (_) (_) (_) ?_)))
   exact ⟨by omega, by omega⟩
  refine W.exit (aC (aK (aB (End.K (zr (zm rfl (WO.call1 rfl (aD rfl (aD (oc (v := .str [41]) (by kernel_rfl)) oz)) rfl (i := 0) rfl (dD toks n hn hnl hok tb ex X a1 zy dp e1 f1 hla _ (by unfold Bytes; decide)) (SubR.one (zt 0 rfl)) (hs' := _ :: _) rfl rfl (fun v49 D49 hP49 => ?_))))))))
  obtain ⟨rfl, a49, e49, f49, p49, q49, r49, s49, rfl⟩ := hP49
  refine zk (W.seq (zr (zm rfl (zq (Q.len dk rfl hO.len) (zq (aa rfl (zi 8) rfl (aV dM)) (zk (W.sub (zc 52 rfl (zc 0 rfl (zc 3 rfl (zc 4 rfl aI)))) (aw rfl (fun hc52 => ?_) (fun hc52 => ?_)))))))))
  ·refine am (zm rfl (zm rfl (WO.call1 rfl (aD rfl (aD (zi 3) (aD rfl oz))) rfl (i := 0) rfl (da n tb X a49 dp e49 f49 _ _) SubR.nil (hs' := _ :: _) rfl rfl (fun v55 D55 hP55 => ?_))))
   obtain ⟨rfl, rfl⟩ := hP55
   refine zk (zr (zm rfl (za rfl (zk (W.ret (End.ret (z1 rfl) (hs' := pB X tb n a49 dp (if e49 = 0 then (((3 : Nat) : Int)) else e49) (if e49 = 0 then (tg toks a).2.2.2 else f49) true :: hp) ⟨hp, ⟨cs, hO, hB, by split at h5 <;> omega⟩, a49, (if e49 = 0 then (((3 : Nat) : Int)) else e49), (if e49 = 0 then (tg toks a).2.2.2 else f49), zy, zy, (by intro h; have := h3 h; have := r49 zy; exact ⟨by rw [if_neg zy]; omega, by omega⟩), (by intro h; exfalso; split at h <;> omega), rfl⟩ (by intro e he; rcases List.mem_cons.1 he with rfl | he; rfl; exact hO.w e he) zX))))))
  refine zw (zr (zm rfl (za rfl (zk (W.ret (End.ret (z1 rfl) (hs' := pB X tb n a49 dp e49 f49 true :: hp) ⟨hp, ⟨cs, hO, hB, by split at h5 <;> omega⟩, a49, e49, f49, zy, zy, (by intro h; have := h3 h; have := r49 zy; omega), (by intro h; have := s49 h; have := h4 this.1; omega), rfl⟩ (by intro e he; rcases List.mem_cons.1 he with rfl | he; rfl; exact hO.w e he) zX))))))
 refine z2 (zG (zq (ax rfl rfl) (zk (az rfl (W.exit (aC (aK (aB (End.K (zr (zm rfl (WO.call1 rfl (aD rfl (aD (oc (v := .str [41]) (by kernel_rfl)) oz)) rfl (i := 0) rfl (dD toks n hn hnl hok tb ex X a1 zy dp e1 f1 hla _ (by unfold Bytes; decide)) (SubR.one (zt 0 rfl)) (hs' := _ :: _) rfl rfl (fun v49 D49 hP49 => ?_)))))))))))))
 obtain ⟨rfl, a49, e49, f49, p49, q49, r49, s49, rfl⟩ := hP49
 refine zk (W.seq (zr (zm rfl (zq (Q.len dk rfl hO.len) (zq (aa rfl (zi 8) rfl (aV dM)) (zk (W.sub (zc 52 rfl (zc 0 rfl (zc 3 rfl (zc 4 rfl aI)))) (aw rfl (fun hc52 => ?_) (fun hc52 => ?_)))))))))
 ·refine am (zm rfl (zm rfl (WO.call1 rfl (aD rfl (aD (zi 3) (aD rfl oz))) rfl (i := 0) rfl (da n tb X a49 dp e49 f49 _ _) SubR.nil (hs' := _ :: _) rfl rfl (fun v55 D55 hP55 => ?_))))
  obtain ⟨rfl, rfl⟩ := hP55
  refine zk (zr (zm rfl (za rfl (zk (W.ret (End.ret (z1 rfl) (hs' := pB X tb n a49 dp (if e49 = 0 then (((3 : Nat) : Int)) else e49) (if e49 = 0 then (tg toks a).2.2.2 else f49) true :: hp) ⟨hp, ⟨cs, hO, hB, by split at h5 <;> omega⟩, a49, (if e49 = 0 then (((3 : Nat) : Int)) else e49), (if e49 = 0 then (tg toks a).2.2.2 else f49), zy, zy, (by intro h; have := h3 h; have := r49 zy; exact ⟨by rw [if_neg zy]; omega, by omega⟩), (by intro h; exfalso; split at h <;> omega), rfl⟩ (by intro e he; rcases List.mem_cons.1 he with rfl | he; rfl; exact hO.w e he) zX))))))
 refine zw (zr (zm rfl (za rfl (zk (W.ret (End.ret (z1 rfl) (hs' := pB X tb n a49 dp e49 f49 true :: hp) ⟨hp, ⟨cs, hO, hB, by split at h5 <;> omega⟩, a49, e49, f49, zy, zy, (by intro h; have := h3 h; have := r49 zy; omega), (by intro h; have := s49 h; have := h4 this.1; omega), rfl⟩ (by intro e he; rcases List.mem_cons.1 he with rfl | he; rfl; exact hO.w e he) zX))))))
end Go.Proofs.YtndhhgbpcmfeiaaGreatDoor.Ev.P16
