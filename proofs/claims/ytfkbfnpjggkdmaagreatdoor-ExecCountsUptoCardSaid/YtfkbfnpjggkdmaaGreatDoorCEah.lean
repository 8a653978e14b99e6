/- Chapter 7, by the document: what ".+" fits, exactly. -/
import Derived.Test.YtfkbfnpjggkdmaaGreatDoorCVk
namespace Go.Proofs.YtfkbfnpjggkdmaaGreatDoor.Ev.P7
open Go.RowKit
set_option maxRecDepth 100000
set_option maxHeartbeats 1000000
theorem Hf : Bytes [46, 43] := by intro c h; simp at h; omega
theorem uj : dm (2 + 1) [46, 43] = true := by decide
theorem Hg : eY (dm 2) 100 [] [46, 43] = some [[46, 43]] := by decide
theorem qd : Spec tab 162 [.str [46, 43]] [] [] (bN (.bool true)) := by
 have h := ic (2 + 1) [46, 43] Hf (by decide) (by decide)
 rw [uj] at h
 exact h
theorem IS.mono {hs hs' : af} {A : List Nat} {i : Nat} {v : AV} (h : IS hs A i v) (hm : ∀ b o, MemH hs b o -> MemH hs' b o) : IS hs' A i v := h.imp id fun ⟨b, ex, h1, h2⟩ => ⟨b, ex, h1, hm _ _ h2⟩
def sq (m : Nat) : List Nat := (List.range m).map (· + 1)
theorem CT (m : Nat) : (sq m).length = m := by simp [sq]
theorem Dt {A B : af} {b : Nat} {o : AObj} (h : MemH A b o) : MemH (A ++ B) b o := let ⟨w, g⟩ := h; ⟨w, List.mem_append_left _ g⟩
theorem Hr {m i : Nat} (h : i + 1 = m) : (sq m).getD i 0 = m := by
 unfold sq
 rw [List.getD_eq_getElem?_getD, List.getElem?_map, List.getElem?_range zy]
 exact h
theorem wX {s : List Nat} {b : Bool} (h : b = decide (s ≠ [])) : bW [AV.bool b, .int .i64 ((0 : Nat) : Int)] = .tuple [.bool (decide (s ≠ [])), .int .i64 ((0 : Nat) : Int)] := by rw [h]; rfl
theorem mO {m x : Nat} : x ∈ sq m ↔ 1 <= x /\ x <= m := by
 unfold sq
 simp only [List.mem_map, List.mem_range]
 constructor
 ·rintro ⟨y, h, rfl⟩; omega
 ·intro h; exact ⟨x - 1, by omega, by omega⟩
theorem mJ {m N : Nat} (h : m <= N) : Inc N (sq m) := by
 refine ⟨?_, fun x hx => by have := mO.1 hx; omega⟩
 unfold sq
 rw [List.pairwise_map]
 exact List.Pairwise.imp (fun h => by omega) List.pairwise_lt_range
theorem BF : ∀ {A B : List Nat}, A.Pairwise (· < ·) -> B.Pairwise (· < ·) -> (∀ x, x ∈ A ↔ x ∈ B) -> A = B
 | [], [], _, _, _ => rfl
 | [], b :: B, _, _, h => absurd ((h b).2 List.mem_cons_self) (by simp)
 | a :: A, [], _, _, h => absurd ((h a).1 List.mem_cons_self) (by simp)
 | a :: A, b :: B, ha, hb, h => by
  rw [List.pairwise_cons] at ha hb
  have h1 := (h a).1 List.mem_cons_self
  have h2 := (h b).2 List.mem_cons_self
  have e : a = b := by
   rcases List.mem_cons.1 h1 with h1 | h1
   ·exact h1
   ·rcases List.mem_cons.1 h2 with h2 | h2
    ·exact h2.symm
    ·have := hb.1 a h1; have := ha.1 b h2; omega
  subst e
  rw [BF ha.2 hb.2 fun x => ?_]
  have := h x
  simp only [List.mem_cons] at this
  constructor
  ·intro hx
   rcases this.1 (.inr hx) with g | g
   ·exact absurd (ha.1 x hx) zy
   ·exact g
  ·intro hx
   rcases this.2 (.inr hx) with g | g
   ·exact absurd (hb.1 x hx) zy
   ·exact g
theorem sj {N : Nat} {A B : List Nat} (ha : Inc N A) (hb : Inc N B) (h : ∀ x, x ∈ A ↔ x ∈ B) : A = B := BF ha.1 hb.1 h
theorem IG {N : Nat} : Inc N [0] := ⟨List.pairwise_singleton _ _, by simp⟩
theorem I6 {N : Nat} {L : List Nat} (hi : Inc N L) (hm : ∀ x, x ∈ L ↔ ∃ y ∈ [0], y < N /\ x = y + 1) : L = sq (min (0 + 1) N) := sj hi (mJ zy) fun x => by
 rw [hm, mO]
 constructor
 ·rintro ⟨y, h1, h2, h3⟩
  have := List.mem_singleton.1 h1
  omega
 ·intro h; exact ⟨0, by simp, by omega, by omega⟩
theorem EL {N k : Nat} {L2 L3 : List Nat} (hi : Inc N L3) (hm : ∀ x, x ∈ L3 ↔ (x ∈ sq (min (k + 1) N) \/ x ∈ L2)) (h2 : ∀ x, x ∈ L2 ↔ ∃ y ∈ sq (min (k + 1) N), y < N /\ x = y + 1) : L3 = sq (min (k + 1 + 1) N) := sj hi (mJ zy) fun x => by
 rw [hm, h2, mO, mO]
 constructor
 ·rintro (h | ⟨y, h1, h2, h3⟩)
  ·omega
  ·have := mO.1 h1
   omega
 ·intro h
  by_cases h1 : x <= min (k + 1) N
  ·exact .inl zy
  ·exact .inr ⟨x - 1, mO.2 zy, by omega, by omega⟩
theorem Hb (s : List Nat) (hS : Bytes s) (hsl : s.length <= 64) (hs : af) (hro : ∀ e ∈ hs, e.w = false) (v : AV) (hz : IS hs [0] 0 v) : Spec tab 279 [.str [46], .int .u8 ((43 : Nat) : Int), .str s, v] [] hs (fun v D => IS D (sq s.length) 0 v /\ ∀ e ∈ D, e.w = true) := by
 refine ac (bz 279 Tryz.func279) rfl (m := 50) rfl (rs := [.tmp 8]) rfl (st := [(0, .str [46]), (1, .int .u8 ((43 : Nat) : Int)), (2, .str s), (3, v)]) rfl rfl (fun _ => rfl) (fun E => zr (za rfl (zk (zr (zm rfl (zm rfl (zm rfl (WO.call0 rfl (aj rfl (aj rfl (aj rfl oz))) rfl (fz s hS hsl hs hro [0] v IG hz) (aN hro) rfl (fun v15 D15 hP15 => ?_)))))))))
 obtain ⟨⟨L1, hi1, hm1, hz1⟩, hw1⟩ := hP15
 obtain rfl : L1 = sq (min (0 + 1) s.length) := I6 hi1 hm1
 refine WO.subH (hs' := (hs ++ D15)) (SubH.op (aw (N := []) (G := D15) (K := []) (X := hs))) (za rfl (zk (W.seq (zr (zm rfl (zq (aa rfl (zu 42) rfl (ai (p := false) rfl)) (zm rfl (zT (zm rfl (zT (zq (aa rfl (zu 43) rfl (ai (p := true) rfl)) (zq (aF rfl rfl) (zk (W.condT rfl (zr (za (zi 0) (zk (W.block (bI (fun (k : Nat) (z : AV) (G : af) => [(0, .str [46]), (1, .int .u8 ((43 : Nat) : Int)), (2, .str s), (3, v), (9, z), (10, .int .i64 ((k : Nat) : Int))]) (fun (k : Nat) (z : AV) (G : af) => hs ++ G) (fun (k : Nat) (z : AV) (G : af) => IS G (sq (min (k + 1) s.length)) 0 z /\ (∀ e ∈ G, e.w = true) /\ k <= s.length) (fun (k : Nat) (z : AV) (G : af) => s.length - k) (0) (v15) (D15) ⟨hz1, hw1, by omega⟩ zv (SubH.refl _) (fun k z G hI0 ih0 => ?_))))))))))))))))))))
 obtain ⟨hzk, hGw, hk⟩ := hI0
 refine W.seq (zr (zm rfl (zm rfl (zq (Q.len cf rfl rfl) (zq (aa rfl rfl rfl (bu bY)) (zk (aB rfl (fun hc25 => ?_) (fun hc25 => ?_))))))))
 ·refine zw (W.seq (W.block (zr (zm rfl (zm rfl (zm rfl (zm rfl (WO.call0 rfl (aj rfl (aj rfl (aj rfl oz))) rfl (fz s hS hsl (ro (hs ++ G)) ie (sq (min (k + 1) s.length)) z (mJ zy) (hzk.mono fun b o h => (MemH.app h).ro)) (SubR.ro (SubH.refl _)) rfl (fun v32 D32 hP32 => ?_)))))))))
  obtain ⟨⟨L2, hi2, hm2, hz2⟩, hw2⟩ := hP32
  refine WO.subH (hs' := (hs ++ G ++ D32)) (SubH.op (aw (N := []) (G := D32) (K := []) (X := hs ++ G))) (WO.call0 rfl (aj rfl (aj rfl oz)) rfl (yj (ro ((hs ++ G) ++ D32)) ie s.length (sq (min (k + 1) s.length)) L2 _ _ (hzk.mono fun b o h => (Dt (MemH.app h)).ro) (hz2.mono fun b o h => (MemH.app h).ro) (mJ zy) hi2 hsl) (SubR.ro (SubH.refl _)) rfl (fun v33 D33 hP33 => ?_))
  obtain ⟨⟨L3, hi3, hm3, hz3⟩, hw3⟩ := hP33
  obtain rfl : L3 = sq (min (k + 1 + 1) s.length) := EL hi3 hm3 hm2
  refine WO.subH (hs' := (hs ++ G ++ D32 ++ D33)) (SubH.op (aw (N := []) (G := D33) (K := []) (X := hs ++ G ++ D32))) (za rfl (zk (W.seq (zr (zm rfl (zq (Q.len aP rfl (fZ hz3)) (zm rfl (zq (Q.len aP rfl (fZ hzk)) (zq (aa rfl rfl rfl (ai aG)) (zk (W.sub (zc 38 rfl (zc 11 rfl (zc 0 rfl (zc 1 rfl (zc 2 rfl (zc 3 rfl (zc 9 rfl (zc 10 rfl aI)))))))) (aB rfl (fun hc38 => ?_) (fun hc38 => ?_)))))))))))))
  ·refine W.exit (am (End.KB_miss rfl (am (aq (ap (End.K (W.seq (zr (zm rfl (zq (aa rfl (zu 42) rfl (ai (p := false) rfl)) (zm rfl (zT (zm rfl (zT (zq (aa rfl (zu 63) rfl (ai (p := false) rfl)) (zq (aF rfl rfl) (zk (W.condF rfl (zw (zr (zm rfl (za rfl (zk (W.sub (zc 8 rfl aI) (W.ret ?_)))))))))))))))))))))))))
   refine End.ret (z1 rfl) (hs' := G) ⟨by have e : min (k + 1) s.length = s.length := (by simp only [CT, Nat.sub_zero] at hc38; omega); rw [e] at hzk; exact hzk, hGw⟩ hGw (SubH.of_sublist (by simp))
  refine zw (W.reg (zm rfl (za rfl (WO.nil (End.KB (End.K (W.reg (zm rfl (zq (aa rfl (zi 1) rfl zp) (za rfl (WO.nil (End.KL (W.sub zv (cz (SubH.of_sublist (by simp)) (ih0 (k + 1) (v33) (D33) ?_ ?_)))))))))))))))
  ·exact ⟨hz3, hw3, by omega⟩
  exact zo
 refine W.exit (am (aq (ap (End.K (W.seq (zr (zm rfl (zq (aa rfl (zu 42) rfl (ai (p := false) rfl)) (zm rfl (zT (zm rfl (zT (zq (aa rfl (zu 63) rfl (ai (p := false) rfl)) (zq (aF rfl rfl) (zk (W.condF rfl (zw (W.sub (zc 9 rfl aI) (zr (zm rfl (za rfl (zk (W.ret ?_)))))))))))))))))))))))
 refine End.ret (z1 rfl) (hs' := G) ⟨by have e : min (k + 1) s.length = s.length := zy; rw [e] at hzk; exact hzk, hGw⟩ hGw (SubH.of_sublist (by simp))

theorem JQ (s : List Nat) (hS : Bytes s) (hsl : s.length <= 64) (hs : af) (hro : ∀ e ∈ hs, e.w = false) (v : AV) (hz : IS hs [0] 0 v) : Spec tab 253 [.str [46, 43], .str s, v] [] hs (fun v D => IS D (sq s.length) 0 v /\ ∀ e ∈ D, e.w = true) := by
 refine ac (bz 253 Tryz.func253) rfl (m := 56) rfl (rs := [.tmp 6]) rfl (st := [(0, .str [46, 43]), (1, .str s), (2, v)]) rfl rfl (fun _ => rfl) (fun E => zr (za rfl (zk (zr (za (zi 0) (zk (W.seq (W.block (W.loop (W.seq (zr (zm rfl (zm rfl (zq (Q.len cf rfl rfl) (zq (aa rfl rfl rfl (bu (p := true) rfl)) (zk (W.condT rfl (zw (W.block (zr (zm rfl (zm rfl (ak rfl (aj rfl (aj rfl oz)) rfl (wx [46, 43] Hf (by decide) 0 (dm 2) 2 (ic 2) (by decide) (n := 1) rfl) SubR.nil rfl ?_)))))))))))))))))))))))
 refine za rfl (zk (zr (za (zu 0) (zk (W.seq (zr (zm rfl (zm rfl (zq (Q.len cf rfl rfl) (zq (aa rfl rfl rfl (bu (p := true) rfl)) (zm rfl (zT (zm rfl (zT (zm rfl (zT (zq (dY (c := 43) cf rfl rfl (by decide) rfl) (zT (zq (aa rfl (zu 42) rfl (ai (p := false) rfl)) (zT (zm rfl (zT (zm rfl ?_)))))))))))))))))))))))
 refine zT (zm rfl (zT (zq (dY (c := 43) cf rfl rfl (by decide) rfl) (zT (zq (aa rfl (zu 43) rfl (ai (p := true) rfl)) (zT (zq (aF rfl rfl) (zT (zm rfl (z2 (z2 (zT (zq (aA rfl rfl) (zq (aA rfl rfl) (zk (W.sub (zc 38 rfl (zc 9 rfl (zc 8 rfl (zc 7 rfl (zc 0 rfl (zc 1 rfl (zc 2 rfl aI))))))) (W.condT rfl (W.reg (zm rfl (zm rfl (zq (dY (c := 43) cf rfl rfl (by decide) rfl) ?_)))))))))))))))))))))
 refine za rfl (zk (zr (zm rfl (zm rfl (zm rfl (zq (gi cf rfl rfl (by decide) (r := [46]) (by decide)) (zm rfl (zm rfl (zm rfl (WO.call0 rfl (aj rfl (aj rfl (aj rfl (aj rfl oz)))) rfl (Hb s hS hsl hs hro v hz) (aN hro) rfl (fun v49 D49 hP49 => WO.subH (hs' := (hs ++ D49)) (SubH.op (aw (N := []) (G := D49) (K := []) (X := hs))) (za rfl (zk (zr (zm rfl (za rfl (zk (W.sub (zc 7 rfl (zc 2 rfl (zc 9 rfl (zc 0 rfl (zc 1 rfl aI))))) (zr (zm rfl (zq (aa rfl (zu 0) rfl (bd (p := true) rfl)) (zk (W.condT rfl ?_)))))))))))))))))))))))
 refine W.reg (zm rfl (zq (aa rfl (zi 1) rfl (bc (c := (((2 : Nat)) : Int)) (by decide))) (za rfl (WO.nil (End.KB (End.KL (W.loop (W.seq (zr (zm rfl (zm rfl (zq (Q.len cf rfl rfl) (zq (aa rfl rfl rfl (bu (p := false) rfl)) (zk (W.condF rfl (W.exit (am (aq (ap (End.K (zr (zm rfl (za rfl (zk (W.sub (zc 6 rfl aI) (W.ret ?_))))))))))))))))))))))))))
 refine End.ret (z1 rfl) (hs' := D49) hP49 hP49.2 (SubH.of_sublist (by simp))

theorem Iw (s : List Nat) (hS : Bytes s) (hsl : s.length <= 64) (hs : af) (hro : ∀ e ∈ hs, e.w = false) (v : AV) (hz : IS hs [0] 0 v) : Spec tab 211 [.str [46, 43], .str s, v] [] hs (fun v D => IS D (sq s.length) 0 v /\ ∀ e ∈ D, e.w = true) := by
 refine ac (bz 211 Tryz.func211) rfl (m := 32) rfl (rs := [.tmp 6]) rfl (st := [(0, .str [46, 43]), (1, .str s), (2, v)]) rfl rfl (fun _ => rfl) (fun E => zr (za rfl (zk (zr (zm rfl (WO.call0 rfl (aj rfl oz) rfl (oP [46, 43] Hf (by decide) (dm 2) 2 (ic 2) (by decide)) SubR.nil rfl (fun v13 D13 hP13 => ?_)))))))
 obtain ⟨L, bL, exL, hL, rfl, rfl⟩ := tB (d := 2) uj hP13
 rw [Hg] at hL
 obtain rfl := Option.some.inj hL
 refine zm rfl (zq (Q.extract rfl rfl) (zq (Q.extract rfl rfl) (za rfl (za rfl (zk (zr (za rfl (zk (W.seq (zr (za (zi 0) (zk (W.block (W.loop (W.seq (zr (zm rfl (zm rfl (zq (Q.len mY rfl rfl) (zq (aa rfl rfl rfl (bu (p := true) rfl)) (zk (W.condT rfl (zw ?_)))))))))))))))))))))))
 refine W.seq (W.block (W.reg (zm rfl (zm rfl (zm rfl (zq (ao mY C9 rfl rfl zo (o' := 0) rfl) (zq (ag rfl (zt 0 rfl) gP rfl) (zm rfl (zm rfl (WO.call0 rfl (aj rfl (aj rfl (aj rfl oz))) rfl (JQ s hS hsl hs hro v hz) (aQ (aN hro)) rfl (fun v29 D29 hP29 => WO.subH (hs' := _ :: (hs ++ D29)) (SubH.op (aw (N := []) (G := D29) (K := [_]) (X := hs))) (WO.call0 rfl (aj rfl (aj rfl oz)) rfl (yj (ro (hs ++ D29)) ie s.length [] (sq s.length) _ _ (.inl ⟨rfl, rfl⟩) (hP29.1.mono fun b o h => (MemH.app h).ro) (Inc.nil _) (mJ zy) hsl) (SubR.ro gc) rfl (fun v30 D30 hP30 => ?_)))))))))))))
 obtain ⟨⟨L3, hi3, hm3, hz3⟩, hw3⟩ := hP30
 obtain rfl : L3 = sq s.length := sj hi3 (mJ zy) (fun x => by rw [hm3 x]; simp)
 refine WO.subH (hs' := _ :: (hs ++ D29 ++ D30)) (SubH.op (aw (N := []) (G := D30) (K := [_]) (X := hs ++ D29))) (za rfl (WO.nil (End.KB (End.K (W.sub (zc 9 rfl (zc 10 rfl (zc 7 rfl (zc 1 rfl (zc 2 rfl aI))))) (W.reg (zm rfl (zq (aa rfl (zi 1) rfl (bc (c := (((1 : Nat)) : Int)) (by decide))) (za rfl (WO.nil (End.KL (W.loop (W.seq (zr (zm rfl (zm rfl (zq (Q.len mY rfl rfl) (zq (aa rfl rfl rfl (bu (p := false) rfl)) (zk (W.condF rfl (W.exit (am (aq (ap (End.K (zr (zm rfl ?_)))))))))))))))))))))))))))
 refine za rfl (zk (W.ret ?_))
 refine End.ret (z1 rfl) (hs' := D30) ⟨hz3, hw3⟩ hw3 gc

theorem Gk  : Spec tab 163 [.str [46, 43]] [] [] (bN (.int .i64 ((0 : Nat) : Int))) := by
 refine ac (bz 163 Tryz.func163) rfl (m := 43) rfl (rs := [.tmp 2]) rfl (st := [(0, .str [46, 43])]) rfl rfl (fun _ => rfl) (fun E => zr (za (zi 0) (zk (zr (za (zi 0) (za (zi 0) (zk (W.seq (zr (za (zi 0) (zk (W.block (W.loop (W.seq (zr (zm rfl (zm rfl (zq (Q.len cf rfl rfl) (zq (aa rfl rfl rfl (bu (p := true) rfl)) (zk (W.condT rfl (zw (W.seq ?_)))))))))))))))))))))))
 refine W.block (zr (zm rfl (zm rfl (zq (dY (c := 46) cf rfl rfl (by decide) rfl) (zk (W.block (zr (zq (aa rfl (zu 92) rfl (ai (p := false) rfl)) (za rfl (zk (W.condF rfl (zr (zq (aa rfl (zu 91) rfl (ai (p := false) rfl)) (za rfl (zk (W.condF rfl (zr (zq (aa rfl (zu 40) rfl (ai (p := false) rfl)) (za rfl (zk (W.condF rfl (zr (zq (aa rfl (zu 41) rfl (ai (p := false) rfl)) ?_)))))))))))))))))))))))
 refine za rfl (zk (W.sub (zc 38 rfl (zc 5 rfl (zc 4 rfl (zc 3 rfl (zc 0 rfl aI))))) (W.condF rfl (W.skip (End.KB (End.KB (End.K (W.reg (zm rfl (zq (aa rfl (zi 1) rfl (bc (c := (((1 : Nat)) : Int)) (by decide))) (za rfl (WO.nil (End.KL (W.loop (W.seq (zr (zm rfl (zm rfl (zq (Q.len cf rfl rfl) (zq (aa rfl rfl rfl (bu (p := true) rfl)) (zk (W.condT rfl (zw (W.seq (W.block ?_)))))))))))))))))))))))))
 refine zr (zm rfl (zm rfl (zq (dY (c := 43) cf rfl rfl (by decide) rfl) (zk (W.block (zr (zq (aa rfl (zu 92) rfl (ai (p := false) rfl)) (za rfl (zk (W.condF rfl (zr (zq (aa rfl (zu 91) rfl (ai (p := false) rfl)) (za rfl (zk (W.condF rfl (zr (zq (aa rfl (zu 40) rfl (ai (p := false) rfl)) (za rfl (zk (W.sub (zc 31 rfl (zc 16 rfl (zc 5 rfl (zc 4 rfl (zc 3 rfl (zc 0 rfl aI)))))) (W.condF rfl (zr (zq (aa rfl (zu 41) rfl (ai (p := false) rfl)) ?_)))))))))))))))))))))))
 refine za rfl (zk (W.condF rfl (W.skip (End.KB (End.KB (End.K (W.reg (zm rfl (zq (aa rfl (zi 1) rfl (bc (c := (((2 : Nat)) : Int)) (by decide))) (za rfl (WO.nil (End.KL (W.loop (W.seq (zr (zm rfl (zm rfl (zq (Q.len cf rfl rfl) (zq (aa rfl rfl rfl (bu (p := false) rfl)) (zk (W.condF rfl (W.exit (am (aq (ap (End.K (zr (zm rfl ?_))))))))))))))))))))))))))))
 refine za rfl (zk (W.sub (zc 2 rfl aI) (W.ret (ae (z1 rfl) ?_))))
 rfl

theorem Bb  : Spec tab 127 [.str [46, 43]] [] [] (bN (.int .i64 ((0 : Nat) : Int))) := by
 refine ac (bz 127 Tryz.func127) rfl (m := 12) rfl (rs := [.tmp 2]) rfl (st := [(0, .str [46, 43])]) rfl rfl (fun _ => rfl) (fun E => zr (za (zi 0) (zk (W.seq (zr (zm rfl (zq (Q.len cf rfl rfl) (zq (aa rfl (zi 64) rfl (aJ (p := false) rfl)) (zk (W.condF rfl (zw (W.seq (zr (zm rfl (ak rfl (aj rfl oz) rfl (qd) SubR.nil rfl (zq (Q.not rfl rfl) (zk (W.condF rfl (zw (W.seq (zr (zm rfl (ak rfl (aj rfl oz) rfl Gk SubR.nil rfl ?_)))))))))))))))))))))))
 refine zq (aa rfl (zi 8) rfl (aJ (p := false) rfl)) (zk (W.condF rfl (zw (zr (za (zi 0) (zk (W.ret (ae (z1 rfl) ?_))))))))
 rfl

theorem fits1 (s : List Nat) (hS : Bytes s) (hsl : s.length <= 64) : Spec tab 165 [.str [46, 43], .str s] [] [] (bN (.tuple [.bool (decide (s ≠ [])), .int .i64 ((0 : Nat) : Int)])) := by
 have hql := CT s.length
 refine ac (bz 165 Tryz.func165) rfl (m := 34) rfl (rs := [.tmp 4, .tmp 5]) rfl (st := [(0, .str [46, 43]), (1, .str s)]) rfl rfl (fun _ => rfl) (fun E => zr (za rfl (za (zi 0) (zk (W.seq (zr (zm rfl (ak rfl (aj rfl oz) rfl Bb SubR.nil rfl (za rfl (zk (zr (zm rfl (zq (aa rfl (zi 0) rfl (bd (p := false) rfl)) (zk (W.condF rfl (zw (W.seq (zr (zm rfl (zq (Q.len cf rfl rfl) (zq (aa rfl (zi 64) rfl (aJ bY)) (zk (aB rfl (fun hc15 => ?_) (fun hc15 => ?_))))))))))))))))))))))))
 ·exfalso; omega
 refine zw (zr (zm rfl (zm rfl (WO.bslice aP dn sS rfl (cy (zi 0) dE) rfl (cs := [_]) rfl rfl rfl (fun b1 => WO.call0 rfl (aj rfl (aj rfl (aj rfl oz))) rfl (Iw s hS hsl [⟨b1, ⟨1, true, [.int .i64 ((0 : Nat) : Int)]⟩, false⟩] (by simp) (.slice b1 0 1 1) (.inr ⟨b1, true, rfl, false, by simp [cI]⟩)) (SubR.one (zt 0 rfl)) rfl (fun v19 D19 hP19 => WO.subH (hs' := _ :: (D19)) (SubH.op (aw (N := []) (G := D19) (K := [_]) (X := []))) (za rfl (zk (W.sub (zc 7 rfl (zc 1 rfl aI)) (zr (zm rfl (zq (Q.len aP rfl (fZ hP19.1)) (zq (aa rfl (zi 0) rfl (aJ bY)) (zm rfl (aC (d := 23) rfl (fun hc23 => ?_) (fun hc23 => ?_))))))))))))))))
 ·obtain ⟨b0, ex0, rfl, w0, m0⟩ := fo hP19.1 zy
  refine zT (zm rfl (zT (zm rfl (zT (zq (Q.len aP rfl rfl) (zT (zq (aa rfl (zi 1) rfl (bM (oe zo))) (zT (zq (bj aP dn rfl rfl zo) (zT (zq (ag rfl (List.mem_cons_of_mem _ m0) bH (eX (L := sq s.length) zy)) (zT (zm rfl (zT (zq (Q.len cf rfl rfl) (zT (zq (aa rfl rfl rfl (ai aG)) (zq (aA rfl rfl) (za rfl (za (zi 0) (zk (W.sub (zc 5 rfl (zc 4 rfl aI)) (W.ret ?_)))))))))))))))))))))))
  refine ae (ResL.tmp rfl (z1 rfl)) ?_
  exact wX (decide_eq_decide.2 ⟨fun _ h => (by have h2 : s.length = 0 := (by rw [h]; rfl); omega), fun _ => Hr zy⟩)
 refine z2 (z2 (z2 (z2 (zG (zq (aF rfl rfl) (za rfl (za (zi 0) (zk (W.sub (zc 5 rfl (zc 4 rfl aI)) (W.ret (ae (ResL.tmp rfl (z1 rfl)) ?_)))))))))))
 exact wX (decide_eq_false (fun h => h (List.eq_nil_of_length_eq_zero zy))).symm

theorem IZ  : Spec tab 72 [.str [97]] [] [] (bN (.bool true)) := by
 refine ac (bz 72 Tryz.func72) rfl (m := 54) rfl (rs := [.tmp 2]) rfl (st := [(0, .str [97])]) rfl rfl (fun _ => rfl) (fun E => zr (za rfl (zk (W.seq (zr (za (zi 0) (zk (W.block (W.loop (W.seq (zr (zm rfl (zm rfl (zq (Q.len cf rfl rfl) (zq (aa rfl rfl rfl (bu (p := true) rfl)) (zk (W.condT rfl (zw (W.seq (W.block (zr (zm rfl (zm rfl ?_)))))))))))))))))))))))
 refine zq (dY (c := 97) cf rfl rfl (by decide) rfl) (za rfl (zk (zr (zm rfl (zq (aa rfl (zu 97) rfl (bp (p := true) rfl)) (zm rfl (zT (zm rfl (zT (zq (aa rfl (zu 122) rfl (aZ (p := true) rfl)) (zq (aA rfl rfl) (zm rfl (z2 (zG (aW rfl rfl (.inr rfl) rfl (aW rfl rfl (.inr rfl) rfl (zG (zq (aA rfl rfl) (zm rfl (z2 (zq (aA rfl rfl) ?_)))))))))))))))))))))
 refine za rfl (zk (W.sub (zc 5 rfl (zc 4 rfl (zc 3 rfl (zc 0 rfl aI)))) (zr (zm rfl (zq (Q.not rfl rfl) (zm rfl (z2 (zG (aW rfl rfl (.inr rfl) rfl (aW rfl rfl (.inr rfl) rfl (z2 (aW rfl rfl (.inr rfl) rfl (aW rfl rfl (.inr rfl) rfl (zG (zq (aF rfl rfl) (zk (W.sub (zc 46 rfl (zc 3 rfl (zc 0 rfl aI))) (W.condF rfl (W.skip (End.KB (End.K (W.reg ?_))))))))))))))))))))))
 refine zm rfl (zq (aa rfl (zi 1) rfl (bc (c := (((1 : Nat)) : Int)) (by decide))) (za rfl (WO.nil (End.KL (W.loop (W.seq (zr (zm rfl (zm rfl (zq (Q.len cf rfl rfl) (zq (aa rfl rfl rfl (bu (p := false) rfl)) (zk (W.condF rfl (W.exit (am (aq (ap (End.K (zr (zm rfl (zq (aa rfl (oc (v := .str []) (by kernel_rfl)) rfl (AT (p := true) rfl)) (zm rfl (zT (zm rfl (zT (zq (Q.len cf rfl rfl) ?_))))))))))))))))))))))))))
 refine zT (zq (aa rfl (zi 32) rfl (aZ (p := true) rfl)) (zq (aA rfl rfl) (za rfl (zk (W.sub (zc 2 rfl aI) (W.ret (ae (z1 rfl) ?_)))))))
 rfl

theorem mchk1  : Spec tab 92 [.agg [.int .i64 ((3 : Nat) : Int), .str [97], .str [46, 43]]] [] [] (bN (.int .i64 ((0 : Nat) : Int))) := by
 refine ac (bz 92 Tryz.func92) rfl (m := 25) rfl (rs := [.tmp 2]) rfl (st := [(0, .agg [.int .i64 ((3 : Nat) : Int), .str [97], .str [46, 43]])]) rfl rfl (fun _ => rfl) (fun E => zr (WO.box rfl rfl (DU _ rfl) rfl (fun b1 => za (zi 0) (zk (W.seq (zr (zf iM rfl 0 (zq (ag rfl (zt 0 rfl) bH rfl) (zq (aa rfl (zi 1) rfl (bu (p := false) rfl)) (zm rfl (zT (zf iM rfl 0 (zT (zq (ag rfl (zt 0 rfl) bH rfl) (zT (zq (aa rfl (zi 4) rfl (aJ (p := false) rfl)) (zq (aF rfl rfl) (zk (W.condF rfl (zw (W.seq (zr (zf sc rfl 1 ?_)))))))))))))))))))))))
 refine zq (ag rfl (zt 0 rfl) gP rfl) (ak rfl (aj rfl oz) rfl IZ SubR.nil rfl (zq (Q.not rfl rfl) (zk (W.condF rfl (zw (W.sub (zc 1 rfl aI) (W.seq (zr (zf kT rfl 2 (zq (ag rfl (zt 0 rfl) gP rfl) (zq (Q.len cf rfl rfl) (zq (aa rfl (zi 64) rfl (aJ (p := false) rfl)) (zk (W.condF rfl (zw (W.seq (zr (zf iM rfl 0 (zq (ag rfl (zt 0 rfl) bH rfl) (zq (aa rfl (zi 2) rfl (aJ (p := true) rfl)) (zk (W.condT rfl (zr ?_)))))))))))))))))))))))
 refine zf kT rfl 2 (zq (ag rfl (zt 0 rfl) gP rfl) (ak rfl (aj rfl oz) rfl Bb SubR.nil rfl (za rfl (zk (W.ret (ad (ae (z1 rfl) ?_)))))))
 rfl
end Go.Proofs.YtfkbfnpjggkdmaaGreatDoor.Ev.P7
/- ExecCounts: the matcher a=~".+" fits labels whose value of a is not empty, and no others. -/
namespace Go.Proofs.YtfkbfnpjggkdmaaGreatDoor.Ev
open Go.RowKit
set_option maxRecDepth 100000
abbrev mA : ed := (3, [97], [46, 43])
theorem FO {tb : Tab} {f : Nat} {args : List AV} {v : AV} (h : Spec tb f args [] [] (bN v)) : Spec tb f args [] [] (ij fun w => w = v) := h
theorem Bc : nE mA = 0 := by
 obtain ⟨v, hv, rfl⟩ := n6 (FO P7.mchk1) rfl (fun v h => by subst h; rfl)
 show (match kD 92 [.agg [.int .i64 3, .str [97], .str [46, 43]]] with
  | some (.int .i64 x) => x
  | _ => 0) = 0
 have hv : kD 92 [.agg [.int .i64 3, .str [97], .str [46, 43]]] = _ := hv
 rw [hv]
 rfl
theorem Gt {s : List Nat} (hS : Bytes s) (hl : s.length <= 64) : tP [46, 43] s = decide (s ≠ []) := by
 obtain ⟨v, hv, rfl⟩ := n6 (FO (P7.fits1 s hS hl)) rfl (fun v h => by subst h; rfl)
 unfold tP
 rw [hv]
theorem Ej {A : List bA} (hA : LBd A) (hk : JG A A.length) : fitB mA A = decide (gt A [97] ≠ []) := by
 unfold fitB
 rw [if_neg (by rw [Bc]; simp), if_neg (by decide)]
 show (tP [46, 43] (gt A [97]) == decide ((3 : Int) = 3)) = _
 have h64 : ∀ (B : List bA), (∀ x ∈ B, x.2.length <= 64) -> (gt B [97]).length <= 64 := by
  intro B
  induction B with
  | nil => intro _; exact Nat.zero_le _
  | cons x B ih =>
   intro h
   unfold gt
   split
   ·exact h x List.mem_cons_self
   ·exact ih fun y hy => h y (List.mem_cons_of_mem _ hy)
 rw [Gt (sf hA).1 (h64 A fun x hx => by
  obtain ⟨i, hi, rfl⟩ := List.getElem_of_mem hx
  have := (hk i hi).2
  unfold lg at this
  rwa [List.getD_eq_getElem?_getD, List.getElem?_eq_getElem hi] at this)]
 cases decide (gt A [97] ≠ []) <;> rfl
theorem AG {A : List bA} (hA : LBd A) (hk : JG A A.length) : jB [mA] A = decide (gt A [97] ≠ []) := by
 unfold jB
 rw [List.all_cons, List.all_nil, Bool.and_true, Ej hA hk]
theorem EG : LBd [] := ⟨Nat.zero_le _, fun x h => by simp at h⟩
theorem Il : uF [mA] = 0 := by
 have h : jB [mA] [] = false := by
  rw [AG EG (fun j h => absurd h (Nat.not_lt_zero j))]
  rfl
 unfold uF
 rw [if_neg (by decide), h]
 unfold Gb
 rw [if_neg (by rw [Bc]; simp)]
 rfl
theorem GT : nB [mA] := ⟨by decide, fun x hx => by
 rw [List.mem_singleton.1 hx]
 refine ⟨fun c h => ?_, by decide, fun c h => ?_, by decide⟩
 ·have : c ∈ [97] := h
  simp at this; omega
 ·have : c ∈ [46, 43] := h
  simp at this; omega⟩
theorem FD : ∀ {A : List bA}, (∀ x ∈ A, x.2 ≠ []) -> ((A.any fun x => decide (x.1 = [97])) = decide (gt A [97] ≠ []))
 | [], _ => rfl
 | x :: A, h => by
  rw [List.any_cons]
  unfold gt
  by_cases hx : x.1 = [97]
  ·rw [if_pos hx, decide_eq_true hx, decide_eq_true (h x List.mem_cons_self)]
   rfl
  ·rw [if_neg hx, decide_eq_false hx, Bool.false_or, FD fun y hy => h y (List.mem_cons_of_mem _ hy)]
set_option maxHeartbeats 1000000
def jx (L : List (List bA × List bP)) (e r : Int) : List (List bA × List bP) := L.filterMap fun x => if 0 < (fQ x.2 e r).length then some (x.1, fQ x.2 e r) else none
theorem C1 {R : List bV} {e r : Int} {i : Nat} (h : i < R.length) : jx (aV (R.take (i + 1))) e r = jx (aV (R.take i)) e r ++ (if 0 < (fQ (rg R i).2.2.2 e r).length then [((rg R i).2.1, fQ (rg R i).2.2.2 e r)] else []) := by
 rw [cb R CO h, fF]
 unfold jx
 rw [List.filterMap_append]
 congr 1
 show List.filterMap _ [((rg R i).2.1, (rg R i).2.2.2)] = _
 by_cases g : 0 < (fQ (rg R i).2.2.2 e r).length
 ·rw [if_pos g]; simp [g]
 ·rw [if_neg g]; simp [g]
theorem Ht {R : List bV} {e r : Int} {i : Nat} (h : i < R.length) (g : ¬ 0 < (fQ (rg R (0 + i)).2.2.2 e r).length) : jx (aV (R.take (i + 1))) e r = jx (aV (R.take i)) e r := by
 rw [Nat.zero_add] at g
 rw [C1 h, if_neg g, List.append_nil]
theorem E7 {R : List bV} {e r : Int} {i : Nat} (h : i < R.length) (g : 0 < (fQ (rg R (0 + i)).2.2.2 e r).length) : jx (aV (R.take (i + 1))) e r = jx (aV (R.take i)) e r ++ [((rg R (0 + i)).2.1, fQ (rg R (0 + i)).2.2.2 e r)] := by
 rw [Nat.zero_add] at g ⊢
 rw [C1 h, if_pos g]
theorem GG {a0 a1 a2 a3 v : AV} (h : v.isCell = true) : ct [a0, a1, a2, a3] 3 v.cells = [a0, a1, a2, v] := by rw [cp h]; simp [ct]
theorem nV : FA tab 136 3 = some (3, 0 + 1) := by kernel_rfl
theorem z6 (X : Nat) (xX : Bool) (ops : AV) (c n k : Nat) (hn : k <= 256) (hc : c + n <= 1099511627776) : Spec tab 151 [.ptr X 0, .int .i64 ((n : Nat) : Int), .int .i64 ((k : Nat) : Int)] [X] [⟨X, ⟨3, xX, [ops, .int .i64 ((1099511627776 : Nat) : Int), .int .i64 ((c : Nat) : Int)]⟩, true⟩] (fun v D => v = .tuple [] /\ D = [⟨X, ⟨3, xX, [ops, .int .i64 ((1099511627776 : Nat) : Int), .int .i64 ((c + n : Nat) : Int)]⟩, true⟩]) := by
 refine ac (bz 151 Tryz.func151) rfl (m := 34) rfl (rs := []) rfl (st := [(0, .ptr X 0), (1, .int .i64 ((n : Nat) : Int)), (2, .int .i64 ((k : Nat) : Int))]) rfl rfl (fun _ => rfl) (fun E => zr (zm rfl (zq (aY rfl) (zf nU rfl 2 (zq (ag rfl (zt 0 rfl) bH rfl) (zm rfl (zq (aa rfl rfl rfl zp) (zq (aY rfl) (zf nU rfl 2 (pR dn rfl rfl (i := 0) rfl rfl rfl (hs' := [_]) rfl (zk (W.seq (cX (by kernel_rfl) (zm rfl (zq (aY rfl) (zf wS rfl 1 (zq (ag rfl (zt 0 rfl) bH rfl) (zq (aa rfl (zi 0) rfl (bu (p := false) rfl)) (zm rfl (zT (zm rfl (zT (zq (aY rfl) ?_)))))))))))))))))))))))
 refine zT (zf nU rfl 2 (zT (zq (ag rfl (zt 0 rfl) bH rfl) (zT (zm rfl (zT (zq (aY rfl) (zT (zf wS rfl 1 (zT (zq (ag rfl (zt 0 rfl) bH rfl) (zT (zq (aa rfl rfl rfl (aZ bf)) (zq (aF rfl rfl) (ak rfl (aj rfl (aj (zi 18) oz)) rfl (eF _ (decide_eq_true (by first | omega | (rw [Nat.sub_self]; decide))) _) SubR.nil rfl (zk (W.sub (zc 2 rfl aI) (W.reg (zm rfl (zq (aa rfl (zi 256) rfl (aZ bf)) (ak rfl (aj rfl (aj (zi 3) oz)) rfl (eF _ (decide_eq_true (by first | omega | (rw [Nat.sub_self]; decide))) _) SubR.nil rfl (WO.nil ?_))))))))))))))))))))))
 refine End.fall ResL.nil (hs' := [⟨X, ⟨3, xX, [ops, .int .i64 ((1099511627776 : Nat) : Int), .int .i64 ((c + n : Nat) : Int)]⟩, true⟩]) ⟨rfl, rfl⟩ lc (SubH.of_sublist (List.Sublist.refl _))

theorem C2 (hs : af) (hro : ∀ e ∈ hs, e.w = false) (M : List ed) (vm : AV) (hM : ISm hs M vm) (hok : nB M) (R : List bV) (sv : AV) (hR : RSl hs R 0 sv) (hRA : RAll hs R) (hRb : kp R) (hRp : Aq R) (X : Nat) (xX : Bool) (opl : AV) (ob c r : Nat) (hr0 : 0 < r) (hrb : r <= 1099511627776) (hc : c + R.length * 1048576 <= 1099511627776) (hR2 : R.length <= 256) (av : AV) (t : Nat) (ht : t <= 1099511627776) : Spec tab 120 [.ptr X 0, .ptr ob 0, av, .int .i64 ((t : Nat) : Int)] [X] (⟨X, ⟨3, xX, [opl, .int .i64 ((1099511627776 : Nat) : Int), .int .i64 ((c : Nat) : Int)]⟩, true⟩ :: ⟨ob, ⟨15, true, [.int .i64 ((2 : Nat) : Int), .str [], .int .i64 0, vm, .int .i64 ((r : Nat) : Int), .int .i64 ((0 : Nat) : Int), .int .i64 0, .nils, .int .i64 0, .bool false, .nils, .nils, .int .i64 0, sv, .func 120 [.tuple [], .ptr X 0]]⟩, false⟩ :: hs) (fun v D => ∃ (ov : AV) (O : List bV) (G ho : af) (n : Nat), v = .agg [.int .i64 ((3 : Nat) : Int), .int .i64 0, .nils, ov] /\ D = ⟨X, ⟨3, xX, [opl, .int .i64 ((1099511627776 : Nat) : Int), .int .i64 ((c + n : Nat) : Int)]⟩, true⟩ :: (G ++ ho) /\ OwnE 2 (cR O) O.length ov ho /\ (∀ x ∈ O, (∃ y ∈ R, x.1 = y.1 /\ x.2.1 = y.2.1) /\ SIn G x.2.2.2 x.2.2.1 /\ SBd x.2.2.2) /\ aV O = (jx (aV R) ((t - 0 : Nat) : Int) ((r : Nat) : Int)) /\ (∀ e ∈ G, e.w = true) /\ O.length <= R.length /\ n <= R.length * 1048576) := by
 refine ac (bz 120 Tryz.func120) rfl (m := 63) rfl (rs := [.cell 8 136]) rfl (st := [(0, .ptr X 0), (1, .ptr ob 0), (2, av), (3, .int .i64 ((t : Nat) : Int))]) rfl rfl (fun _ => rfl) (fun E => zr (WO.alloc ll rfl (fun b1 => zk (zr (zq (Q.build yr (cy (zi 3) dE) rfl (cs := [_, _, _, _]) rfl) (WO.alloc ll rfl (fun b2 => WO.store di rfl rfl (i := 0) rfl rfl (cs := [_, _, _, _]) rfl (hs' := _ :: _ :: _ :: _ :: _) rfl (zk (zr (za (zi 0) (zk (W.seq (zr (zm rfl (zq (aY rfl) (zf wU rfl 13 (zq (ag rfl (zt 3 rfl) uS rfl) (zq (Q.len dA rfl (RSl.len hR)) (zq (Q.move (zi 0)) (zk (W.block (W.loop_ind6 (fun (i : Nat) (n : Nat) (O : List bV) (ov : AV) (ho : af) (G : af) => [(0, .ptr X 0), (1, .ptr ob 0), (3, .int .i64 ((t : Nat) : Int)), (8, .ptr b1 0), (9, .ptr b2 0), (10, .int .i64 ((n : Nat) : Int)), (18, sv), (19, .int .i64 ((R.length - 0 : Nat) : Int)), (20, .int .i64 ((i : Nat) : Int))]) (fun (i : Nat) (n : Nat) (O : List bV) (ov : AV) (ho : af) (G : af) => ⟨b2, ⟨4, true, [.int .i64 ((3 : Nat) : Int), .int .i64 0, .nils, ov]⟩, true⟩ :: ⟨b1, ⟨4, true, [.int .i64 0, .int .i64 0, .nils, .nils]⟩, true⟩ :: ⟨X, ⟨3, xX, [opl, .int .i64 ((1099511627776 : Nat) : Int), .int .i64 ((c : Nat) : Int)]⟩, true⟩ :: ⟨ob, ⟨15, true, [.int .i64 ((2 : Nat) : Int), .str [], .int .i64 0, vm, .int .i64 ((r : Nat) : Int), .int .i64 ((0 : Nat) : Int), .int .i64 0, .nils, .int .i64 0, .bool false, .nils, .nils, .int .i64 0, sv, .func 120 [.tuple [], .ptr X 0]]⟩, false⟩ :: ((hs ++ G) ++ ho)) (fun (i : Nat) (n : Nat) (O : List bV) (ov : AV) (ho : af) (G : af) => i <= R.length /\ OwnE 2 (cR O) O.length ov ho /\ (∀ x ∈ O, (∃ y ∈ R, x.1 = y.1 /\ x.2.1 = y.2.1) /\ SIn G x.2.2.2 x.2.2.1 /\ SBd x.2.2.2) /\ aV O = jx (aV (R.take i)) ((t - 0 : Nat) : Int) ((r : Nat) : Int) /\ (∀ e ∈ G, e.w = true) /\ O.length <= i /\ n <= i * 1048576) (fun (i : Nat) (n : Nat) (O : List bV) (ov : AV) (ho : af) (G : af) => R.length - i) (0) (0) ([]) (.nils) ([]) ([]) ⟨Nat.zero_le _, OwnE.nil 2, fun x h => (by simp at h), rfl, dB, Nat.zero_le _, Nat.zero_le _⟩ zv (SubH.op (by rw [List.append_nil, List.append_nil])) (fun i n O ov ho G hI0 ih0 => ?_)))))))))))))))))))))))
 obtain ⟨hi1, hO, hOx, hOc, hG, hOl, hn⟩ := hI0
 have hnb : i * 1048576 <= R.length * 1048576 := Nat.mul_le_mul_right _ hi1
 refine zr (zq (aa rfl rfl rfl (bu bY)) (zk (W.seq (aB rfl (fun hc21 => ?_) (fun hc21 => ?_)))))
 ·obtain ⟨br, szr, exr, rfl, wr, mr⟩ := RSl.full hR zy
  have hm0 := eZ (R := R) (i := 0 + i) zy
  have hx := hRA _ hm0
  have hxb := hRb.2 _ hm0
  have hxp := hRp _ hm0
  obtain ⟨bs, szs, exs, hbs, ws, ms⟩ := SIn.full hx.2 hxp
  refine zw (W.seq (W.block (zr (zq (bj dA fk rfl rfl zo) (zq (ax rfl (List.mem_cons_of_mem _ (List.mem_cons_of_mem _ (List.mem_cons_of_mem _ (List.mem_cons_of_mem _ (List.mem_append_left _ (List.mem_append_left _ mr)))))) AC fk (wJ zo)) (WO.alloc FX rfl (fun b3 => WO.store fk rfl rfl (i := 0) rfl (au rfl (uG (LIn.cell hx.1) (SIn.cell hx.2))) (cs := [_, _]) rfl (hs' := _ :: _ :: _ :: _ :: _ :: _) rfl (zk (W.seq (cX (by kernel_rfl) (zf jm rfl 1 (zq (ag rfl (zt 0 rfl) l8 rfl) (zm rfl (zm rfl (zq (aY rfl) (zf de rfl 0 (zf mB rfl 5 (zq (ag rfl (zt 4 rfl) bH rfl) (zq (aa rfl rfl rfl (bM (oe zo))) (zm rfl (zq (aY rfl) (zf de rfl 0 (zf iL rfl 4 ?_)))))))))))))))))))))))
  refine zq (ag rfl (zt 4 rfl) bH rfl) (WO.call0 rfl (aj rfl (aj rfl (aj rfl oz))) rfl (by rw [hbs]; exact CM hs hro _ bs szs exs ws ms hxb.2 ((t - 0 : Nat) : Int) ((r : Nat) : Int) zy) (aQ (aQ (aQ (aQ (aQ (SubR.appl (SubR.appl (aN hro)))))))) rfl (fun v38 D38 hP38 => ?_))
  have hrl := yv (rg R (0 + i)).2.2.2 ((t - 0 : Nat) : Int) ((r : Nat) : Int)
  have hxS : (rg R (0 + i)).2.2.2.length <= 1048576 := hxb.2
  refine WO.subH (hs' := _ :: _ :: _ :: _ :: _ :: (hs ++ G ++ ho ++ D38)) (SubH.op (aw (N := []) (G := D38) (K := [_, _, _, _, _]) (X := hs ++ G ++ ho))) (za rfl (zk (W.sub (zc 13 rfl (zc 12 rfl (zc 0 rfl (zc 1 rfl (zc 3 rfl (zc 8 rfl (zc 9 rfl (zc 10 rfl (zc 18 rfl (zc 19 rfl (zc 20 rfl aI))))))))))) (zr (zm rfl (zq (Q.len fm rfl (OwnE.len hP38)) (zq (aa rfl (zi 0) rfl (aJ bY)) (zk (aB rfl (fun hc41 => ?_) (fun hc41 => ?_))))))))))
  ·refine zr (zf nV rfl 3 (zq (ag rfl (zt 1 rfl) uS rfl) (zf jJ rfl 0 (zq (ag rfl (zt 0 rfl) jA rfl) (zm rfl (zq (Q.build He (cy rfl (cy rfl dE)) rfl (cs := [_, _]) (BK (LIn.cell hx.1) (OwnE.cell hP38))) (WO.bslice dA fk Dl rfl (cy rfl dE) rfl (cs := [_, _]) rfl (uG (LIn.cell hx.1) (OwnE.cell hP38)) rfl (fun b4 => WO.subH (hs' := _ :: _ :: _ :: _ :: _ :: _ :: (hs ++ G ++ D38 ++ ho)) (SubH.op (List.Perm.append_left [_, _, _, _, _, _] (List.perm_iff_count.2 (by intro z; simp only [List.append_eq, List.count_append, List.count_nil]; omega)))) (WO.appAny (A := ([_, _, _, _, _] ++ hs ++ G ++ D38)) ln hO rfl rfl (Src.slice (zt 0 rfl) rfl) rfl zy (by decide) (SubH.of_sublist (List.sublist_cons_self _ _)) rfl (fun v49 hp49 hO49 => zf nV rfl 3 (WO.store Fb rfl rfl (i := 1) rfl (Dn (OwnE.cell hO49) rfl) (cs := [_, _, _, _]) (GG (OwnE.cell hO49)) (hs' := _ :: _ :: _ :: _ :: _ :: _) rfl (zk (W.reg (zm rfl (zm rfl (zq (Q.len fm rfl (OwnE.len hP38)) (zq (aa rfl rfl rfl zp) (za rfl (WO.nil (End.KB (End.K (W.sub (zc 10 rfl (zc 0 rfl (zc 1 rfl (zc 3 rfl (zc 8 rfl (zc 9 rfl (zc 18 rfl (zc 19 rfl (zc 20 rfl aI))))))))) (W.reg (zq (aa rfl (zi 1) rfl zp) ?_))))))))))))))))))))))))
   refine zm rfl (WO.nil (End.KL (W.sub zv (cz (SubH.trans (SubH.pre (L := [_, _, _, _]) gc) (SubH.of_sublist (List.sublist_cons_self _ _))) (ih0 (i + 1) (n + (fQ (rg R (0 + i)).2.2.2 ((t - 0 : Nat) : Int) ((r : Nat) : Int)).length) (O ++ [((rg R (0 + i)).1, (rg R (0 + i)).2.1, v38, fQ (rg R (0 + i)).2.2.2 ((t - 0 : Nat) : Int) ((r : Nat) : Int))]) (v49) (hp49) (G ++ D38) ?_ ?_)))))
   ·exact ⟨by omega, by rw [rJ, List.length_append]; exact hO49, CC hOx ⟨_, hm0, rfl, rfl⟩ (SIn.own hP38) (Nat.le_trans hrl hxb.2), by rw [fF, hOc, E7 zy zy], wa hG hP38.w, by simp; omega, by rw [Nat.add_mul]; omega⟩
   exact zo
  refine W.skip (End.KB (End.K (W.reg (zq (aa rfl (zi 1) rfl zp) (zm rfl (WO.nil (End.KL (W.sub zv (cz (SubH.trans (SubH.pre (L := [_, _, _, _]) gc) (SubH.of_sublist (List.sublist_cons_self _ _))) (ih0 (i + 1) (n) (O) (ov) (ho) (G) ?_ ?_))))))))))
  ·exact ⟨by omega, hO, hOx, by rw [hOc, Ht zy zy], hG, by omega, Nat.le_trans hn (Nat.mul_le_mul_right _ (Nat.le_succ _))⟩
  exact zo
 refine W.exit (am (aq (ap (End.K (zr (zm rfl (zm rfl (zf nV rfl 3 (zq (ag rfl (zt 0 rfl) uS rfl) (zq (Q.len dA rfl hO.len) (WO.call1 rfl (aj rfl (aj rfl (aj rfl oz))) rfl (i := 2) rfl (z6 X xX _ c n O.length zy zy) SubR.nil (hs' := _ :: _ :: _ :: _) rfl rfl (fun v61 D61 hP61 => ?_))))))))))))
 obtain ⟨rfl, rfl⟩ := hP61
 refine zk (W.sub (zc 8 rfl (zc 9 rfl aI)) (zr (zq (ax rfl (zt 1 rfl) jF di (l := [_, _, _, _]) rfl) (WO.store di rfl rfl (i := 2) rfl (au rfl (au rfl (au rfl (au rfl (au (OwnE.cell hO) rfl))))) (cs := [_, _, _, _]) rfl (hs' := _ :: _ :: _ :: _ :: _) rfl (zk (W.ret ?_))))))
 refine End.ret (ResL.agg (c := [_, _, _, _]) rfl (zt 2 rfl) jF di rfl ResL.nil) (hs' := ⟨X, ⟨3, xX, [opl, .int .i64 ((1099511627776 : Nat) : Int), .int .i64 ((c + n : Nat) : Int)]⟩, true⟩ :: (G ++ ho)) ⟨ov, O, G, ho, n, rfl, rfl, hO, hOx, by rw [hOc, List.take_of_length_le zy], hG, by omega, Nat.le_trans hn hnb⟩ (fun e he => by rcases List.mem_cons.1 he with rfl | he; rfl; exact wa hG hO.w e he) (SubH.pre (L := [_]) (SubH.trans (b := (hs ++ G) ++ ho) gc (SubH.of_sublist (List.sublist_append_right [_, _, _] _))))

end Go.Proofs.YtfkbfnpjggkdmaaGreatDoor.Ev
