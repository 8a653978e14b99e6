/- Chapter 20, walks: copies of nodes and of places. -/
import Derived.Test.YtndhhgbpcmfeiaaGreatDoorNGb
namespace Go.Proofs.YtndhhgbpcmfeiaaGreatDoor.Ev
open Go.RowKit
set_option maxRecDepth 100000
theorem oN {tb : Tab} {t e : Nat} (hu : tb.und t = some (.slice e)) : bz tb .eql t .nils .nils = some (.bool true) := by
 show (match fQ tb 20 t .nils .nils with | some b => some (AV.bool b) | none => none) = _
 unfold fQ
 simp only [hu]
 rfl
theorem oO {tb : Tab} {t e b o n z : Nat} (hu : tb.und t = some (.slice e)) : bz tb .eql t (.slice b o n z) .nils = some (.bool false) := by
 show (match fQ tb 20 t (.slice b o n z) .nils with | some b => some (AV.bool b) | none => none) = _
 unfold fQ
 simp only [hu]
 rfl
theorem dT {v : AV} (h : v.isCell = true) : v.cells = [v] := by cases v <;> first | rfl | cases h
theorem Bt {v : AV} {o n : Nat} (h : v.isCell = true) (hle : Nat.ble (o + 1) n = true) : (Nat.beq v.cells.length 1 && Nat.ble (o + 1) n && v.cells.all AV.isCell) = true := by
 rw [dT h, hle]; simp [h]
theorem CS {a0 a1 a2 a3 v : AV} {b : List AV} (h : v.isCell = true) : cn (a0 :: a1 :: a2 :: a3 :: b) 3 v.cells = a0 :: a1 :: a2 :: v :: b := by
 rw [dT h]; simp [cn]
theorem CT {a0 a1 a2 a3 a4 a5 a6 a7 v : AV} {b : List AV} (h : v.isCell = true) : cn (a0 :: a1 :: a2 :: a3 :: a4 :: a5 :: a6 :: a7 :: b) 7 v.cells = a0 :: a1 :: a2 :: a3 :: a4 :: a5 :: a6 :: v :: b := by
 rw [dT h]; simp [cn]
theorem pj : ∀ (l : List AV) (j : Nat) (v : AV), j < l.length -> cn l j [v] = l.set j v
 | x :: l, 0, v, _ => by simp [cn]
 | x :: l, j + 1, v, h => by simp only [cn, List.set_cons_succ, pj l j v (by simpa using h)]
theorem jT {d : ND} {vm vn vk : AV} (hm : vm.isCell = true) (hn : vn.isCell = true) (hk : vk.isCell = true) : (((AV.agg (d.c vm vn vk)).cells).all AV.isCell) = true := by
 show ((d.c vm vn vk).all AV.isCell) = true
 simp only [ND.c, b7, List.all_cons, List.all_nil, hm, hn, hk, Bool.and_true, Bool.true_and]
 rfl
theorem C3 {d : ND} {vm vn : AV} (hm : vm.isCell = true) (hn : vn.isCell = true) : (Nat.beq (AV.agg (d.c vm vn .nils)).cells.length 11 && Nat.ble (0 + 11) 11 && ((AV.agg (d.c vm vn .nils)).cells).all AV.isCell) = true := bG rfl (jT hm hn rfl)
theorem jj {A : List Int} {q : Nat} (h : q < A.length) : ai A q ∈ A := List.mem_of_getElem? (jC h)
theorem rj {A : List Int} {q : Nat} (h : q < A.length) (g : 0 <= ai A q) : (cA A)[(0 + q) * 1]? = some (.int .i64 (((ai A q).toNat : Nat) : Int)) := by
 rw [sN h, Int.toNat_of_nonneg g]
def AM (U A : List Int) : List Int := A.map fun a => ai U a.toNat
theorem zF {U A : List Int} {i : Nat} (h : i < A.length) : cA (AM U (A.take (i + 1))) = cA (AM U (A.take i)) ++ [.int .i64 (ai U (ai A i).toNat)] := by
 rw [List.take_add_one, jC h]
 unfold AM cA
 rw [List.map_append, List.map_append]; rfl
theorem Cv : aA.isAgg 22 = some false := by kernel_rfl
theorem DJ : aA.isAgg 23 = some false := by kernel_rfl
theorem cG : aA.isAgg 26 = some true := by kernel_rfl
theorem eU : AO aA 26 = some ⟨11, true, [.int .i64 0, .str [], .int .i64 0, .nils, .int .i64 0, .int .i64 0, .int .i64 0, .nils, .int .i64 0, .bool false, .nils]⟩ := by kernel_rfl
theorem sB : AP aA 22 22 = some 3 := by kernel_rfl
theorem sC : AP aA 23 23 = some 1 := by kernel_rfl
theorem iQ : AP aA 40 40 = some 1 := by kernel_rfl
theorem oP : ∀ l : List AV, l.length = 11 -> bK aA 26 l = ⟨11, true, l⟩ := by intro l h; exact fp (by kernel_rfl) h
theorem rK : FA aA 26 3 = some (3, 0 + 1) := by kernel_rfl
theorem rL : FA aA 26 7 = some (7, 0 + 1) := by kernel_rfl
theorem Do : aA.size 22 = some 1 := by kernel_rfl
theorem Dp : aA.size 23 = some 1 := by kernel_rfl
theorem Cc : aA.size 24 = some 1 := by kernel_rfl
theorem bb : aA.size 26 = some 11 := by kernel_rfl
theorem uB : aA.size 9 = some 1 := by kernel_rfl
theorem Dq : aA.size 91 = some 3 := by kernel_rfl
theorem Ar : aA.und 22 = some (.slice 91) := by kernel_rfl
theorem jd : aA.und 23 = some (.slice 9) := by kernel_rfl
theorem Cs : aA.zero 3 = some (.int .i64 0) := by kernel_rfl
theorem Av : aA.zero 9 = some (.str []) := by kernel_rfl
theorem Dv : aA.zero 91 = some (.agg [.int .i64 0, .str [], .str []]) := by kernel_rfl
theorem yO  : Spec aA 69 [.nils] [] [] (eA (.nils)) := by
 refine aj (dW 69 Tryz.func69) rfl (m := 8) rfl (rs := [.tmp 2]) rfl (st := [(0, .nils)]) rfl rfl (fun _ => rfl) (fun E => zr (za rfl (zk (W.seq (zr (zm rfl (zq (Q.bin rfl rfl rfl (oN Ar)) (zk (ah rfl (zr (za rfl (zk (W.ret (aa (ab (z1 rfl) ?_)))))))))))))))
 rfl

theorem vg (hs : af) (hro : ∀ e ∈ hs, e.w = false) (n : Nat) (cells : List AV) (b : Nat) (ha : RIn hs 3 n cells (.slice b 0 n 3)) (hn : n <= 2097152) : Spec aA 69 [.slice b 0 n 3] [] hs (fun v D => OwnE 3 cells n v D) := by
 refine aj (dW 69 Tryz.func69) rfl (m := 8) rfl (rs := [.tmp 2]) rfl (st := [(0, .slice b 0 n 3)]) rfl rfl (fun _ => rfl) (fun E => zr (za rfl (zk (W.seq (zr (zm rfl (zq (Q.bin rfl rfl rfl (oO Ar)) (zk (ad rfl (zw (zr (WO.bslice Ar Dq Dv rfl ak rfl (cs := []) rfl rfl rfl (fun b1 => zm rfl (WO.appAny (A := _) sB (OwnE.cons rfl) rfl rfl (Src.mono (fun e he => MemH.tl ⟨e.w, by obtain ⟨b, o, w⟩ := e; exact he⟩) ha.src) ha.length zy (by decide) (SubH.op (List.perm_append_singleton _ _)) rfl (fun v7 hp7 hO7 => za rfl (zk (W.ret ?_)))))))))))))))))
 refine End.ret (z1 rfl) (hs' := hp7) (by rw [B0]; simpa using hO7) (OwnE.w hO7) gc

theorem yP  : Spec aA 70 [.nils] [] [] (eA (.nils)) := by
 refine aj (dW 70 Tryz.func70) rfl (m := 8) rfl (rs := [.tmp 2]) rfl (st := [(0, .nils)]) rfl rfl (fun _ => rfl) (fun E => zr (za rfl (zk (W.seq (zr (zm rfl (zq (Q.bin rfl rfl rfl (oN jd)) (zk (ah rfl (zr (za rfl (zk (W.ret (aa (ab (z1 rfl) ?_)))))))))))))))
 rfl

theorem p4 (hs : af) (hro : ∀ e ∈ hs, e.w = false) (n : Nat) (cells : List AV) (b : Nat) (ha : RIn hs 1 n cells (.slice b 0 n 1)) (hn : n <= 2097152) : Spec aA 70 [.slice b 0 n 1] [] hs (fun v D => OwnE 1 cells n v D) := by
 refine aj (dW 70 Tryz.func70) rfl (m := 8) rfl (rs := [.tmp 2]) rfl (st := [(0, .slice b 0 n 1)]) rfl rfl (fun _ => rfl) (fun E => zr (za rfl (zk (W.seq (zr (zm rfl (zq (Q.bin rfl rfl rfl (oO jd)) (zk (ad rfl (zw (zr (WO.bslice jd uB Av rfl ak rfl (cs := []) rfl rfl rfl (fun b1 => zm rfl (WO.appAny (A := _) sC (OwnE.cons rfl) rfl rfl (Src.mono (fun e he => MemH.tl ⟨e.w, by obtain ⟨b, o, w⟩ := e; exact he⟩) ha.src) ha.length zy (by decide) (SubH.op (List.perm_append_singleton _ _)) rfl (fun v7 hp7 hO7 => za rfl (zk (W.ret ?_)))))))))))))))))
 refine End.ret (z1 rfl) (hs' := hp7) (by rw [B0]; simpa using hO7) (OwnE.w hO7) gc

theorem yN  : Spec aA 41 [.nils] [] [] (eA (.nils)) := by
 refine aj (dW 41 Tryz.func41) rfl (m := 8) rfl (rs := [.tmp 2]) rfl (st := [(0, .nils)]) rfl rfl (fun _ => rfl) (fun E => zr (za rfl (zk (W.seq (zr (zm rfl (zq (Q.bin rfl rfl rfl (oN dh)) (zk (ah rfl (zr (za rfl (zk (W.ret (aa (ab (z1 rfl) ?_)))))))))))))))
 rfl

theorem ve (hs : af) (hro : ∀ e ∈ hs, e.w = false) (n : Nat) (cells : List AV) (b : Nat) (ha : RIn hs 1 n cells (.slice b 0 n 1)) (hn : n <= 2097152) : Spec aA 41 [.slice b 0 n 1] [] hs (fun v D => OwnE 1 cells n v D) := by
 refine aj (dW 41 Tryz.func41) rfl (m := 8) rfl (rs := [.tmp 2]) rfl (st := [(0, .slice b 0 n 1)]) rfl rfl (fun _ => rfl) (fun E => zr (za rfl (zk (W.seq (zr (zm rfl (zq (Q.bin rfl rfl rfl (oO dh)) (zk (ad rfl (zw (zr (WO.bslice dh i8 Cs rfl ak rfl (cs := []) rfl rfl rfl (fun b1 => zm rfl (WO.appAny (A := _) iQ (OwnE.cons rfl) rfl rfl (Src.mono (fun e he => MemH.tl ⟨e.w, by obtain ⟨b, o, w⟩ := e; exact he⟩) ha.src) ha.length zy (by decide) (SubH.op (List.perm_append_singleton _ _)) rfl (fun v7 hp7 hO7 => za rfl (zk (W.ret ?_)))))))))))))))))
 refine End.ret (z1 rfl) (hs' := hp7) (by rw [B0]; simpa using hO7) (OwnE.w hO7) gc
theorem vh (hs : af) (hro : ∀ e ∈ hs, e.w = false) (n : Nat) (cells : List AV) (va : AV) (ha : RIn hs 3 n cells va) (hn : n <= 2097152) : Spec aA 69 [va] [] hs (fun v D => OwnE 3 cells n v D) := by
 rcases id ha with ⟨rfl, rfl, rfl⟩ | ⟨b, z, ex, rfl, _, _⟩
 ·intro h hh
  obtain ⟨v, h', hs', h1, ⟨h2, h3⟩, h4, h5⟩ := yO h (hh.sub (SubH.nil _))
  exact ⟨v, h', hs', h1, .inl ⟨rfl, rfl, h2, h3⟩, h4, h5⟩
 ·exact vg hs hro n cells b ha hn
theorem vi (hs : af) (hro : ∀ e ∈ hs, e.w = false) (n : Nat) (cells : List AV) (va : AV) (ha : RIn hs 1 n cells va) (hn : n <= 2097152) : Spec aA 70 [va] [] hs (fun v D => OwnE 1 cells n v D) := by
 rcases id ha with ⟨rfl, rfl, rfl⟩ | ⟨b, z, ex, rfl, _, _⟩
 ·intro h hh
  obtain ⟨v, h', hs', h1, ⟨h2, h3⟩, h4, h5⟩ := yP h (hh.sub (SubH.nil _))
  exact ⟨v, h', hs', h1, .inl ⟨rfl, rfl, h2, h3⟩, h4, h5⟩
 ·exact p4 hs hro n cells b ha hn
theorem vf (hs : af) (hro : ∀ e ∈ hs, e.w = false) (n : Nat) (cells : List AV) (va : AV) (ha : RIn hs 1 n cells va) (hn : n <= 2097152) : Spec aA 41 [va] [] hs (fun v D => OwnE 1 cells n v D) := by
 rcases id ha with ⟨rfl, rfl, rfl⟩ | ⟨b, z, ex, rfl, _, _⟩
 ·intro h hh
  obtain ⟨v, h', hs', h1, ⟨h2, h3⟩, h4, h5⟩ := yN h (hh.sub (SubH.nil _))
  exact ⟨v, h', hs', h1, .inl ⟨rfl, rfl, h2, h3⟩, h4, h5⟩
 ·exact ve hs hro n cells b ha hn
theorem j9 (hs : af) (hro : ∀ e ∈ hs, e.w = false) (d : ND) (vm vn vk : AV) (hm : RIn hs 3 d.ms.length (cM d.ms) vm) (hn : RIn hs 1 d.nm.length (cS d.nm) vn) (nk : Nat) (hk : KLn vk nk) (hd : d.bd) : Spec aA 37 [.agg (d.c vm vn vk)] [] hs (fun v D => ∃ vm2 vn2 Dm Dn, v = .agg (d.c vm2 vn2 .nils) /\ OwnE 3 (cM d.ms) d.ms.length vm2 Dm /\ OwnE 1 (cS d.nm) d.nm.length vn2 Dn /\ D = Dm ++ Dn) := by
 refine aj (dW 37 Tryz.func37) rfl (m := 13) rfl (rs := [.cell 2 26]) rfl (st := [(0, .agg (d.c vm vn vk))]) rfl rfl (fun _ => rfl) (fun E => zr (WO.box rfl (jT hm.cell hn.cell hk.cell) (oP _ rfl) rfl (fun b1 => WO.alloc eU rfl (fun b2 => zk (zr (zf gV rfl 10 (zS Cc rfl rfl (i := 1) rfl rfl rfl (hs' := _ :: _ :: _) rfl (zk (W.seq (lB 7 _ (by kernel_rfl) (KIn.refl _) (WD.q (Q.fieldAddr rK rfl (o' := 3) rfl) yz rfl (WD.q (aG rfl (zt 1 rfl) Cv rfl) hm.bq rfl (WD.call0 rfl (aX rfl oz) rfl (vh hs hro _ _ _ hm (by have := hd.2.1.1; omega)) (SubR.t (SubR.t (dF hro))) (KIn.refl _) rfl (fun v6 D6 hP6 => WD.subH (hs' := _ :: _ :: (hs ++ D6)) (SubH.op (aS (N := []) (G := D6) (K := [_, _]) (X := hs))) (WD.q (Q.fieldAddr rL rfl (o' := 7) rfl) yz rfl (WD.q (aG rfl (zt 1 rfl) DJ rfl) hn.bq rfl (WD.call0 rfl (aX rfl oz) rfl (vi hs hro _ _ _ hn (by have := hd.2.2.1; omega)) (SubR.t (SubR.t (SubR.appl (dF hro)))) (yD gc) rfl (fun v9 D9 hP9 => WD.subH (hs' := _ :: _ :: (hs ++ D6 ++ D9)) (SubH.op (aS (N := []) (G := D9) (K := [_, _]) (X := hs ++ D6))) (WD.q (Q.fieldAddr rK rfl (o' := 3) rfl) yz rfl (WD.store Do rfl rfl (j := 1) rfl (Bt (OwnE.cell hP6) rfl) (cs := [_, _, _, _, _, _, _, _, _, _, _]) (CS (OwnE.cell hP6)) (hs' := _ :: _ :: _) rfl (fun h => by cases h) (WD.q (Q.fieldAddr rL rfl (o' := 7) rfl) yz rfl (WD.store Dp rfl rfl (j := 1) rfl (Bt (OwnE.cell hP9) rfl) (cs := [_, _, _, _, _, _, _, _, _, _, _]) (CT (OwnE.cell hP9)) (hs' := _ :: _ :: _) rfl (fun h => by cases h) (WD.nil ?_)))))))))))))))))))))))
 refine End.K (zr (zq (zL rfl (zt 1 rfl) cG bb rfl) (zS bb rfl rfl (i := 0) rfl (C3 (OwnE.cell hP6) (OwnE.cell hP9)) rfl (hs' := _ :: _ :: _) rfl (zk (W.ret ?_)))))
 refine End.ret (zA rfl (zt 0 rfl) cG bb rfl ResL.nil) (hs' := D6 ++ D9) ⟨v6, v9, D6, D9, rfl, hP6, hP9, rfl⟩ (wa (OwnE.w hP6) (OwnE.w hP9)) gc

theorem wF (hs : af) (hro : ∀ e ∈ hs, e.w = false) (A : List Int) (va : AV) (hA : RIn hs 1 A.length (cA A) va) (hAl : A.length <= 1048576) (U : List Int) (vu : AV) (hU : RIn hs 1 U.length (cA U) vu) (hok : ∀ a ∈ A, 0 <= a /\ a < U.length) (hUl : U.length <= 1048576) : Spec aA 43 [va, vu] [] hs (fun v D => OwnE 1 (cA (AM U A)) A.length v D) := by
 refine aj (dW 43 Tryz.func43) rfl (m := 23) rfl (rs := [.tmp 4]) rfl (st := [(0, va), (1, vu)]) rfl rfl (fun _ => rfl) (fun E => zr (za rfl (zk (zr (za rfl (zk (W.seq (zr (zm rfl (zq (Q.len dh rfl hA.len) (zq (Q.move (zi 0)) (zk (W.block (iv (fun (i : Nat) (u : AV) (hp : af) => [(1, vu), (5, u), (8, va), (9, .int .i64 ((A.length : Nat) : Int)), (10, .int .i64 ((i : Nat) : Int))]) (fun (i : Nat) (u : AV) (hp : af) => (hs ++ hp)) (fun (i : Nat) (u : AV) (hp : af) => i <= A.length /\ OwnE 1 (cA (AM U (A.take i))) i u hp) (fun (i : Nat) (u : AV) (hp : af) => A.length - i) (0) (.nils) ([]) ⟨Nat.zero_le _, OwnE.nil 1⟩ zv (by rw [List.append_nil]; exact SubH.refl _) (fun i u hp hI0 ih0 => ?_)))))))))))))))
 obtain ⟨h1, hO⟩ := hI0
 refine zr (zq (Q.bin rfl rfl rfl (ec jr)) (zk (W.seq (ax rfl (fun hc11 => ?_) (fun hc11 => ?_)))))
 ·obtain ⟨ba, sza, exa, rfl, wa, ma⟩ := hA.full zy
  have hq := hok _ (jj (A := A) (q := i) zy)
  obtain ⟨bu, szu, exu, rfl, wu, mu⟩ := hU.full zy
  refine zw (W.seq (W.block (zr (zq (ee dh i8 rfl rfl zo) (zq (aG rfl (List.mem_append_left _ ma) d7 (rj zo (hok _ (jj zo)).1)) (za rfl (zk (aF (zm rfl (zm rfl (zm rfl (zq (ee dh i8 rfl rfl zo) (zq (aG rfl (List.mem_append_left _ mu) d7 (sN zo)) (WO.bslice dh i8 Cs rfl (b8 rfl ak) rfl (cs := [_]) rfl rfl rfl (fun b1 => WO.appAny (A := ([] ++ hs)) iQ hO rfl rfl (Src.slice (zt 0 rfl) rfl) rfl zy (by decide) (SubH.of_sublist (List.sublist_cons_self _ _)) rfl (fun v20 hp20 hO20 => za rfl (WO.nil (End.KB (End.K (aF (zq (Q.bin rfl (zi 1) rfl zp) (zm rfl (WO.nil (End.KL ?_))))))))))))))))))))))))
  refine W.sub zv (gM gc (ih0 (i + 1) (v20) (hp20) ?_ ?_))
  ·exact ⟨by omega, by rw [zF zy]; exact hO20⟩
  exact zo
 refine W.exit (av (aL (aq (End.K (zr (zm rfl (za rfl (zk (W.ret ?_)))))))))
 refine End.ret (z1 rfl) (hs' := hp) (by rw [List.take_of_length_le zy] at hO; exact (show i = A.length by omega) ▸ hO) (OwnE.w hO) gc
end Go.Proofs.YtndhhgbpcmfeiaaGreatDoor.Ev
