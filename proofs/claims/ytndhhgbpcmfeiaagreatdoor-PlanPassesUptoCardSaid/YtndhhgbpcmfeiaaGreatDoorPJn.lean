/- Chapter 20, walks: what the document says of Trim. -/
import Derived.Test.YtndhhgbpcmfeiaaGreatDoorPJm
namespace Go.Proofs.YtndhhgbpcmfeiaaGreatDoor.Ev
open Go.RowKit
set_option maxRecDepth 100000
set_option maxHeartbeats 1000000
theorem BF {a0 a1 a2 a3 a4 a5 a6 a7 a8 a9 a10 a11 v : AV} {b : List AV} (h : v.isCell = true) : bJ (a0 :: a1 :: a2 :: a3 :: a4 :: a5 :: a6 :: a7 :: a8 :: a9 :: a10 :: a11 :: b) 11 v.cells = a0 :: a1 :: a2 :: a3 :: a4 :: a5 :: a6 :: a7 :: a8 :: a9 :: a10 :: v :: b := by
 rw [cz h]; simp [bJ]
theorem oD {d : ND} {vm vn vk va : AV} (hm : vm.isCell = true) (hn : vn.isCell = true) (hk : vk.isCell = true) (ha : va.isCell = true) : ((d.c vm vn vk ++ [va]).all AV.isCell) = true := by
 simp only [ND.c, iT, List.cons_append, List.nil_append, List.all_cons, List.all_nil, hm, hn, hk, ha, Bool.and_true, Bool.true_and]
 rfl
noncomputable def sG (L : List IE) (i : Nat) : List Int := (List.range i).map fun j => if nb L j = true then ((j9 L j : Nat) : Int) else 0
section
variable {L : List IE} {i : Nat} {vt : AV} {ht : ad}
theorem pA : (sG L i).length = i := by unfold sG; simp
theorem CY (h : nb L i = true) : cA (sG L (i + 1)) = cA (sG L i) ++ [.int .i64 ((j9 L i : Nat) : Int)] := by
 unfold sG
 rw [List.range_succ, List.map_append, List.map_cons, List.map_nil, if_pos h, cA, List.map_append]; rfl
theorem CX (h : nb L i = false) : cA (sG L (i + 1)) = cA (sG L i) ++ [.int .i64 ((0 : Nat) : Int)] := by
 unfold sG
 rw [List.range_succ, List.map_append, List.map_cons, List.map_nil, if_neg (by rw [h]; decide), cA, List.map_append]; rfl
theorem AD (h : OwnE 1 (cA (sG L i)) i vt ht) : OwnE 1 (cA (sG L i)) (sG L i).length vt ht := by rw [pA]; exact h
theorem Ci (hok : iD L i = true) : ∀ a ∈ (ei L i).ars, 0 <= a /\ a < (((sG L i).length : Nat) : Int) := fun a ha => by
 have := eU hok ha
 rw [pA]; omega
theorem BL (hok : iD L i = true) (hi : i < L.length) (hn : nb L i = true) : ez (sG L i) (ei L i).ars = fN L (ei L i).ars := by
 unfold ez fN
 refine List.map_congr_left fun a ha => ?_
 have h1 := eU hok ha
 have h2 : nb L a.toNat = true := iR.2 (.arg (iR.1 hn) hi ha)
 unfold sG
 rw [uZ zy, if_pos h2]
end
theorem yK {L X : List IE} {i : Nat} {y : IE} (hX : ∀ x ∈ X, IBd x) (hd : IBd (ei L i)) (hi : i < 1048576) (hok : iD L i = true) (h1 : y.d = (ei L i).d) (h2 : y.ars = fN L (ei L i).ars) : ∀ x ∈ X ++ [y], IBd x := fun x hx => by
 rcases List.mem_append.1 hx with hx | hx
 ·exact hX x hx
 ·rw [List.mem_singleton.1 hx]
  refine ⟨by rw [h1]; exact hd.d, by rw [h2, kV]; exact hd.a, fun n hn => ?_⟩
  rw [h2] at hn
  obtain ⟨a, ha, rfl⟩ := List.mem_map.1 hn
  have := po (L := L) (j := a.toNat)
  have := eU hok ha
  unfold yN
  omega
theorem mY {X : List IE} {hs hl D : ad} {x : IE} (h : ∀ y ∈ X, IOK (hs ++ hl) y /\ y.nk = 0) (hx : IOK (hs ++ hl ++ D) x /\ x.nk = 0) : ∀ y ∈ X ++ [x], IOK (hs ++ (hl ++ D)) y /\ y.nk = 0 := fun y hy => by
 rw [<- List.append_assoc]
 rcases List.mem_append.1 hy with hy | hy
 ·exact ⟨(h y hy).1.mono fun b o q => q.appl', (h y hy).2⟩
 ·rw [List.mem_singleton.1 hy]; exact hx
theorem Dy {b : Nat} {o : AObj} : ∀ e ∈ ([⟨b, o, true⟩] : ad), e.w = true := fun e h => by rw [List.mem_singleton.1 h]
noncomputable def AY (L : List IE) (k q : Nat) (j : Nat) : Bool := wX L (L.length - 1 - k) q j
section
variable {L : List IE} {k q : Nat}
theorem ut (h : k < L.length) : L.length - 1 - (L.length - 1 - k) = k := by omega
theorem CO (h : k < L.length) : cB (rW L (L.length - (k + 1))) L.length = cB (AY L k 0) L.length := by
 rw [show L.length - (k + 1) = L.length - 1 - k by omega]
 exact AX
theorem qG (hok : ∀ i, i < L.length -> iD L i = true) (h : k < L.length) : AY L k q k = nb L k := by
 have := mN (q := q) hok (t := L.length - 1 - k) zy
 rw [ut h] at this
 exact this
theorem tD (h : k < L.length) : cB (AY L k (ei L k).ars.length) L.length = cB (rW L (L.length - k)) L.length := by
 have := tC (L := L) (t := L.length - 1 - k) zy
 rw [ut h, show L.length - 1 - k + 1 = L.length - k by omega] at this
 exact this
theorem wY (hok : ∀ i, i < L.length -> iD L i = true) (h : k < L.length) (hq : q < (ei L k).ars.length) (hn : nb L k = true) :
  cB (fun j => if j = (ai (ei L k).ars q).toNat then true else AY L k q j) L.length = cB (AY L k (q + 1)) L.length := by
 have := mO (q := q) hok (t := L.length - 1 - k) zy (by rw [ut h]; exact hq) (b := true) (by
  rw [mN hok zy, ut h, hn, Bool.or_true])
 rw [ut h] at this
 exact this
theorem BM (hok : ∀ i, i < L.length -> iD L i = true) (h : k < L.length) (hn : nb L k = false) : cB (AY L k 0) L.length = cB (rW L (L.length - k)) L.length := by
 rw [<- tD h]
 refine gE fun j hj => gR ?_
 unfold AY
 rw [ik, ik, ut h]
 have hN : ¬ Need L k := fun g => by rw [iR.2 g] at hn; cases hn
 constructor
 ·rintro (g | ⟨g, _⟩)
  ·exact .inl g
  ·exact absurd g hN
 ·rintro (g | ⟨g, _⟩)
  ·exact .inl g
  ·exact absurd g hN
end
theorem Dl : aW.size 40 = some 1 := by kernel_rfl
theorem uD (hs : ad) (hro : ∀ e ∈ hs, e.w = false) (d : ND) (A : List Int) (nk : Nat) (vm vn vk va : AV) (hx : IOK hs (⟨d, A, nk, vm, vn, vk, va⟩ : IE)) (hb : IBd (⟨d, A, nk, vm, vn, vk, va⟩ : IE)) (U : List Int) (vu : AV) (hU : RIn hs 1 U.length (cA U) vu) (hok : ∀ a ∈ A, 0 <= a /\ a < U.length) (hUl : U.length <= 1048576) : Spec aW 48 [.agg (IE.c (⟨d, A, nk, vm, vn, vk, va⟩ : IE)), vu] [] hs (fun v D => ∃ v2, v = .agg (IE.c (⟨d, ez U A, nk, vm, vn, vk, v2⟩ : IE)) /\ OwnE 1 (cA (ez U A)) (ez U A).length v2 D) := by
 have hxa : RIn hs 1 A.length (cA A) va := hx.a
 have hAl : A.length <= 1048576 := hb.a
 refine ak (eX 48 Tryz.func48) rfl (m := 28) rfl (rs := [.cell 4 42]) rfl (st := [(0, .agg (IE.c (⟨d, A, nk, vm, vn, vk, va⟩ : IE))), (1, vu)]) rfl rfl (fun _ => rfl) (fun E => zr (WO.box rfl hx.cells (pX _ rfl) rfl (fun b1 => WO.alloc pS rfl (fun b2 => zk (zr (za rfl (zk (W.seq (zr (za (zi 0) (zk (W.block (eM (fun (i : Nat) (u : AV) (hp : ad) => [(1, vu), (2, .ptr b1 0), (4, .ptr b2 0), (5, u), (6, .int .i64 ((i : Nat) : Int))]) (fun (i : Nat) (u : AV) (hp : ad) => (⟨b2, ⟨12, true, [.int .i64 0, .str [], .int .i64 0, .nils, .int .i64 0, .int .i64 0, .int .i64 0, .nils, .int .i64 0, .bool false, .nils, .nils]⟩, true⟩ :: ⟨b1, ⟨12, true, IE.c (⟨d, A, nk, vm, vn, vk, va⟩ : IE)⟩, true⟩ :: (hs ++ hp))) (fun (i : Nat) (u : AV) (hp : ad) => i <= A.length /\ OwnE 1 (cA (ez U (A.take i))) i u hp) (fun (i : Nat) (u : AV) (hp : ad) => A.length - i) (0) (.nils) ([]) ⟨Nat.zero_le _, OwnE.nil 1⟩ zv (by rw [List.append_nil]; exact SubH.refl _) (fun i u hp hI0 ih0 => ?_))))))))))))))
 obtain ⟨h1, hO⟩ := hI0
 refine W.seq (zr (zm rfl (zf bP rfl 11 (zq (ag rfl (zt 1 rfl) eZ rfl) (zq (Q.len bh rfl hx.a.len) (zq (aa rfl rfl rfl (fi fv)) (zk (aw rfl (fun hc11 => ?_) (fun hc11 => ?_)))))))))
 ·have hlt : i < A.length := hc11
  have hq := hok _ (gj (A := A) (q := i) zy)
  obtain ⟨ba, sza, exa, rfl, wa_, ma⟩ := hxa.full zy
  obtain ⟨bu, szu, exu, rfl, wu, mu⟩ := hU.full zy
  refine zw (W.seq (W.block (ay (zm rfl (zm rfl (zf bP rfl 11 (zq (ag rfl (zt 1 rfl) eZ rfl) (zm rfl (zq (aQ bh fP rfl rfl zo) (zq (ag rfl (List.mem_cons_of_mem _ (List.mem_cons_of_mem _ (List.mem_append_left _ ma))) dn (kx zo hq.1)) (zq (aQ bh fP rfl rfl zo) (zq (ag rfl (List.mem_cons_of_mem _ (List.mem_cons_of_mem _ (List.mem_append_left _ mu))) dn (iA zo)) (WO.bslice bh fP sI rfl (gO rfl aE) rfl (cs := [_]) rfl rfl rfl (fun b3 => WO.appAny (A := ([_, _] ++ hs)) cY hO rfl rfl (Src.slice (zt 0 rfl) rfl) rfl zy (by decide) (SubH.of_sublist (List.sublist_cons_self _ _)) rfl (fun v24 hp24 hO24 => za rfl (WO.nil (End.KB (End.K (W.sub (zc 5 rfl (zc 1 rfl (zc 2 rfl (zc 4 rfl (zc 6 rfl bE))))) (ay (zm rfl (zq (aa rfl (zi 1) rfl zp) (za rfl (WO.nil ?_))))))))))))))))))))))))
  refine End.KL (W.sub zv (bG gc (ih0 (i + 1) (v24) (hp24) ?_ ?_)))
  ·exact ⟨by omega, by rw [tA zy]; exact hO24⟩
  exact zo
 have hge : ¬ i < A.length := hc11
 obtain rfl : i = A.length := zy
 have hO2 : OwnE 1 (cA (ez U A)) (ez U A).length u hp := (by rw [List.take_length] at hO; rw [ez, List.length_map]; exact hO)
 refine W.exit (aJ (aM (aI (End.K (zr (zm rfl (zf bP rfl 11 (WO.store Dl rfl rfl (i := 1) rfl (rA (OwnE.cell hO2) rfl) (cs := [_, _, _, _, _, _, _, _, _, _, _, _]) (BF (OwnE.cell hO2)) (hs' := _ :: _ :: _) rfl (zk (zr (zq (aD rfl (zt 1 rfl) cH aC (l := [_, _, _, _, _, _, _, _, _, _, _, _]) rfl) (WO.store aC rfl rfl (i := 0) rfl (dp rfl (oD hx.m.cell hx.n.cell hx.k.cell (OwnE.cell hO2))) (cs := [_, _, _, _, _, _, _, _, _, _, _, _]) rfl (hs' := _ :: _ :: _) rfl (zk (W.ret ?_))))))))))))))
 refine End.ret (ResL.agg (c := [_, _, _, _, _, _, _, _, _, _, _, _]) rfl (zt 0 rfl) cH aC rfl ResL.nil) (hs' := hp) ⟨u, rfl, hO2⟩ (OwnE.w hO2) gc

theorem yq (hs : ad) (hro : ∀ e ∈ hs, e.w = false) (L : List IE) (v : AV) (hV : IIn hs L v) (hB : ILB L) (hc : dE L = 0) : Spec aW 49 [v] [] hs (fun v D => ∃ bn, v = .slice bn 0 L.length 1 /\ D = [⟨bn, ⟨1, true, cB (nb L) L.length⟩, true⟩]) := by
 have hBl := hB.1
 obtain ⟨h0, hL, hok⟩ := iH hc
 refine ak (eX 49 Tryz.func49) rfl (m := 48) rfl (rs := [.tmp 2]) rfl (st := [(0, v)]) rfl rfl (fun _ => rfl) (fun E => zr (za rfl (zk (zr (zm rfl (zq (Q.len aP rfl hV.1.len) (ku CM rfl rfl zy (yn _) rfl (fun bn => za rfl (zk (zr (zm rfl (zm rfl (zq (Q.len aP rfl hV.1.len) (zq (aa rfl (zi 1) rfl (iG (Cp zo))) (zq (aQ nz sC rfl rfl zo) (WO.store sC rfl rfl (i := 0) rfl (rA rfl (p4 zy)) (l6 zy) (hs' := _ :: _) rfl (zk (W.seq (zr (zm rfl (zq (Q.len aP rfl hV.1.len) (zq (aa rfl (zi 1) rfl (iG (Cp zo))) (za rfl ?_)))))))))))))))))))))))
 refine zk (W.block (dw (fun (m : Nat) (z : Int) => [(0, v), (3, .slice bn 0 L.length 1), (4, .int .i64 z)]) (fun (m : Nat) (z : Int) => (⟨bn, ⟨1, true, cB (rW L (L.length - m)) L.length⟩, true⟩ :: hs)) (fun (m : Nat) (z : Int) => m <= L.length /\ z = ((m : Nat) : Int) - 1) (fun (m : Nat) (z : Int) => m) (L.length) ((((L.length - 1 : Nat)) : Int)) ⟨Nat.le_refl _, by omega⟩ zv (by rw [Nat.sub_self, <- AW]; exact SubH.refl _) (fun m z hI0 ih0 => ?_)))
 obtain ⟨h1, h2⟩ := hI0
 refine W.seq (zr (zm rfl (zq (aa rfl (zi 0) rfl (gU ey)) (zk (aw rfl (fun hc18 => ?_) (fun hc18 => ?_))))))
 ·obtain ⟨k, rfl⟩ : ∃ k : Nat, z = ((k : Nat) : Int) := ⟨z.toNat, by omega⟩
  obtain rfl : m = k + 1 := zy
  obtain ⟨bv, szv, exv, rfl, wv, mv⟩ := hV.1.full zy
  have hal := (hB.at (i := k) zy).a
  refine zw (W.seq (W.block (zr (za (zi 0) (zk (W.block (az (fun (q : Nat) => [(0, .slice bv 0 L.length 12), (3, .slice bn 0 L.length 1), (4, .int .i64 ((k : Nat) : Int)), (5, .int .i64 ((q : Nat) : Int))]) (fun (q : Nat) => (⟨bn, ⟨1, true, cB (AY L k q) L.length⟩, true⟩ :: hs)) (fun (q : Nat) => q <= (ei L k).ars.length /\ (nb L k = false -> q = 0)) (fun (q : Nat) => (ei L k).ars.length - q) (0) ⟨Nat.zero_le _, fun _ => rfl⟩ zv (by rw [<- CO zy]; exact SubH.refl _) (fun q hI1 ih1 => ?_))))))))
  obtain ⟨h3, h4⟩ := hI1
  refine W.seq (zr (zm rfl (zm rfl (zm rfl (zq (aQ aP aC rfl rfl zo) (zq (Q.fieldAddr bP rfl rfl) (zq (ag rfl (List.mem_cons_of_mem _ mv) eZ (gG 11 zo rfl)) (zq (Q.len bh rfl (hV.at zo).a.len) (zq (aa rfl rfl rfl (fi fv)) (zm rfl (aR (d := 29) rfl (fun hc29 => ?_) (fun hc29 => ?_))))))))))))
  ·refine zT (zm rfl (zT (zm rfl (zT (zq (aQ nz sC rfl rfl zo) (zT (zq (ag rfl (zt 0 rfl) uX (pZ zo)) (zq (au rfl rfl) (zk (b9 rfl (fun hc34 => ?_) (fun hc34 => ?_)))))))))))
   ·have hnb : nb L k = true := (by rw [<- qG hok (q := q) zy]; exact hc34)
    obtain ⟨ba, sza, exa, hva, wa_, ma⟩ := (hV.at (i := k) zy).a.full zy
    have hq1 := eU (hok k zy) (gj (A := (ei L k).ars) (q := q) zy)
    refine zw (W.sub (zc 0 rfl (zc 3 rfl (zc 4 rfl (zc 5 rfl bE)))) (W.seq (W.block (ay (zm rfl (zm rfl (zm rfl (zq (aQ aP aC rfl rfl zo) (zq (Q.fieldAddr bP rfl rfl) (zq (ag rfl (List.mem_cons_of_mem _ mv) eZ (gG 11 zo (congrArg some hva))) (zm rfl (zq (aQ bh fP rfl rfl zo) (zq (ag rfl (List.mem_cons_of_mem _ ma) dn (kx zo hq1.1)) (zq (aQ nz sC rfl rfl zo) (WO.store sC rfl rfl (i := 0) rfl (rA rfl (p4 zy)) (l6 zy) (hs' := _ :: _) rfl (WO.nil (End.KB (End.K (ay (zm rfl (zq (aa rfl (zi 1) rfl zp) (za rfl (WO.nil (End.KL ?_))))))))))))))))))))))))
    refine W.sub zv (bG (by rw [<- wY hok zy zy hnb]; exact SubH.refl _) (ih1 (q + 1) ?_ ?_))
    ·exact ⟨by omega, fun h => by rw [hnb] at h; cases h⟩
    exact zo
   have hnb : nb L k = false := (by rw [<- qG hok (q := q) zy]; simpa using hc34)
   obtain rfl : q = 0 := h4 hnb
   rw [BM hok zy hnb]
   refine W.exit (aJ (aM (aI (End.KB (End.K (W.sub (zc 0 rfl (zc 3 rfl (zc 4 rfl bE))) (ay (zm rfl (zq (aa rfl (zi 1) rfl (iG (uQ zo))) (za rfl (WO.nil (End.KL (W.sub zv (bG (SubH.refl _) (ih0 (k) (_) ?_ ?_)))))))))))))))
   ·exact ⟨by omega, by omega⟩
   exact zo
  obtain rfl : q = (ei L k).ars.length := zy
  rw [tD zy]
  refine z2 (z2 (zq (aG rfl rfl) (zk (aN rfl (W.exit (aJ (aM (aI (End.KB (End.K (W.sub (zc 0 rfl (zc 3 rfl (zc 4 rfl bE))) (ay (zm rfl (zq (aa rfl (zi 1) rfl (iG (uQ zo))) (za rfl (WO.nil (End.KL (W.sub zv (bG (SubH.refl _) (ih0 (k) (_) ?_ ?_))))))))))))))))))))
  ·exact ⟨by omega, by omega⟩
  exact zo
 obtain rfl : m = 0 := zy
 rw [Nat.sub_zero, tB]
 refine W.exit (aJ (aM (aI (End.K (zr (zm rfl (za rfl (zk (W.ret ?_)))))))))
 refine End.ret (z1 rfl) (hs' := [⟨bn, ⟨1, true, cB (nb L) L.length⟩, true⟩]) ⟨bn, rfl, rfl⟩ Dy gc

theorem tJ (hs : ad) (hro : ∀ e ∈ hs, e.w = false) {x : IE} (hx : IOK hs x) (hb : IBd x) {U : List Int} {vu : AV} (hU : RIn hs 1 U.length (cA U) vu) (hok : ∀ a ∈ x.ars, 0 <= a /\ a < U.length) (hUl : U.length <= 1048576) : Spec aW 48 [.agg x.c, vu] [] hs (fun v D => ∃ v2, v = .agg (IE.c (⟨x.d, ez U x.ars, x.nk, x.vm, x.vn, x.vk, v2⟩ : IE)) /\ OwnE 1 (cA (ez U x.ars)) (ez U x.ars).length v2 D) := by
 obtain ⟨d, A, nk, vm, vn, vk, va⟩ := x
 exact uD hs hro d A nk vm vn vk va hx hb U vu hU hok hUl
theorem sq (hs : ad) (hro : ∀ e ∈ hs, e.w = false) (L : List IE) (v : AV) (hV : IIn hs L v) (hB : ILB L) : Spec aW 21 [v] [] hs (fun r D => ∃ (e : Nat) (Y : List IE) (w : AV), sM L e (D2 Y) /\ ROwn hs Y w D /\ r = .tuple [w, .int .i64 ((e : Nat) : Int)]) := by
 have hBl := hB.1
 refine ak (eX 21 Tryz.func21) rfl (m := 46) rfl (rs := [.tmp 2, .tmp 3]) rfl (st := [(0, v)]) rfl rfl (fun _ => rfl) (fun E => zr (za rfl (za (zi 0) (zk (W.seq (zr (zm rfl (aB rfl (aY rfl oz) rfl (jk hs hro L _ hV hB) (aZ hro) rfl (za rfl (zk (zr (zm rfl (zq (aa rfl (zi 0) rfl (bV er)) (zk (aw rfl (fun hc12 => ?_) (fun hc12 => ?_))))))))))))))))
 ·refine zr (zm rfl (za rfl (za rfl (zk (W.ret ?_)))))
  refine ac (End.ret (ResL.tmp rfl (z1 rfl)) (hs' := []) ⟨dE L, [], .nils, .inl ⟨by omega, rfl, rfl⟩, ROwn.nil, rfl⟩ iC (SubH.nil _))
 obtain ⟨h0, hL, hok⟩ := iH (L := L) zy
 refine zw (zr (zm rfl (WO.call0 rfl (aY rfl oz) rfl (yq hs hro L _ hV hB zy) (aZ hro) rfl (fun v15 D15 hP15 => ?_))))
 obtain ⟨bn, rfl, rfl⟩ := hP15
 refine za rfl (zk (zr (za rfl (zk (zr (za rfl (zk (W.seq (zr (za (zi 0) (zk (W.block (kY (fun (i : Nat) (X : List IE) (u : AV) (hp : ad) (hl : ad) (vt : AV) (ht : ad) => [(0, v), (5, .slice bn 0 L.length 1), (6, u), (7, vt), (8, .int .i64 ((i : Nat) : Int))]) (fun (i : Nat) (X : List IE) (u : AV) (hp : ad) (hl : ad) (vt : AV) (ht : ad) => (⟨bn, ⟨1, true, cB (nb L) L.length⟩, true⟩ :: (hs ++ hp ++ hl ++ ht))) (fun (i : Nat) (X : List IE) (u : AV) (hp : ad) (hl : ad) (vt : AV) (ht : ad) => i <= L.length /\ D2 X = gf L i /\ OwnE 12 (cI X) X.length u hp /\ (∀ x ∈ X, IOK (hs ++ hl) x /\ x.nk = 0) /\ (∀ e ∈ hl, e.w = true) /\ (∀ x ∈ X, IBd x) /\ OwnE 1 (cA (sG L i)) i vt ht) (fun (i : Nat) (X : List IE) (u : AV) (hp : ad) (hl : ad) (vt : AV) (ht : ad) => L.length - i) (0) ([]) (.nils) ([]) ([]) (.nils) ([]) ⟨Nat.zero_le _, rfl, OwnE.nil 12, fun x hx => by simp at hx, iC, fun x hx => by simp at hx, OwnE.nil 1⟩ zv (by rw [List.append_nil, List.append_nil, List.append_nil]; exact SubH.refl _) (fun i X u hp hl vt ht hI0 ih0 => ?_))))))))))))))
 obtain ⟨h3, hX2, hO, hX, hw, hXb, hT⟩ := hI0
 have hXl : X.length = j9 L i := (by rw [<- aK, hX2, yJ])
 have hpl := po (L := L) (j := i)
 refine W.seq (zr (zm rfl (zm rfl (zq (Q.len aP rfl hV.1.len) (zq (aa rfl rfl rfl (fi fv)) (zk (aw rfl (fun hc19 => ?_) (fun hc19 => ?_))))))))
 ·obtain ⟨bv, szv, exv, rfl, wv, mv⟩ := hV.1.full zy
  refine zw (W.seq (W.block (W.seq (zr (zm rfl (zm rfl (zq (aQ nz sC rfl rfl zo) (zq (ag rfl (zt 0 rfl) uX (pZ zo)) (zq (Q.not rfl rfl) (zk (b9 rfl (fun hc26 => ?_) (fun hc26 => ?_))))))))))))
  ·have hnb : nb L i = false := (by simpa using hc26)
   refine zr (zm rfl (WO.bslice bh fP sI rfl (gO (zi 0) aE) rfl (cs := [_]) rfl rfl rfl (fun b1 => WO.appAny (A := ([_] ++ hs ++ hp ++ hl)) cY hT rfl rfl (Src.slice (zt 0 rfl) rfl) rfl zy (by decide) (SubH.of_sublist (List.sublist_cons_self _ _)) rfl (fun v29 hp29 hO29 => za rfl (zk (W.exit (aJ (aI (End.K (ay (zm rfl (zq (aa rfl (zi 1) rfl zp) (za rfl (WO.nil (End.KL (W.sub zv (bG gc (ih0 (i + 1) (X) (u) (hp) (hl) (v29) (hp29) ?_ ?_))))))))))))))))))
   ·exact ⟨by omega, by rw [CZ hnb]; exact hX2, hO, hX, hw, hXb, by rw [CX hnb]; exact hO29⟩
   exact zo
  have hnb : nb L i = true := (by simpa using hc26)
  refine zw (zr (zm rfl (zm rfl (zm rfl (zq (aQ aP aC rfl rfl zo) (zq (aD rfl (List.mem_cons_of_mem _ (List.mem_append_left _ (List.mem_append_left _ (List.mem_append_left _ mv)))) cH aC (fT zo)) (zm rfl (WO.call0 rfl (aY rfl (aY rfl oz)) rfl (tJ (ro ht ++ hs) (gy hro) ((hV.at zy).mono (fun b o q => q.app)) (hB.at zy) (RIn.own (AD hT)).ro.appl (Ci (hok i zy)) (by rw [pA]; omega)) (dH gc hro) rfl (fun v36 D36 hP36 => ?_)))))))))
  obtain ⟨v2, rfl, hP36⟩ := hP36
  rw [BL (hok i zy) zy hnb] at hP36
  refine WO.subH (hs' := _ :: (hs ++ hl ++ D36 ++ hp ++ ht)) (SubH.op (io (N := []) (G := D36) (K := [_]) (X := hs ++ hp ++ hl ++ ht) (by simp only [List.append_assoc, List.nil_append]; exact List.perm_iff_count.2 (by intro z; simp only [List.append_eq, List.count_append, List.count_nil]; omega)))) (WO.bslice aP aC pG rfl (gO rfl aE) rfl (cs := [_, _, _, _, _, _, _, _, _, _, _, _]) rfl (oD (hV.at zy).m.cell (hV.at zy).n.cell (hV.at zy).k.cell (OwnE.cell hP36)) rfl (fun b2 => WO.subH (hs' := _ :: _ :: (hs ++ hl ++ D36 ++ ht ++ hp)) (SubH.op (List.Perm.append_left [_, _] (List.perm_iff_count.2 (by intro z; simp only [List.append_eq, List.count_append, List.count_nil]; omega)))) (WO.appAny (A := ([_] ++ hs ++ hl ++ D36 ++ ht)) fm hO rfl rfl (Src.slice (zt 0 rfl) rfl) rfl zy (by decide) (SubH.of_sublist (List.sublist_cons_self _ _)) rfl (fun v38 hp38 hO38 => za rfl (zk (W.sub (zc 6 rfl (zc 0 rfl (zc 5 rfl (zc 7 rfl (zc 8 rfl bE))))) (ay (zm rfl (zm rfl (zq (Q.len aP rfl hO38.len) (zq (aa rfl (zi 1) rfl (iG (Cp zo))) (WO.bslice bh fP sI rfl (gO rfl aE) rfl (cs := [_]) rfl rfl rfl (fun b3 => WO.subH (hs' := _ :: _ :: (hs ++ hl ++ D36 ++ hp38 ++ ht)) (SubH.op (List.Perm.append_left [_, _] (List.perm_iff_count.2 (by intro z; simp only [List.append_eq, List.count_append, List.count_nil]; omega)))) (WO.appAny (A := ([_] ++ hs ++ hl ++ D36 ++ hp38)) cY hT rfl rfl (Src.slice (zt 0 rfl) rfl) rfl zy (by decide) (SubH.of_sublist (List.sublist_cons_self _ _)) rfl (fun v44 hp44 hO44 => za rfl (WO.nil (End.KB (End.K (ay (zm rfl (zq (aa rfl (zi 1) rfl zp) (za rfl (WO.nil (End.KL ?_))))))))))))))))))))))))
  refine W.sub zv (bG gc (ih0 (i + 1) (X ++ [(⟨(ei L i).d, fN L (ei L i).ars, (ei L i).nk, (ei L i).vm, (ei L i).vn, (ei L i).vk, v2⟩ : IE)]) (v38) (hp38) (hl ++ D36) (v44) (hp44) ?_ ?_))
  ·exact ⟨by omega, by rw [fq, C0 hnb, hX2], by rw [fp, List.length_append]; exact hO38, mY hX ⟨⟨(hV.at zy).m.appl.appl, (hV.at zy).n.appl.appl, (hV.at zy).k, (RIn.own hP36).app⟩, qK (hok i zy)⟩, wa hw (OwnE.w hP36), yK hXb (hB.at zy) zy (hok i zy) rfl rfl, by rw [CY hnb, <- hXl]; exact hO44⟩
  exact zo
 refine W.exit (aJ (aM (aI (End.K (zr (zm rfl (za rfl (za (zi 0) (zk (W.ret ?_))))))))))
 refine End.ret (ResL.tmp rfl (z1 rfl)) (hs' := hp ++ hl) ⟨0, X, u, .inr ⟨by omega, rfl, by rw [hX2, show i = L.length by omega]⟩, ⟨hp, hl, rfl, hO, hX, hw, ⟨by omega, hXb⟩⟩, rfl⟩ (wa (OwnE.w hO) hw) gc

end Go.Proofs.YtndhhgbpcmfeiaaGreatDoor.Ev
