/- Chapter 20, walks: Trim. -/
import Derived.Test.YtndhhgbpcmfeiaaGreatDoorPGg
namespace Go.Proofs.YtndhhgbpcmfeiaaGreatDoor.Ev
open Go.RowKit
set_option maxRecDepth 100000
set_option maxHeartbeats 1000000
section
variable {L X : List IE} {hs hl Dm Dn Da D : ad} {i : Nat} {A : List Int} {d : ND} {vm vn va v : AV}
theorem Cj {x : Nat} (h : i < L.length) (hX : x = j9 L i) (hn : nb L i = true) : bJ (cN (sF L i) L.length) ((0 + i) * 1) (AV.int .i64 ((x : Nat) : Int)).cells = cN (sF L (i + 1)) L.length := by
 rw [Bq h, hX]; exact Dq hn
theorem B7 {b n : Nat} {f : Nat -> Int} : RIn (ro [⟨b, ⟨1, true, cN f n⟩, true⟩] ++ hs) 1 ((List.range n).map f).length (cA ((List.range n).map f)) (.slice b 0 n 1) := by
 refine .inr ⟨b, 1, true, by rw [List.length_map, List.length_range], ⟨false, ?_⟩, by rw [vq]⟩
 rw [<- Bs]
 exact List.mem_cons_self
theorem AF (hok : iD L i = true) (hi : i < L.length) (hn : nb L i = true) (h : OwnE 1 (cA (ez ((List.range L.length).map (sF L (i + 1))) (ei L i).ars)) (ei L i).ars.length v D) : OwnE 1 (cA (fN L (ei L i).ars)) (fN L (ei L i).ars).length v D := by
 rw [Ac hok hi hn] at h
 rw [kV]; exact h
theorem kW (hX : ∀ x ∈ X, IOK hl x /\ x.nk = 0) (hm : OwnE 3 (cM d.ms) d.ms.length vm Dm) (hn : OwnE 1 (cS d.nm) d.nm.length vn Dn) (ha : OwnE 1 (cA A) A.length va Da) (hD : D = Dm ++ Dn) : ∀ x ∈ X ++ [⟨d, A, 0, vm, vn, .nils, va⟩], IOK (hl ++ D ++ Da) x /\ x.nk = 0 := by
 intro x hx
 rcases List.mem_append.1 hx with hx | hx
 ·obtain ⟨h1, h2⟩ := hX x hx
  exact ⟨h1.mono fun b o q => q.appl'.appl', h2⟩
 ·rw [List.mem_singleton.1 hx, hD]
  exact ⟨⟨(RIn.own hm).appl.app.appl, (RIn.own hn).app.app.appl, .inl ⟨rfl, rfl⟩, (RIn.own ha).app⟩, rfl⟩
theorem AE (hX : ∀ x ∈ X, IBd x) (hd : IBd (ei L i)) (hi : i < 1048576) (hok : iD L i = true) : ∀ x ∈ X ++ [⟨(ei L i).d, fN L (ei L i).ars, 0, vm, vn, .nils, va⟩], IBd x := by
 intro x hx
 rcases List.mem_append.1 hx with hx | hx
 ·exact hX x hx
 ·rw [List.mem_singleton.1 hx]
  refine ⟨hd.d, by rw [kV]; exact hd.a, fun n hn => ?_⟩
  obtain ⟨a, ha, rfl⟩ := List.mem_map.1 hn
  have := po (L := L) (j := a.toNat)
  have := eU hok ha
  unfold yN
  omega
theorem rQ (h : va.isCell = true) : cR (fun i => [(0, 11), (11, 1)][i]?) [.int .i64 0, .str [], .int .i64 0, .nils, .int .i64 0, .int .i64 0, .int .i64 0, .nils, .int .i64 0, .bool false, .nils, .nils] [(0, .agg (d.c vm vn .nils)), (1, va)] = some (d.c vm vn .nils ++ [va]) := by
 simp only [cR, cz h]; rfl
theorem vl (hm : cf vm vm = true) (hn : cf vn vn = true) (ha : cf va va = true) : (AV.agg (d.c vm vn .nils ++ [va])).beq (AV.agg (d.c vm vn .nils ++ [va])) = true :=
 gD (by simp only [ND.c, iT, List.cons_append, List.nil_append, List.all_cons, List.all_nil, hm, hn, ha, oG, oH, lH, Bool.and_true]; rfl)
theorem sP (hm : vm.isCell = true) (hn : vn.isCell = true) (ha : va.isCell = true) : ((d.c vm vn .nils ++ [va]).all AV.isCell) = true := by
 simp only [ND.c, iT, List.cons_append, List.nil_append, List.all_cons, List.all_nil, hm, hn, ha, Bool.and_true, Bool.true_and]
 rfl
end
theorem uX : aW.isAgg 4 = some false := by kernel_rfl
theorem fm : AP aW 30 30 = some 12 := by kernel_rfl
theorem Di : MS aW 40 = some (1, [.int .i64 0]) := by kernel_rfl
theorem CM : MS aW 52 = some (1, [.bool false]) := by kernel_rfl
theorem sk : PL aW 42 [.int .i64 0, .str [], .int .i64 0, .nils, .int .i64 0, .int .i64 0, .int .i64 0, .nils, .int .i64 0, .bool false, .nils, .nils] [(0, 11), (11, 1)] = true := by kernel_rfl
theorem sC : aW.size 4 = some 1 := by kernel_rfl
theorem nz : aW.und 52 = some (.slice 4) := by kernel_rfl
theorem pG : aW.zero 42 = some (.agg [.int .i64 0, .str [], .int .i64 0, .nils, .int .i64 0, .int .i64 0, .int .i64 0, .nils, .int .i64 0, .bool false, .nils, .nils]) := by kernel_rfl
theorem uO (hs : ad) (hro : ∀ e ∈ hs, e.w = false) (L : List IE) (v : AV) (hV : IIn hs L v) (hB : ILB L) : Spec aW 20 [v] [] hs (fun r D => ∃ (e : Nat) (Y : List IE) (w : AV), sM L e (D2 Y) /\ IOwn Y w D /\ r = .tuple [w, .int .i64 ((e : Nat) : Int)]) := by
 have hBl := hB.1
 refine ak (eX 20 Tryz.func20) rfl (m := 94) rfl (rs := [.tmp 2, .tmp 3]) rfl (st := [(0, v)]) rfl rfl (fun _ => rfl) (fun E => zr (za rfl (za (zi 0) (zk (W.seq (zr (zm rfl (aB rfl (aY rfl oz) rfl (jT hs hro L _ hV hB) (aZ hro) rfl (za rfl (zk (zr (zm rfl (zq (aa rfl (zi 0) rfl (bV er)) (zk (aw rfl (fun hc17 => ?_) (fun hc17 => ?_))))))))))))))))
 ·refine zr (zm rfl (za rfl (za rfl (zk (W.ret ?_)))))
  refine ac (End.ret (ResL.tmp rfl (z1 rfl)) (hs' := []) ⟨dE L, [], .nils, .inl ⟨by omega, rfl, rfl⟩, IOwn.nil, rfl⟩ iC (SubH.nil _))
 obtain ⟨h0, hL, hok⟩ := iH (L := L) zy
 refine zw (zr (zm rfl (zq (Q.len aP rfl hV.1.len) (ku CM rfl rfl zy (yn _) rfl (fun bn => za rfl (zk (zr (zm rfl (zm rfl (zq (Q.len aP rfl hV.1.len) (zq (aa rfl (zi 1) rfl (iG (Cp zo))) (zq (aQ nz sC rfl rfl zo) (WO.store sC rfl rfl (i := 0) rfl (rA rfl (p4 zy)) (l6 zy) (hs' := _ :: _) rfl (zk (W.sub (zc 5 rfl (zc 0 rfl bE)) (W.seq (zr (zm rfl (zq (Q.len aP rfl hV.1.len) (zq (Q.move (zi 0)) (zk (W.block (az (fun (t : Nat) => [(0, v), (5, .slice bn 0 L.length 1), (28, .int .i64 ((L.length : Nat) : Int)), (29, .int .i64 ((t : Nat) : Int))]) (fun (t : Nat) => (⟨bn, ⟨1, true, cB (rW L t) L.length⟩, true⟩ :: hs)) (fun (t : Nat) => t <= L.length) (fun (t : Nat) => L.length - t) (0) (Nat.zero_le _) zv (by rw [<- AW]; exact SubH.refl _) (fun t hI0 ih0 => ?_))))))))))))))))))))))))
 have h1 := hI0
 refine zr (zq (aa rfl rfl rfl (fi fv)) (zk (W.seq (aw rfl (fun hc30 => ?_) (fun hc30 => ?_)))))
 ·obtain ⟨bv, szv, exv, rfl, wv, mv⟩ := hV.1.full zy
  have hal := (hB.at (i := L.length - 1 - t) zy).a
  refine zw (W.seq (W.block (zr (zm rfl (za rfl (zk (zr (zm rfl (zq (Q.len aP rfl rfl) (zq (aa rfl (zi 1) rfl (iG (Cp zo))) (zm rfl (zq (aa rfl rfl rfl (iG (Cp zo))) (za rfl (zk (zr (zm rfl (zm rfl (zq (aQ aP aC rfl rfl zo) (zq (Q.fieldAddr bP rfl rfl) (zq (ag rfl (List.mem_cons_of_mem _ mv) eZ (gG 11 zo rfl)) (zq (Q.len bh rfl (hV.at zo).a.len) (zq (Q.move (zi 0)) (zk ?_)))))))))))))))))))))))
  refine W.block (dw (fun (q : Nat) (xa : AV) => [(0, .slice bv 0 L.length 12), (5, .slice bn 0 L.length 1), (7, .int .i64 ((L.length - 1 - t : Nat) : Int)), (28, .int .i64 ((L.length : Nat) : Int)), (29, .int .i64 ((t : Nat) : Int)), (41, xa), (42, .int .i64 (((ei L (L.length - 1 - t)).ars.length : Nat) : Int)), (43, .int .i64 ((q : Nat) : Int))]) (fun (q : Nat) (xa : AV) => (⟨bn, ⟨1, true, cB (wX L t q) L.length⟩, true⟩ :: hs)) (fun (q : Nat) (xa : AV) => q <= (ei L (L.length - 1 - t)).ars.length /\ RIn hs 1 (ei L (L.length - 1 - t)).ars.length (cA (ei L (L.length - 1 - t)).ars) xa) (fun (q : Nat) (xa : AV) => (ei L (L.length - 1 - t)).ars.length - q) (0) (_) ⟨Nat.zero_le _, (hV.at zy).a⟩ zv (by rw [<- AX]; exact SubH.refl _) (fun q xa hI1 ih1 => ?_))
  obtain ⟨h2, hxa⟩ := hI1
  refine zr (zq (aa rfl rfl rfl (fi fv)) (zk (W.seq (aw rfl (fun hc44 => ?_) (fun hc44 => ?_)))))
  ·have hq1 := eU (hok (L.length - 1 - t) zy) (gj (A := (ei L (L.length - 1 - t)).ars) (q := q) zy)
   obtain ⟨ba, sza, exa, rfl, wa_, ma⟩ := hxa.full zy
   refine zw (W.seq (W.block (zr (zq (aQ bh fP rfl rfl zo) (zq (ag rfl (List.mem_cons_of_mem _ ma) dn (kx zo hq1.1)) (za rfl (zk (ay (zm rfl (zm rfl (zm rfl (zm rfl (zq (aQ nz sC rfl rfl zo) (zq (ag rfl (zt 0 rfl) uX (pZ zo)) (zm rfl (WO.split (d := 53) rfl (fun hc53 => ?_) (fun hc53 => ?_)))))))))))))))))
   ·refine z2 (z2 (zq (au rfl rfl) (zq (aQ nz sC rfl rfl zo) (WO.store sC rfl rfl (i := 0) rfl (rA rfl (p4 zy)) (l6 zy) (hs' := _ :: _) rfl (WO.nil (End.KB (End.K (W.sub (zc 0 rfl (zc 5 rfl (zc 7 rfl (zc 28 rfl (zc 29 rfl (zc 41 rfl (zc 42 rfl (zc 43 rfl bE)))))))) (ay (zq (aa rfl (zi 1) rfl zp) (zm rfl (WO.nil (End.KL (W.sub zv (bG (by rw [<- mO hok zy zy (by rw [hc53]; try rfl)]; exact SubH.refl _) (ih1 (q + 1) (_) ?_ ?_))))))))))))))))
    ·exact ⟨by omega, hxa⟩
    exact zo
   refine zT (zm rfl (zT (zm rfl (zT (zq (aQ nz sC rfl rfl zo) (zT (zq (ag rfl (zt 0 rfl) uX (pZ zo)) (zq (aG rfl rfl) (zq (aQ nz sC rfl rfl zo) (WO.store sC rfl rfl (i := 0) rfl (rA rfl (p4 zy)) (l6 zy) (hs' := _ :: _) rfl (WO.nil (End.KB (End.K (W.sub (zc 0 rfl (zc 5 rfl (zc 7 rfl (zc 28 rfl (zc 29 rfl (zc 41 rfl (zc 42 rfl (zc 43 rfl bE)))))))) (ay (zq (aa rfl (zi 1) rfl zp) (zm rfl (WO.nil (End.KL (W.sub zv (bG (by rw [<- mO hok zy zy (by rw [hc53]; try rfl)]; exact SubH.refl _) (ih1 (q + 1) (_) ?_ ?_))))))))))))))))))))))
   ·exact ⟨by omega, hxa⟩
   exact zo
  obtain rfl : q = (ei L (L.length - 1 - t)).ars.length := zy
  refine W.exit (aJ (aM (aI (End.KB (End.K (ay (zq (aa rfl (zi 1) rfl zp) (zm rfl (WO.nil (End.KL (W.sub zv (bG (by rw [<- tC zy]; exact SubH.refl _) (ih0 (t + 1) ?_ ?_)))))))))))))
  ·exact zy
  exact zo
 obtain rfl : t = L.length := zy
 rw [tB]
 refine W.exit (aJ (aM (aI (End.K (zr (zm rfl (zq (Q.len aP rfl hV.1.len) (ku Di rfl rfl zy (B5 _) rfl (fun bt => za rfl (zk (zr (za rfl (zk (W.seq (zr (zm rfl (zq (Q.len aP rfl hV.1.len) (zq (Q.move (zi 0)) (zk (W.block (iE (fun (i : Nat) (X : List IE) (u : AV) (hp : ad) (hl : ad) => [(5, .slice bn 0 L.length 1), (10, .slice bt 0 L.length 1), (11, u), (65, v), (66, .int .i64 ((L.length : Nat) : Int)), (67, .int .i64 ((i : Nat) : Int))]) (fun (i : Nat) (X : List IE) (u : AV) (hp : ad) (hl : ad) => (⟨bt, ⟨1, true, cN (sF L (i)) L.length⟩, true⟩ :: ⟨bn, ⟨1, true, cB (nb L) L.length⟩, true⟩ :: (hs ++ hp ++ hl))) (fun (i : Nat) (X : List IE) (u : AV) (hp : ad) (hl : ad) => i <= L.length /\ D2 X = gf L i /\ OwnE 12 (cI X) X.length u hp /\ (∀ x ∈ X, IOK hl x /\ x.nk = 0) /\ WZ hl /\ (∀ x ∈ X, IBd x)) (fun (i : Nat) (X : List IE) (u : AV) (hp : ad) (hl : ad) => L.length - i) (0) ([]) (.nils) ([]) ([]) ⟨Nat.zero_le _, rfl, OwnE.nil 12, fun x hx => by simp at hx, WZ.nil, fun x hx => by simp at hx⟩ zv (by rw [List.append_nil, List.append_nil, <- Do]; exact SubH.refl _) (fun i X u hp hl hI2 ih2 => ?_))))))))))))))))))))))
 obtain ⟨h3, hX2, hO, hX, hw, hXb⟩ := hI2
 have hXl : X.length = j9 L i := (by rw [<- aK, hX2, yJ])
 have hpl := po (L := L) (j := i)
 refine zr (zq (aa rfl rfl rfl (fi fv)) (zk (W.seq (aw rfl (fun hc68 => ?_) (fun hc68 => ?_)))))
 ·obtain ⟨bv, szv, exv, rfl, wv, mv⟩ := hV.1.full zy
  refine zw (W.seq (W.block (zr (zm rfl (zq (aQ aP aC rfl rfl zo) (zq (aD rfl (List.mem_cons_of_mem _ (List.mem_cons_of_mem _ (List.mem_append_left _ (List.mem_append_left _ mv)))) cH aC (fT zo)) (WO.alloc pS rfl (fun b1 => za rfl (WO.store aC rfl rfl (i := 0) rfl (dp rfl (IOK.cells (hV.at zy))) (cs := [_, _, _, _, _, _, _, _, _, _, _, _]) rfl (hs' := _ :: _ :: _ :: _) rfl (zk (zr (zm rfl (zm rfl (zq (aQ nz sC rfl rfl zo) (zq (ag rfl (zt 2 rfl) uX (pZ zo)) (zk (b9 rfl (fun hc75 => ?_) (fun hc75 => ?_))))))))))))))))))
  ·have hnb : nb L i = true := hc75
   refine zr (zm rfl (zm rfl (zm rfl (zq (Q.len aP rfl hO.len) (zq (aQ bh fP rfl rfl zo) (WO.store fP rfl rfl (i := 1) rfl (rA rfl (CD zy)) (Cj zy hXl hnb) (hs' := _ :: _ :: _ :: _) rfl (zk (W.sub (zc 13 rfl (zc 5 rfl (zc 10 rfl (zc 11 rfl (zc 65 rfl (zc 66 rfl (zc 67 rfl bE))))))) (lS 10 (⟨b1, _, false⟩ :: hs) (by kernel_rfl) (KIn.cons (zt 0 rfl) (fun e he => ⟨e.w, by obtain ⟨b, o, w⟩ := e; simp [he]⟩)) (WD.q (Q.move rfl) (OwnE.bq hO) rfl (WD.q (Q.fieldAddr aV rfl (o' := 0) rfl) sV rfl (WD.q (zL rfl (zt 0 rfl) jD iu rfl) (lY (hV.at zy)) rfl (WD.call0 rfl (aY rfl oz) rfl (kw hs hro (ei L i).d _ _ _ (hV.at zy).m (hV.at zy).n _ (hV.at zy).k (hB.at zy).d) (SubR.t (SubR.t (SubR.t (SubR.appl (SubR.appl (aZ hro)))))) (KIn.cons (zt 0 rfl) (fun e he => ⟨e.w, by obtain ⟨b, o, w⟩ := e; simp [he]⟩)) rfl (fun v84 D84 hP84 => ?_))))))))))))))
   obtain ⟨vm2, vn2, Dm, Dn, rfl, hOm, hOn, hDD⟩ := hP84
   have hwD : WZ D84 := (by rw [hDD]; exact (WZ.own hOm).app (WZ.own hOn))
   refine WD.subH (hs' := _ :: _ :: _ :: (hs ++ hp ++ hl ++ D84)) (SubH.op (bU (N := []) (G := D84) (K := [_, _, _]) (X := hs ++ hp ++ hl))) (WD.q (Q.fieldAddr bP rfl (o' := 11) rfl) sV rfl (WD.q (ag rfl (zt 0 rfl) eZ rfl) (hV.at zo).a.bq rfl (WD.q (Q.move rfl) C3 rfl (WD.call0 rfl (aY rfl (aY rfl oz)) rfl (qD (ro [⟨bt, ⟨1, true, cN (sF L (i + 1)) L.length⟩, true⟩] ++ hs) (gy hro) (ei L i).ars _ (hV.at zy).a.app (hB.at zy).a _ _ B7 (fun a ha => by have := eU (hok i zy) ha; rw [List.length_map, List.length_range]; omega) (by rw [List.length_map, List.length_range]; exact hBl)) (dH gc hro) (KIn.cons (zt 0 rfl) (fun e he => ⟨e.w, by obtain ⟨b, o, w⟩ := e; simp [he]⟩)) rfl (fun v88 D88 hP88 => ?_)))))
   have hA88 := AF (hok i zy) zy hnb hP88
   refine WD.subH (hs' := _ :: _ :: _ :: (hs ++ hl ++ D84 ++ D88 ++ hp)) (SubH.op (io (N := []) (G := D88) (K := [_, _, _]) (X := hs ++ hp ++ hl ++ D84) (by simp only [List.append_assoc, List.nil_append]; exact List.perm_iff_count.2 (by intro z; simp only [List.append_eq, List.count_append, List.count_nil]; omega)))) (WD.q (Q.build sk (gO rfl (gO rfl aE)) rfl (cs := [_, _, _, _, _, _, _, _, _, _, _, _]) (rQ (OwnE.cell hP88))) (vl (OwnE.bq0 hOm) (OwnE.bq0 hOn) (OwnE.bq0 hP88)) rfl (WD.bslice aP aC pG rfl (gO rfl aE) rfl (cs := [_, _, _, _, _, _, _, _, _, _, _, _]) rfl (sP (OwnE.cell hOm) (OwnE.cell hOn) (OwnE.cell hP88)) rfl (KIn.cons (zt 0 rfl) (fun e he => ⟨e.w, by obtain ⟨b, o, w⟩ := e; simp [he]⟩)) (fun b2 => WD.appAny (A := ([_, _, _] ++ hs ++ hl ++ D84 ++ D88)) fm hO rfl rfl (Src.slice (zt 0 rfl) rfl) rfl zy (by decide) (SubH.of_sublist (List.sublist_cons_self _ _)) rfl (KIn.cons (zt 0 rfl) (fun e he => ⟨e.w, by obtain ⟨b, o, w⟩ := e; simp [he]⟩)) (fun v91 hp91 hO91 => WD.q (Q.assign rfl) (OwnE.bq hO91) rfl (WD.nil (End.KB (End.K (ay (zq (aa rfl (zi 1) rfl zp) (zm rfl (WO.nil (End.KL (W.sub zv (bG gc (ih2 (i + 1) (X ++ [⟨(ei L i).d, fN L (ei L i).ars, 0, vm2, vn2, .nils, v88⟩]) (v91) (hp91) (hl ++ D84 ++ D88) ?_ ?_)))))))))))))))
   ·exact ⟨by omega, by rw [fq, C0 hnb, hX2], by rw [fp, List.length_append]; exact hO91, kW hX hOm hOn hA88 hDD, (hw.app hwD).app (WZ.own hP88), AE hXb (hB.at zy) zy (hok i zy)⟩
   exact zo
  have hnb : nb L i = false := (by simpa using hc75)
  rw [Dp hnb]
  refine W.skip (End.KB (End.K (ay (zq (aa rfl (zi 1) rfl zp) (zm rfl (WO.nil (End.KL (W.sub zv (bG gc (ih2 (i + 1) (X) (u) (hp) (hl) ?_ ?_))))))))))
  ·exact ⟨by omega, by rw [CZ hnb]; exact hX2, hO, hX, hw, hXb⟩
  exact zo
 refine W.exit (aJ (aM (aI (End.K (zr (zm rfl (za rfl (za (zi 0) (zk (W.ret ?_))))))))))
 refine End.ret (ResL.tmp rfl (z1 rfl)) (hs' := hp ++ hl) ⟨0, X, u, .inr ⟨by omega, rfl, by rw [hX2, show i = L.length by omega]⟩, ⟨hp, hl, rfl, hO, hX, hw, ⟨by omega, hXb⟩⟩, rfl⟩ (wa (OwnE.w hO) hw.w) gc
end Go.Proofs.YtndhhgbpcmfeiaaGreatDoor.Ev
