/- Chapter 20, walks: Trim. -/
import Derived.Test.YtndhhgbpcmfeiaaGreatDoorNGg
import Derived.Test.YtndhhgbpcmfeiaaGreatDoorNAwJ
namespace Go.Proofs.YtndhhgbpcmfeiaaGreatDoor.Ev
open Go.RowKit
set_option maxRecDepth 100000
set_option maxHeartbeats 1000000
section
variable {L X : List IE} {hs hl Dm Dn Da D : af} {i : Nat} {A : List Int} {d : ND} {vm vn va v : AV}
theorem Ce {x : Nat} (h : i < L.length) (hX : x = fo L i) (hn : nb L i = true) : cn (cN (sn L i) L.length) ((0 + i) * 1) (AV.int .i64 ((x : Nat) : Int)).cells = cN (sn L (i + 1)) L.length := by
 rw [Bp h, hX]; exact Eb hn
theorem B6 {b n : Nat} {f : Nat -> Int} : RIn (ro [⟨b, ⟨1, true, cN f n⟩, true⟩] ++ hs) 1 ((List.range n).map f).length (cA ((List.range n).map f)) (.slice b 0 n 1) := by
 refine .inr ⟨b, 1, true, by rw [List.length_map, List.length_range], ⟨false, ?_⟩, by rw [Bo]⟩
 rw [<- Bq]
 exact List.mem_cons_self
theorem Ap (hok : qE L i = true) (hi : i < L.length) (hn : nb L i = true) (h : OwnE 1 (cA (AM ((List.range L.length).map (sn L (i + 1))) (ei L i).ars)) (ei L i).ars.length v D) : OwnE 1 (cA (ip L (ei L i).ars)) (ip L (ei L i).ars).length v D := by
 rw [zH hok hi hn] at h
 rw [oh]; exact h
theorem om (hX : ∀ x ∈ X, IOK hl x /\ x.nk = 0) (hm : OwnE 3 (cM d.ms) d.ms.length vm Dm) (hn : OwnE 1 (cS d.nm) d.nm.length vn Dn) (ha : OwnE 1 (cA A) A.length va Da) (hD : D = Dm ++ Dn) : ∀ x ∈ X ++ [⟨d, A, 0, vm, vn, .nils, va⟩], IOK (hl ++ D ++ Da) x /\ x.nk = 0 := by
 intro x hx
 rcases List.mem_append.1 hx with hx | hx
 ·obtain ⟨h1, h2⟩ := hX x hx
  exact ⟨h1.mono fun b o q => q.appl'.appl', h2⟩
 ·rw [List.mem_singleton.1 hx, hD]
  exact ⟨⟨(RIn.own hm).appl.app.appl, (RIn.own hn).app.app.appl, .inl ⟨rfl, rfl⟩, (RIn.own ha).app⟩, rfl⟩
theorem Am (hX : ∀ x ∈ X, IBd x) (hd : IBd (ei L i)) (hi : i < 1048576) (hok : qE L i = true) : ∀ x ∈ X ++ [⟨(ei L i).d, ip L (ei L i).ars, 0, vm, vn, .nils, va⟩], IBd x := by
 intro x hx
 rcases List.mem_append.1 hx with hx | hx
 ·exact hX x hx
 ·rw [List.mem_singleton.1 hx]
  refine ⟨hd.d, by rw [oh]; exact hd.a, fun n hn => ?_⟩
  obtain ⟨a, ha, rfl⟩ := List.mem_map.1 hn
  have := sc (L := L) (j := a.toNat)
  have := mE hok ha
  unfold Ct
  omega
theorem rN (h : va.isCell = true) : dn (fun i => [(0, 11), (11, 1)][i]?) [.int .i64 0, .str [], .int .i64 0, .nils, .int .i64 0, .int .i64 0, .int .i64 0, .nils, .int .i64 0, .bool false, .nils, .nils] [(0, .agg (d.c vm vn .nils)), (1, va)] = some (d.c vm vn .nils ++ [va]) := by
 simp only [dn, dT h]; rfl
theorem uR (hm : cH vm vm = true) (hn : cH vn vn = true) (ha : cH va va = true) : (AV.agg (d.c vm vn .nils ++ [va])).beq (AV.agg (d.c vm vn .nils ++ [va])) = true :=
 iR (by simp only [ND.c, b7, List.cons_append, List.nil_append, List.all_cons, List.all_nil, hm, hn, ha, re, rf, oI, Bool.and_true]; rfl)
theorem uJ (hm : vm.isCell = true) (hn : vn.isCell = true) (ha : va.isCell = true) : ((d.c vm vn .nils ++ [va]).all AV.isCell) = true := by
 simp only [ND.c, b7, List.cons_append, List.nil_append, List.all_cons, List.all_nil, hm, hn, ha, Bool.and_true, Bool.true_and]
 rfl
end
theorem uI : aA.isAgg 4 = some false := by kernel_rfl
theorem ln : AP aA 30 30 = some 12 := by kernel_rfl
theorem DY : MS aA 40 = some (1, [.int .i64 0]) := by kernel_rfl
theorem DZ : MS aA 52 = some (1, [.bool false]) := by kernel_rfl
theorem z8 : PL aA 42 [.int .i64 0, .str [], .int .i64 0, .nils, .int .i64 0, .int .i64 0, .int .i64 0, .nils, .int .i64 0, .bool false, .nils, .nils] [(0, 11), (11, 1)] = true := by kernel_rfl
theorem ym : aA.size 4 = some 1 := by kernel_rfl
theorem qP : aA.und 52 = some (.slice 4) := by kernel_rfl
theorem Au : aA.zero 42 = some (.agg [.int .i64 0, .str [], .int .i64 0, .nils, .int .i64 0, .int .i64 0, .int .i64 0, .nils, .int .i64 0, .bool false, .nils, .nils]) := by kernel_rfl
theorem uw (hs : af) (hro : ∀ e ∈ hs, e.w = false) (L : List IE) (v : AV) (hV : IIn hs L v) (hB : ILB L) : Spec aA 20 [v] [] hs (fun r D => ∃ (e : Nat) (Y : List IE) (w : AV), AA L e (D2 Y) /\ IOwn Y w D /\ r = .tuple [w, .int .i64 ((e : Nat) : Int)]) := by
 have hBl := hB.1
 refine aj (dW 20 Tryz.func20) rfl (m := 94) rfl (rs := [.tmp 2, .tmp 3]) rfl (st := [(0, v)]) rfl rfl (fun _ => rfl) (fun E => zr (za rfl (za (zi 0) (zk (W.seq (zr (zm rfl (az rfl (aX rfl oz) rfl (pZ hs hro L _ hV hB) (dF hro) rfl (za rfl (zk (zr (zm rfl (zq (Q.bin rfl (zi 0) rfl (bE dY)) (zk (ax rfl (fun hc17 => ?_) (fun hc17 => ?_))))))))))))))))
 ·refine zr (zm rfl (za rfl (za rfl (zk (W.ret ?_)))))
  refine aa (End.ret (ResL.tmp rfl (z1 rfl)) (hs' := []) ⟨eW L, [], .nils, .inl ⟨by omega, rfl, rfl⟩, IOwn.nil, rfl⟩ iF (SubH.nil _))
 obtain ⟨h0, hL, hok⟩ := lL (L := L) zy
 refine zw (zr (zm rfl (zq (Q.len ez rfl hV.1.len) (nz DZ rfl rfl zy (B4 _) rfl (fun bn => za rfl (zk (zr (zm rfl (zm rfl (zq (Q.len ez rfl hV.1.len) (zq (Q.bin rfl (zi 1) rfl (eo (AZ zo))) (zq (ee qP ym rfl rfl zo) (WO.store ym rfl rfl (i := 0) rfl (Bt rfl (uT zy)) (rk zy) (hs' := _ :: _) rfl (zk (W.sub (zc 5 rfl (zc 0 rfl aU)) (W.seq (zr (zm rfl (zq (Q.len ez rfl hV.1.len) (zq (Q.move (zi 0)) (zk (W.block (bF (fun (t : Nat) => [(0, v), (5, .slice bn 0 L.length 1), (28, .int .i64 ((L.length : Nat) : Int)), (29, .int .i64 ((t : Nat) : Int))]) (fun (t : Nat) => (⟨bn, ⟨1, true, cB (wI L t) L.length⟩, true⟩ :: hs)) (fun (t : Nat) => t <= L.length) (fun (t : Nat) => L.length - t) (0) (Nat.zero_le _) zv (by rw [<- C1]; exact SubH.refl _) (fun t hI0 ih0 => ?_))))))))))))))))))))))))
 have h1 := hI0
 refine zr (zq (Q.bin rfl rfl rfl (ec jr)) (zk (W.seq (ax rfl (fun hc30 => ?_) (fun hc30 => ?_)))))
 ·obtain ⟨bv, szv, exv, rfl, wv, mv⟩ := hV.1.full zy
  have hal := (hB.at (i := L.length - 1 - t) zy).a
  refine zw (W.seq (W.block (zr (zm rfl (za rfl (zk (zr (zm rfl (zq (Q.len ez rfl rfl) (zq (Q.bin rfl (zi 1) rfl (eo (AZ zo))) (zm rfl (zq (Q.bin rfl rfl rfl (eo (AZ zo))) (za rfl (zk (zr (zm rfl (zm rfl (zq (ee ez gp rfl rfl zo) (zq (Q.fieldAddr gW rfl rfl) (zq (aG rfl (List.mem_cons_of_mem _ mv) oC (rl 11 zo rfl)) (zq (Q.len dh rfl (hV.at zo).a.len) (zq (Q.move (zi 0)) (zk ?_)))))))))))))))))))))))
  refine W.block (kG (fun (q : Nat) (xa : AV) => [(0, .slice bv 0 L.length 12), (5, .slice bn 0 L.length 1), (7, .int .i64 ((L.length - 1 - t : Nat) : Int)), (28, .int .i64 ((L.length : Nat) : Int)), (29, .int .i64 ((t : Nat) : Int)), (41, xa), (42, .int .i64 (((ei L (L.length - 1 - t)).ars.length : Nat) : Int)), (43, .int .i64 ((q : Nat) : Int))]) (fun (q : Nat) (xa : AV) => (⟨bn, ⟨1, true, cB (yA L t q) L.length⟩, true⟩ :: hs)) (fun (q : Nat) (xa : AV) => q <= (ei L (L.length - 1 - t)).ars.length /\ RIn hs 1 (ei L (L.length - 1 - t)).ars.length (cA (ei L (L.length - 1 - t)).ars) xa) (fun (q : Nat) (xa : AV) => (ei L (L.length - 1 - t)).ars.length - q) (0) (_) ⟨Nat.zero_le _, (hV.at zy).a⟩ zv (by rw [<- C2]; exact SubH.refl _) (fun q xa hI1 ih1 => ?_))
  obtain ⟨h2, hxa⟩ := hI1
  refine zr (zq (Q.bin rfl rfl rfl (ec jr)) (zk (W.seq (ax rfl (fun hc44 => ?_) (fun hc44 => ?_)))))
  ·have hq1 := mE (hok (L.length - 1 - t) zy) (jj (A := (ei L (L.length - 1 - t)).ars) (q := q) zy)
   obtain ⟨ba, sza, exa, rfl, wa_, ma⟩ := hxa.full zy
   refine zw (W.seq (W.block (zr (zq (ee dh i8 rfl rfl zo) (zq (aG rfl (List.mem_cons_of_mem _ ma) d7 (rj zo hq1.1)) (za rfl (zk (aF (zm rfl (zm rfl (zm rfl (zm rfl (zq (ee qP ym rfl rfl zo) (zq (aG rfl (zt 0 rfl) uI (uS zo)) (zm rfl (WO.split (d := 53) rfl (fun hc53 => ?_) (fun hc53 => ?_)))))))))))))))))
   ·refine z2 (z2 (zq (aC rfl rfl) (zq (ee qP ym rfl rfl zo) (WO.store ym rfl rfl (i := 0) rfl (Bt rfl (uT zy)) (rk zy) (hs' := _ :: _) rfl (WO.nil (End.KB (End.K (W.sub (zc 0 rfl (zc 5 rfl (zc 7 rfl (zc 28 rfl (zc 29 rfl (zc 41 rfl (zc 42 rfl (zc 43 rfl aU)))))))) (aF (zq (Q.bin rfl (zi 1) rfl zp) (zm rfl (WO.nil (End.KL (W.sub zv (gM (by rw [<- qy hok zy zy (by rw [hc53]; try rfl)]; exact SubH.refl _) (ih1 (q + 1) (_) ?_ ?_))))))))))))))))
    ·exact ⟨by omega, hxa⟩
    exact zo
   refine zT (zm rfl (zT (zm rfl (zT (zq (ee qP ym rfl rfl zo) (zT (zq (aG rfl (zt 0 rfl) uI (uS zo)) (zq (aH rfl rfl) (zq (ee qP ym rfl rfl zo) (WO.store ym rfl rfl (i := 0) rfl (Bt rfl (uT zy)) (rk zy) (hs' := _ :: _) rfl (WO.nil (End.KB (End.K (W.sub (zc 0 rfl (zc 5 rfl (zc 7 rfl (zc 28 rfl (zc 29 rfl (zc 41 rfl (zc 42 rfl (zc 43 rfl aU)))))))) (aF (zq (Q.bin rfl (zi 1) rfl zp) (zm rfl (WO.nil (End.KL (W.sub zv (gM (by rw [<- qy hok zy zy (by rw [hc53]; try rfl)]; exact SubH.refl _) (ih1 (q + 1) (_) ?_ ?_))))))))))))))))))))))
   ·exact ⟨by omega, hxa⟩
   exact zo
  obtain rfl : q = (ei L (L.length - 1 - t)).ars.length := zy
  refine W.exit (av (aL (aq (End.KB (End.K (aF (zq (Q.bin rfl (zi 1) rfl zp) (zm rfl (WO.nil (End.KL (W.sub zv (gM (by rw [<- zJ zy]; exact SubH.refl _) (ih0 (t + 1) ?_ ?_)))))))))))))
  ·exact zy
  exact zo
 obtain rfl : t = L.length := zy
 rw [zI]
 refine W.exit (av (aL (aq (End.K (zr (zm rfl (zq (Q.len ez rfl hV.1.len) (nz DY rfl rfl zy (B5 _) rfl (fun bt => za rfl (zk (zr (za rfl (zk (W.seq (zr (zm rfl (zq (Q.len ez rfl hV.1.len) (zq (Q.move (zi 0)) (zk (W.block (iw (fun (i : Nat) (X : List IE) (u : AV) (hp : af) (hl : af) => [(5, .slice bn 0 L.length 1), (10, .slice bt 0 L.length 1), (11, u), (65, v), (66, .int .i64 ((L.length : Nat) : Int)), (67, .int .i64 ((i : Nat) : Int))]) (fun (i : Nat) (X : List IE) (u : AV) (hp : af) (hl : af) => (⟨bt, ⟨1, true, cN (sn L (i)) L.length⟩, true⟩ :: ⟨bn, ⟨1, true, cB (nb L) L.length⟩, true⟩ :: (hs ++ hp ++ hl))) (fun (i : Nat) (X : List IE) (u : AV) (hp : af) (hl : af) => i <= L.length /\ D2 X = iq L i /\ OwnE 12 (cI X) X.length u hp /\ (∀ x ∈ X, IOK hl x /\ x.nk = 0) /\ WZ hl /\ (∀ x ∈ X, IBd x)) (fun (i : Nat) (X : List IE) (u : AV) (hp : af) (hl : af) => L.length - i) (0) ([]) (.nils) ([]) ([]) ⟨Nat.zero_le _, rfl, OwnE.nil 12, fun x hx => by simp at hx, WZ.nil, fun x hx => by simp at hx⟩ zv (by rw [List.append_nil, List.append_nil, <- D7]; exact SubH.refl _) (fun i X u hp hl hI2 ih2 => ?_))))))))))))))))))))))
 obtain ⟨h3, hX2, hO, hX, hw, hXb⟩ := hI2
 have hXl : X.length = fo L i := (by rw [<- dr, hX2, mS])
 have hpl := sc (L := L) (j := i)
 refine zr (zq (Q.bin rfl rfl rfl (ec jr)) (zk (W.seq (ax rfl (fun hc68 => ?_) (fun hc68 => ?_)))))
 ·obtain ⟨bv, szv, exv, rfl, wv, mv⟩ := hV.1.full zy
  refine zw (W.seq (W.block (zr (zm rfl (zq (ee ez gp rfl rfl zo) (zq (cj rfl (List.mem_cons_of_mem _ (List.mem_cons_of_mem _ (List.mem_append_left _ (List.mem_append_left _ mv)))) yK gp (uV zo)) (WO.alloc Be rfl (fun b1 => za rfl (WO.store gp rfl rfl (i := 0) rfl (bG rfl (IOK.cells (hV.at zy))) (cs := [_, _, _, _, _, _, _, _, _, _, _, _]) rfl (hs' := _ :: _ :: _ :: _) rfl (zk (zr (zm rfl (zm rfl (zq (ee qP ym rfl rfl zo) (zq (aG rfl (zt 2 rfl) uI (uS zo)) (zk (aM rfl (fun hc75 => ?_) (fun hc75 => ?_))))))))))))))))))
  ·have hnb : nb L i = true := hc75
   refine zr (zm rfl (zm rfl (zm rfl (zq (Q.len ez rfl hO.len) (zq (ee dh i8 rfl rfl zo) (WO.store i8 rfl rfl (i := 1) rfl (Bt rfl (CF zy)) (Ce zy hXl hnb) (hs' := _ :: _ :: _ :: _) rfl (zk (W.sub (zc 13 rfl (zc 5 rfl (zc 10 rfl (zc 11 rfl (zc 65 rfl (zc 66 rfl (zc 67 rfl aU))))))) (lB 10 (⟨b1, _, false⟩ :: hs) (by kernel_rfl) (KIn.cons (zt 0 rfl) (fun e he => ⟨e.w, by obtain ⟨b, o, w⟩ := e; simp [he]⟩)) (WD.q (Q.move rfl) (OwnE.bq hO) rfl (WD.q (Q.fieldAddr fE rfl (o' := 0) rfl) yz rfl (WD.q (zL rfl (zt 0 rfl) cG bb rfl) (pX (hV.at zy)) rfl (WD.call0 rfl (aX rfl oz) rfl (j9 hs hro (ei L i).d _ _ _ (hV.at zy).m (hV.at zy).n _ (hV.at zy).k (hB.at zy).d) (SubR.t (SubR.t (SubR.t (SubR.appl (SubR.appl (dF hro)))))) (KIn.cons (zt 0 rfl) (fun e he => ⟨e.w, by obtain ⟨b, o, w⟩ := e; simp [he]⟩)) rfl (fun v84 D84 hP84 => ?_))))))))))))))
   obtain ⟨vm2, vn2, Dm, Dn, rfl, hOm, hOn, hDD⟩ := hP84
   have hwD : WZ D84 := (by rw [hDD]; exact (WZ.own hOm).app (WZ.own hOn))
   refine WD.subH (hs' := _ :: _ :: _ :: (hs ++ hp ++ hl ++ D84)) (SubH.op (aS (N := []) (G := D84) (K := [_, _, _]) (X := hs ++ hp ++ hl))) (WD.q (Q.fieldAddr gW rfl (o' := 11) rfl) yz rfl (WD.q (aG rfl (zt 0 rfl) oC rfl) (hV.at zo).a.bq rfl (WD.q (Q.move rfl) DN rfl (WD.call0 rfl (aX rfl (aX rfl oz)) rfl (wF (ro [⟨bt, ⟨1, true, cN (sn L (i + 1)) L.length⟩, true⟩] ++ hs) (py hro) (ei L i).ars _ (hV.at zy).a.app (hB.at zy).a _ _ B6 (fun a ha => by have := mE (hok i zy) ha; rw [List.length_map, List.length_range]; omega) (by rw [List.length_map, List.length_range]; exact hBl)) (jy gc hro) (KIn.cons (zt 0 rfl) (fun e he => ⟨e.w, by obtain ⟨b, o, w⟩ := e; simp [he]⟩)) rfl (fun v88 D88 hP88 => ?_)))))
   have hA88 := Ap (hok i zy) zy hnb hP88
   refine WD.subH (hs' := _ :: _ :: _ :: (hs ++ hl ++ D84 ++ D88 ++ hp)) (SubH.op (ig (N := []) (G := D88) (K := [_, _, _]) (X := hs ++ hp ++ hl ++ D84) (by simp only [List.append_assoc, List.nil_append]; exact List.perm_iff_count.2 (by intro z; simp only [List.append_eq, List.count_append, List.count_nil]; omega)))) (WD.q (Q.build z8 (b8 rfl (b8 rfl ak)) rfl (cs := [_, _, _, _, _, _, _, _, _, _, _, _]) (rN (OwnE.cell hP88))) (uR (OwnE.bq0 hOm) (OwnE.bq0 hOn) (OwnE.bq0 hP88)) rfl (WD.bslice ez gp Au rfl (b8 rfl ak) rfl (cs := [_, _, _, _, _, _, _, _, _, _, _, _]) rfl (uJ (OwnE.cell hOm) (OwnE.cell hOn) (OwnE.cell hP88)) rfl (KIn.cons (zt 0 rfl) (fun e he => ⟨e.w, by obtain ⟨b, o, w⟩ := e; simp [he]⟩)) (fun b2 => WD.appAny (A := ([_, _, _] ++ hs ++ hl ++ D84 ++ D88)) ln hO rfl rfl (Src.slice (zt 0 rfl) rfl) rfl zy (by decide) (SubH.of_sublist (List.sublist_cons_self _ _)) rfl (KIn.cons (zt 0 rfl) (fun e he => ⟨e.w, by obtain ⟨b, o, w⟩ := e; simp [he]⟩)) (fun v91 hp91 hO91 => WD.q (Q.assign rfl) (OwnE.bq hO91) rfl (WD.nil (End.KB (End.K (aF (zq (Q.bin rfl (zi 1) rfl zp) (zm rfl (WO.nil (End.KL (W.sub zv (gM gc (ih2 (i + 1) (X ++ [⟨(ei L i).d, ip L (ei L i).ars, 0, vm2, vn2, .nils, v88⟩]) (v91) (hp91) (hl ++ D84 ++ D88) ?_ ?_)))))))))))))))
   ·exact ⟨by omega, by rw [lr, Cf hnb, hX2], by rw [lq, List.length_append]; exact hO91, om hX hOm hOn hA88 hDD, (hw.app hwD).app (WZ.own hP88), Am hXb (hB.at zy) zy (hok i zy)⟩
   exact zo
  have hnb : nb L i = false := (by simpa using hc75)
  rw [Ea hnb]
  refine W.skip (End.KB (End.K (aF (zq (Q.bin rfl (zi 1) rfl zp) (zm rfl (WO.nil (End.KL (W.sub zv (gM gc (ih2 (i + 1) (X) (u) (hp) (hl) ?_ ?_))))))))))
  ·exact ⟨by omega, by rw [Ds hnb]; exact hX2, hO, hX, hw, hXb⟩
  exact zo
 refine W.exit (av (aL (aq (End.K (zr (zm rfl (za rfl (za (zi 0) (zk (W.ret ?_))))))))))
 refine End.ret (ResL.tmp rfl (z1 rfl)) (hs' := hp ++ hl) ⟨0, X, u, .inr ⟨by omega, rfl, by rw [hX2, show i = L.length by omega]⟩, ⟨hp, hl, rfl, hO, hX, hw, ⟨by omega, hXb⟩⟩, rfl⟩ (wa (OwnE.w hO) hw.w) gc
structure CQ (v : AV) : Prop where
 cell : v.isCell = true
 bq0 : cH v v = true
theorem CQ.bq {v : AV} (h : CQ v) : v.beq v = true := by
 have h1 := h.cell
 have h2 := h.bq0
 cases v <;> first | exact h2 | cases h1 | (simp [AV.beq, gy, cH] at *; done) | skip
 all_goals (rename_i fn l; cases l <;> simp [AV.beq, gy, cH, fw] at *)
theorem RIn.cq {hs : af} {sz n : Nat} {cells : List AV} {v : AV} (h : RIn hs sz n cells v) : CQ v := ⟨h.cell, h.bq0⟩
section
variable {d : ND} {vm vn vk : AV} {hs Dm Dn D13 hp hl D : af} {L : List IE} {i j q k : Nat} {t : TD} {c : List AV} {cs : List (List AV)} {u v : AV}
theorem rT (hm : vm.isCell = true) (hn : vn.isCell = true) (hk : vk.isCell = true) : ((d.c vm vn vk).all AV.isCell) = true := jT hm hn hk
theorem wL (hm : CQ vm) (hn : CQ vn) (hk : CQ vk) : (AV.agg (d.c vm vn vk)).beq (AV.agg (d.c vm vn vk)) = true :=
 iR (by simp only [ND.c, b7, List.all_cons, List.all_nil, hm.bq0, hn.bq0, hk.bq0, re, rf, oI, Bool.and_true])
theorem jz (h : TRep hs t c) : ∃ (d : ND) (vm vn vk : AV), c = d.c vm vn vk /\ CQ vm /\ CQ vn /\ CQ vk /\ Bytes d.op := by
 cases t with
 | node d ks =>
  rw [TRep] at h
  obtain ⟨vm, vn, vk, cs, rfl, h2, h3, h4, h5, _⟩ := h
  exact ⟨d, vm, vn, vk, rfl, h2.cq, h3.cq, h4.cq, h5.1⟩
end
theorem Ba : aA.isAgg 30 = some false := by kernel_rfl
theorem w9 : PL aA 26 [.int .i64 0, .str [], .int .i64 0, .nils, .int .i64 0, .int .i64 0, .int .i64 0, .nils, .int .i64 0, .bool false, .nils] [(0, 1), (1, 1), (2, 1), (3, 1), (4, 1), (5, 1), (6, 1), (7, 1), (8, 1), (9, 1), (10, 1)] = true := by kernel_rfl
theorem Ck : aA.zero 26 = some (.agg [.int .i64 0, .str [], .int .i64 0, .nils, .int .i64 0, .int .i64 0, .int .i64 0, .nils, .int .i64 0, .bool false, .nils]) := by kernel_rfl
def mi (l : List Mt) (i : Nat) : Mt := l.getD i default
def kd (l : List TD) (i : Nat) : TD := l.getD i A4
theorem s8 {l : List TD} {i : Nat} (h : i < l.length) : l[i]? = some (kd l i) := by
 unfold kd
 rw [List.getD_eq_getElem?_getD, List.getElem?_eq_getElem h]; rfl
theorem BB {l : List TD} {i : Nat} (h : i < l.length) : kd l i ∈ l := List.mem_of_getElem? (s8 h)
theorem uy : aA.isAgg 9 = some false := by kernel_rfl
theorem iC : FA aA 26 0 = some (0, 0 + 1) := by kernel_rfl
theorem jn : FA aA 26 1 = some (1, 0 + 1) := by kernel_rfl
theorem Bw : FA aA 26 2 = some (2, 0 + 1) := by kernel_rfl
theorem vJ : FA aA 26 4 = some (4, 0 + 1) := by kernel_rfl
theorem vK : FA aA 26 6 = some (6, 0 + 1) := by kernel_rfl
theorem o4 : FA aA 26 8 = some (8, 0 + 1) := by kernel_rfl
theorem jo : FA aA 26 9 = some (9, 0 + 1) := by kernel_rfl
open Go.RowKit Go.ChangeShapes Go.WideShapes
theorem kJ {H : Type} {P : Program} {w : World} {b off i sz : Nat} {cs : List Value} (h : w.cells? 0 ((⟨b, off, none⟩ : Addr).add (i * sz)) sz = some cs) : cs.length = sz /\ ∀ j, j < sz -> w.cell? ⟨b, off + (i * sz + j), none⟩ = cs[j]? := by
 obtain ⟨_, h2, h3⟩ := World.cells?_some h
 refine ⟨h2, fun j hj => ?_⟩
 have := h3 j hj
 rw [Deep.add_add, dJ] at this
 exact this
section
variable {H : Type} {enc : TypeId × Value -> H} {P : Program} {w : World} {held : Bool}
end
def RowI (k : Nat) {α : Type} (sz : Nat) (f : List α -> List AV) (X : List α) (va : AV) (x : InB) : Prop := (va = .nils /\ X = []) \/ (va = .slice k 0 X.length sz /\ x.cells = f X)
theorem RowI.cell {k sz : Nat} {α : Type} {f : List α -> List AV} {X : List α} {va : AV} {x : InB} (h : RowI k sz f X va x) : va.isCell = true := by
 rcases h with ⟨rfl, _⟩ | ⟨rfl, _⟩ <;> rfl
section
variable {H : Type} {enc : TypeId × Value -> H} {W : World}
end
end Go.Proofs.YtndhhgbpcmfeiaaGreatDoor.Ev
