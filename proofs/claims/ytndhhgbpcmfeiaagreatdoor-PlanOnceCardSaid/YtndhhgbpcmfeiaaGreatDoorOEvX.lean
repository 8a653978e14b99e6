/- Chapter 20, walks: Trim. -/
import Derived.Test.YtndhhgbpcmfeiaaGreatDoorOGg
import Derived.Test.YtndhhgbpcmfeiaaGreatDoorOAwJ
import Derived.Test.YtndhhgbpcmfeiaaGreatDoorOEvR
import Derived.Shelf.Strings.Builder1
namespace Go.Proofs.YtndhhgbpcmfeiaaGreatDoor.Ev
open Go.RowKit
set_option maxRecDepth 100000
set_option maxHeartbeats 1000000
section
variable {L X : List IE} {hs hl Dm Dn Da D : ak} {i : Nat} {A : List Int} {d : ND} {vm vn va v : AV}
theorem GD {x : Nat} (h : i < L.length) (hX : x = ez L i) (hn : nb L i = true) : db (cN (wO L i) L.length) ((0 + i) * 1) (AV.int .i64 ((x : Nat) : Int)).cells = cN (wO L (i + 1)) L.length := by
 rw [FV h, hX]; exact H9 hn
theorem Gv {b n : Nat} {f : Nat -> Int} : RIn (ro [⟨b, ⟨1, true, cN f n⟩, true⟩] ++ hs) 1 ((List.range n).map f).length (cA ((List.range n).map f)) (.slice b 0 n 1) := by
 refine .inr ⟨b, 1, true, by rw [List.length_map, List.length_range], ⟨false, ?_⟩, by rw [FQ]⟩
 rw [<- FW]
 exact List.mem_cons_self
theorem E9 (hok : pX L i = true) (hi : i < L.length) (hn : nb L i = true) (h : OwnE 1 (cA (ll ((List.range L.length).map (wO L (i + 1))) (ei L i).ars)) (ei L i).ars.length v D) : OwnE 1 (cA (gM L (ei L i).ars)) (gM L (ei L i).ars).length v D := by
 rw [EF hok hi hn] at h
 rw [rK]; exact h
theorem nI (hX : ∀ x ∈ X, IOK hl x /\ x.nk = 0) (hm : OwnE 3 (cM d.ms) d.ms.length vm Dm) (hn : OwnE 1 (cS d.nm) d.nm.length vn Dn) (ha : OwnE 1 (cA A) A.length va Da) (hD : D = Dm ++ Dn) : ∀ x ∈ X ++ [⟨d, A, 0, vm, vn, .nils, va⟩], IOK (hl ++ D ++ Da) x /\ x.nk = 0 := by
 intro x hx
 rcases List.mem_append.1 hx with hx | hx
 ·obtain ⟨h1, h2⟩ := hX x hx
  exact ⟨h1.mono fun b o q => q.appl'.appl', h2⟩
 ·rw [List.mem_singleton.1 hx, hD]
  exact ⟨⟨(RIn.own hm).appl.app.appl, (RIn.own hn).app.app.appl, .inl ⟨rfl, rfl⟩, (RIn.own ha).app⟩, rfl⟩
theorem E8 (hX : ∀ x ∈ X, IBd x) (hd : IBd (ei L i)) (hi : i < 1048576) (hok : pX L i = true) : ∀ x ∈ X ++ [⟨(ei L i).d, gM L (ei L i).ars, 0, vm, vn, .nils, va⟩], IBd x := by
 intro x hx
 rcases List.mem_append.1 hx with hx | hx
 ·exact hX x hx
 ·rw [List.mem_singleton.1 hx]
  refine ⟨hd.d, by rw [rK]; exact hd.a, fun n hn => ?_⟩
  obtain ⟨a, ha, rfl⟩ := List.mem_map.1 hn
  have := td (L := L) (j := a.toNat)
  have := gD hok ha
  unfold DF
  omega
theorem sM (h : va.isCell = true) : eG (fun i => [(0, 11), (11, 1)][i]?) [.int .i64 0, .str [], .int .i64 0, .nils, .int .i64 0, .int .i64 0, .int .i64 0, .nils, .int .i64 0, .bool false, .nils, .nils] [(0, .agg (d.c vm vn .nils)), (1, va)] = some (d.c vm vn .nils ++ [va]) := by
 simp only [eG, fz h]; rfl
theorem w9 (hm : cW vm vm = true) (hn : cW vn vn = true) (ha : cW va va = true) : (AV.agg (d.c vm vn .nils ++ [va])).beq (AV.agg (d.c vm vn .nils ++ [va])) = true :=
 kO (by simp only [ND.c, bS, List.cons_append, List.nil_append, List.all_cons, List.all_nil, hm, hn, ha, vx, vy, rZ, Bool.and_true]; rfl)
theorem tG (hm : vm.isCell = true) (hn : vn.isCell = true) (ha : va.isCell = true) : ((d.c vm vn .nils ++ [va]).all AV.isCell) = true := by
 simp only [ND.c, bS, List.cons_append, List.nil_append, List.all_cons, List.all_nil, hm, hn, ha, Bool.and_true, Bool.true_and]
 rfl
end
theorem wV : aN.isAgg 4 = some false := by kernel_rfl
theorem lV : AP aN 30 30 = some 12 := by kernel_rfl
theorem H2 : MS aN 40 = some (1, [.int .i64 0]) := by kernel_rfl
theorem H3 : MS aN 52 = some (1, [.bool false]) := by kernel_rfl
theorem CR : PL aN 42 [.int .i64 0, .str [], .int .i64 0, .nils, .int .i64 0, .int .i64 0, .int .i64 0, .nils, .int .i64 0, .bool false, .nils, .nils] [(0, 11), (11, 1)] = true := by kernel_rfl
theorem De : aN.size 4 = some 1 := by kernel_rfl
theorem Ay : aN.und 52 = some (.slice 4) := by kernel_rfl
theorem Dv : aN.zero 42 = some (.agg [.int .i64 0, .str [], .int .i64 0, .nils, .int .i64 0, .int .i64 0, .int .i64 0, .nils, .int .i64 0, .bool false, .nils, .nils]) := by kernel_rfl
theorem rL (hs : ak) (hro : ∀ e ∈ hs, e.w = false) (L : List IE) (v : AV) (hV : IIn hs L v) (hB : ILB L) : Spec aN 20 [v] [] hs (fun r D => ∃ (e : Nat) (Y : List IE) (w : AV), Fh L e (D2 Y) /\ IOwn Y w D /\ r = .tuple [w, .int .i64 ((e : Nat) : Int)]) := by
 have hBl := hB.1
 refine av (cX 20 Tryz.func20) rfl (m := 94) rfl (rs := [.tmp 2, .tmp 3]) rfl (st := [(0, v)]) rfl rfl (fun _ => rfl) (fun E => zr (za rfl (za (zi 0) (zk (W.seq (zr (zm rfl (aJ rfl (aD rfl oz) rfl (o8 hs hro L _ hV hB) (cw hro) rfl (za rfl (zk (zr (zm rfl (zq (aa rfl (zi 0) rfl (aR cf)) (zk (aw rfl (fun hc17 => ?_) (fun hc17 => ?_))))))))))))))))
 ·refine zr (zm rfl (za rfl (za rfl (zk (W.ret ?_)))))
  refine ac (End.ret (ResL.tmp rfl (z1 rfl)) (hs' := []) ⟨d5 L, [], .nils, .inl ⟨by omega, rfl, rfl⟩, IOwn.nil, rfl⟩ dr (SubH.nil _))
 obtain ⟨h0, hL, hok⟩ := gH (L := L) zy
 refine zw (zr (zm rfl (zq (Q.len dO rfl hV.1.len) (qP H3 rfl rfl zy (Gt _) rfl (fun bn => za rfl (zk (zr (zm rfl (zm rfl (zq (Q.len dO rfl hV.1.len) (zq (aa rfl (zi 1) rfl (cT (vf zo))) (zq (ci Ay De rfl rfl zo) (WO.store De rfl rfl (i := 0) rfl (Fl rfl (AY zy)) (vC zy) (hs' := _ :: _) rfl (zk (W.sub (zc 5 rfl (zc 0 rfl aI)) (W.seq (zr (zm rfl (zq (Q.len dO rfl hV.1.len) (zq (Q.move (zi 0)) (zk (W.block (aM (fun (t : Nat) => [(0, v), (5, .slice bn 0 L.length 1), (28, .int .i64 ((L.length : Nat) : Int)), (29, .int .i64 ((t : Nat) : Int))]) (fun (t : Nat) => (⟨bn, ⟨1, true, cB (Cv L t) L.length⟩, true⟩ :: hs)) (fun (t : Nat) => t <= L.length) (fun (t : Nat) => L.length - t) (0) (Nat.zero_le _) zv (by rw [<- Hg]; exact SubH.refl _) (fun t hI0 ih0 => ?_))))))))))))))))))))))))
 have h1 := hI0
 refine zr (zq (aa rfl rfl rfl (ec dM)) (zk (W.seq (aw rfl (fun hc30 => ?_) (fun hc30 => ?_)))))
 ·obtain ⟨bv, szv, exv, rfl, wv, mv⟩ := hV.1.full zy
  have hal := (hB.at (i := L.length - 1 - t) zy).a
  refine zw (W.seq (W.block (zr (zm rfl (za rfl (zk (zr (zm rfl (zq (Q.len dO rfl rfl) (zq (aa rfl (zi 1) rfl (cT (vf zo))) (zm rfl (zq (aa rfl rfl rfl (cT (vf zo))) (za rfl (zk (zr (zm rfl (zm rfl (zq (ci dO eK rfl rfl zo) (zq (Q.fieldAddr im rfl rfl) (zq (ap rfl (List.mem_cons_of_mem _ mv) oS (A0 11 zo rfl)) (zq (Q.len bc rfl (hV.at zo).a.len) (zq (Q.move (zi 0)) (zk ?_)))))))))))))))))))))))
  refine W.block (gq (fun (q : Nat) (xa : AV) => [(0, .slice bv 0 L.length 12), (5, .slice bn 0 L.length 1), (7, .int .i64 ((L.length - 1 - t : Nat) : Int)), (28, .int .i64 ((L.length : Nat) : Int)), (29, .int .i64 ((t : Nat) : Int)), (41, xa), (42, .int .i64 (((ei L (L.length - 1 - t)).ars.length : Nat) : Int)), (43, .int .i64 ((q : Nat) : Int))]) (fun (q : Nat) (xa : AV) => (⟨bn, ⟨1, true, cB (Dy L t q) L.length⟩, true⟩ :: hs)) (fun (q : Nat) (xa : AV) => q <= (ei L (L.length - 1 - t)).ars.length /\ RIn hs 1 (ei L (L.length - 1 - t)).ars.length (cA (ei L (L.length - 1 - t)).ars) xa) (fun (q : Nat) (xa : AV) => (ei L (L.length - 1 - t)).ars.length - q) (0) (_) ⟨Nat.zero_le _, (hV.at zy).a⟩ zv (by rw [<- Hh]; exact SubH.refl _) (fun q xa hI1 ih1 => ?_))
  obtain ⟨h2, hxa⟩ := hI1
  refine zr (zq (aa rfl rfl rfl (ec dM)) (zk (W.seq (aw rfl (fun hc44 => ?_) (fun hc44 => ?_)))))
  ·have hq1 := gD (hok (L.length - 1 - t) zy) (i7 (A := (ei L (L.length - 1 - t)).ars) (q := q) zy)
   obtain ⟨ba, sza, exa, rfl, wa_, ma⟩ := hxa.full zy
   refine zw (W.seq (W.block (zr (zq (ci bc di rfl rfl zo) (zq (ap rfl (List.mem_cons_of_mem _ ma) bU (vB zo hq1.1)) (za rfl (zk (am (zm rfl (zm rfl (zm rfl (zm rfl (zq (ci Ay De rfl rfl zo) (zq (ap rfl (zt 0 rfl) wV (AX zo)) (zm rfl (WO.split (d := 53) rfl (fun hc53 => ?_) (fun hc53 => ?_)))))))))))))))))
   ·refine z2 (z2 (zq (aj rfl rfl) (zq (ci Ay De rfl rfl zo) (WO.store De rfl rfl (i := 0) rfl (Fl rfl (AY zy)) (vC zy) (hs' := _ :: _) rfl (WO.nil (End.KB (End.K (W.sub (zc 0 rfl (zc 5 rfl (zc 7 rfl (zc 28 rfl (zc 29 rfl (zc 41 rfl (zc 42 rfl (zc 43 rfl aI)))))))) (am (zq (aa rfl (zi 1) rfl zp) (zm rfl (WO.nil (End.KL (W.sub zv (bX (by rw [<- uv hok zy zy (by rw [hc53]; try rfl)]; exact SubH.refl _) (ih1 (q + 1) (_) ?_ ?_))))))))))))))))
    ·exact ⟨by omega, hxa⟩
    exact zo
   refine zT (zm rfl (zT (zm rfl (zT (zq (ci Ay De rfl rfl zo) (zT (zq (ap rfl (zt 0 rfl) wV (AX zo)) (zq (ax rfl rfl) (zq (ci Ay De rfl rfl zo) (WO.store De rfl rfl (i := 0) rfl (Fl rfl (AY zy)) (vC zy) (hs' := _ :: _) rfl (WO.nil (End.KB (End.K (W.sub (zc 0 rfl (zc 5 rfl (zc 7 rfl (zc 28 rfl (zc 29 rfl (zc 41 rfl (zc 42 rfl (zc 43 rfl aI)))))))) (am (zq (aa rfl (zi 1) rfl zp) (zm rfl (WO.nil (End.KL (W.sub zv (bX (by rw [<- uv hok zy zy (by rw [hc53]; try rfl)]; exact SubH.refl _) (ih1 (q + 1) (_) ?_ ?_))))))))))))))))))))))
   ·exact ⟨by omega, hxa⟩
   exact zo
  obtain rfl : q = (ei L (L.length - 1 - t)).ars.length := zy
  refine W.exit (aC (aK (aB (End.KB (End.K (am (zq (aa rfl (zi 1) rfl zp) (zm rfl (WO.nil (End.KL (W.sub zv (bX (by rw [<- EH zy]; exact SubH.refl _) (ih0 (t + 1) ?_ ?_)))))))))))))
  ·exact zy
  exact zo
 obtain rfl : t = L.length := zy
 rw [EG]
 refine W.exit (aC (aK (aB (End.K (zr (zm rfl (zq (Q.len dO rfl hV.1.len) (qP H2 rfl rfl zy (Gu _) rfl (fun bt => za rfl (zk (zr (za rfl (zk (W.seq (zr (zm rfl (zq (Q.len dO rfl hV.1.len) (zq (Q.move (zi 0)) (zk (W.block (nK (fun (i : Nat) (X : List IE) (u : AV) (hp : ak) (hl : ak) => [(5, .slice bn 0 L.length 1), (10, .slice bt 0 L.length 1), (11, u), (65, v), (66, .int .i64 ((L.length : Nat) : Int)), (67, .int .i64 ((i : Nat) : Int))]) (fun (i : Nat) (X : List IE) (u : AV) (hp : ak) (hl : ak) => (⟨bt, ⟨1, true, cN (wO L (i)) L.length⟩, true⟩ :: ⟨bn, ⟨1, true, cB (nb L) L.length⟩, true⟩ :: (hs ++ hp ++ hl))) (fun (i : Nat) (X : List IE) (u : AV) (hp : ak) (hl : ak) => i <= L.length /\ D2 X = iX L i /\ OwnE 12 (cI X) X.length u hp /\ (∀ x ∈ X, IOK hl x /\ x.nk = 0) /\ (∀ e ∈ hl, e.w = true) /\ (∀ x ∈ X, IBd x)) (fun (i : Nat) (X : List IE) (u : AV) (hp : ak) (hl : ak) => L.length - i) (0) ([]) (.nils) ([]) ([]) ⟨Nat.zero_le _, rfl, OwnE.nil 12, fun x hx => by simp at hx, dr, fun x hx => by simp at hx⟩ zv (by rw [List.append_nil, List.append_nil, <- H7]; exact SubH.refl _) (fun i X u hp hl hI2 ih2 => ?_))))))))))))))))))))))
 obtain ⟨h3, hX2, hO, hX, hw, hXb⟩ := hI2
 have hXl : X.length = ez L i := (by rw [<- bP, hX2, qr])
 have hpl := td (L := L) (j := i)
 refine zr (zq (aa rfl rfl rfl (ec dM)) (zk (W.seq (aw rfl (fun hc68 => ?_) (fun hc68 => ?_)))))
 ·obtain ⟨bv, szv, exv, rfl, wv, mv⟩ := hV.1.full zy
  refine zw (W.seq (W.block (zr (zm rfl (zq (ci dO eK rfl rfl zo) (zq (aU rfl (List.mem_cons_of_mem _ (List.mem_cons_of_mem _ (List.mem_append_left _ (List.mem_append_left _ mv)))) oT eK (l6 zo)) (WO.alloc AQ rfl (fun b1 => za rfl (WO.store eK rfl rfl (i := 0) rfl (aQ rfl (IOK.cells (hV.at zy))) (cs := [_, _, _, _, _, _, _, _, _, _, _, _]) rfl (hs' := _ :: _ :: _ :: _) rfl (zk (zr (zm rfl (zm rfl (zq (ci Ay De rfl rfl zo) (zq (ap rfl (zt 2 rfl) wV (AX zo)) (zk (aE rfl (fun hc75 => ?_) (fun hc75 => ?_))))))))))))))))))
  ·have hnb : nb L i = true := hc75
   refine zr (zm rfl (zm rfl (zm rfl (zq (Q.len dO rfl hO.len) (zq (ci bc di rfl rfl zo) (WO.store di rfl rfl (i := 1) rfl (Fl rfl (G1 zy)) (GD zy hXl hnb) (hs' := _ :: _ :: _ :: _) rfl (zk (W.sub (zc 13 rfl (zc 5 rfl (zc 10 rfl (zc 11 rfl (zc 65 rfl (zc 66 rfl (zc 67 rfl aI))))))) (eC 10 (⟨b1, _, false⟩ :: hs) (by kernel_rfl) (KIn.cons (zt 0 rfl) (fun e he => ⟨e.w, by obtain ⟨b, o, w⟩ := e; simp [he]⟩)) (WD.q (Q.move rfl) (OwnE.bq hO) rfl (WD.q (Q.fieldAddr fB rfl (o' := 0) rfl) iF rfl (WD.q (zL rfl (zt 0 rfl) bh aL rfl) (o0 (hV.at zy)) rfl (WD.call0 rfl (aD rfl oz) rfl (kN hs hro (ei L i).d _ _ _ (hV.at zy).m (hV.at zy).n _ (hV.at zy).k (hB.at zy).d) (SubR.t (SubR.t (SubR.t (SubR.appl (SubR.appl (cw hro)))))) (KIn.cons (zt 0 rfl) (fun e he => ⟨e.w, by obtain ⟨b, o, w⟩ := e; simp [he]⟩)) rfl (fun v84 D84 hP84 => ?_))))))))))))))
   obtain ⟨vm2, vn2, Dm, Dn, rfl, hOm, hOn, hDD⟩ := hP84
   have hwD : ∀ e ∈ D84, e.w = true := (by rw [hDD]; exact wa (OwnE.w hOm) (OwnE.w hOn))
   refine WD.subH (hs' := _ :: _ :: _ :: (hs ++ hp ++ hl ++ D84)) (SubH.op (aG (N := []) (G := D84) (K := [_, _, _]) (X := hs ++ hp ++ hl))) (WD.q (Q.fieldAddr im rfl (o' := 11) rfl) iF rfl (WD.q (ap rfl (zt 0 rfl) oS rfl) (hV.at zo).a.bq rfl (WD.q (Q.move rfl) HF rfl (WD.call0 rfl (aD rfl (aD rfl oz)) rfl (uq (ro [⟨bt, ⟨1, true, cN (wO L (i + 1)) L.length⟩, true⟩] ++ hs) (qb hro) (ei L i).ars _ (hV.at zy).a.app (hB.at zy).a _ _ Gv (fun a ha => by have := gD (hok i zy) ha; rw [List.length_map, List.length_range]; omega) (by rw [List.length_map, List.length_range]; exact hBl)) (kh gc hro) (KIn.cons (zt 0 rfl) (fun e he => ⟨e.w, by obtain ⟨b, o, w⟩ := e; simp [he]⟩)) rfl (fun v88 D88 hP88 => ?_)))))
   have hA88 := E9 (hok i zy) zy hnb hP88
   refine WD.subH (hs' := _ :: _ :: _ :: (hs ++ hl ++ D84 ++ D88 ++ hp)) (SubH.op (iz (N := []) (G := D88) (K := [_, _, _]) (X := hs ++ hp ++ hl ++ D84) (by simp only [List.append_assoc, List.nil_append]; exact List.perm_iff_count.2 (by intro z; simp only [List.append_eq, List.count_append, List.count_nil]; omega)))) (WD.q (Q.build CR (bz rfl (bz rfl aq)) rfl (cs := [_, _, _, _, _, _, _, _, _, _, _, _]) (sM (OwnE.cell hP88))) (w9 (OwnE.bq0 hOm) (OwnE.bq0 hOn) (OwnE.bq0 hP88)) rfl (WD.bslice dO eK Dv rfl (bz rfl aq) rfl (cs := [_, _, _, _, _, _, _, _, _, _, _, _]) rfl (tG (OwnE.cell hOm) (OwnE.cell hOn) (OwnE.cell hP88)) rfl (KIn.cons (zt 0 rfl) (fun e he => ⟨e.w, by obtain ⟨b, o, w⟩ := e; simp [he]⟩)) (fun b2 => WD.appAny (A := ([_, _, _] ++ hs ++ hl ++ D84 ++ D88)) lV hO rfl rfl (Src.slice (zt 0 rfl) rfl) rfl zy (by decide) (SubH.of_sublist (List.sublist_cons_self _ _)) rfl (KIn.cons (zt 0 rfl) (fun e he => ⟨e.w, by obtain ⟨b, o, w⟩ := e; simp [he]⟩)) (fun v91 hp91 hO91 => WD.q (Q.assign rfl) (OwnE.bq hO91) rfl (WD.nil (End.KB (End.K (am (zq (aa rfl (zi 1) rfl zp) (zm rfl (WO.nil (End.KL (W.sub zv (bX gc (ih2 (i + 1) (X ++ [⟨(ei L i).d, gM L (ei L i).ars, 0, vm2, vn2, .nils, v88⟩]) (v91) (hp91) (hl ++ D84 ++ D88) ?_ ?_)))))))))))))))
   ·exact ⟨by omega, by rw [mc, E7 hnb, hX2], by rw [l7, List.length_append]; exact hO91, nI hX hOm hOn hA88 hDD, wa (wa hw hwD) (OwnE.w hP88), E8 hXb (hB.at zy) zy (hok i zy)⟩
   exact zo
  have hnb : nb L i = false := (by simpa using hc75)
  rw [H8 hnb]
  refine W.skip (End.KB (End.K (am (zq (aa rfl (zi 1) rfl zp) (zm rfl (WO.nil (End.KL (W.sub zv (bX gc (ih2 (i + 1) (X) (u) (hp) (hl) ?_ ?_))))))))))
  ·exact ⟨by omega, by rw [Hx hnb]; exact hX2, hO, hX, hw, hXb⟩
  exact zo
 refine W.exit (aC (aK (aB (End.K (zr (zm rfl (za rfl (za (zi 0) (zk (W.ret ?_))))))))))
 refine End.ret (ResL.tmp rfl (z1 rfl)) (hs' := hp ++ hl) ⟨0, X, u, .inr ⟨by omega, rfl, by rw [hX2, show i = L.length by omega]⟩, ⟨hp, hl, rfl, hO, hX, hw, ⟨by omega, hXb⟩⟩, rfl⟩ (wa (OwnE.w hO) hw) gc
structure CQ (v : AV) : Prop where
 cell : v.isCell = true
 bq0 : cW v v = true
theorem CQ.bq {v : AV} (h : CQ v) : v.beq v = true := by
 have h1 := h.cell
 have h2 := h.bq0
 cases v <;> first | exact h2 | cases h1 | (simp [AV.beq, fN, cW] at *; done) | skip
 all_goals (rename_i fn l; cases l <;> simp [AV.beq, fN, cW, fy] at *)
theorem RIn.cq {hs : ak} {sz n : Nat} {cells : List AV} {v : AV} (h : RIn hs sz n cells v) : CQ v := ⟨h.cell, h.bq0⟩
section
variable {d : ND} {vm vn vk : AV} {hs Dm Dn D13 hp hl D : ak} {L : List IE} {i j q k : Nat} {t : TD} {c : List AV} {cs : List (List AV)} {u v : AV}
theorem wh (hm : vm.isCell = true) (hn : vn.isCell = true) (hk : vk.isCell = true) : ((d.c vm vn vk).all AV.isCell) = true := gC hm hn hk
theorem Cy (hm : CQ vm) (hn : CQ vn) (hk : CQ vk) : (AV.agg (d.c vm vn vk)).beq (AV.agg (d.c vm vn vk)) = true :=
 kO (by simp only [ND.c, bS, List.all_cons, List.all_nil, hm.bq0, hn.bq0, hk.bq0, vx, vy, rZ, Bool.and_true])
theorem lP (h : TRep hs t c) : ∃ (d : ND) (vm vn vk : AV), c = d.c vm vn vk /\ CQ vm /\ CQ vn /\ CQ vk /\ Bytes d.op := by
 cases t with
 | node d ks =>
  rw [TRep] at h
  obtain ⟨vm, vn, vk, cs, rfl, h2, h3, h4, h5, _⟩ := h
  exact ⟨d, vm, vn, vk, rfl, h2.cq, h3.cq, h4.cq, h5.1⟩
end
theorem tF : aN.isAgg 30 = some false := by kernel_rfl
theorem wY : AP aN 24 24 = some 11 := by kernel_rfl
theorem ka : PL aN 26 [.int .i64 0, .str [], .int .i64 0, .nils, .int .i64 0, .int .i64 0, .int .i64 0, .nils, .int .i64 0, .bool false, .nils] [(0, 1), (1, 1), (2, 1), (3, 1), (4, 1), (5, 1), (6, 1), (7, 1), (8, 1), (9, 1), (10, 1)] = true := by kernel_rfl
theorem Fb : aN.zero 26 = some (.agg [.int .i64 0, .str [], .int .i64 0, .nils, .int .i64 0, .int .i64 0, .int .i64 0, .nils, .int .i64 0, .bool false, .nils]) := by kernel_rfl
theorem FO {k : IntKind} {a : Int} {t : TypeId} {tb : Tab} : co tb .neq t (.int k a) (.int k a) = some (.bool false) := aR (by rw [cP]; simp)
def mi (l : List Mt) (i : Nat) : Mt := l.getD i default
theorem uj {l : List Mt} {i : Nat} (h : i < l.length) : l[i]? = some (mi l i) := by
 unfold mi
 rw [List.getD_eq_getElem?_getD, List.getElem?_eq_getElem h]; rfl
theorem ya {l : List Mt} {i : Nat} (h : i < l.length) : cn (cM l) ((0 + i) * 3) 3 = some (mC (mi l i)) := by
 rw [Nat.zero_add]; exact pD (f := mC) (fun _ => rfl) l i _ (uj h)
def si (l : List (List Nat)) (i : Nat) : List Nat := l.getD i []
theorem uN {l : List (List Nat)} {i : Nat} (h : i < l.length) : l[i]? = some (si l i) := by
 unfold si
 rw [List.getD_eq_getElem?_getD, List.getElem?_eq_getElem h]; rfl
theorem yb {l : List (List Nat)} {i : Nat} (h : i < l.length) : (cS l)[(0 + i) * 1]? = some (.str (si l i)) := by
 rw [Nat.zero_add, Nat.mul_one, cS, List.getElem?_map, uN h]; rfl
def kd (l : List TD) (i : Nat) : TD := l.getD i vd
theorem yv {l : List TD} {i : Nat} (h : i < l.length) : l[i]? = some (kd l i) := by
 unfold kd
 rw [List.getD_eq_getElem?_getD, List.getElem?_eq_getElem h]; rfl
theorem F4 {l : List TD} {i : Nat} (h : i < l.length) : kd l i ∈ l := List.mem_of_getElem? (yv h)
theorem fW : aN.isAgg 9 = some false := by kernel_rfl
theorem iE : aN.isAgg 91 = some true := by kernel_rfl
theorem ij : FA aN 26 0 = some (0, 0 + 1) := by kernel_rfl
theorem ik : FA aN 26 1 = some (1, 0 + 1) := by kernel_rfl
theorem pA : FA aN 26 2 = some (2, 0 + 1) := by kernel_rfl
theorem lw : FA aN 26 4 = some (4, 0 + 1) := by kernel_rfl
theorem m9 : FA aN 26 5 = some (5, 0 + 1) := by kernel_rfl
theorem il : FA aN 26 6 = some (6, 0 + 1) := by kernel_rfl
theorem gI : FA aN 26 8 = some (8, 0 + 1) := by kernel_rfl
theorem gJ : FA aN 26 9 = some (9, 0 + 1) := by kernel_rfl
theorem GG : aN.und 4 = some .bool := by kernel_rfl
open Go.RowKit Go.ChangeShapes Go.WideShapes
section
variable {H : Type} {enc : TypeId × Value -> H} {P : Program} {w : World} {held : Bool}
end
def RowI (k : Nat) {α : Type} (sz : Nat) (f : List α -> List AV) (X : List α) (va : AV) (x : InB) : Prop := (va = .nils /\ X = []) \/ (va = .slice k 0 X.length sz /\ x.cells = f X)
theorem RowI.cell {k sz : Nat} {α : Type} {f : List α -> List AV} {X : List α} {va : AV} {x : InB} (h : RowI k sz f X va x) : va.isCell = true := by
 rcases h with ⟨rfl, _⟩ | ⟨rfl, _⟩ <;> rfl
section
variable {H : Type} {enc : TypeId × Value -> H} {W : World}
end
variable {J : Ctx}

structure BCfg where
 bt : Nat
 bu : Nat
 fs : Nat
 fb : Nat
 fr : Nat
abbrev Gh := Option (Nat × List Nat)

noncomputable section
def keepIn (h0 : T AObj) (t : T AObj) : Nat -> T AObj
 | 0 => .leaf
 | k + 1 => match h0.get k, t.get k with
  | some _, some o => (keepIn h0 t k).set k o
  | _, _ => keepIn h0 t k
theorem jT {h0 t : T AObj} : ∀ {k b : Nat} {o : AObj}, (keepIn h0 t k).get b = some o -> t.get b = some o /\ ∃ o', h0.get b = some o'
 | 0, b, o, h => by rw [keepIn, cg] at h; cases h
 | k + 1, b, o, h => by
  rw [keepIn] at h
  split at h
  ·rename_i x y h1 h2
   rw [aP] at h
   split at h
   ·rename_i e
    subst e
    cases h
    exact ⟨h2, x, h1⟩
   ·exact jT h
  ·exact jT h

def BS (g : Gh) (k : Nat) : Option (List Nat) := match g with
 | some (k', l) => match Nat.beq k k' with
  | true => some l
  | false => none
 | none => none
theorem nn {g : Gh} {k : Nat} {l : List Nat} (h : BS g k = some l) : g = some (k, l) := by
 unfold BS at h
 split at h
 ·split at h
  ·rename_i hb
   cases h
   rw [Nat.eq_of_beq_eq_true hb]
  ·cases h
 ·cases h

def yO (tm : T AV) (h : AHeap) (g : Gh) (args : List Operand) : Option (AV × AHeap × Gh) :=
 match dy tm args with
 | some [.opq k, .str s] => match BS g k with
  | some l => match Nat.ble (l.length + s.length) 1048576 with
   | true => some (.tuple [.int .i64 (s.length : Nat), .nili], h, some (k, l ++ s))
   | false => none
  | none => none
 | _ => none
def C8 (h0 : T AObj) (tm : T AV) (h : AHeap) (g : Gh) (args : List Operand) : Option (AV × AHeap × Gh) :=
 match dy tm args with
 | some [.opq k, .int .u8 (.ofNat n)] => match BS g k with
  | some l => match Nat.ble (l.length + 1) 1048576 && Nat.blt n 256 with
   | true => some (.nili, ⟨h.next, keepIn h0 h.objs h.next⟩, some (k, l ++ [n]))
   | false => none
  | none => none
 | _ => none
def C9 (h0 : T AObj) (tm : T AV) (h : AHeap) (g : Gh) (args : List Operand) : Option (AV × AHeap × Gh) :=
 match dy tm args with
 | some [.opq k] => match BS g k with
  | some (n :: l) => some (.str (n :: l), ⟨h.next, keepIn h0 h.objs h.next⟩, none)
  | _ => none
 | _ => none
def E0 (c : BCfg) (h0 : T AObj) (tm : T AV) (h : AHeap) (g : Gh) (o : Oper) : Option (Option (AV × AHeap × Gh)) :=
 match o.guard with
 | some _ => none
 | none => match o.op with
  | .alloc t => match Nat.beq t c.bt with
   | true => some (match g with
    | none => some (.opq h.next, ⟨h.next + 1, h.objs⟩, some (h.next, []))
    | some _ => none)
   | false => none
  | .call cl => match cl.callee with
   | .value (.func f) =>
    match Nat.beq f c.fs with
    | true => some (yO tm h g cl.args.toList)
    | false => match Nat.beq f c.fb with
     | true => some (C8 h0 tm h g cl.args.toList)
     | false => match Nat.beq f c.fr with
      | true => some (C9 h0 tm h g cl.args.toList)
      | false => none
   | _ => none
  | _ => none
def mZ (c : BCfg) (tb : Tab) (call : Nat -> List AV -> AHeap -> Option (AV × AHeap)) (h0 : T AObj) (n : Nat) (ops : List Oper) : List Oper -> T AV -> AHeap -> Gh -> Option (T AV × AHeap × Gh)
 | [], tm, h, g => some (tm, h, g)
 | o :: rest, tm, h, g => match E0 c h0 tm h g o with
  | some (some (v, h', g')) => match ch tm n o.dst v with
   | some tm' => mZ c tb call h0 n ops rest tm' h' g'
   | none => none
  | some none => none
  | none => match iG tb call ops tm h o with
   | some (v, h', _) => match ch tm n o.dst v with
    | some tm' => mZ c tb call h0 n ops rest tm' h' g
    | none => none
   | none => none
def sA (c : BCfg) (tb : Tab) (call : Nat -> List AV -> AHeap -> Option (AV × AHeap)) (h0 : T AObj) (n : Nat)
  (ih : Code -> T AV -> AHeap -> Gh -> Option (Ex × T AV × AHeap × Gh)) (cd : Code) (tm : T AV) (h : AHeap) (g : Gh) : Option (Ex × T AV × AHeap × Gh) :=
 match cd with
 | .skip => some (.normal, tm, h, g)
 | .label _ => some (.normal, tm, h, g)
 | .ret => some (.ret, tm, h, g)
 | .exit id => some (.exit id, tm, h, g)
 | .region _ ops draw => match draw with
  | true => match eE tb call n ops.toList tm h with
   | some (tm', h') => some (.normal, tm', h', g)
   | none => none
  | false => match mZ c tb call h0 n ops.toList ops.toList tm h g with
   | some (tm', h', g') => some (.normal, tm', h', g')
   | none => none
 | .seq a b => match ih a tm h g with
  | some (.normal, tm', h', g') => ih b tm' h' g'
  | r => r
 | .cond x a b => match bf tm x with
  | some (.bool true) => ih a tm h g
  | some (.bool false) => ih b tm h g
  | _ => none
 | .block id b => match ih b tm h g with
  | some (.exit j, tm', h', g') => match Nat.beq j id with
   | true => some (.normal, tm', h', g')
   | false => some (.exit j, tm', h', g')
  | r => r
 | .loop b => match ih b tm h g with
  | some (.normal, tm', h', g') => ih (.loop b) tm' h' g'
  | r => r
 | _ => none
def oH (tb : Tab) (run : T AObj -> Nat -> Code -> T AV -> AHeap -> Gh -> Option (Ex × T AV × AHeap × Gh)) (f : Nat) (args : List AV) (h : AHeap) : Option (AV × AHeap) :=
 match tb.orc f args h with
 | some v => some (v, h)
 | none =>
 match tb.ft.get f with
 | some fn =>
  match fn.body, Nat.ble args.length fn.ntmps with
  | some c, true =>
   match run h.objs fn.ntmps c (iJ 0 args .leaf) h none with
   | some (.exit _, _, _, _) => none
   | some (_, tm, h', _) => match dZ tb tm h' fn.results.toList with
    | some l => some (ah l, h')
    | none => none
   | none => none
  | _, _ => none
 | none => none
def qK (c : BCfg) (tb : Tab) : Nat -> T AObj -> Nat -> Code -> T AV -> AHeap -> Gh -> Option (Ex × T AV × AHeap × Gh)
 | 0, _, _, _, _, _, _ => none
 | k + 1, h0, n, cd, tm, h, g => sA c tb (oH tb (qK c tb k)) h0 n (qK c tb k h0 n) cd tm h g
def A6 (c : BCfg) (tb : Tab) (k : Nat) (f : Nat) (args : List AV) (h : AHeap) : Option (AV × AHeap) := oH tb (qK c tb k) f args h
end

def ownB (w : World) (b : Nat) : Option Nat := match w.heap[b]? with
 | some (.cells c _ _) => (c.getD 1 undef).ownBlock
 | _ => none
structure Fine (b : Nat) (w w' : World) : Prop where
 os : w'.os = w.os
 tape : w'.tape = w.tape
 output : w'.output = w.output
 size : w.heap.size <= w'.heap.size
 block : ∀ k, k < w.heap.size -> k ≠ b -> ownB w b ≠ some k -> w'.heap[k]? = w.heap[k]?
 own : ∀ x, ownB w' b = some x -> ownB w b = some x \/ w.heap.size <= x

def yp (P : Program) (f : Nat) : Prop := ∃ fn, P.funcs[f]? = some fn /\ fn.body.isSome = true /\ (fn.name == "runtime.NumGoroutine") = false
structure BOK (P : Program) (c : BCfg) : Prop where
 hz : ∀ w, (zeroValue c.bt).run P w = .ok (.agg #[.pointer none, .slice none 0 0]) w
 fs : yp P c.fs
 fb : yp P c.fb
 fr : yp P c.fr
 ws : ∀ (B b : Nat) (bs : List Value) (s : ByteArray) (w : World), Lib.IsBuilder c.bt c.bu B b bs w -> bs.length + s.size <= 140737488355328 -> B <= w.heap.size ->
  Calls P c.fs #[.pointer (some ⟨b, 0, none⟩), .string s] w fun e w' => e = .returned (.tuple #[.int .i64 s.size, .nilIface]) /\ Lib.IsBuilder c.bt c.bu B b (bs ++ Lib.strCells s) w' /\ Fine b w w'
 wb : ∀ (B b : Nat) (bs : List Value) (n : Int) (w : World), Lib.IsBuilder c.bt c.bu B b bs w -> bs.length + 1 <= 140737488355328 -> B <= w.heap.size ->
  Calls P c.fb #[.pointer (some ⟨b, 0, none⟩), .int .u8 n] w fun e w' => e = .returned .nilIface /\ Lib.IsBuilder c.bt c.bu B b (bs ++ [.int .u8 n]) w' /\ Below B w w'
 tl : ∀ (B b : Nat) (l : List UInt8) (w : World), Lib.IsBuilder c.bt c.bu B b (Lib.byteCells l) w -> l ≠ [] ->
  Calls P c.fr #[.pointer (some ⟨b, 0, none⟩)] w fun e w' => e = .returned (.string ⟨l.toArray⟩) /\ Below B w w'

def Bld (c : BCfg) (M : Inj) (N : Nat -> Prop) (B : Nat) (g : Gh) (w : World) : Prop :=
 ∀ k l, g = some (k, l) -> ∃ (blk : Nat) (s : List UInt8), M k = some ⟨0, 0, 0, 0, .pointer (some ⟨blk, 0, none⟩)⟩ /\ l = s.map UInt8.toNat /\ Lib.IsBuilder c.bt c.bu B blk (Lib.byteCells s) w /\ N blk /\ ∀ x, ownB w blk = some x -> N x
def GRel (c : BCfg) (N0 : Nat -> Prop) (w0 : Base J) (B : Nat) (h0 : T AObj) (M : Inj) (h : AHeap) (g : Gh) (w : World) : Prop :=
 (∀ b o, h0.get b = some o -> ∃ i, M b = some i /\ i.blk < B) /\ (∀ k, N0 k -> k < B) /\ (∀ k, k < w0.n -> N0 k) /\
 ∃ (N : Nat -> Prop) (w1 : Base J), HRel M N w1 h w /\ (∀ k, N0 k -> N k) /\ Keeps N0 w0.w w1.w /\ w1.n = w0.n /\ (∀ b, w0.res b -> w1.res b) /\ Bld c M N B g w1.w /\ B <= w1.w.heap.size

section ghost
variable {P : Program} {tb : Tab} {c : BCfg} {N0 : Nat -> Prop} {w0 : Base J} {B : Nat} {h0 : T AObj} {M : Inj} {h : AHeap} {g : Gh} {w : World}

theorem GRel.enter {N : Nat -> Prop} (hh : HRel M N w0 h w) : GRel c N w0 w.heap.size h.objs M h none w := by
 refine ⟨fun b o ho => ?_, hh.big, hh.lim, N, Base.at_ hh.lim hh.below w0.res, hh.rebase w0.res (fun k hk => hk) hh.big (fun b o i _ _ hN => hN) hh.res, fun k hk => hk, hh.below, rfl, fun b hb => hb, fun k l e => (by cases e), Nat.le_refl _⟩
 have hl := hh.live b o ho
 have : ∃ i, M b = some i := by
  rcases hl with ⟨⟨i, hi, _⟩, _⟩ | ⟨i, _, _, _, hi, _⟩ | ⟨i, _, _, hi, _⟩ <;> exact ⟨i, hi⟩
 obtain ⟨i, hi⟩ := this
 exact ⟨i, hi, (hl.blk_lt hi).1⟩
theorem GRel.leave (hg : GRel c N0 w0 B h0 M h g w) : HRel M N0 w0 h w := by
 obtain ⟨_, h1, h2, N, w1, hh, h3, h4, h5, h6, _, _⟩ := hg
 exact ⟨hh.base, h2, h4.trans (hh.below.mono h3), fun k hk => hh.big k (h3 k hk), fun b o ho => by
   have := (hh.live b o ho).limit (N' := N0) (fun i hi hN hN2 => hN (h3 _ hN2))
   rwa [h5] at this,
  fun b b' o o' i i' p q r s e hN => hh.apart b b' o o' i i' p q r s e (((hh.live b o p).blk_lt r).2.resolve_right (fun hlt => hN (h2 _ (h5 ▸ hlt)))), hh.old, hh.fresh, fun b hb => hh.res b (h6 b hb)⟩
theorem GRel.step {N : Nat -> Prop} {w1 : Base J} {M' : Inj} {h' : AHeap} {w' : World} (h1 : ∀ b o, h0.get b = some o -> ∃ i, M b = some i /\ i.blk < B) (h2 : ∀ k, N0 k -> k < B) (h3 : ∀ k, k < w0.n -> N0 k)
  (h4 : ∀ k, N0 k -> N k) (h5 : Keeps N0 w0.w w1.w) (h6 : w1.n = w0.n) (h7 : ∀ b, w0.res b -> w1.res b) (h8 : Bld c M N B g w1.w) (h9 : B <= w1.w.heap.size) (hM : M.le M') (hh : HRel M' N w1 h' w') : GRel c N0 w0 B h0 M' h' g w' :=
 ⟨fun b o ho => let ⟨i, hi, hl⟩ := h1 b o ho; ⟨i, hM _ _ hi, hl⟩, h2, h3, N, w1, hh, h4, h5, h6, h7, fun k l e => let ⟨blk, s, q1, q2⟩ := h8 k l e; ⟨blk, s, hM _ _ q1, q2⟩, h9⟩

theorem Al {N : Nat -> Prop} {e n : Nat} {v : Value} {xs : List Value} {w w' : World} (h : w.ownsRow B e 1 v n xs) (hN : ∀ x, v.ownBlock = some x -> N x) (k : Keeps N w w') : w'.ownsRow B e 1 v n xs := by
 obtain ⟨h1, h2⟩ := h
 refine ⟨h1, ?_⟩
 rcases h2 with h2 | ⟨g, cap, cur, rfl, q1, q2, q3⟩
 ·exact .inl h2
 ·exact .inr ⟨g, cap, cur, rfl, q1, by rw [k.block g (hN g rfl)]; exact q2, q3⟩
theorem tI {N : Nat -> Prop} {blk : Nat} {p : Value} {bs : List Value} {w w' : World} (h : Lib.BuilderAt c.bt c.bu B blk p bs w) (hb : N blk) (hN : ∀ x, ownB w blk = some x -> N x) (k : Keeps N w w') : Lib.BuilderAt c.bt c.bu B blk p bs w' := by
 obtain ⟨h1, v, h2, h3, h4⟩ := h
 refine ⟨h1, v, by rw [k.block blk hb]; exact h2, Al h3 (fun x hx => hN x ?_) k, h4⟩
 unfold ownB
 rw [h2]
 exact hx
theorem B1 {N : Nat -> Prop} {blk : Nat} {bs : List Value} {w w' : World} (h : Lib.IsBuilder c.bt c.bu B blk bs w) (hb : N blk) (hN : ∀ x, ownB w blk = some x -> N x) (k : Keeps N w w') : Lib.IsBuilder c.bt c.bu B blk bs w' :=
 h.imp (fun h => tI h hb hN k) (fun h => tI h hb hN k)
theorem Ag {N : Nat -> Prop} {blk : Nat} {w w' : World} (hb : N blk) (k : Keeps N w w') : ownB w' blk = ownB w blk := by
 unfold ownB
 rw [k.block blk hb]
theorem Bld.keeps {N : Nat -> Prop} {w w' : World} (h : Bld c M N B g w) (k : Keeps N w w') : Bld c M N B g w' := by
 intro a l e
 obtain ⟨blk, s, q1, q2, q3, q4, q5⟩ := h a l e
 exact ⟨blk, s, q1, q2, B1 q3 q4 q5 k, q4, by rw [Ag q4 k]; exact q5⟩
theorem sS {blk : Nat} {bs : List Value} {w : World} (h : Lib.IsBuilder c.bt c.bu B blk bs w) : B <= blk /\ blk < w.heap.size /\ ∀ x, ownB w blk = some x -> B <= x /\ x < w.heap.size := by
 have key : ∀ p, Lib.BuilderAt c.bt c.bu B blk p bs w -> B <= blk /\ blk < w.heap.size /\ ∀ x, ownB w blk = some x -> B <= x /\ x < w.heap.size := by
  intro p h
  refine ⟨h.1, h.lt, fun x hx => ?_⟩
  obtain ⟨_, v, h2, h3, _⟩ := h
  unfold ownB at hx
  rw [h2] at hx
  rcases h3.2 with ⟨rfl, _⟩ | ⟨g, cap, cur, rfl, q1, q2, _⟩
  ·cases hx
  ·cases hx
   exact ⟨q1, (Array.getElem?_eq_some_iff.1 q2).1⟩
 exact h.elim (key _) (key _)

theorem HRel.newBase {N N' : Nat -> Prop} {w1 : Base J} {M' : Inj} {h' : AHeap} {w' : World} (hh : HRel M N w1 h w) (hM : M.le M') (hk : Keeps N0 w w') (hlim : ∀ k, k < w1.n -> N0 k) (h0N : ∀ k, N0 k -> N k) (hN0 : ∀ k, N0 k -> N' k) (hbig : ∀ k, N' k -> k < w'.heap.size)
  (hsub : ∀ b o, h'.objs.get b = some o -> h.objs.get b = some o) (hnext : h.next <= h'.next) (hfresh : ∀ b, h'.next <= b -> M' b = none) (hsame : ∀ b, b < h.next -> M' b = M b)
  (hblk : ∀ b o i, h'.objs.get b = some o -> M b = some i -> w'.heap[i.blk]? = w.heap[i.blk]? /\ (¬ N i.blk -> ¬ N' i.blk)) :
  ∃ w2 : Base J, w2.w = w' /\ w2.n = w1.n /\ (∀ b, w1.res b -> w2.res b) /\ HRel M' N' w2 h' w' := by
 have hb : Below w1.n w1.w w' := (hh.below.mono h0N |>.trans hk).below hlim
 refine ⟨⟨w', w1.n, fun w3 h3 => w1.ok w3 (hb.trans h3), w1.res⟩, rfl, rfl, fun b h => h, ⟨Inj.le_trans hh.base hM, fun k hk => hN0 k (hlim k hk), Keeps.refl _ _, hbig, ?_, ?_, ?_, hfresh, ?_⟩⟩
 ·intro b o hb
  have hl := hh.live b o (hsub b o hb)
  have hm := hl.mono hM (w' := w') (fun i hi => (hblk b o i hb hi).1)
  have hlt := hh.old b o (hsub b o hb)
  exact hm.limit (fun i hi hN => (hblk b o i hb (by rw [<- hsame b hlt]; exact hi)).2 hN)
 ·intro b b' o o' i i' p q r s e hN
  have p' := hsub b o p
  have q' := hsub b' o' q
  rw [hsame b (hh.old b o p')] at r
  rw [hsame b' (hh.old b' o' q')] at s
  refine hh.apart b b' o o' i i' p' q' r s e (((hh.live b o p').blk_lt r).2.resolve_right (fun hlt => hN (hN0 _ (hlim _ hlt))))
 ·intro b o hb
  have := hh.old b o (hsub b o hb)
  omega
 ·intro b hb
  obtain ⟨r1, r2⟩ := hh.res b hb
  exact ⟨by rw [hsame b r2]; exact r1, Nat.lt_of_lt_of_le r2 hnext⟩

theorem BU (H : BOK P c) (hg : GRel c N0 w0 B h0 M h none w) : ∃ u M' w', (Instr.alloc c.bt true (.tuple #[])).run P w = .ok u w' /\ M.le M' /\ VRel M' (.opq h.next) u /\ GRel c N0 w0 B h0 M' ⟨h.next + 1, h.objs⟩ (some (h.next, [])) w' := by
 obtain ⟨h1, h2, h3, N, w1, hh, h4, h5, h6, h7, _, h9⟩ := hg
 have hn := hh.fresh h.next (Nat.le_refl _)
 have hsz : w1.w.heap.size <= w.heap.size := hh.below.size
 let u : Value := .pointer (some ⟨w.heap.size, 0, none⟩)
 let w' := w.alloc (.cells #[.pointer none, .slice none 0 0] c.bt (0, 0))
 have hgr : Grow w w' (.cells #[.pointer none, .slice none 0 0] c.bt (0, 0)) := Grow.alloc w _
 let M' := M.upd h.next ⟨0, 0, 0, 0, u⟩
 have hle : M.le M' := gZ hn _
 have hsame : ∀ b, b < h.next -> M' b = M b := fun b hb => by show (if b = h.next then _ else _) = _; rw [if_neg zy]
 have hself : M' h.next = some ⟨0, 0, 0, 0, u⟩ := by show (if h.next = h.next then _ else _) = _; rw [if_pos rfl]
 have hk : Keeps N0 w w' := (hgr.below (Keeps.refl N0 w) (fun k hk => by have := h2 k hk; omega))
 obtain ⟨w2, e1, e2, e3, hh2⟩ := hh.newBase (N0 := N0) (N' := fun x => N x \/ x = w.heap.size) (h' := ⟨h.next + 1, h.objs⟩) hle hk (fun k hk => h3 k (h6 ▸ hk)) h4 (fun k hk => .inl (h4 k hk))
  (fun k hk => by rw [hgr.size]; rcases hk with hk | rfl; have := hh.big k hk; omega; omega) (fun b o hb => hb) (Nat.le_succ _) (fun b hb => by show (if b = h.next then _ else _) = _; simp only at hb; rw [if_neg zy]; exact hh.fresh b zy) hsame
  (fun b o i hb hi => by
   have := ((hh.live b o hb).blk_lt hi).1
   exact ⟨hgr.old _ this, fun hN hN' => hN'.elim hN (fun e => by omega)⟩)
 refine ⟨u, M', w', ?_, hle, .opq h.next ⟨0, 0, 0, 0, u⟩ u hself rfl rfl, fun b o ho => let ⟨i, hi, hl⟩ := h1 b o ho; ⟨i, hle _ _ hi, hl⟩, h2, h3, _, w2, hh2, fun k hk => .inl (h4 k hk), by rw [e1]; exact (h5.trans (hh.below.mono h4)).trans hk, by rw [e2, h6], fun b hb => e3 b (h7 b hb), ?_, by rw [e1, hgr.size]; omega⟩
 ·simp only [Instr.alloc, Sem.run_bind, H.hz, Result.andThen_ok]
  simp [newVar, newRow, Value.cells, u, w']
 ·intro k l e
  cases e
  refine ⟨w.heap.size, [], hself, rfl, .inl ⟨by omega, .slice none 0 0, by rw [e1]; exact hgr.new, World.ownsRow_nil _ _ _ _, by simp [Value.ownBlock]⟩, .inr rfl, fun x hx => ?_⟩
  rw [e1] at hx
  unfold ownB at hx
  rw [hgr.new] at hx
  cases hx
end ghost
end Go.Proofs.YtndhhgbpcmfeiaaGreatDoor.Ev
