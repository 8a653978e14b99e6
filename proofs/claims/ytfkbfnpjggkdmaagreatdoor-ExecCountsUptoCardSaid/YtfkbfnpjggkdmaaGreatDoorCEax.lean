/- Chapter 21: a run of the counts, as a whole. -/
import Derived.Test.YtfkbfnpjggkdmaaGreatDoorCEav
namespace Go.Proofs.YtfkbfnpjggkdmaaGreatDoor.Ev
open Go.RowKit
set_option maxRecDepth 100000
set_option maxHeartbeats 1000000
theorem Hl {M : List ed} {lo hi : Int} {L : List (List bA × List bP)} {A : List (List bA × List bP)} (hca : uF M = 0) (h : A = fb M lo hi L) : A = gL M lo hi L := by
 unfold gL
 rw [if_neg (by simp [hca])]
 exact h
theorem Hm {M : List ed} {lo hi : Int} {L A : List (List bA × List bP)} (h : A = fb M lo hi L) (hk : rj L) : rj A := fun x hx => by
 rw [h] at hx
 obtain ⟨y, hy, g⟩ := List.mem_filterMap.1 hx
 split at g
 ·cases g
  exact ⟨(hk y hy).1, mS (hk y hy).2 List.filter_sublist⟩
 ·cases g
theorem IP {r z n k : Nat} (h : z = n * r) (hk : k < n) : k * r + r <= z := by
 have := Nat.mul_le_mul_right r hk
 rw [h]
 rw [Nat.succ_mul] at this
 exact this
theorem GS {L : List (List bA × List bP)} {O2 : List El} {k r : Nat} (h : O2.map (·.2) = (l9 L ((r + k * r : Nat) : Int) ((r : Nat) : Int)).map (·.2)) : (O2.map fun x => x.2.2) = (i6 L (((k + 1) * r : Nat) : Int) ((r : Nat) : Int)).map fun x => ((x : Nat) : Int) := by
 have e : (k + 1) * r = r + k * r := by rw [Nat.succ_mul]; omega
 rw [e, <- AE]
 have := congrArg (fun l => l.map fun p : List bA × Int => p.2) h
 rw [List.map_map, List.map_map] at this
 exact this

theorem Fo (hs : af) (hro : ∀ e ∈ hs, e.w = false) (R : List bV) (v : AV) (hR : RSl hs R 0 v) (hRA : RAll hs R) (hRb : kp R) (M : List ed) (vm : AV) (hM : ISm hs M vm) (hok : nB M) (pb : Nat) (xpb : Bool) (a1 a2 : Nat) (xa1 xa2 : Bool) (bx : Nat) (r z n : Nat) (hr0 : 0 < r) (hrb : r <= 1000000) (hn1 : 1 <= n) (hn30 : n <= 30) (hzn : z = n * r) (hz : z <= 30000000) (hzr : r <= z) (exx : Bool) (hca : uF M = 0) (hk : rj (aV R)) (hR2 : R.length <= 256) : SpecX jC tab 33 [.slice pb 0 3 12, .func 34 [.ptr bx 0], .agg [.int .i64 ((r : Nat) : Int), .int .i64 ((z : Nat) : Int), .int .i64 ((r : Nat) : Int), .int .i64 ((1099511627776 : Nat) : Int)], .bool false] [] (⟨pb, ⟨12, xpb, [.int .i64 ((2 : Nat) : Int), .str [], .int .i64 0, vm, .int .i64 ((r : Nat) : Int), .int .i64 ((0 : Nat) : Int), .int .i64 0, .nils, .int .i64 0, .bool false, .nils, .nils, .int .i64 ((3 : Nat) : Int), .str [99, 111, 117, 110, 116, 95, 111, 118, 101, 114, 95, 116, 105, 109, 101], .int .i64 0, .nils, .int .i64 0, .int .i64 0, .int .i64 0, .nils, .int .i64 0, .bool false, .nils, .slice a1 0 1 1, .int .i64 ((4 : Nat) : Int), .str [115, 117, 109], .int .i64 0, .nils, .int .i64 0, .int .i64 0, .int .i64 0, .nils, .int .i64 0, .bool false, .nils, .slice a2 0 1 1]⟩, false⟩ :: ⟨a1, ⟨1, xa1, [.int .i64 ((0 : Nat) : Int)]⟩, false⟩ :: ⟨a2, ⟨1, xa2, [.int .i64 ((1 : Nat) : Int)]⟩, false⟩ :: ⟨bx, ⟨1, exx, [v]⟩, false⟩ :: hs) (fun u D => (u = .tuple [.agg [.int .i64 0, .nils], .int .i64 0, .int .i64 ((17 : Nat) : Int)] /\ D = []) \/ (∃ (rv : AV) (MO : List Mo) (c : Nat) (H G : af), u = .tuple [.agg [.int .i64 ((2 : Nat) : Int), rv], .int .i64 ((c : Nat) : Int), .int .i64 0] /\ D = G ++ H /\ OwnE 3 (cM MO) MO.length rv H /\ MosR G (fb M 1 ((z : Nat) : Int) (aV R)) r MO n /\ (∀ e ∈ G, e.w = true))) (fun _ => False) := by
 refine rp (bz 33 Tryz.func33) rfl (m := 76) rfl (rs := [.cell 8 37, .cell 9 3, .cell 10 38]) rfl (st := [(0, .slice pb 0 3 12), (1, .func 34 [.ptr bx 0]), (2, .agg [.int .i64 ((r : Nat) : Int), .int .i64 ((z : Nat) : Int), .int .i64 ((r : Nat) : Int), .int .i64 ((1099511627776 : Nat) : Int)]), (3, .bool false)]) rfl rfl (fun _ => rfl) rfl (fun E => Ev.X.seq (Ev.X.w (W.reg (WO.box rfl rfl (DS _ rfl) rfl (fun b1 => WO.alloc DK rfl (fun b2 => WO.alloc JI rfl (fun b3 => WO.alloc JR rfl (fun b4 => WO.nil (XEnd.K (Ev.X.seq (Ev.X.reg (XO.pre 1 (zq (dQ (aj rfl (aj rfl (aj rfl oz)))) (WO.nil (eC (XO.defer rfl rfl rfl (XO.nil (XEnd.K (Ev.X.seq (Ev.X.w (W.reg (zm rfl (zm rfl (zq (ax rfl (zt 3 rfl) DG Hy (l := [_, _, _, _]) rfl) (ak rfl (aj rfl (aj rfl (aj rfl oz))) rfl (EY hs hro M vm hM hok pb xpb a1 a2 xa1 xa2 bx r z n hr0 hrb hn1 hn30 hzn hz hzr) (SubR.ix (K := [_, _, _, _, _, _, _, _]) (ix := [4, 5, 6]) (A := [_, _, _]) rfl (by decide) (aN hro)) rfl ?_)))))))))))))))))))))))))
 refine zf Gn rfl 0 (WO.store dn rfl rfl (i := 2) rfl rfl (cs := [_, _]) rfl (hs' := _ :: _ :: _ :: _ :: _ :: _ :: _ :: _ :: _) rfl (WO.nil (XEnd.K (Ev.X.seq (Ev.X.w (W.reg (zf BG rfl 3 (zq (ag rfl (zt 3 rfl) bH rfl) (zq (Q.build Je (cy rfl dE) rfl (cs := [_, _, _]) rfl) (WO.box rfl rfl (Ie _ rfl) rfl (fun X => za rfl (WO.nil (XEnd.K (Ev.X.seq (Ev.X.seq (Ev.X.w (W.reg (zm rfl (WO.nil (XEnd.K (Ev.X.condF rfl (Ev.X.skip (XEnd.K (Ev.X.seq (Ev.X.w (W.reg ?_))))))))))))))))))))))))))
 refine zm rfl (zm rfl (WO.call1 rfl (aj rfl (aj rfl oz)) rfl (i := 0) rfl (GK hs hro M vm hM hok pb xpb a1 a2 xa1 xa2 X true _ r hr0) (SubR.ix (K := [_, _, _, _, _, _, _, _]) (ix := [4, 5, 6]) (A := [_, _, _]) rfl (by decide) (aN hro)) (hs' := _ :: _ :: _ :: _ :: _ :: _ :: _ :: _ :: _) rfl rfl (fun v31 D31 hP31 => ?_)))
 obtain ⟨rfl, lb, ob, o1, o2, xl, rfl⟩ := hP31
 refine WO.nil (XEnd.K (Ev.X.sub (zc 11 rfl (zc 10 rfl (zc 9 rfl (zc 8 rfl (zc 6 rfl (zc 1 rfl aI)))))) (Ev.X.seq (Ev.X.w (W.reg (zm rfl (zm rfl (zq (ax rfl (zt 8 rfl) DG Hy (l := [_, _, _, _]) rfl) (WO.call1 rfl (aj rfl (aj rfl (aj rfl oz))) rfl (i := 2) rfl (Ib hs hro R v hR hRA hRb M vm hM hok X true xl exx lb ob o1 o2 a1 a2 bx r z hr0 zy zy hca) (SubR.ix (K := [_, _, _, _, _, _, _, _, _, _, _, _]) (ix := [1, 0, 2, 3, 11]) (A := [_, _, _, _, _]) rfl (by decide) (aN hro)) (hs' := _ :: _ :: _ :: _ :: _ :: _ :: _ :: _ :: _ :: _ :: _ :: _ :: _) rfl rfl (fun v35 D35 hP35 => ?_))))))))))
 obtain ⟨rfl, u2, R2, G, rfl, hR2, hR2A, hR2c, hR2l, hG⟩ := hP35
 have hR2s := Hl hca hR2c
 have hRb2 := Hk hRb hR2s hR2l
 have hRp2 := E2 hR2s
 have hk2 := Hm hR2c hk
 have hl2 : R2.length * 1048576 <= 268435456 := by omega
 refine WO.subH (hs' := _ :: _ :: _ :: _ :: _ :: _ :: _ :: _ :: _ :: _ :: _ :: _ :: _ :: (hs ++ G)) (SubH.op (aw (N := [_]) (G := G) (K := [_, _, _, _, _, _, _, _, _, _, _, _]) (X := hs))) (WO.nil (XEnd.K (Ev.X.seq (Ev.X.seq (Ev.X.w (W.reg (zf my rfl 1 (zq (ag rfl (zt 8 rfl) bH rfl) (zf mw rfl 0 (zq (ag rfl (zt 8 rfl) bH rfl) (zq (aa rfl rfl rfl (bM (oe zo))) (zf sb rfl 2 (zq (ag rfl (zt 8 rfl) bH rfl) (zq (aa rfl rfl rfl (AS zy (FJ hr0 hn1 hz hzn))) (zq (aa rfl (zi 1) rfl zp) (zq (Q.move (zi 0)) (WO.nil (XEnd.K (Ev.X.block (Ev.X.loop_ind6 (fun (k : Nat) (MO : List Mo) (rv : AV) (c : Nat) (H : af) (K : af) => [(6, .ptr b1 0), (8, .ptr b2 0), (9, .ptr b3 0), (10, .ptr b4 0), (11, .ptr X 0), (44, .int .i64 ((n - 1 + 1 : Nat) : Int)), (45, .int .i64 ((k : Nat) : Int))]) (fun (k : Nat) (MO : List Mo) (rv : AV) (c : Nat) (H : af) (K : af) => (⟨X, ⟨3, true, [.slice lb 0 3 1, .int .i64 ((1099511627776 : Nat) : Int), .int .i64 ((c : Nat) : Int)]⟩, true⟩ :: ⟨lb, ⟨1, xl, [.ptr ob 0, .ptr o1 0, .ptr o2 0]⟩, true⟩ :: ⟨ob, ⟨15, true, [.int .i64 ((2 : Nat) : Int), .str [], .int .i64 0, vm, .int .i64 ((r : Nat) : Int), .int .i64 ((0 : Nat) : Int), .int .i64 0, .nils, .int .i64 0, .bool false, .nils, .nils, .int .i64 0, u2, .func 120 [.tuple [], .ptr X 0]]⟩, true⟩ :: ⟨o1, ⟨15, true, [.int .i64 ((3 : Nat) : Int), .str [99, 111, 117, 110, 116, 95, 111, 118, 101, 114, 95, 116, 105, 109, 101], .int .i64 0, .nils, .int .i64 0, .int .i64 0, .int .i64 0, .nils, .int .i64 0, .bool false, .nils, .slice a1 0 1 1, .int .i64 ((r : Nat) : Int), .nils, .func 122 [.tuple [], .ptr X 0]]⟩, true⟩ :: ⟨o2, ⟨15, true, [.int .i64 ((4 : Nat) : Int), .str [115, 117, 109], .int .i64 0, .nils, .int .i64 0, .int .i64 0, .int .i64 0, .nils, .int .i64 0, .bool false, .nils, .slice a2 0 1 1, .int .i64 0, .nils, .func 124 [.tuple [], .ptr X 0]]⟩, true⟩ :: ⟨a1, ⟨1, xa1, [.int .i64 ((0 : Nat) : Int)]⟩, false⟩ :: ⟨a2, ⟨1, xa2, [.int .i64 ((1 : Nat) : Int)]⟩, false⟩ :: ⟨b4, ⟨1, true, [.int .i64 0]⟩, true⟩ :: ⟨b3, ⟨1, true, [.int .i64 0]⟩, true⟩ :: ⟨b2, ⟨2, true, [.int .i64 ((2 : Nat) : Int), rv]⟩, true⟩ :: ⟨b1, ⟨4, true, [.int .i64 ((r : Nat) : Int), .int .i64 ((z : Nat) : Int), .int .i64 ((r : Nat) : Int), .int .i64 ((1099511627776 : Nat) : Int)]⟩, true⟩ :: (((hs ++ G) ++ K) ++ H))) (fun (k : Nat) (MO : List Mo) (rv : AV) (c : Nat) (H : af) (K : af) => k <= n /\ MosR K (aV R2) r MO k /\ OwnE 3 (cM MO) MO.length rv H /\ c <= k * 268435456 /\ (∀ e ∈ K, e.w = true)) (fun (k : Nat) (MO : List Mo) (rv : AV) (c : Nat) (H : af) (K : af) => n - k) (0) ([]) (.nils) (0) ([]) ([]) ⟨Nat.zero_le _, MosR.zero, OwnE.nil 3, Nat.zero_le _, dB⟩ zv (SubH.ix (K := [_, _, _, _, _, _, _, _, _, _, _, _, _]) (ix := [2, 1, 0, 3, 4, 10, 11, 5, 6, 7, 8]) (A := [_, _, _, _, _, _, _, _, _, _, _]) rfl (by decide) gc) (fun k MO rv c H K hI0 ih0 => ?_)))))))))))))))))))))
 obtain ⟨hk1, hMo, hO, hc, hK⟩ := hI0
 have hMl := hMo.1
 refine Ev.X.seq (Ev.X.w (W.reg (zq (aa rfl rfl rfl (bu bY)) (WO.nil (XEnd.K (Ev.X.seq (Ev.X.condDS rfl (fun hc46 => ?_) (fun hc46 => ?_))))))))
 ·have hkz : k * r + r <= z := IP hzn zy
  refine Ev.X.skip (XEnd.K (Ev.X.seq (Ev.X.block (Ev.X.seq (Ev.X.w (W.reg (zm rfl (za rfl (WO.nil (XEnd.K (Ev.X.seq (Ev.X.w (W.reg (zf mw rfl 0 (zq (ag rfl (zt 10 rfl) bH rfl) (zm rfl (zf sb rfl 2 (zq (ag rfl (zt 10 rfl) bH rfl) (zq (aa rfl rfl rfl (oF (pP zo))) (zq (aa rfl rfl rfl zp) (za rfl (WO.nil (XEnd.K (Ev.X.seq (Ev.X.reg ?_)))))))))))))))))))))))))
  refine XO.pre 2 (zm rfl (zm rfl (WO.nil (eC (XO.call1 rfl (aj rfl (aj rfl oz)) rfl (i := 0) rfl (JT (ro (hs ++ G)) ie M vm (hM.mono (fun b o h => (MemH.ap1 h).ro)) hok R2 u2 (rl hR2) (hR2A.mono (fun b o h => (MemH.app h).ro)) hRb2 hRp2 hk2 X true xl xa1 xa2 lb ob o1 o2 a1 a2 c r hr0 zy zy zy (r + k * r) zy) (SubR.ix (K := [_, _, _, _, _, _, _, _, _, _]) (ix := [0, 1, 2, 3, 4, 5]) (A := [_, _, _, _, _, _]) rfl (by decide) (SubR.ro gc)) (hs' := _ :: _ :: _ :: _ :: _ :: _ :: _ :: _ :: _ :: _ :: _) rfl rfl (fun l hB tm h ht hh => by subst hB; exact End.rcv (i := 8) (j := 7) (k := 6) rfl rfl rfl rfl rfl rfl (End.ret (ResL.agg (c := [_, _]) rfl (zt 8 rfl) AB sK rfl (ResL.one rfl (zt 7 rfl) bH rfl (ResL.one rfl (zt 6 rfl) H3 rfl ResL.nil))) (hs' := []) (.inl ⟨rfl, rfl⟩) dB (SubH.nil _)) tm h ht hh) (fun v57 D57 hP57 => ?_))))))
  obtain ⟨y, h3, q, rfl, rfl, hU, hq⟩ := hP57
  refine XO.subH (hs' := _ :: _ :: _ :: _ :: _ :: _ :: _ :: _ :: _ :: _ :: _ :: (hs ++ G ++ K ++ H ++ h3)) (SubH.op (aw (N := [_]) (G := h3) (K := [_, _, _, _, _, _, _, _, _, _]) (X := hs ++ G ++ K ++ H))) (XO.pre 2 (WO.alloc ll rfl (fun b6 => WO.store di rfl rfl (i := 0) rfl (au rfl (au rfl (au rfl (au (OwnE.cell hU) rfl)))) (cs := [_, _, _, _]) rfl (hs' := _ :: _ :: _ :: _ :: _ :: _ :: _ :: _ :: _ :: _ :: _ :: _ :: _) rfl (WO.nil (eC (XO.nil (XEnd.K (Ev.X.w (ez 10 [⟨b6, _, false⟩, ⟨b2, _, false⟩] (by kernel_rfl) (KIn.cons (zt 0 rfl) (KIn.cons (zt 10 rfl) KIn.nil)) (WD.q (Q.fieldAddr mz rfl (o' := 1) rfl) eO rfl (WD.q (ag rfl (zt 1 rfl) AA rfl) (OwnE.bq hO) rfl (WD.q (Q.move rfl) cZ rfl (WD.q (Q.fieldAddr Eg rfl (o' := 1) rfl) eO rfl (WD.q (ag rfl (zt 0 rfl) bH rfl) cZ rfl (WD.q (Q.fieldAddr wT rfl (o' := 2) rfl) eO rfl (WD.q (ag rfl (zt 0 rfl) uT rfl) (OwnE.bq hU) rfl (WD.call0 rfl (aj rfl oz) rfl (Bq (ro h3) ie (l9 (aV R2) (((r + k * r) : Nat) : Int) ((r : Nat) : Int)) y ((EIn.own hU).mono (fun b o h => h.ro)) AD DJ) (SubR.ro gc) (KIn.cons (zt 0 rfl) (KIn.cons (zt 10 rfl) KIn.nil)) rfl (fun v65 D65 hP65 => ?_))))))))))))))))))
  obtain ⟨O2, hO2, hO2A, hO2c, hD65⟩ := hP65
  refine WD.subH (hs' := _ :: _ :: _ :: _ :: _ :: _ :: _ :: _ :: _ :: _ :: _ :: _ :: (hs ++ G ++ K ++ H ++ h3 ++ D65)) (SubH.op (aw (N := []) (G := D65) (K := [_, _, _, _, _, _, _, _, _, _, _, _]) (X := hs ++ G ++ K ++ H ++ h3))) (WD.q (Q.build J5 (cy rfl (cy rfl (cy rfl dE))) rfl (cs := [_, _, _]) (by simp only [cJ, cp (EIn.cell hO2)]; rfl)) (by rcases hO2 with ⟨rfl, _⟩ | ⟨b, sz, ex, rfl, _⟩ <;> simp [AV.beq, dG, dF, d6, dO]) rfl (WD.bslice Df HB Km rfl (cy rfl dE) rfl (cs := [_, _, _]) rfl (au rfl (au rfl (au (EIn.cell hO2) rfl))) rfl (KIn.cons (zt 0 rfl) (KIn.cons (zt 10 rfl) KIn.nil)) (fun b7 => WD.subH (hs' := _ :: _ :: _ :: _ :: _ :: _ :: _ :: _ :: _ :: _ :: _ :: _ :: _ :: (hs ++ G ++ K ++ h3 ++ D65 ++ H)) (SubH.op (List.Perm.append_left [_, _, _, _, _, _, _, _, _, _, _, _, _] (List.perm_iff_count.2 (by intro z; simp only [List.append_eq, List.count_append, List.count_nil]; omega)))) (WD.appAny (A := ([_, _, _, _, _, _, _, _, _, _, _, _] ++ hs ++ G ++ K ++ h3 ++ D65)) DL hO rfl rfl (Src.slice (zt 0 rfl) rfl) rfl zy (by decide) (SubH.of_sublist (List.sublist_cons_self _ _)) rfl (KIn.cons (zt 0 rfl) (KIn.cons (zt 10 rfl) KIn.nil)) (fun v68 hp68 hO68 => WD.q (Q.fieldAddr mz rfl (o' := 1) rfl) eO rfl (WD.store Kd rfl rfl (j := 10) rfl (Dn (OwnE.cell hO68) rfl) (cs := [_, _]) (by rw [cp (OwnE.cell hO68)]; rfl) (hs' := _ :: _ :: _ :: _ :: _ :: _ :: _ :: _ :: _ :: _ :: _ :: _ :: _) rfl (fun h => by cases h) (WD.nil (XEnd.KB (XEnd.K (Ev.X.sub (zc 6 rfl (zc 8 rfl (zc 9 rfl (zc 10 rfl (zc 11 rfl (zc 44 rfl (zc 45 rfl aI))))))) (Ev.X.w (W.reg (zq (aa rfl (zi 1) rfl zp) (zm rfl (WO.nil (XEnd.KL (Ev.X.sub zv (Ev.X.subH (SubH.ix (K := [_, _, _, _, _, _, _, _, _, _, _, _]) (ix := [1, 2, 3, 4, 5, 6, 7, 8, 9, 10, 11]) (A := [_, _, _, _, _, _, _, _, _, _, _]) rfl (by decide) gc) (ih0 (k + 1) (MO ++ [((r + k * r), v65, O2)]) (v68) (c + q) (hp68) (K ++ D65) ?_ ?_)))))))))))))))))))
  ·exact ⟨by omega, yK hMo hO2 (GS hO2c), by rw [D0, List.length_append]; exact hO68, by rw [Nat.add_mul]; omega, wa hK hD65⟩
  exact zo
 refine Ev.X.exit (bF (bD (bJ (XEnd.K (Ev.X.seq (Ev.X.w (ez 6 [⟨X, _, false⟩, ⟨b2, _, false⟩] (by kernel_rfl) (KIn.cons (zt 0 rfl) (KIn.cons (zt 9 rfl) KIn.nil)) (WD.q (ax rfl (zt 1 rfl) AB sK (l := [_, _]) rfl) (yL hO) rfl (WD.q (Q.move rfl) eO rfl (WD.q (aY rfl) eO rfl (WD.q (Q.fieldAddr nU rfl (o' := 2) rfl) eO rfl (WD.q (ag rfl (zt 0 rfl) bH rfl) cZ rfl (WD.store sK rfl rfl (j := 9) rfl (au rfl (au rfl (au (OwnE.cell hO) rfl))) (cs := [_, _]) rfl (hs' := _ :: _ :: _ :: _ :: _ :: _ :: _ :: _ :: _ :: _ :: _ :: _) rfl (fun _ => (KIn.cons (zt 0 rfl) (KIn.cons (zt 9 rfl) KIn.nil))) (WD.store dn rfl rfl (j := 8) rfl rfl (cs := [_]) rfl (hs' := _ :: _ :: _ :: _ :: _ :: _ :: _ :: _ :: _ :: _ :: _ :: _) rfl (fun h => by cases h) (WD.store Ke rfl (zi 0) (j := 7) rfl rfl (cs := [_]) rfl (hs' := _ :: _ :: _ :: _ :: _ :: _ :: _ :: _ :: _ :: _ :: _ :: _) rfl (fun h => by cases h) (WD.nil (XEnd.K (Ev.X.ret ?_))))))))))))))))))
 refine yO (ResL.agg (c := [_, _]) rfl (zt 9 rfl) AB sK rfl (ResL.one rfl (zt 8 rfl) bH rfl (ResL.one rfl (zt 7 rfl) H3 rfl ResL.nil))) (hs' := K ++ H) (.inr ⟨rv, MO, c, H, K, rfl, rfl, hO, by rw [<- hR2c]; have e : k = n := zy; rw [e] at hMo; exact hMo, hK⟩) (wa hK hO.w) gc

def ut (L : List (List bA × List bP)) (r i : Nat) : Nat := ((List.range i).map fun k => (i6 L (((k + 1) * r : Nat) : Int) ((r : Nat) : Int)).sum).sum
theorem E8 (L : List (List bA × List bP)) (r i : Nat) : ut L r (i + 1) = ut L r i + (i6 L (((i + 1) * r : Nat) : Int) ((r : Nat) : Int)).sum := by
 unfold ut
 rw [List.range_succ, List.map_append, List.sum_append]
 simp
theorem yD {α : Type} (f : α -> Nat) (m : Nat) : ∀ l : List α, (l.map fun x => f x * m).sum = (l.map f).sum * m
 | [] => (Nat.zero_mul m).symm
 | x :: l => by
  simp only [List.map_cons, List.sum_cons, yD f m l, Nat.add_mul]
theorem EE {n r : Nat} (hr : 0 < r) (hn : n * r <= 1099511627776) (h5 : r <= 1099511627776) {R : List bV} (hb : kp R) (hk : ∀ j, j < R.length -> JH (rg R j)) : ut (fb [mA] 1 ((n * r : Nat) : Int) (aV R)) r n = kG (aV R) ((n * r : Nat) : Int) * 1000000 := by
 rw [<- vE hr hn h5 fun x hx => by
  obtain ⟨y, hy, rfl⟩ := List.mem_map.1 hx
  obtain ⟨i, hi, e⟩ := List.getElem_of_mem hy
  have h := hk i hi
  have e2 : rg R i = y := by
   unfold rg
   rw [List.getD_eq_getElem?_getD, List.getElem?_eq_getElem hi]
   exact e
  rw [e2] at h
  exact ⟨(hb.2 y hy).1, GL h.1, h.2.1⟩]
 unfold ut
 rw [<- yD]
 congr 1
 exact List.map_congr_left fun k _ => uB _ _ _
theorem Gh {L : List (List bA × List bP)} {e r : Int} (h : ∀ x ∈ L, x.2.length <= 1048576) (hl : L.length <= 256) : (i6 L e r).sum <= 268435456000000 := by
 rw [uB]
 have := vW (A := L.map fun x => (fQ x.2 e r).length) (k := 1048576) (fun x hx => by
  obtain ⟨y, hy, rfl⟩ := List.mem_map.1 hx
  exact Nat.le_trans (yv _ _ _) (h y hy))
 rw [List.length_map] at this
 have h2 : L.length * 1048576 <= 268435456 := by omega
 exact Nat.le_trans (Nat.mul_le_mul_right 1000000 (Nat.le_trans this h2)) (Nat.le_of_ble_eq_true rfl)
theorem E1 {M : List ed} {lo hi e r : Int} {R : List bV} (hb : kp R) (hl : R.length <= 256) : (i6 (fb M lo hi (aV R)) e r).sum <= 268435456000000 := by
 refine Gh (fun x hx => ?_) (Nat.le_trans (List.length_filterMap_le _ _) (by rw [show (aV R).length = R.length from List.length_map _]; exact hl))
 obtain ⟨y, hy, g⟩ := List.mem_filterMap.1 hx
 split at g
 ·cases g
  obtain ⟨z, hz, rfl⟩ := List.mem_map.1 hy
  exact Nat.le_trans (List.length_filter_le _ _) (hb.2 z hz).2
 ·cases g
theorem j3 : ∀ (N : List Nat) (k : Nat), (N.take k).sum <= N.sum
 | [], k => by simp
 | x :: N, 0 => Nat.zero_le _
 | x :: N, k + 1 => by
  have := j3 N k
  simp only [List.take_succ_cons, List.sum_cons]
  omega
theorem uA {N : List Nat} {k : Nat} (h : k < N.length) : (N.take (k + 1)).sum = (N.take k).sum + N.getD k 0 := uz h
theorem GR {O : List El} {N : List Nat} (h : (O.map fun x => x.2.2) = N.map fun x => ((x : Nat) : Int)) : O.length = N.length := by
 have := congrArg List.length h
 simpa using this
theorem F6 {O : List El} {N : List Nat} {b : Nat} (h : (O.map fun x => x.2.2) = N.map fun x => ((x : Nat) : Int)) (hb : b < O.length) : (cE O)[(0 + b) * 2 + 1]? = some (.int .i64 ((N.getD b 0 : Nat) : Int)) := by
 rw [<- Cx h hb]
 exact Fw zy
theorem F7 {MO : List Mo} {i b : Nat} (h : i < MO.length) (hb : (ym MO i).2.1 = .slice b 0 (ym MO i).2.2.length 2) : (cM MO)[(0 + i) * 3 + 2]? = some (.slice b 0 (ym MO i).2.2.length 2) := by
 rw [A0 h, hb]
theorem F8 {R : List bV} {i b : Nat} (h : 0 + i < R.length) (hb : (rg R (0 + i)).1 = .slice b 0 (rg R (0 + i)).2.1.length 2) : (cR R)[(0 + i) * 2 + 0]? = some (.slice b 0 (rg R (0 + i)).2.1.length 2) := by
 rw [qm h, hb]
theorem F9 {R : List bV} {i b : Nat} (h : 0 + i < R.length) (hb : (rg R (0 + i)).2.2.1 = .slice b 0 (rg R (0 + i)).2.2.2.length 2) : (cR R)[(0 + i) * 2 + 1]? = some (.slice b 0 (rg R (0 + i)).2.2.2.length 2) := by
 rw [oI h, hb]
def rD (A : List bA) (k : Nat) : Bool := (A.take k).any fun y => decide (y.1 = [97])
theorem wq {A : List bA} {k : Nat} (h : k < A.length) : rD A (k + 1) = (rD A k || decide ((lg A k).1 = [97])) := by
 unfold rD
 rw [cb A ([], []) h, List.any_append, List.any_cons, List.any_nil, Bool.or_false]
 rfl
theorem AJ {A : List bA} {k : Nat} (h : A.length <= k) : rD A k = A.any fun y => decide (y.1 = [97]) := by
 unfold rD
 rw [List.take_of_length_le h]
def uH (S : List bP) (z : Int) (k : Nat) : Nat := ((S.take k).filter fun s => decide (0 < s.1) && decide (s.1 <= z)).length
theorem Eo {S : List bP} {z : Int} {k : Nat} (h : k < S.length) (h1 : 0 < (sg S k).1) (h2 : (sg S k).1 <= z) : uH S z (k + 1) = uH S z k + 1 := by
 unfold uH
 rw [cb S (0, 0) h, List.filter_append, List.length_append]
 congr 1
 have : (decide (0 < (S.getD k (0, 0)).1) && decide ((S.getD k (0, 0)).1 <= z)) = true := by
  rw [decide_eq_true (show 0 < (S.getD k (0, 0)).1 from h1), decide_eq_true (show (S.getD k (0, 0)).1 <= z from h2)]
  rfl
 rw [List.filter_cons_of_pos (p := fun s : bP => decide (0 < s.1) && decide (s.1 <= z)) this]
 rfl
theorem GB {S : List bP} {z : Int} {k : Nat} (h : k < S.length) (h1 : ¬ (0 < (sg S k).1 /\ (sg S k).1 <= z)) : uH S z (k + 1) = uH S z k := by
 unfold uH
 rw [cb S (0, 0) h, List.filter_append, List.length_append]
 have : ¬ (decide (0 < (S.getD k (0, 0)).1) && decide ((S.getD k (0, 0)).1 <= z)) = true := fun g => h1 (by
  rw [Bool.and_eq_true, decide_eq_true_eq, decide_eq_true_eq] at g
  exact g)
 rw [List.filter_cons_of_neg (p := fun s : bP => decide (0 < s.1) && decide (s.1 <= z)) this]
 rfl
theorem GA (S : List bP) (z : Int) (k : Nat) : uH S z k <= S.length := Nat.le_trans (List.length_filter_le _ _) (by rw [List.length_take]; omega)
theorem Di {R : List bV} {z : Int} {i : Nat} (h : i < R.length) : kG (aV (R.take (i + 1))) z = kG (aV (R.take i)) z + if rD (rg R i).2.1 (rg R i).2.1.length = true then uH (rg R i).2.2.2 z (rg R i).2.2.2.length else 0 := by
 rw [cb R CO h, fF]
 unfold kG
 rw [List.map_append, List.sum_append]
 congr 1
 rw [AJ (Nat.le_refl _)]
 unfold uH
 rw [List.take_length]
 exact Nat.add_zero _
def HX (L : List (List bA × List bP)) (r n : Nat) (cells : List AV) (m : Nat) (e : Int) (G : af) : Prop := e = ((17 : Nat) : Int) \/ (e = 0 /\ ∃ MO : List Mo, cells = cM MO /\ m = MO.length /\ MosR G L r MO n)

theorem Dj (hs : af) (hro : ∀ e ∈ hs, e.w = false) (R : List bV) (v : AV) (hR : RSl hs R 0 v) (hRA : RAll hs R) (hRb : kp R) (M : List ed) (vm : AV) (hM : ISm hs M vm) (hok : nB M) (pb : Nat) (xpb : Bool) (a1 a2 : Nat) (xa1 xa2 : Bool) (bx : Nat) (r z n : Nat) (hr0 : 0 < r) (hrb : r <= 1000000) (hn1 : 1 <= n) (hn30 : n <= 30) (hzn : z = n * r) (hz : z <= 30000000) (hzr : r <= z) (exx : Bool) (hca : uF M = 0) (hk : rj (aV R)) (hR2 : R.length <= 256) : SpecX jC tab 33 [.slice pb 0 3 12, .func 34 [.ptr bx 0], .agg [.int .i64 ((r : Nat) : Int), .int .i64 ((z : Nat) : Int), .int .i64 ((r : Nat) : Int), .int .i64 ((1099511627776 : Nat) : Int)], .bool false] [] (⟨pb, ⟨12, xpb, [.int .i64 ((2 : Nat) : Int), .str [], .int .i64 0, vm, .int .i64 ((r : Nat) : Int), .int .i64 ((0 : Nat) : Int), .int .i64 0, .nils, .int .i64 0, .bool false, .nils, .nils, .int .i64 ((3 : Nat) : Int), .str [99, 111, 117, 110, 116, 95, 111, 118, 101, 114, 95, 116, 105, 109, 101], .int .i64 0, .nils, .int .i64 0, .int .i64 0, .int .i64 0, .nils, .int .i64 0, .bool false, .nils, .slice a1 0 1 1, .int .i64 ((4 : Nat) : Int), .str [115, 117, 109], .int .i64 0, .nils, .int .i64 0, .int .i64 0, .int .i64 0, .nils, .int .i64 0, .bool false, .nils, .slice a2 0 1 1]⟩, false⟩ :: ⟨a1, ⟨1, xa1, [.int .i64 ((0 : Nat) : Int)]⟩, false⟩ :: ⟨a2, ⟨1, xa2, [.int .i64 ((1 : Nat) : Int)]⟩, false⟩ :: ⟨bx, ⟨1, exx, [v]⟩, false⟩ :: hs) (fun u D => ∃ (k c e : Int) (rv : AV) (m : Nat) (cells : List AV) (H G : af), u = .tuple [.agg [.int .i64 k, rv], .int .i64 c, .int .i64 e] /\ D = G ++ H /\ OwnE 3 cells m rv H /\ HX (fb M 1 ((z : Nat) : Int) (aV R)) r n cells m e G /\ (∀ x ∈ G, x.w = true)) (fun _ => False) := by
 refine (Fo hs hro R v hR hRA hRb M vm hM hok pb xpb a1 a2 xa1 xa2 bx r z n hr0 hrb hn1 hn30 hzn hz hzr exx hca hk hR2).mono ?_ fun l h => h
 rintro u D (⟨h1, h2⟩ | ⟨rv, MO, c, H, G, h1, h2, h3, h4, h5⟩)
 ·exact ⟨0, 0, ((17 : Nat) : Int), .nils, 0, [], [], [], h1, h2, OwnE.nil 3, .inl rfl, dB⟩
 ·exact ⟨((2 : Nat) : Int), ((c : Nat) : Int), 0, rv, MO.length, cM MO, H, G, h1, h2, h3, .inr ⟨rfl, MO, rfl, rfl, h4⟩, h5⟩
theorem Jm (hs : af) (hro : ∀ e ∈ hs, e.w = false) (R : List bV) (v : AV) (hR : RSl hs R 0 v) (hRA : RAll hs R) (hRb : kp R) (M : List ed) (vm : AV) (hM : ISm hs M vm) (hok : nB M) (pb : Nat) (xpb : Bool) (a1 a2 : Nat) (xa1 xa2 : Bool) (bx : Nat) (r z n : Nat) (hr0 : 0 < r) (hrb : r <= 1000000) (hn1 : 1 <= n) (hn30 : n <= 30) (hzn : z = n * r) (hz : z <= 30000000) (hzr : r <= z) (exx : Bool) (hca : uF M = 0) (hk : rj (aV R)) (hR2 : R.length <= 256) : SpecX jC tab 16 [.slice pb 0 3 12, .func 34 [.ptr bx 0], .agg [.int .i64 ((r : Nat) : Int), .int .i64 ((z : Nat) : Int), .int .i64 ((r : Nat) : Int), .int .i64 ((1099511627776 : Nat) : Int)]] [] (⟨pb, ⟨12, xpb, [.int .i64 ((2 : Nat) : Int), .str [], .int .i64 0, vm, .int .i64 ((r : Nat) : Int), .int .i64 ((0 : Nat) : Int), .int .i64 0, .nils, .int .i64 0, .bool false, .nils, .nils, .int .i64 ((3 : Nat) : Int), .str [99, 111, 117, 110, 116, 95, 111, 118, 101, 114, 95, 116, 105, 109, 101], .int .i64 0, .nils, .int .i64 0, .int .i64 0, .int .i64 0, .nils, .int .i64 0, .bool false, .nils, .slice a1 0 1 1, .int .i64 ((4 : Nat) : Int), .str [115, 117, 109], .int .i64 0, .nils, .int .i64 0, .int .i64 0, .int .i64 0, .nils, .int .i64 0, .bool false, .nils, .slice a2 0 1 1]⟩, false⟩ :: ⟨a1, ⟨1, xa1, [.int .i64 ((0 : Nat) : Int)]⟩, false⟩ :: ⟨a2, ⟨1, xa2, [.int .i64 ((1 : Nat) : Int)]⟩, false⟩ :: ⟨bx, ⟨1, exx, [v]⟩, false⟩ :: hs) (fun u D => ∃ (k e : Int) (rv : AV) (m : Nat) (cells : List AV) (H G : af), u = .tuple [.agg [.int .i64 k, rv], .int .i64 e] /\ D = G ++ H /\ OwnE 3 cells m rv H /\ HX (fb M 1 ((z : Nat) : Int) (aV R)) r n cells m e G /\ (∀ x ∈ G, x.w = true)) (fun _ => False) := by
 refine SpecX.enter (bz 16 Tryz.func16) rfl (m := 21) rfl (rs := [.cell 6 37, .tmp 7]) rfl (st := [(0, .slice pb 0 3 12), (1, .func 34 [.ptr bx 0]), (2, .agg [.int .i64 ((r : Nat) : Int), .int .i64 ((z : Nat) : Int), .int .i64 ((r : Nat) : Int), .int .i64 ((1099511627776 : Nat) : Int)])]) rfl rfl (fun _ => rfl) rfl (fun E => Ev.X.seq (Ev.X.w (W.reg (WO.box rfl rfl (DS _ rfl) rfl (fun b1 => WO.alloc DK rfl (fun b2 => za (zi 0) (WO.nil (XEnd.K (Ev.X.seq (Ev.X.reg (XO.pre 3 (zm rfl (zm rfl (zq (ax rfl (zt 1 rfl) DG Hy (l := [_, _, _, _]) rfl) (WO.nil (eC (XO.call (M := []) (A := _) rfl (aj rfl (aj rfl (aj rfl (aj rfl oz)))) rfl dB (SubH.refl _) (Dj hs hro R v hR hRA hRb M vm hM hok pb xpb a1 a2 xa1 xa2 bx r z n hr0 hrb hn1 hn30 hzn hz hzr exx hca hk hR2) (SubR.ix (K := [_, _, _, _, _, _]) (ix := [2, 3, 4, 5]) (A := [_, _, _, _]) rfl (by decide) (aN hro)) rfl (fun l hB => False.elim hB) (fun v15 D15 hP15 => ?_))))))))))))))))))
 obtain ⟨k, c, e, rv, m, cells, H, G, rfl, rfl, hO, hRn, hG⟩ := hP15
 refine XO.subH (hs' := _ :: _ :: _ :: _ :: _ :: _ :: (hs ++ (G ++ H))) (SubH.op (aw (N := []) (G := (G ++ H)) (K := [_, _, _, _, _, _]) (X := hs))) (XO.pre 8 (zm rfl (zq (Q.extract rfl rfl) (zq (Q.extract rfl rfl) (zq (Q.extract rfl rfl) (WO.alloc DK rfl (fun b3 => WO.store sK rfl rfl (i := 0) rfl (au rfl (au rfl (au (OwnE.cell hO) rfl))) (cs := [_, _]) rfl (hs' := _ :: _ :: _ :: _ :: _ :: _ :: _ :: _) rfl (za rfl (za rfl (WO.nil (eC (XO.nil (XEnd.K (Ev.X.sub (zc 10 rfl (zc 8 rfl (zc 6 rfl aI))) (Ev.X.seq (Ev.X.w (W.reg (zq (ax rfl (zt 0 rfl) AB sK (l := [_, _]) rfl) (zm rfl (WO.store sK rfl rfl (i := 1) rfl (au rfl (au rfl (au (OwnE.cell hO) rfl))) (cs := [_, _]) rfl (hs' := _ :: _ :: _ :: _ :: _ :: _ :: _ :: _) rfl (za rfl (WO.nil (XEnd.K (Ev.X.ret ?_))))))))))))))))))))))))
 refine XEnd.ret (ResL.agg (c := [_, _]) rfl (zt 1 rfl) AB sK rfl (z1 rfl)) (hs' := G ++ H) ⟨k, e, rv, m, cells, H, G, rfl, rfl, hO, hRn, hG⟩ (wa hG hO.w) gc

end Go.Proofs.YtfkbfnpjggkdmaaGreatDoor.Ev
