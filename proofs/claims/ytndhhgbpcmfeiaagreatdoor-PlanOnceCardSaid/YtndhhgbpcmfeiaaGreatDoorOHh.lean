/- Chapter 20, walks: the program lays a tree. -/
import Derived.Test.YtndhhgbpcmfeiaaGreatDoorOHe
namespace Go.Proofs.YtndhhgbpcmfeiaaGreatDoor.Ev
open Go.RowKit
set_option maxRecDepth 100000
set_option maxHeartbeats 1000000
def HC (hs : ak) (t : TD) (Z : List IE) (bo : Nat) (v : AV) (D : ak) : Prop := ∃ (W2 : List IE) (w2 : AV) (hp2 hl2 : ak), v = .int .i64 (((Z ++ W2).length - 1 : Nat) : Int) /\ OwnE 12 (cI (Z ++ W2)) (Z ++ W2).length w2 hp2 /\ (∀ x ∈ W2, IOK ([] ++ hl2) x /\ x.vk = .nils /\ IBd x) /\ D2 (Z ++ W2) = fI t (D2 Z) /\ (∀ y ∈ hl2, y.w = true) /\ D = ⟨bo, ⟨1, true, [w2]⟩, true⟩ :: (hp2 ++ hl2)
theorem ET {hs : ak} {n : Nat} {cells : List AV} {v : AV} (h : RIn hs 11 n cells v) : KLn v n := h.imp (fun ⟨a, b, _⟩ => ⟨a, b⟩) fun ⟨b, z, ex, e, _⟩ => ⟨b, 0, 11, e⟩
theorem Ft {u v : AV} (h : v.isCell = true) : db [u] 0 v.cells = [v] := by rw [fz h]; rfl
theorem F9 {hl ha Dm Dn D : ak} {W2 : List IE} {ks : List TD} {L : List (ND × List Int)} {d : ND} {vm vn ar : AV} (h : ∀ x ∈ W2, IOK ([] ++ hl) x /\ x.vk = .nils /\ IBd x) (hm : OwnE 3 (cM d.ms) d.ms.length vm Dm) (hn : OwnE 1 (cS d.nm) d.nm.length vn Dn) (hD : D = Dm ++ Dn) (hA : OwnE 1 (cA (cv ks L []).2) ks.length ar ha) (hd : d.bd) (hks : ks.length <= 1048576) (hb : L.length + lf ks <= 2097152) :
  ∀ x ∈ W2 ++ [⟨d, (cv ks L []).2, 0, vm, vn, .nils, ar⟩], IOK ([] ++ ((hl ++ ha) ++ D)) x /\ x.vk = .nils /\ IBd x := fun x hx => by
 have h2 := Es (hs := Dm ++ Dn) (W2 := []) (hl := hl) (d := d) (vm := vm) (vn := vn) (ar := ar) (ha := ha) (fun x hx => by simp at hx) (RIn.own hm).appl (RIn.own hn).app hA hd hks hb
 rcases List.mem_append.1 hx with hx | hx
 ·exact ⟨(h x hx).1.mono fun b o ⟨w, q⟩ => ⟨w, by simp only [List.mem_append] at q ⊢; exact q.elim .inl fun r => .inr (.inl (.inl r))⟩, (h x hx).2⟩
 ·obtain ⟨g1, g2⟩ := h2 x (by simpa using hx)
  rw [hD]
  exact ⟨g1.mono fun b o ⟨w, q⟩ => ⟨w, by simp only [List.mem_append] at q ⊢; exact q.elim (fun r => .inr (.inr r)) fun r => .inr (.inl r)⟩, g2⟩
theorem GT : aN.isAgg 57 = some false := by kernel_rfl
theorem Hu : aN.size 30 = some 1 := by kernel_rfl
theorem EA (hs : ak) (hro : ∀ e ∈ hs, e.w = false) (bl bo : Nat) (ml : MemH hs bl ⟨1, true, [.func 36 [.ptr bl 0, .ptr bo 0]]⟩) (d : ND) (ks : List TD) (vm vn vk : AV) (cs : List (List AV))
 (hm : RIn hs 3 d.ms.length (cM d.ms) vm) (hn : RIn hs 1 d.nm.length (cS d.nm) vn) (hk : RIn hs 11 ks.length (cs.flatMap id) vk) (hd : d.bd) (hks : ks.length <= 1048576) (hR : TReps hs ks cs)
 (Z : List IE) (w : AV) (hp : ak) (hO : OwnE 12 (cI Z) Z.length w hp) (hsz : Z.length + mP (.node d ks) <= 2097152)
 (ih : ∀ k ∈ ks, ∀ (c : List AV) (Z : List IE) (w : AV) (hp : ak), TRep hs k c -> OwnE 12 (cI Z) Z.length w hp -> Z.length + mP k <= 2097152 -> Spec aN 36 [.agg c, .ptr bl 0, .ptr bo 0] (bo :: hp.map (·.b)) (⟨bo, ⟨1, true, [w]⟩, true⟩ :: (hp ++ hs)) (HC hs k Z bo)) : Spec aN 36 [.agg (d.c vm vn vk), .ptr bl 0, .ptr bo 0] (bo :: hp.map (·.b)) (⟨bo, ⟨1, true, [w]⟩, true⟩ :: (hp ++ hs)) (HC hs (.node d ks) Z bo) := by
 obtain ⟨wl_, ml⟩ := ml
 refine av (cX 36 Tryz.func36) rfl (m := 32) rfl (rs := [.tmp 4]) rfl (st := [(0, .agg (d.c vm vn vk)), (1, .ptr bl 0), (2, .ptr bo 0)]) rfl rfl (fun _ => rfl) (fun E => zr (WO.box rfl (gC hm.cell hn.cell hk.cell) (l0 _ rfl) rfl (fun b1 => za (zi 0) (zk (zr (za rfl (zk (W.seq (zr (zf eW rfl 10 (zq (ap rfl (zt 0 rfl) qA rfl) (zq (Q.len ke rfl hk.len) (zq (Q.move (zi 0)) (zk (W.block (gu (fun (i : Nat) (W2 : List IE) (u : AV) (hq : ak) (hl : ak) (ar : AV) (ha : ak) => [(1, .ptr bl 0), (2, .ptr bo 0), (3, .ptr b1 0), (5, ar), (9, vk), (10, .int .i64 ((ks.length : Nat) : Int)), (11, .int .i64 ((i : Nat) : Int))]) (fun (i : Nat) (W2 : List IE) (u : AV) (hq : ak) (hl : ak) (ar : AV) (ha : ak) => (⟨b1, ⟨11, true, d.c vm vn (vk)⟩, true⟩ :: ⟨bo, ⟨1, true, [u]⟩, true⟩ :: (hs ++ hl ++ ha ++ hq))) (fun (i : Nat) (W2 : List IE) (u : AV) (hq : ak) (hl : ak) (ar : AV) (ha : ak) => i <= ks.length /\ OwnE 12 (cI (Z ++ W2)) (Z ++ W2).length u hq /\ (∀ x ∈ W2, IOK ([] ++ hl) x /\ x.vk = .nils /\ IBd x) /\ D2 (Z ++ W2) = (cv (ks.take i) (D2 Z) []).1 /\ (∀ y ∈ hl, y.w = true) /\ OwnE 1 (cA (cv (ks.take i) (D2 Z) []).2) i ar ha) (fun (i : Nat) (W2 : List IE) (u : AV) (hq : ak) (hl : ak) (ar : AV) (ha : ak) => ks.length - i) (0) ([]) (w) (hp) ([]) (.nils) ([]) ⟨Nat.zero_le _, by rw [List.append_nil]; exact hO, fun x hx => by simp at hx, by rw [List.append_nil, List.take_zero, cv], dr, by rw [List.take_zero, cv]; exact OwnE.nil 1⟩ zv (show SubH _ (⟨b1, ⟨11, true, d.c vm vn vk⟩, true⟩ :: ⟨bo, ⟨1, true, [w]⟩, true⟩ :: (hp ++ hs)) from gc) (fun i W2 u hq hl ar ha hI0 ih0 => ?_)))))))))))))))))
 obtain ⟨h1, hO1, hX1, hD1, hw1, hA1⟩ := hI0
 have hlen1 : (Z ++ W2).length = Z.length + lf (ks.take i) := (by rw [<- bP, hD1, mA, bP])
 have hszn : mP (.node d ks) = lf ks + 1 := (by rw [mP])
 have hzt := qq (ks := ks) (i := i)
 refine zr (zq (aa rfl rfl rfl (ec dM)) (zk (W.seq (aw rfl (fun hc12 => ?_) (fun hc12 => ?_)))))
 ·have hzk := Dg (ks := ks) (i := i) zy
  obtain ⟨bk, szk, exk, rfl, wk, mk⟩ := hk.full zy
  obtain ⟨c1, hc1, hT1⟩ := hR.at (yv (i := i) zy)
  obtain ⟨d1, um, un, uk, rfl, qm, qn, qk, qo⟩ := lP hT1
  refine zw (W.seq (W.block (zr (zq (ci ke aL rfl rfl zo) (zq (aU rfl (List.mem_cons_of_mem _ (List.mem_cons_of_mem _ (List.mem_append_left _ (List.mem_append_left _ (List.mem_append_left _ mk))))) bh aL (by rw [Nat.zero_add]; exact nR hR.lens hc1)) (WO.alloc ia rfl (fun b2 => zS aL rfl rfl (i := 0) rfl (aQ rfl (wh qm.cell qn.cell qk.cell)) rfl (hs' := _ :: _ :: _ :: _) rfl (zk (am (zm rfl (zq (ap rfl (List.mem_cons_of_mem _ (List.mem_cons_of_mem _ (List.mem_cons_of_mem _ (List.mem_append_left _ (List.mem_append_left _ (List.mem_append_left _ ml)))))) GT rfl) (zq (zL rfl (zt 0 rfl) bh aL rfl) (tD (M := ⟨bo, ⟨1, true, [u]⟩, true⟩ :: hq) (A := (⟨b1, ⟨11, true, d.c vm vn (.slice bk 0 ks.length 11)⟩, true⟩ :: (hs ++ hl ++ ha))) rfl (aD rfl oz) rfl (ww (OwnE.w hO1)) gc (ih _ (F4 zy) _ (Z ++ W2) u hq hT1 hO1 zy) (SubR.t (SubR.appl (SubR.appl (cw hro)))) rfl (fun v18 D18 hP18 => ?_))))))))))))))
  obtain ⟨W3, u3, hp3, hl3, rfl, hO3, hX3, hD3, hw3, rfl⟩ := hP18; have hl3' : (Z ++ W2 ++ W3).length = (Z ++ W2).length + mP (kd ks i) := (by rw [<- bP, hD3, fT, bP]); have hz3 := mL (t := kd ks i); refine WO.subH (hs' := ⟨b1, ⟨11, true, d.c vm vn (.slice bk 0 ks.length 11)⟩, true⟩ :: ⟨bo, ⟨1, true, [u3]⟩, true⟩ :: (hs ++ hl ++ hl3 ++ hp3 ++ ha)) gc ?_
  refine WO.bslice bc di yY rfl (bz rfl aq) rfl (cs := [_]) rfl rfl rfl (fun b3 => WO.appAny (A := ([_, _] ++ hs ++ hl ++ hl3 ++ hp3)) fp hA1 rfl rfl (Src.slice (zt 0 rfl) rfl) rfl zy (by decide) (SubH.of_sublist (List.sublist_cons_self _ _)) rfl (fun v20 hp20 hO20 => za rfl (WO.nil (End.KB (End.K (am (zq (aa rfl (zi 1) rfl zp) (zm rfl (WO.nil (End.KL (W.sub zv (bX gc (ih0 (i + 1) (W2 ++ W3) (u3) (hp3) (hl ++ hl3) (v20) (hp20) ?_ ?_)))))))))))))
  ·exact ⟨by omega, by rw [<- List.append_assoc]; exact hO3, Ce hX1 hX3, by rw [<- List.append_assoc, hD3, hD1, Cf zy], wa hw1 hw3, by rw [zU zy, <- hD1, <- hD3, bP]; exact Et hO20⟩
  exact zo
 obtain rfl : i = ks.length := zy
 rw [List.take_length] at hD1 hA1 hlen1
 refine W.exit (aC (aK (aB (End.K (W.seq (eC 6 (⟨b1, _, false⟩ :: ⟨bo, _, false⟩ :: hs) (by kernel_rfl) (KIn.cons (zt 0 rfl) (KIn.cons (zt 1 rfl) (fun e he => ⟨e.w, by obtain ⟨b, o, w⟩ := e; simp [he]⟩))) (WD.q (ap rfl (zt 1 rfl) tF rfl) (OwnE.bq hO1) rfl (WD.q (zL rfl (zt 0 rfl) bh aL rfl) (Cy hm.cq hn.cq hk.cq) rfl (WD.call0 rfl (aD rfl oz) rfl (kN hs hro d _ _ _ hm hn _ (ET hk) hd) (SubR.t (SubR.t (SubR.appl (SubR.appl (SubR.appl (cw hro)))))) (KIn.cons (zt 0 rfl) (KIn.cons (zt 1 rfl) (fun e he => ⟨e.w, by obtain ⟨b, o, w⟩ := e; simp [he]⟩))) rfl (fun v24 D24 hP24 => ?_))))))))))
 obtain ⟨vm2, vn2, Dm, Dn, rfl, hOm, hOn, hDD⟩ := hP24
 have hwD : ∀ e ∈ D24, e.w = true := (by rw [hDD]; exact wa (OwnE.w hOm) (OwnE.w hOn))
 refine WD.subH (hs' := _ :: _ :: (hs ++ hl ++ ha ++ D24 ++ hq)) (SubH.op (iz (N := []) (G := D24) (K := [_, _]) (X := hs ++ hl ++ ha ++ hq) (by simp only [List.append_assoc, List.nil_append]; exact List.perm_iff_count.2 (by intro z; simp only [List.append_eq, List.count_append, List.count_nil]; omega)))) (WD.q (Q.move rfl) (OwnE.bq hA1) rfl (WD.q (Q.build CR (bz rfl (bz rfl aq)) rfl (cs := [_, _, _, _, _, _, _, _, _, _, _, _]) (sM (OwnE.cell hA1))) (w9 (OwnE.bq0 hOm) (OwnE.bq0 hOn) (OwnE.bq0 hA1)) rfl (WD.bslice dO eK Dv rfl (bz rfl aq) rfl (cs := [_, _, _, _, _, _, _, _, _, _, _, _]) rfl (tG (OwnE.cell hOm) (OwnE.cell hOn) (OwnE.cell hA1)) rfl (KIn.cons (zt 0 rfl) (KIn.cons (zt 1 rfl) (fun e he => ⟨e.w, by obtain ⟨b, o, w⟩ := e; simp [he]⟩))) (fun b4 => WD.appAny (A := ([_, _] ++ hs ++ hl ++ ha ++ D24)) lV hO1 rfl rfl (Src.slice (zt 0 rfl) rfl) rfl zy (by decide) (SubH.of_sublist (List.sublist_cons_self _ _)) rfl (KIn.cons (zt 0 rfl) (KIn.cons (zt 1 rfl) (fun e he => ⟨e.w, by obtain ⟨b, o, w⟩ := e; simp [he]⟩))) (fun v28 hp28 hO28 => WD.store Hu rfl rfl (j := 1) rfl (Fl (OwnE.cell hO28) rfl) (cs := [_]) (Ft (OwnE.cell hO28)) (hs' := _ :: _ :: _) rfl (fun h => by cases h) (WD.nil (End.K (W.sub (zc 2 rfl aI) (zr (zq (ap rfl (zt 1 rfl) tF rfl) (zq (Q.len dO rfl hO28.len) (zq (aa rfl (zi 1) rfl (cT (vf zo))) (za rfl (zk (W.ret ?_)))))))))))))))
 refine End.ret (z1 rfl) (hs' := ⟨bo, ⟨1, true, [v28]⟩, true⟩ :: (hp28 ++ ((hl ++ ha) ++ D24))) ⟨W2 ++ [⟨d, (cv ks (D2 Z) []).2, 0, vm2, vn2, .nils, ar⟩], v28, hp28, (hl ++ ha) ++ D24, by (show AV.int .i64 _ = AV.int .i64 _; congr 1; simp only [List.length_append, List.length_cons, List.length_nil]; omega), by rw [<- List.append_assoc, l7, List.length_append]; exact hO28, F9 hX1 hOm hOn hDD hA1 hd hks (by rw [bP]; omega), by rw [<- List.append_assoc, mc, hD1, fI], wa (wa hw1 (OwnE.w hA1)) hwD, rfl⟩ (ww (wa (OwnE.w hO28) (wa (wa hw1 (OwnE.w hA1)) hwD))) gc
mutual
theorem yG (hs : ak) (hro : ∀ e ∈ hs, e.w = false) (bl bo : Nat) (ml : MemH hs bl ⟨1, true, [.func 36 [.ptr bl 0, .ptr bo 0]]⟩) : ∀ (k : TD) (c : List AV) (Z : List IE) (w : AV) (hp : ak), TRep hs k c -> OwnE 12 (cI Z) Z.length w hp -> Z.length + mP k <= 2097152 -> Spec aN 36 [.agg c, .ptr bl 0, .ptr bo 0] (bo :: hp.map (·.b)) (⟨bo, ⟨1, true, [w]⟩, true⟩ :: (hp ++ hs)) (HC hs k Z bo)
 | .node d ks, c, Z, w, hp, h, hO, hz => by
  rw [TRep] at h
  obtain ⟨vm, vn, vk, cs, rfl, h1, h2, h3, h4, h5, h6⟩ := h
  exact EA hs hro bl bo ml d ks vm vn vk cs h1 h2 h3 h4 h5 h6 Z w hp hO hz (ul hs hro bl bo ml ks)
theorem ul (hs : ak) (hro : ∀ e ∈ hs, e.w = false) (bl bo : Nat) (ml : MemH hs bl ⟨1, true, [.func 36 [.ptr bl 0, .ptr bo 0]]⟩) : ∀ (ks : List TD), ∀ k ∈ ks, ∀ (c : List AV) (Z : List IE) (w : AV) (hp : ak), TRep hs k c -> OwnE 12 (cI Z) Z.length w hp -> Z.length + mP k <= 2097152 -> Spec aN 36 [.agg c, .ptr bl 0, .ptr bo 0] (bo :: hp.map (·.b)) (⟨bo, ⟨1, true, [w]⟩, true⟩ :: (hp ++ hs)) (HC hs k Z bo)
 | [], k, h, _, _, _, _, _, _, _ => by cases h
 | x :: ks, k, h, c, Z, w, hp, h1, h2, h3 => by
  rcases List.mem_cons.1 h with e | h
  ·exact e ▸ yG hs hro bl bo ml x c Z w hp (e ▸ h1) h2 (e ▸ h3)
  ·exact ul hs hro bl bo ml ks k h c Z w hp h1 h2 h3
end
theorem GU : AO aN 30 = some ⟨1, true, [.nils]⟩ := by kernel_rfl
theorem HY : AO aN 57 = some ⟨1, true, [.nilf]⟩ := by kernel_rfl
theorem H5 : aN.size 57 = some 1 := by kernel_rfl
theorem zY (hs : ak) (hro : ∀ e ∈ hs, e.w = false) (k : TD) (d : ND) (vm vn vk : AV) (qm : CQ vm) (qn : CQ vn) (qk : CQ vk) (qo : Bytes d.op) (hT0 : TRep hs k (d.c vm vn vk)) (hsz : mP k <= 1048576) (tt er : Nat) (hTy : Spec aN 35 [.agg (d.c vm vn vk)] [] hs (fJ (.tuple [.int .i64 ((tt : Nat) : Int), .int .i64 ((er : Nat) : Int)]))) : Spec aN 11 [.agg (d.c vm vn vk)] [] hs (Fe hs k (GQ tt er)) := by
 refine av (cX 11 Tryz.func11) rfl (m := 27) rfl (rs := [.tmp 2, .tmp 3]) rfl (st := [(0, .agg (d.c vm vn vk))]) rfl rfl (fun _ => rfl) (fun E => zr (WO.box rfl (wh qm.cell qn.cell qk.cell) (l0 _ rfl) rfl (fun b1 => za rfl (za (zi 0) (zk (zr (zq (zL rfl (zt 0 rfl) bh aL rfl) (aJ rfl (aD rfl oz) rfl hTy (SubR.t (cw hro)) rfl (zm rfl (zq (Q.extract rfl rfl) (zq (Q.extract rfl rfl) (za rfl (za rfl (zk (W.seq (zr (zm rfl (zq (aa rfl (zi 0) rfl (ag aA)) (zm rfl (ay (d := 15) rfl (fun hc15 => ?_) (fun hc15 => ?_)))))))))))))))))))))
 ·refine zT (zm rfl (zT (zq (aa rfl (zi 3) rfl (ag aA)) (zq (aj rfl rfl) (zk (W.sub (zc 18 rfl (zc 5 rfl (zc 1 rfl aI))) (aw rfl (fun hc18 => ?_) (fun hc18 => ?_))))))))
  ·refine am (za (zi 16) (zk (W.seq (zr (zm rfl (zq (aa rfl (zi 0) rfl (aR (p := true) rfl)) (zk (au rfl (zr (zm rfl (za rfl (za rfl (zk (W.ret ?_))))))))))))))
   refine ac (End.ret (ResL.tmp rfl (z1 rfl)) (hs' := []) ⟨16, (by unfold GQ; rw [if_pos ⟨by omega, by omega⟩]), [], .nils, [], [], rfl, OwnE.nil 12, (fun x hx => by simp at hx), fun h => absurd h zy, (fun _ => rfl), dr, rfl⟩ dr (SubH.nil _))
  refine zw (W.seq (zr (zm rfl (zq (aa rfl (zi 0) rfl (aR cf)) (zk (aw rfl (fun hc20 => ?_) (fun hc20 => ?_)))))))
  ·(exfalso; omega)
  refine zw (zr (WO.alloc GU rfl (fun b2 => zk (zr (WO.alloc HY rfl (fun b3 => zk (zr (zq (rQ (aD rfl (aD rfl oz))) (WO.store H5 rfl rfl (i := 0) rfl rfl (cs := [_]) rfl (hs' := _ :: _ :: _ :: _) rfl (zk (zr (zq (ap rfl (zt 0 rfl) GT rfl) (zq (zL rfl (zt 2 rfl) bh aL rfl) (tD (M := [⟨b2, ⟨1, true, [.nils]⟩, true⟩]) (A := (⟨b3, ⟨1, true, [.func 36 [.ptr b3 0, .ptr b2 0]]⟩, true⟩ :: hs)) rfl (aD rfl oz) rfl (fun e he => by rw [List.mem_singleton.1 he]) gc (yG (ro [⟨b3, ⟨1, true, [.func 36 [.ptr b3 0, .ptr b2 0]]⟩, true⟩] ++ hs) (qb hro) b3 b2 ⟨false, List.mem_cons_self⟩ k _ [] .nils [] (TRep.mono (fun b o q => q.app) hT0) (OwnE.nil 12) (Nat.le_trans (Nat.le_of_eq (Nat.zero_add _)) (Nat.le_trans hsz (by decide)))) (kh gc hro) rfl (fun v25 D25 hP25 => ?_)))))))))))))))
  obtain ⟨W2, w2, hp2, hl2, rfl, hO2, hX2, hD2, hw2, rfl⟩ := hP25; refine WO.subH (hs' := ⟨b2, ⟨1, true, [w2]⟩, true⟩ :: (hs ++ hl2 ++ hp2)) gc ?_
  refine zk (zr (zq (ap rfl (zt 0 rfl) tF rfl) (za rfl (za (zi 0) (zk (W.ret ?_))))))
  refine End.ret (ResL.tmp rfl (z1 rfl)) (hs' := hp2 ++ hl2) ⟨0, (by unfold GQ; rw [if_neg (fun h => by omega)]; omega), W2, w2, hp2, hl2, rfl, hO2, (fun x hx => ⟨(hX2 x hx).1.mono fun b o ⟨w, q⟩ => ⟨w, List.mem_append_right _ q⟩, (hX2 x hx).2⟩), fun _ => hD2, (fun h => absurd rfl h), hw2, rfl⟩ (wa (OwnE.w hO2) hw2) gc
 refine z2 (zq (ax rfl rfl) (zk (W.sub (zc 18 rfl (zc 5 rfl (zc 1 rfl aI))) (az rfl (zw (W.seq (zr (zm rfl (zq (aa rfl (zi 0) rfl (aR cf)) (zk (aw rfl (fun hc20 => ?_) (fun hc20 => ?_))))))))))))
 ·refine zr (zm rfl (za rfl (za rfl (zk (W.ret ?_)))))
  refine ac (End.ret (ResL.tmp rfl (z1 rfl)) (hs' := []) ⟨er, (by unfold GQ; rw [if_neg (fun h => by omega)]), [], .nils, [], [], rfl, OwnE.nil 12, (fun x hx => by simp at hx), fun h => absurd h zy, (fun _ => rfl), dr, rfl⟩ dr (SubH.nil _))
 (exfalso; omega)
theorem F8 (hs : ak) (hro : ∀ e ∈ hs, e.w = false) (k : TD) (c : List AV) (hT0 : TRep hs k c) (hsz : mP k <= 1048576) (tt er : Nat) (hTy : Spec aN 35 [.agg c] [] hs (fJ (P16.tpair tt er))) : Spec aN 11 [.agg c] [] hs (Fe hs k (GQ tt er)) := by
 obtain ⟨d, vm, vn, vk, rfl, qm, qn, qk, qo⟩ := lP hT0
 exact zY hs hro k d vm vn vk qm qn qk qo hT0 hsz tt er hTy
section
variable {Z : List IE} {w : AV} {hp hl D D0 T0 : ak}
theorem Ga (hX : ∀ x ∈ Z, IOK (ro D0 ++ hl) x /\ x.vk = .nils /\ IBd x) (h : Z.length <= 1048576) : ILB Z := ⟨h, fun x hx => (hX x hx).2.2⟩
end
end Go.Proofs.YtndhhgbpcmfeiaaGreatDoor.Ev
