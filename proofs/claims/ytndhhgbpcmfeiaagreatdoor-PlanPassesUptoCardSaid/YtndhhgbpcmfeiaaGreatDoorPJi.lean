/- Chapter 20, walks: Share. -/
import Derived.Test.YtndhhgbpcmfeiaaGreatDoorPAwO
import Derived.Test.YtndhhgbpcmfeiaaGreatDoorPHh
import Derived.Test.YtndhhgbpcmfeiaaGreatDoorPAwP
import Derived.Test.YtndhhgbpcmfeiaaGreatDoorPInC
import Derived.Test.YtndhhgbpcmfeiaaGreatDoorPMap
namespace Go.Proofs.YtndhhgbpcmfeiaaGreatDoor.Ev
open Go.RowKit
set_option maxRecDepth 100000
set_option maxHeartbeats 1000000
def ou (L : List IE) (e : Nat) (Q : List PI) : Prop := (dE L ≠ 0 /\ e = dE L /\ Q = []) \/ (dE L = 0 /\ e = 0 /\ Q = ss (D2 L))
theorem ph {U A : List Int} : (ez U A).length = A.length := by unfold ez; rw [List.length_map]
theorem Cb {X : List IE} {O : List PI} (h : D2 X = O) (k : Nat) : (pd O k).1 = (ei X k).d := by rw [<- h, lz]
theorem yA {P O : List PI} {i : Nat} {T A : List Int} (h : ShI P i O T) (hi : i <= 1048576) (hA : ∀ a ∈ A, 0 <= a /\ a < ((i : Nat) : Int)) : ∀ n ∈ ez T A, yN n := fun n hn => by
 obtain ⟨a, ha, rfl⟩ := List.mem_map.1 hn
 have h1 := hA a ha
 have h2 := h.lt a.toNat zy
 have := h.le
 unfold yN
 omega
theorem n9 {T : List Int} {x : Int} {v : AV} {hp : ad} (h : OwnE 1 (cA T ++ [.int .i64 x]) (T.length + 1) v hp) : OwnE 1 (cA (T ++ [x])) (T ++ [x]).length v hp := by
 rw [cA, List.map_append, List.length_append]; exact h
theorem A4 {X : List IE} {d : ND} {A : List Int} {vm vn va : AV} (hX : ∀ x ∈ X, IBd x) (hd : d.bd) (hl : A.length <= 1048576) (hi : ∀ n ∈ A, yN n) : ∀ x ∈ X ++ [⟨d, A, 0, vm, vn, .nils, va⟩], IBd x := by
 intro x hx
 rcases List.mem_append.1 hx with hx | hx
 ·exact hX x hx
 ·rw [List.mem_singleton.1 hx]
  exact ⟨hd, hl, hi⟩
theorem yB {sz n : Nat} {cells : List AV} {v : AV} {hp hs : ad} (h : OwnE sz cells n v hp) (hm : ∀ e ∈ hp, e ∈ hs) : RIn (ro hs) sz n cells v := ((RIn.own h).mono fun b o ⟨w, q⟩ => ⟨w, hm _ q⟩).ro
theorem wV : cj (aW.und 82) = some (9, 40) := by kernel_rfl
theorem C7 : aW.und 9 = some .string := by kernel_rfl
theorem Cn : aW.zero 40 = some (.nils) := by kernel_rfl
theorem Ax {hs : ad} (hro : ∀ e ∈ hs, e.w = false) (X : List IE) (u : AV) (hX : IIn hs X u) (hXb : ILB X) (hXk : ∀ x ∈ X, x.nk = 0) (bo bx : Nat) (mo : MemH hs bo ⟨1, true, [u]⟩) (d : ND) (vm vn va : AV) (mx : MemH hs bx ⟨12, true, d.c vm vn .nils ++ [va]⟩)
  (hm : RIn hs 3 d.ms.length (cM d.ms) vm) (hn : RIn hs 1 d.nm.length (cS d.nm) vn) (hd : d.bd) (hva : va.isCell = true) (A : List Int) (vg : AV) (hA : RIn hs 1 A.length (cA A) vg) (hAl : A.length <= 1048576) (hlt : ∀ q, q < A.length -> 0 <= ai A q /\ ai A q < ((X.length : Nat) : Int)) :
  Spec aW 45 [vg, .func 46 [.ptr bo 0, .ptr bx 0]] [] hs (pP fun u => ∃ r : Int, u = .int .i64 r /\ ((r = -1 /\ ∀ q, q < A.length -> (ei X (ai A q).toNat).d ≠ d) \/ ∃ j : Nat, r = ((j : Nat) : Int) /\ j < A.length /\ (ei X (ai A j).toNat).d = d /\ ∀ q, q < j -> (ei X (ai A q).toNat).d ≠ d)) := by
 refine (wF hs hro A vg hA hAl 46 [.ptr bo 0, .ptr bx 0] (fun q => decide ((ei X (ai A q).toNat).d = d)) fun j hj => ?_).mono ?_
 ·have h1 := hlt j hj
  have h2 := yz hs hro X u hX hXb hXk bo bx mo d vm vn va mx hm hn hd hva (ai A j).toNat zy
  rw [Int.toNat_of_nonneg h1.1] at h2
  exact h2
 ·rintro v D ⟨⟨r, h1, h2⟩, h3⟩
  refine ⟨⟨r, h1, ?_⟩, h3⟩
  rcases h2 with ⟨h4, h5⟩ | ⟨j, h4, h5, h6, h7⟩
  ·exact .inl ⟨h4, fun q hq => of_decide_eq_false (h5 q hq)⟩
  ·exact .inr ⟨j, h4, h5, of_decide_eq_true h6, fun q hq => of_decide_eq_false (h7 q hq)⟩
theorem sw (hs : ad) (hro : ∀ e ∈ hs, e.w = false) (L : List IE) (v : AV) (hV : IIn hs L v) (hB : ILB L) (hKy : ∀ x ∈ L, oo x.d) : Spec aW 18 [v] [] hs (fun r D => ∃ (e : Nat) (Y : List IE) (w : AV), ou L e (D2 Y) /\ IOwn Y w D /\ r = .tuple [w, .int .i64 ((e : Nat) : Int)]) := by
 have hBl := hB.1
 refine ak (eX 18 Tryz.func18) rfl (m := 79) rfl (rs := [.tmp 2, .tmp 3]) rfl (st := [(0, v)]) rfl rfl (fun _ => rfl) (fun E => zr (za rfl (za (zi 0) (zk (W.seq (zr (zm rfl (aB rfl (aY rfl oz) rfl (jT hs hro L _ hV hB) (aZ hro) rfl (za rfl (zk (zr (zm rfl (zq (aa rfl (zi 0) rfl (bV er)) (zk (aw rfl (fun hc16 => ?_) (fun hc16 => ?_))))))))))))))))
 ·refine zr (zm rfl (za rfl (za rfl (zk (W.ret ?_)))))
  refine ac (End.ret (ResL.tmp rfl (z1 rfl)) (hs' := []) ⟨dE L, [], .nils, .inl ⟨by omega, rfl, rfl⟩, IOwn.nil, rfl⟩ iC (SubH.nil _))
 obtain ⟨h0, hL, hok⟩ := iH (L := L) zy
 have hOK := yf (L := L) zy
 refine zw (zr (WO.makeMap wV rfl (fun mb => za rfl (zk (zr (WO.alloc Df rfl (fun b1 => zk (zr (za rfl (zk (W.seq (zr (zm rfl (zq (Q.len aP rfl hV.1.len) (zq (Q.move (zi 0)) (zk (W.block (pQ (fun (i : Nat) (X : List IE) (u : AV) (hp : ad) (hl : ad) (M : List Te) (hm : ad) (tv : AV) (hq : ad) => [(0, v), (5, .map mb), (6, .ptr b1 0), (7, tv), (19, v), (20, .int .i64 ((L.length : Nat) : Int)), (21, .int .i64 ((i : Nat) : Int))]) (fun (i : Nat) (X : List IE) (u : AV) (hp : ad) (hl : ad) (M : List Te) (hm : ad) (tv : AV) (hq : ad) => (⟨mb, ⟨(M).length, true, eT 0 (M)⟩, true⟩ :: ⟨b1, ⟨1, true, [u]⟩, true⟩ :: (hs ++ hl ++ hm ++ hq ++ hp))) (fun (i : Nat) (X : List IE) (u : AV) (hp : ad) (hl : ad) (M : List Te) (hm : ad) (tv : AV) (hq : ad) => i <= L.length /\ D2 X = (cP (D2 L) i).1 /\ OwnE 12 (cI X) X.length u hp /\ (∀ x ∈ X, IOK hl x /\ x.nk = 0) /\ WZ hl /\ (∀ x ∈ X, IBd x) /\ OwnE 1 (cA (cP (D2 L) i).2) (cP (D2 L) i).2.length tv hq /\ ShM (cP (D2 L) i).1 M hm) (fun (i : Nat) (X : List IE) (u : AV) (hp : ad) (hl : ad) (M : List Te) (hm : ad) (tv : AV) (hq : ad) => L.length - i) (0) ([]) (.nils) ([]) ([]) ([]) ([]) (.nils) ([]) ⟨Nat.zero_le _, rfl, OwnE.nil 12, fun x hx => by simp at hx, WZ.nil, fun x hx => by simp at hx, OwnE.nil 1, ShM.zero⟩ zv (show SubH (⟨mb, ⟨0, true, []⟩, true⟩ :: ⟨b1, ⟨1, true, [.nils]⟩, true⟩ :: (hs ++ [] ++ [] ++ [] ++ [])) _ from gc) (fun i X u hp hl M hm tv hq hI0 ih0 => ?_)))))))))))))))))))
 obtain ⟨h3, hX2, hO, hX, hw, hXb, hT, hM⟩ := hI0
 refine zr (zq (aa rfl rfl rfl (fi fv)) (zk (W.seq (aw rfl (fun hc22 => ?_) (fun hc22 => ?_)))))
 ·obtain ⟨bv, szv, exv, rfl, wv, mv⟩ := hV.1.full zy
  have hI := ShI.all hOK (i := i) (by rw [aK]; omega)
  have hTl := hI.t
  have hOi := hI.le
  have hXl : X.length = (cP (D2 L) i).1.length := (by rw [<- hX2, aK])
  have hpl := Am (O := (cP (D2 L) i).1) (k := eS ((ei L i).d, ez (cP (D2 L) i).2 (ei L i).ars))
  have hyS : qT (cP (D2 L) i).2 (pd (D2 L) i) = ((ei L i).d, ez (cP (D2 L) i).2 (ei L i).ars) := (by unfold qT; rw [<- lz, <- oP])
  obtain ⟨hA_, hg, hB_, rfl, hG, hput⟩ := hM.get (eS ((ei L i).d, ez (cP (D2 L) i).2 (ei L i).ars))
  refine bG (hs' := ⟨mb, ⟨(M).length, true, eT 0 (M)⟩, true⟩ :: ⟨b1, ⟨1, true, [u]⟩, true⟩ :: (hs ++ hl ++ hA_ ++ hB_ ++ hq ++ hp ++ hg)) gc (zw (W.seq (W.block (zr (zm rfl (zq (aQ aP aC rfl rfl zo) (zq (aD rfl (List.mem_cons_of_mem _ (List.mem_cons_of_mem _ (List.mem_append_left _ (List.mem_append_left _ (List.mem_append_left _ (List.mem_append_left _ (List.mem_append_left _ (List.mem_append_left _ mv)))))))) cH aC (fT zo)) (WO.alloc pS rfl (fun b2 => za rfl (WO.store aC rfl rfl (i := 0) rfl (dp rfl (IOK.cells (hV.at zy))) (cs := [_, _, _, _, _, _, _, _, _, _, _, _]) rfl (hs' := _ :: _ :: _ :: _) rfl (zk (W.seq (Be [⟨b2, _, false⟩] [0, 1, 2, 3, 4, 5, 6, 7, 8, 9] (by kernel_rfl) (KIn.cons (zt 0 rfl) KIn.nil) (fun base => WG.q (Q.fieldAddr aV rfl (o' := 0) rfl) sV rfl (WG.q (zL rfl (zt 0 rfl) jD iu rfl) (lY (hV.at zy)) rfl (WG.call0 rfl (aY rfl oz) rfl (kw hs hro (ei L i).d _ _ _ (hV.at zy).m (hV.at zy).n _ (hV.at zy).k (hB.at zy).d) (SubR.t (SubR.t (SubR.t (SubR.appl (SubR.appl (SubR.appl (SubR.appl (SubR.appl (SubR.appl (aZ hro)))))))))) rfl (KIn.cons (zt 0 rfl) KIn.nil) (fun v28 D28 hP28 => ?_)))))))))))))))))
  obtain ⟨vm2, vn2, Dm, Dn, rfl, hOm, hOn, hDD⟩ := hP28
  have hwD : WZ D28 := (by rw [hDD]; exact (WZ.own hOm).app (WZ.own hOn))
  refine WG.subH (hs' := _ :: _ :: _ :: (hs ++ hl ++ hA_ ++ hB_ ++ hq ++ hp ++ hg ++ D28)) (SubH.op (bU (N := []) (G := D28) (K := [_, _, _]) (X := hs ++ hl ++ hA_ ++ hB_ ++ hq ++ hp ++ hg))) (WG.q (Q.fieldAddr bP rfl (o' := 11) rfl) sV rfl (WG.q (ag rfl (zt 0 rfl) eZ rfl) (hV.at zo).a.bq rfl (WG.q (Q.move rfl) (OwnE.bq hT) rfl (WG.call0 rfl (aY rfl (aY rfl oz)) rfl (qD (ro hq ++ hs) (gy hro) (ei L i).ars _ (hV.at zy).a.app (hB.at zy).a (cP (D2 L) i).2 _ (RIn.own hT).ro.appl (fun a ha => by have := eU (hok i zy) ha; rw [hTl]; omega) (by rw [hTl]; omega)) (dH gc hro) rfl (KIn.cons (zt 0 rfl) KIn.nil) (fun v32 D32 hP32 => ?_)))))
  have hP32' : OwnE 1 (cA (ez (cP (D2 L) i).2 (ei L i).ars)) (ez (cP (D2 L) i).2 (ei L i).ars).length v32 D32 := (by rw [ph]; exact hP32)
  have hAl2 : (ez (cP (D2 L) i).2 (ei L i).ars).length <= 1048576 := (by rw [ph]; exact (hB.at zy).a)
  have hAi2 := yA hI zy (fun a ha => eU (hok i zy) ha)
  refine WG.subH (hs' := _ :: _ :: _ :: (hs ++ hl ++ hA_ ++ hB_ ++ hq ++ hp ++ hg ++ D28 ++ D32)) (SubH.op (bU (N := []) (G := D32) (K := [_, _, _]) (X := hs ++ hl ++ hA_ ++ hB_ ++ hq ++ hp ++ hg ++ D28))) (WG.q (Q.build sk (gO rfl (gO rfl aE)) rfl (cs := [_, _, _, _, _, _, _, _, _, _, _, _]) (rQ (OwnE.cell hP32))) (vl (OwnE.bq0 hOm) (OwnE.bq0 hOn) (OwnE.bq0 hP32)) rfl (WG.alloc pS rfl (KIn.cons (zt 0 rfl) KIn.nil) rfl (fun b3 => WG.store aC rfl rfl (j := 0) rfl (dp rfl (sP (OwnE.cell hOm) (OwnE.cell hOn) (OwnE.cell hP32))) (cs := [_, _, _, _, _, _, _, _, _, _, _, _]) rfl (hs' := _ :: _ :: _ :: _ :: _) rfl (KIn.cons (zt 1 rfl) KIn.nil) (WG.nil (End.K (zr (zq (aD rfl (zt 0 rfl) cH aC (l := [_, _, _, _, _, _, _, _, _, _, _, _]) rfl) (aB rfl (aY rfl oz) rfl (wL (RIn.own hP32' ).ro hAl2 hAi2 (hKy _ (dF zy))) (SubR.ro gc) rfl (za rfl (zk (W.sub (zc 11 rfl (zc 10 rfl (zc 8 rfl (zc 0 rfl (zc 5 rfl (zc 6 rfl (zc 7 rfl (zc 19 rfl (zc 20 rfl (zc 21 rfl bE)))))))))) (zr (zm rfl (zm rfl (zq (oq wV C7 Cn rfl rfl (zt 2 rfl)) (zq (sK (aY rfl (aY rfl oz))) (WO.callE rfl (aY rfl (aY rfl oz)) rfl (Ax (hs := ro (⟨b1, ⟨1, true, [u]⟩, true⟩ :: ⟨b3, ⟨12, true, [.int .i64 (ei L i).d.kd, .str (ei L i).d.op, .int .i64 (ei L i).d.n, vm2, .int .i64 (ei L i).d.rg, .int .i64 (ei L i).d.off, .int .i64 (ei L i).d.md, vn2, .int .i64 (ei L i).d.sd, .bool (ei L i).d.bl, .nils, v32]⟩, true⟩ :: (hl ++ hp ++ D28 ++ D32 ++ hg))) uG X u ⟨(RIn.own hO).mono (fun b o ⟨w, q⟩ => MemH.ro ⟨w, by simp [q]⟩), fun x hx => (hX x hx).1.mono (fun b o ⟨w, q⟩ => MemH.ro ⟨w, by simp [q]⟩)⟩ ⟨by omega, hXb⟩ (fun x hx => (hX x hx).2) b1 b3 (MemH.ro ⟨true, List.mem_cons_self⟩) (ei L i).d vm2 vn2 v32 (MemH.ro (MemH.tl ⟨true, List.mem_cons_self⟩)) (yB hOm (fun e h => by rw [hDD]; simp [h])) (yB hOn (fun e h => by rw [hDD]; simp [h])) (hB.at zy).d (OwnE.cell hP32) (cF (cP (D2 L) i).1 (eS ((ei L i).d, ez (cP (D2 L) i).2 (ei L i).ars))) _ ((RIn.own hG).mono (fun b o ⟨w, q⟩ => MemH.ro ⟨w, by simp [q]⟩)) zy (fun q hq => by obtain ⟨a, e, ha, _⟩ := tH hq; rw [e]; omega)) (SubR.ro gc) rfl (fun v40 hP40 => ?_))))))))))))))))))
  obtain ⟨r, rfl, hr⟩ := hP40
  refine za rfl (zk (yS (fun (zz : Nat) => [(0, .slice bv 0 L.length 12), (5, .map mb), (6, .ptr b1 0), (7, tv), (10, .ptr b3 0), (11, .str (eS ((ei L i).d, ez (cP (D2 L) i).2 (ei L i).ars))), (19, .slice bv 0 L.length 12), (20, .int .i64 ((L.length : Nat) : Int)), (21, .int .i64 ((i : Nat) : Int))]) (fun (zz : Nat) => (⟨b3, ⟨12, true, [.int .i64 (ei L i).d.kd, .str (ei L i).d.op, .int .i64 (ei L i).d.n, vm2, .int .i64 (ei L i).d.rg, .int .i64 (ei L i).d.off, .int .i64 (ei L i).d.md, vn2, .int .i64 (ei L i).d.sd, .bool (ei L i).d.bl, .nils, v32]⟩, true⟩ :: ⟨mb, ⟨(M).length, true, eT 0 (M)⟩, true⟩ :: ⟨b1, ⟨1, true, [u]⟩, true⟩ :: (hs ++ hl ++ hA_ ++ hB_ ++ D28 ++ D32 ++ hq ++ hp ++ hg))) (fun (zz : Nat) => (i + 1 = L.length \/ ((ei L i).d, ez (cP (D2 L) i).2 (ei L i).ars) ∉ (cP (D2 L) i).1)) (fun zz hI15 => ?_) (fun hJ15 => ?_)))
  ·have hnew := hI15
   have hst := sr (P := D2 L) (i := i) hTl (by rw [hyS, aK]; exact hnew)
   rw [hyS] at hst
   refine zr (zm rfl (zm rfl (zm rfl (zm rfl (zq (oq wV C7 Cn rfl rfl (zt 1 rfl)) (zq (ag rfl (zt 2 rfl) uW rfl) (zq (Q.len aP rfl hO.len) (WO.bslice bh fP sI rfl (gO rfl aE) rfl (cs := [_]) rfl rfl rfl (fun b4 => WO.appAny (A := ([_, _, _] ++ hs ++ hl ++ hA_ ++ hB_ ++ D28 ++ D32 ++ hq ++ hp)) cY hG rfl rfl (Src.slice (zt 0 rfl) rfl) rfl zy (by decide) (SubH.of_sublist (List.sublist_cons_self _ _)) rfl (fun v67 hp67 hO67 => tT wV C7 rfl rfl rfl (i := 1) rfl (hs' := _ :: _ :: _ :: _) rfl (zk (zr (zm rfl (zq (ag rfl (zt 2 rfl) uW rfl) (zq (Q.len aP rfl hO.len) (WO.bslice bh fP sI rfl (gO rfl aE) rfl (cs := [_]) rfl rfl rfl (fun b5 => WO.subH (hs' := _ :: _ :: _ :: _ :: (hs ++ hl ++ hA_ ++ hB_ ++ D28 ++ D32 ++ hp ++ hp67 ++ hq)) (SubH.op (List.Perm.append_left [_, _, _, _] (List.perm_iff_count.2 (by intro z; simp only [List.append_eq, List.count_append, List.count_nil]; omega)))) (WO.appAny (A := ([_, _, _] ++ hs ++ hl ++ hA_ ++ hB_ ++ D28 ++ D32 ++ hp ++ hp67)) cY hT rfl rfl (Src.slice (zt 0 rfl) rfl) rfl zy (by decide) (SubH.of_sublist (List.sublist_cons_self _ _)) rfl (fun v72 hp72 hO72 => za rfl (zk (W.sub (zc 7 rfl (zc 0 rfl (zc 5 rfl (zc 6 rfl (zc 10 rfl (zc 19 rfl (zc 20 rfl (zc 21 rfl bE)))))))) (ay (zq (ag rfl (zt 2 rfl) uW rfl) ?_)))))))))))))))))))))))
   refine zq (aD rfl (zt 0 rfl) cH aC (l := [_, _, _, _, _, _, _, _, _, _, _, _]) rfl) (WO.bslice aP aC pG rfl (gO rfl aE) rfl (cs := [_, _, _, _, _, _, _, _, _, _, _, _]) rfl (sP (OwnE.cell hOm) (OwnE.cell hOn) (OwnE.cell hP32)) rfl (fun b6 => WO.subH (hs' := _ :: _ :: _ :: _ :: (hs ++ hl ++ hA_ ++ hB_ ++ D28 ++ D32 ++ hp67 ++ hp72 ++ hp)) (SubH.op (List.Perm.append_left [_, _, _, _] (List.perm_iff_count.2 (by intro z; simp only [List.append_eq, List.count_append, List.count_nil]; omega)))) (WO.appAny (A := ([_, _, _] ++ hs ++ hl ++ hA_ ++ hB_ ++ D28 ++ D32 ++ hp67 ++ hp72)) fm hO rfl rfl (Src.slice (zt 0 rfl) rfl) rfl zy (by decide) (SubH.of_sublist (List.sublist_cons_self _ _)) rfl (fun v76 hp76 hO76 => WO.store Dk rfl rfl (i := 2) rfl (rA (OwnE.cell hO76) rfl) (cs := [_]) (CK (OwnE.cell hO76)) (hs' := _ :: _ :: _ :: _) rfl (WO.nil (End.KB (End.K (ay (zq (aa rfl (zi 1) rfl zp) (zm rfl (WO.nil (End.KL (W.sub zv (bG gc (ih0 (i + 1) (X ++ [⟨(ei L i).d, ez (cP (D2 L) i).2 (ei L i).ars, 0, vm2, vn2, .nils, v32⟩]) (v76) (hp76) (hl ++ D28 ++ D32) (gL M (eS ((ei L i).d, ez (cP (D2 L) i).2 (ei L i).ars)) v67) (hA_ ++ (hp67 ++ hB_)) (v72) (hp72) ?_ ?_)))))))))))))))
   ·exact ⟨by omega, by rw [hst, fq, hX2], by rw [fp, List.length_append]; exact hO76, kW hX hOm hOn hP32' hDD, (hw.app hwD).app (WZ.own hP32), A4 hXb (hB.at zy).d hAl2 hAi2, by rw [hst, <- hXl]; exact n9 hO72, by rw [hst]; exact hput _ v67 hp67 rfl (by rw [<- hXl]; exact hO67)⟩
   exact zo
  refine zr (zm rfl (zq (aa rfl (zi 0) rfl (gU ey)) (zm rfl (aR (d := 43) rfl (fun hc43 => ?_) (fun hc43 => ?_)))))
  ·refine zT (zm rfl (zT (zq (aa rfl (zi 1) rfl zp) (zT (zm rfl (zT (zq (Q.len aP rfl hV.1.len) (zT (zq (aa rfl rfl rfl (fi fv)) (zq (au rfl rfl) (zk (W.sub (zc 49 rfl (zc 12 rfl (zc 11 rfl (zc 10 rfl (zc 0 rfl (zc 5 rfl (zc 6 rfl (zc 7 rfl (zc 19 rfl (zc 20 rfl (zc 21 rfl bE))))))))))) (aw rfl (fun hc49 => ?_) (fun hc49 => ?_))))))))))))))
   ·obtain ⟨j0, rfl, hj0, hpj, hqj⟩ := hr.resolve_left (fun h => by omega)
    obtain ⟨hf1, hf2⟩ := ux (O := (cP (D2 L) i).1) (y := ((ei L i).d, ez (cP (D2 L) i).2 (ei L i).ars)) hj0 ((Cb hX2 _).trans hpj) (fun q hq e => hqj q hq ((Cb hX2 _).symm.trans e))
    have hst := px (P := D2 L) (i := i) hTl (by rw [aK]; omega) (by rw [hyS]; exact hf1)
    rw [hyS] at hst
    obtain ⟨bg, exg, hge, rfl⟩ := hG.full zy
    refine zr (zm rfl (zm rfl (zm rfl (zq (yR wV C7 Cn rfl rfl (zt 2 rfl) hge) (zm rfl (zq (aQ bh fP rfl rfl zo) (zq (ag rfl (List.mem_cons_of_mem _ (List.mem_cons_of_mem _ (List.mem_cons_of_mem _ (List.mem_cons_of_mem _ (List.mem_append_left _ (List.mem_append_left _ (List.mem_append_right _ List.mem_cons_self))))))) dn (iA zo)) (WO.bslice bh fP sI rfl (gO rfl aE) rfl (cs := [_]) rfl rfl rfl (fun b7 => WO.subH (hs' := _ :: _ :: _ :: _ :: _ :: (hs ++ hl ++ hA_ ++ hB_ ++ hp ++ [⟨bg, ⟨1, exg, cA (cF (cP (D2 L) i).1 (eS ((ei L i).d, ez (cP (D2 L) i).2 (ei L i).ars)))⟩, true⟩] ++ D28 ++ D32 ++ hq)) (SubH.op (List.Perm.append_left [_, _, _, _, _] (List.perm_iff_count.2 (by intro z; simp only [List.append_eq, List.count_append, List.count_nil]; omega)))) (WO.appAny (A := ([_, _, _, _] ++ hs ++ hl ++ hA_ ++ hB_ ++ hp ++ [⟨bg, ⟨1, exg, cA (cF (cP (D2 L) i).1 (eS ((ei L i).d, ez (cP (D2 L) i).2 (ei L i).ars)))⟩, true⟩] ++ D28 ++ D32)) cY hT rfl rfl (Src.slice (zt 0 rfl) rfl) rfl zy (by decide) (SubH.of_sublist (List.sublist_cons_self _ _)) rfl (fun v58 hp58 hO58 => za rfl (zk (W.exit (aJ (aI (End.K (ay (zq (aa rfl (zi 1) rfl zp) (zm rfl (WO.nil (End.KL (W.sub zv (bG gc (ih0 (i + 1) (X) (u) (hp) (hl) (M) (hA_ ++ ([⟨bg, ⟨1, exg, cA (cF (cP (D2 L) i).1 (eS ((ei L i).d, ez (cP (D2 L) i).2 (ei L i).ars)))⟩, true⟩] ++ hB_)) (v58) (hp58) ?_ ?_))))))))))))))))))))))))
    ·exact ⟨by omega, by rw [hst]; exact hX2, hO, hX, hw, hXb, by rw [hst, <- hf2]; exact n9 hO58, by rw [hst]; exact hM⟩
    exact zo
   refine W.skip (End.K (W.sub zv (bG gc (hJ15 (0) ?_))))
   exact .inl zy
  refine z2 (z2 (zG (zq (aG rfl rfl) (zk (W.sub (zc 49 rfl (zc 12 rfl (zc 11 rfl (zc 10 rfl (zc 0 rfl (zc 5 rfl (zc 6 rfl (zc 7 rfl (zc 19 rfl (zc 20 rfl (zc 21 rfl bE))))))))))) (aN rfl (W.skip (End.K (W.sub zv (bG gc (hJ15 (0) ?_)))))))))))
  exact (by rcases hr with ⟨_, h⟩ | ⟨j, e, _⟩; exact .inr (yk fun q hq e => h q hq ((Cb hX2 _).symm.trans e)); omega)
 have hI := ShI.all hOK (i := i) (by rw [aK]; omega)
 have hXle := hI.le
 rw [<- hX2, aK] at hXle
 refine W.exit (aJ (aM (aI (End.K (zr (zq (ag rfl (zt 1 rfl) uW rfl) (za rfl (za (zi 0) (zk (W.ret ?_))))))))))
 refine End.ret (ResL.tmp rfl (z1 rfl)) (hs' := hp ++ hl) ⟨0, X, u, .inr ⟨by omega, rfl, by rw [hX2, show i = L.length by omega]; unfold ss; rw [aK]⟩, ⟨hp, hl, rfl, hO, hX, hw, ⟨by omega, hXb⟩⟩, rfl⟩ (wa (OwnE.w hO) hw.w) gc
end Go.Proofs.YtndhhgbpcmfeiaaGreatDoor.Ev
