/- Chapter 20, walks: what the document says of Share. -/
import Derived.Test.YtndhhgbpcmfeiaaGreatDoorPJn
namespace Go.Proofs.YtndhhgbpcmfeiaaGreatDoor.Ev
open Go.RowKit
set_option maxRecDepth 100000
set_option maxHeartbeats 1000000
theorem tV {x y : IE} (hs : ad) (hro : ∀ e ∈ hs, e.w = false) (hx : IOK hs x) (hy : IOK hs y) (h3 : x.nk = 0) (h4 : y.nk = 0) (bx : IBd x) (b_y : IBd y) : Spec aW 26 [.agg x.c, .agg y.c] [] hs (eW (.bool (decide ((x.d, x.ars) = (y.d, y.ars))))) := by
 obtain ⟨d, A, nk, vm, vn, vk, va⟩ := x
 obtain ⟨d', A', nk', vm', vn', vk', va'⟩ := y
 simp only at h3 h4
 subst h3 h4
 exact vc hs hro d d' A A' 0 0 vm vn vk va vm' vn' vk' va' hx hy hx.k hy.k bx b_y
theorem wy {O : List PI} {y : PI} {a : Nat} (h : a < O.length) (hp : pd O a = y) (hn : ∀ j, j < a -> pd O j ≠ y) : O.idxOf y = a := by
 have hm : y ∈ O := by rw [<- hp]; exact yj h
 have hl := List.idxOf_lt_length_of_mem hm
 have hi : pd O (O.idxOf y) = y := mT (by rw [List.getElem?_eq_getElem hl, List.getElem_idxOf hl])
 rcases Nat.lt_trichotomy (O.idxOf y) a with g | g | g
 ·exact absurd hi (hn _ g)
 ·exact g
 ·exfalso
  have g2 : a < O.findIdx (· == y) := g
  have h2 := List.not_of_lt_findIdx g2
  have h3 : O[a] = y := by
   have h4 := qM h
   rw [List.getElem?_eq_getElem h] at h4
   rw [Option.some.inj h4, hp]
  simp [h3] at h2
theorem BS {O : List PI} {y : PI} (h : ∀ j, j < O.length -> pd O j ≠ y) : y ∉ O := fun hm => by
 have hl := List.idxOf_lt_length_of_mem hm
 exact h _ hl (mT (by rw [List.getElem?_eq_getElem hl, List.getElem_idxOf hl]))
section
variable {X : List IE} {hs hl D : ad} {k : Nat} {y : IE}
theorem wR (hX : ∀ x ∈ X, IOK (hs ++ hl) x /\ x.nk = 0) (hk : k < X.length) : IOK (ro (hl ++ D) ++ hs) (ei X k) := (hX _ (dF hk)).1.mono fun b o ⟨w, q⟩ => by
 rcases List.mem_append.1 q with q | q
 ·exact ⟨w, List.mem_append_right _ q⟩
 ·obtain ⟨w', g⟩ := MemH.ro (hs := hl ++ D) ⟨w, List.mem_append_left _ q⟩
  exact ⟨w', List.mem_append_left _ g⟩
theorem wS : ∀ (b : Nat) (o : AObj), MemH (hs ++ D) b o -> MemH (ro (hl ++ D) ++ hs) b o := fun b o ⟨w, q⟩ => by
 rcases List.mem_append.1 q with q | q
 ·exact ⟨w, List.mem_append_right _ q⟩
 ·obtain ⟨w', g⟩ := MemH.ro (hs := hl ++ D) ⟨w, List.mem_append_right _ q⟩
  exact ⟨w', List.mem_append_left _ g⟩
theorem qA : ∀ (b : Nat) (o : AObj), MemH (hs ++ D) b o -> MemH (hs ++ hl ++ D) b o := fun b o ⟨w, q⟩ => by
 rcases List.mem_append.1 q with q | q
 ·exact ⟨w, by simp [q]⟩
 ·exact ⟨w, by simp [q]⟩
theorem tL (hX : ∀ x ∈ X, IBd x) (hy : IBd y) : ∀ x ∈ X ++ [y], IBd x := fun x hx => by
 rcases List.mem_append.1 hx with hx | hx
 ·exact hX x hx
 ·rw [List.mem_singleton.1 hx]; exact hy
end

theorem qR (hs : ad) (hro : ∀ e ∈ hs, e.w = false) (L : List IE) (v : AV) (hV : IIn hs L v) (hB : ILB L) : Spec aW 19 [v] [] hs (fun r D => ∃ (e : Nat) (Y : List IE) (w : AV), ou L e (D2 Y) /\ ROwn hs Y w D /\ r = .tuple [w, .int .i64 ((e : Nat) : Int)]) := by
 have hBl := hB.1
 refine ak (eX 19 Tryz.func19) rfl (m := 65) rfl (rs := [.tmp 2, .tmp 3]) rfl (st := [(0, v)]) rfl rfl (fun _ => rfl) (fun E => zr (za rfl (za (zi 0) (zk (W.seq (zr (zm rfl (aB rfl (aY rfl oz) rfl (jk hs hro L _ hV hB) (aZ hro) rfl (za rfl (zk (zr (zm rfl (zq (aa rfl (zi 0) rfl (bV er)) (zk (aw rfl (fun hc14 => ?_) (fun hc14 => ?_))))))))))))))))
 ·refine zr (zm rfl (za rfl (za rfl (zk (W.ret ?_)))))
  refine ac (End.ret (ResL.tmp rfl (z1 rfl)) (hs' := []) ⟨dE L, [], .nils, .inl ⟨by omega, rfl, rfl⟩, ROwn.nil, rfl⟩ iC (SubH.nil _))
 obtain ⟨h0, hL, hok⟩ := iH (L := L) zy
 have hOK := yf (L := L) zy
 refine zw (zr (za rfl (zk (zr (za rfl (zk (W.seq (zr (za (zi 0) (zk (W.block (kY (fun (i : Nat) (X : List IE) (u : AV) (hp : ad) (hl : ad) (tv : AV) (hq : ad) => [(0, v), (5, u), (6, tv), (7, .int .i64 ((i : Nat) : Int))]) (fun (i : Nat) (X : List IE) (u : AV) (hp : ad) (hl : ad) (tv : AV) (hq : ad) => (hs ++ hl ++ hq ++ hp)) (fun (i : Nat) (X : List IE) (u : AV) (hp : ad) (hl : ad) (tv : AV) (hq : ad) => i <= L.length /\ D2 X = (cP (D2 L) i).1 /\ OwnE 12 (cI X) X.length u hp /\ (∀ x ∈ X, IOK (hs ++ hl) x /\ x.nk = 0) /\ (∀ e ∈ hl, e.w = true) /\ (∀ x ∈ X, IBd x) /\ OwnE 1 (cA (cP (D2 L) i).2) (cP (D2 L) i).2.length tv hq) (fun (i : Nat) (X : List IE) (u : AV) (hp : ad) (hl : ad) (tv : AV) (hq : ad) => L.length - i) (0) ([]) (.nils) ([]) ([]) (.nils) ([]) ⟨Nat.zero_le _, rfl, OwnE.nil 12, fun x hx => by simp at hx, iC, fun x hx => by simp at hx, OwnE.nil 1⟩ zv (by rw [List.append_nil, List.append_nil, List.append_nil]; exact SubH.refl _) (fun i X u hp hl tv hq hI0 ih0 => ?_)))))))))))))
 obtain ⟨h3, hX2, hO, hX, hw, hXb, hT⟩ := hI0
 refine W.seq (zr (zm rfl (zm rfl (zq (Q.len aP rfl hV.1.len) (zq (aa rfl rfl rfl (fi fv)) (zk (aw rfl (fun hc19 => ?_) (fun hc19 => ?_))))))))
 ·obtain ⟨bv, szv, exv, rfl, wv, mv⟩ := hV.1.full zy
  have hI := ShI.all hOK (i := i) (by rw [aK]; omega)
  have hTl := hI.t
  have hOi := hI.le
  have hXl : X.length = (cP (D2 L) i).1.length := (by rw [<- hX2, aK])
  have hyS : qT (cP (D2 L) i).2 (pd (D2 L) i) = ((ei L i).d, ez (cP (D2 L) i).2 (ei L i).ars) := (by unfold qT; rw [<- lz, <- oP])
  have hAi2 := yA hI zy (fun a ha => eU (hok i zy) ha)
  have hIX : IIn (hs ++ hl ++ hp) X u := ⟨(RIn.own hO).app, fun x hx => (hX x hx).1.mono (fun b o q => q.appl')⟩
  have hIB : ILB X := ⟨by omega, hXb⟩
  have hYb : ∀ v2, IBd (⟨(ei L i).d, ez (cP (D2 L) i).2 (ei L i).ars, (ei L i).nk, (ei L i).vm, (ei L i).vn, (ei L i).vk, v2⟩ : IE) := fun v2 => ⟨(hB.at zy).d, by rw [ph]; exact (hB.at zy).a, hAi2⟩
  refine zw (W.seq (W.block (zr (zm rfl (zm rfl (zq (aQ aP aC rfl rfl zo) (zq (aD rfl (List.mem_append_left _ (List.mem_append_left _ (List.mem_append_left _ mv))) cH aC (fT zo)) (zm rfl (WO.call0 rfl (aY rfl (aY rfl oz)) rfl (tJ (ro hq ++ hs) (gy hro) ((hV.at zy).mono (fun b o q => q.app)) (hB.at zy) (RIn.own hT).ro.appl (fun a ha => by have := eU (hok i zy) ha; rw [hTl]; omega) (by rw [hTl]; omega)) (dH gc hro) rfl (fun v27 D27 hP27 => ?_))))))))))
  obtain ⟨v2, rfl, hP27⟩ := hP27
  have hY : IOK (hs ++ D27) (⟨(ei L i).d, ez (cP (D2 L) i).2 (ei L i).ars, (ei L i).nk, (ei L i).vm, (ei L i).vn, (ei L i).vk, v2⟩ : IE) := ⟨(hV.at zy).m.appl, (hV.at zy).n.appl, (hV.at zy).k, (RIn.own hP27).app⟩
  refine WO.subH (hs' := (hs ++ hl ++ D27 ++ hq ++ hp)) (SubH.op (io (N := []) (G := D27) (K := []) (X := hs ++ hl ++ hq ++ hp) (by simp only [List.append_assoc, List.nil_append]; exact List.perm_iff_count.2 (by intro z; simp only [List.append_eq, List.count_append, List.count_nil]; omega)))) (WO.alloc pS rfl (fun b1 => WO.store aC rfl rfl (i := 0) rfl (dp rfl (oD (hV.at zy).m.cell (hV.at zy).n.cell (hV.at zy).k.cell (OwnE.cell hP27))) (cs := [_, _, _, _, _, _, _, _, _, _, _, _]) rfl (hs' := _ :: _) rfl (zk (zr (za rfl (zk (W.seq (zr (za (zi 0) (zk (W.block (dw (fun (k : Nat) (z : Int) => [(0, .slice bv 0 L.length 12), (5, u), (6, tv), (7, .int .i64 ((i : Nat) : Int)), (8, .ptr b1 0), (9, .int .i64 z), (10, .int .i64 ((k : Nat) : Int))]) (fun (k : Nat) (z : Int) => (⟨b1, ⟨12, true, IE.c (⟨(ei L i).d, ez (cP (D2 L) i).2 (ei L i).ars, (ei L i).nk, (ei L i).vm, (ei L i).vn, (ei L i).vk, v2⟩ : IE)⟩, true⟩ :: (hs ++ hl ++ D27 ++ hq ++ hp))) (fun (k : Nat) (z : Int) => k <= X.length /\ ((z = -1 /\ ∀ j, j < k -> pd (cP (D2 L) i).1 j ≠ ((ei L i).d, ez (cP (D2 L) i).2 (ei L i).ars)) \/ ∃ a : Nat, z = ((a : Nat) : Int) /\ a < X.length /\ pd (cP (D2 L) i).1 a = ((ei L i).d, ez (cP (D2 L) i).2 (ei L i).ars) /\ (∀ j, j < a -> pd (cP (D2 L) i).1 j ≠ ((ei L i).d, ez (cP (D2 L) i).2 (ei L i).ars)) /\ i + 1 < L.length)) (fun (k : Nat) (z : Int) => X.length - k) (0) (_) ⟨Nat.zero_le _, .inl ⟨by first | rfl | omega, fun j h => absurd h (Nat.not_lt_zero _)⟩⟩ zv (SubH.refl _) (fun k z hI1 ih1 => ?_)))))))))))))
  obtain ⟨h4, h5⟩ := hI1
  refine W.seq (zr (zm rfl (zm rfl (zq (Q.len aP rfl hO.len) (zq (aa rfl rfl rfl (fi fv)) (zm rfl (aR (d := 32) rfl (fun hc32 => ?_) (fun hc32 => ?_))))))))
  ·refine zT (zm rfl (zT (zq (aa rfl (zi 0) rfl (fi (cL _ _))) (zq (au rfl rfl) (zm rfl (aR (d := 36) rfl (fun hc36 => ?_) (fun hc36 => ?_)))))))
   ·refine zT (zm rfl (zT (zq (aa rfl (zi 1) rfl zp) (zT (zm rfl (zT (zq (Q.len aP rfl rfl) (zT (zq (aa rfl rfl rfl (fi fv)) (zq (au rfl rfl) (zk (W.sub (zc 42 rfl (zc 0 rfl (zc 5 rfl (zc 6 rfl (zc 7 rfl (zc 8 rfl (zc 9 rfl (zc 10 rfl bE)))))))) (aw rfl (fun hc42 => ?_) (fun hc42 => ?_))))))))))))))
    ·obtain ⟨rfl, hno⟩ := h5.resolve_right (fun ⟨a, e, _⟩ => by omega)
     obtain ⟨bo, exo, rfl, rfl⟩ := hO.full zy
     refine zw (W.seq (W.block (W.seq (dD (by kernel_rfl) (zm rfl (zm rfl (zq (aQ aP aC rfl rfl zo) (zq (aD rfl (List.mem_cons_of_mem _ (List.mem_append_right _ List.mem_cons_self)) cH aC (fT zo)) (zq (aD rfl (zt 0 rfl) cH aC (l := [_, _, _, _, _, _, _, _, _, _, _, _]) rfl) (aB rfl (aY rfl (aY rfl oz)) rfl (tV (ro (hl ++ D27) ++ hs) (gy hro) (wR hX zy) (hY.mono (wS)) (hX _ (dF zy)).2 (qK (hok i zy)) (hXb _ (dF zy)) (hYb _)) (dH gc hro) rfl (zk (aw rfl (fun hc50 => ?_) (fun hc50 => ?_)))))))))))))
     ·refine ay (zm rfl (za rfl (WO.nil (End.KB (End.K (ay (zm rfl (zq (aa rfl (zi 1) rfl zp) (za rfl (WO.nil (End.KL (W.sub zv (bG gc (ih1 (k + 1) (_) ?_ ?_))))))))))))))
      ·exact ⟨by omega, .inr ⟨k, rfl, by omega, by rw [<- hX2, <- jx]; exact hc50, hno, by omega⟩⟩
      exact zo
     refine W.skip (End.KB (End.K (ay (zm rfl (zq (aa rfl (zi 1) rfl zp) (za rfl (WO.nil (End.KL (W.sub zv (bG gc (ih1 (k + 1) (_) ?_ ?_)))))))))))
     ·exact ⟨by omega, .inl ⟨rfl, fun j hj => by rcases Nat.lt_or_ge j k with g | g; exact hno j g; obtain rfl : j = k := zy; rw [<- hX2, <- jx]; exact hc50⟩⟩
     exact zo
    refine W.exit (aJ (aM (aI (End.K (W.seq (zr (zm rfl (zq (aa rfl (zi 0) rfl (fi (cL _ _))) (zk (aw rfl (fun hc53 => ?_) (fun hc53 => ?_)))))))))))
    ·have hnew : i + 1 = L.length \/ ((ei L i).d, ez (cP (D2 L) i).2 (ei L i).ars) ∉ (cP (D2 L) i).1 := .inl zy
     have hst := sr (P := D2 L) (i := i) hTl (by rw [hyS, aK]; exact hnew)
     rw [hyS] at hst
     refine zr (zm rfl (zq (Q.len aP rfl hO.len) (za rfl (zk (ay (zm rfl (zq (aD rfl (zt 0 rfl) cH aC (l := [_, _, _, _, _, _, _, _, _, _, _, _]) rfl) (WO.bslice aP aC pG rfl (gO rfl aE) rfl (cs := [_, _, _, _, _, _, _, _, _, _, _, _]) rfl (IOK.cells hY) rfl (fun b2 => WO.appAny (A := ([_] ++ hs ++ hl ++ D27 ++ hq)) fm hO rfl rfl (Src.slice (zt 0 rfl) rfl) rfl zy (by decide) (SubH.of_sublist (List.sublist_cons_self _ _)) rfl (fun v59 hp59 hO59 => za rfl (zk (ay (zm rfl (zm rfl (WO.bslice bh fP sI rfl (gO rfl aE) rfl (cs := [_]) rfl rfl rfl (fun b3 => WO.subH (hs' := _ :: _ :: (hs ++ hl ++ D27 ++ hp59 ++ hq)) (SubH.op (List.Perm.append_left [_, _] (List.perm_iff_count.2 (by intro z; simp only [List.append_eq, List.count_append, List.count_nil]; omega)))) (WO.appAny (A := ([_] ++ hs ++ hl ++ D27 ++ hp59)) cY hT rfl rfl (Src.slice (zt 0 rfl) rfl) rfl zy (by decide) (SubH.of_sublist (List.sublist_cons_self _ _)) rfl (fun v63 hp63 hO63 => za rfl (WO.nil (End.KB (End.K (W.sub (zc 6 rfl (zc 5 rfl (zc 0 rfl (zc 7 rfl bE)))) (ay (zm rfl ?_))))))))))))))))))))))))
     refine zq (aa rfl (zi 1) rfl zp) (za rfl (WO.nil (End.KL (W.sub zv (bG gc (ih0 (i + 1) (X ++ [(⟨(ei L i).d, ez (cP (D2 L) i).2 (ei L i).ars, (ei L i).nk, (ei L i).vm, (ei L i).vn, (ei L i).vk, v2⟩ : IE)]) (v59) (hp59) (hl ++ D27) (v63) (hp63) ?_ ?_))))))
     ·exact ⟨by omega, by rw [hst, fq, hX2], by rw [fp, List.length_append]; exact hO59, mY hX ⟨hY.mono (qA), qK (hok i zy)⟩, wa hw (OwnE.w hP27), tL hXb (hYb _), by rw [hst, <- hXl]; exact n9 hO63⟩
     exact zo
    (exfalso; omega)
   refine z2 (z2 (zG (zq (aG rfl rfl) (zk (W.sub (zc 42 rfl (zc 0 rfl (zc 5 rfl (zc 6 rfl (zc 7 rfl (zc 8 rfl (zc 9 rfl (zc 10 rfl bE)))))))) (aN rfl (W.exit (aJ (aM (aI (End.K (W.seq (zr (zm rfl (zq (aa rfl (zi 0) rfl (fi (cL _ _))) (zk (aw rfl (fun hc53 => ?_) (fun hc53 => ?_))))))))))))))))))
   ·(exfalso; omega)
   obtain ⟨a, rfl, ha1, ha2, ha3, ha4⟩ := h5.resolve_left (fun h => by omega)
   have hix : (cP (D2 L) i).1.idxOf ((ei L i).d, ez (cP (D2 L) i).2 (ei L i).ars) = a := wy (by rw [<- hX2, aK]; exact ha1) ha2 ha3
   have hst := px (P := D2 L) (i := i) hTl (by rw [aK]; omega) (by rw [hyS, hix, <- hX2, aK]; exact ha1)
   rw [hyS, hix] at hst
   refine zw (ay (zm rfl (zm rfl (WO.bslice bh fP sI rfl (gO rfl aE) rfl (cs := [_]) rfl rfl rfl (fun b4 => WO.subH (hs' := _ :: _ :: (hs ++ hl ++ D27 ++ hp ++ hq)) (SubH.op (List.Perm.append_left [_, _] (List.perm_iff_count.2 (by intro z; simp only [List.append_eq, List.count_append, List.count_nil]; omega)))) (WO.appAny (A := ([_] ++ hs ++ hl ++ D27 ++ hp)) cY hT rfl rfl (Src.slice (zt 0 rfl) rfl) rfl zy (by decide) (SubH.of_sublist (List.sublist_cons_self _ _)) rfl (fun v63 hp63 hO63 => za rfl (WO.nil (End.KB (End.K (ay (zm rfl (zq (aa rfl (zi 1) rfl zp) (za rfl (WO.nil (End.KL (W.sub zv (bG gc (ih0 (i + 1) (X) (u) (hp) (hl) (v63) (hp63) ?_ ?_)))))))))))))))))))
   ·exact ⟨by omega, by rw [hst]; exact hX2, hO, hX, hw, hXb, by rw [hst]; exact n9 hO63⟩
   exact zo
  refine z2 (zq (aG rfl rfl) (zm rfl (z2 (z2 (zG (zq (aG rfl rfl) (zk (W.sub (zc 42 rfl (zc 0 rfl (zc 5 rfl (zc 6 rfl (zc 7 rfl (zc 8 rfl (zc 9 rfl (zc 10 rfl bE)))))))) (aN rfl (W.exit (aJ (aM (aI (End.K (W.seq (zr (zm rfl (zq (aa rfl (zi 0) rfl (fi (cL _ _))) (zk (aw rfl (fun hc53 => ?_) (fun hc53 => ?_)))))))))))))))))))))
  ·have hnew : i + 1 = L.length \/ ((ei L i).d, ez (cP (D2 L) i).2 (ei L i).ars) ∉ (cP (D2 L) i).1 := .inr (BS fun j hj => (h5.resolve_right (fun ⟨a, e, _⟩ => by omega)).2 j (by rw [<- hX2, aK] at hj; omega))
   have hst := sr (P := D2 L) (i := i) hTl (by rw [hyS, aK]; exact hnew)
   rw [hyS] at hst
   refine zr (zm rfl (zq (Q.len aP rfl hO.len) (za rfl (zk (ay (zm rfl (zq (aD rfl (zt 0 rfl) cH aC (l := [_, _, _, _, _, _, _, _, _, _, _, _]) rfl) (WO.bslice aP aC pG rfl (gO rfl aE) rfl (cs := [_, _, _, _, _, _, _, _, _, _, _, _]) rfl (IOK.cells hY) rfl (fun b5 => WO.appAny (A := ([_] ++ hs ++ hl ++ D27 ++ hq)) fm hO rfl rfl (Src.slice (zt 0 rfl) rfl) rfl zy (by decide) (SubH.of_sublist (List.sublist_cons_self _ _)) rfl (fun v59 hp59 hO59 => za rfl (zk (ay (zm rfl (zm rfl (WO.bslice bh fP sI rfl (gO rfl aE) rfl (cs := [_]) rfl rfl rfl (fun b6 => WO.subH (hs' := _ :: _ :: (hs ++ hl ++ D27 ++ hp59 ++ hq)) (SubH.op (List.Perm.append_left [_, _] (List.perm_iff_count.2 (by intro z; simp only [List.append_eq, List.count_append, List.count_nil]; omega)))) (WO.appAny (A := ([_] ++ hs ++ hl ++ D27 ++ hp59)) cY hT rfl rfl (Src.slice (zt 0 rfl) rfl) rfl zy (by decide) (SubH.of_sublist (List.sublist_cons_self _ _)) rfl (fun v63 hp63 hO63 => za rfl (WO.nil (End.KB (End.K (W.sub (zc 6 rfl (zc 5 rfl (zc 0 rfl (zc 7 rfl bE)))) (ay (zm rfl ?_))))))))))))))))))))))))
   refine zq (aa rfl (zi 1) rfl zp) (za rfl (WO.nil (End.KL (W.sub zv (bG gc (ih0 (i + 1) (X ++ [(⟨(ei L i).d, ez (cP (D2 L) i).2 (ei L i).ars, (ei L i).nk, (ei L i).vm, (ei L i).vn, (ei L i).vk, v2⟩ : IE)]) (v59) (hp59) (hl ++ D27) (v63) (hp63) ?_ ?_))))))
   ·exact ⟨by omega, by rw [hst, fq, hX2], by rw [fp, List.length_append]; exact hO59, mY hX ⟨hY.mono (qA), qK (hok i zy)⟩, wa hw (OwnE.w hP27), tL hXb (hYb _), by rw [hst, <- hXl]; exact n9 hO63⟩
   exact zo
  obtain ⟨a, rfl, ha1, ha2, ha3, ha4⟩ := h5.resolve_left (fun h => by omega)
  have hix : (cP (D2 L) i).1.idxOf ((ei L i).d, ez (cP (D2 L) i).2 (ei L i).ars) = a := wy (by rw [<- hX2, aK]; exact ha1) ha2 ha3
  have hst := px (P := D2 L) (i := i) hTl (by rw [aK]; omega) (by rw [hyS, hix, <- hX2, aK]; exact ha1)
  rw [hyS, hix] at hst
  refine zw (ay (zm rfl (zm rfl (WO.bslice bh fP sI rfl (gO rfl aE) rfl (cs := [_]) rfl rfl rfl (fun b7 => WO.subH (hs' := _ :: _ :: (hs ++ hl ++ D27 ++ hp ++ hq)) (SubH.op (List.Perm.append_left [_, _] (List.perm_iff_count.2 (by intro z; simp only [List.append_eq, List.count_append, List.count_nil]; omega)))) (WO.appAny (A := ([_] ++ hs ++ hl ++ D27 ++ hp)) cY hT rfl rfl (Src.slice (zt 0 rfl) rfl) rfl zy (by decide) (SubH.of_sublist (List.sublist_cons_self _ _)) rfl (fun v63 hp63 hO63 => za rfl (WO.nil (End.KB (End.K (ay (zm rfl (zq (aa rfl (zi 1) rfl zp) (za rfl (WO.nil (End.KL (W.sub zv (bG gc (ih0 (i + 1) (X) (u) (hp) (hl) (v63) (hp63) ?_ ?_)))))))))))))))))))
  ·exact ⟨by omega, by rw [hst]; exact hX2, hO, hX, hw, hXb, by rw [hst]; exact n9 hO63⟩
  exact zo
 have hI := ShI.all hOK (i := i) (by rw [aK]; omega)
 have hXle := hI.le
 rw [<- hX2, aK] at hXle
 refine W.exit (aJ (aM (aI (End.K (zr (zm rfl (za rfl (za (zi 0) (zk (W.ret ?_))))))))))
 refine End.ret (ResL.tmp rfl (z1 rfl)) (hs' := hp ++ hl) ⟨0, X, u, .inr ⟨by omega, rfl, by rw [hX2, show i = L.length by omega]; unfold ss; rw [aK]⟩, ⟨hp, hl, rfl, hO, hX, hw, ⟨by omega, hXb⟩⟩, rfl⟩ (wa (OwnE.w hO) hw) gc

end Go.Proofs.YtndhhgbpcmfeiaaGreatDoor.Ev
