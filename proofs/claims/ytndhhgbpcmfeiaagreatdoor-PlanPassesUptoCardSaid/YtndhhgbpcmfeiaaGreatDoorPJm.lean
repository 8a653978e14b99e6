/- Chapter 20, walks: what the document says of plans. -/
import Derived.Test.YtndhhgbpcmfeiaaGreatDoorPJl
namespace Go.Proofs.YtndhhgbpcmfeiaaGreatDoor.Ev
open Go.RowKit
set_option maxRecDepth 100000
set_option maxHeartbeats 1000000
def rP (X : List IE) (x : IE) : IE := match ta (D2 X) (x.d, x.ars) with
 | some n => ⟨lE n, [], 0, .nils, .nils, .nils, .nils⟩
 | none => x
def nx (L : List IE) : Nat -> List IE
 | 0 => []
 | i + 1 => nx L i ++ [rP (nx L i) (ei L i)]
section
variable {hs : ad} {L X : List IE} {x : IE} {i : Nat} {n : Int} {u : AV} {hp : ad} {v : AV}
theorem Bz (h : eb n = true) : -1152921504606846976 <= n /\ n <= 1152921504606846976 := by
 unfold eb at h
 simpa using h
theorem dM (h : ta (D2 X) (x.d, x.ars) = none) : rP X x = x := by unfold rP; rw [h]
theorem mA (h : ta (D2 X) (x.d, x.ars) = some n) : rP X x = ⟨lE n, [], 0, .nils, .nils, .nils, .nils⟩ := by unfold rP; rw [h]
theorem CG : ((rP X x).d, (rP X x).ars) = CH (D2 X) (x.d, x.ars) := by
 unfold CH
 cases h : ta (D2 X) (x.d, x.ars) with
 | some n => rw [mA h]
 | none => rw [dM h]
theorem v8 (h : IOK hs x) : IOK hs (rP X x) := by
 unfold rP
 split
 ·exact ⟨RIn.nil, RIn.nil, .inl ⟨rfl, rfl⟩, RIn.nil⟩
 ·exact h
theorem Bx (h : x.nk = 0) : (rP X x).nk = 0 := by
 unfold rP
 split
 ·rfl
 ·exact h
theorem Bw (h : IBd x) : IBd (rP X x) := by
 unfold rP
 split
 ·rename_i n _
  exact yb (X := []) (n := n) (fun x hx => by simp at hx) _ (by simp)
 ·exact h
theorem j1 : (nx L i).length = i := by
 induction i with
 | zero => rfl
 | succ i ih => rw [nx, List.length_append, ih]; rfl
theorem By : D2 (nx L i) = ri (D2 L) i := by
 induction i with
 | zero => rfl
 | succ i ih => rw [nx, fq, CG, ri, jx, ih]
theorem s9 (hV : IIn hs L v) (hB : ILB L) (hok : ∀ i, i < L.length -> iD L i = true) : i <= L.length -> ∀ x ∈ nx L i, IOK hs x /\ x.nk = 0 /\ IBd x := by
 induction i with
 | zero => intro _ x hx; simp [nx] at hx
 | succ i ih =>
  intro hi x hx
  rw [nx] at hx
  rcases List.mem_append.1 hx with hx | hx
  ·exact ih zy x hx
  ·rw [List.mem_singleton.1 hx]
   exact ⟨v8 (hV.at zy), Bx (qK (hok i zy)), Bw (hB.at zy)⟩
end
def ROwn (hs : ad) (W : List IE) (w : AV) (D : ad) : Prop := ∃ hp hl, D = hp ++ hl /\ OwnE 12 (cI W) W.length w hp /\ (∀ x ∈ W, IOK (hs ++ hl) x /\ x.nk = 0) /\ (∀ e ∈ hl, e.w = true) /\ ILB W
theorem ROwn.nil {hs : ad} : ROwn hs [] .nils [] := ⟨[], [], rfl, OwnE.nil 12, fun x hx => by simp at hx, iC, by simp, fun x hx => by simp at hx⟩
theorem uC {hs hp : ad} {L : List IE} {v u : AV} {i : Nat} (hV : IIn hs L v) (hB : ILB L) (hi : i <= L.length) (hok : ∀ i, i < L.length -> iD L i = true) (hO : OwnE 12 (cI (nx L i)) i u hp) : ROwn hs (nx L i) u hp := by
 have hA := s9 (i := i) hV hB hok hi
 refine ⟨hp, [], by simp, by rw [j1]; exact hO, fun x hx => ⟨by rw [List.append_nil]; exact (hA x hx).1, (hA x hx).2.1⟩, fun e he => by simp at he, ?_, fun x hx => (hA x hx).2.2⟩
 have := hB.1
 rw [j1]; omega
theorem Bj {i a : Int} (h : ¬ a < 0) (g : ¬ i <= a) : jQ i a = false := by
 unfold jQ
 rw [Bool.or_eq_false_iff, decide_eq_false_iff_not, decide_eq_false_iff_not]
 exact ⟨h, g⟩
theorem yV {i a : Int} (h : a < 0 \/ i <= a) : jQ i a = true := by
 unfold jQ
 rw [Bool.or_eq_true, decide_eq_true_eq, decide_eq_true_eq]
 exact h
section
variable {L : List IE} {i q : Nat}
theorem Aj (h : (ei L i).nk = 0) (g : ∀ p, p < (ei L i).ars.length -> jQ ((i : Nat) : Int) (ai (ei L i).ars p) = false) : iD L i = true := by
 unfold iD
 rw [Bool.and_eq_true, decide_eq_true_eq, Bool.not_eq_true']
 exact ⟨h, ve g⟩
theorem Ai (h : 0 < (ei L i).nk) : iD L i = false := by
 unfold iD
 rw [Bool.and_eq_false_iff]
 exact .inl (decide_eq_false zy)
theorem ye (hq : q < (ei L i).ars.length) (h : ai (ei L i).ars q < 0 \/ ((i : Nat) : Int) <= ai (ei L i).ars q) : iD L i = false := by
 unfold iD
 rw [Bool.and_eq_false_iff, vd hq (yV h)]
 exact .inr rfl
end

theorem jk (hs : ad) (hro : ∀ e ∈ hs, e.w = false) (L : List IE) (v : AV) (hV : IIn hs L v) (hB : ILB L) : Spec aW 23 [v] [] hs (eW (.int .i64 ((dE L : Nat) : Int))) := by
 have hBl := hB.1
 refine ak (eX 23 Tryz.func23) rfl (m := 56) rfl (rs := [.tmp 2]) rfl (st := [(0, v)]) rfl rfl (fun _ => rfl) (fun E => zr (za (zi 0) (zk (W.seq (zr (zm rfl (zq (Q.len aP rfl hV.1.len) (zq (aa rfl (zi 0) rfl (bz fe)) (zk (aw rfl (fun hc7 => ?_) (fun hc7 => ?_)))))))))))
 ·refine zr (za (zi 2) (zk (W.ret (ac (ab (z1 rfl) ?_)))))
  rw [AJ (by simpa using hc7)]; rfl
 refine zw (W.seq (zr (zm rfl (zq (Q.len aP rfl hV.1.len) (zq (aa rfl (zi 1024) rfl (gV fv)) (zk (aw rfl (fun hc10 => ?_) (fun hc10 => ?_))))))))
 ·refine zr (za (zi 3) (zk (W.ret (ac (ab (z1 rfl) ?_)))))
  rw [AK zy zy]; rfl
 refine zw (W.seq (zr (za (zi 0) (zk (W.block (az (fun (i : Nat) => [(0, v), (3, .int .i64 ((i : Nat) : Int))]) (fun (i : Nat) => hs) (fun (i : Nat) => i <= L.length /\ ∀ j, j < i -> iD L j = true) (fun (i : Nat) => L.length - i) (0) ⟨Nat.zero_le _, fun j h => absurd h (Nat.not_lt_zero _)⟩ zv (SubH.refl _) (fun i hI0 ih0 => ?_)))))))
 obtain ⟨h1, h2⟩ := hI0
 refine W.seq (zr (zm rfl (zm rfl (zq (Q.len aP rfl hV.1.len) (zq (aa rfl rfl rfl (fi fv)) (zk (aw rfl (fun hc14 => ?_) (fun hc14 => ?_))))))))
 ·obtain ⟨bv, szv, exv, rfl, wv, mv⟩ := hV.1.full zy
  have hal := (hB.at (i := i) zy).a
  refine zw (W.seq (W.block (W.seq (zr (zm rfl (zm rfl (zq (aQ aP aC rfl rfl zo) (zq (Q.fieldAddr aV rfl rfl) (zq (Q.fieldAddr cG rfl rfl) (zq (ag rfl mv jN (gG 10 zo rfl)) (zq (Q.len km rfl (hV.at zo).k.len) (zq (aa rfl (zi 0) rfl (gV fv)) (zk (aw rfl (fun hc24 => ?_) (fun hc24 => ?_)))))))))))))))
  ·refine zr (za (zi 2) (zk (W.sub (zc 2 rfl bE) (W.ret (ac (ah (ac (cW (ah (ac (ab (z1 rfl) ?_)))))))))))
   rw [p6 (i := i) zy zy zy (Ai zy)]; rfl
  refine zw (zr (za (zi 0) (zk (W.block (az (fun (q : Nat) => [(0, .slice bv 0 L.length 12), (3, .int .i64 ((i : Nat) : Int)), (4, .int .i64 ((q : Nat) : Int))]) (fun (q : Nat) => hs) (fun (q : Nat) => q <= (ei L i).ars.length /\ ∀ p, p < q -> jQ ((i : Nat) : Int) (ai (ei L i).ars p) = false) (fun (q : Nat) => (ei L i).ars.length - q) (0) ⟨Nat.zero_le _, fun j h => absurd h (Nat.not_lt_zero _)⟩ zv (SubH.refl _) (fun q hI1 ih1 => ?_))))))
  obtain ⟨h3, h4⟩ := hI1
  refine W.seq (zr (zm rfl (zm rfl (zm rfl (zq (aQ aP aC rfl rfl zo) (zq (Q.fieldAddr bP rfl rfl) (zq (ag rfl mv eZ (gG 11 zo rfl)) (zq (Q.len bh rfl (hV.at zo).a.len) (zq (aa rfl rfl rfl (fi fv)) (zk (aw rfl (fun hc32 => ?_) (fun hc32 => ?_))))))))))))
  ·obtain ⟨ba, sza, exa, hva, wa_, ma⟩ := (hV.at (i := i) zy).a.full zy
   refine zw (W.seq (W.block (zr (zm rfl (zm rfl (zq (aQ aP aC rfl rfl zo) (zq (Q.fieldAddr bP rfl rfl) (zq (ag rfl mv eZ (gG 11 zo (congrArg some hva))) (zm rfl (zq (aQ bh fP rfl rfl zo) (zq (ag rfl ma dn (iA zo)) (zq (aa rfl (zi 0) rfl (fi (cL _ _))) (zm rfl (aR (d := 44) rfl (fun hc44 => ?_) (fun hc44 => ?_)))))))))))))))
   ·refine z2 (z2 (z2 (z2 (z2 (zq (au rfl rfl) (zk (W.sub (zc 55 rfl (zc 0 rfl (zc 3 rfl (zc 4 rfl bE)))) (aO rfl (zr (za (zi 2) (zk (W.ret (ah (ac (cW (ah (ah (ac (cW (ah (ac (ab (z1 rfl) ?_))))))))))))))))))))))
    rw [p6 (i := i) zy zy zy (ye (q := q) zy zy)]; rfl
   refine zT (zm rfl (zT (zm rfl (zT (zq (aQ aP aC rfl rfl zo) (zT (zq (Q.fieldAddr bP rfl rfl) (zT (zq (ag rfl mv eZ (gG 11 zo (congrArg some hva))) (zT (zm rfl (zT (zq (aQ bh fP rfl rfl zo) (zT (zq (ag rfl ma dn (iA zo)) (zT (zm rfl (zT (zq (aa rfl rfl rfl (gU ey)) (zq (aG rfl rfl) (zk (W.sub (zc 55 rfl (zc 0 rfl (zc 3 rfl (zc 4 rfl bE)))) (aw rfl (fun hc55 => ?_) (fun hc55 => ?_))))))))))))))))))))))))
   ·refine zr (za (zi 2) (zk (W.ret (ah (ac (cW (ah (ah (ac (cW (ah (ac (ab (z1 rfl) ?_)))))))))))))
    rw [p6 (i := i) zy zy zy (ye (q := q) zy zy)]; rfl
   refine W.skip (End.KB (End.K (ay (zm rfl (zq (aa rfl (zi 1) rfl zp) (za rfl (WO.nil (End.KL (W.sub zv (bG (SubH.refl _) (ih1 (q + 1) ?_ ?_)))))))))))
   ·exact ⟨by omega, fun p hp => by rcases Nat.lt_or_ge p q with g | g; exact h4 p g; obtain rfl : p = q := zy; exact Bj zy zy⟩
   exact zo
  refine W.exit (aJ (aM (aI (End.KB (End.K (ay (zm rfl (zq (aa rfl (zi 1) rfl zp) (za rfl (WO.nil (End.KL (W.sub zv (bG (SubH.refl _) (ih0 (i + 1) ?_ ?_))))))))))))))
  ·exact ⟨by omega, fun j hj => by rcases Nat.lt_or_ge j i with g | g; exact h2 j g; obtain rfl : j = i := zy; exact Aj zy fun p hp => h4 p zy⟩
  exact zo
 refine W.exit (aJ (aM (aI (End.K (zr (za (zi 0) (zk (W.ret (ab (z1 rfl) ?_)))))))))
 rw [AL zy zy (fun j hj => h2 j zy)]; rfl

theorem w4 (hs : ad) (hro : ∀ e ∈ hs, e.w = false) (d : ND) (A : List Int) (nk : Nat) (vm vn vk va : AV) (hx : IOK hs (⟨d, A, nk, vm, vn, vk, va⟩ : IE)) (hb : IBd (⟨d, A, nk, vm, vn, vk, va⟩ : IE)) : Spec aW 77 [.agg (IE.c (⟨d, A, nk, vm, vn, vk, va⟩ : IE))] [] hs (eW (.tuple [.int .i64 d.n, .bool (decide (d.kd = 1))])) := by
 refine ak (eX 77 Tryz.func77) rfl (m := 11) rfl (rs := [.tmp 2, .tmp 3]) rfl (st := [(0, .agg (IE.c (⟨d, A, nk, vm, vn, vk, va⟩ : IE)))]) rfl rfl (fun _ => rfl) (fun E => zr (WO.box rfl hx.cells (pX _ rfl) rfl (fun b1 => za (zi 0) (za rfl (zk (W.seq (dD (by kernel_rfl) (zf aV rfl 0 (zf iN rfl 2 (zq (ag rfl (zt 0 rfl) dn rfl) (zf aV rfl 0 (zf dq rfl 0 (zq (ag rfl (zt 0 rfl) dn rfl) (zq (aa rfl (zi 1) rfl (bz bW)) (za rfl (za rfl (zk (W.ret (ab (ResL.tmp rfl (z1 rfl)) ?_)))))))))))))))))))
 rfl

theorem BR {X : List IE} {u : AV} (hs : ad) (hro : ∀ e ∈ hs, e.w = false) (hX : IIn hs X u) (hXb : ILB X) {i : Nat} (hi : i < X.length) : Spec aW 77 [.agg (ei X i).c] [] hs (eW (.tuple [.int .i64 (ei X i).d.n, .bool (decide ((ei X i).d.kd = 1))])) := by
 have h1 := hX.at hi
 have h2 := hXb.at hi
 generalize ei X i = x at *
 obtain ⟨d, A, nk, vm, vn, vk, va⟩ := x
 exact w4 hs hro d A nk vm vn vk va h1 h2
theorem pq (hs : ad) (hro : ∀ e ∈ hs, e.w = false) (X : List IE) (u : AV) (hX : IIn hs X u) (hXb : ILB X) (d : ND) (A : List Int) (nk : Nat) (vm vn vk va : AV) (hx : IOK hs (⟨d, A, nk, vm, vn, vk, va⟩ : IE)) (hb : IBd (⟨d, A, nk, vm, vn, vk, va⟩ : IE)) (hA : ∀ a ∈ A, 0 <= a /\ a < ((X.length : Nat) : Int)) : Spec aW 42 [u, .agg (IE.c (⟨d, A, nk, vm, vn, vk, va⟩ : IE))] [] hs (eW (.agg (rP X (⟨d, A, nk, vm, vn, vk, va⟩ : IE)).c)) := by
 have hxa : RIn hs 1 A.length (cA A) va := hx.a
 have hAl : A.length <= 1048576 := hb.a
 refine ak (eX 42 Tryz.func42) rfl (m := 90) rfl (rs := [.cell 4 42]) rfl (st := [(0, u), (1, .agg (IE.c (⟨d, A, nk, vm, vn, vk, va⟩ : IE)))]) rfl rfl (fun _ => rfl) (fun E => zr (WO.box rfl hx.cells (pX _ rfl) rfl (fun b1 => WO.alloc pS rfl (fun b2 => zk (zr (za rfl (zk (W.seq (zr (za (zi 0) (zk (W.block (eM (fun (i : Nat) (u2 : AV) (hq : ad) => [(0, u), (3, .ptr b1 0), (4, .ptr b2 0), (5, u2), (6, .int .i64 ((i : Nat) : Int))]) (fun (i : Nat) (u2 : AV) (hq : ad) => (⟨b2, ⟨12, true, [.int .i64 0, .str [], .int .i64 0, .nils, .int .i64 0, .int .i64 0, .int .i64 0, .nils, .int .i64 0, .bool false, .nils, .nils]⟩, true⟩ :: ⟨b1, ⟨12, true, IE.c (⟨d, A, nk, vm, vn, vk, va⟩ : IE)⟩, true⟩ :: (hs ++ hq))) (fun (i : Nat) (u2 : AV) (hq : ad) => i <= A.length /\ i <= 3 /\ OwnE 1 (cA ((oY X A).take i)) i u2 hq /\ ∀ j, j < i -> (ei X (ai A j).toNat).d.kd = 1) (fun (i : Nat) (u2 : AV) (hq : ad) => A.length - i) (0) (.nils) ([]) ⟨Nat.zero_le _, Nat.zero_le _, OwnE.nil 1, fun j h => absurd h (Nat.not_lt_zero _)⟩ zv (by rw [List.append_nil]; exact SubH.refl _) (fun i u2 hq hI0 ih0 => ?_))))))))))))))
 obtain ⟨h1, h13, hO, hk1⟩ := hI0
 refine W.seq (zr (zm rfl (zf bP rfl 11 (zq (ag rfl (zt 1 rfl) eZ rfl) (zq (Q.len bh rfl hx.a.len) (zq (aa rfl rfl rfl (fi fv)) (zm rfl (aR (d := 16) rfl (fun hc16 => ?_) (fun hc16 => ?_)))))))))
 ·have hlt : i < A.length := hc16
  refine zT (zm rfl (zT (zq (aa rfl (zi 3) rfl (fi fv)) (zq (au rfl rfl) (zk (aw rfl (fun hc19 => ?_) (fun hc19 => ?_)))))))
  ·have hq1 := hA _ (gj (A := A) (q := i) zy)
   obtain ⟨ba, sza, exa, rfl, wa_, ma⟩ := hxa.full zy
   obtain ⟨bv, szv, exv, rfl, wv, mv⟩ := hX.1.full zy
   refine zw (W.seq (W.block (zr (zm rfl (zf bP rfl 11 (zq (ag rfl (zt 1 rfl) eZ rfl) (zm rfl (zq (aQ bh fP rfl rfl zo) (zq (ag rfl (List.mem_cons_of_mem _ (List.mem_cons_of_mem _ (List.mem_append_left _ ma))) dn (kx zo hq1.1)) (zq (aQ aP aC rfl rfl zo) (zq (aD rfl (List.mem_cons_of_mem _ (List.mem_cons_of_mem _ (List.mem_append_left _ mv))) cH aC (fT zo)) (aB rfl (aY rfl oz) rfl (BR hs hro hX hXb (i := (ai A i).toNat) zy) (SubR.t (SubR.t (SubR.appl (aZ hro)))) rfl (zm rfl (zq (Q.extract rfl rfl) (zq (Q.extract rfl rfl) (za rfl (za rfl (zk (W.sub (zc 8 rfl (zc 7 rfl (zc 0 rfl (zc 3 rfl (zc 4 rfl (zc 5 rfl (zc 6 rfl bE))))))) (W.seq (zr (zm rfl (zq (Q.not rfl pi) ?_)))))))))))))))))))))))
   refine zk (aw rfl (fun hc35 => ?_) (fun hc35 => ?_))
   ·refine zr (zq (aD rfl (zt 1 rfl) cH aC (l := [_, _, _, _, _, _, _, _, _, _, _, _]) rfl) (WO.store aC rfl rfl (i := 0) rfl (dp rfl (IOK.cells hx)) (cs := [_, _, _, _, _, _, _, _, _, _, _, _]) rfl (hs' := _ :: _ :: _) rfl (zk (W.ret (ac (ah (ac (cW (ah (ac (ab (ResL.agg (c := [_, _, _, _, _, _, _, _, _, _, _, _]) rfl (zt 0 rfl) cH aC rfl ResL.nil) ?_)))))))))))
    (rw [dM (wc (j := i) zy (by simpa using hc35))]; rfl)
   refine zw (ay (zm rfl (zm rfl (WO.bslice bh fP sI rfl (gO rfl aE) rfl (cs := [_]) rfl rfl rfl (fun b3 => WO.appAny (A := ([_, _] ++ hs)) cY hO rfl rfl (Src.slice (zt 0 rfl) rfl) rfl zy (by decide) (SubH.of_sublist (List.sublist_cons_self _ _)) rfl (fun v40 hp40 hO40 => za rfl (WO.nil (End.KB (End.K (ay (zm rfl (zq (aa rfl (zi 1) rfl zp) (za rfl (WO.nil (End.KL (W.sub zv (bG gc (ih0 (i + 1) (v40) (hp40) ?_ ?_))))))))))))))))))
   ·exact ⟨by omega, by omega, by rw [qi zy]; exact hO40, fun j hj => by rcases Nat.lt_or_ge j i with q | q; exact hk1 j q; obtain rfl : j = i := zy; simpa using hc35⟩
   exact zo
  refine W.exit (aJ (aM (aI (End.K (W.seq (zr (zf aV rfl 0 (zf dq rfl 0 (zq (ag rfl (zt 1 rfl) dn rfl) (zq (aa rfl (zi 6) rfl (bz bW)) (zm rfl (aR (d := 45) rfl (fun hc45 => ?_) (fun hc45 => ?_)))))))))))))
  ·refine zT (zm rfl (zT (zq (Q.len bh rfl hO.len) (zT (zq (aa rfl (zi 1) rfl (bz fe)) (zq (au rfl rfl) (zm rfl (aR (d := 50) rfl (fun hc50 => ?_) (fun hc50 => ?_)))))))))
   ·(exfalso; omega)
   refine z2 (z2 (zq (aG rfl rfl) (zk (W.sub (zc 55 rfl (zc 3 rfl (zc 4 rfl (zc 5 rfl bE)))) (aN rfl (zw (W.seq (zr (zf aV rfl 0 (zf dq rfl 0 (zq (ag rfl (zt 1 rfl) dn rfl) (zq (aa rfl (zi 5) rfl (bz bW)) (zm rfl (aR (d := 66) rfl (fun hc66 => ?_) (fun hc66 => ?_)))))))))))))))
   ·(exfalso; omega)
   refine z2 (zG (zq (aG rfl rfl) (zk (aN rfl (zw (zr (zq (aD rfl (zt 1 rfl) cH aC (l := [_, _, _, _, _, _, _, _, _, _, _, _]) rfl) (WO.store aC rfl rfl (i := 0) rfl (dp rfl (IOK.cells hx)) (cs := [_, _, _, _, _, _, _, _, _, _, _, _]) rfl (hs' := _ :: _ :: _) rfl (zk (W.ret (ab (ResL.agg (c := [_, _, _, _, _, _, _, _, _, _, _, _]) rfl (zt 0 rfl) cH aC rfl ResL.nil) ?_)))))))))))
   (rw [dM (j2 zy)]; rfl)
  refine z2 (zG (zq (aG rfl rfl) (zm rfl (z2 (z2 (zq (aG rfl rfl) (zk (W.sub (zc 55 rfl (zc 3 rfl (zc 4 rfl (zc 5 rfl bE)))) (aN rfl (zw (W.seq (zr (zf aV rfl 0 (zf dq rfl 0 (zq (ag rfl (zt 1 rfl) dn rfl) (zq (aa rfl (zi 5) rfl (bz bW)) (zm rfl (aR (d := 66) rfl (fun hc66 => ?_) (fun hc66 => ?_)))))))))))))))))))
  ·refine zT (zm rfl (zT (zq (Q.len bh rfl hO.len) (zT (zq (aa rfl (zi 2) rfl (bz fe)) (zq (au rfl rfl) (zk (aw rfl (fun hc70 => ?_) (fun hc70 => ?_)))))))))
   ·(exfalso; omega)
   refine zw (zr (zq (aD rfl (zt 1 rfl) cH aC (l := [_, _, _, _, _, _, _, _, _, _, _, _]) rfl) (WO.store aC rfl rfl (i := 0) rfl (dp rfl (IOK.cells hx)) (cs := [_, _, _, _, _, _, _, _, _, _, _, _]) rfl (hs' := _ :: _ :: _) rfl (zk (W.ret (ab (ResL.agg (c := [_, _, _, _, _, _, _, _, _, _, _, _]) rfl (zt 0 rfl) cH aC rfl ResL.nil) ?_))))))
   (rw [dM (j2 zy)]; rfl)
  refine z2 (zG (zq (aG rfl rfl) (zk (aN rfl (zw (zr (zq (aD rfl (zt 1 rfl) cH aC (l := [_, _, _, _, _, _, _, _, _, _, _, _]) rfl) (WO.store aC rfl rfl (i := 0) rfl (dp rfl (IOK.cells hx)) (cs := [_, _, _, _, _, _, _, _, _, _, _, _]) rfl (hs' := _ :: _ :: _) rfl (zk (W.ret (ab (ResL.agg (c := [_, _, _, _, _, _, _, _, _, _, _, _]) rfl (zt 0 rfl) cH aC rfl ResL.nil) ?_)))))))))))
  (rw [dM (j2 zy)]; rfl)
 have hge : ¬ i < A.length := hc16
 obtain rfl : i = A.length := zy
 have hO2 : OwnE 1 (cA (oY X A)) A.length u2 hq := (by rw [List.take_of_length_le (by rw [eF]; exact Nat.le_refl _)] at hO; exact hO)
 refine z2 (zq (aG rfl rfl) (zk (aN rfl (W.exit (aJ (aM (aI (End.K (W.seq (zr (zf aV rfl 0 (zf dq rfl 0 (zq (ag rfl (zt 1 rfl) dn rfl) (zq (aa rfl (zi 6) rfl (bz bW)) (zm rfl (aR (d := 45) rfl (fun hc45 => ?_) (fun hc45 => ?_)))))))))))))))))
 ·refine zT (zm rfl (zT (zq (Q.len bh rfl hO.len) (zT (zq (aa rfl (zi 1) rfl (bz fe)) (zq (au rfl rfl) (zm rfl (aR (d := 50) rfl (fun hc50 => ?_) (fun hc50 => ?_)))))))))
  ·obtain ⟨b6, ex6, rfl, rfl⟩ := hO2.full zy
   refine zT (zm rfl (zT (zq (eJ bh fP rfl (zi 0) zo (o' := 0) rfl) (zT (zq (ag rfl (List.mem_cons_of_mem _ (List.mem_cons_of_mem _ (List.mem_append_right _ List.mem_cons_self))) dn (pY (A := oY X A) (q := 0) (by rw [eF]; omega))) (zT (aB rfl (aY rfl oz) rfl (fL _) SubR.nil rfl (zq (au rfl rfl) (zk (W.sub (zc 55 rfl (zc 3 rfl (zc 4 rfl (zc 5 rfl bE)))) (b9 rfl (fun hc55 => ?_) (fun hc55 => ?_))))))))))))
   ·have hfb := Bz (by simpa using hc55)
    refine zr (zm rfl (zq (eJ bh fP rfl (zi 0) zo (o' := 0) rfl) (zq (ag rfl (List.mem_cons_of_mem _ (List.mem_cons_of_mem _ (List.mem_append_right _ List.mem_cons_self))) dn (pY (A := oY X A) (q := 0) (by rw [eF]; omega))) (zq (Q.neg rfl (uQ zo)) (zq (zB B4 (gO (zi 1) (gO rfl aE)) rfl rfl) (zq (Q.build sk (gO rfl aE) rfl (cs := [_, _, _, _, _, _, _, _, _, _, _, _]) rfl) (WO.store aC rfl rfl (i := 0) rfl rfl (cs := [_, _, _, _, _, _, _, _, _, _, _, _]) rfl (hs' := _ :: _ :: _) rfl (zk (W.ret (ac (ab (ResL.agg (c := [_, _, _, _, _, _, _, _, _, _, _, _]) rfl (zt 0 rfl) cH aC rfl ResL.nil) ?_)))))))))))
    rw [mA (n := 0 - ai (oY X A) 0) (by rw [tc zy (hk1 0 zy) zy, <- fg zy, if_pos (by simpa using hc55), Int.zero_sub])]; rfl
   refine zw (W.seq (zr (zf aV rfl 0 (zf dq rfl 0 (zq (ag rfl (zt 1 rfl) dn rfl) (zq (aa rfl (zi 5) rfl (bz bW)) (zm rfl (aR (d := 66) rfl (fun hc66 => ?_) (fun hc66 => ?_)))))))))
   ·(exfalso; omega)
   refine z2 (zG (zq (aG rfl rfl) (zk (aN rfl (zw (zr (zq (aD rfl (zt 1 rfl) cH aC (l := [_, _, _, _, _, _, _, _, _, _, _, _]) rfl) (WO.store aC rfl rfl (i := 0) rfl (dp rfl (IOK.cells hx)) (cs := [_, _, _, _, _, _, _, _, _, _, _, _]) rfl (hs' := _ :: _ :: _) rfl (zk (W.ret (ab (ResL.agg (c := [_, _, _, _, _, _, _, _, _, _, _, _]) rfl (zt 0 rfl) cH aC rfl ResL.nil) ?_)))))))))))
   (rw [dM (by rw [tc zy (hk1 0 zy) zy, <- fg zy, if_neg (by simpa using hc55)])]; rfl)
  refine z2 (z2 (zq (aG rfl rfl) (zk (W.sub (zc 55 rfl (zc 3 rfl (zc 4 rfl (zc 5 rfl bE)))) (aN rfl (zw (W.seq (zr (zf aV rfl 0 (zf dq rfl 0 (zq (ag rfl (zt 1 rfl) dn rfl) (zq (aa rfl (zi 5) rfl (bz bW)) (zm rfl (aR (d := 66) rfl (fun hc66 => ?_) (fun hc66 => ?_)))))))))))))))
  ·(exfalso; omega)
  refine z2 (zG (zq (aG rfl rfl) (zk (aN rfl (zw (zr (zq (aD rfl (zt 1 rfl) cH aC (l := [_, _, _, _, _, _, _, _, _, _, _, _]) rfl) (WO.store aC rfl rfl (i := 0) rfl (dp rfl (IOK.cells hx)) (cs := [_, _, _, _, _, _, _, _, _, _, _, _]) rfl (hs' := _ :: _ :: _) rfl (zk (W.ret (ab (ResL.agg (c := [_, _, _, _, _, _, _, _, _, _, _, _]) rfl (zt 0 rfl) cH aC rfl ResL.nil) ?_)))))))))))
  (rw [dM (kH (fun q => hc50 q.2) (fun q => hc66 q.1))]; rfl)
 refine z2 (zG (zq (aG rfl rfl) (zm rfl (z2 (z2 (zq (aG rfl rfl) (zk (W.sub (zc 55 rfl (zc 3 rfl (zc 4 rfl (zc 5 rfl bE)))) (aN rfl (zw (W.seq (zr (zf aV rfl 0 (zf dq rfl 0 (zq (ag rfl (zt 1 rfl) dn rfl) (zq (aa rfl (zi 5) rfl (bz bW)) (zm rfl (aR (d := 66) rfl (fun hc66 => ?_) (fun hc66 => ?_)))))))))))))))))))
 ·refine zT (zm rfl (zT (zq (Q.len bh rfl hO.len) (zT (zq (aa rfl (zi 2) rfl (bz fe)) (zq (au rfl rfl) (zk (aw rfl (fun hc70 => ?_) (fun hc70 => ?_)))))))))
  ·obtain ⟨b6, ex6, rfl, rfl⟩ := hO2.full zy
   refine W.seq (dD (by kernel_rfl) (zf aV rfl 0 (zf iM rfl 1 (zq (ag rfl (zt 1 rfl) sN rfl) (zm rfl (zq (eJ bh fP rfl (zi 0) zo (o' := 0) rfl) (zq (ag rfl (List.mem_cons_of_mem _ (List.mem_cons_of_mem _ (List.mem_append_right _ List.mem_cons_self))) dn (pY (A := oY X A) (q := 0) (by rw [eF]; omega))) (zm rfl (zq (eJ bh fP rfl (zi 1) zo (o' := 1) rfl) (zq (ag rfl (List.mem_cons_of_mem _ (List.mem_cons_of_mem _ (List.mem_append_right _ List.mem_cons_self))) dn (pY (A := oY X A) (q := 1) (by rw [eF]; omega))) (aB rfl (aY rfl (aY rfl (aY rfl oz))) rfl (uF _ hb.d.1 _ _) SubR.nil rfl (zm rfl (zq (Q.extract rfl rfl) (zq (Q.extract rfl rfl) (za rfl (za rfl (zk (W.sub (zc 10 rfl (zc 9 rfl (zc 3 rfl (zc 4 rfl bE)))) (zr (zm rfl (zq (aa rfl (zi 0) rfl (bz fe)) (zk (aw rfl (fun hc85 => ?_) (fun hc85 => ?_))))))))))))))))))))))))
   ·refine zr (zm rfl (zq (zB B4 (gO (zi 1) (gO rfl aE)) rfl rfl) (zq (Q.build sk (gO rfl aE) rfl (cs := [_, _, _, _, _, _, _, _, _, _, _, _]) rfl) (WO.store aC rfl rfl (i := 0) rfl rfl (cs := [_, _, _, _, _, _, _, _, _, _, _, _]) rfl (hs' := _ :: _ :: _) rfl (zk (W.ret (ac (ab (ResL.agg (c := [_, _, _, _, _, _, _, _, _, _, _, _]) rfl (zt 0 rfl) cH aC rfl ResL.nil) ?_))))))))
    rw [mA (by rw [td zy (hk1 0 zy) (hk1 1 zy) zy, <- fg zy, <- fg zy, if_pos (AZ (by simpa using hc85))])]; rfl
   refine zw (zr (zq (aD rfl (zt 1 rfl) cH aC (l := [_, _, _, _, _, _, _, _, _, _, _, _]) rfl) (WO.store aC rfl rfl (i := 0) rfl (dp rfl (IOK.cells hx)) (cs := [_, _, _, _, _, _, _, _, _, _, _, _]) rfl (hs' := _ :: _ :: _) rfl (zk (W.ret (ab (ResL.agg (c := [_, _, _, _, _, _, _, _, _, _, _, _]) rfl (zt 0 rfl) cH aC rfl ResL.nil) ?_))))))
   (rw [dM (by rw [td zy (hk1 0 zy) (hk1 1 zy) zy, <- fg zy, <- fg zy, if_neg (A0 (by simpa using hc85))])]; rfl)
  refine zw (zr (zq (aD rfl (zt 1 rfl) cH aC (l := [_, _, _, _, _, _, _, _, _, _, _, _]) rfl) (WO.store aC rfl rfl (i := 0) rfl (dp rfl (IOK.cells hx)) (cs := [_, _, _, _, _, _, _, _, _, _, _, _]) rfl (hs' := _ :: _ :: _) rfl (zk (W.ret (ab (ResL.agg (c := [_, _, _, _, _, _, _, _, _, _, _, _]) rfl (zt 0 rfl) cH aC rfl ResL.nil) ?_))))))
  (rw [dM (kH (fun q => hc45 q.1) (fun q => hc70 q.2))]; rfl)
 refine z2 (zG (zq (aG rfl rfl) (zk (aN rfl (zw (zr (zq (aD rfl (zt 1 rfl) cH aC (l := [_, _, _, _, _, _, _, _, _, _, _, _]) rfl) (WO.store aC rfl rfl (i := 0) rfl (dp rfl (IOK.cells hx)) (cs := [_, _, _, _, _, _, _, _, _, _, _, _]) rfl (hs' := _ :: _ :: _) rfl (zk (W.ret (ab (ResL.agg (c := [_, _, _, _, _, _, _, _, _, _, _, _]) rfl (zt 0 rfl) cH aC rfl ResL.nil) ?_)))))))))))
 (rw [dM (kH (fun q => hc45 q.1) (fun q => hc66 q.1))]; rfl)

theorem B6 {L : List IE} {v u : AV} {hp : ad} (hs : ad) (hro : ∀ e ∈ hs, e.w = false) (hV : IIn hs L v) (hB : ILB L) {i : Nat} (hO : OwnE 12 (cI (nx L i)) i u hp) (hok : ∀ i, i < L.length -> iD L i = true) (hi : i < L.length) : Spec aW 42 [u, .agg (ei L i).c] [] (ro hp ++ hs) (eW (.agg (rP (nx L i) (ei L i)).c)) := by
 have hA := s9 (i := i) hV hB hok zy
 have h1 : IIn (ro hp ++ hs) (nx L i) u := ⟨by rw [j1]; exact (RIn.own hO).ro.appl, fun x hx => (hA x hx).1.mono (fun b o q => q.app)⟩
 have h2 : ILB (nx L i) := ⟨by have := hB.1; rw [j1]; omega, fun x hx => (hA x hx).2.2⟩
 have h3 := (hV.at hi).mono (fun b o q => q.app (A := ro hp))
 have h4 := hB.at hi
 have h5 : ∀ a ∈ (ei L i).ars, 0 <= a /\ a < (((nx L i).length : Nat) : Int) := fun a ha => by
  have := eU (hok i hi) ha
  rw [j1]; omega
 generalize ei L i = x at *
 obtain ⟨d, A, nk, vm, vn, vk, va⟩ := x
 exact pq (ro hp ++ hs) (gy hro) (nx L i) u h1 h2 d A nk vm vn vk va h3 h4 h5
theorem sn (hs : ad) (hro : ∀ e ∈ hs, e.w = false) (L : List IE) (v : AV) (hV : IIn hs L v) (hB : ILB L) : Spec aW 17 [v] [] hs (fun r D => ∃ (e : Nat) (Y : List IE) (w : AV), sJ L e (D2 Y) /\ ROwn hs Y w D /\ r = .tuple [w, .int .i64 ((e : Nat) : Int)]) := by
 have hBl := hB.1
 refine ak (eX 17 Tryz.func17) rfl (m := 28) rfl (rs := [.tmp 2, .tmp 3]) rfl (st := [(0, v)]) rfl rfl (fun _ => rfl) (fun E => zr (za rfl (za (zi 0) (zk (W.seq (zr (zm rfl (aB rfl (aY rfl oz) rfl (jk hs hro L _ hV hB) (aZ hro) rfl (za rfl (zk (zr (zm rfl (zq (aa rfl (zi 0) rfl (bV er)) (zk (aw rfl (fun hc10 => ?_) (fun hc10 => ?_))))))))))))))))
 ·refine zr (zm rfl (za rfl (za rfl (zk (W.ret ?_)))))
  refine ac (End.ret (ResL.tmp rfl (z1 rfl)) (hs' := []) ⟨dE L, [], .nils, .inl ⟨by omega, rfl, rfl⟩, ROwn.nil, rfl⟩ iC (SubH.nil _))
 obtain ⟨h0, hL, hok⟩ := iH (L := L) zy
 refine zw (zr (za rfl (zk (W.seq (zr (za (zi 0) (zk (W.block (eM (fun (i : Nat) (u : AV) (hp : ad) => [(0, v), (5, u), (6, .int .i64 ((i : Nat) : Int))]) (fun (i : Nat) (u : AV) (hp : ad) => (hs ++ hp)) (fun (i : Nat) (u : AV) (hp : ad) => i <= L.length /\ OwnE 12 (cI (nx L i)) i u hp) (fun (i : Nat) (u : AV) (hp : ad) => L.length - i) (0) (.nils) ([]) ⟨Nat.zero_le _, OwnE.nil 12⟩ zv (by rw [List.append_nil]; exact SubH.refl _) (fun i u hp hI0 ih0 => ?_))))))))))
 obtain ⟨h3, hO⟩ := hI0
 refine W.seq (zr (zm rfl (zm rfl (zq (Q.len aP rfl hV.1.len) (zq (aa rfl rfl rfl (fi fv)) (zk (aw rfl (fun hc15 => ?_) (fun hc15 => ?_))))))))
 ·obtain ⟨bv, szv, exv, rfl, wv, mv⟩ := hV.1.full zy
  refine zw (W.seq (W.block (ay (zm rfl (zm rfl (zm rfl (zm rfl (zq (aQ aP aC rfl rfl zo) (zq (aD rfl (List.mem_append_left _ mv) cH aC (fT zo)) (aB rfl (aY rfl (aY rfl oz)) rfl (B6 hs hro hV hB hO hok zy) (dH gc hro) rfl (WO.bslice aP aC pG rfl (gO rfl aE) rfl (cs := [_, _, _, _, _, _, _, _, _, _, _, _]) rfl (IOK.cells (v8 (X := nx L i) (hV.at (i := i) zy))) rfl (fun b1 => WO.appAny (A := ([] ++ hs)) fm hO rfl rfl (Src.slice (zt 0 rfl) rfl) rfl zy (by decide) (SubH.of_sublist (List.sublist_cons_self _ _)) rfl (fun v26 hp26 hO26 => za rfl (WO.nil (End.KB (End.K (ay (zm rfl (zq (aa rfl (zi 1) rfl zp) (za rfl (WO.nil (End.KL (W.sub zv (bG gc (ih0 (i + 1) (v26) (hp26) ?_ ?_)))))))))))))))))))))))))
  ·exact ⟨by omega, by rw [nx, fp]; exact hO26⟩
  exact zo
 refine W.exit (aJ (aM (aI (End.K (zr (zm rfl (za rfl (za (zi 0) (zk (W.ret ?_))))))))))
 refine End.ret (ResL.tmp rfl (z1 rfl)) (hs' := hp) ⟨0, nx L i, u, .inr ⟨by omega, rfl, by rw [By, show i = L.length by omega]; unfold wh; rw [aK]⟩, uC hV hB zy hok hO, rfl⟩ (OwnE.w hO) gc

end Go.Proofs.YtndhhgbpcmfeiaaGreatDoor.Ev
