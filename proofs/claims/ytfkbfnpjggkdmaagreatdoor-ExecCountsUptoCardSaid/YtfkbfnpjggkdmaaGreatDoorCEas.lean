/- Chapter 21: what an aggregation tells at a moment. -/
import Derived.Test.YtfkbfnpjggkdmaaGreatDoorCEap
import Derived.Test.YtfkbfnpjggkdmaaGreatDoorCCnt6
namespace Go.Proofs.YtfkbfnpjggkdmaaGreatDoor.Ev
open Go.RowKit
set_option maxRecDepth 100000
set_option maxHeartbeats 1000000
theorem BH : FA tab 53 6 = some (6, 0 + 1) := by kernel_rfl
theorem Gl (y : AV) (hy : y.isCell = true) : Spec tab 156 [y, .int .i64 ((0 : Nat) : Int)] [] [] (bN (.agg [.int .i64 ((2 : Nat) : Int), .int .i64 0, y, .nils])) := by
 refine ac (bz 156 Tryz.func156) rfl (m := 9) rfl (rs := [.cell 4 136]) rfl (st := [(0, y), (1, .int .i64 ((0 : Nat) : Int))]) rfl rfl (fun _ => rfl) (fun E => zr (WO.alloc ll rfl (fun b1 => zk (zr (zm rfl (ak rfl (aj rfl oz) rfl gM SubR.nil rfl (zk (zr (zm rfl (zq (Q.build yr (cy (zi 2) (cy rfl dE)) rfl (cs := [_, _, _, _]) (by simp only [cJ, cp hy]; rfl)) (WO.store di rfl rfl (i := 0) rfl (au rfl (au rfl (au rfl (au hy rfl)))) (cs := [_, _, _, _]) rfl (hs' := [_]) rfl (zk (W.ret (ae (ResL.agg (c := [_, _, _, _]) rfl (zt 0 rfl) jF di rfl ResL.nil) ?_))))))))))))))
 rfl

theorem Jx (hs : af) (hro : ∀ e ∈ hs, e.w = false) (V : List El) (v : AV) (hE : EIn hs V v) (hEA : EAll hs V) (hEb : EBd V) (N : List Nat) (hN : V.map (fun x => x.2.2) = N.map fun x => ((x : Nat) : Int)) (hNb : N.sum <= 1152921504606846976) (hck : P19.vchk V = 0) (X o2 a2 ab : Nat) (xab : Bool) (t : Nat) : Spec tab 124 [.ptr X 0, .ptr o2 0, .slice ab 0 1 4, .int .i64 ((t : Nat) : Int)] [] (⟨ab, ⟨4, xab, [.int .i64 ((2 : Nat) : Int), .int .i64 0, v, .nils]⟩, false⟩ :: ⟨o2, ⟨15, true, [.int .i64 ((4 : Nat) : Int), .str [115, 117, 109], .int .i64 0, .nils, .int .i64 0, .int .i64 0, .int .i64 0, .nils, .int .i64 0, .bool false, .nils, .slice a2 0 1 1, .int .i64 0, .nils, .func 124 [.tuple [], .ptr X 0]]⟩, false⟩ :: hs) (fun u D => ∃ (U : List El) (y : AV), u = .agg [.int .i64 ((2 : Nat) : Int), .int .i64 0, y, .nils] /\ OwnE 2 (cE U) U.length y D /\ U = uU V.length N) := by
 refine ac (bz 124 Tryz.func124) rfl (m := 44) rfl (rs := [.cell 8 136]) rfl (st := [(0, .ptr X 0), (1, .ptr o2 0), (2, .slice ab 0 1 4), (3, .int .i64 ((t : Nat) : Int))]) rfl rfl (fun _ => rfl) (fun E => zr (WO.alloc ll rfl (fun b1 => zk (zr (za (zi 0) (zk (W.seq (zr (zm rfl (zq (Q.len i7 rfl rfl) (zq (aa rfl (zi 2) rfl (ai (p := false) rfl)) (zk (W.condF rfl (zw (W.seq (cX (by kernel_rfl) (zm rfl (zq (aY rfl) (zf de rfl 0 (zf jl rfl 1 (zq (ag rfl (zt 2 rfl) gP rfl) (zm rfl (zq (aY rfl) ?_)))))))))))))))))))))))
 refine zf de rfl 0 (zf BH rfl 6 (zq (ag rfl (zt 2 rfl) bH rfl) (zm rfl (zq (aY rfl) (zf de rfl 0 (zf kS rfl 7 (zq (ag rfl (zt 2 rfl) yQ rfl) (zm rfl (zm rfl (zm rfl (zq (Q.len i7 rfl rfl) (zq (aa rfl (zi 1) rfl (bM (c := (((0 : Nat)) : Int)) (by decide))) (zq (ao i7 di rfl rfl zo (o' := 0) rfl) (zf wT rfl 2 (zq (ag rfl (zt 1 rfl) uT rfl) (WO.call0 rfl (aj rfl (aj rfl (aj rfl (aj rfl (aj rfl oz))))) rfl (H7 hs hro V v hE hEA hEb N hN hNb hck) (aQ (aQ (aQ (aN hro)))) rfl (fun v40 D40 hP40 => ?_)))))))))))))))))
 obtain ⟨U, y, rfl, hO40, rfl⟩ := hP40
 refine WO.subH (hs' := _ :: _ :: _ :: (hs ++ D40)) (SubH.op (aw (N := []) (G := D40) (K := [_, _, _]) (X := hs))) (zq (Q.extract rfl rfl) (zq (Q.extract rfl rfl) (ak rfl (aj rfl (aj rfl oz)) rfl (Gl y (OwnE.cell hO40)) SubR.nil rfl (WO.store di rfl rfl (i := 0) rfl (au rfl (au rfl (au rfl (au (OwnE.cell hO40) rfl)))) (cs := [_, _, _, _]) rfl (hs' := _ :: _ :: _ :: _) rfl (zk (W.sub (zc 8 rfl aI) (W.ret ?_)))))))
 refine End.ret (ResL.agg (c := [_, _, _, _]) rfl (zt 0 rfl) jF di rfl ResL.nil) (hs' := D40) ⟨_, y, rfl, hO40, rfl⟩ hO40.w (SubH.trans gc (SubH.of_sublist (List.sublist_append_right [_, _, _] _)))

theorem SubH.ix {K A S S' : af} {ix : List Nat} (hA : (ix.filterMap fun i => K[i]?) = A) (hn : ix.Nodup) (h : SubH S S') : SubH (A ++ S) (K ++ S') := by
 subst hA
 have hm : ∀ x ∈ ix.filterMap (fun i => K[i]?), x ∈ K := by
  intro x hx
  obtain ⟨i, _, hi⟩ := List.mem_filterMap.1 hx
  exact List.mem_of_getElem? hi
 refine ⟨fun e he => ?_, fun hd => ?_⟩
 ·rcases List.mem_append.1 he with he | he
  ·exact List.mem_append_left _ (hm e he)
  ·exact List.mem_append_right _ (h.1 e he)
 ·rw [List.map_append] at hd ⊢
  obtain ⟨n1, n2, n3⟩ := List.nodup_append.1 hd
  refine List.nodup_append.2 ⟨?_, h.2 n2, fun x hx y hy => ?_⟩
  ·unfold List.Nodup
   rw [List.pairwise_map, List.pairwise_filterMap]
   refine List.Pairwise.imp ?_ hn
   intro i j hij a ha b hb hab
   exact hij (px n1 (x := a.b) (by rw [List.getElem?_map, ha]; rfl) (by rw [List.getElem?_map, hb, hab]; rfl))
  ·obtain ⟨e, he, rfl⟩ := List.mem_map.1 hx
   obtain ⟨z, hz, rfl⟩ := List.mem_map.1 hy
   exact n3 e.b (List.mem_map.2 ⟨e, hm e he, rfl⟩) z.b (List.mem_map.2 ⟨_, h.1 z hz, rfl⟩)
theorem D4 {O : List bV} {x : bV} (h : x ∈ O) : (x.2.1, x.2.2.2) ∈ aV O := List.mem_map.2 ⟨x, h, rfl⟩
theorem E6 {L : List (List bA × List bP)} {e r : Int} {z : List bA × List bP} (h : z ∈ jx L e r) : ∃ y ∈ L, z.1 = y.1 /\ z.2 = fQ y.2 e r /\ 0 < z.2.length := by
 obtain ⟨y, hy, g⟩ := List.mem_filterMap.1 h
 split at g
 ·rename_i h1
  cases g
  exact ⟨y, hy, rfl, rfl, h1⟩
 ·cases g
theorem CA {L : List (List bA × List bP)} {O : List bV} {e r : Int} (h : aV O = jx L e r) {x : bV} (hx : x ∈ O) : ∃ y ∈ L, x.2.1 = y.1 /\ x.2.2.2 = fQ y.2 e r /\ 0 < x.2.2.2.length := E6 (by rw [<- h]; exact D4 hx)
abbrev Kn (R : List bV) (G : af) (O : List bV) : Prop := ∀ x ∈ O, (∃ y ∈ R, x.1 = y.1 /\ x.2.1 = y.2.1) /\ SIn G x.2.2.2 x.2.2.1 /\ SBd x.2.2.2
theorem J0 {R O : List bV} {G : af} (hb : kp R) (h : Kn R G O) (hl : O.length <= R.length) : kp O := ⟨Nat.le_trans hl hb.1, fun x hx => by
 obtain ⟨⟨y, hy, _, e⟩, _, h3⟩ := h x hx
 exact ⟨by rw [e]; exact (hb.2 y hy).1, h3⟩⟩
theorem I0 {R O : List bV} {hs G H : af} (hA : RAll hs R) (h : Kn R G O) (m1 : ∀ b o, MemH hs b o -> MemH H b o) (m2 : ∀ b o, MemH G b o -> MemH H b o) : RAll H O := fun x hx => by
 obtain ⟨⟨y, hy, e1, e2⟩, h2, h3⟩ := h x hx
 exact ⟨by rw [e1, e2]; exact (hA y hy).1.mono m1, h2.mono m2⟩
theorem I4 {L : List (List bA × List bP)} {O : List bV} {e r : Int} (h : aV O = jx L e r) : Aq O := fun x hx => let ⟨_, _, _, _, g⟩ := CA h hx; g
def rj (L : List (List bA × List bP)) : Prop := ∀ x ∈ L, P19.lchk x.1 = 0 /\ ep x.2 x.2.length
theorem G3 {L : List (List bA × List bP)} {O : List bV} {e r : Int} (h : aV O = jx L e r) (hk : rj L) : ∀ x ∈ O, ep x.2.2.2 x.2.2.2.length := fun x hx => by
 obtain ⟨y, hy, _, e2, _⟩ := CA h hx
 rw [e2]
 exact mS (hk y hy).2 (CL _ _ _)
theorem sC {O : List bV} {Y : List El} (hp : (Y.map (·.2)).Perm (sU (aV O))) {x : El} (hx : x ∈ Y) : ∃ y ∈ O, x.2.1 = y.2.1.filter (P19.dropP [[95, 95, 110, 97, 109, 101, 95, 95]]) /\ x.2.2 = ((y.2.2.2.length * 1000000 : Nat) : Int) := by
 have hm : x.2 ∈ sU (aV O) := hp.mem_iff.1 (List.mem_map.2 ⟨x, hx, rfl⟩)
 obtain ⟨z, hz, e⟩ := List.mem_map.1 hm
 obtain ⟨y, hy, rfl⟩ := List.mem_map.1 hz
 exact ⟨y, hy, by rw [<- e], by rw [<- e]⟩
theorem vO {O : List bV} {Y : List El} (hp : (Y.map (·.2)).Perm (sU (aV O))) : Y.length = O.length := by
 have := hp.length_eq
 simpa [sU, aV] using this
theorem G6 {O : List bV} {Y : List El} (hb : kp O) (hp : (Y.map (·.2)).Perm (sU (aV O))) : EBd Y := ⟨by rw [vO hp]; exact hb.1, fun x hx => by
 obtain ⟨y, hy, e, _⟩ := sC hp hx
 have hyb := (hb.2 y hy).1
 rw [e]
 exact ⟨Nat.le_trans (List.length_filter_le _ _) hyb.1, fun q hq => hyb.2 q (List.mem_filter.1 hq).1⟩⟩
theorem C4 : ∀ {A B : List Nat}, A.Perm B -> A.sum = B.sum := by
 intro A B h
 induction h with
 | nil => rfl
 | cons x _ ih => rw [List.sum_cons, List.sum_cons, ih]
 | swap x y l => simp only [List.sum_cons]; omega
 | trans _ _ h1 h2 => exact h1.trans h2
theorem CB : ∀ L : List (List bA × List bP), ((sU L).map fun p => p.2.toNat).sum = (L.map fun x => x.2.length).sum * 1000000
 | [] => rfl
 | x :: L => by
  have := CB L
  unfold sU at *
  rw [List.map_cons, List.map_cons, List.sum_cons, this, List.map_cons, List.sum_cons, Nat.add_mul]
  rfl
theorem G8 {O : List bV} {Y : List El} (hp : (Y.map (·.2)).Perm (sU (aV O))) : ∃ N : List Nat, Y.map (fun x => x.2.2) = N.map (fun x => ((x : Nat) : Int)) /\ N.sum = ((aV O).map fun x => x.2.length).sum * 1000000 := by
 refine ⟨Y.map fun x => x.2.2.toNat, ?_, ?_⟩
 ·rw [List.map_map]
  refine List.map_congr_left fun x hx => ?_
  obtain ⟨y, hy, _, e⟩ := sC hp hx
  show x.2.2 = ((x.2.2.toNat : Nat) : Int)
  rw [e]; rfl
 ·have := C4 (hp.map fun p : List bA × Int => p.2.toNat)
  rw [CB, List.map_map] at this
  exact this
theorem G7 {L : List (List bA × List bP)} {O : List bV} {Y : List El} {e r : Int} (h0 : aV O = jx L e r) (hk : rj L) (hp : (Y.map (·.2)).Perm (sU (aV O))) (hs : SrtI sT Y Y.length) (hl : O.length <= 256) (hb : kp O) : P19.vchk Y = 0 := by
 refine Fk (by rw [vO hp]; exact hl) (fun x hx => ?_) hs fun x hx => ?_
 ·obtain ⟨y, hy, e1, _⟩ := sC hp hx
  obtain ⟨z, hz, e2, _⟩ := CA h0 hy
  rw [e1, e2]
  exact tX (hk z hz).1 _
 ·obtain ⟨y, hy, _, e2⟩ := sC hp hx
  have h3 : y.2.2.2.length <= 1048576 := (hb.2 y hy).2
  unfold P19.fitB
  rw [e2, decide_eq_true zy, decide_eq_true zy]
  rfl
theorem vW : ∀ {A : List Nat} {k : Nat}, (∀ x ∈ A, x <= k) -> A.sum <= A.length * k
 | [], k, _ => Nat.zero_le _
 | x :: A, k, h => by
  have h1 := h x List.mem_cons_self
  have h2 := vW fun y hy => h y (List.mem_cons_of_mem _ hy)
  rw [List.sum_cons, List.length_cons, Nat.add_mul]
  omega
theorem I5 {O : List bV} (hb : kp O) (hl : O.length <= 256) : ((aV O).map fun x => x.2.length).sum * 1000000 <= 1152921504606846976 := by
 have := vW (A := (aV O).map fun x => x.2.length) (k := 1048576) (fun x hx => by
  obtain ⟨z, hz, rfl⟩ := List.mem_map.1 hx
  obtain ⟨y, hy, rfl⟩ := List.mem_map.1 hz
  exact (hb.2 y hy).2)
 rw [List.length_map, show (aV O).length = O.length from List.length_map _] at this
 have h2 : O.length * 1048576 <= 268435456 := by omega
 exact Nat.le_trans (Nat.mul_le_mul_right 1000000 (Nat.le_trans this h2)) (Nat.le_of_ble_eq_true rfl)
def l9 (L : List (List bA × List bP)) (e r : Int) : List El := if (jx L e r).length = 0 then [] else [(.nils, [], ((u9 L e r * 1000000 : Nat) : Int))]
theorem H6 {L : List (List bA × List bP)} {O : List bV} {Y : List El} {N : List Nat} {e r : Int} (h0 : aV O = jx L e r) (hp : (Y.map (·.2)).Perm (sU (aV O))) (hN : N.sum = ((aV O).map fun x => x.2.length).sum * 1000000) : uU Y.length N = l9 L e r := by
 unfold uU l9
 rw [hN, vO hp, h0, pJ, <- h0, show (aV O).length = O.length from List.length_map _]
theorem AE (L : List (List bA × List bP)) (e r : Int) : ((l9 L e r).map fun x => x.2.2) = (i6 L e r).map fun x => ((x : Nat) : Int) := by
 unfold l9 i6
 split <;> rfl
theorem AD {hs : af} {L : List (List bA × List bP)} {e r : Int} : EAll hs (l9 L e r) := fun x hx => by
 unfold l9 at hx
 split at hx
 ·simp at hx
 ·rw [List.mem_singleton.1 hx]
  exact .inl ⟨rfl, rfl⟩
theorem DJ {L : List (List bA × List bP)} {e r : Int} : EBd (l9 L e r) := by
 unfold l9
 split
 ·exact ⟨Nat.zero_le _, fun x hx => by simp at hx⟩
 ·refine ⟨by simp, fun x hx => ?_⟩
  rw [List.mem_singleton.1 hx]
  exact ⟨Nat.zero_le _, fun y hy => by simp at hy⟩
theorem JT (hs : af) (hro : ∀ e ∈ hs, e.w = false) (M : List ed) (vm : AV) (hM : ISm hs M vm) (hok : nB M) (R : List bV) (sv : AV) (hR : RSl hs R 0 sv) (hRA : RAll hs R) (hRb : kp R) (hRp : Aq R) (hk : rj (aV R)) (X : Nat) (xX xl xa1 xa2 : Bool) (lb ob o1 o2 a1 a2 c r : Nat) (hr0 : 0 < r) (hrb : r <= 2147483648) (hc : c + R.length * 1048576 <= 1099511627776) (hR2 : R.length <= 256) (t : Nat) (ht : t <= 1099511627776) : SpecX jC tab 56 [.ptr X 0, .int .i64 ((t : Nat) : Int)] [X] (⟨X, ⟨3, xX, [(.slice lb 0 3 1), .int .i64 ((1099511627776 : Nat) : Int), .int .i64 ((c : Nat) : Int)]⟩, true⟩ :: ⟨lb, ⟨1, xl, [.ptr ob 0, .ptr o1 0, .ptr o2 0]⟩, false⟩ :: ⟨ob, ⟨15, true, [.int .i64 ((2 : Nat) : Int), .str [], .int .i64 0, vm, .int .i64 ((r : Nat) : Int), .int .i64 ((0 : Nat) : Int), .int .i64 0, .nils, .int .i64 0, .bool false, .nils, .nils, .int .i64 0, sv, .func 120 [.tuple [], .ptr X 0]]⟩, false⟩ :: ⟨o1, ⟨15, true, [.int .i64 ((3 : Nat) : Int), .str [99, 111, 117, 110, 116, 95, 111, 118, 101, 114, 95, 116, 105, 109, 101], .int .i64 0, .nils, .int .i64 0, .int .i64 0, .int .i64 0, .nils, .int .i64 0, .bool false, .nils, .slice a1 0 1 1, .int .i64 ((r : Nat) : Int), .nils, .func 122 [.tuple [], .ptr X 0]]⟩, false⟩ :: ⟨o2, ⟨15, true, [.int .i64 ((4 : Nat) : Int), .str [115, 117, 109], .int .i64 0, .nils, .int .i64 0, .int .i64 0, .int .i64 0, .nils, .int .i64 0, .bool false, .nils, .slice a2 0 1 1, .int .i64 0, .nils, .func 124 [.tuple [], .ptr X 0]]⟩, false⟩ :: ⟨a1, ⟨1, xa1, [.int .i64 ((0 : Nat) : Int)]⟩, false⟩ :: ⟨a2, ⟨1, xa2, [.int .i64 ((1 : Nat) : Int)]⟩, false⟩ :: hs) (fun v D => ∃ (y : AV) (h3 : af) (n : Nat), v = .agg [.int .i64 ((2 : Nat) : Int), .int .i64 0, y, .nils] /\ D = ⟨X, ⟨3, xX, [(.slice lb 0 3 1), .int .i64 ((1099511627776 : Nat) : Int), .int .i64 ((c + n : Nat) : Int)]⟩, true⟩ :: h3 /\ OwnE 2 (cE (l9 (aV R) ((t : Nat) : Int) ((r : Nat) : Int))) (l9 (aV R) ((t : Nat) : Int) ((r : Nat) : Int)).length y h3 /\ n <= R.length * 1048576) (fun l => l = [.int .i64 ((17 : Nat) : Int)]) := by
 refine SpecX.enter (bz 56 Tryz.func56) rfl (m := 61) rfl (rs := [.cell 4 136]) rfl (st := [(0, .ptr X 0), (1, .int .i64 ((t : Nat) : Int))]) rfl rfl (fun _ => rfl) rfl (fun E => Ev.X.seq (Ev.X.w (W.reg (WO.alloc ll rfl (fun b1 => WO.nil (XEnd.K (Ev.X.seq (Ev.X.w (W.reg (zm rfl (zq (aY rfl) (zf eS rfl 0 (zq (ag rfl (zt 1 rfl) kq rfl) (zq (Q.len gC rfl rfl) (Av IX (zi 0) rfl zo rfl (fun b2 => za rfl (WO.nil (XEnd.K (Ev.X.seq (Ev.X.seq (Ev.X.w (W.reg (zm rfl (zq (aY rfl) (zf eS rfl 0 (zq (ag rfl (zt 2 rfl) kq rfl) ?_))))))))))))))))))))))))))
 refine zq (Q.len gC rfl rfl) (zq (Q.move (zi 0)) (WO.nil (XEnd.K (Ev.X.block (Ev.X.loop (Ev.X.seq (Ev.X.w (W.reg (zq (aa rfl rfl rfl (bu (p := true) rfl)) (WO.nil (XEnd.K (Ev.X.seq (Ev.X.condT rfl (Ev.X.skip (XEnd.K (Ev.X.seq (Ev.X.block (Ev.X.seq (Ev.X.w (W.reg (zq (ao gC i5 rfl rfl zo (o' := 0) rfl) (zq (ag rfl (zt 3 rfl) kr rfl) (za rfl (WO.nil (XEnd.K ?_)))))))))))))))))))))))))
 refine Ev.X.seq (Ev.X.w (W.reg (za rfl (WO.nil (XEnd.K (Ev.X.seq (Ev.X.seq (Ev.X.w (W.reg (zm rfl (zq (aY rfl) (zf r8 rfl 11 (zq (ag rfl (zt 4 rfl) iF rfl) (zq (Q.len aP rfl rfl) (zq (Q.move (zi 0)) (WO.nil (XEnd.K (Ev.X.sub (zc 31 rfl (zc 30 rfl (zc 29 rfl (zc 8 rfl (zc 7 rfl (zc 22 rfl (zc 21 rfl (zc 20 rfl (zc 5 rfl (zc 4 rfl (zc 1 rfl aI))))))))))) (Ev.X.block (Ev.X.loop (Ev.X.seq (Ev.X.w (W.reg (zq (aa rfl rfl rfl (bu (p := false) rfl)) (WO.nil (XEnd.K ?_))))))))))))))))))))))))))
 refine Ev.X.seq (Ev.X.condF rfl (Ev.X.exit (bF (bD (bJ (XEnd.K (Ev.X.reg (XO.pre 8 (zm rfl (zm rfl (zq (aY rfl) (zf sa rfl 14 (zq (ag rfl (zt 4 rfl) Az rfl) (zm rfl (zm rfl (zm rfl (WO.nil (eC (XO.call1 rfl (aj rfl (aj rfl (aj rfl oz))) rfl (i := 2) rfl (Spec.x (B := fun l => l = [.int .i64 ((17 : Nat) : Int)]) (C2 hs hro M vm hM hok R sv hR hRA hRb hRp X xX (.slice lb 0 3 1) ob c r hr0 zy hc hR2 .nils t ht)) (SubR.ix (K := [_, _, _, _, _, _, _, _]) (ix := [3]) (A := [_]) rfl (by decide) (aN hro)) (hs' := _ :: _ :: _ :: _ :: _ :: _ :: _ :: _ :: _) rfl rfl (fun l hB tm h ht hh => by show _ /\ _; exact ⟨hB, hh.fr⟩) (fun v51 D51 hP51 => ?_))))))))))))))))))))
 obtain ⟨ov, O, G1, h1, n, rfl, rfl, hO, hOR, hOc, hG1, hOl, hn⟩ := hP51
 have hOb := J0 hRb hOR hOl
 have hO2 : O.length <= 256 := Nat.le_trans hOl hR2
 refine XO.subH (hs' := _ :: _ :: _ :: _ :: _ :: _ :: _ :: _ :: _ :: (hs ++ (G1 ++ h1))) (SubH.op (aw (N := [_]) (G := (G1 ++ h1)) (K := [_, _, _, _, _, _, _, _]) (X := hs))) (XO.pre 3 (WO.bslice i7 di uE rfl (cy rfl dE) rfl (cs := [_, _, _, _]) rfl (au rfl (au rfl (au rfl (au (OwnE.cell hO) rfl)))) rfl (fun b3 => ou iT rfl rfl (i := 2) rfl (zt 0 rfl) (l := [_, _, _, _]) rfl zo (by first | decide | exact Nat.le_of_ble_eq_true rfl) rfl (hs' := _ :: _ :: _ :: _ :: _ :: _ :: _ :: _ :: _ :: _ :: _) rfl rfl (za rfl (WO.nil (eC (XO.nil (XEnd.KB (XEnd.K (Ev.X.sub (zc 5 rfl (zc 22 rfl (zc 21 rfl (zc 20 rfl (zc 4 rfl (zc 1 rfl aI)))))) (Ev.X.w (W.reg (zq (aa rfl (zi 1) rfl (bc (c := (((1 : Nat)) : Int)) (by decide))) (zm rfl (WO.nil (XEnd.KL (Ev.X.loop (Ev.X.seq (Ev.X.w (W.reg (zq (aa rfl rfl rfl (bu (p := true) rfl)) (WO.nil (XEnd.K (Ev.X.seq (Ev.X.condT rfl (Ev.X.skip ?_))))))))))))))))))))))))))
 refine XEnd.K (Ev.X.seq (Ev.X.block (Ev.X.seq (Ev.X.w (W.reg (zq (ao gC i5 rfl rfl zo (o' := 1) rfl) (zq (ag rfl (zt 4 rfl) kr rfl) (za rfl (WO.nil (XEnd.K (Ev.X.seq (Ev.X.w (W.reg (za rfl (WO.nil (XEnd.K (Ev.X.seq (Ev.X.seq (Ev.X.w (W.reg (zm rfl (zq (aY rfl) (zf r8 rfl 11 (zq (ag rfl (zt 6 rfl) iF rfl) (zq (Q.len aP rfl rfl) (zq (Q.move (zi 0)) ?_))))))))))))))))))))))))))
 refine WO.nil (XEnd.K (Ev.X.block (Ev.X.loop (Ev.X.seq (Ev.X.w (W.reg (zq (aa rfl rfl rfl (bu (p := true) rfl)) (WO.nil (XEnd.K (Ev.X.seq (Ev.X.condT rfl (Ev.X.skip (XEnd.K (Ev.X.seq (Ev.X.block (Ev.X.seq (Ev.X.w (W.reg (zq (ao aP dn rfl rfl zo (o' := 0) rfl) (zq (ag rfl (zt 8 rfl) bH rfl) (za rfl (WO.nil (XEnd.K (Ev.X.w (W.reg (zm rfl ?_))))))))))))))))))))))))))
 refine zm rfl (zm rfl (zq (ao i7 di rfl rfl zo (o' := 0) rfl) (zq (ax rfl (zt 2 rfl) jF di (l := [_, _, _, _]) rfl) (WO.bslice i7 di uE rfl (cy rfl dE) rfl (cs := [_, _, _, _]) rfl (au rfl (au rfl (au rfl (au (OwnE.cell hO) rfl)))) rfl (fun b5 => j6 (e := ⟨b5, _, true⟩) (A := ([_, _, _, _, _, _, _, _, _, _] ++ hs ++ (G1 ++ h1))) iT rfl rfl rfl rfl ⟨by first | omega | (simp at * <;> omega), by first | omega | (simp at * <;> omega)⟩ (by decide) rfl rfl (fun v41 hp41 hO41 => ?_))))))
 obtain ⟨b41, ex41, rfl, rfl⟩ := hO41.full zy
 refine WO.subH (hs' := _ :: (([_, _, _, _, _, _, _, _, _, _] ++ hs ++ (G1 ++ h1)))) (SubH.op (List.perm_append_singleton _ _).symm) (za rfl (WO.nil (XEnd.KB (XEnd.K (Ev.X.sub (zc 8 rfl (zc 31 rfl (zc 30 rfl (zc 29 rfl (zc 7 rfl (zc 22 rfl (zc 5 rfl (zc 21 rfl (zc 20 rfl (zc 4 rfl (zc 1 rfl aI))))))))))) (Ev.X.w (W.reg (zq (aa rfl (zi 1) rfl (bc (c := (((1 : Nat)) : Int)) (by decide))) (zm rfl (WO.nil (XEnd.KL (Ev.X.loop (Ev.X.seq (Ev.X.w (W.reg (zq (aa rfl rfl rfl (bu (p := false) rfl)) (WO.nil (XEnd.K (Ev.X.seq (Ev.X.condF rfl (Ev.X.exit (bF (bD (bJ (XEnd.K (Ev.X.reg (XO.pre 8 (zm rfl (zm rfl ?_)))))))))))))))))))))))))))))
 refine zq (aY rfl) (zf sa rfl 14 (zq (ag rfl (zt 7 rfl) Az rfl) (zm rfl (zm rfl (zm rfl (WO.nil (eC (XO.call (M := []) (A := _) rfl (aj rfl (aj rfl (aj rfl oz))) rfl dB (SubH.refl _) (G9 (ro (hs ++ (G1 ++ h1))) ie O ov ((RSl.own hO).mono fun b o h => h.app.app.ro) (I0 hRA hOR (fun b o h => (MemH.ap1 h).ro) (fun b o h => (MemH.app (MemH.ap1 h)).ro)) hOb (I4 hOc) (G3 hOc hk) X o1 a1 b41 ex41 r hr0 hrb t) (SubR.ix (K := [_, _, _, _, _, _, _, _, _, _, _]) (ix := [0, 7]) (A := [_, _]) rfl (by decide) (SubR.ro (SubH.refl _))) rfl (fun l hB tm h ht hh => by show _ /\ _; exact ⟨hB, hh.fr⟩) (fun v51 D51 hP51 => ?_)))))))))
 obtain ⟨Y, wv, G2, h2, rfl, rfl, hY, hYA, hYp, hYs, hG2⟩ := hP51
 obtain ⟨N, hN, hNs⟩ := G8 hYp
 have hYc := G7 hOc hk hYp hYs hO2 hOb
 refine XO.subH (hs' := _ :: _ :: _ :: _ :: _ :: _ :: _ :: _ :: _ :: _ :: _ :: (hs ++ (G1 ++ h1) ++ (G2 ++ h2))) (SubH.op (aw (N := []) (G := (G2 ++ h2)) (K := [_, _, _, _, _, _, _, _, _, _, _]) (X := hs ++ (G1 ++ h1)))) (XO.pre 3 (WO.bslice i7 di uE rfl (cy rfl dE) rfl (cs := [_, _, _, _]) rfl (au rfl (au rfl (au (OwnE.cell hY) rfl))) rfl (fun b7 => ou iT rfl rfl (i := 4) rfl (zt 0 rfl) (l := [_, _, _, _]) rfl zo (by first | decide | exact Nat.le_of_ble_eq_true rfl) rfl (hs' := _ :: _ :: _ :: _ :: _ :: _ :: _ :: _ :: _ :: _ :: _ :: _ :: _) rfl rfl (za rfl (WO.nil (eC (XO.nil (XEnd.KB (XEnd.K (Ev.X.sub (zc 5 rfl (zc 22 rfl (zc 21 rfl (zc 20 rfl (zc 4 rfl (zc 1 rfl aI)))))) (Ev.X.w (W.reg (zq (aa rfl (zi 1) rfl (bc (c := (((2 : Nat)) : Int)) (by decide))) (zm rfl (WO.nil (XEnd.KL (Ev.X.loop (Ev.X.seq (Ev.X.w (W.reg (zq (aa rfl rfl rfl (bu (p := true) rfl)) (WO.nil (XEnd.K (Ev.X.seq (Ev.X.condT rfl (Ev.X.skip ?_))))))))))))))))))))))))))
 refine XEnd.K (Ev.X.seq (Ev.X.block (Ev.X.seq (Ev.X.w (W.reg (zq (ao gC i5 rfl rfl zo (o' := 2) rfl) (zq (ag rfl (zt 6 rfl) kr rfl) (za rfl (WO.nil (XEnd.K (Ev.X.seq (Ev.X.w (W.reg (za rfl (WO.nil (XEnd.K (Ev.X.seq (Ev.X.seq (Ev.X.w (W.reg (zm rfl (zq (aY rfl) (zf r8 rfl 11 (zq (ag rfl (zt 9 rfl) iF rfl) (zq (Q.len aP rfl rfl) (zq (Q.move (zi 0)) ?_))))))))))))))))))))))))))
 refine WO.nil (XEnd.K (Ev.X.block (Ev.X.loop (Ev.X.seq (Ev.X.w (W.reg (zq (aa rfl rfl rfl (bu (p := true) rfl)) (WO.nil (XEnd.K (Ev.X.seq (Ev.X.condT rfl (Ev.X.skip (XEnd.K (Ev.X.seq (Ev.X.block (Ev.X.seq (Ev.X.w (W.reg (zq (ao aP dn rfl rfl zo (o' := 0) rfl) (zq (ag rfl (zt 11 rfl) bH rfl) (za rfl (WO.nil (XEnd.K (Ev.X.w (W.reg (zm rfl ?_))))))))))))))))))))))))))
 refine zm rfl (zm rfl (zq (ao i7 di rfl rfl zo (o' := 4) rfl) (zq (ax rfl (zt 4 rfl) jF di (l := [_, _, _, _]) rfl) (WO.bslice i7 di uE rfl (cy rfl dE) rfl (cs := [_, _, _, _]) rfl (au rfl (au rfl (au (OwnE.cell hY) rfl))) rfl (fun b9 => j6 (e := ⟨b9, _, true⟩) (A := ([_, _, _, _, _, _, _, _, _, _, _, _] ++ hs ++ (G1 ++ h1) ++ (G2 ++ h2))) iT rfl rfl rfl rfl ⟨by first | omega | (simp at * <;> omega), by first | omega | (simp at * <;> omega)⟩ (by decide) rfl rfl (fun v41 hp41 hO41 => ?_))))))
 obtain ⟨b41, ex41, rfl, rfl⟩ := hO41.full zy
 refine WO.subH (hs' := _ :: (([_, _, _, _, _, _, _, _, _, _, _, _] ++ hs ++ (G1 ++ h1) ++ (G2 ++ h2)))) (SubH.op (List.perm_append_singleton _ _).symm) (za rfl (WO.nil (XEnd.KB (XEnd.K (Ev.X.sub (zc 8 rfl (zc 31 rfl (zc 30 rfl (zc 29 rfl (zc 7 rfl (zc 22 rfl (zc 5 rfl (zc 21 rfl (zc 20 rfl (zc 4 rfl (zc 1 rfl aI))))))))))) (Ev.X.w (W.reg (zq (aa rfl (zi 1) rfl (bc (c := (((1 : Nat)) : Int)) (by decide))) (zm rfl (WO.nil (XEnd.KL (Ev.X.loop (Ev.X.seq (Ev.X.w (W.reg (zq (aa rfl rfl rfl (bu (p := false) rfl)) (WO.nil (XEnd.K (Ev.X.seq (Ev.X.condF rfl (Ev.X.exit (bF (bD (bJ (XEnd.K (Ev.X.reg (XO.pre 8 (zm rfl (zm rfl ?_)))))))))))))))))))))))))))))
 refine zq (aY rfl) (zf sa rfl 14 (zq (ag rfl (zt 10 rfl) Az rfl) (zm rfl (zm rfl (zm rfl (WO.nil (eC (XO.call (M := []) (A := _) rfl (aj rfl (aj rfl (aj rfl oz))) rfl dB (SubH.refl _) (Spec.x (B := fun l => l = [.int .i64 ((17 : Nat) : Int)]) (Jx (ro ((hs ++ (G1 ++ h1)) ++ (G2 ++ h2))) ie Y wv ((EIn.own hY).mono fun b o h => h.app.app.ro) (hYA.mono fun b o h => (MemH.app (MemH.ap1 h)).ro) (G6 hOb hYp) N hN (by rw [hNs]; exact I5 hOb hO2) hYc X o2 a2 b41 ex41 t)) (SubR.ix (K := [_, _, _, _, _, _, _, _, _, _, _, _, _]) (ix := [0, 10]) (A := [_, _]) rfl (by decide) (SubR.ro (SubH.refl _))) rfl (fun l hB tm h ht hh => by show _ /\ _; exact ⟨hB, hh.fr⟩) (fun v51 D51 hP51 => ?_)))))))))
 obtain ⟨U, y, rfl, hU, rfl⟩ := hP51
 refine XO.subH (hs' := _ :: _ :: _ :: _ :: _ :: _ :: _ :: _ :: _ :: _ :: _ :: _ :: _ :: (hs ++ (G1 ++ h1) ++ (G2 ++ h2) ++ D51)) (SubH.op (aw (N := []) (G := D51) (K := [_, _, _, _, _, _, _, _, _, _, _, _, _]) (X := hs ++ (G1 ++ h1) ++ (G2 ++ h2)))) (XO.pre 3 (WO.bslice i7 di uE rfl (cy rfl dE) rfl (cs := [_, _, _, _]) rfl (au rfl (au rfl (au (OwnE.cell hU) rfl))) rfl (fun b11 => ou iT rfl rfl (i := 6) rfl (zt 0 rfl) (l := [_, _, _, _]) rfl zo (by first | decide | exact Nat.le_of_ble_eq_true rfl) rfl (hs' := _ :: _ :: _ :: _ :: _ :: _ :: _ :: _ :: _ :: _ :: _ :: _ :: _ :: _ :: _) rfl rfl (za rfl (WO.nil (eC (XO.nil (XEnd.KB (XEnd.K (Ev.X.sub (zc 5 rfl (zc 22 rfl (zc 21 rfl (zc 20 rfl (zc 4 rfl (zc 1 rfl aI)))))) (Ev.X.w (W.reg (zq (aa rfl (zi 1) rfl (bc (c := (((3 : Nat)) : Int)) (by decide))) (zm rfl (WO.nil (XEnd.KL (Ev.X.loop (Ev.X.seq (Ev.X.w (W.reg (zq (aa rfl rfl rfl (bu (p := false) rfl)) (WO.nil (XEnd.K (Ev.X.seq (Ev.X.condF rfl (Ev.X.exit ?_))))))))))))))))))))))))))
 refine bF (bD (bJ (XEnd.K (Ev.X.seq (Ev.X.w (W.reg (zm rfl (zm rfl (zq (Q.len i7 rfl rfl) (zq (aa rfl (zi 1) rfl (bM (c := (((2 : Nat)) : Int)) (by decide))) (zq (ao i7 di rfl rfl zo (o' := 8) rfl) (zq (ax rfl (zt 6 rfl) jF di (l := [_, _, _, _]) rfl) (WO.store di rfl rfl (i := 7) rfl (au rfl (au rfl (au rfl (au (OwnE.cell hU) rfl)))) (cs := [_, _, _, _]) rfl (hs' := _ :: _ :: _ :: _ :: _ :: _ :: _ :: _ :: _ :: _ :: _ :: _ :: _ :: _ :: _) rfl (WO.nil (XEnd.K (Ev.X.ret ?_))))))))))))))))
 refine XEnd.ret (ResL.agg (c := [_, _, _, _]) rfl (zt 7 rfl) jF di rfl ResL.nil) (hs' := ⟨X, ⟨3, xX, [(.slice lb 0 3 1), .int .i64 ((1099511627776 : Nat) : Int), .int .i64 ((c + n : Nat) : Int)]⟩, true⟩ :: D51) ⟨y, D51, n, rfl, rfl, by rw [show (l9 (aV R) ((t : Nat) : Int) ((r : Nat) : Int)) = uU Y.length N from (H6 hOc hYp hNs).symm]; exact hU, hn⟩ (fun e he => by rcases List.mem_cons.1 he with rfl | he; rfl; exact hU.w e he) (SubH.ix (K := [_, _, _, _, _, _, _, _, _, _, _, _, _, _]) (ix := [5]) (A := [_]) (S := D51) rfl (by decide) gc)

theorem F0 {r : Nat} : ((max 0 (r - 0 - r + 1) : Nat) : Int) = 1 := by omega
theorem Kc (hs : af) (hro : ∀ e ∈ hs, e.w = false) (R : List bV) (v : AV) (hR : RSl hs R 0 v) (hRA : RAll hs R) (hRb : kp R) (M : List ed) (vm : AV) (hM : ISm hs M vm) (hok : nB M) (hca : uF M = 0) (lo hi : Int) (bx : Nat) (exx : Bool) : Spec tab 34 [vm, .int .i64 lo, .int .i64 hi, .ptr bx 0] [] (⟨bx, ⟨1, exx, [v]⟩, false⟩ :: hs) (fun v D => ∃ u R2, v = .tuple [u, .int .i64 ((0 : Nat) : Int)] /\ RSl D R2 0 u /\ RAll D R2 /\ aV R2 = fb M lo hi (aV R) /\ R2.length <= R.length /\ ∀ e ∈ D, e.w = true) := by
 refine (CX hs hro R v hR hRA hRb M vm hM hok lo hi bx exx).mono ?_
 rintro v D ⟨u, R2, h1, h2, h3, h4, h5, h6⟩
 refine ⟨u, R2, by rw [h1, hca]; rfl, h2, h3, ?_, h5, h6⟩
 rw [h4]
 unfold gL
 rw [if_neg (by simp [hca])]

theorem Ib (hs : af) (hro : ∀ e ∈ hs, e.w = false) (R : List bV) (v : AV) (hR : RSl hs R 0 v) (hRA : RAll hs R) (hRb : kp R) (M : List ed) (vm : AV) (hM : ISm hs M vm) (hok : nB M) (X : Nat) (xX xl exx : Bool) (lb ob o1 o2 a1 a2 bx : Nat) (r z : Nat) (hr0 : 0 < r) (hrb : r <= 2147483648) (hz : z <= 1099511627776) (hca : uF M = 0) : Spec tab 55 [.ptr X 0, .func 34 [.ptr bx 0], .agg [.int .i64 ((r : Nat) : Int), .int .i64 ((z : Nat) : Int), .int .i64 ((r : Nat) : Int), .int .i64 ((1099511627776 : Nat) : Int)]] [ob] ([⟨ob, ⟨15, true, [.int .i64 ((2 : Nat) : Int), .str [], .int .i64 0, vm, .int .i64 ((r : Nat) : Int), .int .i64 ((0 : Nat) : Int), .int .i64 0, .nils, .int .i64 0, .bool false, .nils, .nils, .int .i64 0, .nils, .func 120 [.tuple [], .ptr X 0]]⟩, true⟩] ++ (⟨X, ⟨3, xX, [.slice lb 0 3 1, .int .i64 ((1099511627776 : Nat) : Int), .int .i64 ((0 : Nat) : Int)]⟩, false⟩ :: ⟨lb, ⟨1, xl, [.ptr ob 0, .ptr o1 0, .ptr o2 0]⟩, false⟩ :: ⟨o1, ⟨15, true, [.int .i64 ((3 : Nat) : Int), .str [99, 111, 117, 110, 116, 95, 111, 118, 101, 114, 95, 116, 105, 109, 101], .int .i64 0, .nils, .int .i64 0, .int .i64 0, .int .i64 0, .nils, .int .i64 0, .bool false, .nils, .slice a1 0 1 1, .int .i64 ((r : Nat) : Int), .nils, .func 122 [.tuple [], .ptr X 0]]⟩, false⟩ :: ⟨o2, ⟨15, true, [.int .i64 ((4 : Nat) : Int), .str [115, 117, 109], .int .i64 0, .nils, .int .i64 0, .int .i64 0, .int .i64 0, .nils, .int .i64 0, .bool false, .nils, .slice a2 0 1 1, .int .i64 0, .nils, .func 124 [.tuple [], .ptr X 0]]⟩, false⟩ :: ⟨bx, ⟨1, exx, [v]⟩, false⟩ :: hs)) (fun u D => u = .tuple [] /\ ∃ (u2 : AV) (R2 : List bV) (G : af), D = ⟨ob, ⟨15, true, [.int .i64 ((2 : Nat) : Int), .str [], .int .i64 0, vm, .int .i64 ((r : Nat) : Int), .int .i64 ((0 : Nat) : Int), .int .i64 0, .nils, .int .i64 0, .bool false, .nils, .nils, .int .i64 0, u2, .func 120 [.tuple [], .ptr X 0]]⟩, true⟩ :: G /\ RSl G R2 0 u2 /\ RAll G R2 /\ aV R2 = fb M 1 ((z : Nat) : Int) (aV R) /\ R2.length <= R.length /\ (∀ e ∈ G, e.w = true)) := by
 refine ac (bz 55 Tryz.func55) rfl (m := 80) rfl (rs := []) rfl (st := [(0, .ptr X 0), (1, .func 34 [.ptr bx 0]), (2, .agg [.int .i64 ((r : Nat) : Int), .int .i64 ((z : Nat) : Int), .int .i64 ((r : Nat) : Int), .int .i64 ((1099511627776 : Nat) : Int)])]) rfl rfl (fun _ => rfl) (fun E => zr (WO.box rfl rfl (DS _ rfl) rfl (fun b1 => zk (zr (zm rfl (zq (aY rfl) (zf eS rfl 0 (zq (ag rfl (zt 2 rfl) kq rfl) (zq (Q.len gC rfl rfl) (zq (Q.move (zi 0)) (zk (W.block (W.loop (zr (zq (aa rfl rfl rfl (bu (p := true) rfl)) (zk (W.seq (W.condT rfl (zw (W.seq (W.block (zr (zq (ao gC i5 rfl rfl zo (o' := 0) rfl) ?_)))))))))))))))))))))))
 refine zq (ag rfl (zt 3 rfl) kr rfl) (za rfl (zk (W.seq (W.seq (cX (by kernel_rfl) (zm rfl (zq (aY rfl) (zf de rfl 0 (zf dK rfl 0 (zq (ag rfl (zt 1 rfl) bH rfl) (zq (aa rfl (zi 2) rfl (bd (p := false) rfl)) (zm rfl (zT (zf my rfl 1 (zT (zq (ag rfl (zt 0 rfl) bH rfl) (zT (zm rfl (zT (zq (aY rfl) (zT (zf de rfl 0 (qh rfl rfl ?_)))))))))))))))))))))))
 refine zf mB rfl 5 (zT (zq (ag rfl (zt 1 rfl) bH rfl) (zT (zq (aa rfl rfl rfl (bu bY)) (zq (aF rfl rfl) (zk (W.sub (zc 35 rfl (zc 7 rfl (zc 16 rfl (zc 15 rfl (zc 14 rfl (zc 5 rfl (zc 1 rfl aI))))))) (aB rfl (fun hc35 => ?_) (fun hc35 => ?_)))))))))
 ·exfalso; omega
 refine zw (zr (zm rfl (zq (aY rfl) (zf de rfl 0 (zf iL rfl 4 (zq (ag rfl (zt 1 rfl) bH rfl) (za rfl (zk (W.seq (zr (zm rfl (zq (aa rfl (zi 0) rfl (ai aG)) (zk (aB rfl (fun hc42 => ?_) (fun hc42 => ?_)))))))))))))))
 ·exfalso; omega
 refine zw (W.seq (cX (by kernel_rfl) (zm rfl (zm rfl (zq (aY rfl) (zf de rfl 0 (zf kR rfl 3 (zq (ag rfl (zt 1 rfl) DH rfl) (zf mw rfl 0 (zq (ag rfl (zt 0 rfl) bH rfl) (zm rfl (zq (aY rfl) (zf de rfl 0 (zf mB rfl 5 (zq (ag rfl (zt 1 rfl) bH rfl) (zq (aa rfl rfl rfl (bM (oe zo))) (zm rfl (zq (aa rfl rfl rfl (bM (oe zo))) (zq (aa rfl (zi 1) rfl zp) (zq (jD true (aj (zi 0) (aj rfl oz)) GQ) (zf my rfl 1 (zq (ag rfl (zt 0 rfl) bH rfl) (zm rfl ?_)))))))))))))))))))))))
 refine zq (aY rfl) (zf de rfl 0 (zf mB rfl 5 (zq (ag rfl (zt 1 rfl) bH rfl) (zq (aa rfl rfl rfl (bM (oe zo))) (WO.call0 rfl (aj rfl (aj rfl (aj rfl oz))) rfl (Kc hs hro R v hR hRA hRb M vm hM hok hca _ _ bx exx) (aQ (aQ (aQ (aQ (aQ (aQ (ey (aN hro)))))))) rfl (fun v70 D70 hP70 => ?_))))))
 obtain ⟨u2, R2, rfl, hR2, hR2A, hR2c, hR2l, hD70⟩ := hP70
 refine WO.subH (hs' := _ :: _ :: _ :: _ :: _ :: _ :: _ :: (hs ++ D70)) (SubH.op (aw (N := []) (G := D70) (K := [_, _, _, _, _, _, _]) (X := hs))) (zm rfl (zq (Q.extract rfl rfl) (zq (Q.extract rfl rfl) (za rfl (za rfl (zk (W.sub (zc 10 rfl (zc 9 rfl (zc 7 rfl (zc 16 rfl (zc 15 rfl (zc 14 rfl (zc 5 rfl (zc 1 rfl aI)))))))) (zr (zm rfl (ak rfl (aj rfl oz) rfl gM SubR.nil rfl (zk (W.reg (zm rfl (zm rfl (zq (aY rfl) (zf wU rfl 13 (WO.store Fb rfl rfl (i := 1) rfl (Dn (RSl.cell hR2) rfl) (cs := [_, _, _, _, _, _, _, _, _, _, _, _, _, _, _]) (by rw [cp (RSl.cell hR2)]; rfl) (hs' := _ :: _ :: _ :: _ :: _ :: _ :: _ :: _) rfl (WO.nil (End.KB (End.K (W.reg (zq (aa rfl (zi 1) rfl (bc (c := (((1 : Nat)) : Int)) (by decide))) (zm rfl (WO.nil ?_))))))))))))))))))))))))
 refine End.KL (W.loop (zr (zq (aa rfl rfl rfl (bu (p := true) rfl)) (zk (W.seq (W.condT rfl (zw (W.seq (W.block (zr (zq (ao gC i5 rfl rfl zo (o' := 1) rfl) (zq (ag rfl (zt 3 rfl) kr rfl) (za rfl (zk (W.seq (W.seq (cX (by kernel_rfl) (zm rfl (zq (aY rfl) (zf de rfl 0 (zf dK rfl 0 (zq (ag rfl (zt 4 rfl) bH rfl) (zq (aa rfl (zi 2) rfl (bd (p := true) rfl)) ?_)))))))))))))))))))))))
 refine zm rfl (z2 (z2 (z2 (z2 (zq (aA rfl rfl) (zk (W.sub (zc 35 rfl (zc 7 rfl (zc 16 rfl (zc 15 rfl (zc 14 rfl (zc 5 rfl (zc 1 rfl aI))))))) (W.condT rfl (W.exit (am (ap (End.K (W.reg (zq (aa rfl (zi 1) rfl (bc (c := (((2 : Nat)) : Int)) (by decide))) (zm rfl (WO.nil (End.KL (W.loop (zr (zq (aa rfl rfl rfl (bu (p := true) rfl)) (zk ?_)))))))))))))))))))))
 refine W.seq (W.condT rfl (zw (W.seq (W.block (zr (zq (ao gC i5 rfl rfl zo (o' := 2) rfl) (zq (ag rfl (zt 3 rfl) kr rfl) (za rfl (zk (W.seq (W.seq (cX (by kernel_rfl) (zm rfl (zq (aY rfl) (zf de rfl 0 (zf dK rfl 0 (zq (ag rfl (zt 5 rfl) bH rfl) (zq (aa rfl (zi 2) rfl (bd (p := true) rfl)) (zm rfl (z2 (zG (zg rfl rfl ?_))))))))))))))))))))))
 refine z2 (z2 (zq (aA rfl rfl) (zk (W.sub (zc 35 rfl (zc 7 rfl (zc 16 rfl (zc 15 rfl (zc 14 rfl (zc 5 rfl (zc 1 rfl aI))))))) (W.condT rfl (W.exit (am (ap (End.K (W.reg (zq (aa rfl (zi 1) rfl (bc (c := (((3 : Nat)) : Int)) (by decide))) (zm rfl (WO.nil (End.KL (W.loop (zr (zq (aa rfl rfl rfl (bu (p := false) rfl)) (zk (W.seq (W.condF rfl (W.exit ?_)))))))))))))))))))))
 refine am (aq (ap (End.fall ResL.nil (hs' := ⟨ob, ⟨15, true, [.int .i64 ((2 : Nat) : Int), .str [], .int .i64 0, vm, .int .i64 ((r : Nat) : Int), .int .i64 ((0 : Nat) : Int), .int .i64 0, .nils, .int .i64 0, .bool false, .nils, .nils, .int .i64 0, u2, .func 120 [.tuple [], .ptr X 0]]⟩, true⟩ :: D70) ⟨rfl, u2, R2, D70, rfl, hR2, hR2A, by rw [hR2c, F0]; rfl, hR2l, hD70⟩ (fun e he => by rcases List.mem_cons.1 he with rfl | he; rfl; exact hD70 e he) (SubH.ix (K := [_, _, _, _, _, _, _]) (ix := [1]) (A := [_]) (S := D70) rfl (by decide) gc))))

end Go.Proofs.YtfkbfnpjggkdmaaGreatDoor.Ev
