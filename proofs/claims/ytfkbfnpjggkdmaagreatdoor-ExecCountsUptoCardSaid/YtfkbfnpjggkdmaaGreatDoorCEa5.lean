/- Chapter 14: what a store of one block selects; the source of chapter 21. -/
import Derived.Test.YtfkbfnpjggkdmaaGreatDoorCEa3
namespace Go.Proofs.YtfkbfnpjggkdmaaGreatDoor.Ev
open Go.RowKit
set_option maxRecDepth 100000
set_option maxHeartbeats 1000000
theorem H8 {v : AV} (h : v.isCell = true) : (v.isCell && true) = true := by rw [h]; rfl
theorem ey {b : Nat} {o : AObj} {w : Bool} {a hs : af} (g : SubR a hs) : SubR (⟨b, o, false⟩ :: a) (⟨b, o, w⟩ :: hs) := by
 refine ⟨fun e he => ?_, fun hn => ?_⟩
 ·rcases List.mem_cons.1 he with rfl | he
  ·exact ⟨rfl, w, List.mem_cons_self⟩
  ·obtain ⟨h1, w', h2⟩ := g.1 e he
   exact ⟨h1, w', List.mem_cons_of_mem _ h2⟩
 ·rw [List.map_cons, List.nodup_cons] at hn ⊢
  refine ⟨fun hm => hn.1 ?_, g.2 hn.2⟩
  obtain ⟨e, he, hb⟩ := List.mem_map.1 hm
  obtain ⟨_, w', h2⟩ := g.1 e he
  exact List.mem_map.2 ⟨_, h2, hb⟩
theorem Ao {sz sz' : Nat} {cells cells' : List AV} {len len' : Nat} {v u : AV} {hp hp' : af} (h : OwnE sz cells len v hp) (g : OwnE sz' cells' len' u hp') : (AV.agg [v, u]).beq (.agg [v, u]) = true := by
 rcases h with ⟨_, _, rfl, _⟩ | ⟨b, ex, rfl, _, _⟩ <;> rcases g with ⟨_, _, rfl, _⟩ | ⟨c, ex', rfl, _, _⟩ <;> simp [AV.beq, dG, dF, d6, dO]
theorem Jq {O : List bV} {G D1 D2 : af} {x : bV} (h : RAll G O) (h1 : LIn D1 x.2.1 x.1) (h2 : SIn D2 x.2.2.2 x.2.2.1) : RAll ((G ++ D1) ++ D2) (O ++ [x]) := by
 intro z hz
 rcases List.mem_append.1 hz with hz | hz
 ·exact ⟨(h z hz).1.mono fun b o g => g.ap1.ap1, (h z hz).2.mono fun b o g => g.ap1.ap1⟩
 ·rw [List.mem_singleton.1 hz]
  exact ⟨h1.mono fun b o g => g.app.ap1, h2.mono fun b o g => g.app⟩
noncomputable def gL (M : List ed) (lo hi : Int) (L : List (List bA × List bP)) : List (List bA × List bP) := if uF M ≠ 0 then [] else fb M lo hi L
theorem CS (hs : af) (hro : ∀ e ∈ hs, e.w = false) (R : List bV) (v : AV) (hR : RSl hs R 0 v) (hRA : RAll hs R) (hRb : kp R) (M : List ed) (vm : AV) (hM : ISm hs M vm) (hok : nB M) (lo hi : Int) (bB : Nat) (exB : Bool) : Spec tab 35 [.agg [.slice bB 0 1 1, .nils], vm, .int .i64 lo, .int .i64 hi] [] (⟨bB, ⟨1, exB, [v]⟩, false⟩ :: hs) (fun v D => ∃ u R2, v = .tuple [u, .int .i64 (uF M)] /\ RSl D R2 0 u /\ (∀ x ∈ R2, (∃ y ∈ R, x.1 = y.1 /\ x.2.1 = y.2.1) /\ SIn D x.2.2.2 x.2.2.1 /\ SBd x.2.2.2) /\ aV R2 = gL M lo hi (aV R) /\ R2.length <= R.length /\ ∀ e ∈ D, e.w = true) := by
 refine ac (bz 35 Tryz.func35) rfl (m := 22) rfl (rs := [.tmp 8, .tmp 9]) rfl (st := [(0, .agg [.slice bB 0 1 1, .nils]), (1, vm), (2, .int .i64 lo), (3, .int .i64 hi)]) rfl rfl (fun _ => rfl) (fun E => zr (WO.box rfl rfl (Ih _ rfl) rfl (fun b1 => za rfl (za (zi 0) (zk (W.seq (zr (zm rfl (ak rfl (aj rfl oz) rfl (Cj hs hro M _ hM hok) (aQ (aQ (aN hro))) rfl (za rfl (zk (zr (zm rfl (zq (aa rfl (zi 0) rfl (bd f5)) (zk (aB rfl (fun hc14 => ?_) (fun hc14 => ?_)))))))))))))))))
 ·refine zr (zm rfl (za rfl (za rfl (zk (W.ret ?_)))))
  refine ad (End.ret (ResL.tmp rfl (z1 rfl)) (hs' := []) ⟨_, [], rfl, .inl ⟨rfl, rfl⟩, fun x h => (by simp at h), (by unfold gL; rw [if_pos (by simp_all)]; rfl), Nat.zero_le _, dB⟩ dB gc)
 refine zw (zr (zq (ax rfl (zt 0 rfl) JP Kg (l := [_, _]) rfl) (WO.call0 rfl (aj rfl oz) rfl (AH hs hro R v hR hRA hRb bB exB) (aQ (ey (aN hro))) rfl (fun v17 D17 hP17 => WO.subH (hs' := _ :: _ :: (hs ++ D17)) (SubH.op (aw (N := []) (G := D17) (K := [_, _]) (X := hs))) (zm rfl (zm rfl (zm rfl (WO.call0 rfl (aj rfl (aj rfl (aj rfl (aj rfl oz)))) rfl (z7 (ro (hs ++ D17)) ie R _ (rl (RSl.own (OwnE.of hP17))) (sX hRA) hRb M _ (hM.mono (fun b o h => h.ap1.ro)) hok lo hi) (SubR.ro gc) rfl (fun v21 D21 hP21 => WO.subH (hs' := _ :: _ :: (hs ++ D17 ++ D21)) (SubH.op (aw (N := []) (G := D21) (K := [_, _]) (X := hs ++ D17))) (za rfl (za (zi 0) (zk (W.sub (zc 9 rfl (zc 8 rfl aI)) (W.ret ?_))))))))))))))
 refine End.ret (ResL.tmp rfl (z1 rfl)) (hs' := D21) (by obtain ⟨R2, g1, g2, g3, g4, g5⟩ := hP21; exact ⟨_, R2, by simp_all; rfl, g1, g2, by unfold gL; rw [if_neg (by simp_all)]; exact g3, g4, g5⟩) (by obtain ⟨_, _, _, _, _, g5⟩ := hP21; exact g5) gc

theorem CX (hs : af) (hro : ∀ e ∈ hs, e.w = false) (R : List bV) (v : AV) (hR : RSl hs R 0 v) (hRA : RAll hs R) (hRb : kp R) (M : List ed) (vm : AV) (hM : ISm hs M vm) (hok : nB M) (lo hi : Int) (bx : Nat) (exx : Bool) : Spec tab 34 [vm, .int .i64 lo, .int .i64 hi, .ptr bx 0] [] (⟨bx, ⟨1, exx, [v]⟩, false⟩ :: hs) (fun v D => ∃ u R2, v = .tuple [u, .int .i64 (uF M)] /\ RSl D R2 0 u /\ RAll D R2 /\ aV R2 = gL M lo hi (aV R) /\ R2.length <= R.length /\ ∀ e ∈ D, e.w = true) := by
 have hRl := hRb.1
 refine ac (bz 34 Tryz.func34) rfl (m := 49) rfl (rs := [.tmp 7, .tmp 8]) rfl (st := [(0, vm), (1, .int .i64 lo), (2, .int .i64 hi), (3, .ptr bx 0)]) rfl rfl (fun _ => rfl) (fun E => zr (za rfl (za (zi 0) (zk (zr (zq (ag rfl (zt 0 rfl) uS rfl) (WO.bslice Fi Fb Kj rfl (cy rfl dE) rfl (cs := [_]) (Fy (RSl.cell hR)) (H8 (RSl.cell hR)) rfl (fun b1 => zq (Q.build J7 (cy rfl dE) rfl (cs := [_, _]) rfl) (zm rfl (zm rfl (zm rfl (WO.call0 rfl (aj rfl (aj rfl (aj rfl (aj rfl oz)))) rfl (CS hs hro R v hR hRA hRb M vm hM hok lo hi b1 true) (ey (aQ (aN hro))) rfl (fun v20 D20 hP20 => ?_)))))))))))))
 obtain ⟨u, R2, rfl, hR2, hR2x, hR2c, hR2l, hD20⟩ := hP20
 refine WO.subH (hs' := _ :: _ :: (hs ++ D20)) (SubH.op (aw (N := []) (G := D20) (K := [_, _]) (X := hs))) (zm rfl (zq (Q.extract rfl rfl) (zq (Q.extract rfl rfl) (za rfl (za rfl (zk (W.sub (zc 10 rfl (zc 9 rfl aI)) (zr (za rfl (zk (W.seq (zr (za (zi 0) (zk (W.block (W.loop_ind5 (fun (i : Nat) (O : List bV) (o : AV) (ho : af) (G : af) => [(9, u), (10, .int .i64 (uF M)), (11, o), (12, .int .i64 ((i : Nat) : Int))]) (fun (i : Nat) (O : List bV) (o : AV) (ho : af) (G : af) => ((hs ++ D20) ++ G) ++ ho) (fun (i : Nat) (O : List bV) (o : AV) (ho : af) (G : af) => i <= R2.length /\ OwnE 2 (cR O) O.length o ho /\ RAll G O /\ aV O = aV (R2.take i) /\ (∀ e ∈ G, e.w = true) /\ O.length = i) (fun (i : Nat) (O : List bV) (o : AV) (ho : af) (G : af) => R2.length - i) (0) ([]) (.nils) ([]) ([]) ⟨Nat.zero_le _, OwnE.nil 2, fun x h => (by simp at h), rfl, dB, rfl⟩ zv gc (fun i O o ho G hI0 ih0 => ?_)))))))))))))))))
 obtain ⟨hi1, hO, hOx, hOc, hG, hOl⟩ := hI0
 refine W.seq (zr (zm rfl (zm rfl (zq (Q.len dA rfl (RSl.len hR2)) (zq (aa rfl rfl rfl (bu bY)) (zk (aB rfl (fun hc26 => ?_) (fun hc26 => ?_))))))))
 ·have hm0 := eZ (R := R2) (i := 0 + i) zy
  obtain ⟨⟨y, hy, hy1, hy2⟩, hx2, hx3⟩ := hR2x _ hm0
  have hx4 : (rg R2 (0 + i)).2.2.2.length <= 1048576 := hx3
  have hx1 : LIn hs (rg R2 (0 + i)).2.1 (rg R2 (0 + i)).1 := by rw [hy1, hy2]; exact (hRA y hy).1
  have hxl := (hRb.2 y hy).1.1
  rw [<- hy2] at hxl
  obtain ⟨bl, szl, exl, rfl, wl, ml⟩ := RSl.full hR2 zy
  refine zw (W.seq (W.block (FT (D20) [1, 2, 3, 4, 5, 6, 7, 8, 9, 10, 11, 12, 13, 14, 0, 15, 16, 17, 18] (by kernel_rfl) (fun e he => ⟨e.w, by obtain ⟨b, o, w⟩ := e; simp [he]⟩) (fun base => WG.bslice cW eo Dm rfl dE rfl (cs := []) rfl rfl rfl (fun e he => ⟨e.w, by obtain ⟨b, o, w⟩ := e; simp [he]⟩) rfl (fun b2 => WG.q (Q.move rfl) uY rfl (WG.q (Q.move rfl) cZ rfl (WG.q (bj dA fk rfl rfl zo) eO rfl (WG.q (Q.fieldAddr jJ rfl rfl) eO rfl (WG.q (ag rfl ml jA (qm zo)) (LIn.bq hx1) rfl (WG.appAny (A := _) lp (OwnE.cons rfl) rfl rfl (Src.mono (fun e he => ⟨e.w, by obtain ⟨b, o, w⟩ := e; simp [he]⟩) (nJ hx1)) (oH _) zy (by decide) (SubH.op (List.perm_append_singleton _ _)) rfl (fun e he => ⟨e.w, by obtain ⟨b, o, w⟩ := e; simp [he]⟩) (fun v36 hp36 hO36 => WG.bslice fm ik HN rfl dE rfl (cs := []) rfl rfl rfl (fun e he => ⟨e.w, by obtain ⟨b, o, w⟩ := e; simp [he]⟩) rfl (fun b3 => WG.q (Q.move rfl) uY rfl (WG.q (Q.move rfl) cZ rfl (WG.q (bj dA fk rfl rfl zo) eO rfl (WG.q (Q.fieldAddr jm rfl rfl) eO rfl (WG.q (ag rfl ml l8 (oI zo)) (SIn.bq hx2) rfl (WG.appAny (A := _) rE (OwnE.cons rfl) rfl rfl (Src.mono (fun e he => ⟨e.w, by obtain ⟨b, o, w⟩ := e; simp [he]⟩) (DA hx2)) (oJ _) zy (by decide) (SubH.op (List.perm_append_singleton _ _)) rfl (fun e he => ⟨e.w, by obtain ⟨b, o, w⟩ := e; simp [he]⟩) (fun v43 hp43 hO43 => WG.q (Q.move rfl) (OwnE.bq hO) rfl (WG.q (Q.build He (cy rfl (cy rfl dE)) rfl (cs := [_, _]) (BK (OwnE.cell hO36) (OwnE.cell hO43))) (Ao hO36 hO43) rfl (WG.bslice dA fk Dl rfl (cy rfl dE) rfl (cs := [_, _]) rfl (uG (OwnE.cell hO36) (OwnE.cell hO43)) rfl (fun e he => ⟨e.w, by obtain ⟨b, o, w⟩ := e; simp [he]⟩) rfl (fun b4 => WG.subH (hs' := _ :: (hs ++ D20 ++ G ++ hp36 ++ hp43 ++ ho)) (SubH.op (List.Perm.append_left [_] (List.perm_iff_count.2 (by intro z; simp only [List.append_eq, List.count_append, List.count_nil]; omega)))) (WG.appAny (A := ([] ++ hs ++ D20 ++ G ++ hp36 ++ hp43)) ln hO rfl rfl (Src.slice (zt 0 rfl) rfl) rfl zy (by decide) (SubH.of_sublist (List.sublist_cons_self _ _)) rfl (fun e he => ⟨e.w, by obtain ⟨b, o, w⟩ := e; simp [he]⟩) (fun v46 hp46 hO46 => WG.q (Q.assign rfl) (OwnE.bq hO46) rfl ?_)))))))))))))))))))))))
  refine WG.nil (End.KB (End.K (W.sub (zc 11 rfl (zc 9 rfl (zc 10 rfl (zc 12 rfl aI)))) (W.reg (zm rfl (zq (aa rfl (zi 1) rfl zp) (za rfl (WO.nil (End.KL (W.sub zv (cz gc (ih0 (i + 1) (O ++ [(v36, (rg R2 (0 + i)).2.1, v43, (rg R2 (0 + i)).2.2.2)]) (v46) (hp46) ((G ++ hp36) ++ hp43) ?_ ?_))))))))))))
  ·exact ⟨by omega, by rw [rJ, List.length_append]; exact hO46, Jq hOx (LIn.own (by simpa using hO36)) (SIn.own (by simpa using hO43)), by rw [fF, hOc, Nat.zero_add, cb R2 CO zy, fF]; rfl, wa (wa hG hO36.w) hO43.w, by simp; omega⟩
  exact zo
 refine W.exit (am (aq (ap (End.K (zr (zm rfl (zm rfl (za rfl (za rfl (zk (W.ret ?_)))))))))))
 refine End.ret (ResL.tmp rfl (z1 rfl)) (hs' := G ++ ho) ⟨_, O, rfl, (RSl.own hO).mono (fun b o h => h.app), hOx.mono (fun b o h => h.ap1), by rw [hOc, List.take_of_length_le zy, hR2c], by omega, wa hG hO.w⟩ (wa hG hO.w) gc
noncomputable section
variable {tb : Tab} {n : Nat} {E : Env} {s : St} {hs : af} {R : T AV -> AHeap -> Prop} {ops rest : List Oper} {d : Nat} {ty : TypeId} {pos : String} {aft : Array Edge} {i : Nat}
def WC (tb : Tab) (n : Nat) (ops : List Oper) (i : Nat) (rest : List Oper) (E : Env) (s : St) (hs : af) (R : T AV -> AHeap -> Prop) : Prop :=
 ∀ tm h, Has tm s -> HS E hs h -> ∃ es tm', bh tb (aD (callE tb)) n ops i rest tm h = some (es, [], tm', h) /\ ∀ TM, SubT tm' TM -> R TM h
theorem WC.nil (h : End E s hs R) : WC tb n ops i [] E s hs R := fun tm hp ht hh => ⟨[], tm, rfl, fun TM hT => h TM hp (ht.mono hT) hh⟩
theorem WC.q {op : Op} {v : AV} (hq : QV tb s hs op v) (hd : Nat.blt d n = true) (hk : WC tb n ops (i + 1) rest E ((d, v) :: s) hs R) : WC tb n ops i (⟨some d, op, ty, pos, aft, none⟩ :: rest) E s hs R := by
 intro tm h ht hh
 obtain ⟨es, tm', he, hR⟩ := hk _ _ (ht.set d v) hh
 refine ⟨⟨i, ⟨some d, op, ty, pos, aft, none⟩, tm, v, 1⟩ :: es, tm', ?_, hR⟩
 have h1 : fT tb (aD (callE tb)) ops tm h ⟨some d, op, ty, pos, aft, none⟩ = some (v, h, 1) := by
  unfold fT
  have : aK ops tm ⟨some d, op, ty, pos, aft, none⟩ = some true := rfl
  rw [this]
  simp only [hq tm h ht hh.keep (aD (callE tb))]
 unfold bh
 simp only [h1, aO hd, he]
 rfl
theorem FS {Q : Ex -> T AV -> AHeap -> Prop} {id : Nat} {l : List Oper} (hst : (gz l && !(fh l) && !(fA l)) = true) (h : WC tb n l 0 l E s hs (Q .normal)) : W tb n (.region id l.toArray true) E s hs Q := by
 intro tm hp ht hh
 obtain ⟨es, tm1, he, hR⟩ := h tm hp ht hh
 simp only [Bool.and_eq_true, Bool.not_eq_true'] at hst
 have hd : c7 tb (aD (callE tb)) n l tm hp = some (tm1, hp) := by
  unfold c7
  simp only [hst.1.1, hst.1.2, hst.2, he]
 obtain ⟨TM, g1, g2⟩ := iu (gQ tb) (SubT.refl tm) hd
 refine ⟨.normal, TM, hp, g2.step fun K hK => ?_, hR TM g1⟩
 rw [cu]
 unfold cA
 simp only [hK]
theorem WD.box {keep : af} {m : Nat} {t : TypeId} {ox : Operand} {v : AV} {ob : AObj} (hx : oL s ox = some v) (hc : v.cells.all AV.isCell = true) (ho : bk tb t v.cells = ob) (hd : Nat.blt d n = true) (hkp : KIn keep hs) (hk : ∀ b, WD tb n ops keep m (i + 1) rest E ((d, .ptr b 0) :: s) (⟨b, ob, true⟩ :: hs) R) :
  WD tb n ops keep m i (⟨some d, .box t ox, ty, pos, aft, none⟩ :: rest) E s hs R :=
 WD.l (C := fun v' hs' => ∃ b, v' = .ptr b 0 /\ hs' = ⟨b, ob, true⟩ :: hs) (fun tm h r e => by cases e) (fun R hR => WO.box hx hc ho hd fun b => WO.nil (hR _ _ ⟨b, rfl, rfl⟩))
  (fun v' hs' ⟨b, _, h2⟩ _ => by subst h2; exact fun e he => let ⟨w, hm⟩ := hkp e he; ⟨w, List.mem_cons_of_mem _ hm⟩) (fun v' hs' ⟨b, h1, h2⟩ => by subst h1 h2; exact hk b)
end
def pG (g : Nat -> Bool) : Nat -> Nat -> Nat -> Nat
 | 0, i, _ => i
 | k + 1, i, j => if i < j then (if g ((i + j) / 2) = true then pG g k i ((i + j) / 2) else pG g k ((i + j) / 2 + 1) j) else i
theorem CW {g : Nat -> Bool} {k i j : Nat} (h : i < j) (hg : g ((i + j) / 2) = false) : pG g (k + 1) i j = pG g k ((i + j) / 2 + 1) j := by
 conv => lhs; unfold pG
 rw [if_pos h, if_neg (by simp [hg])]
theorem CV {g : Nat -> Bool} {k i j : Nat} (h : i < j) (hg : g ((i + j) / 2) = true) : pG g (k + 1) i j = pG g k i ((i + j) / 2) := by
 conv => lhs; unfold pG
 rw [if_pos h, if_pos hg]
theorem CU {g : Nat -> Bool} {k i j : Nat} (h : ¬ i < j) : pG g (k + 1) i j = i := by
 conv => lhs; unfold pG
 rw [if_neg h]
theorem sG {g : Nat -> Bool} : ∀ (k i j : Nat), i <= j -> i <= pG g k i j /\ pG g k i j <= j
 | 0, i, j, h => ⟨Nat.le_refl _, h⟩
 | k + 1, i, j, h => by
  unfold pG
  split
  ·split
   ·have := sG (g := g) k i ((i + j) / 2) zy; omega
   ·have := sG (g := g) k ((i + j) / 2 + 1) j zy; omega
  ·omega
def Dc (e t r : Int) : Bool := decide (IntKind.u64.wrap (IntKind.u64.wrap e - IntKind.u64.wrap t) < IntKind.u64.wrap r)
theorem wF {tb : Tab} {t : TypeId} {a : Nat} : bC tb .shr t (.int .u64 ((a : Nat) : Int)) (.int .u64 ((1 : Nat) : Int)) = some (.int .u64 ((a / 2 : Nat) : Int)) := by
 have e : qc ((1 : Nat) : Int) 0 = false := rfl
 unfold bC pC
 simp only [e]
 refine congrArg (fun x => some (AV.int .u64 x)) ?_
 show Int.fdiv ((a : Nat) : Int) (2 ^ 1) = _
 rw [Int.fdiv_eq_ediv_of_nonneg _ (by decide)]
 omega
theorem SubR.subH {a b c : af} (g : SubR a b) (h : SubH b c) : SubR a c := ⟨fun e he => let ⟨h1, w, h2⟩ := g.1 e he; ⟨h1, w, h.1 _ h2⟩, fun hn => g.2 (h.2 hn)⟩
theorem DB {x y z : HE} {l : af} : SubH (x :: y :: l) (z :: y :: x :: l) := gc
theorem At {x y z : HE} {l : af} : SubH (y :: x :: z :: l) (z :: y :: x :: l) := gc
theorem fO {b : Nat} {o : AObj} {hs : af} (h : ∀ e ∈ hs, e.w = false) : ∀ e ∈ ((⟨b, o, false⟩ : HE) :: hs), e.w = false := fun e he => by
 rcases List.mem_cons.1 he with rfl | he
 ·rfl
 ·exact h e he
def lH (S : List bP) (e : Int) : Nat := pG (fun i => decide (e < (sg S (0 + i)).1)) (S.length + 1) 0 S.length
def Dp (S : List bP) (e r : Int) : Nat := pG (fun i => Dc e (sg S (0 + i)).1 r) (lH S e + 1) 0 (lH S e)
def fQ (S : List bP) (e r : Int) : List bP := (S.drop (Dp S e r)).take (lH S e - Dp S e r)
theorem jo (S : List bP) (e : Int) : lH S e <= S.length := (sG _ _ _ (Nat.zero_le _)).2
theorem Cg (S : List bP) (e r : Int) : Dp S e r <= lH S e := (sG _ _ _ (Nat.zero_le _)).2
theorem lR (S : List bP) (e r : Int) : (fQ S e r).length = lH S e - Dp S e r := by
 unfold fQ
 have := jo S e
 rw [List.length_take, List.length_drop]
 omega
theorem yv (S : List bP) (e r : Int) : (fQ S e r).length <= S.length := by
 have := jo S e
 rw [lR]
 omega
def II (S : List bP) (e : Int) : Option bP := if (fQ S e 300000).length = 0 then none else some (sg (fQ S e 300000) ((fQ S e 300000).length - 1))
theorem z5 {sz : Nat} {cells : List AV} {len : Nat} {v : AV} {hp : af} (h : OwnE sz cells len v hp) (hl : 0 < len) : ∃ b ex, v = .slice b 0 len sz /\ (⟨b, ⟨sz, ex, cells⟩, true⟩ : HE) ∈ hp := by
 obtain ⟨b, ex, rfl, rfl⟩ := h.full hl
 exact ⟨b, ex, rfl, List.mem_singleton.2 rfl⟩
theorem Ga {S : List bP} {a b : Nat} (h : a <= b) (hb : b <= S.length) : dy (cS S) ((0 + a) * 2) ((b - a) * 2) = some (cS ((S.drop a).take (b - a))) := by
 unfold dy
 have e : Nat.ble ((0 + a) * 2 + (b - a) * 2) (cS S).length = true := by rw [oJ]; apply Nat.ble_eq.mpr; omega
 simp only [e]
 rw [show cS ((S.drop a).take (b - a)) = ((cS S).drop (a * 2)).take ((b - a) * 2) from by show c2 _ _ ((S.drop a).take (b - a)) = ((c2 _ _ S).drop (a * 2)).take ((b - a) * 2); rw [DY, DX], Nat.zero_add]
theorem JS : AO tab 72 = some ⟨2, true, [.int .i64 0, .int .i64 0]⟩ := by kernel_rfl
theorem JJ : ∀ l : List AV, l.length = 1 -> bk tab 3 l = ⟨1, true, l⟩ := by intro l h; exact aX (by kernel_rfl) h
theorem JW : ∀ l : List AV, l.length = 1 -> bk tab 66 l = ⟨1, true, l⟩ := by intro l h; exact aX (by kernel_rfl) h
theorem ES : ∀ b o l z : Nat, bC tab .eql 66 (.slice b o l z) .nils = some (.bool false) := by intros; kernel_rfl
theorem kF : tab.und 258 = some (.int .u64) := by kernel_rfl
theorem Ah : tab.und 3 = some (.int .i64) := by kernel_rfl
theorem vU (hs : af) (hro : ∀ e ∈ hs, e.w = false) (n : Nat) (hn : n <= 1048576) (g : Nat -> Bool) (F a b : Nat) (HF : ∀ i : Nat, i < n -> Spec tab F (.int .i64 ((i : Nat) : Int) :: [.ptr a 0, .ptr b 0]) [] hs (bN (.bool (g i)))) : Spec tab 173 [.int .i64 ((n : Nat) : Int), .func F [.ptr a 0, .ptr b 0]] [] hs (bN (.int .i64 ((pG g (n + 1) 0 n : Nat) : Int))) := by
 refine ac (bz 173 Tryz.func173) rfl (m := 26) rfl (rs := [.tmp 4]) rfl (st := [(0, .int .i64 ((n : Nat) : Int)), (1, .func F [.ptr a 0, .ptr b 0])]) rfl rfl (fun _ => rfl) (fun E => zr (za (zi 0) (zk (zr (zm rfl (za (zi 0) (za rfl (zk (W.seq (W.block (bI (fun (i : Nat) (j : Nat) (k : Nat) => [(1, .func F [.ptr a 0, .ptr b 0]), (5, .int .i64 ((i : Nat) : Int)), (6, .int .i64 ((j : Nat) : Int))]) (fun _ _ _ => _) (fun (i : Nat) (j : Nat) (k : Nat) => i <= j /\ j <= n /\ j - i < k /\ pG g (n + 1) 0 n = pG g k i j) (fun (i : Nat) (j : Nat) (k : Nat) => j - i) (0) (n) (n + 1) ⟨Nat.zero_le _, Nat.le_refl _, by omega, rfl⟩ zv (SubH.refl _) (fun i j k hI0 ih0 => ?_))))))))))))
 obtain ⟨h1, h2, h3, h4⟩ := hI0
 obtain ⟨k, rfl⟩ : ∃ q, k = q + 1 := ⟨k - 1, by omega⟩
 refine W.seq (zr (zm rfl (zm rfl (zq (aa rfl rfl rfl (bu bY)) (zk (aB rfl (fun hc11 => ?_) (fun hc11 => ?_)))))))
 ·refine zw (W.block (zr (zm rfl (zm rfl (zq (aa rfl rfl rfl zp) (zq (eK Ah kF rfl (nz zo)) (zq (aa rfl (oc (v := .int .u64 ((1 : Nat) : Int)) rfl) rfl wF) (zq (eK kF Ah rfl (sQ zo)) (za rfl (zk (zr (zm rfl (zm rfl (ak rfl (aj rfl oz) rfl (HF _ zy) (aN hro) rfl (zq (Q.not rfl rfl) (zk (W.condS rfl (fun hc21 => ?_) (fun hc21 => ?_))))))))))))))))))
  ·refine W.reg (zm rfl (zq (aa rfl (zi 1) rfl zp) (za rfl (WO.nil (End.KB (End.KL (W.sub zv (ih0 ((i + j) / 2 + 1) (j) (k) ?_ ?_))))))))
   ·exact ⟨by omega, by omega, by omega, by rw [h4, CW zy (by simp_all)]⟩
   exact zo
  refine W.reg (zm rfl (za rfl (WO.nil (End.KB (End.KL (W.sub zv (ih0 (i) ((i + j) / 2) (k) ?_ ?_)))))))
  ·exact ⟨by omega, by omega, by omega, by rw [h4, CV zy (by simp_all)]⟩
  exact zo
 refine W.exit (am (aq (ap (End.K (zr (zm rfl (za rfl (zk (W.ret (ae (z1 rfl) ?_))))))))))
 rw [h4, CU zy]; rfl

theorem vV (hs : af) (hro : ∀ e ∈ hs, e.w = false) (n : Nat) (hn : n <= 1048576) (g : Nat -> Bool) (F a b c : Nat) (HF : ∀ i : Nat, i < n -> Spec tab F (.int .i64 ((i : Nat) : Int) :: [.ptr a 0, .ptr b 0, .ptr c 0]) [] hs (bN (.bool (g i)))) : Spec tab 173 [.int .i64 ((n : Nat) : Int), .func F [.ptr a 0, .ptr b 0, .ptr c 0]] [] hs (bN (.int .i64 ((pG g (n + 1) 0 n : Nat) : Int))) := by
 refine ac (bz 173 Tryz.func173) rfl (m := 26) rfl (rs := [.tmp 4]) rfl (st := [(0, .int .i64 ((n : Nat) : Int)), (1, .func F [.ptr a 0, .ptr b 0, .ptr c 0])]) rfl rfl (fun _ => rfl) (fun E => zr (za (zi 0) (zk (zr (zm rfl (za (zi 0) (za rfl (zk (W.seq (W.block (bI (fun (i : Nat) (j : Nat) (k : Nat) => [(1, .func F [.ptr a 0, .ptr b 0, .ptr c 0]), (5, .int .i64 ((i : Nat) : Int)), (6, .int .i64 ((j : Nat) : Int))]) (fun _ _ _ => _) (fun (i : Nat) (j : Nat) (k : Nat) => i <= j /\ j <= n /\ j - i < k /\ pG g (n + 1) 0 n = pG g k i j) (fun (i : Nat) (j : Nat) (k : Nat) => j - i) (0) (n) (n + 1) ⟨Nat.zero_le _, Nat.le_refl _, by omega, rfl⟩ zv (SubH.refl _) (fun i j k hI0 ih0 => ?_))))))))))))
 obtain ⟨h1, h2, h3, h4⟩ := hI0
 obtain ⟨k, rfl⟩ : ∃ q, k = q + 1 := ⟨k - 1, by omega⟩
 refine W.seq (zr (zm rfl (zm rfl (zq (aa rfl rfl rfl (bu bY)) (zk (aB rfl (fun hc11 => ?_) (fun hc11 => ?_)))))))
 ·refine zw (W.block (zr (zm rfl (zm rfl (zq (aa rfl rfl rfl zp) (zq (eK Ah kF rfl (nz zo)) (zq (aa rfl (oc (v := .int .u64 ((1 : Nat) : Int)) rfl) rfl wF) (zq (eK kF Ah rfl (sQ zo)) (za rfl (zk (zr (zm rfl (zm rfl (ak rfl (aj rfl oz) rfl (HF _ zy) (aN hro) rfl (zq (Q.not rfl rfl) (zk (W.condS rfl (fun hc21 => ?_) (fun hc21 => ?_))))))))))))))))))
  ·refine W.reg (zm rfl (zq (aa rfl (zi 1) rfl zp) (za rfl (WO.nil (End.KB (End.KL (W.sub zv (ih0 ((i + j) / 2 + 1) (j) (k) ?_ ?_))))))))
   ·exact ⟨by omega, by omega, by omega, by rw [h4, CW zy (by simp_all)]⟩
   exact zo
  refine W.reg (zm rfl (za rfl (WO.nil (End.KB (End.KL (W.sub zv (ih0 (i) ((i + j) / 2) (k) ?_ ?_)))))))
  ·exact ⟨by omega, by omega, by omega, by rw [h4, CV zy (by simp_all)]⟩
  exact zo
 refine W.exit (am (aq (ap (End.K (zr (zm rfl (za rfl (zk (W.ret (ae (z1 rfl) ?_))))))))))
 rw [h4, CU zy]; rfl

theorem CI (hs : af) (hro : ∀ e ∈ hs, e.w = false) (S : List bP) (v : AV) (hS : SIn hs S v) (hSb : SBd S) (e : Int) (pl pe : Nat) (xpl xpe : Bool) (i : Nat) (hi : i < S.length) : Spec tab 174 [.int .i64 ((i : Nat) : Int), .ptr pl 0, .ptr pe 0] [] (⟨pl, ⟨1, xpl, [v]⟩, false⟩ :: ⟨pe, ⟨1, xpe, [.int .i64 e]⟩, false⟩ :: hs) (bN (.bool (decide (e < (sg S (0 + i)).1)))) := by
 obtain ⟨bs, szs, exs, rfl, ws, ms⟩ := SIn.full hS zy
 refine ac (bz 174 Tryz.func174) rfl (m := 12) rfl (rs := [.tmp 4]) rfl (st := [(0, .int .i64 ((i : Nat) : Int)), (1, .ptr pl 0), (2, .ptr pe 0)]) rfl rfl (fun _ => rfl) (fun E => zr (za rfl (zk (W.seq (cX (by kernel_rfl) (zq (ag rfl (zt 0 rfl) l8 rfl) (zm rfl (zq (bj fm ik rfl rfl zo) (zq (Q.fieldAddr fX rfl rfl) (zq (ag rfl (List.mem_cons_of_mem _ (List.mem_cons_of_mem _ ms)) bH (na zo)) (zq (ag rfl (zt 1 rfl) bH rfl) (zq (aa rfl rfl rfl (aJ (bS _ _))) (za rfl (zk (W.ret (ae (z1 rfl) ?_))))))))))))))))
 rfl

theorem CJ (hs : af) (hro : ∀ e ∈ hs, e.w = false) (S : List bP) (v : AV) (hS : SIn hs S v) (hSb : SBd S) (e r : Int) (pl pe pr : Nat) (xpl xpe xpr : Bool) (i : Nat) (hi : i < S.length) : Spec tab 175 [.int .i64 ((i : Nat) : Int), .ptr pe 0, .ptr pl 0, .ptr pr 0] [] (⟨pe, ⟨1, xpe, [.int .i64 e]⟩, false⟩ :: ⟨pl, ⟨1, xpl, [v]⟩, false⟩ :: ⟨pr, ⟨1, xpr, [.int .i64 r]⟩, false⟩ :: hs) (bN (.bool (Dc e (sg S (0 + i)).1 r))) := by
 obtain ⟨bs, szs, exs, rfl, ws, ms⟩ := SIn.full hS zy
 refine ac (bz 175 Tryz.func175) rfl (m := 18) rfl (rs := [.tmp 5]) rfl (st := [(0, .int .i64 ((i : Nat) : Int)), (1, .ptr pe 0), (2, .ptr pl 0), (3, .ptr pr 0)]) rfl rfl (fun _ => rfl) (fun E => zr (za rfl (zk (W.seq (FS (by kernel_rfl) (WC.q (ag rfl (zt 0 rfl) bH rfl) rfl (WC.q (eK Ah kF rfl rfl) rfl (WC.q (ag rfl (zt 1 rfl) l8 rfl) rfl (WC.q (Q.move rfl) rfl (WC.q (bj fm ik rfl rfl zo) rfl (WC.q (Q.fieldAddr fX rfl rfl) rfl (WC.q (ag rfl (List.mem_cons_of_mem _ (List.mem_cons_of_mem _ (List.mem_cons_of_mem _ ms))) bH (na zo)) rfl (WC.q (eK Ah kF rfl rfl) rfl (WC.q (aa rfl rfl rfl (bM rfl)) rfl (WC.q (ag rfl (zt 2 rfl) bH rfl) rfl (WC.q (eK Ah kF rfl rfl) rfl (WC.q (aa rfl rfl rfl (bu (bS _ _))) rfl (WC.q (Q.assign rfl) rfl (WC.nil (End.K (W.sub (zc 5 rfl aI) (W.ret (ae (z1 rfl) ?_)))))))))))))))))))))))
 rfl

theorem kN (hs : af) (hro : ∀ e ∈ hs, e.w = false) (b o m : Nat) (new : List AV) (hm : m <= 1048576) (hn : new.length = m * 2) (hsrc : Src hs 2 (.slice b o m 2) m new) : Spec tab 176 [.slice b o m 2] [] hs (fun u D => OwnE 2 new m u D) := by
 refine ac (bz 176 Tryz.func176) rfl (m := 8) rfl (rs := [.tmp 2]) rfl (st := [(0, .slice b o m 2)]) rfl rfl (fun _ => rfl) (fun E => zr (za rfl (zk (W.seq (zr (zm rfl (zq (aa rfl rfl rfl (ES _ _ _ _)) (zk (W.condF rfl (zw (zr (WO.bslice fm ik HN rfl dE rfl (cs := []) rfl rfl rfl (fun b1 => zm rfl (WO.appAny (A := _) rE (OwnE.cons rfl) rfl rfl (Src.mono (fun e he => ⟨e.w, by obtain ⟨b, o, w⟩ := e; simp [he]⟩) hsrc) hn zy (by decide) (SubH.op (List.perm_append_singleton _ _)) rfl (fun v7 hp7 hO7 => za rfl (zk (W.ret ?_)))))))))))))))))
 refine End.ret (z1 rfl) (hs' := hp7) (by simpa [fz] using hO7) hO7.w gc

theorem CM (hs : af) (hro : ∀ e ∈ hs, e.w = false) (S : List bP) (bs szs : Nat) (exs ws : Bool) (ms : (⟨bs, ⟨szs, exs, cS S⟩, ws⟩ : HE) ∈ hs) (hSb : SBd S) (e r : Int) (hr : 0 < r) : Spec tab 150 [.slice bs 0 S.length 2, .int .i64 e, .int .i64 r] [] hs (fun u D => OwnE 2 (cS (fQ S e r)) (fQ S e r).length u D) := by
 have hS : SIn hs S (.slice bs 0 S.length 2) := .inr ⟨bs, szs, exs, rfl, ws, ms⟩
 have hSl : S.length <= 1048576 := hSb
 have hhi := jo S e
 have hlo := Cg S e r
 refine ac (bz 150 Tryz.func150) rfl (m := 23) rfl (rs := [.tmp 6]) rfl (st := [(0, .slice bs 0 S.length 2), (1, .int .i64 e), (2, .int .i64 r)]) rfl rfl (fun _ => rfl) (fun E => zr (WO.box rfl rfl (JW _ rfl) rfl (fun b1 => WO.box rfl rfl (JJ _ rfl) rfl (fun b2 => WO.box rfl rfl (JJ _ rfl) rfl (fun b3 => za rfl (zk (W.seq (zr (zq (ag rfl (zt 0 rfl) bH rfl) (zq (aa rfl (zi 0) rfl (aZ dc)) (zk (aB rfl (fun hc10 => ?_) (fun hc10 => ?_)))))))))))))
 ·exfalso; omega
 refine zw (zr (zq (ag rfl (zt 2 rfl) l8 rfl) (zq (Q.len fm rfl rfl) (zq (dQ (aj rfl (aj rfl oz))) (ak rfl (aj rfl (aj rfl oz)) rfl (id (α := Spec tab 173 [_, _] [] _ (bN (.int .i64 ((lH S e : Nat) : Int)))) (vU (⟨b1, ⟨1, true, [.slice bs 0 S.length 2]⟩, false⟩ :: ⟨b2, ⟨1, true, [.int .i64 e]⟩, false⟩ :: hs) (fO (fO hro)) S.length zy (fun i => decide (e < (sg S (0 + i)).1)) 174 b1 b2 (fun i hi => CI hs hro S _ hS hSb e b1 b2 true true i hi))) (SubR.subH (ey (w := true) (ey (w := true) (aN hro))) DB) rfl (za rfl (zk (zr (zm rfl (zq (dQ (aj rfl (aj rfl (aj rfl oz)))) (ak rfl (aj rfl (aj rfl oz)) rfl (id (α := Spec tab 173 [_, _] [] _ (bN (.int .i64 ((Dp S e r : Nat) : Int)))) (vV (⟨b2, ⟨1, true, [.int .i64 e]⟩, false⟩ :: ⟨b1, ⟨1, true, [.slice bs 0 S.length 2]⟩, false⟩ :: ⟨b3, ⟨1, true, [.int .i64 r]⟩, false⟩ :: hs) (fO (fO (fO hro))) (lH S e) zy (fun i => Dc e (sg S (0 + i)).1 r) 175 b2 b1 b3 (fun i hi => CJ hs hro S _ hS hSb e r b1 b2 b3 true true true i zy))) (SubR.subH (ey (w := true) (ey (w := true) (ey (w := true) (aN hro)))) At) rfl (za rfl (zk (W.sub (zc 8 rfl (zc 7 rfl (zc 3 rfl aI))) (zr (zq (ag rfl (zt 2 rfl) l8 rfl) (zm rfl (zm rfl (zq (dZ fm ik rfl rfl zo) (WO.call0 rfl (aj rfl oz) rfl (kN hs hro bs _ _ _ zy (by rw [oJ]; exact congrArg (fun q => q * 2) (lR S e r)) (Src.slice ms (Ga zy zy))) (aQ (aQ (aQ (aN hro)))) rfl (fun v22 D22 hP22 => WO.subH (hs' := _ :: _ :: _ :: (hs ++ D22)) (SubH.op (aw (N := []) (G := D22) (K := [_, _, _]) (X := hs))) (za rfl (zk ?_)))))))))))))))))))))))
 refine W.ret ?_
 refine End.ret (z1 rfl) (hs' := D22) (by rw [lR]; exact hP22) hP22.w gc

end Go.Proofs.YtfkbfnpjggkdmaaGreatDoor.Ev
