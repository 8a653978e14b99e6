/- Chapter 21: a run as a whole. -/
import Derived.Test.YtfkbfnpjggkdmaaGreatDoorCExG
import Derived.Test.YtfkbfnpjggkdmaaGreatDoorCFactsE
import Derived.Test.YtfkbfnpjggkdmaaGreatDoorCYb
namespace Go.Proofs.YtfkbfnpjggkdmaaGreatDoor.Ev
open Go.RowKit
set_option maxRecDepth 100000
set_option maxHeartbeats 1000000
theorem SubR.ix {K A S S' : af} {ix : List Nat} (hA : (ix.filterMap fun i => K[i]?).map (fun e : HE => (⟨e.b, e.o, false⟩ : HE)) = A) (hn : ix.Nodup) (h : SubR S S') : SubR (A ++ S) (K ++ S') := by
 subst hA
 have hm : ∀ x ∈ ix.filterMap (fun i => K[i]?), x ∈ K := by
  intro x hx
  obtain ⟨i, _, hi⟩ := List.mem_filterMap.1 hx
  exact List.mem_of_getElem? hi
 refine ⟨fun e he => ?_, fun hd => ?_⟩
 ·rcases List.mem_append.1 he with he | he
  ·obtain ⟨x, hx, rfl⟩ := List.mem_map.1 he
   exact ⟨rfl, x.w, List.mem_append_left _ (hm x hx)⟩
  ·obtain ⟨h1, w, h2⟩ := h.1 e he
   exact ⟨h1, w, List.mem_append_right _ h2⟩
 ·rw [List.map_append] at hd ⊢
  obtain ⟨n1, n2, n3⟩ := List.nodup_append.1 hd
  refine List.nodup_append.2 ⟨?_, h.2 n2, fun x hx y hy => ?_⟩
  ·rw [List.map_map]
   unfold List.Nodup
   rw [List.pairwise_map, List.pairwise_filterMap]
   refine List.Pairwise.imp ?_ hn
   intro i j hij a ha b hb hab
   have hab : a.b = b.b := hab
   exact hij (px n1 (x := a.b) (by rw [List.getElem?_map, ha]; rfl) (by rw [List.getElem?_map, hb, hab]; rfl))
  ·obtain ⟨e, he, rfl⟩ := List.mem_map.1 hx
   obtain ⟨x, hx2, rfl⟩ := List.mem_map.1 he
   obtain ⟨z, hz, rfl⟩ := List.mem_map.1 hy
   obtain ⟨_, w, h2⟩ := h.1 z hz
   exact n3 x.b (List.mem_map.2 ⟨x, hm x hx2, rfl⟩) z.b (List.mem_map.2 ⟨_, h2, rfl⟩)
def vJ (L : List (List bA × List bP)) (e : Int) : List (List bA × Int) := L.filterMap fun x => (II x.2 e).map fun s => (x.1, s.2)
theorem yy {M : List ed} {lo hi : Int} {R R2 : List bV} (h : aV R2 = gL M lo hi (aV R)) {y : bV} (hy : y ∈ R2) : ∃ x ∈ R, y.2.1 = x.2.1 /\ y.2.2.2 = x.2.2.2.filter (ky lo hi) /\ 0 < y.2.2.2.length := by
 have hm : (y.2.1, y.2.2.2) ∈ gL M lo hi (aV R) := by rw [<- h]; exact List.mem_map.2 ⟨y, hy, rfl⟩
 unfold gL at hm
 split at hm
 ·simp at hm
 ·unfold fb at hm
  obtain ⟨z, hz, e⟩ := List.mem_filterMap.1 hm
  obtain ⟨x, hx, rfl⟩ := List.mem_map.1 hz
  split at e
  ·rename_i g
   simp only [Option.some.injEq, Prod.mk.injEq] at e
   exact ⟨x, hx, e.1.symm, e.2.symm, by rw [<- e.2]; exact g.2⟩
  ·cases e
theorem E2 {M : List ed} {lo hi : Int} {R R2 : List bV} (h : aV R2 = gL M lo hi (aV R)) : Aq R2 := fun y hy => let ⟨_, _, _, _, g⟩ := yy h hy; g
theorem Hk {M : List ed} {lo hi : Int} {R R2 : List bV} (hb : kp R) (h : aV R2 = gL M lo hi (aV R)) (hl : R2.length <= R.length) : kp R2 := by
 refine ⟨Nat.le_trans hl hb.1, fun y hy => ?_⟩
 obtain ⟨x, hx, e1, e2, _⟩ := yy h hy
 refine ⟨by rw [e1]; exact (hb.2 x hx).1, ?_⟩
 unfold SBd
 rw [e2]
 exact Nat.le_trans (List.length_filter_le _ _) (hb.2 x hx).2
theorem eN {A : af} {e : HE} : SubH (A ++ []) (e :: A) := by
 rw [List.append_nil]
 exact SubH.of_sublist (List.sublist_cons_self _ _)
theorem yL {sz : Nat} {cells : List AV} {len : Nat} {v : AV} {hp : af} {n : Int} (h : OwnE sz cells len v hp) : (AV.agg [.int .i64 n, v]).beq (.agg [.int .i64 n, v]) = true := by
 rcases h with ⟨_, _, rfl, _⟩ | ⟨b, ex, rfl, _, _⟩ <;> simp [AV.beq, dG, dF, d6, dO]
theorem DG : tab.isAgg 24 = some true := by kernel_rfl
theorem AA : tab.isAgg 35 = some false := by kernel_rfl
theorem AB : tab.isAgg 37 = some true := by kernel_rfl
theorem H3 : tab.isAgg 38 = some false := by kernel_rfl
theorem DK : AO tab 37 = some ⟨2, true, [.int .i64 0, .nils]⟩ := by kernel_rfl
theorem JR : AO tab 38 = some ⟨1, true, [.int .i64 0]⟩ := by kernel_rfl
theorem DL : AP tab 35 35 = some 3 := by kernel_rfl
theorem Ie : ∀ l : List AV, l.length = 3 -> bk tab 132 l = ⟨3, true, l⟩ := by intro l h; exact aX (by kernel_rfl) h
theorem Eg : FA tab 136 1 = some (1, 0 + 1) := by kernel_rfl
theorem Gn : FA tab 37 0 = some (0, 0 + 1) := by kernel_rfl
theorem mz : FA tab 37 1 = some (1, 0 + 1) := by kernel_rfl
theorem Je : PL tab 132 [.nils, .int .i64 0, .int .i64 0] [(0, 1), (1, 1), (2, 1)] = true := by kernel_rfl
theorem J5 : PL tab 59 [.int .i64 0, .int .i64 0, .nils] [(0, 1), (1, 1), (2, 1)] = true := by kernel_rfl
theorem Hy : tab.size 24 = some 4 := by kernel_rfl
theorem Kd : tab.size 35 = some 1 := by kernel_rfl
theorem sK : tab.size 37 = some 2 := by kernel_rfl
theorem Ke : tab.size 38 = some 1 := by kernel_rfl
theorem HB : tab.size 59 = some 3 := by kernel_rfl
theorem Df : tab.und 35 = some (.slice 59) := by kernel_rfl
theorem Km : tab.zero 59 = some (.agg [.int .i64 0, .int .i64 0, .nils]) := by kernel_rfl
def TIn (hs : af) (R : List bV) (v : AV) : Prop := (v = .nils /\ R = []) \/ ∃ b sz ex, v = .slice b 0 R.length 1 /\ MemH hs b ⟨sz, ex, R.map (·.1)⟩
theorem TIn.mono {hs hs' : af} {R : List bV} {v : AV} (h : TIn hs R v) (hm : ∀ b o, MemH hs b o -> MemH hs' b o) : TIn hs' R v := h.imp id fun ⟨b, sz, ex, h1, h2⟩ => ⟨b, sz, ex, h1, hm _ _ h2⟩
theorem TIn.len {hs : af} {R : List bV} {v : AV} {e : Nat} (h : TIn hs R v) : iN (.slice e) v = some R.length := by
 rcases h with ⟨rfl, rfl⟩ | ⟨b, sz, ex, rfl, _⟩ <;> rfl
theorem TIn.full {hs : af} {R : List bV} {v : AV} (h : TIn hs R v) (hl : 0 < R.length) : ∃ b sz ex, v = .slice b 0 R.length 1 /\ MemH hs b ⟨sz, ex, R.map (·.1)⟩ := by
 rcases h with ⟨_, rfl⟩ | h
 ·simp at hl
 ·exact h
theorem TIn.own {R : List bV} {v : AV} {hp : af} (h : OwnE 1 (R.map (·.1)) R.length v hp) : TIn hp R v := by
 rcases h with ⟨h0, _, rfl, rfl⟩ | ⟨b, ex, rfl, rfl, _⟩
 ·exact .inl ⟨rfl, List.eq_nil_of_length_eq_zero h0⟩
 ·exact .inr ⟨b, 1, ex, rfl, true, List.mem_singleton.2 rfl⟩
theorem qn {R : List bV} {a b : Nat} (h : a + b < R.length) : (R.map (·.1))[(a + b) * 1]? = some (rg R (a + b)).1 := by
 unfold rg
 rw [Nat.mul_one, List.getElem?_map, List.getD_eq_getElem?_getD, List.getElem?_eq_getElem h]; rfl
theorem AY {O : List El} {a b : Nat} (h : a + b < O.length) : (cE O)[(a + b) * 2 + 0]? = some (eg O (a + b)).1 := (iG (d := HQ) (fun x : El => x.1) (fun x : El => .int .i64 x.2.2) O (a + b) h).1
theorem Fw {O : List El} {a b : Nat} (h : a + b < O.length) : (cE O)[(a + b) * 2 + 1]? = some (.int .i64 (eg O (a + b)).2.2) := (iG (d := HQ) (fun x : El => x.1) (fun x : El => .int .i64 x.2.2) O (a + b) h).2
def RunR (t : Nat) (ca : Int) (C : List (List bA × Int)) (cells : List AV) (n : Nat) (e : Int) (G : af) : Prop :=
 (e ≠ 0 /\ e = ca /\ n = 0) \/ (e = 0 /\ ca = 0 /\ n = 1 /\ ∃ (ev : AV) (O2 : List El), cells = [.int .i64 ((t : Nat) : Int), .int .i64 0, ev] /\ EIn G O2 ev /\ EAll G O2 /\ O2.map (·.2) = C)
theorem nK : AP tab 79 79 = some 1 := by kernel_rfl
theorem Ig : ∀ l : List AV, l.length = 2 -> bk tab 72 l = ⟨2, true, l⟩ := by intro l h; exact aX (by kernel_rfl) h
theorem sL : tab.size 63 = some 1 := by kernel_rfl
theorem mZ : tab.und 79 = some (.slice 63) := by kernel_rfl
theorem Fq : tab.zero 63 = some (.nils) := by kernel_rfl
theorem tA (hs : af) (hro : ∀ e ∈ hs, e.w = false) (R : List bV) (v : AV) (hR : RSl hs R 0 v) (hRA : RAll hs R) (hRb : kp R) : Spec tab 20 [v] [] hs (ij (fun v => ∃ n : Int, v = .int .i64 n)) := by
 have hRl := hRb.1
 refine ac (bz 20 Tryz.func20) rfl (m := 24) rfl (rs := [.tmp 2]) rfl (st := [(0, v)]) rfl rfl (fun _ => rfl) (fun E => zr (za (zi 0) (zk (zr (za (zi 0) (zk (W.seq (zr (za (zi 0) (zk (W.block (W.loop_ind2 (fun (i : Nat) (c : Nat) => [(0, v), (3, .int .i64 ((c : Nat) : Int)), (4, .int .i64 ((i : Nat) : Int))]) (fun _ _ => _) (fun (i : Nat) (c : Nat) => i <= R.length /\ c <= 1200000) (fun (i : Nat) (c : Nat) => R.length - i) (0) (0) ⟨Nat.zero_le _, by omega⟩ zv (SubH.refl _) (fun i c hI0 ih0 => ?_)))))))))))))
 obtain ⟨hi1, hc1⟩ := hI0
 refine W.seq (zr (zm rfl (zm rfl (zq (Q.len dA rfl (RSl.len hR)) (zq (aa rfl rfl rfl (bu bY)) (zm rfl (aC (d := 9) rfl (fun hc9 => ?_) (fun hc9 => ?_))))))))
 ·refine zT (zm rfl (zT (zq (aa rfl (zi 65536) rfl (aZ bf)) (zq (aA rfl rfl) (zk (aB rfl (fun hc12 => ?_) (fun hc12 => ?_)))))))
  ·obtain ⟨br, szr, exr, rfl, wr, mr⟩ := RSl.full hR zy
   have hm0 := eZ (R := R) (i := 0 + i) zy
   have hx := hRA _ hm0
   have hxb := hRb.2 _ hm0
   have hxS : (rg R (0 + i)).2.2.2.length <= 1048576 := hxb.2
   refine zw (W.seq (W.block (W.reg (zm rfl (zm rfl (zm rfl (zq (bj dA fk rfl rfl zo) (zq (Q.fieldAddr jm rfl rfl) (zq (ag rfl mr l8 (oI zo)) (zq (Q.len fm rfl (SIn.len hx.2)) (zq (aa rfl rfl rfl zp) (za rfl (WO.nil (End.KB (End.K (W.sub (zc 3 rfl (zc 0 rfl (zc 4 rfl aI))) (W.reg (zm rfl (zq (aa rfl (zi 1) rfl zp) (za rfl (WO.nil (End.KL (W.sub zv (ih0 (i + 1) (c + (rg R (0 + i)).2.2.2.length) ?_ ?_))))))))))))))))))))))))
   ·exact ⟨by omega, by omega⟩
   exact zo
  refine W.exit (am (aq (ap (End.K (zr (zm rfl (za rfl (zk (W.ret (ar (z1 rfl) ?_))))))))))
  exact ⟨_, rfl⟩
 refine z2 (zq (aF rfl rfl) (zk (W.condF rfl (W.exit (am (aq (ap (End.K (zr (zm rfl (za rfl (zk (W.ret (ar (z1 rfl) ?_))))))))))))))
 exact ⟨_, rfl⟩

theorem Ab (hs : af) (hro : ∀ e ∈ hs, e.w = false) (R : List bV) (v : AV) (hR : RSl hs R 0 v) (hRA : RAll hs R) (hRb : kp R) : Spec tab 25 [v] [] hs (fun u D => OwnE 1 (R.map (·.1)) R.length u D) := by
 have hRl := hRb.1
 refine ac (bz 25 Tryz.func25) rfl (m := 20) rfl (rs := [.tmp 2]) rfl (st := [(0, v)]) rfl rfl (fun _ => rfl) (fun E => zr (za rfl (zk (zr (za rfl (zk (W.seq (zr (za (zi 0) (zk (W.block (bI (fun (i : Nat) (o : AV) (ho : af) => [(0, v), (3, o), (4, .int .i64 ((i : Nat) : Int))]) (fun (i : Nat) (o : AV) (ho : af) => hs ++ ho) (fun (i : Nat) (o : AV) (ho : af) => i <= R.length /\ OwnE 1 ((R.take i).map (·.1)) i o ho) (fun (i : Nat) (o : AV) (ho : af) => R.length - i) (0) (.nils) ([]) ⟨Nat.zero_le _, OwnE.nil 1⟩ zv (SubH.op (by rw [List.append_nil])) (fun i o ho hI0 ih0 => ?_)))))))))))))
 obtain ⟨hi1, hO⟩ := hI0
 refine W.seq (zr (zm rfl (zm rfl (zq (Q.len dA rfl (RSl.len hR)) (zq (aa rfl rfl rfl (bu bY)) (zk (aB rfl (fun hc8 => ?_) (fun hc8 => ?_))))))))
 ·obtain ⟨br, szr, exr, rfl, wr, mr⟩ := RSl.full hR zy
  have hm0 := eZ (R := R) (i := 0 + i) zy
  have hx := hRA _ hm0
  have hxb := hRb.2 _ hm0
  refine zw (W.seq (W.block (W.reg (zm rfl (zm rfl (zm rfl (zq (bj dA fk rfl rfl zo) (zq (Q.fieldAddr jJ rfl rfl) (zq (ag rfl (List.mem_append_left _ mr) jA (qm zo)) (WO.bslice mZ sL Fq rfl (cy rfl dE) rfl (cs := [_]) (Fy (LIn.cell hx.1)) (H8 (LIn.cell hx.1)) rfl (fun b1 => WO.appAny (A := ([] ++ hs)) nK hO rfl rfl (Src.slice (zt 0 rfl) rfl) rfl zy (by decide) (SubH.of_sublist (List.sublist_cons_self _ _)) rfl (fun v18 hp18 hO18 => za rfl (WO.nil (End.KB (End.K (W.reg (zm rfl (zq (aa rfl (zi 1) rfl zp) (za rfl (WO.nil (End.KL (W.sub zv (cz gc (ih0 (i + 1) (v18) (hp18) ?_ ?_))))))))))))))))))))))))
  ·exact ⟨by omega, by rw [show (R.take (i + 1)).map (·.1) = (R.take i).map (·.1) ++ [(rg R (0 + i)).1] from (by rw [Nat.zero_add, cb R CO zy, List.map_append]; rfl)]; exact hO18⟩
  exact zo
 refine W.exit (am (aq (ap (End.K (zr (zm rfl (za rfl (zk (W.ret ?_)))))))))
 refine End.ret (z1 rfl) (hs' := ho) (by rw [List.take_of_length_le zy] at hO; have : i = R.length := zy; rw [<- this]; exact hO) hO.w (SubH.of_sublist (by simp))

theorem rq {tb : Tab} {n : Nat} {E : Env} {s : St} {hs : af} {R : T AV -> AHeap -> Prop} {ops rest : List Oper} {d : Nat} {t : TypeId} {ty : TypeId} {pos : String} {aft : Array Edge} {ox : Operand} {v : AV} {ob : AObj} (hx : oL s ox = some v) (hc : v.isCell = true) (ho : bk tb t [v] = ob) (hd : Nat.blt d n = true)
  (hk : ∀ b, WO tb n ops rest E ((d, .ptr b 0) :: s) (⟨b, ob, true⟩ :: hs) R) : WO tb n ops (⟨some d, .box t ox, ty, pos, aft, none⟩ :: rest) E s hs R :=
 WO.box hx (by rw [cp hc]; simp [hc]) (by rw [cp hc]; exact ho) hd hk
theorem Ff {f : Nat} {a b : AV} {l : List AV} : jC.thr f (a :: b :: l) = none := by
 rw [show jC.thr = v4 from rfl]
 unfold v4
 split
 ·rename_i h; cases h
 ·rfl
theorem dV : Spec tab 12 [] [] [] (bN (.bool true)) := kI fun _ => rfl
theorem Co {L : List (List bA × List bP)} {e : Int} {x : List bA × Int} (h : x ∈ vJ L e) : ∃ y ∈ L, x.1 = y.1 := by
 obtain ⟨y, hy, g⟩ := List.mem_filterMap.1 h
 cases hi : II y.2 e with
 | none => rw [hi] at g; cases g
 | some s => rw [hi] at g; cases g; exact ⟨y, hy, rfl⟩
theorem CR {M : List ed} {lo hi : Int} {L : List (List bA × List bP)} {x : List bA × List bP} (h : x ∈ gL M lo hi L) : ∃ y ∈ L, x.1 = y.1 := by
 unfold gL at h
 split at h
 ·simp at h
 ·unfold fb at h
  obtain ⟨z, hz, e⟩ := List.mem_filterMap.1 h
  split at e
  ·simp only [Option.some.injEq] at e
   exact ⟨z, hz, by rw [<- e]⟩
  ·cases e
theorem CQ {M : List ed} {lo hi : Int} {L : List (List bA × List bP)} : (gL M lo hi L).length <= L.length := by
 unfold gL
 split
 ·exact Nat.zero_le _
 ·exact List.length_filterMap_le _ _
theorem yG {M : List ed} {lo hi e : Int} {R : List bV} {O : List El} (hb : kp R) (h : O.map (·.2) = vJ (gL M lo hi (aV R)) e) : EBd O := by
 refine ⟨?_, fun x hx => ?_⟩
 ·have h1 : O.length = (vJ (gL M lo hi (aV R)) e).length := by rw [<- h, List.length_map]
  have h2 : (vJ (gL M lo hi (aV R)) e).length <= (gL M lo hi (aV R)).length := List.length_filterMap_le _ _
  have h3 : (gL M lo hi (aV R)).length <= (aV R).length := CQ
  have h4 : (aV R).length = R.length := List.length_map _
  have := hb.1
  omega
 ·have hm : x.2 ∈ vJ (gL M lo hi (aV R)) e := by rw [<- h]; exact List.mem_map.2 ⟨x, hx, rfl⟩
  obtain ⟨y, hy, e1⟩ := Co hm
  obtain ⟨z, hz, e2⟩ := CR hy
  obtain ⟨r, hr, rfl⟩ := List.mem_map.1 hz
  rw [e1, e2]
  exact (hb.2 r hr).1
theorem RunR.two {R : List bV} {M : List ed} {ca : Int} {t t' : Nat} {lo hi e0 : Int} {cells cells' : List AV} {n n' : Nat} {e e' : Int} {G G' : af} (hb : kp R) (h : RunR t ca (vJ (gL M lo hi (aV R)) e0) cells n e G) (h' : RunR t' ca (vJ (gL M lo hi (aV R)) e0) cells' n' e' G') :
  (e = e' /\ e ≠ 0 /\ n = 0 /\ n' = 0) \/ (e = 0 /\ e' = 0 /\ n = 1 /\ n' = 1 /\ ∃ (evA : AV) (OA : List El) (evB : AV) (OB : List El), cells = [.int .i64 ((t : Nat) : Int), .int .i64 0, evA] /\ cells' = [.int .i64 ((t' : Nat) : Int), .int .i64 0, evB] /\ EIn G OA evA /\ EAll G OA /\ EBd OA /\ EIn G' OB evB /\ EAll G' OB /\ EBd OB /\ OA.map (·.2) = OB.map (·.2)) := by
 rcases h with ⟨a1, a2, a3⟩ | ⟨a1, a2, a3, ev, O, a4, a5, a6, a7⟩ <;> rcases h' with ⟨b1, b2, b3⟩ | ⟨b1, b2, b3, ev', O', b4, b5, b6, b7⟩
 ·exact .inl ⟨by rw [a2, b2], a1, a3, b3⟩
 ·exact absurd b2 (by rw [<- a2]; exact a1)
 ·exact absurd a2 (by rw [<- b2]; exact b1)
 ·exact .inr ⟨a1, b1, a3, b3, ev, O, ev', O', a4, b4, a5, a6, yG hb a7, b5, b6, yG hb b7, by rw [a7, b7]⟩
theorem JU : ∀ l : List AV, l.length = 1 -> bk tab 22 l = ⟨1, true, l⟩ := by intro l h; exact aX (by kernel_rfl) h
theorem BJ : FA tab 59 2 = some (2, 0 + 1) := by kernel_rfl
theorem J4 : PL tab 24 [.int .i64 0, .int .i64 0, .int .i64 0, .int .i64 0] [(0, 1), (1, 1), (2, 1), (3, 1)] = true := by kernel_rfl
theorem Hc : PL tab 53 [.int .i64 0, .str [], .int .i64 0, .nils, .int .i64 0, .int .i64 0, .int .i64 0, .nils, .int .i64 0, .bool false, .nils] [(0, 1), (1, 1), (2, 1), (3, 1), (4, 1), (5, 1), (6, 1), (7, 1), (8, 1), (9, 1), (10, 1)] = true := by kernel_rfl
theorem Hd : PL tab 55 [.int .i64 0, .str [], .int .i64 0, .nils, .int .i64 0, .int .i64 0, .int .i64 0, .nils, .int .i64 0, .bool false, .nils, .nils] [(0, 11), (11, 1)] = true := by kernel_rfl
theorem Kk : tab.zero 55 = some (.agg [.int .i64 0, .str [], .int .i64 0, .nils, .int .i64 0, .int .i64 0, .int .i64 0, .nils, .int .i64 0, .bool false, .nils, .nils]) := by kernel_rfl
theorem Ac (v : AV) (hv : v.isCell = true) : Spec tab 17 [v] [] [] (fun u D => ∃ (bx : Nat) (x : Bool), u = .func 34 [.ptr bx 0] /\ D = [⟨bx, ⟨1, x, [v]⟩, true⟩]) := by
 refine ac (bz 17 Tryz.func17) rfl (m := 4) rfl (rs := [.tmp 2]) rfl (st := [(0, v)]) rfl rfl (fun _ => rfl) (fun E => zr (rq rfl hv (JU _ rfl) rfl (fun b1 => za rfl (zk (zr (zq (dQ (aj rfl oz)) (za rfl (zk (W.ret ?_)))))))))
 refine End.ret (z1 rfl) (hs' := [⟨b1, ⟨1, true, [v]⟩, true⟩]) ⟨b1, true, rfl, rfl⟩ lc (SubH.refl _)

end Go.Proofs.YtfkbfnpjggkdmaaGreatDoor.Ev
/- What the tables say of types. -/
namespace Go.Proofs.YtfkbfnpjggkdmaaGreatDoor.Ev.P19
open Go.RowKit
theorem bH : tab.isAgg 3 = some false := by kernel_rfl
theorem H1 : tab.isAgg 317 = some false := by kernel_rfl
theorem H2 : tab.isAgg 321 = some true := by kernel_rfl
theorem yQ : tab.isAgg 50 = some false := by kernel_rfl
theorem jA : tab.isAgg 63 = some false := by kernel_rfl
theorem kK : tab.isAgg 65 = some true := by kernel_rfl
theorem p4 : tab.isAgg 70 = some true := by kernel_rfl
theorem JO : tab.isAgg 79 = some false := by kernel_rfl
theorem gP : tab.isAgg 9 = some false := by kernel_rfl
theorem Ia : AO tab 321 = some ⟨1, true, [.str [], .str []]⟩ := by kernel_rfl
theorem yR : AO tab 65 = some ⟨2, true, [.nils, .int .i64 0]⟩ := by kernel_rfl
theorem yS : AO tab 70 = some ⟨2, true, [.str [], .str []]⟩ := by kernel_rfl
theorem eM : AP tab 25 25 = some 1 := by kernel_rfl
theorem j8 : AP tab 57 57 = some 2 := by kernel_rfl
theorem lp : AP tab 63 63 = some 2 := by kernel_rfl
theorem nK : AP tab 79 79 = some 1 := by kernel_rfl
theorem If : ∀ l : List AV, l.length = 2 -> bk tab 319 l = ⟨2, true, l⟩ := by intro l h; exact aX (by kernel_rfl) h
theorem DT : ∀ l : List AV, l.length = 1 -> bk tab 50 l = ⟨1, true, l⟩ := by intro l h; exact aX (by kernel_rfl) h
theorem DV : ∀ l : List AV, l.length = 2 -> bk tab 65 l = ⟨2, true, l⟩ := by intro l h; exact aX (by kernel_rfl) h
theorem DW : ∀ l : List AV, l.length = 2 -> bk tab 70 l = ⟨2, true, l⟩ := by intro l h; exact aX (by kernel_rfl) h
theorem wW : FA tab 319 0 = some (0, 0 + 1) := by kernel_rfl
theorem Eh : FA tab 319 1 = some (1, 0 + 1) := by kernel_rfl
theorem o6 : FA tab 65 0 = some (0, 0 + 1) := by kernel_rfl
theorem o7 : FA tab 65 1 = some (1, 0 + 1) := by kernel_rfl
theorem fw : FA tab 70 0 = some (0, 0 + 1) := by kernel_rfl
theorem gX : FA tab 70 1 = some (1, 0 + 1) := by kernel_rfl
theorem Cp : bO (tab.und 317) = some (321, 25) := by kernel_rfl
theorem Jg : PL tab 319 [.nils, .nilm] [(0, 1), (1, 1)] = true := by kernel_rfl
theorem Jh : PL tab 321 [.str [], .str []] [(0, 1), (1, 1)] = true := by kernel_rfl
theorem EX : PL tab 65 [.nils, .int .i64 0] [(0, 1), (1, 1)] = true := by kernel_rfl
theorem dn : tab.size 3 = some 1 := by kernel_rfl
theorem FM : tab.size 321 = some 2 := by kernel_rfl
theorem sL : tab.size 63 = some 1 := by kernel_rfl
theorem dN : tab.size 65 = some 2 := by kernel_rfl
theorem eo : tab.size 70 = some 2 := by kernel_rfl
theorem Kf : tab.size 79 = some 1 := by kernel_rfl
theorem C9 : tab.size 9 = some 1 := by kernel_rfl
theorem aP : tab.und 25 = some (.slice 3) := by kernel_rfl
theorem kF : tab.und 258 = some (.int .u64) := by kernel_rfl
theorem Ah : tab.und 3 = some (.int .i64) := by kernel_rfl
theorem De : tab.und 321 = some (.array 2 9) := by kernel_rfl
theorem mY : tab.und 50 = some (.slice 9) := by kernel_rfl
theorem eW : tab.und 57 = some (.slice 65) := by kernel_rfl
theorem cW : tab.und 63 = some (.slice 70) := by kernel_rfl
theorem mZ : tab.und 79 = some (.slice 63) := by kernel_rfl
theorem cf : tab.und 9 = some .string := by kernel_rfl
theorem JB : tab.zero 25 = some (.nils) := by kernel_rfl
theorem sS : tab.zero 3 = some (.int .i64 0) := by kernel_rfl
theorem Fq : tab.zero 63 = some (.nils) := by kernel_rfl
theorem Aj : tab.zero 65 = some (.agg [.nils, .int .i64 0]) := by kernel_rfl
theorem Dm : tab.zero 70 = some (.agg [.str [], .str []]) := by kernel_rfl
theorem JE : tab.zero 9 = some (.str []) := by kernel_rfl
def OwnE (sz : Nat) (cells : List AV) (len : Nat) (v : AV) (hp : af) : Prop :=
 (len = 0 /\ cells = [] /\ v = .nils /\ hp = []) \/ (∃ b ex, v = .slice b 0 len sz /\ hp = [⟨b, ⟨sz, ex, cells⟩, true⟩] /\ cells.length = len * sz)
theorem OwnE.nil (sz : Nat) : OwnE sz [] 0 .nils [] := .inl ⟨rfl, rfl, rfl, rfl⟩
theorem OwnE.of {sz : Nat} {cells : List AV} {len : Nat} {v : AV} {hp : af} (h : Own sz cells len v hp) : OwnE sz cells len v hp := h.imp id fun ⟨b, ex, h1, h2, h3, _⟩ => ⟨b, ex, h1, h2, h3⟩
theorem OwnE.cons {sz len b : Nat} {ex : Bool} {cells : List AV} (h : cells.length = len * sz) : OwnE sz cells len (.slice b 0 len sz) [⟨b, ⟨sz, ex, cells⟩, true⟩] := .inr ⟨b, ex, rfl, rfl, h⟩
theorem OwnE.length {sz : Nat} {cells : List AV} {len : Nat} {v : AV} {hp : af} (h : OwnE sz cells len v hp) : cells.length = len * sz := by
 rcases h with ⟨rfl, rfl, _, _⟩ | ⟨b, _, _, _, h⟩
 ·simp
 ·exact h
theorem OwnE.w {sz : Nat} {cells : List AV} {len : Nat} {v : AV} {hp : af} (h : OwnE sz cells len v hp) : ∀ e ∈ hp, e.w = true := by
 rcases h with ⟨_, _, _, rfl⟩ | ⟨b, _, _, rfl, _⟩
 ·intro e he; simp at he
 ·intro e he; simp at he; subst he; rfl
theorem OwnE.len {sz : Nat} {cells : List AV} {len e : Nat} {v : AV} {hp : af} (h : OwnE sz cells len v hp) : iN (.slice e) v = some len := by
 rcases h with ⟨rfl, _, rfl, _⟩ | ⟨b, _, rfl, _, _⟩ <;> rfl
theorem OwnE.cell {sz : Nat} {cells : List AV} {len : Nat} {v : AV} {hp : af} (h : OwnE sz cells len v hp) : v.isCell = true := by
 rcases h with ⟨_, _, rfl, _⟩ | ⟨b, _, rfl, _, _⟩ <;> rfl
theorem OwnE.bq {sz : Nat} {cells : List AV} {len : Nat} {v : AV} {hp : af} (h : OwnE sz cells len v hp) : v.beq v = true := by
 rcases h with ⟨_, _, rfl, _⟩ | ⟨b, ex, rfl, _, _⟩
 ·rfl
 ·simp [AV.beq, dG, dF, d6]
theorem OwnE.full {sz : Nat} {cells : List AV} {len : Nat} {v : AV} {hp : af} (h : OwnE sz cells len v hp) (hl : 0 < len) : ∃ b ex, v = .slice b 0 len sz /\ hp = [⟨b, ⟨sz, ex, cells⟩, true⟩] := by
 rcases h with ⟨h, _, _, _⟩ | ⟨b, ex, h1, h2, _⟩
 ·omega
 ·exact ⟨b, ex, h1, h2⟩
def Src (hs : af) (sz : Nat) (x : AV) (m : Nat) (new : List AV) : Prop := ∀ h, dj hs h -> dH h.objs sz x = some (m, new)
theorem Src.nils {hs : af} {sz : Nat} : Src hs sz .nils 0 [] := fun h _ => rfl
theorem Src.slice {hs : af} {b o m sz : Nat} {ob : AObj} {w : Bool} {l : List AV} (hm : ⟨b, ob, w⟩ ∈ hs) (hl : dy ob.cells (o * sz) (m * sz) = some l) : Src hs sz (.slice b o m sz) m l :=
 fun h hh => d9 (hh _ hm) hl
theorem Src.all {hs : af} {b m sz : Nat} {ob : AObj} (hm : MemH hs b ob) (hl : ob.cells.length = m * sz) : Src hs sz (.slice b 0 m sz) m ob.cells := by
 obtain ⟨w, hm⟩ := hm
 exact Src.slice hm (by rw [Nat.zero_mul]; exact lV hl)
theorem nJ {hs : af} {l : List bA} {v : AV} (h : LIn hs l v) : Src hs 2 v l.length (cL l) := by
 rcases h with ⟨rfl, rfl⟩ | ⟨b, sz, ex, rfl, hm⟩
 ·exact Src.nils
 ·exact Src.all hm (oH l)
theorem Src.mono {hs hs' : af} {sz m : Nat} {x : AV} {new : List AV} (hm : ∀ e ∈ hs, MemH hs' e.b e.o) (h : Src hs sz x m new) : Src hs' sz x m new :=
 fun hp hh => h hp fun e he => by obtain ⟨w, hw⟩ := hm e he; exact hh ⟨e.b, e.o, w⟩ hw
section
variable {tb : Tab} {n : Nat} {E : Env} {s : St} {hs : af} {R : T AV -> AHeap -> Prop} {ops rest : List Oper} {d : Nat} {t : TypeId} {ty : TypeId} {pos : String} {aft : Array Edge}
theorem WO.appAny {ox oy : Operand} {t2 sz len m : Nat} {tl : List Nat} {A hp : af} {cells new : List AV} {v x : AV} (ha : AP tb t t2 = some sz) (hO : OwnE sz cells len v hp) (hx : oL s ox = some v) (hy : oL s oy = some x) (hc : Src hs sz x m new)
  (hl : new.length = m * sz) (hn : len + m <= 1073741824) (hz : 0 < sz) (hs_ : SubH (A ++ hp) hs) (hd : Nat.blt d n = true)
  (hk : ∀ v' hp', OwnE sz (cells ++ new) (len + m) v' hp' -> WO tb n ops rest E ((d, v') :: s) (A ++ hp') R) :
  WO tb n ops (⟨some d, .call ⟨.builtin .append, #[ox, oy], (t :: t2 :: tl).toArray⟩, ty, pos, aft, none⟩ :: rest) E s hs R := by
 refine WO.l (s' := s) fun tm h ht hh => ?_
 have hc := hc h hh.keep
 replace hh := hh.sub hs_
 have hev : ∀ r, dp h sz m v new = r -> cO tb (aD (Ev.callE tb)) tm h (.call ⟨.builtin .append, #[ox, oy], (t :: t2 :: tl).toArray⟩) = .l r := by
  intro r hr
  show Res.l (cq tb tm h #[ox, oy] (t :: t2 :: tl).toArray) = _
  unfold cq
  simp only [cC, aR ht hx, aR ht hy]
  rw [fU ha hc, hr]
 by_cases hm0 : m = 0
 ·have hnew : new = [] := List.eq_nil_of_length_eq_zero (by rw [hl, hm0]; simp)
  subst hm0 hnew
  have hk := hk v hp (by simpa using hO)
  refine ⟨v, h, tm.set d v, hev _ ?_, aO hd, hk _ _ (ht.set d v) hh⟩
  rcases hO with ⟨_, _, rfl, _⟩ | ⟨b, ex, rfl, _, _⟩
  ·rfl
  ·unfold dp
   have e1 : Nat.beq sz sz = true := by simp
   simp only [Nat.beq_eq_true_eq, e1]
 ·have e0 : Nat.beq m 0 = false := by cases m with
   | zero => omega
   | succ m => rfl
  rcases hO with ⟨rfl, rfl, rfl, rfl⟩ | ⟨b, ex, rfl, rfl, hcl⟩
  ·have e1 : Nat.ble m 1073741824 = true := Nat.ble_eq.mpr zy
   have hk := hk (.slice h.next 0 (0 + m) sz) [⟨h.next, ⟨sz, false, [] ++ new⟩, true⟩] (OwnE.cons (by rw [Nat.zero_add]; simpa using hl))
   rw [Nat.zero_add, List.nil_append] at hk
   refine ⟨.slice h.next 0 m sz, ⟨h.next + 1, h.objs.set h.next ⟨sz, false, new⟩⟩, tm.set d (.slice h.next 0 m sz), hev _ ?_, aO hd, hk _ _ (ht.set d _) ?_⟩
   ·unfold dp
    simp only [e0, e1]
   ·rw [List.append_nil] at hh
    exact (hh.new _).sub (SubH.op (List.perm_append_singleton _ _))
  ·have e1 : (Nat.beq sz sz && Nat.ble (len + m) 1073741824) = true := by simp; omega
   have hmem : (⟨b, ⟨sz, ex, cells⟩, true⟩ : HE) ∈ (A ++ [⟨b, ⟨sz, ex, cells⟩, true⟩] : af) := by simp
   have h1 := (hh.at_ _ hmem).1
   simp only at h1
   have e2 : Nat.beq sz sz = true := by simp
   have e3 : Nat.ble ((0 + len + m) * sz) cells.length = false := by
    rw [hcl]
    have : len * sz < (0 + len + m) * sz := Nat.mul_lt_mul_of_pos_right zy hz
    cases hb : Nat.ble ((0 + len + m) * sz) (len * sz) with
    | false => rfl
    | true => have := Nat.ble_eq.mp hb; omega
   have e4 : dy cells (0 * sz) (len * sz) = some cells := by rw [Nat.zero_mul]; exact lV hcl
   have hidx : (A ++ [⟨b, ⟨sz, ex, cells⟩, true⟩] : af)[A.length]? = some ⟨b, ⟨sz, ex, cells⟩, true⟩ := by simp
   have hne : (A ++ [⟨b, ⟨sz, ex, cells⟩, true⟩] : af).eraseIdx A.length = A := by simp [List.eraseIdx_append_of_length_le]
   have hk := hk (.slice h.next 0 (len + m) sz) [⟨h.next, ⟨sz, false, cells ++ new⟩, true⟩] (OwnE.cons (by rw [List.length_append, hcl, hl, Nat.add_mul]))
   cases ex with
   | true =>
    refine ⟨.slice h.next 0 (len + m) sz, ⟨h.next + 1, h.objs.set h.next ⟨sz, false, cells ++ new⟩⟩, tm.set d (.slice h.next 0 (len + m) sz), hev _ ?_, aO hd, hk _ _ (ht.set d _) ?_⟩
    ·unfold dp
     simp only [e0, e1]
     unfold fL
     simp only [h1, e2, e3, e4]
    ·refine (hh.new ⟨sz, false, cells ++ new⟩).sub (SubH.trans (SubH.op (List.perm_append_singleton _ _)) (SubH.of_sublist ?_))
     exact List.Sublist.cons_cons _ (List.sublist_append_left _ _)
   | false =>
    refine ⟨.slice h.next 0 (len + m) sz, ⟨h.next + 1, (h.objs.del b).set h.next ⟨sz, false, cells ++ new⟩⟩, tm.set d (.slice h.next 0 (len + m) sz), hev _ ?_, aO hd, hk _ _ (ht.set d _) ?_⟩
    ·unfold dp
     simp only [e0, e1]
     unfold fL
     simp only [h1, e2, e3, e4]
    ·have := hh.del hidx
     rw [hne] at this
     exact (this.new ⟨sz, false, cells ++ new⟩).sub (SubH.op (List.perm_append_singleton _ _))
variable {keep : af} {q i : Nat}
theorem WD.appAny {ox oy : Operand} {t2 sz len m : Nat} {tl : List Nat} {A hp : af} {cells new : List AV} {v x : AV} (ha : AP tb t t2 = some sz) (hO : OwnE sz cells len v hp) (hx : oL s ox = some v) (hy : oL s oy = some x) (hc : Src hs sz x m new)
  (hl : new.length = m * sz) (hn : len + m <= 1073741824) (hz : 0 < sz) (hs_ : SubH (A ++ hp) hs) (hd : Nat.blt d n = true) (hkp : KIn keep A)
  (hk : ∀ v' hp', OwnE sz (cells ++ new) (len + m) v' hp' -> WD tb n ops keep q (i + 1) rest E ((d, v') :: s) (A ++ hp') R) :
  WD tb n ops keep q i (⟨some d, .call ⟨.builtin .append, #[ox, oy], (t :: t2 :: tl).toArray⟩, ty, pos, aft, none⟩ :: rest) E s hs R :=
 WD.l (C := fun v' hs' => ∃ hp', OwnE sz (cells ++ new) (len + m) v' hp' /\ hs' = A ++ hp') (fun tm h r e => by cases e) (fun R hR => WO.appAny ha hO hx hy hc hl hn hz hs_ hd fun v' hp' h => WO.nil (hR _ _ ⟨hp', h, rfl⟩))
  (fun v' hs' ⟨hp', _, h2⟩ _ => by subst h2; exact fun e he => let ⟨w, hm⟩ := hkp e he; ⟨w, List.mem_append_left _ hm⟩) (fun v' hs' ⟨hp', h1, h2⟩ => by subst h2; exact hk v' hp' h1)
end
abbrev El := AV × List bA × Int
def cE (V : List El) : List AV := V.flatMap fun x => [x.1, .int .i64 x.2.2]
def eg (V : List El) (i : Nat) : El := V.getD i (.nils, [], 0)
theorem cg {V : List El} {i : Nat} (h : i < V.length) : eg V i ∈ V := by
 unfold eg
 rw [List.getD_eq_getElem?_getD, List.getElem?_eq_getElem h]
 exact List.getElem_mem h
theorem DZ (x : El) (V : List El) : cE (x :: V) = x.1 :: .int .i64 x.2.2 :: cE V := rfl
theorem rH : ∀ (V : List El) (i : Nat), i < V.length -> (cE V)[i * 2]? = some (eg V i).1 /\ (cE V)[i * 2 + 1]? = some (.int .i64 (eg V i).2.2)
 | x :: V, 0, _ => ⟨rfl, rfl⟩
 | x :: V, i + 1, h => by
  have := rH V i (by simpa using h)
  have e : (i + 1) * 2 = i * 2 + 1 + 1 := by omega
  rw [DZ, e]
  exact this
theorem lz {V : List El} {i : Nat} (h : i < V.length) : dy (cE V) ((0 + i) * 2) 2 = some [(eg V i).1, .int .i64 (eg V i).2.2] := by
 obtain ⟨h1, h2⟩ := rH V i h
 rw [Nat.zero_add]
 exact C3 h1 h2
theorem AY {V : List El} {i : Nat} (h : i < V.length) : (cE V)[(0 + i) * 2 + 0]? = some (eg V i).1 := by
 rw [Nat.zero_add]; exact (rH V i h).1
theorem Fw {V : List El} {i : Nat} (h : i < V.length) : (cE V)[(0 + i) * 2 + 1]? = some (.int .i64 (eg V i).2.2) := by
 rw [Nat.zero_add]; exact (rH V i h).2
def EIn (hs : af) (V : List El) (v : AV) : Prop := ((v = .nils /\ V = []) \/ ∃ b sz ex, v = .slice b 0 V.length 2 /\ MemH hs b ⟨sz, ex, cE V⟩) /\ ∀ x ∈ V, LIn hs x.2.1 x.1
theorem EIn.mono {hs hs' : af} {V : List El} {v : AV} (hm : ∀ b o, MemH hs b o -> MemH hs' b o) (h : EIn hs V v) : EIn hs' V v :=
 ⟨h.1.imp id fun ⟨b, sz, ex, h1, h2⟩ => ⟨b, sz, ex, h1, hm _ _ h2⟩, fun x hx => (h.2 x hx).mono hm⟩
theorem EIn.len {hs : af} {V : List El} {v : AV} {e : Nat} (h : EIn hs V v) : iN (.slice e) v = some V.length := by
 rcases h.1 with ⟨rfl, rfl⟩ | ⟨b, sz, ex, rfl, _⟩ <;> rfl
theorem EIn.full {hs : af} {V : List El} {v : AV} (h : EIn hs V v) (hl : 0 < V.length) : ∃ b sz ex, v = .slice b 0 V.length 2 /\ MemH hs b ⟨sz, ex, cE V⟩ := by
 rcases h.1 with ⟨_, rfl⟩ | h
 ·simp at hl
 ·exact h
theorem EIn.at {hs : af} {V : List El} {v : AV} (h : EIn hs V v) {i : Nat} (hi : i < V.length) : LIn hs (eg V i).2.1 (eg V i).1 := h.2 _ (cg hi)
def I64 (n : Int) : Prop := -9223372036854775808 <= n /\ n <= 9223372036854775807
def EBd (V : List El) : Prop := V.length <= 1048576 /\ ∀ x ∈ V, LBd x.2.1 /\ I64 x.2.2
theorem EBd.at {V : List El} (h : EBd V) {i : Nat} (hi : i < V.length) : LBd (eg V i).2.1 /\ I64 (eg V i).2.2 := h.2 _ (cg hi)
end Go.Proofs.YtfkbfnpjggkdmaaGreatDoor.Ev.P19
