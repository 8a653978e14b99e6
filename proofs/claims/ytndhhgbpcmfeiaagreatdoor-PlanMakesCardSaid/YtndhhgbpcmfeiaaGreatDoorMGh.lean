/- The tables of the program, with what is known of calls (chapter 20). -/
import Derived.Test.YtndhhgbpcmfeiaaGreatDoorMAwJ
import Derived.Test.YtndhhgbpcmfeiaaGreatDoorProg
import Derived.Test.YtndhhgbpcmfeiaaGreatDoorMGa
namespace Go.Proofs.YtndhhgbpcmfeiaaGreatDoor.Ev
open Go.RowKit
set_option linter.unusedVariables false
noncomputable def orc (f : Nat) (args : List AV) (h : AHeap) : Option AV :=
 match Nat.beq f 10 with
 | true => match args with
  | [] => some (.bool true)
  | _ => none
 | false => none
noncomputable def tab : Tab := (tabOf Tryz.prog).knows (fun _ _ _ _ => none) (fun _ _ => none) orc
set_option linter.unusedSimpArgs false
set_option maxRecDepth 100000
def ai (A : List Int) (q : Nat) : Int := A.getD q 0
theorem ai_at {A : List Int} {q : Nat} (h : q < A.length) : A[q]? = some (ai A q) := by
 unfold ai
 rw [List.getD_eq_getElem?_getD, List.getElem?_eq_getElem h]; rfl
theorem cA_at {A : List Int} {q : Nat} (h : q < A.length) : (cA A)[(0 + q) * 1]? = some (.int .i64 (ai A q)) := by
 rw [Nat.zero_add, Nat.mul_one, cA, List.getElem?_map, ai_at h]; rfl
section
variable {L : List IE}
end
theorem bi_int (k : IntKind) (n : Int) : beq0 (.int k n) (.int k n) = true := by simp [beq0]
theorem bi_str (s : List Nat) : beq0 (.str s) (.str s) = true := by simp [beq0]
theorem bi_bool (b : Bool) : beq0 (.bool b) (.bool b) = true := by simp [beq0]
theorem beqL_self : ∀ {l : List AV}, (l.all fun v => beq0 v v) = true → beqL beq0 l l = true
 | [], _ => rfl
 | x :: l, h => by
  rw [List.all_cons, Bool.and_eq_true] at h
  show (beq0 x x && beqL beq0 l l) = true
  rw [h.1, beqL_self h.2]; rfl
theorem ag24 : tab.isAgg 24 = some false := by kernel_rfl
theorem ag3 : tab.isAgg 3 = some false := by kernel_rfl
theorem ag40 : tab.isAgg 40 = some false := by kernel_rfl
theorem ag42 : tab.isAgg 42 = some true := by kernel_rfl
theorem fa26_10 : FA tab 26 10 = some (10, 0 + 1) := by kernel_rfl
theorem fa42_0 : FA tab 42 0 = some (0, 10 + 1) := by kernel_rfl
theorem fa42_1 : FA tab 42 1 = some (11, 0 + 1) := by kernel_rfl
theorem sz3 : tab.size 3 = some 1 := by kernel_rfl
theorem sz42 : tab.size 42 = some 12 := by kernel_rfl
theorem ud24 : tab.und 24 = some (.slice 26) := by kernel_rfl
theorem ud30 : tab.und 30 = some (.slice 42) := by kernel_rfl
theorem ud40 : tab.und 40 = some (.slice 3) := by kernel_rfl
theorem bv_eqNN {tb : Tab} {t e : Nat} (hu : tb.und t = some (.slice e)) : evBin tb .eql t .nils .nils = some (.bool true) := by
 show (match eqIn tb 20 t .nils .nils with | some b => some (AV.bool b) | none => none) = _
 unfold eqIn
 simp only [hu]
 rfl
theorem bv_eqSN {tb : Tab} {t e b o n z : Nat} (hu : tb.und t = some (.slice e)) : evBin tb .eql t (.slice b o n z) .nils = some (.bool false) := by
 show (match eqIn tb 20 t (.slice b o n z) .nils with | some b => some (AV.bool b) | none => none) = _
 unfold eqIn
 simp only [hu]
 rfl
theorem cells_cell {v : AV} (h : v.isCell = true) : v.cells = [v] := by cases v <;> first | rfl | cases h
theorem ck1 {v : AV} {o n : Nat} (h : v.isCell = true) (hle : Nat.ble (o + 1) n = true) : (Nat.beq v.cells.length 1 && Nat.ble (o + 1) n && v.cells.all AV.isCell) = true := by
 rw [cells_cell h, hle]; simp [h]
theorem lay_3 {a0 a1 a2 a3 v : AV} {b : List AV} (h : v.isCell = true) : layL (a0 :: a1 :: a2 :: a3 :: b) 3 v.cells = a0 :: a1 :: a2 :: v :: b := by
 rw [cells_cell h]; simp [layL]
theorem lay_7 {a0 a1 a2 a3 a4 a5 a6 a7 v : AV} {b : List AV} (h : v.isCell = true) : layL (a0 :: a1 :: a2 :: a3 :: a4 :: a5 :: a6 :: a7 :: b) 7 v.cells = a0 :: a1 :: a2 :: a3 :: a4 :: a5 :: a6 :: v :: b := by
 rw [cells_cell h]; simp [layL]
theorem nd_cells {d : ND} {vm vn vk : AV} (hm : vm.isCell = true) (hn : vn.isCell = true) (hk : vk.isCell = true) : (((AV.agg (d.c vm vn vk)).cells).all AV.isCell) = true := by
 show ((d.c vm vn vk).all AV.isCell) = true
 simp only [ND.c, nodeC, List.all_cons, List.all_nil, hm, hn, hk, Bool.and_true, Bool.true_and]
 rfl
theorem nd_ck {d : ND} {vm vn : AV} (hm : vm.isCell = true) (hn : vn.isCell = true) : (Nat.beq (AV.agg (d.c vm vn .nils)).cells.length 11 && Nat.ble (0 + 11) 11 && ((AV.agg (d.c vm vn .nils)).cells).all AV.isCell) = true := and_tt rfl (nd_cells hm hn rfl)
theorem ag22 : tab.isAgg 22 = some false := by kernel_rfl
theorem ag23 : tab.isAgg 23 = some false := by kernel_rfl
theorem ag26 : tab.isAgg 26 = some true := by kernel_rfl
theorem ao26 : AO tab 26 = some ⟨11, true, [.int .i64 0, .str [], .int .i64 0, .nils, .int .i64 0, .int .i64 0, .int .i64 0, .nils, .int .i64 0, .bool false, .nils]⟩ := by kernel_rfl
theorem ap22_22 : AP tab 22 22 = some 3 := by kernel_rfl
theorem ap23_23 : AP tab 23 23 = some 1 := by kernel_rfl
theorem ap40_40 : AP tab 40 40 = some 1 := by kernel_rfl
theorem bx26 : ∀ l : List AV, l.length = 11 → varObj tab 26 l = ⟨11, true, l⟩ := by intro l h; exact varObj_plain (by kernel_rfl) h
theorem fa26_3 : FA tab 26 3 = some (3, 0 + 1) := by kernel_rfl
theorem fa26_7 : FA tab 26 7 = some (7, 0 + 1) := by kernel_rfl
theorem sz22 : tab.size 22 = some 1 := by kernel_rfl
theorem sz23 : tab.size 23 = some 1 := by kernel_rfl
theorem sz24 : tab.size 24 = some 1 := by kernel_rfl
theorem sz26 : tab.size 26 = some 11 := by kernel_rfl
theorem sz9 : tab.size 9 = some 1 := by kernel_rfl
theorem sz91 : tab.size 91 = some 3 := by kernel_rfl
theorem ud22 : tab.und 22 = some (.slice 91) := by kernel_rfl
theorem ud23 : tab.und 23 = some (.slice 9) := by kernel_rfl
theorem zr3 : tab.zero 3 = some (.int .i64 0) := by kernel_rfl
theorem zr9 : tab.zero 9 = some (.str []) := by kernel_rfl
theorem zr91 : tab.zero 91 = some (.agg [.int .i64 0, .str [], .str []]) := by kernel_rfl
theorem clm_nil  : Spec tab 69 [.nils] [] [] (Val (.nils)) := by
 refine Spec.en (ftg 69 Tryz.func69) rfl (m := 8) rfl (rs := [.tmp 2]) rfl (st := [(0, .nils)]) rfl rfl (fun _ => rfl) (fun E => zr (za rfl (zk (W.seq (zr (zm rfl (zq (Q.bin rfl rfl rfl (bv_eqNN ud22)) (zk (W.condT rfl (zr (za rfl (zk (W.ret (End.Kr (End.rV (z1 rfl) ?_)))))))))))))))
 rfl

theorem clm_some (hs : HSt) (hro : ∀ e ∈ hs, e.w = false) (n : Nat) (cells : List AV) (b : Nat) (ha : RIn hs 3 n cells (.slice b 0 n 3)) (hn : n ≤ 2097152) : Spec tab 69 [.slice b 0 n 3] [] hs (fun v D => OwnE 3 cells n v D) := by
 refine Spec.en (ftg 69 Tryz.func69) rfl (m := 8) rfl (rs := [.tmp 2]) rfl (st := [(0, .slice b 0 n 3)]) rfl rfl (fun _ => rfl) (fun E => zr (za rfl (zk (W.seq (zr (zm rfl (zq (Q.bin rfl rfl rfl (bv_eqSN ud22)) (zk (W.condF rfl (zw (zr (WO.bslice ud22 sz91 zr91 rfl oPs_nil rfl (cs := []) rfl rfl rfl (fun b1 => zm rfl (WO.appAny (A := _) ap22_22 (OwnE.cons rfl) rfl rfl (Src.mono (fun e he => MemH.tl ⟨e.w, by obtain ⟨b, o, w⟩ := e; exact he⟩) ha.src) ha.length zy (by decide) (SubH.op (List.perm_append_singleton _ _)) rfl (fun v7 hp7 hO7 => za rfl (zk (W.ret ?_)))))))))))))))))
 refine End.ret (z1 rfl) (hs' := hp7) (by rw [one1]; simpa using hO7) (OwnE.w hO7) gc

theorem cls_nil  : Spec tab 70 [.nils] [] [] (Val (.nils)) := by
 refine Spec.en (ftg 70 Tryz.func70) rfl (m := 8) rfl (rs := [.tmp 2]) rfl (st := [(0, .nils)]) rfl rfl (fun _ => rfl) (fun E => zr (za rfl (zk (W.seq (zr (zm rfl (zq (Q.bin rfl rfl rfl (bv_eqNN ud23)) (zk (W.condT rfl (zr (za rfl (zk (W.ret (End.Kr (End.rV (z1 rfl) ?_)))))))))))))))
 rfl

theorem cls_some (hs : HSt) (hro : ∀ e ∈ hs, e.w = false) (n : Nat) (cells : List AV) (b : Nat) (ha : RIn hs 1 n cells (.slice b 0 n 1)) (hn : n ≤ 2097152) : Spec tab 70 [.slice b 0 n 1] [] hs (fun v D => OwnE 1 cells n v D) := by
 refine Spec.en (ftg 70 Tryz.func70) rfl (m := 8) rfl (rs := [.tmp 2]) rfl (st := [(0, .slice b 0 n 1)]) rfl rfl (fun _ => rfl) (fun E => zr (za rfl (zk (W.seq (zr (zm rfl (zq (Q.bin rfl rfl rfl (bv_eqSN ud23)) (zk (W.condF rfl (zw (zr (WO.bslice ud23 sz9 zr9 rfl oPs_nil rfl (cs := []) rfl rfl rfl (fun b1 => zm rfl (WO.appAny (A := _) ap23_23 (OwnE.cons rfl) rfl rfl (Src.mono (fun e he => MemH.tl ⟨e.w, by obtain ⟨b, o, w⟩ := e; exact he⟩) ha.src) ha.length zy (by decide) (SubH.op (List.perm_append_singleton _ _)) rfl (fun v7 hp7 hO7 => za rfl (zk (W.ret ?_)))))))))))))))))
 refine End.ret (z1 rfl) (hs' := hp7) (by rw [one1]; simpa using hO7) (OwnE.w hO7) gc

theorem clm_spec (hs : HSt) (hro : ∀ e ∈ hs, e.w = false) (n : Nat) (cells : List AV) (va : AV) (ha : RIn hs 3 n cells va) (hn : n ≤ 2097152) : Spec tab 69 [va] [] hs (fun v D => OwnE 3 cells n v D) := by
 rcases id ha with ⟨rfl, rfl, rfl⟩ | ⟨b, z, ex, rfl, _, _⟩
 ·intro h hh
  obtain ⟨v, h', hs', h1, ⟨h2, h3⟩, h4, h5⟩ := clm_nil h (hh.sub (SubH.nil _))
  exact ⟨v, h', hs', h1, .inl ⟨rfl, rfl, h2, h3⟩, h4, h5⟩
 ·exact clm_some hs hro n cells b ha hn
theorem cls_spec (hs : HSt) (hro : ∀ e ∈ hs, e.w = false) (n : Nat) (cells : List AV) (va : AV) (ha : RIn hs 1 n cells va) (hn : n ≤ 2097152) : Spec tab 70 [va] [] hs (fun v D => OwnE 1 cells n v D) := by
 rcases id ha with ⟨rfl, rfl, rfl⟩ | ⟨b, z, ex, rfl, _, _⟩
 ·intro h hh
  obtain ⟨v, h', hs', h1, ⟨h2, h3⟩, h4, h5⟩ := cls_nil h (hh.sub (SubH.nil _))
  exact ⟨v, h', hs', h1, .inl ⟨rfl, rfl, h2, h3⟩, h4, h5⟩
 ·exact cls_some hs hro n cells b ha hn
theorem bare_spec (hs : HSt) (hro : ∀ e ∈ hs, e.w = false) (d : ND) (vm vn vk : AV) (hm : RIn hs 3 d.ms.length (cM d.ms) vm) (hn : RIn hs 1 d.nm.length (cS d.nm) vn) (nk : Nat) (hk : KLn vk nk) (hd : d.bd) : Spec tab 37 [.agg (d.c vm vn vk)] [] hs (fun v D => ∃ vm2 vn2 Dm Dn, v = .agg (d.c vm2 vn2 .nils) ∧ OwnE 3 (cM d.ms) d.ms.length vm2 Dm ∧ OwnE 1 (cS d.nm) d.nm.length vn2 Dn ∧ D = Dm ++ Dn) := by
 refine Spec.en (ftg 37 Tryz.func37) rfl (m := 13) rfl (rs := [.cell 2 26]) rfl (st := [(0, .agg (d.c vm vn vk))]) rfl rfl (fun _ => rfl) (fun E => zr (WO.box rfl (nd_cells hm.cell hn.cell hk.cell) (bx26 _ rfl) rfl (fun b1 => WO.alloc ao26 rfl (fun b2 => zk (zr (zf fa26_10 rfl 10 (WO.store sz24 rfl rfl (i := 1) rfl rfl (cs := [_, _, _, _, _, _, _, _, _, _, _]) rfl (hs' := _ :: _ :: _) rfl (zk (W.seq (W.regD 7 _ (by kernel_rfl) (KIn.refl _) (WD.q (Q.fieldAddr fa26_3 rfl (o' := 3) rfl) bqp rfl (WD.q (Q.l1 rfl (zt 1 rfl) ag22 rfl) hm.bq rfl (WD.call0 rfl (oLc rfl oz) rfl (clm_spec hs hro _ _ _ hm (by have := hd.2.1.1; omega)) (SubR.t (SubR.t (SubR.s hro))) (KIn.refl _) rfl (fun v6 D6 hP6 => WD.subH (hs' := _ :: _ :: (hs ++ D6)) (SubH.op (perm_tail (N := []) (G := D6) (K := [_, _]) (X := hs))) (WD.q (Q.fieldAddr fa26_7 rfl (o' := 7) rfl) bqp rfl (WD.q (Q.l1 rfl (zt 1 rfl) ag23 rfl) hn.bq rfl (WD.call0 rfl (oLc rfl oz) rfl (cls_spec hs hro _ _ _ hn (by have := hd.2.2.1; omega)) (SubR.t (SubR.t (SubR.appl (SubR.s hro)))) (KIn.ofH gc) rfl (fun v9 D9 hP9 => WD.subH (hs' := _ :: _ :: (hs ++ D6 ++ D9)) (SubH.op (perm_tail (N := []) (G := D9) (K := [_, _]) (X := hs ++ D6))) (WD.q (Q.fieldAddr fa26_3 rfl (o' := 3) rfl) bqp rfl (WD.store sz22 rfl rfl (j := 1) rfl (ck1 (OwnE.cell hP6) rfl) (cs := [_, _, _, _, _, _, _, _, _, _, _]) (lay_3 (OwnE.cell hP6)) (hs' := _ :: _ :: _) rfl (fun h => by cases h) (WD.q (Q.fieldAddr fa26_7 rfl (o' := 7) rfl) bqp rfl (WD.store sz23 rfl rfl (j := 1) rfl (ck1 (OwnE.cell hP9) rfl) (cs := [_, _, _, _, _, _, _, _, _, _, _]) (lay_7 (OwnE.cell hP9)) (hs' := _ :: _ :: _) rfl (fun h => by cases h) (WD.nil ?_)))))))))))))))))))))))
 refine End.K (zr (zq (Q.loadN rfl (zt 1 rfl) ag26 sz26 (l := [_, _, _, _, _, _, _, _, _, _, _]) rfl) (WO.store sz26 rfl rfl (i := 0) rfl (nd_ck (OwnE.cell hP6) (OwnE.cell hP9)) (cs := [_, _, _, _, _, _, _, _, _, _, _]) rfl (hs' := _ :: _ :: _) rfl (zk (W.ret ?_)))))
 refine End.ret (ResL.agg (c := [_, _, _, _, _, _, _, _, _, _, _]) rfl (zt 0 rfl) ag26 sz26 rfl ResL.nil) (hs' := D6 ++ D9) ⟨v6, v9, D6, D9, rfl, hP6, hP9, rfl⟩ (wa (OwnE.w hP6) (OwnE.w hP9)) gc

section
variable {tb : Tab} {n : Nat} {E : Env} {s : St} {hs : HSt} {R : T AV → AHeap → Prop} {ops rest : List Oper} {d : Nat} {t : TypeId} {ty : TypeId} {pos : String} {aft : Array Edge}
end
section
variable {g : Nat → Bool} {f : Nat → Int} {n j : Nat} {b : Bool} {x : Int}
end
inductive Need (L : List IE) : Nat → Prop
 | last : Need L (L.length - 1)
 | arg {i : Nat} {a : Int} : Need L i → i < L.length → a ∈ (ei L i).ars → Need L a.toNat
open Classical in
noncomputable def nb (L : List IE) (j : Nat) : Bool := decide (Need L j)
section
variable {L : List IE} {t q i j k : Nat}
end
section
variable {L : List IE} {i j : Nat}
end
def D2 (W : List IE) : List (ND × List Int) := W.map fun x => (x.d, x.ars)
def IOwn (W : List IE) (w : AV) (D : HSt) : Prop := ∃ hp hl, D = hp ++ hl ∧ OwnE 12 (cI W) W.length w hp ∧ (∀ x ∈ W, IOK hl x ∧ x.nk = 0) ∧ (∀ e ∈ hl, e.w = true) ∧ ILB W
section
variable {W : List IE} {wv : AV} {D hs : HSt} {x : IE}
theorem d2_snoc : D2 (W ++ [x]) = D2 W ++ [(x.d, x.ars)] := by unfold D2; rw [List.map_append]; rfl
theorem d2_len : (D2 W).length = W.length := List.length_map _
theorem cI_snoc : cI (W ++ [x]) = cI W ++ x.c := by unfold cI; rw [List.flatMap_append]; simp
theorem IOwn.nil : IOwn [] .nils [] := ⟨[], [], rfl, OwnE.nil 12, fun x hx => by simp at hx, no_wl, by simp, fun x hx => by simp at hx⟩
theorem IOwn.w (h : IOwn W wv D) : ∀ e ∈ D, e.w = true := by
 obtain ⟨hp, hl, rfl, hO, _, hw, _⟩ := h
 exact wa (OwnE.w hO) hw
theorem IOwn.lb (h : IOwn W wv D) : ILB W := by
 obtain ⟨hp, hl, rfl, hO, hx, hw, hb⟩ := h
 exact hb
theorem IOwn.nk (h : IOwn W wv D) : ∀ x ∈ W, x.nk = 0 := by
 obtain ⟨hp, hl, rfl, hO, hx, hw, hb⟩ := h
 exact fun x h => (hx x h).2
theorem IIn.ro {L : List IE} {v : AV} (h : IIn hs L v) : IIn (ro hs) L v := h.mono fun b o q => q.ro
theorem IIn.app {A : HSt} {L : List IE} {v : AV} (h : IIn hs L v) : IIn (A ++ hs) L v := h.mono fun b o q => q.app
theorem IIn.appl {A : HSt} {L : List IE} {v : AV} (h : IIn hs L v) : IIn (hs ++ A) L v := h.mono fun b o q => q.appl'
end
inductive TD
 | node (d : ND) (ks : List TD)
mutual
def TRep (hs : HSt) : TD → List AV → Prop
 | .node d ks, c => ∃ vm vn vk cs, c = d.c vm vn vk ∧ RIn hs 3 d.ms.length (cM d.ms) vm ∧ RIn hs 1 d.nm.length (cS d.nm) vn ∧ RIn hs 11 ks.length (cs.flatMap id) vk ∧ d.bd ∧ ks.length ≤ 1048576 ∧ TReps hs ks cs
def TReps (hs : HSt) : List TD → List (List AV) → Prop
 | [], cs => cs = []
 | k :: ks, cs => ∃ c r, cs = c :: r ∧ TRep hs k c ∧ TReps hs ks r
end
mutual
theorem TRep.mono {hs hs' : HSt} (hm : ∀ b o, MemH hs b o → MemH hs' b o) : ∀ {t : TD} {c : List AV}, TRep hs t c → TRep hs' t c
 | .node d ks, c, h => by
  rw [TRep] at h ⊢
  obtain ⟨vm, vn, vk, cs, h1, h2, h3, h4, h5, h6, h7⟩ := h
  exact ⟨vm, vn, vk, cs, h1, h2.mono hm, h3.mono hm, h4.mono hm, h5, h6, TReps.mono hm h7⟩
theorem TReps.mono {hs hs' : HSt} (hm : ∀ b o, MemH hs b o → MemH hs' b o) : ∀ {ks : List TD} {cs : List (List AV)}, TReps hs ks cs → TReps hs' ks cs
 | [], cs, h => by rw [TReps] at h ⊢; exact h
 | k :: ks, cs, h => by
  rw [TReps] at h ⊢
  obtain ⟨c, r, h1, h2, h3⟩ := h
  exact ⟨c, r, h1, TRep.mono hm h2, TReps.mono hm h3⟩
end
section
variable {hs : HSt} {t : TD} {ks : List TD} {c : List AV} {cs : List (List AV)}
theorem TRep.len (h : TRep hs t c) : c.length = 11 := by
 cases t with
 | node d ks =>
  rw [TRep] at h
  obtain ⟨vm, vn, vk, cs, rfl, _⟩ := h
  rfl
theorem TReps.length : ∀ {ks : List TD} {cs : List (List AV)}, TReps hs ks cs → cs.length = ks.length
 | [], cs, h => by rw [TReps] at h; subst h; rfl
 | k :: ks, cs, h => by
  rw [TReps] at h
  obtain ⟨c, r, rfl, _, h3⟩ := h
  rw [List.length_cons, List.length_cons, TReps.length h3]
theorem TReps.at : ∀ {ks : List TD} {cs : List (List AV)} {i : Nat} {k : TD}, TReps hs ks cs → ks[i]? = some k → ∃ c, cs[i]? = some c ∧ TRep hs k c
 | [], cs, i, k, h, hk => by simp at hk
 | x :: ks, cs, 0, k, h, hk => by
  rw [TReps] at h
  obtain ⟨c, r, rfl, h2, _⟩ := h
  simp at hk
  subst hk
  exact ⟨c, rfl, h2⟩
 | x :: ks, cs, i + 1, k, h, hk => by
  rw [TReps] at h
  obtain ⟨c, r, rfl, _, h3⟩ := h
  obtain ⟨c', h4, h5⟩ := TReps.at (i := i) h3 (by simpa using hk)
  exact ⟨c', by simpa using h4, h5⟩
theorem TReps.snoc : ∀ {ks : List TD} {cs : List (List AV)} {k : TD} {c : List AV}, TReps hs ks cs → TRep hs k c → TReps hs (ks ++ [k]) (cs ++ [c])
 | [], cs, k, c, h, hk => by
  rw [TReps] at h
  subst h
  show TReps hs [k] [c]
  rw [TReps]
  exact ⟨c, [], rfl, hk, by rw [TReps]⟩
 | x :: ks, cs, k, c, h, hk => by
  rw [TReps] at h
  obtain ⟨c', r, rfl, h2, h3⟩ := h
  show TReps hs (x :: (ks ++ [k])) (c' :: (r ++ [c]))
  rw [TReps]
  exact ⟨c', _, rfl, h2, TReps.snoc h3 hk⟩
theorem TReps.lens : ∀ {ks : List TD} {cs : List (List AV)}, TReps hs ks cs → ∀ c ∈ cs, c.length = 11
 | [], cs, h, c, hc => by rw [TReps] at h; subst h; simp at hc
 | k :: ks, cs, h, c, hc => by
  rw [TReps] at h
  obtain ⟨c', r, rfl, h2, h3⟩ := h
  rcases List.mem_cons.1 hc with rfl | hc
  ·exact h2.len
  ·exact TReps.lens h3 c hc
theorem flat_id_len : ∀ {cs : List (List AV)}, (∀ c ∈ cs, c.length = 11) → (cs.flatMap id).length = cs.length * 11
 | [], _ => rfl
 | c :: cs, h => by
  rw [List.flatMap_cons, List.length_append, flat_id_len fun x hx => h x (List.mem_cons_of_mem _ hx), List.length_cons, id, h c List.mem_cons_self]; omega
theorem flat_id_sub : ∀ {cs : List (List AV)} {i : Nat} {c : List AV}, (∀ c ∈ cs, c.length = 11) → cs[i]? = some c → sub? (cs.flatMap id) (i * 11) 11 = some c
 | [], i, c, _, h => by simp at h
 | y :: cs, 0, c, hl, h => by
  simp at h
  subst h
  have hy := hl y List.mem_cons_self
  unfold sub?
  rw [List.flatMap_cons, Nat.zero_mul, Nat.zero_add, id]
  have e : Nat.ble 11 (y ++ cs.flatMap id).length = true := Nat.ble_eq.mpr (by rw [List.length_append, hy]; omega)
  simp only [e]
  rw [List.drop_zero, List.take_append_of_le_length zy, List.take_of_length_le zy]
 | y :: cs, i + 1, c, hl, h => by
  have hy := hl y List.mem_cons_self
  have hl' : ∀ c ∈ cs, c.length = 11 := fun x hx => hl x (List.mem_cons_of_mem _ hx)
  have ih := flat_id_sub hl' (i := i) (c := c) (by simpa using h)
  have hlen := flat_id_len hl'
  have hi : i < cs.length := by simpa using (List.getElem?_eq_some_iff.1 h).1
  unfold sub? at ih ⊢
  rw [List.flatMap_cons, id]
  have e : Nat.ble ((i + 1) * 11 + 11) (y ++ cs.flatMap id).length = true := Nat.ble_eq.mpr (by rw [List.length_append, hy, hlen]; omega)
  have e2 : Nat.ble (i * 11 + 11) (cs.flatMap id).length = true := Nat.ble_eq.mpr (by rw [hlen]; omega)
  simp only [e, e2] at ih ⊢
  rw [← ih, List.drop_append, List.drop_of_length_le (by rw [hy]; omega), List.nil_append, hy]
  congr 3
  omega
end
def zeroT : TD := .node ND.zero []
section
variable {L : List IE} {i : Nat}
end
set_option maxHeartbeats 1000000
section
variable {L X : List IE} {hs hl Dm Dn Da D : HSt} {i : Nat} {A : List Int} {d : ND} {vm vn va v : AV}
theorem fill12 (h : va.isCell = true) : fillA (fun i => [(0, 11), (11, 1)][i]?) [.int .i64 0, .str [], .int .i64 0, .nils, .int .i64 0, .int .i64 0, .int .i64 0, .nils, .int .i64 0, .bool false, .nils, .nils] [(0, .agg (d.c vm vn .nils)), (1, va)] = some (d.c vm vn .nils ++ [va]) := by
 simp only [fillA, cells_cell h]; rfl
theorem bq12o (hm : beq0 vm vm = true) (hn : beq0 vn vn = true) (ha : beq0 va va = true) : (AV.agg (d.c vm vn .nils ++ [va])).beq (AV.agg (d.c vm vn .nils ++ [va])) = true :=
 beqL_self (by simp only [ND.c, nodeC, List.cons_append, List.nil_append, List.all_cons, List.all_nil, hm, hn, ha, bi_int, bi_str, bi_bool, Bool.and_true]; rfl)
theorem all12 (hm : vm.isCell = true) (hn : vn.isCell = true) (ha : va.isCell = true) : ((d.c vm vn .nils ++ [va]).all AV.isCell) = true := by
 simp only [ND.c, nodeC, List.cons_append, List.nil_append, List.all_cons, List.all_nil, hm, hn, ha, Bool.and_true, Bool.true_and]
 rfl
end
theorem ag4 : tab.isAgg 4 = some false := by kernel_rfl
theorem ap30_30 : AP tab 30 30 = some 12 := by kernel_rfl
theorem pl42 : PL tab 42 [.int .i64 0, .str [], .int .i64 0, .nils, .int .i64 0, .int .i64 0, .int .i64 0, .nils, .int .i64 0, .bool false, .nils, .nils] [(0, 11), (11, 1)] = true := by kernel_rfl
theorem sz4 : tab.size 4 = some 1 := by kernel_rfl
theorem zr42 : tab.zero 42 = some (.agg [.int .i64 0, .str [], .int .i64 0, .nils, .int .i64 0, .int .i64 0, .int .i64 0, .nils, .int .i64 0, .bool false, .nils, .nils]) := by kernel_rfl
structure CQ (v : AV) : Prop where
 cell : v.isCell = true
 bq0 : beq0 v v = true
theorem RIn.cq {hs : HSt} {sz n : Nat} {cells : List AV} {v : AV} (h : RIn hs sz n cells v) : CQ v := ⟨h.cell, h.bq0⟩
section
variable {d : ND} {vm vn vk : AV} {hs Dm Dn D13 hp hl D : HSt} {L : List IE} {i j q k : Nat} {t : TD} {c : List AV} {cs : List (List AV)} {u v : AV}
theorem nd_all (hm : vm.isCell = true) (hn : vn.isCell = true) (hk : vk.isCell = true) : ((d.c vm vn vk).all AV.isCell) = true := nd_cells hm hn hk
theorem nd_bqk (hm : CQ vm) (hn : CQ vn) (hk : CQ vk) : (AV.agg (d.c vm vn vk)).beq (AV.agg (d.c vm vn vk)) = true :=
 beqL_self (by simp only [ND.c, nodeC, List.all_cons, List.all_nil, hm.bq0, hn.bq0, hk.bq0, bi_int, bi_str, bi_bool, Bool.and_true])
theorem TRep.opn (h : TRep hs t c) : ∃ (d : ND) (vm vn vk : AV), c = d.c vm vn vk ∧ CQ vm ∧ CQ vn ∧ CQ vk ∧ Bytes d.op := by
 cases t with
 | node d ks =>
  rw [TRep] at h
  obtain ⟨vm, vn, vk, cs, rfl, h2, h3, h4, h5, _⟩ := h
  exact ⟨d, vm, vn, vk, rfl, h2.cq, h3.cq, h4.cq, h5.1⟩
end
theorem ag30 : tab.isAgg 30 = some false := by kernel_rfl
theorem ap24_24 : AP tab 24 24 = some 11 := by kernel_rfl
theorem pl26 : PL tab 26 [.int .i64 0, .str [], .int .i64 0, .nils, .int .i64 0, .int .i64 0, .int .i64 0, .nils, .int .i64 0, .bool false, .nils] [(0, 1), (1, 1), (2, 1), (3, 1), (4, 1), (5, 1), (6, 1), (7, 1), (8, 1), (9, 1), (10, 1)] = true := by kernel_rfl
theorem zr26 : tab.zero 26 = some (.agg [.int .i64 0, .str [], .int .i64 0, .nils, .int .i64 0, .int .i64 0, .int .i64 0, .nils, .int .i64 0, .bool false, .nils]) := by kernel_rfl
end Go.Proofs.YtndhhgbpcmfeiaaGreatDoor.Ev
