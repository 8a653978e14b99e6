/- Chapter 20, walks: a tree is the same as itself. -/
import Derived.Test.YtndhhgbpcmfeiaaGreatDoorMGh
import Derived.Test.YtndhhgbpcmfeiaaGreatDoorMAwJ
import Derived.Test.YtndhhgbpcmfeiaaGreatDoorMEvR
import Derived.Shelf.Strings.Builder1
namespace Go.Proofs.YtndhhgbpcmfeiaaGreatDoor.Ev
open Go.RowKit
set_option linter.unusedVariables false
set_option linter.unusedSimpArgs false
set_option maxRecDepth 100000
set_option maxHeartbeats 1000000
theorem bs_int {k : IntKind} {a : Int} {t : TypeId} {tb : Tab} : evBin tb .neq t (.int k a) (.int k a) = some (.bool false) := bv_neq (by rw [ne_int]; simp)
theorem bs_str {x : List Nat} {t : TypeId} {tb : Tab} : evBin tb .neq t (.str x) (.str x) = some (.bool false) := by rw [bv_sneq]; simp
theorem bs_bool {tb : Tab} {t : TypeId} (h : tb.und t = some .bool) {b : Bool} : evBin tb .neq t (.bool b) (.bool b) = some (.bool false) := by rw [bv_bne h]; cases b <;> rfl
theorem bs_mt {m : Mt} : evBin tab .neq 91 (.agg (mC m)) (.agg (mC m)) = some (.bool false) := by
 obtain ⟨k, a, b⟩ := m
 have h1 : eqA k k = true := by rw [eq_int]; simp
 have h2 : listBeq a a = true := by rw [eq_str]; simp
 have h3 : listBeq b b = true := by rw [eq_str]; simp
 show (match eqTop tab 91 (.agg [.int .i64 k, .str a, .str b]) (.agg [.int .i64 k, .str a, .str b]) with
  | some b => some (AV.bool (!b))
  | none => none) = _
 have e : eqTop tab 91 (.agg [.int .i64 k, .str a, .str b]) (.agg [.int .i64 k, .str a, .str b]) = (match eqA k k with | true => (match listBeq a a with | true => (match listBeq b b with | true => some true | false => some false) | false => some false) | false => some false) := by kernel_rfl
 rw [e, h1, h2, h3]; rfl
def mi (l : List Mt) (i : Nat) : Mt := l.getD i default
theorem mi_at {l : List Mt} {i : Nat} (h : i < l.length) : l[i]? = some (mi l i) := by
 unfold mi
 rw [List.getD_eq_getElem?_getD, List.getElem?_eq_getElem h]; rfl
theorem cM_at {l : List Mt} {i : Nat} (h : i < l.length) : sub? (cM l) ((0 + i) * 3) 3 = some (mC (mi l i)) := by
 rw [Nat.zero_add]; exact flat_sub (f := mC) (fun _ => rfl) l i _ (mi_at h)
def si (l : List (List Nat)) (i : Nat) : List Nat := l.getD i []
theorem si_at {l : List (List Nat)} {i : Nat} (h : i < l.length) : l[i]? = some (si l i) := by
 unfold si
 rw [List.getD_eq_getElem?_getD, List.getElem?_eq_getElem h]; rfl
theorem cS_at {l : List (List Nat)} {i : Nat} (h : i < l.length) : (cS l)[(0 + i) * 1]? = some (.str (si l i)) := by
 rw [Nat.zero_add, Nat.mul_one, cS, List.getElem?_map, si_at h]; rfl
def kd (l : List TD) (i : Nat) : TD := l.getD i zeroT
theorem kd_at {l : List TD} {i : Nat} (h : i < l.length) : l[i]? = some (kd l i) := by
 unfold kd
 rw [List.getD_eq_getElem?_getD, List.getElem?_eq_getElem h]; rfl
theorem kd_mem {l : List TD} {i : Nat} (h : i < l.length) : kd l i ∈ l := List.mem_of_getElem? (kd_at h)
theorem ag9 : tab.isAgg 9 = some false := by kernel_rfl
theorem ag91 : tab.isAgg 91 = some true := by kernel_rfl
theorem fa26_0 : FA tab 26 0 = some (0, 0 + 1) := by kernel_rfl
theorem fa26_1 : FA tab 26 1 = some (1, 0 + 1) := by kernel_rfl
theorem fa26_2 : FA tab 26 2 = some (2, 0 + 1) := by kernel_rfl
theorem fa26_4 : FA tab 26 4 = some (4, 0 + 1) := by kernel_rfl
theorem fa26_5 : FA tab 26 5 = some (5, 0 + 1) := by kernel_rfl
theorem fa26_6 : FA tab 26 6 = some (6, 0 + 1) := by kernel_rfl
theorem fa26_8 : FA tab 26 8 = some (8, 0 + 1) := by kernel_rfl
theorem fa26_9 : FA tab 26 9 = some (9, 0 + 1) := by kernel_rfl
theorem ud4 : tab.und 4 = some .bool := by kernel_rfl
theorem same_step (hs : HSt) (hro : ∀ e ∈ hs, e.w = false) (d : ND) (ks : List TD) (vm vn vk vm' vn' vk' : AV) (cs cs' : List (List AV))
 (hm : RIn hs 3 d.ms.length (cM d.ms) vm) (hn : RIn hs 1 d.nm.length (cS d.nm) vn) (hk : RIn hs 11 ks.length (cs.flatMap id) vk) (hd : d.bd) (hks : ks.length ≤ 1048576) (hR : TReps hs ks cs)
 (hm' : RIn hs 3 d.ms.length (cM d.ms) vm') (hn' : RIn hs 1 d.nm.length (cS d.nm) vn') (hk' : RIn hs 11 ks.length (cs'.flatMap id) vk') (hR' : TReps hs ks cs')
 (ih : ∀ k ∈ ks, ∀ c c', TRep hs k c → TRep hs k c' → Spec tab 29 [.agg c, .agg c'] [] hs (Val (.bool true))) : Spec tab 29 [.agg (d.c vm vn vk), (.agg (d.c vm' vn' vk'))] [] hs (Val (.bool true)) := by
 have hd1 := hd.2.1.1
 have hd2 := hd.2.2.1
 refine Spec.en (ftg 29 Tryz.func29) rfl (m := 144) rfl (rs := [.tmp 4]) rfl (st := [(0, .agg (d.c vm vn vk)), (1, (.agg (d.c vm' vn' vk')))]) rfl rfl (fun _ => rfl) (fun E => zr (WO.box rfl (nd_cells hm.cell hn.cell hk.cell) (bx26 _ rfl) rfl (fun b1 => WO.box rfl (nd_cells hm'.cell hn'.cell hk'.cell) (bx26 _ rfl) rfl (fun b2 => za rfl (zk (W.seq (zr (zf fa26_0 rfl 0 (zq (Q.l1 rfl (zt 1 rfl) ag3 rfl) (zf fa26_0 rfl 0 (zq (Q.l1 rfl (zt 0 rfl) ag3 rfl) (zq (Q.bin rfl rfl rfl bs_int) (zm rfl (WO.gT rfl rfl (zf fa26_1 rfl 1 (WO.gT rfl rfl (zq (Q.l1 rfl (zt 1 rfl) ag9 rfl) (WO.gT rfl rfl (zf fa26_1 rfl 1 (WO.gT rfl rfl (zq (Q.l1 rfl (zt 0 rfl) ag9 rfl) (WO.gT rfl rfl (zq (Q.bin rfl rfl rfl bs_str) ?_)))))))))))))))))))))))
 refine zq (Q.pF rfl rfl) (zm rfl (WO.gT rfl rfl (zf fa26_2 rfl 2 (WO.gT rfl rfl (zq (Q.l1 rfl (zt 1 rfl) ag3 rfl) (WO.gT rfl rfl (zf fa26_2 rfl 2 (WO.gT rfl rfl (zq (Q.l1 rfl (zt 0 rfl) ag3 rfl) (WO.gT rfl rfl (zq (Q.bin rfl rfl rfl bs_int) (zq (Q.pF rfl rfl) (zm rfl (WO.gT rfl rfl (zf fa26_4 rfl 4 (WO.gT rfl rfl (zq (Q.l1 rfl (zt 1 rfl) ag3 rfl) (WO.gT rfl rfl (zf fa26_4 rfl 4 (WO.gT rfl rfl (zq (Q.l1 rfl (zt 0 rfl) ag3 rfl) (WO.gT rfl rfl (zq (Q.bin rfl rfl rfl bs_int) ?_)))))))))))))))))))))))
 refine zq (Q.pF rfl rfl) (zm rfl (WO.gT rfl rfl (zf fa26_5 rfl 5 (WO.gT rfl rfl (zq (Q.l1 rfl (zt 1 rfl) ag3 rfl) (WO.gT rfl rfl (zf fa26_5 rfl 5 (WO.gT rfl rfl (zq (Q.l1 rfl (zt 0 rfl) ag3 rfl) (WO.gT rfl rfl (zq (Q.bin rfl rfl rfl bs_int) (zq (Q.pF rfl rfl) (zm rfl (WO.gT rfl rfl (zf fa26_6 rfl 6 (WO.gT rfl rfl (zq (Q.l1 rfl (zt 1 rfl) ag3 rfl) (WO.gT rfl rfl (zf fa26_6 rfl 6 (WO.gT rfl rfl (zq (Q.l1 rfl (zt 0 rfl) ag3 rfl) (WO.gT rfl rfl (zq (Q.bin rfl rfl rfl bs_int) ?_)))))))))))))))))))))))
 refine zq (Q.pF rfl rfl) (zm rfl (WO.gT rfl rfl (zf fa26_8 rfl 8 (WO.gT rfl rfl (zq (Q.l1 rfl (zt 1 rfl) ag3 rfl) (WO.gT rfl rfl (zf fa26_8 rfl 8 (WO.gT rfl rfl (zq (Q.l1 rfl (zt 0 rfl) ag3 rfl) (WO.gT rfl rfl (zq (Q.bin rfl rfl rfl bs_int) (zq (Q.pF rfl rfl) (zm rfl (WO.gT rfl rfl (zf fa26_9 rfl 9 (WO.gT rfl rfl (zq (Q.l1 rfl (zt 1 rfl) ag4 rfl) (WO.gT rfl rfl (zf fa26_9 rfl 9 (WO.gT rfl rfl (zq (Q.l1 rfl (zt 0 rfl) ag4 rfl) (WO.gT rfl rfl (zq (Q.bin rfl rfl rfl (bs_bool ud4)) ?_)))))))))))))))))))))))
 refine zq (Q.pF rfl rfl) (zm rfl (WO.gT rfl rfl (zf fa26_3 rfl 3 (WO.gT rfl rfl (zq (Q.l1 rfl (zt 1 rfl) ag22 rfl) (WO.gT rfl rfl (zq (Q.len ud22 rfl hm.len) (WO.gT rfl rfl (zf fa26_3 rfl 3 (WO.gT rfl rfl (zq (Q.l1 rfl (zt 0 rfl) ag22 rfl) (WO.gT rfl rfl (zq (Q.len ud22 rfl hm'.len) (WO.gT rfl rfl (zq (Q.bin rfl rfl rfl bs_int) (zq (Q.pF rfl rfl) (zm rfl (WO.gT rfl rfl (zf fa26_7 rfl 7 (WO.gT rfl rfl (zq (Q.l1 rfl (zt 1 rfl) ag23 rfl) (WO.gT rfl rfl (zq (Q.len ud23 rfl hn.len) ?_)))))))))))))))))))))))
 refine WO.gT rfl rfl (zf fa26_7 rfl 7 (WO.gT rfl rfl (zq (Q.l1 rfl (zt 0 rfl) ag23 rfl) (WO.gT rfl rfl (zq (Q.len ud23 rfl hn'.len) (WO.gT rfl rfl (zq (Q.bin rfl rfl rfl bs_int) (zq (Q.pF rfl rfl) (zm rfl (WO.gT rfl rfl (zf fa26_10 rfl 10 (WO.gT rfl rfl (zq (Q.l1 rfl (zt 1 rfl) ag24 rfl) (WO.gT rfl rfl (zq (Q.len ud24 rfl hk.len) (WO.gT rfl rfl (zf fa26_10 rfl 10 (WO.gT rfl rfl (zq (Q.l1 rfl (zt 0 rfl) ag24 rfl) (WO.gT rfl rfl (zq (Q.len ud24 rfl hk'.len) (WO.gT rfl rfl (zq (Q.bin rfl rfl rfl bs_int) ?_)))))))))))))))))))))))
 refine zq (Q.pF rfl rfl) (zk (W.sub (zc 88 rfl (zc 3 rfl (zc 2 rfl zzn))) (W.condF rfl (zw (W.seq (zr (za (zi 0) (zk (W.block (W.loop_ind (fun (i : Nat) => [(2, .ptr b1 0), (3, .ptr b2 0), (5, .int .i64 ((i : Nat) : Int))]) (fun (i : Nat) => (⟨b2, ⟨11, true, d.c vm' vn' vk'⟩, true⟩ :: ⟨b1, ⟨11, true, d.c vm vn vk⟩, true⟩ :: hs)) (fun (i : Nat) => i ≤ d.ms.length) (fun (i : Nat) => d.ms.length - i) (0) (Nat.zero_le _) zv (SubH.refl _) (fun i hI0 ih0 => ?_)))))))))))
 have h1 := hI0
 refine W.seq (zr (zm rfl (zf fa26_3 rfl 3 (zq (Q.l1 rfl (zt 1 rfl) ag22 rfl) (zq (Q.len ud22 rfl hm.len) (zq (Q.bin rfl rfl rfl (bvl ltn)) (zk (W.cD rfl (fun hc93 => ?_) (fun hc93 => ?_)))))))))
 ·obtain ⟨bm, szm, exm, rfl, wm, mm⟩ := hm.full zy
  obtain ⟨bm2, szm2, exm2, rfl, wm2, mm2⟩ := hm'.full zy
  refine zw (W.seq (W.block (W.seq (W.regT (by kernel_rfl) (zf fa26_3 rfl 3 (zq (Q.l1 rfl (zt 1 rfl) ag22 rfl) (zm rfl (zq (Q.iS ud22 sz91 rfl rfl zo) (zq (Q.loadN rfl (List.mem_cons_of_mem _ (List.mem_cons_of_mem _ mm)) ag91 sz91 (cM_at zo)) (zf fa26_3 rfl 3 (zq (Q.l1 rfl (zt 0 rfl) ag22 rfl) (zm rfl (zq (Q.iS ud22 sz91 rfl rfl zo) (zq (Q.loadN rfl (List.mem_cons_of_mem _ (List.mem_cons_of_mem _ mm2)) ag91 sz91 (cM_at zo)) (zq (Q.bin rfl rfl rfl bs_mt) (zk (W.sub (zc 106 rfl (zc 2 rfl (zc 3 rfl (zc 5 rfl zzn)))) (W.condF rfl (W.skip (End.KB (End.K (W.reg (zm rfl (zq (Q.bin rfl (zi 1) rfl zp) ?_))))))))))))))))))))))))
  refine za rfl (WO.nil (End.KL (W.sub zv (W.sH gc (ih0 (i + 1) ?_ ?_)))))
  ·exact zy
  exact zo
 refine W.exit (End.Kx (End.Lx (End.Bh (End.K (W.seq (zr (za (zi 0) (zk (W.block (W.loop_ind (fun (i : Nat) => [(2, .ptr b1 0), (3, .ptr b2 0), (6, .int .i64 ((i : Nat) : Int))]) (fun (i : Nat) => (⟨b2, ⟨11, true, d.c vm' vn' vk'⟩, true⟩ :: ⟨b1, ⟨11, true, d.c vm vn vk⟩, true⟩ :: hs)) (fun (i : Nat) => i ≤ d.nm.length) (fun (i : Nat) => d.nm.length - i) (0) (Nat.zero_le _) zv (SubH.refl _) (fun i hI1 ih1 => ?_)))))))))))
 have h1 := hI1
 refine W.seq (zr (zm rfl (zf fa26_7 rfl 7 (zq (Q.l1 rfl (zt 1 rfl) ag23 rfl) (zq (Q.len ud23 rfl hn.len) (zq (Q.bin rfl rfl rfl (bvl ltn)) (zk (W.cD rfl (fun hc111 => ?_) (fun hc111 => ?_)))))))))
 ·obtain ⟨bn, szn, exn, rfl, wn, mn⟩ := hn.full zy
  obtain ⟨bn2, szn2, exn2, rfl, wn2, mn2⟩ := hn'.full zy
  refine zw (W.seq (W.block (W.seq (W.regT (by kernel_rfl) (zf fa26_7 rfl 7 (zq (Q.l1 rfl (zt 1 rfl) ag23 rfl) (zm rfl (zq (Q.iS ud23 sz9 rfl rfl zo) (zq (Q.l1 rfl (List.mem_cons_of_mem _ (List.mem_cons_of_mem _ mn)) ag9 (cS_at zo)) (zf fa26_7 rfl 7 (zq (Q.l1 rfl (zt 0 rfl) ag23 rfl) (zm rfl (zq (Q.iS ud23 sz9 rfl rfl zo) (zq (Q.l1 rfl (List.mem_cons_of_mem _ (List.mem_cons_of_mem _ mn2)) ag9 (cS_at zo)) (zq (Q.bin rfl rfl rfl bs_str) (zk (W.sub (zc 124 rfl (zc 2 rfl (zc 3 rfl (zc 6 rfl zzn)))) (W.condF rfl (W.skip (End.KB (End.K (W.reg (zm rfl (zq (Q.bin rfl (zi 1) rfl zp) ?_))))))))))))))))))))))))
  refine za rfl (WO.nil (End.KL (W.sub zv (W.sH gc (ih1 (i + 1) ?_ ?_)))))
  ·exact zy
  exact zo
 refine W.exit (End.Kx (End.Lx (End.Bh (End.K (W.seq (zr (za (zi 0) (zk (W.block (W.loop_ind (fun (i : Nat) => [(2, .ptr b1 0), (3, .ptr b2 0), (7, .int .i64 ((i : Nat) : Int))]) (fun (i : Nat) => (⟨b2, ⟨11, true, d.c vm' vn' vk'⟩, true⟩ :: ⟨b1, ⟨11, true, d.c vm vn vk⟩, true⟩ :: hs)) (fun (i : Nat) => i ≤ ks.length) (fun (i : Nat) => ks.length - i) (0) (Nat.zero_le _) zv (SubH.refl _) (fun i hI2 ih2 => ?_)))))))))))
 have h1 := hI2
 refine W.seq (zr (zm rfl (zf fa26_10 rfl 10 (zq (Q.l1 rfl (zt 1 rfl) ag24 rfl) (zq (Q.len ud24 rfl hk.len) (zq (Q.bin rfl rfl rfl (bvl ltn)) (zk (W.cD rfl (fun hc129 => ?_) (fun hc129 => ?_)))))))))
 ·obtain ⟨bk, szk, exk, rfl, wk, mk⟩ := hk.full zy
  obtain ⟨bk2, szk2, exk2, rfl, wk2, mk2⟩ := hk'.full zy
  obtain ⟨c1, hc1, hT1⟩ := hR.at (kd_at (i := i) zy)
  obtain ⟨c2, hc2, hT2⟩ := hR'.at (kd_at (i := i) zy)
  obtain ⟨d1, um, un, uk, rfl, qm, qn, qk, qo⟩ := TRep.opn hT1
  obtain ⟨d2, um2, un2, uk2, rfl, qm2, qn2, qk2, qo2⟩ := TRep.opn hT2
  refine zw (W.seq (W.block (W.seq (W.regT (by kernel_rfl) (zf fa26_10 rfl 10 (zq (Q.l1 rfl (zt 1 rfl) ag24 rfl) (zm rfl (zq (Q.iS ud24 sz26 rfl rfl zo) (zq (Q.loadN rfl (List.mem_cons_of_mem _ (List.mem_cons_of_mem _ mk)) ag26 sz26 (by rw [Nat.zero_add]; exact flat_id_sub hR.lens hc1)) (zf fa26_10 rfl 10 (zq (Q.l1 rfl (zt 0 rfl) ag24 rfl) (zm rfl (zq (Q.iS ud24 sz26 rfl rfl zo) (zq (Q.loadN rfl (List.mem_cons_of_mem _ (List.mem_cons_of_mem _ mk2)) ag26 sz26 (by rw [Nat.zero_add]; exact flat_id_sub hR'.lens hc2)) (WO.cV rfl (oLc rfl (oLc rfl oz)) rfl (ih _ (kd_mem zy) _ _ hT1 hT2) (SubR.t (SubR.t (SubR.s hro))) rfl (zq (Q.not rfl rfl) (zk (W.sub (zc 143 rfl (zc 2 rfl (zc 3 rfl (zc 7 rfl zzn)))) (W.condF rfl (W.skip (End.KB (End.K (W.reg (zm rfl ?_))))))))))))))))))))))))
  refine zq (Q.bin rfl (zi 1) rfl zp) (za rfl (WO.nil (End.KL (W.sub zv (W.sH gc (ih2 (i + 1) ?_ ?_))))))
  ·exact zy
  exact zo
 refine W.exit (End.Kx (End.Lx (End.Bh (End.K (zr (za rfl (zk (W.ret (End.rV (z1 rfl) ?_)))))))))
 rfl
mutual
theorem same_spec (hs : HSt) (hro : ∀ e ∈ hs, e.w = false) : ∀ (t : TD) (c c' : List AV), TRep hs t c → TRep hs t c' → Spec tab 29 [.agg c, .agg c'] [] hs (Val (.bool true))
 | .node d ks, c, c', h, h' => by
  rw [TRep] at h h'
  obtain ⟨vm, vn, vk, cs, rfl, h1, h2, h3, h4, h5, h6⟩ := h
  obtain ⟨vm', vn', vk', cs', rfl, g1, g2, g3, _, _, g6⟩ := h'
  exact same_step hs hro d ks vm vn vk vm' vn' vk' cs cs' h1 h2 h3 h4 h5 h6 g1 g2 g3 g6 (same_specs hs hro ks)
theorem same_specs (hs : HSt) (hro : ∀ e ∈ hs, e.w = false) : ∀ (ks : List TD), ∀ k ∈ ks, ∀ c c', TRep hs k c → TRep hs k c' → Spec tab 29 [.agg c, .agg c'] [] hs (Val (.bool true))
 | [], k, h, _, _, _, _ => by cases h
 | x :: ks, k, h, c, c', h1, h2 => by
  rcases List.mem_cons.1 h with e | h
  ·exact same_spec hs hro x c c' (e ▸ h1) (e ▸ h2)
  ·exact same_specs hs hro ks k h c c' h1 h2
end
open Go.RowKit Go.ChangeShapes Go.WideShapes
section
variable {H : Type} {enc : TypeId × Value → H} {P : Program} {w : World} {held : Bool}
end
def RowI (k : Nat) {α : Type} (sz : Nat) (f : List α → List AV) (X : List α) (va : AV) (x : InB) : Prop := (va = .nils ∧ X = []) ∨ (va = .slice k 0 X.length sz ∧ x.cells = f X)
theorem RowI.cell {k sz : Nat} {α : Type} {f : List α → List AV} {X : List α} {va : AV} {x : InB} (h : RowI k sz f X va x) : va.isCell = true := by
 rcases h with ⟨rfl, _⟩ | ⟨rfl, _⟩ <;> rfl
section
variable {H : Type} {enc : TypeId × Value → H} {W : World}
end
variable {J : Ctx}
set_option linter.unusedVariables false
set_option linter.unusedSimpArgs false

structure BCfg where
 bt : Nat
 bu : Nat
 fs : Nat
 fb : Nat
 fr : Nat
abbrev Gh := Option (Nat × List Nat)

noncomputable section
def keepIn (h0 : T AObj) (t : T AObj) : Nat → T AObj
 | 0 => .leaf
 | k + 1 => match h0.get k, t.get k with
  | some _, some o => (keepIn h0 t k).set k o
  | _, _ => keepIn h0 t k
theorem keepIn_get {h0 t : T AObj} : ∀ {k b : Nat} {o : AObj}, (keepIn h0 t k).get b = some o → t.get b = some o ∧ ∃ o', h0.get b = some o'
 | 0, b, o, h => by rw [keepIn, T.get_leaf] at h; cases h
 | k + 1, b, o, h => by
  rw [keepIn] at h
  split at h
  ·rename_i x y h1 h2
   rw [T.get_set] at h
   split at h
   ·rename_i e
    subst e
    cases h
    exact ⟨h2, x, h1⟩
   ·exact keepIn_get h
  ·exact keepIn_get h

def ghIs (g : Gh) (k : Nat) : Option (List Nat) := match g with
 | some (k', l) => match Nat.beq k k' with
  | true => some l
  | false => none
 | none => none
theorem ghIs_some {g : Gh} {k : Nat} {l : List Nat} (h : ghIs g k = some l) : g = some (k, l) := by
 unfold ghIs at h
 split at h
 ·split at h
  ·rename_i hb
   cases h
   rw [Nat.eq_of_beq_eq_true hb]
  ·cases h
 ·cases h

def spWrite (tm : T AV) (h : AHeap) (g : Gh) (args : List Operand) : Option (AV × AHeap × Gh) :=
 match opnds tm args with
 | some [.opq k, .str s] => match ghIs g k with
  | some l => match Nat.ble (l.length + s.length) 1048576 with
   | true => some (.tuple [.int .i64 (s.length : Nat), .nili], h, some (k, l ++ s))
   | false => none
  | none => none
 | _ => none
def spByte (h0 : T AObj) (tm : T AV) (h : AHeap) (g : Gh) (args : List Operand) : Option (AV × AHeap × Gh) :=
 match opnds tm args with
 | some [.opq k, .int .u8 (.ofNat n)] => match ghIs g k with
  | some l => match Nat.ble (l.length + 1) 1048576 && Nat.blt n 256 with
   | true => some (.nili, ⟨h.next, keepIn h0 h.objs h.next⟩, some (k, l ++ [n]))
   | false => none
  | none => none
 | _ => none
def spTell (h0 : T AObj) (tm : T AV) (h : AHeap) (g : Gh) (args : List Operand) : Option (AV × AHeap × Gh) :=
 match opnds tm args with
 | some [.opq k] => match ghIs g k with
  | some (n :: l) => some (.str (n :: l), ⟨h.next, keepIn h0 h.objs h.next⟩, none)
  | _ => none
 | _ => none
def spOp (c : BCfg) (h0 : T AObj) (tm : T AV) (h : AHeap) (g : Gh) (o : Oper) : Option (Option (AV × AHeap × Gh)) :=
 match o.guard with
 | some _ => none
 | none => match o.op with
  | .alloc t => match Nat.beq t c.bt with
   | true => some (match g with
    | none => some (.opq h.next, ⟨h.next + 1, h.objs⟩, some (h.next, []))
    | some _ => none)
   | false => none
  | .call cl => match cl.callee with
   | .value (.func f) =>
    match Nat.beq f c.fs with
    | true => some (spWrite tm h g cl.args.toList)
    | false => match Nat.beq f c.fb with
     | true => some (spByte h0 tm h g cl.args.toList)
     | false => match Nat.beq f c.fr with
      | true => some (spTell h0 tm h g cl.args.toList)
      | false => none
   | _ => none
  | _ => none
def evOpsG (c : BCfg) (tb : Tab) (call : Nat → List AV → AHeap → Option (AV × AHeap)) (h0 : T AObj) (n : Nat) (ops : List Oper) : List Oper → T AV → AHeap → Gh → Option (T AV × AHeap × Gh)
 | [], tm, h, g => some (tm, h, g)
 | o :: rest, tm, h, g => match spOp c h0 tm h g o with
  | some (some (v, h', g')) => match putDst tm n o.dst v with
   | some tm' => evOpsG c tb call h0 n ops rest tm' h' g'
   | none => none
  | some none => none
  | none => match ev1 tb call ops tm h o with
   | some (v, h', _) => match putDst tm n o.dst v with
    | some tm' => evOpsG c tb call h0 n ops rest tm' h' g
    | none => none
   | none => none
def evCodeG (c : BCfg) (tb : Tab) (call : Nat → List AV → AHeap → Option (AV × AHeap)) (h0 : T AObj) (n : Nat)
  (ih : Code → T AV → AHeap → Gh → Option (Ex × T AV × AHeap × Gh)) (cd : Code) (tm : T AV) (h : AHeap) (g : Gh) : Option (Ex × T AV × AHeap × Gh) :=
 match cd with
 | .skip => some (.normal, tm, h, g)
 | .label _ => some (.normal, tm, h, g)
 | .ret => some (.ret, tm, h, g)
 | .exit id => some (.exit id, tm, h, g)
 | .region _ ops draw => match draw with
  | true => match evDraw tb call n ops.toList tm h with
   | some (tm', h') => some (.normal, tm', h', g)
   | none => none
  | false => match evOpsG c tb call h0 n ops.toList ops.toList tm h g with
   | some (tm', h', g') => some (.normal, tm', h', g')
   | none => none
 | .seq a b => match ih a tm h g with
  | some (.normal, tm', h', g') => ih b tm' h' g'
  | r => r
 | .cond x a b => match opnd tm x with
  | some (.bool true) => ih a tm h g
  | some (.bool false) => ih b tm h g
  | _ => none
 | .block id b => match ih b tm h g with
  | some (.exit j, tm', h', g') => match Nat.beq j id with
   | true => some (.normal, tm', h', g')
   | false => some (.exit j, tm', h', g')
  | r => r
 | .loop b => match ih b tm h g with
  | some (.normal, tm', h', g') => ih (.loop b) tm' h' g'
  | r => r
 | _ => none
def evCallG (tb : Tab) (run : T AObj → Nat → Code → T AV → AHeap → Gh → Option (Ex × T AV × AHeap × Gh)) (f : Nat) (args : List AV) (h : AHeap) : Option (AV × AHeap) :=
 match tb.orc f args h with
 | some v => some (v, h)
 | none =>
 match tb.ft.get f with
 | some fn =>
  match fn.body, Nat.ble args.length fn.ntmps with
  | some c, true =>
   match run h.objs fn.ntmps c (argTmps 0 args .leaf) h none with
   | some (.exit _, _, _, _) => none
   | some (_, tm, h', _) => match resultsA tb tm h' fn.results.toList with
    | some l => some (oneOf l, h')
    | none => none
   | none => none
  | _, _ => none
 | none => none
def runG (c : BCfg) (tb : Tab) : Nat → T AObj → Nat → Code → T AV → AHeap → Gh → Option (Ex × T AV × AHeap × Gh)
 | 0, _, _, _, _, _, _ => none
 | k + 1, h0, n, cd, tm, h, g => evCodeG c tb (evCallG tb (runG c tb k)) h0 n (runG c tb k h0 n) cd tm h g
def callG (c : BCfg) (tb : Tab) (k : Nat) (f : Nat) (args : List AV) (h : AHeap) : Option (AV × AHeap) := evCallG tb (runG c tb k) f args h
end

def ownB (w : World) (b : Nat) : Option Nat := match w.heap[b]? with
 | some (.cells c _ _) => (c.getD 1 undef).ownBlock
 | _ => none
structure Fine (b : Nat) (w w' : World) : Prop where
 os : w'.os = w.os
 tape : w'.tape = w.tape
 output : w'.output = w.output
 size : w.heap.size ≤ w'.heap.size
 block : ∀ k, k < w.heap.size → k ≠ b → ownB w b ≠ some k → w'.heap[k]? = w.heap[k]?
 own : ∀ x, ownB w' b = some x → ownB w b = some x ∨ w.heap.size ≤ x

def hasFn (P : Program) (f : Nat) : Prop := ∃ fn, P.funcs[f]? = some fn ∧ fn.body.isSome = true ∧ (fn.name == "runtime.NumGoroutine") = false
structure BOK (P : Program) (c : BCfg) : Prop where
 hz : ∀ w, (zeroValue c.bt).run P w = .ok (.agg #[.pointer none, .slice none 0 0]) w
 fs : hasFn P c.fs
 fb : hasFn P c.fb
 fr : hasFn P c.fr
 ws : ∀ (B b : Nat) (bs : List Value) (s : ByteArray) (w : World), Lib.IsBuilder c.bt c.bu B b bs w → bs.length + s.size ≤ 140737488355328 → B ≤ w.heap.size →
  Calls P c.fs #[.pointer (some ⟨b, 0, none⟩), .string s] w fun e w' => e = .returned (.tuple #[.int .i64 s.size, .nilIface]) ∧ Lib.IsBuilder c.bt c.bu B b (bs ++ Lib.strCells s) w' ∧ Fine b w w'
 wb : ∀ (B b : Nat) (bs : List Value) (n : Int) (w : World), Lib.IsBuilder c.bt c.bu B b bs w → bs.length + 1 ≤ 140737488355328 → B ≤ w.heap.size →
  Calls P c.fb #[.pointer (some ⟨b, 0, none⟩), .int .u8 n] w fun e w' => e = .returned .nilIface ∧ Lib.IsBuilder c.bt c.bu B b (bs ++ [.int .u8 n]) w' ∧ Below B w w'
 tl : ∀ (B b : Nat) (l : List UInt8) (w : World), Lib.IsBuilder c.bt c.bu B b (Lib.byteCells l) w → l ≠ [] →
  Calls P c.fr #[.pointer (some ⟨b, 0, none⟩)] w fun e w' => e = .returned (.string ⟨l.toArray⟩) ∧ Below B w w'

def Bld (c : BCfg) (M : Inj) (N : Nat → Prop) (B : Nat) (g : Gh) (w : World) : Prop :=
 ∀ k l, g = some (k, l) → ∃ (blk : Nat) (s : List UInt8), M k = some ⟨0, 0, 0, 0, .pointer (some ⟨blk, 0, none⟩)⟩ ∧ l = s.map UInt8.toNat ∧ Lib.IsBuilder c.bt c.bu B blk (Lib.byteCells s) w ∧ N blk ∧ ∀ x, ownB w blk = some x → N x
def GRel (c : BCfg) (N0 : Nat → Prop) (w0 : Base J) (B : Nat) (h0 : T AObj) (M : Inj) (h : AHeap) (g : Gh) (w : World) : Prop :=
 (∀ b o, h0.get b = some o → ∃ i, M b = some i ∧ i.blk < B) ∧ (∀ k, N0 k → k < B) ∧ (∀ k, k < w0.n → N0 k) ∧
 ∃ (N : Nat → Prop) (w1 : Base J), HRel M N w1 h w ∧ (∀ k, N0 k → N k) ∧ Keeps N0 w0.w w1.w ∧ w1.n = w0.n ∧ (∀ b, w0.res b → w1.res b) ∧ Bld c M N B g w1.w ∧ B ≤ w1.w.heap.size

section ghost
variable {P : Program} {tb : Tab} {c : BCfg} {N0 : Nat → Prop} {w0 : Base J} {B : Nat} {h0 : T AObj} {M : Inj} {h : AHeap} {g : Gh} {w : World}

theorem GRel.enter {N : Nat → Prop} (hh : HRel M N w0 h w) : GRel c N w0 w.heap.size h.objs M h none w := by
 refine ⟨fun b o ho => ?_, hh.big, hh.lim, N, Base.at_ hh.lim hh.below w0.res, hh.rebase w0.res (fun k hk => hk) hh.big (fun b o i _ _ hN => hN) hh.res, fun k hk => hk, hh.below, rfl, fun b hb => hb, fun k l e => (by cases e), Nat.le_refl _⟩
 have hl := hh.live b o ho
 have : ∃ i, M b = some i := by
  rcases hl with ⟨⟨i, hi, _⟩, _⟩ | ⟨i, _, _, _, hi, _⟩ | ⟨i, _, _, hi, _⟩ <;> exact ⟨i, hi⟩
 obtain ⟨i, hi⟩ := this
 exact ⟨i, hi, (hl.blk_lt hi).1⟩
theorem GRel.leave (hg : GRel c N0 w0 B h0 M h g w) : HRel M N0 w0 h w := by
 obtain ⟨_, h1, h2, N, w1, hh, h3, h4, h5, h6, _, _⟩ := hg
 exact ⟨hh.base, h2, h4.trans (hh.below.mono h3), fun k hk => hh.big k (h3 k hk), fun b o ho => by
   have := (hh.live b o ho).limit (N' := N0) (fun i hi hN hN2 => hN (h3 _ hN2))
   rwa [h5] at this,
  fun b b' o o' i i' p q r s e hN => hh.apart b b' o o' i i' p q r s e (((hh.live b o p).blk_lt r).2.resolve_right (fun hlt => hN (h2 _ (h5 ▸ hlt)))), hh.old, hh.fresh, fun b hb => hh.res b (h6 b hb)⟩
theorem GRel.step {N : Nat → Prop} {w1 : Base J} {M' : Inj} {h' : AHeap} {w' : World} (h1 : ∀ b o, h0.get b = some o → ∃ i, M b = some i ∧ i.blk < B) (h2 : ∀ k, N0 k → k < B) (h3 : ∀ k, k < w0.n → N0 k)
  (h4 : ∀ k, N0 k → N k) (h5 : Keeps N0 w0.w w1.w) (h6 : w1.n = w0.n) (h7 : ∀ b, w0.res b → w1.res b) (h8 : Bld c M N B g w1.w) (h9 : B ≤ w1.w.heap.size) (hM : M.le M') (hh : HRel M' N w1 h' w') : GRel c N0 w0 B h0 M' h' g w' :=
 ⟨fun b o ho => let ⟨i, hi, hl⟩ := h1 b o ho; ⟨i, hM _ _ hi, hl⟩, h2, h3, N, w1, hh, h4, h5, h6, h7, fun k l e => let ⟨blk, s, q1, q2⟩ := h8 k l e; ⟨blk, s, hM _ _ q1, q2⟩, h9⟩

theorem row_keeps {N : Nat → Prop} {e n : Nat} {v : Value} {xs : List Value} {w w' : World} (h : w.ownsRow B e 1 v n xs) (hN : ∀ x, v.ownBlock = some x → N x) (k : Keeps N w w') : w'.ownsRow B e 1 v n xs := by
 obtain ⟨h1, h2⟩ := h
 refine ⟨h1, ?_⟩
 rcases h2 with h2 | ⟨g, cap, cur, rfl, q1, q2, q3⟩
 ·exact .inl h2
 ·exact .inr ⟨g, cap, cur, rfl, q1, by rw [k.block g (hN g rfl)]; exact q2, q3⟩
theorem at_keeps {N : Nat → Prop} {blk : Nat} {p : Value} {bs : List Value} {w w' : World} (h : Lib.BuilderAt c.bt c.bu B blk p bs w) (hb : N blk) (hN : ∀ x, ownB w blk = some x → N x) (k : Keeps N w w') : Lib.BuilderAt c.bt c.bu B blk p bs w' := by
 obtain ⟨h1, v, h2, h3, h4⟩ := h
 refine ⟨h1, v, by rw [k.block blk hb]; exact h2, row_keeps h3 (fun x hx => hN x ?_) k, h4⟩
 unfold ownB
 rw [h2]
 exact hx
theorem is_keeps {N : Nat → Prop} {blk : Nat} {bs : List Value} {w w' : World} (h : Lib.IsBuilder c.bt c.bu B blk bs w) (hb : N blk) (hN : ∀ x, ownB w blk = some x → N x) (k : Keeps N w w') : Lib.IsBuilder c.bt c.bu B blk bs w' :=
 h.imp (fun h => at_keeps h hb hN k) (fun h => at_keeps h hb hN k)
theorem own_keeps {N : Nat → Prop} {blk : Nat} {w w' : World} (hb : N blk) (k : Keeps N w w') : ownB w' blk = ownB w blk := by
 unfold ownB
 rw [k.block blk hb]
theorem Bld.keeps {N : Nat → Prop} {w w' : World} (h : Bld c M N B g w) (k : Keeps N w w') : Bld c M N B g w' := by
 intro a l e
 obtain ⟨blk, s, q1, q2, q3, q4, q5⟩ := h a l e
 exact ⟨blk, s, q1, q2, is_keeps q3 q4 q5 k, q4, by rw [own_keeps q4 k]; exact q5⟩
theorem is_own {blk : Nat} {bs : List Value} {w : World} (h : Lib.IsBuilder c.bt c.bu B blk bs w) : B ≤ blk ∧ blk < w.heap.size ∧ ∀ x, ownB w blk = some x → B ≤ x ∧ x < w.heap.size := by
 have key : ∀ p, Lib.BuilderAt c.bt c.bu B blk p bs w → B ≤ blk ∧ blk < w.heap.size ∧ ∀ x, ownB w blk = some x → B ≤ x ∧ x < w.heap.size := by
  intro p h
  refine ⟨h.1, h.lt, fun x hx => ?_⟩
  obtain ⟨_, v, h2, h3, _⟩ := h
  unfold ownB at hx
  rw [h2] at hx
  rcases h3.2 with ⟨rfl, _⟩ | ⟨g, cap, cur, rfl, q1, q2, _⟩
  ·cases hx
  ·cases hx
   exact ⟨q1, (Array.getElem?_eq_some_iff.1 q2).1⟩
 exact h.elim (key _) (key _)

theorem HRel.newBase {N N' : Nat → Prop} {w1 : Base J} {M' : Inj} {h' : AHeap} {w' : World} (hh : HRel M N w1 h w) (hM : M.le M') (hk : Keeps N0 w w') (hlim : ∀ k, k < w1.n → N0 k) (h0N : ∀ k, N0 k → N k) (hN0 : ∀ k, N0 k → N' k) (hbig : ∀ k, N' k → k < w'.heap.size)
  (hsub : ∀ b o, h'.objs.get b = some o → h.objs.get b = some o) (hnext : h.next ≤ h'.next) (hfresh : ∀ b, h'.next ≤ b → M' b = none) (hsame : ∀ b, b < h.next → M' b = M b)
  (hblk : ∀ b o i, h'.objs.get b = some o → M b = some i → w'.heap[i.blk]? = w.heap[i.blk]? ∧ (¬ N i.blk → ¬ N' i.blk)) :
  ∃ w2 : Base J, w2.w = w' ∧ w2.n = w1.n ∧ (∀ b, w1.res b → w2.res b) ∧ HRel M' N' w2 h' w' := by
 have hb : Below w1.n w1.w w' := (hh.below.mono h0N |>.trans hk).below hlim
 refine ⟨⟨w', w1.n, fun w3 h3 => w1.ok w3 (hb.trans h3), w1.res⟩, rfl, rfl, fun b h => h, ⟨Inj.le_trans hh.base hM, fun k hk => hN0 k (hlim k hk), Keeps.refl _ _, hbig, ?_, ?_, ?_, hfresh, ?_⟩⟩
 ·intro b o hb
  have hl := hh.live b o (hsub b o hb)
  have hm := hl.mono hM (w' := w') (fun i hi => (hblk b o i hb hi).1)
  have hlt := hh.old b o (hsub b o hb)
  exact hm.limit (fun i hi hN => (hblk b o i hb (by rw [← hsame b hlt]; exact hi)).2 hN)
 ·intro b b' o o' i i' p q r s e hN
  have p' := hsub b o p
  have q' := hsub b' o' q
  rw [hsame b (hh.old b o p')] at r
  rw [hsame b' (hh.old b' o' q')] at s
  refine hh.apart b b' o o' i i' p' q' r s e (((hh.live b o p').blk_lt r).2.resolve_right (fun hlt => hN (hN0 _ (hlim _ hlt))))
 ·intro b o hb
  have := hh.old b o (hsub b o hb)
  omega
 ·intro b hb
  obtain ⟨r1, r2⟩ := hh.res b hb
  exact ⟨by rw [hsame b r2]; exact r1, Nat.lt_of_lt_of_le r2 hnext⟩

theorem gh_alloc (H : BOK P c) (hg : GRel c N0 w0 B h0 M h none w) : ∃ u M' w', (Instr.alloc c.bt true (.tuple #[])).run P w = .ok u w' ∧ M.le M' ∧ VRel M' (.opq h.next) u ∧ GRel c N0 w0 B h0 M' ⟨h.next + 1, h.objs⟩ (some (h.next, [])) w' := by
 obtain ⟨h1, h2, h3, N, w1, hh, h4, h5, h6, h7, _, h9⟩ := hg
 have hn := hh.fresh h.next (Nat.le_refl _)
 have hsz : w1.w.heap.size ≤ w.heap.size := hh.below.size
 let u : Value := .pointer (some ⟨w.heap.size, 0, none⟩)
 let w' := w.alloc (.cells #[.pointer none, .slice none 0 0] c.bt (0, 0))
 have hgr : Grow w w' (.cells #[.pointer none, .slice none 0 0] c.bt (0, 0)) := Grow.alloc w _
 let M' := M.upd h.next ⟨0, 0, 0, 0, u⟩
 have hle : M.le M' := Inj.le_upd hn _
 have hsame : ∀ b, b < h.next → M' b = M b := fun b hb => by show (if b = h.next then _ else _) = _; rw [if_neg zy]
 have hself : M' h.next = some ⟨0, 0, 0, 0, u⟩ := by show (if h.next = h.next then _ else _) = _; rw [if_pos rfl]
 have hk : Keeps N0 w w' := (hgr.below (Keeps.refl N0 w) (fun k hk => by have := h2 k hk; omega))
 obtain ⟨w2, e1, e2, e3, hh2⟩ := hh.newBase (N0 := N0) (N' := fun x => N x ∨ x = w.heap.size) (h' := ⟨h.next + 1, h.objs⟩) hle hk (fun k hk => h3 k (h6 ▸ hk)) h4 (fun k hk => .inl (h4 k hk))
  (fun k hk => by rw [hgr.size]; rcases hk with hk | rfl; have := hh.big k hk; omega; omega) (fun b o hb => hb) (Nat.le_succ _) (fun b hb => by show (if b = h.next then _ else _) = _; simp only at hb; rw [if_neg zy]; exact hh.fresh b zy) hsame
  (fun b o i hb hi => by
   have := ((hh.live b o hb).blk_lt hi).1
   exact ⟨hgr.old _ this, fun hN hN' => hN'.elim hN (fun e => by omega)⟩)
 refine ⟨u, M', w', ?_, hle, .opq h.next ⟨0, 0, 0, 0, u⟩ u hself rfl rfl, fun b o ho => let ⟨i, hi, hl⟩ := h1 b o ho; ⟨i, hle _ _ hi, hl⟩, h2, h3, _, w2, hh2, fun k hk => .inl (h4 k hk), by rw [e1]; exact (h5.trans (hh.below.mono h4)).trans hk, by rw [e2, h6], fun b hb => e3 b (h7 b hb), ?_, by rw [e1, hgr.size]; omega⟩
 ·simp only [Instr.alloc, Sem.run_bind, H.hz, Result.andThen_ok]
  simp [newVar, newRow, Value.cells, u, w']
 ·intro k l e
  cases e
  refine ⟨w.heap.size, [], hself, rfl, .inl ⟨by omega, .slice none 0 0, by rw [e1]; exact hgr.new, World.ownsRow_nil _ _ _ _, by simp [Value.ownBlock]⟩, .inr rfl, fun x hx => ?_⟩
  rw [e1] at hx
  unfold ownB at hx
  rw [hgr.new] at hx
  cases hx
end ghost
end Go.Proofs.YtndhhgbpcmfeiaaGreatDoor.Ev
