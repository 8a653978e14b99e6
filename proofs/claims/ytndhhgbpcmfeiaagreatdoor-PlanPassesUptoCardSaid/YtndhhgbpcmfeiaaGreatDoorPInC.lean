/- Chapter 20, walks: what a plan means. -/
import Derived.Test.YtndhhgbpcmfeiaaGreatDoorPGg
import Derived.Test.YtndhhgbpcmfeiaaGreatDoorPGf
import Derived.Test.YtndhhgbpcmfeiaaGreatDoorPAwJ
namespace Go.Proofs.YtndhhgbpcmfeiaaGreatDoor.Ev
open Go.RowKit
set_option maxRecDepth 100000
set_option maxHeartbeats 1000000
structure CQ (v : AV) : Prop where
 cell : v.isCell = true
 bq0 : cf v v = true
theorem CQ.bq {v : AV} (h : CQ v) : v.beq v = true := by
 have h1 := h.cell
 have h2 := h.bq0
 cases v <;> first | exact h2 | cases h1 | (simp [AV.beq, gp, cf] at *; done) | skip
 all_goals (rename_i fn l; cases l <;> simp [AV.beq, gp, cf, fz] at *)
theorem RIn.cq {hs : ad} {sz n : Nat} {cells : List AV} {v : AV} (h : RIn hs sz n cells v) : CQ v := ⟨h.cell, h.bq0⟩
section
variable {d : ND} {vm vn vk : AV} {hs Dm Dn D13 hp hl D : ad} {L : List IE} {i j q k : Nat} {t : TD} {c : List AV} {cs : List (List AV)} {u v : AV}
theorem pO (h : TRep hs t c) : ∃ (d : ND) (vm vn vk : AV), c = d.c vm vn vk /\ CQ vm /\ CQ vn /\ CQ vk /\ Bytes d.op := by
 cases t with
 | node d ks =>
  rw [TRep] at h
  obtain ⟨vm, vn, vk, cs, rfl, h2, h3, h4, h5, _⟩ := h
  exact ⟨d, vm, vn, vk, rfl, h2.cq, h3.cq, h4.cq, h5.1⟩
end
theorem uW : aW.isAgg 30 = some false := by kernel_rfl
theorem B4 : PL aW 26 [.int .i64 0, .str [], .int .i64 0, .nils, .int .i64 0, .int .i64 0, .int .i64 0, .nils, .int .i64 0, .bool false, .nils] [(0, 1), (1, 1), (2, 1), (3, 1), (4, 1), (5, 1), (6, 1), (7, 1), (8, 1), (9, 1), (10, 1)] = true := by kernel_rfl
theorem ew {k : IntKind} {a : Int} {t : TypeId} {tb : Tab} : bO tb .neq t (.int k a) (.int k a) = some (.bool false) := bV (by rw [fH]; simp)
theorem vo {x : List Nat} {t : TypeId} {tb : Tab} : bO tb .neq t (.str x) (.str x) = some (.bool false) := by rw [lI]; simp
theorem yY {tb : Tab} {t : TypeId} (h : tb.und t = some .bool) {b : Bool} : bO tb .neq t (.bool b) (.bool b) = some (.bool false) := by rw [vp h]; cases b <;> rfl
theorem CB {m : Mt} : bO aW .neq 91 (.agg (mC m)) (.agg (mC m)) = some (.bool false) := by
 obtain ⟨k, a, b⟩ := m
 have h1 : p9 k k = true := by rw [bW]; simp
 have h2 : bN a a = true := by rw [jE]; simp
 have h3 : bN b b = true := by rw [jE]; simp
 show (match jy aW 91 (.agg [.int .i64 k, .str a, .str b]) (.agg [.int .i64 k, .str a, .str b]) with
  | some b => some (AV.bool (!b))
  | none => none) = _
 have e : jy aW 91 (.agg [.int .i64 k, .str a, .str b]) (.agg [.int .i64 k, .str a, .str b]) = (match p9 k k with | true => (match bN a a with | true => (match bN b b with | true => some true | false => some false) | false => some false) | false => some false) := by kernel_rfl
 rw [e, h1, h2, h3]; rfl
def mi (l : List Mt) (i : Nat) : Mt := l.getD i default
theorem qB {l : List Mt} {i : Nat} (h : i < l.length) : l[i]? = some (mi l i) := by
 unfold mi
 rw [List.getD_eq_getElem?_getD, List.getElem?_eq_getElem h]; rfl
theorem nF {l : List Mt} {i : Nat} (h : i < l.length) : du (cM l) ((0 + i) * 3) 3 = some (mC (mi l i)) := by
 rw [Nat.zero_add]; exact mE (f := mC) (fun _ => rfl) l i _ (qB h)
def si (l : List (List Nat)) (i : Nat) : List Nat := l.getD i []
theorem qV {l : List (List Nat)} {i : Nat} (h : i < l.length) : l[i]? = some (si l i) := by
 unfold si
 rw [List.getD_eq_getElem?_getD, List.getElem?_eq_getElem h]; rfl
theorem nG {l : List (List Nat)} {i : Nat} (h : i < l.length) : (cS l)[(0 + i) * 1]? = some (.str (si l i)) := by
 rw [Nat.zero_add, Nat.mul_one, cS, List.getElem?_map, qV h]; rfl
def kd (l : List TD) (i : Nat) : TD := l.getD i C1
theorem wG {l : List TD} {i : Nat} (h : i < l.length) : l[i]? = some (kd l i) := by
 unfold kd
 rw [List.getD_eq_getElem?_getD, List.getElem?_eq_getElem h]; rfl
theorem BB {l : List TD} {i : Nat} (h : i < l.length) : kd l i ∈ l := List.mem_of_getElem? (wG h)
theorem sN : aW.isAgg 9 = some false := by kernel_rfl
theorem tU : aW.isAgg 91 = some true := by kernel_rfl
theorem dq : FA aW 26 0 = some (0, 0 + 1) := by kernel_rfl
theorem iM : FA aW 26 1 = some (1, 0 + 1) := by kernel_rfl
theorem iN : FA aW 26 2 = some (2, 0 + 1) := by kernel_rfl
theorem kC : FA aW 26 4 = some (4, 0 + 1) := by kernel_rfl
theorem kD : FA aW 26 5 = some (5, 0 + 1) := by kernel_rfl
theorem kE : FA aW 26 6 = some (6, 0 + 1) := by kernel_rfl
theorem kF : FA aW 26 8 = some (8, 0 + 1) := by kernel_rfl
theorem kG : FA aW 26 9 = some (9, 0 + 1) := by kernel_rfl
theorem Dr : aW.und 4 = some .bool := by kernel_rfl
theorem uJ (hs : ad) (hro : ∀ e ∈ hs, e.w = false) (d : ND) (ks : List TD) (vm vn vk vm' vn' vk' : AV) (cs cs' : List (List AV))
 (hm : RIn hs 3 d.ms.length (cM d.ms) vm) (hn : RIn hs 1 d.nm.length (cS d.nm) vn) (hk : RIn hs 11 ks.length (cs.flatMap id) vk) (hd : d.bd) (hks : ks.length <= 1048576) (hR : TReps hs ks cs)
 (hm' : RIn hs 3 d.ms.length (cM d.ms) vm') (hn' : RIn hs 1 d.nm.length (cS d.nm) vn') (hk' : RIn hs 11 ks.length (cs'.flatMap id) vk') (hR' : TReps hs ks cs')
 (ih : ∀ k ∈ ks, ∀ c c', TRep hs k c -> TRep hs k c' -> Spec aW 29 [.agg c, .agg c'] [] hs (eW (.bool true))) : Spec aW 29 [.agg (d.c vm vn vk), (.agg (d.c vm' vn' vk'))] [] hs (eW (.bool true)) := by
 have hd1 := hd.2.1.1
 have hd2 := hd.2.2.1
 refine ak (eX 29 Tryz.func29) rfl (m := 144) rfl (rs := [.tmp 4]) rfl (st := [(0, .agg (d.c vm vn vk)), (1, (.agg (d.c vm' vn' vk')))]) rfl rfl (fun _ => rfl) (fun E => zr (WO.box rfl (ep hm.cell hn.cell hk.cell) (rz _ rfl) rfl (fun b1 => WO.box rfl (ep hm'.cell hn'.cell hk'.cell) (rz _ rfl) rfl (fun b2 => za rfl (zk (W.seq (zr (zf dq rfl 0 (zq (ag rfl (zt 1 rfl) dn rfl) (zf dq rfl 0 (zq (ag rfl (zt 0 rfl) dn rfl) (zq (aa rfl rfl rfl ew) (zm rfl (zT (zf iM rfl 1 (zT (zq (ag rfl (zt 1 rfl) sN rfl) (zT (zf iM rfl 1 (zT (zq (ag rfl (zt 0 rfl) sN rfl) (zT (zq (aa rfl rfl rfl vo) ?_)))))))))))))))))))))))
 refine zq (aG rfl rfl) (zm rfl (zT (zf iN rfl 2 (zT (zq (ag rfl (zt 1 rfl) dn rfl) (zT (zf iN rfl 2 (zT (zq (ag rfl (zt 0 rfl) dn rfl) (zT (zq (aa rfl rfl rfl ew) (zq (aG rfl rfl) (zm rfl (zT (zf kC rfl 4 (zT (zq (ag rfl (zt 1 rfl) dn rfl) (zT (zf kC rfl 4 (zT (zq (ag rfl (zt 0 rfl) dn rfl) (zT (zq (aa rfl rfl rfl ew) ?_)))))))))))))))))))))))
 refine zq (aG rfl rfl) (zm rfl (zT (zf kD rfl 5 (zT (zq (ag rfl (zt 1 rfl) dn rfl) (zT (zf kD rfl 5 (zT (zq (ag rfl (zt 0 rfl) dn rfl) (zT (zq (aa rfl rfl rfl ew) (zq (aG rfl rfl) (zm rfl (zT (zf kE rfl 6 (zT (zq (ag rfl (zt 1 rfl) dn rfl) (zT (zf kE rfl 6 (zT (zq (ag rfl (zt 0 rfl) dn rfl) (zT (zq (aa rfl rfl rfl ew) ?_)))))))))))))))))))))))
 refine zq (aG rfl rfl) (zm rfl (zT (zf kF rfl 8 (zT (zq (ag rfl (zt 1 rfl) dn rfl) (zT (zf kF rfl 8 (zT (zq (ag rfl (zt 0 rfl) dn rfl) (zT (zq (aa rfl rfl rfl ew) (zq (aG rfl rfl) (zm rfl (zT (zf kG rfl 9 (zT (zq (ag rfl (zt 1 rfl) uX rfl) (zT (zf kG rfl 9 (zT (zq (ag rfl (zt 0 rfl) uX rfl) (zT (zq (aa rfl rfl rfl (yY Dr)) ?_)))))))))))))))))))))))
 refine zq (aG rfl rfl) (zm rfl (zT (zf dr rfl 3 (zT (zq (ag rfl (zt 1 rfl) jp rfl) (zT (zq (Q.len gz rfl hm.len) (zT (zf dr rfl 3 (zT (zq (ag rfl (zt 0 rfl) jp rfl) (zT (zq (Q.len gz rfl hm'.len) (zT (zq (aa rfl rfl rfl ew) (zq (aG rfl rfl) (zm rfl (zT (zf dt rfl 7 (zT (zq (ag rfl (zt 1 rfl) jq rfl) (zT (zq (Q.len gA rfl hn.len) ?_)))))))))))))))))))))))
 refine zT (zf dt rfl 7 (zT (zq (ag rfl (zt 0 rfl) jq rfl) (zT (zq (Q.len gA rfl hn'.len) (zT (zq (aa rfl rfl rfl ew) (zq (aG rfl rfl) (zm rfl (zT (zf cG rfl 10 (zT (zq (ag rfl (zt 1 rfl) jN rfl) (zT (zq (Q.len km rfl hk.len) (zT (zf cG rfl 10 (zT (zq (ag rfl (zt 0 rfl) jN rfl) (zT (zq (Q.len km rfl hk'.len) (zT (zq (aa rfl rfl rfl ew) ?_)))))))))))))))))))))))
 refine zq (aG rfl rfl) (zk (W.sub (zc 88 rfl (zc 3 rfl (zc 2 rfl bE))) (aN rfl (zw (W.seq (zr (za (zi 0) (zk (W.block (az (fun (i : Nat) => [(2, .ptr b1 0), (3, .ptr b2 0), (5, .int .i64 ((i : Nat) : Int))]) (fun (i : Nat) => (⟨b2, ⟨11, true, d.c vm' vn' vk'⟩, true⟩ :: ⟨b1, ⟨11, true, d.c vm vn vk⟩, true⟩ :: hs)) (fun (i : Nat) => i <= d.ms.length) (fun (i : Nat) => d.ms.length - i) (0) (Nat.zero_le _) zv (SubH.refl _) (fun i hI0 ih0 => ?_)))))))))))
 have h1 := hI0
 refine W.seq (zr (zm rfl (zf dr rfl 3 (zq (ag rfl (zt 1 rfl) jp rfl) (zq (Q.len gz rfl hm.len) (zq (aa rfl rfl rfl (fi fv)) (zk (aw rfl (fun hc93 => ?_) (fun hc93 => ?_)))))))))
 ·obtain ⟨bm, szm, exm, rfl, wm, mm⟩ := hm.full zy
  obtain ⟨bm2, szm2, exm2, rfl, wm2, mm2⟩ := hm'.full zy
  refine zw (W.seq (W.block (W.seq (dD (by kernel_rfl) (zf dr rfl 3 (zq (ag rfl (zt 1 rfl) jp rfl) (zm rfl (zq (aQ gz jt rfl rfl zo) (zq (aD rfl (List.mem_cons_of_mem _ (List.mem_cons_of_mem _ mm)) tU jt (nF zo)) (zf dr rfl 3 (zq (ag rfl (zt 0 rfl) jp rfl) (zm rfl (zq (aQ gz jt rfl rfl zo) (zq (aD rfl (List.mem_cons_of_mem _ (List.mem_cons_of_mem _ mm2)) tU jt (nF zo)) (zq (aa rfl rfl rfl CB) (zk (W.sub (zc 106 rfl (zc 2 rfl (zc 3 rfl (zc 5 rfl bE)))) (aN rfl (W.skip (End.KB (End.K (ay (zm rfl (zq (aa rfl (zi 1) rfl zp) ?_))))))))))))))))))))))))
  refine za rfl (WO.nil (End.KL (W.sub zv (bG gc (ih0 (i + 1) ?_ ?_)))))
  ·exact zy
  exact zo
 refine W.exit (aJ (aM (aI (End.K (W.seq (zr (za (zi 0) (zk (W.block (az (fun (i : Nat) => [(2, .ptr b1 0), (3, .ptr b2 0), (6, .int .i64 ((i : Nat) : Int))]) (fun (i : Nat) => (⟨b2, ⟨11, true, d.c vm' vn' vk'⟩, true⟩ :: ⟨b1, ⟨11, true, d.c vm vn vk⟩, true⟩ :: hs)) (fun (i : Nat) => i <= d.nm.length) (fun (i : Nat) => d.nm.length - i) (0) (Nat.zero_le _) zv (SubH.refl _) (fun i hI1 ih1 => ?_)))))))))))
 have h1 := hI1
 refine W.seq (zr (zm rfl (zf dt rfl 7 (zq (ag rfl (zt 1 rfl) jq rfl) (zq (Q.len gA rfl hn.len) (zq (aa rfl rfl rfl (fi fv)) (zk (aw rfl (fun hc111 => ?_) (fun hc111 => ?_)))))))))
 ·obtain ⟨bn, szn, exn, rfl, wn, mn⟩ := hn.full zy
  obtain ⟨bn2, szn2, exn2, rfl, wn2, mn2⟩ := hn'.full zy
  refine zw (W.seq (W.block (W.seq (dD (by kernel_rfl) (zf dt rfl 7 (zq (ag rfl (zt 1 rfl) jq rfl) (zm rfl (zq (aQ gA yO rfl rfl zo) (zq (ag rfl (List.mem_cons_of_mem _ (List.mem_cons_of_mem _ mn)) sN (nG zo)) (zf dt rfl 7 (zq (ag rfl (zt 0 rfl) jq rfl) (zm rfl (zq (aQ gA yO rfl rfl zo) (zq (ag rfl (List.mem_cons_of_mem _ (List.mem_cons_of_mem _ mn2)) sN (nG zo)) (zq (aa rfl rfl rfl vo) (zk (W.sub (zc 124 rfl (zc 2 rfl (zc 3 rfl (zc 6 rfl bE)))) (aN rfl (W.skip (End.KB (End.K (ay (zm rfl (zq (aa rfl (zi 1) rfl zp) ?_))))))))))))))))))))))))
  refine za rfl (WO.nil (End.KL (W.sub zv (bG gc (ih1 (i + 1) ?_ ?_)))))
  ·exact zy
  exact zo
 refine W.exit (aJ (aM (aI (End.K (W.seq (zr (za (zi 0) (zk (W.block (az (fun (i : Nat) => [(2, .ptr b1 0), (3, .ptr b2 0), (7, .int .i64 ((i : Nat) : Int))]) (fun (i : Nat) => (⟨b2, ⟨11, true, d.c vm' vn' vk'⟩, true⟩ :: ⟨b1, ⟨11, true, d.c vm vn vk⟩, true⟩ :: hs)) (fun (i : Nat) => i <= ks.length) (fun (i : Nat) => ks.length - i) (0) (Nat.zero_le _) zv (SubH.refl _) (fun i hI2 ih2 => ?_)))))))))))
 have h1 := hI2
 refine W.seq (zr (zm rfl (zf cG rfl 10 (zq (ag rfl (zt 1 rfl) jN rfl) (zq (Q.len km rfl hk.len) (zq (aa rfl rfl rfl (fi fv)) (zk (aw rfl (fun hc129 => ?_) (fun hc129 => ?_)))))))))
 ·obtain ⟨bk, szk, exk, rfl, wk, mk⟩ := hk.full zy
  obtain ⟨bk2, szk2, exk2, rfl, wk2, mk2⟩ := hk'.full zy
  obtain ⟨c1, hc1, hT1⟩ := hR.at (wG (i := i) zy)
  obtain ⟨c2, hc2, hT2⟩ := hR'.at (wG (i := i) zy)
  obtain ⟨d1, um, un, uk, rfl, qm, qn, qk, qo⟩ := pO hT1
  obtain ⟨d2, um2, un2, uk2, rfl, qm2, qn2, qk2, qo2⟩ := pO hT2
  refine zw (W.seq (W.block (W.seq (dD (by kernel_rfl) (zf cG rfl 10 (zq (ag rfl (zt 1 rfl) jN rfl) (zm rfl (zq (aQ km iu rfl rfl zo) (zq (aD rfl (List.mem_cons_of_mem _ (List.mem_cons_of_mem _ mk)) jD iu (by rw [Nat.zero_add]; exact iP hR.lens hc1)) (zf cG rfl 10 (zq (ag rfl (zt 0 rfl) jN rfl) (zm rfl (zq (aQ km iu rfl rfl zo) (zq (aD rfl (List.mem_cons_of_mem _ (List.mem_cons_of_mem _ mk2)) jD iu (by rw [Nat.zero_add]; exact iP hR'.lens hc2)) (aB rfl (aY rfl (aY rfl oz)) rfl (ih _ (BB zy) _ _ hT1 hT2) (SubR.t (SubR.t (aZ hro))) rfl (zq (Q.not rfl rfl) (zk (W.sub (zc 143 rfl (zc 2 rfl (zc 3 rfl (zc 7 rfl bE)))) (aN rfl (W.skip (End.KB (End.K (ay (zm rfl ?_))))))))))))))))))))))))
  refine zq (aa rfl (zi 1) rfl zp) (za rfl (WO.nil (End.KL (W.sub zv (bG gc (ih2 (i + 1) ?_ ?_))))))
  ·exact zy
  exact zo
 refine W.exit (aJ (aM (aI (End.K (zr (za rfl (zk (W.ret (ab (z1 rfl) ?_)))))))))
 rfl
mutual
theorem n8 (hs : ad) (hro : ∀ e ∈ hs, e.w = false) : ∀ (t : TD) (c c' : List AV), TRep hs t c -> TRep hs t c' -> Spec aW 29 [.agg c, .agg c'] [] hs (eW (.bool true))
 | .node d ks, c, c', h, h' => by
  rw [TRep] at h h'
  obtain ⟨vm, vn, vk, cs, rfl, h1, h2, h3, h4, h5, h6⟩ := h
  obtain ⟨vm', vn', vk', cs', rfl, g1, g2, g3, _, _, g6⟩ := h'
  exact uJ hs hro d ks vm vn vk vm' vn' vk' cs cs' h1 h2 h3 h4 h5 h6 g1 g2 g3 g6 (mZ hs hro ks)
theorem mZ (hs : ad) (hro : ∀ e ∈ hs, e.w = false) : ∀ (ks : List TD), ∀ k ∈ ks, ∀ c c', TRep hs k c -> TRep hs k c' -> Spec aW 29 [.agg c, .agg c'] [] hs (eW (.bool true))
 | [], k, h, _, _, _, _ => by cases h
 | x :: ks, k, h, c, c', h1, h2 => by
  rcases List.mem_cons.1 h with e | h
  ·exact n8 hs hro x c c' (e ▸ h1) (e ▸ h2)
  ·exact mZ hs hro ks k h c c' h1 h2
end
open Go.RowKit Go.ChangeShapes Go.WideShapes
theorem fV {H : Type} {P : Program} {w : World} {b off i sz : Nat} {cs : List Value} (h : w.cells? 0 ((⟨b, off, none⟩ : Addr).add (i * sz)) sz = some cs) : cs.length = sz /\ ∀ j, j < sz -> w.cell? ⟨b, off + (i * sz + j), none⟩ = cs[j]? := by
 obtain ⟨_, h2, h3⟩ := World.cells?_some h
 refine ⟨h2, fun j hj => ?_⟩
 have := h3 j hj
 rw [Deep.add_add, dJ] at this
 exact this
section
variable {H : Type} {enc : TypeId × Value -> H} {P : Program} {w : World} {held : Bool}
theorem so {α : Type} [Inhabited α] {f : α -> List AV} {sz : Nat} {pJ : α -> Prop} {t e : TypeId} {n : Nat} {u : Value} {D : DataW H} {Pl : List MemPlace} (ht : P.underlying t = some (.slice e)) (ce : P.cellsOf e = sz) (hz : 0 < sz) (hf : ∀ x, (f x).length = sz)
  (hel : ∀ (n : Nat) (cs : List Value) (d : DataW H) (p : List MemPlace), DataW.trod enc P w 0 (fun _ => true) held n e cs = some (d, p) -> Rows.uptoBulk d <= 1048576 -> ∃ x : α, pJ x /\ ∀ (M : Inj) (j : Nat) (v : AV), (f x)[j]? = some v -> v.isCell = true /\ ∃ u, cs[j]? = some u /\ VRel M v u)
  (h : DataW.trod enc P w 0 (fun _ => true) held n t [u] = some (D, Pl)) (hb : Rows.uptoBulk D <= 1048576) (B : Nat) (hB : ∃ c e fr, w.heap[B]? = some (.cells c e fr)) (k : Nat) :
  ∃ (X : List α) (va : AV) (x : InB), ((va = .nils /\ X = []) \/ (va = .slice k 0 X.length sz /\ x.cells = X.flatMap f)) /\ X.length <= 1048576 /\ (∀ y ∈ X, pJ y) /\ ∀ M : Inj, M k = some x.bi -> VRel M va u /\ fQ w M x := by
 obtain ⟨cB, eB, fB, hB⟩ := hB
 rcases Deep.open_slice ht h with ⟨h1, h2⟩ | ⟨a, len, cap, m, n', Dd, Pd, h1, hb0, hle, hcap, hm, hx, hcell⟩
 ·simp only [List.cons.injEq, and_true] at h1
  subst h1
  exact ⟨[], .nils, ⟨⟨B, 0, 0, sz, undef⟩, true, []⟩, .inl ⟨rfl, rfl⟩, by simp, fun x hx => by simp at hx, fun M hM => ⟨.nils, rfl, rfl, cB, eB, fB, hB, fun k v hv => by simp at hv⟩⟩
 ·simp only [List.cons.injEq, and_true] at h1
  subst h1
  have hm : m = cap := hm
  subst hm
  simp only [Prod.mk.injEq] at hx
  obtain ⟨hD, _⟩ := hx
  have hbd : Rows.uptoBulkAll ((List.range len).map Dd) <= 1048576 := by
   rw [hD] at hb
   simp only [Rows.uptoBulk] at hb
   omega
  have hlen : len <= 1048576 := by
   have := vi ((List.range len).map Dd)
   simp only [List.length_map, List.length_range] at this
   omega
  by_cases hc : m = 0
  ·subst hc
   obtain rfl : len = 0 := by omega
   exact ⟨[], .slice k 0 0 sz, ⟨⟨B, 0, 0, sz, undef⟩, true, []⟩, .inr ⟨rfl, rfl⟩, by simp, fun x hx => by simp at hx, fun M hM => ⟨.slice k 0 0 0 a ⟨B, 0, 0, sz, undef⟩ hM rfl (Nat.le_refl _) (.inr rfl) rfl, rfl, rfl, cB, eB, fB, hB, fun k v hv => by simp at hv⟩⟩
  obtain ⟨b, off, spot⟩ := a
  have hspot : spot = none := by
   obtain ⟨cs0, g1, _⟩ := hcell 0 zy
   rw [ce] at g1
   obtain ⟨_, g2, g3⟩ := World.cells?_some g1
   have g4 := g3 0 hz
   rw [List.getElem?_eq_getElem zy] at g4
   simpa [Addr.add] using World.cell?_spot g4
  subst hspot
  have hq : ∀ i, i < len -> ∃ q : List Value × α, q.1.length = sz /\ (∀ j, j < sz -> w.cell? ⟨b, off + (i * sz + j), none⟩ = q.1[j]?) /\ pJ q.2 /\ ∀ (M : Inj) (j : Nat) (v : AV), (f q.2)[j]? = some v -> v.isCell = true /\ ∃ u, q.1[j]? = some u /\ VRel M v u := fun i hi => by
   obtain ⟨cs, g1, g2⟩ := hcell i zy
   rw [ce] at g1
   obtain ⟨g3, g4⟩ := fV (H := H) (P := P) g1
   have hp := gS (List.mem_map.2 ⟨i, by simpa using hi, rfl⟩ : Dd i ∈ (List.range len).map Dd)
   obtain ⟨x, g5, g6⟩ := hel _ _ _ _ g2 zy
   exact ⟨(cs, x), g3, g4, g5, g6⟩
  obtain ⟨q, hq⟩ := Deep.choose_lt hq
  have hX : ((List.range len).map fun i => (q i).2).length = len := by simp
  have hXi : ∀ i, i < len -> ((List.range len).map fun i => (q i).2)[i]? = some (q i).2 := fun i hi => by simp [hi]
  refine ⟨(List.range len).map fun i => (q i).2, .slice k 0 len sz, ⟨⟨b, off, m, sz, undef⟩, true, ((List.range len).map fun i => (q i).2).flatMap f⟩, .inr ⟨by rw [hX], rfl⟩, by omega, fun y hy => ?_, fun M hM => ⟨.slice k 0 len m _ ⟨b, off, m, sz, undef⟩ hM (Nat.zero_add _) hle (.inl (by simp)) rfl, rfl, rfl, ?_⟩⟩
  ·obtain ⟨i, hi, rfl⟩ := List.mem_map.1 hy
   exact (hq i (by simpa using hi)).2.2.1
  ·obtain ⟨cs0, g1, _⟩ := hcell 0 zy
   rw [ce] at g1
   obtain ⟨g2, g3⟩ := fV (H := H) (P := P) g1
   have g4 := g3 0 hz
   rw [List.getElem?_eq_getElem zy] at g4
   obtain ⟨c, e, fr, g5, _⟩ := fU g4
   refine ⟨c, e, fr, g5, fun j v hv => ?_⟩
   have hv : (((List.range len).map fun i => (q i).2).flatMap f)[j]? = some v := hv
   have hj : j < len * sz := by
    have := (List.getElem?_eq_some_iff.1 hv).1
    rw [iQ hf, hX] at this
    exact this
   have hi : j / sz < len := Nat.div_lt_of_lt_mul (by rw [Nat.mul_comm]; exact hj)
   have hr : j % sz < sz := Nat.mod_lt _ hz
   have ej : j / sz * sz + j % sz = j := by rw [Nat.mul_comm]; exact Nat.div_add_mod j sz
   have h3 := o4 hf _ (j / sz) (j % sz) _ (hXi _ hi) hr
   rw [ej, hv] at h3
   obtain ⟨k1, k2, _, k4⟩ := hq _ hi
   obtain ⟨h4, u, h5, h6⟩ := k4 M _ _ h3.symm
   have h7 := k2 _ hr
   rw [h5, ej] at h7
   obtain ⟨c', e', fr', h8, h9⟩ := fU h7
   rw [g5] at h8
   cases h8
   exact ⟨h4, u, h9, h6⟩
theorem Ce {e : TypeId} (he : P.underlying e = some .string) : ∀ (n : Nat) (cs : List Value) (d : DataW H) (p : List MemPlace), DataW.trod enc P w 0 (fun _ => true) held n e cs = some (d, p) -> Rows.uptoBulk d <= 1048576 -> ∃ x : List Nat, Bytes x /\ ∀ (M : Inj) (j : Nat) (v : AV), [AV.str x][j]? = some v -> v.isCell = true /\ ∃ u, cs[j]? = some u /\ VRel M v u := by
 intro n cs d p h _
 obtain ⟨s, rfl, _⟩ := DataW.trod_string he h
 refine ⟨lv (.string s), jn s, fun M j v hv => ?_⟩
 match j with
 | 0 => simp at hv; subst hv; exact ⟨rfl, _, rfl, lP⟩
 | j + 1 => simp at hv
theorem BW {e : TypeId} (he : P.underlying e = some (.int .i64)) : ∀ (n : Nat) (cs : List Value) (d : DataW H) (p : List MemPlace), DataW.trod enc P w 0 (fun _ => true) held n e cs = some (d, p) -> Rows.uptoBulk d <= 1048576 -> ∃ x : Int, yN x /\ ∀ (M : Inj) (j : Nat) (v : AV), [AV.int .i64 x][j]? = some v -> v.isCell = true /\ ∃ u, cs[j]? = some u /\ VRel M v u := by
 intro n cs d p h _
 obtain ⟨z, rfl, _, hz⟩ := DataW.trod_int he h
 simp only [Lit.wf, Bool.and_eq_true, decide_eq_true_eq] at hz
 refine ⟨z, hz, fun M j v hv => ?_⟩
 match j with
 | 0 => simp at hv; subst hv; exact ⟨rfl, _, rfl, .int _ _⟩
 | j + 1 => simp at hv
theorem CN {e : TypeId} {f0 f1 f2 : Field} (he : P.underlying e = some (.struct #[f0, f1, f2])) (o0 : f0.offset = 0) (o1 : f1.offset = 1) (o2 : f2.offset = 2) (c0 : P.cellsOf f0.type = 1) (c1 : P.cellsOf f1.type = 1) (c2 : P.cellsOf f2.type = 1) (ce : P.cellsOf e = 3)
  (s0 : P.underlying f0.type = some (.int .i64)) (s1 : P.underlying f1.type = some .string) (s2 : P.underlying f2.type = some .string) : ∀ (n : Nat) (cs : List Value) (d : DataW H) (p : List MemPlace), DataW.trod enc P w 0 (fun _ => true) held n e cs = some (d, p) -> Rows.uptoBulk d <= 1048576 ->
  ∃ x : Mt, (Bytes x.2.1 /\ Bytes x.2.2) /\ ∀ (M : Inj) (j : Nat) (v : AV), (mC x)[j]? = some v -> v.isCell = true /\ ∃ u, cs[j]? = some u /\ VRel M v u := by
 intro n cs d p h _
 obtain ⟨y0, y1, y2, n', _, hl, g0, g1, g2⟩ := Deep.trod_struct3 he h
 rw [ce] at hl
 match cs, hl with
 | [v0, v1, v2], _ =>
  rw [o0, c0] at g0
  rw [o1, c1] at g1
  rw [o2, c2] at g2
  obtain ⟨z, e0, _⟩ := DataW.trod_int s0 g0
  obtain ⟨a, e1, _⟩ := DataW.trod_string s1 g1
  obtain ⟨b, e2, _⟩ := DataW.trod_string s2 g2
  simp at e0 e1 e2
  subst e0 e1 e2
  refine ⟨(z, lv (.string a), lv (.string b)), ⟨jn a, jn b⟩, fun M j v hv => ?_⟩
  match j with
  | 0 => simp [mC] at hv; subst hv; exact ⟨rfl, _, rfl, .int _ _⟩
  | 1 => simp [mC] at hv; subst hv; exact ⟨rfl, _, rfl, lP⟩
  | 2 => simp [mC] at hv; subst hv; exact ⟨rfl, _, rfl, lP⟩
  | j + 3 => simp [mC] at hv
end
theorem mD {α : Type} (g : α -> AV) : ∀ l : List α, (l.flatMap fun x => [g x]) = l.map g
 | [] => rfl
 | x :: l => by rw [List.flatMap_cons, mD g l]; rfl
theorem cJ {H : Type} {enc : TypeId × Value -> H} {P : Program} {w : World} {n : Nat} {fs : Array Field} {cs : List Value} {xs : List (DataW H × List MemPlace)}
  (hF : ∀ (i : Nat) (f : Field), fs[i]? = some f -> DataW.trod enc P w 0 (fun _ => true) true n f.type ((cs.drop f.offset).take (P.cellsOf f.type)) = xs[i]?) (i : Nat) {f : Field} (hf : fs[i]? = some f) (ho : f.offset = i) (hc : P.cellsOf f.type = 1) {c : Value} {y : DataW H × List MemPlace}
  (hci : cs[i]? = some c) (hx : xs[i]? = some y) : DataW.trod enc P w 0 (fun _ => true) true n f.type [c] = some y := by
 have h := hF i f hf
 rw [ho, hc, hx] at h
 have e : (cs.drop i).take 1 = [c] := by
  rw [List.take_one, List.head?_drop, hci]; rfl
 rwa [e] at h
theorem wO {α : Type} {l : List α} (h : l.length = 11) : ∃ c0 c1 c2 c3 c4 c5 c6 c7 c8 c9 c10, l = [c0, c1, c2, c3, c4, c5, c6, c7, c8, c9, c10] := by
 match l, h with
 | [c0, c1, c2, c3, c4, c5, c6, c7, c8, c9, c10], _ => exact ⟨c0, c1, c2, c3, c4, c5, c6, c7, c8, c9, c10, rfl⟩
theorem BH {α : Type} {l : List α} (h : l.length = 12) : ∃ c0 c1 c2 c3 c4 c5 c6 c7 c8 c9 c10 c11, l = [c0, c1, c2, c3, c4, c5, c6, c7, c8, c9, c10, c11] := by
 match l, h with
 | [c0, c1, c2, c3, c4, c5, c6, c7, c8, c9, c10, c11], _ => exact ⟨c0, c1, c2, c3, c4, c5, c6, c7, c8, c9, c10, c11, rfl⟩
def RowI (k : Nat) {α : Type} (sz : Nat) (f : List α -> List AV) (X : List α) (va : AV) (x : InB) : Prop := (va = .nils /\ X = []) \/ (va = .slice k 0 X.length sz /\ x.cells = f X)
theorem RowI.cell {k sz : Nat} {α : Type} {f : List α -> List AV} {X : List α} {va : AV} {x : InB} (h : RowI k sz f X va x) : va.isCell = true := by
 rcases h with ⟨rfl, _⟩ | ⟨rfl, _⟩ <;> rfl
theorem RowI.rin {k sz : Nat} {α : Type} {f : List α -> List AV} {X : List α} {va : AV} {x : InB} {hs : ad} (h : RowI k sz f X va x) (hf : (f X).length = X.length * sz) (hm : MemH hs k ⟨0, false, x.cells⟩) : RIn hs sz X.length (f X) va := by
 rcases h with ⟨rfl, rfl⟩ | ⟨rfl, h2⟩
 ·refine .inl ⟨rfl, rfl, ?_⟩
  have : (f []).length = 0 := by rw [hf]; simp
  exact List.length_eq_zero_iff.1 this
 ·exact .inr ⟨k, 0, false, rfl, by rw [<- h2]; exact hm, hf⟩
section
variable {H : Type} {enc : TypeId × Value -> H} {W : World}
end
end Go.Proofs.YtndhhgbpcmfeiaaGreatDoor.Ev
