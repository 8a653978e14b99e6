/- Chapter 20, walks: a tree is the same as itself. -/
import Derived.Test.YtndhhgbpcmfeiaaGreatDoorGGh
namespace Go.Proofs.YtndhhgbpcmfeiaaGreatDoor.Ev
open Go.RowKit
set_option linter.unusedVariables false
set_option linter.unusedSimpArgs false
set_option maxRecDepth 100000
set_option maxHeartbeats 1000000
theorem bs_int {k : IntKind} {a : Int} {t : TypeId} {tb : Tab} : evBin tb .neq t (.int k a) (.int k a) = some (.bool false) := bv_neq (by rw [ne_int]; simp)
theorem bs_str {x : List Nat} {t : TypeId} {tb : Tab} : evBin tb .neq t (.str x) (.str x) = some (.bool false) := by rw [bv_sneq]; simp
theorem bs_bool {tb : Tab} {t : TypeId} (h : tb.und t = some .bool) {b : Bool} : evBin tb .neq t (.bool b) (.bool b) = some (.bool false) := by rw [bv_bne h]; cases b <;> rfl
theorem bs_mt {m : Mt} : evBin tab .neq 91 (.agg (mC m)) (.agg (mC m)) = some (.bool false) := by
  obtain ⟨k, a, b⟩ := m
  have h1 : eqA k k = true := by rw [eq_int]; simp
  have h2 : listBeq a a = true := by rw [eq_str]; simp
  have h3 : listBeq b b = true := by rw [eq_str]; simp
  show (match eqTop tab 91 (.agg [.int .i64 k, .str a, .str b]) (.agg [.int .i64 k, .str a, .str b]) with
    | some b => some (AV.bool (!b))
    | none => none) = _
  have e : eqTop tab 91 (.agg [.int .i64 k, .str a, .str b]) (.agg [.int .i64 k, .str a, .str b]) = (match eqA k k with | true => (match listBeq a a with | true => (match listBeq b b with | true => some true | false => some false) | false => some false) | false => some false) := by kernel_rfl
  rw [e, h1, h2, h3]; rfl
def mi (l : List Mt) (i : Nat) : Mt := l.getD i default
theorem mi_at {l : List Mt} {i : Nat} (h : i < l.length) : l[i]? = some (mi l i) := by
  unfold mi
  rw [List.getD_eq_getElem?_getD, List.getElem?_eq_getElem h]; rfl
theorem cM_at {l : List Mt} {i : Nat} (h : i < l.length) : sub? (cM l) ((0 + i) * 3) 3 = some (mC (mi l i)) := by
  rw [Nat.zero_add]; exact flat_sub (f := mC) (fun _ => rfl) l i _ (mi_at h)
def si (l : List (List Nat)) (i : Nat) : List Nat := l.getD i []
theorem si_at {l : List (List Nat)} {i : Nat} (h : i < l.length) : l[i]? = some (si l i) := by
  unfold si
  rw [List.getD_eq_getElem?_getD, List.getElem?_eq_getElem h]; rfl
theorem cS_at {l : List (List Nat)} {i : Nat} (h : i < l.length) : (cS l)[(0 + i) * 1]? = some (.str (si l i)) := by
  rw [Nat.zero_add, Nat.mul_one, cS, List.getElem?_map, si_at h]; rfl
def kd (l : List TD) (i : Nat) : TD := l.getD i zeroT
theorem kd_at {l : List TD} {i : Nat} (h : i < l.length) : l[i]? = some (kd l i) := by
  unfold kd
  rw [List.getD_eq_getElem?_getD, List.getElem?_eq_getElem h]; rfl
theorem kd_mem {l : List TD} {i : Nat} (h : i < l.length) : kd l i ∈ l := List.mem_of_getElem? (kd_at h)
theorem ag9 : tab.isAgg 9 = some false := by kernel_rfl
theorem ag91 : tab.isAgg 91 = some true := by kernel_rfl
theorem fa26_0 : FA tab 26 0 = some (0, 0 + 1) := by kernel_rfl
theorem fa26_1 : FA tab 26 1 = some (1, 0 + 1) := by kernel_rfl
theorem fa26_2 : FA tab 26 2 = some (2, 0 + 1) := by kernel_rfl
theorem fa26_4 : FA tab 26 4 = some (4, 0 + 1) := by kernel_rfl
theorem fa26_5 : FA tab 26 5 = some (5, 0 + 1) := by kernel_rfl
theorem fa26_6 : FA tab 26 6 = some (6, 0 + 1) := by kernel_rfl
theorem fa26_8 : FA tab 26 8 = some (8, 0 + 1) := by kernel_rfl
theorem fa26_9 : FA tab 26 9 = some (9, 0 + 1) := by kernel_rfl
theorem ud4 : tab.und 4 = some .bool := by kernel_rfl
theorem same_step (hs : HSt) (hro : ∀ e ∈ hs, e.w = false) (d : ND) (ks : List TD) (vm vn vk vm' vn' vk' : AV) (cs cs' : List (List AV))
  (hm : RIn hs 3 d.ms.length (cM d.ms) vm) (hn : RIn hs 1 d.nm.length (cS d.nm) vn) (hk : RIn hs 11 ks.length (cs.flatMap id) vk) (hd : d.bd) (hks : ks.length ≤ 1048576) (hR : TReps hs ks cs)
  (hm' : RIn hs 3 d.ms.length (cM d.ms) vm') (hn' : RIn hs 1 d.nm.length (cS d.nm) vn') (hk' : RIn hs 11 ks.length (cs'.flatMap id) vk') (hR' : TReps hs ks cs')
  (ih : ∀ k ∈ ks, ∀ c c', TRep hs k c → TRep hs k c' → Spec tab 29 [.agg c, .agg c'] [] hs (Val (.bool true))) : Spec tab 29 [.agg (d.c vm vn vk), (.agg (d.c vm' vn' vk'))] [] hs (Val (.bool true)) := by
  have hd1 := hd.2.1.1
  have hd2 := hd.2.2.1
  refine Spec.enter' (ft_get 29 Tryz.func29) rfl (m := 144) rfl (rs := [.tmp 4]) rfl (st := [(0, .agg (d.c vm vn vk)), (1, (.agg (d.c vm' vn' vk')))]) rfl rfl (fun _ => rfl) (fun E => ?_)
  refine W.seq ?_
  refine W.reg ?_
  refine WO.box rfl (nd_cells hm.cell hn.cell hk.cell) (bx26 _ rfl) rfl (fun b1 => ?_)
  refine WO.box rfl (nd_cells hm'.cell hn'.cell hk'.cell) (bx26 _ rfl) rfl (fun b2 => ?_)
  refine WO.q (Q.assign rfl) rfl ?_
  refine WO.nil ?_
  refine End.K ?_
  refine W.seq ?_
  refine W.seq ?_
  refine W.reg ?_
  refine WO.q (Q.fieldAddr fa26_0 rfl (o' := 0) rfl) rfl ?_
  refine WO.q (Q.load1 rfl (mem_at (i := 1) rfl) ag3 rfl) rfl ?_
  refine WO.q (Q.fieldAddr fa26_0 rfl (o' := 0) rfl) rfl ?_
  refine WO.q (Q.load1 rfl (mem_at (i := 0) rfl) ag3 rfl) rfl ?_
  refine WO.q (Q.bin rfl rfl rfl bs_int) rfl ?_
  refine WO.q (Q.move rfl) rfl ?_
  refine WO.gT rfl rfl ?_
  refine WO.q (Q.fieldAddr fa26_1 rfl (o' := 1) rfl) rfl ?_
  refine WO.gT rfl rfl ?_
  refine WO.q (Q.load1 rfl (mem_at (i := 1) rfl) ag9 rfl) rfl ?_
  refine WO.gT rfl rfl ?_
  refine WO.q (Q.fieldAddr fa26_1 rfl (o' := 1) rfl) rfl ?_
  refine WO.gT rfl rfl ?_
  refine WO.q (Q.load1 rfl (mem_at (i := 0) rfl) ag9 rfl) rfl ?_
  refine WO.gT rfl rfl ?_
  refine WO.q (Q.bin rfl rfl rfl bs_str) rfl ?_
  refine WO.q (Q.pickF rfl rfl) rfl ?_
  refine WO.q (Q.move rfl) rfl ?_
  refine WO.gT rfl rfl ?_
  refine WO.q (Q.fieldAddr fa26_2 rfl (o' := 2) rfl) rfl ?_
  refine WO.gT rfl rfl ?_
  refine WO.q (Q.load1 rfl (mem_at (i := 1) rfl) ag3 rfl) rfl ?_
  refine WO.gT rfl rfl ?_
  refine WO.q (Q.fieldAddr fa26_2 rfl (o' := 2) rfl) rfl ?_
  refine WO.gT rfl rfl ?_
  refine WO.q (Q.load1 rfl (mem_at (i := 0) rfl) ag3 rfl) rfl ?_
  refine WO.gT rfl rfl ?_
  refine WO.q (Q.bin rfl rfl rfl bs_int) rfl ?_
  refine WO.q (Q.pickF rfl rfl) rfl ?_
  refine WO.q (Q.move rfl) rfl ?_
  refine WO.gT rfl rfl ?_
  refine WO.q (Q.fieldAddr fa26_4 rfl (o' := 4) rfl) rfl ?_
  refine WO.gT rfl rfl ?_
  refine WO.q (Q.load1 rfl (mem_at (i := 1) rfl) ag3 rfl) rfl ?_
  refine WO.gT rfl rfl ?_
  refine WO.q (Q.fieldAddr fa26_4 rfl (o' := 4) rfl) rfl ?_
  refine WO.gT rfl rfl ?_
  refine WO.q (Q.load1 rfl (mem_at (i := 0) rfl) ag3 rfl) rfl ?_
  refine WO.gT rfl rfl ?_
  refine WO.q (Q.bin rfl rfl rfl bs_int) rfl ?_
  refine WO.q (Q.pickF rfl rfl) rfl ?_
  refine WO.q (Q.move rfl) rfl ?_
  refine WO.gT rfl rfl ?_
  refine WO.q (Q.fieldAddr fa26_5 rfl (o' := 5) rfl) rfl ?_
  refine WO.gT rfl rfl ?_
  refine WO.q (Q.load1 rfl (mem_at (i := 1) rfl) ag3 rfl) rfl ?_
  refine WO.gT rfl rfl ?_
  refine WO.q (Q.fieldAddr fa26_5 rfl (o' := 5) rfl) rfl ?_
  refine WO.gT rfl rfl ?_
  refine WO.q (Q.load1 rfl (mem_at (i := 0) rfl) ag3 rfl) rfl ?_
  refine WO.gT rfl rfl ?_
  refine WO.q (Q.bin rfl rfl rfl bs_int) rfl ?_
  refine WO.q (Q.pickF rfl rfl) rfl ?_
  refine WO.q (Q.move rfl) rfl ?_
  refine WO.gT rfl rfl ?_
  refine WO.q (Q.fieldAddr fa26_6 rfl (o' := 6) rfl) rfl ?_
  refine WO.gT rfl rfl ?_
  refine WO.q (Q.load1 rfl (mem_at (i := 1) rfl) ag3 rfl) rfl ?_
  refine WO.gT rfl rfl ?_
  refine WO.q (Q.fieldAddr fa26_6 rfl (o' := 6) rfl) rfl ?_
  refine WO.gT rfl rfl ?_
  refine WO.q (Q.load1 rfl (mem_at (i := 0) rfl) ag3 rfl) rfl ?_
  refine WO.gT rfl rfl ?_
  refine WO.q (Q.bin rfl rfl rfl bs_int) rfl ?_
  refine WO.q (Q.pickF rfl rfl) rfl ?_
  refine WO.q (Q.move rfl) rfl ?_
  refine WO.gT rfl rfl ?_
  refine WO.q (Q.fieldAddr fa26_8 rfl (o' := 8) rfl) rfl ?_
  refine WO.gT rfl rfl ?_
  refine WO.q (Q.load1 rfl (mem_at (i := 1) rfl) ag3 rfl) rfl ?_
  refine WO.gT rfl rfl ?_
  refine WO.q (Q.fieldAddr fa26_8 rfl (o' := 8) rfl) rfl ?_
  refine WO.gT rfl rfl ?_
  refine WO.q (Q.load1 rfl (mem_at (i := 0) rfl) ag3 rfl) rfl ?_
  refine WO.gT rfl rfl ?_
  refine WO.q (Q.bin rfl rfl rfl bs_int) rfl ?_
  refine WO.q (Q.pickF rfl rfl) rfl ?_
  refine WO.q (Q.move rfl) rfl ?_
  refine WO.gT rfl rfl ?_
  refine WO.q (Q.fieldAddr fa26_9 rfl (o' := 9) rfl) rfl ?_
  refine WO.gT rfl rfl ?_
  refine WO.q (Q.load1 rfl (mem_at (i := 1) rfl) ag4 rfl) rfl ?_
  refine WO.gT rfl rfl ?_
  refine WO.q (Q.fieldAddr fa26_9 rfl (o' := 9) rfl) rfl ?_
  refine WO.gT rfl rfl ?_
  refine WO.q (Q.load1 rfl (mem_at (i := 0) rfl) ag4 rfl) rfl ?_
  refine WO.gT rfl rfl ?_
  refine WO.q (Q.bin rfl rfl rfl (bs_bool ud4)) rfl ?_
  refine WO.q (Q.pickF rfl rfl) rfl ?_
  refine WO.q (Q.move rfl) rfl ?_
  refine WO.gT rfl rfl ?_
  refine WO.q (Q.fieldAddr fa26_3 rfl (o' := 3) rfl) rfl ?_
  refine WO.gT rfl rfl ?_
  refine WO.q (Q.load1 rfl (mem_at (i := 1) rfl) ag22 rfl) rfl ?_
  refine WO.gT rfl rfl ?_
  refine WO.q (Q.len ud22 rfl hm.len) rfl ?_
  refine WO.gT rfl rfl ?_
  refine WO.q (Q.fieldAddr fa26_3 rfl (o' := 3) rfl) rfl ?_
  refine WO.gT rfl rfl ?_
  refine WO.q (Q.load1 rfl (mem_at (i := 0) rfl) ag22 rfl) rfl ?_
  refine WO.gT rfl rfl ?_
  refine WO.q (Q.len ud22 rfl hm'.len) rfl ?_
  refine WO.gT rfl rfl ?_
  refine WO.q (Q.bin rfl rfl rfl bs_int) rfl ?_
  refine WO.q (Q.pickF rfl rfl) rfl ?_
  refine WO.q (Q.move rfl) rfl ?_
  refine WO.gT rfl rfl ?_
  refine WO.q (Q.fieldAddr fa26_7 rfl (o' := 7) rfl) rfl ?_
  refine WO.gT rfl rfl ?_
  refine WO.q (Q.load1 rfl (mem_at (i := 1) rfl) ag23 rfl) rfl ?_
  refine WO.gT rfl rfl ?_
  refine WO.q (Q.len ud23 rfl hn.len) rfl ?_
  refine WO.gT rfl rfl ?_
  refine WO.q (Q.fieldAddr fa26_7 rfl (o' := 7) rfl) rfl ?_
  refine WO.gT rfl rfl ?_
  refine WO.q (Q.load1 rfl (mem_at (i := 0) rfl) ag23 rfl) rfl ?_
  refine WO.gT rfl rfl ?_
  refine WO.q (Q.len ud23 rfl hn'.len) rfl ?_
  refine WO.gT rfl rfl ?_
  refine WO.q (Q.bin rfl rfl rfl bs_int) rfl ?_
  refine WO.q (Q.pickF rfl rfl) rfl ?_
  refine WO.q (Q.move rfl) rfl ?_
  refine WO.gT rfl rfl ?_
  refine WO.q (Q.fieldAddr fa26_10 rfl (o' := 10) rfl) rfl ?_
  refine WO.gT rfl rfl ?_
  refine WO.q (Q.load1 rfl (mem_at (i := 1) rfl) ag24 rfl) rfl ?_
  refine WO.gT rfl rfl ?_
  refine WO.q (Q.len ud24 rfl hk.len) rfl ?_
  refine WO.gT rfl rfl ?_
  refine WO.q (Q.fieldAddr fa26_10 rfl (o' := 10) rfl) rfl ?_
  refine WO.gT rfl rfl ?_
  refine WO.q (Q.load1 rfl (mem_at (i := 0) rfl) ag24 rfl) rfl ?_
  refine WO.gT rfl rfl ?_
  refine WO.q (Q.len ud24 rfl hk'.len) rfl ?_
  refine WO.gT rfl rfl ?_
  refine WO.q (Q.bin rfl rfl rfl bs_int) rfl ?_
  refine WO.q (Q.pickF rfl rfl) rfl ?_
  refine WO.nil ?_
  refine End.K ?_
  refine W.sub (SubS.cons (k := 88) rfl (SubS.cons (k := 3) rfl (SubS.cons (k := 2) rfl (SubS.nil _)))) ?_
  refine W.condF rfl ?_
  refine W.skip ?_
  refine End.K ?_
  refine W.seq ?_
  refine W.seq ?_
  refine W.reg ?_
  refine WO.q (Q.assign (oc (v := .int .i64 ((0 : Nat) : Int)) rfl)) rfl ?_
  refine WO.nil ?_
  refine End.K ?_
  refine W.block ?_
  refine W.loop_ind (fun (i : Nat) => [(2, .ptr b1 0), (3, .ptr b2 0), (5, .int .i64 ((i : Nat) : Int))]) (fun (i : Nat) => (⟨b2, ⟨11, true, d.c vm' vn' vk'⟩, true⟩ :: ⟨b1, ⟨11, true, d.c vm vn vk⟩, true⟩ :: hs)) (fun (i : Nat) => i ≤ d.ms.length) (fun (i : Nat) => d.ms.length - i) (0) (Nat.zero_le _) (SubS.cons rfl (SubS.cons rfl (SubS.cons rfl (SubS.nil _)))) (SubH.refl _) (fun i hI0 ih0 => ?_)
  have h1 := hI0
  refine W.seq ?_
  refine W.seq ?_
  refine W.reg ?_
  refine WO.q (Q.move rfl) rfl ?_
  refine WO.q (Q.fieldAddr fa26_3 rfl (o' := 3) rfl) rfl ?_
  refine WO.q (Q.load1 rfl (mem_at (i := 1) rfl) ag22 rfl) rfl ?_
  refine WO.q (Q.len ud22 rfl hm.len) rfl ?_
  refine WO.q (Q.bin rfl rfl rfl (bv_lss lt_nat)) rfl ?_
  refine WO.nil ?_
  refine End.K ?_
  refine W.condDS rfl (fun hc93 => ?_) (fun hc93 => ?_)
  · skip -- L0T
    obtain ⟨bm, szm, exm, rfl, wm, mm⟩ := hm.full (by omega)
    obtain ⟨bm2, szm2, exm2, rfl, wm2, mm2⟩ := hm'.full (by omega)
    refine W.skip ?_
    refine End.K ?_
    refine W.seq ?_
    refine W.block ?_
    refine W.seq ?_
    refine W.regT (by kernel_rfl) ?_
    refine WO.q (Q.fieldAddr fa26_3 rfl (o' := 3) rfl) rfl ?_
    refine WO.q (Q.load1 rfl (mem_at (i := 1) rfl) ag22 rfl) rfl ?_
    refine WO.q (Q.move rfl) rfl ?_
    refine WO.q (Q.iaddrS ud22 sz91 rfl rfl (by first | omega | (simp at * <;> omega))) rfl ?_
    refine WO.q (Q.loadN rfl (List.mem_cons_of_mem _ (List.mem_cons_of_mem _ mm)) ag91 sz91 (cM_at (by first | omega | (simp at * <;> omega)))) rfl ?_
    refine WO.q (Q.fieldAddr fa26_3 rfl (o' := 3) rfl) rfl ?_
    refine WO.q (Q.load1 rfl (mem_at (i := 0) rfl) ag22 rfl) rfl ?_
    refine WO.q (Q.move rfl) rfl ?_
    refine WO.q (Q.iaddrS ud22 sz91 rfl rfl (by first | omega | (simp at * <;> omega))) rfl ?_
    refine WO.q (Q.loadN rfl (List.mem_cons_of_mem _ (List.mem_cons_of_mem _ mm2)) ag91 sz91 (cM_at (by first | omega | (simp at * <;> omega)))) rfl ?_
    refine WO.q (Q.bin rfl rfl rfl bs_mt) rfl ?_
    refine WO.nil ?_
    refine End.K ?_
    refine W.sub (SubS.cons (k := 106) rfl (SubS.cons (k := 2) rfl (SubS.cons (k := 3) rfl (SubS.cons (k := 5) rfl (SubS.nil _))))) ?_
    refine W.condF rfl ?_
    refine W.skip ?_
    refine End.KB (End.K ?_)
    refine W.reg ?_
    refine WO.q (Q.move rfl) rfl ?_
    refine WO.q (Q.bin rfl (oc (v := .int .i64 ((1 : Nat) : Int)) rfl) rfl (bv_add (wn_add (by first | omega | (simp at * <;> omega))))) rfl ?_
    refine WO.q (Q.assign rfl) rfl ?_
    refine WO.nil ?_
    refine End.KL ?_
    refine W.sub (SubS.cons rfl (SubS.cons rfl (SubS.cons rfl (SubS.nil _)))) (W.subH gc (ih0 (i + 1) ?_ ?_))
    · exact (by omega)
    · exact (by first | omega | (simp at * <;> omega))
  · skip -- L0F
    refine W.exit ?_
    refine End.K_exit (End.KL_exit (End.KB_hit (End.K ?_)))
    refine W.seq ?_
    refine W.seq ?_
    refine W.reg ?_
    refine WO.q (Q.assign (oc (v := .int .i64 ((0 : Nat) : Int)) rfl)) rfl ?_
    refine WO.nil ?_
    refine End.K ?_
    refine W.block ?_
    refine W.loop_ind (fun (i : Nat) => [(2, .ptr b1 0), (3, .ptr b2 0), (6, .int .i64 ((i : Nat) : Int))]) (fun (i : Nat) => (⟨b2, ⟨11, true, d.c vm' vn' vk'⟩, true⟩ :: ⟨b1, ⟨11, true, d.c vm vn vk⟩, true⟩ :: hs)) (fun (i : Nat) => i ≤ d.nm.length) (fun (i : Nat) => d.nm.length - i) (0) (Nat.zero_le _) (SubS.cons rfl (SubS.cons rfl (SubS.cons rfl (SubS.nil _)))) (SubH.refl _) (fun i hI1 ih1 => ?_)
    have h1 := hI1
    refine W.seq ?_
    refine W.seq ?_
    refine W.reg ?_
    refine WO.q (Q.move rfl) rfl ?_
    refine WO.q (Q.fieldAddr fa26_7 rfl (o' := 7) rfl) rfl ?_
    refine WO.q (Q.load1 rfl (mem_at (i := 1) rfl) ag23 rfl) rfl ?_
    refine WO.q (Q.len ud23 rfl hn.len) rfl ?_
    refine WO.q (Q.bin rfl rfl rfl (bv_lss lt_nat)) rfl ?_
    refine WO.nil ?_
    refine End.K ?_
    refine W.condDS rfl (fun hc111 => ?_) (fun hc111 => ?_)
    · skip -- L0FL1T
      obtain ⟨bn, szn, exn, rfl, wn, mn⟩ := hn.full (by omega)
      obtain ⟨bn2, szn2, exn2, rfl, wn2, mn2⟩ := hn'.full (by omega)
      refine W.skip ?_
      refine End.K ?_
      refine W.seq ?_
      refine W.block ?_
      refine W.seq ?_
      refine W.regT (by kernel_rfl) ?_
      refine WO.q (Q.fieldAddr fa26_7 rfl (o' := 7) rfl) rfl ?_
      refine WO.q (Q.load1 rfl (mem_at (i := 1) rfl) ag23 rfl) rfl ?_
      refine WO.q (Q.move rfl) rfl ?_
      refine WO.q (Q.iaddrS ud23 sz9 rfl rfl (by first | omega | (simp at * <;> omega))) rfl ?_
      refine WO.q (Q.load1 rfl (List.mem_cons_of_mem _ (List.mem_cons_of_mem _ mn)) ag9 (cS_at (by first | omega | (simp at * <;> omega)))) rfl ?_
      refine WO.q (Q.fieldAddr fa26_7 rfl (o' := 7) rfl) rfl ?_
      refine WO.q (Q.load1 rfl (mem_at (i := 0) rfl) ag23 rfl) rfl ?_
      refine WO.q (Q.move rfl) rfl ?_
      refine WO.q (Q.iaddrS ud23 sz9 rfl rfl (by first | omega | (simp at * <;> omega))) rfl ?_
      refine WO.q (Q.load1 rfl (List.mem_cons_of_mem _ (List.mem_cons_of_mem _ mn2)) ag9 (cS_at (by first | omega | (simp at * <;> omega)))) rfl ?_
      refine WO.q (Q.bin rfl rfl rfl bs_str) rfl ?_
      refine WO.nil ?_
      refine End.K ?_
      refine W.sub (SubS.cons (k := 124) rfl (SubS.cons (k := 2) rfl (SubS.cons (k := 3) rfl (SubS.cons (k := 6) rfl (SubS.nil _))))) ?_
      refine W.condF rfl ?_
      refine W.skip ?_
      refine End.KB (End.K ?_)
      refine W.reg ?_
      refine WO.q (Q.move rfl) rfl ?_
      refine WO.q (Q.bin rfl (oc (v := .int .i64 ((1 : Nat) : Int)) rfl) rfl (bv_add (wn_add (by first | omega | (simp at * <;> omega))))) rfl ?_
      refine WO.q (Q.assign rfl) rfl ?_
      refine WO.nil ?_
      refine End.KL ?_
      refine W.sub (SubS.cons rfl (SubS.cons rfl (SubS.cons rfl (SubS.nil _)))) (W.subH gc (ih1 (i + 1) ?_ ?_))
      · exact (by omega)
      · exact (by first | omega | (simp at * <;> omega))
    · skip -- L0FL1F
      refine W.exit ?_
      refine End.K_exit (End.KL_exit (End.KB_hit (End.K ?_)))
      refine W.seq ?_
      refine W.seq ?_
      refine W.reg ?_
      refine WO.q (Q.assign (oc (v := .int .i64 ((0 : Nat) : Int)) rfl)) rfl ?_
      refine WO.nil ?_
      refine End.K ?_
      refine W.block ?_
      refine W.loop_ind (fun (i : Nat) => [(2, .ptr b1 0), (3, .ptr b2 0), (7, .int .i64 ((i : Nat) : Int))]) (fun (i : Nat) => (⟨b2, ⟨11, true, d.c vm' vn' vk'⟩, true⟩ :: ⟨b1, ⟨11, true, d.c vm vn vk⟩, true⟩ :: hs)) (fun (i : Nat) => i ≤ ks.length) (fun (i : Nat) => ks.length - i) (0) (Nat.zero_le _) (SubS.cons rfl (SubS.cons rfl (SubS.cons rfl (SubS.nil _)))) (SubH.refl _) (fun i hI2 ih2 => ?_)
      have h1 := hI2
      refine W.seq ?_
      refine W.seq ?_
      refine W.reg ?_
      refine WO.q (Q.move rfl) rfl ?_
      refine WO.q (Q.fieldAddr fa26_10 rfl (o' := 10) rfl) rfl ?_
      refine WO.q (Q.load1 rfl (mem_at (i := 1) rfl) ag24 rfl) rfl ?_
      refine WO.q (Q.len ud24 rfl hk.len) rfl ?_
      refine WO.q (Q.bin rfl rfl rfl (bv_lss lt_nat)) rfl ?_
      refine WO.nil ?_
      refine End.K ?_
      refine W.condDS rfl (fun hc129 => ?_) (fun hc129 => ?_)
      · skip -- L0FL1FL2T
        obtain ⟨bk, szk, exk, rfl, wk, mk⟩ := hk.full (by omega)
        obtain ⟨bk2, szk2, exk2, rfl, wk2, mk2⟩ := hk'.full (by omega)
        obtain ⟨c1, hc1, hT1⟩ := hR.at (kd_at (i := i) (by omega))
        obtain ⟨c2, hc2, hT2⟩ := hR'.at (kd_at (i := i) (by omega))
        obtain ⟨d1, um, un, uk, rfl, qm, qn, qk, qo⟩ := TRep.opn hT1
        obtain ⟨d2, um2, un2, uk2, rfl, qm2, qn2, qk2, qo2⟩ := TRep.opn hT2
        refine W.skip ?_
        refine End.K ?_
        refine W.seq ?_
        refine W.block ?_
        refine W.seq ?_
        refine W.regT (by kernel_rfl) ?_
        refine WO.q (Q.fieldAddr fa26_10 rfl (o' := 10) rfl) rfl ?_
        refine WO.q (Q.load1 rfl (mem_at (i := 1) rfl) ag24 rfl) rfl ?_
        refine WO.q (Q.move rfl) rfl ?_
        refine WO.q (Q.iaddrS ud24 sz26 rfl rfl (by first | omega | (simp at * <;> omega))) rfl ?_
        refine WO.q (Q.loadN rfl (List.mem_cons_of_mem _ (List.mem_cons_of_mem _ mk)) ag26 sz26 (by rw [Nat.zero_add]; exact flat_id_sub hR.lens hc1)) rfl ?_
        refine WO.q (Q.fieldAddr fa26_10 rfl (o' := 10) rfl) rfl ?_
        refine WO.q (Q.load1 rfl (mem_at (i := 0) rfl) ag24 rfl) rfl ?_
        refine WO.q (Q.move rfl) rfl ?_
        refine WO.q (Q.iaddrS ud24 sz26 rfl rfl (by first | omega | (simp at * <;> omega))) rfl ?_
        refine WO.q (Q.loadN rfl (List.mem_cons_of_mem _ (List.mem_cons_of_mem _ mk2)) ag26 sz26 (by rw [Nat.zero_add]; exact flat_id_sub hR'.lens hc2)) rfl ?_
        refine WO.callV rfl (oLs_cons rfl (oLs_cons rfl oLs_nil)) rfl (ih _ (kd_mem (by omega)) _ _ hT1 hT2) (SubR.tl (SubR.tl (SubR.self hro))) rfl ?_
        refine WO.q (Q.not rfl rfl) rfl ?_
        refine WO.nil ?_
        refine End.K ?_
        refine W.sub (SubS.cons (k := 143) rfl (SubS.cons (k := 2) rfl (SubS.cons (k := 3) rfl (SubS.cons (k := 7) rfl (SubS.nil _))))) ?_
        refine W.condF rfl ?_
        refine W.skip ?_
        refine End.KB (End.K ?_)
        refine W.reg ?_
        refine WO.q (Q.move rfl) rfl ?_
        refine WO.q (Q.bin rfl (oc (v := .int .i64 ((1 : Nat) : Int)) rfl) rfl (bv_add (wn_add (by first | omega | (simp at * <;> omega))))) rfl ?_
        refine WO.q (Q.assign rfl) rfl ?_
        refine WO.nil ?_
        refine End.KL ?_
        refine W.sub (SubS.cons rfl (SubS.cons rfl (SubS.cons rfl (SubS.nil _)))) (W.subH gc (ih2 (i + 1) ?_ ?_))
        · exact (by omega)
        · exact (by first | omega | (simp at * <;> omega))
      · skip -- L0FL1FL2F
        refine W.exit ?_
        refine End.K_exit (End.KL_exit (End.KB_hit (End.K ?_)))
        refine W.seq ?_
        refine W.reg ?_
        refine WO.q (Q.assign rfl) rfl ?_
        refine WO.nil ?_
        refine End.K ?_
        refine W.ret ?_
        refine End.retV (ResL.tmp rfl ResL.nil) ?_
        rfl
mutual
theorem same_spec (hs : HSt) (hro : ∀ e ∈ hs, e.w = false) : ∀ (t : TD) (c c' : List AV), TRep hs t c → TRep hs t c' → Spec tab 29 [.agg c, .agg c'] [] hs (Val (.bool true))
  | .node d ks, c, c', h, h' => by
    rw [TRep] at h h'
    obtain ⟨vm, vn, vk, cs, rfl, h1, h2, h3, h4, h5, h6⟩ := h
    obtain ⟨vm', vn', vk', cs', rfl, g1, g2, g3, _, _, g6⟩ := h'
    exact same_step hs hro d ks vm vn vk vm' vn' vk' cs cs' h1 h2 h3 h4 h5 h6 g1 g2 g3 g6 (same_specs hs hro ks)
theorem same_specs (hs : HSt) (hro : ∀ e ∈ hs, e.w = false) : ∀ (ks : List TD), ∀ k ∈ ks, ∀ c c', TRep hs k c → TRep hs k c' → Spec tab 29 [.agg c, .agg c'] [] hs (Val (.bool true))
  | [], k, h, _, _, _, _ => by cases h
  | x :: ks, k, h, c, c', h1, h2 => by
    rcases List.mem_cons.1 h with e | h
    · exact same_spec hs hro x c c' (e ▸ h1) (e ▸ h2)
    · exact same_specs hs hro ks k h c c' h1 h2
end
end Go.Proofs.YtndhhgbpcmfeiaaGreatDoor.Ev
