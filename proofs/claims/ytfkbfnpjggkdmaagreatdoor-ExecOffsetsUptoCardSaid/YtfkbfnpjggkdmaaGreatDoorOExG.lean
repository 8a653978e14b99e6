/- Chapter 21: a moment, and the elements copied. -/
import Derived.Test.YtfkbfnpjggkdmaaGreatDoorOEa9
import Derived.Test.YtfkbfnpjggkdmaaGreatDoorOInA
import Derived.Test.YtfkbfnpjggkdmaaGreatDoorOOwE
namespace Go.Proofs.YtfkbfnpjggkdmaaGreatDoor.Ev
open Go.RowKit
set_option maxRecDepth 100000
set_option maxHeartbeats 1000000
theorem ag174 : tab.isAgg 174 = some false := by kernel_rfl
theorem ag175 : tab.isAgg 175 = some false := by kernel_rfl
theorem ap180_180 : AP tab 180 180 = some 4 := by kernel_rfl
theorem fa178_1 : FA tab 178 1 = some (11, 0 + 1) := by kernel_rfl
theorem fa178_4 : FA tab 178 4 = some (14, 0 + 1) := by kernel_rfl
theorem ms180 : MS tab 180 = some (4, [.int .i64 0, .int .i64 0, .nils, .nils]) := by kernel_rfl
theorem ud180 : tab.und 180 = some (.slice 136) := by kernel_rfl
theorem zr136 : tab.zero 136 = some (.agg [.int .i64 0, .int .i64 0, .nils, .nils]) := by kernel_rfl
theorem at_spec (hs : HSt) (hro : ∀ e ∈ hs, e.w = false) (M : List MtT) (vm : AV) (hM : ISm hs M vm) (hok : MOk M) (o : Nat) (R : List Ser) (sv : AV) (hR : RSl hs R 0 sv) (hRA : RAll hs R) (hRb : RBd R) (hRp : RPos R) (X : Nat) (xX xl : Bool) (lb ob c : Nat) (hc : c + R.length ≤ 1099511627776) (hR2 : R.length ≤ 256) (t : Nat) (hot : o ≤ t) (ht : t ≤ 1099511627776) : Spec tab 56 [.ptr X 0, .int .i64 ((t : Nat) : Int)] [X] (⟨X, ⟨3, xX, [.slice lb 0 1 1, .int .i64 ((1099511627776 : Nat) : Int), .int .i64 ((c : Nat) : Int)]⟩, true⟩ :: ⟨lb, ⟨1, xl, [.ptr ob 0]⟩, false⟩ :: ⟨ob, ⟨15, true, [.int .i64 ((2 : Nat) : Int), .str [], .int .i64 0, vm, .int .i64 0, .int .i64 ((o : Nat) : Int), .int .i64 0, .nils, .int .i64 0, .bool false, .nils, .nils, .int .i64 0, sv, .func 121 [.tuple [], .ptr X 0]]⟩, false⟩ :: hs) (fun v D => ∃ ov G, v = .agg [.int .i64 ((2 : Nat) : Int), .int .i64 0, ov, .nils] ∧ D = ⟨X, ⟨3, xX, [.slice lb 0 1 1, .int .i64 ((1099511627776 : Nat) : Int), .int .i64 ((c + (momE R ((t - o : Nat) : Int)).length : Nat) : Int)]⟩, true⟩ :: G ∧ OwnE 2 (cE (momE R ((t - o : Nat) : Int))) (momE R ((t - o : Nat) : Int)).length ov G) := by
 refine Spec.en (ftg 56 Tryz.func56) rfl (m := 61) rfl (rs := [.cell 4 136]) rfl (st := [(0, .ptr X 0), (1, .int .i64 ((t : Nat) : Int))]) rfl rfl (fun _ => rfl) (fun E => ?_)
 refine W.seq ?_
 refine W.reg ?_
 refine WO.alloc ao136 rfl (fun b1 => ?_)
 refine WO.nil ?_
 refine End.K ?_
 refine W.seq ?_
 refine W.reg ?_
 refine WO.q (Q.move rfl) rfl ?_
 refine WO.q (Q.nilP rfl) rfl ?_
 refine WO.q (Q.fieldAddr fa132_0 rfl (o' := 0) rfl) rfl ?_
 refine WO.q (Q.l1 rfl (mem_at (i := 1) rfl) ag130 rfl) rfl ?_
 refine WO.q (Q.len ud130 rfl rfl) rfl ?_
 refine WO.mks ms180 (oc (v := .int .i64 ((0 : Nat) : Int)) rfl) rfl zo rfl (fun b2 => ?_)
 refine WO.q (Q.assign rfl) rfl ?_
 refine WO.nil ?_
 refine End.K ?_
 refine W.seq ?_
 refine W.seq ?_
 refine W.reg ?_
 refine WO.q (Q.move rfl) rfl ?_
 refine WO.q (Q.nilP rfl) rfl ?_
 refine WO.q (Q.fieldAddr fa132_0 rfl (o' := 0) rfl) rfl ?_
 refine WO.q (Q.l1 rfl (mem_at (i := 2) rfl) ag130 rfl) rfl ?_
 refine WO.q (Q.len ud130 rfl rfl) rfl ?_
 refine WO.q (Q.move (oc (v := .int .i64 ((0 : Nat) : Int)) rfl)) rfl ?_
 refine WO.nil ?_
 refine End.K ?_
 refine W.block ?_
 refine W.loop ?_
 refine W.seq ?_
 refine W.reg ?_
 refine WO.q (Q.bin rfl rfl rfl (bvl (p := true) rfl)) rfl ?_
 refine WO.nil ?_
 refine End.K ?_
 refine W.seq ?_
 refine W.condT rfl ?_
 refine W.skip ?_
 refine End.K ?_
 refine W.seq ?_
 refine W.block ?_
 refine W.seq ?_
 refine W.reg ?_
 refine WO.q (Q.iaddrL ud130 sz174 rfl rfl zo (o' := 0) rfl) rfl ?_
 refine WO.q (Q.l1 rfl (mem_at (i := 3) rfl) ag174 rfl) rfl ?_
 refine WO.q (Q.assign rfl) rfl ?_
 refine WO.nil ?_
 refine End.K ?_
 refine W.seq ?_
 refine W.reg ?_
 refine WO.q (Q.assign rfl) rfl ?_
 refine WO.nil ?_
 refine End.K ?_
 refine W.seq ?_
 refine W.seq ?_
 refine W.reg ?_
 refine WO.q (Q.move rfl) rfl ?_
 refine WO.q (Q.nilP rfl) rfl ?_
 refine WO.q (Q.fieldAddr fa178_1 rfl (o' := 11) rfl) rfl ?_
 refine WO.q (Q.l1 rfl (mem_at (i := 4) rfl) ag25 rfl) rfl ?_
 refine WO.q (Q.len ud25 rfl rfl) rfl ?_
 refine WO.q (Q.move (oc (v := .int .i64 ((0 : Nat) : Int)) rfl)) rfl ?_
 refine WO.nil ?_
 refine End.K ?_
 refine W.sub (SubS.cons (k := 31) rfl (SubS.cons (k := 30) rfl (SubS.cons (k := 29) rfl (SubS.cons (k := 8) rfl (SubS.cons (k := 7) rfl (SubS.cons (k := 22) rfl (SubS.cons (k := 21) rfl (SubS.cons (k := 20) rfl (SubS.cons (k := 5) rfl (SubS.cons (k := 4) rfl (SubS.cons (k := 1) rfl (SubS.nil _)))))))))))) ?_
 refine W.block ?_
 refine W.loop ?_
 refine W.seq ?_
 refine W.reg ?_
 refine WO.q (Q.bin rfl rfl rfl (bvl (p := false) rfl)) rfl ?_
 refine WO.nil ?_
 refine End.K ?_
 refine W.seq ?_
 refine W.condF rfl ?_
 refine W.exit ?_
 refine End.Kx (End.Lx (End.Bh (End.K ?_)))
 refine W.reg ?_
 refine WO.q (Q.move rfl) rfl ?_
 refine WO.q (Q.move rfl) rfl ?_
 refine WO.q (Q.nilP rfl) rfl ?_
 refine WO.q (Q.fieldAddr fa178_4 rfl (o' := 14) rfl) rfl ?_
 refine WO.q (Q.l1 rfl (mem_at (i := 4) rfl) ag175 rfl) rfl ?_
 refine WO.q (Q.move rfl) rfl ?_
 refine WO.q (Q.move rfl) rfl ?_
 refine WO.q (Q.move rfl) rfl ?_
 refine WO.call1 rfl (oLc rfl (oLc rfl (oLc rfl oz))) rfl (i := 2) rfl (mom_spec hs hro M vm hM hok o R sv hR hRA hRb hRp X xX lb ob c hc hR2 .nils t hot ht) (SubR.t (SubR.t (SubR.t (SubR.cons0 (SubR.s hro))))) (hs' := _ :: _ :: _ :: _ :: _) rfl rfl (fun v51 D51 hP51 => ?_)
 obtain ⟨ov, G, rfl, rfl, hG⟩ := hP51
 refine WO.subH (hs' := _ :: _ :: _ :: _ :: _ :: (hs ++ G)) (SubH.op (perm_tail (N := [_]) (G := G) (K := [_, _, _, _]) (X := hs))) ?_
 refine WO.bslice ud180 sz136 zr136 rfl (opc rfl opn) rfl (cs := [_, _, _, _]) rfl (andb rfl (andb rfl (andb (OwnE.cell hG) rfl))) rfl (fun b3 => ?_)
 refine WO.appIn ap180_180 rfl rfl (i := 2) rfl (mem_at (i := 0) rfl) (l := [_, _, _, _]) rfl zo (by decide) rfl (hs' := _ :: _ :: _ :: _ :: _ :: _ :: _) rfl rfl ?_
 refine WO.q (Q.assign rfl) rfl ?_
 refine WO.nil ?_
 refine End.KB (End.K ?_)
 refine W.sub (SubS.cons (k := 5) rfl (SubS.cons (k := 22) rfl (SubS.cons (k := 21) rfl (SubS.cons (k := 20) rfl (SubS.cons (k := 4) rfl (SubS.cons (k := 1) rfl (SubS.nil _))))))) ?_
 refine W.reg ?_
 refine WO.q (Q.bin rfl (oc (v := .int .i64 ((1 : Nat) : Int)) rfl) rfl (bv_add (c := (((1 : Nat)) : Int)) (by decide))) rfl ?_
 refine WO.q (Q.move rfl) rfl ?_
 refine WO.nil ?_
 refine End.KL ?_
 refine W.loop ?_
 refine W.seq ?_
 refine W.reg ?_
 refine WO.q (Q.bin rfl rfl rfl (bvl (p := false) rfl)) rfl ?_
 refine WO.nil ?_
 refine End.K ?_
 refine W.seq ?_
 refine W.condF rfl ?_
 refine W.exit ?_
 refine End.Kx (End.Lx (End.Bh (End.K ?_)))
 refine W.seq ?_
 refine W.reg ?_
 refine WO.q (Q.move rfl) rfl ?_
 refine WO.q (Q.move rfl) rfl ?_
 refine WO.q (Q.len ud180 rfl rfl) rfl ?_
 refine WO.q (Q.bin rfl (oc (v := .int .i64 ((1 : Nat) : Int)) rfl) rfl (bv_sub (c := (((0 : Nat)) : Int)) (by decide))) rfl ?_
 refine WO.q (Q.iaddrL ud180 sz136 rfl rfl zo (o' := 0) rfl) rfl ?_
 refine WO.q (Q.loadN rfl (mem_at (i := 2) rfl) ag136 sz136 (l := [_, _, _, _]) rfl) rfl ?_
 refine WO.store sz136 rfl rfl (i := 3) rfl (andb rfl (andb rfl (andb rfl (andb (OwnE.cell hG) rfl)))) (cs := [_, _, _, _]) rfl (hs' := _ :: _ :: _ :: _ :: _ :: _ :: _) rfl ?_
 refine WO.nil ?_
 refine End.K ?_
 refine W.ret ?_
 refine End.ret (ResL.agg (c := [_, _, _, _]) rfl (mem_at (i := 3) rfl) ag136 sz136 rfl ResL.nil) (hs' := ⟨X, ⟨3, xX, [.slice lb 0 1 1, .int .i64 ((1099511627776 : Nat) : Int), .int .i64 ((c + (momE R ((t - o : Nat) : Int)).length : Nat) : Int)]⟩, true⟩ :: G) ⟨ov, G, rfl, rfl, hG⟩ (fun e he => by rcases List.mem_cons.1 he with rfl | he; rfl; exact hG.w e he) (SubH.trans (SubH.pre (L := [_]) (SubH.trans (b := hs ++ G) (SubH.of_sublist (List.sublist_append_right _ _)) (SubH.of_sublist (List.sublist_append_right [_, _, _, _] _)))) (SubH.of_sublist (List.sublist_cons_self _ _)))

def eg (O : List El) (i : Nat) : El := O.getD i ed0
theorem cE_at {O : List El} {a b : Nat} (h : a + b < O.length) : sub? (cE O) ((a + b) * 2) 2 = some [(eg O (a + b)).1, .int .i64 (eg O (a + b)).2.2] := by
 obtain ⟨h1, h2⟩ := c2_get (d := ed0) (fun x : El => x.1) (fun x : El => .int .i64 x.2.2) O (a + b) h
 exact sub2 h1 h2
theorem eg_mem {O : List El} {i : Nat} (h : i < O.length) : eg O i ∈ O := by
 unfold eg
 rw [List.getD_eq_getElem?_getD, List.getElem?_eq_getElem h]
 exact List.getElem_mem h
def EIn (hs : HSt) (O : List El) (v : AV) : Prop := (v = .nils ∧ O = []) ∨ ∃ b sz ex, v = .slice b 0 O.length 2 ∧ MemH hs b ⟨sz, ex, cE O⟩
def EAll (hs : HSt) (O : List El) : Prop := ∀ x ∈ O, LIn hs x.2.1 x.1
def EBd (O : List El) : Prop := O.length ≤ 1048576 ∧ ∀ x ∈ O, LBd x.2.1
theorem EIn.mono {hs hs' : HSt} {O : List El} {v : AV} (hm : ∀ b o, MemH hs b o → MemH hs' b o) (h : EIn hs O v) : EIn hs' O v := h.imp id fun ⟨b, sz, ex, h1, h2⟩ => ⟨b, sz, ex, h1, hm _ _ h2⟩
theorem EIn.len {hs : HSt} {O : List El} {v : AV} {e : Nat} (h : EIn hs O v) : lenA (.slice e) v = some O.length := by
 rcases h with ⟨rfl, rfl⟩ | ⟨b, sz, ex, rfl, _⟩ <;> rfl
theorem EIn.full {hs : HSt} {O : List El} {v : AV} (h : EIn hs O v) (hl : 0 < O.length) : ∃ b sz ex, v = .slice b 0 O.length 2 ∧ MemH hs b ⟨sz, ex, cE O⟩ := by
 rcases h with ⟨_, rfl⟩ | h
 ·simp at hl
 ·exact h
theorem EIn.cell {hs : HSt} {O : List El} {v : AV} (h : EIn hs O v) : v.isCell = true := by
 rcases h with ⟨rfl, _⟩ | ⟨b, sz, ex, rfl, _⟩ <;> rfl
theorem EIn.own {O : List El} {v : AV} {hp : HSt} (h : OwnE 2 (cE O) O.length v hp) : EIn hp O v := by
 rcases h with ⟨h0, _, rfl, rfl⟩ | ⟨b, ex, rfl, rfl, _⟩
 ·exact .inl ⟨rfl, List.eq_nil_of_length_eq_zero h0⟩
 ·exact .inr ⟨b, 2, ex, rfl, true, List.mem_singleton.2 rfl⟩
theorem OwnE.bqi {sz : Nat} {cells : List AV} {len : Nat} {v : AV} {hp : HSt} {n : Int} (h : OwnE sz cells len v hp) : (AV.agg [v, .int .i64 n]).beq (.agg [v, .int .i64 n]) = true := by
 rcases h with ⟨_, _, rfl, _⟩ | ⟨b, ex, rfl, _, _⟩ <;> simp [AV.beq, beq1, beq0, beqz, beqL]
theorem cpy_x {O : List El} {G D : HSt} {x : El} (h : EAll G O) (h1 : LIn D x.2.1 x.1) : EAll (G ++ D) (O ++ [x]) := by
 intro z hz
 rcases List.mem_append.1 hz with hz | hz
 ·exact (h z hz).mono fun b o g => g.ap1
 ·rw [List.mem_singleton.1 hz]
  exact h1.mono fun b o g => g.app
theorem ag65 : tab.isAgg 65 = some true := by kernel_rfl
theorem ao65 : AO tab 65 = some ⟨2, true, [.nils, .int .i64 0]⟩ := by kernel_rfl
theorem fa65_0 : FA tab 65 0 = some (0, 0 + 1) := by kernel_rfl
theorem fa65_1 : FA tab 65 1 = some (1, 0 + 1) := by kernel_rfl
theorem cpy_spec (hs : HSt) (hro : ∀ e ∈ hs, e.w = false) (O : List El) (v : AV) (hE : EIn hs O v) (hEA : EAll hs O) (hEb : EBd O) : Spec tab 57 [v] [] hs (fun u D => ∃ O2 : List El, EIn D O2 u ∧ EAll D O2 ∧ O2.map (·.2) = O.map (·.2) ∧ ∀ e ∈ D, e.w = true) := by
 have hEl := hEb.1
 refine Spec.en (ftg 57 Tryz.func57) rfl (m := 24) rfl (rs := [.tmp 2]) rfl (st := [(0, v)]) rfl rfl (fun _ => rfl) (fun E => ?_)
 refine W.seq ?_
 refine W.reg ?_
 refine WO.q (Q.assign rfl) rfl ?_
 refine WO.nil ?_
 refine End.K ?_
 refine W.seq ?_
 refine W.reg ?_
 refine WO.q (Q.assign rfl) rfl ?_
 refine WO.nil ?_
 refine End.K ?_
 refine W.seq ?_
 refine W.seq ?_
 refine W.reg ?_
 refine WO.q (Q.move rfl) rfl ?_
 refine WO.q (Q.len ud57 rfl (EIn.len hE)) rfl ?_
 refine WO.q (Q.move (oc (v := .int .i64 ((0 : Nat) : Int)) rfl)) rfl ?_
 refine WO.nil ?_
 refine End.K ?_
 refine W.block ?_
 refine W.loop_ind5 (fun (i : Nat) (O2 : List El) (o : AV) (ho : HSt) (G : HSt) => [(3, o), (6, v), (7, .int .i64 ((O.length : Nat) : Int)), (8, .int .i64 ((i : Nat) : Int))]) (fun (i : Nat) (O2 : List El) (o : AV) (ho : HSt) (G : HSt) => (hs ++ G) ++ ho) (fun (i : Nat) (O2 : List El) (o : AV) (ho : HSt) (G : HSt) => i ≤ O.length ∧ OwnE 2 (cE O2) O2.length o ho ∧ EAll G O2 ∧ O2.map (·.2) = (O.take i).map (·.2) ∧ (∀ e ∈ G, e.w = true) ∧ O2.length = i) (fun (i : Nat) (O2 : List El) (o : AV) (ho : HSt) (G : HSt) => O.length - i) (0) ([]) (.nils) ([]) ([]) ⟨Nat.zero_le _, OwnE.nil 2, fun x h => (by simp at h), rfl, no_wl, rfl⟩ (SubS.cons rfl (SubS.cons rfl (SubS.cons rfl (SubS.cons rfl (SubS.nil _))))) gc (fun i O2 o ho G hI0 ih0 => ?_)
 obtain ⟨hi1, hO, hOx, hOc, hG, hOl⟩ := hI0
 refine W.seq ?_
 refine W.reg ?_
 refine WO.q (Q.bin rfl rfl rfl (bvl ltn)) rfl ?_
 refine WO.nil ?_
 refine End.K ?_
 refine W.seq ?_
 refine W.cD rfl (fun hc9 => ?_) (fun hc9 => ?_)
 ·skip -- L0T
  have hm0 := eg_mem (O := O) (i := 0 + i) (by omega)
  have hx := hEA _ hm0
  have hxb := (hEb.2 _ hm0).1
  obtain ⟨be, sze, exe, rfl, we, me⟩ := EIn.full hE (by omega)
  refine W.skip ?_
  refine End.K ?_
  refine W.seq ?_
  refine W.block ?_
  refine W.seq ?_
  refine W.reg ?_
  refine WO.q (Q.iS ud57 sz65 rfl rfl zo) rfl ?_
  refine WO.q (Q.loadN rfl (List.mem_append_left _ (List.mem_append_left _ me)) ag65 sz65 (cE_at zo)) rfl ?_
  refine WO.alloc ao65 rfl (fun b1 => ?_)
  refine WO.store sz65 rfl rfl (i := 0) rfl (andb rfl (ck2 (LIn.cell hx) rfl)) (cs := [_, _]) rfl (hs' := _ :: _) rfl ?_
  refine WO.nil ?_
  refine End.K ?_
  refine W.regD 9 (⟨b1, _, false⟩ :: hs) (by kernel_rfl) (KIn.cons (mem_at (i := 0) rfl) (fun e he => ⟨e.w, by obtain ⟨b, o, w⟩ := e; simp [he]⟩)) ?_
  refine WD.q (Q.move rfl) (OwnE.bq hO) rfl ?_
  refine WD.bslice ud63 sz70 zr70 rfl opn rfl (cs := []) rfl rfl rfl (KIn.cons (mem_at (i := 0) rfl) (fun e he => ⟨e.w, by obtain ⟨b, o, w⟩ := e; simp [he]⟩)) (fun b2 => ?_)
  refine WD.q (Q.fieldAddr fa65_0 rfl (o' := 0) rfl) bqp rfl ?_
  refine WD.q (Q.l1 rfl (mem_at (i := 0) rfl) ag63 rfl) (LIn.bq hx) rfl ?_
  refine WD.appAny (A := _) ap63_63 (OwnE.cons rfl) rfl rfl (Src.mono (fun e he => ⟨e.w, by obtain ⟨b, o, w⟩ := e; simp [he]⟩) (Src.lin hx)) (cL_len _) (by omega) (by decide) (SubH.op (List.perm_append_singleton _ _)) rfl (KIn.cons (mem_at (i := 0) rfl) (fun e he => ⟨e.w, by obtain ⟨b, o, w⟩ := e; simp [he]⟩)) (fun v16 hp16 hO16 => ?_)
  refine WD.q (Q.fieldAddr fa65_1 rfl (o' := 1) rfl) bqp rfl ?_
  refine WD.q (Q.l1 rfl (mem_at (i := 0) rfl) ag3 rfl) bq_int rfl ?_
  refine WD.q (Q.build pl65 (opc rfl (opc rfl opn)) rfl (cs := [_, _]) (fill2i (OwnE.cell hO16))) (OwnE.bqi hO16) rfl ?_
  refine WD.bslice ud57 sz65 zr65 rfl (opc rfl opn) rfl (cs := [_, _]) rfl (ck2 (OwnE.cell hO16) rfl) rfl (KIn.cons (mem_at (i := 0) rfl) (fun e he => ⟨e.w, by obtain ⟨b, o, w⟩ := e; simp [he]⟩)) (fun b3 => ?_)
  refine WD.subH (hs' := _ :: _ :: (hs ++ G ++ hp16 ++ ho)) (SubH.op (List.Perm.append_left [_, _] (List.perm_iff_count.2 (by intro z; simp only [List.append_eq, List.count_append, List.count_nil]; omega)))) ?_
  refine WD.appAny (A := ([_] ++ hs ++ G ++ hp16)) ap57_57 hO rfl rfl (Src.slice (mem_at (i := 0) rfl) rfl) rfl (by omega) (by decide) (SubH.of_sublist (List.sublist_cons_self _ _)) rfl (KIn.cons (mem_at (i := 0) rfl) (fun e he => ⟨e.w, by obtain ⟨b, o, w⟩ := e; simp [he]⟩)) (fun v21 hp21 hO21 => ?_)
  refine WD.q (Q.assign rfl) (OwnE.bq hO21) rfl ?_
  refine WD.nil ?_
  refine End.KB (End.K ?_)
  refine W.sub (SubS.cons (k := 3) rfl (SubS.cons (k := 6) rfl (SubS.cons (k := 7) rfl (SubS.cons (k := 8) rfl (SubS.nil _))))) ?_
  refine W.reg ?_
  refine WO.q (Q.bin rfl (oc (v := .int .i64 ((1 : Nat) : Int)) rfl) rfl (bv_add (wna zo))) rfl ?_
  refine WO.q (Q.move rfl) rfl ?_
  refine WO.nil ?_
  refine End.KL ?_
  refine W.sub (SubS.cons rfl (SubS.cons rfl (SubS.cons rfl (SubS.cons rfl (SubS.nil _))))) (W.sH gc (ih0 (i + 1) (O2 ++ [(v16, (eg O (0 + i)).2)]) (v21) (hp21) (G ++ hp16) ?_ ?_))
  ·exact ⟨by omega, own_e hO21, cpy_x hOx (LIn.own (by simpa using hO16)), by rw [List.map_append, hOc, Nat.zero_add, take_snoc O ed0 (by omega), List.map_append]; rfl, wa hG hO16.w, by simp; omega⟩
  ·exact zo
 ·skip -- L0F
  refine W.exit ?_
  refine End.Kx (End.Lx (End.Bh (End.K ?_)))
  refine W.seq ?_
  refine W.reg ?_
  refine WO.q (Q.move rfl) rfl ?_
  refine WO.q (Q.assign rfl) rfl ?_
  refine WO.nil ?_
  refine End.K ?_
  refine W.ret ?_
  refine End.ret (ResL.tmp rfl ResL.nil) (hs' := G ++ ho) ⟨O2, (EIn.own hO).mono (fun b o h => h.app), fun x hx => (hOx x hx).mono (fun b o h => h.ap1), by rw [hOc, List.take_of_length_le (by omega)], wa hG hO.w⟩ (wa hG hO.w) gc

theorem mm_maxI {k : IntKind} {a b : Int} : minmaxA true (.int k a) [.int k b] = some (.int k (max a b)) := by
 unfold minmaxA
 simp only [if_true, ltA_eq]
 unfold minmaxA
 by_cases h : a < b
 ·have e : max a b = b := by omega
  simp only [h, decide_true, e]
 ·have e : max a b = a := by omega
  simp only [h, decide_false, e]
def loE (e : Int) : Int := max ((0 : Nat) : Int) (e - ((300000 : Nat) : Int) + ((1 : Nat) : Int))

theorem ask_spec (hs : HSt) (hro : ∀ e ∈ hs, e.w = false) (R : List Ser) (v : AV) (hR : RSl hs R 0 v) (hRA : RAll hs R) (hRb : RBd R) (M : List MtT) (vm : AV) (hM : ISm hs M vm) (hok : MOk M) (o : Nat) (X : Nat) (xX xl exx : Bool) (lb ob bx : Nat) (t : Nat) (hot : o ≤ t) (ht : t ≤ 1099511627776) : SpecX xcfg tab 55 [.ptr X 0, .func 34 [.ptr bx 0], .agg [.int .i64 ((t : Nat) : Int), .int .i64 ((t : Nat) : Int), .int .i64 ((1 : Nat) : Int), .int .i64 ((1099511627776 : Nat) : Int)]] [ob] ([⟨ob, ⟨15, true, [.int .i64 ((2 : Nat) : Int), .str [], .int .i64 0, vm, .int .i64 0, .int .i64 ((o : Nat) : Int), .int .i64 0, .nils, .int .i64 0, .bool false, .nils, .nils, .int .i64 0, .nils, .func 121 [.tuple [], .ptr X 0]]⟩, true⟩] ++ (⟨X, ⟨3, xX, [.slice lb 0 1 1, .int .i64 ((1099511627776 : Nat) : Int), .int .i64 ((0 : Nat) : Int)]⟩, false⟩ :: ⟨lb, ⟨1, xl, [.ptr ob 0]⟩, false⟩ :: ⟨bx, ⟨1, exx, [v]⟩, false⟩ :: hs)) (fun u D => u = .tuple [] ∧ ∃ (u2 : AV) (R2 : List Ser) (G : HSt), D = ⟨ob, ⟨15, true, [.int .i64 ((2 : Nat) : Int), .str [], .int .i64 0, vm, .int .i64 0, .int .i64 ((o : Nat) : Int), .int .i64 0, .nils, .int .i64 0, .bool false, .nils, .nils, .int .i64 0, u2, .func 121 [.tuple [], .ptr X 0]]⟩, true⟩ :: G ∧ RSl G R2 0 u2 ∧ RAll G R2 ∧ conR R2 = selS M (loE ((t - o : Nat) : Int)) ((t - o : Nat) : Int) (conR R) ∧ R2.length ≤ R.length ∧ (∀ e ∈ G, e.w = true) ∧ caV M = 0) (fun l => l = [.int .i64 (caV M)] ∧ caV M ≠ 0) := by
 refine SpecX.enter (ftg 55 Tryz.func55) rfl (m := 80) rfl (rs := []) rfl (st := [(0, .ptr X 0), (1, .func 34 [.ptr bx 0]), (2, .agg [.int .i64 ((t : Nat) : Int), .int .i64 ((t : Nat) : Int), .int .i64 ((1 : Nat) : Int), .int .i64 ((1099511627776 : Nat) : Int)])]) rfl rfl (fun _ => rfl) rfl (fun E => ?_)
 refine Ev.X.seq ?_
 refine Ev.X.w (W.reg ?_)
 refine WO.box rfl rfl (bx24 _ rfl) rfl (fun b1 => ?_)
 refine WO.nil ?_
 refine XEnd.K ?_
 refine Ev.X.seq ?_
 refine Ev.X.w (W.reg ?_)
 refine WO.q (Q.move rfl) rfl ?_
 refine WO.q (Q.nilP rfl) rfl ?_
 refine WO.q (Q.fieldAddr fa132_0 rfl (o' := 0) rfl) rfl ?_
 refine WO.q (Q.l1 rfl (mem_at (i := 2) rfl) ag130 rfl) rfl ?_
 refine WO.q (Q.len ud130 rfl rfl) rfl ?_
 refine WO.q (Q.move (oc (v := .int .i64 ((0 : Nat) : Int)) rfl)) rfl ?_
 refine WO.nil ?_
 refine XEnd.K ?_
 refine Ev.X.block ?_
 refine Ev.X.loop ?_
 refine Ev.X.seq ?_
 refine Ev.X.w (W.reg ?_)
 refine WO.q (Q.bin rfl rfl rfl (bvl (p := true) rfl)) rfl ?_
 refine WO.nil ?_
 refine XEnd.K ?_
 refine Ev.X.seq ?_
 refine Ev.X.condT rfl ?_
 refine Ev.X.skip ?_
 refine XEnd.K ?_
 refine Ev.X.seq ?_
 refine Ev.X.block ?_
 refine Ev.X.seq ?_
 refine Ev.X.w (W.reg ?_)
 refine WO.q (Q.iaddrL ud130 sz174 rfl rfl zo (o' := 0) rfl) rfl ?_
 refine WO.q (Q.l1 rfl (mem_at (i := 3) rfl) ag174 rfl) rfl ?_
 refine WO.q (Q.assign rfl) rfl ?_
 refine WO.nil ?_
 refine XEnd.K ?_
 refine Ev.X.seq ?_
 refine Ev.X.seq ?_
 refine Ev.X.w (W.regT (by kernel_rfl) ?_)
 refine WO.q (Q.move rfl) rfl ?_
 refine WO.q (Q.nilP rfl) rfl ?_
 refine WO.q (Q.fieldAddr fa178_0 rfl (o' := 0) rfl) rfl ?_
 refine WO.q (Q.fieldAddr fa53_0 rfl (o' := 0) rfl) rfl ?_
 refine WO.q (Q.l1 rfl (mem_at (i := 1) rfl) ag3 rfl) rfl ?_
 refine WO.q (Q.bin rfl (oc (v := .int .i64 ((2 : Nat) : Int)) rfl) rfl (bv_neq (p := false) rfl)) rfl ?_
 refine WO.q (Q.move rfl) rfl ?_
 refine WO.gT rfl rfl ?_
 refine WO.q (Q.fieldAddr fa24_1 rfl (o' := 1) rfl) rfl ?_
 refine WO.gT rfl rfl ?_
 refine WO.q (Q.l1 rfl (mem_at (i := 0) rfl) ag3 rfl) rfl ?_
 refine WO.gT rfl rfl ?_
 refine WO.q (Q.move rfl) rfl ?_
 refine WO.gT rfl rfl ?_
 refine WO.q (Q.nilP rfl) rfl ?_
 refine WO.gT rfl rfl ?_
 refine WO.q (Q.fieldAddr fa178_0 rfl (o' := 0) rfl) rfl ?_
 refine WO.gT rfl rfl ?_
 refine WO.q (Q.fieldAddr fa53_5 rfl (o' := 5) rfl) rfl ?_
 refine WO.gT rfl rfl ?_
 refine WO.q (Q.l1 rfl (mem_at (i := 1) rfl) ag3 rfl) rfl ?_
 refine WO.gT rfl rfl ?_
 refine WO.q (Q.bin rfl rfl rfl (bvl ltn)) rfl ?_
 refine WO.q (Q.pF rfl rfl) rfl ?_
 refine WO.nil ?_
 refine XEnd.K ?_
 refine Ev.X.sub (SubS.cons (k := 35) rfl (SubS.cons (k := 7) rfl (SubS.cons (k := 16) rfl (SubS.cons (k := 15) rfl (SubS.cons (k := 14) rfl (SubS.cons (k := 5) rfl (SubS.cons (k := 1) rfl (SubS.nil _)))))))) ?_
 refine Ev.X.condDS rfl (fun hc35 => ?_) (fun hc35 => ?_)
 ·exfalso; omega
 ·skip -- F
  refine Ev.X.skip ?_
  refine XEnd.K ?_
  refine Ev.X.seq ?_
  refine Ev.X.w (W.reg ?_)
  refine WO.q (Q.move rfl) rfl ?_
  refine WO.q (Q.nilP rfl) rfl ?_
  refine WO.q (Q.fieldAddr fa178_0 rfl (o' := 0) rfl) rfl ?_
  refine WO.q (Q.fieldAddr fa53_4 rfl (o' := 4) rfl) rfl ?_
  refine WO.q (Q.l1 rfl (mem_at (i := 1) rfl) ag3 rfl) rfl ?_
  refine WO.q (Q.assign rfl) rfl ?_
  refine WO.nil ?_
  refine XEnd.K ?_
  refine Ev.X.seq ?_
  refine Ev.X.seq ?_
  refine Ev.X.w (W.reg ?_)
  refine WO.q (Q.move rfl) rfl ?_
  refine WO.q (Q.bin rfl (oc (v := .int .i64 ((0 : Nat) : Int)) rfl) rfl (bv_eql (p := true) rfl)) rfl ?_
  refine WO.nil ?_
  refine XEnd.K ?_
  refine Ev.X.condT rfl ?_
  refine Ev.X.w (W.reg ?_)
  refine WO.q (Q.assign (oc (v := .int .i64 ((300000 : Nat) : Int)) rfl)) rfl ?_
  refine WO.nil ?_
  refine XEnd.K ?_
  refine Ev.X.seq ?_
  refine Ev.X.w (W.regT (by kernel_rfl) ?_)
  refine WO.q (Q.move rfl) rfl ?_
  refine WO.q (Q.move rfl) rfl ?_
  refine WO.q (Q.nilP rfl) rfl ?_
  refine WO.q (Q.fieldAddr fa178_0 rfl (o' := 0) rfl) rfl ?_
  refine WO.q (Q.fieldAddr fa53_3 rfl (o' := 3) rfl) rfl ?_
  refine WO.q (Q.l1 rfl (mem_at (i := 1) rfl) ag49 rfl) rfl ?_
  refine WO.q (Q.fieldAddr fa24_0 rfl (o' := 0) rfl) rfl ?_
  refine WO.q (Q.l1 rfl (mem_at (i := 0) rfl) ag3 rfl) rfl ?_
  refine WO.q (Q.move rfl) rfl ?_
  refine WO.q (Q.nilP rfl) rfl ?_
  refine WO.q (Q.fieldAddr fa178_0 rfl (o' := 0) rfl) rfl ?_
  refine WO.q (Q.fieldAddr fa53_5 rfl (o' := 5) rfl) rfl ?_
  refine WO.q (Q.l1 rfl (mem_at (i := 1) rfl) ag3 rfl) rfl ?_
  refine WO.q (Q.bin rfl rfl rfl (bv_sub (wns zo))) rfl ?_
  refine WO.q (Q.move rfl) rfl ?_
  refine WO.q (Q.bin rfl rfl rfl (bv_sub (wr64 zo))) rfl ?_
  refine WO.q (Q.bin rfl (oc (v := .int .i64 ((1 : Nat) : Int)) rfl) rfl (bv_add (wr64 zo))) rfl ?_
  refine WO.q (Q.minmax true (oLc (oc (v := .int .i64 ((0 : Nat) : Int)) rfl) (oLc rfl oz)) mm_maxI) rfl ?_
  refine WO.q (Q.fieldAddr fa24_1 rfl (o' := 1) rfl) rfl ?_
  refine WO.q (Q.l1 rfl (mem_at (i := 0) rfl) ag3 rfl) rfl ?_
  refine WO.q (Q.move rfl) rfl ?_
  refine WO.q (Q.nilP rfl) rfl ?_
  refine WO.q (Q.fieldAddr fa178_0 rfl (o' := 0) rfl) rfl ?_
  refine WO.q (Q.fieldAddr fa53_5 rfl (o' := 5) rfl) rfl ?_
  refine WO.q (Q.l1 rfl (mem_at (i := 1) rfl) ag3 rfl) rfl ?_
  refine WO.q (Q.bin rfl rfl rfl (bv_sub (wns zo))) rfl ?_
  refine WO.call0 rfl (oLc rfl (oLc rfl (oLc rfl oz))) rfl (src_spec hs hro R v hR hRA hRb M vm hM hok _ _ bx exx) (SubR.t (SubR.t (SubR.t (SubR.t (SubR.cons0 (SubR.s hro)))))) rfl (fun v70 D70 hP70 => ?_)
  obtain ⟨u2, R2, rfl, hR2, hR2A, hR2c, hR2l, hD70⟩ := hP70
  refine WO.subH (hs' := _ :: _ :: _ :: _ :: _ :: (hs ++ D70)) (SubH.op (perm_tail (N := []) (G := D70) (K := [_, _, _, _, _]) (X := hs))) ?_
  refine WO.q (Q.move rfl) rfl ?_
  refine WO.q (Q.extract rfl rfl) rfl ?_
  refine WO.q (Q.extract rfl rfl) rfl ?_
  refine WO.q (Q.assign rfl) rfl ?_
  refine WO.q (Q.assign rfl) rfl ?_
  refine WO.nil ?_
  refine XEnd.K ?_
  refine Ev.X.sub (SubS.cons (k := 10) rfl (SubS.cons (k := 9) rfl (SubS.cons (k := 7) rfl (SubS.cons (k := 16) rfl (SubS.cons (k := 15) rfl (SubS.cons (k := 14) rfl (SubS.cons (k := 5) rfl (SubS.cons (k := 1) rfl (SubS.nil _))))))))) ?_
  refine Ev.X.seq ?_
  refine Ev.X.reg ?_
  refine XO.pre 1 ?_
  refine WO.q (Q.move rfl) rfl ?_
  refine WO.nil ?_
  refine XEnd.O ?_
  refine XO.call (M := []) (A := _) rfl (oLc rfl oz) rfl no_wl (SubH.refl _) (must_x (caV M)) SubR.nil rfl (fun l hB tm h ht hh => by show _ ∧ _; exact ⟨hB, hh.fr⟩) (fun v74 D74 hP74 => ?_)
  obtain ⟨⟨rfl, rfl⟩, hca⟩ := hP74
  refine XO.nil ?_
  refine XEnd.K ?_
  refine Ev.X.w (W.reg ?_)
  refine WO.q (Q.move rfl) rfl ?_
  refine WO.q (Q.move rfl) rfl ?_
  refine WO.q (Q.nilP rfl) rfl ?_
  refine WO.q (Q.fieldAddr fa178_3 rfl (o' := 13) rfl) rfl ?_
  refine WO.store sz22 rfl rfl (i := 1) rfl (ck1 (RSl.cell hR2) rfl) (cs := [_, _, _, _, _, _, _, _, _, _, _, _, _, _, _]) (by rw [cells_of (RSl.cell hR2)]; rfl) (hs' := _ :: _ :: _ :: _ :: _ :: _) rfl ?_
  refine WO.nil ?_
  refine XEnd.KB (XEnd.K ?_)
  refine Ev.X.w (W.reg ?_)
  refine WO.q (Q.bin rfl (oc (v := .int .i64 ((1 : Nat) : Int)) rfl) rfl (bv_add (c := (((1 : Nat)) : Int)) (by decide))) rfl ?_
  refine WO.q (Q.move rfl) rfl ?_
  refine WO.nil ?_
  refine XEnd.KL ?_
  refine Ev.X.loop ?_
  refine Ev.X.seq ?_
  refine Ev.X.w (W.reg ?_)
  refine WO.q (Q.bin rfl rfl rfl (bvl (p := false) rfl)) rfl ?_
  refine WO.nil ?_
  refine XEnd.K ?_
  refine Ev.X.seq ?_
  refine Ev.X.condF rfl ?_
  refine Ev.X.exit ?_
  refine XEnd.K_exit (XEnd.KL_exit (XEnd.KB_hit (XEnd.fall ResL.nil (hs' := ⟨ob, ⟨15, true, [.int .i64 ((2 : Nat) : Int), .str [], .int .i64 0, vm, .int .i64 0, .int .i64 ((o : Nat) : Int), .int .i64 0, .nils, .int .i64 0, .bool false, .nils, .nils, .int .i64 0, u2, .func 121 [.tuple [], .ptr X 0]]⟩, true⟩ :: D70) ⟨rfl, u2, R2, D70, rfl, hR2, hR2A, hR2c, hR2l, hD70, hca⟩ (fun e he => by rcases List.mem_cons.1 he with rfl | he; rfl; exact hD70 e he) (SubH.trans (SubH.pre (L := [_]) (SubH.trans (b := hs ++ D70) (SubH.of_sublist (List.sublist_append_right _ _)) (SubH.of_sublist (List.sublist_append_right [_, _, _] _)))) (SubH.of_sublist (List.sublist_cons_self _ _))))))

noncomputable section
def RetR (cfg : XCfg) (tb : Tab) (rs : List ResultVar) (E : Env) (Post : AV → HSt → Prop) : RRes → Prop
 | .go .normal tm h _ => RetQ tb rs E Post .normal tm h
 | .go .ret tm h _ => RetQ tb rs E Post .ret tm h
 | .boom l tm h (some (g, caps)) => ∃ h', cfg.rcv g caps l h = some h' ∧ RetQ tb rs E Post .ret tm h'
 | _ => False
section
variable {cfg : XCfg} {tb : Tab} {n : Nat} {E : Env} {s : St} {hs : HSt} {d : Dfr} {Q : RRes → Prop}
theorem XEnd.retR {rs : List ResultVar} {Post : AV → HSt → Prop} {l : List AV} {hs' : HSt} (hr : ResL tb s hs rs l) (hP : Post (oneOf l) hs') (hw : ∀ e ∈ hs', e.w = true) (hsub : SubH hs' hs) : End E s hs (fun tm h => RetR cfg tb rs E Post (.go .ret tm h d)) := End.ret hr hP hw hsub
theorem SpecX.enterR {f : Nat} {args : List AV} {S : List Nat} {Post : AV → HSt → Prop} {B : List AV → Prop} {fn : Func} {c : Code} {m : Nat} {rs : List ResultVar} {st : St} (hf : tb.ft.get f = some fn) (hb : fn.body = some c) (hm : fn.ntmps = m) (hr : fn.results.toList = rs) (hst : argSt 0 args = st)
  (hn : Nat.ble args.length m = true) (ho : ∀ h, tb.orc f args h = none) (hth : cfg.thr f args = none)
  (hk : ∀ E, X cfg tb m c E st hs none (RetR cfg tb rs E Post)) : SpecX cfg tb f args S hs Post B := by
 subst hm hr hst
 intro h hh
 obtain ⟨r, hE, hQ⟩ := hk ⟨h, S⟩ (argTmps 0 args .leaf) h (has_args args) hh
 have key : ∀ tm h' r, (∃ l hs', resultsA tb tm h' fn.results.toList = some l ∧ Post (oneOf l) hs' ∧ (∀ e ∈ hs', e.w = true) ∧ HS ⟨h, S⟩ hs' h') → leaveX cfg tb fn.results.toList (some r) = endX tb fn.results.toList tm h' → (Evt fun K => runX cfg tb K fn.ntmps c (argTmps 0 args .leaf) h none = some r) →
   ∃ r, (Evt fun K => evCallX cfg tb (runX cfg tb K) f args h = some r) ∧ match r with
    | .ret v h' => ∃ D, Post v D ∧ (∀ e ∈ D, e.w = true) ∧ HS ⟨h, S⟩ D h'
    | .boom l h' => B l ∧ Fr S h h' := by
  rintro tm h' r ⟨l, hs', h1, h2, h3, h4⟩ hl hE
  refine ⟨.ret (oneOf l) h', hE.mono fun K hK => ?_, hs', h2, h3, h4⟩
  unfold evCallX
  simp only [ho h, hth, hf, hb, hn, hK, hl]
  unfold endX
  rw [h1]
 cases r with
 | go ex tm h' dd =>
  cases ex with
  | exit i => exact hQ.elim
  | normal => exact key tm h' _ hQ rfl hE
  | ret => exact key tm h' _ hQ rfl hE
 | boom l tm h' dd =>
  cases dd with
  | none => exact hQ.elim
  | some x =>
   obtain ⟨h2, e2, hQ⟩ := hQ
   refine key tm h2 _ hQ ?_ hE
   show (match cfg.rcv x.1 x.2 l h' with
    | some h' => endX tb fn.results.toList tm h'
    | none => none) = _
   rw [e2]
theorem XO.defer {ops rest : List Oper} {ty : TypeId} {pos : String} {aft : Array Edge} {of : Operand} {ts : Array TypeId} {g : Nat} {caps : List AV} (hf : oL s of = some (.func g caps)) (hm : isMeth caps = none) (hr : cfg.isR g caps = true)
  (hk : XO cfg tb n ops rest E s hs (some (g, caps)) Q) : XO cfg tb n ops (⟨none, .defer ⟨.value of, #[], ts⟩, ty, pos, aft, none⟩ :: rest) E s hs none Q := by
 intro tm h ht hh
 obtain ⟨r, hE, hQ⟩ := hk tm h ht hh
 refine ⟨r, hE.mono fun K e1 => ?_, hQ⟩
 conv => lhs; unfold evOpsX
 have h1 : callNow (evCallX cfg tb (runX cfg tb K)) ops tm h ⟨none, .defer ⟨.value of, #[], ts⟩, ty, pos, aft, none⟩ = none := rfl
 have h2 : deferOp cfg tm ⟨none, .defer ⟨.value of, #[], ts⟩, ty, pos, aft, none⟩ = some (g, caps) := by
  show (match opnd tm of with
   | some (.func g caps) => match isMeth caps, cfg.isR g caps with
    | none, true => some (g, caps)
    | _, _ => none
   | _ => none) = _
  rw [oL_ok ht hf]
  simp only [hm, hr]
 rw [h1, h2]
 exact e1
theorem perm_erase : ∀ {l : HSt} {i : Nat} {e : HE}, l[i]? = some e → (e :: l.eraseIdx i).Perm l
 | [], i, e, h => by simp at h
 | x :: l, 0, e, h => by
  have : x = e := by simpa using h
  subst this
  exact .refl _
 | x :: l, i + 1, e, h => (List.Perm.swap x e _).trans (.cons x (perm_erase (by simpa using h)))
theorem sub_erase {hs : HSt} {i : Nat} {e : HE} (h : hs[i]? = some e) : SubH (e :: hs.eraseIdx i) hs := by
 exact SubH.op (perm_erase h)
theorem XO.call1 {ops rest : List Oper} {k : Nat} {ty : TypeId} {pos : String} {aft : Array Edge} {of : Operand} {args : List Operand} {ts : Array TypeId} {g i b : Nat} {caps l l' : List AV} {ob : AObj} {hsc hs' : HSt} {Post : AV → HSt → Prop} {B : List AV → Prop}
  (hf : oL s of = some (.func g caps)) (ha : oLs s args = some l) (hl : argsOf l caps = l') (hi : hs[i]? = some ⟨b, ob, true⟩) (hsp : SpecX cfg tb g l' [b] (⟨b, ob, true⟩ :: hsc) Post B) (hsub : SubR hsc hs') (he : hs.eraseIdx i = hs') (hd : Nat.blt k n = true)
  (hb : ∀ l, B l → End E s hs' fun tm h => Q (.boom l tm h d)) (hk : ∀ v D, Post v D → XO cfg tb n ops rest E ((k, v) :: s) (D ++ hs') d Q) :
  XO cfg tb n ops (⟨some k, .call ⟨.value of, args.toArray, ts⟩, ty, pos, aft, none⟩ :: rest) E s hs d Q := by
 subst he
 exact XO.call (M := [⟨b, ob, true⟩]) (A := hs.eraseIdx i) hf ha hl ww_all (sub_erase hi) hsp hsub hd hb hk
theorem HS.st {t i b o m : Nat} {ob : AObj} {v : AV} {cs : List AV} {h : AHeap} (hh : HS E hs h) (hz : tb.size t = some m) (hm : hs[i]? = some ⟨b, ob, true⟩)
  (hb : (Nat.beq v.cells.length m && Nat.ble (o + m) ob.cells.length && v.cells.all AV.isCell) = true) (hc : layL ob.cells o v.cells = cs) (hz0 : Nat.blt 0 ob.sz = true) :
  storeA tb h t b o v = some (.tuple [], ⟨h.next, h.objs.set b ⟨ob.sz, ob.exact_, cs⟩⟩) := by
 unfold storeA
 have h1 := (hh.at_ _ (mem_at hm)).1
 simp only at h1
 simp only [hz, h1, hb, hc, hz0]
end
theorem pz37 : tabP.zero 37 = some (.agg [.int .i64 0, .nils]) := by kernel_rfl
theorem ps37 : tabP.size 37 = some 2 := by kernel_rfl
theorem ps3 : tabP.size 3 = some 1 := by kernel_rfl
theorem ps38 : tabP.size 38 = some 1 := by kernel_rfl
theorem End.rcv {E : Env} {s : St} {hs hs1 hs2 hs3 : HSt} {rs : List ResultVar} {Post : AV → HSt → Prop} {g i j k b2 b3 b4 : Nat} {x2 x3 x4 : Bool} {c0 c1 c2 c3 : AV} {e : Int}
  (hi : hs[i]? = some ⟨b2, ⟨2, x2, [c0, c1]⟩, true⟩) (h1 : hs.set i ⟨b2, ⟨2, x2, [.int .i64 0, .nils]⟩, true⟩ = hs1)
  (hj : hs1[j]? = some ⟨b3, ⟨1, x3, [c2]⟩, true⟩) (h2 : hs1.set j ⟨b3, ⟨1, x3, [.int .i64 0]⟩, true⟩ = hs2)
  (hk : hs2[k]? = some ⟨b4, ⟨1, x4, [c3]⟩, true⟩) (h3 : hs2.set k ⟨b4, ⟨1, x4, [.int .i64 e]⟩, true⟩ = hs3)
  (hE : End E s hs3 (RetQ tab rs E Post .ret)) : End E s hs (fun tm h => ∃ h', xcfg.rcv g [.ptr b2 0, .ptr b3 0, .ptr b4 0] [.int .i64 e] h = some h' ∧ RetQ tab rs E Post .ret tm h') := by
 intro tm h ht hh
 subst h1 h2 h3
 have e1 := hh.st (tb := tabP) (t := 37) (v := .agg [.int .i64 0, .nils]) (o := 0) ps37 hi rfl rfl rfl
 have hh1 := hh.put (ob' := ⟨2, x2, [.int .i64 0, .nils]⟩) hi
 have e2 := hh1.st (tb := tabP) (t := 3) (v := .int .i64 0) (o := 0) ps3 hj rfl rfl rfl
 have hh2 := hh1.put (ob' := ⟨1, x3, [.int .i64 0]⟩) hj
 have e3 := hh2.st (tb := tabP) (t := 38) (v := .int .i64 e) (o := 0) ps38 hk rfl rfl rfl
 have hh3 := hh2.put (ob' := ⟨1, x4, [.int .i64 e]⟩) hk
 refine ⟨_, ?_, hE tm _ ht hh3⟩
 rw [show xcfg.rcv = rcvX tabP from rfl]
 unfold rcvX
 simp only [pz37, e1]
 rw [show layL [c0, c1] 0 (AV.agg [.int .i64 0, .nils]).cells = [.int .i64 0, .nils] from rfl, e2]
 simp only
 rw [show layL [c2] 0 (AV.int .i64 0).cells = [.int .i64 0] from rfl, e3]
 rfl
end
end Go.Proofs.YtfkbfnpjggkdmaaGreatDoor.Ev
