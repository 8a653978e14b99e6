/- Chapter 21: a plan of one instruction made ready, asked, paid for. -/
import Derived.Test.YtfkbfnpjggkdmaaGreatDoorOEa7
namespace Go.Proofs.YtfkbfnpjggkdmaaGreatDoor.Ev
open Go.RowKit
set_option maxRecDepth 100000
set_option maxHeartbeats 1000000
theorem SubH.at3 {hs : HSt} {i j k : Nat} {x y z : HE} (hi : hs[i]? = some x) (hj : hs[j]? = some y) (hk : hs[k]? = some z) (hne : i ≠ j ∧ i ≠ k ∧ j ≠ k) : SubH [x, y, z] hs := by
 refine ⟨fun e he => ?_, fun hn => ?_⟩
 ·simp only [List.mem_cons, List.not_mem_nil, or_false] at he
  rcases he with rfl | rfl | rfl
  ·exact mem_at hi
  ·exact mem_at hj
  ·exact mem_at hk
 ·have key : ∀ {p q : Nat} {a b : HE}, hs[p]? = some a → hs[q]? = some b → p ≠ q → a.b ≠ b.b := fun {p q a b} hp hq hpq e => hpq (nodup_at hn (x := a.b) (by rw [List.getElem?_map, hp]; rfl) (by rw [List.getElem?_map, hq, e]; rfl))
  simp only [List.map_cons, List.map_nil, List.nodup_cons, List.mem_cons, List.not_mem_nil, or_false, not_or, not_false_eq_true, List.nodup_nil, and_true]
  exact ⟨⟨key hi hj hne.1, key hi hk hne.2.1⟩, key hj hk hne.2.2⟩
theorem ag130 : tab.isAgg 130 = some false := by kernel_rfl
theorem ap130_130 : AP tab 130 130 = some 1 := by kernel_rfl
theorem bx178 : ∀ l : List AV, l.length = 15 → varObj tab 178 l = ⟨15, true, l⟩ := by intro l h; exact varObj_plain (by kernel_rfl) h
theorem fa132_0 : FA tab 132 0 = some (0, 0 + 1) := by kernel_rfl
theorem pl178 : PL tab 178 [.int .i64 0, .str [], .int .i64 0, .nils, .int .i64 0, .int .i64 0, .int .i64 0, .nils, .int .i64 0, .bool false, .nils, .nils, .int .i64 0, .nils, .nilf] [(0, 11), (11, 1), (12, 1), (13, 1), (14, 1)] = true := by kernel_rfl
theorem sz130 : tab.size 130 = some 1 := by kernel_rfl
theorem sz174 : tab.size 174 = some 1 := by kernel_rfl
theorem ud130 : tab.und 130 = some (.slice 174) := by kernel_rfl
theorem zr174 : tab.zero 174 = some (.nilp) := by kernel_rfl
theorem meth_spec (hs : HSt) (hro : ∀ e ∈ hs, e.w = false) (M : List MtT) (vm : AV) (hM : ISm hs M vm) (hok : MOk M) (o : Nat) (X : Nat) : Spec tab 91 [.ptr X 0, .agg [.int .i64 ((2 : Nat) : Int), .str [], .int .i64 0, vm, .int .i64 0, .int .i64 ((o : Nat) : Int), .int .i64 0, .nils, .int .i64 0, .bool false, .nils], .nils] [] hs (Val (.func 121 [.tuple [], .ptr X 0])) := by
 refine Spec.en (ftg 91 Tryz.func91) rfl (m := 73) rfl (rs := [.tmp 6]) rfl (st := [(0, .ptr X 0), (1, .agg [.int .i64 ((2 : Nat) : Int), .str [], .int .i64 0, vm, .int .i64 0, .int .i64 ((o : Nat) : Int), .int .i64 0, .nils, .int .i64 0, .bool false, .nils]), (2, .nils)]) rfl rfl (fun _ => rfl) (fun E => ?_)
 refine W.seq ?_
 refine W.reg ?_
 refine WO.box rfl (andb rfl (andb rfl (andb rfl (andb hM.cell rfl)))) (bx53 _ rfl) rfl (fun b1 => ?_)
 refine WO.q (Q.assign rfl) rfl ?_
 refine WO.nil ?_
 refine End.K ?_
 refine W.seq ?_
 refine W.seq ?_
 refine W.reg ?_
 refine WO.q (Q.fieldAddr fa53_0 rfl (o' := 0) rfl) rfl ?_
 refine WO.q (Q.l1 rfl (mem_at (i := 0) rfl) ag3 rfl) rfl ?_
 refine WO.nil ?_
 refine End.K ?_
 refine W.block ?_
 refine W.seq ?_
 refine W.reg ?_
 refine WO.q (Q.bin rfl (oc (v := .int .i64 ((1 : Nat) : Int)) rfl) rfl (bv_eql (p := false) rfl)) rfl ?_
 refine WO.q (Q.assign rfl) rfl ?_
 refine WO.nil ?_
 refine End.K ?_
 refine W.condF rfl ?_
 refine W.seq ?_
 refine W.reg ?_
 refine WO.q (Q.bin rfl (oc (v := .int .i64 ((2 : Nat) : Int)) rfl) rfl (bv_eql (p := true) rfl)) rfl ?_
 refine WO.q (Q.assign rfl) rfl ?_
 refine WO.nil ?_
 refine End.K ?_
 refine W.condT rfl ?_
 refine W.seq ?_
 refine W.seq ?_
 refine W.reg ?_
 refine WO.q (Q.fieldAddr fa53_4 rfl (o' := 4) rfl) rfl ?_
 refine WO.q (Q.l1 rfl (mem_at (i := 0) rfl) ag3 rfl) rfl ?_
 refine WO.q (Q.bin rfl (oc (v := .int .i64 ((0 : Nat) : Int)) rfl) rfl (bv_gtr (p := false) rfl)) rfl ?_
 refine WO.nil ?_
 refine End.K ?_
 refine W.condF rfl ?_
 refine W.skip ?_
 refine End.K ?_
 refine W.seq ?_
 refine W.reg ?_
 refine WO.q (Q.move rfl) rfl ?_
 refine WO.q (Q.makeM rfl) rfl ?_
 refine WO.q (Q.assign rfl) rfl ?_
 refine WO.nil ?_
 refine End.K ?_
 refine W.sub (SubS.cons (k := 6) rfl (SubS.nil _)) ?_
 refine W.ret ?_
 refine End.Br (End.Kr (End.rV (ResL.tmp rfl ResL.nil) ?_))
 rfl

theorem load_spec (hs : HSt) (hro : ∀ e ∈ hs, e.w = false) (M : List MtT) (vm : AV) (hM : ISm hs M vm) (hok : MOk M) (o : Nat) (pb : Nat) (xpb : Bool) (X : Nat) (xX : Bool) (B : Int) : Spec tab 54 [.ptr X 0, .slice pb 0 1 12] [X] (⟨X, ⟨3, xX, [.nils, .int .i64 B, .int .i64 0]⟩, true⟩ :: ⟨pb, ⟨12, xpb, [.int .i64 ((2 : Nat) : Int), .str [], .int .i64 0, vm, .int .i64 0, .int .i64 ((o : Nat) : Int), .int .i64 0, .nils, .int .i64 0, .bool false, .nils, .nils]⟩, false⟩ :: hs) (fun v D => v = .tuple [] ∧ ∃ lb ob xl, D = [⟨lb, ⟨1, xl, [.ptr ob 0]⟩, true⟩, ⟨X, ⟨3, xX, [.slice lb 0 1 1, .int .i64 B, .int .i64 0]⟩, true⟩, ⟨ob, ⟨15, true, [.int .i64 ((2 : Nat) : Int), .str [], .int .i64 0, vm, .int .i64 0, .int .i64 ((o : Nat) : Int), .int .i64 0, .nils, .int .i64 0, .bool false, .nils, .nils, .int .i64 0, .nils, .func 121 [.tuple [], .ptr X 0]]⟩, true⟩]) := by
 refine Spec.en (ftg 54 Tryz.func54) rfl (m := 60) rfl (rs := []) rfl (st := [(0, .ptr X 0), (1, .slice pb 0 1 12)]) rfl rfl (fun _ => rfl) (fun E => ?_)
 refine W.seq ?_
 refine W.reg ?_
 refine WO.q (Q.move rfl) rfl ?_
 refine WO.q (Q.len ud26 rfl rfl) rfl ?_
 refine WO.q (Q.move (oc (v := .int .i64 ((0 : Nat) : Int)) rfl)) rfl ?_
 refine WO.nil ?_
 refine End.K ?_
 refine W.block ?_
 refine W.loop ?_
 refine W.seq ?_
 refine W.reg ?_
 refine WO.q (Q.bin rfl rfl rfl (bvl (p := true) rfl)) rfl ?_
 refine WO.nil ?_
 refine End.K ?_
 refine W.seq ?_
 refine W.condT rfl ?_
 refine W.skip ?_
 refine End.K ?_
 refine W.seq ?_
 refine W.block ?_
 refine W.seq ?_
 refine W.reg ?_
 refine WO.q (Q.iaddrL ud26 sz55 rfl rfl zo (o' := 0) rfl) rfl ?_
 refine WO.q (Q.loadN rfl (mem_at (i := 1) rfl) ag55 sz55 (l := [_, _, _, _, _, _, _, _, _, _, _, _]) rfl) rfl ?_
 refine WO.alloc ao55 rfl (fun b1 => ?_)
 refine WO.store sz55 rfl rfl (i := 0) rfl (andb rfl (andb rfl (andb rfl (andb rfl (andb hM.cell rfl))))) (cs := [_, _, _, _, _, _, _, _, _, _, _, _]) rfl (hs' := _ :: _ :: _ :: _) rfl ?_
 refine WO.nil ?_
 refine End.K ?_
 refine W.seq ?_
 refine W.regD 10 _ (by kernel_rfl) (KIn.refl _) ?_
 refine WD.q (Q.fieldAddr fa55_0 rfl (o' := 0) rfl) bqp rfl ?_
 refine WD.q (zL rfl (mem_at (i := 0) rfl) ag53 sz53 rfl) (by rcases hM with ⟨rfl, _⟩ | ⟨b, sz, ex, rfl, _⟩ <;> simp [AV.beq, beq1, beq0, beqz, beqL]) rfl ?_
 refine WD.q (Q.fieldAddr fa55_1 rfl (o' := 11) rfl) bqp rfl ?_
 refine WD.q (Q.l1 rfl (mem_at (i := 0) rfl) ag25 rfl) rfl rfl ?_
 refine WD.q (Q.move rfl) bqp rfl ?_
 refine WD.q (Q.fieldAddr fa55_0 rfl (o' := 0) rfl) bqp rfl ?_
 refine WD.q (zL rfl (mem_at (i := 0) rfl) ag53 sz53 rfl) (by rcases hM with ⟨rfl, _⟩ | ⟨b, sz, ex, rfl, _⟩ <;> simp [AV.beq, beq1, beq0, beqz, beqL]) rfl ?_
 refine WD.q (Q.fieldAddr fa55_1 rfl (o' := 11) rfl) bqp rfl ?_
 refine WD.q (Q.l1 rfl (mem_at (i := 0) rfl) ag25 rfl) rfl rfl ?_
 refine WD.callV rfl (oLc rfl (oLc rfl (oLc rfl oz))) rfl (meth_spec hs hro M vm hM hok o X) (SubR.t (SubR.t (SubR.t (SubR.s hro)))) (KIn.refl _) rfl ?_
 refine WD.q (Q.build pl178 (opc rfl (opc rfl (opc rfl opn))) rfl (cs := [_, _, _, _, _, _, _, _, _, _, _, _, _, _, _]) (by simp only [fillA, cells_of hM.cell]; rfl)) (by rcases hM with ⟨rfl, _⟩ | ⟨b, sz, ex, rfl, _⟩ <;> simp [AV.beq, beq1, beq0, beqz, beqL]) rfl ?_
 refine WD.box rfl (andb rfl (andb rfl (andb rfl (andb hM.cell rfl)))) (bx178 _ rfl) rfl (KIn.refl _) (fun bo => ?_)
 refine WD.q (Q.assign rfl) bqp rfl ?_
 refine WD.nil ?_
 refine End.K ?_
 refine W.sub (SubS.cons (k := 6) rfl (SubS.cons (k := 5) rfl (SubS.cons (k := 11) rfl (SubS.cons (k := 10) rfl (SubS.cons (k := 9) rfl (SubS.cons (k := 0) rfl (SubS.nil _))))))) ?_
 refine W.seq ?_
 refine W.seq ?_
 refine W.reg ?_
 refine WO.q (Q.fieldAddr fa55_1 rfl (o' := 11) rfl) rfl ?_
 refine WO.q (Q.l1 rfl (mem_at (i := 1) rfl) ag25 rfl) rfl ?_
 refine WO.q (Q.len ud25 rfl rfl) rfl ?_
 refine WO.q (Q.move (oc (v := .int .i64 ((0 : Nat) : Int)) rfl)) rfl ?_
 refine WO.nil ?_
 refine End.K ?_
 refine W.block ?_
 refine W.loop ?_
 refine W.seq ?_
 refine W.reg ?_
 refine WO.q (Q.bin rfl rfl rfl (bvl (p := false) rfl)) rfl ?_
 refine WO.nil ?_
 refine End.K ?_
 refine W.seq ?_
 refine W.condF rfl ?_
 refine W.exit ?_
 refine End.Kx (End.Lx (End.Bh (End.K ?_)))
 refine W.reg ?_
 refine WO.q (Q.move rfl) rfl ?_
 refine WO.q (Q.move rfl) rfl ?_
 refine WO.q (Q.nilP rfl) rfl ?_
 refine WO.q (Q.fieldAddr fa132_0 rfl (o' := 0) rfl) rfl ?_
 refine WO.q (Q.l1 rfl (mem_at (i := 2) rfl) ag130 rfl) rfl ?_
 refine WO.q (Q.move rfl) rfl ?_
 refine WO.bslice ud130 sz174 zr174 rfl (opc rfl opn) rfl (cs := [_]) rfl rfl rfl (fun b3 => ?_)
 refine WO.appNil (e := ⟨b3, _, true⟩) (A := ([_, _, _, _] ++ hs)) ap130_130 rfl rfl rfl rfl ⟨by first | omega | (simp at * <;> omega), by first | omega | (simp at * <;> omega)⟩ (by decide) rfl rfl (fun v56 hp56 hO56 => ?_)
 obtain ⟨b56, ex56, rfl, rfl⟩ := hO56.full (by omega)
 refine WO.subH (hs' := _ :: (([_, _, _, _] ++ hs))) (SubH.op (List.perm_append_singleton _ _).symm) ?_
 refine WO.q (Q.nilP rfl) rfl ?_
 refine WO.q (Q.fieldAddr fa132_0 rfl (o' := 0) rfl) rfl ?_
 refine zS3 sz130 rfl rfl (i := 3) rfl rfl rfl (hs' := _ :: _ :: _ :: _ :: _ :: _) rfl ?_
 refine WO.nil ?_
 refine End.KB (End.K ?_)
 refine W.sub (SubS.cons (k := 11) rfl (SubS.cons (k := 10) rfl (SubS.cons (k := 9) rfl (SubS.cons (k := 0) rfl (SubS.nil _))))) ?_
 refine W.reg ?_
 refine WO.q (Q.bin rfl (oc (v := .int .i64 ((1 : Nat) : Int)) rfl) rfl (bv_add (c := (((1 : Nat)) : Int)) (by decide))) rfl ?_
 refine WO.q (Q.move rfl) rfl ?_
 refine WO.nil ?_
 refine End.KL ?_
 refine W.loop ?_
 refine W.seq ?_
 refine W.reg ?_
 refine WO.q (Q.bin rfl rfl rfl (bvl (p := false) rfl)) rfl ?_
 refine WO.nil ?_
 refine End.K ?_
 refine W.seq ?_
 refine W.condF rfl ?_
 refine W.exit ?_
 refine End.Kx (End.Lx (End.Bh (End.fall ResL.nil (hs' := [⟨b56, ⟨1, ex56, [.ptr bo 0]⟩, true⟩, ⟨X, _, true⟩, ⟨bo, _, true⟩]) ⟨rfl, b56, bo, ex56, rfl⟩ ww_all (SubH.at3 (i := 0) (j := 3) (k := 1) rfl rfl rfl (by decide)))))

abbrev El := AV × List Lab × Int
abbrev cE (V : List El) : List AV := c2 (fun x : El => x.1) (fun x : El => .int .i64 x.2.2) V
def ed0 : El := (.nils, [], 0)
def RPos (R : List Ser) : Prop := ∀ x ∈ R, 0 < x.2.2.2.length
def momE (R : List Ser) (e : Int) : List El := R.filterMap fun x => (insO x.2.2.2 e).map fun s => (x.1, x.2.1, s.2)
theorem mom_at {R : List Ser} {e : Int} {i : Nat} (h : i < R.length) : momE (R.take (i + 1)) e = momE (R.take i) e ++ ((insO (rg R i).2.2.2 e).map fun s => ((rg R i).1, (rg R i).2.1, s.2)).toList := by
 rw [take_snoc R sd0 h]
 unfold momE
 rw [List.filterMap_append]
 congr 1
theorem mom_no {R : List Ser} {e : Int} {i : Nat} (h : i < R.length) (g : insO (rg R (0 + i)).2.2.2 e = none) : momE (R.take (i + 1)) e = momE (R.take i) e := by
 rw [Nat.zero_add] at g
 rw [mom_at h, g]
 exact List.append_nil _
theorem mom_yes {R : List Ser} {e : Int} {i : Nat} {x : Smp} (h : i < R.length) (g : insO (rg R (0 + i)).2.2.2 e = some x) : momE (R.take (i + 1)) e = momE (R.take i) e ++ [((rg R (0 + i)).1, (rg R (0 + i)).2.1, x.2)] := by
 rw [Nat.zero_add] at g ⊢
 rw [mom_at h, g]
 rfl
theorem mom_len (R : List Ser) (e : Int) (i : Nat) : (momE (R.take i) e).length ≤ i := by
 refine Nat.le_trans (List.length_filterMap_le _ _) ?_
 rw [List.length_take]
 omega
theorem ins_cases {S : List Smp} {e : Int} {v : AV} {D : HSt} (h : Val (insV S e) v D) : (insO S e = none ∧ v = .tuple [.agg [.int .i64 0, .int .i64 0], .bool false]) ∨ ∃ x : Smp, insO S e = some x ∧ v = .tuple [.agg [.int .i64 x.1, .int .i64 x.2], .bool true] := by
 have h := h.1
 unfold insV at h
 cases hi : insO S e with
 | none => rw [hi] at h; exact .inl ⟨rfl, h⟩
 | some x => rw [hi] at h; exact .inr ⟨x, rfl, h⟩
theorem SubH.pre {L a b : HSt} (h : SubH a b) : SubH (L ++ a) (L ++ b) := by
 refine ⟨fun e he => ?_, fun hn => ?_⟩
 ·rcases List.mem_append.1 he with he | he
  ·exact List.mem_append_left _ he
  ·exact List.mem_append_right _ (h.1 e he)
 ·rw [List.map_append] at hn ⊢
  obtain ⟨h1, h2, h3⟩ := List.nodup_append.1 hn
  refine List.nodup_append.2 ⟨h1, h.2 h2, fun x hx y hy => ?_⟩
  obtain ⟨e, he, rfl⟩ := List.mem_map.1 hy
  exact h3 x hx e.b (List.mem_map.2 ⟨e, h.1 e he, rfl⟩)
theorem fill2i {a : AV} {n : Int} (ha : a.isCell = true) : fillA (fun i => [(0, 1), (1, 1)][i]?) [.nils, .int .i64 0] [(0, a), (1, .int .i64 n)] = some [a, .int .i64 n] := by
 simp only [fillA, cells_of ha]; rfl
theorem lay_2 {a0 a1 a2 v : AV} {b : List AV} (h : v.isCell = true) : layL (a0 :: a1 :: a2 :: b) 2 v.cells = a0 :: a1 :: v :: b := by rw [cells_of h]; simp [layL]
theorem own_e {O : List El} {x : El} {v : AV} {ho : HSt} (h : OwnE 2 (cE O ++ [x.1, .int .i64 x.2.2]) (O.length + 1) v ho) : OwnE 2 (cE (O ++ [x])) (O ++ [x]).length v ho := by
 have e1 : cE (O ++ [x]) = cE O ++ [x.1, .int .i64 x.2.2] := by rw [cE, c2_append]; rfl
 rw [e1, List.length_append]
 exact h
theorem ag136 : tab.isAgg 136 = some true := by kernel_rfl
theorem ag57 : tab.isAgg 57 = some false := by kernel_rfl
theorem ao136 : AO tab 136 = some ⟨4, true, [.int .i64 0, .int .i64 0, .nils, .nils]⟩ := by kernel_rfl
theorem ap57_57 : AP tab 57 57 = some 2 := by kernel_rfl
theorem fa132_1 : FA tab 132 1 = some (1, 0 + 1) := by kernel_rfl
theorem fa132_2 : FA tab 132 2 = some (2, 0 + 1) := by kernel_rfl
theorem fa136_2 : FA tab 136 2 = some (2, 0 + 1) := by kernel_rfl
theorem fa178_0 : FA tab 178 0 = some (0, 10 + 1) := by kernel_rfl
theorem fa178_3 : FA tab 178 3 = some (13, 0 + 1) := by kernel_rfl
theorem fa72_1 : FA tab 72 1 = some (1, 0 + 1) := by kernel_rfl
theorem pl136 : PL tab 136 [.int .i64 0, .int .i64 0, .nils, .nils] [(0, 1), (1, 1), (2, 1), (3, 1)] = true := by kernel_rfl
theorem pl65 : PL tab 65 [.nils, .int .i64 0] [(0, 1), (1, 1)] = true := by kernel_rfl
theorem sz136 : tab.size 136 = some 4 := by kernel_rfl
theorem sz57 : tab.size 57 = some 1 := by kernel_rfl
theorem sz65 : tab.size 65 = some 2 := by kernel_rfl
theorem ud57 : tab.und 57 = some (.slice 65) := by kernel_rfl
theorem zr65 : tab.zero 65 = some (.agg [.nils, .int .i64 0]) := by kernel_rfl
theorem pay_spec (X : Nat) (xX : Bool) (ops : AV) (c n : Nat) (hn : n ≤ 256) (hc : c + n ≤ 1099511627776) : Spec tab 151 [.ptr X 0, .int .i64 ((n : Nat) : Int), .int .i64 ((n : Nat) : Int)] [X] [⟨X, ⟨3, xX, [ops, .int .i64 ((1099511627776 : Nat) : Int), .int .i64 ((c : Nat) : Int)]⟩, true⟩] (fun v D => v = .tuple [] ∧ D = [⟨X, ⟨3, xX, [ops, .int .i64 ((1099511627776 : Nat) : Int), .int .i64 ((c + n : Nat) : Int)]⟩, true⟩]) := by
 refine Spec.en (ftg 151 Tryz.func151) rfl (m := 34) rfl (rs := []) rfl (st := [(0, .ptr X 0), (1, .int .i64 ((n : Nat) : Int)), (2, .int .i64 ((n : Nat) : Int))]) rfl rfl (fun _ => rfl) (fun E => ?_)
 refine W.seq ?_
 refine W.reg ?_
 refine WO.q (Q.move rfl) rfl ?_
 refine WO.q (Q.nilP rfl) rfl ?_
 refine WO.q (Q.fieldAddr fa132_2 rfl (o' := 2) rfl) rfl ?_
 refine WO.q (Q.l1 rfl (mem_at (i := 0) rfl) ag3 rfl) rfl ?_
 refine WO.q (Q.move rfl) rfl ?_
 refine WO.q (Q.bin rfl rfl rfl (bv_add (wna zo))) rfl ?_
 refine WO.q (Q.nilP rfl) rfl ?_
 refine WO.q (Q.fieldAddr fa132_2 rfl (o' := 2) rfl) rfl ?_
 refine zS3 sz3 rfl rfl (i := 0) rfl rfl rfl (hs' := [_]) rfl ?_
 refine WO.nil ?_
 refine End.K ?_
 refine W.seq ?_
 refine W.regT (by kernel_rfl) ?_
 refine WO.q (Q.move rfl) rfl ?_
 refine WO.q (Q.nilP rfl) rfl ?_
 refine WO.q (Q.fieldAddr fa132_1 rfl (o' := 1) rfl) rfl ?_
 refine WO.q (Q.l1 rfl (mem_at (i := 0) rfl) ag3 rfl) rfl ?_
 refine WO.q (Q.bin rfl (oc (v := .int .i64 ((0 : Nat) : Int)) rfl) rfl (bvl (p := false) rfl)) rfl ?_
 refine WO.q (Q.move rfl) rfl ?_
 refine WO.gT rfl rfl ?_
 refine WO.q (Q.move rfl) rfl ?_
 refine WO.gT rfl rfl ?_
 refine WO.q (Q.nilP rfl) rfl ?_
 refine WO.gT rfl rfl ?_
 refine WO.q (Q.fieldAddr fa132_2 rfl (o' := 2) rfl) rfl ?_
 refine WO.gT rfl rfl ?_
 refine WO.q (Q.l1 rfl (mem_at (i := 0) rfl) ag3 rfl) rfl ?_
 refine WO.gT rfl rfl ?_
 refine WO.q (Q.move rfl) rfl ?_
 refine WO.gT rfl rfl ?_
 refine WO.q (Q.nilP rfl) rfl ?_
 refine WO.gT rfl rfl ?_
 refine WO.q (Q.fieldAddr fa132_1 rfl (o' := 1) rfl) rfl ?_
 refine WO.gT rfl rfl ?_
 refine WO.q (Q.l1 rfl (mem_at (i := 0) rfl) ag3 rfl) rfl ?_
 refine WO.gT rfl rfl ?_
 refine WO.q (Q.bin rfl rfl rfl (bv_leq le_nat)) rfl ?_
 refine WO.q (Q.pF rfl rfl) rfl ?_
 refine WO.cV rfl (oLc rfl (oLc (oc (v := .int .i64 ((18 : Nat) : Int)) rfl) oz)) rfl (ens_spec _ (decide_eq_true (by first | omega | (rw [Nat.sub_self]; decide))) _) SubR.nil rfl ?_
 refine WO.nil ?_
 refine End.K ?_
 refine W.sub (SubS.cons (k := 2) rfl (SubS.nil _)) ?_
 refine W.reg ?_
 refine WO.q (Q.move rfl) rfl ?_
 refine WO.q (Q.bin rfl (oc (v := .int .i64 ((256 : Nat) : Int)) rfl) rfl (bv_leq le_nat)) rfl ?_
 refine WO.cV rfl (oLc rfl (oLc (oc (v := .int .i64 ((3 : Nat) : Int)) rfl) oz)) rfl (ens_spec _ (decide_eq_true (by first | omega | (rw [Nat.sub_self]; decide))) _) SubR.nil rfl ?_
 refine WO.nil ?_
 refine End.fall ResL.nil (hs' := [⟨X, ⟨3, xX, [ops, .int .i64 ((1099511627776 : Nat) : Int), .int .i64 ((c + n : Nat) : Int)]⟩, true⟩]) ⟨rfl, rfl⟩ ww_all (SubH.of_sublist (List.Sublist.refl _))

theorem mom_spec (hs : HSt) (hro : ∀ e ∈ hs, e.w = false) (M : List MtT) (vm : AV) (hM : ISm hs M vm) (hok : MOk M) (o : Nat) (R : List Ser) (sv : AV) (hR : RSl hs R 0 sv) (hRA : RAll hs R) (hRb : RBd R) (hRp : RPos R) (X : Nat) (xX : Bool) (lb ob c : Nat) (hc : c + R.length ≤ 1099511627776) (hR2 : R.length ≤ 256) (av : AV) (t : Nat) (hot : o ≤ t) (ht : t ≤ 1099511627776) : Spec tab 121 [.ptr X 0, .ptr ob 0, av, .int .i64 ((t : Nat) : Int)] [X] (⟨X, ⟨3, xX, [.slice lb 0 1 1, .int .i64 ((1099511627776 : Nat) : Int), .int .i64 ((c : Nat) : Int)]⟩, true⟩ :: ⟨ob, ⟨15, true, [.int .i64 ((2 : Nat) : Int), .str [], .int .i64 0, vm, .int .i64 0, .int .i64 ((o : Nat) : Int), .int .i64 0, .nils, .int .i64 0, .bool false, .nils, .nils, .int .i64 0, sv, .func 121 [.tuple [], .ptr X 0]]⟩, false⟩ :: hs) (fun v D => ∃ ov G, v = .agg [.int .i64 ((2 : Nat) : Int), .int .i64 0, ov, .nils] ∧ D = ⟨X, ⟨3, xX, [.slice lb 0 1 1, .int .i64 ((1099511627776 : Nat) : Int), .int .i64 ((c + (momE R ((t - o : Nat) : Int)).length : Nat) : Int)]⟩, true⟩ :: G ∧ OwnE 2 (cE (momE R ((t - o : Nat) : Int))) (momE R ((t - o : Nat) : Int)).length ov G) := by
 refine Spec.en (ftg 121 Tryz.func121) rfl (m := 58) rfl (rs := [.cell 8 136]) rfl (st := [(0, .ptr X 0), (1, .ptr ob 0), (2, av), (3, .int .i64 ((t : Nat) : Int))]) rfl rfl (fun _ => rfl) (fun E => ?_)
 refine W.seq ?_
 refine W.reg ?_
 refine WO.alloc ao136 rfl (fun b1 => ?_)
 refine WO.nil ?_
 refine End.K ?_
 refine W.seq ?_
 refine W.reg ?_
 refine WO.q (Q.build pl136 (opc (oc (v := .int .i64 ((2 : Nat) : Int)) rfl) opn) rfl (cs := [_, _, _, _]) rfl) rfl ?_
 refine WO.alloc ao136 rfl (fun b2 => ?_)
 refine WO.store sz136 rfl rfl (i := 0) rfl rfl (cs := [_, _, _, _]) rfl (hs' := _ :: _ :: _ :: _ :: _) rfl ?_
 refine WO.nil ?_
 refine End.K ?_
 refine W.seq ?_
 refine W.seq ?_
 refine W.reg ?_
 refine WO.q (Q.move rfl) rfl ?_
 refine WO.q (Q.nilP rfl) rfl ?_
 refine WO.q (Q.fieldAddr fa178_3 rfl (o' := 13) rfl) rfl ?_
 refine WO.q (Q.l1 rfl (mem_at (i := 3) rfl) ag22 rfl) rfl ?_
 refine WO.q (Q.len ud22 rfl (RSl.len hR)) rfl ?_
 refine WO.q (Q.move (oc (v := .int .i64 ((0 : Nat) : Int)) rfl)) rfl ?_
 refine WO.nil ?_
 refine End.K ?_
 refine W.block ?_
 refine W.loop_ind4 (fun (i : Nat) (O : List El) (ov : AV) (ho : HSt) => [(0, .ptr X 0), (1, .ptr ob 0), (3, .int .i64 ((t : Nat) : Int)), (8, .ptr b1 0), (9, .ptr b2 0), (18, sv), (19, .int .i64 ((R.length - 0 : Nat) : Int)), (20, .int .i64 ((i : Nat) : Int))]) (fun (i : Nat) (O : List El) (ov : AV) (ho : HSt) => ⟨b2, ⟨4, true, [.int .i64 ((2 : Nat) : Int), .int .i64 0, ov, .nils]⟩, true⟩ :: ⟨b1, ⟨4, true, [.int .i64 0, .int .i64 0, .nils, .nils]⟩, true⟩ :: ⟨X, ⟨3, xX, [.slice lb 0 1 1, .int .i64 ((1099511627776 : Nat) : Int), .int .i64 ((c : Nat) : Int)]⟩, true⟩ :: ⟨ob, ⟨15, true, [.int .i64 ((2 : Nat) : Int), .str [], .int .i64 0, vm, .int .i64 0, .int .i64 ((o : Nat) : Int), .int .i64 0, .nils, .int .i64 0, .bool false, .nils, .nils, .int .i64 0, sv, .func 121 [.tuple [], .ptr X 0]]⟩, false⟩ :: (hs ++ ho)) (fun (i : Nat) (O : List El) (ov : AV) (ho : HSt) => i ≤ R.length ∧ OwnE 2 (cE O) O.length ov ho ∧ O = momE (R.take i) ((t - o : Nat) : Int)) (fun (i : Nat) (O : List El) (ov : AV) (ho : HSt) => R.length - i) (0) ([]) (.nils) ([]) ⟨Nat.zero_le _, OwnE.nil 2, rfl⟩ (SubS.cons rfl (SubS.cons rfl (SubS.cons rfl (SubS.cons rfl (SubS.cons rfl (SubS.cons rfl (SubS.cons rfl (SubS.cons rfl (SubS.nil _))))))))) (SubH.op (by rw [List.append_nil])) (fun i O ov ho hI0 ih0 => ?_)
 obtain ⟨hi1, hO, hOe⟩ := hI0
 have hOl : O.length ≤ i := by rw [hOe]; exact mom_len _ _ i
 refine W.seq ?_
 refine W.reg ?_
 refine WO.q (Q.bin rfl rfl rfl (bvl ltn)) rfl ?_
 refine WO.nil ?_
 refine End.K ?_
 refine W.seq ?_
 refine W.cD rfl (fun hc21 => ?_) (fun hc21 => ?_)
 ·skip -- L0T
  obtain ⟨br, szr, exr, rfl, wr, mr⟩ := RSl.full hR (by omega)
  have hm0 := rg_mem (R := R) (i := 0 + i) (by omega)
  have hx := hRA _ hm0
  have hxb := hRb.2 _ hm0
  have hxp := hRp _ hm0
  obtain ⟨bs, szs, exs, hbs, ws, ms⟩ := SIn.full hx.2 hxp
  refine W.skip ?_
  refine End.K ?_
  refine W.seq ?_
  refine W.block ?_
  refine W.seq ?_
  refine W.reg ?_
  refine WO.q (Q.iS ud22 sz68 rfl rfl zo) rfl ?_
  refine WO.q (Q.loadN rfl (List.mem_cons_of_mem _ (List.mem_cons_of_mem _ (List.mem_cons_of_mem _ (List.mem_cons_of_mem _ (List.mem_append_left _ mr))))) ag68 sz68 (cR_at zo)) rfl ?_
  refine WO.alloc ao68 rfl (fun b3 => ?_)
  refine WO.store sz68 rfl rfl (i := 0) rfl (andb rfl (ck2 (LIn.cell hx.1) (SIn.cell hx.2))) (cs := [_, _]) rfl (hs' := _ :: _ :: _ :: _ :: _ :: _) rfl ?_
  refine WO.nil ?_
  refine End.K ?_
  refine W.seq ?_
  refine W.regF 9 [0, 1, 2, 3, 4, 5, 6, 7, 8, 9, 10, 11, 13, 14, 12, 15] (by kernel_rfl) (fun base h0 => ?_)
  refine WF.q (Q.fieldAddr fa68_1 rfl (o' := 1) rfl) bqp rfl rfl rfl ?_
  refine WF.q (Q.l1 rfl (mem_at (i := 0) rfl) ag66 rfl) (SIn.bq hx.2) rfl rfl rfl ?_
  refine WF.q (Q.move rfl) bq_int rfl rfl rfl ?_
  refine WF.q (Q.move rfl) bqp rfl rfl rfl ?_
  refine WF.q (Q.nilP rfl) bqp rfl rfl rfl ?_
  refine WF.q (Q.fieldAddr fa178_0 rfl (o' := 0) rfl) bqp rfl rfl rfl ?_
  refine WF.q (Q.fieldAddr fa53_5 rfl (o' := 5) rfl) bqp rfl rfl rfl ?_
  refine WF.q (Q.l1 rfl (mem_at (i := 4) rfl) ag3 rfl) bq_int rfl rfl rfl ?_
  refine WF.q (Q.bin rfl rfl rfl (bv_sub (wns zo))) bq_int rfl rfl rfl ?_
  refine WF.call0 rfl (oLc rfl (oLc rfl oz)) rfl (by rw [hbs]; exact ins_spec hs hro _ bs szs exs ws ms hxb.2 ((t - o : Nat) : Int)) (SubR.t (SubR.t (SubR.t (SubR.t (SubR.t (SubR.appl (SubR.s hro))))))) rfl rfl (fun v34 D34 hP34 => ?_)
  rcases ins_cases hP34 with ⟨hio, rfl⟩ | ⟨x, hio, rfl⟩
  ·skip -- L0Tn
   refine WF.subH (hs' := _ :: _ :: _ :: _ :: _ :: (hs ++ ho ++ D34)) (SubH.op (perm_tail (N := []) (G := D34) (K := [_, _, _, _, _]) (X := hs ++ ho))) ?_
   refine WF.q (Q.move rfl) (by simp [AV.beq, beq1, beq0, beqz, beqL]) rfl rfl rfl ?_
   refine WF.q (Q.extract rfl rfl) (by simp [AV.beq, beq1, beq0, beqz, beqL]) rfl rfl rfl ?_
   refine WF.alloc ao72 rfl rfl rfl (fun b4 => ?_)
   refine WF.store sz72 rfl rfl (j := 0) rfl rfl (cs := [_, _]) rfl (hs' := _ :: _ :: _ :: _ :: _ :: _ :: _) rfl rfl ?_
   refine WF.q (Q.extract rfl rfl) bq_bool rfl rfl rfl ?_
   refine WF.q (Q.assign rfl) bq_bool rfl rfl rfl ?_
   refine WF.nil rfl ?_
   refine End.K ?_
   refine W.sub (SubS.cons (k := 13) rfl (SubS.cons (k := 12) rfl (SubS.cons (k := 11) rfl (SubS.cons (k := 0) rfl (SubS.cons (k := 1) rfl (SubS.cons (k := 3) rfl (SubS.cons (k := 8) rfl (SubS.cons (k := 9) rfl (SubS.cons (k := 18) rfl (SubS.cons (k := 19) rfl (SubS.cons (k := 20) rfl (SubS.nil _)))))))))))) ?_
   refine W.seq ?_
   refine W.reg ?_
   refine WO.q (Q.move rfl) rfl ?_
   refine WO.nil ?_
   refine End.K ?_
   refine W.condF rfl ?_
   refine W.skip ?_
   refine End.KB (End.K ?_)
   refine W.reg ?_
   refine WO.q (Q.bin rfl (oc (v := .int .i64 ((1 : Nat) : Int)) rfl) rfl (bv_add (wna zo))) rfl ?_
   refine WO.q (Q.move rfl) rfl ?_
   refine WO.nil ?_
   refine End.KL ?_
   refine W.sub (SubS.cons rfl (SubS.cons rfl (SubS.cons rfl (SubS.cons rfl (SubS.cons rfl (SubS.cons rfl (SubS.cons rfl (SubS.cons rfl (SubS.nil _))))))))) (W.sH (SubH.trans (SubH.pre (L := [_, _, _, _]) gc) (SubH.of_sublist (List.sublist_append_right [_, _] _))) (ih0 (i + 1) (O) (ov) (ho) ?_ ?_))
   ·exact ⟨by omega, hO, by rw [hOe, mom_no (by omega) hio]⟩
   ·exact zo
  ·skip -- L0Ty
   refine WF.subH (hs' := _ :: _ :: _ :: _ :: _ :: (hs ++ ho ++ D34)) (SubH.op (perm_tail (N := []) (G := D34) (K := [_, _, _, _, _]) (X := hs ++ ho))) ?_
   refine WF.q (Q.move rfl) (by simp [AV.beq, beq1, beq0, beqz, beqL]) rfl rfl rfl ?_
   refine WF.q (Q.extract rfl rfl) (by simp [AV.beq, beq1, beq0, beqz, beqL]) rfl rfl rfl ?_
   refine WF.alloc ao72 rfl rfl rfl (fun b5 => ?_)
   refine WF.store sz72 rfl rfl (j := 0) rfl rfl (cs := [_, _]) rfl (hs' := _ :: _ :: _ :: _ :: _ :: _ :: _) rfl rfl ?_
   refine WF.q (Q.extract rfl rfl) bq_bool rfl rfl rfl ?_
   refine WF.q (Q.assign rfl) bq_bool rfl rfl rfl ?_
   refine WF.nil rfl ?_
   refine End.K ?_
   refine W.sub (SubS.cons (k := 13) rfl (SubS.cons (k := 12) rfl (SubS.cons (k := 11) rfl (SubS.cons (k := 0) rfl (SubS.cons (k := 1) rfl (SubS.cons (k := 3) rfl (SubS.cons (k := 8) rfl (SubS.cons (k := 9) rfl (SubS.cons (k := 18) rfl (SubS.cons (k := 19) rfl (SubS.cons (k := 20) rfl (SubS.nil _)))))))))))) ?_
   refine W.seq ?_
   refine W.reg ?_
   refine WO.q (Q.move rfl) rfl ?_
   refine WO.nil ?_
   refine End.K ?_
   refine W.condT rfl ?_
   refine W.reg ?_
   refine WO.q (Q.fieldAddr fa136_2 rfl (o' := 2) rfl) rfl ?_
   refine WO.q (Q.l1 rfl (mem_at (i := 2) rfl) ag57 rfl) rfl ?_
   refine WO.q (Q.fieldAddr fa68_0 rfl (o' := 0) rfl) rfl ?_
   refine WO.q (Q.l1 rfl (mem_at (i := 1) rfl) ag63 rfl) rfl ?_
   refine WO.q (Q.fieldAddr fa72_1 rfl (o' := 1) rfl) rfl ?_
   refine WO.q (Q.l1 rfl (mem_at (i := 0) rfl) ag3 rfl) rfl ?_
   refine WO.q (Q.build pl65 (opc rfl (opc rfl opn)) rfl (cs := [_, _]) (fill2i (LIn.cell hx.1))) rfl ?_
   refine WO.bslice ud57 sz65 zr65 rfl (opc rfl opn) rfl (cs := [_, _]) rfl (ck2 (LIn.cell hx.1) rfl) rfl (fun b6 => ?_)
   refine WO.subH (hs' := _ :: _ :: _ :: _ :: _ :: _ :: _ :: (hs ++ D34 ++ ho)) (SubH.op (List.Perm.append_left [_, _, _, _, _, _, _] (List.perm_iff_count.2 (by intro z; simp only [List.append_eq, List.count_append, List.count_nil]; omega)))) ?_
   refine WO.appAny (A := ([_, _, _, _, _, _] ++ hs ++ D34)) ap57_57 hO rfl rfl (Src.slice (mem_at (i := 0) rfl) rfl) rfl (by omega) (by decide) (SubH.of_sublist (List.sublist_cons_self _ _)) rfl (fun v46 hp46 hO46 => ?_)
   refine WO.q (Q.fieldAddr fa136_2 rfl (o' := 2) rfl) rfl ?_
   refine WO.store sz57 rfl rfl (i := 2) rfl (ck1 (OwnE.cell hO46) rfl) (cs := [_, _, _, _]) (lay_2 (OwnE.cell hO46)) (hs' := _ :: _ :: _ :: _ :: _ :: _ :: _) rfl ?_
   refine WO.nil ?_
   refine End.KB (End.K ?_)
   refine W.sub (SubS.cons (k := 0) rfl (SubS.cons (k := 1) rfl (SubS.cons (k := 3) rfl (SubS.cons (k := 8) rfl (SubS.cons (k := 9) rfl (SubS.cons (k := 18) rfl (SubS.cons (k := 19) rfl (SubS.cons (k := 20) rfl (SubS.nil _))))))))) ?_
   refine W.reg ?_
   refine WO.q (Q.bin rfl (oc (v := .int .i64 ((1 : Nat) : Int)) rfl) rfl (bv_add (wna zo))) rfl ?_
   refine WO.q (Q.move rfl) rfl ?_
   refine WO.nil ?_
   refine End.KL ?_
   refine W.sub (SubS.cons rfl (SubS.cons rfl (SubS.cons rfl (SubS.cons rfl (SubS.cons rfl (SubS.cons rfl (SubS.cons rfl (SubS.cons rfl (SubS.nil _))))))))) (W.sH (SubH.trans (SubH.pre (L := [_, _, _, _]) gc) (SubH.of_sublist (List.sublist_append_right [_, _] _))) (ih0 (i + 1) (O ++ [((rg R (0 + i)).1, (rg R (0 + i)).2.1, x.2)]) (v46) (hp46) ?_ ?_))
   ·exact ⟨by omega, own_e hO46, by rw [hOe, mom_yes (by omega) hio]⟩
   ·exact zo
 ·skip -- L0F
  refine W.exit ?_
  refine End.Kx (End.Lx (End.Bh (End.K ?_)))
  refine W.seq ?_
  refine W.reg ?_
  refine WO.q (Q.move rfl) rfl ?_
  refine WO.q (Q.fieldAddr fa136_2 rfl (o' := 2) rfl) rfl ?_
  refine WO.q (Q.l1 rfl (mem_at (i := 0) rfl) ag57 rfl) rfl ?_
  refine WO.q (Q.len ud57 rfl hO.len) rfl ?_
  refine WO.q (Q.fieldAddr fa136_2 rfl (o' := 2) rfl) rfl ?_
  refine WO.q (Q.l1 rfl (mem_at (i := 0) rfl) ag57 rfl) rfl ?_
  refine WO.q (Q.len ud57 rfl hO.len) rfl ?_
  refine WO.call1 rfl (oLc rfl (oLc rfl (oLc rfl oz))) rfl (i := 2) rfl (pay_spec X xX _ c O.length (by omega) (by omega)) SubR.nil (hs' := _ :: _ :: _ :: _) rfl rfl (fun v56 D56 hP56 => ?_)
  obtain ⟨rfl, rfl⟩ := hP56
  refine WO.nil ?_
  refine End.K ?_
  refine W.sub (SubS.cons (k := 8) rfl (SubS.cons (k := 9) rfl (SubS.nil _))) ?_
  refine W.seq ?_
  refine W.reg ?_
  refine WO.q (Q.loadN rfl (mem_at (i := 1) rfl) ag136 sz136 (l := [_, _, _, _]) rfl) rfl ?_
  refine WO.store sz136 rfl rfl (i := 2) rfl (andb rfl (andb rfl (andb rfl (andb (OwnE.cell hO) rfl)))) (cs := [_, _, _, _]) rfl (hs' := _ :: _ :: _ :: _ :: _) rfl ?_
  refine WO.nil ?_
  refine End.K ?_
  refine W.ret ?_
  refine End.ret (ResL.agg (c := [_, _, _, _]) rfl (mem_at (i := 2) rfl) ag136 sz136 rfl ResL.nil) (hs' := ⟨X, ⟨3, xX, [.slice lb 0 1 1, .int .i64 ((1099511627776 : Nat) : Int), .int .i64 ((c + O.length : Nat) : Int)]⟩, true⟩ :: ho) (by have hE : momE R ((t - o : Nat) : Int) = O := (by rw [hOe, List.take_of_length_le (by omega)]); rw [hE]; exact ⟨ov, ho, rfl, rfl, hO⟩) (fun e he => by rcases List.mem_cons.1 he with rfl | he; rfl; exact hO.w e he) (SubH.pre (L := [_]) (SubH.trans (b := hs ++ ho) (SubH.of_sublist (List.sublist_append_right _ _)) (SubH.of_sublist (List.sublist_append_right [_, _, _] _))))

end Go.Proofs.YtfkbfnpjggkdmaaGreatDoor.Ev
