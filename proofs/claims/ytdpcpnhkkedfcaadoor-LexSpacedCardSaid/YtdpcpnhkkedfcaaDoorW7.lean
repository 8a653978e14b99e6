/- Layer 15, walks: numerals and texts. -/
import Derived.Test.YtdpcpnhkkedfcaaDoorW6
namespace Go.Proofs.YtdpcpnhkkedfcaaDoor.Ev
open Go.RowKit
set_option linter.unusedVariables false
set_option linter.unusedSimpArgs false
set_option maxRecDepth 100000
theorem dur_spec (t : List Nat) (h : t.length ≤ 65536) : Spec tab 11 [.str t] [] [] (Val (.tuple [.int .i64 (durN t).1, .int .i64 (durN t).2])) := by
  refine Spec.known fun hp => ?_
  have hb : Nat.ble t.length 281474976710656 = true := Nat.ble_eq.mpr (by omega)
  show (match Nat.ble t.length 281474976710656 with
    | true => some (AV.tuple [.int .i64 (durN t).1, .int .i64 (durN t).2])
    | false => none) = _
  rw [hb]
theorem quL_le : ∀ (n : Nat) (l : List Nat) (i : Nat), l.length ≤ n → quL l i ≤ i + l.length
  | _, [], i, _ => by rw [quL_nil]; omega
  | 0, c :: l, i, h => by simp at h
  | n + 1, c :: l, i, h => by
    rw [quL_cons]
    simp only [List.length_cons] at h ⊢
    split
    · have := quL_le n (l.drop 1) (i + 2) (by simp; omega)
      have e : (l.drop 1).length ≤ l.length := by simp
      cases l with
      | nil => rw [List.drop_nil, quL_nil]; omega
      | cons x m => simp only [List.drop_one, List.tail_cons, List.length_cons] at this ⊢; omega
    · split
      · omega
      · have := quL_le n l (i + 1) (by omega)
        omega
theorem qu_le (s : List Nat) : qu s ≤ s.length := by
  unfold qu
  cases s with
  | nil => rw [List.drop_nil, quL_nil]; omega
  | cons c l =>
    have := quL_le l.length l 1 (Nat.le_refl _)
    simp only [List.drop_one, List.tail_cons, List.length_cons]
    omega
def nmT (s : List Nat) (a : Nat) : List Nat := (s.drop a).take (pre numc (s.drop a))
/-- What numeral tells. -/
def nmV (s : List Nat) (a : Nat) : AV :=
  if (fixN (nmT s a)).2 = 14 then .tuple [.agg [.int .i64 ((3 : Nat) : Int), .str (nmT s a), .int .i64 (durN (nmT s a)).1, .int .i64 ((a : Nat) : Int)], .int .i64 (durN (nmT s a)).2]
  else .tuple [.agg [.int .i64 ((2 : Nat) : Int), .str (nmT s a), .int .i64 (fixN (nmT s a)).1, .int .i64 ((a : Nat) : Int)], .int .i64 (fixN (nmT s a)).2]
theorem numeral_spec (s : List Nat) (hs : Bytes s) (hl : s.length ≤ 1024) (X a : Nat) (ha : a ≤ s.length) : Spec tab 30 [.ptr X 0] [] [⟨X, ⟨2, true, [.str s, .int .i64 ((a : Nat) : Int)]⟩, false⟩] (Val (nmV s a)) := by
  have hpl := Ev.pre_le numc (s.drop a)
  rw [List.length_drop] at hpl
  refine Spec.enter' (ft_get 30 Tryd.func30) rfl (m := 56) rfl (rs := [.cell 2 28, .tmp 3]) rfl (st := [(0, .ptr X 0)]) rfl rfl (fun _ => rfl) (fun E => ?_)
  refine W.seq ?_
  refine W.reg ?_
  refine WO.alloc ao28 rfl (fun b1 => ?_)
  refine WO.q (Q.assign (oc (v := .int .i64 ((0 : Nat) : Int)) rfl)) rfl ?_
  refine WO.nil ?_
  refine End.K ?_
  refine W.seq ?_
  refine W.regT (by kernel_rfl) ?_
  refine WO.q (Q.move rfl) rfl ?_
  refine WO.q (Q.nilP rfl) rfl ?_
  refine WO.q (Q.fieldAddr fa44_0 rfl (o' := 0) rfl) rfl ?_
  refine WO.q (Q.load1 rfl (mem_at (i := 1) rfl) ag9 rfl) rfl ?_
  refine WO.q (Q.move rfl) rfl ?_
  refine WO.q (Q.nilP rfl) rfl ?_
  refine WO.q (Q.fieldAddr fa44_1 rfl (o' := 1) rfl) rfl ?_
  refine WO.q (Q.load1 rfl (mem_at (i := 1) rfl) ag3 rfl) rfl ?_
  refine WO.q (Q.sliceS ud9 rfl rfl (by first | omega | (simp only [List.length_drop, List.length_take, List.length_append, List.length_cons, List.length_nil] at *; omega)) sl_lo) rfl ?_
  refine WO.callV rfl (oLs_cons rfl (oLs_cons rfl oLs_nil)) rfl (prefix_spec _ (Bytes.drop hs _) (by first | omega | (simp only [List.length_drop, List.length_take, List.length_append, List.length_cons, List.length_nil] at *; omega)) _ [] numc (fun c hc => num_spec c hc)) SubR.nil rfl ?_
  refine WO.q (Q.assign rfl) rfl ?_
  refine WO.nil ?_
  refine End.K ?_
  refine W.sub (SubS.cons (k := 4) rfl (SubS.cons (k := 2) rfl (SubS.cons (k := 0) rfl (SubS.nil _)))) ?_
  refine W.seq ?_
  refine W.regD 21 _ (by kernel_rfl) (KIn.refl _) ?_
  refine WD.q (Q.move rfl) bq_ptr rfl ?_
  refine WD.q (Q.nilP rfl) bq_ptr rfl ?_
  refine WD.q (Q.fieldAddr fa44_0 rfl (o' := 0) rfl) bq_ptr rfl ?_
  refine WD.q (Q.load1 rfl (mem_at (i := 1) rfl) ag9 rfl) bq_str rfl ?_
  refine WD.q (Q.move rfl) bq_ptr rfl ?_
  refine WD.q (Q.nilP rfl) bq_ptr rfl ?_
  refine WD.q (Q.fieldAddr fa44_1 rfl (o' := 1) rfl) bq_ptr rfl ?_
  refine WD.q (Q.load1 rfl (mem_at (i := 1) rfl) ag3 rfl) bq_int rfl ?_
  refine WD.q (Q.move rfl) bq_ptr rfl ?_
  refine WD.q (Q.nilP rfl) bq_ptr rfl ?_
  refine WD.q (Q.fieldAddr fa44_1 rfl (o' := 1) rfl) bq_ptr rfl ?_
  refine WD.q (Q.load1 rfl (mem_at (i := 1) rfl) ag3 rfl) bq_int rfl ?_
  refine WD.q (Q.move rfl) bq_int rfl ?_
  refine WD.q (Q.bin rfl rfl rfl (bv_add (wn_add (by first | omega | (simp only [List.length_drop, List.length_take, List.length_append, List.length_cons, List.length_nil] at *; omega))))) bq_int rfl ?_
  refine WD.q (Q.sliceS ud9 rfl rfl (by first | omega | (simp only [List.length_drop, List.length_take, List.length_append, List.length_cons, List.length_nil] at *; omega)) sl_add) bq_str rfl ?_
  refine WD.q (Q.move rfl) bq_ptr rfl ?_
  refine WD.q (Q.nilP rfl) bq_ptr rfl ?_
  refine WD.q (Q.fieldAddr fa44_1 rfl (o' := 1) rfl) bq_ptr rfl ?_
  refine WD.q (Q.load1 rfl (mem_at (i := 1) rfl) ag3 rfl) bq_int rfl ?_
  refine WD.q (Q.build pl28 (oPs_cons (oc (v := .int .i64 ((2 : Nat) : Int)) rfl) (oPs_cons rfl (oPs_cons rfl oPs_nil))) rfl (cs := [_, _, _, _]) rfl) (by simp [AV.beq, beq1, beq0, beqL]) rfl ?_
  refine WD.alloc ao28 rfl (KIn.refl _) (fun b2 => ?_)
  refine WD.store sz28 rfl rfl (j := 0) rfl rfl (cs := [_, _, _, _]) rfl (hs' := [_, _, _]) rfl (fun h => by cases h) ?_
  refine WD.nil ?_
  refine End.K ?_
  refine W.sub (SubS.cons (k := 5) rfl (SubS.cons (k := 2) rfl (SubS.nil _))) ?_
  refine W.seq ?_
  refine W.reg ?_
  refine WO.q (Q.assign (oc (v := .int .i64 ((0 : Nat) : Int)) rfl)) rfl ?_
  refine WO.nil ?_
  refine End.K ?_
  refine W.seq ?_
  refine W.seq ?_
  refine W.reg ?_
  refine WO.q (Q.fieldAddr fa28_1 rfl (o' := 1) rfl) rfl ?_
  refine WO.q (Q.load1 rfl (mem_at (i := 0) rfl) ag9 rfl) rfl ?_
  refine WO.callV rfl (oLs_cons rfl oLs_nil) rfl (fix_spec _ (Bytes.take (Bytes.drop hs _) _) (by first | omega | (simp only [List.length_drop, List.length_take, List.length_append, List.length_cons, List.length_nil] at *; omega))) SubR.nil rfl ?_
  refine WO.q (Q.move rfl) rfl ?_
  refine WO.q (Q.extract rfl rfl) rfl ?_
  refine WO.q (Q.extract rfl rfl) rfl ?_
  refine WO.q (Q.fieldAddr fa28_2 rfl (o' := 2) rfl) rfl ?_
  refine WO.store sz3 rfl rfl (i := 0) rfl rfl (cs := [_, _, _, _]) rfl (hs' := [_, _, _]) rfl ?_
  refine WO.q (Q.assign rfl) rfl ?_
  refine WO.nil ?_
  refine End.K ?_
  refine W.sub (SubS.cons (k := 6) rfl (SubS.cons (k := 5) rfl (SubS.cons (k := 2) rfl (SubS.nil _)))) ?_
  refine W.seq ?_
  refine W.reg ?_
  refine WO.q (Q.move rfl) rfl ?_
  refine WO.q (Q.bin rfl (oc (v := .int .i64 ((14 : Nat) : Int)) rfl) rfl (bv_eql eq_int)) rfl ?_
  refine WO.nil ?_
  refine End.K ?_
  refine W.condDS rfl (fun hc45 => ?_) (fun hc45 => ?_)
  · skip -- T
    refine W.seq ?_
    refine W.reg ?_
    refine WO.q (Q.fieldAddr fa28_0 rfl (o' := 0) rfl) rfl ?_
    refine WO.store sz3 rfl (oc (v := .int .i64 ((3 : Nat) : Int)) rfl) (i := 0) rfl rfl (cs := [_, _, _, _]) rfl (hs' := [_, _, _]) rfl ?_
    refine WO.nil ?_
    refine End.K ?_
    refine W.reg ?_
    refine WO.q (Q.fieldAddr fa28_1 rfl (o' := 1) rfl) rfl ?_
    refine WO.q (Q.load1 rfl (mem_at (i := 0) rfl) ag9 rfl) rfl ?_
    refine WO.callV rfl (oLs_cons rfl oLs_nil) rfl (dur_spec _ (by first | omega | (simp only [List.length_drop, List.length_take, List.length_append, List.length_cons, List.length_nil] at *; omega))) SubR.nil rfl ?_
    refine WO.q (Q.move rfl) rfl ?_
    refine WO.q (Q.extract rfl rfl) rfl ?_
    refine WO.q (Q.extract rfl rfl) rfl ?_
    refine WO.q (Q.fieldAddr fa28_2 rfl (o' := 2) rfl) rfl ?_
    refine WO.store sz3 rfl rfl (i := 0) rfl rfl (cs := [_, _, _, _]) rfl (hs' := [_, _, _]) rfl ?_
    refine WO.q (Q.assign rfl) rfl ?_
    refine WO.nil ?_
    refine End.K ?_
    refine W.sub (SubS.cons (k := 6) rfl (SubS.cons (k := 5) rfl (SubS.cons (k := 2) rfl (SubS.nil _)))) ?_
    refine W.seq ?_
    refine W.reg ?_
    refine WO.q (Q.loadN rfl (mem_at (i := 0) rfl) ag28 sz28 (l := [_, _, _, _]) rfl) rfl ?_
    refine WO.q (Q.move rfl) rfl ?_
    refine WO.store sz28 rfl rfl (i := 1) rfl rfl (cs := [_, _, _, _]) rfl (hs' := [_, _, _]) rfl ?_
    refine WO.q (Q.assign rfl) rfl ?_
    refine WO.nil ?_
    refine End.K ?_
    refine W.ret ?_
    refine End.retV (ResL.agg (c := [_, _, _, _]) rfl (mem_at (i := 1) rfl) ag28 sz28 rfl (ResL.tmp rfl ResL.nil)) ?_
    (unfold nmV; rw [if_pos (by first | exact hc45 | exact_mod_cast hc45)]; rfl)
  · skip -- F
    refine W.skip ?_
    refine End.K ?_
    refine W.seq ?_
    refine W.reg ?_
    refine WO.q (Q.loadN rfl (mem_at (i := 0) rfl) ag28 sz28 (l := [_, _, _, _]) rfl) rfl ?_
    refine WO.q (Q.move rfl) rfl ?_
    refine WO.store sz28 rfl rfl (i := 1) rfl rfl (cs := [_, _, _, _]) rfl (hs' := [_, _, _]) rfl ?_
    refine WO.q (Q.assign rfl) rfl ?_
    refine WO.nil ?_
    refine End.K ?_
    refine W.sub (SubS.cons (k := 3) rfl (SubS.cons (k := 2) rfl (SubS.nil _))) ?_
    refine W.ret ?_
    refine End.retV (ResL.agg (c := [_, _, _, _]) rfl (mem_at (i := 1) rfl) ag28 sz28 rfl (ResL.tmp rfl ResL.nil)) ?_
    (unfold nmV; rw [if_neg (by first | exact hc45 | exact_mod_cast hc45)]; rfl)

theorem text_none (s : List Nat) (hs : Bytes s) (hl : s.length ≤ 1024) (X a : Nat) (ha : a ≤ s.length) (h0 : qu (s.drop a) = 0) : Spec tab 31 [.ptr X 0] [] [⟨X, ⟨2, true, [.str s, .int .i64 ((a : Nat) : Int)]⟩, false⟩] (Val (.tuple [.agg [.int .i64 0, .str [], .int .i64 0, .int .i64 0], .int .i64 ((0 : Nat) : Int), .int .i64 ((14 : Nat) : Int)])) := by
  have hq := qu_le (s.drop a)
  rw [List.length_drop] at hq
  refine Spec.enter' (ft_get 31 Tryd.func31) rfl (m := 78) rfl (rs := [.cell 2 28, .tmp 3, .tmp 4]) rfl (st := [(0, .ptr X 0)]) rfl rfl (fun _ => rfl) (fun E => ?_)
  refine W.seq ?_
  refine W.reg ?_
  refine WO.alloc ao28 rfl (fun b1 => ?_)
  refine WO.q (Q.assign (oc (v := .int .i64 ((0 : Nat) : Int)) rfl)) rfl ?_
  refine WO.q (Q.assign (oc (v := .int .i64 ((0 : Nat) : Int)) rfl)) rfl ?_
  refine WO.nil ?_
  refine End.K ?_
  refine W.seq ?_
  refine W.regT (by kernel_rfl) ?_
  refine WO.q (Q.move rfl) rfl ?_
  refine WO.q (Q.nilP rfl) rfl ?_
  refine WO.q (Q.fieldAddr fa44_0 rfl (o' := 0) rfl) rfl ?_
  refine WO.q (Q.load1 rfl (mem_at (i := 1) rfl) ag9 rfl) rfl ?_
  refine WO.q (Q.move rfl) rfl ?_
  refine WO.q (Q.nilP rfl) rfl ?_
  refine WO.q (Q.fieldAddr fa44_1 rfl (o' := 1) rfl) rfl ?_
  refine WO.q (Q.load1 rfl (mem_at (i := 1) rfl) ag3 rfl) rfl ?_
  refine WO.q (Q.sliceS ud9 rfl rfl (by first | omega | (simp only [List.length_drop, List.length_take, List.length_append, List.length_cons, List.length_nil] at *; omega)) sl_lo) rfl ?_
  refine WO.callV rfl (oLs_cons rfl oLs_nil) rfl (quoted_spec _ (Bytes.drop hs _) (by first | omega | (simp only [List.length_drop, List.length_take, List.length_append, List.length_cons, List.length_nil] at *; omega))) SubR.nil rfl ?_
  refine WO.q (Q.assign rfl) rfl ?_
  refine WO.nil ?_
  refine End.K ?_
  refine W.sub (SubS.cons (k := 5) rfl (SubS.cons (k := 2) rfl (SubS.cons (k := 0) rfl (SubS.nil _)))) ?_
  refine W.seq ?_
  refine W.seq ?_
  refine W.reg ?_
  refine WO.q (Q.move rfl) rfl ?_
  refine WO.q (Q.bin rfl (oc (v := .int .i64 ((0 : Nat) : Int)) rfl) rfl (bv_eql eq_nat)) rfl ?_
  refine WO.nil ?_
  refine End.K ?_
  refine W.condDS rfl (fun hc19 => ?_) (fun hc19 => ?_)
  · skip -- T
    refine W.seq ?_
    refine W.reg ?_
    refine WO.q (Q.build pl28 oPs_nil rfl (cs := [_, _, _, _]) rfl) rfl ?_
    refine WO.store sz28 rfl rfl (i := 0) rfl rfl (cs := [_, _, _, _]) rfl (hs' := [_, _]) rfl ?_
    refine WO.q (Q.assign (oc (v := .int .i64 ((0 : Nat) : Int)) rfl)) rfl ?_
    refine WO.q (Q.assign (oc (v := .int .i64 ((14 : Nat) : Int)) rfl)) rfl ?_
    refine WO.nil ?_
    refine End.K ?_
    refine W.ret ?_
    refine End.K_ret (End.retV (ResL.agg (c := [_, _, _, _]) rfl (mem_at (i := 0) rfl) ag28 sz28 rfl (ResL.tmp rfl (ResL.tmp rfl ResL.nil))) ?_)
    rfl
  · exact absurd h0 hc19

theorem text_no (s : List Nat) (hs : Bytes s) (hl : s.length ≤ 1024) (X a : Nat) (ha : a ≤ s.length) (h0 : qu (s.drop a) ≠ 0) (h1 : (s.drop a).take (qu (s.drop a)) ≠ [34, 34]) (HP : Spec tab 41 [.str (([123, 120, 61] ++ (s.drop a).take (qu (s.drop a))) ++ [125])] [] [] (Val (.tuple [.nils, .int .i64 ((14 : Nat) : Int)]))) : Spec tab 31 [.ptr X 0] [] [⟨X, ⟨2, true, [.str s, .int .i64 ((a : Nat) : Int)]⟩, false⟩] (Val (.tuple [.agg [.int .i64 0, .str [], .int .i64 0, .int .i64 0], .int .i64 ((0 : Nat) : Int), .int .i64 ((14 : Nat) : Int)])) := by
  have hq := qu_le (s.drop a)
  rw [List.length_drop] at hq
  refine Spec.enter' (ft_get 31 Tryd.func31) rfl (m := 78) rfl (rs := [.cell 2 28, .tmp 3, .tmp 4]) rfl (st := [(0, .ptr X 0)]) rfl rfl (fun _ => rfl) (fun E => ?_)
  refine W.seq ?_
  refine W.reg ?_
  refine WO.alloc ao28 rfl (fun b1 => ?_)
  refine WO.q (Q.assign (oc (v := .int .i64 ((0 : Nat) : Int)) rfl)) rfl ?_
  refine WO.q (Q.assign (oc (v := .int .i64 ((0 : Nat) : Int)) rfl)) rfl ?_
  refine WO.nil ?_
  refine End.K ?_
  refine W.seq ?_
  refine W.regT (by kernel_rfl) ?_
  refine WO.q (Q.move rfl) rfl ?_
  refine WO.q (Q.nilP rfl) rfl ?_
  refine WO.q (Q.fieldAddr fa44_0 rfl (o' := 0) rfl) rfl ?_
  refine WO.q (Q.load1 rfl (mem_at (i := 1) rfl) ag9 rfl) rfl ?_
  refine WO.q (Q.move rfl) rfl ?_
  refine WO.q (Q.nilP rfl) rfl ?_
  refine WO.q (Q.fieldAddr fa44_1 rfl (o' := 1) rfl) rfl ?_
  refine WO.q (Q.load1 rfl (mem_at (i := 1) rfl) ag3 rfl) rfl ?_
  refine WO.q (Q.sliceS ud9 rfl rfl (by first | omega | (simp only [List.length_drop, List.length_take, List.length_append, List.length_cons, List.length_nil] at *; omega)) sl_lo) rfl ?_
  refine WO.callV rfl (oLs_cons rfl oLs_nil) rfl (quoted_spec _ (Bytes.drop hs _) (by first | omega | (simp only [List.length_drop, List.length_take, List.length_append, List.length_cons, List.length_nil] at *; omega))) SubR.nil rfl ?_
  refine WO.q (Q.assign rfl) rfl ?_
  refine WO.nil ?_
  refine End.K ?_
  refine W.sub (SubS.cons (k := 5) rfl (SubS.cons (k := 2) rfl (SubS.cons (k := 0) rfl (SubS.nil _)))) ?_
  refine W.seq ?_
  refine W.seq ?_
  refine W.reg ?_
  refine WO.q (Q.move rfl) rfl ?_
  refine WO.q (Q.bin rfl (oc (v := .int .i64 ((0 : Nat) : Int)) rfl) rfl (bv_eql eq_nat)) rfl ?_
  refine WO.nil ?_
  refine End.K ?_
  refine W.condDS rfl (fun hc19 => ?_) (fun hc19 => ?_)
  · exact absurd hc19 h0
  · skip -- F
    refine W.skip ?_
    refine End.K ?_
    refine W.seq ?_
    refine W.regT (by kernel_rfl) ?_
    refine WO.q (Q.move rfl) rfl ?_
    refine WO.q (Q.nilP rfl) rfl ?_
    refine WO.q (Q.fieldAddr fa44_0 rfl (o' := 0) rfl) rfl ?_
    refine WO.q (Q.load1 rfl (mem_at (i := 1) rfl) ag9 rfl) rfl ?_
    refine WO.q (Q.move rfl) rfl ?_
    refine WO.q (Q.nilP rfl) rfl ?_
    refine WO.q (Q.fieldAddr fa44_1 rfl (o' := 1) rfl) rfl ?_
    refine WO.q (Q.load1 rfl (mem_at (i := 1) rfl) ag3 rfl) rfl ?_
    refine WO.q (Q.move rfl) rfl ?_
    refine WO.q (Q.nilP rfl) rfl ?_
    refine WO.q (Q.fieldAddr fa44_1 rfl (o' := 1) rfl) rfl ?_
    refine WO.q (Q.load1 rfl (mem_at (i := 1) rfl) ag3 rfl) rfl ?_
    refine WO.q (Q.move rfl) rfl ?_
    refine WO.q (Q.bin rfl rfl rfl (bv_add (wn_add (by first | omega | (simp only [List.length_drop, List.length_take, List.length_append, List.length_cons, List.length_nil] at *; omega))))) rfl ?_
    refine WO.q (Q.sliceS ud9 rfl rfl (by first | omega | (simp only [List.length_drop, List.length_take, List.length_append, List.length_cons, List.length_nil] at *; omega)) sl_add) rfl ?_
    refine WO.q (Q.bin (oc (v := .str [123, 120, 61]) (by kernel_rfl)) rfl rfl (bv_sadd (by first | omega | (simp only [List.length_drop, List.length_take, List.length_append, List.length_cons, List.length_nil] at *; omega)))) rfl ?_
    refine WO.q (Q.bin rfl (oc (v := .str [125]) (by kernel_rfl)) rfl (bv_sadd (by first | omega | (simp only [List.length_drop, List.length_take, List.length_append, List.length_cons, List.length_nil] at *; omega)))) rfl ?_
    refine WO.callV rfl (oLs_cons rfl oLs_nil) rfl HP SubR.nil rfl ?_
    refine WO.q (Q.move rfl) rfl ?_
    refine WO.q (Q.extract rfl rfl) rfl ?_
    refine WO.q (Q.extract rfl rfl) rfl ?_
    refine WO.q (Q.assign rfl) rfl ?_
    refine WO.q (Q.assign rfl) rfl ?_
    refine WO.nil ?_
    refine End.K ?_
    refine W.sub (SubS.cons (k := 7) rfl (SubS.cons (k := 6) rfl (SubS.cons (k := 5) rfl (SubS.cons (k := 2) rfl (SubS.cons (k := 0) rfl (SubS.nil _)))))) ?_
    refine W.seq ?_
    refine W.seq ?_
    refine W.regT (by kernel_rfl) ?_
    refine WO.q (Q.move rfl) rfl ?_
    refine WO.q (Q.nilP rfl) rfl ?_
    refine WO.q (Q.fieldAddr fa44_0 rfl (o' := 0) rfl) rfl ?_
    refine WO.q (Q.load1 rfl (mem_at (i := 1) rfl) ag9 rfl) rfl ?_
    refine WO.q (Q.move rfl) rfl ?_
    refine WO.q (Q.nilP rfl) rfl ?_
    refine WO.q (Q.fieldAddr fa44_1 rfl (o' := 1) rfl) rfl ?_
    refine WO.q (Q.load1 rfl (mem_at (i := 1) rfl) ag3 rfl) rfl ?_
    refine WO.q (Q.move rfl) rfl ?_
    refine WO.q (Q.nilP rfl) rfl ?_
    refine WO.q (Q.fieldAddr fa44_1 rfl (o' := 1) rfl) rfl ?_
    refine WO.q (Q.load1 rfl (mem_at (i := 1) rfl) ag3 rfl) rfl ?_
    refine WO.q (Q.move rfl) rfl ?_
    refine WO.q (Q.bin rfl rfl rfl (bv_add (wn_add (by first | omega | (simp only [List.length_drop, List.length_take, List.length_append, List.length_cons, List.length_nil] at *; omega))))) rfl ?_
    refine WO.q (Q.sliceS ud9 rfl rfl (by first | omega | (simp only [List.length_drop, List.length_take, List.length_append, List.length_cons, List.length_nil] at *; omega)) sl_add) rfl ?_
    refine WO.q (Q.bin rfl (oc (v := .str [34, 34]) (by kernel_rfl)) rfl bv_seql) rfl ?_
    refine WO.nil ?_
    refine End.K ?_
    refine W.sub (SubS.cons (k := 57) rfl (SubS.cons (k := 7) rfl (SubS.cons (k := 6) rfl (SubS.cons (k := 5) rfl (SubS.cons (k := 2) rfl (SubS.cons (k := 0) rfl (SubS.nil _))))))) ?_
    refine W.condDS rfl (fun hc57 => ?_) (fun hc57 => ?_)
    · exact absurd hc57 h1
    · skip -- FF
      refine W.skip ?_
      refine End.K ?_
      refine W.seq ?_
      refine W.seq ?_
      refine W.reg ?_
      refine WO.q (Q.move rfl) rfl ?_
      refine WO.q (Q.bin rfl (oc (v := .int .i64 ((0 : Nat) : Int)) rfl) rfl (bv_neq (p := true) rfl)) rfl ?_
      refine WO.q (Q.move rfl) rfl ?_
      refine WO.gF rfl rfl (.inl rfl) rfl ?_
      refine WO.gF rfl rfl (.inl rfl) rfl ?_
      refine WO.gF rfl rfl (.inl rfl) rfl ?_
      refine WO.q (Q.pickT rfl rfl) rfl ?_
      refine WO.nil ?_
      refine End.K ?_
      refine W.sub (SubS.cons (k := 66) rfl (SubS.cons (k := 6) rfl (SubS.cons (k := 5) rfl (SubS.cons (k := 2) rfl (SubS.cons (k := 0) rfl (SubS.nil _)))))) ?_
      refine W.condT rfl ?_
      refine W.seq ?_
      refine W.reg ?_
      refine WO.q (Q.build pl28 oPs_nil rfl (cs := [_, _, _, _]) rfl) rfl ?_
      refine WO.store sz28 rfl rfl (i := 0) rfl rfl (cs := [_, _, _, _]) rfl (hs' := [_, _]) rfl ?_
      refine WO.q (Q.assign (oc (v := .int .i64 ((0 : Nat) : Int)) rfl)) rfl ?_
      refine WO.q (Q.assign (oc (v := .int .i64 ((14 : Nat) : Int)) rfl)) rfl ?_
      refine WO.nil ?_
      refine End.K ?_
      refine W.ret ?_
      refine End.K_ret (End.retV (ResL.agg (c := [_, _, _, _]) rfl (mem_at (i := 0) rfl) ag28 sz28 rfl (ResL.tmp rfl (ResL.tmp rfl ResL.nil))) ?_)
      rfl

theorem text_em (s : List Nat) (hs : Bytes s) (hl : s.length ≤ 1024) (X a : Nat) (ha : a ≤ s.length) (h0 : qu (s.drop a) ≠ 0) (h1 : (s.drop a).take (qu (s.drop a)) = [34, 34]) (HP : Spec tab 41 [.str (([123, 120, 61] ++ (s.drop a).take (qu (s.drop a))) ++ [125])] [] [] (Val (.tuple [.nils, .int .i64 ((14 : Nat) : Int)]))) : Spec tab 31 [.ptr X 0] [] [⟨X, ⟨2, true, [.str s, .int .i64 ((a : Nat) : Int)]⟩, false⟩] (Val (.tuple [.agg [.int .i64 ((4 : Nat) : Int), .str [], .int .i64 0, .int .i64 ((a : Nat) : Int)], .int .i64 ((qu (s.drop a) : Nat) : Int), .int .i64 ((0 : Nat) : Int)])) := by
  have hq := qu_le (s.drop a)
  rw [List.length_drop] at hq
  refine Spec.enter' (ft_get 31 Tryd.func31) rfl (m := 78) rfl (rs := [.cell 2 28, .tmp 3, .tmp 4]) rfl (st := [(0, .ptr X 0)]) rfl rfl (fun _ => rfl) (fun E => ?_)
  refine W.seq ?_
  refine W.reg ?_
  refine WO.alloc ao28 rfl (fun b1 => ?_)
  refine WO.q (Q.assign (oc (v := .int .i64 ((0 : Nat) : Int)) rfl)) rfl ?_
  refine WO.q (Q.assign (oc (v := .int .i64 ((0 : Nat) : Int)) rfl)) rfl ?_
  refine WO.nil ?_
  refine End.K ?_
  refine W.seq ?_
  refine W.regT (by kernel_rfl) ?_
  refine WO.q (Q.move rfl) rfl ?_
  refine WO.q (Q.nilP rfl) rfl ?_
  refine WO.q (Q.fieldAddr fa44_0 rfl (o' := 0) rfl) rfl ?_
  refine WO.q (Q.load1 rfl (mem_at (i := 1) rfl) ag9 rfl) rfl ?_
  refine WO.q (Q.move rfl) rfl ?_
  refine WO.q (Q.nilP rfl) rfl ?_
  refine WO.q (Q.fieldAddr fa44_1 rfl (o' := 1) rfl) rfl ?_
  refine WO.q (Q.load1 rfl (mem_at (i := 1) rfl) ag3 rfl) rfl ?_
  refine WO.q (Q.sliceS ud9 rfl rfl (by first | omega | (simp only [List.length_drop, List.length_take, List.length_append, List.length_cons, List.length_nil] at *; omega)) sl_lo) rfl ?_
  refine WO.callV rfl (oLs_cons rfl oLs_nil) rfl (quoted_spec _ (Bytes.drop hs _) (by first | omega | (simp only [List.length_drop, List.length_take, List.length_append, List.length_cons, List.length_nil] at *; omega))) SubR.nil rfl ?_
  refine WO.q (Q.assign rfl) rfl ?_
  refine WO.nil ?_
  refine End.K ?_
  refine W.sub (SubS.cons (k := 5) rfl (SubS.cons (k := 2) rfl (SubS.cons (k := 0) rfl (SubS.nil _)))) ?_
  refine W.seq ?_
  refine W.seq ?_
  refine W.reg ?_
  refine WO.q (Q.move rfl) rfl ?_
  refine WO.q (Q.bin rfl (oc (v := .int .i64 ((0 : Nat) : Int)) rfl) rfl (bv_eql eq_nat)) rfl ?_
  refine WO.nil ?_
  refine End.K ?_
  refine W.condDS rfl (fun hc19 => ?_) (fun hc19 => ?_)
  · exact absurd hc19 h0
  · skip -- F
    refine W.skip ?_
    refine End.K ?_
    refine W.seq ?_
    refine W.regT (by kernel_rfl) ?_
    refine WO.q (Q.move rfl) rfl ?_
    refine WO.q (Q.nilP rfl) rfl ?_
    refine WO.q (Q.fieldAddr fa44_0 rfl (o' := 0) rfl) rfl ?_
    refine WO.q (Q.load1 rfl (mem_at (i := 1) rfl) ag9 rfl) rfl ?_
    refine WO.q (Q.move rfl) rfl ?_
    refine WO.q (Q.nilP rfl) rfl ?_
    refine WO.q (Q.fieldAddr fa44_1 rfl (o' := 1) rfl) rfl ?_
    refine WO.q (Q.load1 rfl (mem_at (i := 1) rfl) ag3 rfl) rfl ?_
    refine WO.q (Q.move rfl) rfl ?_
    refine WO.q (Q.nilP rfl) rfl ?_
    refine WO.q (Q.fieldAddr fa44_1 rfl (o' := 1) rfl) rfl ?_
    refine WO.q (Q.load1 rfl (mem_at (i := 1) rfl) ag3 rfl) rfl ?_
    refine WO.q (Q.move rfl) rfl ?_
    refine WO.q (Q.bin rfl rfl rfl (bv_add (wn_add (by first | omega | (simp only [List.length_drop, List.length_take, List.length_append, List.length_cons, List.length_nil] at *; omega))))) rfl ?_
    refine WO.q (Q.sliceS ud9 rfl rfl (by first | omega | (simp only [List.length_drop, List.length_take, List.length_append, List.length_cons, List.length_nil] at *; omega)) sl_add) rfl ?_
    refine WO.q (Q.bin (oc (v := .str [123, 120, 61]) (by kernel_rfl)) rfl rfl (bv_sadd (by first | omega | (simp only [List.length_drop, List.length_take, List.length_append, List.length_cons, List.length_nil] at *; omega)))) rfl ?_
    refine WO.q (Q.bin rfl (oc (v := .str [125]) (by kernel_rfl)) rfl (bv_sadd (by first | omega | (simp only [List.length_drop, List.length_take, List.length_append, List.length_cons, List.length_nil] at *; omega)))) rfl ?_
    refine WO.callV rfl (oLs_cons rfl oLs_nil) rfl HP SubR.nil rfl ?_
    refine WO.q (Q.move rfl) rfl ?_
    refine WO.q (Q.extract rfl rfl) rfl ?_
    refine WO.q (Q.extract rfl rfl) rfl ?_
    refine WO.q (Q.assign rfl) rfl ?_
    refine WO.q (Q.assign rfl) rfl ?_
    refine WO.nil ?_
    refine End.K ?_
    refine W.sub (SubS.cons (k := 7) rfl (SubS.cons (k := 6) rfl (SubS.cons (k := 5) rfl (SubS.cons (k := 2) rfl (SubS.cons (k := 0) rfl (SubS.nil _)))))) ?_
    refine W.seq ?_
    refine W.seq ?_
    refine W.regT (by kernel_rfl) ?_
    refine WO.q (Q.move rfl) rfl ?_
    refine WO.q (Q.nilP rfl) rfl ?_
    refine WO.q (Q.fieldAddr fa44_0 rfl (o' := 0) rfl) rfl ?_
    refine WO.q (Q.load1 rfl (mem_at (i := 1) rfl) ag9 rfl) rfl ?_
    refine WO.q (Q.move rfl) rfl ?_
    refine WO.q (Q.nilP rfl) rfl ?_
    refine WO.q (Q.fieldAddr fa44_1 rfl (o' := 1) rfl) rfl ?_
    refine WO.q (Q.load1 rfl (mem_at (i := 1) rfl) ag3 rfl) rfl ?_
    refine WO.q (Q.move rfl) rfl ?_
    refine WO.q (Q.nilP rfl) rfl ?_
    refine WO.q (Q.fieldAddr fa44_1 rfl (o' := 1) rfl) rfl ?_
    refine WO.q (Q.load1 rfl (mem_at (i := 1) rfl) ag3 rfl) rfl ?_
    refine WO.q (Q.move rfl) rfl ?_
    refine WO.q (Q.bin rfl rfl rfl (bv_add (wn_add (by first | omega | (simp only [List.length_drop, List.length_take, List.length_append, List.length_cons, List.length_nil] at *; omega))))) rfl ?_
    refine WO.q (Q.sliceS ud9 rfl rfl (by first | omega | (simp only [List.length_drop, List.length_take, List.length_append, List.length_cons, List.length_nil] at *; omega)) sl_add) rfl ?_
    refine WO.q (Q.bin rfl (oc (v := .str [34, 34]) (by kernel_rfl)) rfl bv_seql) rfl ?_
    refine WO.nil ?_
    refine End.K ?_
    refine W.sub (SubS.cons (k := 57) rfl (SubS.cons (k := 7) rfl (SubS.cons (k := 6) rfl (SubS.cons (k := 5) rfl (SubS.cons (k := 2) rfl (SubS.cons (k := 0) rfl (SubS.nil _))))))) ?_
    refine W.condDS rfl (fun hc57 => ?_) (fun hc57 => ?_)
    · skip -- FT
      refine W.reg ?_
      refine WO.q (Q.build pl76 oPs_nil rfl (cs := [_, _]) rfl) rfl ?_
      refine WO.bslice ud72 sz76 zr76 rfl (oPs_cons rfl oPs_nil) rfl (cs := [_, _]) rfl rfl rfl (fun b2 => ?_)
      refine WO.q (Q.assign rfl) rfl ?_
      refine WO.q (Q.assign (oc (v := .int .i64 ((0 : Nat) : Int)) rfl)) rfl ?_
      refine WO.nil ?_
      refine End.K ?_
      refine W.seq ?_
      refine W.seq ?_
      refine W.reg ?_
      refine WO.q (Q.move rfl) rfl ?_
      refine WO.q (Q.bin rfl (oc (v := .int .i64 ((0 : Nat) : Int)) rfl) rfl (bv_neq (p := false) rfl)) rfl ?_
      refine WO.q (Q.move rfl) rfl ?_
      refine WO.gT rfl rfl ?_
      refine WO.q (Q.move rfl) rfl ?_
      refine WO.gT rfl rfl ?_
      refine WO.q (Q.len ud72 rfl rfl) rfl ?_
      refine WO.gT rfl rfl ?_
      refine WO.q (Q.bin rfl (oc (v := .int .i64 ((1 : Nat) : Int)) rfl) rfl (bv_neq (p := false) rfl)) rfl ?_
      refine WO.q (Q.pickF rfl rfl) rfl ?_
      refine WO.nil ?_
      refine End.K ?_
      refine W.sub (SubS.cons (k := 66) rfl (SubS.cons (k := 6) rfl (SubS.cons (k := 5) rfl (SubS.cons (k := 2) rfl (SubS.cons (k := 0) rfl (SubS.nil _)))))) ?_
      refine W.condF rfl ?_
      refine W.skip ?_
      refine End.K ?_
      refine W.seq ?_
      refine W.regD 11 [⟨b2, _, false⟩, ⟨X, _, false⟩] (by kernel_rfl) (KIn.cons (mem_at (i := 0) rfl) (KIn.cons (mem_at (i := 2) rfl) KIn.nil)) ?_
      refine WD.q (Q.move rfl) (by simp [AV.beq, beq1, beq0, beqL]) rfl ?_
      refine WD.q (Q.iaddrL ud72 sz76 rfl (oc (v := .int .i64 ((0 : Nat) : Int)) rfl) (by first | omega | (simp only [List.length_drop, List.length_take, List.length_append, List.length_cons, List.length_nil] at *; omega)) (o' := 0) rfl) bq_ptr rfl ?_
      refine WD.q (Q.fieldAddr fa76_1 rfl (o' := 1) rfl) bq_ptr rfl ?_
      refine WD.q (Q.load1 rfl (mem_at (i := 0) rfl) ag9 rfl) bq_str rfl ?_
      refine WD.q (Q.move rfl) bq_ptr rfl ?_
      refine WD.q (Q.nilP rfl) bq_ptr rfl ?_
      refine WD.q (Q.fieldAddr fa44_1 rfl (o' := 1) rfl) bq_ptr rfl ?_
      refine WD.q (Q.load1 rfl (mem_at (i := 1) rfl) ag3 rfl) bq_int rfl ?_
      refine WD.q (Q.build pl28 (oPs_cons (oc (v := .int .i64 ((4 : Nat) : Int)) rfl) (oPs_cons rfl (oPs_cons rfl oPs_nil))) rfl (cs := [_, _, _, _]) rfl) (by simp [AV.beq, beq1, beq0, beqL]) rfl ?_
      refine WD.q (Q.move rfl) bq_int rfl ?_
      refine WD.store sz28 rfl rfl (j := 1) rfl rfl (cs := [_, _, _, _]) rfl (hs' := [_, _, _]) rfl (fun _ => (KIn.cons (mem_at (i := 0) rfl) (KIn.cons (mem_at (i := 2) rfl) KIn.nil))) ?_
      refine WD.q (Q.assign rfl) bq_int rfl ?_
      refine WD.q (Q.assign (oc (v := .int .i64 ((0 : Nat) : Int)) rfl)) bq_int rfl ?_
      refine WD.nil ?_
      refine End.K ?_
      refine W.sub (SubS.cons (k := 4) rfl (SubS.cons (k := 3) rfl (SubS.cons (k := 2) rfl (SubS.nil _)))) ?_
      refine W.ret ?_
      refine End.retV (ResL.agg (c := [_, _, _, _]) rfl (mem_at (i := 1) rfl) ag28 sz28 rfl (ResL.tmp rfl (ResL.tmp rfl ResL.nil))) ?_
      rfl
    · exact absurd h1 hc57

theorem text_ok (s : List Nat) (hs : Bytes s) (hl : s.length ≤ 1024) (X a : Nat) (ha : a ≤ s.length) (h0 : qu (s.drop a) ≠ 0) (h1 : (s.drop a).take (qu (s.drop a)) ≠ [34, 34]) (v : List Nat) (hv : Bytes v) (HP : Spec tab 41 [.str (([123, 120, 61] ++ (s.drop a).take (qu (s.drop a))) ++ [125])] [] [] (fun o D => ∃ b ex, o = .tuple [.slice b 0 1 2, .int .i64 ((0 : Nat) : Int)] ∧ D = [⟨b, ⟨2, ex, [.str [120], .str v]⟩, true⟩])) : Spec tab 31 [.ptr X 0] [] [⟨X, ⟨2, true, [.str s, .int .i64 ((a : Nat) : Int)]⟩, false⟩] (Val (.tuple [.agg [.int .i64 ((4 : Nat) : Int), .str v, .int .i64 0, .int .i64 ((a : Nat) : Int)], .int .i64 ((qu (s.drop a) : Nat) : Int), .int .i64 ((0 : Nat) : Int)])) := by
  have hq := qu_le (s.drop a)
  rw [List.length_drop] at hq
  refine Spec.enter' (ft_get 31 Tryd.func31) rfl (m := 78) rfl (rs := [.cell 2 28, .tmp 3, .tmp 4]) rfl (st := [(0, .ptr X 0)]) rfl rfl (fun _ => rfl) (fun E => ?_)
  refine W.seq ?_
  refine W.reg ?_
  refine WO.alloc ao28 rfl (fun b1 => ?_)
  refine WO.q (Q.assign (oc (v := .int .i64 ((0 : Nat) : Int)) rfl)) rfl ?_
  refine WO.q (Q.assign (oc (v := .int .i64 ((0 : Nat) : Int)) rfl)) rfl ?_
  refine WO.nil ?_
  refine End.K ?_
  refine W.seq ?_
  refine W.regT (by kernel_rfl) ?_
  refine WO.q (Q.move rfl) rfl ?_
  refine WO.q (Q.nilP rfl) rfl ?_
  refine WO.q (Q.fieldAddr fa44_0 rfl (o' := 0) rfl) rfl ?_
  refine WO.q (Q.load1 rfl (mem_at (i := 1) rfl) ag9 rfl) rfl ?_
  refine WO.q (Q.move rfl) rfl ?_
  refine WO.q (Q.nilP rfl) rfl ?_
  refine WO.q (Q.fieldAddr fa44_1 rfl (o' := 1) rfl) rfl ?_
  refine WO.q (Q.load1 rfl (mem_at (i := 1) rfl) ag3 rfl) rfl ?_
  refine WO.q (Q.sliceS ud9 rfl rfl (by first | omega | (simp only [List.length_drop, List.length_take, List.length_append, List.length_cons, List.length_nil] at *; omega)) sl_lo) rfl ?_
  refine WO.callV rfl (oLs_cons rfl oLs_nil) rfl (quoted_spec _ (Bytes.drop hs _) (by first | omega | (simp only [List.length_drop, List.length_take, List.length_append, List.length_cons, List.length_nil] at *; omega))) SubR.nil rfl ?_
  refine WO.q (Q.assign rfl) rfl ?_
  refine WO.nil ?_
  refine End.K ?_
  refine W.sub (SubS.cons (k := 5) rfl (SubS.cons (k := 2) rfl (SubS.cons (k := 0) rfl (SubS.nil _)))) ?_
  refine W.seq ?_
  refine W.seq ?_
  refine W.reg ?_
  refine WO.q (Q.move rfl) rfl ?_
  refine WO.q (Q.bin rfl (oc (v := .int .i64 ((0 : Nat) : Int)) rfl) rfl (bv_eql eq_nat)) rfl ?_
  refine WO.nil ?_
  refine End.K ?_
  refine W.condDS rfl (fun hc19 => ?_) (fun hc19 => ?_)
  · exact absurd hc19 h0
  · skip -- F
    refine W.skip ?_
    refine End.K ?_
    refine W.seq ?_
    refine W.regT (by kernel_rfl) ?_
    refine WO.q (Q.move rfl) rfl ?_
    refine WO.q (Q.nilP rfl) rfl ?_
    refine WO.q (Q.fieldAddr fa44_0 rfl (o' := 0) rfl) rfl ?_
    refine WO.q (Q.load1 rfl (mem_at (i := 1) rfl) ag9 rfl) rfl ?_
    refine WO.q (Q.move rfl) rfl ?_
    refine WO.q (Q.nilP rfl) rfl ?_
    refine WO.q (Q.fieldAddr fa44_1 rfl (o' := 1) rfl) rfl ?_
    refine WO.q (Q.load1 rfl (mem_at (i := 1) rfl) ag3 rfl) rfl ?_
    refine WO.q (Q.move rfl) rfl ?_
    refine WO.q (Q.nilP rfl) rfl ?_
    refine WO.q (Q.fieldAddr fa44_1 rfl (o' := 1) rfl) rfl ?_
    refine WO.q (Q.load1 rfl (mem_at (i := 1) rfl) ag3 rfl) rfl ?_
    refine WO.q (Q.move rfl) rfl ?_
    refine WO.q (Q.bin rfl rfl rfl (bv_add (wn_add (by first | omega | (simp only [List.length_drop, List.length_take, List.length_append, List.length_cons, List.length_nil] at *; omega))))) rfl ?_
    refine WO.q (Q.sliceS ud9 rfl rfl (by first | omega | (simp only [List.length_drop, List.length_take, List.length_append, List.length_cons, List.length_nil] at *; omega)) sl_add) rfl ?_
    refine WO.q (Q.bin (oc (v := .str [123, 120, 61]) (by kernel_rfl)) rfl rfl (bv_sadd (by first | omega | (simp only [List.length_drop, List.length_take, List.length_append, List.length_cons, List.length_nil] at *; omega)))) rfl ?_
    refine WO.q (Q.bin rfl (oc (v := .str [125]) (by kernel_rfl)) rfl (bv_sadd (by first | omega | (simp only [List.length_drop, List.length_take, List.length_append, List.length_cons, List.length_nil] at *; omega)))) rfl ?_
    refine WO.call0 rfl (oLs_cons rfl oLs_nil) rfl HP SubR.nil rfl (fun v39 D39 hP39 => ?_)
    obtain ⟨bP, ex, rfl, rfl⟩ := hP39
    refine WO.q (Q.move rfl) rfl ?_
    refine WO.q (Q.extract rfl rfl) rfl ?_
    refine WO.q (Q.extract rfl rfl) rfl ?_
    refine WO.q (Q.assign rfl) rfl ?_
    refine WO.q (Q.assign rfl) rfl ?_
    refine WO.nil ?_
    refine End.K ?_
    refine W.sub (SubS.cons (k := 7) rfl (SubS.cons (k := 6) rfl (SubS.cons (k := 5) rfl (SubS.cons (k := 2) rfl (SubS.cons (k := 0) rfl (SubS.nil _)))))) ?_
    refine W.seq ?_
    refine W.seq ?_
    refine W.regT (by kernel_rfl) ?_
    refine WO.q (Q.move rfl) rfl ?_
    refine WO.q (Q.nilP rfl) rfl ?_
    refine WO.q (Q.fieldAddr fa44_0 rfl (o' := 0) rfl) rfl ?_
    refine WO.q (Q.load1 rfl (mem_at (i := 2) rfl) ag9 rfl) rfl ?_
    refine WO.q (Q.move rfl) rfl ?_
    refine WO.q (Q.nilP rfl) rfl ?_
    refine WO.q (Q.fieldAddr fa44_1 rfl (o' := 1) rfl) rfl ?_
    refine WO.q (Q.load1 rfl (mem_at (i := 2) rfl) ag3 rfl) rfl ?_
    refine WO.q (Q.move rfl) rfl ?_
    refine WO.q (Q.nilP rfl) rfl ?_
    refine WO.q (Q.fieldAddr fa44_1 rfl (o' := 1) rfl) rfl ?_
    refine WO.q (Q.load1 rfl (mem_at (i := 2) rfl) ag3 rfl) rfl ?_
    refine WO.q (Q.move rfl) rfl ?_
    refine WO.q (Q.bin rfl rfl rfl (bv_add (wn_add (by first | omega | (simp only [List.length_drop, List.length_take, List.length_append, List.length_cons, List.length_nil] at *; omega))))) rfl ?_
    refine WO.q (Q.sliceS ud9 rfl rfl (by first | omega | (simp only [List.length_drop, List.length_take, List.length_append, List.length_cons, List.length_nil] at *; omega)) sl_add) rfl ?_
    refine WO.q (Q.bin rfl (oc (v := .str [34, 34]) (by kernel_rfl)) rfl bv_seql) rfl ?_
    refine WO.nil ?_
    refine End.K ?_
    refine W.sub (SubS.cons (k := 57) rfl (SubS.cons (k := 7) rfl (SubS.cons (k := 6) rfl (SubS.cons (k := 5) rfl (SubS.cons (k := 2) rfl (SubS.cons (k := 0) rfl (SubS.nil _))))))) ?_
    refine W.condDS rfl (fun hc57 => ?_) (fun hc57 => ?_)
    · exact absurd hc57 h1
    · skip -- FF
      refine W.skip ?_
      refine End.K ?_
      refine W.seq ?_
      refine W.seq ?_
      refine W.reg ?_
      refine WO.q (Q.move rfl) rfl ?_
      refine WO.q (Q.bin rfl (oc (v := .int .i64 ((0 : Nat) : Int)) rfl) rfl (bv_neq (p := false) rfl)) rfl ?_
      refine WO.q (Q.move rfl) rfl ?_
      refine WO.gT rfl rfl ?_
      refine WO.q (Q.move rfl) rfl ?_
      refine WO.gT rfl rfl ?_
      refine WO.q (Q.len ud72 rfl rfl) rfl ?_
      refine WO.gT rfl rfl ?_
      refine WO.q (Q.bin rfl (oc (v := .int .i64 ((1 : Nat) : Int)) rfl) rfl (bv_neq (p := false) rfl)) rfl ?_
      refine WO.q (Q.pickF rfl rfl) rfl ?_
      refine WO.nil ?_
      refine End.K ?_
      refine W.sub (SubS.cons (k := 66) rfl (SubS.cons (k := 6) rfl (SubS.cons (k := 5) rfl (SubS.cons (k := 2) rfl (SubS.cons (k := 0) rfl (SubS.nil _)))))) ?_
      refine W.condF rfl ?_
      refine W.skip ?_
      refine End.K ?_
      refine W.seq ?_
      refine W.regD 11 [⟨bP, _, false⟩, ⟨X, _, false⟩] (by kernel_rfl) (KIn.cons (mem_at (i := 0) rfl) (KIn.cons (mem_at (i := 2) rfl) KIn.nil)) ?_
      refine WD.q (Q.move rfl) (by simp [AV.beq, beq1, beq0, beqL]) rfl ?_
      refine WD.q (Q.iaddrL ud72 sz76 rfl (oc (v := .int .i64 ((0 : Nat) : Int)) rfl) (by first | omega | (simp only [List.length_drop, List.length_take, List.length_append, List.length_cons, List.length_nil] at *; omega)) (o' := 0) rfl) bq_ptr rfl ?_
      refine WD.q (Q.fieldAddr fa76_1 rfl (o' := 1) rfl) bq_ptr rfl ?_
      refine WD.q (Q.load1 rfl (mem_at (i := 0) rfl) ag9 rfl) bq_str rfl ?_
      refine WD.q (Q.move rfl) bq_ptr rfl ?_
      refine WD.q (Q.nilP rfl) bq_ptr rfl ?_
      refine WD.q (Q.fieldAddr fa44_1 rfl (o' := 1) rfl) bq_ptr rfl ?_
      refine WD.q (Q.load1 rfl (mem_at (i := 1) rfl) ag3 rfl) bq_int rfl ?_
      refine WD.q (Q.build pl28 (oPs_cons (oc (v := .int .i64 ((4 : Nat) : Int)) rfl) (oPs_cons rfl (oPs_cons rfl oPs_nil))) rfl (cs := [_, _, _, _]) rfl) (by simp [AV.beq, beq1, beq0, beqL]) rfl ?_
      refine WD.q (Q.move rfl) bq_int rfl ?_
      refine WD.store sz28 rfl rfl (j := 1) rfl rfl (cs := [_, _, _, _]) rfl (hs' := [_, _, _]) rfl (fun _ => (KIn.cons (mem_at (i := 0) rfl) (KIn.cons (mem_at (i := 2) rfl) KIn.nil))) ?_
      refine WD.q (Q.assign rfl) bq_int rfl ?_
      refine WD.q (Q.assign (oc (v := .int .i64 ((0 : Nat) : Int)) rfl)) bq_int rfl ?_
      refine WD.nil ?_
      refine End.K ?_
      refine W.sub (SubS.cons (k := 4) rfl (SubS.cons (k := 3) rfl (SubS.cons (k := 2) rfl (SubS.nil _)))) ?_
      refine W.ret ?_
      refine End.retV (ResL.agg (c := [_, _, _, _]) rfl (mem_at (i := 1) rfl) ag28 sz28 rfl (ResL.tmp rfl (ResL.tmp rfl ResL.nil))) ?_
      rfl
end Go.Proofs.YtdpcpnhkkedfcaaDoor.Ev
