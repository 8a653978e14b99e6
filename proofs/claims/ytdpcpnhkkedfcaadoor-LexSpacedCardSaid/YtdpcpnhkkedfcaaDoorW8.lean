/- Layer 15, walks: a token. -/
import Derived.Test.YtdpcpnhkkedfcaaDoorW7
namespace Go.Proofs.YtdpcpnhkkedfcaaDoor.Ev
open Go.RowKit
set_option linter.unusedVariables false
set_option linter.unusedSimpArgs false
set_option maxRecDepth 100000
theorem mkN_le {s : List Nat} (h : 0 < s.length) : mkN s ≤ s.length := by
  unfold mkN
  split
  · rename_i hc
    have h2 : (s.take (min 2 s.length)).length = 2 := by rcases hc with h | h | h | h | h | h <;> rw [h] <;> rfl
    rw [List.length_take] at h2
    omega
  · split <;> omega
theorem tok_num_ok (s : List Nat) (hs : Bytes s) (hl : s.length ≤ 1024) (X a : Nat) (ha : a < s.length) (hD : isDig (s.getD a 0) = true) (K N : Int) (t : List Nat) (ht : Bytes t) (hta : a + t.length ≤ s.length) (HN : Spec tab 30 [.ptr X 0] [] [⟨X, ⟨2, true, [.str s, .int .i64 ((a : Nat) : Int)]⟩, false⟩] (Val (.tuple [.agg [.int .i64 K, .str t, .int .i64 N, .int .i64 ((a : Nat) : Int)], .int .i64 ((0 : Nat) : Int)]))) : Spec tab 16 [.ptr X 0] [X] [⟨X, ⟨2, true, [.str s, .int .i64 ((a : Nat) : Int)]⟩, true⟩] (fun r D => r = .tuple [.agg [.int .i64 K, .str t, .int .i64 N, .int .i64 ((a : Nat) : Int)], .int .i64 ((0 : Nat) : Int)] ∧ D = [⟨X, ⟨2, true, [.str s, .int .i64 ((a + t.length : Nat) : Int)]⟩, true⟩]) := by
  refine Spec.enter' (ft_get 16 Tryd.func16) rfl (m := 101) rfl (rs := [.cell 2 28, .tmp 3]) rfl (st := [(0, .ptr X 0)]) rfl rfl (fun _ => rfl) (fun E => ?_)
  refine W.seq ?_
  refine W.reg ?_
  refine WO.alloc ao28 rfl (fun b1 => ?_)
  refine WO.q (Q.assign (oc (v := .int .i64 ((0 : Nat) : Int)) rfl)) rfl ?_
  refine WO.nil ?_
  refine End.K ?_
  refine W.seq ?_
  refine W.regT (by kernel_rfl) ?_
  refine WO.q (Q.move rfl) rfl ?_
  refine WO.q (Q.nilP rfl) rfl ?_
  refine WO.q (Q.fieldAddr fa44_0 rfl (o' := 0) rfl) rfl ?_
  refine WO.q (Q.load1 rfl (mem_at (i := 1) rfl) ag9 rfl) rfl ?_
  refine WO.q (Q.move rfl) rfl ?_
  refine WO.q (Q.nilP rfl) rfl ?_
  refine WO.q (Q.fieldAddr fa44_1 rfl (o' := 1) rfl) rfl ?_
  refine WO.q (Q.load1 rfl (mem_at (i := 1) rfl) ag3 rfl) rfl ?_
  refine WO.indexB hs ud9 rfl rfl (by first | omega | (simp only [List.length_drop, List.length_take, List.length_append, List.length_cons, List.length_nil] at *; omega)) rfl (fun c16 hd16 hb16 => ?_)
  refine WO.q (Q.assign rfl) rfl ?_
  refine WO.nil ?_
  refine End.K ?_
  refine W.sub (SubS.cons (k := 4) rfl (SubS.cons (k := 2) rfl (SubS.cons (k := 0) rfl (SubS.nil _)))) ?_
  refine W.seq ?_
  refine W.reg ?_
  refine WO.alloc ao28 rfl (fun b2 => ?_)
  refine WO.nil ?_
  refine End.K ?_
  refine W.seq ?_
  refine W.reg ?_
  refine WO.q (Q.assign (oc (v := .int .i64 ((0 : Nat) : Int)) rfl)) rfl ?_
  refine WO.q (Q.assign (oc (v := .int .i64 ((0 : Nat) : Int)) rfl)) rfl ?_
  refine WO.nil ?_
  refine End.K ?_
  refine W.seq ?_
  refine W.block ?_
  refine W.seq ?_
  refine W.block ?_
  refine W.seq ?_
  refine W.block ?_
  refine W.seq ?_
  refine W.block ?_
  refine W.seq ?_
  refine W.block ?_
  refine W.seq ?_
  refine W.seq ?_
  refine W.seq ?_
  refine W.reg ?_
  refine WO.q (Q.move rfl) rfl ?_
  refine WO.callV rfl (oLs_cons rfl oLs_nil) rfl (digit_spec _ (by assumption)) SubR.nil rfl ?_
  refine WO.q (Q.assign rfl) rfl ?_
  refine WO.nil ?_
  refine End.K ?_
  refine W.condS rfl (fun hc17 => ?_) (fun hc17 => ?_)
  · skip -- T
    refine W.exit ?_
    refine End.K_exit (End.K_exit (End.KB_hit (End.K ?_)))
    refine W.sub (SubS.cons (k := 5) rfl (SubS.cons (k := 2) rfl (SubS.cons (k := 0) rfl (SubS.nil _)))) ?_
    refine W.seq ?_
    refine W.seq ?_
    refine W.reg ?_
    refine WO.q (Q.move rfl) rfl ?_
    refine WO.callV rfl (oLs_cons rfl oLs_nil) rfl HN (SubR.one (mem_at (i := 2) rfl)) rfl ?_
    refine WO.q (Q.move rfl) rfl ?_
    refine WO.q (Q.extract rfl rfl) rfl ?_
    refine WO.q (Q.extract rfl rfl) rfl ?_
    refine WO.store sz28 rfl rfl (i := 0) rfl rfl (cs := [_, _, _, _]) rfl (hs' := [_, _, _]) rfl ?_
    refine WO.q (Q.assign rfl) rfl ?_
    refine WO.nil ?_
    refine End.K ?_
    refine W.reg ?_
    refine WO.q (Q.fieldAddr fa28_1 rfl (o' := 1) rfl) rfl ?_
    refine WO.q (Q.load1 rfl (mem_at (i := 0) rfl) ag9 rfl) rfl ?_
    refine WO.q (Q.len ud9 rfl rfl) rfl ?_
    refine WO.q (Q.assign rfl) rfl ?_
    refine WO.nil ?_
    refine End.K ?_
    refine W.sub (SubS.cons (k := 7) rfl (SubS.cons (k := 6) rfl (SubS.cons (k := 5) rfl (SubS.cons (k := 2) rfl (SubS.cons (k := 0) rfl (SubS.nil _)))))) ?_
    refine W.exit ?_
    refine End.KB_miss rfl (End.K_exit (End.KB_miss rfl (End.K_exit (End.KB_miss rfl (End.K_exit (End.KB_hit (End.K ?_)))))))
    refine W.seq ?_
    refine W.seq ?_
    refine W.reg ?_
    refine WO.q (Q.move rfl) rfl ?_
    refine WO.q (Q.bin rfl (oc (v := .int .i64 ((0 : Nat) : Int)) rfl) rfl (bv_neq (p := false) rfl)) rfl ?_
    refine WO.nil ?_
    refine End.K ?_
    refine W.condF rfl ?_
    refine W.skip ?_
    refine End.K ?_
    refine W.seq ?_
    refine W.reg ?_
    refine WO.q (Q.move rfl) rfl ?_
    refine WO.q (Q.nilP rfl) rfl ?_
    refine WO.q (Q.fieldAddr fa44_1 rfl (o' := 1) rfl) rfl ?_
    refine WO.q (Q.load1 rfl (mem_at (i := 2) rfl) ag3 rfl) rfl ?_
    refine WO.q (Q.move rfl) rfl ?_
    refine WO.q (Q.bin rfl rfl rfl (bv_add (wn_add (by first | omega | (simp only [List.length_drop, List.length_take, List.length_append, List.length_cons, List.length_nil] at *; omega))))) rfl ?_
    refine WO.q (Q.nilP rfl) rfl ?_
    refine WO.q (Q.fieldAddr fa44_1 rfl (o' := 1) rfl) rfl ?_
    refine WO.store sz3 rfl rfl (i := 2) rfl rfl (cs := [_, _]) rfl (hs' := [_, _, _]) rfl ?_
    refine WO.nil ?_
    refine End.K ?_
    refine W.sub (SubS.cons (k := 5) rfl (SubS.cons (k := 2) rfl (SubS.nil _))) ?_
    refine W.seq ?_
    refine W.reg ?_
    refine WO.q (Q.loadN rfl (mem_at (i := 0) rfl) ag28 sz28 (l := [_, _, _, _]) rfl) rfl ?_
    refine WO.store sz28 rfl rfl (i := 1) rfl rfl (cs := [_, _, _, _]) rfl (hs' := [_, _, _]) rfl ?_
    refine WO.q (Q.assign (oc (v := .int .i64 ((0 : Nat) : Int)) rfl)) rfl ?_
    refine WO.nil ?_
    refine End.K ?_
    refine W.ret ?_
    refine End.ret (ResL.agg (c := [_, _, _, _]) rfl (mem_at (i := 1) rfl) ag28 sz28 rfl (ResL.tmp rfl ResL.nil)) (hs' := [⟨X, ⟨2, true, [.str s, .int .i64 ((a + t.length : Nat) : Int)]⟩, true⟩]) ⟨rfl, rfl⟩ (by intro e he; simp at he; subst he; rfl) (SubH.of_sublist (by first | exact List.Sublist.refl _ | simp))
  · (rw [hd16, hD] at hc17; cases hc17)

theorem tok_num_bad (s : List Nat) (hs : Bytes s) (hl : s.length ≤ 1024) (X a : Nat) (ha : a < s.length) (hD : isDig (s.getD a 0) = true) (e : Int) (he : e ≠ 0) (K N : Int) (t : List Nat) (ht : Bytes t) (hta : a + t.length ≤ s.length) (HN : Spec tab 30 [.ptr X 0] [] [⟨X, ⟨2, true, [.str s, .int .i64 ((a : Nat) : Int)]⟩, false⟩] (Val (.tuple [.agg [.int .i64 K, .str t, .int .i64 N, .int .i64 ((a : Nat) : Int)], .int .i64 e]))) : Spec tab 16 [.ptr X 0] [X] [⟨X, ⟨2, true, [.str s, .int .i64 ((a : Nat) : Int)]⟩, true⟩] (fun v D => (∃ (c0 : Int) (c1 : List Nat) (c2 c3 e : Int), v = .tuple [.agg [.int .i64 c0, .str c1, .int .i64 c2, .int .i64 c3], .int .i64 e] ∧ e ≠ 0) ∧ D = [⟨X, ⟨2, true, [.str s, .int .i64 ((a : Nat) : Int)]⟩, true⟩]) := by
  refine Spec.enter' (ft_get 16 Tryd.func16) rfl (m := 101) rfl (rs := [.cell 2 28, .tmp 3]) rfl (st := [(0, .ptr X 0)]) rfl rfl (fun _ => rfl) (fun E => ?_)
  refine W.seq ?_
  refine W.reg ?_
  refine WO.alloc ao28 rfl (fun b1 => ?_)
  refine WO.q (Q.assign (oc (v := .int .i64 ((0 : Nat) : Int)) rfl)) rfl ?_
  refine WO.nil ?_
  refine End.K ?_
  refine W.seq ?_
  refine W.regT (by kernel_rfl) ?_
  refine WO.q (Q.move rfl) rfl ?_
  refine WO.q (Q.nilP rfl) rfl ?_
  refine WO.q (Q.fieldAddr fa44_0 rfl (o' := 0) rfl) rfl ?_
  refine WO.q (Q.load1 rfl (mem_at (i := 1) rfl) ag9 rfl) rfl ?_
  refine WO.q (Q.move rfl) rfl ?_
  refine WO.q (Q.nilP rfl) rfl ?_
  refine WO.q (Q.fieldAddr fa44_1 rfl (o' := 1) rfl) rfl ?_
  refine WO.q (Q.load1 rfl (mem_at (i := 1) rfl) ag3 rfl) rfl ?_
  refine WO.indexB hs ud9 rfl rfl (by first | omega | (simp only [List.length_drop, List.length_take, List.length_append, List.length_cons, List.length_nil] at *; omega)) rfl (fun c16 hd16 hb16 => ?_)
  refine WO.q (Q.assign rfl) rfl ?_
  refine WO.nil ?_
  refine End.K ?_
  refine W.sub (SubS.cons (k := 4) rfl (SubS.cons (k := 2) rfl (SubS.cons (k := 0) rfl (SubS.nil _)))) ?_
  refine W.seq ?_
  refine W.reg ?_
  refine WO.alloc ao28 rfl (fun b2 => ?_)
  refine WO.nil ?_
  refine End.K ?_
  refine W.seq ?_
  refine W.reg ?_
  refine WO.q (Q.assign (oc (v := .int .i64 ((0 : Nat) : Int)) rfl)) rfl ?_
  refine WO.q (Q.assign (oc (v := .int .i64 ((0 : Nat) : Int)) rfl)) rfl ?_
  refine WO.nil ?_
  refine End.K ?_
  refine W.seq ?_
  refine W.block ?_
  refine W.seq ?_
  refine W.block ?_
  refine W.seq ?_
  refine W.block ?_
  refine W.seq ?_
  refine W.block ?_
  refine W.seq ?_
  refine W.block ?_
  refine W.seq ?_
  refine W.seq ?_
  refine W.seq ?_
  refine W.reg ?_
  refine WO.q (Q.move rfl) rfl ?_
  refine WO.callV rfl (oLs_cons rfl oLs_nil) rfl (digit_spec _ (by assumption)) SubR.nil rfl ?_
  refine WO.q (Q.assign rfl) rfl ?_
  refine WO.nil ?_
  refine End.K ?_
  refine W.condS rfl (fun hc17 => ?_) (fun hc17 => ?_)
  · skip -- T
    refine W.exit ?_
    refine End.K_exit (End.K_exit (End.KB_hit (End.K ?_)))
    refine W.sub (SubS.cons (k := 5) rfl (SubS.cons (k := 2) rfl (SubS.cons (k := 0) rfl (SubS.nil _)))) ?_
    refine W.seq ?_
    refine W.seq ?_
    refine W.reg ?_
    refine WO.q (Q.move rfl) rfl ?_
    refine WO.callV rfl (oLs_cons rfl oLs_nil) rfl HN (SubR.one (mem_at (i := 2) rfl)) rfl ?_
    refine WO.q (Q.move rfl) rfl ?_
    refine WO.q (Q.extract rfl rfl) rfl ?_
    refine WO.q (Q.extract rfl rfl) rfl ?_
    refine WO.store sz28 rfl rfl (i := 0) rfl rfl (cs := [_, _, _, _]) rfl (hs' := [_, _, _]) rfl ?_
    refine WO.q (Q.assign rfl) rfl ?_
    refine WO.nil ?_
    refine End.K ?_
    refine W.reg ?_
    refine WO.q (Q.fieldAddr fa28_1 rfl (o' := 1) rfl) rfl ?_
    refine WO.q (Q.load1 rfl (mem_at (i := 0) rfl) ag9 rfl) rfl ?_
    refine WO.q (Q.len ud9 rfl rfl) rfl ?_
    refine WO.q (Q.assign rfl) rfl ?_
    refine WO.nil ?_
    refine End.K ?_
    refine W.sub (SubS.cons (k := 7) rfl (SubS.cons (k := 6) rfl (SubS.cons (k := 5) rfl (SubS.cons (k := 2) rfl (SubS.cons (k := 0) rfl (SubS.nil _)))))) ?_
    refine W.exit ?_
    refine End.KB_miss rfl (End.K_exit (End.KB_miss rfl (End.K_exit (End.KB_miss rfl (End.K_exit (End.KB_hit (End.K ?_)))))))
    refine W.seq ?_
    refine W.seq ?_
    refine W.reg ?_
    refine WO.q (Q.move rfl) rfl ?_
    refine WO.q (Q.bin rfl (oc (v := .int .i64 ((0 : Nat) : Int)) rfl) rfl (bv_neq ne_int)) rfl ?_
    refine WO.nil ?_
    refine End.K ?_
    refine W.condDS rfl (fun hc89 => ?_) (fun hc89 => ?_)
    · skip -- TT
      refine W.seq ?_
      refine W.reg ?_
      refine WO.q (Q.loadN rfl (mem_at (i := 0) rfl) ag28 sz28 (l := [_, _, _, _]) rfl) rfl ?_
      refine WO.q (Q.move rfl) rfl ?_
      refine WO.store sz28 rfl rfl (i := 1) rfl rfl (cs := [_, _, _, _]) rfl (hs' := [_, _, _]) rfl ?_
      refine WO.q (Q.assign rfl) rfl ?_
      refine WO.nil ?_
      refine End.K ?_
      refine W.sub (SubS.cons (k := 3) rfl (SubS.cons (k := 2) rfl (SubS.nil _))) ?_
      refine W.ret ?_
      refine End.K_ret (End.ret (ResL.agg (c := [_, _, _, _]) rfl (mem_at (i := 1) rfl) ag28 sz28 rfl (ResL.tmp rfl ResL.nil)) (hs' := [⟨X, ⟨2, true, [.str s, .int .i64 ((a : Nat) : Int)]⟩, true⟩]) ⟨⟨_, _, _, _, _, rfl, he⟩, rfl⟩ (by intro e he; simp at he; subst he; rfl) (SubH.of_sublist (by first | exact List.Sublist.refl _ | simp)))
    · exact absurd he hc89
  · (rw [hd16, hD] at hc17; cases hc17)

theorem tok_txt_ok (s : List Nat) (hs : Bytes s) (hl : s.length ≤ 1024) (X a : Nat) (ha : a < s.length) (hD : isDig (s.getD a 0) = false) (h34 : s.getD a 0 = 34) (v : List Nat) (hv : Bytes v) (n : Nat) (hn : n ≠ 0) (hna : a + n ≤ s.length) (HT : Spec tab 31 [.ptr X 0] [] [⟨X, ⟨2, true, [.str s, .int .i64 ((a : Nat) : Int)]⟩, false⟩] (Val (.tuple [.agg [.int .i64 ((4 : Nat) : Int), .str v, .int .i64 0, .int .i64 ((a : Nat) : Int)], .int .i64 ((n : Nat) : Int), .int .i64 ((0 : Nat) : Int)]))) : Spec tab 16 [.ptr X 0] [X] [⟨X, ⟨2, true, [.str s, .int .i64 ((a : Nat) : Int)]⟩, true⟩] (fun r D => r = .tuple [.agg [.int .i64 ((4 : Nat) : Int), .str v, .int .i64 0, .int .i64 ((a : Nat) : Int)], .int .i64 ((0 : Nat) : Int)] ∧ D = [⟨X, ⟨2, true, [.str s, .int .i64 ((a + n : Nat) : Int)]⟩, true⟩]) := by
  refine Spec.enter' (ft_get 16 Tryd.func16) rfl (m := 101) rfl (rs := [.cell 2 28, .tmp 3]) rfl (st := [(0, .ptr X 0)]) rfl rfl (fun _ => rfl) (fun E => ?_)
  refine W.seq ?_
  refine W.reg ?_
  refine WO.alloc ao28 rfl (fun b1 => ?_)
  refine WO.q (Q.assign (oc (v := .int .i64 ((0 : Nat) : Int)) rfl)) rfl ?_
  refine WO.nil ?_
  refine End.K ?_
  refine W.seq ?_
  refine W.regT (by kernel_rfl) ?_
  refine WO.q (Q.move rfl) rfl ?_
  refine WO.q (Q.nilP rfl) rfl ?_
  refine WO.q (Q.fieldAddr fa44_0 rfl (o' := 0) rfl) rfl ?_
  refine WO.q (Q.load1 rfl (mem_at (i := 1) rfl) ag9 rfl) rfl ?_
  refine WO.q (Q.move rfl) rfl ?_
  refine WO.q (Q.nilP rfl) rfl ?_
  refine WO.q (Q.fieldAddr fa44_1 rfl (o' := 1) rfl) rfl ?_
  refine WO.q (Q.load1 rfl (mem_at (i := 1) rfl) ag3 rfl) rfl ?_
  refine WO.indexB hs ud9 rfl rfl (by first | omega | (simp only [List.length_drop, List.length_take, List.length_append, List.length_cons, List.length_nil] at *; omega)) rfl (fun c16 hd16 hb16 => ?_)
  refine WO.q (Q.assign rfl) rfl ?_
  refine WO.nil ?_
  refine End.K ?_
  refine W.sub (SubS.cons (k := 4) rfl (SubS.cons (k := 2) rfl (SubS.cons (k := 0) rfl (SubS.nil _)))) ?_
  refine W.seq ?_
  refine W.reg ?_
  refine WO.alloc ao28 rfl (fun b2 => ?_)
  refine WO.nil ?_
  refine End.K ?_
  refine W.seq ?_
  refine W.reg ?_
  refine WO.q (Q.assign (oc (v := .int .i64 ((0 : Nat) : Int)) rfl)) rfl ?_
  refine WO.q (Q.assign (oc (v := .int .i64 ((0 : Nat) : Int)) rfl)) rfl ?_
  refine WO.nil ?_
  refine End.K ?_
  refine W.seq ?_
  refine W.block ?_
  refine W.seq ?_
  refine W.block ?_
  refine W.seq ?_
  refine W.block ?_
  refine W.seq ?_
  refine W.block ?_
  refine W.seq ?_
  refine W.block ?_
  refine W.seq ?_
  refine W.seq ?_
  refine W.seq ?_
  refine W.reg ?_
  refine WO.q (Q.move rfl) rfl ?_
  refine WO.callV rfl (oLs_cons rfl oLs_nil) rfl (digit_spec _ (by assumption)) SubR.nil rfl ?_
  refine WO.q (Q.assign rfl) rfl ?_
  refine WO.nil ?_
  refine End.K ?_
  refine W.condS rfl (fun hc17 => ?_) (fun hc17 => ?_)
  · (rw [hd16, hD] at hc17; cases hc17)
  · skip -- F
    refine W.skip ?_
    refine End.K ?_
    refine W.seq ?_
    refine W.seq ?_
    refine W.reg ?_
    refine WO.q (Q.move rfl) rfl ?_
    refine WO.q (Q.bin rfl (oc (v := .int .u8 ((34 : Nat) : Int)) rfl) rfl (bv_eql eq_nat)) rfl ?_
    refine WO.q (Q.assign rfl) rfl ?_
    refine WO.nil ?_
    refine End.K ?_
    refine W.condDS rfl (fun hc20 => ?_) (fun hc20 => ?_)
    · skip -- FT
      refine W.exit ?_
      refine End.K_exit (End.K_exit (End.KB_miss rfl (End.K_exit (End.KB_hit (End.K ?_)))))
      refine W.sub (SubS.cons (k := 5) rfl (SubS.cons (k := 2) rfl (SubS.cons (k := 0) rfl (SubS.nil _)))) ?_
      refine W.seq ?_
      refine W.reg ?_
      refine WO.q (Q.move rfl) rfl ?_
      refine WO.callV rfl (oLs_cons rfl oLs_nil) rfl HT (SubR.one (mem_at (i := 2) rfl)) rfl ?_
      refine WO.q (Q.move rfl) rfl ?_
      refine WO.q (Q.extract rfl rfl) rfl ?_
      refine WO.q (Q.extract rfl rfl) rfl ?_
      refine WO.q (Q.extract rfl rfl) rfl ?_
      refine WO.store sz28 rfl rfl (i := 0) rfl rfl (cs := [_, _, _, _]) rfl (hs' := [_, _, _]) rfl ?_
      refine WO.q (Q.assign rfl) rfl ?_
      refine WO.q (Q.assign rfl) rfl ?_
      refine WO.nil ?_
      refine End.K ?_
      refine W.sub (SubS.cons (k := 6) rfl (SubS.cons (k := 7) rfl (SubS.cons (k := 5) rfl (SubS.cons (k := 2) rfl (SubS.cons (k := 0) rfl (SubS.nil _)))))) ?_
      refine W.exit ?_
      refine End.KB_miss rfl (End.K_exit (End.KB_miss rfl (End.K_exit (End.KB_hit (End.K ?_)))))
      refine W.seq ?_
      refine W.seq ?_
      refine W.reg ?_
      refine WO.q (Q.move rfl) rfl ?_
      refine WO.q (Q.bin rfl (oc (v := .int .i64 ((0 : Nat) : Int)) rfl) rfl (bv_neq (p := false) rfl)) rfl ?_
      refine WO.nil ?_
      refine End.K ?_
      refine W.condF rfl ?_
      refine W.skip ?_
      refine End.K ?_
      refine W.seq ?_
      refine W.reg ?_
      refine WO.q (Q.move rfl) rfl ?_
      refine WO.q (Q.nilP rfl) rfl ?_
      refine WO.q (Q.fieldAddr fa44_1 rfl (o' := 1) rfl) rfl ?_
      refine WO.q (Q.load1 rfl (mem_at (i := 2) rfl) ag3 rfl) rfl ?_
      refine WO.q (Q.move rfl) rfl ?_
      refine WO.q (Q.bin rfl rfl rfl (bv_add (wn_add (by first | omega | (simp only [List.length_drop, List.length_take, List.length_append, List.length_cons, List.length_nil] at *; omega))))) rfl ?_
      refine WO.q (Q.nilP rfl) rfl ?_
      refine WO.q (Q.fieldAddr fa44_1 rfl (o' := 1) rfl) rfl ?_
      refine WO.store sz3 rfl rfl (i := 2) rfl rfl (cs := [_, _]) rfl (hs' := [_, _, _]) rfl ?_
      refine WO.nil ?_
      refine End.K ?_
      refine W.sub (SubS.cons (k := 5) rfl (SubS.cons (k := 2) rfl (SubS.nil _))) ?_
      refine W.seq ?_
      refine W.reg ?_
      refine WO.q (Q.loadN rfl (mem_at (i := 0) rfl) ag28 sz28 (l := [_, _, _, _]) rfl) rfl ?_
      refine WO.store sz28 rfl rfl (i := 1) rfl rfl (cs := [_, _, _, _]) rfl (hs' := [_, _, _]) rfl ?_
      refine WO.q (Q.assign (oc (v := .int .i64 ((0 : Nat) : Int)) rfl)) rfl ?_
      refine WO.nil ?_
      refine End.K ?_
      refine W.ret ?_
      refine End.ret (ResL.agg (c := [_, _, _, _]) rfl (mem_at (i := 1) rfl) ag28 sz28 rfl (ResL.tmp rfl ResL.nil)) (hs' := [⟨X, ⟨2, true, [.str s, .int .i64 ((a + n : Nat) : Int)]⟩, true⟩]) ⟨rfl, rfl⟩ (by intro e he; simp at he; subst he; rfl) (SubH.of_sublist (by first | exact List.Sublist.refl _ | simp))
    · exact absurd (hd16.trans h34) hc20

theorem tok_txt_bad (s : List Nat) (hs : Bytes s) (hl : s.length ≤ 1024) (X a : Nat) (ha : a < s.length) (hD : isDig (s.getD a 0) = false) (h34 : s.getD a 0 = 34) (HT : Spec tab 31 [.ptr X 0] [] [⟨X, ⟨2, true, [.str s, .int .i64 ((a : Nat) : Int)]⟩, false⟩] (Val (.tuple [.agg [.int .i64 0, .str [], .int .i64 0, .int .i64 0], .int .i64 ((0 : Nat) : Int), .int .i64 ((14 : Nat) : Int)]))) : Spec tab 16 [.ptr X 0] [X] [⟨X, ⟨2, true, [.str s, .int .i64 ((a : Nat) : Int)]⟩, true⟩] (fun v D => (∃ (c0 : Int) (c1 : List Nat) (c2 c3 e : Int), v = .tuple [.agg [.int .i64 c0, .str c1, .int .i64 c2, .int .i64 c3], .int .i64 e] ∧ e ≠ 0) ∧ D = [⟨X, ⟨2, true, [.str s, .int .i64 ((a : Nat) : Int)]⟩, true⟩]) := by
  refine Spec.enter' (ft_get 16 Tryd.func16) rfl (m := 101) rfl (rs := [.cell 2 28, .tmp 3]) rfl (st := [(0, .ptr X 0)]) rfl rfl (fun _ => rfl) (fun E => ?_)
  refine W.seq ?_
  refine W.reg ?_
  refine WO.alloc ao28 rfl (fun b1 => ?_)
  refine WO.q (Q.assign (oc (v := .int .i64 ((0 : Nat) : Int)) rfl)) rfl ?_
  refine WO.nil ?_
  refine End.K ?_
  refine W.seq ?_
  refine W.regT (by kernel_rfl) ?_
  refine WO.q (Q.move rfl) rfl ?_
  refine WO.q (Q.nilP rfl) rfl ?_
  refine WO.q (Q.fieldAddr fa44_0 rfl (o' := 0) rfl) rfl ?_
  refine WO.q (Q.load1 rfl (mem_at (i := 1) rfl) ag9 rfl) rfl ?_
  refine WO.q (Q.move rfl) rfl ?_
  refine WO.q (Q.nilP rfl) rfl ?_
  refine WO.q (Q.fieldAddr fa44_1 rfl (o' := 1) rfl) rfl ?_
  refine WO.q (Q.load1 rfl (mem_at (i := 1) rfl) ag3 rfl) rfl ?_
  refine WO.indexB hs ud9 rfl rfl (by first | omega | (simp only [List.length_drop, List.length_take, List.length_append, List.length_cons, List.length_nil] at *; omega)) rfl (fun c16 hd16 hb16 => ?_)
  refine WO.q (Q.assign rfl) rfl ?_
  refine WO.nil ?_
  refine End.K ?_
  refine W.sub (SubS.cons (k := 4) rfl (SubS.cons (k := 2) rfl (SubS.cons (k := 0) rfl (SubS.nil _)))) ?_
  refine W.seq ?_
  refine W.reg ?_
  refine WO.alloc ao28 rfl (fun b2 => ?_)
  refine WO.nil ?_
  refine End.K ?_
  refine W.seq ?_
  refine W.reg ?_
  refine WO.q (Q.assign (oc (v := .int .i64 ((0 : Nat) : Int)) rfl)) rfl ?_
  refine WO.q (Q.assign (oc (v := .int .i64 ((0 : Nat) : Int)) rfl)) rfl ?_
  refine WO.nil ?_
  refine End.K ?_
  refine W.seq ?_
  refine W.block ?_
  refine W.seq ?_
  refine W.block ?_
  refine W.seq ?_
  refine W.block ?_
  refine W.seq ?_
  refine W.block ?_
  refine W.seq ?_
  refine W.block ?_
  refine W.seq ?_
  refine W.seq ?_
  refine W.seq ?_
  refine W.reg ?_
  refine WO.q (Q.move rfl) rfl ?_
  refine WO.callV rfl (oLs_cons rfl oLs_nil) rfl (digit_spec _ (by assumption)) SubR.nil rfl ?_
  refine WO.q (Q.assign rfl) rfl ?_
  refine WO.nil ?_
  refine End.K ?_
  refine W.condS rfl (fun hc17 => ?_) (fun hc17 => ?_)
  · (rw [hd16, hD] at hc17; cases hc17)
  · skip -- F
    refine W.skip ?_
    refine End.K ?_
    refine W.seq ?_
    refine W.seq ?_
    refine W.reg ?_
    refine WO.q (Q.move rfl) rfl ?_
    refine WO.q (Q.bin rfl (oc (v := .int .u8 ((34 : Nat) : Int)) rfl) rfl (bv_eql eq_nat)) rfl ?_
    refine WO.q (Q.assign rfl) rfl ?_
    refine WO.nil ?_
    refine End.K ?_
    refine W.condDS rfl (fun hc20 => ?_) (fun hc20 => ?_)
    · skip -- FT
      refine W.exit ?_
      refine End.K_exit (End.K_exit (End.KB_miss rfl (End.K_exit (End.KB_hit (End.K ?_)))))
      refine W.sub (SubS.cons (k := 5) rfl (SubS.cons (k := 2) rfl (SubS.cons (k := 0) rfl (SubS.nil _)))) ?_
      refine W.seq ?_
      refine W.reg ?_
      refine WO.q (Q.move rfl) rfl ?_
      refine WO.callV rfl (oLs_cons rfl oLs_nil) rfl HT (SubR.one (mem_at (i := 2) rfl)) rfl ?_
      refine WO.q (Q.move rfl) rfl ?_
      refine WO.q (Q.extract rfl rfl) rfl ?_
      refine WO.q (Q.extract rfl rfl) rfl ?_
      refine WO.q (Q.extract rfl rfl) rfl ?_
      refine WO.store sz28 rfl rfl (i := 0) rfl rfl (cs := [_, _, _, _]) rfl (hs' := [_, _, _]) rfl ?_
      refine WO.q (Q.assign rfl) rfl ?_
      refine WO.q (Q.assign rfl) rfl ?_
      refine WO.nil ?_
      refine End.K ?_
      refine W.sub (SubS.cons (k := 6) rfl (SubS.cons (k := 7) rfl (SubS.cons (k := 5) rfl (SubS.cons (k := 2) rfl (SubS.cons (k := 0) rfl (SubS.nil _)))))) ?_
      refine W.exit ?_
      refine End.KB_miss rfl (End.K_exit (End.KB_miss rfl (End.K_exit (End.KB_hit (End.K ?_)))))
      refine W.seq ?_
      refine W.seq ?_
      refine W.reg ?_
      refine WO.q (Q.move rfl) rfl ?_
      refine WO.q (Q.bin rfl (oc (v := .int .i64 ((0 : Nat) : Int)) rfl) rfl (bv_neq (p := true) rfl)) rfl ?_
      refine WO.nil ?_
      refine End.K ?_
      refine W.condT rfl ?_
      refine W.seq ?_
      refine W.reg ?_
      refine WO.q (Q.loadN rfl (mem_at (i := 0) rfl) ag28 sz28 (l := [_, _, _, _]) rfl) rfl ?_
      refine WO.q (Q.move rfl) rfl ?_
      refine WO.store sz28 rfl rfl (i := 1) rfl rfl (cs := [_, _, _, _]) rfl (hs' := [_, _, _]) rfl ?_
      refine WO.q (Q.assign rfl) rfl ?_
      refine WO.nil ?_
      refine End.K ?_
      refine W.sub (SubS.cons (k := 3) rfl (SubS.cons (k := 2) rfl (SubS.nil _))) ?_
      refine W.ret ?_
      refine End.K_ret (End.ret (ResL.agg (c := [_, _, _, _]) rfl (mem_at (i := 1) rfl) ag28 sz28 rfl (ResL.tmp rfl ResL.nil)) (hs' := [⟨X, ⟨2, true, [.str s, .int .i64 ((a : Nat) : Int)]⟩, true⟩]) ⟨⟨_, _, _, _, _, rfl, (by decide)⟩, rfl⟩ (by intro e he; simp at he; subst he; rfl) (SubH.of_sublist (by first | exact List.Sublist.refl _ | simp)))
    · exact absurd (hd16.trans h34) hc20

theorem tok_nam (s : List Nat) (hs : Bytes s) (hl : s.length ≤ 1024) (X a : Nat) (ha : a < s.length) (hD : isDig (s.getD a 0) = false) (h34 : s.getD a 0 ≠ 34) (hL : isLet (s.getD a 0) = true) (hp : 0 < pre namc (s.drop a)) : Spec tab 16 [.ptr X 0] [X] [⟨X, ⟨2, true, [.str s, .int .i64 ((a : Nat) : Int)]⟩, true⟩] (fun r D => r = .tuple [.agg [.int .i64 ((1 : Nat) : Int), .str ((s.drop a).take (pre namc (s.drop a))), .int .i64 0, .int .i64 ((a : Nat) : Int)], .int .i64 ((0 : Nat) : Int)] ∧ D = [⟨X, ⟨2, true, [.str s, .int .i64 ((a + pre namc (s.drop a) : Nat) : Int)]⟩, true⟩]) := by
  have hpl := Ev.pre_le namc (s.drop a)
  rw [List.length_drop] at hpl
  refine Spec.enter' (ft_get 16 Tryd.func16) rfl (m := 101) rfl (rs := [.cell 2 28, .tmp 3]) rfl (st := [(0, .ptr X 0)]) rfl rfl (fun _ => rfl) (fun E => ?_)
  refine W.seq ?_
  refine W.reg ?_
  refine WO.alloc ao28 rfl (fun b1 => ?_)
  refine WO.q (Q.assign (oc (v := .int .i64 ((0 : Nat) : Int)) rfl)) rfl ?_
  refine WO.nil ?_
  refine End.K ?_
  refine W.seq ?_
  refine W.regT (by kernel_rfl) ?_
  refine WO.q (Q.move rfl) rfl ?_
  refine WO.q (Q.nilP rfl) rfl ?_
  refine WO.q (Q.fieldAddr fa44_0 rfl (o' := 0) rfl) rfl ?_
  refine WO.q (Q.load1 rfl (mem_at (i := 1) rfl) ag9 rfl) rfl ?_
  refine WO.q (Q.move rfl) rfl ?_
  refine WO.q (Q.nilP rfl) rfl ?_
  refine WO.q (Q.fieldAddr fa44_1 rfl (o' := 1) rfl) rfl ?_
  refine WO.q (Q.load1 rfl (mem_at (i := 1) rfl) ag3 rfl) rfl ?_
  refine WO.indexB hs ud9 rfl rfl (by first | omega | (simp only [List.length_drop, List.length_take, List.length_append, List.length_cons, List.length_nil] at *; omega)) rfl (fun c16 hd16 hb16 => ?_)
  refine WO.q (Q.assign rfl) rfl ?_
  refine WO.nil ?_
  refine End.K ?_
  refine W.sub (SubS.cons (k := 4) rfl (SubS.cons (k := 2) rfl (SubS.cons (k := 0) rfl (SubS.nil _)))) ?_
  refine W.seq ?_
  refine W.reg ?_
  refine WO.alloc ao28 rfl (fun b2 => ?_)
  refine WO.nil ?_
  refine End.K ?_
  refine W.seq ?_
  refine W.reg ?_
  refine WO.q (Q.assign (oc (v := .int .i64 ((0 : Nat) : Int)) rfl)) rfl ?_
  refine WO.q (Q.assign (oc (v := .int .i64 ((0 : Nat) : Int)) rfl)) rfl ?_
  refine WO.nil ?_
  refine End.K ?_
  refine W.seq ?_
  refine W.block ?_
  refine W.seq ?_
  refine W.block ?_
  refine W.seq ?_
  refine W.block ?_
  refine W.seq ?_
  refine W.block ?_
  refine W.seq ?_
  refine W.block ?_
  refine W.seq ?_
  refine W.seq ?_
  refine W.seq ?_
  refine W.reg ?_
  refine WO.q (Q.move rfl) rfl ?_
  refine WO.callV rfl (oLs_cons rfl oLs_nil) rfl (digit_spec _ (by assumption)) SubR.nil rfl ?_
  refine WO.q (Q.assign rfl) rfl ?_
  refine WO.nil ?_
  refine End.K ?_
  refine W.condS rfl (fun hc17 => ?_) (fun hc17 => ?_)
  · (rw [hd16, hD] at hc17; cases hc17)
  · skip -- F
    refine W.skip ?_
    refine End.K ?_
    refine W.seq ?_
    refine W.seq ?_
    refine W.reg ?_
    refine WO.q (Q.move rfl) rfl ?_
    refine WO.q (Q.bin rfl (oc (v := .int .u8 ((34 : Nat) : Int)) rfl) rfl (bv_eql eq_nat)) rfl ?_
    refine WO.q (Q.assign rfl) rfl ?_
    refine WO.nil ?_
    refine End.K ?_
    refine W.condDS rfl (fun hc20 => ?_) (fun hc20 => ?_)
    · exact absurd (hd16.symm.trans hc20) h34
    · skip -- FF
      refine W.skip ?_
      refine End.K ?_
      refine W.sub (SubS.cons (k := 7) rfl (SubS.cons (k := 6) rfl (SubS.cons (k := 5) rfl (SubS.cons (k := 4) rfl (SubS.cons (k := 2) rfl (SubS.cons (k := 0) rfl (SubS.nil _))))))) ?_
      refine W.seq ?_
      refine W.reg ?_
      refine WO.q (Q.move rfl) rfl ?_
      refine WO.callV rfl (oLs_cons rfl oLs_nil) rfl (letter_spec _ (by assumption)) SubR.nil rfl ?_
      refine WO.q (Q.assign rfl) rfl ?_
      refine WO.nil ?_
      refine End.K ?_
      refine W.condS rfl (fun hc23 => ?_) (fun hc23 => ?_)
      · skip -- FFT
        refine W.exit ?_
        refine End.K_exit (End.KB_miss rfl (End.K_exit (End.KB_miss rfl (End.K_exit (End.KB_hit (End.K ?_))))))
        refine W.seq ?_
        refine W.regT (by kernel_rfl) ?_
        refine WO.q (Q.move rfl) rfl ?_
        refine WO.q (Q.nilP rfl) rfl ?_
        refine WO.q (Q.fieldAddr fa44_0 rfl (o' := 0) rfl) rfl ?_
        refine WO.q (Q.load1 rfl (mem_at (i := 2) rfl) ag9 rfl) rfl ?_
        refine WO.q (Q.move rfl) rfl ?_
        refine WO.q (Q.nilP rfl) rfl ?_
        refine WO.q (Q.fieldAddr fa44_1 rfl (o' := 1) rfl) rfl ?_
        refine WO.q (Q.load1 rfl (mem_at (i := 2) rfl) ag3 rfl) rfl ?_
        refine WO.q (Q.sliceS ud9 rfl rfl (by first | omega | (simp only [List.length_drop, List.length_take, List.length_append, List.length_cons, List.length_nil] at *; omega)) sl_lo) rfl ?_
        refine WO.callV rfl (oLs_cons rfl (oLs_cons rfl oLs_nil)) rfl (prefix_spec _ (Bytes.drop hs _) (by first | omega | (simp only [List.length_drop, List.length_take, List.length_append, List.length_cons, List.length_nil] at *; omega)) _ [] namc (fun c hc => nam_spec c hc)) SubR.nil rfl ?_
        refine WO.q (Q.assign rfl) rfl ?_
        refine WO.nil ?_
        refine End.K ?_
        refine W.sub (SubS.cons (k := 7) rfl (SubS.cons (k := 6) rfl (SubS.cons (k := 5) rfl (SubS.cons (k := 2) rfl (SubS.cons (k := 0) rfl (SubS.nil _)))))) ?_
        refine W.reg ?_
        refine WO.q (Q.fieldAddr fa28_0 rfl (o' := 0) rfl) rfl ?_
        refine WO.store sz3 rfl (oc (v := .int .i64 ((1 : Nat) : Int)) rfl) (i := 0) rfl rfl (cs := [_, _, _, _]) rfl (hs' := [_, _, _]) rfl ?_
        refine WO.nil ?_
        refine End.KB (End.K ?_)
        refine W.seq ?_
        refine W.seq ?_
        refine W.seq ?_
        refine W.reg ?_
        refine WO.q (Q.fieldAddr fa28_0 rfl (o' := 0) rfl) rfl ?_
        refine WO.q (Q.load1 rfl (mem_at (i := 0) rfl) ag3 rfl) rfl ?_
        refine WO.q (Q.bin rfl (oc (v := .int .i64 ((0 : Nat) : Int)) rfl) rfl (bv_eql (p := false) rfl)) rfl ?_
        refine WO.nil ?_
        refine End.K ?_
        refine W.condF rfl ?_
        refine W.skip ?_
        refine End.K ?_
        refine W.seq ?_
        refine W.seq ?_
        refine W.reg ?_
        refine WO.q (Q.move rfl) rfl ?_
        refine WO.q (Q.bin rfl (oc (v := .int .i64 ((0 : Nat) : Int)) rfl) rfl (bv_eql eq_nat)) rfl ?_
        refine WO.nil ?_
        refine End.K ?_
        refine W.condDS rfl (fun hc66 => ?_) (fun hc66 => ?_)
        · exact absurd hc66 (by omega)
        · skip -- FFTF
          refine W.skip ?_
          refine End.K ?_
          refine W.sub (SubS.cons (k := 7) rfl (SubS.cons (k := 6) rfl (SubS.cons (k := 5) rfl (SubS.cons (k := 2) rfl (SubS.cons (k := 0) rfl (SubS.nil _)))))) ?_
          refine W.regD 21 [⟨X, _, false⟩] (by kernel_rfl) (KIn.cons (mem_at (i := 2) rfl) KIn.nil) ?_
          refine WD.q (Q.move rfl) bq_ptr rfl ?_
          refine WD.q (Q.nilP rfl) bq_ptr rfl ?_
          refine WD.q (Q.fieldAddr fa44_0 rfl (o' := 0) rfl) bq_ptr rfl ?_
          refine WD.q (Q.load1 rfl (mem_at (i := 0) rfl) ag9 rfl) bq_str rfl ?_
          refine WD.q (Q.move rfl) bq_ptr rfl ?_
          refine WD.q (Q.nilP rfl) bq_ptr rfl ?_
          refine WD.q (Q.fieldAddr fa44_1 rfl (o' := 1) rfl) bq_ptr rfl ?_
          refine WD.q (Q.load1 rfl (mem_at (i := 0) rfl) ag3 rfl) bq_int rfl ?_
          refine WD.q (Q.move rfl) bq_ptr rfl ?_
          refine WD.q (Q.nilP rfl) bq_ptr rfl ?_
          refine WD.q (Q.fieldAddr fa44_1 rfl (o' := 1) rfl) bq_ptr rfl ?_
          refine WD.q (Q.load1 rfl (mem_at (i := 0) rfl) ag3 rfl) bq_int rfl ?_
          refine WD.q (Q.move rfl) bq_int rfl ?_
          refine WD.q (Q.bin rfl rfl rfl (bv_add (wn_add (by first | omega | (simp only [List.length_drop, List.length_take, List.length_append, List.length_cons, List.length_nil] at *; omega))))) bq_int rfl ?_
          refine WD.q (Q.sliceS ud9 rfl rfl (by first | omega | (simp only [List.length_drop, List.length_take, List.length_append, List.length_cons, List.length_nil] at *; omega)) sl_add) bq_str rfl ?_
          refine WD.q (Q.move rfl) bq_ptr rfl ?_
          refine WD.q (Q.nilP rfl) bq_ptr rfl ?_
          refine WD.q (Q.fieldAddr fa44_1 rfl (o' := 1) rfl) bq_ptr rfl ?_
          refine WD.q (Q.load1 rfl (mem_at (i := 0) rfl) ag3 rfl) bq_int rfl ?_
          refine WD.q (Q.fieldAddr fa28_1 rfl (o' := 1) rfl) bq_ptr rfl ?_
          refine WD.store sz9 rfl rfl (j := 0) rfl rfl (cs := [_, _, _, _]) rfl (hs' := [_, _, _]) rfl (fun _ => (KIn.cons (mem_at (i := 2) rfl) KIn.nil)) ?_
          refine WD.q (Q.fieldAddr fa28_3 rfl (o' := 3) rfl) bq_ptr rfl ?_
          refine WD.store sz3 rfl rfl (j := 0) rfl rfl (cs := [_, _, _, _]) rfl (hs' := [_, _, _]) rfl (fun h => by cases h) ?_
          refine WD.nil ?_
          refine End.K ?_
          refine W.sub (SubS.cons (k := 7) rfl (SubS.cons (k := 6) rfl (SubS.cons (k := 5) rfl (SubS.cons (k := 2) rfl (SubS.cons (k := 0) rfl (SubS.nil _)))))) ?_
          refine W.exit ?_
          refine End.KB_hit (End.K ?_)
          refine W.seq ?_
          refine W.seq ?_
          refine W.reg ?_
          refine WO.q (Q.move rfl) rfl ?_
          refine WO.q (Q.bin rfl (oc (v := .int .i64 ((0 : Nat) : Int)) rfl) rfl (bv_neq (p := false) rfl)) rfl ?_
          refine WO.nil ?_
          refine End.K ?_
          refine W.condF rfl ?_
          refine W.skip ?_
          refine End.K ?_
          refine W.seq ?_
          refine W.reg ?_
          refine WO.q (Q.move rfl) rfl ?_
          refine WO.q (Q.nilP rfl) rfl ?_
          refine WO.q (Q.fieldAddr fa44_1 rfl (o' := 1) rfl) rfl ?_
          refine WO.q (Q.load1 rfl (mem_at (i := 2) rfl) ag3 rfl) rfl ?_
          refine WO.q (Q.move rfl) rfl ?_
          refine WO.q (Q.bin rfl rfl rfl (bv_add (wn_add (by first | omega | (simp only [List.length_drop, List.length_take, List.length_append, List.length_cons, List.length_nil] at *; omega))))) rfl ?_
          refine WO.q (Q.nilP rfl) rfl ?_
          refine WO.q (Q.fieldAddr fa44_1 rfl (o' := 1) rfl) rfl ?_
          refine WO.store sz3 rfl rfl (i := 2) rfl rfl (cs := [_, _]) rfl (hs' := [_, _, _]) rfl ?_
          refine WO.nil ?_
          refine End.K ?_
          refine W.sub (SubS.cons (k := 5) rfl (SubS.cons (k := 2) rfl (SubS.nil _))) ?_
          refine W.seq ?_
          refine W.reg ?_
          refine WO.q (Q.loadN rfl (mem_at (i := 0) rfl) ag28 sz28 (l := [_, _, _, _]) rfl) rfl ?_
          refine WO.store sz28 rfl rfl (i := 1) rfl rfl (cs := [_, _, _, _]) rfl (hs' := [_, _, _]) rfl ?_
          refine WO.q (Q.assign (oc (v := .int .i64 ((0 : Nat) : Int)) rfl)) rfl ?_
          refine WO.nil ?_
          refine End.K ?_
          refine W.ret ?_
          refine End.ret (ResL.agg (c := [_, _, _, _]) rfl (mem_at (i := 1) rfl) ag28 sz28 rfl (ResL.tmp rfl ResL.nil)) (hs' := [⟨X, ⟨2, true, [.str s, .int .i64 ((a + pre namc (s.drop a) : Nat) : Int)]⟩, true⟩]) ⟨rfl, rfl⟩ (by intro e he; simp at he; subst he; rfl) (SubH.of_sublist (by first | exact List.Sublist.refl _ | simp))
      · (rw [hd16, hL] at hc23; cases hc23)

theorem tok_mark_ok (s : List Nat) (hs : Bytes s) (hl : s.length ≤ 1024) (X a : Nat) (ha : a < s.length) (hD : isDig (s.getD a 0) = false) (h34 : s.getD a 0 ≠ 34) (hL : isLet (s.getD a 0) = false) (hm : mkN (s.drop a) ≠ 0) : Spec tab 16 [.ptr X 0] [X] [⟨X, ⟨2, true, [.str s, .int .i64 ((a : Nat) : Int)]⟩, true⟩] (fun r D => r = .tuple [.agg [.int .i64 ((5 : Nat) : Int), .str ((s.drop a).take (mkN (s.drop a))), .int .i64 0, .int .i64 ((a : Nat) : Int)], .int .i64 ((0 : Nat) : Int)] ∧ D = [⟨X, ⟨2, true, [.str s, .int .i64 ((a + mkN (s.drop a) : Nat) : Int)]⟩, true⟩]) := by
  have hml := mkN_le (s := s.drop a) (by simp; omega)
  rw [List.length_drop] at hml
  refine Spec.enter' (ft_get 16 Tryd.func16) rfl (m := 101) rfl (rs := [.cell 2 28, .tmp 3]) rfl (st := [(0, .ptr X 0)]) rfl rfl (fun _ => rfl) (fun E => ?_)
  refine W.seq ?_
  refine W.reg ?_
  refine WO.alloc ao28 rfl (fun b1 => ?_)
  refine WO.q (Q.assign (oc (v := .int .i64 ((0 : Nat) : Int)) rfl)) rfl ?_
  refine WO.nil ?_
  refine End.K ?_
  refine W.seq ?_
  refine W.regT (by kernel_rfl) ?_
  refine WO.q (Q.move rfl) rfl ?_
  refine WO.q (Q.nilP rfl) rfl ?_
  refine WO.q (Q.fieldAddr fa44_0 rfl (o' := 0) rfl) rfl ?_
  refine WO.q (Q.load1 rfl (mem_at (i := 1) rfl) ag9 rfl) rfl ?_
  refine WO.q (Q.move rfl) rfl ?_
  refine WO.q (Q.nilP rfl) rfl ?_
  refine WO.q (Q.fieldAddr fa44_1 rfl (o' := 1) rfl) rfl ?_
  refine WO.q (Q.load1 rfl (mem_at (i := 1) rfl) ag3 rfl) rfl ?_
  refine WO.indexB hs ud9 rfl rfl (by first | omega | (simp only [List.length_drop, List.length_take, List.length_append, List.length_cons, List.length_nil] at *; omega)) rfl (fun c16 hd16 hb16 => ?_)
  refine WO.q (Q.assign rfl) rfl ?_
  refine WO.nil ?_
  refine End.K ?_
  refine W.sub (SubS.cons (k := 4) rfl (SubS.cons (k := 2) rfl (SubS.cons (k := 0) rfl (SubS.nil _)))) ?_
  refine W.seq ?_
  refine W.reg ?_
  refine WO.alloc ao28 rfl (fun b2 => ?_)
  refine WO.nil ?_
  refine End.K ?_
  refine W.seq ?_
  refine W.reg ?_
  refine WO.q (Q.assign (oc (v := .int .i64 ((0 : Nat) : Int)) rfl)) rfl ?_
  refine WO.q (Q.assign (oc (v := .int .i64 ((0 : Nat) : Int)) rfl)) rfl ?_
  refine WO.nil ?_
  refine End.K ?_
  refine W.seq ?_
  refine W.block ?_
  refine W.seq ?_
  refine W.block ?_
  refine W.seq ?_
  refine W.block ?_
  refine W.seq ?_
  refine W.block ?_
  refine W.seq ?_
  refine W.block ?_
  refine W.seq ?_
  refine W.seq ?_
  refine W.seq ?_
  refine W.reg ?_
  refine WO.q (Q.move rfl) rfl ?_
  refine WO.callV rfl (oLs_cons rfl oLs_nil) rfl (digit_spec _ (by assumption)) SubR.nil rfl ?_
  refine WO.q (Q.assign rfl) rfl ?_
  refine WO.nil ?_
  refine End.K ?_
  refine W.condS rfl (fun hc17 => ?_) (fun hc17 => ?_)
  · (rw [hd16, hD] at hc17; cases hc17)
  · skip -- F
    refine W.skip ?_
    refine End.K ?_
    refine W.seq ?_
    refine W.seq ?_
    refine W.reg ?_
    refine WO.q (Q.move rfl) rfl ?_
    refine WO.q (Q.bin rfl (oc (v := .int .u8 ((34 : Nat) : Int)) rfl) rfl (bv_eql eq_nat)) rfl ?_
    refine WO.q (Q.assign rfl) rfl ?_
    refine WO.nil ?_
    refine End.K ?_
    refine W.condDS rfl (fun hc20 => ?_) (fun hc20 => ?_)
    · exact absurd (hd16.symm.trans hc20) h34
    · skip -- FF
      refine W.skip ?_
      refine End.K ?_
      refine W.sub (SubS.cons (k := 7) rfl (SubS.cons (k := 6) rfl (SubS.cons (k := 5) rfl (SubS.cons (k := 4) rfl (SubS.cons (k := 2) rfl (SubS.cons (k := 0) rfl (SubS.nil _))))))) ?_
      refine W.seq ?_
      refine W.reg ?_
      refine WO.q (Q.move rfl) rfl ?_
      refine WO.callV rfl (oLs_cons rfl oLs_nil) rfl (letter_spec _ (by assumption)) SubR.nil rfl ?_
      refine WO.q (Q.assign rfl) rfl ?_
      refine WO.nil ?_
      refine End.K ?_
      refine W.condS rfl (fun hc23 => ?_) (fun hc23 => ?_)
      · (rw [hd16, hL] at hc23; cases hc23)
      · skip -- FFF
        refine W.skip ?_
        refine End.K ?_
        refine W.exit ?_
        refine End.KB_miss rfl (End.K_exit (End.KB_miss rfl (End.K_exit (End.KB_miss rfl (End.K_exit (End.KB_hit (End.K ?_)))))))
        refine W.seq ?_
        refine W.seq ?_
        refine W.seq ?_
        refine W.reg ?_
        refine WO.q (Q.fieldAddr fa28_0 rfl (o' := 0) rfl) rfl ?_
        refine WO.q (Q.load1 rfl (mem_at (i := 0) rfl) ag3 rfl) rfl ?_
        refine WO.q (Q.bin rfl (oc (v := .int .i64 ((0 : Nat) : Int)) rfl) rfl (bv_eql (p := true) rfl)) rfl ?_
        refine WO.nil ?_
        refine End.K ?_
        refine W.sub (SubS.cons (k := 53) rfl (SubS.cons (k := 7) rfl (SubS.cons (k := 6) rfl (SubS.cons (k := 5) rfl (SubS.cons (k := 2) rfl (SubS.cons (k := 0) rfl (SubS.nil _))))))) ?_
        refine W.condT rfl ?_
        refine W.regD 11 _ (by kernel_rfl) (KIn.refl _) ?_
        refine WD.q (Q.move rfl) bq_ptr rfl ?_
        refine WD.q (Q.nilP rfl) bq_ptr rfl ?_
        refine WD.q (Q.fieldAddr fa44_0 rfl (o' := 0) rfl) bq_ptr rfl ?_
        refine WD.q (Q.load1 rfl (mem_at (i := 2) rfl) ag9 rfl) bq_str rfl ?_
        refine WD.q (Q.move rfl) bq_ptr rfl ?_
        refine WD.q (Q.nilP rfl) bq_ptr rfl ?_
        refine WD.q (Q.fieldAddr fa44_1 rfl (o' := 1) rfl) bq_ptr rfl ?_
        refine WD.q (Q.load1 rfl (mem_at (i := 2) rfl) ag3 rfl) bq_int rfl ?_
        refine WD.q (Q.sliceS ud9 rfl rfl (by first | omega | (simp only [List.length_drop, List.length_take, List.length_append, List.length_cons, List.length_nil] at *; omega)) sl_lo) bq_str rfl ?_
        refine WD.callV rfl (oLs_cons rfl oLs_nil) rfl (mark_spec _ (Bytes.drop hs _) (by first | omega | (simp only [List.length_drop, List.length_take, List.length_append, List.length_cons, List.length_nil] at *; omega)) (by first | omega | (simp only [List.length_drop, List.length_take, List.length_append, List.length_cons, List.length_nil] at *; omega))) SubR.nil (KIn.refl _) rfl ?_
        refine WD.q (Q.fieldAddr fa28_0 rfl (o' := 0) rfl) bq_ptr rfl ?_
        refine WD.store sz3 rfl (oc (v := .int .i64 ((5 : Nat) : Int)) rfl) (j := 0) rfl rfl (cs := [_, _, _, _]) rfl (hs' := [_, _, _]) rfl (fun h => by cases h) ?_
        refine WD.q (Q.assign rfl) bq_int rfl ?_
        refine WD.nil ?_
        refine End.K ?_
        refine W.sub (SubS.cons (k := 7) rfl (SubS.cons (k := 6) rfl (SubS.cons (k := 5) rfl (SubS.cons (k := 2) rfl (SubS.cons (k := 0) rfl (SubS.nil _)))))) ?_
        refine W.seq ?_
        refine W.seq ?_
        refine W.reg ?_
        refine WO.q (Q.move rfl) rfl ?_
        refine WO.q (Q.bin rfl (oc (v := .int .i64 ((0 : Nat) : Int)) rfl) rfl (bv_eql eq_nat)) rfl ?_
        refine WO.nil ?_
        refine End.K ?_
        refine W.condDS rfl (fun hc66 => ?_) (fun hc66 => ?_)
        · exact absurd hc66 hm
        · skip -- FFFF
          refine W.skip ?_
          refine End.K ?_
          refine W.regD 21 [⟨X, _, false⟩] (by kernel_rfl) (KIn.cons (mem_at (i := 2) rfl) KIn.nil) ?_
          refine WD.q (Q.move rfl) bq_ptr rfl ?_
          refine WD.q (Q.nilP rfl) bq_ptr rfl ?_
          refine WD.q (Q.fieldAddr fa44_0 rfl (o' := 0) rfl) bq_ptr rfl ?_
          refine WD.q (Q.load1 rfl (mem_at (i := 0) rfl) ag9 rfl) bq_str rfl ?_
          refine WD.q (Q.move rfl) bq_ptr rfl ?_
          refine WD.q (Q.nilP rfl) bq_ptr rfl ?_
          refine WD.q (Q.fieldAddr fa44_1 rfl (o' := 1) rfl) bq_ptr rfl ?_
          refine WD.q (Q.load1 rfl (mem_at (i := 0) rfl) ag3 rfl) bq_int rfl ?_
          refine WD.q (Q.move rfl) bq_ptr rfl ?_
          refine WD.q (Q.nilP rfl) bq_ptr rfl ?_
          refine WD.q (Q.fieldAddr fa44_1 rfl (o' := 1) rfl) bq_ptr rfl ?_
          refine WD.q (Q.load1 rfl (mem_at (i := 0) rfl) ag3 rfl) bq_int rfl ?_
          refine WD.q (Q.move rfl) bq_int rfl ?_
          refine WD.q (Q.bin rfl rfl rfl (bv_add (wn_add (by first | omega | (simp only [List.length_drop, List.length_take, List.length_append, List.length_cons, List.length_nil] at *; omega))))) bq_int rfl ?_
          refine WD.q (Q.sliceS ud9 rfl rfl (by first | omega | (simp only [List.length_drop, List.length_take, List.length_append, List.length_cons, List.length_nil] at *; omega)) sl_add) bq_str rfl ?_
          refine WD.q (Q.move rfl) bq_ptr rfl ?_
          refine WD.q (Q.nilP rfl) bq_ptr rfl ?_
          refine WD.q (Q.fieldAddr fa44_1 rfl (o' := 1) rfl) bq_ptr rfl ?_
          refine WD.q (Q.load1 rfl (mem_at (i := 0) rfl) ag3 rfl) bq_int rfl ?_
          refine WD.q (Q.fieldAddr fa28_1 rfl (o' := 1) rfl) bq_ptr rfl ?_
          refine WD.store sz9 rfl rfl (j := 0) rfl rfl (cs := [_, _, _, _]) rfl (hs' := [_, _, _]) rfl (fun _ => (KIn.cons (mem_at (i := 2) rfl) KIn.nil)) ?_
          refine WD.q (Q.fieldAddr fa28_3 rfl (o' := 3) rfl) bq_ptr rfl ?_
          refine WD.store sz3 rfl rfl (j := 0) rfl rfl (cs := [_, _, _, _]) rfl (hs' := [_, _, _]) rfl (fun h => by cases h) ?_
          refine WD.nil ?_
          refine End.K ?_
          refine W.sub (SubS.cons (k := 7) rfl (SubS.cons (k := 6) rfl (SubS.cons (k := 5) rfl (SubS.cons (k := 2) rfl (SubS.cons (k := 0) rfl (SubS.nil _)))))) ?_
          refine W.exit ?_
          refine End.KB_hit (End.K ?_)
          refine W.seq ?_
          refine W.seq ?_
          refine W.reg ?_
          refine WO.q (Q.move rfl) rfl ?_
          refine WO.q (Q.bin rfl (oc (v := .int .i64 ((0 : Nat) : Int)) rfl) rfl (bv_neq (p := false) rfl)) rfl ?_
          refine WO.nil ?_
          refine End.K ?_
          refine W.condF rfl ?_
          refine W.skip ?_
          refine End.K ?_
          refine W.seq ?_
          refine W.reg ?_
          refine WO.q (Q.move rfl) rfl ?_
          refine WO.q (Q.nilP rfl) rfl ?_
          refine WO.q (Q.fieldAddr fa44_1 rfl (o' := 1) rfl) rfl ?_
          refine WO.q (Q.load1 rfl (mem_at (i := 2) rfl) ag3 rfl) rfl ?_
          refine WO.q (Q.move rfl) rfl ?_
          refine WO.q (Q.bin rfl rfl rfl (bv_add (wn_add (by first | omega | (simp only [List.length_drop, List.length_take, List.length_append, List.length_cons, List.length_nil] at *; omega))))) rfl ?_
          refine WO.q (Q.nilP rfl) rfl ?_
          refine WO.q (Q.fieldAddr fa44_1 rfl (o' := 1) rfl) rfl ?_
          refine WO.store sz3 rfl rfl (i := 2) rfl rfl (cs := [_, _]) rfl (hs' := [_, _, _]) rfl ?_
          refine WO.nil ?_
          refine End.K ?_
          refine W.sub (SubS.cons (k := 5) rfl (SubS.cons (k := 2) rfl (SubS.nil _))) ?_
          refine W.seq ?_
          refine W.reg ?_
          refine WO.q (Q.loadN rfl (mem_at (i := 0) rfl) ag28 sz28 (l := [_, _, _, _]) rfl) rfl ?_
          refine WO.store sz28 rfl rfl (i := 1) rfl rfl (cs := [_, _, _, _]) rfl (hs' := [_, _, _]) rfl ?_
          refine WO.q (Q.assign (oc (v := .int .i64 ((0 : Nat) : Int)) rfl)) rfl ?_
          refine WO.nil ?_
          refine End.K ?_
          refine W.ret ?_
          refine End.ret (ResL.agg (c := [_, _, _, _]) rfl (mem_at (i := 1) rfl) ag28 sz28 rfl (ResL.tmp rfl ResL.nil)) (hs' := [⟨X, ⟨2, true, [.str s, .int .i64 ((a + mkN (s.drop a) : Nat) : Int)]⟩, true⟩]) ⟨rfl, rfl⟩ (by intro e he; simp at he; subst he; rfl) (SubH.of_sublist (by first | exact List.Sublist.refl _ | simp))

theorem tok_mark_bad (s : List Nat) (hs : Bytes s) (hl : s.length ≤ 1024) (X a : Nat) (ha : a < s.length) (hD : isDig (s.getD a 0) = false) (h34 : s.getD a 0 ≠ 34) (hL : isLet (s.getD a 0) = false) (hm : mkN (s.drop a) = 0) : Spec tab 16 [.ptr X 0] [X] [⟨X, ⟨2, true, [.str s, .int .i64 ((a : Nat) : Int)]⟩, true⟩] (fun v D => (∃ (c0 : Int) (c1 : List Nat) (c2 c3 e : Int), v = .tuple [.agg [.int .i64 c0, .str c1, .int .i64 c2, .int .i64 c3], .int .i64 e] ∧ e ≠ 0) ∧ D = [⟨X, ⟨2, true, [.str s, .int .i64 ((a : Nat) : Int)]⟩, true⟩]) := by
  have hml := mkN_le (s := s.drop a) (by simp; omega)
  rw [List.length_drop] at hml
  refine Spec.enter' (ft_get 16 Tryd.func16) rfl (m := 101) rfl (rs := [.cell 2 28, .tmp 3]) rfl (st := [(0, .ptr X 0)]) rfl rfl (fun _ => rfl) (fun E => ?_)
  refine W.seq ?_
  refine W.reg ?_
  refine WO.alloc ao28 rfl (fun b1 => ?_)
  refine WO.q (Q.assign (oc (v := .int .i64 ((0 : Nat) : Int)) rfl)) rfl ?_
  refine WO.nil ?_
  refine End.K ?_
  refine W.seq ?_
  refine W.regT (by kernel_rfl) ?_
  refine WO.q (Q.move rfl) rfl ?_
  refine WO.q (Q.nilP rfl) rfl ?_
  refine WO.q (Q.fieldAddr fa44_0 rfl (o' := 0) rfl) rfl ?_
  refine WO.q (Q.load1 rfl (mem_at (i := 1) rfl) ag9 rfl) rfl ?_
  refine WO.q (Q.move rfl) rfl ?_
  refine WO.q (Q.nilP rfl) rfl ?_
  refine WO.q (Q.fieldAddr fa44_1 rfl (o' := 1) rfl) rfl ?_
  refine WO.q (Q.load1 rfl (mem_at (i := 1) rfl) ag3 rfl) rfl ?_
  refine WO.indexB hs ud9 rfl rfl (by first | omega | (simp only [List.length_drop, List.length_take, List.length_append, List.length_cons, List.length_nil] at *; omega)) rfl (fun c16 hd16 hb16 => ?_)
  refine WO.q (Q.assign rfl) rfl ?_
  refine WO.nil ?_
  refine End.K ?_
  refine W.sub (SubS.cons (k := 4) rfl (SubS.cons (k := 2) rfl (SubS.cons (k := 0) rfl (SubS.nil _)))) ?_
  refine W.seq ?_
  refine W.reg ?_
  refine WO.alloc ao28 rfl (fun b2 => ?_)
  refine WO.nil ?_
  refine End.K ?_
  refine W.seq ?_
  refine W.reg ?_
  refine WO.q (Q.assign (oc (v := .int .i64 ((0 : Nat) : Int)) rfl)) rfl ?_
  refine WO.q (Q.assign (oc (v := .int .i64 ((0 : Nat) : Int)) rfl)) rfl ?_
  refine WO.nil ?_
  refine End.K ?_
  refine W.seq ?_
  refine W.block ?_
  refine W.seq ?_
  refine W.block ?_
  refine W.seq ?_
  refine W.block ?_
  refine W.seq ?_
  refine W.block ?_
  refine W.seq ?_
  refine W.block ?_
  refine W.seq ?_
  refine W.seq ?_
  refine W.seq ?_
  refine W.reg ?_
  refine WO.q (Q.move rfl) rfl ?_
  refine WO.callV rfl (oLs_cons rfl oLs_nil) rfl (digit_spec _ (by assumption)) SubR.nil rfl ?_
  refine WO.q (Q.assign rfl) rfl ?_
  refine WO.nil ?_
  refine End.K ?_
  refine W.condS rfl (fun hc17 => ?_) (fun hc17 => ?_)
  · (rw [hd16, hD] at hc17; cases hc17)
  · skip -- F
    refine W.skip ?_
    refine End.K ?_
    refine W.seq ?_
    refine W.seq ?_
    refine W.reg ?_
    refine WO.q (Q.move rfl) rfl ?_
    refine WO.q (Q.bin rfl (oc (v := .int .u8 ((34 : Nat) : Int)) rfl) rfl (bv_eql eq_nat)) rfl ?_
    refine WO.q (Q.assign rfl) rfl ?_
    refine WO.nil ?_
    refine End.K ?_
    refine W.condDS rfl (fun hc20 => ?_) (fun hc20 => ?_)
    · exact absurd (hd16.symm.trans hc20) h34
    · skip -- FF
      refine W.skip ?_
      refine End.K ?_
      refine W.sub (SubS.cons (k := 7) rfl (SubS.cons (k := 6) rfl (SubS.cons (k := 5) rfl (SubS.cons (k := 4) rfl (SubS.cons (k := 2) rfl (SubS.cons (k := 0) rfl (SubS.nil _))))))) ?_
      refine W.seq ?_
      refine W.reg ?_
      refine WO.q (Q.move rfl) rfl ?_
      refine WO.callV rfl (oLs_cons rfl oLs_nil) rfl (letter_spec _ (by assumption)) SubR.nil rfl ?_
      refine WO.q (Q.assign rfl) rfl ?_
      refine WO.nil ?_
      refine End.K ?_
      refine W.condS rfl (fun hc23 => ?_) (fun hc23 => ?_)
      · (rw [hd16, hL] at hc23; cases hc23)
      · skip -- FFF
        refine W.skip ?_
        refine End.K ?_
        refine W.exit ?_
        refine End.KB_miss rfl (End.K_exit (End.KB_miss rfl (End.K_exit (End.KB_miss rfl (End.K_exit (End.KB_hit (End.K ?_)))))))
        refine W.seq ?_
        refine W.seq ?_
        refine W.seq ?_
        refine W.reg ?_
        refine WO.q (Q.fieldAddr fa28_0 rfl (o' := 0) rfl) rfl ?_
        refine WO.q (Q.load1 rfl (mem_at (i := 0) rfl) ag3 rfl) rfl ?_
        refine WO.q (Q.bin rfl (oc (v := .int .i64 ((0 : Nat) : Int)) rfl) rfl (bv_eql (p := true) rfl)) rfl ?_
        refine WO.nil ?_
        refine End.K ?_
        refine W.sub (SubS.cons (k := 53) rfl (SubS.cons (k := 7) rfl (SubS.cons (k := 6) rfl (SubS.cons (k := 5) rfl (SubS.cons (k := 2) rfl (SubS.cons (k := 0) rfl (SubS.nil _))))))) ?_
        refine W.condT rfl ?_
        refine W.regD 11 _ (by kernel_rfl) (KIn.refl _) ?_
        refine WD.q (Q.move rfl) bq_ptr rfl ?_
        refine WD.q (Q.nilP rfl) bq_ptr rfl ?_
        refine WD.q (Q.fieldAddr fa44_0 rfl (o' := 0) rfl) bq_ptr rfl ?_
        refine WD.q (Q.load1 rfl (mem_at (i := 2) rfl) ag9 rfl) bq_str rfl ?_
        refine WD.q (Q.move rfl) bq_ptr rfl ?_
        refine WD.q (Q.nilP rfl) bq_ptr rfl ?_
        refine WD.q (Q.fieldAddr fa44_1 rfl (o' := 1) rfl) bq_ptr rfl ?_
        refine WD.q (Q.load1 rfl (mem_at (i := 2) rfl) ag3 rfl) bq_int rfl ?_
        refine WD.q (Q.sliceS ud9 rfl rfl (by first | omega | (simp only [List.length_drop, List.length_take, List.length_append, List.length_cons, List.length_nil] at *; omega)) sl_lo) bq_str rfl ?_
        refine WD.callV rfl (oLs_cons rfl oLs_nil) rfl (mark_spec _ (Bytes.drop hs _) (by first | omega | (simp only [List.length_drop, List.length_take, List.length_append, List.length_cons, List.length_nil] at *; omega)) (by first | omega | (simp only [List.length_drop, List.length_take, List.length_append, List.length_cons, List.length_nil] at *; omega))) SubR.nil (KIn.refl _) rfl ?_
        refine WD.q (Q.fieldAddr fa28_0 rfl (o' := 0) rfl) bq_ptr rfl ?_
        refine WD.store sz3 rfl (oc (v := .int .i64 ((5 : Nat) : Int)) rfl) (j := 0) rfl rfl (cs := [_, _, _, _]) rfl (hs' := [_, _, _]) rfl (fun h => by cases h) ?_
        refine WD.q (Q.assign rfl) bq_int rfl ?_
        refine WD.nil ?_
        refine End.K ?_
        refine W.sub (SubS.cons (k := 7) rfl (SubS.cons (k := 6) rfl (SubS.cons (k := 5) rfl (SubS.cons (k := 2) rfl (SubS.cons (k := 0) rfl (SubS.nil _)))))) ?_
        refine W.seq ?_
        refine W.seq ?_
        refine W.reg ?_
        refine WO.q (Q.move rfl) rfl ?_
        refine WO.q (Q.bin rfl (oc (v := .int .i64 ((0 : Nat) : Int)) rfl) rfl (bv_eql eq_nat)) rfl ?_
        refine WO.nil ?_
        refine End.K ?_
        refine W.condDS rfl (fun hc66 => ?_) (fun hc66 => ?_)
        · skip -- FFFT
          refine W.reg ?_
          refine WO.q (Q.assign (oc (v := .int .i64 ((14 : Nat) : Int)) rfl)) rfl ?_
          refine WO.nil ?_
          refine End.K ?_
          refine W.regD 21 [⟨X, _, false⟩] (by kernel_rfl) (KIn.cons (mem_at (i := 2) rfl) KIn.nil) ?_
          refine WD.q (Q.move rfl) bq_ptr rfl ?_
          refine WD.q (Q.nilP rfl) bq_ptr rfl ?_
          refine WD.q (Q.fieldAddr fa44_0 rfl (o' := 0) rfl) bq_ptr rfl ?_
          refine WD.q (Q.load1 rfl (mem_at (i := 0) rfl) ag9 rfl) bq_str rfl ?_
          refine WD.q (Q.move rfl) bq_ptr rfl ?_
          refine WD.q (Q.nilP rfl) bq_ptr rfl ?_
          refine WD.q (Q.fieldAddr fa44_1 rfl (o' := 1) rfl) bq_ptr rfl ?_
          refine WD.q (Q.load1 rfl (mem_at (i := 0) rfl) ag3 rfl) bq_int rfl ?_
          refine WD.q (Q.move rfl) bq_ptr rfl ?_
          refine WD.q (Q.nilP rfl) bq_ptr rfl ?_
          refine WD.q (Q.fieldAddr fa44_1 rfl (o' := 1) rfl) bq_ptr rfl ?_
          refine WD.q (Q.load1 rfl (mem_at (i := 0) rfl) ag3 rfl) bq_int rfl ?_
          refine WD.q (Q.move rfl) bq_int rfl ?_
          refine WD.q (Q.bin rfl rfl rfl (bv_add (wn_add (by first | omega | (simp only [List.length_drop, List.length_take, List.length_append, List.length_cons, List.length_nil] at *; omega))))) bq_int rfl ?_
          refine WD.q (Q.sliceS ud9 rfl rfl (by first | omega | (simp only [List.length_drop, List.length_take, List.length_append, List.length_cons, List.length_nil] at *; omega)) sl_add) bq_str rfl ?_
          refine WD.q (Q.move rfl) bq_ptr rfl ?_
          refine WD.q (Q.nilP rfl) bq_ptr rfl ?_
          refine WD.q (Q.fieldAddr fa44_1 rfl (o' := 1) rfl) bq_ptr rfl ?_
          refine WD.q (Q.load1 rfl (mem_at (i := 0) rfl) ag3 rfl) bq_int rfl ?_
          refine WD.q (Q.fieldAddr fa28_1 rfl (o' := 1) rfl) bq_ptr rfl ?_
          refine WD.store sz9 rfl rfl (j := 0) rfl rfl (cs := [_, _, _, _]) rfl (hs' := [_, _, _]) rfl (fun _ => (KIn.cons (mem_at (i := 2) rfl) KIn.nil)) ?_
          refine WD.q (Q.fieldAddr fa28_3 rfl (o' := 3) rfl) bq_ptr rfl ?_
          refine WD.store sz3 rfl rfl (j := 0) rfl rfl (cs := [_, _, _, _]) rfl (hs' := [_, _, _]) rfl (fun h => by cases h) ?_
          refine WD.nil ?_
          refine End.K ?_
          refine W.sub (SubS.cons (k := 6) rfl (SubS.cons (k := 7) rfl (SubS.cons (k := 5) rfl (SubS.cons (k := 2) rfl (SubS.cons (k := 0) rfl (SubS.nil _)))))) ?_
          refine W.exit ?_
          refine End.KB_hit (End.K ?_)
          refine W.seq ?_
          refine W.seq ?_
          refine W.reg ?_
          refine WO.q (Q.move rfl) rfl ?_
          refine WO.q (Q.bin rfl (oc (v := .int .i64 ((0 : Nat) : Int)) rfl) rfl (bv_neq (p := true) rfl)) rfl ?_
          refine WO.nil ?_
          refine End.K ?_
          refine W.condT rfl ?_
          refine W.seq ?_
          refine W.reg ?_
          refine WO.q (Q.loadN rfl (mem_at (i := 0) rfl) ag28 sz28 (l := [_, _, _, _]) rfl) rfl ?_
          refine WO.q (Q.move rfl) rfl ?_
          refine WO.store sz28 rfl rfl (i := 1) rfl rfl (cs := [_, _, _, _]) rfl (hs' := [_, _, _]) rfl ?_
          refine WO.q (Q.assign rfl) rfl ?_
          refine WO.nil ?_
          refine End.K ?_
          refine W.sub (SubS.cons (k := 3) rfl (SubS.cons (k := 2) rfl (SubS.nil _))) ?_
          refine W.ret ?_
          refine End.K_ret (End.ret (ResL.agg (c := [_, _, _, _]) rfl (mem_at (i := 1) rfl) ag28 sz28 rfl (ResL.tmp rfl ResL.nil)) (hs' := [⟨X, ⟨2, true, [.str s, .int .i64 ((a : Nat) : Int)]⟩, true⟩]) ⟨⟨_, _, _, _, _, rfl, (by decide)⟩, rfl⟩ (by intro e he; simp at he; subst he; rfl) (SubH.of_sublist (by first | exact List.Sublist.refl _ | simp)))
        · exact absurd hm hc66
end Go.Proofs.YtdpcpnhkkedfcaaDoor.Ev
