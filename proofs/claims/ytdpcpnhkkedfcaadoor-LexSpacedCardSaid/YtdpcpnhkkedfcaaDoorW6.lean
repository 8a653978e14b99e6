/- Layer 15, walks: the scanner. -/
import Derived.Test.YtdpcpnhkkedfcaaDoorW5
namespace Go.Proofs.YtdpcpnhkkedfcaaDoor.Ev
open Go.RowKit
set_option linter.unusedVariables false
set_option linter.unusedSimpArgs false
set_option maxRecDepth 100000
/-- Where blanks and remarks end. -/
def blF : Nat → List Nat → Nat → Nat
  | 0, _, i => i
  | k + 1, s, i =>
    if i < s.length then
      if s.getD i 0 = 35 then blF k s (i + pre nlc (s.drop i))
      else if s.getD i 0 = 32 ∨ s.getD i 0 = 9 ∨ s.getD i 0 = 10 then blF k s (i + 1) else i
    else i
def bl (s : List Nat) (i : Nat) : Nat := blF s.length s i
theorem nlc_pos {s : List Nat} {i : Nat} (h : i < s.length) (h35 : s.getD i 0 = 35) : 0 < pre nlc (s.drop i) := by
  rw [pre_step h, h35]
  simp [nlc]
theorem blF_end {k : Nat} {s : List Nat} {i : Nat} (h : ¬ i < s.length) : blF k s i = i := by
  cases k with
  | zero => rfl
  | succ k => unfold blF; rw [if_neg h]
theorem blF_rem {k : Nat} {s : List Nat} {i : Nat} (h : i < s.length) (h35 : s.getD i 0 = 35) : blF (k + 1) s i = blF k s (i + pre nlc (s.drop i)) := by
  conv => lhs; unfold blF
  rw [if_pos h, if_pos h35]
theorem blF_bl {k : Nat} {s : List Nat} {i : Nat} (h : i < s.length) (h35 : s.getD i 0 = 32 ∨ s.getD i 0 = 9 ∨ s.getD i 0 = 10) : blF (k + 1) s i = blF k s (i + 1) := by
  conv => lhs; unfold blF
  rw [if_pos h, if_neg (by omega), if_pos h35]
theorem blF_stop {k : Nat} {s : List Nat} {i : Nat} (h : i < s.length) (h35 : ¬ s.getD i 0 = 35) (h32 : ¬ (s.getD i 0 = 32 ∨ s.getD i 0 = 9 ∨ s.getD i 0 = 10)) : blF (k + 1) s i = i := by
  unfold blF
  rw [if_pos h, if_neg h35, if_neg h32]
theorem blanks_spec (s : List Nat) (hs : Bytes s) (hl : s.length ≤ 1024) (X a : Nat) (ha : a ≤ s.length) : Spec tab 15 [.ptr X 0] [X] [⟨X, ⟨2, true, [.str s, .int .i64 ((a : Nat) : Int)]⟩, true⟩] (fun v D => v = .tuple [] ∧ D = [⟨X, ⟨2, true, [.str s, .int .i64 ((bl s a : Nat) : Int)]⟩, true⟩]) := by
  refine Spec.enter' (ft_get 15 Tryd.func15) rfl (m := 51) rfl (rs := []) rfl (st := [(0, .ptr X 0)]) rfl rfl (fun _ => rfl) (fun E => ?_)
  refine W.block ?_
  refine W.loop_ind2 (fun (k : Nat) (i : Nat) => [(0, .ptr X 0)]) (fun (k : Nat) (i : Nat) => [⟨X, ⟨2, true, [.str s, .int .i64 ((i : Nat) : Int)]⟩, true⟩]) (fun (k : Nat) (i : Nat) => i ≤ s.length ∧ s.length - i ≤ k ∧ bl s a = blF k s i) (fun (k : Nat) (i : Nat) => s.length - i) (s.length) (a) ⟨ha, by omega, rfl⟩ (SubS.cons rfl (SubS.nil _)) (SubH.refl _) (fun k i hI0 ih0 => ?_)
  obtain ⟨h1, hk, hb⟩ := hI0
  refine W.seq ?_
  refine W.seq ?_
  refine W.regT (by kernel_rfl) ?_
  refine WO.q (Q.move rfl) rfl ?_
  refine WO.q (Q.nilP rfl) rfl ?_
  refine WO.q (Q.fieldAddr fa44_1 rfl (o' := 1) rfl) rfl ?_
  refine WO.q (Q.load1 rfl (mem_at (i := 0) rfl) ag3 rfl) rfl ?_
  refine WO.q (Q.move rfl) rfl ?_
  refine WO.q (Q.nilP rfl) rfl ?_
  refine WO.q (Q.fieldAddr fa44_0 rfl (o' := 0) rfl) rfl ?_
  refine WO.q (Q.load1 rfl (mem_at (i := 0) rfl) ag9 rfl) rfl ?_
  refine WO.q (Q.len ud9 rfl rfl) rfl ?_
  refine WO.q (Q.bin rfl rfl rfl (bv_lss lt_nat)) rfl ?_
  refine WO.nil ?_
  refine End.K ?_
  refine W.sub (SubS.cons (k := 11) rfl (SubS.cons (k := 0) rfl (SubS.nil _))) ?_
  refine W.condDS rfl (fun hc11 => ?_) (fun hc11 => ?_)
  · skip -- L0T
    have hpl := Ev.pre_le nlc (s.drop i)
    rw [List.length_drop] at hpl
    obtain ⟨k, rfl⟩ : ∃ q, k = q + 1 := ⟨k - 1, by omega⟩
    refine W.skip ?_
    refine End.K ?_
    refine W.block ?_
    refine W.seq ?_
    refine W.regT (by kernel_rfl) ?_
    refine WO.q (Q.move rfl) rfl ?_
    refine WO.q (Q.nilP rfl) rfl ?_
    refine WO.q (Q.fieldAddr fa44_0 rfl (o' := 0) rfl) rfl ?_
    refine WO.q (Q.load1 rfl (mem_at (i := 0) rfl) ag9 rfl) rfl ?_
    refine WO.q (Q.move rfl) rfl ?_
    refine WO.q (Q.nilP rfl) rfl ?_
    refine WO.q (Q.fieldAddr fa44_1 rfl (o' := 1) rfl) rfl ?_
    refine WO.q (Q.load1 rfl (mem_at (i := 0) rfl) ag3 rfl) rfl ?_
    refine WO.indexB hs ud9 rfl rfl (by first | omega | (simp only [List.length_drop, List.length_take, List.length_append, List.length_cons, List.length_nil] at *; omega)) rfl (fun c20 hd20 hb20 => ?_)
    refine WO.nil ?_
    refine End.K ?_
    refine W.sub (SubS.cons (k := 20) rfl (SubS.cons (k := 0) rfl (SubS.nil _))) ?_
    refine W.block ?_
    refine W.seq ?_
    refine W.reg ?_
    refine WO.q (Q.bin rfl (oc (v := .int .u8 ((35 : Nat) : Int)) rfl) rfl (bv_eql eq_nat)) rfl ?_
    refine WO.q (Q.assign rfl) rfl ?_
    refine WO.nil ?_
    refine End.K ?_
    refine W.condDS rfl (fun hc21 => ?_) (fun hc21 => ?_)
    · skip -- L0TT
      refine W.regD 14 _ (by kernel_rfl) (KIn.refl _) ?_
      refine WD.q (Q.move rfl) bq_ptr rfl ?_
      refine WD.q (Q.nilP rfl) bq_ptr rfl ?_
      refine WD.q (Q.fieldAddr fa44_1 rfl (o' := 1) rfl) bq_ptr rfl ?_
      refine WD.q (Q.load1 rfl (mem_at (i := 0) rfl) ag3 rfl) bq_int rfl ?_
      refine WD.q (Q.move rfl) bq_ptr rfl ?_
      refine WD.q (Q.nilP rfl) bq_ptr rfl ?_
      refine WD.q (Q.fieldAddr fa44_0 rfl (o' := 0) rfl) bq_ptr rfl ?_
      refine WD.q (Q.load1 rfl (mem_at (i := 0) rfl) ag9 rfl) bq_str rfl ?_
      refine WD.q (Q.move rfl) bq_ptr rfl ?_
      refine WD.q (Q.nilP rfl) bq_ptr rfl ?_
      refine WD.q (Q.fieldAddr fa44_1 rfl (o' := 1) rfl) bq_ptr rfl ?_
      refine WD.q (Q.load1 rfl (mem_at (i := 0) rfl) ag3 rfl) bq_int rfl ?_
      refine WD.q (Q.sliceS ud9 rfl rfl (by first | omega | (simp only [List.length_drop, List.length_take, List.length_append, List.length_cons, List.length_nil] at *; omega)) sl_lo) bq_str rfl ?_
      refine WD.callV rfl (oLs_cons rfl (oLs_cons rfl oLs_nil)) rfl (prefix_spec _ (Bytes.drop hs _) (by first | omega | (simp only [List.length_drop, List.length_take, List.length_append, List.length_cons, List.length_nil] at *; omega)) _ [] nlc (fun c hc => nl_spec c hc)) SubR.nil (KIn.refl _) rfl ?_
      refine WD.q (Q.bin rfl rfl rfl (bv_add (wn_add (by first | omega | (simp only [List.length_drop, List.length_take, List.length_append, List.length_cons, List.length_nil] at *; omega))))) bq_int rfl ?_
      refine WD.q (Q.nilP rfl) bq_ptr rfl ?_
      refine WD.q (Q.fieldAddr fa44_1 rfl (o' := 1) rfl) bq_ptr rfl ?_
      refine WD.store sz3 rfl rfl (j := 0) rfl rfl (cs := [_, _]) rfl (hs' := [_]) rfl (fun h => by cases h) ?_
      refine WD.nil ?_
      refine End.KB (End.KB (End.KL ?_))
      refine W.sub (SubS.cons rfl (SubS.nil _)) (ih0 (k) (i + pre nlc (s.drop i)) ?_ ?_)
      · exact ⟨by have := nlc_pos (s := s) (i := i) (by omega) (by omega); omega, by have := nlc_pos (s := s) (i := i) (by omega) (by omega); omega, by rw [hb, blF_rem (by omega) (by omega)]⟩
      · exact (by have := nlc_pos (s := s) (i := i) (by omega) (by omega); omega)
    · skip -- L0TF
      refine W.seq ?_
      refine W.seq ?_
      refine W.reg ?_
      refine WO.q (Q.bin rfl (oc (v := .int .u8 ((32 : Nat) : Int)) rfl) rfl (bv_eql eq_nat)) rfl ?_
      refine WO.q (Q.assign rfl) rfl ?_
      refine WO.nil ?_
      refine End.K ?_
      refine W.condDS rfl (fun hc40 => ?_) (fun hc40 => ?_)
      · skip -- L0TFT
        refine W.skip ?_
        refine End.K ?_
        refine W.condT rfl ?_
        refine W.reg ?_
        refine WO.q (Q.move rfl) rfl ?_
        refine WO.q (Q.nilP rfl) rfl ?_
        refine WO.q (Q.fieldAddr fa44_1 rfl (o' := 1) rfl) rfl ?_
        refine WO.q (Q.load1 rfl (mem_at (i := 0) rfl) ag3 rfl) rfl ?_
        refine WO.q (Q.bin rfl (oc (v := .int .i64 ((1 : Nat) : Int)) rfl) rfl (bv_add (wn_add (by first | omega | (simp only [List.length_drop, List.length_take, List.length_append, List.length_cons, List.length_nil] at *; omega))))) rfl ?_
        refine WO.q (Q.nilP rfl) rfl ?_
        refine WO.q (Q.fieldAddr fa44_1 rfl (o' := 1) rfl) rfl ?_
        refine WO.store sz3 rfl rfl (i := 0) rfl rfl (cs := [_, _]) rfl (hs' := [_]) rfl ?_
        refine WO.nil ?_
        refine End.KB (End.KB (End.KL ?_))
        refine W.sub (SubS.cons rfl (SubS.nil _)) (ih0 (k) (i + 1) ?_ ?_)
        · exact ⟨by omega, by omega, by rw [hb, blF_bl (by omega) (by omega)]⟩
        · exact (by first | omega | (simp only [List.length_drop, List.length_take, List.length_append, List.length_cons, List.length_nil] at *; omega))
      · skip -- L0TFF
        refine W.seq ?_
        refine W.reg ?_
        refine WO.q (Q.bin rfl (oc (v := .int .u8 ((9 : Nat) : Int)) rfl) rfl (bv_eql eq_nat)) rfl ?_
        refine WO.q (Q.assign rfl) rfl ?_
        refine WO.nil ?_
        refine End.K ?_
        refine W.condDS rfl (fun hc40 => ?_) (fun hc40 => ?_)
        · skip -- L0TFFT
          refine W.skip ?_
          refine End.K ?_
          refine W.condT rfl ?_
          refine W.reg ?_
          refine WO.q (Q.move rfl) rfl ?_
          refine WO.q (Q.nilP rfl) rfl ?_
          refine WO.q (Q.fieldAddr fa44_1 rfl (o' := 1) rfl) rfl ?_
          refine WO.q (Q.load1 rfl (mem_at (i := 0) rfl) ag3 rfl) rfl ?_
          refine WO.q (Q.bin rfl (oc (v := .int .i64 ((1 : Nat) : Int)) rfl) rfl (bv_add (wn_add (by first | omega | (simp only [List.length_drop, List.length_take, List.length_append, List.length_cons, List.length_nil] at *; omega))))) rfl ?_
          refine WO.q (Q.nilP rfl) rfl ?_
          refine WO.q (Q.fieldAddr fa44_1 rfl (o' := 1) rfl) rfl ?_
          refine WO.store sz3 rfl rfl (i := 0) rfl rfl (cs := [_, _]) rfl (hs' := [_]) rfl ?_
          refine WO.nil ?_
          refine End.KB (End.KB (End.KL ?_))
          refine W.sub (SubS.cons rfl (SubS.nil _)) (ih0 (k) (i + 1) ?_ ?_)
          · exact ⟨by omega, by omega, by rw [hb, blF_bl (by omega) (by omega)]⟩
          · exact (by first | omega | (simp only [List.length_drop, List.length_take, List.length_append, List.length_cons, List.length_nil] at *; omega))
        · skip -- L0TFFF
          refine W.reg ?_
          refine WO.q (Q.bin rfl (oc (v := .int .u8 ((10 : Nat) : Int)) rfl) rfl (bv_eql eq_nat)) rfl ?_
          refine WO.q (Q.assign rfl) rfl ?_
          refine WO.nil ?_
          refine End.K ?_
          refine W.sub (SubS.cons (k := 40) rfl (SubS.cons (k := 0) rfl (SubS.nil _))) ?_
          refine W.condDS rfl (fun hc40 => ?_) (fun hc40 => ?_)
          · skip -- L0TFFFT
            refine W.reg ?_
            refine WO.q (Q.move rfl) rfl ?_
            refine WO.q (Q.nilP rfl) rfl ?_
            refine WO.q (Q.fieldAddr fa44_1 rfl (o' := 1) rfl) rfl ?_
            refine WO.q (Q.load1 rfl (mem_at (i := 0) rfl) ag3 rfl) rfl ?_
            refine WO.q (Q.bin rfl (oc (v := .int .i64 ((1 : Nat) : Int)) rfl) rfl (bv_add (wn_add (by first | omega | (simp only [List.length_drop, List.length_take, List.length_append, List.length_cons, List.length_nil] at *; omega))))) rfl ?_
            refine WO.q (Q.nilP rfl) rfl ?_
            refine WO.q (Q.fieldAddr fa44_1 rfl (o' := 1) rfl) rfl ?_
            refine WO.store sz3 rfl rfl (i := 0) rfl rfl (cs := [_, _]) rfl (hs' := [_]) rfl ?_
            refine WO.nil ?_
            refine End.KB (End.KB (End.KL ?_))
            refine W.sub (SubS.cons rfl (SubS.nil _)) (ih0 (k) (i + 1) ?_ ?_)
            · exact ⟨by omega, by omega, by rw [hb, blF_bl (by omega) (by omega)]⟩
            · exact (by first | omega | (simp only [List.length_drop, List.length_take, List.length_append, List.length_cons, List.length_nil] at *; omega))
          · skip -- L0TFFFF
            refine W.ret ?_
            refine End.KB_ret (End.KB_ret (End.KL_ret (End.KB_ret (End.ret ResL.nil (hs' := [⟨X, ⟨2, true, [.str s, .int .i64 ((bl s a : Nat) : Int)]⟩, true⟩]) ⟨rfl, rfl⟩ (by intro e he; simp at he; subst he; rfl) (by rw [hb, blF_stop (by omega) (by omega) (by omega)]; exact SubH.refl _)))))
  · skip -- L0F
    refine W.exit ?_
    refine End.K_exit (End.KL_exit (End.KB_hit (End.fall ResL.nil (hs' := [⟨X, ⟨2, true, [.str s, .int .i64 ((bl s a : Nat) : Int)]⟩, true⟩]) ⟨rfl, rfl⟩ (by intro e he; simp at he; subst he; rfl) (by rw [hb, blF_end (by omega)]; exact SubH.refl _))))
end Go.Proofs.YtdpcpnhkkedfcaaDoor.Ev
