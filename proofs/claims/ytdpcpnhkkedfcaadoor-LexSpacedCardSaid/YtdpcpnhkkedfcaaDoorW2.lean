/- Layer 15, walks: cuts, numbers. -/
import Derived.Test.YtdpcpnhkkedfcaaDoorW1
namespace Go.Proofs.YtdpcpnhkkedfcaaDoor.Ev
open Go.RowKit
set_option linter.unusedVariables false
set_option linter.unusedSimpArgs false
set_option maxRecDepth 100000
def kB (s : List Nat) (c : Nat) : Nat := pre (fun x => !(Nat.beq x (c % 256))) s
theorem ixB_yes {s : List Nat} {c : Nat} (h : kB s c < s.length) : ixB s c = ((kB s c : Nat) : Int) := by unfold ixB; exact if_pos h
theorem ixB_no {s : List Nat} {c : Nat} (h : ¬ kB s c < s.length) : ixB s c = -1 := by unfold ixB; exact if_neg h
theorem ix1_yes (s : List Nat) (c : Nat) (hs : Bytes s) (hc : c < 256) (hl : s.length ≤ 1073741824) (h : kB s c < s.length) : Spec tab 79 [.str s, .str [c]] [] [] (Val (.int .i64 ((kB s c : Nat) : Int))) := by
  rw [← ixB_yes h]; exact ix1_spec s c hs hc hl
theorem ix1_no (s : List Nat) (c : Nat) (hs : Bytes s) (hc : c < 256) (hl : s.length ≤ 1073741824) (h : ¬ kB s c < s.length) : Spec tab 79 [.str s, .str [c]] [] [] (Val (.int .i64 (-1))) := by
  rw [← ixB_no h]; exact ix1_spec s c hs hc hl
theorem isDig_yes {c : Nat} (h : 48 ≤ c ∧ c ≤ 57) : isDig c = true := by simp [isDig, h]
theorem isDig_no {c : Nat} (h : ¬ (48 ≤ c ∧ c ≤ 57)) : isDig c = false := by simp [isDig]; omega
def plainB (s : List Nat) : Bool := s.all isDig && decide (s ≠ [])
theorem plainB_pos' {s : List Nat} (h : plainB s = true) : 0 < s.length := by
  simp [plainB] at h
  exact List.length_pos_iff.2 h.2
theorem plainB_pos {s : List Nat} (h : (!plainB s) = false) : 0 < s.length := plainB_pos' (by simpa using h)
theorem all_step {p : Nat → Bool} {l : List Nat} {i : Nat} (h : i < l.length) : (l.drop i).all p = (p (l.getD i 0) && (l.drop (i + 1)).all p) := by
  rw [List.drop_eq_getElem_cons h, List.all_cons]
  have e : l.getD i 0 = l[i] := by simp [h]
  rw [e]
/-- What the digits ahead of the point make, as the program reckons it. -/
def whN (s : List Nat) : Nat → Int
  | 0 => 0
  | i + 1 => IntKind.i64.wrap (IntKind.i64.wrap (((10 : Nat) : Int) * whN s i) + IntKind.i64.wrap (IntKind.u8.wrap (((s.getD i 0 : Nat) : Int) - ((48 : Nat) : Int))))
def frN (r : List Nat) (n : Int) : Nat → Int
  | 0 => n
  | i + 1 => if i < r.length then IntKind.i64.wrap (IntKind.i64.wrap (frN r n i * ((10 : Nat) : Int)) + IntKind.i64.wrap (IntKind.u8.wrap (((r.getD i 0 : Nat) : Int) - ((48 : Nat) : Int)))) else IntKind.i64.wrap (frN r n i * ((10 : Nat) : Int))
theorem frN_lt {r : List Nat} {n : Int} {i : Nat} (h : i < r.length) : frN r n (i + 1) = IntKind.i64.wrap (IntKind.i64.wrap (frN r n i * ((10 : Nat) : Int)) + IntKind.i64.wrap (IntKind.u8.wrap (((r.getD i 0 : Nat) : Int) - ((48 : Nat) : Int)))) := by
  conv => lhs; unfold frN
  exact if_pos h
theorem frN_ge {r : List Nat} {n : Int} {i : Nat} (h : ¬ i < r.length) : frN r n (i + 1) = IntKind.i64.wrap (frN r n i * ((10 : Nat) : Int)) := by
  conv => lhs; unfold frN
  exact if_neg h
def fixV (s whole rest : List Nat) (m point : Bool) : Int × Int :=
  if (!plainB whole) = true ∨ (1 < whole.length ∧ whole.getD 0 0 = 48) ∨ s = [45, 48] then (0, 14)
  else if point = true ∧ ((!plainB rest) = true ∨ 6 < rest.length ∨ rest.getD (rest.length - 1) 0 = 48) then (0, 14)
  else if 13 < whole.length then (0, 11)
  else if 1152921504606846976 < frN rest (whN whole whole.length) 6 then (0, 11)
  else (if m then IntKind.i64.wrap (0 - frN rest (whN whole whole.length) 6) else frN rest (whN whole whole.length) 6, 0)
theorem fix_leaf {p : Int × Int} {a b : Int} (h : p = (a, b)) : oneOf [AV.int .i64 a, AV.int .i64 b] = .tuple [.int .i64 p.1, .int .i64 p.2] := by rw [h]; rfl
theorem cut1_yes (s : List Nat) (c : Nat) (hs : Bytes s) (hc : c < 256) (hl : s.length ≤ 1073741824) (hk : kB s c < s.length) : Spec tab 65 [.str s, .str [c]] [] [] (Val (.tuple [.str (s.take (kB s c)), .str (s.drop (kB s c + 1)), .bool true])) := by
  refine Spec.enter' (ft_get 65 Tryd.func65) rfl (m := 23) rfl (rs := [.tmp 4, .tmp 5, .tmp 6]) rfl (st := [(0, .str s), (1, .str [c])]) rfl rfl (fun _ => rfl) (fun E => ?_)
  refine W.seq ?_
  refine W.reg ?_
  refine WO.q (Q.assign (oc (v := .str []) (by kernel_rfl))) rfl ?_
  refine WO.q (Q.assign (oc (v := .str []) (by kernel_rfl))) rfl ?_
  refine WO.q (Q.assign rfl) rfl ?_
  refine WO.nil ?_
  refine End.K ?_
  refine W.seq ?_
  refine W.seq ?_
  refine W.reg ?_
  refine WO.q (Q.move rfl) rfl ?_
  refine WO.q (Q.move rfl) rfl ?_
  refine WO.callV rfl (oLs_cons rfl (oLs_cons rfl oLs_nil)) rfl (ix1_yes _ _ hs hc hl hk) SubR.nil rfl ?_
  refine WO.q (Q.assign rfl) rfl ?_
  refine WO.nil ?_
  refine End.K ?_
  refine W.sub (SubS.cons (k := 7) rfl (SubS.cons (k := 0) rfl (SubS.cons (k := 1) rfl (SubS.nil _)))) ?_
  refine W.seq ?_
  refine W.reg ?_
  refine WO.q (Q.move rfl) rfl ?_
  refine WO.q (Q.bin rfl (oc (v := .int .i64 ((0 : Nat) : Int)) rfl) rfl (bv_geq le_nat)) rfl ?_
  refine WO.nil ?_
  refine End.K ?_
  refine W.condDS rfl (fun hc12 => ?_) (fun hc12 => ?_)
  · skip -- T
    refine W.seq ?_
    refine W.regT (by kernel_rfl) ?_
    refine WO.q (Q.move rfl) rfl ?_
    refine WO.q (Q.move rfl) rfl ?_
    refine WO.q (Q.sliceS ud9 rfl rfl (by first | omega | (simp only [List.length_drop, List.length_take, List.length_append, List.length_cons, List.length_nil] at *; omega)) sl_hi) rfl ?_
    refine WO.q (Q.move rfl) rfl ?_
    refine WO.q (Q.move rfl) rfl ?_
    refine WO.q (Q.move rfl) rfl ?_
    refine WO.q (Q.len ud9 rfl rfl) rfl ?_
    refine WO.q (Q.bin rfl rfl rfl (bv_add (wn_add (by first | omega | (simp only [List.length_drop, List.length_take, List.length_append, List.length_cons, List.length_nil] at *; omega))))) rfl ?_
    refine WO.q (Q.sliceS ud9 rfl rfl (by first | omega | (simp only [List.length_drop, List.length_take, List.length_append, List.length_cons, List.length_nil] at *; omega)) sl_lo) rfl ?_
    refine WO.q (Q.assign rfl) rfl ?_
    refine WO.q (Q.assign rfl) rfl ?_
    refine WO.q (Q.assign rfl) rfl ?_
    refine WO.nil ?_
    refine End.K ?_
    refine W.sub (SubS.cons (k := 6) rfl (SubS.cons (k := 5) rfl (SubS.cons (k := 4) rfl (SubS.nil _)))) ?_
    refine W.ret ?_
    refine End.K_ret (End.retV (ResL.tmp rfl (ResL.tmp rfl (ResL.tmp rfl ResL.nil))) ?_)
    rfl
  · exact absurd (Nat.zero_le _) hc12

theorem cut1_no (s : List Nat) (c : Nat) (hs : Bytes s) (hc : c < 256) (hl : s.length ≤ 1073741824) (hk : ¬ kB s c < s.length) : Spec tab 65 [.str s, .str [c]] [] [] (Val (.tuple [.str s, .str [], .bool false])) := by
  refine Spec.enter' (ft_get 65 Tryd.func65) rfl (m := 23) rfl (rs := [.tmp 4, .tmp 5, .tmp 6]) rfl (st := [(0, .str s), (1, .str [c])]) rfl rfl (fun _ => rfl) (fun E => ?_)
  refine W.seq ?_
  refine W.reg ?_
  refine WO.q (Q.assign (oc (v := .str []) (by kernel_rfl))) rfl ?_
  refine WO.q (Q.assign (oc (v := .str []) (by kernel_rfl))) rfl ?_
  refine WO.q (Q.assign rfl) rfl ?_
  refine WO.nil ?_
  refine End.K ?_
  refine W.seq ?_
  refine W.seq ?_
  refine W.reg ?_
  refine WO.q (Q.move rfl) rfl ?_
  refine WO.q (Q.move rfl) rfl ?_
  refine WO.callV rfl (oLs_cons rfl (oLs_cons rfl oLs_nil)) rfl (ix1_no _ _ hs hc hl hk) SubR.nil rfl ?_
  refine WO.q (Q.assign rfl) rfl ?_
  refine WO.nil ?_
  refine End.K ?_
  refine W.sub (SubS.cons (k := 7) rfl (SubS.cons (k := 0) rfl (SubS.cons (k := 1) rfl (SubS.nil _)))) ?_
  refine W.seq ?_
  refine W.reg ?_
  refine WO.q (Q.move rfl) rfl ?_
  refine WO.q (Q.bin rfl (oc (v := .int .i64 ((0 : Nat) : Int)) rfl) rfl (bv_geq le_int)) rfl ?_
  refine WO.nil ?_
  refine End.K ?_
  refine W.condDS rfl (fun hc12 => ?_) (fun hc12 => ?_)
  · exact absurd hc12 (by decide)
  · skip -- F
    refine W.skip ?_
    refine End.K ?_
    refine W.seq ?_
    refine W.reg ?_
    refine WO.q (Q.move rfl) rfl ?_
    refine WO.q (Q.assign rfl) rfl ?_
    refine WO.q (Q.assign (oc (v := .str []) (by kernel_rfl))) rfl ?_
    refine WO.q (Q.assign rfl) rfl ?_
    refine WO.nil ?_
    refine End.K ?_
    refine W.sub (SubS.cons (k := 6) rfl (SubS.cons (k := 5) rfl (SubS.cons (k := 4) rfl (SubS.nil _)))) ?_
    refine W.ret ?_
    refine End.retV (ResL.tmp rfl (ResL.tmp rfl (ResL.tmp rfl ResL.nil))) ?_
    rfl

theorem cut_yes (s : List Nat) (c : Nat) (hs : Bytes s) (hc : c < 256) (hl : s.length ≤ 1073741824) (hk : kB s c < s.length) : Spec tab 51 [.str s, .str [c]] [] [] (Val (.tuple [.str (s.take (kB s c)), .str (s.drop (kB s c + 1)), .bool true])) := by
  refine Spec.enter' (ft_get 51 Tryd.func51) rfl (m := 13) rfl (rs := [.tmp 4, .tmp 5, .tmp 6]) rfl (st := [(0, .str s), (1, .str [c])]) rfl rfl (fun _ => rfl) (fun E => ?_)
  refine W.seq ?_
  refine W.reg ?_
  refine WO.q (Q.assign (oc (v := .str []) (by kernel_rfl))) rfl ?_
  refine WO.q (Q.assign (oc (v := .str []) (by kernel_rfl))) rfl ?_
  refine WO.q (Q.assign rfl) rfl ?_
  refine WO.nil ?_
  refine End.K ?_
  refine W.seq ?_
  refine W.reg ?_
  refine WO.q (Q.move rfl) rfl ?_
  refine WO.q (Q.move rfl) rfl ?_
  refine WO.callV rfl (oLs_cons rfl (oLs_cons rfl oLs_nil)) rfl (cut1_yes _ _ hs hc hl hk) SubR.nil rfl ?_
  refine WO.q (Q.extract rfl rfl) rfl ?_
  refine WO.q (Q.extract rfl rfl) rfl ?_
  refine WO.q (Q.extract rfl rfl) rfl ?_
  refine WO.q (Q.assign rfl) rfl ?_
  refine WO.q (Q.assign rfl) rfl ?_
  refine WO.q (Q.assign rfl) rfl ?_
  refine WO.nil ?_
  refine End.K ?_
  refine W.sub (SubS.cons (k := 6) rfl (SubS.cons (k := 5) rfl (SubS.cons (k := 4) rfl (SubS.nil _)))) ?_
  refine W.ret ?_
  refine End.retV (ResL.tmp rfl (ResL.tmp rfl (ResL.tmp rfl ResL.nil))) ?_
  rfl

theorem cut_no (s : List Nat) (c : Nat) (hs : Bytes s) (hc : c < 256) (hl : s.length ≤ 1073741824) (hk : ¬ kB s c < s.length) : Spec tab 51 [.str s, .str [c]] [] [] (Val (.tuple [.str s, .str [], .bool false])) := by
  refine Spec.enter' (ft_get 51 Tryd.func51) rfl (m := 13) rfl (rs := [.tmp 4, .tmp 5, .tmp 6]) rfl (st := [(0, .str s), (1, .str [c])]) rfl rfl (fun _ => rfl) (fun E => ?_)
  refine W.seq ?_
  refine W.reg ?_
  refine WO.q (Q.assign (oc (v := .str []) (by kernel_rfl))) rfl ?_
  refine WO.q (Q.assign (oc (v := .str []) (by kernel_rfl))) rfl ?_
  refine WO.q (Q.assign rfl) rfl ?_
  refine WO.nil ?_
  refine End.K ?_
  refine W.seq ?_
  refine W.reg ?_
  refine WO.q (Q.move rfl) rfl ?_
  refine WO.q (Q.move rfl) rfl ?_
  refine WO.callV rfl (oLs_cons rfl (oLs_cons rfl oLs_nil)) rfl (cut1_no _ _ hs hc hl hk) SubR.nil rfl ?_
  refine WO.q (Q.extract rfl rfl) rfl ?_
  refine WO.q (Q.extract rfl rfl) rfl ?_
  refine WO.q (Q.extract rfl rfl) rfl ?_
  refine WO.q (Q.assign rfl) rfl ?_
  refine WO.q (Q.assign rfl) rfl ?_
  refine WO.q (Q.assign rfl) rfl ?_
  refine WO.nil ?_
  refine End.K ?_
  refine W.sub (SubS.cons (k := 6) rfl (SubS.cons (k := 5) rfl (SubS.cons (k := 4) rfl (SubS.nil _)))) ?_
  refine W.ret ?_
  refine End.retV (ResL.tmp rfl (ResL.tmp rfl (ResL.tmp rfl ResL.nil))) ?_
  rfl

theorem plain_spec (s : List Nat) (hs : Bytes s) (hl : s.length ≤ 1073741824) : Spec tab 52 [.str s] [] [] (Val (.bool (plainB s))) := by
  refine Spec.enter' (ft_get 52 Tryd.func52) rfl (m := 22) rfl (rs := [.tmp 2]) rfl (st := [(0, .str s)]) rfl rfl (fun _ => rfl) (fun E => ?_)
  refine W.seq ?_
  refine W.reg ?_
  refine WO.q (Q.assign rfl) rfl ?_
  refine WO.nil ?_
  refine End.K ?_
  refine W.seq ?_
  refine W.seq ?_
  refine W.reg ?_
  refine WO.q (Q.move rfl) rfl ?_
  refine WO.q (Q.len ud9 rfl rfl) rfl ?_
  refine WO.q (Q.move (oc (v := .int .i64 ((0 : Nat) : Int)) rfl)) rfl ?_
  refine WO.nil ?_
  refine End.K ?_
  refine W.block ?_
  refine W.loop_ind (fun (i : Nat) => [(0, .str s), (5, .int .i64 ((s.length : Nat) : Int)), (6, .int .i64 ((i : Nat) : Int))]) (fun _ => _) (fun (i : Nat) => i ≤ s.length ∧ s.all isDig = (s.drop i).all isDig) (fun (i : Nat) => s.length - i) (0) ⟨by omega, by simp⟩ (SubS.cons rfl (SubS.cons rfl (SubS.cons rfl (SubS.nil _)))) (SubH.refl _) (fun i hI0 ih0 => ?_)
  obtain ⟨h1, h2⟩ := hI0
  refine W.seq ?_
  refine W.reg ?_
  refine WO.q (Q.bin rfl rfl rfl (bv_lss lt_nat)) rfl ?_
  refine WO.nil ?_
  refine End.K ?_
  refine W.seq ?_
  refine W.condDS rfl (fun hc7 => ?_) (fun hc7 => ?_)
  · skip -- L0T
    refine W.skip ?_
    refine End.K ?_
    refine W.seq ?_
    refine W.block ?_
    refine W.seq ?_
    refine W.reg ?_
    refine WO.q (Q.move rfl) rfl ?_
    refine WO.q (Q.assign rfl) rfl ?_
    refine WO.nil ?_
    refine End.K ?_
    refine W.seq ?_
    refine W.reg ?_
    refine WO.q (Q.move rfl) rfl ?_
    refine WO.q (Q.move rfl) rfl ?_
    refine WO.indexB hs ud9 rfl rfl (by first | omega | (simp only [List.length_drop, List.length_take, List.length_append, List.length_cons, List.length_nil] at *; omega)) rfl (fun c11 hd11 hb11 => ?_)
    refine WO.q (Q.bin rfl (oc (v := .int .u8 ((48 : Nat) : Int)) rfl) rfl (bv_lss lt_nat)) rfl ?_
    refine WO.q (Q.move rfl) rfl ?_
    refine WO.splitD (d := 13) rfl (fun hc13 => ?_) (fun hc13 => ?_)
    · skip -- L0Tt
      refine WO.gF rfl rfl (.inl rfl) rfl ?_
      refine WO.gF rfl rfl (.inl rfl) rfl ?_
      refine WO.gF rfl rfl (.inl rfl) rfl ?_
      refine WO.gF rfl rfl (.inl rfl) rfl ?_
      refine WO.q (Q.pickT rfl rfl) rfl ?_
      refine WO.nil ?_
      refine End.K ?_
      refine W.sub (SubS.cons (k := 18) rfl (SubS.cons (k := 0) rfl (SubS.cons (k := 5) rfl (SubS.cons (k := 6) rfl (SubS.nil _))))) ?_
      refine W.condT rfl ?_
      refine W.seq ?_
      refine W.reg ?_
      refine WO.q (Q.assign rfl) rfl ?_
      refine WO.nil ?_
      refine End.K ?_
      refine W.ret ?_
      refine End.KB_ret (End.K_ret (End.KL_ret (End.KB_ret (End.K_ret (End.retV (ResL.tmp rfl ResL.nil) ?_)))))
      exact bool_eq (by simp only [plainB]; rw [h2, all_step (by omega), ← hd11, isDig_no (by omega)]; rfl)
    · skip -- L0Tf
      refine WO.gT rfl rfl ?_
      refine WO.q (Q.move rfl) rfl ?_
      refine WO.gT rfl rfl ?_
      refine WO.q (Q.move rfl) rfl ?_
      refine WO.gT rfl rfl ?_
      refine WO.indexB hs ud9 rfl rfl (by first | omega | (simp only [List.length_drop, List.length_take, List.length_append, List.length_cons, List.length_nil] at *; omega)) rfl (fun c16 hd16 hb16 => ?_)
      refine WO.gT rfl rfl ?_
      refine WO.q (Q.bin rfl (oc (v := .int .u8 ((57 : Nat) : Int)) rfl) rfl (bv_gtr lt_nat)) rfl ?_
      refine WO.q (Q.pickF rfl rfl) rfl ?_
      refine WO.nil ?_
      refine End.K ?_
      refine W.sub (SubS.cons (k := 18) rfl (SubS.cons (k := 0) rfl (SubS.cons (k := 5) rfl (SubS.cons (k := 6) rfl (SubS.nil _))))) ?_
      refine W.condDS rfl (fun hc18 => ?_) (fun hc18 => ?_)
      · skip -- L0TfT
        refine W.seq ?_
        refine W.reg ?_
        refine WO.q (Q.assign rfl) rfl ?_
        refine WO.nil ?_
        refine End.K ?_
        refine W.ret ?_
        refine End.KB_ret (End.K_ret (End.KL_ret (End.KB_ret (End.K_ret (End.retV (ResL.tmp rfl ResL.nil) ?_)))))
        exact bool_eq (by simp only [plainB]; rw [h2, all_step (by omega), ← hd11, isDig_no (by omega)]; rfl)
      · skip -- L0TfF
        refine W.skip ?_
        refine End.KB (End.K ?_)
        refine W.reg ?_
        refine WO.q (Q.bin rfl (oc (v := .int .i64 ((1 : Nat) : Int)) rfl) rfl (bv_add (wn_add (by first | omega | (simp only [List.length_drop, List.length_take, List.length_append, List.length_cons, List.length_nil] at *; omega))))) rfl ?_
        refine WO.q (Q.move rfl) rfl ?_
        refine WO.nil ?_
        refine End.KL ?_
        refine W.sub (SubS.cons rfl (SubS.cons rfl (SubS.cons rfl (SubS.nil _)))) (ih0 (i + 1) ?_ ?_)
        · exact ⟨by omega, by rw [h2, all_step (by omega), ← hd11, isDig_yes (by omega), Bool.true_and]⟩
        · exact (by first | omega | (simp only [List.length_drop, List.length_take, List.length_append, List.length_cons, List.length_nil] at *; omega))
  · skip -- L0F
    refine W.exit ?_
    refine End.K_exit (End.KL_exit (End.KB_hit (End.K ?_)))
    refine W.seq ?_
    refine W.reg ?_
    refine WO.q (Q.move rfl) rfl ?_
    refine WO.q (Q.bin rfl (oc (v := .str []) (by kernel_rfl)) rfl bv_sneq) rfl ?_
    refine WO.q (Q.assign rfl) rfl ?_
    refine WO.nil ?_
    refine End.K ?_
    refine W.sub (SubS.cons (k := 2) rfl (SubS.nil _)) ?_
    refine W.ret ?_
    refine End.retV (ResL.tmp rfl ResL.nil) ?_
    exact bool_eq (by simp only [plainB]; rw [h2, List.drop_eq_nil_of_le (by omega)]; simp)

theorem fix_core (s t whole rest : List Nat) (m point : Bool) (hs : Bytes s) (hw : Bytes whole) (hr : Bytes rest) (hlw : whole.length ≤ 1073741824) (hlr : rest.length ≤ 1073741824) (H1 : Spec tab 50 [.str s, .str [45]] [] [] (Val (.tuple [.str t, .bool m]))) (H2 : Spec tab 51 [.str t, .str [46]] [] [] (Val (.tuple [.str whole, .str rest, .bool point]))) : Spec tab 39 [.str s] [] [] (Val (.tuple [.int .i64 (fixV s whole rest m point).1, .int .i64 (fixV s whole rest m point).2])) := by
  refine Spec.enter' (ft_get 39 Tryd.func39) rfl (m := 98) rfl (rs := [.tmp 2, .tmp 3]) rfl (st := [(0, .str s)]) rfl rfl (fun _ => rfl) (fun E => ?_)
  refine W.seq ?_
  refine W.reg ?_
  refine WO.q (Q.assign (oc (v := .int .i64 ((0 : Nat) : Int)) rfl)) rfl ?_
  refine WO.q (Q.assign (oc (v := .int .i64 ((0 : Nat) : Int)) rfl)) rfl ?_
  refine WO.nil ?_
  refine End.K ?_
  refine W.seq ?_
  refine W.reg ?_
  refine WO.q (Q.move rfl) rfl ?_
  refine WO.callV rfl (oLs_cons rfl (oLs_cons (oc (v := .str [45]) (by kernel_rfl)) oLs_nil)) rfl H1 SubR.nil rfl ?_
  refine WO.q (Q.move rfl) rfl ?_
  refine WO.q (Q.extract rfl rfl) rfl ?_
  refine WO.q (Q.extract rfl rfl) rfl ?_
  refine WO.q (Q.assign rfl) rfl ?_
  refine WO.q (Q.assign rfl) rfl ?_
  refine WO.nil ?_
  refine End.K ?_
  refine W.sub (SubS.cons (k := 5) rfl (SubS.cons (k := 4) rfl (SubS.cons (k := 0) rfl (SubS.nil _)))) ?_
  refine W.seq ?_
  refine W.reg ?_
  refine WO.q (Q.move rfl) rfl ?_
  refine WO.callV rfl (oLs_cons rfl (oLs_cons (oc (v := .str [46]) (by kernel_rfl)) oLs_nil)) rfl H2 SubR.nil rfl ?_
  refine WO.q (Q.move rfl) rfl ?_
  refine WO.q (Q.extract rfl rfl) rfl ?_
  refine WO.q (Q.extract rfl rfl) rfl ?_
  refine WO.q (Q.extract rfl rfl) rfl ?_
  refine WO.q (Q.assign rfl) rfl ?_
  refine WO.q (Q.assign rfl) rfl ?_
  refine WO.q (Q.assign rfl) rfl ?_
  refine WO.nil ?_
  refine End.K ?_
  refine W.sub (SubS.cons (k := 8) rfl (SubS.cons (k := 7) rfl (SubS.cons (k := 6) rfl (SubS.cons (k := 5) rfl (SubS.cons (k := 0) rfl (SubS.nil _)))))) ?_
  refine W.seq ?_
  refine W.block ?_
  refine W.seq ?_
  refine W.seq ?_
  refine W.reg ?_
  refine WO.q (Q.move rfl) rfl ?_
  refine WO.callV rfl (oLs_cons rfl oLs_nil) rfl (plain_spec _ (by assumption) (by first | omega | (simp only [List.length_drop, List.length_take, List.length_append, List.length_cons, List.length_nil] at *; omega))) SubR.nil rfl ?_
  refine WO.q (Q.not rfl rfl) rfl ?_
  refine WO.q (Q.assign rfl) rfl ?_
  refine WO.nil ?_
  refine End.K ?_
  refine W.condS rfl (fun hc23 => ?_) (fun hc23 => ?_)
  · skip -- T
    refine W.skip ?_
    refine End.K ?_
    refine W.condT rfl ?_
    refine W.seq ?_
    refine W.reg ?_
    refine WO.q (Q.assign (oc (v := .int .i64 ((0 : Nat) : Int)) rfl)) rfl ?_
    refine WO.q (Q.assign (oc (v := .int .i64 ((14 : Nat) : Int)) rfl)) rfl ?_
    refine WO.nil ?_
    refine End.K ?_
    refine W.sub (SubS.cons (k := 3) rfl (SubS.cons (k := 2) rfl (SubS.nil _))) ?_
    refine W.ret ?_
    refine End.KB_ret (End.K_ret (End.retV (ResL.tmp rfl (ResL.tmp rfl ResL.nil)) ?_))
    exact fix_leaf (by simp_all [fixV] <;> (repeat' split) <;> first | rfl | omega)
  · skip -- F
    refine W.seq ?_
    refine W.reg ?_
    refine WO.q (Q.move rfl) rfl ?_
    refine WO.q (Q.len ud9 rfl rfl) rfl ?_
    refine WO.q (Q.bin rfl (oc (v := .int .i64 ((1 : Nat) : Int)) rfl) rfl (bv_gtr lt_nat)) rfl ?_
    refine WO.q (Q.move rfl) rfl ?_
    refine WO.splitD (d := 30) rfl (fun hc30 => ?_) (fun hc30 => ?_)
    · skip -- Ft
      refine WO.gT rfl rfl ?_
      refine WO.q (Q.move rfl) rfl ?_
      refine WO.gT rfl rfl ?_
      refine WO.indexB hw ud9 rfl (oc (v := .int .i64 ((0 : Nat) : Int)) rfl) (by first | omega | (simp only [List.length_drop, List.length_take, List.length_append, List.length_cons, List.length_nil] at *; omega)) rfl (fun c32 hd32 hb32 => ?_)
      refine WO.gT rfl rfl ?_
      refine WO.q (Q.bin rfl (oc (v := .int .u8 ((48 : Nat) : Int)) rfl) rfl (bv_eql eq_nat)) rfl ?_
      refine WO.q (Q.pickT rfl rfl) rfl ?_
      refine WO.q (Q.assign rfl) rfl ?_
      refine WO.nil ?_
      refine End.K ?_
      refine W.sub (SubS.cons (k := 23) rfl (SubS.cons (k := 8) rfl (SubS.cons (k := 7) rfl (SubS.cons (k := 6) rfl (SubS.cons (k := 5) rfl (SubS.cons (k := 0) rfl (SubS.nil _))))))) ?_
      refine W.condDS rfl (fun hc23 => ?_) (fun hc23 => ?_)
      · skip -- FtT
        refine W.skip ?_
        refine End.K ?_
        refine W.condT rfl ?_
        refine W.seq ?_
        refine W.reg ?_
        refine WO.q (Q.assign (oc (v := .int .i64 ((0 : Nat) : Int)) rfl)) rfl ?_
        refine WO.q (Q.assign (oc (v := .int .i64 ((14 : Nat) : Int)) rfl)) rfl ?_
        refine WO.nil ?_
        refine End.K ?_
        refine W.sub (SubS.cons (k := 3) rfl (SubS.cons (k := 2) rfl (SubS.nil _))) ?_
        refine W.ret ?_
        refine End.KB_ret (End.K_ret (End.retV (ResL.tmp rfl (ResL.tmp rfl ResL.nil)) ?_))
        exact fix_leaf (by simp_all [fixV] <;> (repeat' split) <;> first | rfl | omega)
      · skip -- FtF
        refine W.reg ?_
        refine WO.q (Q.move rfl) rfl ?_
        refine WO.q (Q.bin rfl (oc (v := .str [45, 48]) (by kernel_rfl)) rfl bv_seql) rfl ?_
        refine WO.q (Q.assign rfl) rfl ?_
        refine WO.nil ?_
        refine End.K ?_
        refine W.condDS rfl (fun hc23 => ?_) (fun hc23 => ?_)
        · skip -- FtFT
          refine W.seq ?_
          refine W.reg ?_
          refine WO.q (Q.assign (oc (v := .int .i64 ((0 : Nat) : Int)) rfl)) rfl ?_
          refine WO.q (Q.assign (oc (v := .int .i64 ((14 : Nat) : Int)) rfl)) rfl ?_
          refine WO.nil ?_
          refine End.K ?_
          refine W.sub (SubS.cons (k := 3) rfl (SubS.cons (k := 2) rfl (SubS.nil _))) ?_
          refine W.ret ?_
          refine End.KB_ret (End.K_ret (End.retV (ResL.tmp rfl (ResL.tmp rfl ResL.nil)) ?_))
          exact fix_leaf (by simp_all [fixV] <;> (repeat' split) <;> first | rfl | omega)
        · skip -- FtFF
          refine W.seq ?_
          refine W.reg ?_
          refine WO.q (Q.move rfl) rfl ?_
          refine WO.q (Q.move rfl) rfl ?_
          refine WO.split (d := 39) rfl (fun hc39 => ?_) (fun hc39 => ?_)
          · skip -- FtFFt
            refine WO.gT rfl rfl ?_
            refine WO.q (Q.move rfl) rfl ?_
            refine WO.gT rfl rfl ?_
            refine WO.callV rfl (oLs_cons rfl oLs_nil) rfl (plain_spec _ (by assumption) (by first | omega | (simp only [List.length_drop, List.length_take, List.length_append, List.length_cons, List.length_nil] at *; omega))) SubR.nil rfl ?_
            refine WO.gT rfl rfl ?_
            refine WO.q (Q.not rfl rfl) rfl ?_
            refine WO.gT rfl rfl ?_
            refine WO.q (Q.move rfl) rfl ?_
            refine WO.split (d := 43) rfl (fun hc43 => ?_) (fun hc43 => ?_)
            · skip -- FtFFtt
              refine WO.gF rfl rfl (.inl rfl) rfl ?_
              refine WO.gF rfl rfl (.inl rfl) rfl ?_
              refine WO.gF rfl rfl (.inl rfl) rfl ?_
              refine WO.gT rfl rfl ?_
              refine WO.q (Q.pickT rfl rfl) rfl ?_
              refine WO.gT rfl rfl ?_
              refine WO.q (Q.move rfl) rfl ?_
              refine WO.gF rfl rfl (.inl rfl) rfl ?_
              refine WO.gF rfl rfl (.inl rfl) rfl ?_
              refine WO.gF rfl rfl (.inl rfl) rfl ?_
              refine WO.gF rfl rfl (.inl rfl) rfl ?_
              refine WO.gF rfl rfl (.inl rfl) rfl ?_
              refine WO.gF rfl rfl (.inl rfl) rfl ?_
              refine WO.gT rfl rfl ?_
              refine WO.q (Q.pickT rfl rfl) rfl ?_
              refine WO.q (Q.pickT rfl rfl) rfl ?_
              refine WO.q (Q.assign rfl) rfl ?_
              refine WO.nil ?_
              refine End.K ?_
              refine W.sub (SubS.cons (k := 37) rfl (SubS.cons (k := 7) rfl (SubS.cons (k := 6) rfl (SubS.cons (k := 5) rfl (SubS.nil _))))) ?_
              refine W.condT rfl ?_
              refine W.seq ?_
              refine W.reg ?_
              refine WO.q (Q.assign (oc (v := .int .i64 ((0 : Nat) : Int)) rfl)) rfl ?_
              refine WO.q (Q.assign (oc (v := .int .i64 ((14 : Nat) : Int)) rfl)) rfl ?_
              refine WO.nil ?_
              refine End.K ?_
              refine W.ret ?_
              refine End.KB_ret (End.K_ret (End.retV (ResL.tmp rfl (ResL.tmp rfl ResL.nil)) ?_))
              exact fix_leaf (by simp_all [fixV] <;> (repeat' split) <;> first | rfl | omega)
            · skip -- FtFFtf
              try have hpos := plainB_pos hc43
              refine WO.gT rfl rfl ?_
              refine WO.q (Q.move rfl) rfl ?_
              refine WO.gT rfl rfl ?_
              refine WO.q (Q.len ud9 rfl rfl) rfl ?_
              refine WO.gT rfl rfl ?_
              refine WO.q (Q.bin rfl (oc (v := .int .i64 ((6 : Nat) : Int)) rfl) rfl (bv_gtr lt_nat)) rfl ?_
              refine WO.gT rfl rfl ?_
              refine WO.q (Q.pickF rfl rfl) rfl ?_
              refine WO.gT rfl rfl ?_
              refine WO.q (Q.move rfl) rfl ?_
              refine WO.splitD (d := 48) rfl (fun hc48 => ?_) (fun hc48 => ?_)
              · skip -- FtFFtft
                refine WO.gF rfl rfl (.inl rfl) rfl ?_
                refine WO.gF rfl rfl (.inl rfl) rfl ?_
                refine WO.gF rfl rfl (.inl rfl) rfl ?_
                refine WO.gF rfl rfl (.inl rfl) rfl ?_
                refine WO.gF rfl rfl (.inl rfl) rfl ?_
                refine WO.gF rfl rfl (.inl rfl) rfl ?_
                refine WO.gT rfl rfl ?_
                refine WO.q (Q.pickT rfl rfl) rfl ?_
                refine WO.q (Q.pickT rfl rfl) rfl ?_
                refine WO.q (Q.assign rfl) rfl ?_
                refine WO.nil ?_
                refine End.K ?_
                refine W.sub (SubS.cons (k := 37) rfl (SubS.cons (k := 7) rfl (SubS.cons (k := 6) rfl (SubS.cons (k := 5) rfl (SubS.nil _))))) ?_
                refine W.condT rfl ?_
                refine W.seq ?_
                refine W.reg ?_
                refine WO.q (Q.assign (oc (v := .int .i64 ((0 : Nat) : Int)) rfl)) rfl ?_
                refine WO.q (Q.assign (oc (v := .int .i64 ((14 : Nat) : Int)) rfl)) rfl ?_
                refine WO.nil ?_
                refine End.K ?_
                refine W.ret ?_
                refine End.KB_ret (End.K_ret (End.retV (ResL.tmp rfl (ResL.tmp rfl ResL.nil)) ?_))
                exact fix_leaf (by simp_all [fixV] <;> (repeat' split) <;> first | rfl | omega)
              · skip -- FtFFtff
                refine WO.gT rfl rfl ?_
                refine WO.q (Q.move rfl) rfl ?_
                refine WO.gT rfl rfl ?_
                refine WO.q (Q.move rfl) rfl ?_
                refine WO.gT rfl rfl ?_
                refine WO.q (Q.len ud9 rfl rfl) rfl ?_
                refine WO.gT rfl rfl ?_
                refine WO.q (Q.bin rfl (oc (v := .int .i64 ((1 : Nat) : Int)) rfl) rfl (bv_sub (wn_sub (by first | omega | (simp only [List.length_drop, List.length_take, List.length_append, List.length_cons, List.length_nil] at *; omega))))) rfl ?_
                refine WO.gT rfl rfl ?_
                refine WO.indexB hr ud9 rfl rfl (by first | omega | (simp only [List.length_drop, List.length_take, List.length_append, List.length_cons, List.length_nil] at *; omega)) rfl (fun c53 hd53 hb53 => ?_)
                refine WO.gT rfl rfl ?_
                refine WO.q (Q.bin rfl (oc (v := .int .u8 ((48 : Nat) : Int)) rfl) rfl (bv_eql eq_nat)) rfl ?_
                refine WO.gT rfl rfl ?_
                refine WO.q (Q.pickF rfl rfl) rfl ?_
                refine WO.q (Q.pickT rfl rfl) rfl ?_
                refine WO.q (Q.assign rfl) rfl ?_
                refine WO.nil ?_
                refine End.K ?_
                refine W.sub (SubS.cons (k := 37) rfl (SubS.cons (k := 7) rfl (SubS.cons (k := 6) rfl (SubS.cons (k := 5) rfl (SubS.nil _))))) ?_
                refine W.condDS rfl (fun hc37 => ?_) (fun hc37 => ?_)
                · skip -- FtFFtffT
                  refine W.seq ?_
                  refine W.reg ?_
                  refine WO.q (Q.assign (oc (v := .int .i64 ((0 : Nat) : Int)) rfl)) rfl ?_
                  refine WO.q (Q.assign (oc (v := .int .i64 ((14 : Nat) : Int)) rfl)) rfl ?_
                  refine WO.nil ?_
                  refine End.K ?_
                  refine W.ret ?_
                  refine End.KB_ret (End.K_ret (End.retV (ResL.tmp rfl (ResL.tmp rfl ResL.nil)) ?_))
                  exact fix_leaf (by simp_all [fixV] <;> (repeat' split) <;> first | rfl | omega)
                · skip -- FtFFtffF
                  refine W.seq ?_
                  refine W.reg ?_
                  refine WO.q (Q.move rfl) rfl ?_
                  refine WO.q (Q.len ud9 rfl rfl) rfl ?_
                  refine WO.q (Q.bin rfl (oc (v := .int .i64 ((13 : Nat) : Int)) rfl) rfl (bv_gtr lt_nat)) rfl ?_
                  refine WO.q (Q.assign rfl) rfl ?_
                  refine WO.nil ?_
                  refine End.K ?_
                  refine W.condDS rfl (fun hc57 => ?_) (fun hc57 => ?_)
                  · skip -- FtFFtffFT
                    refine W.seq ?_
                    refine W.reg ?_
                    refine WO.q (Q.assign (oc (v := .int .i64 ((0 : Nat) : Int)) rfl)) rfl ?_
                    refine WO.q (Q.assign (oc (v := .int .i64 ((11 : Nat) : Int)) rfl)) rfl ?_
                    refine WO.nil ?_
                    refine End.K ?_
                    refine W.sub (SubS.cons (k := 3) rfl (SubS.cons (k := 2) rfl (SubS.nil _))) ?_
                    refine W.ret ?_
                    refine End.KB_ret (End.K_ret (End.retV (ResL.tmp rfl (ResL.tmp rfl ResL.nil)) ?_))
                    exact fix_leaf (by simp_all [fixV] <;> (repeat' split) <;> first | rfl | omega)
                  · skip -- FtFFtffFF
                    refine W.skip ?_
                    refine End.KB (End.K ?_)
                    refine W.seq ?_
                    refine W.reg ?_
                    refine WO.q (Q.assign (oc (v := .int .i64 ((0 : Nat) : Int)) rfl)) rfl ?_
                    refine WO.nil ?_
                    refine End.K ?_
                    refine W.seq ?_
                    refine W.seq ?_
                    refine W.reg ?_
                    refine WO.q (Q.move rfl) rfl ?_
                    refine WO.q (Q.len ud9 rfl rfl) rfl ?_
                    refine WO.q (Q.move (oc (v := .int .i64 ((0 : Nat) : Int)) rfl)) rfl ?_
                    refine WO.nil ?_
                    refine End.K ?_
                    refine W.sub (SubS.cons (k := 63) rfl (SubS.cons (k := 62) rfl (SubS.cons (k := 9) rfl (SubS.cons (k := 7) rfl (SubS.cons (k := 6) rfl (SubS.cons (k := 5) rfl (SubS.nil _))))))) ?_
                    refine W.block ?_
                    refine W.loop_ind (fun (i : Nat) => [(5, .bool m), (6, .str whole), (7, .str rest), (9, .int .i64 (whN whole i)), (62, .int .i64 ((whole.length : Nat) : Int)), (63, .int .i64 ((i : Nat) : Int))]) (fun _ => _) (fun (i : Nat) => i ≤ whole.length) (fun (i : Nat) => whole.length - i) (0) (by first | omega | (simp only [List.length_drop, List.length_take, List.length_append, List.length_cons, List.length_nil] at *; omega)) (SubS.cons rfl (SubS.cons rfl (SubS.cons rfl (SubS.cons rfl (SubS.cons rfl (SubS.cons rfl (SubS.nil _))))))) (SubH.refl _) (fun i hI0 ih0 => ?_)
                    have h1 : i ≤ whole.length := hI0
                    refine W.seq ?_
                    refine W.reg ?_
                    refine WO.q (Q.bin rfl rfl rfl (bv_lss lt_nat)) rfl ?_
                    refine WO.nil ?_
                    refine End.K ?_
                    refine W.seq ?_
                    refine W.condDS rfl (fun hc64 => ?_) (fun hc64 => ?_)
                    · skip -- FtFFtffFFL0T
                      refine W.skip ?_
                      refine End.K ?_
                      refine W.seq ?_
                      refine W.block ?_
                      refine W.seq ?_
                      refine W.reg ?_
                      refine WO.q (Q.move rfl) rfl ?_
                      refine WO.q (Q.assign rfl) rfl ?_
                      refine WO.nil ?_
                      refine End.K ?_
                      refine W.reg ?_
                      refine WO.q (Q.move rfl) rfl ?_
                      refine WO.q (Q.bin (oc (v := .int .i64 ((10 : Nat) : Int)) rfl) rfl rfl (bv_mul rfl)) rfl ?_
                      refine WO.q (Q.move rfl) rfl ?_
                      refine WO.q (Q.move rfl) rfl ?_
                      refine WO.indexB hw ud9 rfl rfl (by first | omega | (simp only [List.length_drop, List.length_take, List.length_append, List.length_cons, List.length_nil] at *; omega)) rfl (fun c70 hd70 hb70 => ?_)
                      refine WO.q (Q.bin rfl (oc (v := .int .u8 ((48 : Nat) : Int)) rfl) rfl (bv_sub rfl)) rfl ?_
                      refine WO.q (Q.convI ud5 ud3 rfl rfl) rfl ?_
                      refine WO.q (Q.bin rfl rfl rfl (bv_add rfl)) rfl ?_
                      refine WO.q (Q.assign rfl) rfl ?_
                      refine WO.nil ?_
                      refine End.KB (End.K ?_)
                      refine W.sub (SubS.cons (k := 9) rfl (SubS.cons (k := 5) rfl (SubS.cons (k := 6) rfl (SubS.cons (k := 7) rfl (SubS.cons (k := 62) rfl (SubS.cons (k := 63) rfl (SubS.nil _))))))) ?_
                      refine W.reg ?_
                      refine WO.q (Q.bin rfl (oc (v := .int .i64 ((1 : Nat) : Int)) rfl) rfl (bv_add (wn_add (by first | omega | (simp only [List.length_drop, List.length_take, List.length_append, List.length_cons, List.length_nil] at *; omega))))) rfl ?_
                      refine WO.q (Q.move rfl) rfl ?_
                      refine WO.nil ?_
                      refine End.KL ?_
                      subst hd70
                      refine W.sub (SubS.cons rfl (SubS.cons rfl (SubS.cons rfl (SubS.cons rfl (SubS.cons rfl (SubS.cons rfl (SubS.nil _))))))) (ih0 (i + 1) ?_ ?_)
                      · exact (by omega)
                      · exact (by first | omega | (simp only [List.length_drop, List.length_take, List.length_append, List.length_cons, List.length_nil] at *; omega))
                    · skip -- FtFFtffFFL0F
                      have hi : i = whole.length := by omega
                      subst hi
                      refine W.exit ?_
                      refine End.K_exit (End.KL_exit (End.KB_hit (End.K ?_)))
                      refine W.seq ?_
                      refine W.seq ?_
                      refine W.reg ?_
                      refine WO.q (Q.move (oc (v := .int .i64 ((0 : Nat) : Int)) rfl)) rfl ?_
                      refine WO.nil ?_
                      refine End.K ?_
                      refine W.block ?_
                      refine W.loop_ind (fun (i : Nat) => [(5, .bool m), (7, .str rest), (9, .int .i64 (frN rest (whN whole whole.length) i)), (75, .int .i64 ((i : Nat) : Int))]) (fun _ => _) (fun (i : Nat) => i ≤ 6) (fun (i : Nat) => 6 - i) (0) (by omega) (SubS.cons rfl (SubS.cons rfl (SubS.cons rfl (SubS.cons rfl (SubS.nil _))))) (SubH.refl _) (fun i hI1 ih1 => ?_)
                      have h1 : i ≤ 6 := hI1
                      refine W.seq ?_
                      refine W.reg ?_
                      refine WO.q (Q.bin rfl (oc (v := .int .i64 ((6 : Nat) : Int)) rfl) rfl (bv_lss lt_nat)) rfl ?_
                      refine WO.nil ?_
                      refine End.K ?_
                      refine W.seq ?_
                      refine W.condDS rfl (fun hc76 => ?_) (fun hc76 => ?_)
                      · skip -- FtFFtffFFL0FL1T
                        refine W.skip ?_
                        refine End.K ?_
                        refine W.seq ?_
                        refine W.block ?_
                        refine W.seq ?_
                        refine W.reg ?_
                        refine WO.q (Q.move rfl) rfl ?_
                        refine WO.q (Q.assign rfl) rfl ?_
                        refine WO.nil ?_
                        refine End.K ?_
                        refine W.seq ?_
                        refine W.reg ?_
                        refine WO.q (Q.move rfl) rfl ?_
                        refine WO.q (Q.bin rfl (oc (v := .int .i64 ((10 : Nat) : Int)) rfl) rfl (bv_mul rfl)) rfl ?_
                        refine WO.q (Q.assign rfl) rfl ?_
                        refine WO.nil ?_
                        refine End.K ?_
                        refine W.seq ?_
                        refine W.reg ?_
                        refine WO.q (Q.move rfl) rfl ?_
                        refine WO.q (Q.move rfl) rfl ?_
                        refine WO.q (Q.len ud9 rfl rfl) rfl ?_
                        refine WO.q (Q.bin rfl rfl rfl (bv_lss lt_nat)) rfl ?_
                        refine WO.nil ?_
                        refine End.K ?_
                        refine W.sub (SubS.cons (k := 83) rfl (SubS.cons (k := 9) rfl (SubS.cons (k := 11) rfl (SubS.cons (k := 5) rfl (SubS.cons (k := 7) rfl (SubS.cons (k := 75) rfl (SubS.nil _))))))) ?_
                        refine W.condDS rfl (fun hc83 => ?_) (fun hc83 => ?_)
                        · skip -- FtFFtffFFL0FL1TT
                          refine W.reg ?_
                          refine WO.q (Q.move rfl) rfl ?_
                          refine WO.q (Q.move rfl) rfl ?_
                          refine WO.q (Q.move rfl) rfl ?_
                          refine WO.indexB hr ud9 rfl rfl (by first | omega | (simp only [List.length_drop, List.length_take, List.length_append, List.length_cons, List.length_nil] at *; omega)) rfl (fun c87 hd87 hb87 => ?_)
                          refine WO.q (Q.bin rfl (oc (v := .int .u8 ((48 : Nat) : Int)) rfl) rfl (bv_sub rfl)) rfl ?_
                          refine WO.q (Q.convI ud5 ud3 rfl rfl) rfl ?_
                          refine WO.q (Q.bin rfl rfl rfl (bv_add rfl)) rfl ?_
                          refine WO.q (Q.assign rfl) rfl ?_
                          refine WO.nil ?_
                          refine End.KB (End.K ?_)
                          refine W.sub (SubS.cons (k := 9) rfl (SubS.cons (k := 5) rfl (SubS.cons (k := 7) rfl (SubS.cons (k := 75) rfl (SubS.nil _))))) ?_
                          refine W.reg ?_
                          refine WO.q (Q.bin rfl (oc (v := .int .i64 ((1 : Nat) : Int)) rfl) rfl (bv_add (wn_add (by first | omega | (simp only [List.length_drop, List.length_take, List.length_append, List.length_cons, List.length_nil] at *; omega))))) rfl ?_
                          refine WO.q (Q.move rfl) rfl ?_
                          refine WO.nil ?_
                          refine End.KL ?_
                          subst hd87
                          refine W.sub (SubS.cons rfl (SubS.cons rfl (SubS.cons (by rw [frN_lt (by assumption)]; rfl) (SubS.cons rfl (SubS.nil _))))) (ih1 (i + 1) ?_ ?_)
                          · exact (by first | omega | (simp only [List.length_drop, List.length_take, List.length_append, List.length_cons, List.length_nil] at *; omega))
                          · exact (by first | omega | (simp only [List.length_drop, List.length_take, List.length_append, List.length_cons, List.length_nil] at *; omega))
                        · skip -- FtFFtffFFL0FL1TF
                          refine W.skip ?_
                          refine End.KB (End.K ?_)
                          refine W.reg ?_
                          refine WO.q (Q.bin rfl (oc (v := .int .i64 ((1 : Nat) : Int)) rfl) rfl (bv_add (wn_add (by first | omega | (simp only [List.length_drop, List.length_take, List.length_append, List.length_cons, List.length_nil] at *; omega))))) rfl ?_
                          refine WO.q (Q.move rfl) rfl ?_
                          refine WO.nil ?_
                          refine End.KL ?_
                          refine W.sub (SubS.cons rfl (SubS.cons rfl (SubS.cons (by rw [frN_ge (by omega)]; rfl) (SubS.cons rfl (SubS.nil _))))) (ih1 (i + 1) ?_ ?_)
                          · exact (by first | omega | (simp only [List.length_drop, List.length_take, List.length_append, List.length_cons, List.length_nil] at *; omega))
                          · exact (by first | omega | (simp only [List.length_drop, List.length_take, List.length_append, List.length_cons, List.length_nil] at *; omega))
                      · skip -- FtFFtffFFL0FL1F
                        have hi : i = 6 := by omega
                        subst hi
                        refine W.exit ?_
                        refine End.K_exit (End.KL_exit (End.KB_hit (End.K ?_)))
                        refine W.seq ?_
                        refine W.seq ?_
                        refine W.reg ?_
                        refine WO.q (Q.move rfl) rfl ?_
                        refine WO.q (Q.bin rfl (oc (v := .int .i64 ((1152921504606846976 : Nat) : Int)) rfl) rfl (bv_gtr (ltA_eq _ _))) rfl ?_
                        refine WO.nil ?_
                        refine End.K ?_
                        refine W.condDS rfl (fun hc93 => ?_) (fun hc93 => ?_)
                        · skip -- FtFFtffFFL0FL1FT
                          refine W.seq ?_
                          refine W.reg ?_
                          refine WO.q (Q.assign (oc (v := .int .i64 ((0 : Nat) : Int)) rfl)) rfl ?_
                          refine WO.q (Q.assign (oc (v := .int .i64 ((11 : Nat) : Int)) rfl)) rfl ?_
                          refine WO.nil ?_
                          refine End.K ?_
                          refine W.sub (SubS.cons (k := 3) rfl (SubS.cons (k := 2) rfl (SubS.nil _))) ?_
                          refine W.ret ?_
                          refine End.K_ret (End.retV (ResL.tmp rfl (ResL.tmp rfl ResL.nil)) ?_)
                          exact fix_leaf (by simp_all [fixV] <;> (repeat' split) <;> first | rfl | omega)
                        · skip -- FtFFtffFFL0FL1FF
                          refine W.skip ?_
                          refine End.K ?_
                          refine W.seq ?_
                          refine W.seq ?_
                          refine W.reg ?_
                          refine WO.q (Q.move rfl) rfl ?_
                          refine WO.nil ?_
                          refine End.K ?_
                          refine W.sub (SubS.cons (k := 94) rfl (SubS.cons (k := 9) rfl (SubS.nil _))) ?_
                          refine W.condS rfl (fun hc94 => ?_) (fun hc94 => ?_)
                          · skip -- FtFFtffFFL0FL1FFT
                            refine W.reg ?_
                            refine WO.q (Q.move rfl) rfl ?_
                            refine WO.q (Q.neg rfl rfl) rfl ?_
                            refine WO.q (Q.assign rfl) rfl ?_
                            refine WO.nil ?_
                            refine End.K ?_
                            refine W.seq ?_
                            refine W.reg ?_
                            refine WO.q (Q.move rfl) rfl ?_
                            refine WO.q (Q.assign rfl) rfl ?_
                            refine WO.q (Q.assign (oc (v := .int .i64 ((0 : Nat) : Int)) rfl)) rfl ?_
                            refine WO.nil ?_
                            refine End.K ?_
                            refine W.ret ?_
                            refine End.retV (ResL.tmp rfl (ResL.tmp rfl ResL.nil)) ?_
                            exact fix_leaf (by simp_all [fixV] <;> (repeat' split) <;> first | rfl | omega)
                          · skip -- FtFFtffFFL0FL1FFF
                            refine W.skip ?_
                            refine End.K ?_
                            refine W.seq ?_
                            refine W.reg ?_
                            refine WO.q (Q.move rfl) rfl ?_
                            refine WO.q (Q.assign rfl) rfl ?_
                            refine WO.q (Q.assign (oc (v := .int .i64 ((0 : Nat) : Int)) rfl)) rfl ?_
                            refine WO.nil ?_
                            refine End.K ?_
                            refine W.ret ?_
                            refine End.retV (ResL.tmp rfl (ResL.tmp rfl ResL.nil)) ?_
                            exact fix_leaf (by simp_all [fixV] <;> (repeat' split) <;> first | rfl | omega)
          · skip -- FtFFf
            refine WO.gF rfl rfl (.inl rfl) rfl ?_
            refine WO.gF rfl rfl (.inl rfl) rfl ?_
            refine WO.gF rfl rfl (.inl rfl) rfl ?_
            refine WO.gF rfl rfl (.inl rfl) rfl ?_
            refine WO.gF rfl rfl (.inr rfl) rfl ?_
            refine WO.gF rfl rfl (.inr rfl) rfl ?_
            refine WO.gF rfl rfl (.inr rfl) rfl ?_
            refine WO.gF rfl rfl (.inl rfl) rfl ?_
            refine WO.gF rfl rfl (.inl rfl) rfl ?_
            refine WO.gF rfl rfl (.inr rfl) rfl ?_
            refine WO.gF rfl rfl (.inr rfl) rfl ?_
            refine WO.gF rfl rfl (.inr rfl) rfl ?_
            refine WO.gF rfl rfl (.inr rfl) rfl ?_
            refine WO.gF rfl rfl (.inr rfl) rfl ?_
            refine WO.gF rfl rfl (.inr rfl) rfl ?_
            refine WO.gF rfl rfl (.inl rfl) rfl ?_
            refine WO.q (Q.pickF rfl rfl) rfl ?_
            refine WO.q (Q.assign rfl) rfl ?_
            refine WO.nil ?_
            refine End.K ?_
            refine W.sub (SubS.cons (k := 37) rfl (SubS.cons (k := 7) rfl (SubS.cons (k := 6) rfl (SubS.cons (k := 5) rfl (SubS.nil _))))) ?_
            refine W.condF rfl ?_
            refine W.seq ?_
            refine W.reg ?_
            refine WO.q (Q.move rfl) rfl ?_
            refine WO.q (Q.len ud9 rfl rfl) rfl ?_
            refine WO.q (Q.bin rfl (oc (v := .int .i64 ((13 : Nat) : Int)) rfl) rfl (bv_gtr lt_nat)) rfl ?_
            refine WO.q (Q.assign rfl) rfl ?_
            refine WO.nil ?_
            refine End.K ?_
            refine W.condDS rfl (fun hc57 => ?_) (fun hc57 => ?_)
            · skip -- FtFFfT
              refine W.seq ?_
              refine W.reg ?_
              refine WO.q (Q.assign (oc (v := .int .i64 ((0 : Nat) : Int)) rfl)) rfl ?_
              refine WO.q (Q.assign (oc (v := .int .i64 ((11 : Nat) : Int)) rfl)) rfl ?_
              refine WO.nil ?_
              refine End.K ?_
              refine W.sub (SubS.cons (k := 3) rfl (SubS.cons (k := 2) rfl (SubS.nil _))) ?_
              refine W.ret ?_
              refine End.KB_ret (End.K_ret (End.retV (ResL.tmp rfl (ResL.tmp rfl ResL.nil)) ?_))
              exact fix_leaf (by simp_all [fixV] <;> (repeat' split) <;> first | rfl | omega)
            · skip -- FtFFfF
              refine W.skip ?_
              refine End.KB (End.K ?_)
              refine W.seq ?_
              refine W.reg ?_
              refine WO.q (Q.assign (oc (v := .int .i64 ((0 : Nat) : Int)) rfl)) rfl ?_
              refine WO.nil ?_
              refine End.K ?_
              refine W.seq ?_
              refine W.seq ?_
              refine W.reg ?_
              refine WO.q (Q.move rfl) rfl ?_
              refine WO.q (Q.len ud9 rfl rfl) rfl ?_
              refine WO.q (Q.move (oc (v := .int .i64 ((0 : Nat) : Int)) rfl)) rfl ?_
              refine WO.nil ?_
              refine End.K ?_
              refine W.sub (SubS.cons (k := 63) rfl (SubS.cons (k := 62) rfl (SubS.cons (k := 9) rfl (SubS.cons (k := 7) rfl (SubS.cons (k := 6) rfl (SubS.cons (k := 5) rfl (SubS.nil _))))))) ?_
              refine W.block ?_
              refine W.loop_ind (fun (i : Nat) => [(5, .bool m), (6, .str whole), (7, .str rest), (9, .int .i64 (whN whole i)), (62, .int .i64 ((whole.length : Nat) : Int)), (63, .int .i64 ((i : Nat) : Int))]) (fun _ => _) (fun (i : Nat) => i ≤ whole.length) (fun (i : Nat) => whole.length - i) (0) (by first | omega | (simp only [List.length_drop, List.length_take, List.length_append, List.length_cons, List.length_nil] at *; omega)) (SubS.cons rfl (SubS.cons rfl (SubS.cons rfl (SubS.cons rfl (SubS.cons rfl (SubS.cons rfl (SubS.nil _))))))) (SubH.refl _) (fun i hI0 ih0 => ?_)
              have h1 : i ≤ whole.length := hI0
              refine W.seq ?_
              refine W.reg ?_
              refine WO.q (Q.bin rfl rfl rfl (bv_lss lt_nat)) rfl ?_
              refine WO.nil ?_
              refine End.K ?_
              refine W.seq ?_
              refine W.condDS rfl (fun hc64 => ?_) (fun hc64 => ?_)
              · skip -- FtFFfFL0T
                refine W.skip ?_
                refine End.K ?_
                refine W.seq ?_
                refine W.block ?_
                refine W.seq ?_
                refine W.reg ?_
                refine WO.q (Q.move rfl) rfl ?_
                refine WO.q (Q.assign rfl) rfl ?_
                refine WO.nil ?_
                refine End.K ?_
                refine W.reg ?_
                refine WO.q (Q.move rfl) rfl ?_
                refine WO.q (Q.bin (oc (v := .int .i64 ((10 : Nat) : Int)) rfl) rfl rfl (bv_mul rfl)) rfl ?_
                refine WO.q (Q.move rfl) rfl ?_
                refine WO.q (Q.move rfl) rfl ?_
                refine WO.indexB hw ud9 rfl rfl (by first | omega | (simp only [List.length_drop, List.length_take, List.length_append, List.length_cons, List.length_nil] at *; omega)) rfl (fun c70 hd70 hb70 => ?_)
                refine WO.q (Q.bin rfl (oc (v := .int .u8 ((48 : Nat) : Int)) rfl) rfl (bv_sub rfl)) rfl ?_
                refine WO.q (Q.convI ud5 ud3 rfl rfl) rfl ?_
                refine WO.q (Q.bin rfl rfl rfl (bv_add rfl)) rfl ?_
                refine WO.q (Q.assign rfl) rfl ?_
                refine WO.nil ?_
                refine End.KB (End.K ?_)
                refine W.sub (SubS.cons (k := 9) rfl (SubS.cons (k := 5) rfl (SubS.cons (k := 6) rfl (SubS.cons (k := 7) rfl (SubS.cons (k := 62) rfl (SubS.cons (k := 63) rfl (SubS.nil _))))))) ?_
                refine W.reg ?_
                refine WO.q (Q.bin rfl (oc (v := .int .i64 ((1 : Nat) : Int)) rfl) rfl (bv_add (wn_add (by first | omega | (simp only [List.length_drop, List.length_take, List.length_append, List.length_cons, List.length_nil] at *; omega))))) rfl ?_
                refine WO.q (Q.move rfl) rfl ?_
                refine WO.nil ?_
                refine End.KL ?_
                subst hd70
                refine W.sub (SubS.cons rfl (SubS.cons rfl (SubS.cons rfl (SubS.cons rfl (SubS.cons rfl (SubS.cons rfl (SubS.nil _))))))) (ih0 (i + 1) ?_ ?_)
                · exact (by omega)
                · exact (by first | omega | (simp only [List.length_drop, List.length_take, List.length_append, List.length_cons, List.length_nil] at *; omega))
              · skip -- FtFFfFL0F
                have hi : i = whole.length := by omega
                subst hi
                refine W.exit ?_
                refine End.K_exit (End.KL_exit (End.KB_hit (End.K ?_)))
                refine W.seq ?_
                refine W.seq ?_
                refine W.reg ?_
                refine WO.q (Q.move (oc (v := .int .i64 ((0 : Nat) : Int)) rfl)) rfl ?_
                refine WO.nil ?_
                refine End.K ?_
                refine W.block ?_
                refine W.loop_ind (fun (i : Nat) => [(5, .bool m), (7, .str rest), (9, .int .i64 (frN rest (whN whole whole.length) i)), (75, .int .i64 ((i : Nat) : Int))]) (fun _ => _) (fun (i : Nat) => i ≤ 6) (fun (i : Nat) => 6 - i) (0) (by omega) (SubS.cons rfl (SubS.cons rfl (SubS.cons rfl (SubS.cons rfl (SubS.nil _))))) (SubH.refl _) (fun i hI1 ih1 => ?_)
                have h1 : i ≤ 6 := hI1
                refine W.seq ?_
                refine W.reg ?_
                refine WO.q (Q.bin rfl (oc (v := .int .i64 ((6 : Nat) : Int)) rfl) rfl (bv_lss lt_nat)) rfl ?_
                refine WO.nil ?_
                refine End.K ?_
                refine W.seq ?_
                refine W.condDS rfl (fun hc76 => ?_) (fun hc76 => ?_)
                · skip -- FtFFfFL0FL1T
                  refine W.skip ?_
                  refine End.K ?_
                  refine W.seq ?_
                  refine W.block ?_
                  refine W.seq ?_
                  refine W.reg ?_
                  refine WO.q (Q.move rfl) rfl ?_
                  refine WO.q (Q.assign rfl) rfl ?_
                  refine WO.nil ?_
                  refine End.K ?_
                  refine W.seq ?_
                  refine W.reg ?_
                  refine WO.q (Q.move rfl) rfl ?_
                  refine WO.q (Q.bin rfl (oc (v := .int .i64 ((10 : Nat) : Int)) rfl) rfl (bv_mul rfl)) rfl ?_
                  refine WO.q (Q.assign rfl) rfl ?_
                  refine WO.nil ?_
                  refine End.K ?_
                  refine W.seq ?_
                  refine W.reg ?_
                  refine WO.q (Q.move rfl) rfl ?_
                  refine WO.q (Q.move rfl) rfl ?_
                  refine WO.q (Q.len ud9 rfl rfl) rfl ?_
                  refine WO.q (Q.bin rfl rfl rfl (bv_lss lt_nat)) rfl ?_
                  refine WO.nil ?_
                  refine End.K ?_
                  refine W.sub (SubS.cons (k := 83) rfl (SubS.cons (k := 9) rfl (SubS.cons (k := 11) rfl (SubS.cons (k := 5) rfl (SubS.cons (k := 7) rfl (SubS.cons (k := 75) rfl (SubS.nil _))))))) ?_
                  refine W.condDS rfl (fun hc83 => ?_) (fun hc83 => ?_)
                  · skip -- FtFFfFL0FL1TT
                    refine W.reg ?_
                    refine WO.q (Q.move rfl) rfl ?_
                    refine WO.q (Q.move rfl) rfl ?_
                    refine WO.q (Q.move rfl) rfl ?_
                    refine WO.indexB hr ud9 rfl rfl (by first | omega | (simp only [List.length_drop, List.length_take, List.length_append, List.length_cons, List.length_nil] at *; omega)) rfl (fun c87 hd87 hb87 => ?_)
                    refine WO.q (Q.bin rfl (oc (v := .int .u8 ((48 : Nat) : Int)) rfl) rfl (bv_sub rfl)) rfl ?_
                    refine WO.q (Q.convI ud5 ud3 rfl rfl) rfl ?_
                    refine WO.q (Q.bin rfl rfl rfl (bv_add rfl)) rfl ?_
                    refine WO.q (Q.assign rfl) rfl ?_
                    refine WO.nil ?_
                    refine End.KB (End.K ?_)
                    refine W.sub (SubS.cons (k := 9) rfl (SubS.cons (k := 5) rfl (SubS.cons (k := 7) rfl (SubS.cons (k := 75) rfl (SubS.nil _))))) ?_
                    refine W.reg ?_
                    refine WO.q (Q.bin rfl (oc (v := .int .i64 ((1 : Nat) : Int)) rfl) rfl (bv_add (wn_add (by first | omega | (simp only [List.length_drop, List.length_take, List.length_append, List.length_cons, List.length_nil] at *; omega))))) rfl ?_
                    refine WO.q (Q.move rfl) rfl ?_
                    refine WO.nil ?_
                    refine End.KL ?_
                    subst hd87
                    refine W.sub (SubS.cons rfl (SubS.cons rfl (SubS.cons (by rw [frN_lt (by assumption)]; rfl) (SubS.cons rfl (SubS.nil _))))) (ih1 (i + 1) ?_ ?_)
                    · exact (by first | omega | (simp only [List.length_drop, List.length_take, List.length_append, List.length_cons, List.length_nil] at *; omega))
                    · exact (by first | omega | (simp only [List.length_drop, List.length_take, List.length_append, List.length_cons, List.length_nil] at *; omega))
                  · skip -- FtFFfFL0FL1TF
                    refine W.skip ?_
                    refine End.KB (End.K ?_)
                    refine W.reg ?_
                    refine WO.q (Q.bin rfl (oc (v := .int .i64 ((1 : Nat) : Int)) rfl) rfl (bv_add (wn_add (by first | omega | (simp only [List.length_drop, List.length_take, List.length_append, List.length_cons, List.length_nil] at *; omega))))) rfl ?_
                    refine WO.q (Q.move rfl) rfl ?_
                    refine WO.nil ?_
                    refine End.KL ?_
                    refine W.sub (SubS.cons rfl (SubS.cons rfl (SubS.cons (by rw [frN_ge (by omega)]; rfl) (SubS.cons rfl (SubS.nil _))))) (ih1 (i + 1) ?_ ?_)
                    · exact (by first | omega | (simp only [List.length_drop, List.length_take, List.length_append, List.length_cons, List.length_nil] at *; omega))
                    · exact (by first | omega | (simp only [List.length_drop, List.length_take, List.length_append, List.length_cons, List.length_nil] at *; omega))
                · skip -- FtFFfFL0FL1F
                  have hi : i = 6 := by omega
                  subst hi
                  refine W.exit ?_
                  refine End.K_exit (End.KL_exit (End.KB_hit (End.K ?_)))
                  refine W.seq ?_
                  refine W.seq ?_
                  refine W.reg ?_
                  refine WO.q (Q.move rfl) rfl ?_
                  refine WO.q (Q.bin rfl (oc (v := .int .i64 ((1152921504606846976 : Nat) : Int)) rfl) rfl (bv_gtr (ltA_eq _ _))) rfl ?_
                  refine WO.nil ?_
                  refine End.K ?_
                  refine W.condDS rfl (fun hc93 => ?_) (fun hc93 => ?_)
                  · skip -- FtFFfFL0FL1FT
                    refine W.seq ?_
                    refine W.reg ?_
                    refine WO.q (Q.assign (oc (v := .int .i64 ((0 : Nat) : Int)) rfl)) rfl ?_
                    refine WO.q (Q.assign (oc (v := .int .i64 ((11 : Nat) : Int)) rfl)) rfl ?_
                    refine WO.nil ?_
                    refine End.K ?_
                    refine W.sub (SubS.cons (k := 3) rfl (SubS.cons (k := 2) rfl (SubS.nil _))) ?_
                    refine W.ret ?_
                    refine End.K_ret (End.retV (ResL.tmp rfl (ResL.tmp rfl ResL.nil)) ?_)
                    exact fix_leaf (by simp_all [fixV] <;> (repeat' split) <;> first | rfl | omega)
                  · skip -- FtFFfFL0FL1FF
                    refine W.skip ?_
                    refine End.K ?_
                    refine W.seq ?_
                    refine W.seq ?_
                    refine W.reg ?_
                    refine WO.q (Q.move rfl) rfl ?_
                    refine WO.nil ?_
                    refine End.K ?_
                    refine W.sub (SubS.cons (k := 94) rfl (SubS.cons (k := 9) rfl (SubS.nil _))) ?_
                    refine W.condS rfl (fun hc94 => ?_) (fun hc94 => ?_)
                    · skip -- FtFFfFL0FL1FFT
                      refine W.reg ?_
                      refine WO.q (Q.move rfl) rfl ?_
                      refine WO.q (Q.neg rfl rfl) rfl ?_
                      refine WO.q (Q.assign rfl) rfl ?_
                      refine WO.nil ?_
                      refine End.K ?_
                      refine W.seq ?_
                      refine W.reg ?_
                      refine WO.q (Q.move rfl) rfl ?_
                      refine WO.q (Q.assign rfl) rfl ?_
                      refine WO.q (Q.assign (oc (v := .int .i64 ((0 : Nat) : Int)) rfl)) rfl ?_
                      refine WO.nil ?_
                      refine End.K ?_
                      refine W.ret ?_
                      refine End.retV (ResL.tmp rfl (ResL.tmp rfl ResL.nil)) ?_
                      exact fix_leaf (by simp_all [fixV] <;> (repeat' split) <;> first | rfl | omega)
                    · skip -- FtFFfFL0FL1FFF
                      refine W.skip ?_
                      refine End.K ?_
                      refine W.seq ?_
                      refine W.reg ?_
                      refine WO.q (Q.move rfl) rfl ?_
                      refine WO.q (Q.assign rfl) rfl ?_
                      refine WO.q (Q.assign (oc (v := .int .i64 ((0 : Nat) : Int)) rfl)) rfl ?_
                      refine WO.nil ?_
                      refine End.K ?_
                      refine W.ret ?_
                      refine End.retV (ResL.tmp rfl (ResL.tmp rfl ResL.nil)) ?_
                      exact fix_leaf (by simp_all [fixV] <;> (repeat' split) <;> first | rfl | omega)
    · skip -- Ff
      refine WO.gF rfl rfl (.inl rfl) rfl ?_
      refine WO.gF rfl rfl (.inl rfl) rfl ?_
      refine WO.gF rfl rfl (.inl rfl) rfl ?_
      refine WO.q (Q.pickF rfl rfl) rfl ?_
      refine WO.q (Q.assign rfl) rfl ?_
      refine WO.nil ?_
      refine End.K ?_
      refine W.sub (SubS.cons (k := 23) rfl (SubS.cons (k := 8) rfl (SubS.cons (k := 7) rfl (SubS.cons (k := 6) rfl (SubS.cons (k := 5) rfl (SubS.cons (k := 0) rfl (SubS.nil _))))))) ?_
      refine W.condF rfl ?_
      refine W.reg ?_
      refine WO.q (Q.move rfl) rfl ?_
      refine WO.q (Q.bin rfl (oc (v := .str [45, 48]) (by kernel_rfl)) rfl bv_seql) rfl ?_
      refine WO.q (Q.assign rfl) rfl ?_
      refine WO.nil ?_
      refine End.K ?_
      refine W.condDS rfl (fun hc23 => ?_) (fun hc23 => ?_)
      · skip -- FfT
        refine W.seq ?_
        refine W.reg ?_
        refine WO.q (Q.assign (oc (v := .int .i64 ((0 : Nat) : Int)) rfl)) rfl ?_
        refine WO.q (Q.assign (oc (v := .int .i64 ((14 : Nat) : Int)) rfl)) rfl ?_
        refine WO.nil ?_
        refine End.K ?_
        refine W.sub (SubS.cons (k := 3) rfl (SubS.cons (k := 2) rfl (SubS.nil _))) ?_
        refine W.ret ?_
        refine End.KB_ret (End.K_ret (End.retV (ResL.tmp rfl (ResL.tmp rfl ResL.nil)) ?_))
        exact fix_leaf (by simp_all [fixV] <;> (repeat' split) <;> first | rfl | omega)
      · skip -- FfF
        refine W.seq ?_
        refine W.reg ?_
        refine WO.q (Q.move rfl) rfl ?_
        refine WO.q (Q.move rfl) rfl ?_
        refine WO.split (d := 39) rfl (fun hc39 => ?_) (fun hc39 => ?_)
        · skip -- FfFt
          refine WO.gT rfl rfl ?_
          refine WO.q (Q.move rfl) rfl ?_
          refine WO.gT rfl rfl ?_
          refine WO.callV rfl (oLs_cons rfl oLs_nil) rfl (plain_spec _ (by assumption) (by first | omega | (simp only [List.length_drop, List.length_take, List.length_append, List.length_cons, List.length_nil] at *; omega))) SubR.nil rfl ?_
          refine WO.gT rfl rfl ?_
          refine WO.q (Q.not rfl rfl) rfl ?_
          refine WO.gT rfl rfl ?_
          refine WO.q (Q.move rfl) rfl ?_
          refine WO.split (d := 43) rfl (fun hc43 => ?_) (fun hc43 => ?_)
          · skip -- FfFtt
            refine WO.gF rfl rfl (.inl rfl) rfl ?_
            refine WO.gF rfl rfl (.inl rfl) rfl ?_
            refine WO.gF rfl rfl (.inl rfl) rfl ?_
            refine WO.gT rfl rfl ?_
            refine WO.q (Q.pickT rfl rfl) rfl ?_
            refine WO.gT rfl rfl ?_
            refine WO.q (Q.move rfl) rfl ?_
            refine WO.gF rfl rfl (.inl rfl) rfl ?_
            refine WO.gF rfl rfl (.inl rfl) rfl ?_
            refine WO.gF rfl rfl (.inl rfl) rfl ?_
            refine WO.gF rfl rfl (.inl rfl) rfl ?_
            refine WO.gF rfl rfl (.inl rfl) rfl ?_
            refine WO.gF rfl rfl (.inl rfl) rfl ?_
            refine WO.gT rfl rfl ?_
            refine WO.q (Q.pickT rfl rfl) rfl ?_
            refine WO.q (Q.pickT rfl rfl) rfl ?_
            refine WO.q (Q.assign rfl) rfl ?_
            refine WO.nil ?_
            refine End.K ?_
            refine W.sub (SubS.cons (k := 37) rfl (SubS.cons (k := 7) rfl (SubS.cons (k := 6) rfl (SubS.cons (k := 5) rfl (SubS.nil _))))) ?_
            refine W.condT rfl ?_
            refine W.seq ?_
            refine W.reg ?_
            refine WO.q (Q.assign (oc (v := .int .i64 ((0 : Nat) : Int)) rfl)) rfl ?_
            refine WO.q (Q.assign (oc (v := .int .i64 ((14 : Nat) : Int)) rfl)) rfl ?_
            refine WO.nil ?_
            refine End.K ?_
            refine W.ret ?_
            refine End.KB_ret (End.K_ret (End.retV (ResL.tmp rfl (ResL.tmp rfl ResL.nil)) ?_))
            exact fix_leaf (by simp_all [fixV] <;> (repeat' split) <;> first | rfl | omega)
          · skip -- FfFtf
            try have hpos := plainB_pos hc43
            refine WO.gT rfl rfl ?_
            refine WO.q (Q.move rfl) rfl ?_
            refine WO.gT rfl rfl ?_
            refine WO.q (Q.len ud9 rfl rfl) rfl ?_
            refine WO.gT rfl rfl ?_
            refine WO.q (Q.bin rfl (oc (v := .int .i64 ((6 : Nat) : Int)) rfl) rfl (bv_gtr lt_nat)) rfl ?_
            refine WO.gT rfl rfl ?_
            refine WO.q (Q.pickF rfl rfl) rfl ?_
            refine WO.gT rfl rfl ?_
            refine WO.q (Q.move rfl) rfl ?_
            refine WO.splitD (d := 48) rfl (fun hc48 => ?_) (fun hc48 => ?_)
            · skip -- FfFtft
              refine WO.gF rfl rfl (.inl rfl) rfl ?_
              refine WO.gF rfl rfl (.inl rfl) rfl ?_
              refine WO.gF rfl rfl (.inl rfl) rfl ?_
              refine WO.gF rfl rfl (.inl rfl) rfl ?_
              refine WO.gF rfl rfl (.inl rfl) rfl ?_
              refine WO.gF rfl rfl (.inl rfl) rfl ?_
              refine WO.gT rfl rfl ?_
              refine WO.q (Q.pickT rfl rfl) rfl ?_
              refine WO.q (Q.pickT rfl rfl) rfl ?_
              refine WO.q (Q.assign rfl) rfl ?_
              refine WO.nil ?_
              refine End.K ?_
              refine W.sub (SubS.cons (k := 37) rfl (SubS.cons (k := 7) rfl (SubS.cons (k := 6) rfl (SubS.cons (k := 5) rfl (SubS.nil _))))) ?_
              refine W.condT rfl ?_
              refine W.seq ?_
              refine W.reg ?_
              refine WO.q (Q.assign (oc (v := .int .i64 ((0 : Nat) : Int)) rfl)) rfl ?_
              refine WO.q (Q.assign (oc (v := .int .i64 ((14 : Nat) : Int)) rfl)) rfl ?_
              refine WO.nil ?_
              refine End.K ?_
              refine W.ret ?_
              refine End.KB_ret (End.K_ret (End.retV (ResL.tmp rfl (ResL.tmp rfl ResL.nil)) ?_))
              exact fix_leaf (by simp_all [fixV] <;> (repeat' split) <;> first | rfl | omega)
            · skip -- FfFtff
              refine WO.gT rfl rfl ?_
              refine WO.q (Q.move rfl) rfl ?_
              refine WO.gT rfl rfl ?_
              refine WO.q (Q.move rfl) rfl ?_
              refine WO.gT rfl rfl ?_
              refine WO.q (Q.len ud9 rfl rfl) rfl ?_
              refine WO.gT rfl rfl ?_
              refine WO.q (Q.bin rfl (oc (v := .int .i64 ((1 : Nat) : Int)) rfl) rfl (bv_sub (wn_sub (by first | omega | (simp only [List.length_drop, List.length_take, List.length_append, List.length_cons, List.length_nil] at *; omega))))) rfl ?_
              refine WO.gT rfl rfl ?_
              refine WO.indexB hr ud9 rfl rfl (by first | omega | (simp only [List.length_drop, List.length_take, List.length_append, List.length_cons, List.length_nil] at *; omega)) rfl (fun c53 hd53 hb53 => ?_)
              refine WO.gT rfl rfl ?_
              refine WO.q (Q.bin rfl (oc (v := .int .u8 ((48 : Nat) : Int)) rfl) rfl (bv_eql eq_nat)) rfl ?_
              refine WO.gT rfl rfl ?_
              refine WO.q (Q.pickF rfl rfl) rfl ?_
              refine WO.q (Q.pickT rfl rfl) rfl ?_
              refine WO.q (Q.assign rfl) rfl ?_
              refine WO.nil ?_
              refine End.K ?_
              refine W.sub (SubS.cons (k := 37) rfl (SubS.cons (k := 7) rfl (SubS.cons (k := 6) rfl (SubS.cons (k := 5) rfl (SubS.nil _))))) ?_
              refine W.condDS rfl (fun hc37 => ?_) (fun hc37 => ?_)
              · skip -- FfFtffT
                refine W.seq ?_
                refine W.reg ?_
                refine WO.q (Q.assign (oc (v := .int .i64 ((0 : Nat) : Int)) rfl)) rfl ?_
                refine WO.q (Q.assign (oc (v := .int .i64 ((14 : Nat) : Int)) rfl)) rfl ?_
                refine WO.nil ?_
                refine End.K ?_
                refine W.ret ?_
                refine End.KB_ret (End.K_ret (End.retV (ResL.tmp rfl (ResL.tmp rfl ResL.nil)) ?_))
                exact fix_leaf (by simp_all [fixV] <;> (repeat' split) <;> first | rfl | omega)
              · skip -- FfFtffF
                refine W.seq ?_
                refine W.reg ?_
                refine WO.q (Q.move rfl) rfl ?_
                refine WO.q (Q.len ud9 rfl rfl) rfl ?_
                refine WO.q (Q.bin rfl (oc (v := .int .i64 ((13 : Nat) : Int)) rfl) rfl (bv_gtr lt_nat)) rfl ?_
                refine WO.q (Q.assign rfl) rfl ?_
                refine WO.nil ?_
                refine End.K ?_
                refine W.condDS rfl (fun hc57 => ?_) (fun hc57 => ?_)
                · skip -- FfFtffFT
                  refine W.seq ?_
                  refine W.reg ?_
                  refine WO.q (Q.assign (oc (v := .int .i64 ((0 : Nat) : Int)) rfl)) rfl ?_
                  refine WO.q (Q.assign (oc (v := .int .i64 ((11 : Nat) : Int)) rfl)) rfl ?_
                  refine WO.nil ?_
                  refine End.K ?_
                  refine W.sub (SubS.cons (k := 3) rfl (SubS.cons (k := 2) rfl (SubS.nil _))) ?_
                  refine W.ret ?_
                  refine End.KB_ret (End.K_ret (End.retV (ResL.tmp rfl (ResL.tmp rfl ResL.nil)) ?_))
                  exact fix_leaf (by simp_all [fixV] <;> (repeat' split) <;> first | rfl | omega)
                · skip -- FfFtffFF
                  refine W.skip ?_
                  refine End.KB (End.K ?_)
                  refine W.seq ?_
                  refine W.reg ?_
                  refine WO.q (Q.assign (oc (v := .int .i64 ((0 : Nat) : Int)) rfl)) rfl ?_
                  refine WO.nil ?_
                  refine End.K ?_
                  refine W.seq ?_
                  refine W.seq ?_
                  refine W.reg ?_
                  refine WO.q (Q.move rfl) rfl ?_
                  refine WO.q (Q.len ud9 rfl rfl) rfl ?_
                  refine WO.q (Q.move (oc (v := .int .i64 ((0 : Nat) : Int)) rfl)) rfl ?_
                  refine WO.nil ?_
                  refine End.K ?_
                  refine W.sub (SubS.cons (k := 63) rfl (SubS.cons (k := 62) rfl (SubS.cons (k := 9) rfl (SubS.cons (k := 7) rfl (SubS.cons (k := 6) rfl (SubS.cons (k := 5) rfl (SubS.nil _))))))) ?_
                  refine W.block ?_
                  refine W.loop_ind (fun (i : Nat) => [(5, .bool m), (6, .str whole), (7, .str rest), (9, .int .i64 (whN whole i)), (62, .int .i64 ((whole.length : Nat) : Int)), (63, .int .i64 ((i : Nat) : Int))]) (fun _ => _) (fun (i : Nat) => i ≤ whole.length) (fun (i : Nat) => whole.length - i) (0) (by first | omega | (simp only [List.length_drop, List.length_take, List.length_append, List.length_cons, List.length_nil] at *; omega)) (SubS.cons rfl (SubS.cons rfl (SubS.cons rfl (SubS.cons rfl (SubS.cons rfl (SubS.cons rfl (SubS.nil _))))))) (SubH.refl _) (fun i hI0 ih0 => ?_)
                  have h1 : i ≤ whole.length := hI0
                  refine W.seq ?_
                  refine W.reg ?_
                  refine WO.q (Q.bin rfl rfl rfl (bv_lss lt_nat)) rfl ?_
                  refine WO.nil ?_
                  refine End.K ?_
                  refine W.seq ?_
                  refine W.condDS rfl (fun hc64 => ?_) (fun hc64 => ?_)
                  · skip -- FfFtffFFL0T
                    refine W.skip ?_
                    refine End.K ?_
                    refine W.seq ?_
                    refine W.block ?_
                    refine W.seq ?_
                    refine W.reg ?_
                    refine WO.q (Q.move rfl) rfl ?_
                    refine WO.q (Q.assign rfl) rfl ?_
                    refine WO.nil ?_
                    refine End.K ?_
                    refine W.reg ?_
                    refine WO.q (Q.move rfl) rfl ?_
                    refine WO.q (Q.bin (oc (v := .int .i64 ((10 : Nat) : Int)) rfl) rfl rfl (bv_mul rfl)) rfl ?_
                    refine WO.q (Q.move rfl) rfl ?_
                    refine WO.q (Q.move rfl) rfl ?_
                    refine WO.indexB hw ud9 rfl rfl (by first | omega | (simp only [List.length_drop, List.length_take, List.length_append, List.length_cons, List.length_nil] at *; omega)) rfl (fun c70 hd70 hb70 => ?_)
                    refine WO.q (Q.bin rfl (oc (v := .int .u8 ((48 : Nat) : Int)) rfl) rfl (bv_sub rfl)) rfl ?_
                    refine WO.q (Q.convI ud5 ud3 rfl rfl) rfl ?_
                    refine WO.q (Q.bin rfl rfl rfl (bv_add rfl)) rfl ?_
                    refine WO.q (Q.assign rfl) rfl ?_
                    refine WO.nil ?_
                    refine End.KB (End.K ?_)
                    refine W.sub (SubS.cons (k := 9) rfl (SubS.cons (k := 5) rfl (SubS.cons (k := 6) rfl (SubS.cons (k := 7) rfl (SubS.cons (k := 62) rfl (SubS.cons (k := 63) rfl (SubS.nil _))))))) ?_
                    refine W.reg ?_
                    refine WO.q (Q.bin rfl (oc (v := .int .i64 ((1 : Nat) : Int)) rfl) rfl (bv_add (wn_add (by first | omega | (simp only [List.length_drop, List.length_take, List.length_append, List.length_cons, List.length_nil] at *; omega))))) rfl ?_
                    refine WO.q (Q.move rfl) rfl ?_
                    refine WO.nil ?_
                    refine End.KL ?_
                    subst hd70
                    refine W.sub (SubS.cons rfl (SubS.cons rfl (SubS.cons rfl (SubS.cons rfl (SubS.cons rfl (SubS.cons rfl (SubS.nil _))))))) (ih0 (i + 1) ?_ ?_)
                    · exact (by omega)
                    · exact (by first | omega | (simp only [List.length_drop, List.length_take, List.length_append, List.length_cons, List.length_nil] at *; omega))
                  · skip -- FfFtffFFL0F
                    have hi : i = whole.length := by omega
                    subst hi
                    refine W.exit ?_
                    refine End.K_exit (End.KL_exit (End.KB_hit (End.K ?_)))
                    refine W.seq ?_
                    refine W.seq ?_
                    refine W.reg ?_
                    refine WO.q (Q.move (oc (v := .int .i64 ((0 : Nat) : Int)) rfl)) rfl ?_
                    refine WO.nil ?_
                    refine End.K ?_
                    refine W.block ?_
                    refine W.loop_ind (fun (i : Nat) => [(5, .bool m), (7, .str rest), (9, .int .i64 (frN rest (whN whole whole.length) i)), (75, .int .i64 ((i : Nat) : Int))]) (fun _ => _) (fun (i : Nat) => i ≤ 6) (fun (i : Nat) => 6 - i) (0) (by omega) (SubS.cons rfl (SubS.cons rfl (SubS.cons rfl (SubS.cons rfl (SubS.nil _))))) (SubH.refl _) (fun i hI1 ih1 => ?_)
                    have h1 : i ≤ 6 := hI1
                    refine W.seq ?_
                    refine W.reg ?_
                    refine WO.q (Q.bin rfl (oc (v := .int .i64 ((6 : Nat) : Int)) rfl) rfl (bv_lss lt_nat)) rfl ?_
                    refine WO.nil ?_
                    refine End.K ?_
                    refine W.seq ?_
                    refine W.condDS rfl (fun hc76 => ?_) (fun hc76 => ?_)
                    · skip -- FfFtffFFL0FL1T
                      refine W.skip ?_
                      refine End.K ?_
                      refine W.seq ?_
                      refine W.block ?_
                      refine W.seq ?_
                      refine W.reg ?_
                      refine WO.q (Q.move rfl) rfl ?_
                      refine WO.q (Q.assign rfl) rfl ?_
                      refine WO.nil ?_
                      refine End.K ?_
                      refine W.seq ?_
                      refine W.reg ?_
                      refine WO.q (Q.move rfl) rfl ?_
                      refine WO.q (Q.bin rfl (oc (v := .int .i64 ((10 : Nat) : Int)) rfl) rfl (bv_mul rfl)) rfl ?_
                      refine WO.q (Q.assign rfl) rfl ?_
                      refine WO.nil ?_
                      refine End.K ?_
                      refine W.seq ?_
                      refine W.reg ?_
                      refine WO.q (Q.move rfl) rfl ?_
                      refine WO.q (Q.move rfl) rfl ?_
                      refine WO.q (Q.len ud9 rfl rfl) rfl ?_
                      refine WO.q (Q.bin rfl rfl rfl (bv_lss lt_nat)) rfl ?_
                      refine WO.nil ?_
                      refine End.K ?_
                      refine W.sub (SubS.cons (k := 83) rfl (SubS.cons (k := 9) rfl (SubS.cons (k := 11) rfl (SubS.cons (k := 5) rfl (SubS.cons (k := 7) rfl (SubS.cons (k := 75) rfl (SubS.nil _))))))) ?_
                      refine W.condDS rfl (fun hc83 => ?_) (fun hc83 => ?_)
                      · skip -- FfFtffFFL0FL1TT
                        refine W.reg ?_
                        refine WO.q (Q.move rfl) rfl ?_
                        refine WO.q (Q.move rfl) rfl ?_
                        refine WO.q (Q.move rfl) rfl ?_
                        refine WO.indexB hr ud9 rfl rfl (by first | omega | (simp only [List.length_drop, List.length_take, List.length_append, List.length_cons, List.length_nil] at *; omega)) rfl (fun c87 hd87 hb87 => ?_)
                        refine WO.q (Q.bin rfl (oc (v := .int .u8 ((48 : Nat) : Int)) rfl) rfl (bv_sub rfl)) rfl ?_
                        refine WO.q (Q.convI ud5 ud3 rfl rfl) rfl ?_
                        refine WO.q (Q.bin rfl rfl rfl (bv_add rfl)) rfl ?_
                        refine WO.q (Q.assign rfl) rfl ?_
                        refine WO.nil ?_
                        refine End.KB (End.K ?_)
                        refine W.sub (SubS.cons (k := 9) rfl (SubS.cons (k := 5) rfl (SubS.cons (k := 7) rfl (SubS.cons (k := 75) rfl (SubS.nil _))))) ?_
                        refine W.reg ?_
                        refine WO.q (Q.bin rfl (oc (v := .int .i64 ((1 : Nat) : Int)) rfl) rfl (bv_add (wn_add (by first | omega | (simp only [List.length_drop, List.length_take, List.length_append, List.length_cons, List.length_nil] at *; omega))))) rfl ?_
                        refine WO.q (Q.move rfl) rfl ?_
                        refine WO.nil ?_
                        refine End.KL ?_
                        subst hd87
                        refine W.sub (SubS.cons rfl (SubS.cons rfl (SubS.cons (by rw [frN_lt (by assumption)]; rfl) (SubS.cons rfl (SubS.nil _))))) (ih1 (i + 1) ?_ ?_)
                        · exact (by first | omega | (simp only [List.length_drop, List.length_take, List.length_append, List.length_cons, List.length_nil] at *; omega))
                        · exact (by first | omega | (simp only [List.length_drop, List.length_take, List.length_append, List.length_cons, List.length_nil] at *; omega))
                      · skip -- FfFtffFFL0FL1TF
                        refine W.skip ?_
                        refine End.KB (End.K ?_)
                        refine W.reg ?_
                        refine WO.q (Q.bin rfl (oc (v := .int .i64 ((1 : Nat) : Int)) rfl) rfl (bv_add (wn_add (by first | omega | (simp only [List.length_drop, List.length_take, List.length_append, List.length_cons, List.length_nil] at *; omega))))) rfl ?_
                        refine WO.q (Q.move rfl) rfl ?_
                        refine WO.nil ?_
                        refine End.KL ?_
                        refine W.sub (SubS.cons rfl (SubS.cons rfl (SubS.cons (by rw [frN_ge (by omega)]; rfl) (SubS.cons rfl (SubS.nil _))))) (ih1 (i + 1) ?_ ?_)
                        · exact (by first | omega | (simp only [List.length_drop, List.length_take, List.length_append, List.length_cons, List.length_nil] at *; omega))
                        · exact (by first | omega | (simp only [List.length_drop, List.length_take, List.length_append, List.length_cons, List.length_nil] at *; omega))
                    · skip -- FfFtffFFL0FL1F
                      have hi : i = 6 := by omega
                      subst hi
                      refine W.exit ?_
                      refine End.K_exit (End.KL_exit (End.KB_hit (End.K ?_)))
                      refine W.seq ?_
                      refine W.seq ?_
                      refine W.reg ?_
                      refine WO.q (Q.move rfl) rfl ?_
                      refine WO.q (Q.bin rfl (oc (v := .int .i64 ((1152921504606846976 : Nat) : Int)) rfl) rfl (bv_gtr (ltA_eq _ _))) rfl ?_
                      refine WO.nil ?_
                      refine End.K ?_
                      refine W.condDS rfl (fun hc93 => ?_) (fun hc93 => ?_)
                      · skip -- FfFtffFFL0FL1FT
                        refine W.seq ?_
                        refine W.reg ?_
                        refine WO.q (Q.assign (oc (v := .int .i64 ((0 : Nat) : Int)) rfl)) rfl ?_
                        refine WO.q (Q.assign (oc (v := .int .i64 ((11 : Nat) : Int)) rfl)) rfl ?_
                        refine WO.nil ?_
                        refine End.K ?_
                        refine W.sub (SubS.cons (k := 3) rfl (SubS.cons (k := 2) rfl (SubS.nil _))) ?_
                        refine W.ret ?_
                        refine End.K_ret (End.retV (ResL.tmp rfl (ResL.tmp rfl ResL.nil)) ?_)
                        exact fix_leaf (by simp_all [fixV] <;> (repeat' split) <;> first | rfl | omega)
                      · skip -- FfFtffFFL0FL1FF
                        refine W.skip ?_
                        refine End.K ?_
                        refine W.seq ?_
                        refine W.seq ?_
                        refine W.reg ?_
                        refine WO.q (Q.move rfl) rfl ?_
                        refine WO.nil ?_
                        refine End.K ?_
                        refine W.sub (SubS.cons (k := 94) rfl (SubS.cons (k := 9) rfl (SubS.nil _))) ?_
                        refine W.condS rfl (fun hc94 => ?_) (fun hc94 => ?_)
                        · skip -- FfFtffFFL0FL1FFT
                          refine W.reg ?_
                          refine WO.q (Q.move rfl) rfl ?_
                          refine WO.q (Q.neg rfl rfl) rfl ?_
                          refine WO.q (Q.assign rfl) rfl ?_
                          refine WO.nil ?_
                          refine End.K ?_
                          refine W.seq ?_
                          refine W.reg ?_
                          refine WO.q (Q.move rfl) rfl ?_
                          refine WO.q (Q.assign rfl) rfl ?_
                          refine WO.q (Q.assign (oc (v := .int .i64 ((0 : Nat) : Int)) rfl)) rfl ?_
                          refine WO.nil ?_
                          refine End.K ?_
                          refine W.ret ?_
                          refine End.retV (ResL.tmp rfl (ResL.tmp rfl ResL.nil)) ?_
                          exact fix_leaf (by simp_all [fixV] <;> (repeat' split) <;> first | rfl | omega)
                        · skip -- FfFtffFFL0FL1FFF
                          refine W.skip ?_
                          refine End.K ?_
                          refine W.seq ?_
                          refine W.reg ?_
                          refine WO.q (Q.move rfl) rfl ?_
                          refine WO.q (Q.assign rfl) rfl ?_
                          refine WO.q (Q.assign (oc (v := .int .i64 ((0 : Nat) : Int)) rfl)) rfl ?_
                          refine WO.nil ?_
                          refine End.K ?_
                          refine W.ret ?_
                          refine End.retV (ResL.tmp rfl (ResL.tmp rfl ResL.nil)) ?_
                          exact fix_leaf (by simp_all [fixV] <;> (repeat' split) <;> first | rfl | omega)
        · skip -- FfFf
          refine WO.gF rfl rfl (.inl rfl) rfl ?_
          refine WO.gF rfl rfl (.inl rfl) rfl ?_
          refine WO.gF rfl rfl (.inl rfl) rfl ?_
          refine WO.gF rfl rfl (.inl rfl) rfl ?_
          refine WO.gF rfl rfl (.inr rfl) rfl ?_
          refine WO.gF rfl rfl (.inr rfl) rfl ?_
          refine WO.gF rfl rfl (.inr rfl) rfl ?_
          refine WO.gF rfl rfl (.inl rfl) rfl ?_
          refine WO.gF rfl rfl (.inl rfl) rfl ?_
          refine WO.gF rfl rfl (.inr rfl) rfl ?_
          refine WO.gF rfl rfl (.inr rfl) rfl ?_
          refine WO.gF rfl rfl (.inr rfl) rfl ?_
          refine WO.gF rfl rfl (.inr rfl) rfl ?_
          refine WO.gF rfl rfl (.inr rfl) rfl ?_
          refine WO.gF rfl rfl (.inr rfl) rfl ?_
          refine WO.gF rfl rfl (.inl rfl) rfl ?_
          refine WO.q (Q.pickF rfl rfl) rfl ?_
          refine WO.q (Q.assign rfl) rfl ?_
          refine WO.nil ?_
          refine End.K ?_
          refine W.sub (SubS.cons (k := 37) rfl (SubS.cons (k := 7) rfl (SubS.cons (k := 6) rfl (SubS.cons (k := 5) rfl (SubS.nil _))))) ?_
          refine W.condF rfl ?_
          refine W.seq ?_
          refine W.reg ?_
          refine WO.q (Q.move rfl) rfl ?_
          refine WO.q (Q.len ud9 rfl rfl) rfl ?_
          refine WO.q (Q.bin rfl (oc (v := .int .i64 ((13 : Nat) : Int)) rfl) rfl (bv_gtr lt_nat)) rfl ?_
          refine WO.q (Q.assign rfl) rfl ?_
          refine WO.nil ?_
          refine End.K ?_
          refine W.condDS rfl (fun hc57 => ?_) (fun hc57 => ?_)
          · skip -- FfFfT
            refine W.seq ?_
            refine W.reg ?_
            refine WO.q (Q.assign (oc (v := .int .i64 ((0 : Nat) : Int)) rfl)) rfl ?_
            refine WO.q (Q.assign (oc (v := .int .i64 ((11 : Nat) : Int)) rfl)) rfl ?_
            refine WO.nil ?_
            refine End.K ?_
            refine W.sub (SubS.cons (k := 3) rfl (SubS.cons (k := 2) rfl (SubS.nil _))) ?_
            refine W.ret ?_
            refine End.KB_ret (End.K_ret (End.retV (ResL.tmp rfl (ResL.tmp rfl ResL.nil)) ?_))
            exact fix_leaf (by simp_all [fixV] <;> (repeat' split) <;> first | rfl | omega)
          · skip -- FfFfF
            refine W.skip ?_
            refine End.KB (End.K ?_)
            refine W.seq ?_
            refine W.reg ?_
            refine WO.q (Q.assign (oc (v := .int .i64 ((0 : Nat) : Int)) rfl)) rfl ?_
            refine WO.nil ?_
            refine End.K ?_
            refine W.seq ?_
            refine W.seq ?_
            refine W.reg ?_
            refine WO.q (Q.move rfl) rfl ?_
            refine WO.q (Q.len ud9 rfl rfl) rfl ?_
            refine WO.q (Q.move (oc (v := .int .i64 ((0 : Nat) : Int)) rfl)) rfl ?_
            refine WO.nil ?_
            refine End.K ?_
            refine W.sub (SubS.cons (k := 63) rfl (SubS.cons (k := 62) rfl (SubS.cons (k := 9) rfl (SubS.cons (k := 7) rfl (SubS.cons (k := 6) rfl (SubS.cons (k := 5) rfl (SubS.nil _))))))) ?_
            refine W.block ?_
            refine W.loop_ind (fun (i : Nat) => [(5, .bool m), (6, .str whole), (7, .str rest), (9, .int .i64 (whN whole i)), (62, .int .i64 ((whole.length : Nat) : Int)), (63, .int .i64 ((i : Nat) : Int))]) (fun _ => _) (fun (i : Nat) => i ≤ whole.length) (fun (i : Nat) => whole.length - i) (0) (by first | omega | (simp only [List.length_drop, List.length_take, List.length_append, List.length_cons, List.length_nil] at *; omega)) (SubS.cons rfl (SubS.cons rfl (SubS.cons rfl (SubS.cons rfl (SubS.cons rfl (SubS.cons rfl (SubS.nil _))))))) (SubH.refl _) (fun i hI0 ih0 => ?_)
            have h1 : i ≤ whole.length := hI0
            refine W.seq ?_
            refine W.reg ?_
            refine WO.q (Q.bin rfl rfl rfl (bv_lss lt_nat)) rfl ?_
            refine WO.nil ?_
            refine End.K ?_
            refine W.seq ?_
            refine W.condDS rfl (fun hc64 => ?_) (fun hc64 => ?_)
            · skip -- FfFfFL0T
              refine W.skip ?_
              refine End.K ?_
              refine W.seq ?_
              refine W.block ?_
              refine W.seq ?_
              refine W.reg ?_
              refine WO.q (Q.move rfl) rfl ?_
              refine WO.q (Q.assign rfl) rfl ?_
              refine WO.nil ?_
              refine End.K ?_
              refine W.reg ?_
              refine WO.q (Q.move rfl) rfl ?_
              refine WO.q (Q.bin (oc (v := .int .i64 ((10 : Nat) : Int)) rfl) rfl rfl (bv_mul rfl)) rfl ?_
              refine WO.q (Q.move rfl) rfl ?_
              refine WO.q (Q.move rfl) rfl ?_
              refine WO.indexB hw ud9 rfl rfl (by first | omega | (simp only [List.length_drop, List.length_take, List.length_append, List.length_cons, List.length_nil] at *; omega)) rfl (fun c70 hd70 hb70 => ?_)
              refine WO.q (Q.bin rfl (oc (v := .int .u8 ((48 : Nat) : Int)) rfl) rfl (bv_sub rfl)) rfl ?_
              refine WO.q (Q.convI ud5 ud3 rfl rfl) rfl ?_
              refine WO.q (Q.bin rfl rfl rfl (bv_add rfl)) rfl ?_
              refine WO.q (Q.assign rfl) rfl ?_
              refine WO.nil ?_
              refine End.KB (End.K ?_)
              refine W.sub (SubS.cons (k := 9) rfl (SubS.cons (k := 5) rfl (SubS.cons (k := 6) rfl (SubS.cons (k := 7) rfl (SubS.cons (k := 62) rfl (SubS.cons (k := 63) rfl (SubS.nil _))))))) ?_
              refine W.reg ?_
              refine WO.q (Q.bin rfl (oc (v := .int .i64 ((1 : Nat) : Int)) rfl) rfl (bv_add (wn_add (by first | omega | (simp only [List.length_drop, List.length_take, List.length_append, List.length_cons, List.length_nil] at *; omega))))) rfl ?_
              refine WO.q (Q.move rfl) rfl ?_
              refine WO.nil ?_
              refine End.KL ?_
              subst hd70
              refine W.sub (SubS.cons rfl (SubS.cons rfl (SubS.cons rfl (SubS.cons rfl (SubS.cons rfl (SubS.cons rfl (SubS.nil _))))))) (ih0 (i + 1) ?_ ?_)
              · exact (by omega)
              · exact (by first | omega | (simp only [List.length_drop, List.length_take, List.length_append, List.length_cons, List.length_nil] at *; omega))
            · skip -- FfFfFL0F
              have hi : i = whole.length := by omega
              subst hi
              refine W.exit ?_
              refine End.K_exit (End.KL_exit (End.KB_hit (End.K ?_)))
              refine W.seq ?_
              refine W.seq ?_
              refine W.reg ?_
              refine WO.q (Q.move (oc (v := .int .i64 ((0 : Nat) : Int)) rfl)) rfl ?_
              refine WO.nil ?_
              refine End.K ?_
              refine W.block ?_
              refine W.loop_ind (fun (i : Nat) => [(5, .bool m), (7, .str rest), (9, .int .i64 (frN rest (whN whole whole.length) i)), (75, .int .i64 ((i : Nat) : Int))]) (fun _ => _) (fun (i : Nat) => i ≤ 6) (fun (i : Nat) => 6 - i) (0) (by omega) (SubS.cons rfl (SubS.cons rfl (SubS.cons rfl (SubS.cons rfl (SubS.nil _))))) (SubH.refl _) (fun i hI1 ih1 => ?_)
              have h1 : i ≤ 6 := hI1
              refine W.seq ?_
              refine W.reg ?_
              refine WO.q (Q.bin rfl (oc (v := .int .i64 ((6 : Nat) : Int)) rfl) rfl (bv_lss lt_nat)) rfl ?_
              refine WO.nil ?_
              refine End.K ?_
              refine W.seq ?_
              refine W.condDS rfl (fun hc76 => ?_) (fun hc76 => ?_)
              · skip -- FfFfFL0FL1T
                refine W.skip ?_
                refine End.K ?_
                refine W.seq ?_
                refine W.block ?_
                refine W.seq ?_
                refine W.reg ?_
                refine WO.q (Q.move rfl) rfl ?_
                refine WO.q (Q.assign rfl) rfl ?_
                refine WO.nil ?_
                refine End.K ?_
                refine W.seq ?_
                refine W.reg ?_
                refine WO.q (Q.move rfl) rfl ?_
                refine WO.q (Q.bin rfl (oc (v := .int .i64 ((10 : Nat) : Int)) rfl) rfl (bv_mul rfl)) rfl ?_
                refine WO.q (Q.assign rfl) rfl ?_
                refine WO.nil ?_
                refine End.K ?_
                refine W.seq ?_
                refine W.reg ?_
                refine WO.q (Q.move rfl) rfl ?_
                refine WO.q (Q.move rfl) rfl ?_
                refine WO.q (Q.len ud9 rfl rfl) rfl ?_
                refine WO.q (Q.bin rfl rfl rfl (bv_lss lt_nat)) rfl ?_
                refine WO.nil ?_
                refine End.K ?_
                refine W.sub (SubS.cons (k := 83) rfl (SubS.cons (k := 9) rfl (SubS.cons (k := 11) rfl (SubS.cons (k := 5) rfl (SubS.cons (k := 7) rfl (SubS.cons (k := 75) rfl (SubS.nil _))))))) ?_
                refine W.condDS rfl (fun hc83 => ?_) (fun hc83 => ?_)
                · skip -- FfFfFL0FL1TT
                  refine W.reg ?_
                  refine WO.q (Q.move rfl) rfl ?_
                  refine WO.q (Q.move rfl) rfl ?_
                  refine WO.q (Q.move rfl) rfl ?_
                  refine WO.indexB hr ud9 rfl rfl (by first | omega | (simp only [List.length_drop, List.length_take, List.length_append, List.length_cons, List.length_nil] at *; omega)) rfl (fun c87 hd87 hb87 => ?_)
                  refine WO.q (Q.bin rfl (oc (v := .int .u8 ((48 : Nat) : Int)) rfl) rfl (bv_sub rfl)) rfl ?_
                  refine WO.q (Q.convI ud5 ud3 rfl rfl) rfl ?_
                  refine WO.q (Q.bin rfl rfl rfl (bv_add rfl)) rfl ?_
                  refine WO.q (Q.assign rfl) rfl ?_
                  refine WO.nil ?_
                  refine End.KB (End.K ?_)
                  refine W.sub (SubS.cons (k := 9) rfl (SubS.cons (k := 5) rfl (SubS.cons (k := 7) rfl (SubS.cons (k := 75) rfl (SubS.nil _))))) ?_
                  refine W.reg ?_
                  refine WO.q (Q.bin rfl (oc (v := .int .i64 ((1 : Nat) : Int)) rfl) rfl (bv_add (wn_add (by first | omega | (simp only [List.length_drop, List.length_take, List.length_append, List.length_cons, List.length_nil] at *; omega))))) rfl ?_
                  refine WO.q (Q.move rfl) rfl ?_
                  refine WO.nil ?_
                  refine End.KL ?_
                  subst hd87
                  refine W.sub (SubS.cons rfl (SubS.cons rfl (SubS.cons (by rw [frN_lt (by assumption)]; rfl) (SubS.cons rfl (SubS.nil _))))) (ih1 (i + 1) ?_ ?_)
                  · exact (by first | omega | (simp only [List.length_drop, List.length_take, List.length_append, List.length_cons, List.length_nil] at *; omega))
                  · exact (by first | omega | (simp only [List.length_drop, List.length_take, List.length_append, List.length_cons, List.length_nil] at *; omega))
                · skip -- FfFfFL0FL1TF
                  refine W.skip ?_
                  refine End.KB (End.K ?_)
                  refine W.reg ?_
                  refine WO.q (Q.bin rfl (oc (v := .int .i64 ((1 : Nat) : Int)) rfl) rfl (bv_add (wn_add (by first | omega | (simp only [List.length_drop, List.length_take, List.length_append, List.length_cons, List.length_nil] at *; omega))))) rfl ?_
                  refine WO.q (Q.move rfl) rfl ?_
                  refine WO.nil ?_
                  refine End.KL ?_
                  refine W.sub (SubS.cons rfl (SubS.cons rfl (SubS.cons (by rw [frN_ge (by omega)]; rfl) (SubS.cons rfl (SubS.nil _))))) (ih1 (i + 1) ?_ ?_)
                  · exact (by first | omega | (simp only [List.length_drop, List.length_take, List.length_append, List.length_cons, List.length_nil] at *; omega))
                  · exact (by first | omega | (simp only [List.length_drop, List.length_take, List.length_append, List.length_cons, List.length_nil] at *; omega))
              · skip -- FfFfFL0FL1F
                have hi : i = 6 := by omega
                subst hi
                refine W.exit ?_
                refine End.K_exit (End.KL_exit (End.KB_hit (End.K ?_)))
                refine W.seq ?_
                refine W.seq ?_
                refine W.reg ?_
                refine WO.q (Q.move rfl) rfl ?_
                refine WO.q (Q.bin rfl (oc (v := .int .i64 ((1152921504606846976 : Nat) : Int)) rfl) rfl (bv_gtr (ltA_eq _ _))) rfl ?_
                refine WO.nil ?_
                refine End.K ?_
                refine W.condDS rfl (fun hc93 => ?_) (fun hc93 => ?_)
                · skip -- FfFfFL0FL1FT
                  refine W.seq ?_
                  refine W.reg ?_
                  refine WO.q (Q.assign (oc (v := .int .i64 ((0 : Nat) : Int)) rfl)) rfl ?_
                  refine WO.q (Q.assign (oc (v := .int .i64 ((11 : Nat) : Int)) rfl)) rfl ?_
                  refine WO.nil ?_
                  refine End.K ?_
                  refine W.sub (SubS.cons (k := 3) rfl (SubS.cons (k := 2) rfl (SubS.nil _))) ?_
                  refine W.ret ?_
                  refine End.K_ret (End.retV (ResL.tmp rfl (ResL.tmp rfl ResL.nil)) ?_)
                  exact fix_leaf (by simp_all [fixV] <;> (repeat' split) <;> first | rfl | omega)
                · skip -- FfFfFL0FL1FF
                  refine W.skip ?_
                  refine End.K ?_
                  refine W.seq ?_
                  refine W.seq ?_
                  refine W.reg ?_
                  refine WO.q (Q.move rfl) rfl ?_
                  refine WO.nil ?_
                  refine End.K ?_
                  refine W.sub (SubS.cons (k := 94) rfl (SubS.cons (k := 9) rfl (SubS.nil _))) ?_
                  refine W.condS rfl (fun hc94 => ?_) (fun hc94 => ?_)
                  · skip -- FfFfFL0FL1FFT
                    refine W.reg ?_
                    refine WO.q (Q.move rfl) rfl ?_
                    refine WO.q (Q.neg rfl rfl) rfl ?_
                    refine WO.q (Q.assign rfl) rfl ?_
                    refine WO.nil ?_
                    refine End.K ?_
                    refine W.seq ?_
                    refine W.reg ?_
                    refine WO.q (Q.move rfl) rfl ?_
                    refine WO.q (Q.assign rfl) rfl ?_
                    refine WO.q (Q.assign (oc (v := .int .i64 ((0 : Nat) : Int)) rfl)) rfl ?_
                    refine WO.nil ?_
                    refine End.K ?_
                    refine W.ret ?_
                    refine End.retV (ResL.tmp rfl (ResL.tmp rfl ResL.nil)) ?_
                    exact fix_leaf (by simp_all [fixV] <;> (repeat' split) <;> first | rfl | omega)
                  · skip -- FfFfFL0FL1FFF
                    refine W.skip ?_
                    refine End.K ?_
                    refine W.seq ?_
                    refine W.reg ?_
                    refine WO.q (Q.move rfl) rfl ?_
                    refine WO.q (Q.assign rfl) rfl ?_
                    refine WO.q (Q.assign (oc (v := .int .i64 ((0 : Nat) : Int)) rfl)) rfl ?_
                    refine WO.nil ?_
                    refine End.K ?_
                    refine W.ret ?_
                    refine End.retV (ResL.tmp rfl (ResL.tmp rfl ResL.nil)) ?_
                    exact fix_leaf (by simp_all [fixV] <;> (repeat' split) <;> first | rfl | omega)
end Go.Proofs.YtdpcpnhkkedfcaaDoor.Ev
