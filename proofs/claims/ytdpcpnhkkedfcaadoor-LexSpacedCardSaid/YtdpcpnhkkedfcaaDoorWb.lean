/- Layer 15, walks: LexPlaces. -/
import Derived.Test.YtdpcpnhkkedfcaaDoorPb
namespace Go.Proofs.YtdpcpnhkkedfcaaDoor.Ev
open Go.RowKit
set_option linter.unusedVariables false
set_option linter.unusedSimpArgs false
set_option maxRecDepth 100000
theorem et28 : tab.et.get 28 = some true := by kernel_rfl
theorem und28 : tab.und 28 = some (.struct #[Field.mk "Kind" 3 0 false "" "" 0, Field.mk "Text" 9 1 false "" "" 8, Field.mk "N" 3 2 false "" "" 24, Field.mk "At" 3 3 false "" "" 32]) := by kernel_rfl
theorem eq_flat {tb : Tab} {d t : Nat} {k1 k2 : IntKind} {a b : Int} (hu : tb.und t = some (.int k1)) : eqIn tb (d + 1) t (.int k2 a) (.int k2 b) = some (eqA a b) := by
  unfold eqIn
  simp only [hu, if_pos]
theorem eq_flatS {tb : Tab} {d t : Nat} {a b : List Nat} (hu : tb.und t = some .string) : eqIn tb (d + 1) t (.str a) (.str b) = some (listBeq a b) := by
  unfold eqIn
  simp only [hu]
theorem part_flat {tb : Tab} {t : Nat} {cs : List AV} {o : Nat} {v : AV} (ha : tb.isAgg t = some false) (hc : cs[o]? = some v) : partA tb t cs o = some v := by
  unfold partA; simp only [ha, hc]
theorem eq_fields {tb : Tab} {rec_ : Nat → AV → AV → Option Bool} {xs ys : List AV} {f : Field} {fs : List Field} {a b : AV} {p q : Bool} (hn : decide (f.name = "_") = false) (hx : partA tb f.type xs f.offset = some a) (hy : partA tb f.type ys f.offset = some b)
    (hr : rec_ f.type a b = some p) (hf : eqFieldsA tb rec_ xs ys fs = some q) : eqFieldsA tb rec_ xs ys (f :: fs) = some (p && q) := by
  unfold eqFieldsA
  simp only [hn, hx, hy, hr]
  cases p
  · rfl
  · simpa using hf
/-- Likeness of tokens, part by part. -/
theorem tok_eq {k1 k2 n1 n2 a1 a2 : Int} {t1 t2 : List Nat} : eqTop tab 28 (.agg [.int .i64 k1, .str t1, .int .i64 n1, .int .i64 a1]) (.agg [.int .i64 k2, .str t2, .int .i64 n2, .int .i64 a2]) =
    some (eqA k1 k2 && (listBeq t1 t2 && (eqA n1 n2 && (eqA a1 a2 && true)))) := by
  unfold eqTop
  simp only [et28]
  unfold eqIn
  simp only [und28, et28]
  refine eq_fields rfl (part_flat ag3 rfl) (part_flat ag3 rfl) (eq_flat ud3) ?_
  refine eq_fields rfl (part_flat ag9 rfl) (part_flat ag9 rfl) (eq_flatS ud9) ?_
  refine eq_fields rfl (part_flat ag3 rfl) (part_flat ag3 rfl) (eq_flat ud3) ?_
  exact eq_fields rfl (part_flat ag3 rfl) (part_flat ag3 rfl) (eq_flat ud3) rfl
theorem eqA_self (a : Int) : eqA a a = true := by rw [eq_int]; simp
theorem tok_ne {s : List Nat} : evBin tab .neq 28 (.agg (tokC (endT s))) (.agg [.int .i64 ((6 : Nat) : Int), .str [], .int .i64 0, .int .i64 ((s.length : Nat) : Int)]) = some (.bool false) := by
  have h := tok_eq (k1 := ((6 : Nat) : Int)) (k2 := ((6 : Nat) : Int)) (t1 := []) (t2 := []) (n1 := 0) (n2 := 0) (a1 := ((s.length : Nat) : Int)) (a2 := ((s.length : Nat) : Int))
  rw [eqA_self, eqA_self, eqA_self] at h
  show (match eqTop tab 28 _ _ with | some b => some (AV.bool (!b)) | none => none) = _
  have e : tokC (endT s) = [.int .i64 ((6 : Nat) : Int), .str [], .int .i64 0, .int .i64 ((s.length : Nat) : Int)] := rfl
  rw [e, h]
  rfl
theorem lives_spec : Spec tab 8 [] [] [] (Val (.bool true)) := Spec.known fun _ => rfl
theorem empty_spec (s : List Nat) (hs : Bytes s) (hl : s.length ≤ 281474976710656) (h0 : scanM s = some []) : Spec tab 9 [.str s] [] [] (Val (.bool true)) := by
  refine Spec.enter' (ft_get 9 Tryd.func9) rfl (m := 26) rfl (rs := [.tmp 2]) rfl (st := [(0, .str s)]) rfl rfl (fun _ => rfl) (fun E => ?_)
  refine W.seq ?_
  refine W.reg ?_
  refine WO.q (Q.assign rfl) rfl ?_
  refine WO.nil ?_
  refine End.K ?_
  refine W.seq ?_
  refine W.reg ?_
  refine WO.q (Q.move rfl) rfl ?_
  rcases hsc : scanM s with _ | l
  · (rw [h0] at hsc; cases hsc)
  · skip -- s
    rw [h0] at hsc
    cases hsc
    have hsc := h0
    refine WO.call0 rfl (oLs_cons rfl oLs_nil) rfl (scan_spec _ hs (by first | omega | (simp only [List.length_drop, List.length_take, List.length_append, List.length_cons, List.length_nil] at *; omega))) SubR.nil rfl (fun v8 D8 hP8 => ?_)
    unfold scanP at hP8
    rw [hsc] at hP8
    obtain ⟨b, ex, rfl, rfl⟩ := hP8
    refine WO.q (Q.move rfl) rfl ?_
    refine WO.q (Q.extract rfl rfl) rfl ?_
    refine WO.q (Q.extract rfl rfl) rfl ?_
    refine WO.q (Q.extract rfl rfl) rfl ?_
    refine WO.q (Q.assign rfl) rfl ?_
    refine WO.q (Q.assign rfl) rfl ?_
    refine WO.q (Q.assign rfl) rfl ?_
    refine WO.nil ?_
    refine End.K ?_
    refine W.sub (SubS.cons (k := 5) rfl (SubS.cons (k := 3) rfl (SubS.nil _))) ?_
    refine W.seq ?_
    refine W.reg ?_
    refine WO.q (Q.move rfl) rfl ?_
    refine WO.q (Q.bin rfl (oc (v := .int .i64 ((0 : Nat) : Int)) rfl) rfl (bv_eql (p := true) rfl)) rfl ?_
    refine WO.q (Q.move rfl) rfl ?_
    refine WO.gT rfl rfl ?_
    refine WO.q (Q.move rfl) rfl ?_
    refine WO.gT rfl rfl ?_
    refine WO.q (Q.len ud22 rfl rfl) rfl ?_
    refine WO.gT rfl rfl ?_
    refine WO.q (Q.bin rfl (oc (v := .int .i64 ((1 : Nat) : Int)) rfl) rfl (bv_eql eq_nat)) rfl ?_
    refine WO.q (Q.pickT rfl rfl) rfl ?_
    refine WO.q (Q.move rfl) rfl ?_
    refine WO.splitD (d := 19) rfl (fun hc19 => ?_) (fun hc19 => ?_)
    · skip -- st
      refine WO.gT rfl rfl ?_
      refine WO.q (Q.move rfl) rfl ?_
      refine WO.gT rfl rfl ?_
      refine WO.q (Q.iaddrL ud22 sz28 rfl (oc (v := .int .i64 ((0 : Nat) : Int)) rfl) (by first | omega | (simp only [List.length_drop, List.length_take, List.length_append, List.length_cons, List.length_nil] at *; omega)) (o' := 0) rfl) rfl ?_
      refine WO.gT rfl rfl ?_
      refine WO.q (Q.fieldAddr fa28_0 rfl (o' := 0) rfl) rfl ?_
      refine WO.gT rfl rfl ?_
      refine WO.q (Q.load1 rfl (mem_at (i := 0) rfl) ag3 (tokc0 (i := 0) (by first | omega | (simp only [List.length_drop, List.length_take, List.length_append, List.length_cons, List.length_nil] at *; omega)))) rfl ?_
      refine WO.gT rfl rfl ?_
      refine WO.q (Q.bin rfl (oc (v := .int .i64 ((6 : Nat) : Int)) rfl) rfl (bv_eql eq_int)) rfl ?_
      refine WO.q (Q.pickT rfl rfl) rfl ?_
      refine WO.q (Q.assign rfl) rfl ?_
      refine WO.nil ?_
      refine End.K ?_
      refine W.sub (SubS.cons (k := 2) rfl (SubS.nil _)) ?_
      refine W.ret ?_
      refine End.retV (ResL.tmp rfl ResL.nil) ?_
      (first | rfl | simp [tg, endT, oneOf])
    · exact absurd rfl hc19

theorem empty_of {s : List Nat} {l : List Tok} (hs : Bytes s) (hsc : scanM s = some l) : Spec tab 9 [.str (s.take (tg (l ++ [endT s]) 0).a)] [] [] (Val (.bool true)) := by
  have h := scan_ok hsc
  rw [h.2.1]
  exact empty_spec _ (Bytes.take hs _) (by rw [List.length_take]; have := h.1; omega) (scan_front hsc)
theorem places_spec (s : List Nat) (hs : Bytes s) (hl : s.length ≤ 281474976710656) : Spec tab 3 [.str s] [] [] (Val (.bool true)) := by
  refine Spec.enter' (ft_get 3 Tryd.func3) rfl (m := 119) rfl (rs := [.tmp 2]) rfl (st := [(0, .str s)]) rfl rfl (fun _ => rfl) (fun E => ?_)
  refine W.seq ?_
  refine W.reg ?_
  refine WO.q (Q.assign rfl) rfl ?_
  refine WO.nil ?_
  refine End.K ?_
  refine W.seq ?_
  refine W.reg ?_
  refine WO.q (Q.move rfl) rfl ?_
  rcases hsc : scanM s with _ | l
  · skip -- n
    refine WO.call0 rfl (oLs_cons rfl oLs_nil) rfl (scan_spec _ hs (by first | omega | (simp only [List.length_drop, List.length_take, List.length_append, List.length_cons, List.length_nil] at *; omega))) SubR.nil rfl (fun v10 D10 hP10 => ?_)
    unfold scanP at hP10
    rw [hsc] at hP10
    obtain ⟨p, e, rfl, he, rfl⟩ := hP10
    refine WO.q (Q.move rfl) rfl ?_
    refine WO.q (Q.extract rfl rfl) rfl ?_
    refine WO.q (Q.extract rfl rfl) rfl ?_
    refine WO.q (Q.extract rfl rfl) rfl ?_
    refine WO.q (Q.assign rfl) rfl ?_
    refine WO.q (Q.assign rfl) rfl ?_
    refine WO.q (Q.assign rfl) rfl ?_
    refine WO.nil ?_
    refine End.K ?_
    refine W.sub (SubS.cons (k := 5) rfl (SubS.cons (k := 3) rfl (SubS.cons (k := 0) rfl (SubS.nil _)))) ?_
    refine W.seq ?_
    refine W.seq ?_
    refine W.reg ?_
    refine WO.q (Q.move rfl) rfl ?_
    refine WO.q (Q.bin rfl (oc (v := .int .i64 ((0 : Nat) : Int)) rfl) rfl (bv_neq ne_int)) rfl ?_
    refine WO.nil ?_
    refine End.K ?_
    refine W.condDS rfl (fun hc15 => ?_) (fun hc15 => ?_)
    · skip -- nT
      refine W.seq ?_
      refine W.reg ?_
      refine WO.q (Q.move rfl) rfl ?_
      refine WO.q (Q.len ud22 rfl rfl) rfl ?_
      refine WO.q (Q.bin rfl (oc (v := .int .i64 ((0 : Nat) : Int)) rfl) rfl (bv_eql (p := true) rfl)) rfl ?_
      refine WO.q (Q.move rfl) rfl ?_
      refine WO.gT rfl rfl ?_
      refine WO.callV rfl oLs_nil rfl lives_spec SubR.nil rfl ?_
      refine WO.q (Q.pickT rfl rfl) rfl ?_
      refine WO.q (Q.assign rfl) rfl ?_
      refine WO.nil ?_
      refine End.K ?_
      refine W.sub (SubS.cons (k := 2) rfl (SubS.nil _)) ?_
      refine W.ret ?_
      refine End.K_ret (End.retV (ResL.tmp rfl ResL.nil) ?_)
      rfl
    · exact absurd he hc15
  · skip -- s
    obtain ⟨h1024, ha0, hok⟩ := scan_ok hsc
    have hb0 := bl_le (s := s) (i := 0) (Nat.zero_le _)
    have hll := scan_len hsc
    have htl := tg_len hsc
    refine WO.call0 rfl (oLs_cons rfl oLs_nil) rfl (scan_spec _ hs (by first | omega | (simp only [List.length_drop, List.length_take, List.length_append, List.length_cons, List.length_nil] at *; omega))) SubR.nil rfl (fun v10 D10 hP10 => ?_)
    unfold scanP at hP10
    rw [hsc] at hP10
    obtain ⟨b, ex, rfl, rfl⟩ := hP10
    refine WO.q (Q.move rfl) rfl ?_
    refine WO.q (Q.extract rfl rfl) rfl ?_
    refine WO.q (Q.extract rfl rfl) rfl ?_
    refine WO.q (Q.extract rfl rfl) rfl ?_
    refine WO.q (Q.assign rfl) rfl ?_
    refine WO.q (Q.assign rfl) rfl ?_
    refine WO.q (Q.assign rfl) rfl ?_
    refine WO.nil ?_
    refine End.K ?_
    refine W.sub (SubS.cons (k := 5) rfl (SubS.cons (k := 3) rfl (SubS.cons (k := 0) rfl (SubS.nil _)))) ?_
    refine W.seq ?_
    refine W.seq ?_
    refine W.reg ?_
    refine WO.q (Q.move rfl) rfl ?_
    refine WO.q (Q.bin rfl (oc (v := .int .i64 ((0 : Nat) : Int)) rfl) rfl (bv_neq (p := false) rfl)) rfl ?_
    refine WO.nil ?_
    refine End.K ?_
    refine W.condF rfl ?_
    refine W.skip ?_
    refine End.K ?_
    refine W.seq ?_
    refine W.seq ?_
    refine W.reg ?_
    refine WO.q (Q.move rfl) rfl ?_
    refine WO.q (Q.len ud22 rfl rfl) rfl ?_
    refine WO.q (Q.bin rfl (oc (v := .int .i64 ((0 : Nat) : Int)) rfl) rfl (bv_eql eq_nat)) rfl ?_
    refine WO.q (Q.move rfl) rfl ?_
    refine WO.splitD (d := 25) rfl (fun hc25 => ?_) (fun hc25 => ?_)
    · exact absurd hc25 (by omega)
    · skip -- sf
      refine WO.gT rfl rfl ?_
      refine WO.q (Q.move rfl) rfl ?_
      refine WO.gT rfl rfl ?_
      refine WO.q (Q.move rfl) rfl ?_
      refine WO.gT rfl rfl ?_
      refine WO.q (Q.len ud22 rfl rfl) rfl ?_
      refine WO.gT rfl rfl ?_
      refine WO.q (Q.bin rfl (oc (v := .int .i64 ((1 : Nat) : Int)) rfl) rfl (bv_sub (wn_sub (by first | omega | (simp only [List.length_drop, List.length_take, List.length_append, List.length_cons, List.length_nil] at *; omega))))) rfl ?_
      refine WO.gT rfl rfl ?_
      refine WO.q (Q.iaddrS ud22 sz28 rfl rfl (by first | omega | (simp only [List.length_drop, List.length_take, List.length_append, List.length_cons, List.length_nil] at *; omega))) rfl ?_
      refine WO.gT rfl rfl ?_
      refine WO.q (Q.loadN rfl (mem_at (i := 0) rfl) ag28 sz28 tok_last) rfl ?_
      refine WO.gT rfl rfl ?_
      refine WO.q (Q.move rfl) rfl ?_
      refine WO.gT rfl rfl ?_
      refine WO.q (Q.len ud9 rfl rfl) rfl ?_
      refine WO.gT rfl rfl ?_
      refine WO.q (Q.build pl28 (oPs_cons (oc (v := .int .i64 ((6 : Nat) : Int)) rfl) (oPs_cons rfl oPs_nil)) rfl (cs := [_, _, _, _]) rfl) rfl ?_
      refine WO.gT rfl rfl ?_
      refine WO.q (Q.bin rfl rfl rfl tok_ne) rfl ?_
      refine WO.q (Q.pickF rfl rfl) rfl ?_
      refine WO.q (Q.move rfl) rfl ?_
      refine WO.gT rfl rfl ?_
      refine WO.q (Q.move rfl) rfl ?_
      refine WO.gT rfl rfl ?_
      refine WO.q (Q.move rfl) rfl ?_
      refine WO.gT rfl rfl ?_
      refine WO.q (Q.iaddrL ud22 sz28 rfl (oc (v := .int .i64 ((0 : Nat) : Int)) rfl) (by first | omega | (simp only [List.length_drop, List.length_take, List.length_append, List.length_cons, List.length_nil] at *; omega)) (o' := 0) rfl) rfl ?_
      refine WO.gT rfl rfl ?_
      refine WO.q (Q.fieldAddr fa28_3 rfl (o' := 3) rfl) rfl ?_
      refine WO.gT rfl rfl ?_
      refine WO.q (Q.load1 rfl (mem_at (i := 0) rfl) ag3 (tokc3 (i := 0) (by first | omega | (simp only [List.length_drop, List.length_take, List.length_append, List.length_cons, List.length_nil] at *; omega)))) rfl ?_
      refine WO.gT rfl rfl ?_
      refine WO.q (Q.sliceS ud9 rfl rfl (by first | omega | (simp only [List.length_drop, List.length_take, List.length_append, List.length_cons, List.length_nil] at *; omega)) sl_hi) rfl ?_
      refine WO.gT rfl rfl ?_
      refine WO.callV rfl (oLs_cons rfl oLs_nil) rfl (empty_of hs hsc) SubR.nil rfl ?_
      refine WO.gT rfl rfl ?_
      refine WO.q (Q.not rfl rfl) rfl ?_
      refine WO.q (Q.pickF rfl rfl) rfl ?_
      refine WO.nil ?_
      refine End.K ?_
      refine W.sub (SubS.cons (k := 46) rfl (SubS.cons (k := 3) rfl (SubS.cons (k := 0) rfl (SubS.nil _)))) ?_
      refine W.condF rfl ?_
      refine W.skip ?_
      refine End.K ?_
      refine W.seq ?_
      refine W.seq ?_
      refine W.reg ?_
      refine WO.q (Q.assign (oc (v := .int .i64 ((0 : Nat) : Int)) rfl)) rfl ?_
      refine WO.nil ?_
      refine End.K ?_
      refine W.block ?_
      refine W.loop_ind (fun (i : Nat) => [(0, .str s), (3, .slice b 0 (l.length + 1) 4), (6, .int .i64 ((i : Nat) : Int))]) (fun _ => _) (fun (i : Nat) => i ≤ l.length) (fun (i : Nat) => l.length - i) (0) (Nat.zero_le _) (SubS.cons rfl (SubS.cons rfl (SubS.cons rfl (SubS.nil _)))) (SubH.refl _) (fun i hI0 ih0 => ?_)
      have hil : i ≤ l.length := hI0
      refine W.seq ?_
      refine W.seq ?_
      refine W.reg ?_
      refine WO.q (Q.move rfl) rfl ?_
      refine WO.q (Q.bin rfl (oc (v := .int .i64 ((1 : Nat) : Int)) rfl) rfl (bv_add (wn_add (by first | omega | (simp only [List.length_drop, List.length_take, List.length_append, List.length_cons, List.length_nil] at *; omega))))) rfl ?_
      refine WO.q (Q.move rfl) rfl ?_
      refine WO.q (Q.len ud22 rfl rfl) rfl ?_
      refine WO.q (Q.bin rfl rfl rfl (bv_lss lt_nat)) rfl ?_
      refine WO.nil ?_
      refine End.K ?_
      refine W.condDS rfl (fun hc51 => ?_) (fun hc51 => ?_)
      · skip -- sfL0T
        have hil2 : i < l.length := by omega
        obtain ⟨k1, k2, k3, k4⟩ := hok i hil2
        have htl1 := htl i
        refine W.skip ?_
        refine End.K ?_
        refine W.seq ?_
        refine W.block ?_
        refine W.seq ?_
        refine W.regT (by kernel_rfl) ?_
        refine WO.q (Q.move rfl) rfl ?_
        refine WO.q (Q.move rfl) rfl ?_
        refine WO.q (Q.iaddrS ud22 sz28 rfl rfl (by first | omega | (simp only [List.length_drop, List.length_take, List.length_append, List.length_cons, List.length_nil] at *; omega))) rfl ?_
        refine WO.q (Q.fieldAddr fa28_3 rfl rfl) rfl ?_
        refine WO.q (Q.load1 rfl (mem_at (i := 0) rfl) ag3 (tokc3 (by first | omega | (simp only [List.length_drop, List.length_take, List.length_append, List.length_cons, List.length_nil] at *; omega)))) rfl ?_
        refine WO.q (Q.move rfl) rfl ?_
        refine WO.q (Q.move rfl) rfl ?_
        refine WO.q (Q.iaddrS ud22 sz28 rfl rfl (by first | omega | (simp only [List.length_drop, List.length_take, List.length_append, List.length_cons, List.length_nil] at *; omega))) rfl ?_
        refine WO.q (Q.fieldAddr fa28_1 rfl rfl) rfl ?_
        refine WO.q (Q.load1 rfl (mem_at (i := 0) rfl) ag9 (tokc1 (by first | omega | (simp only [List.length_drop, List.length_take, List.length_append, List.length_cons, List.length_nil] at *; omega)))) rfl ?_
        refine WO.q (Q.len ud9 rfl rfl) rfl ?_
        refine WO.q (Q.bin rfl rfl rfl (bv_add (wn_add (by first | omega | (simp only [List.length_drop, List.length_take, List.length_append, List.length_cons, List.length_nil] at *; omega))))) rfl ?_
        refine WO.q (Q.assign rfl) rfl ?_
        refine WO.nil ?_
        refine End.K ?_
        refine W.sub (SubS.cons (k := 7) rfl (SubS.cons (k := 0) rfl (SubS.cons (k := 3) rfl (SubS.cons (k := 6) rfl (SubS.nil _))))) ?_
        refine W.seq ?_
        refine W.seq ?_
        refine W.reg ?_
        refine WO.q (Q.move rfl) rfl ?_
        refine WO.q (Q.move rfl) rfl ?_
        refine WO.q (Q.iaddrS ud22 sz28 rfl rfl (by first | omega | (simp only [List.length_drop, List.length_take, List.length_append, List.length_cons, List.length_nil] at *; omega))) rfl ?_
        refine WO.q (Q.fieldAddr fa28_0 rfl rfl) rfl ?_
        refine WO.q (Q.load1 rfl (mem_at (i := 0) rfl) ag3 (tokc0 (by first | omega | (simp only [List.length_drop, List.length_take, List.length_append, List.length_cons, List.length_nil] at *; omega)))) rfl ?_
        refine WO.q (Q.bin rfl (oc (v := .int .i64 ((4 : Nat) : Int)) rfl) rfl (bv_eql eq_int)) rfl ?_
        refine WO.nil ?_
        refine End.K ?_
        refine W.condDS rfl (fun hc71 => ?_) (fun hc71 => ?_)
        · skip -- sfL0TT
          have k5 := k3 hc71
          refine W.reg ?_
          refine WO.q (Q.move rfl) rfl ?_
          refine WO.q (Q.move rfl) rfl ?_
          refine WO.q (Q.iaddrS ud22 sz28 rfl rfl (by first | omega | (simp only [List.length_drop, List.length_take, List.length_append, List.length_cons, List.length_nil] at *; omega))) rfl ?_
          refine WO.q (Q.fieldAddr fa28_3 rfl rfl) rfl ?_
          refine WO.q (Q.load1 rfl (mem_at (i := 0) rfl) ag3 (tokc3 (by first | omega | (simp only [List.length_drop, List.length_take, List.length_append, List.length_cons, List.length_nil] at *; omega)))) rfl ?_
          refine WO.q (Q.bin rfl (oc (v := .int .i64 ((2 : Nat) : Int)) rfl) rfl (bv_add (wn_add (by first | omega | (simp only [List.length_drop, List.length_take, List.length_append, List.length_cons, List.length_nil] at *; omega))))) rfl ?_
          refine WO.q (Q.assign rfl) rfl ?_
          refine WO.nil ?_
          refine End.K ?_
          refine W.sub (SubS.cons (k := 7) rfl (SubS.cons (k := 0) rfl (SubS.cons (k := 3) rfl (SubS.cons (k := 6) rfl (SubS.nil _))))) ?_
          refine W.seq ?_
          refine W.regT (by kernel_rfl) ?_
          refine WO.q (Q.move rfl) rfl ?_
          refine WO.q (Q.move rfl) rfl ?_
          refine WO.q (Q.iaddrS ud22 sz28 rfl rfl (by first | omega | (simp only [List.length_drop, List.length_take, List.length_append, List.length_cons, List.length_nil] at *; omega))) rfl ?_
          refine WO.q (Q.fieldAddr fa28_3 rfl rfl) rfl ?_
          refine WO.q (Q.load1 rfl (mem_at (i := 0) rfl) ag3 (tokc3 (by first | omega | (simp only [List.length_drop, List.length_take, List.length_append, List.length_cons, List.length_nil] at *; omega)))) rfl ?_
          refine WO.q (Q.bin rfl (oc (v := .int .i64 ((0 : Nat) : Int)) rfl) rfl (bv_lss lt_nat)) rfl ?_
          refine WO.q (Q.move rfl) rfl ?_
          refine WO.splitD (d := 84) rfl (fun hc84 => ?_) (fun hc84 => ?_)
          · exact absurd hc84 (Nat.not_lt_zero _)
          · skip -- sfL0TTf
            refine WO.gT rfl rfl ?_
            refine WO.q (Q.move rfl) rfl ?_
            refine WO.gT rfl rfl ?_
            refine WO.q (Q.move rfl) rfl ?_
            refine WO.gT rfl rfl ?_
            refine WO.q (Q.move rfl) rfl ?_
            refine WO.gT rfl rfl ?_
            refine WO.q (Q.bin rfl (oc (v := .int .i64 ((1 : Nat) : Int)) rfl) rfl (bv_add (wn_add (by first | omega | (simp only [List.length_drop, List.length_take, List.length_append, List.length_cons, List.length_nil] at *; omega))))) rfl ?_
            refine WO.gT rfl rfl ?_
            refine WO.q (Q.iaddrS ud22 sz28 rfl rfl (by first | omega | (simp only [List.length_drop, List.length_take, List.length_append, List.length_cons, List.length_nil] at *; omega))) rfl ?_
            refine WO.gT rfl rfl ?_
            refine WO.q (Q.fieldAddr fa28_3 rfl rfl) rfl ?_
            refine WO.gT rfl rfl ?_
            refine WO.q (Q.load1 rfl (mem_at (i := 0) rfl) ag3 (tokc3 (by first | omega | (simp only [List.length_drop, List.length_take, List.length_append, List.length_cons, List.length_nil] at *; omega)))) rfl ?_
            refine WO.gT rfl rfl ?_
            refine WO.q (Q.bin rfl rfl rfl (bv_gtr lt_nat)) rfl ?_
            refine WO.q (Q.pickF rfl rfl) rfl ?_
            refine WO.q (Q.move rfl) rfl ?_
            refine WO.splitD (d := 94) rfl (fun hc94 => ?_) (fun hc94 => ?_)
            · (exfalso; omega)
            · skip -- sfL0TTff
              refine WO.gT rfl rfl ?_
              refine WO.q (Q.move rfl) rfl ?_
              refine WO.gT rfl rfl ?_
              refine WO.q (Q.move rfl) rfl ?_
              refine WO.gT rfl rfl ?_
              refine WO.q (Q.iaddrS ud22 sz28 rfl rfl (by first | omega | (simp only [List.length_drop, List.length_take, List.length_append, List.length_cons, List.length_nil] at *; omega))) rfl ?_
              refine WO.gT rfl rfl ?_
              refine WO.q (Q.fieldAddr fa28_0 rfl rfl) rfl ?_
              refine WO.gT rfl rfl ?_
              refine WO.q (Q.load1 rfl (mem_at (i := 0) rfl) ag3 (tokc0 (by first | omega | (simp only [List.length_drop, List.length_take, List.length_append, List.length_cons, List.length_nil] at *; omega)))) rfl ?_
              refine WO.gT rfl rfl ?_
              refine WO.q (Q.bin rfl (oc (v := .int .i64 ((4 : Nat) : Int)) rfl) rfl (bv_neq ne_int)) rfl ?_
              refine WO.gT rfl rfl ?_
              refine WO.q (Q.move rfl) rfl ?_
              refine WO.splitD (d := 101) rfl (fun hc101 => ?_) (fun hc101 => ?_)
              · exact absurd hc71 hc101
              · skip -- sfL0TTfff
                refine WO.gF rfl rfl (.inl rfl) rfl ?_
                refine WO.gF rfl rfl (.inl rfl) rfl ?_
                refine WO.gF rfl rfl (.inl rfl) rfl ?_
                refine WO.gF rfl rfl (.inl rfl) rfl ?_
                refine WO.gF rfl rfl (.inl rfl) rfl ?_
                refine WO.gF rfl rfl (.inl rfl) rfl ?_
                refine WO.gF rfl rfl (.inl rfl) rfl ?_
                refine WO.gF rfl rfl (.inl rfl) rfl ?_
                refine WO.gF rfl rfl (.inl rfl) rfl ?_
                refine WO.gF rfl rfl (.inl rfl) rfl ?_
                refine WO.gF rfl rfl (.inl rfl) rfl ?_
                refine WO.gF rfl rfl (.inl rfl) rfl ?_
                refine WO.gF rfl rfl (.inl rfl) rfl ?_
                refine WO.gF rfl rfl (.inl rfl) rfl ?_
                refine WO.gT rfl rfl ?_
                refine WO.q (Q.pickF rfl rfl) rfl ?_
                refine WO.q (Q.pickF rfl rfl) rfl ?_
                refine WO.nil ?_
                refine End.K ?_
                refine W.sub (SubS.cons (k := 117) rfl (SubS.cons (k := 0) rfl (SubS.cons (k := 3) rfl (SubS.cons (k := 6) rfl (SubS.nil _))))) ?_
                refine W.condF rfl ?_
                refine W.skip ?_
                refine End.KB (End.K ?_)
                refine W.reg ?_
                refine WO.q (Q.move rfl) rfl ?_
                refine WO.q (Q.bin rfl (oc (v := .int .i64 ((1 : Nat) : Int)) rfl) rfl (bv_add (wn_add (by first | omega | (simp only [List.length_drop, List.length_take, List.length_append, List.length_cons, List.length_nil] at *; omega))))) rfl ?_
                refine WO.q (Q.assign rfl) rfl ?_
                refine WO.nil ?_
                refine End.KL ?_
                refine W.sub (SubS.cons rfl (SubS.cons rfl (SubS.cons rfl (SubS.nil _)))) (ih0 (i + 1) ?_ ?_)
                · exact (by first | omega | (simp only [List.length_drop, List.length_take, List.length_append, List.length_cons, List.length_nil] at *; omega))
                · exact (by first | omega | (simp only [List.length_drop, List.length_take, List.length_append, List.length_cons, List.length_nil] at *; omega))
        · skip -- sfL0TF
          obtain ⟨k5, k6⟩ := k4 hc71
          refine W.skip ?_
          refine End.K ?_
          refine W.sub (SubS.cons (k := 7) rfl (SubS.cons (k := 0) rfl (SubS.cons (k := 3) rfl (SubS.cons (k := 6) rfl (SubS.nil _))))) ?_
          refine W.seq ?_
          refine W.regT (by kernel_rfl) ?_
          refine WO.q (Q.move rfl) rfl ?_
          refine WO.q (Q.move rfl) rfl ?_
          refine WO.q (Q.iaddrS ud22 sz28 rfl rfl (by first | omega | (simp only [List.length_drop, List.length_take, List.length_append, List.length_cons, List.length_nil] at *; omega))) rfl ?_
          refine WO.q (Q.fieldAddr fa28_3 rfl rfl) rfl ?_
          refine WO.q (Q.load1 rfl (mem_at (i := 0) rfl) ag3 (tokc3 (by first | omega | (simp only [List.length_drop, List.length_take, List.length_append, List.length_cons, List.length_nil] at *; omega)))) rfl ?_
          refine WO.q (Q.bin rfl (oc (v := .int .i64 ((0 : Nat) : Int)) rfl) rfl (bv_lss lt_nat)) rfl ?_
          refine WO.q (Q.move rfl) rfl ?_
          refine WO.splitD (d := 84) rfl (fun hc84 => ?_) (fun hc84 => ?_)
          · exact absurd hc84 (Nat.not_lt_zero _)
          · skip -- sfL0TFf
            refine WO.gT rfl rfl ?_
            refine WO.q (Q.move rfl) rfl ?_
            refine WO.gT rfl rfl ?_
            refine WO.q (Q.move rfl) rfl ?_
            refine WO.gT rfl rfl ?_
            refine WO.q (Q.move rfl) rfl ?_
            refine WO.gT rfl rfl ?_
            refine WO.q (Q.bin rfl (oc (v := .int .i64 ((1 : Nat) : Int)) rfl) rfl (bv_add (wn_add (by first | omega | (simp only [List.length_drop, List.length_take, List.length_append, List.length_cons, List.length_nil] at *; omega))))) rfl ?_
            refine WO.gT rfl rfl ?_
            refine WO.q (Q.iaddrS ud22 sz28 rfl rfl (by first | omega | (simp only [List.length_drop, List.length_take, List.length_append, List.length_cons, List.length_nil] at *; omega))) rfl ?_
            refine WO.gT rfl rfl ?_
            refine WO.q (Q.fieldAddr fa28_3 rfl rfl) rfl ?_
            refine WO.gT rfl rfl ?_
            refine WO.q (Q.load1 rfl (mem_at (i := 0) rfl) ag3 (tokc3 (by first | omega | (simp only [List.length_drop, List.length_take, List.length_append, List.length_cons, List.length_nil] at *; omega)))) rfl ?_
            refine WO.gT rfl rfl ?_
            refine WO.q (Q.bin rfl rfl rfl (bv_gtr lt_nat)) rfl ?_
            refine WO.q (Q.pickF rfl rfl) rfl ?_
            refine WO.q (Q.move rfl) rfl ?_
            refine WO.splitD (d := 94) rfl (fun hc94 => ?_) (fun hc94 => ?_)
            · (exfalso; omega)
            · skip -- sfL0TFff
              refine WO.gT rfl rfl ?_
              refine WO.q (Q.move rfl) rfl ?_
              refine WO.gT rfl rfl ?_
              refine WO.q (Q.move rfl) rfl ?_
              refine WO.gT rfl rfl ?_
              refine WO.q (Q.iaddrS ud22 sz28 rfl rfl (by first | omega | (simp only [List.length_drop, List.length_take, List.length_append, List.length_cons, List.length_nil] at *; omega))) rfl ?_
              refine WO.gT rfl rfl ?_
              refine WO.q (Q.fieldAddr fa28_0 rfl rfl) rfl ?_
              refine WO.gT rfl rfl ?_
              refine WO.q (Q.load1 rfl (mem_at (i := 0) rfl) ag3 (tokc0 (by first | omega | (simp only [List.length_drop, List.length_take, List.length_append, List.length_cons, List.length_nil] at *; omega)))) rfl ?_
              refine WO.gT rfl rfl ?_
              refine WO.q (Q.bin rfl (oc (v := .int .i64 ((4 : Nat) : Int)) rfl) rfl (bv_neq ne_int)) rfl ?_
              refine WO.gT rfl rfl ?_
              refine WO.q (Q.move rfl) rfl ?_
              refine WO.splitD (d := 101) rfl (fun hc101 => ?_) (fun hc101 => ?_)
              · skip -- sfL0TFfft
                refine WO.gT rfl rfl ?_
                refine WO.q (Q.move rfl) rfl ?_
                refine WO.gT rfl rfl ?_
                refine WO.q (Q.move rfl) rfl ?_
                refine WO.gT rfl rfl ?_
                refine WO.q (Q.move rfl) rfl ?_
                refine WO.gT rfl rfl ?_
                refine WO.q (Q.iaddrS ud22 sz28 rfl rfl (by first | omega | (simp only [List.length_drop, List.length_take, List.length_append, List.length_cons, List.length_nil] at *; omega))) rfl ?_
                refine WO.gT rfl rfl ?_
                refine WO.q (Q.fieldAddr fa28_3 rfl rfl) rfl ?_
                refine WO.gT rfl rfl ?_
                refine WO.q (Q.load1 rfl (mem_at (i := 0) rfl) ag3 (tokc3 (by first | omega | (simp only [List.length_drop, List.length_take, List.length_append, List.length_cons, List.length_nil] at *; omega)))) rfl ?_
                refine WO.gT rfl rfl ?_
                refine WO.q (Q.move rfl) rfl ?_
                refine WO.gT rfl rfl ?_
                refine WO.q (Q.sliceS ud9 rfl rfl (by first | omega | (simp only [List.length_drop, List.length_take, List.length_append, List.length_cons, List.length_nil] at *; omega)) sl_add) rfl ?_
                refine WO.gT rfl rfl ?_
                refine WO.q (Q.move rfl) rfl ?_
                refine WO.gT rfl rfl ?_
                refine WO.q (Q.move rfl) rfl ?_
                refine WO.gT rfl rfl ?_
                refine WO.q (Q.iaddrS ud22 sz28 rfl rfl (by first | omega | (simp only [List.length_drop, List.length_take, List.length_append, List.length_cons, List.length_nil] at *; omega))) rfl ?_
                refine WO.gT rfl rfl ?_
                refine WO.q (Q.fieldAddr fa28_1 rfl rfl) rfl ?_
                refine WO.gT rfl rfl ?_
                refine WO.q (Q.load1 rfl (mem_at (i := 0) rfl) ag9 (tokc1 (by first | omega | (simp only [List.length_drop, List.length_take, List.length_append, List.length_cons, List.length_nil] at *; omega)))) rfl ?_
                refine WO.gT rfl rfl ?_
                refine WO.q (Q.bin rfl rfl rfl bv_sneq) rfl ?_
                refine WO.gT rfl rfl ?_
                refine WO.q (Q.pickT rfl rfl) rfl ?_
                refine WO.q (Q.pickF rfl rfl) rfl ?_
                refine WO.nil ?_
                refine End.K ?_
                refine W.sub (SubS.cons (k := 117) rfl (SubS.cons (k := 0) rfl (SubS.cons (k := 3) rfl (SubS.cons (k := 6) rfl (SubS.nil _))))) ?_
                refine W.condDS rfl (fun hc117 => ?_) (fun hc117 => ?_)
                · exact absurd (by rw [← k5]; exact k6.symm) hc117
                · skip -- sfL0TFfftF
                  refine W.skip ?_
                  refine End.KB (End.K ?_)
                  refine W.reg ?_
                  refine WO.q (Q.move rfl) rfl ?_
                  refine WO.q (Q.bin rfl (oc (v := .int .i64 ((1 : Nat) : Int)) rfl) rfl (bv_add (wn_add (by first | omega | (simp only [List.length_drop, List.length_take, List.length_append, List.length_cons, List.length_nil] at *; omega))))) rfl ?_
                  refine WO.q (Q.assign rfl) rfl ?_
                  refine WO.nil ?_
                  refine End.KL ?_
                  refine W.sub (SubS.cons rfl (SubS.cons rfl (SubS.cons rfl (SubS.nil _)))) (ih0 (i + 1) ?_ ?_)
                  · exact (by first | omega | (simp only [List.length_drop, List.length_take, List.length_append, List.length_cons, List.length_nil] at *; omega))
                  · exact (by first | omega | (simp only [List.length_drop, List.length_take, List.length_append, List.length_cons, List.length_nil] at *; omega))
              · skip -- sfL0TFfff
                refine WO.gF rfl rfl (.inl rfl) rfl ?_
                refine WO.gF rfl rfl (.inl rfl) rfl ?_
                refine WO.gF rfl rfl (.inl rfl) rfl ?_
                refine WO.gF rfl rfl (.inl rfl) rfl ?_
                refine WO.gF rfl rfl (.inl rfl) rfl ?_
                refine WO.gF rfl rfl (.inl rfl) rfl ?_
                refine WO.gF rfl rfl (.inl rfl) rfl ?_
                refine WO.gF rfl rfl (.inl rfl) rfl ?_
                refine WO.gF rfl rfl (.inl rfl) rfl ?_
                refine WO.gF rfl rfl (.inl rfl) rfl ?_
                refine WO.gF rfl rfl (.inl rfl) rfl ?_
                refine WO.gF rfl rfl (.inl rfl) rfl ?_
                refine WO.gF rfl rfl (.inl rfl) rfl ?_
                refine WO.gF rfl rfl (.inl rfl) rfl ?_
                refine WO.gT rfl rfl ?_
                refine WO.q (Q.pickF rfl rfl) rfl ?_
                refine WO.q (Q.pickF rfl rfl) rfl ?_
                refine WO.nil ?_
                refine End.K ?_
                refine W.sub (SubS.cons (k := 117) rfl (SubS.cons (k := 0) rfl (SubS.cons (k := 3) rfl (SubS.cons (k := 6) rfl (SubS.nil _))))) ?_
                refine W.condF rfl ?_
                refine W.skip ?_
                refine End.KB (End.K ?_)
                refine W.reg ?_
                refine WO.q (Q.move rfl) rfl ?_
                refine WO.q (Q.bin rfl (oc (v := .int .i64 ((1 : Nat) : Int)) rfl) rfl (bv_add (wn_add (by first | omega | (simp only [List.length_drop, List.length_take, List.length_append, List.length_cons, List.length_nil] at *; omega))))) rfl ?_
                refine WO.q (Q.assign rfl) rfl ?_
                refine WO.nil ?_
                refine End.KL ?_
                refine W.sub (SubS.cons rfl (SubS.cons rfl (SubS.cons rfl (SubS.nil _)))) (ih0 (i + 1) ?_ ?_)
                · exact (by first | omega | (simp only [List.length_drop, List.length_take, List.length_append, List.length_cons, List.length_nil] at *; omega))
                · exact (by first | omega | (simp only [List.length_drop, List.length_take, List.length_append, List.length_cons, List.length_nil] at *; omega))
      · skip -- sfL0F
        refine W.exit ?_
        refine End.K_exit (End.KL_exit (End.KB_hit (End.K ?_)))
        refine W.sub (SubS.nil _) ?_
        refine W.seq ?_
        refine W.reg ?_
        refine WO.callV rfl oLs_nil rfl lives_spec SubR.nil rfl ?_
        refine WO.q (Q.assign rfl) rfl ?_
        refine WO.nil ?_
        refine End.K ?_
        refine W.ret ?_
        refine End.retV (ResL.tmp rfl ResL.nil) ?_
        rfl
end Go.Proofs.YtdpcpnhkkedfcaaDoor.Ev
