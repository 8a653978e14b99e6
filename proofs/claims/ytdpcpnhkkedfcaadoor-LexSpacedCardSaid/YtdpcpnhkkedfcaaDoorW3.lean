/- Layer 15, walks: marks, names, values. -/
import Derived.Test.YtdpcpnhkkedfcaaDoorW2
namespace Go.Proofs.YtdpcpnhkkedfcaaDoor.Ev
open Go.RowKit
set_option linter.unusedVariables false
set_option linter.unusedSimpArgs false
set_option maxRecDepth 100000
def marksL : List Nat := [61, 60, 62, 43, 45, 42, 47, 37, 40, 41, 123, 125, 91, 93, 44]
def mkN (s : List Nat) : Nat :=
  if s.take (min 2 s.length) = [61, 126] ∨ s.take (min 2 s.length) = [33, 126] ∨ s.take (min 2 s.length) = [61, 61] ∨ s.take (min 2 s.length) = [33, 61] ∨ s.take (min 2 s.length) = [60, 61] ∨ s.take (min 2 s.length) = [62, 61] then 2
  else if ((0 : Nat) : Int) ≤ ixB [61, 60, 62, 43, 45, 42, 47, 37, 40, 41, 123, 125, 91, 93, 44] (s.getD 0 0) then 1 else 0
def isAl (c : Nat) : Bool := (decide (97 ≤ c) && decide (c ≤ 122)) || (decide (65 ≤ c) && decide (c ≤ 90)) || decide (c = 95)
def nmc (i c : Nat) : Bool := isAl c || (decide (0 < i) && isDig c)
def nmAll : Nat → List Nat → Bool
  | _, [] => true
  | i, c :: l => nmc i c && nmAll (i + 1) l
theorem nmAll_step {l : List Nat} {i : Nat} (h : i < l.length) : nmAll i (l.drop i) = (nmc i (l.getD i 0) && nmAll (i + 1) (l.drop (i + 1))) := by
  rw [List.drop_eq_getElem_cons h]
  have e : l.getD i 0 = l[i] := by simp [h]
  rw [e]
  rfl
theorem and_t {a b : Bool} (h : a = true) : (a && b) = b := by rw [h]; rfl
theorem and_f {a b : Bool} (h : a = false) : (a && b) = false := by rw [h]; rfl
def nameB (s : List Nat) : Bool := nmAll 0 s && decide (s ≠ []) && decide (s.length ≤ 32)
theorem cutP_yes (s p : List Nat) (hs : Bytes s) (hp : Bytes p) (hl : s.length ≤ 1073741824) (hm : p.length ≤ 1073741824) (h : hasP s p = true) : Spec tab 50 [.str s, .str p] [] [] (Val (.tuple [.str (s.drop p.length), .bool true])) := by
  have := cutP_spec s p hs hp hl hm
  rw [h] at this
  exact this
theorem cutP_no (s p : List Nat) (hs : Bytes s) (hp : Bytes p) (hl : s.length ≤ 1073741824) (hm : p.length ≤ 1073741824) (h : hasP s p = false) : Spec tab 50 [.str s, .str p] [] [] (Val (.tuple [.str s, .bool false])) := by
  have := cutP_spec s p hs hp hl hm
  rw [h] at this
  exact this
theorem ne_pos {l : List Nat} (h : l ≠ []) : 0 < l.length := List.length_pos_iff.2 h
def hexL : List Nat := [48, 49, 50, 51, 52, 53, 54, 55, 56, 57, 97, 98, 99, 100, 101, 102]
/-- A value behind its opening mark: what it is, and what is left. -/
def valF : Nat → List Nat → List Nat → Option (List Nat × List Nat)
  | 0, _, _ => none
  | k + 1, rest, acc =>
    if rest = [] then none
    else if rest.getD 0 0 = 34 then some (acc, rest.drop 1)
    else if rest.getD 0 0 = 92 then
      if hasP rest [92, 120] = true then
        if rest.length < 4 then none
        else if ixB hexL (rest.getD 2 0) < 0 ∨ ixB hexL (rest.getD 3 0) < 0 then none
        else valF k (rest.drop 4) (acc ++ [16 * (ixB hexL (rest.getD 2 0)).toNat + (ixB hexL (rest.getD 3 0)).toNat])
      else if rest.length < 2 then none else valF k (rest.drop 2) (acc ++ [rest.getD 1 0])
    else valF k (rest.drop 1) (acc ++ [rest.getD 0 0])
theorem hx_nat {c : Nat} (h : ¬ ixB [48, 49, 50, 51, 52, 53, 54, 55, 56, 57, 97, 98, 99, 100, 101, 102] c < ((0 : Nat) : Int)) : ∃ x : Nat, ixB [48, 49, 50, 51, 52, 53, 54, 55, 56, 57, 97, 98, 99, 100, 101, 102] c = (x : Int) ∧ x < 16 := by
  by_cases hk : kB [48, 49, 50, 51, 52, 53, 54, 55, 56, 57, 97, 98, 99, 100, 101, 102] c < 16
  · exact ⟨_, ixB_yes hk, hk⟩
  · rw [ixB_no hk] at h
    exact absurd (by decide) h
def valV : Option (List Nat × List Nat) → AV
  | none => .tuple [.str [], .str [], .bool false]
  | some (a, r) => .tuple [.str a, .str r, .bool true]
theorem val_none {o : Option (List Nat × List Nat)} (h : o = none) : oneOf [AV.str [], AV.str [], AV.bool false] = valV o := by rw [h]; rfl
theorem val_some {o : Option (List Nat × List Nat)} {a r : List Nat} (h : o = some (a, r)) : oneOf [AV.str a, AV.str r, AV.bool true] = valV o := by rw [h]; rfl
theorem mark_spec (s : List Nat) (hs : Bytes s) (hl : s.length ≤ 1073741824) (h0 : 0 < s.length) : Spec tab 33 [.str s] [] [] (Val (.int .i64 ((mkN s : Nat) : Int))) := by
  refine Spec.enter' (ft_get 33 Tryd.func33) rfl (m := 21) rfl (rs := [.tmp 2]) rfl (st := [(0, .str s)]) rfl rfl (fun _ => rfl) (fun E => ?_)
  refine W.seq ?_
  refine W.reg ?_
  refine WO.q (Q.assign (oc (v := .int .i64 ((0 : Nat) : Int)) rfl)) rfl ?_
  refine WO.nil ?_
  refine End.K ?_
  refine W.seq ?_
  refine W.reg ?_
  refine WO.q (Q.move rfl) rfl ?_
  refine WO.q (Q.move rfl) rfl ?_
  refine WO.q (Q.len ud9 rfl rfl) rfl ?_
  refine WO.q (Q.minmax false (oLs_cons (oc (v := .int .i64 ((2 : Nat) : Int)) rfl) (oLs_cons rfl oLs_nil)) mm_min) rfl ?_
  refine WO.q (Q.sliceS ud9 rfl rfl (by first | omega | (simp only [List.length_drop, List.length_take, List.length_append, List.length_cons, List.length_nil] at *; omega)) sl_hi) rfl ?_
  refine WO.q (Q.assign rfl) rfl ?_
  refine WO.nil ?_
  refine End.K ?_
  refine W.sub (SubS.cons (k := 3) rfl (SubS.cons (k := 0) rfl (SubS.nil _))) ?_
  refine W.seq ?_
  refine W.seq ?_
  refine W.reg ?_
  refine WO.q (Q.move rfl) rfl ?_
  refine WO.nil ?_
  refine End.K ?_
  refine W.block ?_
  refine W.seq ?_
  refine W.seq ?_
  refine W.reg ?_
  refine WO.q (Q.bin rfl (oc (v := .str [61, 126]) (by kernel_rfl)) rfl bv_seql) rfl ?_
  refine WO.q (Q.assign rfl) rfl ?_
  refine WO.nil ?_
  refine End.K ?_
  refine W.condDS rfl (fun hc10 => ?_) (fun hc10 => ?_)
  · skip -- T
    refine W.skip ?_
    refine End.K ?_
    refine W.condT rfl ?_
    refine W.seq ?_
    refine W.reg ?_
    refine WO.q (Q.assign (oc (v := .int .i64 ((2 : Nat) : Int)) rfl)) rfl ?_
    refine WO.nil ?_
    refine End.K ?_
    refine W.ret ?_
    refine End.KB_ret (End.K_ret (End.retV (ResL.tmp rfl ResL.nil) ?_))
    exact i64_eq (by simp_all [mkN])
  · skip -- F
    refine W.seq ?_
    refine W.reg ?_
    refine WO.q (Q.bin rfl (oc (v := .str [33, 126]) (by kernel_rfl)) rfl bv_seql) rfl ?_
    refine WO.q (Q.assign rfl) rfl ?_
    refine WO.nil ?_
    refine End.K ?_
    refine W.condDS rfl (fun hc10 => ?_) (fun hc10 => ?_)
    · skip -- FT
      refine W.skip ?_
      refine End.K ?_
      refine W.condT rfl ?_
      refine W.seq ?_
      refine W.reg ?_
      refine WO.q (Q.assign (oc (v := .int .i64 ((2 : Nat) : Int)) rfl)) rfl ?_
      refine WO.nil ?_
      refine End.K ?_
      refine W.sub (SubS.cons (k := 2) rfl (SubS.nil _)) ?_
      refine W.ret ?_
      refine End.KB_ret (End.K_ret (End.retV (ResL.tmp rfl ResL.nil) ?_))
      exact i64_eq (by simp_all [mkN])
    · skip -- FF
      refine W.seq ?_
      refine W.reg ?_
      refine WO.q (Q.bin rfl (oc (v := .str [61, 61]) (by kernel_rfl)) rfl bv_seql) rfl ?_
      refine WO.q (Q.assign rfl) rfl ?_
      refine WO.nil ?_
      refine End.K ?_
      refine W.condDS rfl (fun hc10 => ?_) (fun hc10 => ?_)
      · skip -- FFT
        refine W.skip ?_
        refine End.K ?_
        refine W.condT rfl ?_
        refine W.seq ?_
        refine W.reg ?_
        refine WO.q (Q.assign (oc (v := .int .i64 ((2 : Nat) : Int)) rfl)) rfl ?_
        refine WO.nil ?_
        refine End.K ?_
        refine W.sub (SubS.cons (k := 2) rfl (SubS.nil _)) ?_
        refine W.ret ?_
        refine End.KB_ret (End.K_ret (End.retV (ResL.tmp rfl ResL.nil) ?_))
        exact i64_eq (by simp_all [mkN])
      · skip -- FFF
        refine W.seq ?_
        refine W.reg ?_
        refine WO.q (Q.bin rfl (oc (v := .str [33, 61]) (by kernel_rfl)) rfl bv_seql) rfl ?_
        refine WO.q (Q.assign rfl) rfl ?_
        refine WO.nil ?_
        refine End.K ?_
        refine W.condDS rfl (fun hc10 => ?_) (fun hc10 => ?_)
        · skip -- FFFT
          refine W.skip ?_
          refine End.K ?_
          refine W.sub (SubS.cons (k := 10) rfl (SubS.cons (k := 0) rfl (SubS.nil _))) ?_
          refine W.condT rfl ?_
          refine W.seq ?_
          refine W.reg ?_
          refine WO.q (Q.assign (oc (v := .int .i64 ((2 : Nat) : Int)) rfl)) rfl ?_
          refine WO.nil ?_
          refine End.K ?_
          refine W.ret ?_
          refine End.KB_ret (End.K_ret (End.retV (ResL.tmp rfl ResL.nil) ?_))
          exact i64_eq (by simp_all [mkN])
        · skip -- FFFF
          refine W.seq ?_
          refine W.reg ?_
          refine WO.q (Q.bin rfl (oc (v := .str [60, 61]) (by kernel_rfl)) rfl bv_seql) rfl ?_
          refine WO.q (Q.assign rfl) rfl ?_
          refine WO.nil ?_
          refine End.K ?_
          refine W.sub (SubS.cons (k := 10) rfl (SubS.cons (k := 9) rfl (SubS.cons (k := 0) rfl (SubS.nil _)))) ?_
          refine W.condDS rfl (fun hc10 => ?_) (fun hc10 => ?_)
          · skip -- FFFFT
            refine W.skip ?_
            refine End.K ?_
            refine W.condT rfl ?_
            refine W.seq ?_
            refine W.reg ?_
            refine WO.q (Q.assign (oc (v := .int .i64 ((2 : Nat) : Int)) rfl)) rfl ?_
            refine WO.nil ?_
            refine End.K ?_
            refine W.ret ?_
            refine End.KB_ret (End.K_ret (End.retV (ResL.tmp rfl ResL.nil) ?_))
            exact i64_eq (by simp_all [mkN])
          · skip -- FFFFF
            refine W.reg ?_
            refine WO.q (Q.bin rfl (oc (v := .str [62, 61]) (by kernel_rfl)) rfl bv_seql) rfl ?_
            refine WO.q (Q.assign rfl) rfl ?_
            refine WO.nil ?_
            refine End.K ?_
            refine W.condDS rfl (fun hc10 => ?_) (fun hc10 => ?_)
            · skip -- FFFFFT
              refine W.seq ?_
              refine W.reg ?_
              refine WO.q (Q.assign (oc (v := .int .i64 ((2 : Nat) : Int)) rfl)) rfl ?_
              refine WO.nil ?_
              refine End.K ?_
              refine W.ret ?_
              refine End.KB_ret (End.K_ret (End.retV (ResL.tmp rfl ResL.nil) ?_))
              exact i64_eq (by simp_all [mkN])
            · skip -- FFFFFF
              refine W.skip ?_
              refine End.KB (End.K ?_)
              refine W.seq ?_
              refine W.seq ?_
              refine W.reg ?_
              refine WO.q (Q.move rfl) rfl ?_
              refine WO.indexB hs ud9 rfl (oc (v := .int .i64 ((0 : Nat) : Int)) rfl) (by first | omega | (simp only [List.length_drop, List.length_take, List.length_append, List.length_cons, List.length_nil] at *; omega)) rfl (fun c18 hd18 hb18 => ?_)
              refine WO.callV rfl (oLs_cons (oc (v := .str [61, 60, 62, 43, 45, 42, 47, 37, 40, 41, 123, 125, 91, 93, 44]) (by kernel_rfl)) (oLs_cons rfl oLs_nil)) rfl (ixB0_spec _ _) SubR.nil rfl ?_
              refine WO.q (Q.bin rfl (oc (v := .int .i64 ((0 : Nat) : Int)) rfl) rfl (bv_geq le_int)) rfl ?_
              refine WO.nil ?_
              refine End.K ?_
              refine W.sub (SubS.cons (k := 20) rfl (SubS.nil _)) ?_
              refine W.condDS rfl (fun hc20 => ?_) (fun hc20 => ?_)
              · skip -- FFFFFFT
                refine W.seq ?_
                refine W.reg ?_
                refine WO.q (Q.assign (oc (v := .int .i64 ((1 : Nat) : Int)) rfl)) rfl ?_
                refine WO.nil ?_
                refine End.K ?_
                refine W.ret ?_
                refine End.K_ret (End.retV (ResL.tmp rfl ResL.nil) ?_)
                exact i64_eq (by simp_all [mkN])
              · skip -- FFFFFFF
                refine W.skip ?_
                refine End.K ?_
                refine W.seq ?_
                refine W.reg ?_
                refine WO.q (Q.assign (oc (v := .int .i64 ((0 : Nat) : Int)) rfl)) rfl ?_
                refine WO.nil ?_
                refine End.K ?_
                refine W.ret ?_
                refine End.retV (ResL.tmp rfl ResL.nil) ?_
                exact i64_eq (by simp_all [mkN])

theorem name_spec (s : List Nat) (hs : Bytes s) (hl : s.length ≤ 1073741824) : Spec tab 67 [.str s] [] [] (Val (.bool (nameB s))) := by
  refine Spec.enter' (ft_get 67 Tryd.func67) rfl (m := 47) rfl (rs := [.tmp 2]) rfl (st := [(0, .str s)]) rfl rfl (fun _ => rfl) (fun E => ?_)
  refine W.seq ?_
  refine W.reg ?_
  refine WO.q (Q.assign rfl) rfl ?_
  refine WO.nil ?_
  refine End.K ?_
  refine W.seq ?_
  refine W.seq ?_
  refine W.reg ?_
  refine WO.q (Q.move rfl) rfl ?_
  refine WO.q (Q.len ud9 rfl rfl) rfl ?_
  refine WO.q (Q.move (oc (v := .int .i64 ((0 : Nat) : Int)) rfl)) rfl ?_
  refine WO.nil ?_
  refine End.K ?_
  refine W.block ?_
  refine W.loop_ind (fun (i : Nat) => [(0, .str s), (6, .int .i64 ((s.length : Nat) : Int)), (7, .int .i64 ((i : Nat) : Int))]) (fun _ => _) (fun (i : Nat) => i ≤ s.length ∧ nmAll 0 s = nmAll i (s.drop i)) (fun (i : Nat) => s.length - i) (0) ⟨by omega, by simp⟩ (SubS.cons rfl (SubS.cons rfl (SubS.cons rfl (SubS.nil _)))) (SubH.refl _) (fun i hI0 ih0 => ?_)
  obtain ⟨h1, h2⟩ := hI0
  refine W.seq ?_
  refine W.reg ?_
  refine WO.q (Q.bin rfl rfl rfl (bv_lss lt_nat)) rfl ?_
  refine WO.nil ?_
  refine End.K ?_
  refine W.seq ?_
  refine W.condDS rfl (fun hc8 => ?_) (fun hc8 => ?_)
  · skip -- L0T
    refine W.skip ?_
    refine End.K ?_
    refine W.seq ?_
    refine W.block ?_
    refine W.seq ?_
    refine W.reg ?_
    refine WO.q (Q.move rfl) rfl ?_
    refine WO.q (Q.assign rfl) rfl ?_
    refine WO.nil ?_
    refine End.K ?_
    refine W.seq ?_
    refine W.reg ?_
    refine WO.q (Q.move rfl) rfl ?_
    refine WO.q (Q.move rfl) rfl ?_
    refine WO.indexB hs ud9 rfl rfl (by first | omega | (simp only [List.length_drop, List.length_take, List.length_append, List.length_cons, List.length_nil] at *; omega)) rfl (fun c12 hd12 hb12 => ?_)
    refine WO.q (Q.assign rfl) rfl ?_
    refine WO.nil ?_
    refine End.K ?_
    refine W.block ?_
    refine W.seq ?_
    refine W.seq ?_
    refine W.reg ?_
    refine WO.q (Q.move rfl) rfl ?_
    refine WO.q (Q.bin rfl (oc (v := .int .u8 ((97 : Nat) : Int)) rfl) rfl (bv_geq le_nat)) rfl ?_
    refine WO.q (Q.move rfl) rfl ?_
    refine WO.splitD (d := 16) rfl (fun hc16 => ?_) (fun hc16 => ?_)
    · skip -- L0Tt
      refine WO.gT rfl rfl ?_
      refine WO.q (Q.move rfl) rfl ?_
      refine WO.gT rfl rfl ?_
      refine WO.q (Q.bin rfl (oc (v := .int .u8 ((122 : Nat) : Int)) rfl) rfl (bv_leq le_nat)) rfl ?_
      refine WO.q (Q.pickT rfl rfl) rfl ?_
      refine WO.q (Q.assign rfl) rfl ?_
      refine WO.nil ?_
      refine End.K ?_
      refine W.sub (SubS.cons (k := 13) rfl (SubS.cons (k := 4) rfl (SubS.cons (k := 3) rfl (SubS.cons (k := 0) rfl (SubS.cons (k := 6) rfl (SubS.cons (k := 7) rfl (SubS.nil _))))))) ?_
      refine W.condDS rfl (fun hc13 => ?_) (fun hc13 => ?_)
      · skip -- L0TtT
        refine W.skip ?_
        refine End.K ?_
        refine W.condT rfl ?_
        refine W.skip ?_
        refine End.KB (End.KB (End.K ?_))
        refine W.reg ?_
        refine WO.q (Q.bin rfl (oc (v := .int .i64 ((1 : Nat) : Int)) rfl) rfl (bv_add (wn_add (by first | omega | (simp only [List.length_drop, List.length_take, List.length_append, List.length_cons, List.length_nil] at *; omega))))) rfl ?_
        refine WO.q (Q.move rfl) rfl ?_
        refine WO.nil ?_
        refine End.KL ?_
        refine W.sub (SubS.cons rfl (SubS.cons rfl (SubS.cons rfl (SubS.nil _)))) (ih0 (i + 1) ?_ ?_)
        · exact ⟨by omega, by rw [h2, nmAll_step (by omega), ← hd12, and_t (by simp [nmc, isAl, isDig] <;> omega)]⟩
        · exact (by first | omega | (simp only [List.length_drop, List.length_take, List.length_append, List.length_cons, List.length_nil] at *; omega))
      · skip -- L0TtF
        refine W.seq ?_
        refine W.reg ?_
        refine WO.q (Q.move rfl) rfl ?_
        refine WO.q (Q.bin rfl (oc (v := .int .u8 ((65 : Nat) : Int)) rfl) rfl (bv_geq le_nat)) rfl ?_
        refine WO.q (Q.move rfl) rfl ?_
        refine WO.splitD (d := 22) rfl (fun hc22 => ?_) (fun hc22 => ?_)
        · skip -- L0TtFt
          refine WO.gT rfl rfl ?_
          refine WO.q (Q.move rfl) rfl ?_
          refine WO.gT rfl rfl ?_
          refine WO.q (Q.bin rfl (oc (v := .int .u8 ((90 : Nat) : Int)) rfl) rfl (bv_leq le_nat)) rfl ?_
          refine WO.q (Q.pickT rfl rfl) rfl ?_
          refine WO.q (Q.assign rfl) rfl ?_
          refine WO.nil ?_
          refine End.K ?_
          refine W.sub (SubS.cons (k := 13) rfl (SubS.cons (k := 4) rfl (SubS.cons (k := 3) rfl (SubS.cons (k := 0) rfl (SubS.cons (k := 6) rfl (SubS.cons (k := 7) rfl (SubS.nil _))))))) ?_
          refine W.condDS rfl (fun hc13 => ?_) (fun hc13 => ?_)
          · skip -- L0TtFtT
            refine W.skip ?_
            refine End.K ?_
            refine W.condT rfl ?_
            refine W.skip ?_
            refine End.KB (End.KB (End.K ?_))
            refine W.reg ?_
            refine WO.q (Q.bin rfl (oc (v := .int .i64 ((1 : Nat) : Int)) rfl) rfl (bv_add (wn_add (by first | omega | (simp only [List.length_drop, List.length_take, List.length_append, List.length_cons, List.length_nil] at *; omega))))) rfl ?_
            refine WO.q (Q.move rfl) rfl ?_
            refine WO.nil ?_
            refine End.KL ?_
            refine W.sub (SubS.cons rfl (SubS.cons rfl (SubS.cons rfl (SubS.nil _)))) (ih0 (i + 1) ?_ ?_)
            · exact ⟨by omega, by rw [h2, nmAll_step (by omega), ← hd12, and_t (by simp [nmc, isAl, isDig] <;> omega)]⟩
            · exact (by first | omega | (simp only [List.length_drop, List.length_take, List.length_append, List.length_cons, List.length_nil] at *; omega))
          · skip -- L0TtFtF
            refine W.reg ?_
            refine WO.q (Q.move rfl) rfl ?_
            refine WO.q (Q.bin rfl (oc (v := .int .u8 ((95 : Nat) : Int)) rfl) rfl (bv_eql eq_nat)) rfl ?_
            refine WO.q (Q.assign rfl) rfl ?_
            refine WO.nil ?_
            refine End.K ?_
            refine W.condDS rfl (fun hc13 => ?_) (fun hc13 => ?_)
            · skip -- L0TtFtFT
              refine W.skip ?_
              refine End.KB (End.KB (End.K ?_))
              refine W.reg ?_
              refine WO.q (Q.bin rfl (oc (v := .int .i64 ((1 : Nat) : Int)) rfl) rfl (bv_add (wn_add (by first | omega | (simp only [List.length_drop, List.length_take, List.length_append, List.length_cons, List.length_nil] at *; omega))))) rfl ?_
              refine WO.q (Q.move rfl) rfl ?_
              refine WO.nil ?_
              refine End.KL ?_
              refine W.sub (SubS.cons rfl (SubS.cons rfl (SubS.cons rfl (SubS.nil _)))) (ih0 (i + 1) ?_ ?_)
              · exact ⟨by omega, by rw [h2, nmAll_step (by omega), ← hd12, and_t (by simp [nmc, isAl, isDig] <;> omega)]⟩
              · exact (by first | omega | (simp only [List.length_drop, List.length_take, List.length_append, List.length_cons, List.length_nil] at *; omega))
            · skip -- L0TtFtFF
              refine W.seq ?_
              refine W.reg ?_
              refine WO.q (Q.move rfl) rfl ?_
              refine WO.q (Q.bin rfl (oc (v := .int .i64 ((0 : Nat) : Int)) rfl) rfl (bv_gtr lt_nat)) rfl ?_
              refine WO.q (Q.move rfl) rfl ?_
              refine WO.splitD (d := 31) rfl (fun hc31 => ?_) (fun hc31 => ?_)
              · skip -- L0TtFtFFt
                refine WO.gT rfl rfl ?_
                refine WO.q (Q.move rfl) rfl ?_
                refine WO.gT rfl rfl ?_
                refine WO.q (Q.bin rfl (oc (v := .int .u8 ((48 : Nat) : Int)) rfl) rfl (bv_geq le_nat)) rfl ?_
                refine WO.q (Q.pickT rfl rfl) rfl ?_
                refine WO.q (Q.move rfl) rfl ?_
                refine WO.splitD (d := 35) rfl (fun hc35 => ?_) (fun hc35 => ?_)
                · skip -- L0TtFtFFtt
                  refine WO.gT rfl rfl ?_
                  refine WO.q (Q.move rfl) rfl ?_
                  refine WO.gT rfl rfl ?_
                  refine WO.q (Q.bin rfl (oc (v := .int .u8 ((57 : Nat) : Int)) rfl) rfl (bv_leq le_nat)) rfl ?_
                  refine WO.q (Q.pickT rfl rfl) rfl ?_
                  refine WO.q (Q.assign rfl) rfl ?_
                  refine WO.nil ?_
                  refine End.K ?_
                  refine W.sub (SubS.cons (k := 28) rfl (SubS.cons (k := 0) rfl (SubS.cons (k := 6) rfl (SubS.cons (k := 7) rfl (SubS.nil _))))) ?_
                  refine W.condDS rfl (fun hc28 => ?_) (fun hc28 => ?_)
                  · skip -- L0TtFtFFttT
                    refine W.skip ?_
                    refine End.KB (End.KB (End.K ?_))
                    refine W.reg ?_
                    refine WO.q (Q.bin rfl (oc (v := .int .i64 ((1 : Nat) : Int)) rfl) rfl (bv_add (wn_add (by first | omega | (simp only [List.length_drop, List.length_take, List.length_append, List.length_cons, List.length_nil] at *; omega))))) rfl ?_
                    refine WO.q (Q.move rfl) rfl ?_
                    refine WO.nil ?_
                    refine End.KL ?_
                    refine W.sub (SubS.cons rfl (SubS.cons rfl (SubS.cons rfl (SubS.nil _)))) (ih0 (i + 1) ?_ ?_)
                    · exact ⟨by omega, by rw [h2, nmAll_step (by omega), ← hd12, and_t (by simp [nmc, isAl, isDig] <;> omega)]⟩
                    · exact (by first | omega | (simp only [List.length_drop, List.length_take, List.length_append, List.length_cons, List.length_nil] at *; omega))
                  · skip -- L0TtFtFFttF
                    refine W.seq ?_
                    refine W.reg ?_
                    refine WO.q (Q.assign rfl) rfl ?_
                    refine WO.nil ?_
                    refine End.K ?_
                    refine W.ret ?_
                    refine End.KB_ret (End.KB_ret (End.K_ret (End.KL_ret (End.KB_ret (End.K_ret (End.retV (ResL.tmp rfl ResL.nil) ?_))))))
                    exact bool_eq (by simp only [nameB]; rw [h2, nmAll_step (by omega), ← hd12, and_f (by simp [nmc, isAl, isDig] <;> omega)])
                · skip -- L0TtFtFFtf
                  refine WO.gF rfl rfl (.inl rfl) rfl ?_
                  refine WO.gF rfl rfl (.inl rfl) rfl ?_
                  refine WO.q (Q.pickF rfl rfl) rfl ?_
                  refine WO.q (Q.assign rfl) rfl ?_
                  refine WO.nil ?_
                  refine End.K ?_
                  refine W.sub (SubS.cons (k := 28) rfl (SubS.cons (k := 0) rfl (SubS.cons (k := 6) rfl (SubS.cons (k := 7) rfl (SubS.nil _))))) ?_
                  refine W.condF rfl ?_
                  refine W.seq ?_
                  refine W.reg ?_
                  refine WO.q (Q.assign rfl) rfl ?_
                  refine WO.nil ?_
                  refine End.K ?_
                  refine W.ret ?_
                  refine End.KB_ret (End.KB_ret (End.K_ret (End.KL_ret (End.KB_ret (End.K_ret (End.retV (ResL.tmp rfl ResL.nil) ?_))))))
                  exact bool_eq (by simp only [nameB]; rw [h2, nmAll_step (by omega), ← hd12, and_f (by simp [nmc, isAl, isDig] <;> omega)])
              · skip -- L0TtFtFFf
                refine WO.gF rfl rfl (.inl rfl) rfl ?_
                refine WO.gF rfl rfl (.inl rfl) rfl ?_
                refine WO.q (Q.pickF rfl rfl) rfl ?_
                refine WO.q (Q.move rfl) rfl ?_
                refine WO.gF rfl rfl (.inl rfl) rfl ?_
                refine WO.gF rfl rfl (.inl rfl) rfl ?_
                refine WO.q (Q.pickF rfl rfl) rfl ?_
                refine WO.q (Q.assign rfl) rfl ?_
                refine WO.nil ?_
                refine End.K ?_
                refine W.sub (SubS.cons (k := 28) rfl (SubS.cons (k := 0) rfl (SubS.cons (k := 6) rfl (SubS.cons (k := 7) rfl (SubS.nil _))))) ?_
                refine W.condF rfl ?_
                refine W.seq ?_
                refine W.reg ?_
                refine WO.q (Q.assign rfl) rfl ?_
                refine WO.nil ?_
                refine End.K ?_
                refine W.ret ?_
                refine End.KB_ret (End.KB_ret (End.K_ret (End.KL_ret (End.KB_ret (End.K_ret (End.retV (ResL.tmp rfl ResL.nil) ?_))))))
                exact bool_eq (by simp only [nameB]; rw [h2, nmAll_step (by omega), ← hd12, and_f (by simp [nmc, isAl, isDig] <;> omega)])
        · skip -- L0TtFf
          refine WO.gF rfl rfl (.inl rfl) rfl ?_
          refine WO.gF rfl rfl (.inl rfl) rfl ?_
          refine WO.q (Q.pickF rfl rfl) rfl ?_
          refine WO.q (Q.assign rfl) rfl ?_
          refine WO.nil ?_
          refine End.K ?_
          refine W.sub (SubS.cons (k := 13) rfl (SubS.cons (k := 4) rfl (SubS.cons (k := 3) rfl (SubS.cons (k := 0) rfl (SubS.cons (k := 6) rfl (SubS.cons (k := 7) rfl (SubS.nil _))))))) ?_
          refine W.condF rfl ?_
          refine W.reg ?_
          refine WO.q (Q.move rfl) rfl ?_
          refine WO.q (Q.bin rfl (oc (v := .int .u8 ((95 : Nat) : Int)) rfl) rfl (bv_eql eq_nat)) rfl ?_
          refine WO.q (Q.assign rfl) rfl ?_
          refine WO.nil ?_
          refine End.K ?_
          refine W.condDS rfl (fun hc13 => ?_) (fun hc13 => ?_)
          · skip -- L0TtFfT
            refine W.skip ?_
            refine End.KB (End.KB (End.K ?_))
            refine W.reg ?_
            refine WO.q (Q.bin rfl (oc (v := .int .i64 ((1 : Nat) : Int)) rfl) rfl (bv_add (wn_add (by first | omega | (simp only [List.length_drop, List.length_take, List.length_append, List.length_cons, List.length_nil] at *; omega))))) rfl ?_
            refine WO.q (Q.move rfl) rfl ?_
            refine WO.nil ?_
            refine End.KL ?_
            refine W.sub (SubS.cons rfl (SubS.cons rfl (SubS.cons rfl (SubS.nil _)))) (ih0 (i + 1) ?_ ?_)
            · exact ⟨by omega, by rw [h2, nmAll_step (by omega), ← hd12, and_t (by simp [nmc, isAl, isDig] <;> omega)]⟩
            · exact (by first | omega | (simp only [List.length_drop, List.length_take, List.length_append, List.length_cons, List.length_nil] at *; omega))
          · skip -- L0TtFfF
            refine W.seq ?_
            refine W.reg ?_
            refine WO.q (Q.move rfl) rfl ?_
            refine WO.q (Q.bin rfl (oc (v := .int .i64 ((0 : Nat) : Int)) rfl) rfl (bv_gtr lt_nat)) rfl ?_
            refine WO.q (Q.move rfl) rfl ?_
            refine WO.splitD (d := 31) rfl (fun hc31 => ?_) (fun hc31 => ?_)
            · skip -- L0TtFfFt
              refine WO.gT rfl rfl ?_
              refine WO.q (Q.move rfl) rfl ?_
              refine WO.gT rfl rfl ?_
              refine WO.q (Q.bin rfl (oc (v := .int .u8 ((48 : Nat) : Int)) rfl) rfl (bv_geq le_nat)) rfl ?_
              refine WO.q (Q.pickT rfl rfl) rfl ?_
              refine WO.q (Q.move rfl) rfl ?_
              refine WO.splitD (d := 35) rfl (fun hc35 => ?_) (fun hc35 => ?_)
              · skip -- L0TtFfFtt
                refine WO.gT rfl rfl ?_
                refine WO.q (Q.move rfl) rfl ?_
                refine WO.gT rfl rfl ?_
                refine WO.q (Q.bin rfl (oc (v := .int .u8 ((57 : Nat) : Int)) rfl) rfl (bv_leq le_nat)) rfl ?_
                refine WO.q (Q.pickT rfl rfl) rfl ?_
                refine WO.q (Q.assign rfl) rfl ?_
                refine WO.nil ?_
                refine End.K ?_
                refine W.sub (SubS.cons (k := 28) rfl (SubS.cons (k := 0) rfl (SubS.cons (k := 6) rfl (SubS.cons (k := 7) rfl (SubS.nil _))))) ?_
                refine W.condDS rfl (fun hc28 => ?_) (fun hc28 => ?_)
                · skip -- L0TtFfFttT
                  refine W.skip ?_
                  refine End.KB (End.KB (End.K ?_))
                  refine W.reg ?_
                  refine WO.q (Q.bin rfl (oc (v := .int .i64 ((1 : Nat) : Int)) rfl) rfl (bv_add (wn_add (by first | omega | (simp only [List.length_drop, List.length_take, List.length_append, List.length_cons, List.length_nil] at *; omega))))) rfl ?_
                  refine WO.q (Q.move rfl) rfl ?_
                  refine WO.nil ?_
                  refine End.KL ?_
                  refine W.sub (SubS.cons rfl (SubS.cons rfl (SubS.cons rfl (SubS.nil _)))) (ih0 (i + 1) ?_ ?_)
                  · exact ⟨by omega, by rw [h2, nmAll_step (by omega), ← hd12, and_t (by simp [nmc, isAl, isDig] <;> omega)]⟩
                  · exact (by first | omega | (simp only [List.length_drop, List.length_take, List.length_append, List.length_cons, List.length_nil] at *; omega))
                · skip -- L0TtFfFttF
                  refine W.seq ?_
                  refine W.reg ?_
                  refine WO.q (Q.assign rfl) rfl ?_
                  refine WO.nil ?_
                  refine End.K ?_
                  refine W.ret ?_
                  refine End.KB_ret (End.KB_ret (End.K_ret (End.KL_ret (End.KB_ret (End.K_ret (End.retV (ResL.tmp rfl ResL.nil) ?_))))))
                  exact bool_eq (by simp only [nameB]; rw [h2, nmAll_step (by omega), ← hd12, and_f (by simp [nmc, isAl, isDig] <;> omega)])
              · skip -- L0TtFfFtf
                refine WO.gF rfl rfl (.inl rfl) rfl ?_
                refine WO.gF rfl rfl (.inl rfl) rfl ?_
                refine WO.q (Q.pickF rfl rfl) rfl ?_
                refine WO.q (Q.assign rfl) rfl ?_
                refine WO.nil ?_
                refine End.K ?_
                refine W.sub (SubS.cons (k := 28) rfl (SubS.cons (k := 0) rfl (SubS.cons (k := 6) rfl (SubS.cons (k := 7) rfl (SubS.nil _))))) ?_
                refine W.condF rfl ?_
                refine W.seq ?_
                refine W.reg ?_
                refine WO.q (Q.assign rfl) rfl ?_
                refine WO.nil ?_
                refine End.K ?_
                refine W.ret ?_
                refine End.KB_ret (End.KB_ret (End.K_ret (End.KL_ret (End.KB_ret (End.K_ret (End.retV (ResL.tmp rfl ResL.nil) ?_))))))
                exact bool_eq (by simp only [nameB]; rw [h2, nmAll_step (by omega), ← hd12, and_f (by simp [nmc, isAl, isDig] <;> omega)])
            · skip -- L0TtFfFf
              refine WO.gF rfl rfl (.inl rfl) rfl ?_
              refine WO.gF rfl rfl (.inl rfl) rfl ?_
              refine WO.q (Q.pickF rfl rfl) rfl ?_
              refine WO.q (Q.move rfl) rfl ?_
              refine WO.gF rfl rfl (.inl rfl) rfl ?_
              refine WO.gF rfl rfl (.inl rfl) rfl ?_
              refine WO.q (Q.pickF rfl rfl) rfl ?_
              refine WO.q (Q.assign rfl) rfl ?_
              refine WO.nil ?_
              refine End.K ?_
              refine W.sub (SubS.cons (k := 28) rfl (SubS.cons (k := 0) rfl (SubS.cons (k := 6) rfl (SubS.cons (k := 7) rfl (SubS.nil _))))) ?_
              refine W.condF rfl ?_
              refine W.seq ?_
              refine W.reg ?_
              refine WO.q (Q.assign rfl) rfl ?_
              refine WO.nil ?_
              refine End.K ?_
              refine W.ret ?_
              refine End.KB_ret (End.KB_ret (End.K_ret (End.KL_ret (End.KB_ret (End.K_ret (End.retV (ResL.tmp rfl ResL.nil) ?_))))))
              exact bool_eq (by simp only [nameB]; rw [h2, nmAll_step (by omega), ← hd12, and_f (by simp [nmc, isAl, isDig] <;> omega)])
    · skip -- L0Tf
      refine WO.gF rfl rfl (.inl rfl) rfl ?_
      refine WO.gF rfl rfl (.inl rfl) rfl ?_
      refine WO.q (Q.pickF rfl rfl) rfl ?_
      refine WO.q (Q.assign rfl) rfl ?_
      refine WO.nil ?_
      refine End.K ?_
      refine W.sub (SubS.cons (k := 13) rfl (SubS.cons (k := 4) rfl (SubS.cons (k := 3) rfl (SubS.cons (k := 0) rfl (SubS.cons (k := 6) rfl (SubS.cons (k := 7) rfl (SubS.nil _))))))) ?_
      refine W.condF rfl ?_
      refine W.seq ?_
      refine W.reg ?_
      refine WO.q (Q.move rfl) rfl ?_
      refine WO.q (Q.bin rfl (oc (v := .int .u8 ((65 : Nat) : Int)) rfl) rfl (bv_geq le_nat)) rfl ?_
      refine WO.q (Q.move rfl) rfl ?_
      refine WO.splitD (d := 22) rfl (fun hc22 => ?_) (fun hc22 => ?_)
      · skip -- L0Tft
        refine WO.gT rfl rfl ?_
        refine WO.q (Q.move rfl) rfl ?_
        refine WO.gT rfl rfl ?_
        refine WO.q (Q.bin rfl (oc (v := .int .u8 ((90 : Nat) : Int)) rfl) rfl (bv_leq le_nat)) rfl ?_
        refine WO.q (Q.pickT rfl rfl) rfl ?_
        refine WO.q (Q.assign rfl) rfl ?_
        refine WO.nil ?_
        refine End.K ?_
        refine W.sub (SubS.cons (k := 13) rfl (SubS.cons (k := 4) rfl (SubS.cons (k := 3) rfl (SubS.cons (k := 0) rfl (SubS.cons (k := 6) rfl (SubS.cons (k := 7) rfl (SubS.nil _))))))) ?_
        refine W.condDS rfl (fun hc13 => ?_) (fun hc13 => ?_)
        · skip -- L0TftT
          refine W.skip ?_
          refine End.K ?_
          refine W.condT rfl ?_
          refine W.skip ?_
          refine End.KB (End.KB (End.K ?_))
          refine W.reg ?_
          refine WO.q (Q.bin rfl (oc (v := .int .i64 ((1 : Nat) : Int)) rfl) rfl (bv_add (wn_add (by first | omega | (simp only [List.length_drop, List.length_take, List.length_append, List.length_cons, List.length_nil] at *; omega))))) rfl ?_
          refine WO.q (Q.move rfl) rfl ?_
          refine WO.nil ?_
          refine End.KL ?_
          refine W.sub (SubS.cons rfl (SubS.cons rfl (SubS.cons rfl (SubS.nil _)))) (ih0 (i + 1) ?_ ?_)
          · exact ⟨by omega, by rw [h2, nmAll_step (by omega), ← hd12, and_t (by simp [nmc, isAl, isDig] <;> omega)]⟩
          · exact (by first | omega | (simp only [List.length_drop, List.length_take, List.length_append, List.length_cons, List.length_nil] at *; omega))
        · skip -- L0TftF
          refine W.reg ?_
          refine WO.q (Q.move rfl) rfl ?_
          refine WO.q (Q.bin rfl (oc (v := .int .u8 ((95 : Nat) : Int)) rfl) rfl (bv_eql eq_nat)) rfl ?_
          refine WO.q (Q.assign rfl) rfl ?_
          refine WO.nil ?_
          refine End.K ?_
          refine W.condDS rfl (fun hc13 => ?_) (fun hc13 => ?_)
          · skip -- L0TftFT
            refine W.skip ?_
            refine End.KB (End.KB (End.K ?_))
            refine W.reg ?_
            refine WO.q (Q.bin rfl (oc (v := .int .i64 ((1 : Nat) : Int)) rfl) rfl (bv_add (wn_add (by first | omega | (simp only [List.length_drop, List.length_take, List.length_append, List.length_cons, List.length_nil] at *; omega))))) rfl ?_
            refine WO.q (Q.move rfl) rfl ?_
            refine WO.nil ?_
            refine End.KL ?_
            refine W.sub (SubS.cons rfl (SubS.cons rfl (SubS.cons rfl (SubS.nil _)))) (ih0 (i + 1) ?_ ?_)
            · exact ⟨by omega, by rw [h2, nmAll_step (by omega), ← hd12, and_t (by simp [nmc, isAl, isDig] <;> omega)]⟩
            · exact (by first | omega | (simp only [List.length_drop, List.length_take, List.length_append, List.length_cons, List.length_nil] at *; omega))
          · skip -- L0TftFF
            refine W.seq ?_
            refine W.reg ?_
            refine WO.q (Q.move rfl) rfl ?_
            refine WO.q (Q.bin rfl (oc (v := .int .i64 ((0 : Nat) : Int)) rfl) rfl (bv_gtr lt_nat)) rfl ?_
            refine WO.q (Q.move rfl) rfl ?_
            refine WO.splitD (d := 31) rfl (fun hc31 => ?_) (fun hc31 => ?_)
            · skip -- L0TftFFt
              refine WO.gT rfl rfl ?_
              refine WO.q (Q.move rfl) rfl ?_
              refine WO.gT rfl rfl ?_
              refine WO.q (Q.bin rfl (oc (v := .int .u8 ((48 : Nat) : Int)) rfl) rfl (bv_geq le_nat)) rfl ?_
              refine WO.q (Q.pickT rfl rfl) rfl ?_
              refine WO.q (Q.move rfl) rfl ?_
              refine WO.splitD (d := 35) rfl (fun hc35 => ?_) (fun hc35 => ?_)
              · skip -- L0TftFFtt
                refine WO.gT rfl rfl ?_
                refine WO.q (Q.move rfl) rfl ?_
                refine WO.gT rfl rfl ?_
                refine WO.q (Q.bin rfl (oc (v := .int .u8 ((57 : Nat) : Int)) rfl) rfl (bv_leq le_nat)) rfl ?_
                refine WO.q (Q.pickT rfl rfl) rfl ?_
                refine WO.q (Q.assign rfl) rfl ?_
                refine WO.nil ?_
                refine End.K ?_
                refine W.sub (SubS.cons (k := 28) rfl (SubS.cons (k := 0) rfl (SubS.cons (k := 6) rfl (SubS.cons (k := 7) rfl (SubS.nil _))))) ?_
                refine W.condDS rfl (fun hc28 => ?_) (fun hc28 => ?_)
                · skip -- L0TftFFttT
                  refine W.skip ?_
                  refine End.KB (End.KB (End.K ?_))
                  refine W.reg ?_
                  refine WO.q (Q.bin rfl (oc (v := .int .i64 ((1 : Nat) : Int)) rfl) rfl (bv_add (wn_add (by first | omega | (simp only [List.length_drop, List.length_take, List.length_append, List.length_cons, List.length_nil] at *; omega))))) rfl ?_
                  refine WO.q (Q.move rfl) rfl ?_
                  refine WO.nil ?_
                  refine End.KL ?_
                  refine W.sub (SubS.cons rfl (SubS.cons rfl (SubS.cons rfl (SubS.nil _)))) (ih0 (i + 1) ?_ ?_)
                  · exact ⟨by omega, by rw [h2, nmAll_step (by omega), ← hd12, and_t (by simp [nmc, isAl, isDig] <;> omega)]⟩
                  · exact (by first | omega | (simp only [List.length_drop, List.length_take, List.length_append, List.length_cons, List.length_nil] at *; omega))
                · skip -- L0TftFFttF
                  refine W.seq ?_
                  refine W.reg ?_
                  refine WO.q (Q.assign rfl) rfl ?_
                  refine WO.nil ?_
                  refine End.K ?_
                  refine W.ret ?_
                  refine End.KB_ret (End.KB_ret (End.K_ret (End.KL_ret (End.KB_ret (End.K_ret (End.retV (ResL.tmp rfl ResL.nil) ?_))))))
                  exact bool_eq (by simp only [nameB]; rw [h2, nmAll_step (by omega), ← hd12, and_f (by simp [nmc, isAl, isDig] <;> omega)])
              · skip -- L0TftFFtf
                refine WO.gF rfl rfl (.inl rfl) rfl ?_
                refine WO.gF rfl rfl (.inl rfl) rfl ?_
                refine WO.q (Q.pickF rfl rfl) rfl ?_
                refine WO.q (Q.assign rfl) rfl ?_
                refine WO.nil ?_
                refine End.K ?_
                refine W.sub (SubS.cons (k := 28) rfl (SubS.cons (k := 0) rfl (SubS.cons (k := 6) rfl (SubS.cons (k := 7) rfl (SubS.nil _))))) ?_
                refine W.condF rfl ?_
                refine W.seq ?_
                refine W.reg ?_
                refine WO.q (Q.assign rfl) rfl ?_
                refine WO.nil ?_
                refine End.K ?_
                refine W.ret ?_
                refine End.KB_ret (End.KB_ret (End.K_ret (End.KL_ret (End.KB_ret (End.K_ret (End.retV (ResL.tmp rfl ResL.nil) ?_))))))
                exact bool_eq (by simp only [nameB]; rw [h2, nmAll_step (by omega), ← hd12, and_f (by simp [nmc, isAl, isDig] <;> omega)])
            · skip -- L0TftFFf
              refine WO.gF rfl rfl (.inl rfl) rfl ?_
              refine WO.gF rfl rfl (.inl rfl) rfl ?_
              refine WO.q (Q.pickF rfl rfl) rfl ?_
              refine WO.q (Q.move rfl) rfl ?_
              refine WO.gF rfl rfl (.inl rfl) rfl ?_
              refine WO.gF rfl rfl (.inl rfl) rfl ?_
              refine WO.q (Q.pickF rfl rfl) rfl ?_
              refine WO.q (Q.assign rfl) rfl ?_
              refine WO.nil ?_
              refine End.K ?_
              refine W.sub (SubS.cons (k := 28) rfl (SubS.cons (k := 0) rfl (SubS.cons (k := 6) rfl (SubS.cons (k := 7) rfl (SubS.nil _))))) ?_
              refine W.condF rfl ?_
              refine W.seq ?_
              refine W.reg ?_
              refine WO.q (Q.assign rfl) rfl ?_
              refine WO.nil ?_
              refine End.K ?_
              refine W.ret ?_
              refine End.KB_ret (End.KB_ret (End.K_ret (End.KL_ret (End.KB_ret (End.K_ret (End.retV (ResL.tmp rfl ResL.nil) ?_))))))
              exact bool_eq (by simp only [nameB]; rw [h2, nmAll_step (by omega), ← hd12, and_f (by simp [nmc, isAl, isDig] <;> omega)])
      · skip -- L0Tff
        refine WO.gF rfl rfl (.inl rfl) rfl ?_
        refine WO.gF rfl rfl (.inl rfl) rfl ?_
        refine WO.q (Q.pickF rfl rfl) rfl ?_
        refine WO.q (Q.assign rfl) rfl ?_
        refine WO.nil ?_
        refine End.K ?_
        refine W.sub (SubS.cons (k := 13) rfl (SubS.cons (k := 4) rfl (SubS.cons (k := 3) rfl (SubS.cons (k := 0) rfl (SubS.cons (k := 6) rfl (SubS.cons (k := 7) rfl (SubS.nil _))))))) ?_
        refine W.condF rfl ?_
        refine W.reg ?_
        refine WO.q (Q.move rfl) rfl ?_
        refine WO.q (Q.bin rfl (oc (v := .int .u8 ((95 : Nat) : Int)) rfl) rfl (bv_eql eq_nat)) rfl ?_
        refine WO.q (Q.assign rfl) rfl ?_
        refine WO.nil ?_
        refine End.K ?_
        refine W.condDS rfl (fun hc13 => ?_) (fun hc13 => ?_)
        · skip -- L0TffT
          refine W.skip ?_
          refine End.KB (End.KB (End.K ?_))
          refine W.reg ?_
          refine WO.q (Q.bin rfl (oc (v := .int .i64 ((1 : Nat) : Int)) rfl) rfl (bv_add (wn_add (by first | omega | (simp only [List.length_drop, List.length_take, List.length_append, List.length_cons, List.length_nil] at *; omega))))) rfl ?_
          refine WO.q (Q.move rfl) rfl ?_
          refine WO.nil ?_
          refine End.KL ?_
          refine W.sub (SubS.cons rfl (SubS.cons rfl (SubS.cons rfl (SubS.nil _)))) (ih0 (i + 1) ?_ ?_)
          · exact ⟨by omega, by rw [h2, nmAll_step (by omega), ← hd12, and_t (by simp [nmc, isAl, isDig] <;> omega)]⟩
          · exact (by first | omega | (simp only [List.length_drop, List.length_take, List.length_append, List.length_cons, List.length_nil] at *; omega))
        · skip -- L0TffF
          refine W.seq ?_
          refine W.reg ?_
          refine WO.q (Q.move rfl) rfl ?_
          refine WO.q (Q.bin rfl (oc (v := .int .i64 ((0 : Nat) : Int)) rfl) rfl (bv_gtr lt_nat)) rfl ?_
          refine WO.q (Q.move rfl) rfl ?_
          refine WO.splitD (d := 31) rfl (fun hc31 => ?_) (fun hc31 => ?_)
          · skip -- L0TffFt
            refine WO.gT rfl rfl ?_
            refine WO.q (Q.move rfl) rfl ?_
            refine WO.gT rfl rfl ?_
            refine WO.q (Q.bin rfl (oc (v := .int .u8 ((48 : Nat) : Int)) rfl) rfl (bv_geq le_nat)) rfl ?_
            refine WO.q (Q.pickT rfl rfl) rfl ?_
            refine WO.q (Q.move rfl) rfl ?_
            refine WO.splitD (d := 35) rfl (fun hc35 => ?_) (fun hc35 => ?_)
            · skip -- L0TffFtt
              refine WO.gT rfl rfl ?_
              refine WO.q (Q.move rfl) rfl ?_
              refine WO.gT rfl rfl ?_
              refine WO.q (Q.bin rfl (oc (v := .int .u8 ((57 : Nat) : Int)) rfl) rfl (bv_leq le_nat)) rfl ?_
              refine WO.q (Q.pickT rfl rfl) rfl ?_
              refine WO.q (Q.assign rfl) rfl ?_
              refine WO.nil ?_
              refine End.K ?_
              refine W.sub (SubS.cons (k := 28) rfl (SubS.cons (k := 0) rfl (SubS.cons (k := 6) rfl (SubS.cons (k := 7) rfl (SubS.nil _))))) ?_
              refine W.condDS rfl (fun hc28 => ?_) (fun hc28 => ?_)
              · skip -- L0TffFttT
                refine W.skip ?_
                refine End.KB (End.KB (End.K ?_))
                refine W.reg ?_
                refine WO.q (Q.bin rfl (oc (v := .int .i64 ((1 : Nat) : Int)) rfl) rfl (bv_add (wn_add (by first | omega | (simp only [List.length_drop, List.length_take, List.length_append, List.length_cons, List.length_nil] at *; omega))))) rfl ?_
                refine WO.q (Q.move rfl) rfl ?_
                refine WO.nil ?_
                refine End.KL ?_
                refine W.sub (SubS.cons rfl (SubS.cons rfl (SubS.cons rfl (SubS.nil _)))) (ih0 (i + 1) ?_ ?_)
                · exact ⟨by omega, by rw [h2, nmAll_step (by omega), ← hd12, and_t (by simp [nmc, isAl, isDig] <;> omega)]⟩
                · exact (by first | omega | (simp only [List.length_drop, List.length_take, List.length_append, List.length_cons, List.length_nil] at *; omega))
              · skip -- L0TffFttF
                refine W.seq ?_
                refine W.reg ?_
                refine WO.q (Q.assign rfl) rfl ?_
                refine WO.nil ?_
                refine End.K ?_
                refine W.ret ?_
                refine End.KB_ret (End.KB_ret (End.K_ret (End.KL_ret (End.KB_ret (End.K_ret (End.retV (ResL.tmp rfl ResL.nil) ?_))))))
                exact bool_eq (by simp only [nameB]; rw [h2, nmAll_step (by omega), ← hd12, and_f (by simp [nmc, isAl, isDig] <;> omega)])
            · skip -- L0TffFtf
              refine WO.gF rfl rfl (.inl rfl) rfl ?_
              refine WO.gF rfl rfl (.inl rfl) rfl ?_
              refine WO.q (Q.pickF rfl rfl) rfl ?_
              refine WO.q (Q.assign rfl) rfl ?_
              refine WO.nil ?_
              refine End.K ?_
              refine W.sub (SubS.cons (k := 28) rfl (SubS.cons (k := 0) rfl (SubS.cons (k := 6) rfl (SubS.cons (k := 7) rfl (SubS.nil _))))) ?_
              refine W.condF rfl ?_
              refine W.seq ?_
              refine W.reg ?_
              refine WO.q (Q.assign rfl) rfl ?_
              refine WO.nil ?_
              refine End.K ?_
              refine W.ret ?_
              refine End.KB_ret (End.KB_ret (End.K_ret (End.KL_ret (End.KB_ret (End.K_ret (End.retV (ResL.tmp rfl ResL.nil) ?_))))))
              exact bool_eq (by simp only [nameB]; rw [h2, nmAll_step (by omega), ← hd12, and_f (by simp [nmc, isAl, isDig] <;> omega)])
          · skip -- L0TffFf
            refine WO.gF rfl rfl (.inl rfl) rfl ?_
            refine WO.gF rfl rfl (.inl rfl) rfl ?_
            refine WO.q (Q.pickF rfl rfl) rfl ?_
            refine WO.q (Q.move rfl) rfl ?_
            refine WO.gF rfl rfl (.inl rfl) rfl ?_
            refine WO.gF rfl rfl (.inl rfl) rfl ?_
            refine WO.q (Q.pickF rfl rfl) rfl ?_
            refine WO.q (Q.assign rfl) rfl ?_
            refine WO.nil ?_
            refine End.K ?_
            refine W.sub (SubS.cons (k := 28) rfl (SubS.cons (k := 0) rfl (SubS.cons (k := 6) rfl (SubS.cons (k := 7) rfl (SubS.nil _))))) ?_
            refine W.condF rfl ?_
            refine W.seq ?_
            refine W.reg ?_
            refine WO.q (Q.assign rfl) rfl ?_
            refine WO.nil ?_
            refine End.K ?_
            refine W.ret ?_
            refine End.KB_ret (End.KB_ret (End.K_ret (End.KL_ret (End.KB_ret (End.K_ret (End.retV (ResL.tmp rfl ResL.nil) ?_))))))
            exact bool_eq (by simp only [nameB]; rw [h2, nmAll_step (by omega), ← hd12, and_f (by simp [nmc, isAl, isDig] <;> omega)])
  · skip -- L0F
    refine W.exit ?_
    refine End.K_exit (End.KL_exit (End.KB_hit (End.K ?_)))
    refine W.seq ?_
    refine W.reg ?_
    refine WO.q (Q.move rfl) rfl ?_
    refine WO.q (Q.bin rfl (oc (v := .str []) (by kernel_rfl)) rfl bv_sneq) rfl ?_
    refine WO.q (Q.move rfl) rfl ?_
    refine WO.splitD (d := 42) rfl (fun hc42 => ?_) (fun hc42 => ?_)
    · skip -- L0Ft
      refine WO.gT rfl rfl ?_
      refine WO.q (Q.move rfl) rfl ?_
      refine WO.gT rfl rfl ?_
      refine WO.q (Q.len ud9 rfl rfl) rfl ?_
      refine WO.gT rfl rfl ?_
      refine WO.q (Q.bin rfl (oc (v := .int .i64 ((32 : Nat) : Int)) rfl) rfl (bv_leq le_nat)) rfl ?_
      refine WO.q (Q.pickT rfl rfl) rfl ?_
      refine WO.q (Q.assign rfl) rfl ?_
      refine WO.nil ?_
      refine End.K ?_
      refine W.sub (SubS.cons (k := 2) rfl (SubS.nil _)) ?_
      refine W.ret ?_
      refine End.retV (ResL.tmp rfl ResL.nil) ?_
      exact bool_eq (by simp only [nameB]; rw [h2, List.drop_eq_nil_of_le (by omega)]; simp [nmAll]; simp_all)
    · skip -- L0Ff
      refine WO.gF rfl rfl (.inl rfl) rfl ?_
      refine WO.gF rfl rfl (.inl rfl) rfl ?_
      refine WO.gF rfl rfl (.inl rfl) rfl ?_
      refine WO.q (Q.pickF rfl rfl) rfl ?_
      refine WO.q (Q.assign rfl) rfl ?_
      refine WO.nil ?_
      refine End.K ?_
      refine W.sub (SubS.cons (k := 2) rfl (SubS.nil _)) ?_
      refine W.ret ?_
      refine End.retV (ResL.tmp rfl ResL.nil) ?_
      exact bool_eq (by simp_all [nameB])

theorem value_no (s : List Nat) (hs : Bytes s) (hl : s.length ≤ 1073741824) (hp : hasP s [34] = false) : Spec tab 53 [.str s] [] [] (Val (.tuple [.str [], .str [], .bool false])) := by
  refine Spec.enter' (ft_get 53 Tryd.func53) rfl (m := 78) rfl (rs := [.tmp 2, .tmp 3, .tmp 4]) rfl (st := [(0, .str s)]) rfl rfl (fun _ => rfl) (fun E => ?_)
  refine W.seq ?_
  refine W.reg ?_
  refine WO.q (Q.assign (oc (v := .str []) (by kernel_rfl))) rfl ?_
  refine WO.q (Q.assign (oc (v := .str []) (by kernel_rfl))) rfl ?_
  refine WO.q (Q.assign rfl) rfl ?_
  refine WO.nil ?_
  refine End.K ?_
  refine W.seq ?_
  refine W.reg ?_
  refine WO.q (Q.move rfl) rfl ?_
  refine WO.callV rfl (oLs_cons rfl (oLs_cons (oc (v := .str [34]) (by kernel_rfl)) oLs_nil)) rfl (cutP_no _ _ hs (by unfold Bytes; decide) hl (by decide) hp) SubR.nil rfl ?_
  refine WO.q (Q.move rfl) rfl ?_
  refine WO.q (Q.extract rfl rfl) rfl ?_
  refine WO.q (Q.extract rfl rfl) rfl ?_
  refine WO.q (Q.assign rfl) rfl ?_
  refine WO.q (Q.assign rfl) rfl ?_
  refine WO.nil ?_
  refine End.K ?_
  refine W.sub (SubS.cons (k := 6) rfl (SubS.cons (k := 5) rfl (SubS.nil _))) ?_
  refine W.seq ?_
  refine W.reg ?_
  refine WO.q (Q.assign rfl) rfl ?_
  refine WO.nil ?_
  refine End.K ?_
  refine W.seq ?_
  refine W.block ?_
  refine W.loop ?_
  refine W.seq ?_
  refine W.seq ?_
  refine W.reg ?_
  refine WO.q (Q.move rfl) rfl ?_
  refine WO.q (Q.move rfl) rfl ?_
  refine WO.gF rfl rfl (.inl rfl) rfl ?_
  refine WO.gF rfl rfl (.inl rfl) rfl ?_
  refine WO.q (Q.pickF rfl rfl) rfl ?_
  refine WO.q (Q.move rfl) rfl ?_
  refine WO.gF rfl rfl (.inl rfl) rfl ?_
  refine WO.gF rfl rfl (.inl rfl) rfl ?_
  refine WO.gF rfl rfl (.inl rfl) rfl ?_
  refine WO.q (Q.pickF rfl rfl) rfl ?_
  refine WO.nil ?_
  refine End.K ?_
  refine W.sub (SubS.cons (k := 25) rfl (SubS.cons (k := 7) rfl (SubS.cons (k := 6) rfl (SubS.cons (k := 5) rfl (SubS.nil _))))) ?_
  refine W.condF rfl ?_
  refine W.exit ?_
  refine End.K_exit (End.KL_exit (End.KB_hit (End.K ?_)))
  refine W.seq ?_
  refine W.seq ?_
  refine W.reg ?_
  refine WO.q (Q.move rfl) rfl ?_
  refine WO.q (Q.not rfl rfl) rfl ?_
  refine WO.q (Q.move rfl) rfl ?_
  refine WO.gF rfl rfl (.inl rfl) rfl ?_
  refine WO.gF rfl rfl (.inl rfl) rfl ?_
  refine WO.q (Q.pickT rfl rfl) rfl ?_
  refine WO.nil ?_
  refine End.K ?_
  refine W.sub (SubS.cons (k := 73) rfl (SubS.cons (k := 7) rfl (SubS.cons (k := 5) rfl (SubS.nil _)))) ?_
  refine W.condT rfl ?_
  refine W.seq ?_
  refine W.reg ?_
  refine WO.q (Q.assign (oc (v := .str []) (by kernel_rfl))) rfl ?_
  refine WO.q (Q.assign (oc (v := .str []) (by kernel_rfl))) rfl ?_
  refine WO.q (Q.assign rfl) rfl ?_
  refine WO.nil ?_
  refine End.K ?_
  refine W.ret ?_
  refine End.K_ret (End.retV (ResL.tmp rfl (ResL.tmp rfl (ResL.tmp rfl ResL.nil))) ?_)
  rfl

theorem value_yes (s : List Nat) (hs : Bytes s) (hl : s.length ≤ 1073741824) (hp : hasP s [34] = true) : Spec tab 53 [.str s] [] [] (Val (valV (valF s.length (s.drop 1) []))) := by
  refine Spec.enter' (ft_get 53 Tryd.func53) rfl (m := 78) rfl (rs := [.tmp 2, .tmp 3, .tmp 4]) rfl (st := [(0, .str s)]) rfl rfl (fun _ => rfl) (fun E => ?_)
  refine W.seq ?_
  refine W.reg ?_
  refine WO.q (Q.assign (oc (v := .str []) (by kernel_rfl))) rfl ?_
  refine WO.q (Q.assign (oc (v := .str []) (by kernel_rfl))) rfl ?_
  refine WO.q (Q.assign rfl) rfl ?_
  refine WO.nil ?_
  refine End.K ?_
  refine W.seq ?_
  refine W.reg ?_
  refine WO.q (Q.move rfl) rfl ?_
  refine WO.callV rfl (oLs_cons rfl (oLs_cons (oc (v := .str [34]) (by kernel_rfl)) oLs_nil)) rfl (cutP_yes _ _ hs (by unfold Bytes; decide) hl (by decide) hp) SubR.nil rfl ?_
  refine WO.q (Q.move rfl) rfl ?_
  refine WO.q (Q.extract rfl rfl) rfl ?_
  refine WO.q (Q.extract rfl rfl) rfl ?_
  refine WO.q (Q.assign rfl) rfl ?_
  refine WO.q (Q.assign rfl) rfl ?_
  refine WO.nil ?_
  refine End.K ?_
  refine W.sub (SubS.cons (k := 6) rfl (SubS.cons (k := 5) rfl (SubS.nil _))) ?_
  refine W.seq ?_
  refine W.reg ?_
  refine WO.q (Q.assign rfl) rfl ?_
  refine WO.nil ?_
  refine End.K ?_
  refine W.seq ?_
  refine W.block ?_
  refine W.loop_ind5 (fun (k : Nat) (acc : List Nat) (rest : List Nat) (v : AV) (hp : HSt) => [(5, .str rest), (6, .bool true), (7, v)]) (fun (k : Nat) (acc : List Nat) (rest : List Nat) (v : AV) (hp : HSt) => hp) (fun (k : Nat) (acc : List Nat) (rest : List Nat) (v : AV) (hp : HSt) => Bytes acc ∧ Bytes rest ∧ rest.length ≤ k ∧ Own 1 (u8c acc) acc.length v hp ∧ valF s.length (s.drop 1) [] = valF k rest acc ∧ acc.length + rest.length ≤ s.length) (fun (k : Nat) (acc : List Nat) (rest : List Nat) (v : AV) (hp : HSt) => rest.length) (s.length) ([]) (s.drop 1) (.nils) ([]) ⟨by intro c h; simp at h, Bytes.drop hs 1, by simp, Own.nil 1, rfl, by simp⟩ (SubS.cons rfl (SubS.cons rfl (SubS.cons rfl (SubS.nil _)))) (SubH.refl _) (fun k acc rest v hp hI0 ih0 => ?_)
  obtain ⟨ha, hr, hk, hO, hv, hle⟩ := hI0
  refine W.seq ?_
  refine W.seq ?_
  refine W.reg ?_
  refine WO.q (Q.move rfl) rfl ?_
  refine WO.q (Q.move rfl) rfl ?_
  refine WO.gT rfl rfl ?_
  refine WO.q (Q.move rfl) rfl ?_
  refine WO.gT rfl rfl ?_
  refine WO.q (Q.bin rfl (oc (v := .str []) (by kernel_rfl)) rfl bv_sneq) rfl ?_
  refine WO.q (Q.pickT rfl rfl) rfl ?_
  refine WO.q (Q.move rfl) rfl ?_
  refine WO.splitD (d := 21) rfl (fun hc21 => ?_) (fun hc21 => ?_)
  · skip -- L0t
    have hpos : 0 < rest.length := ne_pos hc21
    obtain ⟨k, rfl⟩ : ∃ q, k = q + 1 := ⟨k - 1, by omega⟩
    refine WO.gT rfl rfl ?_
    refine WO.q (Q.move rfl) rfl ?_
    refine WO.gT rfl rfl ?_
    refine WO.indexB hr ud9 rfl (oc (v := .int .i64 ((0 : Nat) : Int)) rfl) (by first | omega | (simp only [List.length_drop, List.length_take, List.length_append, List.length_cons, List.length_nil] at *; omega)) rfl (fun c23 hd23 hb23 => ?_)
    refine WO.gT rfl rfl ?_
    refine WO.q (Q.bin rfl (oc (v := .int .u8 ((34 : Nat) : Int)) rfl) rfl (bv_neq ne_nat)) rfl ?_
    refine WO.q (Q.pickT rfl rfl) rfl ?_
    refine WO.nil ?_
    refine End.K ?_
    refine W.sub (SubS.cons (k := 25) rfl (SubS.cons (k := 5) rfl (SubS.cons (k := 6) rfl (SubS.cons (k := 7) rfl (SubS.nil _))))) ?_
    refine W.condDS rfl (fun hc25 => ?_) (fun hc25 => ?_)
    · skip -- L0tT
      refine W.skip ?_
      refine End.K ?_
      refine W.block ?_
      refine W.seq ?_
      refine W.reg ?_
      refine WO.q (Q.assign (oc (v := .int .i64 ((1 : Nat) : Int)) rfl)) rfl ?_
      refine WO.nil ?_
      refine End.K ?_
      refine W.seq ?_
      refine W.seq ?_
      refine W.reg ?_
      refine WO.q (Q.move rfl) rfl ?_
      refine WO.indexB hr ud9 rfl (oc (v := .int .i64 ((0 : Nat) : Int)) rfl) (by first | omega | (simp only [List.length_drop, List.length_take, List.length_append, List.length_cons, List.length_nil] at *; omega)) rfl (fun c27 hd27 hb27 => ?_)
      refine WO.q (Q.bin rfl (oc (v := .int .u8 ((92 : Nat) : Int)) rfl) rfl (bv_eql eq_nat)) rfl ?_
      refine WO.nil ?_
      refine End.K ?_
      refine W.condDS rfl (fun hc28 => ?_) (fun hc28 => ?_)
      · skip -- L0tTT
        refine W.seq ?_
        refine W.reg ?_
        refine WO.q (Q.assign (oc (v := .int .i64 ((2 : Nat) : Int)) rfl)) rfl ?_
        refine WO.nil ?_
        refine End.K ?_
        refine W.seq ?_
        refine W.reg ?_
        refine WO.q (Q.move rfl) rfl ?_
        refine WO.callV rfl (oLs_cons rfl (oLs_cons (oc (v := .str [92, 120]) (by kernel_rfl)) oLs_nil)) rfl (hasP_spec _ _ hr (by unfold Bytes; decide) (by first | omega | (simp only [List.length_drop, List.length_take, List.length_append, List.length_cons, List.length_nil] at *; omega)) (by decide)) SubR.nil rfl ?_
        refine WO.nil ?_
        refine End.K ?_
        refine W.condS rfl (fun hc30 => ?_) (fun hc30 => ?_)
        · skip -- L0tTTT
          refine W.reg ?_
          refine WO.q (Q.assign (oc (v := .int .i64 ((4 : Nat) : Int)) rfl)) rfl ?_
          refine WO.nil ?_
          refine End.K ?_
          refine W.sub (SubS.cons (k := 8) rfl (SubS.cons (k := 5) rfl (SubS.cons (k := 6) rfl (SubS.cons (k := 7) rfl (SubS.nil _))))) ?_
          refine W.seq ?_
          refine W.seq ?_
          refine W.reg ?_
          refine WO.q (Q.move rfl) rfl ?_
          refine WO.q (Q.len ud9 rfl rfl) rfl ?_
          refine WO.q (Q.move rfl) rfl ?_
          refine WO.q (Q.bin rfl rfl rfl (bv_lss lt_nat)) rfl ?_
          refine WO.nil ?_
          refine End.K ?_
          refine W.condDS rfl (fun hc34 => ?_) (fun hc34 => ?_)
          · skip -- L0tTTTT
            refine W.seq ?_
            refine W.reg ?_
            refine WO.q (Q.assign (oc (v := .str []) (by kernel_rfl))) rfl ?_
            refine WO.q (Q.assign (oc (v := .str []) (by kernel_rfl))) rfl ?_
            refine WO.q (Q.assign rfl) rfl ?_
            refine WO.nil ?_
            refine End.K ?_
            refine W.sub (SubS.cons (k := 4) rfl (SubS.cons (k := 3) rfl (SubS.cons (k := 2) rfl (SubS.nil _)))) ?_
            refine W.ret ?_
            refine End.K_ret (End.KB_ret (End.KL_ret (End.KB_ret (End.K_ret (End.retV (ResL.tmp rfl (ResL.tmp rfl (ResL.tmp rfl ResL.nil))) ?_)))))
            clear ih0; exact val_none (by rw [hv]; simp_all [valF, hexL])
          · skip -- L0tTTTF
            refine W.skip ?_
            refine End.K ?_
            refine W.seq ?_
            refine W.seq ?_
            refine W.reg ?_
            refine WO.q (Q.move rfl) rfl ?_
            refine WO.nil ?_
            refine End.K ?_
            refine W.block ?_
            refine W.seq ?_
            refine W.reg ?_
            refine WO.q (Q.bin rfl (oc (v := .int .i64 ((4 : Nat) : Int)) rfl) rfl (bv_eql (p := true) rfl)) rfl ?_
            refine WO.q (Q.assign rfl) rfl ?_
            refine WO.nil ?_
            refine End.K ?_
            refine W.sub (SubS.cons (k := 43) rfl (SubS.cons (k := 8) rfl (SubS.cons (k := 5) rfl (SubS.cons (k := 6) rfl (SubS.cons (k := 7) rfl (SubS.nil _)))))) ?_
            refine W.condT rfl ?_
            refine W.seq ?_
            refine W.regD 5 _ (by kernel_rfl) (KIn.refl _) ?_
            refine WD.q (Q.move rfl) bq_str rfl ?_
            refine WD.indexB hr ud9 rfl (oc (v := .int .i64 ((2 : Nat) : Int)) rfl) (by first | omega | (simp only [List.length_drop, List.length_take, List.length_append, List.length_cons, List.length_nil] at *; omega)) rfl (fun c46 hd46 hb46 => ?_)
            refine WD.callV rfl (oLs_cons (oc (v := .str [48, 49, 50, 51, 52, 53, 54, 55, 56, 57, 97, 98, 99, 100, 101, 102]) (by kernel_rfl)) (oLs_cons rfl oLs_nil)) rfl (ixB0_spec _ _) SubR.nil (KIn.refl _) rfl ?_
            refine WD.q (Q.move rfl) bq_str rfl ?_
            refine WD.indexB hr ud9 rfl (oc (v := .int .i64 ((3 : Nat) : Int)) rfl) (by first | omega | (simp only [List.length_drop, List.length_take, List.length_append, List.length_cons, List.length_nil] at *; omega)) rfl (fun c49 hd49 hb49 => ?_)
            refine WD.callV rfl (oLs_cons (oc (v := .str [48, 49, 50, 51, 52, 53, 54, 55, 56, 57, 97, 98, 99, 100, 101, 102]) (by kernel_rfl)) (oLs_cons rfl oLs_nil)) rfl (ixB0_spec _ _) SubR.nil (KIn.refl _) rfl ?_
            refine WD.q (Q.assign rfl) bq_int rfl ?_
            refine WD.q (Q.assign rfl) bq_int rfl ?_
            refine WD.nil ?_
            refine End.K ?_
            refine W.sub (SubS.cons (k := 10) rfl (SubS.cons (k := 9) rfl (SubS.cons (k := 8) rfl (SubS.cons (k := 5) rfl (SubS.cons (k := 6) rfl (SubS.cons (k := 7) rfl (SubS.nil _))))))) ?_
            refine W.seq ?_
            refine W.seq ?_
            refine W.reg ?_
            refine WO.q (Q.move rfl) rfl ?_
            refine WO.q (Q.bin rfl (oc (v := .int .i64 ((0 : Nat) : Int)) rfl) rfl (bv_lss (ltA_eq _ _))) rfl ?_
            refine WO.q (Q.move rfl) rfl ?_
            refine WO.splitD (d := 53) rfl (fun hc53 => ?_) (fun hc53 => ?_)
            · skip -- L0tTTTFt
              refine WO.gF rfl rfl (.inl rfl) rfl ?_
              refine WO.gF rfl rfl (.inl rfl) rfl ?_
              refine WO.q (Q.pickT rfl rfl) rfl ?_
              refine WO.nil ?_
              refine End.K ?_
              refine W.condT rfl ?_
              refine W.seq ?_
              refine W.reg ?_
              refine WO.q (Q.assign (oc (v := .str []) (by kernel_rfl))) rfl ?_
              refine WO.q (Q.assign (oc (v := .str []) (by kernel_rfl))) rfl ?_
              refine WO.q (Q.assign rfl) rfl ?_
              refine WO.nil ?_
              refine End.K ?_
              refine W.sub (SubS.cons (k := 4) rfl (SubS.cons (k := 3) rfl (SubS.cons (k := 2) rfl (SubS.nil _)))) ?_
              refine W.ret ?_
              refine End.K_ret (End.KB_ret (End.K_ret (End.KB_ret (End.KL_ret (End.KB_ret (End.K_ret (End.retV (ResL.tmp rfl (ResL.tmp rfl (ResL.tmp rfl ResL.nil))) ?_)))))))
              clear ih0; exact val_none (by rw [hv]; simp_all [valF, hexL])
            · skip -- L0tTTTFf
              refine WO.gT rfl rfl ?_
              refine WO.q (Q.move rfl) rfl ?_
              refine WO.gT rfl rfl ?_
              refine WO.q (Q.bin rfl (oc (v := .int .i64 ((0 : Nat) : Int)) rfl) rfl (bv_lss (ltA_eq _ _))) rfl ?_
              refine WO.q (Q.pickF rfl rfl) rfl ?_
              refine WO.nil ?_
              refine End.K ?_
              refine W.condDS rfl (fun hc56 => ?_) (fun hc56 => ?_)
              · skip -- L0tTTTFfT
                refine W.seq ?_
                refine W.reg ?_
                refine WO.q (Q.assign (oc (v := .str []) (by kernel_rfl))) rfl ?_
                refine WO.q (Q.assign (oc (v := .str []) (by kernel_rfl))) rfl ?_
                refine WO.q (Q.assign rfl) rfl ?_
                refine WO.nil ?_
                refine End.K ?_
                refine W.sub (SubS.cons (k := 4) rfl (SubS.cons (k := 3) rfl (SubS.cons (k := 2) rfl (SubS.nil _)))) ?_
                refine W.ret ?_
                refine End.K_ret (End.KB_ret (End.K_ret (End.KB_ret (End.KL_ret (End.KB_ret (End.K_ret (End.retV (ResL.tmp rfl (ResL.tmp rfl (ResL.tmp rfl ResL.nil))) ?_)))))))
                clear ih0; exact val_none (by rw [hv]; simp_all [valF, hexL])
              · skip -- L0tTTTFfF
                obtain ⟨x, ex, hx⟩ := hx_nat hc53
                obtain ⟨y, ey, hy⟩ := hx_nat hc56
                rw [ex, ey]
                refine W.skip ?_
                refine End.K ?_
                refine W.sub (SubS.cons (k := 10) rfl (SubS.cons (k := 9) rfl (SubS.cons (k := 8) rfl (SubS.cons (k := 5) rfl (SubS.cons (k := 6) rfl (SubS.cons (k := 7) rfl (SubS.nil _))))))) ?_
                refine W.reg ?_
                refine WO.q (Q.move rfl) rfl ?_
                refine WO.q (Q.move rfl) rfl ?_
                refine WO.q (Q.bin rfl (oc (v := .int .u64 ((4 : Nat) : Int)) rfl) rfl (bv_shl4 (by first | omega | (simp only [List.length_drop, List.length_take, List.length_append, List.length_cons, List.length_nil] at *; omega)))) rfl ?_
                refine WO.q (Q.move rfl) rfl ?_
                refine WO.q (Q.bin rfl rfl rfl (bv_or4 (by first | omega | (simp only [List.length_drop, List.length_take, List.length_append, List.length_cons, List.length_nil] at *; omega)) (by first | omega | (simp only [List.length_drop, List.length_take, List.length_append, List.length_cons, List.length_nil] at *; omega)))) rfl ?_
                refine WO.q (Q.convI ud3 ud5 rfl (wr8 (by first | omega | (simp only [List.length_drop, List.length_take, List.length_append, List.length_cons, List.length_nil] at *; omega)))) rfl ?_
                refine WO.bslice ud63 sz5 zr5 rfl (oPs_cons rfl oPs_nil) rfl (cs := [_]) rfl rfl rfl (fun b1 => ?_)
                refine WO.appOwn (e := ⟨b1, _, true⟩) (A := []) ap63_63 hO rfl rfl rfl rfl ⟨by first | omega | (simp only [List.length_drop, List.length_take, List.length_append, List.length_cons, List.length_nil] at *; omega), by first | omega | (simp only [List.length_drop, List.length_take, List.length_append, List.length_cons, List.length_nil] at *; omega)⟩ (by decide) rfl rfl (fun v64 hp64 hO64 => ?_)
                refine WO.q (Q.assign rfl) rfl ?_
                refine WO.nil ?_
                refine End.KB (End.K ?_)
                refine W.sub (SubS.cons (k := 7) rfl (SubS.cons (k := 8) rfl (SubS.cons (k := 5) rfl (SubS.cons (k := 6) rfl (SubS.nil _))))) ?_
                refine W.reg ?_
                refine WO.q (Q.move rfl) rfl ?_
                refine WO.q (Q.move rfl) rfl ?_
                refine WO.q (Q.sliceS ud9 rfl rfl (by first | omega | (simp only [List.length_drop, List.length_take, List.length_append, List.length_cons, List.length_nil] at *; omega)) sl_lo) rfl ?_
                refine WO.q (Q.assign rfl) rfl ?_
                refine WO.nil ?_
                refine End.KB (End.KL ?_)
                refine W.sub (SubS.cons rfl (SubS.cons rfl (SubS.cons rfl (SubS.nil _)))) (ih0 (k) (acc ++ [16 * x + y]) (rest.drop 4) (v64) (hp64) ?_ ?_)
                · exact ⟨Bytes.append ha (Bytes.one (by omega)), Bytes.drop hr _, by first | omega | (simp only [List.length_drop, List.length_take, List.length_append, List.length_cons, List.length_nil] at *; omega), by simpa [u8c] using hO64, by clear ih0; rw [hv]; simp_all [valF, hexL] <;> (repeat' split) <;> first | rfl | omega | (intro h; omega), by first | omega | (simp only [List.length_drop, List.length_take, List.length_append, List.length_cons, List.length_nil] at *; omega)⟩
                · exact (by first | omega | (simp only [List.length_drop, List.length_take, List.length_append, List.length_cons, List.length_nil] at *; omega))
        · skip -- L0tTTF
          refine W.skip ?_
          refine End.K ?_
          refine W.sub (SubS.cons (k := 8) rfl (SubS.cons (k := 5) rfl (SubS.cons (k := 6) rfl (SubS.cons (k := 7) rfl (SubS.nil _))))) ?_
          refine W.seq ?_
          refine W.seq ?_
          refine W.reg ?_
          refine WO.q (Q.move rfl) rfl ?_
          refine WO.q (Q.len ud9 rfl rfl) rfl ?_
          refine WO.q (Q.move rfl) rfl ?_
          refine WO.q (Q.bin rfl rfl rfl (bv_lss lt_nat)) rfl ?_
          refine WO.nil ?_
          refine End.K ?_
          refine W.condDS rfl (fun hc34 => ?_) (fun hc34 => ?_)
          · skip -- L0tTTFT
            refine W.seq ?_
            refine W.reg ?_
            refine WO.q (Q.assign (oc (v := .str []) (by kernel_rfl))) rfl ?_
            refine WO.q (Q.assign (oc (v := .str []) (by kernel_rfl))) rfl ?_
            refine WO.q (Q.assign rfl) rfl ?_
            refine WO.nil ?_
            refine End.K ?_
            refine W.sub (SubS.cons (k := 4) rfl (SubS.cons (k := 3) rfl (SubS.cons (k := 2) rfl (SubS.nil _)))) ?_
            refine W.ret ?_
            refine End.K_ret (End.KB_ret (End.KL_ret (End.KB_ret (End.K_ret (End.retV (ResL.tmp rfl (ResL.tmp rfl (ResL.tmp rfl ResL.nil))) ?_)))))
            clear ih0; exact val_none (by rw [hv]; simp_all [valF, hexL])
          · skip -- L0tTTFF
            refine W.skip ?_
            refine End.K ?_
            refine W.seq ?_
            refine W.seq ?_
            refine W.reg ?_
            refine WO.q (Q.move rfl) rfl ?_
            refine WO.nil ?_
            refine End.K ?_
            refine W.block ?_
            refine W.seq ?_
            refine W.reg ?_
            refine WO.q (Q.bin rfl (oc (v := .int .i64 ((4 : Nat) : Int)) rfl) rfl (bv_eql (p := false) rfl)) rfl ?_
            refine WO.q (Q.assign rfl) rfl ?_
            refine WO.nil ?_
            refine End.K ?_
            refine W.sub (SubS.cons (k := 43) rfl (SubS.cons (k := 8) rfl (SubS.cons (k := 5) rfl (SubS.cons (k := 6) rfl (SubS.cons (k := 7) rfl (SubS.nil _)))))) ?_
            refine W.condF rfl ?_
            refine W.reg ?_
            refine WO.q (Q.move rfl) rfl ?_
            refine WO.q (Q.move rfl) rfl ?_
            refine WO.q (Q.move rfl) rfl ?_
            refine WO.q (Q.bin rfl (oc (v := .int .i64 ((1 : Nat) : Int)) rfl) rfl (bv_sub (wn_sub (by first | omega | (simp only [List.length_drop, List.length_take, List.length_append, List.length_cons, List.length_nil] at *; omega))))) rfl ?_
            refine WO.indexB hr ud9 rfl rfl (by first | omega | (simp only [List.length_drop, List.length_take, List.length_append, List.length_cons, List.length_nil] at *; omega)) rfl (fun c40 hd40 hb40 => ?_)
            refine WO.bslice ud63 sz5 zr5 rfl (oPs_cons rfl oPs_nil) rfl (cs := [_]) rfl rfl rfl (fun b3 => ?_)
            refine WO.appOwn (e := ⟨b3, _, true⟩) (A := []) ap63_63 hO rfl rfl rfl rfl ⟨by first | omega | (simp only [List.length_drop, List.length_take, List.length_append, List.length_cons, List.length_nil] at *; omega), by first | omega | (simp only [List.length_drop, List.length_take, List.length_append, List.length_cons, List.length_nil] at *; omega)⟩ (by decide) rfl rfl (fun v42 hp42 hO42 => ?_)
            refine WO.q (Q.assign rfl) rfl ?_
            refine WO.nil ?_
            refine End.KB (End.K ?_)
            refine W.sub (SubS.cons (k := 7) rfl (SubS.cons (k := 8) rfl (SubS.cons (k := 5) rfl (SubS.cons (k := 6) rfl (SubS.nil _))))) ?_
            refine W.reg ?_
            refine WO.q (Q.move rfl) rfl ?_
            refine WO.q (Q.move rfl) rfl ?_
            refine WO.q (Q.sliceS ud9 rfl rfl (by first | omega | (simp only [List.length_drop, List.length_take, List.length_append, List.length_cons, List.length_nil] at *; omega)) sl_lo) rfl ?_
            refine WO.q (Q.assign rfl) rfl ?_
            refine WO.nil ?_
            refine End.KB (End.KL ?_)
            refine W.sub (SubS.cons rfl (SubS.cons rfl (SubS.cons rfl (SubS.nil _)))) (ih0 (k) (acc ++ [c40]) (rest.drop 2) (v42) (hp42) ?_ ?_)
            · exact ⟨Bytes.append ha (Bytes.one hb40), Bytes.drop hr _, by first | omega | (simp only [List.length_drop, List.length_take, List.length_append, List.length_cons, List.length_nil] at *; omega), by simpa [u8c] using hO42, by clear ih0; rw [hv]; simp_all [valF] <;> (repeat' split) <;> first | rfl | omega | (intro h; omega), by first | omega | (simp only [List.length_drop, List.length_take, List.length_append, List.length_cons, List.length_nil] at *; omega)⟩
            · exact (by first | omega | (simp only [List.length_drop, List.length_take, List.length_append, List.length_cons, List.length_nil] at *; omega))
      · skip -- L0tTF
        refine W.skip ?_
        refine End.K ?_
        refine W.seq ?_
        refine W.seq ?_
        refine W.reg ?_
        refine WO.q (Q.move rfl) rfl ?_
        refine WO.q (Q.len ud9 rfl rfl) rfl ?_
        refine WO.q (Q.move rfl) rfl ?_
        refine WO.q (Q.bin rfl rfl rfl (bv_lss lt_nat)) rfl ?_
        refine WO.nil ?_
        refine End.K ?_
        refine W.sub (SubS.cons (k := 34) rfl (SubS.cons (k := 8) rfl (SubS.cons (k := 5) rfl (SubS.cons (k := 6) rfl (SubS.cons (k := 7) rfl (SubS.nil _)))))) ?_
        refine W.condDS rfl (fun hc34 => ?_) (fun hc34 => ?_)
        · skip -- L0tTFT
          refine W.seq ?_
          refine W.reg ?_
          refine WO.q (Q.assign (oc (v := .str []) (by kernel_rfl))) rfl ?_
          refine WO.q (Q.assign (oc (v := .str []) (by kernel_rfl))) rfl ?_
          refine WO.q (Q.assign rfl) rfl ?_
          refine WO.nil ?_
          refine End.K ?_
          refine W.ret ?_
          refine End.K_ret (End.KB_ret (End.KL_ret (End.KB_ret (End.K_ret (End.retV (ResL.tmp rfl (ResL.tmp rfl (ResL.tmp rfl ResL.nil))) ?_)))))
          clear ih0; exact val_none (by rw [hv]; simp_all [valF, hexL])
        · skip -- L0tTFF
          refine W.skip ?_
          refine End.K ?_
          refine W.seq ?_
          refine W.seq ?_
          refine W.reg ?_
          refine WO.q (Q.move rfl) rfl ?_
          refine WO.nil ?_
          refine End.K ?_
          refine W.block ?_
          refine W.seq ?_
          refine W.reg ?_
          refine WO.q (Q.bin rfl (oc (v := .int .i64 ((4 : Nat) : Int)) rfl) rfl (bv_eql (p := false) rfl)) rfl ?_
          refine WO.q (Q.assign rfl) rfl ?_
          refine WO.nil ?_
          refine End.K ?_
          refine W.condF rfl ?_
          refine W.reg ?_
          refine WO.q (Q.move rfl) rfl ?_
          refine WO.q (Q.move rfl) rfl ?_
          refine WO.q (Q.move rfl) rfl ?_
          refine WO.q (Q.bin rfl (oc (v := .int .i64 ((1 : Nat) : Int)) rfl) rfl (bv_sub (wn_sub (by first | omega | (simp only [List.length_drop, List.length_take, List.length_append, List.length_cons, List.length_nil] at *; omega))))) rfl ?_
          refine WO.indexB hr ud9 rfl rfl (by first | omega | (simp only [List.length_drop, List.length_take, List.length_append, List.length_cons, List.length_nil] at *; omega)) rfl (fun c40 hd40 hb40 => ?_)
          refine WO.bslice ud63 sz5 zr5 rfl (oPs_cons rfl oPs_nil) rfl (cs := [_]) rfl rfl rfl (fun b5 => ?_)
          refine WO.appOwn (e := ⟨b5, _, true⟩) (A := []) ap63_63 hO rfl rfl rfl rfl ⟨by first | omega | (simp only [List.length_drop, List.length_take, List.length_append, List.length_cons, List.length_nil] at *; omega), by first | omega | (simp only [List.length_drop, List.length_take, List.length_append, List.length_cons, List.length_nil] at *; omega)⟩ (by decide) rfl rfl (fun v42 hp42 hO42 => ?_)
          refine WO.q (Q.assign rfl) rfl ?_
          refine WO.nil ?_
          refine End.KB (End.K ?_)
          refine W.sub (SubS.cons (k := 7) rfl (SubS.cons (k := 8) rfl (SubS.cons (k := 5) rfl (SubS.cons (k := 6) rfl (SubS.nil _))))) ?_
          refine W.reg ?_
          refine WO.q (Q.move rfl) rfl ?_
          refine WO.q (Q.move rfl) rfl ?_
          refine WO.q (Q.sliceS ud9 rfl rfl (by first | omega | (simp only [List.length_drop, List.length_take, List.length_append, List.length_cons, List.length_nil] at *; omega)) sl_lo) rfl ?_
          refine WO.q (Q.assign rfl) rfl ?_
          refine WO.nil ?_
          refine End.KB (End.KL ?_)
          refine W.sub (SubS.cons rfl (SubS.cons rfl (SubS.cons rfl (SubS.nil _)))) (ih0 (k) (acc ++ [c40]) (rest.drop 1) (v42) (hp42) ?_ ?_)
          · exact ⟨Bytes.append ha (Bytes.one hb40), Bytes.drop hr _, by first | omega | (simp only [List.length_drop, List.length_take, List.length_append, List.length_cons, List.length_nil] at *; omega), by simpa [u8c] using hO42, by clear ih0; rw [hv]; simp_all [valF] <;> (repeat' split) <;> first | rfl | omega | (intro h; omega), by first | omega | (simp only [List.length_drop, List.length_take, List.length_append, List.length_cons, List.length_nil] at *; omega)⟩
          · exact (by first | omega | (simp only [List.length_drop, List.length_take, List.length_append, List.length_cons, List.length_nil] at *; omega))
    · skip -- L0tF
      refine W.exit ?_
      refine End.K_exit (End.KL_exit (End.KB_hit (End.K ?_)))
      refine W.seq ?_
      refine W.seq ?_
      refine W.reg ?_
      refine WO.q (Q.move rfl) rfl ?_
      refine WO.q (Q.not rfl rfl) rfl ?_
      refine WO.q (Q.move rfl) rfl ?_
      refine WO.gT rfl rfl ?_
      refine WO.q (Q.move rfl) rfl ?_
      refine WO.gT rfl rfl ?_
      refine WO.q (Q.bin rfl (oc (v := .str []) (by kernel_rfl)) rfl bv_seql) rfl ?_
      refine WO.q (Q.pickF rfl rfl) rfl ?_
      refine WO.nil ?_
      refine End.K ?_
      refine W.sub (SubS.cons (k := 73) rfl (SubS.cons (k := 5) rfl (SubS.cons (k := 7) rfl (SubS.nil _)))) ?_
      refine W.condDS rfl (fun hc73 => ?_) (fun hc73 => ?_)
      · exact absurd hc73 hc21
      · skip -- L0tFF
        refine W.skip ?_
        refine End.K ?_
        refine W.seq ?_
        refine W.regD 5 _ (by kernel_rfl) (KIn.refl _) ?_
        refine WD.q (Q.move rfl) (Own.bq hO) rfl ?_
        refine WD.q (Q.convOwn (A := []) ud63 ud9 ud5 ha hO rfl rfl) bq_str rfl ?_
        refine WD.q (Q.move rfl) bq_str rfl ?_
        refine WD.q (Q.sliceS ud9 rfl rfl (by first | omega | (simp only [List.length_drop, List.length_take, List.length_append, List.length_cons, List.length_nil] at *; omega)) sl_lo) bq_str rfl ?_
        refine WD.q (Q.assign rfl) bq_str rfl ?_
        refine WD.q (Q.assign rfl) bq_str rfl ?_
        refine WD.q (Q.assign rfl) bq_bool rfl ?_
        refine WD.nil ?_
        refine End.K ?_
        refine W.sub (SubS.cons (k := 4) rfl (SubS.cons (k := 3) rfl (SubS.cons (k := 2) rfl (SubS.nil _)))) ?_
        refine W.ret ?_
        refine End.retV (ResL.tmp rfl (ResL.tmp rfl (ResL.tmp rfl ResL.nil))) ?_
        clear ih0; exact val_some (by rw [hv]; simp_all [valF])
  · skip -- L0f
    refine WO.gF rfl rfl (.inl rfl) rfl ?_
    refine WO.gF rfl rfl (.inl rfl) rfl ?_
    refine WO.gF rfl rfl (.inl rfl) rfl ?_
    refine WO.q (Q.pickF rfl rfl) rfl ?_
    refine WO.nil ?_
    refine End.K ?_
    refine W.sub (SubS.cons (k := 25) rfl (SubS.cons (k := 5) rfl (SubS.cons (k := 6) rfl (SubS.cons (k := 7) rfl (SubS.nil _))))) ?_
    refine W.condF rfl ?_
    refine W.exit ?_
    refine End.K_exit (End.KL_exit (End.KB_hit (End.K ?_)))
    refine W.seq ?_
    refine W.seq ?_
    refine W.reg ?_
    refine WO.q (Q.move rfl) rfl ?_
    refine WO.q (Q.not rfl rfl) rfl ?_
    refine WO.q (Q.move rfl) rfl ?_
    refine WO.gT rfl rfl ?_
    refine WO.q (Q.move rfl) rfl ?_
    refine WO.gT rfl rfl ?_
    refine WO.q (Q.bin rfl (oc (v := .str []) (by kernel_rfl)) rfl bv_seql) rfl ?_
    refine WO.q (Q.pickF rfl rfl) rfl ?_
    refine WO.nil ?_
    refine End.K ?_
    refine W.sub (SubS.cons (k := 73) rfl (SubS.cons (k := 5) rfl (SubS.cons (k := 7) rfl (SubS.nil _)))) ?_
    refine W.condDS rfl (fun hc73 => ?_) (fun hc73 => ?_)
    · skip -- L0fT
      refine W.seq ?_
      refine W.reg ?_
      refine WO.q (Q.assign (oc (v := .str []) (by kernel_rfl))) rfl ?_
      refine WO.q (Q.assign (oc (v := .str []) (by kernel_rfl))) rfl ?_
      refine WO.q (Q.assign rfl) rfl ?_
      refine WO.nil ?_
      refine End.K ?_
      refine W.ret ?_
      refine End.K_ret (End.retV (ResL.tmp rfl (ResL.tmp rfl (ResL.tmp rfl ResL.nil))) ?_)
      clear ih0; exact val_none (by rw [hv]; cases k <;> simp_all [valF])
    · exact absurd (Decidable.not_not.1 hc21) hc73
end Go.Proofs.YtdpcpnhkkedfcaaDoor.Ev
