/- Chapter 20, walks: are instructions few, and a plan? -/
import Derived.Test.YtndhhgbpcmfeiaaGreatDoorGGa
import Derived.Test.YtndhhgbpcmfeiaaGreatDoorGTabP
namespace Go.Proofs.YtndhhgbpcmfeiaaGreatDoor.Ev
open Go.RowKit
set_option linter.unusedVariables false
set_option linter.unusedSimpArgs false
set_option maxRecDepth 100000
/-- A place that is not ahead. -/
def badK (i k : Int) : Bool := decide (k < 0) || decide (i ≤ k)
def ai (A : List Int) (q : Nat) : Int := A.getD q 0
theorem ai_at {A : List Int} {q : Nat} (h : q < A.length) : A[q]? = some (ai A q) := by
  unfold ai
  rw [List.getD_eq_getElem?_getD, List.getElem?_eq_getElem h]; rfl
theorem cA_at {A : List Int} {q : Nat} (h : q < A.length) : (cA A)[(0 + q) * 1]? = some (.int .i64 (ai A q)) := by
  rw [Nat.zero_add, Nat.mul_one, cA, List.getElem?_map, ai_at h]; rfl
theorem any_at {A : List Int} {p : Int → Bool} {q : Nat} (h : q < A.length) (g : p (ai A q) = true) : A.any p = true :=
  List.any_eq_true.2 ⟨_, List.mem_of_getElem? (ai_at h), g⟩
theorem any_no {A : List Int} {p : Int → Bool} (h : ∀ q, q < A.length → p (ai A q) = false) : A.any p = false := by
  rw [List.any_eq_false]
  intro x hx
  obtain ⟨q, hq⟩ := List.getElem?_of_mem hx
  have hl := (List.getElem?_eq_some_iff.1 hq).1
  rw [ai_at hl] at hq
  rw [← Option.some.inj hq, h q hl]; decide
theorem bool_dec {p : Prop} [Decidable p] {b : Bool} (h : p ↔ b = true) : decide p = b := by
  cases b with
  | true => exact decide_eq_true (h.2 rfl)
  | false => exact decide_eq_false fun q => by cases h.1 q
/-- An instruction of a plan. -/
def okI (L : List IE) (i : Nat) : Bool := decide ((ei L i).nk = 0) && !((ei L i).ars.any (badK ((i : Nat) : Int)))
def chkI (L : List IE) : Nat := if L.length = 0 then 2 else if 1024 < L.length then 3 else if ∀ i, i < L.length → okI L i = true then 0 else 2
section
variable {L : List IE}
theorem chk_a (h : L.length = 0) : chkI L = 2 := if_pos h
theorem chk_b (h : L.length ≠ 0) (g : 1024 < L.length) : chkI L = 3 := by unfold chkI; rw [if_neg h, if_pos g]
theorem chk_c {i : Nat} (h : L.length ≠ 0) (g : L.length ≤ 1024) (hi : i < L.length) (k : okI L i = false) : chkI L = 2 := by
  unfold chkI
  rw [if_neg h, if_neg (by omega), if_neg fun q => by rw [q i hi] at k; cases k]
theorem chk_d (h : L.length ≠ 0) (g : L.length ≤ 1024) (k : ∀ i, i < L.length → okI L i = true) : chkI L = 0 := by
  unfold chkI
  rw [if_neg h, if_neg (by omega), if_pos k]
theorem chk_ok (h : chkI L = 0) : 0 < L.length ∧ L.length ≤ 1024 ∧ ∀ i, i < L.length → okI L i = true := by
  unfold chkI at h
  split at h
  · cases h
  split at h
  · cases h
  split at h
  · exact ⟨by omega, by omega, by assumption⟩
  · cases h
theorem ok_ar {i : Nat} (h : okI L i = true) {a : Int} (ha : a ∈ (ei L i).ars) : 0 ≤ a ∧ a < i := by
  unfold okI at h
  simp only [Bool.and_eq_true, Bool.not_eq_true', List.any_eq_false, badK, Bool.or_eq_true, decide_eq_true_eq, not_or] at h
  have := h.2 a ha
  omega
end
theorem bi_int (k : IntKind) (n : Int) : beq0 (.int k n) (.int k n) = true := by simp [beq0]
theorem bi_str (s : List Nat) : beq0 (.str s) (.str s) = true := by simp [beq0]
theorem bi_bool (b : Bool) : beq0 (.bool b) (.bool b) = true := by simp [beq0]
theorem beqL_self : ∀ {l : List AV}, (l.all fun v => beq0 v v) = true → beqL beq0 l l = true
  | [], _ => rfl
  | x :: l, h => by
    rw [List.all_cons, Bool.and_eq_true] at h
    show (beq0 x x && beqL beq0 l l) = true
    rw [h.1, beqL_self h.2]; rfl
theorem bq_agg11 {hs : HSt} {x : IE} (h : IOK hs x) : (AV.agg (x.d.c x.vm x.vn x.vk)).beq (AV.agg (x.d.c x.vm x.vn x.vk)) = true :=
  beqL_self (by simp only [ND.c, nodeC, List.all_cons, List.all_nil, h.m.bq0, h.n.bq0, h.k.bq0, bi_int, bi_str, bi_bool, Bool.and_true])
theorem ag24 : tab.isAgg 24 = some false := by kernel_rfl
theorem ag3 : tab.isAgg 3 = some false := by kernel_rfl
theorem ag40 : tab.isAgg 40 = some false := by kernel_rfl
theorem ag42 : tab.isAgg 42 = some true := by kernel_rfl
theorem ao3 : AO tab 3 = some ⟨1, true, [.int .i64 0]⟩ := by kernel_rfl
theorem ao42 : AO tab 42 = some ⟨12, true, [.int .i64 0, .str [], .int .i64 0, .nils, .int .i64 0, .int .i64 0, .int .i64 0, .nils, .int .i64 0, .bool false, .nils, .nils]⟩ := by kernel_rfl
theorem fa26_10 : FA tab 26 10 = some (10, 0 + 1) := by kernel_rfl
theorem fa42_0 : FA tab 42 0 = some (0, 10 + 1) := by kernel_rfl
theorem fa42_1 : FA tab 42 1 = some (11, 0 + 1) := by kernel_rfl
theorem sz3 : tab.size 3 = some 1 := by kernel_rfl
theorem sz42 : tab.size 42 = some 12 := by kernel_rfl
theorem ud24 : tab.und 24 = some (.slice 26) := by kernel_rfl
theorem ud30 : tab.und 30 = some (.slice 42) := by kernel_rfl
theorem ud40 : tab.und 40 = some (.slice 3) := by kernel_rfl
theorem few_spec (hs : HSt) (hro : ∀ e ∈ hs, e.w = false) (L : List IE) (v : AV) (hV : IIn hs L v) (hB : ILB L) : Spec tab 14 [v] [] hs (ValE (fun u => ∃ b : Bool, u = .bool b ∧ (b = true → L.length ≤ 100 ∧ ∀ i, i < L.length → (ei L i).ars.length ≤ 3))) := by
  have hBl := hB.1
  refine Spec.enter' (ft_get 14 Tryz.func14) rfl (m := 31) rfl (rs := [.tmp 2]) rfl (st := [(0, v)]) rfl rfl (fun _ => rfl) (fun E => ?_)
  refine W.seq ?_
  refine W.reg ?_
  refine WO.q (Q.assign rfl) rfl ?_
  refine WO.nil ?_
  refine End.K ?_
  refine W.seq ?_
  refine W.seq ?_
  refine W.reg ?_
  refine WO.q (Q.assign (oc (v := .int .i64 ((0 : Nat) : Int)) rfl)) rfl ?_
  refine WO.nil ?_
  refine End.K ?_
  refine W.block ?_
  refine W.loop_ind (fun (i : Nat) => [(0, v), (3, .int .i64 ((i : Nat) : Int))]) (fun (i : Nat) => hs) (fun (i : Nat) => i ≤ L.length ∧ i ≤ 100 ∧ ∀ j, j < i → (ei L j).ars.length ≤ 3) (fun (i : Nat) => L.length - i) (0) ⟨Nat.zero_le _, Nat.zero_le _, fun j h => absurd h (Nat.not_lt_zero _)⟩ (SubS.cons rfl (SubS.cons rfl (SubS.nil _))) (SubH.refl _) (fun i hI0 ih0 => ?_)
  obtain ⟨h1, h2, h3⟩ := hI0
  refine W.seq ?_
  refine W.seq ?_
  refine W.reg ?_
  refine WO.q (Q.move rfl) rfl ?_
  refine WO.q (Q.move rfl) rfl ?_
  refine WO.q (Q.len ud30 rfl hV.1.len) rfl ?_
  refine WO.q (Q.bin rfl rfl rfl (bv_lss lt_nat)) rfl ?_
  refine WO.nil ?_
  refine End.K ?_
  refine W.condDS rfl (fun hc7 => ?_) (fun hc7 => ?_)
  · skip -- L0T
    obtain ⟨bv, szv, exv, rfl, wv, mv⟩ := hV.1.full (by omega)
    refine W.skip ?_
    refine End.K ?_
    refine W.seq ?_
    refine W.block ?_
    refine W.seq ?_
    refine W.reg ?_
    refine WO.q (Q.move rfl) rfl ?_
    refine WO.q (Q.bin rfl (oc (v := .int .i64 ((100 : Nat) : Int)) rfl) rfl (bv_geq le_nat)) rfl ?_
    refine WO.q (Q.move rfl) rfl ?_
    refine WO.splitD (d := 12) rfl (fun hc12 => ?_) (fun hc12 => ?_)
    · skip -- L0Tt
      refine WO.gF rfl rfl (.inl rfl) rfl ?_
      refine WO.gF rfl rfl (.inl rfl) rfl ?_
      refine WO.gF rfl rfl (.inl rfl) rfl ?_
      refine WO.gF rfl rfl (.inl rfl) rfl ?_
      refine WO.gF rfl rfl (.inl rfl) rfl ?_
      refine WO.gF rfl rfl (.inl rfl) rfl ?_
      refine WO.gF rfl rfl (.inl rfl) rfl ?_
      refine WO.q (Q.pickT rfl rfl) rfl ?_
      refine WO.q (Q.move rfl) rfl ?_
      refine WO.gF rfl rfl (.inl rfl) rfl ?_
      refine WO.gF rfl rfl (.inl rfl) rfl ?_
      refine WO.gF rfl rfl (.inl rfl) rfl ?_
      refine WO.gF rfl rfl (.inl rfl) rfl ?_
      refine WO.gF rfl rfl (.inl rfl) rfl ?_
      refine WO.gF rfl rfl (.inl rfl) rfl ?_
      refine WO.gF rfl rfl (.inl rfl) rfl ?_
      refine WO.gF rfl rfl (.inl rfl) rfl ?_
      refine WO.q (Q.pickT rfl rfl) rfl ?_
      refine WO.nil ?_
      refine End.K ?_
      refine W.sub (SubS.cons (k := 30) rfl (SubS.cons (k := 0) rfl (SubS.cons (k := 3) rfl (SubS.nil _)))) ?_
      refine W.condT rfl ?_
      refine W.seq ?_
      refine W.reg ?_
      refine WO.q (Q.assign rfl) rfl ?_
      refine WO.nil ?_
      refine End.K ?_
      refine W.ret ?_
      refine End.KB_ret (End.K_ret (End.KL_ret (End.KB_ret (End.K_ret (End.retE (ResL.tmp rfl ResL.nil) ?_)))))
      exact ⟨false, rfl, fun h => by cases h⟩
    · skip -- L0Tf
      refine WO.gT rfl rfl ?_
      refine WO.q (Q.move rfl) rfl ?_
      refine WO.gT rfl rfl ?_
      refine WO.q (Q.move rfl) rfl ?_
      refine WO.gT rfl rfl ?_
      refine WO.q (Q.iaddrS ud30 sz42 rfl rfl (by first | omega | (simp at * <;> omega))) rfl ?_
      refine WO.gT rfl rfl ?_
      refine WO.q (Q.fieldAddr fa42_1 rfl rfl) rfl ?_
      refine WO.gT rfl rfl ?_
      refine WO.q (Q.load1 rfl mv ag40 (cI_f 11 (by first | omega | (simp at * <;> omega)) rfl)) rfl ?_
      refine WO.gT rfl rfl ?_
      refine WO.q (Q.len ud40 rfl (hV.at (by first | omega | (simp at * <;> omega))).a.len) rfl ?_
      refine WO.gT rfl rfl ?_
      refine WO.q (Q.bin rfl (oc (v := .int .i64 ((3 : Nat) : Int)) rfl) rfl (bv_gtr lt_nat)) rfl ?_
      refine WO.q (Q.pickF rfl rfl) rfl ?_
      refine WO.q (Q.move rfl) rfl ?_
      refine WO.splitD (d := 21) rfl (fun hc21 => ?_) (fun hc21 => ?_)
      · skip -- L0Tft
        refine WO.gF rfl rfl (.inl rfl) rfl ?_
        refine WO.gF rfl rfl (.inl rfl) rfl ?_
        refine WO.gF rfl rfl (.inl rfl) rfl ?_
        refine WO.gF rfl rfl (.inl rfl) rfl ?_
        refine WO.gF rfl rfl (.inl rfl) rfl ?_
        refine WO.gF rfl rfl (.inl rfl) rfl ?_
        refine WO.gF rfl rfl (.inl rfl) rfl ?_
        refine WO.gF rfl rfl (.inl rfl) rfl ?_
        refine WO.q (Q.pickT rfl rfl) rfl ?_
        refine WO.nil ?_
        refine End.K ?_
        refine W.sub (SubS.cons (k := 30) rfl (SubS.cons (k := 0) rfl (SubS.cons (k := 3) rfl (SubS.nil _)))) ?_
        refine W.condT rfl ?_
        refine W.seq ?_
        refine W.reg ?_
        refine WO.q (Q.assign rfl) rfl ?_
        refine WO.nil ?_
        refine End.K ?_
        refine W.ret ?_
        refine End.KB_ret (End.K_ret (End.KL_ret (End.KB_ret (End.K_ret (End.retE (ResL.tmp rfl ResL.nil) ?_)))))
        exact ⟨false, rfl, fun h => by cases h⟩
      · skip -- L0Tff
        refine WO.gT rfl rfl ?_
        refine WO.q (Q.move rfl) rfl ?_
        refine WO.gT rfl rfl ?_
        refine WO.q (Q.move rfl) rfl ?_
        refine WO.gT rfl rfl ?_
        refine WO.q (Q.iaddrS ud30 sz42 rfl rfl (by first | omega | (simp at * <;> omega))) rfl ?_
        refine WO.gT rfl rfl ?_
        refine WO.q (Q.fieldAddr fa42_0 rfl rfl) rfl ?_
        refine WO.gT rfl rfl ?_
        refine WO.q (Q.fieldAddr fa26_10 rfl rfl) rfl ?_
        refine WO.gT rfl rfl ?_
        refine WO.q (Q.load1 rfl mv ag24 (cI_f 10 (by first | omega | (simp at * <;> omega)) rfl)) rfl ?_
        refine WO.gT rfl rfl ?_
        refine WO.q (Q.len ud24 rfl (hV.at (by first | omega | (simp at * <;> omega))).k.len) rfl ?_
        refine WO.gT rfl rfl ?_
        refine WO.q (Q.bin rfl (oc (v := .int .i64 ((3 : Nat) : Int)) rfl) rfl (bv_gtr lt_nat)) rfl ?_
        refine WO.q (Q.pickF rfl rfl) rfl ?_
        refine WO.nil ?_
        refine End.K ?_
        refine W.sub (SubS.cons (k := 30) rfl (SubS.cons (k := 0) rfl (SubS.cons (k := 3) rfl (SubS.nil _)))) ?_
        refine W.condDS rfl (fun hc30 => ?_) (fun hc30 => ?_)
        · skip -- L0TffT
          refine W.seq ?_
          refine W.reg ?_
          refine WO.q (Q.assign rfl) rfl ?_
          refine WO.nil ?_
          refine End.K ?_
          refine W.ret ?_
          refine End.KB_ret (End.K_ret (End.KL_ret (End.KB_ret (End.K_ret (End.retE (ResL.tmp rfl ResL.nil) ?_)))))
          exact ⟨false, rfl, fun h => by cases h⟩
        · skip -- L0TffF
          refine W.skip ?_
          refine End.KB (End.K ?_)
          refine W.reg ?_
          refine WO.q (Q.move rfl) rfl ?_
          refine WO.q (Q.bin rfl (oc (v := .int .i64 ((1 : Nat) : Int)) rfl) rfl (bv_add (wn_add (by first | omega | (simp at * <;> omega))))) rfl ?_
          refine WO.q (Q.assign rfl) rfl ?_
          refine WO.nil ?_
          refine End.KL ?_
          refine W.sub (SubS.cons rfl (SubS.cons rfl (SubS.nil _))) (W.subH (SubH.refl _) (ih0 (i + 1) ?_ ?_))
          · exact ⟨by omega, by omega, fun j hj => by rcases Nat.lt_or_ge j i with q | q; exact h3 j q; obtain rfl : j = i := (by omega); omega⟩
          · exact (by first | omega | (simp at * <;> omega))
  · skip -- L0F
    refine W.exit ?_
    refine End.K_exit (End.KL_exit (End.KB_hit (End.K ?_)))
    refine W.seq ?_
    refine W.reg ?_
    refine WO.q (Q.assign rfl) rfl ?_
    refine WO.nil ?_
    refine End.K ?_
    refine W.ret ?_
    refine End.retE (ResL.tmp rfl ResL.nil) ?_
    exact ⟨true, rfl, fun _ => ⟨by omega, fun j hj => h3 j (by omega)⟩⟩

theorem ck1_spec (hs : HSt) (hro : ∀ e ∈ hs, e.w = false) (k : Int) (i : Int) (bi : Nat) (mi : MemH hs bi ⟨1, true, [.int .i64 i]⟩) : Spec tab 51 [.int .i64 k, .ptr bi 0] [] hs (Val (.bool (badK i k))) := by
  obtain ⟨wi, mi⟩ := mi
  refine Spec.enter' (ft_get 51 Tryz.func51) rfl (m := 11) rfl (rs := [.tmp 3]) rfl (st := [(0, .int .i64 k), (1, .ptr bi 0)]) rfl rfl (fun _ => rfl) (fun E => ?_)
  refine W.seq ?_
  refine W.reg ?_
  refine WO.q (Q.assign rfl) rfl ?_
  refine WO.nil ?_
  refine End.K ?_
  refine W.seq ?_
  refine W.reg ?_
  refine WO.q (Q.move rfl) rfl ?_
  refine WO.q (Q.bin rfl (oc (v := .int .i64 ((0 : Nat) : Int)) rfl) rfl (bv_lss (ltA_eq _ _))) rfl ?_
  refine WO.q (Q.move rfl) rfl ?_
  refine WO.splitD (d := 6) rfl (fun hc6 => ?_) (fun hc6 => ?_)
  · skip -- t
    refine WO.gF rfl rfl (.inl rfl) rfl ?_
    refine WO.gF rfl rfl (.inl rfl) rfl ?_
    refine WO.gF rfl rfl (.inl rfl) rfl ?_
    refine WO.q (Q.pickT rfl rfl) rfl ?_
    refine WO.q (Q.assign rfl) rfl ?_
    refine WO.nil ?_
    refine End.K ?_
    refine W.ret ?_
    refine End.retV (ResL.tmp rfl ResL.nil) ?_
    exact congrArg AV.bool (by unfold badK; first | (simp_all; done) | (simp_all; omega))
  · skip -- f
    refine WO.gT rfl rfl ?_
    refine WO.q (Q.move rfl) rfl ?_
    refine WO.gT rfl rfl ?_
    refine WO.q (Q.load1 rfl mi ag3 rfl) rfl ?_
    refine WO.gT rfl rfl ?_
    refine WO.q (Q.bin rfl rfl rfl (bv_geq le_int)) rfl ?_
    refine WO.q (Q.pickF rfl rfl) rfl ?_
    refine WO.q (Q.assign rfl) rfl ?_
    refine WO.nil ?_
    refine End.K ?_
    refine W.ret ?_
    refine End.retV (ResL.tmp rfl ResL.nil) ?_
    exact congrArg AV.bool (by unfold badK; first | (simp_all; done) | (simp_all; omega))

theorem ixf_spec (hs : HSt) (hro : ∀ e ∈ hs, e.w = false) (A : List Int) (va : AV) (hA : RIn hs 1 A.length (cA A) va) (hAl : A.length ≤ 1048576) (i : Int) (bi : Nat) (mi : MemH hs bi ⟨1, true, [.int .i64 i]⟩) : Spec tab 45 [va, .func 51 [.ptr bi 0]] [] hs (ValE (fun u => ∃ r : Int, u = .int .i64 r ∧ (0 ≤ r ↔ A.any (badK i) = true))) := by
  refine Spec.enter' (ft_get 45 Tryz.func45) rfl (m := 19) rfl (rs := [.tmp 4]) rfl (st := [(0, va), (1, .func 51 [.ptr bi 0])]) rfl rfl (fun _ => rfl) (fun E => ?_)
  refine W.seq ?_
  refine W.reg ?_
  refine WO.q (Q.assign (oc (v := .int .i64 ((0 : Nat) : Int)) rfl)) rfl ?_
  refine WO.nil ?_
  refine End.K ?_
  refine W.seq ?_
  refine W.seq ?_
  refine W.reg ?_
  refine WO.q (Q.move rfl) rfl ?_
  refine WO.q (Q.len ud40 rfl hA.len) rfl ?_
  refine WO.q (Q.move (oc (v := .int .i64 ((0 : Nat) : Int)) rfl)) rfl ?_
  refine WO.nil ?_
  refine End.K ?_
  refine W.block ?_
  refine W.loop_ind (fun (j : Nat) => [(0, va), (1, .func 51 [.ptr bi 0]), (7, .int .i64 ((A.length : Nat) : Int)), (8, .int .i64 ((j : Nat) : Int))]) (fun _ => _) (fun (j : Nat) => j ≤ A.length ∧ ∀ q, q < j → badK i (ai A q) = false) (fun (j : Nat) => A.length - j) (0) ⟨Nat.zero_le _, fun j h => by omega⟩ (SubS.cons rfl (SubS.cons rfl (SubS.cons rfl (SubS.cons rfl (SubS.nil _))))) (SubH.refl _) (fun j hI0 ih0 => ?_)
  obtain ⟨hi, hno⟩ := hI0
  refine W.seq ?_
  refine W.reg ?_
  refine WO.q (Q.bin rfl rfl rfl (bv_lss lt_nat)) rfl ?_
  refine WO.nil ?_
  refine End.K ?_
  refine W.seq ?_
  refine W.condDS rfl (fun hc9 => ?_) (fun hc9 => ?_)
  · skip -- L0T
    obtain ⟨ba, sza, exa, rfl, wa, ma⟩ := hA.full (by omega)
    refine W.skip ?_
    refine End.K ?_
    refine W.seq ?_
    refine W.block ?_
    refine W.seq ?_
    refine W.reg ?_
    refine WO.q (Q.move rfl) rfl ?_
    refine WO.q (Q.assign rfl) rfl ?_
    refine WO.nil ?_
    refine End.K ?_
    refine W.seq ?_
    refine W.reg ?_
    refine WO.q (Q.move rfl) rfl ?_
    refine WO.q (Q.move rfl) rfl ?_
    refine WO.q (Q.move rfl) rfl ?_
    refine WO.q (Q.iaddrS ud40 sz3 rfl rfl (by first | omega | (simp at * <;> omega))) rfl ?_
    refine WO.q (Q.load1 rfl ma ag3 (cA_at (by first | omega | (simp at * <;> omega)))) rfl ?_
    refine WO.callV rfl (oLs_cons rfl oLs_nil) rfl (ck1_spec hs hro _ i bi mi) (SubR.self hro) rfl ?_
    refine WO.nil ?_
    refine End.K ?_
    refine W.condS rfl (fun hc16 => ?_) (fun hc16 => ?_)
    · skip -- L0TT
      refine W.seq ?_
      refine W.reg ?_
      refine WO.q (Q.move rfl) rfl ?_
      refine WO.q (Q.assign rfl) rfl ?_
      refine WO.nil ?_
      refine End.K ?_
      refine W.sub (SubS.cons (k := 4) rfl (SubS.nil _)) ?_
      refine W.ret ?_
      refine End.KB_ret (End.K_ret (End.KL_ret (End.KB_ret (End.K_ret (End.retE (ResL.tmp rfl ResL.nil) ?_)))))
      exact ⟨_, rfl, ⟨fun _ => any_at (by omega) (by simpa using hc16), fun _ => by omega⟩⟩
    · skip -- L0TF
      refine W.skip ?_
      refine End.KB (End.K ?_)
      refine W.reg ?_
      refine WO.q (Q.bin rfl (oc (v := .int .i64 ((1 : Nat) : Int)) rfl) rfl (bv_add (wn_add (by first | omega | (simp at * <;> omega))))) rfl ?_
      refine WO.q (Q.move rfl) rfl ?_
      refine WO.nil ?_
      refine End.KL ?_
      refine W.sub (SubS.cons rfl (SubS.cons rfl (SubS.cons rfl (SubS.cons rfl (SubS.nil _))))) (ih0 (j + 1) ?_ ?_)
      · exact ⟨by omega, fun q h => by rcases Nat.lt_or_ge q j with g | g; exact hno q g; obtain rfl : q = j := (by omega); simpa using hc16⟩
      · exact (by first | omega | (simp at * <;> omega))
  · skip -- L0F
    refine W.exit ?_
    refine End.K_exit (End.KL_exit (End.KB_hit (End.K ?_)))
    refine W.seq ?_
    refine W.reg ?_
    refine WO.q (Q.assign rfl) rfl ?_
    refine WO.nil ?_
    refine End.K ?_
    refine W.ret ?_
    refine End.retE (ResL.tmp rfl ResL.nil) ?_
    exact ⟨_, rfl, ⟨fun h => by omega, fun h => absurd h (by rw [any_no (fun q h => hno q (by omega))]; decide)⟩⟩

theorem ctf_spec (hs : HSt) (hro : ∀ e ∈ hs, e.w = false) (A : List Int) (va : AV) (hA : RIn hs 1 A.length (cA A) va) (hAl : A.length ≤ 1048576) (i : Int) (bi : Nat) (mi : MemH hs bi ⟨1, true, [.int .i64 i]⟩) : Spec tab 50 [va, .func 51 [.ptr bi 0]] [] hs (Val (.bool (A.any (badK i)))) := by
  refine Spec.enter' (ft_get 50 Tryz.func50) rfl (m := 9) rfl (rs := [.tmp 4]) rfl (st := [(0, va), (1, .func 51 [.ptr bi 0])]) rfl rfl (fun _ => rfl) (fun E => ?_)
  refine W.seq ?_
  refine W.reg ?_
  refine WO.q (Q.assign rfl) rfl ?_
  refine WO.nil ?_
  refine End.K ?_
  refine W.seq ?_
  refine W.reg ?_
  refine WO.q (Q.move rfl) rfl ?_
  refine WO.q (Q.move rfl) rfl ?_
  refine WO.callE rfl (oLs_cons rfl (oLs_cons rfl oLs_nil)) rfl (ixf_spec hs hro A _ hA hAl i bi mi) (SubR.self hro) rfl (fun v7 hP7 => ?_)
  obtain ⟨r, rfl, hr⟩ := hP7
  refine WO.q (Q.bin rfl (oc (v := .int .i64 ((0 : Nat) : Int)) rfl) rfl (bv_geq le_int)) rfl ?_
  refine WO.q (Q.assign rfl) rfl ?_
  refine WO.nil ?_
  refine End.K ?_
  refine W.ret ?_
  refine End.retV (ResL.tmp rfl ResL.nil) ?_
  exact congrArg AV.bool (bool_dec hr)

theorem chk_spec (hs : HSt) (hro : ∀ e ∈ hs, e.w = false) (L : List IE) (v : AV) (hV : IIn hs L v) (hB : ILB L) : Spec tab 22 [v] [] hs (Val (.int .i64 ((chkI L : Nat) : Int))) := by
  have hBl := hB.1
  refine Spec.enter' (ft_get 22 Tryz.func22) rfl (m := 32) rfl (rs := [.tmp 2]) rfl (st := [(0, v)]) rfl rfl (fun _ => rfl) (fun E => ?_)
  refine W.seq ?_
  refine W.reg ?_
  refine WO.q (Q.assign (oc (v := .int .i64 ((0 : Nat) : Int)) rfl)) rfl ?_
  refine WO.nil ?_
  refine End.K ?_
  refine W.seq ?_
  refine W.block ?_
  refine W.seq ?_
  refine W.reg ?_
  refine WO.q (Q.move rfl) rfl ?_
  refine WO.q (Q.len ud30 rfl hV.1.len) rfl ?_
  refine WO.q (Q.bin rfl (oc (v := .int .i64 ((0 : Nat) : Int)) rfl) rfl (bv_eql eq_nat)) rfl ?_
  refine WO.q (Q.assign rfl) rfl ?_
  refine WO.nil ?_
  refine End.K ?_
  refine W.condDS rfl (fun hc5 => ?_) (fun hc5 => ?_)
  · skip -- T
    refine W.seq ?_
    refine W.reg ?_
    refine WO.q (Q.assign (oc (v := .int .i64 ((2 : Nat) : Int)) rfl)) rfl ?_
    refine WO.nil ?_
    refine End.K ?_
    refine W.ret ?_
    refine End.KB_ret (End.K_ret (End.retV (ResL.tmp rfl ResL.nil) ?_))
    rw [chk_a (by simpa using hc5)]; rfl
  · skip -- F
    refine W.seq ?_
    refine W.reg ?_
    refine WO.q (Q.move rfl) rfl ?_
    refine WO.q (Q.len ud30 rfl hV.1.len) rfl ?_
    refine WO.q (Q.bin rfl (oc (v := .int .i64 ((1024 : Nat) : Int)) rfl) rfl (bv_gtr lt_nat)) rfl ?_
    refine WO.q (Q.assign rfl) rfl ?_
    refine WO.nil ?_
    refine End.K ?_
    refine W.condDS rfl (fun hc9 => ?_) (fun hc9 => ?_)
    · skip -- FT
      refine W.seq ?_
      refine W.reg ?_
      refine WO.q (Q.assign (oc (v := .int .i64 ((3 : Nat) : Int)) rfl)) rfl ?_
      refine WO.nil ?_
      refine End.K ?_
      refine W.ret ?_
      refine End.KB_ret (End.K_ret (End.retV (ResL.tmp rfl ResL.nil) ?_))
      rw [chk_b (by omega) (by omega)]; rfl
    · skip -- FF
      refine W.skip ?_
      refine End.KB (End.K ?_)
      refine W.seq ?_
      refine W.seq ?_
      refine W.reg ?_
      refine WO.q (Q.move rfl) rfl ?_
      refine WO.q (Q.len ud30 rfl hV.1.len) rfl ?_
      refine WO.q (Q.move (oc (v := .int .i64 ((0 : Nat) : Int)) rfl)) rfl ?_
      refine WO.nil ?_
      refine End.K ?_
      refine W.block ?_
      refine W.loop_ind (fun (i : Nat) => [(13, v), (14, .int .i64 ((L.length : Nat) : Int)), (15, .int .i64 ((i : Nat) : Int))]) (fun (i : Nat) => hs) (fun (i : Nat) => i ≤ L.length ∧ ∀ j, j < i → okI L j = true) (fun (i : Nat) => L.length - i) (0) ⟨Nat.zero_le _, fun j h => absurd h (Nat.not_lt_zero _)⟩ (SubS.cons rfl (SubS.cons rfl (SubS.cons rfl (SubS.nil _)))) (SubH.refl _) (fun i hI0 ih0 => ?_)
      obtain ⟨h1, h2⟩ := hI0
      refine W.seq ?_
      refine W.reg ?_
      refine WO.q (Q.bin rfl rfl rfl (bv_lss lt_nat)) rfl ?_
      refine WO.nil ?_
      refine End.K ?_
      refine W.seq ?_
      refine W.condDS rfl (fun hc16 => ?_) (fun hc16 => ?_)
      · skip -- FFL0T
        obtain ⟨bv, szv, exv, rfl, wv, mv⟩ := hV.1.full (by omega)
        refine W.skip ?_
        refine End.K ?_
        refine W.seq ?_
        refine W.block ?_
        refine W.seq ?_
        refine W.reg ?_
        refine WO.q (Q.move rfl) rfl ?_
        refine WO.q (Q.iaddrS ud30 sz42 rfl rfl (by first | omega | (simp at * <;> omega))) rfl ?_
        refine WO.q (Q.loadN rfl mv ag42 sz42 (cI_at (by first | omega | (simp at * <;> omega)))) rfl ?_
        refine WO.alloc ao3 rfl (fun b1 => ?_)
        refine WO.alloc ao42 rfl (fun b2 => ?_)
        refine WO.store sz3 rfl rfl (i := 1) rfl rfl (cs := [_]) rfl (hs' := _ :: _ :: _) rfl ?_
        refine WO.store sz42 rfl rfl (i := 0) rfl (and_tt rfl (IOK.cells (hV.at (by omega)))) (cs := [_, _, _, _, _, _, _, _, _, _, _, _]) rfl (hs' := _ :: _ :: _) rfl ?_
        refine WO.nil ?_
        refine End.K ?_
        refine W.seq ?_
        refine W.reg ?_
        refine WO.q (Q.fieldAddr fa42_0 rfl (o' := 0) rfl) rfl ?_
        refine WO.q (Q.fieldAddr fa26_10 rfl (o' := 10) rfl) rfl ?_
        refine WO.q (Q.load1 rfl (mem_at (i := 0) rfl) ag24 rfl) rfl ?_
        refine WO.q (Q.len ud24 rfl (hV.at (by first | omega | (simp at * <;> omega))).k.len) rfl ?_
        refine WO.q (Q.bin rfl (oc (v := .int .i64 ((0 : Nat) : Int)) rfl) rfl (bv_gtr lt_nat)) rfl ?_
        refine WO.q (Q.move rfl) rfl ?_
        refine WO.splitD (d := 25) rfl (fun hc25 => ?_) (fun hc25 => ?_)
        · skip -- FFL0Tt
          refine WO.gF rfl rfl (.inl rfl) rfl ?_
          refine WO.gF rfl rfl (.inl rfl) rfl ?_
          refine WO.gF rfl rfl (.inl rfl) rfl ?_
          refine WO.gF rfl rfl (.inl rfl) rfl ?_
          refine WO.q (Q.pickT rfl rfl) rfl ?_
          refine WO.nil ?_
          refine End.K ?_
          refine W.sub (SubS.cons (k := 30) rfl (SubS.cons (k := 13) rfl (SubS.cons (k := 14) rfl (SubS.cons (k := 15) rfl (SubS.nil _))))) ?_
          refine W.condT rfl ?_
          refine W.seq ?_
          refine W.reg ?_
          refine WO.q (Q.assign (oc (v := .int .i64 ((2 : Nat) : Int)) rfl)) rfl ?_
          refine WO.nil ?_
          refine End.K ?_
          refine W.ret ?_
          refine End.KB_ret (End.K_ret (End.KL_ret (End.KB_ret (End.K_ret (End.retV (ResL.tmp rfl ResL.nil) ?_)))))
          rw [chk_c (i := i) (by omega) (by omega) (by omega) (by unfold okI; simp_all; omega)]; rfl
        · skip -- FFL0Tf
          refine WO.gT rfl rfl ?_
          refine WO.q (Q.fieldAddr fa42_1 rfl (o' := 11) rfl) rfl ?_
          refine WO.gT rfl rfl ?_
          refine WO.q (Q.load1 rfl (mem_at (i := 0) rfl) ag40 rfl) rfl ?_
          refine WO.gT rfl rfl ?_
          refine WO.q (Q.makeF (oLs_cons rfl oLs_nil)) rfl ?_
          refine WO.gT rfl rfl ?_
          refine WO.callV rfl (oLs_cons rfl (oLs_cons rfl oLs_nil)) rfl (ctf_spec (ro [⟨b1, ⟨1, true, [.int .i64 ((i : Nat) : Int)]⟩, true⟩] ++ hs) (ro_app hro) _ _ (hV.at (by omega)).a.app (hB.at (by omega)).a _ b1 ⟨_, List.mem_cons_self⟩) (SubR.mix gc hro) rfl ?_
          refine WO.q (Q.pickF rfl rfl) rfl ?_
          refine WO.nil ?_
          refine End.K ?_
          refine W.sub (SubS.cons (k := 30) rfl (SubS.cons (k := 13) rfl (SubS.cons (k := 14) rfl (SubS.cons (k := 15) rfl (SubS.nil _))))) ?_
          refine W.condS rfl (fun hc30 => ?_) (fun hc30 => ?_)
          · skip -- FFL0TfT
            refine W.seq ?_
            refine W.reg ?_
            refine WO.q (Q.assign (oc (v := .int .i64 ((2 : Nat) : Int)) rfl)) rfl ?_
            refine WO.nil ?_
            refine End.K ?_
            refine W.ret ?_
            refine End.KB_ret (End.K_ret (End.KL_ret (End.KB_ret (End.K_ret (End.retV (ResL.tmp rfl ResL.nil) ?_)))))
            rw [chk_c (i := i) (by omega) (by omega) (by omega) (by unfold okI; simp_all)]; rfl
          · skip -- FFL0TfF
            refine W.skip ?_
            refine End.KB (End.K ?_)
            refine W.reg ?_
            refine WO.q (Q.bin rfl (oc (v := .int .i64 ((1 : Nat) : Int)) rfl) rfl (bv_add (wn_add (by first | omega | (simp at * <;> omega))))) rfl ?_
            refine WO.q (Q.move rfl) rfl ?_
            refine WO.nil ?_
            refine End.KL ?_
            refine W.sub (SubS.cons rfl (SubS.cons rfl (SubS.cons rfl (SubS.nil _)))) (W.subH gc (ih0 (i + 1) ?_ ?_))
            · exact ⟨by omega, fun j hj => by rcases Nat.lt_or_ge j i with q | q; exact h2 j q; obtain rfl : j = i := (by omega); unfold okI; simp_all⟩
            · exact (by first | omega | (simp at * <;> omega))
      · skip -- FFL0F
        refine W.exit ?_
        refine End.K_exit (End.KL_exit (End.KB_hit (End.K ?_)))
        refine W.seq ?_
        refine W.reg ?_
        refine WO.q (Q.assign (oc (v := .int .i64 ((0 : Nat) : Int)) rfl)) rfl ?_
        refine WO.nil ?_
        refine End.K ?_
        refine W.ret ?_
        refine End.retV (ResL.tmp rfl ResL.nil) ?_
        rw [chk_d (by omega) (by omega) (fun j hj => h2 j (by omega))]; rfl
end Go.Proofs.YtndhhgbpcmfeiaaGreatDoor.Ev
