/- Chapters 10 and 19, walks: sets of labels, vectors, by the document. -/
import Derived.Test.YtmblgaehfjheeaaGreatSYe
namespace Go.Proofs.YtmblgaehfjheeaaGreat.Ev
open Go.RowKit
set_option linter.unusedVariables false
set_option linter.unusedSimpArgs false
set_option maxRecDepth 100000
set_option maxHeartbeats 1000000
theorem cells_cell {v : AV} (h : v.isCell = true) : v.cells = [v] := by cases v <;> first | rfl | cases h
theorem fillE1 {v : AV} (h : v.isCell = true) : fillA (fun i => some (i * 1, 1)) (repl 1 AV.nils.cells) [(0, v)] = some [v] := by
  simp only [fillA, cells_cell h]; rfl
theorem fillE2 {v : AV} {n m : Int} (h : v.isCell = true) : fillA (fun i => [(0, 1), (1, 1)][i]?) [.nils, .int .i64 m] [(0, v), (1, .int .i64 n)] = some [v, .int .i64 n] := by
  simp only [fillA, cells_cell h]; rfl
/-- Sets of labels in memory. -/
def TIn (hs : HSt) (V : List El) (v : AV) : Prop := ((v = .nils ∧ V = []) ∨ ∃ b sz ex, v = .slice b 0 V.length 1 ∧ MemH hs b ⟨sz, ex, V.map (·.1)⟩) ∧ ∀ x ∈ V, LIn hs x.2.1 x.1
theorem TIn.len {hs : HSt} {V : List El} {v : AV} {e : Nat} (h : TIn hs V v) : lenA (.slice e) v = some V.length := by
  rcases h.1 with ⟨rfl, rfl⟩ | ⟨b, sz, ex, rfl, _⟩ <;> rfl
theorem TIn.full {hs : HSt} {V : List El} {v : AV} (h : TIn hs V v) (hl : 0 < V.length) : ∃ b sz ex, v = .slice b 0 V.length 1 ∧ MemH hs b ⟨sz, ex, V.map (·.1)⟩ := by
  rcases h.1 with ⟨_, rfl⟩ | h
  · simp at hl
  · exact h
theorem TIn.at {hs : HSt} {V : List El} {v : AV} (h : TIn hs V v) {i : Nat} (hi : i < V.length) : LIn hs (eg V i).2.1 (eg V i).1 := h.2 _ (eg_mem hi)
theorem TIn.own {hs hp : HSt} {V : List El} {u : AV} (h : Own 1 (V.map (·.1)) V.length u hp) (g : ∀ x ∈ V, LIn hs x.2.1 x.1) : TIn (ro hp ++ hs) V u := by
  refine ⟨?_, fun x hx => (g x hx).mono fun b o h => h.app⟩
  rcases h with ⟨h1, _, h3, _⟩ | ⟨b, ex, h1, h2, _, _⟩
  · exact .inl ⟨h3, List.length_eq_zero_iff.1 h1⟩
  · refine .inr ⟨b, 1, ex, h1, false, ?_⟩
    subst h2
    exact List.mem_append_left _ (List.mem_map.2 ⟨_, List.mem_singleton.2 rfl, rfl⟩)
theorem ro_app {hp hs : HSt} (hro : ∀ e ∈ hs, e.w = false) : ∀ e ∈ ro hp ++ hs, e.w = false := by
  intro e he
  rcases List.mem_append.1 he with he | he
  · exact ro_w e he
  · exact hro e he
theorem sub_ro {hp hs : HSt} (hro : ∀ e ∈ hs, e.w = false) : SubR (ro hp ++ hs) (hs ++ hp) := by
  refine ⟨fun e he => ?_, fun hn => ?_⟩
  · rcases List.mem_append.1 he with he | he
    · obtain ⟨x, hx, rfl⟩ := List.mem_map.1 he
      exact ⟨rfl, x.w, List.mem_append_right _ (by obtain ⟨b, o, w⟩ := x; exact hx)⟩
    · exact ⟨hro e he, e.w, List.mem_append_left _ (by obtain ⟨b, o, w⟩ := e; exact he)⟩
  · have e : (ro hp ++ hs).map (·.b) = hp.map (·.b) ++ hs.map (·.b) := by simp [ro]
    rw [e]
    rw [List.map_append] at hn
    exact (List.perm_append_comm.nodup_iff).1 hn
theorem cT_at {V : List El} {i : Nat} (h : i < V.length) : (V.map (·.1))[(0 + i) * 1]? = some (eg V i).1 := by
  unfold eg
  rw [Nat.zero_add, Nat.mul_one, List.getElem?_map, List.getD_eq_getElem?_getD, List.getElem?_eq_getElem h]; rfl
/-- The first that is wrong. -/
def fstE (g : Nat → Nat) : Nat → Nat → Nat
  | 0, _ => 0
  | n + 1, i => if g i ≠ 0 then g i else fstE g n (i + 1)
theorem fst_hit {g : Nat → Nat} {i n e : Nat} (h : i < n) (h1 : g i = e) (he : e ≠ 0) : fstE g (n - i) i = e := by
  have : n - i = (n - (i + 1)) + 1 := by omega
  rw [this, fstE, h1, if_pos he]
theorem fst_next {g : Nat → Nat} {i n : Nat} (h : i < n) (h1 : g i = 0) : fstE g (n - i) i = fstE g (n - (i + 1)) (i + 1) := by
  have : n - i = (n - (i + 1)) + 1 := by omega
  rw [this, fstE, h1, if_neg (by simp)]
theorem fst_done {g : Nat → Nat} {i n : Nat} (h : n ≤ i) : fstE g (n - i) i = 0 := by
  have : n - i = 0 := by omega
  rw [this, fstE]
/-- What is wrong with a set of some. -/
noncomputable def ichk1 (V : List El) (i : Nat) : Nat := if lchk (eg V i).2.1 ≠ 0 then lchk (eg V i).2.1 else if 0 < i ∧ 0 ≤ cmpL (eg V (i - 1)).2.1 (eg V i).2.1 then 13 else 0
noncomputable def ichk (V : List El) : Nat := if 256 < V.length then 3 else fstE (ichk1 V) V.length 0
theorem ichk_big {V : List El} (h : 256 < V.length) : ichk V = 3 := if_pos h
theorem ichk_go {V : List El} (h : ¬ 256 < V.length) : ichk V = fstE (ichk1 V) (V.length - 0) 0 := if_neg h
/-- What is wrong with a vector. -/
noncomputable def vchk (V : List El) : Nat := if ichk V ≠ 0 then ichk V else if fitsE V then 0 else 11
theorem ichk_300 {V : List El} : ichk (V.take 300) = ichk V := by
  by_cases h : V.length ≤ 300
  · rw [List.take_of_length_le h]
  · rw [ichk_big (by rw [List.length_take]; omega), ichk_big (by omega)]
theorem take_end {V : List El} {i : Nat} (h : i ≤ 300 ∧ (300 ≤ i ∨ V.length ≤ i)) : V.take i = V.take 300 := by
  rcases h.2 with g | g
  · rw [show i = 300 by omega]
  · rw [List.take_of_length_le g, List.take_of_length_le (by omega)]
theorem take_el {V : List El} {i : Nat} (h : i < V.length) : V.take (i + 1) = V.take i ++ [eg V i] := by
  rw [List.take_add_one, List.getElem?_eq_getElem h]
  unfold eg
  rw [List.getD_eq_getElem?_getD, List.getElem?_eq_getElem h]; rfl
theorem EBd.take {V : List El} (h : EBd V) (k : Nat) : EBd (V.take k) := ⟨by rw [List.length_take]; have := h.1; omega, fun x hx => h.2 x (List.mem_of_mem_take hx)⟩
theorem vchk_e {V : List El} (h : ichk V ≠ 0) : vchk V = ichk V := if_pos h
theorem vchk_no {V : List El} (h : ichk V = 0) {i : Nat} (hi : i < V.length) (hf : fitB (eg V i).2.2 = false) : vchk V = 11 := by
  have : fitsE V = false := by
    unfold fitsE
    rw [decide_eq_false_iff_not]
    intro g
    rw [g i hi] at hf; cases hf
  unfold vchk
  rw [if_neg (by simp [h]), this]; rfl
theorem vchk_ok {V : List El} (h : ichk V = 0) (hf : ∀ i, i < V.length → fitB (eg V i).2.2 = true) : vchk V = 0 := by
  have : fitsE V = true := by
    unfold fitsE
    rw [decide_eq_true_iff]
    exact hf
  unfold vchk
  rw [if_neg (by simp [h]), this]; rfl
theorem rick_spec (hs : HSt) (hro : ∀ e ∈ hs, e.w = false) (V : List El) (v : AV) (hT : TIn hs V v) (hB : EBd V) : Spec tab 78 [v] [] hs (Val (.int .i64 ((ichk V : Nat) : Int))) := by
  have hBl := hB.1
  refine Spec.enter' (ft_get 78 Tryz.func78) rfl (m := 37) rfl (rs := [.tmp 2]) rfl (st := [(0, v)]) rfl rfl (fun _ => rfl) (fun E => ?_)
  refine W.seq ?_
  refine W.reg ?_
  refine WO.q (Q.assign (oc (v := .int .i64 ((0 : Nat) : Int)) rfl)) rfl ?_
  refine WO.nil ?_
  refine End.K ?_
  refine W.seq ?_
  refine W.seq ?_
  refine W.reg ?_
  refine WO.q (Q.move rfl) rfl ?_
  refine WO.q (Q.len ud90 rfl (TIn.len hT)) rfl ?_
  refine WO.q (Q.bin rfl (oc (v := .int .i64 ((256 : Nat) : Int)) rfl) rfl (bv_gtr lt_nat)) rfl ?_
  refine WO.nil ?_
  refine End.K ?_
  refine W.condDS rfl (fun hc7 => ?_) (fun hc7 => ?_)
  · skip -- T
    refine W.seq ?_
    refine W.reg ?_
    refine WO.q (Q.assign (oc (v := .int .i64 ((3 : Nat) : Int)) rfl)) rfl ?_
    refine WO.nil ?_
    refine End.K ?_
    refine W.ret ?_
    refine End.K_ret (End.retV (ResL.tmp rfl ResL.nil) ?_)
    show AV.int .i64 _ = _; rw [ichk_big (by omega)]
  · skip -- F
    refine W.skip ?_
    refine End.K ?_
    refine W.seq ?_
    refine W.seq ?_
    refine W.reg ?_
    refine WO.q (Q.assign (oc (v := .int .i64 ((0 : Nat) : Int)) rfl)) rfl ?_
    refine WO.nil ?_
    refine End.K ?_
    refine W.block ?_
    refine W.loop_ind (fun (i : Nat) => [(0, v), (3, .int .i64 ((i : Nat) : Int))]) (fun _ => _) (fun (i : Nat) => i ≤ V.length ∧ ichk V = fstE (ichk1 V) (V.length - i) i) (fun (i : Nat) => V.length - i) (0) ⟨Nat.zero_le _, ichk_go (by omega)⟩ (SubS.cons rfl (SubS.cons rfl (SubS.nil _))) (SubH.refl _) (fun i hI0 ih0 => ?_)
    obtain ⟨h1, h3⟩ := hI0
    refine W.seq ?_
    refine W.seq ?_
    refine W.reg ?_
    refine WO.q (Q.move rfl) rfl ?_
    refine WO.q (Q.move rfl) rfl ?_
    refine WO.q (Q.len ud90 rfl (TIn.len hT)) rfl ?_
    refine WO.q (Q.bin rfl rfl rfl (bv_lss lt_nat)) rfl ?_
    refine WO.nil ?_
    refine End.K ?_
    refine W.condDS rfl (fun hc11 => ?_) (fun hc11 => ?_)
    · skip -- FL0T
      obtain ⟨bt, szt, ext, rfl, wt, mt⟩ := TIn.full hT (by omega)
      refine W.skip ?_
      refine End.K ?_
      refine W.seq ?_
      refine W.block ?_
      refine W.seq ?_
      refine W.seq ?_
      refine W.reg ?_
      refine WO.q (Q.move rfl) rfl ?_
      refine WO.q (Q.move rfl) rfl ?_
      refine WO.q (Q.iaddrS ud90 sz33 rfl rfl (by first | omega | (simp at * <;> omega))) rfl ?_
      refine WO.q (Q.load1 rfl mt ag33 (cT_at (by first | omega | (simp at * <;> omega)))) rfl ?_
      refine WO.callV rfl (oLs_cons rfl oLs_nil) rfl (rlchk_spec hs hro _ _ (hT.at (by first | omega | (simp at * <;> omega))) (hB.at (by first | omega | (simp at * <;> omega))).1) (SubR.self hro) rfl ?_
      refine WO.q (Q.assign rfl) rfl ?_
      refine WO.nil ?_
      refine End.K ?_
      refine W.seq ?_
      refine W.reg ?_
      refine WO.q (Q.move rfl) rfl ?_
      refine WO.q (Q.bin rfl (oc (v := .int .i64 ((0 : Nat) : Int)) rfl) rfl (bv_neq ne_nat)) rfl ?_
      refine WO.nil ?_
      refine End.K ?_
      refine W.condDS rfl (fun hc20 => ?_) (fun hc20 => ?_)
      · skip -- FL0TT
        refine W.seq ?_
        refine W.reg ?_
        refine WO.q (Q.move rfl) rfl ?_
        refine WO.q (Q.assign rfl) rfl ?_
        refine WO.nil ?_
        refine End.K ?_
        refine W.sub (SubS.cons (k := 2) rfl (SubS.nil _)) ?_
        refine W.ret ?_
        refine End.K_ret (End.KB_ret (End.K_ret (End.KL_ret (End.KB_ret (End.K_ret (End.retV (ResL.tmp rfl ResL.nil) ?_))))))
        show AV.int .i64 _ = _; rw [h3, fst_hit (e := lchk (eg V i).2.1) (by omega) (by unfold ichk1; simp_all <;> omega) (by omega)]
      · skip -- FL0TF
        refine W.skip ?_
        refine End.K ?_
        refine W.seq ?_
        refine W.regT (by kernel_rfl) ?_
        refine WO.q (Q.move rfl) rfl ?_
        refine WO.q (Q.bin rfl (oc (v := .int .i64 ((0 : Nat) : Int)) rfl) rfl (bv_gtr lt_nat)) rfl ?_
        refine WO.q (Q.move rfl) rfl ?_
        refine WO.splitD (d := 24) rfl (fun hc24 => ?_) (fun hc24 => ?_)
        · skip -- FL0TFt
          refine WO.gT rfl rfl ?_
          refine WO.q (Q.move rfl) rfl ?_
          refine WO.gT rfl rfl ?_
          refine WO.q (Q.move rfl) rfl ?_
          refine WO.gT rfl rfl ?_
          refine WO.q (Q.bin rfl (oc (v := .int .i64 ((1 : Nat) : Int)) rfl) rfl (bv_sub (wn_sub (by first | omega | (simp at * <;> omega))))) rfl ?_
          refine WO.gT rfl rfl ?_
          refine WO.q (Q.iaddrS ud90 sz33 rfl rfl (by first | omega | (simp at * <;> omega))) rfl ?_
          refine WO.gT rfl rfl ?_
          refine WO.q (Q.load1 rfl mt ag33 (cT_at (by first | omega | (simp at * <;> omega)))) rfl ?_
          refine WO.gT rfl rfl ?_
          refine WO.q (Q.move rfl) rfl ?_
          refine WO.gT rfl rfl ?_
          refine WO.q (Q.move rfl) rfl ?_
          refine WO.gT rfl rfl ?_
          refine WO.q (Q.iaddrS ud90 sz33 rfl rfl (by first | omega | (simp at * <;> omega))) rfl ?_
          refine WO.gT rfl rfl ?_
          refine WO.q (Q.load1 rfl mt ag33 (cT_at (by first | omega | (simp at * <;> omega)))) rfl ?_
          refine WO.gT rfl rfl ?_
          refine WO.callV rfl (oLs_cons rfl (oLs_cons rfl oLs_nil)) rfl (rcmp_spec hs hro _ _ _ _ (hT.at (by first | omega | (simp at * <;> omega))) (hT.at (by first | omega | (simp at * <;> omega))) (hB.at (by first | omega | (simp at * <;> omega))).1 (hB.at (by first | omega | (simp at * <;> omega))).1) (SubR.self hro) rfl ?_
          refine WO.gT rfl rfl ?_
          refine WO.q (Q.bin rfl (oc (v := .int .i64 ((0 : Nat) : Int)) rfl) rfl (bv_geq le_int)) rfl ?_
          refine WO.q (Q.pickT rfl rfl) rfl ?_
          refine WO.nil ?_
          refine End.K ?_
          refine W.sub (SubS.cons (k := 36) rfl (SubS.cons (k := 0) rfl (SubS.cons (k := 3) rfl (SubS.nil _)))) ?_
          refine W.condDS rfl (fun hc36 => ?_) (fun hc36 => ?_)
          · skip -- FL0TFtT
            refine W.seq ?_
            refine W.reg ?_
            refine WO.q (Q.assign (oc (v := .int .i64 ((13 : Nat) : Int)) rfl)) rfl ?_
            refine WO.nil ?_
            refine End.K ?_
            refine W.ret ?_
            refine End.KB_ret (End.K_ret (End.KL_ret (End.KB_ret (End.K_ret (End.retV (ResL.tmp rfl ResL.nil) ?_)))))
            show AV.int .i64 _ = _; rw [h3, fst_hit (e := 13) (by omega) (by unfold ichk1; simp_all <;> omega) (by decide)]
          · skip -- FL0TFtF
            refine W.skip ?_
            refine End.KB (End.K ?_)
            refine W.reg ?_
            refine WO.q (Q.move rfl) rfl ?_
            refine WO.q (Q.bin rfl (oc (v := .int .i64 ((1 : Nat) : Int)) rfl) rfl (bv_add (wn_add (by first | omega | (simp at * <;> omega))))) rfl ?_
            refine WO.q (Q.assign rfl) rfl ?_
            refine WO.nil ?_
            refine End.KL ?_
            refine W.sub (SubS.cons rfl (SubS.cons rfl (SubS.nil _))) (ih0 (i + 1) ?_ ?_)
            · exact ⟨by omega, by rw [h3, fst_next (by omega) (by unfold ichk1; simp_all <;> omega)]⟩
            · exact (by first | omega | (simp at * <;> omega))
        · skip -- FL0TFf
          refine WO.gF rfl rfl (.inl rfl) rfl ?_
          refine WO.gF rfl rfl (.inl rfl) rfl ?_
          refine WO.gF rfl rfl (.inl rfl) rfl ?_
          refine WO.gF rfl rfl (.inl rfl) rfl ?_
          refine WO.gF rfl rfl (.inl rfl) rfl ?_
          refine WO.gF rfl rfl (.inl rfl) rfl ?_
          refine WO.gF rfl rfl (.inl rfl) rfl ?_
          refine WO.gF rfl rfl (.inl rfl) rfl ?_
          refine WO.gF rfl rfl (.inl rfl) rfl ?_
          refine WO.gF rfl rfl (.inl rfl) rfl ?_
          refine WO.gF rfl rfl (.inl rfl) rfl ?_
          refine WO.q (Q.pickF rfl rfl) rfl ?_
          refine WO.nil ?_
          refine End.K ?_
          refine W.sub (SubS.cons (k := 36) rfl (SubS.cons (k := 0) rfl (SubS.cons (k := 3) rfl (SubS.nil _)))) ?_
          refine W.condF rfl ?_
          refine W.skip ?_
          refine End.KB (End.K ?_)
          refine W.reg ?_
          refine WO.q (Q.move rfl) rfl ?_
          refine WO.q (Q.bin rfl (oc (v := .int .i64 ((1 : Nat) : Int)) rfl) rfl (bv_add (wn_add (by first | omega | (simp at * <;> omega))))) rfl ?_
          refine WO.q (Q.assign rfl) rfl ?_
          refine WO.nil ?_
          refine End.KL ?_
          refine W.sub (SubS.cons rfl (SubS.cons rfl (SubS.nil _))) (ih0 (i + 1) ?_ ?_)
          · exact ⟨by omega, by rw [h3, fst_next (by omega) (by unfold ichk1; simp_all <;> omega)]⟩
          · exact (by first | omega | (simp at * <;> omega))
    · skip -- FL0F
      refine W.exit ?_
      refine End.K_exit (End.KL_exit (End.KB_hit (End.K ?_)))
      refine W.seq ?_
      refine W.reg ?_
      refine WO.q (Q.assign (oc (v := .int .i64 ((0 : Nat) : Int)) rfl)) rfl ?_
      refine WO.nil ?_
      refine End.K ?_
      refine W.ret ?_
      refine End.retV (ResL.tmp rfl ResL.nil) ?_
      show AV.int .i64 _ = _; rw [h3, fst_done (by omega)]

theorem rvck_spec (hs : HSt) (hro : ∀ e ∈ hs, e.w = false) (V : List El) (v : AV) (hV : EIn hs V v) (hB : EBd V) : Spec tab 29 [v] [] hs (Val (.int .i64 ((vchk V : Nat) : Int))) := by
  have hBl := hB.1
  refine Spec.enter' (ft_get 29 Tryz.func29) rfl (m := 43) rfl (rs := [.tmp 2]) rfl (st := [(0, v)]) rfl rfl (fun _ => rfl) (fun E => ?_)
  refine W.seq ?_
  refine W.reg ?_
  refine WO.q (Q.assign (oc (v := .int .i64 ((0 : Nat) : Int)) rfl)) rfl ?_
  refine WO.nil ?_
  refine End.K ?_
  refine W.seq ?_
  refine W.reg ?_
  refine WO.q (Q.assign rfl) rfl ?_
  refine WO.nil ?_
  refine End.K ?_
  refine W.seq ?_
  refine W.seq ?_
  refine W.reg ?_
  refine WO.q (Q.assign (oc (v := .int .i64 ((0 : Nat) : Int)) rfl)) rfl ?_
  refine WO.nil ?_
  refine End.K ?_
  refine W.block ?_
  refine W.loop_ind3 (fun (i : Nat) (u : AV) (hp : HSt) => [(0, v), (3, u), (4, .int .i64 ((i : Nat) : Int))]) (fun (i : Nat) (u : AV) (hp : HSt) => (hs ++ hp)) (fun (i : Nat) (u : AV) (hp : HSt) => i ≤ V.length ∧ i ≤ 300 ∧ Own 1 ((V.take i).map (·.1)) (V.take i).length u hp) (fun (i : Nat) (u : AV) (hp : HSt) => V.length - i) (0) (.nils) ([]) ⟨Nat.zero_le _, by omega, Own.nil 1⟩ (SubS.cons rfl (SubS.cons rfl (SubS.cons rfl (SubS.nil _)))) app_nil_sub (fun i u hp hI0 ih0 => ?_)
  obtain ⟨h1, h2, hO⟩ := hI0
  refine W.seq ?_
  refine W.seq ?_
  refine W.reg ?_
  refine WO.q (Q.move rfl) rfl ?_
  refine WO.q (Q.move rfl) rfl ?_
  refine WO.q (Q.len ud22 rfl (EIn.len hV)) rfl ?_
  refine WO.q (Q.bin rfl rfl rfl (bv_lss lt_nat)) rfl ?_
  refine WO.q (Q.move rfl) rfl ?_
  refine WO.splitD (d := 11) rfl (fun hc11 => ?_) (fun hc11 => ?_)
  · skip -- L0t
    refine WO.gT rfl rfl ?_
    refine WO.q (Q.move rfl) rfl ?_
    refine WO.gT rfl rfl ?_
    refine WO.q (Q.bin rfl (oc (v := .int .i64 ((300 : Nat) : Int)) rfl) rfl (bv_lss lt_nat)) rfl ?_
    refine WO.q (Q.pickT rfl rfl) rfl ?_
    refine WO.nil ?_
    refine End.K ?_
    refine W.condDS rfl (fun hc14 => ?_) (fun hc14 => ?_)
    · skip -- L0tT
      obtain ⟨bv, szv, exv, rfl, wv, mv⟩ := EIn.full hV (by omega)
      refine W.skip ?_
      refine End.K ?_
      refine W.seq ?_
      refine W.block ?_
      refine W.reg ?_
      refine WO.q (Q.move rfl) rfl ?_
      refine WO.q (Q.move rfl) rfl ?_
      refine WO.q (Q.move rfl) rfl ?_
      refine WO.q (Q.iaddrS ud22 sz35 rfl rfl (by first | omega | (simp at * <;> omega))) rfl ?_
      refine WO.q (Q.fieldAddr fa35_0 rfl rfl) rfl ?_
      refine WO.q (Q.load1 rfl (List.mem_append_left _ mv) ag33 (cE_f0 (by first | omega | (simp at * <;> omega)))) rfl ?_
      refine WO.bslice ud90 sz33 zr33 rfl (oPs_cons rfl oPs_nil) rfl (cs := [_]) (fillE1 (LIn.cell (hV.at (by omega)))) (and_tt (LIn.cell (hV.at (by omega))) rfl) rfl (fun b1 => ?_)
      refine WO.appOwn (e := ⟨b1, _, true⟩) (A := ([] ++ hs)) ap90_90 hO rfl rfl rfl rfl ⟨by first | omega | (simp at * <;> omega), by first | omega | (simp at * <;> omega)⟩ (by decide) rfl rfl (fun v24 hp24 hO24 => ?_)
      refine WO.q (Q.assign rfl) rfl ?_
      refine WO.nil ?_
      refine End.KB (End.K ?_)
      refine W.sub (SubS.cons (k := 3) rfl (SubS.cons (k := 0) rfl (SubS.cons (k := 4) rfl (SubS.nil _)))) ?_
      refine W.reg ?_
      refine WO.q (Q.move rfl) rfl ?_
      refine WO.q (Q.bin rfl (oc (v := .int .i64 ((1 : Nat) : Int)) rfl) rfl (bv_add (wn_add (by first | omega | (simp at * <;> omega))))) rfl ?_
      refine WO.q (Q.assign rfl) rfl ?_
      refine WO.nil ?_
      refine End.KL ?_
      refine W.sub (SubS.cons rfl (SubS.cons rfl (SubS.cons rfl (SubS.nil _)))) (W.subH gc (ih0 (i + 1) (v24) (hp24) ?_ ?_))
      · exact ⟨by omega, by omega, by rw [take_el (by omega), List.map_append, List.length_append]; exact hO24⟩
      · exact (by first | omega | (simp at * <;> omega))
    · skip -- L0tF
      have ht : V.take i = V.take 300 := take_end (by omega)
      rw [ht] at hO
      refine W.exit ?_
      refine End.K_exit (End.KL_exit (End.KB_hit (End.K ?_)))
      refine W.seq ?_
      refine W.seq ?_
      refine W.reg ?_
      refine WO.q (Q.move rfl) rfl ?_
      refine WO.callV rfl (oLs_cons rfl oLs_nil) rfl (rick_spec (ro hp ++ hs) (ro_app hro) (V.take 300) u (TIn.own hO (fun x hx => hV.2 x (List.mem_of_mem_take hx))) (hB.take 300)) (sub_ro hro) rfl ?_
      refine WO.q (Q.assign rfl) rfl ?_
      refine WO.nil ?_
      refine End.K ?_
      refine W.seq ?_
      refine W.reg ?_
      refine WO.q (Q.move rfl) rfl ?_
      refine WO.q (Q.bin rfl (oc (v := .int .i64 ((0 : Nat) : Int)) rfl) rfl (bv_neq ne_nat)) rfl ?_
      refine WO.nil ?_
      refine End.K ?_
      refine W.condDS rfl (fun hc28 => ?_) (fun hc28 => ?_)
      · skip -- L0tFT
        refine W.seq ?_
        refine W.reg ?_
        refine WO.q (Q.move rfl) rfl ?_
        refine WO.q (Q.assign rfl) rfl ?_
        refine WO.nil ?_
        refine End.K ?_
        refine W.sub (SubS.cons (k := 2) rfl (SubS.nil _)) ?_
        refine W.ret ?_
        refine End.K_ret (End.retV (ResL.tmp rfl ResL.nil) ?_)
        show AV.int .i64 _ = _; rw [vchk_e (V := V) (by rw [← ichk_300]; simpa using hc28)]; rw [ichk_300]
      · skip -- L0tFF
        refine W.skip ?_
        refine End.K ?_
        refine W.sub (SubS.cons (k := 0) rfl (SubS.nil _)) ?_
        refine W.seq ?_
        refine W.seq ?_
        refine W.reg ?_
        refine WO.q (Q.assign (oc (v := .int .i64 ((0 : Nat) : Int)) rfl)) rfl ?_
        refine WO.nil ?_
        refine End.K ?_
        refine W.block ?_
        refine W.loop_ind (fun (i : Nat) => [(0, v), (6, .int .i64 ((i : Nat) : Int))]) (fun _ => _) (fun (i : Nat) => i ≤ V.length ∧ ∀ j, j < i → fitB (eg V j).2.2 = true) (fun (i : Nat) => V.length - i) (0) ⟨Nat.zero_le _, fun j h => by omega⟩ (SubS.cons rfl (SubS.cons rfl (SubS.nil _))) (SubH.refl _) (fun i hI1 ih1 => ?_)
        obtain ⟨hi, hno⟩ := hI1
        refine W.seq ?_
        refine W.seq ?_
        refine W.reg ?_
        refine WO.q (Q.move rfl) rfl ?_
        refine WO.q (Q.move rfl) rfl ?_
        refine WO.q (Q.len ud22 rfl (EIn.len hV)) rfl ?_
        refine WO.q (Q.bin rfl rfl rfl (bv_lss lt_nat)) rfl ?_
        refine WO.nil ?_
        refine End.K ?_
        refine W.condDS rfl (fun hc33 => ?_) (fun hc33 => ?_)
        · skip -- L0tFFL1T
          obtain ⟨bv, szv, exv, rfl, wv, mv⟩ := EIn.full hV (by omega)
          refine W.skip ?_
          refine End.K ?_
          refine W.seq ?_
          refine W.block ?_
          refine W.seq ?_
          refine W.reg ?_
          refine WO.q (Q.move rfl) rfl ?_
          refine WO.q (Q.move rfl) rfl ?_
          refine WO.q (Q.iaddrS ud22 sz35 rfl rfl (by first | omega | (simp at * <;> omega))) rfl ?_
          refine WO.q (Q.fieldAddr fa35_1 rfl rfl) rfl ?_
          refine WO.q (Q.load1 rfl (List.mem_append_left _ mv) ag3 (cE_f1 (by first | omega | (simp at * <;> omega)))) rfl ?_
          refine WO.callV rfl (oLs_cons rfl oLs_nil) rfl (rfits_spec _) SubR.nil rfl ?_
          refine WO.q (Q.not rfl rfl) rfl ?_
          refine WO.nil ?_
          refine End.K ?_
          refine W.condS rfl (fun hc42 => ?_) (fun hc42 => ?_)
          · skip -- L0tFFL1TT
            refine W.seq ?_
            refine W.reg ?_
            refine WO.q (Q.assign (oc (v := .int .i64 ((11 : Nat) : Int)) rfl)) rfl ?_
            refine WO.nil ?_
            refine End.K ?_
            refine W.ret ?_
            refine End.KB_ret (End.K_ret (End.KL_ret (End.KB_ret (End.K_ret (End.retV (ResL.tmp rfl ResL.nil) ?_)))))
            show AV.int .i64 _ = _; rw [vchk_no (by rw [← ichk_300]; simp_all) (i := i) (by omega) (by simpa using hc42)]
          · skip -- L0tFFL1TF
            refine W.skip ?_
            refine End.KB (End.K ?_)
            refine W.reg ?_
            refine WO.q (Q.move rfl) rfl ?_
            refine WO.q (Q.bin rfl (oc (v := .int .i64 ((1 : Nat) : Int)) rfl) rfl (bv_add (wn_add (by first | omega | (simp at * <;> omega))))) rfl ?_
            refine WO.q (Q.assign rfl) rfl ?_
            refine WO.nil ?_
            refine End.KL ?_
            refine W.sub (SubS.cons rfl (SubS.cons rfl (SubS.nil _))) (ih1 (i + 1) ?_ ?_)
            · exact ⟨by omega, fun j h => by rcases Nat.lt_or_ge j i with g | g; exact hno j g; have hji : j = i := (by omega); subst hji; simpa using hc42⟩
            · exact (by first | omega | (simp at * <;> omega))
        · skip -- L0tFFL1F
          refine W.exit ?_
          refine End.K_exit (End.KL_exit (End.KB_hit (End.K ?_)))
          refine W.seq ?_
          refine W.reg ?_
          refine WO.q (Q.assign (oc (v := .int .i64 ((0 : Nat) : Int)) rfl)) rfl ?_
          refine WO.nil ?_
          refine End.K ?_
          refine W.ret ?_
          refine End.retV (ResL.tmp rfl ResL.nil) ?_
          show AV.int .i64 _ = _; rw [vchk_ok (by rw [← ichk_300]; simp_all) (fun j hj => hno j (by omega))]
  · skip -- L0f
    have ht : V.take i = V.take 300 := take_end (by omega)
    rw [ht] at hO
    refine WO.gF rfl rfl (.inl rfl) rfl ?_
    refine WO.gF rfl rfl (.inl rfl) rfl ?_
    refine WO.q (Q.pickF rfl rfl) rfl ?_
    refine WO.nil ?_
    refine End.K ?_
    refine W.condF rfl ?_
    refine W.exit ?_
    refine End.K_exit (End.KL_exit (End.KB_hit (End.K ?_)))
    refine W.seq ?_
    refine W.seq ?_
    refine W.reg ?_
    refine WO.q (Q.move rfl) rfl ?_
    refine WO.callV rfl (oLs_cons rfl oLs_nil) rfl (rick_spec (ro hp ++ hs) (ro_app hro) (V.take 300) u (TIn.own hO (fun x hx => hV.2 x (List.mem_of_mem_take hx))) (hB.take 300)) (sub_ro hro) rfl ?_
    refine WO.q (Q.assign rfl) rfl ?_
    refine WO.nil ?_
    refine End.K ?_
    refine W.seq ?_
    refine W.reg ?_
    refine WO.q (Q.move rfl) rfl ?_
    refine WO.q (Q.bin rfl (oc (v := .int .i64 ((0 : Nat) : Int)) rfl) rfl (bv_neq ne_nat)) rfl ?_
    refine WO.nil ?_
    refine End.K ?_
    refine W.condDS rfl (fun hc28 => ?_) (fun hc28 => ?_)
    · skip -- L0fT
      refine W.seq ?_
      refine W.reg ?_
      refine WO.q (Q.move rfl) rfl ?_
      refine WO.q (Q.assign rfl) rfl ?_
      refine WO.nil ?_
      refine End.K ?_
      refine W.sub (SubS.cons (k := 2) rfl (SubS.nil _)) ?_
      refine W.ret ?_
      refine End.K_ret (End.retV (ResL.tmp rfl ResL.nil) ?_)
      show AV.int .i64 _ = _; rw [vchk_e (V := V) (by rw [← ichk_300]; simpa using hc28)]; rw [ichk_300]
    · skip -- L0fF
      refine W.skip ?_
      refine End.K ?_
      refine W.sub (SubS.cons (k := 0) rfl (SubS.nil _)) ?_
      refine W.seq ?_
      refine W.seq ?_
      refine W.reg ?_
      refine WO.q (Q.assign (oc (v := .int .i64 ((0 : Nat) : Int)) rfl)) rfl ?_
      refine WO.nil ?_
      refine End.K ?_
      refine W.block ?_
      refine W.loop_ind (fun (i : Nat) => [(0, v), (6, .int .i64 ((i : Nat) : Int))]) (fun _ => _) (fun (i : Nat) => i ≤ V.length ∧ ∀ j, j < i → fitB (eg V j).2.2 = true) (fun (i : Nat) => V.length - i) (0) ⟨Nat.zero_le _, fun j h => by omega⟩ (SubS.cons rfl (SubS.cons rfl (SubS.nil _))) (SubH.refl _) (fun i hI1 ih1 => ?_)
      obtain ⟨hi, hno⟩ := hI1
      refine W.seq ?_
      refine W.seq ?_
      refine W.reg ?_
      refine WO.q (Q.move rfl) rfl ?_
      refine WO.q (Q.move rfl) rfl ?_
      refine WO.q (Q.len ud22 rfl (EIn.len hV)) rfl ?_
      refine WO.q (Q.bin rfl rfl rfl (bv_lss lt_nat)) rfl ?_
      refine WO.nil ?_
      refine End.K ?_
      refine W.condDS rfl (fun hc33 => ?_) (fun hc33 => ?_)
      · skip -- L0fFL1T
        obtain ⟨bv, szv, exv, rfl, wv, mv⟩ := EIn.full hV (by omega)
        refine W.skip ?_
        refine End.K ?_
        refine W.seq ?_
        refine W.block ?_
        refine W.seq ?_
        refine W.reg ?_
        refine WO.q (Q.move rfl) rfl ?_
        refine WO.q (Q.move rfl) rfl ?_
        refine WO.q (Q.iaddrS ud22 sz35 rfl rfl (by first | omega | (simp at * <;> omega))) rfl ?_
        refine WO.q (Q.fieldAddr fa35_1 rfl rfl) rfl ?_
        refine WO.q (Q.load1 rfl (List.mem_append_left _ mv) ag3 (cE_f1 (by first | omega | (simp at * <;> omega)))) rfl ?_
        refine WO.callV rfl (oLs_cons rfl oLs_nil) rfl (rfits_spec _) SubR.nil rfl ?_
        refine WO.q (Q.not rfl rfl) rfl ?_
        refine WO.nil ?_
        refine End.K ?_
        refine W.condS rfl (fun hc42 => ?_) (fun hc42 => ?_)
        · skip -- L0fFL1TT
          refine W.seq ?_
          refine W.reg ?_
          refine WO.q (Q.assign (oc (v := .int .i64 ((11 : Nat) : Int)) rfl)) rfl ?_
          refine WO.nil ?_
          refine End.K ?_
          refine W.ret ?_
          refine End.KB_ret (End.K_ret (End.KL_ret (End.KB_ret (End.K_ret (End.retV (ResL.tmp rfl ResL.nil) ?_)))))
          show AV.int .i64 _ = _; rw [vchk_no (by rw [← ichk_300]; simp_all) (i := i) (by omega) (by simpa using hc42)]
        · skip -- L0fFL1TF
          refine W.skip ?_
          refine End.KB (End.K ?_)
          refine W.reg ?_
          refine WO.q (Q.move rfl) rfl ?_
          refine WO.q (Q.bin rfl (oc (v := .int .i64 ((1 : Nat) : Int)) rfl) rfl (bv_add (wn_add (by first | omega | (simp at * <;> omega))))) rfl ?_
          refine WO.q (Q.assign rfl) rfl ?_
          refine WO.nil ?_
          refine End.KL ?_
          refine W.sub (SubS.cons rfl (SubS.cons rfl (SubS.nil _))) (ih1 (i + 1) ?_ ?_)
          · exact ⟨by omega, fun j h => by rcases Nat.lt_or_ge j i with g | g; exact hno j g; have hji : j = i := (by omega); subst hji; simpa using hc42⟩
          · exact (by first | omega | (simp at * <;> omega))
      · skip -- L0fFL1F
        refine W.exit ?_
        refine End.K_exit (End.KL_exit (End.KB_hit (End.K ?_)))
        refine W.seq ?_
        refine W.reg ?_
        refine WO.q (Q.assign (oc (v := .int .i64 ((0 : Nat) : Int)) rfl)) rfl ?_
        refine WO.nil ?_
        refine End.K ?_
        refine W.ret ?_
        refine End.retV (ResL.tmp rfl ResL.nil) ?_
        show AV.int .i64 _ = _; rw [vchk_ok (by rw [← ichk_300]; simp_all) (fun j hj => hno j (by omega))]
end Go.Proofs.YtmblgaehfjheeaaGreat.Ev
