/- FixedRows: for every input the law returns true, and each argument reads behind the call as it read before; conditions: the row's own (the listed tables hold what the program's text lays). -/
import Derived.Test.YthbdgnmgdpbdjaaDoorFixF
import Derived.Test.YthbdgnmgdpbdjaaDoorFixW
import Derived.Test.YthbdgnmgdpbdjaaDoorTie
import Derived.Test.YthbdgnmgdpbdjaaDoorCards
set_option linter.unusedVariables false
namespace Go.Proofs.YthbdgnmgdpbdjaaDoor.fixedRows
open Go.ChangeShapes Go.WideShapes Go.ChangeAt Go.RowKit
theorem cI : Tryd.prog.cellsOf 3 = 1 := by kernel_rfl
theorem bI : Tryd.prog.bytesOf 3 = 8 := by kernel_rfl
theorem laidOut : laidOutB Tryd.prog = true := by kernel_rfl
set_option maxRecDepth 100000 in
theorem lifted (os : Os) (started : os.Started) (H : Type) (enc : TypeId × Value → H) :
    ReturnsInHanded {} Tryd.checked os 7 .any (fun w args => (Rows.fixedRowsSpec.pre enc Tryd.prog Tryd.f7 Rows.fixedRowsRow.domain false w args ∧ laidMetH Tryd.prog laidL w) ∧ sizedMet enc Tryd.prog Tryd.f7 (OpenSpec.ofChange Rows.fixedRowsSpec) false w args)
      (Rows.fixedRowsSpec.post enc Tryd.prog Tryd.f7 false true false false) := by
  refine returnsInHanded_of_change_and (C := Tryd.checked) (X := fun w _ => laidMetH Tryd.prog laidL w) (fun _ _ _ hh h => h.of_heap hh) own started (by kernel_rfl) Tryd.func7
    (ChangeSpec.witness_shaped (enc := enc) (C := Tryd.checked) (os := os) (X := fun w _ => laidMetH Tryd.prog laidL w) false (World.laidAll Tryd.prog os laidL) #[.slice none 0 0] 8 (World.laidAll_os _ _ _)
      (World.shaped_of_ZipB (by kernel_rfl) (by kernel_rfl)) (by kernel_rfl) (by kernel_rfl) (by kernel_rfl)
      (by rw [MakeChecks.laidMetH_plain _ _ _ (by kernel_rfl)]; exact laidMet_laidAll _ (by kernel_rfl) (by kernel_rfl))) ?_
  intro W base args ds gs before hval0 hW hcnd hsz hL _
  have hval : ∀ (j : Nat) t v, Tryd.f7.params[j]? = some t → args[j]? = some v → Value.okWide Tryd.prog W .any base t v := hval0
  have hW' := hW
  obtain ⟨p, q, hA0, hV, rfl, hfz, hnd⟩ := hW
  have hA : DataW.TrodAll enc Tryd.prog W 0 (fun _ => true) true Tryd.f7.params.toList args.toList ds p := hA0
  rw [Tryd.params7] at hA hval
  have hsz' : (DataW.weightsEach Tryd.prog (Tryd.f7.params.toList ++ Rows.fixedRowsSpec.plain.varTypes Tryd.prog) (ds ++ gs)).all (· ≤ reachBytes) = true := hsz
  rw [Tryd.params7] at hsz'
  obtain ⟨v0, d0, rfl, rfl, h0⟩ := trodAll_one hA
  obtain ⟨rfl, rfl⟩ := trodVars_none hV
  obtain ⟨a0, len, cap, rfl⟩ := okWide_slice Tryd.underlying33 (hval 0 33 v0 rfl rfl)
  have h0k := h0
  obtain ⟨fuel, hf⟩ := h0
  clear hA0 hval0
  have hT := tab_of_laid hL
  simp only [List.append_nil] at hW'
  have hlt : ∀ x ∈ p, x.block < W.heap.size := fun x hx => by simpa using hW'.lt x hx
  have hargs : ∀ (W' : World), Below W.heap.size W W' → DataW.Trod enc Tryd.prog W' 0 (fun b => decide (b < W.heap.size)) true 33 (.slice a0 len cap) d0 p :=
    fun W' hn => Below.trod laidOut (by kernel_rfl) (of_decide_eq_true (by kernel_rfl)) h0k hn hlt
  have fin : Calls Tryd.checked.prog 7 #[.slice a0 len cap] W (fun e W' => e = .returned (.bool true) ∧ Below W.heap.size W W') → Calls Tryd.checked.prog 7 #[.slice a0 len cap] W fun e W' => ∃ v, e = Ending.returned v ∧ Rows.fixedRowsSpec.post enc Tryd.checked.prog Tryd.f7 false true false false W #[.slice a0 len cap] v W' := by
    intro hc
    refine hc.mono fun e W' ⟨he, hg⟩ => ?_
    subst he
    refine ⟨_, rfl, _, _, _, [], p, [], hW', ?_, ?_, ?_, hg.frame _, fun h => by cases h⟩
    · exact (trodAll_cons_mk (shut_bool Tryd.underlying4 _) trodAll_mk0)
    · exact trodAll_mk1 (hargs _ hg)
    · rfl
  rcases open_ints Tryd.underlying33 Tryd.underlying3 cI hf with ⟨hcs, hx⟩ | ⟨a, len', cap', zs, hcs, _, hl, hm, hz, hx, hcell, hwz⟩
  · simp [Value.cells] at hcs
    obtain ⟨rfl, rfl, rfl⟩ := hcs
    exact fin (rows_nil W hT)
  · simp [Value.cells] at hcs
    obtain ⟨rfl, rfl, rfl⟩ := hcs
    simp only [Prod.mk.injEq] at hx
    obtain ⟨hd, hpp⟩ := hx
    subst hd
    simp only [if_true] at hz
    have hreach : len * 8 ≤ 140737488351232 := by
      have := sized_slice hsz' (j := 0) (t := 33) (e := 3) rfl rfl Tryd.underlying33
      rw [bI] at this
      simp only [lits, List.length_map, List.length_take, List.length_drop, reachBytes] at this
      omega
    by_cases hl0 : len = 0
    · rw [hl0] at fin ⊢
      exact fin (rows_zero a cap W hT)
    · obtain ⟨b, off, spot⟩ := a
      have hspot : spot = none := by simpa [Addr.add] using World.cell?_spot (hcell 0 (by omega))
      subst hspot
      have hbW : b < W.heap.size := World.block_lt_of_cell? W _ (hcell 0 (by omega))
      refine fin (rows_some (zs.take len) b off cap len W hT (by simp; omega) (by omega) hreach (by simpa [Addr.add] using hbW) (fun j hj => ?_))
      rw [List.length_take] at hj
      have := hcell j (by omega)
      rw [add_plain] at this
      rw [this]
      simp [List.getD_eq_getElem?_getD, List.getElem?_take, show j < len by omega]
theorem over : Rows.fixedRowsRow.holds Tryd.pinned (OpenSpec.ofChange Rows.fixedRowsSpec) :=
  OpenClaim.holds_of_wide 7 Tryd.f7 rfl rfl rfl rfl rfl rfl rfl ⟨rfl, rfl, rfl, rfl, rfl⟩ rfl rfl rfl rfl rfl (by kernel_rfl) Tryd.func7 (by kernel_rfl)
    (of_decide_eq_true (by kernel_rfl)) (by unfold Func.isWrapper; first | (rw [if_pos (by decide +kernel)]; kernel_rfl) | (rw [if_neg (by decide +kernel)]; exact ⟨rfl, rfl⟩))
    (fun os started H enc _ => lifted os started H enc)
theorem card : Rows.FixedRowsCardSaid :=
  Claim7.holds_tied_plain_at .later [] [.data, .data, .data, .data, .pinned] true (true, "25bf4a36986baf91582e03b5781f3305d47e0bb7718567ed8f979f5dca61c53f") false
    over (fun _ h => by cases h) (by kernel_rfl) (fun _ h => by cases h) fixedRows_row_tie rfl ⟨rfl, rfl⟩ (by kernel_rfl) rfl
    (fun f fn hf hfn => by
      obtain rfl : f = 7 := Option.some.inj ((show Tryd.prog.funcNamed "gauge/gaugelaw03.FixedRows" = some 7 by kernel_rfl).symm.trans hf) |>.symm
      obtain rfl : fn = Tryd.f7 := (Option.some.inj (Tryd.func7.symm.trans hfn)).symm
      exact ⟨by kernel_rfl, fun j t ht => by
        rw [Tryd.params7] at ht
        have hm : t ∈ [33] := by simpa using Array.mem_of_getElem? ht
        have hall : ([33].all fun u => !Tryd.prog.wantsStandIn u) = true := by kernel_rfl
        exact (show Tryd.prog.wantsStandIn t = false by simpa using List.all_eq_true.1 hall t hm)⟩)
    (by kernel_rfl)
#print axioms card
end Go.Proofs.YthbdgnmgdpbdjaaDoor.fixedRows
