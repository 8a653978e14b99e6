/- CheckArguments: for every input the law returns true, and each argument reads behind the call as it read before; conditions: none beside the row's own. -/
import Derived.Test.YtnlnmbnopdklhaaRows
import Derived.Test.YtnlnmbnopdklhaaAWalkA
import Derived.WalkKit
import Derived.ProofKit
import Derived.OpenShut
import Derived.ShutString
namespace Go.Proofs.Ytnlnmbnopdklhaa.checkArguments
open Go.ChangeShapes Go.WideShapes Go.ChangeAt Go.RowKit Go.ChangeMaps Go.Proofs.Ytnlnmbnopdklhaa
set_option linter.unusedVariables false
theorem own : ownKnob Try.prog.godebug = none := by kernel_rfl
theorem cI : Try.prog.cellsOf 3 = 1 := by kernel_rfl
theorem laidOut : laidOutB Try.prog = true := by kernel_rfl
set_option maxRecDepth 100000 in
theorem lifted (os : Os) (started : os.Started) (H : Type) (enc : TypeId × Value → H) :
    ReturnsInHanded {} Try.checked os 8 .any (Rows.checkArgumentsSpec.pre6 enc Try.prog Try.f8 Rows.checkArgumentsRow.domain false) (Rows.checkArgumentsSpec.post enc Try.prog Try.f8 false true false false) := by
  refine returnsInHanded_of_change (C := Try.checked) own started (by kernel_rfl) Try.func8
    (ChangeSpec.witness6 (enc := enc) (C := Try.checked) false ⟨#[], #[.int .i64 0, .slice none 0 0], []⟩ 8 (by kernel_rfl) (by kernel_rfl) (by kernel_rfl) (by kernel_rfl)) ?_
  intro W base args ds gs before hval0 hW hcnd _
  have hval : ∀ (j : Nat) t v, Try.f8.params[j]? = some t → args[j]? = some v → Value.okWide Try.prog W .any base t v := hval0
  have hW' := hW
  obtain ⟨p, q, hA0, hV, rfl, hfz, hnd⟩ := hW
  have hA : DataW.TrodAll enc Try.prog W 0 (fun _ => true) true Try.f8.params.toList args.toList ds p := hA0
  rw [Try.params8] at hA hval
  obtain ⟨v0, vs0, d0, ds0, p0, q0, hargs0, rfl, rfl, h0, r0⟩ := trodAll_cons hA
  obtain ⟨v1, vs1, d1, ds1, p1, q1, rfl, rfl, rfl, h1, r1⟩ := trodAll_cons r0
  obtain ⟨rfl, rfl, rfl⟩ := trodAll_nil r1
  obtain rfl : args = #[v0, v1] := by cases args; simp_all
  obtain ⟨rfl, rfl⟩ := trodVars_none hV
  obtain ⟨a0, rfl, rfl, rfl, w0⟩ := open_int Try.underlying3 (hval 0 3 v0 rfl rfl) h0
  have hv1 := hval 1 43 v1 rfl rfl
  obtain ⟨a1, len, cap, rfl⟩ := okWide_slice Try.underlying43 hv1
  have h1k := h1
  obtain ⟨fuel, hf⟩ := h1
  clear hA0 hval0
  simp only [List.append_nil, List.nil_append] at hW'
  have hlt : ∀ x ∈ p1, x.block < W.heap.size := fun x hx => by simpa using hW'.lt x hx
  have hargs : ∀ (W' : World), Below W.heap.size W W' → DataW.Trod enc Try.prog W' 0 (fun b => decide (b < W.heap.size)) true 43 (.slice a1 len cap) d1 p1 :=
    fun W' hn => Below.trod laidOut (by kernel_rfl) (of_decide_eq_true (by kernel_rfl)) h1k hn hlt
  have fin : Calls Try.checked.prog 8 #[.int .i64 a0, .slice a1 len cap] W (fun e W' => e = .returned (.bool true) ∧ Below W.heap.size W W') → Calls Try.checked.prog 8 #[.int .i64 a0, .slice a1 len cap] W fun e W' => ∃ v, e = Ending.returned v ∧ Rows.checkArgumentsSpec.post enc Try.checked.prog Try.f8 false true false false W #[.int .i64 a0, .slice a1 len cap] v W' := by
    intro hc
    refine hc.mono fun e W' ⟨he, hg⟩ => ?_
    subst he
    refine ⟨_, rfl, _, _, _, [], p1, [], hW', ?_, ?_, ?_, hg.frame _, fun h => by cases h⟩
    · exact (trodAll_cons_mk (shut_bool Try.underlying4 _) trodAll_mk0)
    · exact (trodAll_cons_mk (shut_int Try.underlying3 w0) (trodAll_mk1 (hargs _ hg)))
    · rfl
  rcases open_ints Try.underlying43 Try.underlying3 cI hf with ⟨hcs, hx⟩ | ⟨a, len', cap', zs, hcs, _, hl, hm, hz, hx, hcell, hwz⟩
  · simp [Value.cells] at hcs
    obtain ⟨rfl, rfl, rfl⟩ := hcs
    exact fin (Ev.args_nil a0 W)
  · simp [Value.cells] at hcs
    obtain ⟨rfl, rfl, rfl⟩ := hcs
    simp only [if_true] at hz
    obtain ⟨hle, hsp⟩ := Ev.slice_has Try.underlying43 hv1
    obtain ⟨b, off, spot⟩ := a
    simp only at hsp
    subst hsp
    refine fin (Ev.args_some a0 (zs.take len) b off len cap W (by rw [List.length_take]; omega) hle (fun j hj => ?_))
    have := hcell j (by omega)
    rw [Ev.add_none] at this
    rw [this]
    simp [List.getD_eq_getElem?_getD, List.getElem?_take, hj]
theorem over : Rows.checkArgumentsRow.holds Try.pinned (OpenSpec.ofChange Rows.checkArgumentsSpec) :=
  OpenClaim.holds_of_wide 8 Try.f8 rfl rfl rfl rfl rfl rfl rfl ⟨rfl, rfl, rfl, rfl, rfl⟩ rfl rfl rfl rfl rfl (by kernel_rfl) Try.func8 (by kernel_rfl)
    (of_decide_eq_true (by kernel_rfl)) (by unfold Func.isWrapper; first | (rw [if_pos (by decide +kernel)]; kernel_rfl) | (rw [if_neg (by decide +kernel)]; exact ⟨rfl, rfl⟩))
    (fun os started H enc _ => lifted os started H enc)
theorem proved : Rows.CheckArgumentsSaid := over
#print axioms proved
end Go.Proofs.Ytnlnmbnopdklhaa.checkArguments
