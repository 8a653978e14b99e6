/- ExecNone: for every input the law returns true, and each argument reads behind the call as it read before; conditions: the row's own (errors.errorType holds what the program's text lays). -/
import Derived.Test.YtfkbfnpjggkdmaaGreatDoorNJf21
set_option linter.unusedVariables false
namespace Go.Proofs.YtfkbfnpjggkdmaaGreatDoor.execNone
open Go.ChangeShapes Go.WideShapes Go.RowKit
set_option maxRecDepth 100000
theorem over : Rows.execNoneRow.holds Tryz.pinned (OpenSpec.ofChange Rows.execNoneSpec) :=
  OpenClaim.holds_of_wide 7 Tryz.f7 rfl rfl rfl rfl rfl rfl rfl ⟨rfl, rfl, rfl, rfl, rfl⟩ rfl rfl rfl rfl rfl (by kernel_rfl) Tryz.func7 kJ
    (of_decide_eq_true (by kernel_rfl)) (by unfold Func.isWrapper; rw [if_neg (of_decide_eq_false (by kernel_rfl))]; exact ⟨rfl, rfl⟩)
    (fun os started H enc _ => lifted os started H enc)
theorem card : Rows.ExecNoneCardSaid :=
  Claim7.holds_tied_plain_at .later [] [.handle] true (true, "83921584998b0bcfa54646e77694667cda7278bf7eb9a45402b328d3775fcccd") true
    over (fun _ h => by cases h) (by kernel_rfl) (fun _ h => by cases h) execNone_row_tie rfl ⟨rfl, rfl⟩ (by kernel_rfl) rfl
    (fun f fn hf hfn => by
      obtain rfl : f = 7 := Option.some.inj ((show Tryz.prog.funcNamed "gauge/gaugelaw21.ExecNone" = some 7 by kernel_rfl).symm.trans hf) |>.symm
      obtain rfl : fn = Tryz.f7 := (Option.some.inj (Tryz.func7.symm.trans hfn)).symm
      exact ⟨by kernel_rfl, fun j t ht => by
        rw [Tryz.params7] at ht
        have hm : t ∈ [26, 24] := by simpa using Array.mem_of_getElem? ht
        have hall : ([26, 24].all fun u => !Tryz.prog.wantsStandIn u) = true := by kernel_rfl
        exact (show Tryz.prog.wantsStandIn t = false by simpa using List.all_eq_true.1 hall t hm)⟩)
    (by kernel_rfl)
#print axioms card
end Go.Proofs.YtfkbfnpjggkdmaaGreatDoor.execNone
