/- ExecCounts: where what comes in is of bulk at most 1048576: the law returns true, and each argument reads behind the call as it read before; conditions: the bulk, and the row's own (errors.errorType holds what the program's text lays). -/
import Derived.Test.YtfkbfnpjggkdmaaGreatDoorCJfC
namespace Go.Proofs.YtfkbfnpjggkdmaaGreatDoor.execCounts
open Go.ChangeShapes Go.WideShapes Go.RowKit
set_option maxRecDepth 100000
theorem over : Rows.execCountsUptoRow.holds Tryz.pinned (Rows.OpenSpec.upto Rows.execCountsSpec) :=
 OpenClaim.holds_of_cond 6 Tryz.f6 rfl rfl rfl rfl rfl rfl rfl ⟨rfl, rfl, rfl, rfl, rfl⟩ rfl rfl rfl rfl rfl (by kernel_rfl) Tryz.func6 kJ
  (of_decide_eq_true (by kernel_rfl)) (by unfold Func.isWrapper; rw [if_neg (of_decide_eq_false (by kernel_rfl))]; exact ⟨rfl, rfl⟩)
  (fun os started H enc _ F => GI os started H enc F)
theorem card : Rows.ExecCountsUptoCardSaid :=
 Claim7.holds_tied_plain_at .later [] [.handle] true (true, "83921584998b0bcfa54646e77694667cda7278bf7eb9a45402b328d3775fcccd") true
  over (fun _ h => by cases h) (by kernel_rfl) (fun _ h => by cases h) execCountsUpto_row_tie rfl ⟨rfl, rfl⟩ (by kernel_rfl) rfl
  (fun f fn hf hfn => by
   obtain rfl : f = 6 := Option.some.inj ((show Tryz.prog.funcNamed "gauge/gaugelaw21.ExecCounts" = some 6 by kernel_rfl).symm.trans hf) |>.symm
   obtain rfl : fn = Tryz.f6 := (Option.some.inj (Tryz.func6.symm.trans hfn)).symm
   exact ⟨by kernel_rfl, fun j t ht => by
    rw [Tryz.params6] at ht
    have hm : t ∈ [22, 3, 3] := by simpa using Array.mem_of_getElem? ht
    have hall : ([22, 3, 3].all fun u => !Tryz.prog.wantsStandIn u) = true := by kernel_rfl
    exact (show Tryz.prog.wantsStandIn t = false by simpa using List.all_eq_true.1 hall t hm)⟩)
  (by kernel_rfl)
#print axioms card
end Go.Proofs.YtfkbfnpjggkdmaaGreatDoor.execCounts
