/- ExecNone, reckoned: whatever the plan and the span. -/
import Derived.Test.YtfkbfnpjggkdmaaGreatDoorNMu21
namespace Go.Proofs.YtfkbfnpjggkdmaaGreatDoor.Ev
open Go.RowKit
set_option linter.unusedVariables false
set_option maxRecDepth 1000000
noncomputable section
def orcX : Nat → List AV → AHeap → Option AV
  | f, [], _ => match Nat.beq f 12 with
    | true => some (.bool true)
    | false => none
  | _, _, _ => none
def tabX : Tab := ⟨tabP.tt, tabP.ft, tabP.et, tabP.ob, tabP.oc, orcX⟩
theorem none_ev (a b c d : Int) : givesX (callX xcfg tabX 300 7 [.opq 0, .agg [.int .i64 a, .int .i64 b, .int .i64 c, .int .i64 d]] ⟨1, .leaf⟩) (.bool true) = true := by kernel_rfl
end
end Go.Proofs.YtfkbfnpjggkdmaaGreatDoor.Ev
