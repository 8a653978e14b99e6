/- The layer's examples hold (lives), by the reckoned types of its four queries. -/
import Derived.Test.YtnlnmbnopdklhaaTypL
namespace Go.Proofs.Ytnlnmbnopdklhaa.Ev
open Go.RowKit
set_option maxRecDepth 1000000
theorem lives_ev : gives (callA (tab.knows (fun _ _ _ _ => none) (fun _ _ => none) (orc typL_all)) 3000 10 [] ⟨0, .leaf⟩) (.bool true) = true := by kernel_rfl
theorem lives_any (w : World) : Calls Try.prog 10 #[] w fun e w' => e = .returned (.bool true) ∧ Below w.heap.size w w' :=
  plain_call (l := []) (v := .bool true) (tab_knows (tab_is _) (fun _ _ _ _ _ h => by cases h) (fun _ _ _ h => by cases h) (orc_ok typL_ok)) rfl lives_ev (.nil _) w
end Go.Proofs.Ytnlnmbnopdklhaa.Ev
