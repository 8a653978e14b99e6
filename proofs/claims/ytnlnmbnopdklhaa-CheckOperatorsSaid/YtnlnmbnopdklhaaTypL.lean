/- The types of the four queries that the layer's examples ask. -/
import Derived.Test.YtnlnmbnopdklhaaTyp0
namespace Go.Proofs.Ytnlnmbnopdklhaa.Ev
set_option maxRecDepth 1000000
-- rate(a[5m])
theorem typL0 : Typed [114, 97, 116, 101, 40, 97, 91, 53, 109, 93, 41] 2 0 := by unfold Typed; kernel_rfl
-- rate(a)
theorem typL1 : Typed [114, 97, 116, 101, 40, 97, 41] 0 16 := by unfold Typed; kernel_rfl
-- f(a)
theorem typL2 : Typed [102, 40, 97, 41] 0 9 := by unfold Typed; kernel_rfl
-- 1 == bool 2
theorem typL3 : Typed [49, 32, 61, 61, 32, 98, 111, 111, 108, 32, 50] 1 0 := by unfold Typed; kernel_rfl
def typL_all : List (List Nat × Int × Int) := [([114, 97, 116, 101, 40, 97, 91, 53, 109, 93, 41], 2, 0),
  ([114, 97, 116, 101, 40, 97, 41], 0, 16),
  ([102, 40, 97, 41], 0, 9),
  ([49, 32, 61, 61, 32, 98, 111, 111, 108, 32, 50], 1, 0)]
theorem typL_ok : ∀ x ∈ typL_all, Typed x.1 x.2.1 x.2.2 := by
  intro x hx
  simp only [typL_all, List.mem_cons, List.not_mem_nil, or_false] at hx
  rcases hx with rfl | rfl | rfl | rfl
  · exact typL0
  · exact typL1
  · exact typL2
  · exact typL3
end Go.Proofs.Ytnlnmbnopdklhaa.Ev
