/- The types of queries in parentheses, with a sign, in an aggregation. -/
import Derived.Test.YtnlnmbnopdklhaaTyp0
namespace Go.Proofs.Ytnlnmbnopdklhaa.Ev
set_option maxRecDepth 1000000
-- (1)
theorem typP0 : Typed [40, 49, 41] 1 0 := by unfold Typed; kernel_rfl
-- -(1)
theorem typP1 : Typed [45, 40, 49, 41] 1 0 := by unfold Typed; kernel_rfl
-- max(1)
theorem typP2 : Typed [109, 97, 120, 40, 49, 41] 0 16 := by unfold Typed; kernel_rfl
-- (a)
theorem typP3 : Typed [40, 97, 41] 2 0 := by unfold Typed; kernel_rfl
-- -(a)
theorem typP4 : Typed [45, 40, 97, 41] 2 0 := by unfold Typed; kernel_rfl
-- max(a)
theorem typP5 : Typed [109, 97, 120, 40, 97, 41] 2 0 := by unfold Typed; kernel_rfl
-- (a[1m])
theorem typP6 : Typed [40, 97, 91, 49, 109, 93, 41] 3 0 := by unfold Typed; kernel_rfl
-- -(a[1m])
theorem typP7 : Typed [45, 40, 97, 91, 49, 109, 93, 41] 0 16 := by unfold Typed; kernel_rfl
-- max(a[1m])
theorem typP8 : Typed [109, 97, 120, 40, 97, 91, 49, 109, 93, 41] 0 16 := by unfold Typed; kernel_rfl
-- (time())
theorem typP9 : Typed [40, 116, 105, 109, 101, 40, 41, 41] 1 0 := by unfold Typed; kernel_rfl
-- -(time())
theorem typP10 : Typed [45, 40, 116, 105, 109, 101, 40, 41, 41] 1 0 := by unfold Typed; kernel_rfl
-- max(time())
theorem typP11 : Typed [109, 97, 120, 40, 116, 105, 109, 101, 40, 41, 41] 0 16 := by unfold Typed; kernel_rfl
def typP_all : List (List Nat × Int × Int) := [([40, 49, 41], 1, 0),
  ([45, 40, 49, 41], 1, 0),
  ([109, 97, 120, 40, 49, 41], 0, 16),
  ([40, 97, 41], 2, 0),
  ([45, 40, 97, 41], 2, 0),
  ([109, 97, 120, 40, 97, 41], 2, 0),
  ([40, 97, 91, 49, 109, 93, 41], 3, 0),
  ([45, 40, 97, 91, 49, 109, 93, 41], 0, 16),
  ([109, 97, 120, 40, 97, 91, 49, 109, 93, 41], 0, 16),
  ([40, 116, 105, 109, 101, 40, 41, 41], 1, 0),
  ([45, 40, 116, 105, 109, 101, 40, 41, 41], 1, 0),
  ([109, 97, 120, 40, 116, 105, 109, 101, 40, 41, 41], 0, 16)]
theorem typP_ok : ∀ x ∈ typP_all, Typed x.1 x.2.1 x.2.2 := by
  intro x hx
  simp only [typP_all, List.mem_cons, List.not_mem_nil, or_false] at hx
  rcases hx with rfl | rfl | rfl | rfl | rfl | rfl | rfl | rfl | rfl | rfl | rfl | rfl
  · exact typP0
  · exact typP1
  · exact typP2
  · exact typP3
  · exact typP4
  · exact typP5
  · exact typP6
  · exact typP7
  · exact typP8
  · exact typP9
  · exact typP10
  · exact typP11
end Go.Proofs.Ytnlnmbnopdklhaa.Ev
