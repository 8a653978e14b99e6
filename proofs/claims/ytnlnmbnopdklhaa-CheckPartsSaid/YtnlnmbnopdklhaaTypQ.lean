/- The types of queries in parentheses, with a sign, in an aggregation. -/
import Derived.Test.YtnlnmbnopdklhaaTyp0
namespace Go.Proofs.Ytnlnmbnopdklhaa.Ev
set_option maxRecDepth 1000000
-- (sum(a))
theorem typQ0 : Typed [40, 115, 117, 109, 40, 97, 41, 41] 2 0 := by unfold Typed; kernel_rfl
-- -(sum(a))
theorem typQ1 : Typed [45, 40, 115, 117, 109, 40, 97, 41, 41] 2 0 := by unfold Typed; kernel_rfl
-- max(sum(a))
theorem typQ2 : Typed [109, 97, 120, 40, 115, 117, 109, 40, 97, 41, 41] 2 0 := by unfold Typed; kernel_rfl
-- (-a)
theorem typQ3 : Typed [40, 45, 97, 41] 2 0 := by unfold Typed; kernel_rfl
-- -(-a)
theorem typQ4 : Typed [45, 40, 45, 97, 41] 2 0 := by unfold Typed; kernel_rfl
-- max(-a)
theorem typQ5 : Typed [109, 97, 120, 40, 45, 97, 41] 2 0 := by unfold Typed; kernel_rfl
-- (a + 1)
theorem typQ6 : Typed [40, 97, 32, 43, 32, 49, 41] 2 0 := by unfold Typed; kernel_rfl
-- -(a + 1)
theorem typQ7 : Typed [45, 40, 97, 32, 43, 32, 49, 41] 2 0 := by unfold Typed; kernel_rfl
-- max(a + 1)
theorem typQ8 : Typed [109, 97, 120, 40, 97, 32, 43, 32, 49, 41] 2 0 := by unfold Typed; kernel_rfl
-- (2 * 3)
theorem typQ9 : Typed [40, 50, 32, 42, 32, 51, 41] 1 0 := by unfold Typed; kernel_rfl
-- -(2 * 3)
theorem typQ10 : Typed [45, 40, 50, 32, 42, 32, 51, 41] 1 0 := by unfold Typed; kernel_rfl
-- max(2 * 3)
theorem typQ11 : Typed [109, 97, 120, 40, 50, 32, 42, 32, 51, 41] 0 16 := by unfold Typed; kernel_rfl
def typQ_all : List (List Nat × Int × Int) := [([40, 115, 117, 109, 40, 97, 41, 41], 2, 0),
  ([45, 40, 115, 117, 109, 40, 97, 41, 41], 2, 0),
  ([109, 97, 120, 40, 115, 117, 109, 40, 97, 41, 41], 2, 0),
  ([40, 45, 97, 41], 2, 0),
  ([45, 40, 45, 97, 41], 2, 0),
  ([109, 97, 120, 40, 45, 97, 41], 2, 0),
  ([40, 97, 32, 43, 32, 49, 41], 2, 0),
  ([45, 40, 97, 32, 43, 32, 49, 41], 2, 0),
  ([109, 97, 120, 40, 97, 32, 43, 32, 49, 41], 2, 0),
  ([40, 50, 32, 42, 32, 51, 41], 1, 0),
  ([45, 40, 50, 32, 42, 32, 51, 41], 1, 0),
  ([109, 97, 120, 40, 50, 32, 42, 32, 51, 41], 0, 16)]
theorem typQ_ok : ∀ x ∈ typQ_all, Typed x.1 x.2.1 x.2.2 := by
  intro x hx
  simp only [typQ_all, List.mem_cons, List.not_mem_nil, or_false] at hx
  rcases hx with rfl | rfl | rfl | rfl | rfl | rfl | rfl | rfl | rfl | rfl | rfl | rfl
  · exact typQ0
  · exact typQ1
  · exact typQ2
  · exact typQ3
  · exact typQ4
  · exact typQ5
  · exact typQ6
  · exact typQ7
  · exact typQ8
  · exact typQ9
  · exact typQ10
  · exact typQ11
end Go.Proofs.Ytnlnmbnopdklhaa.Ev
