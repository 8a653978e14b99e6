/- The types of queries with a part that is wrong. -/
import Derived.Test.YtnlnmbnopdklhaaTyp0
namespace Go.Proofs.Ytnlnmbnopdklhaa.Ev
set_option maxRecDepth 1000000
-- (a[1m] + 1) + (f(a))
theorem typG0 : Typed [40, 97, 91, 49, 109, 93, 32, 43, 32, 49, 41, 32, 43, 32, 40, 102, 40, 97, 41, 41] 0 16 := by unfold Typed; kernel_rfl
-- abs(a[1m] + 1, f(a))
theorem typG1 : Typed [97, 98, 115, 40, 97, 91, 49, 109, 93, 32, 43, 32, 49, 44, 32, 102, 40, 97, 41, 41] 0 16 := by unfold Typed; kernel_rfl
-- g(a[1m] + 1)
theorem typG2 : Typed [103, 40, 97, 91, 49, 109, 93, 32, 43, 32, 49, 41] 0 9 := by unfold Typed; kernel_rfl
-- (1) + (a[1m] + 1)
theorem typG3 : Typed [40, 49, 41, 32, 43, 32, 40, 97, 91, 49, 109, 93, 32, 43, 32, 49, 41] 0 16 := by unfold Typed; kernel_rfl
-- (a) + (a[1m] + 1)
theorem typG4 : Typed [40, 97, 41, 32, 43, 32, 40, 97, 91, 49, 109, 93, 32, 43, 32, 49, 41] 0 16 := by unfold Typed; kernel_rfl
-- (a[1m]) + (a[1m] + 1)
theorem typG5 : Typed [40, 97, 91, 49, 109, 93, 41, 32, 43, 32, 40, 97, 91, 49, 109, 93, 32, 43, 32, 49, 41] 0 16 := by unfold Typed; kernel_rfl
-- (time()) + (a[1m] + 1)
theorem typG6 : Typed [40, 116, 105, 109, 101, 40, 41, 41, 32, 43, 32, 40, 97, 91, 49, 109, 93, 32, 43, 32, 49, 41] 0 16 := by unfold Typed; kernel_rfl
-- (sum(a)) + (a[1m] + 1)
theorem typG7 : Typed [40, 115, 117, 109, 40, 97, 41, 41, 32, 43, 32, 40, 97, 91, 49, 109, 93, 32, 43, 32, 49, 41] 0 16 := by unfold Typed; kernel_rfl
-- (-a) + (a[1m] + 1)
theorem typG8 : Typed [40, 45, 97, 41, 32, 43, 32, 40, 97, 91, 49, 109, 93, 32, 43, 32, 49, 41] 0 16 := by unfold Typed; kernel_rfl
-- (a + 1) + (a[1m] + 1)
theorem typG9 : Typed [40, 97, 32, 43, 32, 49, 41, 32, 43, 32, 40, 97, 91, 49, 109, 93, 32, 43, 32, 49, 41] 0 16 := by unfold Typed; kernel_rfl
-- (2 * 3) + (a[1m] + 1)
theorem typG10 : Typed [40, 50, 32, 42, 32, 51, 41, 32, 43, 32, 40, 97, 91, 49, 109, 93, 32, 43, 32, 49, 41] 0 16 := by unfold Typed; kernel_rfl
def typG_all : List (List Nat × Int × Int) := [([40, 97, 91, 49, 109, 93, 32, 43, 32, 49, 41, 32, 43, 32, 40, 102, 40, 97, 41, 41], 0, 16),
  ([97, 98, 115, 40, 97, 91, 49, 109, 93, 32, 43, 32, 49, 44, 32, 102, 40, 97, 41, 41], 0, 16),
  ([103, 40, 97, 91, 49, 109, 93, 32, 43, 32, 49, 41], 0, 9),
  ([40, 49, 41, 32, 43, 32, 40, 97, 91, 49, 109, 93, 32, 43, 32, 49, 41], 0, 16),
  ([40, 97, 41, 32, 43, 32, 40, 97, 91, 49, 109, 93, 32, 43, 32, 49, 41], 0, 16),
  ([40, 97, 91, 49, 109, 93, 41, 32, 43, 32, 40, 97, 91, 49, 109, 93, 32, 43, 32, 49, 41], 0, 16),
  ([40, 116, 105, 109, 101, 40, 41, 41, 32, 43, 32, 40, 97, 91, 49, 109, 93, 32, 43, 32, 49, 41], 0, 16),
  ([40, 115, 117, 109, 40, 97, 41, 41, 32, 43, 32, 40, 97, 91, 49, 109, 93, 32, 43, 32, 49, 41], 0, 16),
  ([40, 45, 97, 41, 32, 43, 32, 40, 97, 91, 49, 109, 93, 32, 43, 32, 49, 41], 0, 16),
  ([40, 97, 32, 43, 32, 49, 41, 32, 43, 32, 40, 97, 91, 49, 109, 93, 32, 43, 32, 49, 41], 0, 16),
  ([40, 50, 32, 42, 32, 51, 41, 32, 43, 32, 40, 97, 91, 49, 109, 93, 32, 43, 32, 49, 41], 0, 16)]
theorem typG_ok : ∀ x ∈ typG_all, Typed x.1 x.2.1 x.2.2 := by
  intro x hx
  simp only [typG_all, List.mem_cons, List.not_mem_nil, or_false] at hx
  rcases hx with rfl | rfl | rfl | rfl | rfl | rfl | rfl | rfl | rfl | rfl | rfl
  · exact typG0
  · exact typG1
  · exact typG2
  · exact typG3
  · exact typG4
  · exact typG5
  · exact typG6
  · exact typG7
  · exact typG8
  · exact typG9
  · exact typG10
end Go.Proofs.Ytnlnmbnopdklhaa.Ev
