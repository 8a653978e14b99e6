/- The types of queries with a part that is wrong. -/
import Derived.Test.YtnlnmbnopdklhaaTyp0
namespace Go.Proofs.Ytnlnmbnopdklhaa.Ev
set_option maxRecDepth 1000000
-- (f(a)) + (a[1m] + 1)
theorem typF0 : Typed [40, 102, 40, 97, 41, 41, 32, 43, 32, 40, 97, 91, 49, 109, 93, 32, 43, 32, 49, 41] 0 9 := by unfold Typed; kernel_rfl
-- abs(f(a), a[1m] + 1)
theorem typF1 : Typed [97, 98, 115, 40, 102, 40, 97, 41, 44, 32, 97, 91, 49, 109, 93, 32, 43, 32, 49, 41] 0 9 := by unfold Typed; kernel_rfl
-- g(f(a))
theorem typF2 : Typed [103, 40, 102, 40, 97, 41, 41] 0 9 := by unfold Typed; kernel_rfl
-- (1) + (f(a))
theorem typF3 : Typed [40, 49, 41, 32, 43, 32, 40, 102, 40, 97, 41, 41] 0 9 := by unfold Typed; kernel_rfl
-- (a) + (f(a))
theorem typF4 : Typed [40, 97, 41, 32, 43, 32, 40, 102, 40, 97, 41, 41] 0 9 := by unfold Typed; kernel_rfl
-- (a[1m]) + (f(a))
theorem typF5 : Typed [40, 97, 91, 49, 109, 93, 41, 32, 43, 32, 40, 102, 40, 97, 41, 41] 0 9 := by unfold Typed; kernel_rfl
-- (time()) + (f(a))
theorem typF6 : Typed [40, 116, 105, 109, 101, 40, 41, 41, 32, 43, 32, 40, 102, 40, 97, 41, 41] 0 9 := by unfold Typed; kernel_rfl
-- (sum(a)) + (f(a))
theorem typF7 : Typed [40, 115, 117, 109, 40, 97, 41, 41, 32, 43, 32, 40, 102, 40, 97, 41, 41] 0 9 := by unfold Typed; kernel_rfl
-- (-a) + (f(a))
theorem typF8 : Typed [40, 45, 97, 41, 32, 43, 32, 40, 102, 40, 97, 41, 41] 0 9 := by unfold Typed; kernel_rfl
-- (a + 1) + (f(a))
theorem typF9 : Typed [40, 97, 32, 43, 32, 49, 41, 32, 43, 32, 40, 102, 40, 97, 41, 41] 0 9 := by unfold Typed; kernel_rfl
-- (2 * 3) + (f(a))
theorem typF10 : Typed [40, 50, 32, 42, 32, 51, 41, 32, 43, 32, 40, 102, 40, 97, 41, 41] 0 9 := by unfold Typed; kernel_rfl
def typF_all : List (List Nat × Int × Int) := [([40, 102, 40, 97, 41, 41, 32, 43, 32, 40, 97, 91, 49, 109, 93, 32, 43, 32, 49, 41], 0, 9),
  ([97, 98, 115, 40, 102, 40, 97, 41, 44, 32, 97, 91, 49, 109, 93, 32, 43, 32, 49, 41], 0, 9),
  ([103, 40, 102, 40, 97, 41, 41], 0, 9),
  ([40, 49, 41, 32, 43, 32, 40, 102, 40, 97, 41, 41], 0, 9),
  ([40, 97, 41, 32, 43, 32, 40, 102, 40, 97, 41, 41], 0, 9),
  ([40, 97, 91, 49, 109, 93, 41, 32, 43, 32, 40, 102, 40, 97, 41, 41], 0, 9),
  ([40, 116, 105, 109, 101, 40, 41, 41, 32, 43, 32, 40, 102, 40, 97, 41, 41], 0, 9),
  ([40, 115, 117, 109, 40, 97, 41, 41, 32, 43, 32, 40, 102, 40, 97, 41, 41], 0, 9),
  ([40, 45, 97, 41, 32, 43, 32, 40, 102, 40, 97, 41, 41], 0, 9),
  ([40, 97, 32, 43, 32, 49, 41, 32, 43, 32, 40, 102, 40, 97, 41, 41], 0, 9),
  ([40, 50, 32, 42, 32, 51, 41, 32, 43, 32, 40, 102, 40, 97, 41, 41], 0, 9)]
theorem typF_ok : ∀ x ∈ typF_all, Typed x.1 x.2.1 x.2.2 := by
  intro x hx
  simp only [typF_all, List.mem_cons, List.not_mem_nil, or_false] at hx
  rcases hx with rfl | rfl | rfl | rfl | rfl | rfl | rfl | rfl | rfl | rfl | rfl
  · exact typF0
  · exact typF1
  · exact typF2
  · exact typF3
  · exact typF4
  · exact typF5
  · exact typF6
  · exact typF7
  · exact typF8
  · exact typF9
  · exact typF10
end Go.Proofs.Ytnlnmbnopdklhaa.Ev
