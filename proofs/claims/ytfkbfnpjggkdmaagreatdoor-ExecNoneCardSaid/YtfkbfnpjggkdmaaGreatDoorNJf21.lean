/- ExecNone: the closed facts of the row, each by itself. -/
import Derived.Test.YtfkbfnpjggkdmaaGreatDoorNNoneL
set_option linter.unusedVariables false
namespace Go.Proofs.YtfkbfnpjggkdmaaGreatDoor.execNone
open Go.ChangeShapes Go.WideShapes Go.RowKit
set_option maxRecDepth 100000
noncomputable abbrev cN : OpenClaim := Rows.execNoneRow
noncomputable abbrev pN : Program := Tryz.pinned.checked.prog
noncomputable abbrev fN : Func := Tryz.f7
noncomputable abbrev nN : Nat := 7
theorem k2 : laidOutB pN = true := by kernel_rfl
theorem k3 : mapsRowed pN = true := by kernel_rfl
theorem k10 : (cN.inPlace == pN.inPlace nN) = true := by kernel_rfl
theorem k11 : (cN.unfollowed == pN.unfollowed nN) = true := by kernel_rfl
theorem k12 : (cN.recurses == pN.recurses nN) = true := by kernel_rfl
theorem k13 : (cN.named == pN.varsNamed nN) = true := by kernel_rfl
theorem both {a b : Bool} (h : a = true) (g : b = true) : (a && b) = true := by rw [h, g]; rfl
theorem kJ : joinedFacts pN nN fN Rows.execNoneSpec cN = true := by
  unfold joinedFacts
  refine both (both (both (both (both (both (both (both (both (both (both (both (both (both (both (both (both (both (both (both (both (both (both (both (both (both (both (both (both (both (both ?_ k2) k3) ?_) ?_) ?_) ?_) ?_) ?_) k10) k11) k12) k13) ?_) ?_) ?_) ?_) ?_) ?_) ?_) ?_) ?_) ?_) ?_) ?_) ?_) ?_) ?_) ?_) ?_) ?_) ?_ <;> kernel_rfl
end Go.Proofs.YtfkbfnpjggkdmaaGreatDoor.execNone
