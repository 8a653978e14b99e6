/- What the laid tables give, and a start that meets the condition. -/
import Derived.Test.YtdpcpnhkkedfcaaDoorRows
import Derived.Test.YtdpcpnhkkedfcaaDoorLexT
import Derived.WalkKit
import Derived.ProofKit
import Derived.OpenShut
import Derived.ShutString
import Derived.LaidMore
import Derived.Lay
import Derived.SevenTiedAt
import Derived.Stop.Joined
import Derived.Stop.LaidErr
import Derived.Lib.LaidTab
namespace Go.Proofs.YtdpcpnhkkedfcaaDoor
open Go.ChangeShapes Go.WideShapes Go.ChangeAt Go.RowKit
set_option maxRecDepth 100000
theorem own : ownKnob Tryd.prog.godebug = none := by kernel_rfl
def laidL : List (String × DataW Unit) := [("math/bits.deBruijn32tab", Rows.laid_math_bits_deBruijn32tab), ("math/bits.deBruijn64tab", Rows.laid_math_bits_deBruijn64tab), ("internal/strconv.uint64pow10", Rows.laid_internal_strconv_uint64pow10), ("strconv.ErrRange", Rows.laid_strconv_ErrRange), ("strconv.ErrSyntax", Rows.laid_strconv_ErrSyntax)]
theorem tTab : (Tryd.prog.globals[2]?).map (·.type) = some 114 := by kernel_rfl
theorem cT20 : Tryd.prog.cellsOf 114 = 20 := by kernel_rfl
theorem cE : Tryd.prog.cellsOf 94 = 1 := by kernel_rfl
theorem tErr : (Tryd.prog.globals[1]?).map (·.type) = some 54 := by kernel_rfl
theorem cErr : Tryd.prog.cellsOf 111 = 1 := by kernel_rfl
theorem cStr : Tryd.prog.cellsOf 9 = 1 := by kernel_rfl
theorem starErr : "*" ++ "errors.errorString" = "*errors.errorString" := by decide
theorem rowErr : ∀ u, Tryd.prog.typeName? 3 u = some "*errors.errorString" → u = 109 := fun u h =>
  typeName_ptr_named (nm := "errors.errorString") (by rw [starErr]; kernel_rfl) (by kernel_rfl) (by decide) u (by rw [starErr]; exact h)
theorem tab_of_laid {W : World} (h : laidMetH Tryd.prog laidL W) : Tab W := by
  have hp : laidMet Tryd.prog laidL W := by
    rw [MakeChecks.laidMetH_plain _ _ _ (by kernel_rfl)] at h; exact h
  have h2 : laidMet Tryd.prog (("internal/strconv.uint64pow10", Lib.tabData .u64 Lib.pow10Tab) :: _) W := hp.tail.tail
  refine ⟨Lib.tabIs_of_head gPow tTab Tryd.underlying114 Tryd.underlying94 cE cT20 h2, ?_⟩
  have h3 : laidMet Tryd.prog (("strconv.ErrRange", Rows.laid_strconv_ErrRange) :: _) W := hp.tail.tail.tail
  obtain ⟨a, sa, hv, _⟩ := laid_sentinel h3 gErr tErr Tryd.underlying54 rowErr Tryd.underlying109 Tryd.underlying111 rfl rfl Tryd.underlying9 cErr cStr
  exact ⟨_, _, hv⟩
end Go.Proofs.YtdpcpnhkkedfcaaDoor
