/- What the laid tables give, and a start that meets the condition. -/
import Derived.Test.YthbdgnmgdpbdjaaDoorRows
import Derived.Test.YthbdgnmgdpbdjaaDoorFixP
import Derived.WalkKit
import Derived.ProofKit
import Derived.OpenShut
import Derived.LaidMore
import Derived.Lay
import Derived.SevenTiedAt
import Derived.Stop.Joined
import Derived.Stop.LaidErr
import Derived.Lib.LaidTab
namespace Go.Proofs.YthbdgnmgdpbdjaaDoor
open Go.ChangeShapes Go.WideShapes Go.ChangeAt Go.RowKit
set_option maxRecDepth 100000
theorem own : ownKnob Tryd.prog.godebug = none := by kernel_rfl
def laidL : List (String × DataW Unit) := [("math/bits.deBruijn32tab", Rows.laid_math_bits_deBruijn32tab), ("math/bits.deBruijn64tab", Rows.laid_math_bits_deBruijn64tab), ("internal/strconv.uint64pow10", Rows.laid_internal_strconv_uint64pow10), ("unicode/utf8.acceptRanges", Rows.laid_unicode_utf8_acceptRanges), ("unicode/utf8.first", Rows.laid_unicode_utf8_first)]
theorem tTab : (Tryd.prog.globals[3]?).map (·.type) = some 86 := by kernel_rfl
theorem cT20 : Tryd.prog.cellsOf 86 = 20 := by kernel_rfl
theorem cE : Tryd.prog.cellsOf 45 = 1 := by kernel_rfl
theorem tab_of_laid {W : World} (h : laidMetH Tryd.prog laidL W) : Tab W := by
  have hp : laidMet Tryd.prog laidL W := by
    rw [MakeChecks.laidMetH_plain _ _ _ (by kernel_rfl)] at h; exact h
  have h2 : laidMet Tryd.prog (("internal/strconv.uint64pow10", Lib.tabData .u64 Lib.pow10Tab) :: _) W := hp.tail.tail
  exact Lib.tabIs_of_head gTab tTab Tryd.underlying86 Tryd.underlying45 cE cT20 h2
end Go.Proofs.YthbdgnmgdpbdjaaDoor
