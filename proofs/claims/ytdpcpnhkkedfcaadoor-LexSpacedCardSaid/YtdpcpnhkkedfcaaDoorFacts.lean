/- What the tables say of types. -/
import Derived.Test.YtdpcpnhkkedfcaaDoorTab
namespace Go.Proofs.YtdpcpnhkkedfcaaDoor.Ev
open Go.RowKit
theorem ag28 : tab.isAgg 28 = some true := by kernel_rfl
theorem ag3 : tab.isAgg 3 = some false := by kernel_rfl
theorem ag76 : tab.isAgg 76 = some true := by kernel_rfl
theorem ag9 : tab.isAgg 9 = some false := by kernel_rfl
theorem ao28 : AO tab 28 = some ⟨4, true, [.int .i64 0, .str [], .int .i64 0, .int .i64 0]⟩ := by kernel_rfl
theorem ao76 : AO tab 76 = some ⟨2, true, [.str [], .str []]⟩ := by kernel_rfl
theorem ap22_22 : AP tab 22 22 = some 4 := by kernel_rfl
theorem ap57_57 : AP tab 57 57 = some 1 := by kernel_rfl
theorem ap63_63 : AP tab 63 63 = some 1 := by kernel_rfl
theorem ap72_72 : AP tab 72 72 = some 2 := by kernel_rfl
theorem bx44 : ∀ l : List AV, l.length = 2 → varObj tab 44 l = ⟨2, true, l⟩ := by intro l h; exact varObj_plain (by kernel_rfl) h
theorem fa28_0 : FA tab 28 0 = some (0, 0 + 1) := by kernel_rfl
theorem fa28_1 : FA tab 28 1 = some (1, 0 + 1) := by kernel_rfl
theorem fa28_2 : FA tab 28 2 = some (2, 0 + 1) := by kernel_rfl
theorem fa28_3 : FA tab 28 3 = some (3, 0 + 1) := by kernel_rfl
theorem fa44_0 : FA tab 44 0 = some (0, 0 + 1) := by kernel_rfl
theorem fa44_1 : FA tab 44 1 = some (1, 0 + 1) := by kernel_rfl
theorem fa76_0 : FA tab 76 0 = some (0, 0 + 1) := by kernel_rfl
theorem fa76_1 : FA tab 76 1 = some (1, 0 + 1) := by kernel_rfl
theorem pl28 : PL tab 28 [.int .i64 0, .str [], .int .i64 0, .int .i64 0] [(0, 1), (1, 1), (2, 1), (3, 1)] = true := by kernel_rfl
theorem pl44 : PL tab 44 [.str [], .int .i64 0] [(0, 1), (1, 1)] = true := by kernel_rfl
theorem pl76 : PL tab 76 [.str [], .str []] [(0, 1), (1, 1)] = true := by kernel_rfl
theorem sz28 : tab.size 28 = some 4 := by kernel_rfl
theorem sz3 : tab.size 3 = some 1 := by kernel_rfl
theorem sz5 : tab.size 5 = some 1 := by kernel_rfl
theorem sz76 : tab.size 76 = some 2 := by kernel_rfl
theorem sz9 : tab.size 9 = some 1 := by kernel_rfl
theorem ud22 : tab.und 22 = some (.slice 28) := by kernel_rfl
theorem ud3 : tab.und 3 = some (.int .i64) := by kernel_rfl
theorem ud5 : tab.und 5 = some (.int .u8) := by kernel_rfl
theorem ud57 : tab.und 57 = some (.slice 9) := by kernel_rfl
theorem ud63 : tab.und 63 = some (.slice 5) := by kernel_rfl
theorem ud72 : tab.und 72 = some (.slice 76) := by kernel_rfl
theorem ud9 : tab.und 9 = some .string := by kernel_rfl
theorem zr28 : tab.zero 28 = some (.agg [.int .i64 0, .str [], .int .i64 0, .int .i64 0]) := by kernel_rfl
theorem zr5 : tab.zero 5 = some (.int .u8 0) := by kernel_rfl
theorem zr76 : tab.zero 76 = some (.agg [.str [], .str []]) := by kernel_rfl
theorem zr9 : tab.zero 9 = some (.str []) := by kernel_rfl
end Go.Proofs.YtdpcpnhkkedfcaaDoor.Ev
