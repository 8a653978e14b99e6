/-
  NARROWER THAN 'FOR EVERY INPUT', by the rows' own cells (each row's printed sentence says how): VectorPairs: loops · VectorTurned: loops.
  DERIVED. THE GIVEN ROWS OF THIS SEAT. 8 by the template 'for every input the law returns true; each argument reads behind the call as it read before'; 0 by the template 'total and deterministic' (their statements: YtmblgaehfjheeaaGreatTotals.lean).
  GIVEN WITH THE SEED: the statements are not yours to turn. If you find one false, say at which input.
  Laid BY PROGRAM, IN A SANDBOX (cutbox-rows.mjs): the forced cells as the released guide's own fill.sh prints them over the translation 4b5580e6f5a3d391… (all of the seat's roots in one cut). By AI agents, Wed Nov 11 2026. No macro, syntax, notation, axiom, sorry.
-/
import Derived.Test.YtmblgaehfjheeaaGreatChecked
import GoSem.Claim
import GoSem.ClaimJoined
import GoSem.ClaimMapViews
import Derived.JoinedTies
import Derived.KernelRfl
namespace Go.Proofs.YtmblgaehfjheeaaGreat
/- THE CELL 'sum', in the pinned program and in every row, IS THE sha256 OF THE DUMP (.gsa) THAT YtmblgaehfjheeaaGreatProg.lean LOADS. Nothing in Lean hashes anything: it is a label: what it is worth is what the hold of that sum in a sandbox is worth. -/
noncomputable def Tryz.pinned : Pinned := { name := "ytmblgaehfjheeaagreat", sum := "4b5580e6f5a3d391eeba4191f3e31e8ac7a4a824db274ec43d14b0e7ac9398b2", checked := Tryz.checked }
namespace Rows
def none {H : Type} : Left H := { results := [], args := [] }

/-- 'gaugelaw19.VectorScalars': WHATEVER THE INPUT: true; the input reads as it did. -/
def vectorScalarsSpec : ChangeSpec := { name := "vectorScalars", fn := fun _ => fun
  | [d1, d2, d3, d4, d5] => { results := [.lit (.bool true)], args := [d1, d2, d3, d4, d5] }
  | _ => none }
def vectorScalarsRow : OpenClaim := { program := "ytmblgaehfjheeaagreat", sum := "4b5580e6f5a3d391eeba4191f3e31e8ac7a4a824db274ec43d14b0e7ac9398b2", func := "gauge/gaugelaw19.VectorScalars", spec := "vectorScalars", inPlace := ["internal/abi.NoEscape", "internal/bytealg.MakeNoZero"], unfollowed := true, recurses := true, named := ["math/bits.divideError", "math/bits.overflowError"], plainKeys := false, apart := false }
def VectorScalarsSaid : Prop := vectorScalarsRow.holds Tryz.pinned (OpenSpec.ofChange vectorScalarsSpec)

/-- ITS FALSE NEIGHBOUR: 'it returns false'. Refute it at one input. -/
def vectorScalarsWrong : ChangeSpec := { name := "vectorScalars", fn := fun _ => fun
  | [d1, d2, d3, d4, d5] => { results := [.lit (.bool false)], args := [d1, d2, d3, d4, d5] }
  | _ => none }
def VectorScalarsWrongFalsely : Prop := vectorScalarsRow.holds Tryz.pinned (OpenSpec.ofChange vectorScalarsWrong)

/-- 'gaugelaw19.VectorGroups': WHATEVER THE INPUT: true; the input reads as it did. -/
def vectorGroupsSpec : ChangeSpec := { name := "vectorGroups", fn := fun _ => fun
  | [d1, d2, d3, d4, d5] => { results := [.lit (.bool true)], args := [d1, d2, d3, d4, d5] }
  | _ => none }
def vectorGroupsRow : OpenClaim := { program := "ytmblgaehfjheeaagreat", sum := "4b5580e6f5a3d391eeba4191f3e31e8ac7a4a824db274ec43d14b0e7ac9398b2", func := "gauge/gaugelaw19.VectorGroups", spec := "vectorGroups", inPlace := ["internal/abi.NoEscape", "internal/bytealg.MakeNoZero"], unfollowed := true, recurses := true, named := ["math/bits.divideError", "math/bits.overflowError"], plainKeys := false, apart := false }
def VectorGroupsSaid : Prop := vectorGroupsRow.holds Tryz.pinned (OpenSpec.ofChange vectorGroupsSpec)

/-- ITS FALSE NEIGHBOUR: 'it returns false'. Refute it at one input. -/
def vectorGroupsWrong : ChangeSpec := { name := "vectorGroups", fn := fun _ => fun
  | [d1, d2, d3, d4, d5] => { results := [.lit (.bool false)], args := [d1, d2, d3, d4, d5] }
  | _ => none }
def VectorGroupsWrongFalsely : Prop := vectorGroupsRow.holds Tryz.pinned (OpenSpec.ofChange vectorGroupsWrong)

/-- 'gaugelaw19.VectorPairs': WHATEVER THE INPUT: true; the input reads as it did. -/
def vectorPairsSpec : ChangeSpec := { name := "vectorPairs", fn := fun _ => fun
  | [d1, d2, d3] => { results := [.lit (.bool true)], args := [d1, d2, d3] }
  | _ => none }
def vectorPairsRow : OpenClaim := { program := "ytmblgaehfjheeaagreat", sum := "4b5580e6f5a3d391eeba4191f3e31e8ac7a4a824db274ec43d14b0e7ac9398b2", func := "gauge/gaugelaw19.VectorPairs", spec := "vectorPairs", inPlace := ["internal/abi.NoEscape", "internal/bytealg.MakeNoZero"], unfollowed := true, recurses := true, named := ["math/bits.divideError", "math/bits.overflowError"], loops := true, plainKeys := false, apart := false }
def VectorPairsSaid : Prop := vectorPairsRow.holds Tryz.pinned (OpenSpec.ofChange vectorPairsSpec)

/-- ITS FALSE NEIGHBOUR: 'it returns false'. Refute it at one input. -/
def vectorPairsWrong : ChangeSpec := { name := "vectorPairs", fn := fun _ => fun
  | [d1, d2, d3] => { results := [.lit (.bool false)], args := [d1, d2, d3] }
  | _ => none }
def VectorPairsWrongFalsely : Prop := vectorPairsRow.holds Tryz.pinned (OpenSpec.ofChange vectorPairsWrong)

/-- 'gaugelaw19.VectorSums': WHATEVER THE INPUT: true; the input reads as it did. -/
def vectorSumsSpec : ChangeSpec := { name := "vectorSums", fn := fun _ => fun
  | [d1, d2, d3] => { results := [.lit (.bool true)], args := [d1, d2, d3] }
  | _ => none }
def vectorSumsRow : OpenClaim := { program := "ytmblgaehfjheeaagreat", sum := "4b5580e6f5a3d391eeba4191f3e31e8ac7a4a824db274ec43d14b0e7ac9398b2", func := "gauge/gaugelaw19.VectorSums", spec := "vectorSums", inPlace := ["internal/abi.NoEscape", "internal/bytealg.MakeNoZero"], unfollowed := true, recurses := true, named := ["math/bits.divideError", "math/bits.overflowError"], plainKeys := false, apart := false }
def VectorSumsSaid : Prop := vectorSumsRow.holds Tryz.pinned (OpenSpec.ofChange vectorSumsSpec)

/-- ITS FALSE NEIGHBOUR: 'it returns false'. Refute it at one input. -/
def vectorSumsWrong : ChangeSpec := { name := "vectorSums", fn := fun _ => fun
  | [d1, d2, d3] => { results := [.lit (.bool false)], args := [d1, d2, d3] }
  | _ => none }
def VectorSumsWrongFalsely : Prop := vectorSumsRow.holds Tryz.pinned (OpenSpec.ofChange vectorSumsWrong)

/-- 'gaugelaw19.VectorTop': WHATEVER THE INPUT: true; the input reads as it did. -/
def vectorTopSpec : ChangeSpec := { name := "vectorTop", fn := fun _ => fun
  | [d1, d2, d3] => { results := [.lit (.bool true)], args := [d1, d2, d3] }
  | _ => none }
def vectorTopRow : OpenClaim := { program := "ytmblgaehfjheeaagreat", sum := "4b5580e6f5a3d391eeba4191f3e31e8ac7a4a824db274ec43d14b0e7ac9398b2", func := "gauge/gaugelaw19.VectorTop", spec := "vectorTop", inPlace := ["internal/abi.NoEscape", "internal/bytealg.MakeNoZero"], unfollowed := true, recurses := true, named := ["math/bits.divideError", "math/bits.overflowError"], plainKeys := false, apart := false }
def VectorTopSaid : Prop := vectorTopRow.holds Tryz.pinned (OpenSpec.ofChange vectorTopSpec)

/-- ITS FALSE NEIGHBOUR: 'it returns false'. Refute it at one input. -/
def vectorTopWrong : ChangeSpec := { name := "vectorTop", fn := fun _ => fun
  | [d1, d2, d3] => { results := [.lit (.bool false)], args := [d1, d2, d3] }
  | _ => none }
def VectorTopWrongFalsely : Prop := vectorTopRow.holds Tryz.pinned (OpenSpec.ofChange vectorTopWrong)

/-- 'gaugelaw19.VectorSets': WHATEVER THE INPUT: true; the input reads as it did. -/
def vectorSetsSpec : ChangeSpec := { name := "vectorSets", fn := fun _ => fun
  | [d1, d2, d3, d4] => { results := [.lit (.bool true)], args := [d1, d2, d3, d4] }
  | _ => none }
def vectorSetsRow : OpenClaim := { program := "ytmblgaehfjheeaagreat", sum := "4b5580e6f5a3d391eeba4191f3e31e8ac7a4a824db274ec43d14b0e7ac9398b2", func := "gauge/gaugelaw19.VectorSets", spec := "vectorSets", inPlace := ["internal/abi.NoEscape", "internal/bytealg.MakeNoZero"], unfollowed := true, recurses := true, named := ["math/bits.divideError", "math/bits.overflowError"], plainKeys := false, apart := false }
def VectorSetsSaid : Prop := vectorSetsRow.holds Tryz.pinned (OpenSpec.ofChange vectorSetsSpec)

/-- ITS FALSE NEIGHBOUR: 'it returns false'. Refute it at one input. -/
def vectorSetsWrong : ChangeSpec := { name := "vectorSets", fn := fun _ => fun
  | [d1, d2, d3, d4] => { results := [.lit (.bool false)], args := [d1, d2, d3, d4] }
  | _ => none }
def VectorSetsWrongFalsely : Prop := vectorSetsRow.holds Tryz.pinned (OpenSpec.ofChange vectorSetsWrong)

/-- 'gaugelaw19.VectorTurned': WHATEVER THE INPUT: true; the input reads as it did. -/
def vectorTurnedSpec : ChangeSpec := { name := "vectorTurned", fn := fun _ => fun
  | [d1, d2, d3] => { results := [.lit (.bool true)], args := [d1, d2, d3] }
  | _ => none }
def vectorTurnedRow : OpenClaim := { program := "ytmblgaehfjheeaagreat", sum := "4b5580e6f5a3d391eeba4191f3e31e8ac7a4a824db274ec43d14b0e7ac9398b2", func := "gauge/gaugelaw19.VectorTurned", spec := "vectorTurned", inPlace := ["internal/abi.NoEscape", "internal/bytealg.MakeNoZero"], unfollowed := true, recurses := true, named := ["math/bits.divideError", "math/bits.overflowError"], loops := true, plainKeys := false, apart := false }
def VectorTurnedSaid : Prop := vectorTurnedRow.holds Tryz.pinned (OpenSpec.ofChange vectorTurnedSpec)

/-- ITS FALSE NEIGHBOUR: 'it returns false'. Refute it at one input. -/
def vectorTurnedWrong : ChangeSpec := { name := "vectorTurned", fn := fun _ => fun
  | [d1, d2, d3] => { results := [.lit (.bool false)], args := [d1, d2, d3] }
  | _ => none }
def VectorTurnedWrongFalsely : Prop := vectorTurnedRow.holds Tryz.pinned (OpenSpec.ofChange vectorTurnedWrong)

/-- 'gaugelaw19.VectorEach': WHATEVER THE INPUT: true; the input reads as it did. -/
def vectorEachSpec : ChangeSpec := { name := "vectorEach", fn := fun _ => fun
  | [d1, d2, d3, d4] => { results := [.lit (.bool true)], args := [d1, d2, d3, d4] }
  | _ => none }
def vectorEachRow : OpenClaim := { program := "ytmblgaehfjheeaagreat", sum := "4b5580e6f5a3d391eeba4191f3e31e8ac7a4a824db274ec43d14b0e7ac9398b2", func := "gauge/gaugelaw19.VectorEach", spec := "vectorEach", inPlace := ["internal/abi.NoEscape", "internal/bytealg.MakeNoZero"], unfollowed := true, recurses := true, named := ["math/bits.divideError", "math/bits.overflowError"], plainKeys := false, apart := false }
def VectorEachSaid : Prop := vectorEachRow.holds Tryz.pinned (OpenSpec.ofChange vectorEachSpec)

/-- ITS FALSE NEIGHBOUR: 'it returns false'. Refute it at one input. -/
def vectorEachWrong : ChangeSpec := { name := "vectorEach", fn := fun _ => fun
  | [d1, d2, d3, d4] => { results := [.lit (.bool false)], args := [d1, d2, d3, d4] }
  | _ => none }
def VectorEachWrongFalsely : Prop := vectorEachRow.holds Tryz.pinned (OpenSpec.ofChange vectorEachWrong)

/- THE SECOND FORM. 'bulk': how many values and letters a reading holds, each counted each time it is reached (what is shared counts as often as it is met; a slice's spare places count too). A statement '..UptoSaid' is the law's where the arguments, and the package variables that the reading takes, are together of bulk at most 1048576: NARROWER than '..Said'. Prove '..Said' where nothing that the law and all that it calls make is longer than what came in: it says more and counts as full. Else prove '..UptoSaid'. A law counts once. -/
mutual
def uptoBulk {H : Type} : DataW H → Nat
  | .lit (.string bytes) => bytes.length + 1
  | .lit _ => 1
  | .nil => 1
  | .ptr d => uptoBulk d + 1
  | .slice elems spare => uptoBulkAll elems + uptoBulkAll spare + 1
  | .agg parts => uptoBulkAll parts + 1
  | .iface _ d => uptoBulk d + 1
  | .map entries => uptoBulkEntries entries + 1
  | .held _ => 1
def uptoBulkAll {H : Type} : List (DataW H) → Nat
  | [] => 0
  | d :: r => uptoBulk d + uptoBulkAll r
def uptoBulkEntries {H : Type} : List (Lit × DataW H) → Nat
  | [] => 0
  | x :: r => uptoBulkEntry x + uptoBulkEntries r
def uptoBulkEntry {H : Type} : Lit × DataW H → Nat
  | (.string bytes, d) => bytes.length + uptoBulk d + 1
  | (_, d) => uptoBulk d + 1
 end
def uptoSmall : (H : Type) → List (DataW H) → Bool := fun _ ds => decide (uptoBulkAll ds ≤ 1048576)
def OpenSpec.upto (s : _root_.Go.ChangeSpec) : _root_.Go.OpenSpec := { _root_.Go.OpenSpec.ofChange s with cond := some uptoSmall }

/-- 'gaugelaw19.VectorScalars', WHERE WHAT IT READS IS OF BULK AT MOST 1048576: true; the input reads as it did. -/
def vectorScalarsUptoRow : OpenClaim := { program := "ytmblgaehfjheeaagreat", sum := "4b5580e6f5a3d391eeba4191f3e31e8ac7a4a824db274ec43d14b0e7ac9398b2", func := "gauge/gaugelaw19.VectorScalars", spec := "vectorScalars", inPlace := ["internal/abi.NoEscape", "internal/bytealg.MakeNoZero"], unfollowed := true, recurses := true, named := ["math/bits.divideError", "math/bits.overflowError"], plainKeys := false, apart := false, narrowed := true }
def VectorScalarsUptoSaid : Prop := vectorScalarsUptoRow.holds Tryz.pinned (OpenSpec.upto vectorScalarsSpec)

/-- 'gaugelaw19.VectorGroups', WHERE WHAT IT READS IS OF BULK AT MOST 1048576: true; the input reads as it did. -/
def vectorGroupsUptoRow : OpenClaim := { program := "ytmblgaehfjheeaagreat", sum := "4b5580e6f5a3d391eeba4191f3e31e8ac7a4a824db274ec43d14b0e7ac9398b2", func := "gauge/gaugelaw19.VectorGroups", spec := "vectorGroups", inPlace := ["internal/abi.NoEscape", "internal/bytealg.MakeNoZero"], unfollowed := true, recurses := true, named := ["math/bits.divideError", "math/bits.overflowError"], plainKeys := false, apart := false, narrowed := true }
def VectorGroupsUptoSaid : Prop := vectorGroupsUptoRow.holds Tryz.pinned (OpenSpec.upto vectorGroupsSpec)

/-- 'gaugelaw19.VectorPairs', WHERE WHAT IT READS IS OF BULK AT MOST 1048576: true; the input reads as it did. -/
def vectorPairsUptoRow : OpenClaim := { program := "ytmblgaehfjheeaagreat", sum := "4b5580e6f5a3d391eeba4191f3e31e8ac7a4a824db274ec43d14b0e7ac9398b2", func := "gauge/gaugelaw19.VectorPairs", spec := "vectorPairs", inPlace := ["internal/abi.NoEscape", "internal/bytealg.MakeNoZero"], unfollowed := true, recurses := true, named := ["math/bits.divideError", "math/bits.overflowError"], loops := true, plainKeys := false, apart := false, narrowed := true }
def VectorPairsUptoSaid : Prop := vectorPairsUptoRow.holds Tryz.pinned (OpenSpec.upto vectorPairsSpec)

/-- 'gaugelaw19.VectorSums', WHERE WHAT IT READS IS OF BULK AT MOST 1048576: true; the input reads as it did. -/
def vectorSumsUptoRow : OpenClaim := { program := "ytmblgaehfjheeaagreat", sum := "4b5580e6f5a3d391eeba4191f3e31e8ac7a4a824db274ec43d14b0e7ac9398b2", func := "gauge/gaugelaw19.VectorSums", spec := "vectorSums", inPlace := ["internal/abi.NoEscape", "internal/bytealg.MakeNoZero"], unfollowed := true, recurses := true, named := ["math/bits.divideError", "math/bits.overflowError"], plainKeys := false, apart := false, narrowed := true }
def VectorSumsUptoSaid : Prop := vectorSumsUptoRow.holds Tryz.pinned (OpenSpec.upto vectorSumsSpec)

/-- 'gaugelaw19.VectorTop', WHERE WHAT IT READS IS OF BULK AT MOST 1048576: true; the input reads as it did. -/
def vectorTopUptoRow : OpenClaim := { program := "ytmblgaehfjheeaagreat", sum := "4b5580e6f5a3d391eeba4191f3e31e8ac7a4a824db274ec43d14b0e7ac9398b2", func := "gauge/gaugelaw19.VectorTop", spec := "vectorTop", inPlace := ["internal/abi.NoEscape", "internal/bytealg.MakeNoZero"], unfollowed := true, recurses := true, named := ["math/bits.divideError", "math/bits.overflowError"], plainKeys := false, apart := false, narrowed := true }
def VectorTopUptoSaid : Prop := vectorTopUptoRow.holds Tryz.pinned (OpenSpec.upto vectorTopSpec)

/-- 'gaugelaw19.VectorSets', WHERE WHAT IT READS IS OF BULK AT MOST 1048576: true; the input reads as it did. -/
def vectorSetsUptoRow : OpenClaim := { program := "ytmblgaehfjheeaagreat", sum := "4b5580e6f5a3d391eeba4191f3e31e8ac7a4a824db274ec43d14b0e7ac9398b2", func := "gauge/gaugelaw19.VectorSets", spec := "vectorSets", inPlace := ["internal/abi.NoEscape", "internal/bytealg.MakeNoZero"], unfollowed := true, recurses := true, named := ["math/bits.divideError", "math/bits.overflowError"], plainKeys := false, apart := false, narrowed := true }
def VectorSetsUptoSaid : Prop := vectorSetsUptoRow.holds Tryz.pinned (OpenSpec.upto vectorSetsSpec)

/-- 'gaugelaw19.VectorTurned', WHERE WHAT IT READS IS OF BULK AT MOST 1048576: true; the input reads as it did. -/
def vectorTurnedUptoRow : OpenClaim := { program := "ytmblgaehfjheeaagreat", sum := "4b5580e6f5a3d391eeba4191f3e31e8ac7a4a824db274ec43d14b0e7ac9398b2", func := "gauge/gaugelaw19.VectorTurned", spec := "vectorTurned", inPlace := ["internal/abi.NoEscape", "internal/bytealg.MakeNoZero"], unfollowed := true, recurses := true, named := ["math/bits.divideError", "math/bits.overflowError"], loops := true, plainKeys := false, apart := false, narrowed := true }
def VectorTurnedUptoSaid : Prop := vectorTurnedUptoRow.holds Tryz.pinned (OpenSpec.upto vectorTurnedSpec)

/-- 'gaugelaw19.VectorEach', WHERE WHAT IT READS IS OF BULK AT MOST 1048576: true; the input reads as it did. -/
def vectorEachUptoRow : OpenClaim := { program := "ytmblgaehfjheeaagreat", sum := "4b5580e6f5a3d391eeba4191f3e31e8ac7a4a824db274ec43d14b0e7ac9398b2", func := "gauge/gaugelaw19.VectorEach", spec := "vectorEach", inPlace := ["internal/abi.NoEscape", "internal/bytealg.MakeNoZero"], unfollowed := true, recurses := true, named := ["math/bits.divideError", "math/bits.overflowError"], plainKeys := false, apart := false, narrowed := true }
def VectorEachUptoSaid : Prop := vectorEachUptoRow.holds Tryz.pinned (OpenSpec.upto vectorEachSpec)

end Rows
end Go.Proofs.YtmblgaehfjheeaaGreat
