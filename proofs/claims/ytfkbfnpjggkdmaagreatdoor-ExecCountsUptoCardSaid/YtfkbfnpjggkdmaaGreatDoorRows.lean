/-
  NARROWER THAN 'FOR EVERY INPUT', by the rows' own cells (each row's printed sentence says how): ExecPasses: laid · ExecMoments: laid · ExecOffsets: laid · ExecCounts: laid · ExecNone: loops, laid.
  DERIVED. THE GIVEN ROWS OF THIS SEAT. 5 by the template 'for every input the law returns true; each argument reads behind the call as it read before'; 0 by the template 'total and deterministic' (their statements: YtfkbfnpjggkdmaaGreatDoorTotals.lean).
  GIVEN WITH THE SEED: the statements are not yours to turn. If you find one false, say at which input.
  Laid BY PROGRAM, IN A SANDBOX (cutbox-rows.mjs): the forced cells as the released guide's own fill.sh prints them over the translation 2187e65795d52a51… (all of the seat's roots in one cut). By AI agents, Wed Nov 11 2026. No macro, syntax, notation, axiom, sorry.
-/
import Derived.Test.YtfkbfnpjggkdmaaGreatDoorChecked
import GoSem.Claim
import GoSem.ClaimJoined
import GoSem.ClaimMapViews
import Derived.JoinedTies
import Derived.KernelRfl
namespace Go.Proofs.YtfkbfnpjggkdmaaGreatDoor
/- THE CELL 'sum', in the pinned program and in every row, IS THE sha256 OF THE DUMP (.gsa) THAT YtfkbfnpjggkdmaaGreatDoorProg.lean LOADS. Nothing in Lean hashes anything: it is a label: what it is worth is what the hold of that sum in a sandbox is worth. -/
noncomputable def Tryz.pinned : Pinned := { name := "ytfkbfnpjggkdmaagreatdoor", sum := "2187e65795d52a51853a55377b6d410e8bfdb570189eba4d6efb23ff0f769622", checked := Tryz.checked }
namespace Rows
def none {H : Type} : Left H := { results := [], args := [] }

/- WHAT THE LISTED PACKAGE-LEVEL VARIABLES READ AS WHEN THE CALL BEGINS. Each datum BY PROGRAM (the guide's laid-datum.mjs) off the statement by which the dump's own 'gosem.cut.vars' lays the variable. In a bare row this is a premise. The card (YtfkbfnpjggkdmaaGreatDoorCards.lean) ties it to the program's text. -/
def laid_errors_errorType {H : Type} : DataW H := .iface "internal/reflectlite.rtype" (.agg [.ptr (.lit (.string [101, 114, 114, 111, 114]))])

/-- 'gaugelaw21.ExecPasses': WHATEVER THE INPUT: true; the input reads as it did. -/
def execPassesSpec : ChangeSpec := { name := "execPasses", fn := fun _ => fun
  | [d1, d2, d3, d4] => { results := [.lit (.bool true)], args := [d1, d2, d3, d4] }
  | _ => none }
def execPassesRow : OpenClaim := { program := "ytfkbfnpjggkdmaagreatdoor", sum := "2187e65795d52a51853a55377b6d410e8bfdb570189eba4d6efb23ff0f769622", func := "gauge/gaugelaw21.ExecPasses", spec := "execPasses", inPlace := ["internal/reflectlite.ValueOf", "(internal/reflectlite.Value).Type", "(internal/reflectlite.Value).IsNil", "internal/reflectlite.TypeOf", "(internal/reflectlite.Value).Elem", "(internal/reflectlite.Value).Set", "internal/abi.NoEscape", "internal/bytealg.MakeNoZero"], unfollowed := true, recurses := true, named := ["errors.errorType", "math/bits.divideError", "math/bits.overflowError"], plainKeys := false, apart := false, laid := [("errors.errorType", laid_errors_errorType)] }
def ExecPassesSaid : Prop := execPassesRow.holds Tryz.pinned (OpenSpec.ofChange execPassesSpec)

/-- ITS FALSE NEIGHBOUR: 'it returns false'. Refute it at one input. -/
def execPassesWrong : ChangeSpec := { name := "execPasses", fn := fun _ => fun
  | [d1, d2, d3, d4] => { results := [.lit (.bool false)], args := [d1, d2, d3, d4] }
  | _ => none }
def ExecPassesWrongFalsely : Prop := execPassesRow.holds Tryz.pinned (OpenSpec.ofChange execPassesWrong)

/-- 'gaugelaw21.ExecMoments': WHATEVER THE INPUT: true; the input reads as it did. -/
def execMomentsSpec : ChangeSpec := { name := "execMoments", fn := fun _ => fun
  | [d1, d2, d3] => { results := [.lit (.bool true)], args := [d1, d2, d3] }
  | _ => none }
def execMomentsRow : OpenClaim := { program := "ytfkbfnpjggkdmaagreatdoor", sum := "2187e65795d52a51853a55377b6d410e8bfdb570189eba4d6efb23ff0f769622", func := "gauge/gaugelaw21.ExecMoments", spec := "execMoments", inPlace := ["internal/reflectlite.ValueOf", "(internal/reflectlite.Value).Type", "(internal/reflectlite.Value).IsNil", "internal/reflectlite.TypeOf", "(internal/reflectlite.Value).Elem", "(internal/reflectlite.Value).Set", "internal/abi.NoEscape", "internal/bytealg.MakeNoZero"], unfollowed := true, recurses := true, named := ["errors.errorType", "math/bits.divideError", "math/bits.overflowError"], plainKeys := false, apart := false, laid := [("errors.errorType", laid_errors_errorType)] }
def ExecMomentsSaid : Prop := execMomentsRow.holds Tryz.pinned (OpenSpec.ofChange execMomentsSpec)

/-- ITS FALSE NEIGHBOUR: 'it returns false'. Refute it at one input. -/
def execMomentsWrong : ChangeSpec := { name := "execMoments", fn := fun _ => fun
  | [d1, d2, d3] => { results := [.lit (.bool false)], args := [d1, d2, d3] }
  | _ => none }
def ExecMomentsWrongFalsely : Prop := execMomentsRow.holds Tryz.pinned (OpenSpec.ofChange execMomentsWrong)

/-- 'gaugelaw21.ExecOffsets': WHATEVER THE INPUT: true; the input reads as it did. -/
def execOffsetsSpec : ChangeSpec := { name := "execOffsets", fn := fun _ => fun
  | [d1, d2, d3, d4] => { results := [.lit (.bool true)], args := [d1, d2, d3, d4] }
  | _ => none }
def execOffsetsRow : OpenClaim := { program := "ytfkbfnpjggkdmaagreatdoor", sum := "2187e65795d52a51853a55377b6d410e8bfdb570189eba4d6efb23ff0f769622", func := "gauge/gaugelaw21.ExecOffsets", spec := "execOffsets", inPlace := ["internal/reflectlite.ValueOf", "(internal/reflectlite.Value).Type", "(internal/reflectlite.Value).IsNil", "internal/reflectlite.TypeOf", "(internal/reflectlite.Value).Elem", "(internal/reflectlite.Value).Set", "internal/abi.NoEscape", "internal/bytealg.MakeNoZero"], unfollowed := true, recurses := true, named := ["errors.errorType", "math/bits.divideError", "math/bits.overflowError"], plainKeys := false, apart := false, laid := [("errors.errorType", laid_errors_errorType)] }
def ExecOffsetsSaid : Prop := execOffsetsRow.holds Tryz.pinned (OpenSpec.ofChange execOffsetsSpec)

/-- ITS FALSE NEIGHBOUR: 'it returns false'. Refute it at one input. -/
def execOffsetsWrong : ChangeSpec := { name := "execOffsets", fn := fun _ => fun
  | [d1, d2, d3, d4] => { results := [.lit (.bool false)], args := [d1, d2, d3, d4] }
  | _ => none }
def ExecOffsetsWrongFalsely : Prop := execOffsetsRow.holds Tryz.pinned (OpenSpec.ofChange execOffsetsWrong)

/-- 'gaugelaw21.ExecCounts': WHATEVER THE INPUT: true; the input reads as it did. -/
def execCountsSpec : ChangeSpec := { name := "execCounts", fn := fun _ => fun
  | [d1, d2, d3] => { results := [.lit (.bool true)], args := [d1, d2, d3] }
  | _ => none }
def execCountsRow : OpenClaim := { program := "ytfkbfnpjggkdmaagreatdoor", sum := "2187e65795d52a51853a55377b6d410e8bfdb570189eba4d6efb23ff0f769622", func := "gauge/gaugelaw21.ExecCounts", spec := "execCounts", inPlace := ["internal/reflectlite.ValueOf", "(internal/reflectlite.Value).Type", "(internal/reflectlite.Value).IsNil", "internal/reflectlite.TypeOf", "(internal/reflectlite.Value).Elem", "(internal/reflectlite.Value).Set", "internal/abi.NoEscape", "internal/bytealg.MakeNoZero"], unfollowed := true, recurses := true, named := ["errors.errorType", "math/bits.divideError", "math/bits.overflowError"], plainKeys := false, apart := false, laid := [("errors.errorType", laid_errors_errorType)] }
def ExecCountsSaid : Prop := execCountsRow.holds Tryz.pinned (OpenSpec.ofChange execCountsSpec)

/-- ITS FALSE NEIGHBOUR: 'it returns false'. Refute it at one input. -/
def execCountsWrong : ChangeSpec := { name := "execCounts", fn := fun _ => fun
  | [d1, d2, d3] => { results := [.lit (.bool false)], args := [d1, d2, d3] }
  | _ => none }
def ExecCountsWrongFalsely : Prop := execCountsRow.holds Tryz.pinned (OpenSpec.ofChange execCountsWrong)

/-- 'gaugelaw21.ExecNone': WHATEVER THE INPUT: true; the input reads as it did. -/
def execNoneSpec : ChangeSpec := { name := "execNone", fn := fun _ => fun
  | [d1, d2] => { results := [.lit (.bool true)], args := [d1, d2] }
  | _ => none }
def execNoneRow : OpenClaim := { program := "ytfkbfnpjggkdmaagreatdoor", sum := "2187e65795d52a51853a55377b6d410e8bfdb570189eba4d6efb23ff0f769622", func := "gauge/gaugelaw21.ExecNone", spec := "execNone", inPlace := ["internal/reflectlite.ValueOf", "(internal/reflectlite.Value).Type", "(internal/reflectlite.Value).IsNil", "internal/reflectlite.TypeOf", "(internal/reflectlite.Value).Elem", "(internal/reflectlite.Value).Set", "internal/abi.NoEscape", "internal/bytealg.MakeNoZero"], unfollowed := true, recurses := true, named := ["errors.errorType", "math/bits.divideError", "math/bits.overflowError"], loops := true, plainKeys := false, apart := false, laid := [("errors.errorType", laid_errors_errorType)] }
def ExecNoneSaid : Prop := execNoneRow.holds Tryz.pinned (OpenSpec.ofChange execNoneSpec)

/-- ITS FALSE NEIGHBOUR: 'it returns false'. Refute it at one input. -/
def execNoneWrong : ChangeSpec := { name := "execNone", fn := fun _ => fun
  | [d1, d2] => { results := [.lit (.bool false)], args := [d1, d2] }
  | _ => none }
def ExecNoneWrongFalsely : Prop := execNoneRow.holds Tryz.pinned (OpenSpec.ofChange execNoneWrong)

/- THE SECOND FORM. 'bulk': how many values and letters a reading holds, each counted each time it is reached (what is shared counts as often as it is met; a slice's spare places count too). A statement '..UptoSaid' is the law's where the arguments, and the package variables that the reading takes, are together of bulk at most 1048576: NARROWER than '..Said'. Prove '..Said' where nothing that the law and all that it calls make is longer than what came in: it says more and counts as full. Else prove '..UptoSaid'. A law counts once. -/
mutual
def uptoBulk {H : Type} : DataW H → Nat
  | .lit (.string bytes) => bytes.length + 1
  | .lit _ => 1
  | .nil => 1
  | .ptr d => uptoBulk d + 1
  | .slice elems spare => uptoBulkAll elems + uptoBulkAll spare + 1
  | .agg parts => uptoBulkAll parts + 1
  | .iface _ d => uptoBulk d + 1
  | .map entries => uptoBulkEntries entries + 1
  | .held _ => 1
def uptoBulkAll {H : Type} : List (DataW H) → Nat
  | [] => 0
  | d :: r => uptoBulk d + uptoBulkAll r
def uptoBulkEntries {H : Type} : List (Lit × DataW H) → Nat
  | [] => 0
  | x :: r => uptoBulkEntry x + uptoBulkEntries r
def uptoBulkEntry {H : Type} : Lit × DataW H → Nat
  | (.string bytes, d) => bytes.length + uptoBulk d + 1
  | (_, d) => uptoBulk d + 1
 end
def uptoSmall : (H : Type) → List (DataW H) → Bool := fun _ ds => decide (uptoBulkAll ds ≤ 1048576)
def OpenSpec.upto (s : _root_.Go.ChangeSpec) : _root_.Go.OpenSpec := { _root_.Go.OpenSpec.ofChange s with cond := some uptoSmall }

/-- 'gaugelaw21.ExecPasses', WHERE WHAT IT READS IS OF BULK AT MOST 1048576: true; the input reads as it did. -/
def execPassesUptoRow : OpenClaim := { program := "ytfkbfnpjggkdmaagreatdoor", sum := "2187e65795d52a51853a55377b6d410e8bfdb570189eba4d6efb23ff0f769622", func := "gauge/gaugelaw21.ExecPasses", spec := "execPasses", inPlace := ["internal/reflectlite.ValueOf", "(internal/reflectlite.Value).Type", "(internal/reflectlite.Value).IsNil", "internal/reflectlite.TypeOf", "(internal/reflectlite.Value).Elem", "(internal/reflectlite.Value).Set", "internal/abi.NoEscape", "internal/bytealg.MakeNoZero"], unfollowed := true, recurses := true, named := ["errors.errorType", "math/bits.divideError", "math/bits.overflowError"], plainKeys := false, apart := false, laid := [("errors.errorType", laid_errors_errorType)], narrowed := true }
def ExecPassesUptoSaid : Prop := execPassesUptoRow.holds Tryz.pinned (OpenSpec.upto execPassesSpec)

/-- 'gaugelaw21.ExecMoments', WHERE WHAT IT READS IS OF BULK AT MOST 1048576: true; the input reads as it did. -/
def execMomentsUptoRow : OpenClaim := { program := "ytfkbfnpjggkdmaagreatdoor", sum := "2187e65795d52a51853a55377b6d410e8bfdb570189eba4d6efb23ff0f769622", func := "gauge/gaugelaw21.ExecMoments", spec := "execMoments", inPlace := ["internal/reflectlite.ValueOf", "(internal/reflectlite.Value).Type", "(internal/reflectlite.Value).IsNil", "internal/reflectlite.TypeOf", "(internal/reflectlite.Value).Elem", "(internal/reflectlite.Value).Set", "internal/abi.NoEscape", "internal/bytealg.MakeNoZero"], unfollowed := true, recurses := true, named := ["errors.errorType", "math/bits.divideError", "math/bits.overflowError"], plainKeys := false, apart := false, laid := [("errors.errorType", laid_errors_errorType)], narrowed := true }
def ExecMomentsUptoSaid : Prop := execMomentsUptoRow.holds Tryz.pinned (OpenSpec.upto execMomentsSpec)

/-- 'gaugelaw21.ExecOffsets', WHERE WHAT IT READS IS OF BULK AT MOST 1048576: true; the input reads as it did. -/
def execOffsetsUptoRow : OpenClaim := { program := "ytfkbfnpjggkdmaagreatdoor", sum := "2187e65795d52a51853a55377b6d410e8bfdb570189eba4d6efb23ff0f769622", func := "gauge/gaugelaw21.ExecOffsets", spec := "execOffsets", inPlace := ["internal/reflectlite.ValueOf", "(internal/reflectlite.Value).Type", "(internal/reflectlite.Value).IsNil", "internal/reflectlite.TypeOf", "(internal/reflectlite.Value).Elem", "(internal/reflectlite.Value).Set", "internal/abi.NoEscape", "internal/bytealg.MakeNoZero"], unfollowed := true, recurses := true, named := ["errors.errorType", "math/bits.divideError", "math/bits.overflowError"], plainKeys := false, apart := false, laid := [("errors.errorType", laid_errors_errorType)], narrowed := true }
def ExecOffsetsUptoSaid : Prop := execOffsetsUptoRow.holds Tryz.pinned (OpenSpec.upto execOffsetsSpec)

/-- 'gaugelaw21.ExecCounts', WHERE WHAT IT READS IS OF BULK AT MOST 1048576: true; the input reads as it did. -/
def execCountsUptoRow : OpenClaim := { program := "ytfkbfnpjggkdmaagreatdoor", sum := "2187e65795d52a51853a55377b6d410e8bfdb570189eba4d6efb23ff0f769622", func := "gauge/gaugelaw21.ExecCounts", spec := "execCounts", inPlace := ["internal/reflectlite.ValueOf", "(internal/reflectlite.Value).Type", "(internal/reflectlite.Value).IsNil", "internal/reflectlite.TypeOf", "(internal/reflectlite.Value).Elem", "(internal/reflectlite.Value).Set", "internal/abi.NoEscape", "internal/bytealg.MakeNoZero"], unfollowed := true, recurses := true, named := ["errors.errorType", "math/bits.divideError", "math/bits.overflowError"], plainKeys := false, apart := false, laid := [("errors.errorType", laid_errors_errorType)], narrowed := true }
def ExecCountsUptoSaid : Prop := execCountsUptoRow.holds Tryz.pinned (OpenSpec.upto execCountsSpec)

/-- 'gaugelaw21.ExecNone', WHERE WHAT IT READS IS OF BULK AT MOST 1048576: true; the input reads as it did. -/
def execNoneUptoRow : OpenClaim := { program := "ytfkbfnpjggkdmaagreatdoor", sum := "2187e65795d52a51853a55377b6d410e8bfdb570189eba4d6efb23ff0f769622", func := "gauge/gaugelaw21.ExecNone", spec := "execNone", inPlace := ["internal/reflectlite.ValueOf", "(internal/reflectlite.Value).Type", "(internal/reflectlite.Value).IsNil", "internal/reflectlite.TypeOf", "(internal/reflectlite.Value).Elem", "(internal/reflectlite.Value).Set", "internal/abi.NoEscape", "internal/bytealg.MakeNoZero"], unfollowed := true, recurses := true, named := ["errors.errorType", "math/bits.divideError", "math/bits.overflowError"], loops := true, plainKeys := false, apart := false, laid := [("errors.errorType", laid_errors_errorType)], narrowed := true }
def ExecNoneUptoSaid : Prop := execNoneUptoRow.holds Tryz.pinned (OpenSpec.upto execNoneSpec)

end Rows
end Go.Proofs.YtfkbfnpjggkdmaaGreatDoor
