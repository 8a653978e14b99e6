/-
  No cell of these rows narrows 'for every input' (looked for: loops, veiled, ifaces, maps, wideKeys, modest, calm, conditions, laid).
  DERIVED. THE GIVEN ROWS OF THIS SEAT. 6 by the template 'for every input the law returns true; each argument reads behind the call as it read before'; 0 by the template 'total and deterministic' (their statements: YtnlnmbnopdklhaaTotals.lean).
  GIVEN WITH THE SEED: the statements are not yours to turn. If you find one false, say at which input.
  Laid BY PROGRAM, IN A SANDBOX (cutbox-rows.mjs): the forced cells as the released guide's own fill.sh prints them over the translation 7867fd20d05ba980… (all of the seat's roots in one cut). By AI agents, Wed Nov 11 2026. No macro, syntax, notation, axiom, sorry.
-/
import Derived.Test.YtnlnmbnopdklhaaChecked
import GoSem.Claim
import GoSem.ClaimJoined
import GoSem.ClaimMapViews
import Derived.JoinedTies
import Derived.KernelRfl
namespace Go.Proofs.Ytnlnmbnopdklhaa
/- THE CELL 'sum', in the pinned program and in every row, IS THE sha256 OF THE DUMP (.gsa) THAT YtnlnmbnopdklhaaProg.lean LOADS. Nothing in Lean hashes anything: it is a label: what it is worth is what the hold of that sum in a sandbox is worth. -/
noncomputable def Try.pinned : Pinned := { name := "ytnlnmbnopdklhaa", sum := "7867fd20d05ba980542975d449c3cf17d0a474906a853acdf38f34b69ac286bd", checked := Try.checked }
namespace Rows
def none {H : Type} : Left H := { results := [], args := [] }

/-- 'gaugelaw17.CheckTypes': WHATEVER THE INPUT: true; the input reads as it did. -/
def checkTypesSpec : ChangeSpec := { name := "checkTypes", fn := fun _ => fun
  | [d] => { results := [.lit (.bool true)], args := [d] }
  | _ => none }
def checkTypesRow : OpenClaim := { program := "ytnlnmbnopdklhaa", sum := "7867fd20d05ba980542975d449c3cf17d0a474906a853acdf38f34b69ac286bd", func := "gauge/gaugelaw17.CheckTypes", spec := "checkTypes", recurses := true, apart := false }
def CheckTypesSaid : Prop := checkTypesRow.holds Try.pinned (OpenSpec.ofChange checkTypesSpec)

/-- ITS FALSE NEIGHBOUR: 'it returns false'. Refute it at one input. -/
def checkTypesWrong : ChangeSpec := { name := "checkTypes", fn := fun _ => fun
  | [d] => { results := [.lit (.bool false)], args := [d] }
  | _ => none }
def CheckTypesWrongFalsely : Prop := checkTypesRow.holds Try.pinned (OpenSpec.ofChange checkTypesWrong)

/-- 'gaugelaw17.CheckOperators': WHATEVER THE INPUT: true; the input reads as it did. -/
def checkOperatorsSpec : ChangeSpec := { name := "checkOperators", fn := fun _ => fun
  | [d1, d2, d3, d4] => { results := [.lit (.bool true)], args := [d1, d2, d3, d4] }
  | _ => none }
def checkOperatorsRow : OpenClaim := { program := "ytnlnmbnopdklhaa", sum := "7867fd20d05ba980542975d449c3cf17d0a474906a853acdf38f34b69ac286bd", func := "gauge/gaugelaw17.CheckOperators", spec := "checkOperators", recurses := true, apart := false }
def CheckOperatorsSaid : Prop := checkOperatorsRow.holds Try.pinned (OpenSpec.ofChange checkOperatorsSpec)

/-- ITS FALSE NEIGHBOUR: 'it returns false'. Refute it at one input. -/
def checkOperatorsWrong : ChangeSpec := { name := "checkOperators", fn := fun _ => fun
  | [d1, d2, d3, d4] => { results := [.lit (.bool false)], args := [d1, d2, d3, d4] }
  | _ => none }
def CheckOperatorsWrongFalsely : Prop := checkOperatorsRow.holds Try.pinned (OpenSpec.ofChange checkOperatorsWrong)

/-- 'gaugelaw17.CheckParts': WHATEVER THE INPUT: true; the input reads as it did. -/
def checkPartsSpec : ChangeSpec := { name := "checkParts", fn := fun _ => fun
  | [d] => { results := [.lit (.bool true)], args := [d] }
  | _ => none }
def checkPartsRow : OpenClaim := { program := "ytnlnmbnopdklhaa", sum := "7867fd20d05ba980542975d449c3cf17d0a474906a853acdf38f34b69ac286bd", func := "gauge/gaugelaw17.CheckParts", spec := "checkParts", recurses := true, apart := false }
def CheckPartsSaid : Prop := checkPartsRow.holds Try.pinned (OpenSpec.ofChange checkPartsSpec)

/-- ITS FALSE NEIGHBOUR: 'it returns false'. Refute it at one input. -/
def checkPartsWrong : ChangeSpec := { name := "checkParts", fn := fun _ => fun
  | [d] => { results := [.lit (.bool false)], args := [d] }
  | _ => none }
def CheckPartsWrongFalsely : Prop := checkPartsRow.holds Try.pinned (OpenSpec.ofChange checkPartsWrong)

/-- 'gaugelaw17.CheckFirst': WHATEVER THE INPUT: true; the input reads as it did. -/
def checkFirstSpec : ChangeSpec := { name := "checkFirst", fn := fun _ => fun
  | [d1, d2] => { results := [.lit (.bool true)], args := [d1, d2] }
  | _ => none }
def checkFirstRow : OpenClaim := { program := "ytnlnmbnopdklhaa", sum := "7867fd20d05ba980542975d449c3cf17d0a474906a853acdf38f34b69ac286bd", func := "gauge/gaugelaw17.CheckFirst", spec := "checkFirst", recurses := true, apart := false }
def CheckFirstSaid : Prop := checkFirstRow.holds Try.pinned (OpenSpec.ofChange checkFirstSpec)

/-- ITS FALSE NEIGHBOUR: 'it returns false'. Refute it at one input. -/
def checkFirstWrong : ChangeSpec := { name := "checkFirst", fn := fun _ => fun
  | [d1, d2] => { results := [.lit (.bool false)], args := [d1, d2] }
  | _ => none }
def CheckFirstWrongFalsely : Prop := checkFirstRow.holds Try.pinned (OpenSpec.ofChange checkFirstWrong)

/-- 'gaugelaw17.CheckCalls': WHATEVER THE INPUT: true; the input reads as it did. -/
def checkCallsSpec : ChangeSpec := { name := "checkCalls", fn := fun _ => fun
  | [d] => { results := [.lit (.bool true)], args := [d] }
  | _ => none }
def checkCallsRow : OpenClaim := { program := "ytnlnmbnopdklhaa", sum := "7867fd20d05ba980542975d449c3cf17d0a474906a853acdf38f34b69ac286bd", func := "gauge/gaugelaw17.CheckCalls", spec := "checkCalls", recurses := true, apart := false }
def CheckCallsSaid : Prop := checkCallsRow.holds Try.pinned (OpenSpec.ofChange checkCallsSpec)

/-- ITS FALSE NEIGHBOUR: 'it returns false'. Refute it at one input. -/
def checkCallsWrong : ChangeSpec := { name := "checkCalls", fn := fun _ => fun
  | [d] => { results := [.lit (.bool false)], args := [d] }
  | _ => none }
def CheckCallsWrongFalsely : Prop := checkCallsRow.holds Try.pinned (OpenSpec.ofChange checkCallsWrong)

/-- 'gaugelaw17.CheckArguments': WHATEVER THE INPUT: true; the input reads as it did. -/
def checkArgumentsSpec : ChangeSpec := { name := "checkArguments", fn := fun _ => fun
  | [d1, d2] => { results := [.lit (.bool true)], args := [d1, d2] }
  | _ => none }
def checkArgumentsRow : OpenClaim := { program := "ytnlnmbnopdklhaa", sum := "7867fd20d05ba980542975d449c3cf17d0a474906a853acdf38f34b69ac286bd", func := "gauge/gaugelaw17.CheckArguments", spec := "checkArguments", recurses := true, apart := false }
def CheckArgumentsSaid : Prop := checkArgumentsRow.holds Try.pinned (OpenSpec.ofChange checkArgumentsSpec)

/-- ITS FALSE NEIGHBOUR: 'it returns false'. Refute it at one input. -/
def checkArgumentsWrong : ChangeSpec := { name := "checkArguments", fn := fun _ => fun
  | [d1, d2] => { results := [.lit (.bool false)], args := [d1, d2] }
  | _ => none }
def CheckArgumentsWrongFalsely : Prop := checkArgumentsRow.holds Try.pinned (OpenSpec.ofChange checkArgumentsWrong)

/- THE SECOND FORM. 'bulk': how many values and letters a reading holds, each counted each time it is reached (what is shared counts as often as it is met; a slice's spare places count too). A statement '..UptoSaid' is the law's where the arguments, and the package variables that the reading takes, are together of bulk at most 1048576: NARROWER than '..Said'. Prove '..Said' where nothing that the law and all that it calls make is longer than what came in: it says more and counts as full. Else prove '..UptoSaid'. A law counts once. -/
mutual
def uptoBulk {H : Type} : DataW H → Nat
  | .lit (.string bytes) => bytes.length + 1
  | .lit _ => 1
  | .nil => 1
  | .ptr d => uptoBulk d + 1
  | .slice elems spare => uptoBulkAll elems + uptoBulkAll spare + 1
  | .agg parts => uptoBulkAll parts + 1
  | .iface _ d => uptoBulk d + 1
  | .map entries => uptoBulkEntries entries + 1
  | .held _ => 1
def uptoBulkAll {H : Type} : List (DataW H) → Nat
  | [] => 0
  | d :: r => uptoBulk d + uptoBulkAll r
def uptoBulkEntries {H : Type} : List (Lit × DataW H) → Nat
  | [] => 0
  | x :: r => uptoBulkEntry x + uptoBulkEntries r
def uptoBulkEntry {H : Type} : Lit × DataW H → Nat
  | (.string bytes, d) => bytes.length + uptoBulk d + 1
  | (_, d) => uptoBulk d + 1
 end
def uptoSmall : (H : Type) → List (DataW H) → Bool := fun _ ds => decide (uptoBulkAll ds ≤ 1048576)
def OpenSpec.upto (s : _root_.Go.ChangeSpec) : _root_.Go.OpenSpec := { _root_.Go.OpenSpec.ofChange s with cond := some uptoSmall }

/-- 'gaugelaw17.CheckTypes', WHERE WHAT IT READS IS OF BULK AT MOST 1048576: true; the input reads as it did. -/
def checkTypesUptoRow : OpenClaim := { program := "ytnlnmbnopdklhaa", sum := "7867fd20d05ba980542975d449c3cf17d0a474906a853acdf38f34b69ac286bd", func := "gauge/gaugelaw17.CheckTypes", spec := "checkTypes", recurses := true, apart := false, narrowed := true }
def CheckTypesUptoSaid : Prop := checkTypesUptoRow.holds Try.pinned (OpenSpec.upto checkTypesSpec)

/-- 'gaugelaw17.CheckOperators', WHERE WHAT IT READS IS OF BULK AT MOST 1048576: true; the input reads as it did. -/
def checkOperatorsUptoRow : OpenClaim := { program := "ytnlnmbnopdklhaa", sum := "7867fd20d05ba980542975d449c3cf17d0a474906a853acdf38f34b69ac286bd", func := "gauge/gaugelaw17.CheckOperators", spec := "checkOperators", recurses := true, apart := false, narrowed := true }
def CheckOperatorsUptoSaid : Prop := checkOperatorsUptoRow.holds Try.pinned (OpenSpec.upto checkOperatorsSpec)

/-- 'gaugelaw17.CheckParts', WHERE WHAT IT READS IS OF BULK AT MOST 1048576: true; the input reads as it did. -/
def checkPartsUptoRow : OpenClaim := { program := "ytnlnmbnopdklhaa", sum := "7867fd20d05ba980542975d449c3cf17d0a474906a853acdf38f34b69ac286bd", func := "gauge/gaugelaw17.CheckParts", spec := "checkParts", recurses := true, apart := false, narrowed := true }
def CheckPartsUptoSaid : Prop := checkPartsUptoRow.holds Try.pinned (OpenSpec.upto checkPartsSpec)

/-- 'gaugelaw17.CheckFirst', WHERE WHAT IT READS IS OF BULK AT MOST 1048576: true; the input reads as it did. -/
def checkFirstUptoRow : OpenClaim := { program := "ytnlnmbnopdklhaa", sum := "7867fd20d05ba980542975d449c3cf17d0a474906a853acdf38f34b69ac286bd", func := "gauge/gaugelaw17.CheckFirst", spec := "checkFirst", recurses := true, apart := false, narrowed := true }
def CheckFirstUptoSaid : Prop := checkFirstUptoRow.holds Try.pinned (OpenSpec.upto checkFirstSpec)

/-- 'gaugelaw17.CheckCalls', WHERE WHAT IT READS IS OF BULK AT MOST 1048576: true; the input reads as it did. -/
def checkCallsUptoRow : OpenClaim := { program := "ytnlnmbnopdklhaa", sum := "7867fd20d05ba980542975d449c3cf17d0a474906a853acdf38f34b69ac286bd", func := "gauge/gaugelaw17.CheckCalls", spec := "checkCalls", recurses := true, apart := false, narrowed := true }
def CheckCallsUptoSaid : Prop := checkCallsUptoRow.holds Try.pinned (OpenSpec.upto checkCallsSpec)

/-- 'gaugelaw17.CheckArguments', WHERE WHAT IT READS IS OF BULK AT MOST 1048576: true; the input reads as it did. -/
def checkArgumentsUptoRow : OpenClaim := { program := "ytnlnmbnopdklhaa", sum := "7867fd20d05ba980542975d449c3cf17d0a474906a853acdf38f34b69ac286bd", func := "gauge/gaugelaw17.CheckArguments", spec := "checkArguments", recurses := true, apart := false, narrowed := true }
def CheckArgumentsUptoSaid : Prop := checkArgumentsUptoRow.holds Try.pinned (OpenSpec.upto checkArgumentsSpec)

end Rows
end Go.Proofs.Ytnlnmbnopdklhaa
