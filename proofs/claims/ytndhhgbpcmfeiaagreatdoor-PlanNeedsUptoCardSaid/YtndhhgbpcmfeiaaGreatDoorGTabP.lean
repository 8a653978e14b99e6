/- The tables of the program, with what is known of calls (chapter 20). -/
import Derived.Test.YtndhhgbpcmfeiaaGreatDoorGAwI
import Derived.Test.YtndhhgbpcmfeiaaGreatDoorProg
namespace Go.Proofs.YtndhhgbpcmfeiaaGreatDoor.Ev
open Go.RowKit
set_option linter.unusedVariables false
noncomputable def orc (f : Nat) (args : List AV) (h : AHeap) : Option AV :=
  match Nat.beq f 10 with
  | true => match args with
    | [] => some (.bool true)
    | _ => none
  | false => none
noncomputable def tab : Tab := (tabOf Tryz.prog).knows (fun _ _ _ _ => none) (fun _ _ => none) orc
end Go.Proofs.YtndhhgbpcmfeiaaGreatDoor.Ev
