/- The layer's examples hold (lives): what is reckoned. -/
import Derived.Test.YtfkbfnpjggkdmaaGreatDoorNExD
import Derived.Test.YtfkbfnpjggkdmaaGreatDoorProg
namespace Go.Proofs.YtfkbfnpjggkdmaaGreatDoor.Ev
open Go.RowKit
set_option maxRecDepth 1000000
noncomputable section
def tabP : Tab := tabOf Tryz.prog
theorem tabP_is (J : Ctx) : TabOK Tryz.prog tabP J := tab_ok (by kernel_rfl) (by kernel_rfl)
/-- exec.must throws its error; the deferred function of exec.whole catches it. -/
def thrX : Nat → List AV → Option (List AV)
  | f, [.int .i64 e] => match Nat.beq f 88, eqA e 0 with
    | true, false => some [.int .i64 e]
    | _, _ => none
  | _, _ => none
def isRX (g : Nat) (caps : List AV) : Bool :=
  match caps with
  | [.ptr _ _, .ptr _ _, .ptr _ _] => Nat.beq g 51
  | _ => false
def rcvX (tb : Tab) : Nat → List AV → List AV → AHeap → Option AHeap
  | _, [.ptr a i, .ptr b j, .ptr c k], [e], h => match tb.zero 37 with
    | some z => match storeA tb h 37 a i z with
      | some (_, h1) => match storeA tb h1 3 b j (.int .i64 0) with
        | some (_, h2) => match storeA tb h2 38 c k e with
          | some (_, h3) => some h3
          | none => none
        | none => none
      | none => none
    | none => none
  | _, _, _, _ => none
def xcfg : XCfg := ⟨thrX, isRX, rcvX tabP⟩
theorem lives_ev : givesX (callX xcfg tabP 3000 12 [] ⟨0, .leaf⟩) (.bool true) = true := by kernel_rfl
end
end Go.Proofs.YtfkbfnpjggkdmaaGreatDoor.Ev
