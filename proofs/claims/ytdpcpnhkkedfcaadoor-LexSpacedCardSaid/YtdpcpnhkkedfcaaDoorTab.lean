/- The tables of the program, with what is known of calls. -/
import Derived.Test.YtdpcpnhkkedfcaaDoorAwF
import Derived.Test.YtdpcpnhkkedfcaaDoorLex0
import Derived.Test.YtdpcpnhkkedfcaaDoorProg
namespace Go.Proofs.YtdpcpnhkkedfcaaDoor.Ev
open Go.RowKit
/-- How many members a list begins with that are so. -/
def pre (p : Nat → Bool) : List Nat → Nat
  | [] => 0
  | c :: l => if p c then pre p l + 1 else 0
/-- Where a byte stands first; -1: nowhere. -/
def ixB (l : List Nat) (c : Nat) : Int := if pre (fun x => !(Nat.beq x (c % 256))) l < l.length then ((pre (fun x => !(Nat.beq x (c % 256))) l : Nat) : Int) else -1
def durN (l : List Nat) : Int × Int := durM (l.map UInt8.ofNat)
noncomputable def orc (f : Nat) (args : List AV) (h : AHeap) : Option AV :=
  match Nat.beq f 56 with
  | true => match args with
    | [.str l, .int .u8 (.ofNat c)] => some (.int .i64 (ixB l c))
    | _ => none
  | false => match Nat.beq f 11 with
    | true => match args with
      | [.str l] => match Nat.ble l.length 281474976710656 with
        | true => some (.tuple [.int .i64 (durN l).1, .int .i64 (durN l).2])
        | false => none
      | _ => none
    | false => match Nat.beq f 8 with
      | true => match args with
        | [] => some (.bool true)
        | _ => none
      | false => none
noncomputable def tab : Tab := (tabOf Tryd.prog).knows (fun _ _ _ _ => none) (fun _ _ => none) orc
end Go.Proofs.YtdpcpnhkkedfcaaDoor.Ev
