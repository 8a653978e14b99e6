/- CheckCalls' walk: any name takes and gives the same here and in the document, and the examples hold. -/
import Derived.Test.YtnlnmbnopdklhaaProg
import Derived.WalkKit
import Derived.ProofKit
import Derived.OpenShut
import Derived.Outline
import Derived.WalkSpells
import Derived.WalkLawsBesides
import Derived.Deep.QuietTactic
import Derived.BigQuiet
import Derived.Lib.Hide
import Derived.Deep.DeepFit
import Derived.Deep.DeepMust

import Derived.Test.YtnlnmbnopdklhaaChkE
import Derived.Test.YtnlnmbnopdklhaaChkG
import Derived.Test.YtnlnmbnopdklhaaLive17
namespace Go.Proofs.Ytnlnmbnopdklhaa
open Go.ChangeShapes Go.WideShapes Go.ChangeAt Go.RowKit
set_option linter.unusedVariables false
set_option maxRecDepth 100000
theorem same_zero (a b : Option Addr) (c d : Nat) (w : World) :
    Calls Try.prog 17 #[.slice a 0 c, .slice b 0 d] w fun e w' => e = .returned (.bool true) ∧ Below w.heap.size w w' := by
  go_enter Try.func17, Try.ntmps17
  go_wp2_with fail
  go_loopw [5] (fun i wr => i = .int .i64 0 ∧ Below w.heap.size w wr) (fun i _ => 0)
  case atStart => exact ⟨rfl, Below.refl _ _⟩
  case round =>
    obtain ⟨rfl, hb⟩ := hrel
    go_wp2_with fail
    go_ret
    exact ⟨rfl, hb⟩
theorem same_lists (v u : Value) (zs : List Int) (w : World) (hv : IntList v zs w) (hu : IntList u zs w) (hm : (zs.length : Int) ≤ 9223372036854775807) :
    Calls Try.prog 17 #[v, u] w fun e w' => e = .returned (.bool true) ∧ Below w.heap.size w w' := by
  rcases hv with ⟨rfl, rfl⟩ | ⟨B, off, cap, rfl, hB, hz⟩
  · rcases hu with ⟨_, rfl⟩ | ⟨B, off, cap, rfl, hB, hz⟩
    · exact same_zero _ _ _ _ w
    · exact same_zero _ _ _ _ w
  · rcases hu with ⟨rfl, rfl⟩ | ⟨B', off', cap', rfl, hB', hz'⟩
    · exact same_zero _ _ _ _ w
    · refine (same_some zs zs B off cap B' off' cap' w hB hB' rfl hm hz hz').mono ?_
      rintro e w' ⟨rfl, hb⟩
      exact ⟨by simp, hb⟩
theorem takes_len (t : Int × Int × Int) : ((takesL t).length : Int) ≤ 9223372036854775807 := by
  have : (takesL t).length ≤ 3 := by unfold takesL; exact Nat.le_trans (List.length_filter_le _ _) (by simp)
  omega
namespace Ev
theorem calls_walk (op : ByteArray) (w : World) :
    Calls Try.prog 7 #[.string op] w fun e w' => e = .returned (.bool true) ∧ Below w.heap.size w w' := by
  have HC := Lib.hid (ccall_any op)
  have HR := Lib.hid (rcall_any op)
  have hlen := takes_len (callM op.toList).1
  generalize callM op.toList = r at *
  obtain ⟨t, n⟩ := r
  generalize hzs : takesL t = zs at *
  have HL := Lib.hid hlen
  clear hlen hzs
  go_enter Try.func7, Try.ntmps7
  go_wp2_with (go_at_call 15; refine (HC.out _).mono ?_; rintro e w1 ⟨v, rfl, hv, hb1⟩)
  have HV := Lib.hid hv
  have HB := Lib.hid hb1
  clear hv hb1
  go_wp2_with (go_at_call 16; refine (HR.out _).mono ?_; rintro e w2 ⟨u, rfl, hu, hb2⟩)
  have HV2 := Lib.hid (HV.out.below hb2)
  have HU := Lib.hid hu
  have HB2 := Lib.hid (HB.out.trans (hb2.mono HB.out.size))
  clear hu hb2
  go_wp2_with (first
    | (go_at_call 17; refine (same_lists _ _ _ _ HV2.out HU.out HL.out).mono ?_; rintro e w3 ⟨rfl, hb3⟩; have HB3 := Lib.hid (HB2.out.trans (hb3.mono HB2.out.size)); clear hb3)
    | (go_at_call 10; refine (lives_any _).mono ?_; rintro e w4 ⟨rfl, hb4⟩; have HB4 := Lib.hid (HB3.out.trans (hb4.mono HB3.out.size)); clear hb4))
  go_ret
  exact ⟨rfl, HB4.out⟩
end Ev
end Go.Proofs.Ytnlnmbnopdklhaa
