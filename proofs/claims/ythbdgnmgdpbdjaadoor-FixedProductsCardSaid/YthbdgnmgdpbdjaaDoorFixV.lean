/- The laws of layer 3 on numbers: walks. -/
import Derived.Test.YthbdgnmgdpbdjaaDoorProg
import Derived.WalkKit
import Derived.ProofKit
import Derived.OpenShut
import Derived.Outline
import Derived.WalkSpells
import Derived.WalkLawsBesides
import Derived.Deep.QuietTactic
import Derived.BigQuiet
import Derived.Lib.Hide
import Derived.Deep.DeepFit
import Derived.Deep.DeepMust

import Derived.Test.YthbdgnmgdpbdjaaDoorFixQ
namespace Go.Proofs.YthbdgnmgdpbdjaaDoor
open Go.ChangeShapes Go.WideShapes Go.ChangeAt Go.RowKit
set_option maxRecDepth 100000
theorem sums_walk (a b : Int) (w : World) (ht : Tab w) :
    Calls Tryd.prog 4 #[.int .i64 a, .int .i64 b] w fun e w' => e = .returned (.bool true) ∧ Below w.heap.size w w' := by
  have HA := Lib.hid (fun w => add_any a b w)
  have HA' := Lib.hid (fun w => radd_any a b w)
  have HS := Lib.hid (fun w => sub_any a b w)
  have HS' := Lib.hid (fun w => rsub_any a b w)
  generalize fAdd a b = s at HA HA'
  generalize fSub a b = t at HS HS'
  obtain ⟨s1, s2⟩ := s
  obtain ⟨t1, t2⟩ := t
  have HT := Lib.hid ht
  have HB := Lib.hid (Below.refl w.heap.size w)
  clear ht
  go_enter Tryd.func4, Tryd.ntmps4
  go_wp2_with (first | (go_at_call 13; ((with_reducible refine (HA.out _).mono ?_); rintro e w' ⟨rfl, rfl⟩)) | (go_at_call 14; ((with_reducible refine (HA'.out _).mono ?_); rintro e w' ⟨rfl, rfl⟩)) | (go_at_call 15; ((with_reducible refine (HS.out _).mono ?_); rintro e w' ⟨rfl, rfl⟩)) | (go_at_call 16; ((with_reducible refine (HS'.out _).mono ?_); rintro e w' ⟨rfl, rfl⟩)) | (go_at_call 17; ((with_reducible refine (fits_any _ _).mono ?_); rintro e w' ⟨rfl, rfl⟩)) | (go_at_call 18; ((with_reducible refine (rfits_any _ _).mono ?_); rintro e w' ⟨rfl, rfl⟩)) | (go_at_call 12; ((with_reducible refine (lives_any _ HT.out).mono ?_); rintro e w' ⟨rfl, hB⟩; have HT := Lib.hid (HT.out.below hB); have HB := Lib.hid (HB.out.trans (hB.mono HB.out.size)); clear hB)))
  go_ret
  exact ⟨rfl, HB.out⟩
theorem products_walk (a b : Int) (w : World) (ht : Tab w) :
    Calls Tryd.prog 5 #[.int .i64 a, .int .i64 b] w fun e w' => e = .returned (.bool true) ∧ Below w.heap.size w w' := by
  have HA := Lib.hid (fun w => mul_any a b w)
  have HA' := Lib.hid (fun w => rmul_any a b w)
  have HS := Lib.hid (fun w => div_fix a b w)
  have HS' := Lib.hid (fun w => rdiv_any a b w)
  have HM := Lib.hid (fun w => mod_any a b w)
  have HM' := Lib.hid (fun w => rmod_any a b w)
  generalize fMul a b = s at HA HA'
  generalize fDiv a b = t at HS HS'
  generalize fMod a b = u at HM HM'
  obtain ⟨s1, s2⟩ := s
  obtain ⟨t1, t2⟩ := t
  obtain ⟨u1, u2⟩ := u
  have HT := Lib.hid ht
  have HB := Lib.hid (Below.refl w.heap.size w)
  clear ht
  go_enter Tryd.func5, Tryd.ntmps5
  go_wp2_with (first | (go_at_call 19; ((with_reducible refine (HA.out _).mono ?_); rintro e w' ⟨rfl, hB⟩; have HT := Lib.hid (HT.out.below hB); have HB := Lib.hid (HB.out.trans (hB.mono HB.out.size)); clear hB)) | (go_at_call 20; ((with_reducible refine (HA'.out _).mono ?_); rintro e w' ⟨rfl, hB⟩; have HT := Lib.hid (HT.out.below hB); have HB := Lib.hid (HB.out.trans (hB.mono HB.out.size)); clear hB)) | (go_at_call 21; ((with_reducible refine (HS.out _).mono ?_); rintro e w' ⟨rfl, hB⟩; have HT := Lib.hid (HT.out.below hB); have HB := Lib.hid (HB.out.trans (hB.mono HB.out.size)); clear hB)) | (go_at_call 22; ((with_reducible refine (HS'.out _).mono ?_); rintro e w' ⟨rfl, hB⟩; have HT := Lib.hid (HT.out.below hB); have HB := Lib.hid (HB.out.trans (hB.mono HB.out.size)); clear hB)) | (go_at_call 23; ((with_reducible refine (HM.out _).mono ?_); rintro e w' ⟨rfl, rfl⟩)) | (go_at_call 24; ((with_reducible refine (HM'.out _).mono ?_); rintro e w' ⟨rfl, rfl⟩)) | (go_at_call 12; ((with_reducible refine (lives_any _ HT.out).mono ?_); rintro e w' ⟨rfl, hB⟩; have HT := Lib.hid (HT.out.below hB); have HB := Lib.hid (HB.out.trans (hB.mono HB.out.size)); clear hB)))
  go_ret
  exact ⟨rfl, HB.out⟩
theorem scales_walk (a b c : Int) (w : World) (ht : Tab w) :
    Calls Tryd.prog 3 #[.int .i64 a, .int .i64 b, .int .i64 c] w fun e w' => e = .returned (.bool true) ∧ Below w.heap.size w w' := by
  have HA := Lib.hid (fun w => scale_any a b c w)
  have HA' := Lib.hid (fun w => rscale_any a b c w)
  generalize fScale a b c = s at HA HA'
  obtain ⟨s1, s2⟩ := s
  have HT := Lib.hid ht
  have HB := Lib.hid (Below.refl w.heap.size w)
  clear ht
  go_enter Tryd.func3, Tryd.ntmps3
  go_wp2_with (first | (go_at_call 10; ((with_reducible refine (HA.out _).mono ?_); rintro e w' ⟨rfl, hB⟩; have HT := Lib.hid (HT.out.below hB); have HB := Lib.hid (HB.out.trans (hB.mono HB.out.size)); clear hB)) | (go_at_call 11; ((with_reducible refine (HA'.out _).mono ?_); rintro e w' ⟨rfl, hB⟩; have HT := Lib.hid (HT.out.below hB); have HB := Lib.hid (HB.out.trans (hB.mono HB.out.size)); clear hB)) | (go_at_call 12; ((with_reducible refine (lives_any _ HT.out).mono ?_); rintro e w' ⟨rfl, hB⟩; have HT := Lib.hid (HT.out.below hB); have HB := Lib.hid (HB.out.trans (hB.mono HB.out.size)); clear hB)))
  go_ret
  exact ⟨rfl, HB.out⟩
end Go.Proofs.YthbdgnmgdpbdjaaDoor
