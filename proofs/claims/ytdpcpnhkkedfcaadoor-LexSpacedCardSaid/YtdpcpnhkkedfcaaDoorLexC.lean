/- Layer 15: the program's table of units. -/
import Derived.Test.YtdpcpnhkkedfcaaDoorEvM
import Derived.Test.YtdpcpnhkkedfcaaDoorProg
namespace Go.Proofs.YtdpcpnhkkedfcaaDoor
open Go.RowKit
set_option maxRecDepth 100000
/-- The units as the program's array has them: name and size by turns. -/
def unitsA : Array Value := #[.string ⟨#[119]⟩, .int .i64 604800000, .string ⟨#[100]⟩, .int .i64 86400000, .string ⟨#[104]⟩, .int .i64 3600000, .string ⟨#[109]⟩, .int .i64 60000, .string ⟨#[115]⟩, .int .i64 1000, .string ⟨#[109, 115]⟩, .int .i64 1]
def unitsE : List Ev.AV := [.str [119], .int .i64 604800000, .str [100], .int .i64 86400000, .str [104], .int .i64 3600000, .str [109], .int .i64 60000, .str [115], .int .i64 1000, .str [109, 115], .int .i64 1]
noncomputable def Ev.tabP : Ev.Tab := Ev.tabOf Tryd.prog
theorem Ev.tabP_is (J : Ev.Ctx) : Ev.TabOK Tryd.prog Ev.tabP J := Ev.tab_ok (by kernel_rfl) (by kernel_rfl)
theorem Ev.agg_call {f : Nat} {l : List Ev.AV} {m : List Value} (hm : Ev.conL l = some m) (h : Ev.gives (Ev.callA Ev.tabP 3000 f [] ⟨0, .leaf⟩) (.agg l) = true) (w : World) :
    Calls Tryd.prog f #[] w fun e w' => e = .returned (.agg m.toArray) ∧ Below w.heap.size w w' := by
  obtain ⟨h', he⟩ := Ev.gives_ok h
  refine (Ev.closed_call (l := []) (Ev.tabP_is _) he (.nil _) w).mono ?_
  rintro e w' ⟨M, u, rfl, _, hr, hb⟩
  refine ⟨?_, hb⟩
  obtain ⟨cs, rfl, hcs⟩ := Ev.agg_iff hr
  have := Ev.conL_ok hm hcs
  rw [← this]
theorem units_any (w : World) : Calls Tryd.prog 20 #[] w fun e w' => e = .returned (.agg unitsA) ∧ Below w.heap.size w w' :=
  Ev.agg_call (l := unitsE) rfl (by kernel_rfl) w
end Go.Proofs.YtdpcpnhkkedfcaaDoor
