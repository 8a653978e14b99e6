/- exec.must at an error: what it throws. -/
import Derived.Test.YtfkbfnpjggkdmaaGreatDoorNLx21
import Derived.WalkKit
import Derived.WalkLawsBesides
import Derived.RowKitTokens
namespace Go.Proofs.YtfkbfnpjggkdmaaGreatDoor
open Go.RowKit
set_option linter.unusedVariables false
theorem must_boom (x : Int) (hx : ¬ x = 0) (w : World) : Calls Tryz.prog 88 #[.int .i64 x] w fun e w' =>
    e = .panicked [{ v := .iface 209 (.pointer (some ⟨w.heap.size + 1, 0, none⟩)), recovered := false }] ∧
    w' = (w.alloc (.cells #[.int .i64 x] 127)).alloc (.cells #[.iface 120 (.pointer (some ⟨w.heap.size, 0, none⟩))] 211) := by
  go_enter Tryz.func88, Tryz.ntmps88
  go_wp2
  first | exact ⟨rfl, rfl⟩ | exact ⟨rfl, rfl, rfl⟩ | simp [bodyPost]
namespace Ev
variable {J : Ctx}
/-- What is told of a chain of panics: exec.must's two links, in memory. -/
def trX : Trb := fun l chain w => ∃ x pb eb, l = [.int .i64 x] ∧ chain = [{ v := .iface 209 (.pointer (some ⟨pb, 0, none⟩)), recovered := false }] ∧
  w.cell? ⟨pb, 0, none⟩ = some (.iface 120 (.pointer (some ⟨eb, 0, none⟩))) ∧ w.cell? ⟨eb, 0, none⟩ = some (.int .i64 x)
theorem HRel.wider {M : Inj} {N : Nat → Prop} {w0 : Base J} {h : AHeap} {w w' : World} (hh : HRel M N w0 h w) (hb : Below w.heap.size w w') : HRel M N w0 h w' :=
  ⟨hh.base, hh.lim, hh.below.trans (Keeps.of hb hh.big), fun k hk => Nat.lt_of_lt_of_le (hh.big k hk) hb.size, fun b o hbo => (hh.live b o hbo).mono (Inj.le_refl M) (fun i hi => hb.block _ ((hh.live b o hbo).blk_lt hi).1), hh.apart, hh.old, hh.fresh, hh.res⟩
theorem must_ok : ∀ f args l, thrX f args = some l → ∀ (M : Inj) (N : Nat → Prop) (w0 : Base J) (h : AHeap) (w : World) (vs : Array Value), LRel M args vs.toList → HRel M N w0 h w →
    HasFn Tryz.prog f ∧ Calls Tryz.prog f vs w fun e w' => ∃ M' chain, e = .panicked chain ∧ M.le M' ∧ HRel M' N w0 h w' ∧ trX l chain w' := by
  intro f args l hth M N w0 h w vs hl hh
  unfold thrX at hth
  split at hth
  rotate_left
  · cases hth
  rename_i x
  split at hth
  rotate_left
  · cases hth
  rename_i hf hx
  cases hth
  have hf := Nat.eq_of_beq_eq_true hf
  subst hf
  obtain ⟨u, hu, hr⟩ := hl.get (i := 0) rfl
  have hr := int_iff hr
  subst hr
  have hvs : vs = #[.int .i64 x] := by
    apply Array.ext'
    have h1 := hl.1
    match h2 : vs.toList, h1, hu with
    | [y], _, hu => simpa using hu
  subst hvs
  have hx0 : ¬ x = 0 := by
    intro e
    subst e
    simp [eqA] at hx
  refine ⟨⟨_, Tryz.func88, by kernel_rfl, by kernel_rfl⟩, (must_boom x hx0 w).mono ?_⟩
  rintro e w' ⟨rfl, rfl⟩
  refine ⟨M, _, rfl, Inj.le_refl M, hh.wider (((Below.refl _ _).alloc (Nat.le_refl _) _).alloc (by simp) _), x, _, w.heap.size, rfl, rfl, ?_, ?_⟩
  · simp
  · rw [World.cell?_alloc_lt _ _ ⟨w.heap.size, 0, none⟩ (by simp)]
    simp
end Ev
end Go.Proofs.YtfkbfnpjggkdmaaGreatDoor
