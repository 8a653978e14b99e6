/- Layer 15: the reference's tables of units, in memory. -/
import Derived.Test.YtdpcpnhkkedfcaaDoorProg
import Derived.WalkKit
import Derived.ProofKit
import Derived.OpenShut
import Derived.Outline
import Derived.WalkSpells
import Derived.WalkLawsBesides
import Derived.Deep.QuietTactic
import Derived.BigQuiet
import Derived.Lib.Hide
import Derived.Deep.DeepFit
import Derived.Deep.DeepMust

import Derived.Test.YtdpcpnhkkedfcaaDoorEvN
import Derived.Test.YtdpcpnhkkedfcaaDoorLexD
namespace Go.Proofs.YtdpcpnhkkedfcaaDoor
open Go.ChangeShapes Go.WideShapes Go.ChangeAt Go.RowKit
set_option linter.unusedVariables false
set_option maxRecDepth 100000
/-- The reference's two tables in memory: names and sizes. -/
structure RU (w : World) (B p C q : Nat) : Prop where
  bB : B < w.heap.size
  bC : C < w.heap.size
  nm : ∀ j, j < 6 → w.cell? ⟨B, p + j, none⟩ = some (.string (uB j))
  sz : ∀ j, j < 6 → w.cell? ⟨C, q + j, none⟩ = some (.int .i64 (uS j))
theorem RU.below {w w' : World} {B p C q : Nat} (h : RU w B p C q) (hb : Below w.heap.size w w') : RU w' B p C q :=
  ⟨Nat.lt_of_lt_of_le h.bB hb.size, Nat.lt_of_lt_of_le h.bC hb.size, fun j hj => (hb.cell (p := ⟨B, p + j, none⟩) h.bB).trans (h.nm j hj), fun j hj => (hb.cell (p := ⟨C, q + j, none⟩) h.bC).trans (h.sz j hj)⟩
theorem runits_ev : Ev.givesH (Ev.callA Ev.tab 3000 22 [] ⟨0, .leaf⟩) (.tuple [.slice 0 0 6 1, .slice 1 0 6 1])
    [(0, [.str [119], .str [100], .str [104], .str [109], .str [115], .str [109, 115]]), (1, [.int .i64 604800000, .int .i64 86400000, .int .i64 3600000, .int .i64 60000, .int .i64 1000, .int .i64 1])] = true := by kernel_rfl
theorem runits_any (w : World) : Calls Tryd.prog 22 #[] w fun e w' =>
    (∃ B p c C q d, e = .returned (.tuple #[.slice (some ⟨B, p, none⟩) 6 c, .slice (some ⟨C, q, none⟩) 6 d]) ∧ RU w' B p C q) ∧ Below w.heap.size w w' := by
  refine (Ev.heap_call (l := []) (Ev.tab_is _) runits_ev (.nil _) w).mono ?_
  rintro e w' ⟨M, u, rfl, hv, hh, hb⟩
  refine ⟨?_, hb⟩
  obtain ⟨cs, rfl, hcs⟩ := Ev.tuple_iff hv
  obtain ⟨l⟩ := cs
  have hlen := hcs.1
  match l, hlen with
  | [x, y], _ =>
    obtain ⟨B, p, c, rfl, h1, _, _, h3⟩ := Ev.slice_held hh (hcs.2 0 _ x rfl rfl) (l := [.str [119], .str [100], .str [104], .str [109], .str [115], .str [109, 115]]) (by simp) (by omega)
    obtain ⟨C, q, d, rfl, g1, _, _, g3⟩ := Ev.slice_held hh (hcs.2 1 _ y rfl rfl) (l := [.int .i64 604800000, .int .i64 86400000, .int .i64 3600000, .int .i64 60000, .int .i64 1000, .int .i64 1]) (by simp) (by omega)
    refine ⟨B, p, c, C, q, d, rfl, h1, g1, ?_, ?_⟩
    · have key : ∀ (j : Nat) (x : List Nat), [Ev.AV.str [119], .str [100], .str [104], .str [109], .str [115], .str [109, 115]][j]? = some (.str x) → (uB j).data.toList.map UInt8.toNat = x → w'.cell? ⟨B, p + j, none⟩ = some (.string (uB j)) := by
        intro j x hx he
        obtain ⟨y, hy, hr⟩ := h3 j _ hx
        rw [hy, Ev.str_val hr (uB j) he]
      intro j hj
      exact six (p := fun j => w'.cell? ⟨B, p + j, none⟩ = some (.string (uB j))) ⟨key 0 _ rfl rfl, key 1 _ rfl rfl, key 2 _ rfl rfl, key 3 _ rfl rfl, key 4 _ rfl rfl, key 5 _ rfl rfl⟩ j hj
    · have key : ∀ (j : Nat) (x : Int), [Ev.AV.int .i64 604800000, .int .i64 86400000, .int .i64 3600000, .int .i64 60000, .int .i64 1000, .int .i64 1][j]? = some (.int .i64 x) → (uS j : Int) = x → w'.cell? ⟨C, q + j, none⟩ = some (.int .i64 (uS j)) := by
        intro j x hx he
        obtain ⟨y, hy, hr⟩ := g3 j _ hx
        rw [hy, Ev.int_iff hr, he]
      intro j hj
      exact six (p := fun j => w'.cell? ⟨C, q + j, none⟩ = some (.int .i64 (uS j))) ⟨key 0 _ rfl rfl, key 1 _ rfl rfl, key 2 _ rfl rfl, key 3 _ rfl rfl, key 4 _ rfl rfl, key 5 _ rfl rfl⟩ j hj
end Go.Proofs.YtdpcpnhkkedfcaaDoor
