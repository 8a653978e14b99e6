/- The builder's WriteString, as the evaluator wants it; the layer's examples hold. -/
import Derived.Test.YtndhhgbpcmfeiaaGreatDoorGBld
import Derived.Lib.Strings
import Derived.Lib.Walk
import Derived.BigCall
import Derived.Test.YtndhhgbpcmfeiaaGreatDoorProg
namespace Go.Proofs.YtndhhgbpcmfeiaaGreatDoor
open Go.ChangeShapes Go.WideShapes Go.ChangeAt Go.RowKit
set_option linter.unusedVariables false
set_option linter.unusedSimpArgs false
set_option maxRecDepth 100000
/-- What copyCheck makes of a builder. -/
theorem cc_any (B b : Nat) (bs : List Value) (w : World) (h : Lib.IsBuilder 102 5 B b bs w) :
    Calls Tryz.prog 93 #[.pointer (some ⟨b, 0, none⟩)] w fun e w' => e = .returned (.tuple #[]) ∧ (Lib.BuilderAt 102 5 B b (.pointer (some ⟨b, 0, none⟩)) bs w' ∧ Below B w w') ∧
      (w'.os = w.os ∧ w'.tape = w.tape ∧ w'.output = w.output ∧ w'.heap.size = w.heap.size ∧ (∀ k, k ≠ b → w'.heap[k]? = w.heap[k]?) ∧ Ev.ownB w' b = Ev.ownB w b) := by
  rcases h with h | h
  · refine (Any.Builder_copyCheck_fresh lays240 x72 b w h.cell0 h.shape h.frozen0).mono ?_
    rintro e w' ⟨rfl, rfl⟩
    refine ⟨rfl, ⟨h.used _, (Below.refl B w).setCell (p := ⟨b, 0, none⟩) h.1 _⟩, rfl, rfl, rfl, by simp [World.setCell], fun k hk => Below.heap_setCell _ _ _ _ (fun e => hk (by simp [e])), ?_⟩
    obtain ⟨_, v, h2, _⟩ := h
    have h3 : (w.setCell ⟨b, 0, none⟩ (.pointer (some ⟨b, 0, none⟩))).heap[b]? = some (.cells #[.pointer (some ⟨b, 0, none⟩), v] 102 (0, 0)) := by
      simp [World.setCell, Array.getElem?_modify, h2]
    unfold Ev.ownB
    rw [h2, h3]
    rfl
  · refine (Any.Builder_copyCheck_used lays240 x72 b w h.cell0).mono ?_
    rintro e w' ⟨rfl, rfl⟩
    exact ⟨rfl, ⟨h, Below.refl B _⟩, rfl, rfl, rfl, rfl, fun _ _ => rfl, rfl⟩
set_option maxHeartbeats 1000000 in
theorem ws_any (B b : Nat) (bs : List Value) (s : ByteArray) (w : World) (h : Lib.IsBuilder 102 5 B b bs w) (hl : bs.length + s.size ≤ 140737488355328) (hB0 : B ≤ w.heap.size) :
    Calls Tryz.prog 62 #[.pointer (some ⟨b, 0, none⟩), .string s] w fun e w' => e = .returned (.tuple #[.int .i64 s.size, .nilIface]) ∧ Lib.IsBuilder 102 5 B b (bs ++ Lib.strCells s) w' ∧ Ev.Fine b w w' := by
  obtain ⟨i0, hi, hz0, hz1, hz2⟩ := info_parts (Tryz.Builder_Extra_156).infoByte
  have hcc := cc_any B b bs w h
  clear h
  go_enter Tryz.func62, Tryz.ntmps62
  go_wp2_with (go_at_call 93; with_reducible refine hcc.mono ?_)
  rintro e w1 ⟨rfl, ⟨h1, hb1⟩, f1, f2, f3, f4, f5, f6⟩
  obtain ⟨hB, v, hbk, hown, hne⟩ := h1
  have c0 : w1.cell? ⟨b, 0, none⟩ = some (.pointer (some ⟨b, 0, none⟩)) := by rw [Lib.cell_of_heap hbk]; rfl
  have c1 : w1.cell? ⟨b, 1, none⟩ = some v := by rw [Lib.cell_of_heap hbk]; rfl
  go_wp2_with (at_builtin; refine wpList_append_fine rfl _ _ _ _ rfl B 5 i0 Tryz.underlying100 Tryz.underlying9 hi hz0 hz1 hz2 _ _ _ rfl hown s rfl ?c3 ?c4 ?c5 ?_)
  case c3 => unfold maxLen; omega
  case c4 => omega
  case c5 => have := hb1.size; omega
  intro v' w2 hown' hgrow hfine
  have hlt : b < w1.heap.size := (Array.getElem?_eq_some_iff.1 hbk).1
  have hb2 : w2.heap[b]? = some (.cells #[.pointer (some ⟨b, 0, none⟩), v] 102 (0, 0)) := by
    rw [hgrow.block b hlt (fun e => hne e.symm)]
    exact hbk
  have d0 : w2.cell? ⟨b, 0, none⟩ = some (.pointer (some ⟨b, 0, none⟩)) := by rw [Lib.cell_of_heap hb2]; rfl
  have d1 : w2.cell? ⟨b, 1, none⟩ = some v := by rw [Lib.cell_of_heap hb2]; rfl
  have g1 : w2.frozen? ⟨b, 1, none⟩ = false := Lib.frozen_of_heap hb2 1
  obtain ⟨ao, n', cap, rfl⟩ : ∃ ao n' cap, v' = .slice ao n' cap := by
    rcases hown'.2 with ⟨hv, _⟩ | ⟨g, cap, cur, hv, _⟩
    · exact ⟨_, _, _, hv⟩
    · exact ⟨_, _, _, hv⟩
  go_wp2
  go_ret2
  refine ⟨rfl, .inr ?_, ?_⟩
  · exact Lib.BuilderAt.put (T := 102) (e := 5) hB hb2 (bs' := bs ++ Lib.strCells s) (by simpa [Lib.strCells_length] using hown') (by decide)
  · have hov : Ev.ownB w b = v.ownBlock := by rw [← f6]; unfold Ev.ownB; rw [hbk]; rfl
    refine ⟨hgrow.os.trans f1, hgrow.tape.trans f2, hgrow.output.trans f3, by have := hgrow.size; simp [World.setCell]; omega, fun k hk hkb hko => ?_, fun x hx => ?_⟩
    · rw [Below.heap_setCell _ _ _ _ (fun e => hkb (by simp [e])), hgrow.block k (by omega) (fun e => hko (by rw [hov, e])), f5 k hkb]
    · rw [hov]
      have h3 : (w2.setCell ⟨b, 1, none⟩ (.slice ao n' cap)).heap[b]? = some (.cells #[.pointer (some ⟨b, 0, none⟩), .slice ao n' cap] 102 (0, 0)) := by
        simp [World.setCell, Array.getElem?_modify, hb2]
      unfold Ev.ownB at hx
      rw [h3] at hx
      exact (hfine x hx).imp id (fun e => by omega)
namespace Ev
def bcfg : BCfg := ⟨102, 5, 62, 64, 65⟩
theorem bok : BOK Tryz.prog bcfg where
  hz := Tryz.zeroValue102
  fs := ⟨_, Tryz.func62, by kernel_rfl, by kernel_rfl⟩
  fb := ⟨_, Tryz.func64, by kernel_rfl, by kernel_rfl⟩
  fr := ⟨_, Tryz.func65, by kernel_rfl, by kernel_rfl⟩
  ws := ws_any
  wb := wb_any
  tl := fun B b l w h h0 => Tryz.Builder_String B b l w h h0
end Ev
end Go.Proofs.YtndhhgbpcmfeiaaGreatDoor

/- The layer's examples hold (lives). -/
namespace Go.Proofs.YtndhhgbpcmfeiaaGreatDoor.Ev
open Go.RowKit
set_option maxRecDepth 1000000
noncomputable def tabP : Tab := tabOf Tryz.prog
theorem tabP_is (J : Ctx) : TabOK Tryz.prog tabP J := tab_ok (by kernel_rfl) (by kernel_rfl)
theorem lives_ev : gives (callG bcfg tabP 3000 10 [] ⟨0, .leaf⟩) (.bool true) = true := by kernel_rfl
theorem lives_any (w : World) : Calls Tryz.prog 10 #[] w fun e w' => e = .returned (.bool true) ∧ Below w.heap.size w w' :=
  build_call (l := []) (tabP_is _) bok (v := .bool true) rfl lives_ev (.nil _) w
end Go.Proofs.YtndhhgbpcmfeiaaGreatDoor.Ev
