/- CheckArguments, of any number and any list. -/
import Derived.Test.YtnlnmbnopdklhaaAUk
namespace Go.Proofs.Ytnlnmbnopdklhaa.Ev
open Go.RowKit
set_option linter.unusedVariables false
set_option maxRecDepth 100000
theorem cell_cells' {w : World} {b o : Nat} {v : Value} (h : w.cell? ⟨b, o, none⟩ = some v) : ∃ c e fr, w.heap[b]? = some (.cells c e fr) ∧ c[o]? = some v := by
  unfold World.cell? at h
  cases hb : w.heap[b]? with
  | none => rw [hb] at h; cases h
  | some x =>
    rw [hb] at h
    cases x with
    | cells c e fr => exact ⟨c, e, fr, rfl, h⟩
    | _ => cases h
theorem u64_nat (op : Int) : ∃ u : Nat, IntKind.u64.wrap op = (u : Int) := by
  refine ⟨(IntKind.u64.wrap op).toNat, ?_⟩
  have : 0 ≤ IntKind.u64.wrap op := by
    have e : (2 ^ 64 : Int) = 18446744073709551616 := by decide
    simp only [IntKind.wrap, IntKind.bits, IntKind.signed, Bool.false_and, Bool.false_eq_true, if_false, e]
    omega
  omega
theorem args_nil (op : Int) (w : World) : Calls Try.prog 8 #[.int .i64 op, .slice none 0 0] w fun e w' => e = .returned (.bool true) ∧ Below w.heap.size w w' := by
  obtain ⟨u, hu⟩ := u64_nat op
  obtain ⟨h1, h2⟩ := nms_ok (j := u % 17) (Nat.mod_lt _ (by decide))
  exact in_call tab_is (args_spec op u hu _ rfl h1.2.2.2.1 h1 h2 [] [] (fun e he => by simp at he) .nils ⟨fun e => rfl, fun h => by simp at h⟩) (u := .bool true) rfl (I := []) ⟨by simp, fun e he => by simp at he⟩ (.cons (.int _ _) (.cons .nils (.nil _))) w (fun x hx => by simp at hx)
theorem args_some (op : Int) (zs : List Int) (b off len cap : Nat) (w : World) (hz : zs.length = len) (hle : len ≤ cap) (hc : ∀ j, j < len → w.cell? ⟨b, off + j, none⟩ = some (.int .i64 (zs.getD j 0))) :
    Calls Try.prog 8 #[.int .i64 op, .slice (some ⟨b, off, none⟩) len cap] w fun e w' => e = .returned (.bool true) ∧ Below w.heap.size w w' := by
  obtain ⟨u, hu⟩ := u64_nat op
  obtain ⟨h1, h2⟩ := nms_ok (j := u % 17) (Nat.mod_lt _ (by decide))
  by_cases h0 : len = 0
  · have hz0 : zs = [] := List.length_eq_zero_iff.1 (by omega)
    subst hz0
    have hw : InOK w [⟨⟨b, off, cap, 1, undef⟩, false, []⟩] := fun x hx hl => by simp at hx; subst hx; cases hl
    subst h0
    exact in_call tab_is (args_spec op u hu _ rfl h1.2.2.2.1 h1 h2 [] [] (fun e he => by simp at he) (.slice 0 0 0 1) ⟨fun e => rfl, fun h => by simp at h⟩) (u := .bool true) rfl (I := [⟨⟨b, off, cap, 1, undef⟩, false, []⟩]) ⟨by simp, fun e he => by simp at he⟩
      (.cons (.int _ _) (.cons (.slice 0 0 0 cap off ⟨b, off, cap, 1, undef⟩ rfl (Nat.zero_add _) (Nat.zero_le _) (.inl (by simp)) rfl) (.nil _))) w hw
  · have hw : InOK w [⟨⟨b, off, cap, 1, undef⟩, true, zs.map (AV.int .i64)⟩] := by
      intro x hx hl
      simp at hx
      subst hx
      obtain ⟨c, e, fr, g1, _⟩ := cell_cells' (hc 0 (by omega))
      refine ⟨rfl, c, e, fr, g1, fun k v hv => ?_⟩
      rw [List.getElem?_map] at hv
      have hk : k < zs.length := by
        cases hzk : zs[k]? with
        | none => rw [hzk] at hv; cases hv
        | some y => exact (List.getElem?_eq_some_iff.1 hzk).1
      rw [List.getElem?_eq_getElem hk] at hv
      simp only [Option.map_some, Option.some.injEq] at hv
      subst hv
      refine ⟨rfl, _, ?_, .int _ _⟩
      have h3 := hc k (by omega)
      obtain ⟨c', e', fr', g2, g3⟩ := cell_cells' h3
      rw [g1] at g2
      cases g2
      rw [g3]
      simp [List.getD_eq_getElem?_getD, List.getElem?_eq_getElem hk]
    subst hz
    exact in_call tab_is (args_spec op u hu _ rfl h1.2.2.2.1 h1 h2 zs [⟨0, ⟨0, false, zs.map (AV.int .i64)⟩, false⟩] (fun e he => by simp at he; subst he; rfl) (.slice 0 0 zs.length 1) ⟨fun e => rfl, fun _ => ⟨0, rfl, ⟨false, List.mem_cons_self⟩⟩⟩) (u := .bool true) rfl
      (I := [⟨⟨b, off, cap, 1, undef⟩, true, zs.map (AV.int .i64)⟩]) ⟨by simp, fun e he => by simp at he; subst he; exact ⟨rfl, _, rfl, rfl, rfl⟩⟩
      (.cons (.int _ _) (.cons (.slice 0 0 zs.length cap off ⟨b, off, cap, 1, undef⟩ rfl (Nat.zero_add _) hle (.inl (by simp)) rfl) (.nil _))) w hw
/-- A slice that comes in is no map's spot, and is not longer than its room. -/
theorem slice_has {P : Program} {w : World} {base : Nat} {t e : TypeId} {a : Addr} {len cap : Nat} (hu : P.underlying t = some (.slice e)) (h : Value.okWide P w .any base t (.slice (some a) len cap)) : len ≤ cap ∧ a.spot = none := by
  simp only [Value.okWide, hu, Cell.okWide, Cell.ok] at h
  exact ⟨h.1, h.2.2.2.1⟩
end Go.Proofs.Ytnlnmbnopdklhaa.Ev
