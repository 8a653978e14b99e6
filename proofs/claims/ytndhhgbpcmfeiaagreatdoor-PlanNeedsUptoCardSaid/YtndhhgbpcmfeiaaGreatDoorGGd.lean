/- Rows that are made of one thing. -/
import Derived.Test.YtndhhgbpcmfeiaaGreatDoorGGc
namespace Go.Proofs.YtndhhgbpcmfeiaaGreatDoor.Ev
open Go.RowKit
set_option linter.unusedVariables false
set_option linter.unusedSimpArgs false
/-- What a new row of a type is made of. -/
noncomputable def MS (tb : Tab) (t : Nat) : Option (Nat × List AV) :=
  match tb.und t with
  | some (.slice e) => match tb.tt.get e, tb.zero e with
    | some ti, some z => match Nat.ble ti.bytes 4096 && Nat.beq z.cells.length ti.size && Nat.blt 0 ti.size with
      | true => some (ti.size, z.cells)
      | false => none
    | _, _ => none
  | _ => none
section
variable {tb : Tab} {n : Nat} {E : Env} {s : St} {hs : HSt} {R : T AV → AHeap → Prop} {ops rest : List Oper} {d : Nat} {t : TypeId} {ty : TypeId} {pos : String} {aft : Array Edge}
theorem WO.mslice {ol oc : Operand} {m sz : Nat} {zc cs : List AV} (hM : MS tb t = some (sz, zc)) (hl : oL s ol = some (.int .i64 ((m : Nat) : Int))) (hc : oL s oc = some (.int .i64 ((m : Nat) : Int))) (hm : m ≤ 1073741824) (hr : repl m zc = cs) (hd : Nat.blt d n = true)
    (hk : ∀ b, WO tb n ops rest E ((d, .slice b 0 m sz) :: s) (⟨b, ⟨sz, true, cs⟩, true⟩ :: hs) R) :
    WO tb n ops (⟨some d, .makeSlice t ol oc, ty, pos, aft, none⟩ :: rest) E s hs R := by
  refine WO.l (s' := s) fun tm h ht hh => ?_
  refine ⟨.slice h.next 0 m sz, ⟨h.next + 1, h.objs.set h.next ⟨sz, true, cs⟩⟩, tm.set d (.slice h.next 0 m sz), ?_, putDst_at hd, hk h.next _ _ (ht.set d _) (hh.new _)⟩
  show Res.l (evMakeSlice tb tm h t ol oc) = _
  unfold MS at hM
  split at hM
  rotate_left
  · cases hM
  rename_i e hu
  split at hM
  rotate_left
  · cases hM
  rename_i ti z h1 h2
  split at hM
  rotate_left
  · cases hM
  rename_i hb
  simp only [Option.some.injEq, Prod.mk.injEq] at hM
  obtain ⟨rfl, rfl⟩ := hM
  simp only [Bool.and_eq_true] at hb
  have e1 : natOf (some (AV.int .i64 ((m : Nat) : Int))) = some m := rfl
  have e2 : Nat.ble m 1073741824 = true := Nat.ble_eq.mpr hm
  have e3 : Nat.ble m m = true := Nat.ble_eq.mpr (Nat.le_refl m)
  unfold evMakeSlice
  simp only [hu, oL_ok ht hl, oL_ok ht hc, e1, h1, h2, hb.1.1, hb.1.2, hb.2, e2, e3, Bool.and_self, hr]
end
/-- Rows of truths and of numbers, as functions of a place. -/
def cB (g : Nat → Bool) (n : Nat) : List AV := (List.range n).map fun j => AV.bool (g j)
def cN (g : Nat → Int) (n : Nat) : List AV := (List.range n).map fun j => AV.int .i64 (g j)
theorem repl_map {v : AV} : ∀ n : Nat, repl n [v] = (List.range n).map fun _ => v
  | 0 => rfl
  | n + 1 => by rw [List.range_succ_eq_map, List.map_cons, List.map_map]; exact congrArg (v :: ·) (repl_map n)
theorem repl_b (n : Nat) : repl n [.bool false] = cB (fun _ => false) n := repl_map n
theorem repl_n (n : Nat) : repl n [.int .i64 0] = cN (fun _ => 0) n := repl_map n
section
variable {g : Nat → Bool} {f : Nat → Int} {n j : Nat} {b : Bool} {x : Int}
theorem cB_len : (cB g n).length = n := by simp [cB]
theorem cN_len : (cN f n).length = n := by simp [cN]
theorem cB_at (h : j < n) : (cB g n)[(0 + j) * 1]? = some (.bool (g j)) := by
  rw [Nat.zero_add, Nat.mul_one, cB, List.getElem?_map, List.getElem?_range h]; rfl
theorem cN_at (h : j < n) : (cN f n)[(0 + j) * 1]? = some (.int .i64 (f j)) := by
  rw [Nat.zero_add, Nat.mul_one, cN, List.getElem?_map, List.getElem?_range h]; rfl
theorem cB_le (h : j < n) : Nat.ble ((0 + j) * 1 + 1) (cB g n).length = true := Nat.ble_eq.mpr (by rw [cB_len]; omega)
theorem cN_le (h : j < n) : Nat.ble ((0 + j) * 1 + 1) (cN f n).length = true := Nat.ble_eq.mpr (by rw [cN_len]; omega)
theorem cB_lay (h : j < n) : layL (cB g n) ((0 + j) * 1) (AV.bool b).cells = cB (fun k => if k = j then b else g k) n := by
  rw [Nat.zero_add, Nat.mul_one, cells_cell rfl, lay_set _ _ _ (by rw [cB_len]; exact h)]
  apply List.ext_getElem?
  intro k
  rw [List.getElem?_set]
  unfold cB
  by_cases hk : k < n
  · by_cases e : j = k
    · subst e; simp [h]
    · have e' : ¬ k = j := fun q => e q.symm
      simp [hk, e, e']
  · rw [List.getElem?_eq_none (by simp; omega), List.getElem?_eq_none (by simp; omega)]
    simp; omega
theorem cN_lay (h : j < n) : layL (cN f n) ((0 + j) * 1) (AV.int .i64 x).cells = cN (fun k => if k = j then x else f k) n := by
  rw [Nat.zero_add, Nat.mul_one, cells_cell rfl, lay_set _ _ _ (by rw [cN_len]; exact h)]
  apply List.ext_getElem?
  intro k
  rw [List.getElem?_set]
  unfold cN
  by_cases hk : k < n
  · by_cases e : j = k
    · subst e; simp [h]
    · have e' : ¬ k = j := fun q => e q.symm
      simp [hk, e, e']
  · rw [List.getElem?_eq_none (by simp; omega), List.getElem?_eq_none (by simp; omega)]
    simp; omega
theorem cB_congr {g' : Nat → Bool} (h : ∀ j, j < n → g j = g' j) : cB g n = cB g' n := List.map_congr_left fun j hj => by rw [h j (List.mem_range.1 hj)]
theorem cN_congr {f' : Nat → Int} (h : ∀ j, j < n → f j = f' j) : cN f n = cN f' n := List.map_congr_left fun j hj => by rw [h j (List.mem_range.1 hj)]
theorem cN_row : cN f n = cA ((List.range n).map f) := by unfold cN cA; rw [List.map_map]; rfl
theorem ai_map (h : j < n) : ai ((List.range n).map f) j = f j := by
  unfold ai
  rw [List.getD_eq_getElem?_getD, List.getElem?_map, List.getElem?_range h]; rfl
end
end Go.Proofs.YtndhhgbpcmfeiaaGreatDoor.Ev
