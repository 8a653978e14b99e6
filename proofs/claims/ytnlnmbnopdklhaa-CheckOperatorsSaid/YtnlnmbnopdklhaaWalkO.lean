/- CheckOperators' walk: at any numbers the law's call returns true: by their residues, and the reckoned types. -/
import Derived.Test.YtnlnmbnopdklhaaObs
import Derived.Test.YtnlnmbnopdklhaaTypO0a
import Derived.Test.YtnlnmbnopdklhaaTypO0b
import Derived.Test.YtnlnmbnopdklhaaTypO1a
import Derived.Test.YtnlnmbnopdklhaaTypO1b
import Derived.Test.YtnlnmbnopdklhaaTypO2a
import Derived.Test.YtnlnmbnopdklhaaTypO2b
import Derived.Test.YtnlnmbnopdklhaaTypO3a
import Derived.Test.YtnlnmbnopdklhaaTypO3b
import Derived.Test.YtnlnmbnopdklhaaTypO4a
import Derived.Test.YtnlnmbnopdklhaaTypO4b
import Derived.Test.YtnlnmbnopdklhaaTypO5a
import Derived.Test.YtnlnmbnopdklhaaTypO5b
import Derived.Test.YtnlnmbnopdklhaaTypO6a
import Derived.Test.YtnlnmbnopdklhaaTypO6b
import Derived.Test.YtnlnmbnopdklhaaTypO7a
import Derived.Test.YtnlnmbnopdklhaaTypO7b
namespace Go.Proofs.Ytnlnmbnopdklhaa.Ev
open Go.RowKit
set_option maxRecDepth 1000000
set_option linter.unusedVariables false
set_option linter.unusedSimpArgs false
/-- A number of a residue: the given one, if it has it. -/
def pick (x : Int) (m : Nat) (i : Nat) : Int := if x % m = i then x else i
theorem pick_mod (x : Int) {m i : Nat} (h : i < m) : pick x m i % m = i := by
  unfold pick
  split
  · assumption
  · exact Int.emod_eq_of_lt (by omega) (by omega)
theorem pick_self {x : Int} {m i : Nat} (h : x % m = i) : pick x m i = x := by
  unfold pick
  rw [if_pos h]
theorem pick_nonneg {x : Int} (hx : 0 ≤ x) (m i : Nat) : 0 ≤ pick x m i := by
  unfold pick
  split
  · exact hx
  · omega
def lO (a b o : Int) : List Value :=
  (List.range 8).map (fun i => .int .i64 (pick a 8 i)) ++ ((List.range 8).map (fun i => .int .i64 (pick b 8 i)) ++
  ((List.range 14).map (fun i => .int .i64 (if IntKind.u64.wrap o % (14 : Nat) = i then o else i)) ++ (List.range 14).map (fun i => .int .u64 (pick (IntKind.u64.wrap o) 14 i))))
theorem lO_len (a b o : Int) : (lO a b o).length = 44 := by simp [lO]
theorem lO_a (a b o : Int) {i : Nat} (h : i < 8) : (lO a b o)[i]? = some (.int .i64 (pick a 8 i)) := by
  unfold lO
  rw [List.getElem?_append_left (by simp; omega)]
  simp [h]
theorem lO_b (a b o : Int) {i : Nat} (h : i < 8) : (lO a b o)[8 + i]? = some (.int .i64 (pick b 8 i)) := by
  unfold lO
  rw [List.getElem?_append_right (by simp), List.getElem?_append_left (by simp; omega)]
  simp [h]
theorem lO_o (a b o : Int) {i : Nat} (h : i < 14) : (lO a b o)[16 + i]? = some (.int .i64 (if IntKind.u64.wrap o % (14 : Nat) = i then o else i)) := by
  unfold lO
  rw [List.getElem?_append_right (by simp; omega), List.getElem?_append_right (by simp; omega), List.getElem?_append_left (by simp; omega)]
  have e : 16 + i - 8 - 8 = i := by omega
  simp [e, h]
theorem lO_u (a b o : Int) {i : Nat} (h : i < 14) : (lO a b o)[30 + i]? = some (.int .u64 (pick (IntKind.u64.wrap o) 14 i)) := by
  unfold lO
  rw [List.getElem?_append_right (by simp; omega), List.getElem?_append_right (by simp; omega), List.getElem?_append_right (by simp; omega)]
  have e : 30 + i - 8 - 8 - 14 = i := by omega
  simp [e, h]
def obO (op : BinOp) (b : Nat) (k : IntKind) (n : Int) : Option AV :=
  match op, k with
  | .and, .i64 => match eqA n 7, Nat.blt b 8, Nat.blt b 16 with
    | true, true, _ => some (.int .i64 (.ofNat b))
    | true, false, true => some (.int .i64 (.ofNat (b - 8)))
    | _, _, _ => none
  | .rem, .u64 => match eqA n 14, Nat.ble 30 b, Nat.blt b 44 with
    | true, true, true => some (.int .u64 (.ofNat (b - 30)))
    | _, _, _ => none
  | _, _ => none
def ocO (b : Nat) (k : IntKind) : Option AV :=
  match k, Nat.ble 16 b, Nat.blt b 30 with
  | .u64, true, true => some (.opq (b + 14))
  | _, _, _ => none
theorem wrap_nonneg (o : Int) : 0 ≤ IntKind.u64.wrap o := by
  have : IntKind.u64.wrap o = o % (2 ^ 64 : Int) := by simp [IntKind.wrap, IntKind.bits, IntKind.signed]
  rw [this]
  exact Int.emod_nonneg _ (by decide)
theorem and_seven {a : Int} {r : Nat} (h : a % (8 : Nat) = r) (M : Inj) (t : Nat) (w : World) :
    ∃ x, (binOp .and t (.int .i64 a) (.int .i64 7)).run Try.prog w = .ok x w ∧ VRel M (.int .i64 (.ofNat r)) x := by
  obtain ⟨y, h1, h2⟩ := intBin_ok (P := Try.prog) M (op := .and) (k := .i64) (a := a) (b := 7) t rfl w
  refine ⟨y, h1, ?_⟩
  unfold bitsA at h2
  rw [wrapA_eq] at h2
  have h3 : VRel M (.int .i64 (IntKind.i64.wrap ((BitVec.ofInt 64 a &&& BitVec.ofInt 64 ((2 ^ 3 - 1 : Nat) : Int)).toNat : Int))) y := h2
  rw [and_mask a 3 (by omega)] at h3
  have e : a % ((2 ^ 3 : Nat) : Int) = Int.ofNat r := h
  rw [e] at h3
  exact h3
theorem obO_ok (a b o : Int) : ∀ op c k n v, obO op c k n = some v → ∀ (M : Inj) (u : Value) (t : Nat) (w : World), (injOf (lO a b o)).le M → VRel M (.opq c) u →
    (∃ j a, u = .int j a) ∧ ∃ x, (binOp op t u (.int k n)).run Try.prog w = .ok x w ∧ VRel M v x := by
  intro op c k n v h M u t w hM hu
  unfold obO at h
  split at h
  · split at h
    · rename_i h1 h2
      rw [eqA_eq, beq_iff_eq] at h1
      subst h1
      have h2 : c < 8 := Nat.lt_of_lt_of_le (Nat.lt_of_succ_le (Nat.le_of_ble_eq_true h2)) (Nat.le_refl _)
      have he := opq_of hM (lO_a a b o h2) hu
      subst he
      simp only [Option.some.injEq] at h
      subst h
      exact ⟨⟨_, _, rfl⟩, and_seven (pick_mod a h2) M t w⟩
    · rename_i h1 h2 h3
      rw [eqA_eq, beq_iff_eq] at h1
      subst h1
      have h3 : c < 16 := Nat.lt_of_succ_le (Nat.le_of_ble_eq_true h3)
      have h2 : 8 ≤ c := by
        apply Nat.le_of_not_lt
        intro hc
        have : Nat.blt c 8 = true := Nat.ble_eq_true_of_le hc
        rw [this] at h2
        cases h2
      have he := opq_of hM (by have := lO_b a b o (i := c - 8) (by omega); rwa [show 8 + (c - 8) = c by omega] at this) hu
      subst he
      simp only [Option.some.injEq] at h
      subst h
      exact ⟨⟨_, _, rfl⟩, and_seven (pick_mod b (by omega)) M t w⟩
    · cases h
  · split at h
    · rename_i h1 h2 h3
      rw [eqA_eq, beq_iff_eq] at h1
      subst h1
      have h3 : c < 44 := Nat.lt_of_succ_le (Nat.le_of_ble_eq_true h3)
      have h2 : 30 ≤ c := Nat.le_of_ble_eq_true h2
      have he := opq_of hM (by have := lO_u a b o (i := c - 30) (by omega); rwa [show 30 + (c - 30) = c by omega] at this) hu
      subst he
      simp only [Option.some.injEq] at h
      subst h
      refine ⟨⟨_, _, rfl⟩, ?_⟩
      obtain ⟨y, h1, h2⟩ := intBin_ok (P := Try.prog) M (op := .rem) (k := .u64) (a := pick (IntKind.u64.wrap o) 14 (c - 30)) (b := 14) (v := .int .u64 ((pick (IntKind.u64.wrap o) 14 (c - 30)).tmod 14)) t rfl w
      refine ⟨y, h1, ?_⟩
      rw [Int.tmod_eq_emod_of_nonneg (pick_nonneg (wrap_nonneg o) _ _)] at h2
      have := pick_mod (IntKind.u64.wrap o) (m := 14) (i := c - 30) (by omega)
      have e : pick (IntKind.u64.wrap o) 14 (c - 30) % 14 = Int.ofNat (c - 30) := this
      rw [e] at h2
      exact h2
    · cases h
  · cases h
theorem ocO_ok (a b o : Int) : ∀ c k v, ocO c k = some v → ∀ (M : Inj) (u : Value), (injOf (lO a b o)).le M → VRel M (.opq c) u → ∃ j n, u = .int j n ∧ VRel M v (.int k (k.wrap n)) := by
  intro c k v h M u hM hu
  unfold ocO at h
  split at h
  · rename_i h2 h3
    have h3 : c < 30 := Nat.lt_of_succ_le (Nat.le_of_ble_eq_true h3)
    have h2 : 16 ≤ c := Nat.le_of_ble_eq_true h2
    have he := opq_of hM (by have := lO_o a b o (i := c - 16) (by omega); rwa [show 16 + (c - 16) = c by omega] at this) hu
    subst he
    simp only [Option.some.injEq] at h
    subst h
    refine ⟨_, _, rfl, ?_⟩
    have hu := lO_u a b o (i := c - 16) (by omega)
    have e : 30 + (c - 16) = c + 14 := by omega
    rw [e] at hu
    refine .opq (c + 14) ⟨0, 0, 0, 0, .int .u64 (pick (IntKind.u64.wrap o) 14 (c - 16))⟩ _ (hM _ _ (by simp only [injOf, hu])) ?_ rfl
    show Value.int .u64 _ = _
    congr 1
    unfold pick
    split
    · rfl
    · have : ((c - 16 : Nat) : Int) % (2 ^ 64 : Int) = ((c - 16 : Nat) : Int) := Int.emod_eq_of_lt (by omega) (by omega)
      simp only [IntKind.wrap, IntKind.bits, IntKind.signed, Bool.false_and, if_false, Bool.false_eq_true]
      exact this.symm
  · cases h
noncomputable def allB (l : List Nat) (p : Nat → Bool) : Bool := List.rec (motive := fun _ => Bool) true (fun x _ ih => Bool.rec (motive := fun _ => Bool) false ih (p x)) l
theorem allB_ok {p : Nat → Bool} : ∀ {l : List Nat}, allB l p = true → ∀ x ∈ l, p x = true
  | [], _, x, hx => by cases hx
  | y :: l, h, x, hx => by
    obtain ⟨h1, h2⟩ := boolrec (h : Bool.rec (motive := fun _ => Bool) false (allB l p) (p y) = true) (by simp)
    cases hx with
    | head => exact h1
    | tail _ hx => exact allB_ok h2 x hx
/-- The law at a number of the residue r: at all residues of the others. -/
noncomputable def lawO (tb : Tab) (r j k : Nat) (f : Bool) : Bool := givesQ (callQ tb (qFns tb Try.prog.funcs.toList) 2000 200 4 [.opq r, .opq (8 + j), .opq (16 + k), .bool f] ⟨44, .leaf⟩) (.bool true)
noncomputable def lawsO (tb : Tab) (r : Nat) : Bool :=
  allB [0, 1, 2, 3, 4, 5, 6, 7] fun j => allB [0, 1, 2, 3, 4, 5, 6, 7, 8, 9, 10, 11, 12, 13] fun k => Bool.rec (motive := fun _ => Bool) false (lawO tb r j k false) (lawO tb r j k true)
noncomputable def tabO (l : List (List Nat × Int × Int)) : Tab := tab.knows obO ocO (orc l)
theorem tabO_ok {l : List (List Nat × Int × Int)} (hl : ∀ x ∈ l, Known x.1 x.2.1 x.2.2) (a b o : Int) : TabOK Try.prog (tabO l) (injOf (lO a b o)) :=
  tab_knows (tab_is _) (obO_ok a b o) (ocO_ok a b o) (orcK_ok hl)
theorem opers_at {l : List (List Nat × Int × Int)} (hl : ∀ x ∈ l, Known x.1 x.2.1 x.2.2) {r : Nat} (hr : r < 8) (h : lawsO (tabO l) r = true) {a b o : Int} (ha : a % (8 : Nat) = r) (f : Bool) (w : World) :
    Calls Try.prog 4 #[.int .i64 a, .int .i64 b, .int .i64 o, .bool f] w fun e w' => e = .returned (.bool true) ∧ Below w.heap.size w w' := by
  obtain ⟨j, hj⟩ : ∃ j : Nat, b % (8 : Nat) = j := ⟨(b % (8 : Nat)).toNat, (Int.toNat_of_nonneg (Int.emod_nonneg _ (by decide))).symm⟩
  obtain ⟨k, hk⟩ : ∃ k : Nat, IntKind.u64.wrap o % (14 : Nat) = k := ⟨(IntKind.u64.wrap o % (14 : Nat)).toNat, (Int.toNat_of_nonneg (Int.emod_nonneg _ (by decide))).symm⟩
  have hj8 : j < 8 := by have := Int.emod_lt_of_pos b (b := ((8 : Nat) : Int)) (by decide); omega
  have hk14 : k < 14 := by have := Int.emod_lt_of_pos (IntKind.u64.wrap o) (b := ((14 : Nat) : Int)) (by decide); omega
  have h1 := allB_ok h j (by simp; omega)
  have h2 := allB_ok h1 k (by simp; omega)
  obtain ⟨ht, hf⟩ := boolrec h2 (by simp)
  have hh : lawO (tabO l) r j k f = true := by cases f <;> assumption
  have hargs : LRel (injOf (lO a b o)) [.opq r, .opq (8 + j), .opq (16 + k), .bool f] (#[.int .i64 a, .int .i64 b, .int .i64 o, .bool f] : Array Value).toList := by
    refine .cons (opq_mk ?_ rfl) (.cons (opq_mk ?_ rfl) (.cons (opq_mk ?_ rfl) (.cons (.bool f) (.nil _))))
    · rw [lO_a a b o hr, pick_self ha]
    · rw [lO_b a b o hj8, pick_self hj]
    · rw [lO_o a b o hk14, if_pos hk]
  have hq : givesQ (callQ (tabO l) (qFns (tabO l) Try.prog.funcs.toList) 2000 200 4 [.opq r, .opq (8 + j), .opq (16 + k), .bool f] ⟨(lO a b o).length, .leaf⟩) (.bool true) = true := by
    rw [lO_len]
    exact hh
  exact quick_call (tabO_ok hl a b o) (qFns_ok (tabO l) _ rfl) (v := .bool true) rfl hq hargs w
noncomputable def opsT0 : List (List Nat × Int × Int) := typL_all ++ (typO0a_0 ++ (typO0a_1 ++ (typO0a_2 ++ (typO0a_3 ++ (typO0a_4 ++ (typO0b_0 ++ (typO0b_1 ++ (typO0b_2 ++ (typO0b_3 ++ (typO0b_4))))))))))
theorem opsT0_ok : ∀ x ∈ opsT0, Known x.1 x.2.1 x.2.2 := by
  intro x hx
  rcases List.mem_append.1 hx with h | h
  · exact known_slow (typL_ok x h)
  · refine (List.mem_append.1 (by simpa only [List.append_assoc] using h : x ∈ (typO0a_0 ++ (typO0a_1 ++ (typO0a_2 ++ (typO0a_3 ++ typO0a_4)))) ++ (typO0b_0 ++ (typO0b_1 ++ (typO0b_2 ++ (typO0b_3 ++ typO0b_4)))))).elim (typO0a_ok x) (typO0b_ok x)
theorem opers_ev0 : lawsO (tabO opsT0) 0 = true := by kernel_rfl
noncomputable def opsT1 : List (List Nat × Int × Int) := typL_all ++ (typO1a_0 ++ (typO1a_1 ++ (typO1a_2 ++ (typO1a_3 ++ (typO1a_4 ++ (typO1b_0 ++ (typO1b_1 ++ (typO1b_2 ++ (typO1b_3 ++ (typO1b_4))))))))))
theorem opsT1_ok : ∀ x ∈ opsT1, Known x.1 x.2.1 x.2.2 := by
  intro x hx
  rcases List.mem_append.1 hx with h | h
  · exact known_slow (typL_ok x h)
  · refine (List.mem_append.1 (by simpa only [List.append_assoc] using h : x ∈ (typO1a_0 ++ (typO1a_1 ++ (typO1a_2 ++ (typO1a_3 ++ typO1a_4)))) ++ (typO1b_0 ++ (typO1b_1 ++ (typO1b_2 ++ (typO1b_3 ++ typO1b_4)))))).elim (typO1a_ok x) (typO1b_ok x)
theorem opers_ev1 : lawsO (tabO opsT1) 1 = true := by kernel_rfl
noncomputable def opsT2 : List (List Nat × Int × Int) := typL_all ++ (typO2a_0 ++ (typO2a_1 ++ (typO2a_2 ++ (typO2a_3 ++ (typO2a_4 ++ (typO2b_0 ++ (typO2b_1 ++ (typO2b_2 ++ (typO2b_3 ++ (typO2b_4))))))))))
theorem opsT2_ok : ∀ x ∈ opsT2, Known x.1 x.2.1 x.2.2 := by
  intro x hx
  rcases List.mem_append.1 hx with h | h
  · exact known_slow (typL_ok x h)
  · refine (List.mem_append.1 (by simpa only [List.append_assoc] using h : x ∈ (typO2a_0 ++ (typO2a_1 ++ (typO2a_2 ++ (typO2a_3 ++ typO2a_4)))) ++ (typO2b_0 ++ (typO2b_1 ++ (typO2b_2 ++ (typO2b_3 ++ typO2b_4)))))).elim (typO2a_ok x) (typO2b_ok x)
theorem opers_ev2 : lawsO (tabO opsT2) 2 = true := by kernel_rfl
noncomputable def opsT3 : List (List Nat × Int × Int) := typL_all ++ (typO3a_0 ++ (typO3a_1 ++ (typO3a_2 ++ (typO3a_3 ++ (typO3a_4 ++ (typO3b_0 ++ (typO3b_1 ++ (typO3b_2 ++ (typO3b_3 ++ (typO3b_4))))))))))
theorem opsT3_ok : ∀ x ∈ opsT3, Known x.1 x.2.1 x.2.2 := by
  intro x hx
  rcases List.mem_append.1 hx with h | h
  · exact known_slow (typL_ok x h)
  · refine (List.mem_append.1 (by simpa only [List.append_assoc] using h : x ∈ (typO3a_0 ++ (typO3a_1 ++ (typO3a_2 ++ (typO3a_3 ++ typO3a_4)))) ++ (typO3b_0 ++ (typO3b_1 ++ (typO3b_2 ++ (typO3b_3 ++ typO3b_4)))))).elim (typO3a_ok x) (typO3b_ok x)
theorem opers_ev3 : lawsO (tabO opsT3) 3 = true := by kernel_rfl
noncomputable def opsT4 : List (List Nat × Int × Int) := typL_all ++ (typO4a_0 ++ (typO4a_1 ++ (typO4a_2 ++ (typO4a_3 ++ (typO4a_4 ++ (typO4b_0 ++ (typO4b_1 ++ (typO4b_2 ++ (typO4b_3 ++ (typO4b_4))))))))))
theorem opsT4_ok : ∀ x ∈ opsT4, Known x.1 x.2.1 x.2.2 := by
  intro x hx
  rcases List.mem_append.1 hx with h | h
  · exact known_slow (typL_ok x h)
  · refine (List.mem_append.1 (by simpa only [List.append_assoc] using h : x ∈ (typO4a_0 ++ (typO4a_1 ++ (typO4a_2 ++ (typO4a_3 ++ typO4a_4)))) ++ (typO4b_0 ++ (typO4b_1 ++ (typO4b_2 ++ (typO4b_3 ++ typO4b_4)))))).elim (typO4a_ok x) (typO4b_ok x)
theorem opers_ev4 : lawsO (tabO opsT4) 4 = true := by kernel_rfl
noncomputable def opsT5 : List (List Nat × Int × Int) := typL_all ++ (typO5a_0 ++ (typO5a_1 ++ (typO5a_2 ++ (typO5a_3 ++ (typO5a_4 ++ (typO5b_0 ++ (typO5b_1 ++ (typO5b_2 ++ (typO5b_3 ++ (typO5b_4))))))))))
theorem opsT5_ok : ∀ x ∈ opsT5, Known x.1 x.2.1 x.2.2 := by
  intro x hx
  rcases List.mem_append.1 hx with h | h
  · exact known_slow (typL_ok x h)
  · refine (List.mem_append.1 (by simpa only [List.append_assoc] using h : x ∈ (typO5a_0 ++ (typO5a_1 ++ (typO5a_2 ++ (typO5a_3 ++ typO5a_4)))) ++ (typO5b_0 ++ (typO5b_1 ++ (typO5b_2 ++ (typO5b_3 ++ typO5b_4)))))).elim (typO5a_ok x) (typO5b_ok x)
theorem opers_ev5 : lawsO (tabO opsT5) 5 = true := by kernel_rfl
noncomputable def opsT6 : List (List Nat × Int × Int) := typL_all ++ (typO6a_0 ++ (typO6a_1 ++ (typO6a_2 ++ (typO6a_3 ++ (typO6a_4 ++ (typO6b_0 ++ (typO6b_1 ++ (typO6b_2 ++ (typO6b_3 ++ (typO6b_4))))))))))
theorem opsT6_ok : ∀ x ∈ opsT6, Known x.1 x.2.1 x.2.2 := by
  intro x hx
  rcases List.mem_append.1 hx with h | h
  · exact known_slow (typL_ok x h)
  · refine (List.mem_append.1 (by simpa only [List.append_assoc] using h : x ∈ (typO6a_0 ++ (typO6a_1 ++ (typO6a_2 ++ (typO6a_3 ++ typO6a_4)))) ++ (typO6b_0 ++ (typO6b_1 ++ (typO6b_2 ++ (typO6b_3 ++ typO6b_4)))))).elim (typO6a_ok x) (typO6b_ok x)
theorem opers_ev6 : lawsO (tabO opsT6) 6 = true := by kernel_rfl
noncomputable def opsT7 : List (List Nat × Int × Int) := typL_all ++ (typO7a_0 ++ (typO7a_1 ++ (typO7a_2 ++ (typO7a_3 ++ (typO7a_4 ++ (typO7b_0 ++ (typO7b_1 ++ (typO7b_2 ++ (typO7b_3 ++ (typO7b_4))))))))))
theorem opsT7_ok : ∀ x ∈ opsT7, Known x.1 x.2.1 x.2.2 := by
  intro x hx
  rcases List.mem_append.1 hx with h | h
  · exact known_slow (typL_ok x h)
  · refine (List.mem_append.1 (by simpa only [List.append_assoc] using h : x ∈ (typO7a_0 ++ (typO7a_1 ++ (typO7a_2 ++ (typO7a_3 ++ typO7a_4)))) ++ (typO7b_0 ++ (typO7b_1 ++ (typO7b_2 ++ (typO7b_3 ++ typO7b_4)))))).elim (typO7a_ok x) (typO7b_ok x)
theorem opers_ev7 : lawsO (tabO opsT7) 7 = true := by kernel_rfl
theorem opers_walk (a b o : Int) (f : Bool) (w : World) : Calls Try.prog 4 #[.int .i64 a, .int .i64 b, .int .i64 o, .bool f] w fun e w' => e = .returned (.bool true) ∧ Below w.heap.size w w' := by
  have hr : a % (8 : Nat) = (0 : Nat) ∨ a % (8 : Nat) = (1 : Nat) ∨ a % (8 : Nat) = (2 : Nat) ∨ a % (8 : Nat) = (3 : Nat) ∨ a % (8 : Nat) = (4 : Nat) ∨ a % (8 : Nat) = (5 : Nat) ∨ a % (8 : Nat) = (6 : Nat) ∨ a % (8 : Nat) = (7 : Nat) := by omega
  rcases hr with h | h | h | h | h | h | h | h
  · exact opers_at opsT0_ok (by decide) opers_ev0 h f w
  · exact opers_at opsT1_ok (by decide) opers_ev1 h f w
  · exact opers_at opsT2_ok (by decide) opers_ev2 h f w
  · exact opers_at opsT3_ok (by decide) opers_ev3 h f w
  · exact opers_at opsT4_ok (by decide) opers_ev4 h f w
  · exact opers_at opsT5_ok (by decide) opers_ev5 h f w
  · exact opers_at opsT6_ok (by decide) opers_ev6 h f w
  · exact opers_at opsT7_ok (by decide) opers_ev7 h f w
end Go.Proofs.Ytnlnmbnopdklhaa.Ev
