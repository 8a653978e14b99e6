/- An evaluator of closed calls, part 10: regions. -/
import Derived.Test.YtfkbfnpjggkdmaaGreatDoorNEvI
import Derived.Orders
namespace Go.Proofs.YtfkbfnpjggkdmaaGreatDoor.Ev
open Go.RowKit
variable {J : Ctx}
set_option linter.unusedVariables false
set_option linter.unusedSimpArgs false

theorem beqz_ok (a b : AV) (h : beqz a b = true) : a = b := by
  unfold beqz at h
  split at h <;> simp_all
theorem beqL_ok {f : AV → AV → Bool} (hf : ∀ a b, f a b = true → a = b) : ∀ (l m : List AV), beqL f l m = true → l = m
  | [], [], _ => rfl
  | [], _ :: _, h => by simp [beqL] at h
  | _ :: _, [], h => by simp [beqL] at h
  | a :: l, b :: m, h => by
    simp only [beqL, Bool.and_eq_true] at h
    rw [hf a b h.1, beqL_ok hf l m h.2]
theorem beq0_ok (a b : AV) (h : beq0 a b = true) : a = b := by
  unfold beq0 at h
  split at h
  · simp only [Bool.and_eq_true, beq_iff_eq] at h
    rw [h.1, beqL_ok beqz_ok _ _ h.2]
  · exact beqz_ok _ _ h
theorem beq1_ok (a b : AV) (h : beq1 a b = true) : a = b := by
  unfold beq1 at h
  split at h
  · rw [beqL_ok beq0_ok _ _ h]
  · exact beq0_ok _ _ h
theorem beq_ok (a b : AV) (h : AV.beq a b = true) : a = b := by
  unfold AV.beq at h
  split at h
  · rw [beqL_ok beq1_ok _ _ h]
  · exact beq1_ok _ _ h

section slots
variable {P : Program} {tb : Tab} {M : Inj} {tm tm' : T AV} {a : Act} {n : Nat}

theorem put_size (a : Act) (d : Option Tmp) (u : Value) : (a.put d u).tmps.size = a.tmps.size := by
  cases d <;> simp [Act.put]
theorem put_def (a : Act) (d : Option Tmp) (u : Value) : (a.put d u).defers = a.defers := by
  cases d <;> simp [Act.put]
theorem put_getD (a : Act) (d : Option Tmp) (u : Value) (t : Nat) (ht : ∀ x, d = some x → x < a.tmps.size) :
    (a.put d u).tmps.getD t undef = if d = some t then u else a.tmps.getD t undef := by
  cases d with
  | none => simp [Act.put]
  | some x =>
    by_cases h : x = t
    · subst h
      have := ht x rfl
      simp [Act.put, this]
    · simp [Act.put, h, Array.getElem?_setIfInBounds_ne h]
theorem putDst_some {d : Option Nat} {v : AV} (h : putDst tm n d v = some tm') : (∀ x, d = some x → x < n) ∧ ∀ t, tm'.get t = if d = some t then some v else tm.get t := by
  unfold putDst at h
  split at h
  · simp only [Option.some.injEq] at h
    subst h
    exact ⟨fun x hx => (by cases hx), fun t => (by simp)⟩
  · rename_i x
    split at h
    · rename_i hb
      simp only [Option.some.injEq] at h
      subst h
      rw [Nat.blt_eq] at hb
      refine ⟨fun y hy => (by cases hy; exact hb), fun t => ?_⟩
      rw [T.get_set]
      by_cases ht : t = x
      · subst ht; simp
      · have : ¬ x = t := fun e => ht e.symm
        simp [ht, this]
    · cases h
theorem TRel.put {M' : Inj} (hM : M.le M') (ht : TRel M tm a) (hs : a.tmps.size = n) {d : Option Nat} {v : AV} {u : Value} (h : putDst tm n d v = some tm') (hv : VRel M' v u) : TRel M' tm' (a.put d u) := by
  obtain ⟨h1, h2⟩ := putDst_some h
  intro t x hx
  rw [put_getD a d u t (fun x hx => by rw [hs]; exact h1 x hx)]
  rw [h2] at hx
  split at hx
  · rename_i he
    rw [if_pos he]
    cases hx
    exact hv
  · rename_i he
    rw [if_neg he]
    exact (ht t x hx).mono hM

theorem wanted_ok {ops : Array Oper} (ht : TRel M tm a) {o : Oper} {b : Bool} (h : wantedA ops.toList tm o = some b) : Region.wanted o (yielded ops a.tmps) = b := by
  unfold wantedA at h
  unfold Region.wanted
  split at h
  · rename_i hg
    rw [hg]
    simpa using h
  · rename_i j want hg
    rw [hg]
    simp only
    split at h
    · rename_i oj hoj
      have hoj' : ops[j]? = some oj := by simpa using hoj
      split at h
      · rename_i d hd
        split at h
        · rename_i x hx
          simp only [Option.some.injEq] at h
          subst h
          have hr := bool_iff (ht d _ hx)
          have : a.tmps[d]? = some (.bool x) := by
            cases hq : a.tmps[d]? with
            | none => simp [hq, undef] at hr
            | some y => simp [hq] at hr; rw [hr]
          simp only [yielded, hoj', Option.bind_some, hd, this]
          cases x <;> cases want <;> rfl
        · rename_i hx
          simp only [Option.some.injEq] at h
          subst h
          obtain ⟨cs, hr, _⟩ := tuple_iff (ht d _ hx)
          have : yielded ops a.tmps j = none := by
            simp only [yielded, hoj', Option.bind_some, hd]
            cases hq : a.tmps[d]? with
            | none => rfl
            | some y => simp [hq] at hr; subst hr; rfl
          rw [this]
          cases want <;> rfl
        · cases h
      · cases h
    · cases h
end slots

section one
variable {P : Program} {tb : Tab} (H : TabOK P tb J) {M : Inj} {N : Nat → Prop} {w0 : Base J} {tm : T AV} {h : AHeap} {a : Act} {w : World} {n : Nat}
  {call : Nat → List AV → AHeap → Option (AV × AHeap)} (hcall : CallOK P J call)
include H hcall

/-- One operation, wanted or not. -/
theorem ev1_ok {ops : Array Oper} {Q : Exit → Act → World → Prop} (ht : TRel M tm a) (hh : HRel M N w0 h w) {i : Nat} {o : Oper} (ho : ops[i]? = some o) {v : AV} {h' : AHeap} {k : Nat}
    (he : ev1 tb call ops.toList tm h o = some (v, h', k)) {K : Act → World → Prop}
    (hn : ∀ M' u w', M.le M' → HRel M' N w0 h' w' → VRel M' v u → K (a.put o.dst u) w') : wpOp P ops Q i K a w := by
  unfold ev1 at he
  unfold wpOp
  simp only [ho]
  split at he
  · rename_i hw
    rw [wanted_ok ht hw, if_pos rfl]
    refine .inl ?_
    split at he
    · rename_i v' h'' hq
      simp only [Option.some.injEq, Prod.mk.injEq] at he
      obtain ⟨rfl, rfl, rfl⟩ := he
      exact loud_ok H ht hh hcall hq hn
    · rename_i v' hq
      simp only [Option.some.injEq, Prod.mk.injEq] at he
      obtain ⟨rfl, rfl, rfl⟩ := he
      obtain ⟨u, h1, h2⟩ := quiet_ok H ht hh hq
      unfold Oper.wp
      rw [h1, Oper.upon_value]
      exact hn M u w (Inj.le_refl M) hh h2
    · cases he
  · rename_i hw
    rw [wanted_ok ht hw]
    simp only [Bool.false_eq_true, if_false]
    simp only [Option.some.injEq, Prod.mk.injEq] at he
    obtain ⟨rfl, rfl, rfl⟩ := he
    exact hn M undef w (Inj.le_refl M) hh (.tuple [] #[] rfl (fun i v u p => by simp at p))
  · cases he

end one
end Go.Proofs.YtfkbfnpjggkdmaaGreatDoor.Ev
