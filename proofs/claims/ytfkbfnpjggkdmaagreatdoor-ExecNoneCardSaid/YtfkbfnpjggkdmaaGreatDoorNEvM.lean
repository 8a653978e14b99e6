/- An evaluator of closed calls, part 13: code and calls. -/
import Derived.Test.YtfkbfnpjggkdmaaGreatDoorNEvL
namespace Go.Proofs.YtfkbfnpjggkdmaaGreatDoor.Ev
open Go.RowKit
variable {J : Ctx}
set_option linter.unusedVariables false
set_option linter.unusedSimpArgs false

def exOf : Ex → Exit
  | .normal => .normal
  | .exit i => .exit i
  | .ret => .ret

theorem least {p : Nat → Prop} (h : ∃ k, p k) : ∃ k, p k ∧ ∀ m, p m → k ≤ m := by
  obtain ⟨k, hk⟩ := h
  induction k using Nat.strongRecOn with
  | _ k ih =>
    by_cases hm : ∃ m, m < k ∧ p m
    · obtain ⟨m, h1, h2⟩ := hm
      exact ih m h1 h2
    · refine ⟨k, hk, fun m hpm => ?_⟩
      rcases Nat.lt_or_ge m k with h | h
      · exact absurd ⟨m, h, hpm⟩ hm
      · exact h

noncomputable def mu (p : Nat → Prop) : Nat := Classical.epsilon fun k => p k ∧ ∀ m, p m → k ≤ m
theorem mu_spec {p : Nat → Prop} (h : ∃ j, p j) : p (mu p) ∧ ∀ m, p m → mu p ≤ m := Classical.epsilon_spec (least h)

section runs
variable {P : Program} {tb : Tab}

/-- What so much fuel gives, holds. -/
def Sound (P : Program) (J : Ctx) (tb : Tab) (k : Nat) : Prop :=
  ∀ (n : Nat) (c : Code) (tm : T AV) (h : AHeap) (ex : Ex) (tm' : T AV) (h' : AHeap) (M : Inj) (N : Nat → Prop) (w0 : Base J) (a : Act) (w : World) (Q : Exit → Act → World → Prop),
    run tb k n c tm h = some (ex, tm', h') → TRel M tm a → a.tmps.size = n → a.defers = [] → HRel M N w0 h w →
    (∀ M' a' w', M.le M' → TRel M' tm' a' → a'.tmps.size = n → a'.defers = [] → HRel M' N w0 h' w' → Q (exOf ex) a' w') → c.wp P Q a w

theorem args_get : ∀ (l : List AV) (i : Nat) (tm : T AV) (t : Nat), (argTmps i l tm).get t = if i ≤ t ∧ t < i + l.length then l[t - i]? else tm.get t
  | [], i, tm, t => by simp [argTmps]; intro h1 h2; omega
  | v :: l, i, tm, t => by
    simp only [argTmps, args_get l (i + 1), T.get_set, List.length_cons]
    by_cases h : t = i
    · subst h
      have a1 : ¬ (t + 1 ≤ t ∧ t < t + 1 + l.length) := by omega
      have a2 : t ≤ t ∧ t < t + (l.length + 1) := by omega
      rw [if_neg a1, if_pos a2]
      simp
    · by_cases h2 : i + 1 ≤ t ∧ t < i + 1 + l.length
      · have a2 : i ≤ t ∧ t < i + (l.length + 1) := by omega
        rw [if_pos h2, if_pos a2]
        have e : t - i = (t - (i + 1)) + 1 := by omega
        rw [e, List.getElem?_cons_succ]
      · have a2 : ¬ (i ≤ t ∧ t < i + (l.length + 1)) := by omega
        rw [if_neg h2, if_neg a2, if_neg h]

theorem results_ok (H : TabOK P tb J) {M : Inj} {N : Nat → Prop} {w0 : Base J} {tm : T AV} {h : AHeap} {a : Act} {w : World} (ht : TRel M tm a) (hh : HRel M N w0 h w) :
    ∀ {rs : List ResultVar} {l : List AV}, resultsA tb tm h rs = some l → ∃ vs : List Value, (rs.mapM fun
      | .tmp t => pure (a.tmps.getD t undef)
      | .cell x t => do loadVar t (← asAddr (a.tmps.getD x undef)) : Sem (List Value)).run P w = .ok vs w ∧ LRel M l vs
  | [], l, he => by
    simp only [resultsA, Option.some.injEq] at he
    subst he
    exact ⟨[], by simp, .nil M⟩
  | r :: rs, l, he => by
    unfold resultsA at he
    split at he
    · rename_i v hv
      split at he
      · rename_i m hm
        simp only [Option.some.injEq] at he
        subst he
        obtain ⟨vs, h1, h2⟩ := results_ok H ht hh hm
        have key : ∃ u, ((fun
            | .tmp t => pure (a.tmps.getD t undef)
            | .cell x t => do loadVar t (← asAddr (a.tmps.getD x undef)) : ResultVar → Sem Value) r).run P w = .ok u w ∧ VRel M v u := by
          unfold resultA at hv
          split at hv
          · exact ⟨_, rfl, ht _ _ hv⟩
          · split at hv
            · rename_i b o hp
              obtain ⟨i, hi, he⟩ := ptr_iff (ht _ _ hp)
              obtain ⟨u, h3, h4⟩ := load_ok H hh hv hi (ptr_val (ht _ _ hp) hi)
              refine ⟨u, ?_, h4⟩
              simp only [he, asAddr, Sem.run_bind, Sem.run_pure, Result.andThen_ok, h3]
            · cases hv
        obtain ⟨u, h3, h4⟩ := key
        refine ⟨u :: vs, ?_, .cons h4 h2⟩
        simp only [List.mapM_cons, Sem.run_bind]
        rw [h3]
        simp only [Result.andThen_ok, h1, Sem.run_pure]
      · cases he
    · cases he

/-- Values that are not looked into, by their numbers. -/
def injOf (l : List Value) : Inj := fun b => match l[b]? with
  | some v => some ⟨0, 0, 0, 0, v⟩
  | none => none
/-- A call: its own blocks apart, all is as it was. -/
def ctxOf (l : List Value) : Ctx := ⟨injOf l, fun _ => True⟩
end runs

/-- The tables of a program. -/
theorem tab_ok {P : Program} (hn : (P.funcs.toList.all fun f => !(f.body.isSome) || !(f.name == "runtime.NumGoroutine")) = true) (hm : P.follows .mixedOrders = true) : TabOK P (tabOf P) J := by
  refine ⟨fun t x hx => ?_, fun f fn hf => ?_, fun t ht => ?_, fun f fn hf hb => ?_, hm, (fun _ _ _ _ _ h => by cases h), (fun _ _ _ h => by cases h), (fun _ _ _ _ h => by cases h)⟩
  · simp only [tabOf, T.get_ofList, T.get_leaf, Nat.zero_le, true_and, Nat.zero_add, Nat.sub_zero] at hx
    split at hx
    · have hx' : P.types[t]? = some x := by simpa using hx
      have hlt : t < P.types.size := (Array.getElem?_eq_some_iff.1 hx').1
      show P.toTables.info? t = some x
      unfold Tables.info?
      rw [if_pos hlt]
      exact hx'
    · cases hx
  · simp only [tabOf, T.get_ofList, T.get_leaf, Nat.zero_le, true_and, Nat.zero_add, Nat.sub_zero] at hf
    split at hf
    · simpa using hf
    · cases hf
  · simp only [tabOf, T.get_ofList, T.get_leaf, Nat.zero_le, true_and, Nat.zero_add, Nat.sub_zero] at ht
    split at ht
    · rename_i hlt
      simp only [List.length_map, List.length_range] at hlt
      simp only [List.getElem?_map, List.getElem?_range hlt, Option.map_some, Option.some.injEq, Bool.and_eq_true, Bool.not_eq_true'] at ht
      exact ht
    · cases ht
  · simp only [tabOf, T.get_ofList, T.get_leaf, Nat.zero_le, true_and, Nat.zero_add, Nat.sub_zero] at hf
    split at hf
    · simp only [List.all_eq_true, Bool.or_eq_true, Bool.not_eq_true'] at hn
      rcases hn fn (List.mem_of_getElem? hf) with h | h
      · rw [hb] at h; cases h
      · exact h
    · cases hf
/-- Values without memory, written out. -/
def con : AV → Option Value
  | .bool b => some (.bool b)
  | .int k n => some (.int k n)
  | .str l => some (.string ⟨(l.map UInt8.ofNat).toArray⟩)
  | .nilp => some (.pointer none)
  | .nils => some (.slice none 0 0)
  | .nilf => some .nilFunc
  | .nili => some .nilIface
  | _ => none
def conL : List AV → Option (List Value)
  | [] => some []
  | v :: l => match con v, conL l with
    | some u, some m => some (u :: m)
    | _, _ => none
def conT : AV → Option Value
  | .tuple l => match conL l with
    | some m => some (.tuple m.toArray)
    | none => none
  | v => con v
theorem con_ok {M : Inj} {v : AV} {u u' : Value} (h : con v = some u) (hr : VRel M v u') : u' = u := by
  cases hr <;> simp only [con, Option.some.injEq] at h <;> first | exact h | (cases h; done) | skip
  rename_i s l hs
  rw [← h, ← hs]
  congr 1
  obtain ⟨⟨x⟩⟩ := s
  have e : (UInt8.ofNat ∘ UInt8.toNat) = id := by funext b; simp
  simp [e]
theorem conL_ok {M : Inj} : ∀ {l : List AV} {m m' : List Value}, conL l = some m → LRel M l m' → m' = m
  | [], m, m', h, hr => by
    simp only [conL, Option.some.injEq] at h
    subst h
    exact List.eq_nil_of_length_eq_zero (by rw [hr.1]; rfl)
  | v :: l, m, m', h, hr => by
    unfold conL at h
    split at h
    · rename_i u q hu hq
      simp only [Option.some.injEq] at h
      subst h
      cases m' with
      | nil => have := hr.1; simp at this
      | cons u' q' =>
        have h1 := con_ok hu (hr.2 0 v u' rfl rfl)
        have h2 := conL_ok hq (m' := q') ⟨by have := hr.1; simpa using this, fun i v u a b => hr.2 (i + 1) v u (by simpa using a) (by simpa using b)⟩
        rw [h1, h2]
    · cases h
theorem conT_ok {M : Inj} {v : AV} {u u' : Value} (h : conT v = some u) (hr : VRel M v u') : u' = u := by
  unfold conT at h
  split at h
  · rename_i l
    split at h
    · rename_i m hm
      simp only [Option.some.injEq] at h
      obtain ⟨cs, rfl, hcs⟩ := tuple_iff hr
      have := conL_ok hm hcs
      rw [← h, ← this]
    · cases h
  · exact con_ok h hr
/-- Does a reckoned call give just this? -/
def gives (r : Option (AV × AHeap)) (v : AV) : Bool :=
  match r with
  | some (x, _) => x.beq v
  | none => false
/-- The same, with what is known of values that are not looked into, and of calls. -/
def Tab.knows (tb : Tab) (ob : BinOp → Nat → IntKind → Int → Option AV) (oc : Nat → IntKind → Option AV) (orc : Nat → List AV → AHeap → Option AV) : Tab := ⟨tb.tt, tb.ft, tb.et, ob, oc, orc⟩
end Go.Proofs.YtfkbfnpjggkdmaaGreatDoor.Ev
