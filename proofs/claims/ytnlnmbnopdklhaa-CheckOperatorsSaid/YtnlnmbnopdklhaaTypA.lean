/- The quick evaluator at layer 17's queries: lists of queries with their types. -/
import Derived.Test.YtnlnmbnopdklhaaEvU
import Derived.Test.YtnlnmbnopdklhaaTyp0
namespace Go.Proofs.Ytnlnmbnopdklhaa.Ev
open Go.RowKit
set_option maxRecDepth 1000000
set_option linter.unusedVariables false
set_option linter.unusedSimpArgs false
noncomputable def fns : T (Bx QFn) := qFns tab Try.prog.funcs.toList
theorem fns_is : ∀ f, fns.get f = (tab.ft.get f).map (qFn tab) := qFns_ok tab _ rfl
/-- The text's type and error are known. -/
def Known (s : List Nat) (t e : Int) : Prop := ∀ (v : Value) (M : Inj), VRel M (.str s) v → ∀ w : World,
    Calls Try.prog 14 #[v] w fun r w' => r = .returned (.tuple #[.int .i64 t, .int .i64 e]) ∧ Below w.heap.size w w'
theorem known_slow {s : List Nat} {t e : Int} (h : Typed s t e) : Known s t e := fun v M hv w => typed_call h hv w
/-- As quickly reckoned. -/
noncomputable def typedQ (s : List Nat) (t e : Int) : Bool := givesQ (callQ tab fns 2000 200 14 [.str s] ⟨0, .leaf⟩) (.tuple [.int .i64 t, .int .i64 e])
theorem known_quick {s : List Nat} {t e : Int} (h : typedQ s t e = true) : Known s t e := by
  intro v M hv w
  have hl : LRel (injOf []) [.str s] (#[v] : Array Value).toList := by
    refine .cons ?_ (.nil _)
    cases hv with
    | str q l h => exact .str q _ h
  exact quick_call (l := []) (tab_is _) fns_is (v := .tuple [.int .i64 t, .int .i64 e]) rfl h hl w
noncomputable def allQ (l : List (List Nat × Int × Int)) : Bool :=
  List.rec (motive := fun _ => Bool) true (fun x _ ih => Bool.rec (motive := fun _ => Bool) false ih (typedQ x.1 x.2.1 x.2.2)) l
theorem allQ_ok : ∀ {l : List (List Nat × Int × Int)}, allQ l = true → ∀ x ∈ l, Known x.1 x.2.1 x.2.2
  | [], _, x, hx => by cases hx
  | y :: l, h, x, hx => by
    obtain ⟨h1, h2⟩ := boolrec (h : Bool.rec (motive := fun _ => Bool) false (allQ l) (typedQ y.1 y.2.1 y.2.2) = true) (by simp)
    cases hx with
    | head => exact known_quick h1
    | tail _ hx => exact allQ_ok h2 x hx
theorem orcK_ok {l : List (List Nat × Int × Int)} (hl : ∀ x ∈ l, Known x.1 x.2.1 x.2.2) {J : Inj} : ∀ f args v, orc l f args = some v → ∀ M (vs : Array Value) w, J.le M → LRel M args vs.toList →
    (∃ fn, Try.prog.funcs[f]? = some fn ∧ fn.body.isSome = true ∧ (fn.name == "runtime.NumGoroutine") = false) ∧
    Calls Try.prog f vs w fun e w' => ∃ u, e = .returned u ∧ VRel M v u ∧ Below w.heap.size w w' := by
  intro f args v h M vs w _ hr
  unfold orc at h
  split at h
  · rename_i hf
    have hf := Nat.eq_of_beq_eq_true hf
    subst hf
    split at h
    · rename_i s
      obtain ⟨t, e, hm, rfl⟩ := look_some h
      have ht := hl _ hm
      refine ⟨⟨_, Try.func14, by kernel_rfl, by kernel_rfl⟩, ?_⟩
      obtain ⟨cs⟩ := vs
      cases cs with
      | nil => have := hr.1; simp at this
      | cons u cs =>
        cases cs with
        | nil =>
          refine (ht _ _ (hr.2 0 _ u rfl rfl) w).mono ?_
          rintro r w' ⟨rfl, hb⟩
          refine ⟨_, rfl, ?_, hb⟩
          exact .tuple _ _ rfl (fun i v u p q => by
            match i with
            | 0 => simp at p q; subst p q; exact .int _ _
            | 1 => simp at p q; subst p q; exact .int _ _
            | i + 2 => simp at p)
        | cons x cs => have := hr.1; simp at this
    · cases h
  · cases h
end Go.Proofs.Ytnlnmbnopdklhaa.Ev
