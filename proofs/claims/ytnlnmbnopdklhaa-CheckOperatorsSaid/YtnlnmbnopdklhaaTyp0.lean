/- What stands about the reckoned types of queries: the tables, and how a reckoned type becomes a known call. -/
import Derived.Test.YtnlnmbnopdklhaaEvM
import Derived.Test.YtnlnmbnopdklhaaProg
namespace Go.Proofs.Ytnlnmbnopdklhaa.Ev
open Go.RowKit
noncomputable def tab : Tab := tabOf Try.prog
theorem tab_is (J : Inj) : TabOK Try.prog tab J := tab_ok (by kernel_rfl) (by kernel_rfl)
/-- The text's type and error, as reckoned. -/
def Typed (s : List Nat) (t e : Int) : Prop := gives (callA tab 3000 14 [.str s] ⟨0, .leaf⟩) (.tuple [.int .i64 t, .int .i64 e]) = true
theorem typed_call {s : List Nat} {t e : Int} (h : Typed s t e) {v : Value} {M : Inj} (hv : VRel M (.str s) v) (w : World) :
    Calls Try.prog 14 #[v] w fun r w' => r = .returned (.tuple #[.int .i64 t, .int .i64 e]) ∧ Below w.heap.size w w' := by
  have hl : LRel (injOf []) [.str s] (#[v] : Array Value).toList := by
    refine .cons ?_ (.nil _)
    cases hv with
    | str q l h => exact .str q _ h
  exact plain_call (l := []) (tab_is _) (v := .tuple [.int .i64 t, .int .i64 e]) rfl h hl w
def look : List (List Nat × Int × Int) → List Nat → Option AV
  | [], _ => none
  | (x, t, e) :: l, s => match listBeq x s with
    | true => some (.tuple [.int .i64 t, .int .i64 e])
    | false => look l s
theorem look_some : ∀ {l : List (List Nat × Int × Int)} {s : List Nat} {v : AV}, look l s = some v → ∃ t e, (s, t, e) ∈ l ∧ v = .tuple [.int .i64 t, .int .i64 e]
  | [], s, v, h => by cases h
  | (x, t, e) :: l, s, v, h => by
    unfold look at h
    split at h
    · rename_i hb
      rw [listBeq_eq] at hb
      have : x = s := by simpa using hb
      subst this
      simp only [Option.some.injEq] at h
      exact ⟨t, e, List.mem_cons_self, h.symm⟩
    · obtain ⟨t', e', h1, h2⟩ := look_some h
      exact ⟨t', e', List.mem_cons_of_mem _ h1, h2⟩
/-- Known calls of 'typed'. -/
def orc (l : List (List Nat × Int × Int)) (f : Nat) (args : List AV) : Option AV :=
  match Nat.beq f 14 with
  | true => match args with
    | [.str s] => look l s
    | _ => none
  | false => none
theorem orc_ok {l : List (List Nat × Int × Int)} (hl : ∀ x ∈ l, Typed x.1 x.2.1 x.2.2) {J : Inj} : ∀ f args v, orc l f args = some v → ∀ M (vs : Array Value) w, J.le M → LRel M args vs.toList →
    (∃ fn, Try.prog.funcs[f]? = some fn ∧ fn.body.isSome = true ∧ (fn.name == "runtime.NumGoroutine") = false) ∧
    Calls Try.prog f vs w fun e w' => ∃ u, e = .returned u ∧ VRel M v u ∧ Below w.heap.size w w' := by
  intro f args v h M vs w _ hr
  unfold orc at h
  split at h
  · rename_i hf
    have hf := Nat.eq_of_beq_eq_true hf
    subst hf
    split at h
    · rename_i s
      obtain ⟨t, e, hm, rfl⟩ := look_some h
      have ht := hl _ hm
      refine ⟨⟨_, Try.func14, by kernel_rfl, by kernel_rfl⟩, ?_⟩
      obtain ⟨cs⟩ := vs
      cases cs with
      | nil => have := hr.1; simp at this
      | cons u cs =>
        cases cs with
        | nil =>
          refine (typed_call ht (hr.2 0 _ u rfl rfl) w).mono ?_
          rintro r w' ⟨rfl, hb⟩
          refine ⟨_, rfl, ?_, hb⟩
          exact .tuple _ _ rfl (fun i v u p q => by
            match i with
            | 0 => simp at p q; subst p q; exact .int _ _
            | 1 => simp at p q; subst p q; exact .int _ _
            | i + 2 => simp at p)
        | cons x cs => have := hr.1; simp at this
    · cases h
  · cases h
end Go.Proofs.Ytnlnmbnopdklhaa.Ev
