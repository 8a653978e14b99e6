/- Layer 15: the layer's examples hold (lives), by the evaluator, with two of the library's functions known. -/
import Derived.Test.YtdpcpnhkkedfcaaDoorEvU
import Derived.Test.YtdpcpnhkkedfcaaDoorLexT
namespace Go.Proofs.YtdpcpnhkkedfcaaDoor
open Go.RowKit
set_option maxRecDepth 1000000
set_option linter.unusedVariables false
def u8s (l : List Nat) : List UInt8 := l.map UInt8.ofNat
theorem u8s_of {s : ByteArray} {l : List Nat} (h : s.data.toList.map UInt8.toNat = l) : u8s l = s.data.toList := by
  subst h
  unfold u8s
  rw [List.map_map]
  have e : (UInt8.ofNat ∘ UInt8.toNat) = id := by funext b; simp
  rw [e, List.map_id]
def orc15 (f : Nat) (args : List Ev.AV) (_ : Ev.AHeap) : Option Ev.AV :=
  match Nat.beq f 56 with
  | true => match args with
    | [.str l, .int .u8 (.ofNat c)] => some (.int .i64 (Lib.indexByte (u8s l) (UInt8.ofNat c)))
    | _ => none
  | false => match Nat.beq f 21 with
    | true => match args with
      | [.str l] => match Nat.ble l.length 1000, Lib.atoiAll (u8s l) with
        | true, .ok v => some (.tuple [.int .i64 v, .nili])
        | _, _ => none
      | _ => none
    | false => none
theorem orc15_ok {J : Ev.Ctx} : ∀ f args h v, orc15 f args h = some v → ∀ M N (w0 : Ev.Base J) (vs : Array Value) w, Ev.HRel M N w0 h w → Ev.LRel M args vs.toList →
    (∃ fn, Tryd.prog.funcs[f]? = some fn ∧ fn.body.isSome = true ∧ (fn.name == "runtime.NumGoroutine") = false) ∧
    Calls Tryd.prog f vs w fun e w' => ∃ u, e = .returned u ∧ Ev.VRel M v u ∧ Below w.heap.size w w' := by
  intro f args hp v h M N w0 vs w _ hr
  unfold orc15 at h
  split at h
  · rename_i hf
    have hf := Nat.eq_of_beq_eq_true hf
    subst hf
    split at h
    rotate_left
    · cases h
    rename_i l c
    simp only [Option.some.injEq] at h
    subst h
    refine ⟨⟨_, Tryd.func56, by kernel_rfl, by kernel_rfl⟩, ?_⟩
    obtain ⟨cs⟩ := vs
    match cs, hr with
    | [x, y], hr =>
      have hx := hr.2 0 _ x rfl rfl
      have hy := hr.2 1 _ y rfl rfl
      obtain ⟨s, rfl, hs, _⟩ := Ev.str_iff hx
      have hy := Ev.int_iff hy
      subst hy
      rw [ByteArray.toList_eq] at hs
      refine (Tryd.stringslite_IndexByte s _ w).mono ?_
      rintro e w' ⟨rfl, rfl⟩
      refine ⟨_, rfl, ?_, Below.refl _ _⟩
      rw [u8s_of hs]
      exact .int _ _
    | [], hr => have := hr.1; simp at this
    | [_], hr => have := hr.1; simp at this
    | _ :: _ :: _ :: _, hr => have := hr.1; simp at this
  · split at h
    · rename_i hg
      have hg := Nat.eq_of_beq_eq_true hg
      subst hg
      split at h
      rotate_left
      · cases h
      rename_i l
      split at h
      rotate_left
      · cases h
      rename_i n hl ha
      simp only [Option.some.injEq] at h
      subst h
      refine ⟨⟨_, Tryd.func21, by kernel_rfl, by kernel_rfl⟩, ?_⟩
      obtain ⟨cs⟩ := vs
      match cs, hr with
      | [x], hr =>
        have hx := hr.2 0 _ x rfl rfl
        obtain ⟨s, rfl, hs, hsz⟩ := Ev.str_iff hx
        rw [ByteArray.toList_eq] at hs
        rw [u8s_of hs] at ha
        have hl := Nat.le_of_ble_eq_true hl
        refine (Tryd.strconv_Atoi_ok s (by omega) n ha w).mono ?_
        rintro e w' ⟨rfl, hw⟩
        refine ⟨_, rfl, ?_, ?_⟩
        · exact .tuple _ _ rfl (fun i v u p q => by
            match i with
            | 0 => simp at p q; subst p q; exact .int _ _
            | 1 => simp at p q; subst p q; exact .nili
            | i + 2 => simp at p)
        · rcases hw with rfl | ⟨t, rfl⟩
          · exact Below.refl _ _
          · exact Lib.bytesWorld_below _ _ _
      | [], hr => have := hr.1; simp at this
      | _ :: _ :: _, hr => have := hr.1; simp at this
    · cases h
noncomputable def tab15 : Ev.Tab := Ev.tabP.knows (fun _ _ _ _ => none) (fun _ _ => none) orc15
theorem tab15_is (J : Ev.Ctx) : Ev.TabOK Tryd.prog tab15 J := Ev.tab_knows (Ev.tabP_is J) (fun _ _ _ _ _ h => by cases h) (fun _ _ _ h => by cases h) orc15_ok
theorem lives_ev : Ev.givesQ (Ev.callQ tab15 (Ev.qFns tab15 Tryd.prog.funcs.toList) 2000 200 8 [] ⟨0, .leaf⟩) (.bool true) = true := by kernel_rfl
theorem lives_any (w : World) : Calls Tryd.prog 8 #[] w fun e w' => e = .returned (.bool true) ∧ Below w.heap.size w w' :=
  Ev.quick_call (l := []) (tab15_is _) (Ev.qFns_ok tab15 _ rfl) (v := .bool true) rfl lives_ev (.nil _) w
end Go.Proofs.YtdpcpnhkkedfcaaDoor
