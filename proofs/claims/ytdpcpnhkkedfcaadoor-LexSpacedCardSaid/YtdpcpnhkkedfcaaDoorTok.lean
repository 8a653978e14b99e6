/- What is known of calls holds. -/
import Derived.Test.YtdpcpnhkkedfcaaDoorLexD
import Derived.Test.YtdpcpnhkkedfcaaDoorLexO
import Derived.Test.YtdpcpnhkkedfcaaDoorTab
namespace Go.Proofs.YtdpcpnhkkedfcaaDoor.Ev
open Go.RowKit
set_option linter.unusedVariables false
set_option maxRecDepth 100000
theorem pre_u8 (p : Nat → Bool) : ∀ l : List UInt8, pre p (l.map UInt8.toNat) = Go.Proofs.YtdpcpnhkkedfcaaDoor.pre p l
  | [] => rfl
  | c :: l => by
    simp only [List.map_cons, pre, Go.Proofs.YtdpcpnhkkedfcaaDoor.pre, pre_u8 p l]
theorem ixB_lib (c : Nat) : ∀ l : List UInt8, Lib.indexByte l c.toUInt8 = ixB (l.map UInt8.toNat) c
  | [] => by simp [Lib.indexByte, ixB, pre]
  | b :: l => by
    have ih := ixB_lib c l
    have hb : (b == c.toUInt8) = Nat.beq b.toNat (c % 256) := by
      rw [Bool.eq_iff_iff]
      simp only [beq_iff_eq]
      constructor
      · rintro rfl
        simp
      · intro h
        have := Nat.eq_of_beq_eq_true h
        exact UInt8.toNat_inj.1 (by rw [this]; simp)
    have hle := fun q => Nat.le_of_lt_succ (Nat.lt_succ_of_le (show pre q (l.map UInt8.toNat) ≤ (l.map UInt8.toNat).length from by
      rw [pre_u8, List.length_map]; exact Go.Proofs.YtdpcpnhkkedfcaaDoor.pre_le q l))
    unfold Lib.indexByte
    rw [hb, ih]
    unfold ixB
    simp only [List.map_cons, pre, List.length_cons]
    cases h : Nat.beq b.toNat (c % 256) with
    | true => simp
    | false =>
      simp only [Bool.not_false, if_true, Bool.false_eq_true, if_false]
      generalize pre (fun x => !(Nat.beq x (c % 256))) (l.map UInt8.toNat) = q
      generalize (l.map UInt8.toNat).length = m
      by_cases hk : q < m
      · have h1 : q + 1 < m + 1 := by omega
        have hne : ((q : Int) == -1) = false := by simp
        simp only [hk, h1, if_true, hne, Bool.false_eq_true, if_false]
        omega
      · have h1 : ¬ q + 1 < m + 1 := by omega
        simp only [hk, h1, if_false]
        decide
def ctx : Ctx := ⟨injOf [], fun w => Go.Proofs.YtdpcpnhkkedfcaaDoor.Tab w⟩
theorem known_fn {f : Nat} {fn : Func} (h : Tryd.prog.funcs[f]? = some fn) (hb : fn.body.isSome = true) (hn : (fn.name == "runtime.NumGoroutine") = false) : ∃ fn, Tryd.prog.funcs[f]? = some fn ∧ fn.body.isSome = true ∧ (fn.name == "runtime.NumGoroutine") = false := ⟨fn, h, hb, hn⟩
theorem orc_ok : ∀ f args h v, orc f args h = some v → ∀ M N (w0 : Base ctx) (vs : Array Value) w, HRel M N w0 h w → LRel M args vs.toList →
    (∃ fn, Tryd.prog.funcs[f]? = some fn ∧ fn.body.isSome = true ∧ (fn.name == "runtime.NumGoroutine") = false) ∧
    Calls Tryd.prog f vs w fun e w' => ∃ u, e = .returned u ∧ VRel M v u ∧ Below w.heap.size w w' := by
  intro f args h v ho M N w0 vs w hh hr
  have hT : Go.Proofs.YtdpcpnhkkedfcaaDoor.Tab w := w0.ok w (hh.below.mono hh.lim)
  unfold orc at ho
  split at ho
  · rename_i hf
    have hf := Nat.eq_of_beq_eq_true hf
    subst hf
    split at ho
    rotate_left
    · cases ho
    rename_i l c
    simp only [Option.some.injEq] at ho
    subst ho
    refine ⟨known_fn Tryd.func56 (by kernel_rfl) (by kernel_rfl), ?_⟩
    obtain ⟨cs⟩ := vs
    match cs, hr with
    | [x, y], hr =>
      have hx := hr.2 0 _ x rfl rfl
      have hy := hr.2 1 _ y rfl rfl
      obtain ⟨s, rfl, hs, _⟩ := str_iff hx
      have hy := int_iff hy
      subst hy
      rw [ByteArray.toList_eq] at hs
      refine (Tryd.stringslite_IndexByte s _ w).mono ?_
      rintro e w' ⟨rfl, rfl⟩
      refine ⟨_, rfl, ?_, Below.refl _ _⟩
      have e1 : Lib.indexByte s.data.toList (Int.toNat (Int.ofNat c)).toUInt8 = ixB l c := by
        rw [← hs]; exact ixB_lib c _
      rw [e1]
      exact .int _ _
    | [], hr => have := hr.1; simp at this
    | [_], hr => have := hr.1; simp at this
    | _ :: _ :: _ :: _, hr => have := hr.1; simp at this
  · split at ho
    · rename_i hf
      have hf := Nat.eq_of_beq_eq_true hf
      subst hf
      split at ho
      rotate_left
      · cases ho
      rename_i l
      split at ho
      rotate_left
      · cases ho
      rename_i hl
      have hl := Nat.le_of_ble_eq_true hl
      simp only [Option.some.injEq] at ho
      subst ho
      refine ⟨known_fn Tryd.func11 (by kernel_rfl) (by kernel_rfl), ?_⟩
      obtain ⟨cs⟩ := vs
      match cs, hr with
      | [x], hr =>
        have hx := hr.2 0 _ x rfl rfl
        obtain ⟨s, rfl, hs, hsz⟩ := str_iff hx
        rw [ByteArray.toList_eq] at hs
        have hu : l.map UInt8.ofNat = s.data.toList := u8s_of hs
        have hsz : s.size ≤ 281474976710656 := by
          have : l.length = s.size := by rw [← hs, List.length_map]; exact size_len s
          omega
        refine (dur_any s hsz w hT).mono ?_
        rintro e w' ⟨rfl, hB⟩
        refine ⟨_, rfl, ?_, hB⟩
        unfold durN
        rw [hu]
        exact .tuple _ _ rfl (fun i v u p q => by
          match i with
          | 0 => simp at p q; subst p q; exact .int _ _
          | 1 => simp at p q; subst p q; exact .int _ _
          | i + 2 => simp at p)
      | [], hr => have := hr.1; simp at this
      | _ :: _ :: _, hr => have := hr.1; simp at this
    · split at ho
      · rename_i hf
        have hf := Nat.eq_of_beq_eq_true hf
        subst hf
        split at ho
        rotate_left
        · cases ho
        simp only [Option.some.injEq] at ho
        subst ho
        refine ⟨known_fn Tryd.func8 (by kernel_rfl) (by kernel_rfl), ?_⟩
        obtain ⟨cs⟩ := vs
        match cs, hr with
        | [], hr =>
          refine (lives_any w).mono ?_
          rintro e w' ⟨rfl, hB⟩
          exact ⟨_, rfl, .bool _, hB⟩
        | _ :: _, hr => have := hr.1; simp at this
      · cases ho
theorem tab_is : TabOK Tryd.prog tab ctx := tab_knows (tab_ok (by kernel_rfl) (by kernel_rfl)) (fun _ _ _ _ _ h => by cases h) (fun _ _ _ h => by cases h) orc_ok
/-- What is said of a function that gives a value alone holds of its calls. -/
theorem spec_call {f : Nat} {args : List AV} {v : AV} {u : Value} (h : Spec tab f args [] [] (Val v)) (hu : conT v = some u) {vs : Array Value} (hl : LRel (injOf []) args vs.toList) (w : World) (hT : Go.Proofs.YtdpcpnhkkedfcaaDoor.Tab w) :
    Calls Tryd.prog f vs w fun e w' => e = .returned u ∧ Below w.heap.size w w' := by
  have hG : ∀ w', Below w.heap.size w w' → Go.Proofs.YtdpcpnhkkedfcaaDoor.Tab w' := fun w' hB => hT.below hB
  have hh : HRel (J := ctx) (injOf []) w.heap.size ⟨w, w.heap.size, hG⟩ ⟨0, .leaf⟩ w := ⟨Inj.le_refl _, Nat.le_refl _, Below.refl _ _, Nat.le_refl _, fun b o h => by simp [T.get_leaf] at h, fun b b' o o' i i' h => by simp [T.get_leaf] at h,
    fun b o h => by simp [T.get_leaf] at h, fun b hb => by unfold injOf; simp⟩
  obtain ⟨v', h', hs', ⟨K0, hE⟩, ⟨rfl, _⟩, _, _⟩ := h ⟨0, .leaf⟩ ⟨fun e he => by simp at he, List.nodup_nil, Fr.refl _ _⟩
  have hE := hE K0 (Nat.le_refl _)
  obtain ⟨_, hc⟩ := callA_ok tab_is K0 _ _ _ _ _ _ _ _ _ _ hE hl hh
  exact hc.mono fun e w' ⟨M', u', h1, h2, h3, h4⟩ => ⟨by rw [h1, conT_ok hu h4], h3.below⟩
end Go.Proofs.YtdpcpnhkkedfcaaDoor.Ev
