/- An evaluator of closed calls in which errors are thrown and caught, part 4: all code; closed calls. -/
import Derived.Test.YtfkbfnpjggkdmaaGreatDoorNExC
namespace Go.Proofs.YtfkbfnpjggkdmaaGreatDoor.Ev
open Go.RowKit
variable {J : Ctx}
set_option linter.unusedVariables false
set_option linter.unusedSimpArgs false
section runs
variable {P : Program} {tb : Tab} {tr : Trb} {cfg : XCfg}
theorem soundX_step (H : TabOK P tb J) (hcf : CfgOK P J tr cfg) (k : Nat) (IH : ∀ j, j ≤ k → SoundX P J tr cfg tb j) : SoundX P J tr cfg tb (k + 1) := by
  intro n cd tm h d r M N w0 a w Q he ht hs hd hh hQ
  have hS := IH k (Nat.le_refl k)
  have hcall := callX_of H hcf hS
  have he0 := he
  simp only [runX] at he
  unfold evCodeX at he
  split at he
  · simp only [Option.some.injEq] at he
    subst he
    exact wp_skip (hQ M a w (Inj.le_refl M) ht hs hd hh)
  · simp only [Option.some.injEq] at he
    subst he
    exact wp_label (hQ M a w (Inj.le_refl M) ht hs hd hh)
  · simp only [Option.some.injEq] at he
    subst he
    exact wp_ret (hQ M a w (Inj.le_refl M) ht hs hd hh)
  · simp only [Option.some.injEq] at he
    subst he
    exact wp_exit (hQ M a w (Inj.le_refl M) ht hs hd hh)
  · -- a region
    rename_i id ops draw
    cases draw with
    | true =>
      simp only at he
      unfold evDrawX at he
      split at he
      · rename_i tm1 h1 hr
        simp only [Option.some.injEq] at he
        subst he
        exact evDraw_ok H hcall.ret H.mo ht hs hh hr (fun M' a' w' g1 g2 g3 g4 g5 => hQ M' a' w' g1 g2 g3 (by rw [g4]; exact hd.mono g1) g5)
      · split at he
        · rename_i l tm1 h1 hr
          simp only [Option.some.injEq] at he
          subst he
          exact evLastX_ok H hcall H.mo ht hs hh hr (fun M' a' w' ch g1 g2 g3 g4 g5 g6 => hQ M' a' w' ch g1 g2 g3 (by rw [g4]; exact hd.mono g1) g5 g6)
        · cases he
    | false =>
      simp only at he
      refine wp_region ?_
      have := evOpsX_ok (Q := Q) (n := n) H hcall (ops := ops) (rest := ops.toList) (i := 0) (fun k o hk => by rw [Nat.zero_add]; simpa using hk) ht hs hd hh he hQ
      rw [List.range_eq_range']
      simpa using this
  · -- one behind the other
    rename_i x y
    split at he
    · rename_i tm1 h1 d1 h2
      refine wp_seq (hS n x tm h d _ M N w0 a w _ h2 ht hs hd hh (fun M' a' w' k1 k2 k3 k4 k5 => ?_))
      exact hS n y tm1 h1 d1 r M' N w0 a' w' Q he k2 k3 k4 k5 (hQ.mono k1)
    · rename_i hne
      refine wp_seq (hS n x tm h d r M N w0 a w _ he ht hs hd hh ?_)
      cases r with
      | go ex tm1 h1 d1 =>
        cases ex with
        | normal => exact absurd he (hne _ _ _)
        | exit i => exact fun M' a' w' k1 k2 k3 k4 k5 => hQ M' a' w' k1 k2 k3 k4 k5
        | ret => exact fun M' a' w' k1 k2 k3 k4 k5 => hQ M' a' w' k1 k2 k3 k4 k5
      | boom l tm1 h1 d1 => exact fun M' a' w' ch k1 k2 k3 k4 k5 k6 => hQ M' a' w' ch k1 k2 k3 k4 k5 k6
  · -- if
    rename_i x y z
    split at he
    · rename_i hx
      exact wp_cond_true (bool_iff (opnd_ok ht hx)) (hS n y tm h d r M N w0 a w Q he ht hs hd hh hQ)
    · rename_i hx
      exact wp_cond_false (bool_iff (opnd_ok ht hx)) (hS n z tm h d r M N w0 a w Q he ht hs hd hh hQ)
    · cases he
  · -- a block
    rename_i id b
    split at he
    · rename_i j tm1 h1 d1 hb
      split at he
      · rename_i hj
        have hj := Nat.eq_of_beq_eq_true hj
        subst hj
        simp only [Option.some.injEq] at he
        subst he
        refine wp_block (hS n b tm h d _ M N w0 a w _ hb ht hs hd hh (fun M' a' w' k1 k2 k3 k4 k5 => ?_))
        show if j = j then Q .normal a' w' else _
        rw [if_pos rfl]
        exact hQ M' a' w' k1 k2 k3 k4 k5
      · rename_i hj
        simp only [Option.some.injEq] at he
        subst he
        refine wp_block (hS n b tm h d _ M N w0 a w _ hb ht hs hd hh (fun M' a' w' k1 k2 k3 k4 k5 => ?_))
        show if j = id then _ else Q (.exit j) a' w'
        rw [if_neg (by intro e; subst e; simp at hj)]
        exact hQ M' a' w' k1 k2 k3 k4 k5
    · rename_i hne
      refine wp_block (hS n b tm h d r M N w0 a w _ he ht hs hd hh ?_)
      cases r with
      | go ex tm1 h1 d1 =>
        cases ex with
        | normal => exact fun M' a' w' k1 k2 k3 k4 k5 => hQ M' a' w' k1 k2 k3 k4 k5
        | exit i => exact absurd he (hne _ _ _ _)
        | ret => exact fun M' a' w' k1 k2 k3 k4 k5 => hQ M' a' w' k1 k2 k3 k4 k5
      | boom l tm1 h1 d1 => exact fun M' a' w' ch k1 k2 k3 k4 k5 k6 => hQ M' a' w' ch k1 k2 k3 k4 k5 k6
  · -- a loop
    rename_i b
    let G : Act → World → Nat → Prop := fun a1 w1 j => j ≤ k ∧ ∃ M1 tm1 h1 d1, M.le M1 ∧ TRel M1 tm1 a1 ∧ a1.tmps.size = n ∧ DRel cfg M1 d1 a1.defers ∧ HRel M1 N w0 h1 w1 ∧
      runX cfg tb (j + 1) n (.loop b) tm1 h1 d1 = some r
    refine wp_loop (fun a1 w1 => ∃ j, G a1 w1 j) (fun a1 w1 => mu (G a1 w1))
      ⟨k, Nat.le_refl k, M, tm, h, d, Inj.le_refl M, ht, hs, hd, hh, he0⟩ ?_
    intro a1 w1 hI
    have hle := mu_spec hI
    generalize hj : mu (G a1 w1) = j at hle
    obtain ⟨⟨hjk, M1, tm1, h1, d1, q1, q2, q3, q4, q5, q6⟩, hmin⟩ := hle
    simp only [runX] at q6
    unfold evCodeX at q6
    simp only at q6
    split at q6
    · rename_i tm2 h2 d2 hb
      refine IH j hjk n b tm1 h1 d1 _ M1 N w0 a1 w1 _ hb q2 q3 q4 q5 (fun M' a' w' k1 k2 k3 k4 k5 => ?_)
      cases j with
      | zero => simp [runX] at q6
      | succ j =>
        have hG : G a' w' j := ⟨by omega, M', tm2, h2, d2, Inj.le_trans q1 k1, k2, k3, k4, k5, q6⟩
        have hI' : ∃ j, G a' w' j := ⟨j, hG⟩
        refine ⟨hI', ?_⟩
        have := (mu_spec hI').2 j hG
        omega
    · rename_i hne
      refine IH j hjk n b tm1 h1 d1 r M1 N w0 a1 w1 _ q6 q2 q3 q4 q5 ?_
      cases r with
      | go ex tm2 h2 d2 =>
        cases ex with
        | normal => exact absurd q6 (hne _ _ _)
        | exit i => exact fun M' a' w' k1 k2 k3 k4 k5 => hQ M' a' w' (Inj.le_trans q1 k1) k2 k3 k4 k5
        | ret => exact fun M' a' w' k1 k2 k3 k4 k5 => hQ M' a' w' (Inj.le_trans q1 k1) k2 k3 k4 k5
      | boom l tm2 h2 d2 => exact fun M' a' w' ch k1 k2 k3 k4 k5 k6 => hQ M' a' w' ch (Inj.le_trans q1 k1) k2 k3 k4 k5 k6
  · cases he
theorem soundX (H : TabOK P tb J) (hcf : CfgOK P J tr cfg) : ∀ k, SoundX P J tr cfg tb k := by
  intro k
  induction k using Nat.strongRecOn with
  | _ k ih =>
    cases k with
    | zero =>
      intro n cd tm h d r M N w0 a w Q he
      simp [runX] at he
    | succ k => exact soundX_step H hcf k (fun j hj => ih j (by omega))
theorem callX_ok (H : TabOK P tb J) (hcf : CfgOK P J tr cfg) (k : Nat) : XOK P J tr (callX cfg tb k) := callX_of H hcf (soundX H hcf k)
/-- Does a reckoned call give just this? -/
def givesX (r : Option CRes) (v : AV) : Bool :=
  match r with
  | some (.ret x _) => x.beq v
  | _ => false
/-- A call that gives a value without memory. -/
theorem caught_call {l : List Value} (H : TabOK P tb J) (hcf : CfgOK P J tr cfg) (hJ : J.inj = injOf l) {k f : Nat} {args : List AV} {v : AV} {u : Value} (hu : conT v = some u)
    (he : givesX (callX cfg tb k f args ⟨l.length, .leaf⟩) v = true) {vs : Array Value} (hl : LRel (injOf l) args vs.toList) (w : World) (hg : ∀ w', Below w.heap.size w w' → J.good w') :
    Calls P f vs w fun e w' => e = .returned u ∧ Below w.heap.size w w' := by
  unfold givesX at he
  split at he
  rotate_left
  · cases he
  rename_i x h' hx
  have hxv := beq_ok _ _ he
  subst hxv
  have hh : HRel (J := J) (injOf l) (fun k => k < w.heap.size) ⟨w, w.heap.size, hg, fun _ => False⟩ ⟨l.length, .leaf⟩ w := ⟨by show J.inj.le _; rw [hJ]; exact Inj.le_refl _, fun k hk => hk, Keeps.refl _ _, fun k hk => hk, fun b o h => by simp [T.get_leaf] at h, fun b b' o o' i i' h => by simp [T.get_leaf] at h,
    fun b o h => by simp [T.get_leaf] at h, fun b hb => by unfold injOf; rw [List.getElem?_eq_none hb], fun b hb => hb.elim⟩
  obtain ⟨_, hc⟩ := (callX_ok H hcf k _ _ _ _ w f args vs hl hh).1 _ _ hx
  exact hc.mono fun e w' ⟨M', y, h1, h2, h3, h4⟩ => ⟨by rw [h1, conT_ok hu h4], h3.below.below fun k hk => hk⟩
end runs
end Go.Proofs.YtfkbfnpjggkdmaaGreatDoor.Ev
