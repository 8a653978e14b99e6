/- Chapter 17: a tree's type, by the house and by the document, is one. -/
import Derived.Test.YtndhhgbpcmfeiaaGreatDoorMV6
namespace Go.Proofs.YtndhhgbpcmfeiaaGreatDoor.Ev.P16
open Go.RowKit
set_option linter.unusedVariables false
theorem right_le {op : List Nat} {md sd : Int} {bl : Bool} {a b : Nat} (ha : a ≤ 3) (hb : b ≤ 3) : (rightM op md sd bl a b).1 ≤ 3 := by
 unfold rightM
 (repeat' split) <;> simp_all <;> omega
theorem call_le {op : List Nat} : (callM op).2 ≤ 3 := by
 unfold callM
 (repeat' split) <;> decide
theorem getD_le {A : List Nat} {i : Nat} (h : ∀ x ∈ A, x ≤ 3) : A.getD i 0 ≤ 3 := by
 rw [List.getD_eq_getElem?_getD]
 cases e : A[i]? with
 | none => exact Nat.zero_le _
 | some x => exact h x (List.mem_of_getElem? e)
theorem wholeR_le {k : Int} {op : List Nat} {rg md sd : Int} {bl : Bool} {A : List Nat} (h : ∀ x ∈ A, x ≤ 3) : wholeR k op rg md sd bl A ≤ 3 := by
 unfold wholeR
 (repeat' split) <;> first | decide | exact call_le | exact right_le (getD_le h) (getD_le h) | exact getD_le h
theorem typeM_ok {k : Int} {op : List Nat} {rg md sd : Int} {bl : Bool} {len : Nat} {ty er : Nat → Nat} (hty : ∀ i, i < len → er i = 0 → 1 ≤ ty i ∧ ty i ≤ 3)
  (h : (typeM k op rg md sd bl len ty er).2 = 0) : 1 ≤ (typeM k op rg md sd bl len ty er).1 ∧ (typeM k op rg md sd bl len ty er).1 ≤ 3 := by
 by_cases h1 : k = 3 ∧ (callM op).2 = 0
 ·exfalso
  unfold typeM at h
  rw [if_pos h1] at h
  simp at h
 by_cases h2 : errM er len ≠ 0
 ·exfalso
  unfold typeM at h
  rw [if_neg h1, if_pos h2] at h
  exact h2 h
 have he := Decidable.not_not.1 h2
 have hk := kl_ty hty he
 have hw : wholeM k op rg md sd bl (kl ty len) ≤ 3 := by
  rw [whole_right fun x hx => (hk x hx).1]
  exact wholeR_le fun x hx => (hk x hx).2
 by_cases h3 : wholeM k op rg md sd bl (kl ty len) = 0
 ·exfalso
  unfold typeM at h
  rw [if_neg h1, if_neg h2, if_pos h3] at h
  simp at h
 unfold typeM
 rw [if_neg h1, if_neg h2, if_neg h3]
 exact ⟨by simp only; omega, hw⟩
def tpair (t e : Nat) : AV := .tuple [.int .i64 ((t : Nat) : Int), .int .i64 ((e : Nat) : Int)]
theorem types_eq {hs : HSt} (hro : ∀ e ∈ hs, e.w = false) : ∀ (d : Nat) (c : List AV), NRep hs d c →
  ∃ t e : Nat, Spec tab 35 [.agg c] [] hs (Val (tpair t e)) ∧ Spec tab 38 [.agg c] [] hs (Val (tpair t e)) ∧ (e = 0 → 1 ≤ t ∧ t ≤ 3)
 | 0, _, h => h.elim
 | d + 1, c, ⟨k, op, n, ms, rg, off, md, nm, sd, bl, kd, h1, h2, h3, h5, h6, h4⟩ => by
  subst h1
  rcases h4 with rfl | ⟨b, len, ob, rfl, hm, hl, hk⟩
  ·have hty : ∀ i, i < 0 → (fun _ : Nat => (0 : Nat)) i = 0 → 1 ≤ (fun _ : Nat => (1 : Nat)) i ∧ (fun _ : Nat => (1 : Nat)) i ≤ 3 := fun i hi => absurd hi (Nat.not_lt_zero _)
   exact ⟨_, _, type_spec k op h2 n ms rg off md nm sd bl h5 h6 hs hro d .nils 0 rfl rfl (by omega) (fun _ => []) (fun i hi => absurd hi (Nat.not_lt_zero _)) _ _ (fun i hi => absurd hi (Nat.not_lt_zero _)) hty,
    rtype_spec k op h2 n ms rg off md nm sd bl h5 h6 hs hro d .nils 0 rfl rfl (by omega) (fun _ => []) (fun i hi => absurd hi (Nat.not_lt_zero _)) _ _ (fun i hi => absurd hi (Nat.not_lt_zero _)) hty, typeM_ok hty⟩
  ·have hk2 : ∀ i, ∃ c' : List AV, ∃ t e : Nat, i < len → (sub? ob.cells ((0 + i) * 11) 11 = some c' ∧ NRep hs d c' ∧ Spec tab 35 [.agg c'] [] hs (Val (tpair t e)) ∧ Spec tab 38 [.agg c'] [] hs (Val (tpair t e)) ∧ (e = 0 → 1 ≤ t ∧ t ≤ 3)) := by
    intro i
    by_cases hi : i < len
    ·obtain ⟨c', g1, g2⟩ := hk i hi
     obtain ⟨t, e, g3, g4, g5⟩ := types_eq hro d c' g2
     exact ⟨c', t, e, fun _ => ⟨g1, g2, g3, g4, g5⟩⟩
    ·exact ⟨[], 0, 0, fun h => absurd h hi⟩
   refine Exists.elim (Classical.skolem.1 hk2) fun kc hk3 => ?_
   refine Exists.elim (Classical.skolem.1 hk3) fun ty hk4 => ?_
   refine Exists.elim (Classical.skolem.1 hk4) fun er hk5 => ?_
   have hty : ∀ i, i < len → er i = 0 → 1 ≤ ty i ∧ ty i ≤ 3 := fun i hi => (hk5 i hi).2.2.2.2
   have hK : ∀ i, i < len → ∃ b' ob', AV.slice b 0 len 11 = .slice b' 0 len 11 ∧ MemH hs b' ob' ∧ sub? ob'.cells ((0 + i) * 11) 11 = some (kc i) ∧ NRep hs d (kc i) :=
    fun i hi => ⟨b, ob, rfl, hm, (hk5 i hi).1, (hk5 i hi).2.1⟩
   exact ⟨_, _, type_spec k op h2 n ms rg off md nm sd bl h5 h6 hs hro d (.slice b 0 len 11) len rfl rfl hl kc hK ty er (fun i hi => (hk5 i hi).2.2.1) hty,
    rtype_spec k op h2 n ms rg off md nm sd bl h5 h6 hs hro d (.slice b 0 len 11) len rfl rfl hl kc hK ty er (fun i hi => (hk5 i hi).2.2.2.1) hty, typeM_ok hty⟩
end Go.Proofs.YtndhhgbpcmfeiaaGreatDoor.Ev.P16
