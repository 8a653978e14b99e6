/- Layer 15, the plain law: what PrintDur prints, Dur reads as it was. -/
import Derived.Test.YtdpcpnhkkedfcaaDoorProg
import Derived.WalkKit
import Derived.ProofKit
import Derived.OpenShut
import Derived.Outline
import Derived.WalkSpells
import Derived.WalkLawsBesides
import Derived.Deep.QuietTactic
import Derived.BigQuiet
import Derived.Lib.Hide
import Derived.Deep.DeepFit
import Derived.Deep.DeepMust

import Derived.Test.YtdpcpnhkkedfcaaDoorLexY
import Derived.Test.YtdpcpnhkkedfcaaDoorLexI
namespace Go.Proofs.YtdpcpnhkkedfcaaDoor
open Go.ChangeShapes Go.WideShapes Go.ChangeAt Go.RowKit
set_option linter.unusedVariables false
set_option maxRecDepth 100000
theorem dec_unfold (u : Nat) : Lib.decDigits u = if u < 10 then [UInt8.ofNat (48 + u)] else Lib.decDigits (u / 10) ++ [UInt8.ofNat (48 + u % 10)] := by
  rw [Lib.decDigits]
  split <;> rfl
theorem dig_nat (r : Nat) (h : r < 10) : (UInt8.ofNat (48 + r)).toNat = 48 + r := by
  simp
  omega
theorem dec_all (u : Nat) : ∀ c ∈ Lib.decDigits u, isDig c.toNat = true := by
  induction u using Nat.strongRecOn with
  | _ u ih =>
    intro c hc
    rw [dec_unfold] at hc
    split at hc
    · rename_i h
      rw [List.mem_singleton] at hc
      subst hc
      rw [isDig_iff, dig_nat u h]
      omega
    · rename_i h
      rcases List.mem_append.1 hc with hc | hc
      · exact ih (u / 10) (by omega) c hc
      · rw [List.mem_singleton] at hc
        subst hc
        rw [isDig_iff, dig_nat _ (by omega)]
        omega
theorem decA_append : ∀ (a b : List UInt8) (acc : Nat), decA acc (a ++ b) = decA (decA acc a) b
  | [], _, _ => rfl
  | _ :: a, b, _ => decA_append a b _
theorem dec_read (u : Nat) : decA 0 (Lib.decDigits u) = u := by
  induction u using Nat.strongRecOn with
  | _ u ih =>
    rw [dec_unfold]
    split
    · rename_i h
      show 0 * 10 + ((UInt8.ofNat (48 + u)).toNat - 48) = u
      rw [dig_nat u h]
      omega
    · rw [decA_append, ih (u / 10) (by omega)]
      show u / 10 * 10 + ((UInt8.ofNat (48 + u % 10)).toNat - 48) = u
      rw [dig_nat _ (by omega)]
      omega
theorem dec_head (u : Nat) : 1 ≤ u → ∃ c r, Lib.decDigits u = c :: r ∧ c.toNat ≠ 48 := by
  induction u using Nat.strongRecOn with
  | _ u ih =>
    intro h1
    rw [dec_unfold]
    split
    · rename_i h
      exact ⟨_, [], rfl, by rw [dig_nat u h]; omega⟩
    · obtain ⟨c, r, he, hc⟩ := ih (u / 10) (by omega) (by omega)
      exact ⟨c, r ++ [_], by rw [he]; rfl, hc⟩
theorem pre_append {p : Nat → Bool} : ∀ {A B : List UInt8}, (∀ c ∈ A, p c.toNat = true) → pre p B = 0 → pre p (A ++ B) = A.length
  | [], _, _, hB => hB
  | c :: A, B, hA, hB => by
    show pre p (c :: (A ++ B)) = _
    unfold pre
    rw [if_pos (hA c (List.mem_cons_self ..)), pre_append (fun x hx => hA x (List.mem_cons_of_mem _ hx)) hB]
    rfl
theorem pre_zero {p : Nat → Bool} {c : UInt8} {r : List UInt8} (h : p c.toNat = false) : pre p (c :: r) = 0 := by
  unfold pre
  rw [h]
  rfl
structure Nm (j : Nat) : Prop where
  all : ∀ c ∈ uNames.getD j [], isLet c.toNat = true
  ne : uNames.getD j [] ≠ []
  ix : uix (uNames.getD j []) 6 = (j : Int)
theorem nm_of (j : Nat) (hj : j < 6) : Nm j :=
  six (p := Nm) ⟨⟨by decide, by decide, by decide⟩, ⟨by decide, by decide, by decide⟩, ⟨by decide, by decide, by decide⟩, ⟨by decide, by decide, by decide⟩, ⟨by decide, by decide, by decide⟩, ⟨by decide, by decide, by decide⟩⟩ j hj
theorem dig_not_let {c : Nat} (h : isDig c = true) : isLet c = false := by
  cases hl : isLet c
  · rfl
  · rw [let_not_dig hl] at h
    cases h
theorem pd_let : ∀ (i n : Nat), i ≤ 6 → pre isLet (pd i n) = 0
  | 0, _, _ => rfl
  | i + 1, n, hi => by
    unfold pd
    split
    · rename_i h
      have hz := (uS_bd (5 - i) (by omega)).1
      obtain ⟨c, r, he, _⟩ := dec_head (n / uS (5 - i)) (by rw [Nat.le_div_iff_mul_le (by omega)]; omega)
      have hd := dec_all (n / uS (5 - i)) c (by rw [he]; exact List.mem_cons_self ..)
      rw [he]
      exact pre_zero (dig_not_let hd)
    · exact pd_let i n (by omega)
theorem name_dig {j : Nat} (h : Nm j) (X : List UInt8) : pre isDig (uNames.getD j [] ++ X) = 0 := by
  cases hn : uNames.getD j [] with
  | nil => exact absurd hn h.ne
  | cons c r =>
    have hc := h.all c (by rw [hn]; exact List.mem_cons_self ..)
    exact pre_zero (let_not_dig hc)
theorem round_trip : ∀ (i n sum f : Nat) (st : Int), i ≤ 6 → (i = 0 → n = 0) → sum + n ≤ 2147483648 → st ≤ 6 - (i : Int) → (pd i n).length ≤ f → durL f (pd i n) st sum false = some (sum + n, false)
  | 0, n, sum, f, st, _, h0, _, _, _ => by
    rw [h0 rfl]
    cases f <;> rfl
  | i + 1, n, sum, f, st, hi, _, hs, hst, hf => by
    obtain ⟨z, hzd⟩ : ∃ z, uS (5 - i) = z := ⟨_, rfl⟩
    have hz := (uS_bd (5 - i) (by omega)).1
    have hz5 : i = 0 → z = 1 := by rintro rfl; rw [← hzd]; rfl
    rw [hzd] at hz
    unfold pd at hf ⊢
    rw [hzd] at hf ⊢
    split at hf
    · rename_i hle
      rw [if_pos hle]
      obtain ⟨q, hq⟩ : ∃ q, n / z = q := ⟨_, rfl⟩
      have hq1 : 1 ≤ q := by rw [← hq, Nat.le_div_iff_mul_le (by omega)]; omega
      have hmod := Nat.div_add_mod n z
      have hmz : i = 0 → n % z = 0 := fun e => by rw [hz5 e]; exact Nat.mod_one n
      rw [hq] at hf hmod ⊢
      have N := nm_of (5 - i) (by omega)
      obtain ⟨nm, hnm⟩ : ∃ nm, uNames.getD (5 - i) [] = nm := ⟨_, rfl⟩
      obtain ⟨rest, hrest⟩ : ∃ rest, pd i (n % z) = rest := ⟨_, rfl⟩
      have hrl := pd_let i (n % z) (by omega)
      have hnd := name_dig N rest
      rw [hrest] at hf hrl ⊢
      rw [hnm] at hf hnd ⊢
      obtain ⟨c, r, he, hc48⟩ := dec_head q hq1
      have hk : pre isDig (Lib.decDigits q ++ (nm ++ rest)) = (Lib.decDigits q).length := pre_append (dec_all q) hnd
      have hdr : (Lib.decDigits q ++ (nm ++ rest)).drop (Lib.decDigits q).length = nm ++ rest := by simp
      have hm : pre isLet (nm ++ rest) = nm.length := pre_append (by rw [← hnm]; exact N.all) hrl
      have htk : (Lib.decDigits q ++ (nm ++ rest)).take (Lib.decDigits q).length = Lib.decDigits q := by simp
      have hdr2 : (Lib.decDigits q ++ (nm ++ rest)).drop ((Lib.decDigits q).length + nm.length) = rest := by rw [← List.drop_drop, hdr]; simp
      have hlen : (Lib.decDigits q).length = r.length + 1 := by rw [he]; rfl
      cases f with
      | zero => rw [List.length_append, hlen] at hf; omega
      | succ f =>
        have hf' : rest.length ≤ f := by
          simp at hf
          omega
        have e := durL_cons f c (r ++ (nm ++ rest)) st sum false (Lib.decDigits q).length nm.length ((5 - i : Nat) : Int)
          (by rw [← List.cons_append, ← he]; exact hk) (by rw [← List.cons_append, ← he, hdr]; exact hm)
          (by rw [← List.cons_append, ← he, hdr, List.take_left', ← hnm]; exact N.ix; rfl)
        rw [← List.cons_append, ← he] at e
        rw [e]
        have hzz : uSizes.getD ((5 - i : Nat) : Int).toNat 1 = z := hzd
        have hqz : q * z + n % z = n := by rw [Nat.mul_comm]; exact hmod
        have hov : ¬ (q > 2147483648 / z ∨ sum + q * z > 2147483648) := by
          rintro (h | h)
          · have : q ≤ 2147483648 / z := by rw [Nat.le_div_iff_mul_le (by omega)]; omega
            exact absurd h (Nat.not_lt.2 this)
          · omega
        have hno : ¬ ((Lib.decDigits q).length = 0 ∨ c.toNat = 48 ∨ ((5 - i : Nat) : Int) < st) := by
          rintro (h | h | h)
          · omega
          · exact hc48 h
          · omega
        have ih := round_trip i (n % z) (sum + q * z) f (((5 - i : Nat) : Int) + 1) (by omega) hmz (by omega) (by omega) (by rw [hrest]; exact hf')
        rw [hrest] at ih
        simp only [htk, dec_read, hzz, hdr2]
        rw [if_neg hno, if_neg hov, ih]
        congr 2
        omega
    · rename_i hle
      rw [if_neg hle]
      exact round_trip i n sum f st (by omega) (fun e => by have := hz5 e; omega) hs (by omega) hf
theorem pd_ne : ∀ (i n : Nat), i ≤ 6 → 1 ≤ i → 1 ≤ n → ∃ c r, pd i n = c :: r ∧ c.toNat ≠ 48
  | 0, _, _, h, _ => absurd h (by omega)
  | i + 1, n, hi, _, hn => by
    unfold pd
    have hz := (uS_bd (5 - i) (by omega)).1
    split
    · obtain ⟨c, r, he, hc⟩ := dec_head (n / uS (5 - i)) (by rw [Nat.le_div_iff_mul_le (by omega)]; omega)
      exact ⟨c, _, by rw [he]; rfl, hc⟩
    · rename_i h
      cases i with
      | zero => exact absurd (show uS 5 ≤ n from hn) h
      | succ i => exact pd_ne (i + 1) n (by omega) (by omega) hn
theorem durM_pdM (n : Int) (h0 : 0 ≤ n) (h1 : n ≤ 2147483648) : durM (pdM n).1 = (n, 0) := by
  unfold pdM
  rw [if_neg (by omega)]
  split
  · rename_i h
    rw [h]
    rfl
  · rename_i h
    obtain ⟨m, rfl⟩ : ∃ m : Nat, n = m := ⟨n.toNat, by omega⟩
    obtain ⟨c, r, he, hc⟩ := pd_ne 6 m (by omega) (by omega) (by omega)
    have ht : ((m : Int)).toNat = m := by omega
    have rt := round_trip 6 m 0 (pd 6 m).length 0 (by omega) (by omega) (by omega) (by omega) (Nat.le_refl _)
    simp only [ht]
    unfold durM
    have a1 : pd 6 m ≠ [48, 115] := by
      rw [he]
      intro e
      simp only [List.cons.injEq] at e
      rw [e.1] at hc
      exact hc rfl
    have a2 : pd 6 m ≠ [] := by rw [he]; exact fun e => by cases e
    rw [if_neg a1, if_neg a2, rt, Nat.zero_add]
theorem pd_len : ∀ (i n : Nat), i ≤ 6 → n ≤ 2147483648 → (pd i n).length ≤ i * 23
  | 0, _, _, _ => Nat.le_refl _
  | i + 1, n, hi, hn => by
    unfold pd
    have hz := (uS_bd (5 - i) (by omega)).1
    split
    · have h1 := dec_len (n / uS (5 - i)) (by have := Nat.div_le_self n (uS (5 - i)); omega)
      have h2 := pd_len i (n % uS (5 - i)) (by omega) (by have := Nat.mod_le n (uS (5 - i)); omega)
      have h3 : (uNames.getD (5 - i) []).length ≤ 2 := six (p := fun j => (uNames.getD j []).length ≤ 2) (by decide) (5 - i) (by omega)
      simp only [List.length_append]
      omega
    · have := pd_len i n (by omega) hn
      omega
theorem pdM_len (n : Int) : (pdM n).1.length ≤ 138 := by
  unfold pdM
  split
  · exact Nat.zero_le _
  · split
    · show 2 ≤ 138
      omega
    · rename_i h _
      exact pd_len 6 n.toNat (by omega) (by omega)
end Go.Proofs.YtdpcpnhkkedfcaaDoor
