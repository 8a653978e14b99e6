/- What is known of a number that is not looked into: its last bits. -/
import Derived.Test.YtnlnmbnopdklhaaLive17
import Derived.IntWalk
namespace Go.Proofs.Ytnlnmbnopdklhaa.Ev
open Go.RowKit
/-- Known: number b's bits under a mask (mask + 1 a power of two). -/
def obT : List (Nat × Int × Int) → BinOp → Nat → IntKind → Int → Option AV
  | [], _, _, _, _ => none
  | (b, m, r) :: l, op, c, k, n =>
    match op, k with
    | .and, .i64 => match Nat.beq b c && eqA m n with
      | true => some (.int .i64 r)
      | false => obT l op c k n
    | _, _ => none
theorem and_mask (x : Int) (k : Nat) (hk : k ≤ 62) : IntKind.i64.wrap ((BitVec.ofInt 64 x &&& BitVec.ofInt 64 (2 ^ k - 1 : Nat)).toNat : Int) = x % (2 ^ k : Nat) := by
  have h2 : (2 ^ k : Nat) ≤ 2 ^ 62 := Nat.pow_le_pow_right (by omega) hk
  have hpos : 0 < (2 ^ k : Nat) := Nat.pow_pos (by omega)
  have hdvd : ((2 ^ k : Nat) : Int) ∣ (2 ^ 64 : Int) := by
    refine ⟨((2 ^ (64 - k) : Nat) : Int), ?_⟩
    rw [← Int.natCast_mul, ← Nat.pow_add, show k + (64 - k) = 64 by omega]
    rfl
  have e1 : (BitVec.ofInt 64 ((2 ^ k - 1 : Nat) : Int)).toNat = 2 ^ k - 1 := by
    rw [BitVec.toNat_ofInt]
    generalize (2 ^ k : Nat) = p at h2 hpos
    have h3 : p ≤ 4611686018427387904 := h2
    have : (((p - 1 : Nat) : Int) % ((2 ^ 64 : Nat) : Int)) = ((p - 1 : Nat) : Int) := Int.emod_eq_of_lt (by omega) (by
      show ((p - 1 : Nat) : Int) < 18446744073709551616
      omega)
    rw [this]
    rfl
  have e2 : (BitVec.ofInt 64 x &&& BitVec.ofInt 64 ((2 ^ k - 1 : Nat) : Int)).toNat = (BitVec.ofInt 64 x).toNat % 2 ^ k := by
    rw [BitVec.toNat_and, e1, Nat.and_two_pow_sub_one_eq_mod]
  rw [e2, BitVec.toNat_ofInt]
  have hx : 0 ≤ x % ((2 ^ 64 : Nat) : Int) := Int.emod_nonneg _ (by decide)
  have e3 : (((x % ((2 ^ 64 : Nat) : Int)).toNat % 2 ^ k : Nat) : Int) = x % ((2 ^ k : Nat) : Int) := by
    rw [Int.natCast_emod, Int.toNat_of_nonneg hx]
    exact Int.emod_emod_of_dvd x hdvd
  rw [e3]
  have hr0 : 0 ≤ x % ((2 ^ k : Nat) : Int) := Int.emod_nonneg _ (by omega)
  have hr1 : x % ((2 ^ k : Nat) : Int) < ((2 ^ k : Nat) : Int) := Int.emod_lt_of_pos _ (by omega)
  generalize (2 ^ k : Nat) = p at *
  have h3 : p ≤ 4611686018427387904 := h2
  exact IntWalk.i64_in _ ⟨by omega, by omega⟩
theorem obT_ok {vs : List Value} : ∀ {l : List (Nat × Int × Int)}, (∀ x ∈ l, ∃ (v : Int) (k : Nat), k ≤ 62 ∧ vs[x.1]? = some (.int .i64 v) ∧ x.2.1 = ((2 ^ k - 1 : Nat) : Int) ∧ x.2.2 = v % (2 ^ k : Nat)) →
    ∀ op b k n v, obT l op b k n = some v → ∀ (M : Inj) (u : Value) (t : Nat) (w : World), (injOf vs).le M → VRel M (.opq b) u →
      (∃ j a, u = .int j a) ∧ ∃ x, (binOp op t u (.int k n)).run Try.prog w = .ok x w ∧ VRel M v x
  | [], hl, op, b, k, n, v, h => by cases h
  | (c, m, r) :: l, hl, op, b, k, n, v, h => by
    intro M u t w hM hu
    unfold obT at h
    split at h
    · split at h
      · rename_i hb
        simp only [Bool.and_eq_true, Nat.beq_eq, eqA_eq, beq_iff_eq] at hb
        obtain ⟨rfl, rfl⟩ := hb
        simp only [Option.some.injEq] at h
        subst h
        obtain ⟨x, q, hq, hx, hm, hr⟩ := hl _ List.mem_cons_self
        simp only at hx hm hr
        have he := opq_of hM hx hu
        subst he
        refine ⟨⟨_, _, rfl⟩, ?_⟩
        obtain ⟨y, h1, h2⟩ := intBin_ok (P := Try.prog) M (op := .and) (k := .i64) (a := x) (b := m) t rfl w
        refine ⟨y, h1, ?_⟩
        unfold bitsA at h2
        rw [wrapA_eq, hm] at h2
        have h3 : VRel M (.int .i64 (IntKind.i64.wrap ((BitVec.ofInt 64 x &&& BitVec.ofInt 64 ((2 ^ q - 1 : Nat) : Int)).toNat : Int))) y := h2
        rw [and_mask x q hq, ← hr] at h3
        exact h3
      · exact obT_ok (fun x hx => hl x (List.mem_cons_of_mem _ hx)) _ _ _ _ _ h M u t w hM hu
    · cases h
end Go.Proofs.Ytnlnmbnopdklhaa.Ev
