/- Plain arithmetic for Div64 by halves. -/
import Derived.Lib.ItoaNum
import Derived.Lib.BitFns
import Derived.IntWalk
namespace Go.Proofs.YthbdgnmgdpbdjaaDoor
open Go
/-- The trial quotient's step: what the loop has at its end is the quotient. -/
theorem trial_le (u v Y n1 n0 q r Q : Nat) (hY : Y = n1 * 4294967296 + n0) (hu : u = q * n1 + r) (hQ1 : u * 4294967296 + v < (Q + 1) * Y)
    (h : q * n0 ≤ 4294967296 * r + v) : q ≤ Q := by
  rcases Nat.lt_or_ge Q q with hlt | hge
  · exfalso
    have h1 : (Q + 1) * Y ≤ q * Y := Nat.mul_le_mul_right _ hlt
    have h2 : q * Y = q * n1 * 4294967296 + q * n0 := by rw [hY, Nat.mul_add, ← Nat.mul_assoc]
    omega
  · exact hge
theorem trial_gt (u v Y n1 n0 q r Q : Nat) (hY : Y = n1 * 4294967296 + n0) (hu : u = q * n1 + r) (hQ0 : Q * Y ≤ u * 4294967296 + v)
    (h : 4294967296 * r + v < q * n0) : Q < q := by
  rcases Nat.lt_or_ge Q q with hlt | hge
  · exact hlt
  · exfalso
    have h1 : q * Y ≤ Q * Y := Nat.mul_le_mul_right _ hge
    have h2 : q * Y = q * n1 * 4294967296 + q * n0 := by rw [hY, Nat.mul_add, ← Nat.mul_assoc]
    omega
theorem trial_break (u v Y n1 n0 q r Q : Nat) (hY : Y = n1 * 4294967296 + n0) (h0 : n0 < 4294967296) (hu : u = q * n1 + r) (huY : u < Y) (_h1 : 0 < n1)
    (hQ1 : u * 4294967296 + v < (Q + 1) * Y) (hr : 4294967296 ≤ r) : q ≤ Q := by
  refine trial_le u v Y n1 n0 q r Q hY hu hQ1 ?_
  have hq : q < 4294967296 := by
    rcases Nat.lt_or_ge q 4294967296 with h | h
    · exact h
    · exfalso
      have : 4294967296 * n1 ≤ q * n1 := Nat.mul_le_mul_right _ h
      omega
  have h2 : q * n0 ≤ 4294967296 * 4294967296 := Nat.mul_le_mul (by omega) (by omega)
  omega
theorem trial_step (u n1 q r : Nat) (hu : u = (q + 1) * n1 + r) : u = q * n1 + (r + n1) := by
  rw [Nat.add_mul, Nat.one_mul] at hu; omega
theorem wrapR (u v p R : Int) (h0 : 0 ≤ R) (h1 : R < 18446744073709551616) (h : u * 4294967296 + v = p + R) :
    IntKind.u64.wrap (IntKind.u64.wrap (IntKind.u64.wrap (u * 4294967296) + v) - IntKind.u64.wrap p) = R := by
  simp only [IntKind.wrap, IntKind.signed, IntKind.bits] at *
  simp at *
  omega

theorem norm_shift (y : Nat) (h0 : y ≠ 0) (h : y < 18446744073709551616) :
    ∃ s : Nat, s ≤ 63 ∧ (64 : Int) - (Lib.bitLen y : Int) = (s : Int) ∧ 9223372036854775808 ≤ y * 2 ^ s ∧ y * 2 ^ s < 18446744073709551616 := by
  obtain ⟨b1, b2, b3⟩ := Lib.bitLenAux_bounds 64 y (by simpa using h) h0
  have hb : Lib.bitLen y = Lib.bitLenAux 64 y := rfl
  have hle : Lib.bitLenAux 64 y ≤ 64 := Lib.bitLenAux_le 64 y 64 (by simpa using h)
  rw [hb]
  generalize Lib.bitLenAux 64 y = k at *
  refine ⟨64 - k, by omega, by omega, ?_, ?_⟩
  · have := Nat.mul_le_mul_right (2 ^ (64 - k)) b2
    rw [← Nat.pow_add, show k - 1 + (64 - k) = 63 by omega] at this
    exact this
  · have := Nat.mul_lt_mul_of_pos_right b3 (Nat.two_pow_pos (64 - k))
    rw [← Nat.pow_add, show k + (64 - k) = 64 by omega] at this
    exact this
theorem half_facts (u v Y n1 n0 : Nat) (hY : Y = n1 * 4294967296 + n0) (h0 : n0 < 4294967296) (hn : 2147483648 ≤ n1) (hn' : n1 < 4294967296) (hu : u < Y) (hv : v < 4294967296) :
    (u * 4294967296 + v) / Y < 4294967296 ∧ (u * 4294967296 + v) / Y ≤ u / n1 ∧ u / n1 < 8589934592 ∧ (u * 4294967296 + v) % Y < Y ∧ u / n1 * n1 ≤ u ∧ u % n1 < 4294967296 ∧ u = u / n1 * n1 + u % n1 ∧
    (u * 4294967296 + v) / Y * Y ≤ u * 4294967296 + v ∧ u * 4294967296 + v < ((u * 4294967296 + v) / Y + 1) * Y := by
  have hYp : 0 < Y := by omega
  have hnp : 0 < n1 := by omega
  have e1 := Nat.div_add_mod (u * 4294967296 + v) Y
  have e2 := Nat.mod_lt (u * 4294967296 + v) hYp
  have e3 := Nat.div_add_mod u n1
  have e4 := Nat.mod_lt u hnp
  generalize (u * 4294967296 + v) / Y = Q at *
  generalize (u * 4294967296 + v) % Y = R at *
  generalize u / n1 = q at *
  generalize u % n1 = r at *
  have hQ : Q < 4294967296 := by
    rcases Nat.lt_or_ge Q 4294967296 with h | h
    · exact h
    · exfalso
      have := Nat.mul_le_mul_left Y h
      omega
  have m1 : Y * Q = Q * Y := Nat.mul_comm _ _
  have m2 : n1 * q = q * n1 := Nat.mul_comm _ _
  have m3 : (Q + 1) * Y = Q * Y + Y := by rw [Nat.add_mul, Nat.one_mul]
  have m4 : Q * Y = Q * n1 * 4294967296 + Q * n0 := by rw [hY, Nat.mul_add, ← Nat.mul_assoc]
  refine ⟨hQ, ?_, ?_, e2, by omega, by omega, by omega, by omega, by omega⟩
  · rcases Nat.lt_or_ge q Q with h | h
    · exfalso
      have := Nat.mul_le_mul_right n1 h
      rw [Nat.succ_mul] at this
      omega
    · exact h
  · rcases Nat.lt_or_ge q 8589934592 with h | h
    · exact h
    · exfalso
      have := Nat.mul_le_mul_right n1 h
      omega
theorem join_quot (hi lo y s u v Y Q R v1 v0 Q' : Nat) (hy : 0 < y) (hY : Y = y * 2 ^ s) (hU : (hi * 18446744073709551616 + lo) * 2 ^ s = u * 18446744073709551616 + v)
    (hv : v = v1 * 4294967296 + v0) (hQ : u * 4294967296 + v1 = Q * Y + R) (hQ' : R * 4294967296 + v0 < (Q' + 1) * Y) (hQ'' : Q' * Y ≤ R * 4294967296 + v0) :
    (hi * 18446744073709551616 + lo) / y = Q * 4294967296 + Q' := by
  have hYp : 0 < Y := by rw [hY]; exact Nat.mul_pos hy (Nat.two_pow_pos s)
  obtain ⟨U, hU'⟩ : ∃ U, U = u * 18446744073709551616 + v := ⟨_, rfl⟩
  obtain ⟨K, hK⟩ : ∃ K, K = Q * 4294967296 + Q' := ⟨_, rfl⟩
  rw [← Nat.mul_div_mul_right _ _ (Nat.two_pow_pos s), hU, ← hY, ← hU', ← hK]
  have m1 : K * Y = Q * Y * 4294967296 + Q' * Y := by rw [hK, Nat.add_mul, Nat.mul_right_comm]
  have m2 : (Q' + 1) * Y = Q' * Y + Y := by rw [Nat.add_mul, Nat.one_mul]
  have m3 : (K + 1) * Y = K * Y + Y := by rw [Nat.add_mul, Nat.one_mul]
  have g1 : K * Y ≤ U := by omega
  have g2 : U < (K + 1) * Y := by omega
  exact Nat.div_eq_of_lt_le g1 g2
end Go.Proofs.YthbdgnmgdpbdjaaDoor
