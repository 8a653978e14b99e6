/- Walks of package fixed, first part: each function computes its model. -/
import Derived.Test.YtndhhgbpcmfeiaaGreatDoorProg
import Derived.WalkKit
import Derived.ProofKit
import Derived.OpenShut
import Derived.Outline
import Derived.WalkSpells
import Derived.WalkLawsBesides
import Derived.Deep.QuietTactic
import Derived.BigQuiet
import Derived.Lib.Hide
import Derived.Deep.DeepFit
import Derived.Deep.DeepMust
import Derived.Shelf.Strings.Builder1
import Derived.Shelf.Strings.OnBuilder
import Derived.Shelf.Small.Bits
import Derived.Shelf.Bits.Mul64
import Derived.Lib.ItoaNum
import Derived.Lib.BitFns
import Derived.IntWalk
import Derived.Laws.Bits64b

namespace Go.Proofs.YtndhhgbpcmfeiaaGreatDoor
open Go.ChangeShapes Go.WideShapes Go.ChangeAt Go.RowKit
set_option maxRecDepth 100000
def ey (n : Int) : Bool := decide (-1152921504606846976 <= n /\ n <= 1152921504606846976)
theorem iO {n : Int} (h : ey n = true) : -1152921504606846976 <= n /\ n <= 1152921504606846976 := by simpa [ey] using h
theorem ev {P : Program} {f : FuncId} {args : Array Value} {w : World} {n : Nat} {v : Value}
  (h : Calls P f args (w.drewN n) fun e w' => e = .returned v /\ w.drewN n = w') : Calls P f args (w.drewN n) fun e w'' => e = .returned v /\ ∃ m, w'' = w.drewN m :=
 h.mono fun _ _ ⟨he, hm⟩ => ⟨he, n, hm.symm⟩
theorem yN {k : IntKind} {a b : Int} (h : a = b) : Ending.returned (.int k a) = .returned (.int k b) := by rw [h]
theorem HJ {k l : IntKind} {a b c d : Int} (h : a = b) (h' : c = d) : Ending.returned (.tuple #[.int k a, .int l c]) = .returned (.tuple #[.int k b, .int l d]) := by rw [h, h']
def pz (n : Int) : Int × Int := if ey n then (n, 0) else (0, 11)
def sJ (a b : Int) : Int × Int := if ey a && ey b then pz (a + b) else (0, 2)
def sK (a b : Int) : Int × Int := if ey a && ey b then pz (a - b) else (0, 2)

theorem dY (n : Int) (w : World) :
  Calls Tryz.prog 75 #[.int .i64 n] w fun e w' => e = .returned (.bool (ey n)) /\ w = w' := by
 go_enter Tryz.func75, Tryz.ntmps75
 go_wp2
 all_goals (go_ret; exact ⟨by simp [ey]; omega, rfl⟩)
theorem uS (n : Int) (w : World) :
  Calls Tryz.prog 142 #[.int .i64 n] w fun e w' => e = .returned (.tuple #[.int .i64 (pz n).1, .int .i64 (pz n).2]) /\ w = w' := by
 go_enter Tryz.func142, Tryz.ntmps142
 go_wp2_with (go_at_call 75; ((with_reducible refine (dY _ _).mono ?_); rintro e w' ⟨rfl, rfl⟩))
 all_goals (go_tidy; try simp only [Bool.not_eq_true', Bool.not_eq_false'] at *)
 all_goals (go_ret2; exact ⟨by simp [pz, *], rfl⟩)
theorem DQ (a b : Int) (w : World) :
  Calls Tryz.prog 107 #[.int .i64 a, .int .i64 b] w fun e w' => e = .returned (.tuple #[.int .i64 (sJ a b).1, .int .i64 (sJ a b).2]) /\ w = w' := by
 go_enter Tryz.func107, Tryz.ntmps107
 cases ha : ey a <;> cases hb : ey b
 case true.true =>
  have ha' := iO ha
  have hb' := iO hb
  go_wp2_with (first | (go_at_call 75; ((with_reducible refine (dY _ _).mono ?_); rintro e w' ⟨rfl, rfl⟩)) | (go_at_call 142; ((with_reducible refine (uS _ _).mono ?_); rintro e w' ⟨rfl, rfl⟩)))
  all_goals (go_tidy; try simp only [Bool.not_eq_true', Bool.not_eq_false'] at *)
  all_goals (go_ret2; exact ⟨by simp [sJ, *], rfl⟩)
 all_goals
  go_wp2_with (first | (go_at_call 75; ((with_reducible refine (dY _ _).mono ?_); rintro e w' ⟨rfl, rfl⟩)))
  all_goals (go_tidy; try simp only [Bool.not_eq_true', Bool.not_eq_false'] at *)
  all_goals (go_ret2; exact ⟨by simp [sJ, *], rfl⟩)
theorem E1 (a b : Int) (w : World) :
  Calls Tryz.prog 108 #[.int .i64 a, .int .i64 b] w fun e w' => e = .returned (.tuple #[.int .i64 (sK a b).1, .int .i64 (sK a b).2]) /\ w = w' := by
 go_enter Tryz.func108, Tryz.ntmps108
 cases ha : ey a <;> cases hb : ey b
 case true.true =>
  have ha' := iO ha
  have hb' := iO hb
  go_wp2_with (first | (go_at_call 75; ((with_reducible refine (dY _ _).mono ?_); rintro e w' ⟨rfl, rfl⟩)) | (go_at_call 142; ((with_reducible refine (uS _ _).mono ?_); rintro e w' ⟨rfl, rfl⟩)))
  all_goals (go_tidy; try simp only [Bool.not_eq_true', Bool.not_eq_false'] at *)
  all_goals (go_ret2; exact ⟨by simp [sK, *], rfl⟩)
 all_goals
  go_wp2_with (first | (go_at_call 75; ((with_reducible refine (dY _ _).mono ?_); rintro e w' ⟨rfl, rfl⟩)))
  all_goals (go_tidy; try simp only [Bool.not_eq_true', Bool.not_eq_false'] at *)
  all_goals (go_ret2; exact ⟨by simp [sK, *], rfl⟩)
theorem qh (n : Int) (w : World) (h : -1152921504606846976 <= n /\ n <= 1152921504606846976) :
  Calls Tryz.prog 137 #[.int .i64 n] w fun e w' => e = .returned (.int .u64 ((n.natAbs : Nat) : Int)) /\ w = w' := by
 have h1 := h.1
 have h2 := h.2
 go_enter Tryz.func137, Tryz.ntmps137
 go_wp2
 all_goals (go_ret; exact ⟨yN (by omega), rfl⟩)
end Go.Proofs.YtndhhgbpcmfeiaaGreatDoor
/- The contracts of Go's library that the walks use, laid by program at this translation: plain declarations, each one application of the shelf's own theorem. Conditions: none beyond those of each theorem. -/
namespace Go.Proofs
open Go.Shelf
def jn : Go.Shelf.Ren := ⟨fun | 169 => 65 | n => n, fun | 70 => 99 | 9 => 9 | 0 => 0 | 72 => 102 | 37 => 100 | 127 => 140 | 3 => 3 | 5 => 5 | n => n, fun | n => n⟩
theorem rT : Go.Proofs.Lays.n169 Tryz.prog jn := {
 mixed := by kernel_rfl
 f169 := Tryz.func65.trans (congrArg some (by kernel_rfl))
 t0 := Tryz.underlying0
 a0 := Tryz.isAgg0
 z0 := Tryz.sizeOf0
 v0 := Tryz.zeroValue0
 t3 := Tryz.underlying3
 a3 := Tryz.isAgg3
 z3 := Tryz.sizeOf3
 v3 := Tryz.zeroValue3
 t9 := Tryz.underlying9
 a9 := Tryz.isAgg9
 z9 := Tryz.sizeOf9
 v9 := Tryz.zeroValue9
 t37 := Tryz.underlying100
 a37 := Tryz.isAgg100
 z37 := Tryz.sizeOf100
 v37 := Tryz.zeroValue100
 t70 := Tryz.underlying99
 a70 := Tryz.isAgg99
 z70 := Tryz.sizeOf99
 v70 := Tryz.zeroValue99
 t72 := Tryz.underlying102
 a72 := Tryz.isAgg102
 z72 := Tryz.sizeOf102
 v72 := Tryz.zeroValue102
 t127 := Tryz.underlying140
 a127 := Tryz.isAgg140
 z127 := Tryz.sizeOf140
 v127 := Tryz.zeroValue140 }
theorem jD : Builder.Extra Tryz.prog jn := {
 sizeBuilder := by kernel_rfl
 liesBuilder := by kernel_rfl
 t5 := Tryz.underlying5
 a5 := Tryz.isAgg5
 z5 := Tryz.sizeOf5
 v5 := Tryz.zeroValue5
 infoByte := by kernel_rfl
 cellsByte := by kernel_rfl
 sizeByte := by kernel_rfl
 neB5 := by decide }
open Go.RowKit in
theorem Tryz.Builder_String (B b : Nat) (l : List UInt8) (w : World) (h : Lib.IsBuilder 102 5 B b (Lib.byteCells l) w) (h0 : l ≠ []) :
  Calls Tryz.prog 65 #[.pointer (some ⟨b, 0, none⟩)] w fun e w' => e = .returned (.string ⟨l.toArray⟩) /\ Below B w w' := Any.Builder_String rT jD B b l w h h0
def Tryz.lays156_ren : Go.Shelf.Ren := ⟨fun | 156 => 96 | 165 => 141 | 166 => 62 | 169 => 65 | 240 => 93 | 241 => 166 | 276 => 136 | 277 => 183 | n => n, fun | 31 => 23 | 9 => 9 | 3 => 3 | 4 => 4 | 0 => 0 | 20 => 20 | 72 => 102 | 76 => 106 | 70 => 99 | 37 => 100 | 75 => 105 | 127 => 140 | 164 => 155 | 5 => 5 | 80 => 110 | n => n, fun | n => n⟩
theorem lQ : Go.Proofs.Lays.n156 Tryz.prog Tryz.lays156_ren := {
 mixed := by kernel_rfl
 f156 := Tryz.func96.trans (congrArg some (by kernel_rfl))
 f165 := Tryz.func141.trans (congrArg some (by kernel_rfl))
 f166 := Tryz.func62.trans (congrArg some (by kernel_rfl))
 f169 := Tryz.func65.trans (congrArg some (by kernel_rfl))
 f240 := Tryz.func93.trans (congrArg some (by kernel_rfl))
 f241 := Tryz.func166.trans (congrArg some (by kernel_rfl))
 f276 := Tryz.func136.trans (congrArg some (by kernel_rfl))
 f277 := Tryz.func183.trans (congrArg some (by kernel_rfl))
 t0 := Tryz.underlying0
 a0 := Tryz.isAgg0
 z0 := Tryz.sizeOf0
 v0 := Tryz.zeroValue0
 t3 := Tryz.underlying3
 a3 := Tryz.isAgg3
 z3 := Tryz.sizeOf3
 v3 := Tryz.zeroValue3
 t4 := Tryz.underlying4
 a4 := Tryz.isAgg4
 z4 := Tryz.sizeOf4
 v4 := Tryz.zeroValue4
 t9 := Tryz.underlying9
 a9 := Tryz.isAgg9
 z9 := Tryz.sizeOf9
 v9 := Tryz.zeroValue9
 t20 := Tryz.underlying20
 a20 := Tryz.isAgg20
 z20 := Tryz.sizeOf20
 v20 := Tryz.zeroValue20
 t31 := Tryz.underlying23
 a31 := Tryz.isAgg23
 z31 := Tryz.sizeOf23
 v31 := Tryz.zeroValue23
 t37 := Tryz.underlying100
 a37 := Tryz.isAgg100
 z37 := Tryz.sizeOf100
 v37 := Tryz.zeroValue100
 t70 := Tryz.underlying99
 a70 := Tryz.isAgg99
 z70 := Tryz.sizeOf99
 v70 := Tryz.zeroValue99
 t72 := Tryz.underlying102
 a72 := Tryz.isAgg102
 z72 := Tryz.sizeOf102
 v72 := Tryz.zeroValue102
 t75 := Tryz.underlying105
 a75 := Tryz.isAgg105
 z75 := Tryz.sizeOf105
 v75 := Tryz.zeroValue105
 t76 := Tryz.underlying106
 a76 := Tryz.isAgg106
 z76 := Tryz.sizeOf106
 v76 := Tryz.zeroValue106
 t127 := Tryz.underlying140
 a127 := Tryz.isAgg140
 z127 := Tryz.sizeOf140
 v127 := Tryz.zeroValue140
 t164 := Tryz.underlying155
 a164 := Tryz.isAgg155
 z164 := Tryz.sizeOf155
 v164 := Tryz.zeroValue155 }
theorem Tryz.Builder_Extra_156 : Builder.Extra Tryz.prog Tryz.lays156_ren := {
 sizeBuilder := by kernel_rfl
 liesBuilder := by kernel_rfl
 t5 := Tryz.underlying5
 a5 := Tryz.isAgg5
 z5 := Tryz.sizeOf5
 v5 := Tryz.zeroValue5
 infoByte := by kernel_rfl
 cellsByte := by kernel_rfl
 sizeByte := by kernel_rfl
 neB5 := by decide }
def mR : Go.Shelf.Ren := ⟨fun | 134 => 184 | 129 => 175 | n => n, fun | 53 => 157 | 3 => 3 | 4 => 4 | 46 => 53 | 5 => 5 | 9 => 9 | n => n, fun | n => n⟩
theorem rS : Go.Proofs.Lays.n134 Tryz.prog mR := {
 mixed := by kernel_rfl
 f129 := Tryz.func175.trans (congrArg some (by kernel_rfl))
 f134 := Tryz.func184.trans (congrArg some (by kernel_rfl))
 t3 := Tryz.underlying3
 a3 := Tryz.isAgg3
 z3 := Tryz.sizeOf3
 v3 := Tryz.zeroValue3
 t4 := Tryz.underlying4
 a4 := Tryz.isAgg4
 z4 := Tryz.sizeOf4
 v4 := Tryz.zeroValue4
 t5 := Tryz.underlying5
 a5 := Tryz.isAgg5
 z5 := Tryz.sizeOf5
 v5 := Tryz.zeroValue5
 t9 := Tryz.underlying9
 a9 := Tryz.isAgg9
 z9 := Tryz.sizeOf9
 v9 := Tryz.zeroValue9
 t46 := Tryz.underlying53
 a46 := Tryz.isAgg53
 z46 := Tryz.sizeOf53
 v46 := Tryz.zeroValue53
 t53 := Tryz.underlying157
 a53 := Tryz.isAgg157
 z53 := Tryz.sizeOf157
 v53 := Tryz.zeroValue157 }
theorem Tryz.bits_LeadingZeros64 (x : Int) (w : World) (h0 : 0 <= x) (h1 : x <= 18446744073709551615) :
  Calls Tryz.prog 184 #[.int .u64 x] w fun e w' => e = .returned (.int .i64 (64 - (Lib.bitLen x.toNat : Int))) /\ w' = w := Any.bits_LeadingZeros64 rS x w h0 h1
def mS : Go.Shelf.Ren := ⟨fun | 264 => 168 | n => n, fun | 53 => 157 | 46 => 53 | n => n, fun | n => n⟩
theorem rU : Go.Proofs.Lays.n264 Tryz.prog mS := {
 mixed := by kernel_rfl
 f264 := Tryz.func168.trans (congrArg some (by kernel_rfl))
 t46 := Tryz.underlying53
 a46 := Tryz.isAgg53
 z46 := Tryz.sizeOf53
 v46 := Tryz.zeroValue53
 t53 := Tryz.underlying157
 a53 := Tryz.isAgg157
 z53 := Tryz.sizeOf157
 v53 := Tryz.zeroValue157 }
open Go.RowKit Go.Lib in
theorem Tryz.bits_Mul64 (x y : Nat) (hx : x < 18446744073709551616) (hy : y < 18446744073709551616) (w : World) :
  Calls Tryz.prog 168 #[.int .u64 x, .int .u64 y] w fun e w' => e = .returned (.tuple #[.int .u64 ((x * y / 18446744073709551616 : Nat) : Int), .int .u64 ((x * y % 18446744073709551616 : Nat) : Int)]) /\ w' = w := Any.bits_Mul64 rU x y hx hy w
end Go.Proofs
/- Plain arithmetic for Div64 by halves. -/
namespace Go.Proofs.YtndhhgbpcmfeiaaGreatDoor
open Go
theorem kK (u v Y n1 n0 q r Q : Nat) (hY : Y = n1 * 4294967296 + n0) (hu : u = q * n1 + r) (hQ1 : u * 4294967296 + v < (Q + 1) * Y)
  (h : q * n0 <= 4294967296 * r + v) : q <= Q := by
 rcases Nat.lt_or_ge Q q with hlt | hge
 ·exfalso
  have h1 : (Q + 1) * Y <= q * Y := Nat.mul_le_mul_right _ hlt
  have h2 : q * Y = q * n1 * 4294967296 + q * n0 := by rw [hY, Nat.mul_add, <- Nat.mul_assoc]
  omega
 ·exact hge
theorem mN (u v Y n1 n0 q r Q : Nat) (hY : Y = n1 * 4294967296 + n0) (hu : u = q * n1 + r) (hQ0 : Q * Y <= u * 4294967296 + v)
  (h : 4294967296 * r + v < q * n0) : Q < q := by
 rcases Nat.lt_or_ge Q q with hlt | hge
 ·exact hlt
 ·exfalso
  have h1 : q * Y <= Q * Y := Nat.mul_le_mul_right _ hge
  have h2 : q * Y = q * n1 * 4294967296 + q * n0 := by rw [hY, Nat.mul_add, <- Nat.mul_assoc]
  omega
theorem d9 (u v Y n1 n0 q r Q : Nat) (hY : Y = n1 * 4294967296 + n0) (h0 : n0 < 4294967296) (hu : u = q * n1 + r) (huY : u < Y) (_h1 : 0 < n1)
  (hQ1 : u * 4294967296 + v < (Q + 1) * Y) (hr : 4294967296 <= r) : q <= Q := by
 refine kK u v Y n1 n0 q r Q hY hu hQ1 ?_
 have hq : q < 4294967296 := by
  rcases Nat.lt_or_ge q 4294967296 with h | h
  ·exact h
  ·exfalso
   have : 4294967296 * n1 <= q * n1 := Nat.mul_le_mul_right _ h
   omega
 have h2 : q * n0 <= 4294967296 * 4294967296 := Nat.mul_le_mul (by omega) (by omega)
 omega
theorem eM (u n1 q r : Nat) (hu : u = (q + 1) * n1 + r) : u = q * n1 + (r + n1) := by
 rw [Nat.add_mul, Nat.one_mul] at hu; omega
theorem wq (y : Nat) (h0 : y ≠ 0) (h : y < 18446744073709551616) :
  ∃ s : Nat, s <= 63 /\ (64 : Int) - (Lib.bitLen y : Int) = (s : Int) /\ 9223372036854775808 <= y * 2 ^ s /\ y * 2 ^ s < 18446744073709551616 := by
 obtain ⟨b1, b2, b3⟩ := Lib.bitLenAux_bounds 64 y (by simpa using h) h0
 have hb : Lib.bitLen y = Lib.bitLenAux 64 y := rfl
 have hle : Lib.bitLenAux 64 y <= 64 := Lib.bitLenAux_le 64 y 64 (by simpa using h)
 rw [hb]
 generalize Lib.bitLenAux 64 y = k at *
 refine ⟨64 - k, by omega, by omega, ?_, ?_⟩
 ·have := Nat.mul_le_mul_right (2 ^ (64 - k)) b2
  rw [<- Nat.pow_add, show k - 1 + (64 - k) = 63 by omega] at this
  exact this
 ·have := Nat.mul_lt_mul_of_pos_right b3 (Nat.two_pow_pos (64 - k))
  rw [<- Nat.pow_add, show k + (64 - k) = 64 by omega] at this
  exact this
theorem pG (u v Y n1 n0 : Nat) (hY : Y = n1 * 4294967296 + n0) (h0 : n0 < 4294967296) (hn : 2147483648 <= n1) (hn' : n1 < 4294967296) (hu : u < Y) (hv : v < 4294967296) :
  (u * 4294967296 + v) / Y < 4294967296 /\ (u * 4294967296 + v) / Y <= u / n1 /\ u / n1 < 8589934592 /\ (u * 4294967296 + v) % Y < Y /\ u / n1 * n1 <= u /\ u % n1 < 4294967296 /\ u = u / n1 * n1 + u % n1 /\
  (u * 4294967296 + v) / Y * Y <= u * 4294967296 + v /\ u * 4294967296 + v < ((u * 4294967296 + v) / Y + 1) * Y := by
 have hYp : 0 < Y := by omega
 have hnp : 0 < n1 := by omega
 have e1 := Nat.div_add_mod (u * 4294967296 + v) Y
 have e2 := Nat.mod_lt (u * 4294967296 + v) hYp
 have e3 := Nat.div_add_mod u n1
 have e4 := Nat.mod_lt u hnp
 generalize (u * 4294967296 + v) / Y = Q at *
 generalize (u * 4294967296 + v) % Y = R at *
 generalize u / n1 = q at *
 generalize u % n1 = r at *
 have hQ : Q < 4294967296 := by
  rcases Nat.lt_or_ge Q 4294967296 with h | h
  ·exact h
  ·exfalso
   have := Nat.mul_le_mul_left Y h
   omega
 have m1 : Y * Q = Q * Y := Nat.mul_comm _ _
 have m2 : n1 * q = q * n1 := Nat.mul_comm _ _
 have m3 : (Q + 1) * Y = Q * Y + Y := by rw [Nat.add_mul, Nat.one_mul]
 have m4 : Q * Y = Q * n1 * 4294967296 + Q * n0 := by rw [hY, Nat.mul_add, <- Nat.mul_assoc]
 refine ⟨hQ, ?_, ?_, e2, by omega, by omega, by omega, by omega, by omega⟩
 ·rcases Nat.lt_or_ge q Q with h | h
  ·exfalso
   have := Nat.mul_le_mul_right n1 h
   rw [Nat.succ_mul] at this
   omega
  ·exact h
 ·rcases Nat.lt_or_ge q 8589934592 with h | h
  ·exact h
  ·exfalso
   have := Nat.mul_le_mul_right n1 h
   omega
theorem zP (hi lo y s u v Y Q R v1 v0 Q' : Nat) (hy : 0 < y) (hY : Y = y * 2 ^ s) (hU : (hi * 18446744073709551616 + lo) * 2 ^ s = u * 18446744073709551616 + v)
  (hv : v = v1 * 4294967296 + v0) (hQ : u * 4294967296 + v1 = Q * Y + R) (hQ' : R * 4294967296 + v0 < (Q' + 1) * Y) (hQ'' : Q' * Y <= R * 4294967296 + v0) :
  (hi * 18446744073709551616 + lo) / y = Q * 4294967296 + Q' := by
 have hYp : 0 < Y := by rw [hY]; exact Nat.mul_pos hy (Nat.two_pow_pos s)
 obtain ⟨U, hU'⟩ : ∃ U, U = u * 18446744073709551616 + v := ⟨_, rfl⟩
 obtain ⟨K, hK⟩ : ∃ K, K = Q * 4294967296 + Q' := ⟨_, rfl⟩
 rw [<- Nat.mul_div_mul_right _ _ (Nat.two_pow_pos s), hU, <- hY, <- hU', <- hK]
 have m1 : K * Y = Q * Y * 4294967296 + Q' * Y := by rw [hK, Nat.add_mul, Nat.mul_right_comm]
 have m2 : (Q' + 1) * Y = Q' * Y + Y := by rw [Nat.add_mul, Nat.one_mul]
 have m3 : (K + 1) * Y = K * Y + Y := by rw [Nat.add_mul, Nat.one_mul]
 have g1 : K * Y <= U := by omega
 have g2 : U < (K + 1) * Y := by omega
 exact Nat.div_eq_of_lt_le g1 g2
open Go.ChangeShapes Go.WideShapes Go.ChangeAt Go.RowKit
set_option maxRecDepth 100000
theorem iY (n : Nat) (h : n < 18446744073709551616) : IntKind.u64.wrap (n : Int) = (n : Int) := by
 simp only [IntKind.wrap, IntKind.signed, IntKind.bits]; simp; omega
set_option maxHeartbeats 4000000 in
theorem Bu (hi lo y Y s n1 n0 u v v1 v0 q p r Q R q' p' r' Q' R' t1 t2 t3 t1' t2' t3' : Nat) (w : World) (h0 : 0 < hi) (h1 : hi < y) (h2 : y < 18446744073709551616) (h3 : lo < 18446744073709551616)
  (hs : (64 : Int) - (Lib.bitLen y : Int) = (s : Int)) (hs1 : s <= 63)
  (hY : IntKind.u64.wrap ((y : Int) * 2 ^ s) = ((Y : Nat) : Int))
  (hn1 : (Y : Int) / 4294967296 = (n1 : Int)) (hn0 : bits .and .u64 (Y : Int) 4294967295 = (n0 : Int))
  (hu : bits BinOp.or IntKind.u64 (IntKind.u64.wrap ((hi : Int) * 2 ^ s)) ((lo : Int) / 2 ^ (64 - s)) = (u : Int))
  (hv : IntKind.u64.wrap ((lo : Int) * 2 ^ s) = (v : Int)) (hv1 : (v : Int) / 4294967296 = (v1 : Int)) (hv0 : bits .and .u64 (v : Int) 4294967295 = (v0 : Int))
  (hq : (u : Int) / (n1 : Int) = (q : Int)) (hp : IntKind.u64.wrap ((q : Int) * (n1 : Int)) = (p : Int)) (hr : (u : Int) - (p : Int) = (r : Int))
  (hq' : (R : Int) / (n1 : Int) = (q' : Int)) (hp' : IntKind.u64.wrap ((q' : Int) * (n1 : Int)) = (p' : Int)) (hr' : (R : Int) - (p' : Int) = (r' : Int))
  (ht1 : IntKind.u64.wrap ((u : Int) * 4294967296) = (t1 : Int)) (ht2 : IntKind.u64.wrap ((t1 : Int) + v1) = (t2 : Int)) (ht3 : IntKind.u64.wrap ((Q : Int) * Y) = (t3 : Int)) (hR : IntKind.u64.wrap ((t2 : Int) - t3) = (R : Int))
  (ht1' : IntKind.u64.wrap ((R : Int) * 4294967296) = (t1' : Int)) (ht2' : IntKind.u64.wrap ((t1' : Int) + v0) = (t2' : Int)) (ht3' : IntKind.u64.wrap ((Q' : Int) * Y) = (t3' : Int)) (hR' : IntKind.u64.wrap ((t2' : Int) - t3') = (R' : Int))
  (bY : Y < 18446744073709551616) (bn1 : 2147483648 <= n1) (bn1' : n1 < 4294967296) (bn0 : n0 < 4294967296) (bu : u < Y) (bv1 : v1 < 4294967296) (bv0 : v0 < 4294967296)
  (bq : q < 8589934592) (bp : p <= u) (br : r < 4294967296) (bq' : q' < 8589934592) (bp' : p' <= R) (br' : r' < 4294967296)
  (bR : R < Y) (bQ : Q < 4294967296) (bQ' : Q' < 4294967296) (bQq : Q <= q) (bQq' : Q' <= q')
  (eY : Hid (Y = n1 * 4294967296 + n0)) (eu : Hid (u = q * n1 + r)) (eR : Hid (R = q' * n1 + r'))
  (eQ0 : Hid (Q * Y <= u * 4294967296 + v1)) (eQ1 : Hid (u * 4294967296 + v1 < (Q + 1) * Y))
  (eQ0' : Hid (Q' * Y <= R * 4294967296 + v0)) (eQ1' : Hid (R * 4294967296 + v0 < (Q' + 1) * Y)) :
  Calls Tryz.prog 169 #[.int .u64 hi, .int .u64 lo, .int .u64 y] w fun e w' => (∃ r : Int, e = .returned (.tuple #[.int .u64 ((Q : Int) * 4294967296 + Q'), .int .u64 r])) /\ w = w' := by
 go_enter Tryz.func169, Tryz.ntmps169
 go_wp2_with (first | (go_at_call 184; refine (Tryz.bits_LeadingZeros64 y _ (by omega) (by omega)).mono ?_; rw [Int.toNat_natCast, hs]; rintro e w' ⟨rfl, rfl⟩))
 go_loop [15, 16] (fun x y => ∃ c d : Nat, x = .int .u64 c /\ y = .int .u64 d /\ c <= q /\ Q <= c /\ d < 4294967296 /\ Hid (u = c * n1 + d)) (fun x _ => (intOf x).toNat)
 case atStart => exact ⟨q, r, rfl, rfl, Nat.le_refl _, bQq, br, eu⟩
 case round =>
  obtain ⟨c, d, rfl, rfl, hc, hQc, hd, hcd⟩ := hrel
  obtain ⟨m', hm'⟩ : ∃ m' : Nat, m' = c * n0 := ⟨_, rfl⟩
  have Hm' := Lib.hid hm'
  clear hm'
  by_cases c1 : 4294967296 <= c
  ·obtain ⟨c, rfl⟩ : ∃ k, c = k + 1 := ⟨c - 1, by omega⟩
   have hQ1 : Q <= c := by omega
   have HN := Lib.hid (eM u n1 c d hcd.out)
   have e1 : decide ((4294967296 : Int) <= (c : Int) + 1) = true := by simp; omega
   by_cases c3 : 4294967296 <= d + n1
   ·have e3 : decide ((4294967296 : Int) <= (d : Int) + (n1 : Int)) = true := by simp; omega
    have hcQ : c = Q := Nat.le_antisymm (d9 u v1 Y n1 n0 c (d + n1) Q eY.out bn0 HN.out bu (by omega) eQ1.out c3) hQ1
    subst hcQ
    clear c1 c3 hQ1 hQc
    go_wp2_with fail
    clear e1 e3
    go_loop [18, 16] (fun x y => ∃ c d : Nat, x = .int .u64 c /\ y = .int .u64 d /\ c <= q' /\ Q' <= c /\ d < 4294967296 /\ Hid (R = c * n1 + d)) (fun x _ => (intOf x).toNat)
    case atStart => exact ⟨q', r', rfl, rfl, Nat.le_refl _, bQq', br', eR⟩
    case round =>
     obtain ⟨c, d, rfl, rfl, hc, hQc, hd, hcd⟩ := hrel
     obtain ⟨m', hm'⟩ : ∃ m' : Nat, m' = c * n0 := ⟨_, rfl⟩
     have Hm' := Lib.hid hm'
     clear hm'
     by_cases c1 : 4294967296 <= c
     ·obtain ⟨c, rfl⟩ : ∃ k, c = k + 1 := ⟨c - 1, by omega⟩
      have hQ1 : Q' <= c := by omega
      have HN := Lib.hid (eM R n1 c d hcd.out)
      have e1 : decide ((4294967296 : Int) <= (c : Int) + 1) = true := by simp; omega
      by_cases c3 : 4294967296 <= d + n1
      ·have e3 : decide ((4294967296 : Int) <= (d : Int) + (n1 : Int)) = true := by simp; omega
       have hcQ : c = Q' := Nat.le_antisymm (d9 R v0 Y n1 n0 c (d + n1) Q' eY.out bn0 HN.out bR (by omega) eQ1'.out c3) hQ1
       subst hcQ
       clear c1 c3 hQ1 hQc
       go_wp2_with fail
       go_ret2
       exact ⟨⟨_, rfl⟩, rfl⟩
      ·have e3 : decide ((4294967296 : Int) <= (d : Int) + (n1 : Int)) = false := by simp; omega
       have b3 : d + n1 < 4294967296 := by omega
       clear c1 c3
       go_wp2_with fail
       go_round
       case rel => exact ⟨c, d + n1, by go_num, by go_num, by omega, hQ1, b3, HN⟩
       case measure => simp [intOf]
     ·have hmw : IntKind.u64.wrap ((c : Int) * (n0 : Int)) = (m' : Int) := by
       rw [Hm'.out]
       have := Nat.mul_le_mul (show c <= 4294967295 by omega) (show n0 <= 4294967295 by omega)
       rw [<- Int.natCast_mul, iY _ (by omega)]
      by_cases c2 : 4294967296 * d + v0 < m'
      ·have hlt := mN R v0 Y n1 n0 c d Q' eY.out hcd.out eQ0'.out (by rw [<- Hm'.out]; exact c2)
       obtain ⟨c, rfl⟩ : ∃ k, c = k + 1 := ⟨c - 1, by omega⟩
       have hQ1 : Q' <= c := by omega
       have HN := Lib.hid (eM R n1 c d hcd.out)
       have e1 : decide ((4294967296 : Int) <= (c : Int) + 1) = false := by simp; omega
       have e2 : decide (4294967296 * (d : Int) + (v0 : Int) < (m' : Int)) = true := by simp; omega
       simp only [Int.natCast_add, Int.natCast_one] at hmw
       by_cases c3 : 4294967296 <= d + n1
       ·have e3 : decide ((4294967296 : Int) <= (d : Int) + (n1 : Int)) = true := by simp; omega
        have hcQ : c = Q' := Nat.le_antisymm (d9 R v0 Y n1 n0 c (d + n1) Q' eY.out bn0 HN.out bR (by omega) eQ1'.out c3) hQ1
        subst hcQ
        clear c1 c2 c3 hQ1 hQc hlt
        go_wp2_with fail
        go_ret2
        exact ⟨⟨_, rfl⟩, rfl⟩
       ·have e3 : decide ((4294967296 : Int) <= (d : Int) + (n1 : Int)) = false := by simp; omega
        have b3 : d + n1 < 4294967296 := by omega
        clear c1 c2 c3 hlt
        go_wp2_with fail
        go_round
        case rel => exact ⟨c, d + n1, by go_num, by go_num, by omega, hQ1, b3, HN⟩
        case measure => simp [intOf]
      ·have hcQ : c = Q' := Nat.le_antisymm (kK R v0 Y n1 n0 c d Q' eY.out hcd.out eQ1'.out (by rw [<- Hm'.out]; omega)) hQc
       subst hcQ
       have e1 : decide ((4294967296 : Int) <= (c : Int)) = false := by simp; omega
       have e2 : decide (4294967296 * (d : Int) + (v0 : Int) < (m' : Int)) = false := by simp; omega
       clear c1 c2 hQc
       go_wp2_with fail
       go_ret2
       exact ⟨⟨_, rfl⟩, rfl⟩
   ·have e3 : decide ((4294967296 : Int) <= (d : Int) + (n1 : Int)) = false := by simp; omega
    have b3 : d + n1 < 4294967296 := by omega
    clear c1 c3
    go_wp2_with fail
    go_round
    case rel => exact ⟨c, d + n1, by go_num, by go_num, by omega, hQ1, b3, HN⟩
    case measure => simp [intOf]
  ·have hmw : IntKind.u64.wrap ((c : Int) * (n0 : Int)) = (m' : Int) := by
    rw [Hm'.out]
    have := Nat.mul_le_mul (show c <= 4294967295 by omega) (show n0 <= 4294967295 by omega)
    rw [<- Int.natCast_mul, iY _ (by omega)]
   by_cases c2 : 4294967296 * d + v1 < m'
   ·have hlt := mN u v1 Y n1 n0 c d Q eY.out hcd.out eQ0.out (by rw [<- Hm'.out]; exact c2)
    obtain ⟨c, rfl⟩ : ∃ k, c = k + 1 := ⟨c - 1, by omega⟩
    have hQ1 : Q <= c := by omega
    have HN := Lib.hid (eM u n1 c d hcd.out)
    have e1 : decide ((4294967296 : Int) <= (c : Int) + 1) = false := by simp; omega
    have e2 : decide (4294967296 * (d : Int) + (v1 : Int) < (m' : Int)) = true := by simp; omega
    simp only [Int.natCast_add, Int.natCast_one] at hmw
    by_cases c3 : 4294967296 <= d + n1
    ·have e3 : decide ((4294967296 : Int) <= (d : Int) + (n1 : Int)) = true := by simp; omega
     have hcQ : c = Q := Nat.le_antisymm (d9 u v1 Y n1 n0 c (d + n1) Q eY.out bn0 HN.out bu (by omega) eQ1.out c3) hQ1
     subst hcQ
     clear c1 c2 c3 hQ1 hQc hlt
     go_wp2_with fail
     clear e1 e3 e2 hmw
     go_loop [18, 16] (fun x y => ∃ c d : Nat, x = .int .u64 c /\ y = .int .u64 d /\ c <= q' /\ Q' <= c /\ d < 4294967296 /\ Hid (R = c * n1 + d)) (fun x _ => (intOf x).toNat)
     case atStart => exact ⟨q', r', rfl, rfl, Nat.le_refl _, bQq', br', eR⟩
     case round =>
      obtain ⟨c, d, rfl, rfl, hc, hQc, hd, hcd⟩ := hrel
      obtain ⟨m', hm'⟩ : ∃ m' : Nat, m' = c * n0 := ⟨_, rfl⟩
      have Hm' := Lib.hid hm'
      clear hm'
      by_cases c1 : 4294967296 <= c
      ·obtain ⟨c, rfl⟩ : ∃ k, c = k + 1 := ⟨c - 1, by omega⟩
       have hQ1 : Q' <= c := by omega
       have HN := Lib.hid (eM R n1 c d hcd.out)
       have e1 : decide ((4294967296 : Int) <= (c : Int) + 1) = true := by simp; omega
       by_cases c3 : 4294967296 <= d + n1
       ·have e3 : decide ((4294967296 : Int) <= (d : Int) + (n1 : Int)) = true := by simp; omega
        have hcQ : c = Q' := Nat.le_antisymm (d9 R v0 Y n1 n0 c (d + n1) Q' eY.out bn0 HN.out bR (by omega) eQ1'.out c3) hQ1
        subst hcQ
        clear c1 c3 hQ1 hQc
        go_wp2_with fail
        go_ret2
        exact ⟨⟨_, rfl⟩, rfl⟩
       ·have e3 : decide ((4294967296 : Int) <= (d : Int) + (n1 : Int)) = false := by simp; omega
        have b3 : d + n1 < 4294967296 := by omega
        clear c1 c3
        go_wp2_with fail
        go_round
        case rel => exact ⟨c, d + n1, by go_num, by go_num, by omega, hQ1, b3, HN⟩
        case measure => simp [intOf]
      ·have hmw : IntKind.u64.wrap ((c : Int) * (n0 : Int)) = (m' : Int) := by
        rw [Hm'.out]
        have := Nat.mul_le_mul (show c <= 4294967295 by omega) (show n0 <= 4294967295 by omega)
        rw [<- Int.natCast_mul, iY _ (by omega)]
       by_cases c2 : 4294967296 * d + v0 < m'
       ·have hlt := mN R v0 Y n1 n0 c d Q' eY.out hcd.out eQ0'.out (by rw [<- Hm'.out]; exact c2)
        obtain ⟨c, rfl⟩ : ∃ k, c = k + 1 := ⟨c - 1, by omega⟩
        have hQ1 : Q' <= c := by omega
        have HN := Lib.hid (eM R n1 c d hcd.out)
        have e1 : decide ((4294967296 : Int) <= (c : Int) + 1) = false := by simp; omega
        have e2 : decide (4294967296 * (d : Int) + (v0 : Int) < (m' : Int)) = true := by simp; omega
        simp only [Int.natCast_add, Int.natCast_one] at hmw
        by_cases c3 : 4294967296 <= d + n1
        ·have e3 : decide ((4294967296 : Int) <= (d : Int) + (n1 : Int)) = true := by simp; omega
         have hcQ : c = Q' := Nat.le_antisymm (d9 R v0 Y n1 n0 c (d + n1) Q' eY.out bn0 HN.out bR (by omega) eQ1'.out c3) hQ1
         subst hcQ
         clear c1 c2 c3 hQ1 hQc hlt
         go_wp2_with fail
         go_ret2
         exact ⟨⟨_, rfl⟩, rfl⟩
        ·have e3 : decide ((4294967296 : Int) <= (d : Int) + (n1 : Int)) = false := by simp; omega
         have b3 : d + n1 < 4294967296 := by omega
         clear c1 c2 c3 hlt
         go_wp2_with fail
         go_round
         case rel => exact ⟨c, d + n1, by go_num, by go_num, by omega, hQ1, b3, HN⟩
         case measure => simp [intOf]
       ·have hcQ : c = Q' := Nat.le_antisymm (kK R v0 Y n1 n0 c d Q' eY.out hcd.out eQ1'.out (by rw [<- Hm'.out]; omega)) hQc
        subst hcQ
        have e1 : decide ((4294967296 : Int) <= (c : Int)) = false := by simp; omega
        have e2 : decide (4294967296 * (d : Int) + (v0 : Int) < (m' : Int)) = false := by simp; omega
        clear c1 c2 hQc
        go_wp2_with fail
        go_ret2
        exact ⟨⟨_, rfl⟩, rfl⟩
    ·have e3 : decide ((4294967296 : Int) <= (d : Int) + (n1 : Int)) = false := by simp; omega
     have b3 : d + n1 < 4294967296 := by omega
     clear c1 c2 c3 hlt
     go_wp2_with fail
     go_round
     case rel => exact ⟨c, d + n1, by go_num, by go_num, by omega, hQ1, b3, HN⟩
     case measure => simp [intOf]
   ·have hcQ : c = Q := Nat.le_antisymm (kK u v1 Y n1 n0 c d Q eY.out hcd.out eQ1.out (by rw [<- Hm'.out]; omega)) hQc
    subst hcQ
    have e1 : decide ((4294967296 : Int) <= (c : Int)) = false := by simp; omega
    have e2 : decide (4294967296 * (d : Int) + (v1 : Int) < (m' : Int)) = false := by simp; omega
    clear c1 c2 hQc
    go_wp2_with fail
    clear e1 e2 hmw
    go_loop [18, 16] (fun x y => ∃ c d : Nat, x = .int .u64 c /\ y = .int .u64 d /\ c <= q' /\ Q' <= c /\ d < 4294967296 /\ Hid (R = c * n1 + d)) (fun x _ => (intOf x).toNat)
    case atStart => exact ⟨q', r', rfl, rfl, Nat.le_refl _, bQq', br', eR⟩
    case round =>
     obtain ⟨c, d, rfl, rfl, hc, hQc, hd, hcd⟩ := hrel
     obtain ⟨m', hm'⟩ : ∃ m' : Nat, m' = c * n0 := ⟨_, rfl⟩
     have Hm' := Lib.hid hm'
     clear hm'
     by_cases c1 : 4294967296 <= c
     ·obtain ⟨c, rfl⟩ : ∃ k, c = k + 1 := ⟨c - 1, by omega⟩
      have hQ1 : Q' <= c := by omega
      have HN := Lib.hid (eM R n1 c d hcd.out)
      have e1 : decide ((4294967296 : Int) <= (c : Int) + 1) = true := by simp; omega
      by_cases c3 : 4294967296 <= d + n1
      ·have e3 : decide ((4294967296 : Int) <= (d : Int) + (n1 : Int)) = true := by simp; omega
       have hcQ : c = Q' := Nat.le_antisymm (d9 R v0 Y n1 n0 c (d + n1) Q' eY.out bn0 HN.out bR (by omega) eQ1'.out c3) hQ1
       subst hcQ
       clear c1 c3 hQ1 hQc
       go_wp2_with fail
       go_ret2
       exact ⟨⟨_, rfl⟩, rfl⟩
      ·have e3 : decide ((4294967296 : Int) <= (d : Int) + (n1 : Int)) = false := by simp; omega
       have b3 : d + n1 < 4294967296 := by omega
       clear c1 c3
       go_wp2_with fail
       go_round
       case rel => exact ⟨c, d + n1, by go_num, by go_num, by omega, hQ1, b3, HN⟩
       case measure => simp [intOf]
     ·have hmw : IntKind.u64.wrap ((c : Int) * (n0 : Int)) = (m' : Int) := by
       rw [Hm'.out]
       have := Nat.mul_le_mul (show c <= 4294967295 by omega) (show n0 <= 4294967295 by omega)
       rw [<- Int.natCast_mul, iY _ (by omega)]
      by_cases c2 : 4294967296 * d + v0 < m'
      ·have hlt := mN R v0 Y n1 n0 c d Q' eY.out hcd.out eQ0'.out (by rw [<- Hm'.out]; exact c2)
       obtain ⟨c, rfl⟩ : ∃ k, c = k + 1 := ⟨c - 1, by omega⟩
       have hQ1 : Q' <= c := by omega
       have HN := Lib.hid (eM R n1 c d hcd.out)
       have e1 : decide ((4294967296 : Int) <= (c : Int) + 1) = false := by simp; omega
       have e2 : decide (4294967296 * (d : Int) + (v0 : Int) < (m' : Int)) = true := by simp; omega
       simp only [Int.natCast_add, Int.natCast_one] at hmw
       by_cases c3 : 4294967296 <= d + n1
       ·have e3 : decide ((4294967296 : Int) <= (d : Int) + (n1 : Int)) = true := by simp; omega
        have hcQ : c = Q' := Nat.le_antisymm (d9 R v0 Y n1 n0 c (d + n1) Q' eY.out bn0 HN.out bR (by omega) eQ1'.out c3) hQ1
        subst hcQ
        clear c1 c2 c3 hQ1 hQc hlt
        go_wp2_with fail
        go_ret2
        exact ⟨⟨_, rfl⟩, rfl⟩
       ·have e3 : decide ((4294967296 : Int) <= (d : Int) + (n1 : Int)) = false := by simp; omega
        have b3 : d + n1 < 4294967296 := by omega
        clear c1 c2 c3 hlt
        go_wp2_with fail
        go_round
        case rel => exact ⟨c, d + n1, by go_num, by go_num, by omega, hQ1, b3, HN⟩
        case measure => simp [intOf]
      ·have hcQ : c = Q' := Nat.le_antisymm (kK R v0 Y n1 n0 c d Q' eY.out hcd.out eQ1'.out (by rw [<- Hm'.out]; omega)) hQc
       subst hcQ
       have e1 : decide ((4294967296 : Int) <= (c : Int)) = false := by simp; omega
       have e2 : decide (4294967296 * (d : Int) + (v0 : Int) < (m' : Int)) = false := by simp; omega
       clear c1 c2 hQc
       go_wp2_with fail
       go_ret2
       exact ⟨⟨_, rfl⟩, rfl⟩
end Go.Proofs.YtndhhgbpcmfeiaaGreatDoor
