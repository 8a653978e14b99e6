/- Walks of package fixed, first part: each function computes its model. -/
import Derived.Test.YtndhhgbpcmfeiaaGreatDoorProg
import Derived.WalkKit
import Derived.ProofKit
import Derived.OpenShut
import Derived.Outline
import Derived.WalkSpells
import Derived.WalkLawsBesides
import Derived.Deep.QuietTactic
import Derived.BigQuiet
import Derived.Lib.Hide
import Derived.Deep.DeepFit
import Derived.Deep.DeepMust
import Derived.Shelf.Strings.Builder1
import Derived.Shelf.Strings.OnBuilder
import Derived.Shelf.Small.Bits
import Derived.Shelf.Bits.Mul64
import Derived.Lib.ItoaNum
import Derived.Lib.BitFns
import Derived.IntWalk

namespace Go.Proofs.YtndhhgbpcmfeiaaGreatDoor
open Go.ChangeShapes Go.WideShapes Go.ChangeAt Go.RowKit
set_option maxRecDepth 100000
def cC (n : Int) : Bool := decide (-1152921504606846976 <= n /\ n <= 1152921504606846976)
theorem fW {n : Int} (h : cC n = true) : -1152921504606846976 <= n /\ n <= 1152921504606846976 := by simpa [cC] using h
theorem df {P : Program} {f : FuncId} {args : Array Value} {w : World} {n : Nat} {v : Value}
  (h : Calls P f args (w.drewN n) fun e w' => e = .returned v /\ w.drewN n = w') : Calls P f args (w.drewN n) fun e w'' => e = .returned v /\ ∃ m, w'' = w.drewN m :=
 h.mono fun _ _ ⟨he, hm⟩ => ⟨he, n, hm.symm⟩
theorem tv {k : IntKind} {a b : Int} (h : a = b) : Ending.returned (.int k a) = .returned (.int k b) := by rw [h]
theorem DB {k l : IntKind} {a b c d : Int} (h : a = b) (h' : c = d) : Ending.returned (.tuple #[.int k a, .int l c]) = .returned (.tuple #[.int k b, .int l d]) := by rw [h, h']
def gB (n : Int) : Int × Int := if cC n then (n, 0) else (0, 11)
def nh (a b : Int) : Int × Int := if cC a && cC b then gB (a + b) else (0, 2)
def ni (a b : Int) : Int × Int := if cC a && cC b then gB (a - b) else (0, 2)

theorem cL (n : Int) (w : World) :
  Calls Tryz.prog 75 #[.int .i64 n] w fun e w' => e = .returned (.bool (cC n)) /\ w = w' := by
 go_enter Tryz.func75, Tryz.ntmps75
 go_wp2
 all_goals (go_ret; exact ⟨by simp [cC]; omega, rfl⟩)
theorem qO (n : Int) (w : World) :
  Calls Tryz.prog 142 #[.int .i64 n] w fun e w' => e = .returned (.tuple #[.int .i64 (gB n).1, .int .i64 (gB n).2]) /\ w = w' := by
 go_enter Tryz.func142, Tryz.ntmps142
 go_wp2_with (go_at_call 75; ((with_reducible refine (cL _ _).mono ?_); rintro e w' ⟨rfl, rfl⟩))
 all_goals (go_tidy; try simp only [Bool.not_eq_true', Bool.not_eq_false'] at *)
 all_goals (go_ret2; exact ⟨by simp [gB, *], rfl⟩)
theorem yJ (a b : Int) (w : World) :
  Calls Tryz.prog 107 #[.int .i64 a, .int .i64 b] w fun e w' => e = .returned (.tuple #[.int .i64 (nh a b).1, .int .i64 (nh a b).2]) /\ w = w' := by
 go_enter Tryz.func107, Tryz.ntmps107
 cases ha : cC a <;> cases hb : cC b
 case true.true =>
  have ha' := fW ha
  have hb' := fW hb
  go_wp2_with (first | (go_at_call 75; ((with_reducible refine (cL _ _).mono ?_); rintro e w' ⟨rfl, rfl⟩)) | (go_at_call 142; ((with_reducible refine (qO _ _).mono ?_); rintro e w' ⟨rfl, rfl⟩)))
  all_goals (go_tidy; try simp only [Bool.not_eq_true', Bool.not_eq_false'] at *)
  all_goals (go_ret2; exact ⟨by simp [nh, *], rfl⟩)
 all_goals
  go_wp2_with (first | (go_at_call 75; ((with_reducible refine (cL _ _).mono ?_); rintro e w' ⟨rfl, rfl⟩)))
  all_goals (go_tidy; try simp only [Bool.not_eq_true', Bool.not_eq_false'] at *)
  all_goals (go_ret2; exact ⟨by simp [nh, *], rfl⟩)
theorem Ag (a b : Int) (w : World) :
  Calls Tryz.prog 108 #[.int .i64 a, .int .i64 b] w fun e w' => e = .returned (.tuple #[.int .i64 (ni a b).1, .int .i64 (ni a b).2]) /\ w = w' := by
 go_enter Tryz.func108, Tryz.ntmps108
 cases ha : cC a <;> cases hb : cC b
 case true.true =>
  have ha' := fW ha
  have hb' := fW hb
  go_wp2_with (first | (go_at_call 75; ((with_reducible refine (cL _ _).mono ?_); rintro e w' ⟨rfl, rfl⟩)) | (go_at_call 142; ((with_reducible refine (qO _ _).mono ?_); rintro e w' ⟨rfl, rfl⟩)))
  all_goals (go_tidy; try simp only [Bool.not_eq_true', Bool.not_eq_false'] at *)
  all_goals (go_ret2; exact ⟨by simp [ni, *], rfl⟩)
 all_goals
  go_wp2_with (first | (go_at_call 75; ((with_reducible refine (cL _ _).mono ?_); rintro e w' ⟨rfl, rfl⟩)))
  all_goals (go_tidy; try simp only [Bool.not_eq_true', Bool.not_eq_false'] at *)
  all_goals (go_ret2; exact ⟨by simp [ni, *], rfl⟩)
theorem mO (n : Int) (w : World) (h : -1152921504606846976 <= n /\ n <= 1152921504606846976) :
  Calls Tryz.prog 137 #[.int .i64 n] w fun e w' => e = .returned (.int .u64 ((n.natAbs : Nat) : Int)) /\ w = w' := by
 have h1 := h.1
 have h2 := h.2
 go_enter Tryz.func137, Tryz.ntmps137
 go_wp2
 all_goals (go_ret; exact ⟨tv (by omega), rfl⟩)
end Go.Proofs.YtndhhgbpcmfeiaaGreatDoor
/- The contracts of Go's library that the walks use, laid by program at this translation: plain declarations, each one application of the shelf's own theorem. Conditions: none beyond those of each theorem. -/
namespace Go.Proofs
open Go.Shelf
def gv : Go.Shelf.Ren := ⟨fun | 169 => 65 | n => n, fun | 70 => 99 | 9 => 9 | 0 => 0 | 72 => 102 | 37 => 100 | 127 => 140 | 3 => 3 | 5 => 5 | n => n, fun | n => n⟩
theorem ow : Go.Proofs.Lays.n169 Tryz.prog gv := {
 mixed := by kernel_rfl
 f169 := Tryz.func65.trans (congrArg some (by kernel_rfl))
 t0 := Tryz.underlying0
 a0 := Tryz.isAgg0
 z0 := Tryz.sizeOf0
 v0 := Tryz.zeroValue0
 t3 := Tryz.underlying3
 a3 := Tryz.isAgg3
 z3 := Tryz.sizeOf3
 v3 := Tryz.zeroValue3
 t9 := Tryz.underlying9
 a9 := Tryz.isAgg9
 z9 := Tryz.sizeOf9
 v9 := Tryz.zeroValue9
 t37 := Tryz.underlying100
 a37 := Tryz.isAgg100
 z37 := Tryz.sizeOf100
 v37 := Tryz.zeroValue100
 t70 := Tryz.underlying99
 a70 := Tryz.isAgg99
 z70 := Tryz.sizeOf99
 v70 := Tryz.zeroValue99
 t72 := Tryz.underlying102
 a72 := Tryz.isAgg102
 z72 := Tryz.sizeOf102
 v72 := Tryz.zeroValue102
 t127 := Tryz.underlying140
 a127 := Tryz.isAgg140
 z127 := Tryz.sizeOf140
 v127 := Tryz.zeroValue140 }
theorem gK : Builder.Extra Tryz.prog gv := {
 sizeBuilder := by kernel_rfl
 liesBuilder := by kernel_rfl
 t5 := Tryz.underlying5
 a5 := Tryz.isAgg5
 z5 := Tryz.sizeOf5
 v5 := Tryz.zeroValue5
 infoByte := by kernel_rfl
 cellsByte := by kernel_rfl
 sizeByte := by kernel_rfl
 neB5 := by decide }
open Go.RowKit in
theorem Tryz.Builder_String (B b : Nat) (l : List UInt8) (w : World) (h : Lib.IsBuilder 102 5 B b (Lib.byteCells l) w) (h0 : l ≠ []) :
  Calls Tryz.prog 65 #[.pointer (some ⟨b, 0, none⟩)] w fun e w' => e = .returned (.string ⟨l.toArray⟩) /\ Below B w w' := Any.Builder_String ow gK B b l w h h0
def Tryz.lays156_ren : Go.Shelf.Ren := ⟨fun | 156 => 96 | 165 => 141 | 166 => 62 | 169 => 65 | 240 => 93 | 241 => 166 | 276 => 136 | 277 => 183 | n => n, fun | 31 => 23 | 9 => 9 | 3 => 3 | 4 => 4 | 0 => 0 | 20 => 20 | 72 => 102 | 76 => 106 | 70 => 99 | 37 => 100 | 75 => 105 | 127 => 140 | 164 => 155 | 5 => 5 | 80 => 110 | n => n, fun | n => n⟩
theorem jA : Go.Proofs.Lays.n156 Tryz.prog Tryz.lays156_ren := {
 mixed := by kernel_rfl
 f156 := Tryz.func96.trans (congrArg some (by kernel_rfl))
 f165 := Tryz.func141.trans (congrArg some (by kernel_rfl))
 f166 := Tryz.func62.trans (congrArg some (by kernel_rfl))
 f169 := Tryz.func65.trans (congrArg some (by kernel_rfl))
 f240 := Tryz.func93.trans (congrArg some (by kernel_rfl))
 f241 := Tryz.func166.trans (congrArg some (by kernel_rfl))
 f276 := Tryz.func136.trans (congrArg some (by kernel_rfl))
 f277 := Tryz.func183.trans (congrArg some (by kernel_rfl))
 t0 := Tryz.underlying0
 a0 := Tryz.isAgg0
 z0 := Tryz.sizeOf0
 v0 := Tryz.zeroValue0
 t3 := Tryz.underlying3
 a3 := Tryz.isAgg3
 z3 := Tryz.sizeOf3
 v3 := Tryz.zeroValue3
 t4 := Tryz.underlying4
 a4 := Tryz.isAgg4
 z4 := Tryz.sizeOf4
 v4 := Tryz.zeroValue4
 t9 := Tryz.underlying9
 a9 := Tryz.isAgg9
 z9 := Tryz.sizeOf9
 v9 := Tryz.zeroValue9
 t20 := Tryz.underlying20
 a20 := Tryz.isAgg20
 z20 := Tryz.sizeOf20
 v20 := Tryz.zeroValue20
 t31 := Tryz.underlying23
 a31 := Tryz.isAgg23
 z31 := Tryz.sizeOf23
 v31 := Tryz.zeroValue23
 t37 := Tryz.underlying100
 a37 := Tryz.isAgg100
 z37 := Tryz.sizeOf100
 v37 := Tryz.zeroValue100
 t70 := Tryz.underlying99
 a70 := Tryz.isAgg99
 z70 := Tryz.sizeOf99
 v70 := Tryz.zeroValue99
 t72 := Tryz.underlying102
 a72 := Tryz.isAgg102
 z72 := Tryz.sizeOf102
 v72 := Tryz.zeroValue102
 t75 := Tryz.underlying105
 a75 := Tryz.isAgg105
 z75 := Tryz.sizeOf105
 v75 := Tryz.zeroValue105
 t76 := Tryz.underlying106
 a76 := Tryz.isAgg106
 z76 := Tryz.sizeOf106
 v76 := Tryz.zeroValue106
 t127 := Tryz.underlying140
 a127 := Tryz.isAgg140
 z127 := Tryz.sizeOf140
 v127 := Tryz.zeroValue140
 t164 := Tryz.underlying155
 a164 := Tryz.isAgg155
 z164 := Tryz.sizeOf155
 v164 := Tryz.zeroValue155 }
theorem Tryz.Builder_Extra_156 : Builder.Extra Tryz.prog Tryz.lays156_ren := {
 sizeBuilder := by kernel_rfl
 liesBuilder := by kernel_rfl
 t5 := Tryz.underlying5
 a5 := Tryz.isAgg5
 z5 := Tryz.sizeOf5
 v5 := Tryz.zeroValue5
 infoByte := by kernel_rfl
 cellsByte := by kernel_rfl
 sizeByte := by kernel_rfl
 neB5 := by decide }
def j6 : Go.Shelf.Ren := ⟨fun | 134 => 184 | 129 => 175 | n => n, fun | 53 => 157 | 3 => 3 | 4 => 4 | 46 => 53 | 5 => 5 | 9 => 9 | n => n, fun | n => n⟩
theorem ov : Go.Proofs.Lays.n134 Tryz.prog j6 := {
 mixed := by kernel_rfl
 f129 := Tryz.func175.trans (congrArg some (by kernel_rfl))
 f134 := Tryz.func184.trans (congrArg some (by kernel_rfl))
 t3 := Tryz.underlying3
 a3 := Tryz.isAgg3
 z3 := Tryz.sizeOf3
 v3 := Tryz.zeroValue3
 t4 := Tryz.underlying4
 a4 := Tryz.isAgg4
 z4 := Tryz.sizeOf4
 v4 := Tryz.zeroValue4
 t5 := Tryz.underlying5
 a5 := Tryz.isAgg5
 z5 := Tryz.sizeOf5
 v5 := Tryz.zeroValue5
 t9 := Tryz.underlying9
 a9 := Tryz.isAgg9
 z9 := Tryz.sizeOf9
 v9 := Tryz.zeroValue9
 t46 := Tryz.underlying53
 a46 := Tryz.isAgg53
 z46 := Tryz.sizeOf53
 v46 := Tryz.zeroValue53
 t53 := Tryz.underlying157
 a53 := Tryz.isAgg157
 z53 := Tryz.sizeOf157
 v53 := Tryz.zeroValue157 }
theorem Tryz.bits_LeadingZeros64 (x : Int) (w : World) (h0 : 0 <= x) (h1 : x <= 18446744073709551615) :
  Calls Tryz.prog 184 #[.int .u64 x] w fun e w' => e = .returned (.int .i64 (64 - (Lib.bitLen x.toNat : Int))) /\ w' = w := Any.bits_LeadingZeros64 ov x w h0 h1
def j7 : Go.Shelf.Ren := ⟨fun | 264 => 168 | n => n, fun | 53 => 157 | 46 => 53 | n => n, fun | n => n⟩
theorem oA : Go.Proofs.Lays.n264 Tryz.prog j7 := {
 mixed := by kernel_rfl
 f264 := Tryz.func168.trans (congrArg some (by kernel_rfl))
 t46 := Tryz.underlying53
 a46 := Tryz.isAgg53
 z46 := Tryz.sizeOf53
 v46 := Tryz.zeroValue53
 t53 := Tryz.underlying157
 a53 := Tryz.isAgg157
 z53 := Tryz.sizeOf157
 v53 := Tryz.zeroValue157 }
open Go.RowKit Go.Lib in
theorem Tryz.bits_Mul64 (x y : Nat) (hx : x < 18446744073709551616) (hy : y < 18446744073709551616) (w : World) :
  Calls Tryz.prog 168 #[.int .u64 x, .int .u64 y] w fun e w' => e = .returned (.tuple #[.int .u64 ((x * y / 18446744073709551616 : Nat) : Int), .int .u64 ((x * y % 18446744073709551616 : Nat) : Int)]) /\ w' = w := Any.bits_Mul64 oA x y hx hy w
end Go.Proofs
/- Plain arithmetic for Div64 by halves. -/
namespace Go.Proofs.YtndhhgbpcmfeiaaGreatDoor
open Go
theorem iO (u v Y n1 n0 q r Q : Nat) (hY : Y = n1 * 4294967296 + n0) (hu : u = q * n1 + r) (hQ1 : u * 4294967296 + v < (Q + 1) * Y)
  (h : q * n0 <= 4294967296 * r + v) : q <= Q := by
 rcases Nat.lt_or_ge Q q with hlt | hge
 ·exfalso
  have h1 : (Q + 1) * Y <= q * Y := Nat.mul_le_mul_right _ hlt
  have h2 : q * Y = q * n1 * 4294967296 + q * n0 := by rw [hY, Nat.mul_add, <- Nat.mul_assoc]
  omega
 ·exact hge
theorem j2 (u v Y n1 n0 q r Q : Nat) (hY : Y = n1 * 4294967296 + n0) (hu : u = q * n1 + r) (hQ0 : Q * Y <= u * 4294967296 + v)
  (h : 4294967296 * r + v < q * n0) : Q < q := by
 rcases Nat.lt_or_ge Q q with hlt | hge
 ·exact hlt
 ·exfalso
  have h1 : q * Y <= Q * Y := Nat.mul_le_mul_right _ hge
  have h2 : q * Y = q * n1 * 4294967296 + q * n0 := by rw [hY, Nat.mul_add, <- Nat.mul_assoc]
  omega
theorem cR (u v Y n1 n0 q r Q : Nat) (hY : Y = n1 * 4294967296 + n0) (h0 : n0 < 4294967296) (hu : u = q * n1 + r) (huY : u < Y) (_h1 : 0 < n1)
  (hQ1 : u * 4294967296 + v < (Q + 1) * Y) (hr : 4294967296 <= r) : q <= Q := by
 refine iO u v Y n1 n0 q r Q hY hu hQ1 ?_
 have hq : q < 4294967296 := by
  rcases Nat.lt_or_ge q 4294967296 with h | h
  ·exact h
  ·exfalso
   have : 4294967296 * n1 <= q * n1 := Nat.mul_le_mul_right _ h
   omega
 have h2 : q * n0 <= 4294967296 * 4294967296 := Nat.mul_le_mul (by omega) (by omega)
 omega
theorem dx (u n1 q r : Nat) (hu : u = (q + 1) * n1 + r) : u = q * n1 + (r + n1) := by
 rw [Nat.add_mul, Nat.one_mul] at hu; omega
theorem rY (y : Nat) (h0 : y ≠ 0) (h : y < 18446744073709551616) :
  ∃ s : Nat, s <= 63 /\ (64 : Int) - (Lib.bitLen y : Int) = (s : Int) /\ 9223372036854775808 <= y * 2 ^ s /\ y * 2 ^ s < 18446744073709551616 := by
 obtain ⟨b1, b2, b3⟩ := Lib.bitLenAux_bounds 64 y (by simpa using h) h0
 have hb : Lib.bitLen y = Lib.bitLenAux 64 y := rfl
 have hle : Lib.bitLenAux 64 y <= 64 := Lib.bitLenAux_le 64 y 64 (by simpa using h)
 rw [hb]
 generalize Lib.bitLenAux 64 y = k at *
 refine ⟨64 - k, by omega, by omega, ?_, ?_⟩
 ·have := Nat.mul_le_mul_right (2 ^ (64 - k)) b2
  rw [<- Nat.pow_add, show k - 1 + (64 - k) = 63 by omega] at this
  exact this
 ·have := Nat.mul_lt_mul_of_pos_right b3 (Nat.two_pow_pos (64 - k))
  rw [<- Nat.pow_add, show k + (64 - k) = 64 by omega] at this
  exact this
theorem l8 (u v Y n1 n0 : Nat) (hY : Y = n1 * 4294967296 + n0) (h0 : n0 < 4294967296) (hn : 2147483648 <= n1) (hn' : n1 < 4294967296) (hu : u < Y) (hv : v < 4294967296) :
  (u * 4294967296 + v) / Y < 4294967296 /\ (u * 4294967296 + v) / Y <= u / n1 /\ u / n1 < 8589934592 /\ (u * 4294967296 + v) % Y < Y /\ u / n1 * n1 <= u /\ u % n1 < 4294967296 /\ u = u / n1 * n1 + u % n1 /\
  (u * 4294967296 + v) / Y * Y <= u * 4294967296 + v /\ u * 4294967296 + v < ((u * 4294967296 + v) / Y + 1) * Y := by
 have hYp : 0 < Y := by omega
 have hnp : 0 < n1 := by omega
 have e1 := Nat.div_add_mod (u * 4294967296 + v) Y
 have e2 := Nat.mod_lt (u * 4294967296 + v) hYp
 have e3 := Nat.div_add_mod u n1
 have e4 := Nat.mod_lt u hnp
 generalize (u * 4294967296 + v) / Y = Q at *
 generalize (u * 4294967296 + v) % Y = R at *
 generalize u / n1 = q at *
 generalize u % n1 = r at *
 have hQ : Q < 4294967296 := by
  rcases Nat.lt_or_ge Q 4294967296 with h | h
  ·exact h
  ·exfalso
   have := Nat.mul_le_mul_left Y h
   omega
 have m1 : Y * Q = Q * Y := Nat.mul_comm _ _
 have m2 : n1 * q = q * n1 := Nat.mul_comm _ _
 have m3 : (Q + 1) * Y = Q * Y + Y := by rw [Nat.add_mul, Nat.one_mul]
 have m4 : Q * Y = Q * n1 * 4294967296 + Q * n0 := by rw [hY, Nat.mul_add, <- Nat.mul_assoc]
 refine ⟨hQ, ?_, ?_, e2, by omega, by omega, by omega, by omega, by omega⟩
 ·rcases Nat.lt_or_ge q Q with h | h
  ·exfalso
   have := Nat.mul_le_mul_right n1 h
   rw [Nat.succ_mul] at this
   omega
  ·exact h
 ·rcases Nat.lt_or_ge q 8589934592 with h | h
  ·exact h
  ·exfalso
   have := Nat.mul_le_mul_right n1 h
   omega
theorem t6 (hi lo y s u v Y Q R v1 v0 Q' : Nat) (hy : 0 < y) (hY : Y = y * 2 ^ s) (hU : (hi * 18446744073709551616 + lo) * 2 ^ s = u * 18446744073709551616 + v)
  (hv : v = v1 * 4294967296 + v0) (hQ : u * 4294967296 + v1 = Q * Y + R) (hQ' : R * 4294967296 + v0 < (Q' + 1) * Y) (hQ'' : Q' * Y <= R * 4294967296 + v0) :
  (hi * 18446744073709551616 + lo) / y = Q * 4294967296 + Q' := by
 have hYp : 0 < Y := by rw [hY]; exact Nat.mul_pos hy (Nat.two_pow_pos s)
 obtain ⟨U, hU'⟩ : ∃ U, U = u * 18446744073709551616 + v := ⟨_, rfl⟩
 obtain ⟨K, hK⟩ : ∃ K, K = Q * 4294967296 + Q' := ⟨_, rfl⟩
 rw [<- Nat.mul_div_mul_right _ _ (Nat.two_pow_pos s), hU, <- hY, <- hU', <- hK]
 have m1 : K * Y = Q * Y * 4294967296 + Q' * Y := by rw [hK, Nat.add_mul, Nat.mul_right_comm]
 have m2 : (Q' + 1) * Y = Q' * Y + Y := by rw [Nat.add_mul, Nat.one_mul]
 have m3 : (K + 1) * Y = K * Y + Y := by rw [Nat.add_mul, Nat.one_mul]
 have g1 : K * Y <= U := by omega
 have g2 : U < (K + 1) * Y := by omega
 exact Nat.div_eq_of_lt_le g1 g2
end Go.Proofs.YtndhhgbpcmfeiaaGreatDoor
