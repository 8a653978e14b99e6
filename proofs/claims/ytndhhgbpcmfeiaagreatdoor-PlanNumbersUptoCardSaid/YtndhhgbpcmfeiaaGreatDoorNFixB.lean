/- bits.Div64: the quotient, for every fitting argument. -/
import Derived.Test.YtndhhgbpcmfeiaaGreatDoorProg
import Derived.WalkKit
import Derived.ProofKit
import Derived.OpenShut
import Derived.Outline
import Derived.WalkSpells
import Derived.WalkLawsBesides
import Derived.Deep.QuietTactic
import Derived.BigQuiet
import Derived.Lib.Hide
import Derived.Deep.DeepFit
import Derived.Deep.DeepMust
import Derived.Test.YtndhhgbpcmfeiaaGreatDoorNFixD
import Derived.Test.YtndhhgbpcmfeiaaGreatDoorNFixN
import Derived.Deep.RegionWith
import Derived.Deep.RegionHeld3

namespace Go.Proofs.YtndhhgbpcmfeiaaGreatDoor
open Go.ChangeShapes Go.WideShapes Go.ChangeAt Go.RowKit
set_option maxRecDepth 100000
theorem tF (n : Nat) : IntKind.u64.wrap (n : Int) = ((n % 18446744073709551616 : Nat) : Int) := by
 simp only [IntKind.wrap, IntKind.signed, IntKind.bits]; simp
set_option maxHeartbeats 1000000 in
theorem yU (hi lo y : Nat) (w : World) (h0 : 0 < hi) (h1 : hi < y) (h2 : y < 18446744073709551616) (h3 : lo < 18446744073709551616) :
  Calls Tryz.prog 169 #[.int .u64 hi, .int .u64 lo, .int .u64 y] w fun e w' => (∃ r : Int, e = .returned (.tuple #[.int .u64 (((hi * 18446744073709551616 + lo) / y : Nat) : Int), .int .u64 r])) /\ w = w' := by
 obtain ⟨s, hs1, hs, hYl, hYh⟩ := rY y (by omega) h2
 obtain ⟨Y, hYe⟩ : ∃ Y, Y = y * 2 ^ s := ⟨_, rfl⟩
 rw [<- hYe] at hYl hYh
 have hsplit : 18446744073709551616 = 2 ^ (64 - s) * 2 ^ s := by rw [<- Nat.pow_add, show 64 - s + s = 64 by omega]
 have hlo : lo / 2 ^ (64 - s) = lo * 2 ^ s / 18446744073709551616 := by
  rw [hsplit, Nat.mul_div_mul_right _ _ (Nat.two_pow_pos s)]
 have hloB : lo / 2 ^ (64 - s) < 2 ^ s := by
  rw [Nat.div_lt_iff_lt_mul (Nat.two_pow_pos _), Nat.mul_comm, <- hsplit]; exact h3
 have hhi : hi * 2 ^ s + 2 ^ s <= Y := by
  rw [hYe, show hi * 2 ^ s + 2 ^ s = (hi + 1) * 2 ^ s by rw [Nat.add_mul, Nat.one_mul]]
  exact Nat.mul_le_mul_right _ h1
 obtain ⟨u, hu⟩ : ∃ u, u = hi * 2 ^ s + lo / 2 ^ (64 - s) := ⟨_, rfl⟩
 obtain ⟨v, hv⟩ : ∃ v, v = lo * 2 ^ s % 18446744073709551616 := ⟨_, rfl⟩
 have hvB : v < 18446744073709551616 := by rw [hv]; exact Nat.mod_lt _ (by omega)
 have huB : u < Y := by omega
 have hU : (hi * 18446744073709551616 + lo) * 2 ^ s = u * 18446744073709551616 + v := by
  have e := Nat.div_add_mod (lo * 2 ^ s) 18446744073709551616
  rw [<- hlo, <- hv] at e
  rw [Nat.add_mul, hu, Nat.add_mul, Nat.mul_right_comm]
  omega
 obtain ⟨n1, hn1⟩ : ∃ n1, n1 = Y / 4294967296 := ⟨_, rfl⟩
 obtain ⟨n0, hn0⟩ : ∃ n0, n0 = Y % 4294967296 := ⟨_, rfl⟩
 obtain ⟨v1, hv1⟩ : ∃ n1, n1 = v / 4294967296 := ⟨_, rfl⟩
 obtain ⟨v0, hv0⟩ : ∃ n0, n0 = v % 4294967296 := ⟨_, rfl⟩
 have eY : Y = n1 * 4294967296 + n0 := by omega
 have bn1 : 2147483648 <= n1 := by omega
 have bn1' : n1 < 4294967296 := by omega
 have bn0 : n0 < 4294967296 := by omega
 have bv1 : v1 < 4294967296 := by omega
 have bv0 : v0 < 4294967296 := by omega
 obtain ⟨f1, f2, f3, f4, f5, f6, f7, f8, f9⟩ := l8 u v1 Y n1 n0 eY bn0 bn1 bn1' huB bv1
 have f10 := Nat.div_add_mod (u * 4294967296 + v1) Y
 rw [Nat.mul_comm] at f10
 obtain ⟨Q, hQ⟩ : ∃ Q, Q = (u * 4294967296 + v1) / Y := ⟨_, rfl⟩
 obtain ⟨R, hR⟩ : ∃ R, R = (u * 4294967296 + v1) % Y := ⟨_, rfl⟩
 rw [<- hQ] at f1 f2 f8 f9 f10
 rw [<- hR] at f4 f10
 obtain ⟨g1, g2, g3, g4, g5, g6, g7, g8, g9⟩ := l8 R v0 Y n1 n0 eY bn0 bn1 bn1' f4 bv0
 have g10 := Nat.div_add_mod (R * 4294967296 + v0) Y
 rw [Nat.mul_comm] at g10
 obtain ⟨Q', hQ'⟩ : ∃ Q, Q = (R * 4294967296 + v0) / Y := ⟨_, rfl⟩
 obtain ⟨R', hR'⟩ : ∃ R', R' = (R * 4294967296 + v0) % Y := ⟨_, rfl⟩
 rw [<- hQ'] at g1 g2 g8 g9 g10
 rw [<- hR'] at g4 g10
 have hfin : (hi * 18446744073709551616 + lo) / y = Q * 4294967296 + Q' :=
  t6 hi lo y s u v Y Q R v1 v0 Q' (by omega) hYe hU (by omega) (by omega) g9 g8
 rw [hfin]
 clear hfin
 have hor : bits BinOp.or IntKind.u64 (IntKind.u64.wrap ((hi : Int) * 2 ^ s)) ((lo : Int) / 2 ^ (64 - s)) = (u : Int) := by
  have e1 : ((hi : Int) * 2 ^ s) = ((hi * 2 ^ s : Nat) : Int) := by push_cast; rfl
  have e2 : ((lo : Int) / 2 ^ (64 - s)) = ((lo / 2 ^ (64 - s) : Nat) : Int) := by push_cast; rfl
  rw [e1, e2, gf _ (by omega), bits_or_u64_nat _ _ (by omega) (by omega)]
  congr 1
  rw [hu, Nat.mul_comm hi, Nat.two_pow_add_eq_or_of_lt hloB]
 have hm : ∀ a : Nat, a < 18446744073709551616 -> bits .and .u64 (a : Int) 4294967295 = ((a % 4294967296 : Nat) : Int) := Mul64.maskN
 have hpow : ∀ k : Nat, ((k : Int) * 2 ^ s) = ((k * 2 ^ s : Nat) : Int) := fun k => by push_cast; rfl
 have hsub : ∀ (a b : Nat), b <= a -> a - b < 18446744073709551616 -> ∀ x : Nat, x % 18446744073709551616 = b % 18446744073709551616 -> IntKind.u64.wrap (((a % 18446744073709551616 : Nat) : Int) - (x % 18446744073709551616 : Nat)) = ((a - b : Nat) : Int) := by
  intro a b h h' x hx
  rw [hx]
  simp only [IntKind.wrap, IntKind.signed, IntKind.bits]; simp; omega
 have hstep : ∀ U v1 p R : Nat, U * 4294967296 + v1 = p + R -> R < 18446744073709551616 -> IntKind.u64.wrap ((((U * 4294967296 % 18446744073709551616 + v1) % 18446744073709551616 : Nat) : Int) - (p % 18446744073709551616 : Nat)) = (R : Int) := by
  intro U v1 p R h h'
  have e : (U * 4294967296 % 18446744073709551616 + v1) % 18446744073709551616 = (U * 4294967296 + v1) % 18446744073709551616 := by omega
  have k := hsub (U * 4294967296 + v1) p (by omega) (by omega) p rfl
  rw [e, k]; congr 1; omega
 have hmul : ∀ a b : Nat, IntKind.u64.wrap ((a : Int) * (b : Int)) = ((a * b % 18446744073709551616 : Nat) : Int) := fun a b => by rw [<- Int.natCast_mul, tF]
 have hmul' : ∀ a b : Nat, a * b < 18446744073709551616 -> IntKind.u64.wrap ((a : Int) * (b : Int)) = ((a * b : Nat) : Int) := fun a b h => by rw [<- Int.natCast_mul, gf _ h]
 have hcast : (Q : Int) * 4294967296 + (Q' : Int) = ((Q * 4294967296 + Q' : Nat) : Int) := by omega
 refine (vr hi lo y Y s n1 n0 u v v1 v0 (u / n1) (u / n1 * n1) (u % n1) Q R (R / n1) (R / n1 * n1) (R % n1) Q' R'
  (u * 4294967296 % 18446744073709551616) ((u * 4294967296 % 18446744073709551616 + v1) % 18446744073709551616) (Q * Y % 18446744073709551616)
  (R * 4294967296 % 18446744073709551616) ((R * 4294967296 % 18446744073709551616 + v0) % 18446744073709551616) (Q' * Y % 18446744073709551616)
  w h0 h1 h2 h3 hs hs1 (by rw [hpow, <- hYe, gf _ hYh]) (by omega) (by rw [hm Y hYh, hn0]) hor (by rw [hpow, tF, hv]) (by omega) (by rw [hm v hvB, hv0])
  (by push_cast; rfl) (hmul' _ _ (by omega)) (by omega) (by push_cast; rfl) (hmul' _ _ (by omega)) (by omega)
  (hmul u 4294967296) (by rw [<- Int.natCast_add, tF]) (hmul Q Y) (hstep u v1 (Q * Y) R (by omega) (by omega))
  (hmul R 4294967296) (by rw [<- Int.natCast_add, tF]) (hmul Q' Y) (hstep R v0 (Q' * Y) R' (by omega) (by omega))
  hYh bn1 bn1' bn0 huB bv1 bv0 f3 f5 f6 g3 g5 g6 f4 f1 g1 f2 g2 eY f7 g7 f8 f9 g8 g9).mono ?_
 rintro e w' ⟨⟨r, rfl⟩, rfl⟩
 exact ⟨⟨r, by rw [hcast]⟩, rfl⟩

theorem vt (lo y : Nat) (w : World) (h1 : 0 < y) (h2 : y < 18446744073709551616) (h3 : lo < 18446744073709551616) :
  Calls Tryz.prog 169 #[.int .u64 0, .int .u64 lo, .int .u64 y] w fun e w' => (∃ r : Int, e = .returned (.tuple #[.int .u64 ((lo / y : Nat) : Int), .int .u64 r])) /\ ∃ n, w' = w.drewN n := by
 have e1 : ((y : Int) == 0) = false := by simp; omega
 have e2 : ((y : Int) = 0) = False := by simp; omega
 have e3 : decide ((y : Int) <= 0) = false := by simp; omega
 have e4 : IntKind.u64.wrap ((lo : Int) / (y : Int)) = ((lo / y : Nat) : Int) := by
  rw [<- Int.natCast_ediv, gf _ (Nat.lt_of_le_of_lt (Nat.div_le_self _ _) h3)]
 go_enter Tryz.func169, Tryz.ntmps169
 go_wp2_with fail
 go_quiet (fail)
 go_wp2_with fail
 go_ret2
 exact ⟨⟨_, rfl⟩, ⟨_, rfl⟩⟩
theorem yT (hi lo y : Nat) (w : World) (h1 : hi < y) (h2 : y < 18446744073709551616) (h3 : lo < 18446744073709551616) :
  Calls Tryz.prog 169 #[.int .u64 hi, .int .u64 lo, .int .u64 y] w fun e w' => (∃ r : Int, e = .returned (.tuple #[.int .u64 (((hi * 18446744073709551616 + lo) / y : Nat) : Int), .int .u64 r])) /\ ∃ n, w' = w.drewN n := by
 rcases Nat.eq_zero_or_pos hi with rfl | h0
 ·simpa using vt lo y w h1 h2 h3
 ·exact (yU hi lo y w h0 h1 h2 h3).mono fun e w' ⟨a, b⟩ => ⟨a, 0, by rw [<- b]; rfl⟩
def n8 (a b c : Int) : Bool := xor (xor (decide (a < 0)) (decide (b < 0))) (decide (c < 0))
def AS (s : Bool) (n : Int) : Int := if s then -n else n
def dc (a b c : Int) : Int × Int :=
 if a.natAbs * b.natAbs / c.natAbs <= 1152921504606846976 then (AS (n8 a b c) ((a.natAbs * b.natAbs / c.natAbs : Nat) : Int), 0) else (0, 11)
theorem yg (n a b c : Int) (pa pb pc : Addr) (w : World) (ha : w.cell? pa = some (.int .i64 a)) (hb : w.cell? pb = some (.int .i64 b)) (hc : w.cell? pc = some (.int .i64 c))
  (h : -9223372036854775808 < n /\ n < 9223372036854775808) :
  Calls Tryz.prog 167 #[.int .i64 n, .pointer (some pa), .pointer (some pb), .pointer (some pc)] w fun e w' => e = .returned (.int .i64 (AS (n8 a b c) n)) /\ ∃ k, w' = w.drewN k := by
 have h1 := h.1
 have h2 := h.2
 go_enter Tryz.func167, Tryz.ntmps167
 clear h
 by_cases ca : a < 0 <;> by_cases cb : b < 0 <;> by_cases cc : c < 0 <;> cases hS : n8 a b c
 all_goals first | (exfalso; simp [n8, ca, cb, cc] at hS; done) | skip
 all_goals
  go_wp2_with fail
  go_ret
  exact ⟨tv (by simp [AS]), 0, rfl⟩
theorem mr (x y hi lo : Nat) (w : World) (hx : x < 18446744073709551616) (hy : y < 18446744073709551616) (h : x * y = hi * 18446744073709551616 + lo) (hl : lo < 18446744073709551616) :
  Calls Tryz.prog 168 #[.int .u64 x, .int .u64 y] w fun e w' => e = .returned (.tuple #[.int .u64 hi, .int .u64 lo]) /\ w = w' := by
 refine (Tryz.bits_Mul64 x y hx hy w).mono ?_
 rintro e w' ⟨rfl, rfl⟩
 refine ⟨?_, rfl⟩
 have e1 : x * y / 18446744073709551616 = hi := by omega
 have e2 : x * y % 18446744073709551616 = lo := by omega
 rw [e1, e2]
theorem AG (hi lo y q : Nat) (w : World) (h1 : hi < y) (h2 : y < 18446744073709551616) (h3 : lo < 18446744073709551616) (hq : (hi * 18446744073709551616 + lo) / y = q) :
  Calls Tryz.prog 169 #[.int .u64 hi, .int .u64 lo, .int .u64 y] w fun e w' => ∃ r : Int, e = .returned (.tuple #[.int .u64 (q : Int), .int .u64 r]) /\ ∃ n, w' = w.drewN n :=
 (yT hi lo y w h1 h2 h3).mono fun e w' ⟨⟨r, h⟩, k⟩ => ⟨r, by rw [h, hq], k⟩
theorem iz (w : World) (n : Nat) : Below w.heap.size w (w.drewN n) := ⟨rfl, rfl, rfl, Nat.le_refl _, fun _ _ => rfl⟩
theorem qJ (a b c : Int) (A B C hi lo : Nat) (w : World) (ha : -1152921504606846976 <= a /\ a <= 1152921504606846976) (hb : -1152921504606846976 <= b /\ b <= 1152921504606846976) (hc : -1152921504606846976 <= c /\ c <= 1152921504606846976)
  (hA : a.natAbs = A) (hB : b.natAbs = B) (hC : c.natAbs = C) (hP : Hid (A * B = hi * 18446744073709551616 + lo)) (hlo : lo < 18446744073709551616) (bA : A < 18446744073709551616) (bB : B < 18446744073709551616)
  (bC : C < 18446744073709551616) (hover : decide (C <= hi) = true) :
  Calls Tryz.prog 143 #[.int .i64 a, .int .i64 b, .int .i64 c] w fun e w' => e = .returned (.tuple #[.int .i64 0, .int .i64 11]) /\ Below w.heap.size w w' := by
 have hs : ∀ (x : Int) (X : Nat) w, (-1152921504606846976 <= x /\ x <= 1152921504606846976) -> x.natAbs = X -> Calls Tryz.prog 137 #[.int .i64 x] w fun e w' => e = .returned (.int .u64 (X : Int)) /\ w = w' := fun x X w h e => by rw [<- e]; exact mO x w h
 have hsa := fun w => hs a A w ha hA
 have hsb := fun w => hs b B w hb hB
 have hsc := fun w => hs c C w hc hC
 have Ha := Lib.hid hsa
 have Hb := Lib.hid hsb
 have Hc := Lib.hid hsc
 clear hs hsa hsb hsc hA hB hC ha hb hc
 go_enter Tryz.func143, Tryz.ntmps143
 go_wp2_with fail
 go_quiet ((first | (go_at_call_of 137 (Value.int IntKind.i64 a); exact df (Ha.out _)) | (go_at_call_of 137 (Value.int IntKind.i64 b); exact df (Hb.out _)) | (go_at_call 168; exact df (mr _ _ hi lo _ bA bB hP.out hlo))))
 go_wp2_with (go_at_call 137; refine (Hc.out _).mono ?_; rintro e w' ⟨rfl, rfl⟩)
 go_ret2
 exact ⟨rfl, ((((Below.refl _ _).alloc (Nat.le_refl _) _).alloc (by simp) _).alloc (by simp; omega) _).trans ((iz _ _).mono (by simp; omega))⟩
theorem pA (a b c : Int) (A B C hi lo : Nat) (w : World) (ha : -1152921504606846976 <= a /\ a <= 1152921504606846976) (hb : -1152921504606846976 <= b /\ b <= 1152921504606846976) (hc : -1152921504606846976 <= c /\ c <= 1152921504606846976)
  (hA : a.natAbs = A) (hB : b.natAbs = B) (hC : c.natAbs = C) (hP : Hid (A * B = hi * 18446744073709551616 + lo)) (hlo : lo < 18446744073709551616) (bA : A < 18446744073709551616) (bB : B < 18446744073709551616)
  (bC : C < 18446744073709551616) (hunder : decide (C <= hi) = false) (hCp : hi < C) (q : Nat) (hq : Hid ((hi * 18446744073709551616 + lo) / C = q)) (hbig : decide ((1152921504606846976 : Int) < (q : Int)) = true) :
  Calls Tryz.prog 143 #[.int .i64 a, .int .i64 b, .int .i64 c] w fun e w' => e = .returned (.tuple #[.int .i64 0, .int .i64 11]) /\ Below w.heap.size w w' := by
 have hs : ∀ (x : Int) (X : Nat) w, (-1152921504606846976 <= x /\ x <= 1152921504606846976) -> x.natAbs = X -> Calls Tryz.prog 137 #[.int .i64 x] w fun e w' => e = .returned (.int .u64 (X : Int)) /\ w = w' := fun x X w h e => by rw [<- e]; exact mO x w h
 have hsa := fun w => hs a A w ha hA
 have hsb := fun w => hs b B w hb hB
 have hsc := fun w => hs c C w hc hC
 have Ha := Lib.hid hsa
 have Hb := Lib.hid hsb
 have Hc := Lib.hid hsc
 clear hs hsa hsb hsc hA hB hC ha hb hc
 go_enter Tryz.func143, Tryz.ntmps143
 go_wp2_with fail
 go_quiet ((first | (go_at_call_of 137 (Value.int IntKind.i64 a); exact df (Ha.out _)) | (go_at_call_of 137 (Value.int IntKind.i64 b); exact df (Hb.out _)) | (go_at_call 168; exact df (mr _ _ hi lo _ bA bB hP.out hlo))))
 go_wp2_with (first | (go_at_call 137; refine (Hc.out _).mono ?_; rintro e w' ⟨rfl, rfl⟩) | (go_at_call 169; refine (AG hi lo C q _ hCp bC hlo hq.out).mono ?_; rintro e w' ⟨r, rfl, nr, rfl⟩))
 go_ret2
 exact ⟨rfl, ((((Below.refl _ _).alloc (Nat.le_refl _) _).alloc (by simp) _).alloc (by simp; omega) _).trans ((iz _ _).mono (by simp; omega))⟩
theorem pC (a b c : Int) (A B C hi lo : Nat) (w : World) (ha : -1152921504606846976 <= a /\ a <= 1152921504606846976) (hb : -1152921504606846976 <= b /\ b <= 1152921504606846976) (hc : -1152921504606846976 <= c /\ c <= 1152921504606846976)
  (hA : a.natAbs = A) (hB : b.natAbs = B) (hC : c.natAbs = C) (hP : Hid (A * B = hi * 18446744073709551616 + lo)) (hlo : lo < 18446744073709551616) (bA : A < 18446744073709551616) (bB : B < 18446744073709551616)
  (bC : C < 18446744073709551616) (hunder : decide (C <= hi) = false) (hCp : hi < C) (q : Nat) (hq : Hid ((hi * 18446744073709551616 + lo) / C = q)) (hbig : decide ((1152921504606846976 : Int) < (q : Int)) = false) (hqb : (q : Int) <= 1152921504606846976) :
  Calls Tryz.prog 143 #[.int .i64 a, .int .i64 b, .int .i64 c] w fun e w' => e = .returned (.tuple #[.int .i64 (AS (n8 a b c) q), .int .i64 0]) /\ Below w.heap.size w w' := by
 have hs : ∀ (x : Int) (X : Nat) w, (-1152921504606846976 <= x /\ x <= 1152921504606846976) -> x.natAbs = X -> Calls Tryz.prog 137 #[.int .i64 x] w fun e w' => e = .returned (.int .u64 (X : Int)) /\ w = w' := fun x X w h e => by rw [<- e]; exact mO x w h
 have hsa := fun w => hs a A w ha hA
 have hsb := fun w => hs b B w hb hB
 have hsc := fun w => hs c C w hc hC
 have Ha := Lib.hid hsa
 have Hb := Lib.hid hsb
 have Hc := Lib.hid hsc
 clear hs hsa hsb hsc hA hB hC ha hb hc
 go_enter Tryz.func143, Tryz.ntmps143
 go_wp2_with fail
 go_quiet ((first | (go_at_call_of 137 (Value.int IntKind.i64 a); exact df (Ha.out _)) | (go_at_call_of 137 (Value.int IntKind.i64 b); exact df (Hb.out _)) | (go_at_call 168; exact df (mr _ _ hi lo _ bA bB hP.out hlo))))
 go_wp2_with (first | (go_at_call 137; refine (Hc.out _).mono ?_; rintro e w' ⟨rfl, rfl⟩) | (go_at_call 169; refine (AG hi lo C q _ hCp bC hlo hq.out).mono ?_; rintro e w' ⟨r, rfl, nr, rfl⟩) | (go_at_call 167; refine (yg _ a b c _ _ _ _ ?_ ?_ ?_ ?_).mono ?_; (· go_simp); (· go_simp); (· go_simp); (· omega); rintro e w' ⟨rfl, k, rfl⟩))

 go_ret2
 exact ⟨rfl, ((((Below.refl _ _).alloc (Nat.le_refl _) _).alloc (by simp) _).alloc (by simp; omega) _).trans ((iz _ _).mono (by simp; omega))⟩
end Go.Proofs.YtndhhgbpcmfeiaaGreatDoor
