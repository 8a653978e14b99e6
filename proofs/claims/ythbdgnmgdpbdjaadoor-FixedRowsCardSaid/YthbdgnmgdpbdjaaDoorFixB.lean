/- Walks of package fixed, second part: products and quotients. -/
import Derived.Test.YthbdgnmgdpbdjaaDoorProg
import Derived.WalkKit
import Derived.ProofKit
import Derived.OpenShut
import Derived.Outline
import Derived.WalkSpells
import Derived.WalkLawsBesides
import Derived.Deep.QuietTactic
import Derived.BigQuiet
import Derived.Lib.Hide
import Derived.Deep.DeepFit
import Derived.Deep.DeepMust

import Derived.Test.YthbdgnmgdpbdjaaDoorFixA
import Derived.Test.YthbdgnmgdpbdjaaDoorFixE
import Derived.Deep.RegionWith
import Derived.Deep.RegionHeld3
namespace Go.Proofs.YthbdgnmgdpbdjaaDoor
open Go.ChangeShapes Go.WideShapes Go.ChangeAt Go.RowKit
set_option linter.unusedVariables false
set_option maxRecDepth 100000
def signB (a b c : Int) : Bool := xor (xor (decide (a < 0)) (decide (b < 0))) (decide (c < 0))
def sgn (s : Bool) (n : Int) : Int := if s then -n else n
def fScaled (a b c : Int) : Int × Int :=
  if a.natAbs * b.natAbs / c.natAbs ≤ 1152921504606846976 then (sgn (signB a b c) ((a.natAbs * b.natAbs / c.natAbs : Nat) : Int), 0) else (0, 11)
theorem sign_any (n a b c : Int) (pa pb pc : Addr) (w : World) (ha : w.cell? pa = some (.int .i64 a)) (hb : w.cell? pb = some (.int .i64 b)) (hc : w.cell? pc = some (.int .i64 c))
    (h : -9223372036854775808 < n ∧ n < 9223372036854775808) :
    Calls Tryd.prog 40 #[.int .i64 n, .pointer (some pa), .pointer (some pb), .pointer (some pc)] w fun e w' => e = .returned (.int .i64 (sgn (signB a b c) n)) ∧ ∃ k, w' = w.drewN k := by
  have h1 := h.1
  have h2 := h.2
  go_enter Tryd.func40, Tryd.ntmps40
  clear h
  by_cases ca : a < 0 <;> by_cases cb : b < 0 <;> by_cases cc : c < 0 <;> cases hS : signB a b c
  all_goals first | (exfalso; simp [signB, ca, cb, cc] at hS; done) | skip
  all_goals
    go_wp2_with fail
    go_ret
    exact ⟨ret_int (by simp [sgn]), 0, rfl⟩
theorem mul64_hl (x y hi lo : Nat) (w : World) (hx : x < 18446744073709551616) (hy : y < 18446744073709551616) (h : x * y = hi * 18446744073709551616 + lo) (hl : lo < 18446744073709551616) :
    Calls Tryd.prog 41 #[.int .u64 x, .int .u64 y] w fun e w' => e = .returned (.tuple #[.int .u64 hi, .int .u64 lo]) ∧ w = w' := by
  refine (Tryd.bits_Mul64 x y hx hy w).mono ?_
  rintro e w' ⟨rfl, rfl⟩
  refine ⟨?_, rfl⟩
  have e1 : x * y / 18446744073709551616 = hi := by omega
  have e2 : x * y % 18446744073709551616 = lo := by omega
  rw [e1, e2]
theorem div_q (hi lo y q : Nat) (w : World) (h1 : hi < y) (h2 : y < 18446744073709551616) (h3 : lo < 18446744073709551616) (hq : (hi * 18446744073709551616 + lo) / y = q) :
    Calls Tryd.prog 42 #[.int .u64 hi, .int .u64 lo, .int .u64 y] w fun e w' => ∃ r : Int, e = .returned (.tuple #[.int .u64 (q : Int), .int .u64 r]) ∧ ∃ n, w' = w.drewN n :=
  (div_all hi lo y w h1 h2 h3).mono fun e w' ⟨⟨r, h⟩, k⟩ => ⟨r, by rw [h, hq], k⟩
theorem drewN_below (w : World) (n : Nat) : Below w.heap.size w (w.drewN n) := ⟨rfl, rfl, rfl, Nat.le_refl _, fun _ _ => rfl⟩
theorem scaled_core (a b c : Int) (A B C hi lo : Nat) (w : World) (ha : -1152921504606846976 ≤ a ∧ a ≤ 1152921504606846976) (hb : -1152921504606846976 ≤ b ∧ b ≤ 1152921504606846976) (hc : -1152921504606846976 ≤ c ∧ c ≤ 1152921504606846976)
    (hA : a.natAbs = A) (hB : b.natAbs = B) (hC : c.natAbs = C) (hP : Hid (A * B = hi * 18446744073709551616 + lo)) (hlo : lo < 18446744073709551616) (bA : A < 18446744073709551616) (bB : B < 18446744073709551616)
    (bC : C < 18446744073709551616) (hover : decide (C ≤ hi) = true) :
    Calls Tryd.prog 29 #[.int .i64 a, .int .i64 b, .int .i64 c] w fun e w' => e = .returned (.tuple #[.int .i64 0, .int .i64 11]) ∧ Below w.heap.size w w' := by
  have hs : ∀ (x : Int) (X : Nat) w, (-1152921504606846976 ≤ x ∧ x ≤ 1152921504606846976) → x.natAbs = X → Calls Tryd.prog 34 #[.int .i64 x] w fun e w' => e = .returned (.int .u64 (X : Int)) ∧ w = w' := fun x X w h e => by rw [← e]; exact size_any x w h
  have hsa := fun w => hs a A w ha hA
  have hsb := fun w => hs b B w hb hB
  have hsc := fun w => hs c C w hc hC
  have Ha := Lib.hid hsa
  have Hb := Lib.hid hsb
  have Hc := Lib.hid hsc
  clear hs hsa hsb hsc hA hB hC ha hb hc
  go_enter Tryd.func29, Tryd.ntmps29
  go_wp2_with fail
  go_quiet ((first | (go_at_call_of 34 (Value.int IntKind.i64 a); exact quiet_mine (Ha.out _)) | (go_at_call_of 34 (Value.int IntKind.i64 b); exact quiet_mine (Hb.out _)) | (go_at_call 41; exact quiet_mine (mul64_hl _ _ hi lo _ bA bB hP.out hlo))))
  go_wp2_with (go_at_call 34; refine (Hc.out _).mono ?_; rintro e w' ⟨rfl, rfl⟩)
  go_ret2
  exact ⟨rfl, ((((Below.refl _ _).alloc (Nat.le_refl _) _).alloc (by simp) _).alloc (by simp; omega) _).trans ((drewN_below _ _).mono (by simp; omega))⟩
theorem scaled_core2 (a b c : Int) (A B C hi lo : Nat) (w : World) (ha : -1152921504606846976 ≤ a ∧ a ≤ 1152921504606846976) (hb : -1152921504606846976 ≤ b ∧ b ≤ 1152921504606846976) (hc : -1152921504606846976 ≤ c ∧ c ≤ 1152921504606846976)
    (hA : a.natAbs = A) (hB : b.natAbs = B) (hC : c.natAbs = C) (hP : Hid (A * B = hi * 18446744073709551616 + lo)) (hlo : lo < 18446744073709551616) (bA : A < 18446744073709551616) (bB : B < 18446744073709551616)
    (bC : C < 18446744073709551616) (hunder : decide (C ≤ hi) = false) (hCp : hi < C) (q : Nat) (hq : Hid ((hi * 18446744073709551616 + lo) / C = q)) (hbig : decide ((1152921504606846976 : Int) < (q : Int)) = true) :
    Calls Tryd.prog 29 #[.int .i64 a, .int .i64 b, .int .i64 c] w fun e w' => e = .returned (.tuple #[.int .i64 0, .int .i64 11]) ∧ Below w.heap.size w w' := by
  have hs : ∀ (x : Int) (X : Nat) w, (-1152921504606846976 ≤ x ∧ x ≤ 1152921504606846976) → x.natAbs = X → Calls Tryd.prog 34 #[.int .i64 x] w fun e w' => e = .returned (.int .u64 (X : Int)) ∧ w = w' := fun x X w h e => by rw [← e]; exact size_any x w h
  have hsa := fun w => hs a A w ha hA
  have hsb := fun w => hs b B w hb hB
  have hsc := fun w => hs c C w hc hC
  have Ha := Lib.hid hsa
  have Hb := Lib.hid hsb
  have Hc := Lib.hid hsc
  clear hs hsa hsb hsc hA hB hC ha hb hc
  go_enter Tryd.func29, Tryd.ntmps29
  go_wp2_with fail
  go_quiet ((first | (go_at_call_of 34 (Value.int IntKind.i64 a); exact quiet_mine (Ha.out _)) | (go_at_call_of 34 (Value.int IntKind.i64 b); exact quiet_mine (Hb.out _)) | (go_at_call 41; exact quiet_mine (mul64_hl _ _ hi lo _ bA bB hP.out hlo))))
  go_wp2_with (first | (go_at_call 34; refine (Hc.out _).mono ?_; rintro e w' ⟨rfl, rfl⟩) | (go_at_call 42; refine (div_q hi lo C q _ hCp bC hlo hq.out).mono ?_; rintro e w' ⟨r, rfl, nr, rfl⟩))
  go_ret2
  exact ⟨rfl, ((((Below.refl _ _).alloc (Nat.le_refl _) _).alloc (by simp) _).alloc (by simp; omega) _).trans ((drewN_below _ _).mono (by simp; omega))⟩
theorem scaled_core3 (a b c : Int) (A B C hi lo : Nat) (w : World) (ha : -1152921504606846976 ≤ a ∧ a ≤ 1152921504606846976) (hb : -1152921504606846976 ≤ b ∧ b ≤ 1152921504606846976) (hc : -1152921504606846976 ≤ c ∧ c ≤ 1152921504606846976)
    (hA : a.natAbs = A) (hB : b.natAbs = B) (hC : c.natAbs = C) (hP : Hid (A * B = hi * 18446744073709551616 + lo)) (hlo : lo < 18446744073709551616) (bA : A < 18446744073709551616) (bB : B < 18446744073709551616)
    (bC : C < 18446744073709551616) (hunder : decide (C ≤ hi) = false) (hCp : hi < C) (q : Nat) (hq : Hid ((hi * 18446744073709551616 + lo) / C = q)) (hbig : decide ((1152921504606846976 : Int) < (q : Int)) = false) (hqb : (q : Int) ≤ 1152921504606846976) :
    Calls Tryd.prog 29 #[.int .i64 a, .int .i64 b, .int .i64 c] w fun e w' => e = .returned (.tuple #[.int .i64 (sgn (signB a b c) q), .int .i64 0]) ∧ Below w.heap.size w w' := by
  have hs : ∀ (x : Int) (X : Nat) w, (-1152921504606846976 ≤ x ∧ x ≤ 1152921504606846976) → x.natAbs = X → Calls Tryd.prog 34 #[.int .i64 x] w fun e w' => e = .returned (.int .u64 (X : Int)) ∧ w = w' := fun x X w h e => by rw [← e]; exact size_any x w h
  have hsa := fun w => hs a A w ha hA
  have hsb := fun w => hs b B w hb hB
  have hsc := fun w => hs c C w hc hC
  have Ha := Lib.hid hsa
  have Hb := Lib.hid hsb
  have Hc := Lib.hid hsc
  clear hs hsa hsb hsc hA hB hC ha hb hc
  go_enter Tryd.func29, Tryd.ntmps29
  go_wp2_with fail
  go_quiet ((first | (go_at_call_of 34 (Value.int IntKind.i64 a); exact quiet_mine (Ha.out _)) | (go_at_call_of 34 (Value.int IntKind.i64 b); exact quiet_mine (Hb.out _)) | (go_at_call 41; exact quiet_mine (mul64_hl _ _ hi lo _ bA bB hP.out hlo))))
  go_wp2_with (first | (go_at_call 34; refine (Hc.out _).mono ?_; rintro e w' ⟨rfl, rfl⟩) | (go_at_call 42; refine (div_q hi lo C q _ hCp bC hlo hq.out).mono ?_; rintro e w' ⟨r, rfl, nr, rfl⟩) | (go_at_call 40; refine (sign_any _ a b c _ _ _ _ ?_ ?_ ?_ ?_).mono ?_; (· go_simp); (· go_simp); (· go_simp); (· omega); rintro e w' ⟨rfl, k, rfl⟩))

  go_ret2
  exact ⟨rfl, ((((Below.refl _ _).alloc (Nat.le_refl _) _).alloc (by simp) _).alloc (by simp; omega) _).trans ((drewN_below _ _).mono (by simp; omega))⟩
end Go.Proofs.YthbdgnmgdpbdjaaDoor
