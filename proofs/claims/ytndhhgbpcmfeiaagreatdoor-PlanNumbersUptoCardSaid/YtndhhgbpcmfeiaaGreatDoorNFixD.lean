/- bits.Div64: the quotient. -/
import Derived.Test.YtndhhgbpcmfeiaaGreatDoorProg
import Derived.WalkKit
import Derived.ProofKit
import Derived.OpenShut
import Derived.Outline
import Derived.WalkSpells
import Derived.WalkLawsBesides
import Derived.Deep.QuietTactic
import Derived.BigQuiet
import Derived.Lib.Hide
import Derived.Deep.DeepFit
import Derived.Deep.DeepMust
import Derived.Test.YtndhhgbpcmfeiaaGreatDoorNFixN
import Derived.Laws.Bits64b
import Derived.Shelf.Bits.Mul64

namespace Go.Proofs.YtndhhgbpcmfeiaaGreatDoor
open Go.ChangeShapes Go.WideShapes Go.ChangeAt Go.RowKit
set_option maxRecDepth 100000
theorem gf (n : Nat) (h : n < 18446744073709551616) : IntKind.u64.wrap (n : Int) = (n : Int) := by
 simp only [IntKind.wrap, IntKind.signed, IntKind.bits]; simp; omega
set_option maxHeartbeats 4000000 in
theorem vr (hi lo y Y s n1 n0 u v v1 v0 q p r Q R q' p' r' Q' R' t1 t2 t3 t1' t2' t3' : Nat) (w : World) (h0 : 0 < hi) (h1 : hi < y) (h2 : y < 18446744073709551616) (h3 : lo < 18446744073709551616)
  (hs : (64 : Int) - (Lib.bitLen y : Int) = (s : Int)) (hs1 : s <= 63)
  (hY : IntKind.u64.wrap ((y : Int) * 2 ^ s) = ((Y : Nat) : Int))
  (hn1 : (Y : Int) / 4294967296 = (n1 : Int)) (hn0 : bits .and .u64 (Y : Int) 4294967295 = (n0 : Int))
  (hu : bits BinOp.or IntKind.u64 (IntKind.u64.wrap ((hi : Int) * 2 ^ s)) ((lo : Int) / 2 ^ (64 - s)) = (u : Int))
  (hv : IntKind.u64.wrap ((lo : Int) * 2 ^ s) = (v : Int)) (hv1 : (v : Int) / 4294967296 = (v1 : Int)) (hv0 : bits .and .u64 (v : Int) 4294967295 = (v0 : Int))
  (hq : (u : Int) / (n1 : Int) = (q : Int)) (hp : IntKind.u64.wrap ((q : Int) * (n1 : Int)) = (p : Int)) (hr : (u : Int) - (p : Int) = (r : Int))
  (hq' : (R : Int) / (n1 : Int) = (q' : Int)) (hp' : IntKind.u64.wrap ((q' : Int) * (n1 : Int)) = (p' : Int)) (hr' : (R : Int) - (p' : Int) = (r' : Int))
  (ht1 : IntKind.u64.wrap ((u : Int) * 4294967296) = (t1 : Int)) (ht2 : IntKind.u64.wrap ((t1 : Int) + v1) = (t2 : Int)) (ht3 : IntKind.u64.wrap ((Q : Int) * Y) = (t3 : Int)) (hR : IntKind.u64.wrap ((t2 : Int) - t3) = (R : Int))
  (ht1' : IntKind.u64.wrap ((R : Int) * 4294967296) = (t1' : Int)) (ht2' : IntKind.u64.wrap ((t1' : Int) + v0) = (t2' : Int)) (ht3' : IntKind.u64.wrap ((Q' : Int) * Y) = (t3' : Int)) (hR' : IntKind.u64.wrap ((t2' : Int) - t3') = (R' : Int))
  (bY : Y < 18446744073709551616) (bn1 : 2147483648 <= n1) (bn1' : n1 < 4294967296) (bn0 : n0 < 4294967296) (bu : u < Y) (bv1 : v1 < 4294967296) (bv0 : v0 < 4294967296)
  (bq : q < 8589934592) (bp : p <= u) (br : r < 4294967296) (bq' : q' < 8589934592) (bp' : p' <= R) (br' : r' < 4294967296)
  (bR : R < Y) (bQ : Q < 4294967296) (bQ' : Q' < 4294967296) (bQq : Q <= q) (bQq' : Q' <= q')
  (eY : Hid (Y = n1 * 4294967296 + n0)) (eu : Hid (u = q * n1 + r)) (eR : Hid (R = q' * n1 + r'))
  (eQ0 : Hid (Q * Y <= u * 4294967296 + v1)) (eQ1 : Hid (u * 4294967296 + v1 < (Q + 1) * Y))
  (eQ0' : Hid (Q' * Y <= R * 4294967296 + v0)) (eQ1' : Hid (R * 4294967296 + v0 < (Q' + 1) * Y)) :
  Calls Tryz.prog 169 #[.int .u64 hi, .int .u64 lo, .int .u64 y] w fun e w' => (∃ r : Int, e = .returned (.tuple #[.int .u64 ((Q : Int) * 4294967296 + Q'), .int .u64 r])) /\ w = w' := by
 go_enter Tryz.func169, Tryz.ntmps169
 go_wp2_with (first | (go_at_call 184; refine (Tryz.bits_LeadingZeros64 y _ (by omega) (by omega)).mono ?_; rw [Int.toNat_natCast, hs]; rintro e w' ⟨rfl, rfl⟩))
 go_loop [15, 16] (fun x y => ∃ c d : Nat, x = .int .u64 c /\ y = .int .u64 d /\ c <= q /\ Q <= c /\ d < 4294967296 /\ Hid (u = c * n1 + d)) (fun x _ => (intOf x).toNat)
 case atStart => exact ⟨q, r, rfl, rfl, Nat.le_refl _, bQq, br, eu⟩
 case round =>
  obtain ⟨c, d, rfl, rfl, hc, hQc, hd, hcd⟩ := hrel
  obtain ⟨m', hm'⟩ : ∃ m' : Nat, m' = c * n0 := ⟨_, rfl⟩
  have Hm' := Lib.hid hm'
  clear hm'
  by_cases c1 : 4294967296 <= c
  ·obtain ⟨c, rfl⟩ : ∃ k, c = k + 1 := ⟨c - 1, by omega⟩
   have hQ1 : Q <= c := by omega
   have HN := Lib.hid (dx u n1 c d hcd.out)
   have e1 : decide ((4294967296 : Int) <= (c : Int) + 1) = true := by simp; omega
   by_cases c3 : 4294967296 <= d + n1
   ·have e3 : decide ((4294967296 : Int) <= (d : Int) + (n1 : Int)) = true := by simp; omega
    have hcQ : c = Q := Nat.le_antisymm (cR u v1 Y n1 n0 c (d + n1) Q eY.out bn0 HN.out bu (by omega) eQ1.out c3) hQ1
    subst hcQ
    clear c1 c3 hQ1 hQc
    go_wp2_with fail
    clear e1 e3
    go_loop [18, 16] (fun x y => ∃ c d : Nat, x = .int .u64 c /\ y = .int .u64 d /\ c <= q' /\ Q' <= c /\ d < 4294967296 /\ Hid (R = c * n1 + d)) (fun x _ => (intOf x).toNat)
    case atStart => exact ⟨q', r', rfl, rfl, Nat.le_refl _, bQq', br', eR⟩
    case round =>
     obtain ⟨c, d, rfl, rfl, hc, hQc, hd, hcd⟩ := hrel
     obtain ⟨m', hm'⟩ : ∃ m' : Nat, m' = c * n0 := ⟨_, rfl⟩
     have Hm' := Lib.hid hm'
     clear hm'
     by_cases c1 : 4294967296 <= c
     ·obtain ⟨c, rfl⟩ : ∃ k, c = k + 1 := ⟨c - 1, by omega⟩
      have hQ1 : Q' <= c := by omega
      have HN := Lib.hid (dx R n1 c d hcd.out)
      have e1 : decide ((4294967296 : Int) <= (c : Int) + 1) = true := by simp; omega
      by_cases c3 : 4294967296 <= d + n1
      ·have e3 : decide ((4294967296 : Int) <= (d : Int) + (n1 : Int)) = true := by simp; omega
       have hcQ : c = Q' := Nat.le_antisymm (cR R v0 Y n1 n0 c (d + n1) Q' eY.out bn0 HN.out bR (by omega) eQ1'.out c3) hQ1
       subst hcQ
       clear c1 c3 hQ1 hQc
       go_wp2_with fail
       go_ret2
       exact ⟨⟨_, rfl⟩, rfl⟩
      ·have e3 : decide ((4294967296 : Int) <= (d : Int) + (n1 : Int)) = false := by simp; omega
       have b3 : d + n1 < 4294967296 := by omega
       clear c1 c3
       go_wp2_with fail
       go_round
       case rel => exact ⟨c, d + n1, by go_num, by go_num, by omega, hQ1, b3, HN⟩
       case measure => simp [intOf]
     ·have hmw : IntKind.u64.wrap ((c : Int) * (n0 : Int)) = (m' : Int) := by
       rw [Hm'.out]
       have := Nat.mul_le_mul (show c <= 4294967295 by omega) (show n0 <= 4294967295 by omega)
       rw [<- Int.natCast_mul, gf _ (by omega)]
      by_cases c2 : 4294967296 * d + v0 < m'
      ·have hlt := j2 R v0 Y n1 n0 c d Q' eY.out hcd.out eQ0'.out (by rw [<- Hm'.out]; exact c2)
       obtain ⟨c, rfl⟩ : ∃ k, c = k + 1 := ⟨c - 1, by omega⟩
       have hQ1 : Q' <= c := by omega
       have HN := Lib.hid (dx R n1 c d hcd.out)
       have e1 : decide ((4294967296 : Int) <= (c : Int) + 1) = false := by simp; omega
       have e2 : decide (4294967296 * (d : Int) + (v0 : Int) < (m' : Int)) = true := by simp; omega
       simp only [Int.natCast_add, Int.natCast_one] at hmw
       by_cases c3 : 4294967296 <= d + n1
       ·have e3 : decide ((4294967296 : Int) <= (d : Int) + (n1 : Int)) = true := by simp; omega
        have hcQ : c = Q' := Nat.le_antisymm (cR R v0 Y n1 n0 c (d + n1) Q' eY.out bn0 HN.out bR (by omega) eQ1'.out c3) hQ1
        subst hcQ
        clear c1 c2 c3 hQ1 hQc hlt
        go_wp2_with fail
        go_ret2
        exact ⟨⟨_, rfl⟩, rfl⟩
       ·have e3 : decide ((4294967296 : Int) <= (d : Int) + (n1 : Int)) = false := by simp; omega
        have b3 : d + n1 < 4294967296 := by omega
        clear c1 c2 c3 hlt
        go_wp2_with fail
        go_round
        case rel => exact ⟨c, d + n1, by go_num, by go_num, by omega, hQ1, b3, HN⟩
        case measure => simp [intOf]
      ·have hcQ : c = Q' := Nat.le_antisymm (iO R v0 Y n1 n0 c d Q' eY.out hcd.out eQ1'.out (by rw [<- Hm'.out]; omega)) hQc
       subst hcQ
       have e1 : decide ((4294967296 : Int) <= (c : Int)) = false := by simp; omega
       have e2 : decide (4294967296 * (d : Int) + (v0 : Int) < (m' : Int)) = false := by simp; omega
       clear c1 c2 hQc
       go_wp2_with fail
       go_ret2
       exact ⟨⟨_, rfl⟩, rfl⟩
   ·have e3 : decide ((4294967296 : Int) <= (d : Int) + (n1 : Int)) = false := by simp; omega
    have b3 : d + n1 < 4294967296 := by omega
    clear c1 c3
    go_wp2_with fail
    go_round
    case rel => exact ⟨c, d + n1, by go_num, by go_num, by omega, hQ1, b3, HN⟩
    case measure => simp [intOf]
  ·have hmw : IntKind.u64.wrap ((c : Int) * (n0 : Int)) = (m' : Int) := by
    rw [Hm'.out]
    have := Nat.mul_le_mul (show c <= 4294967295 by omega) (show n0 <= 4294967295 by omega)
    rw [<- Int.natCast_mul, gf _ (by omega)]
   by_cases c2 : 4294967296 * d + v1 < m'
   ·have hlt := j2 u v1 Y n1 n0 c d Q eY.out hcd.out eQ0.out (by rw [<- Hm'.out]; exact c2)
    obtain ⟨c, rfl⟩ : ∃ k, c = k + 1 := ⟨c - 1, by omega⟩
    have hQ1 : Q <= c := by omega
    have HN := Lib.hid (dx u n1 c d hcd.out)
    have e1 : decide ((4294967296 : Int) <= (c : Int) + 1) = false := by simp; omega
    have e2 : decide (4294967296 * (d : Int) + (v1 : Int) < (m' : Int)) = true := by simp; omega
    simp only [Int.natCast_add, Int.natCast_one] at hmw
    by_cases c3 : 4294967296 <= d + n1
    ·have e3 : decide ((4294967296 : Int) <= (d : Int) + (n1 : Int)) = true := by simp; omega
     have hcQ : c = Q := Nat.le_antisymm (cR u v1 Y n1 n0 c (d + n1) Q eY.out bn0 HN.out bu (by omega) eQ1.out c3) hQ1
     subst hcQ
     clear c1 c2 c3 hQ1 hQc hlt
     go_wp2_with fail
     clear e1 e3 e2 hmw
     go_loop [18, 16] (fun x y => ∃ c d : Nat, x = .int .u64 c /\ y = .int .u64 d /\ c <= q' /\ Q' <= c /\ d < 4294967296 /\ Hid (R = c * n1 + d)) (fun x _ => (intOf x).toNat)
     case atStart => exact ⟨q', r', rfl, rfl, Nat.le_refl _, bQq', br', eR⟩
     case round =>
      obtain ⟨c, d, rfl, rfl, hc, hQc, hd, hcd⟩ := hrel
      obtain ⟨m', hm'⟩ : ∃ m' : Nat, m' = c * n0 := ⟨_, rfl⟩
      have Hm' := Lib.hid hm'
      clear hm'
      by_cases c1 : 4294967296 <= c
      ·obtain ⟨c, rfl⟩ : ∃ k, c = k + 1 := ⟨c - 1, by omega⟩
       have hQ1 : Q' <= c := by omega
       have HN := Lib.hid (dx R n1 c d hcd.out)
       have e1 : decide ((4294967296 : Int) <= (c : Int) + 1) = true := by simp; omega
       by_cases c3 : 4294967296 <= d + n1
       ·have e3 : decide ((4294967296 : Int) <= (d : Int) + (n1 : Int)) = true := by simp; omega
        have hcQ : c = Q' := Nat.le_antisymm (cR R v0 Y n1 n0 c (d + n1) Q' eY.out bn0 HN.out bR (by omega) eQ1'.out c3) hQ1
        subst hcQ
        clear c1 c3 hQ1 hQc
        go_wp2_with fail
        go_ret2
        exact ⟨⟨_, rfl⟩, rfl⟩
       ·have e3 : decide ((4294967296 : Int) <= (d : Int) + (n1 : Int)) = false := by simp; omega
        have b3 : d + n1 < 4294967296 := by omega
        clear c1 c3
        go_wp2_with fail
        go_round
        case rel => exact ⟨c, d + n1, by go_num, by go_num, by omega, hQ1, b3, HN⟩
        case measure => simp [intOf]
      ·have hmw : IntKind.u64.wrap ((c : Int) * (n0 : Int)) = (m' : Int) := by
        rw [Hm'.out]
        have := Nat.mul_le_mul (show c <= 4294967295 by omega) (show n0 <= 4294967295 by omega)
        rw [<- Int.natCast_mul, gf _ (by omega)]
       by_cases c2 : 4294967296 * d + v0 < m'
       ·have hlt := j2 R v0 Y n1 n0 c d Q' eY.out hcd.out eQ0'.out (by rw [<- Hm'.out]; exact c2)
        obtain ⟨c, rfl⟩ : ∃ k, c = k + 1 := ⟨c - 1, by omega⟩
        have hQ1 : Q' <= c := by omega
        have HN := Lib.hid (dx R n1 c d hcd.out)
        have e1 : decide ((4294967296 : Int) <= (c : Int) + 1) = false := by simp; omega
        have e2 : decide (4294967296 * (d : Int) + (v0 : Int) < (m' : Int)) = true := by simp; omega
        simp only [Int.natCast_add, Int.natCast_one] at hmw
        by_cases c3 : 4294967296 <= d + n1
        ·have e3 : decide ((4294967296 : Int) <= (d : Int) + (n1 : Int)) = true := by simp; omega
         have hcQ : c = Q' := Nat.le_antisymm (cR R v0 Y n1 n0 c (d + n1) Q' eY.out bn0 HN.out bR (by omega) eQ1'.out c3) hQ1
         subst hcQ
         clear c1 c2 c3 hQ1 hQc hlt
         go_wp2_with fail
         go_ret2
         exact ⟨⟨_, rfl⟩, rfl⟩
        ·have e3 : decide ((4294967296 : Int) <= (d : Int) + (n1 : Int)) = false := by simp; omega
         have b3 : d + n1 < 4294967296 := by omega
         clear c1 c2 c3 hlt
         go_wp2_with fail
         go_round
         case rel => exact ⟨c, d + n1, by go_num, by go_num, by omega, hQ1, b3, HN⟩
         case measure => simp [intOf]
       ·have hcQ : c = Q' := Nat.le_antisymm (iO R v0 Y n1 n0 c d Q' eY.out hcd.out eQ1'.out (by rw [<- Hm'.out]; omega)) hQc
        subst hcQ
        have e1 : decide ((4294967296 : Int) <= (c : Int)) = false := by simp; omega
        have e2 : decide (4294967296 * (d : Int) + (v0 : Int) < (m' : Int)) = false := by simp; omega
        clear c1 c2 hQc
        go_wp2_with fail
        go_ret2
        exact ⟨⟨_, rfl⟩, rfl⟩
    ·have e3 : decide ((4294967296 : Int) <= (d : Int) + (n1 : Int)) = false := by simp; omega
     have b3 : d + n1 < 4294967296 := by omega
     clear c1 c2 c3 hlt
     go_wp2_with fail
     go_round
     case rel => exact ⟨c, d + n1, by go_num, by go_num, by omega, hQ1, b3, HN⟩
     case measure => simp [intOf]
   ·have hcQ : c = Q := Nat.le_antisymm (iO u v1 Y n1 n0 c d Q eY.out hcd.out eQ1.out (by rw [<- Hm'.out]; omega)) hQc
    subst hcQ
    have e1 : decide ((4294967296 : Int) <= (c : Int)) = false := by simp; omega
    have e2 : decide (4294967296 * (d : Int) + (v1 : Int) < (m' : Int)) = false := by simp; omega
    clear c1 c2 hQc
    go_wp2_with fail
    clear e1 e2 hmw
    go_loop [18, 16] (fun x y => ∃ c d : Nat, x = .int .u64 c /\ y = .int .u64 d /\ c <= q' /\ Q' <= c /\ d < 4294967296 /\ Hid (R = c * n1 + d)) (fun x _ => (intOf x).toNat)
    case atStart => exact ⟨q', r', rfl, rfl, Nat.le_refl _, bQq', br', eR⟩
    case round =>
     obtain ⟨c, d, rfl, rfl, hc, hQc, hd, hcd⟩ := hrel
     obtain ⟨m', hm'⟩ : ∃ m' : Nat, m' = c * n0 := ⟨_, rfl⟩
     have Hm' := Lib.hid hm'
     clear hm'
     by_cases c1 : 4294967296 <= c
     ·obtain ⟨c, rfl⟩ : ∃ k, c = k + 1 := ⟨c - 1, by omega⟩
      have hQ1 : Q' <= c := by omega
      have HN := Lib.hid (dx R n1 c d hcd.out)
      have e1 : decide ((4294967296 : Int) <= (c : Int) + 1) = true := by simp; omega
      by_cases c3 : 4294967296 <= d + n1
      ·have e3 : decide ((4294967296 : Int) <= (d : Int) + (n1 : Int)) = true := by simp; omega
       have hcQ : c = Q' := Nat.le_antisymm (cR R v0 Y n1 n0 c (d + n1) Q' eY.out bn0 HN.out bR (by omega) eQ1'.out c3) hQ1
       subst hcQ
       clear c1 c3 hQ1 hQc
       go_wp2_with fail
       go_ret2
       exact ⟨⟨_, rfl⟩, rfl⟩
      ·have e3 : decide ((4294967296 : Int) <= (d : Int) + (n1 : Int)) = false := by simp; omega
       have b3 : d + n1 < 4294967296 := by omega
       clear c1 c3
       go_wp2_with fail
       go_round
       case rel => exact ⟨c, d + n1, by go_num, by go_num, by omega, hQ1, b3, HN⟩
       case measure => simp [intOf]
     ·have hmw : IntKind.u64.wrap ((c : Int) * (n0 : Int)) = (m' : Int) := by
       rw [Hm'.out]
       have := Nat.mul_le_mul (show c <= 4294967295 by omega) (show n0 <= 4294967295 by omega)
       rw [<- Int.natCast_mul, gf _ (by omega)]
      by_cases c2 : 4294967296 * d + v0 < m'
      ·have hlt := j2 R v0 Y n1 n0 c d Q' eY.out hcd.out eQ0'.out (by rw [<- Hm'.out]; exact c2)
       obtain ⟨c, rfl⟩ : ∃ k, c = k + 1 := ⟨c - 1, by omega⟩
       have hQ1 : Q' <= c := by omega
       have HN := Lib.hid (dx R n1 c d hcd.out)
       have e1 : decide ((4294967296 : Int) <= (c : Int) + 1) = false := by simp; omega
       have e2 : decide (4294967296 * (d : Int) + (v0 : Int) < (m' : Int)) = true := by simp; omega
       simp only [Int.natCast_add, Int.natCast_one] at hmw
       by_cases c3 : 4294967296 <= d + n1
       ·have e3 : decide ((4294967296 : Int) <= (d : Int) + (n1 : Int)) = true := by simp; omega
        have hcQ : c = Q' := Nat.le_antisymm (cR R v0 Y n1 n0 c (d + n1) Q' eY.out bn0 HN.out bR (by omega) eQ1'.out c3) hQ1
        subst hcQ
        clear c1 c2 c3 hQ1 hQc hlt
        go_wp2_with fail
        go_ret2
        exact ⟨⟨_, rfl⟩, rfl⟩
       ·have e3 : decide ((4294967296 : Int) <= (d : Int) + (n1 : Int)) = false := by simp; omega
        have b3 : d + n1 < 4294967296 := by omega
        clear c1 c2 c3 hlt
        go_wp2_with fail
        go_round
        case rel => exact ⟨c, d + n1, by go_num, by go_num, by omega, hQ1, b3, HN⟩
        case measure => simp [intOf]
      ·have hcQ : c = Q' := Nat.le_antisymm (iO R v0 Y n1 n0 c d Q' eY.out hcd.out eQ1'.out (by rw [<- Hm'.out]; omega)) hQc
       subst hcQ
       have e1 : decide ((4294967296 : Int) <= (c : Int)) = false := by simp; omega
       have e2 : decide (4294967296 * (d : Int) + (v0 : Int) < (m' : Int)) = false := by simp; omega
       clear c1 c2 hQc
       go_wp2_with fail
       go_ret2
       exact ⟨⟨_, rfl⟩, rfl⟩
end Go.Proofs.YtndhhgbpcmfeiaaGreatDoor
