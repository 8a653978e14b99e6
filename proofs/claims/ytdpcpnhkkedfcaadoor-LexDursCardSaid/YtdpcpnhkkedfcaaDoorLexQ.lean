/- Layer 15: the reference's PrintDur. -/
import Derived.Test.YtdpcpnhkkedfcaaDoorProg
import Derived.WalkKit
import Derived.ProofKit
import Derived.OpenShut
import Derived.Outline
import Derived.WalkSpells
import Derived.WalkLawsBesides
import Derived.Deep.QuietTactic
import Derived.BigQuiet
import Derived.Lib.Hide
import Derived.Deep.DeepFit
import Derived.Deep.DeepMust

import Derived.Test.YtdpcpnhkkedfcaaDoorLexP
import Derived.Test.YtdpcpnhkkedfcaaDoorLexE
import Derived.Laws.IdiomStrings
import Derived.Laws.BytesString
import Derived.Deep.RegionHeld3
import Derived.StillTactics
namespace Go.Proofs.YtdpcpnhkkedfcaaDoor
open Go.ChangeShapes Go.WideShapes Go.ChangeAt Go.RowKit
set_option linter.unusedVariables false
set_option maxRecDepth 100000
theorem digit_str (r : Nat) (hr : r < 10) (w : World) :
    Sem.run Tryd.prog (convert 63 9 (.slice (some ⟨w.heap.size, 0, none⟩) 1 1)) (w.alloc (.cells #[.int .u8 (48 + (r : Int))] 5)) = .ok (.string (bs [UInt8.ofNat (48 + r)])) (w.alloc (.cells #[.int .u8 (48 + (r : Int))] 5)) := by
  have h := run_convert_bytes_back (P := Tryd.prog) (w.alloc (.cells #[.int .u8 (48 + (r : Int))] 5)) 63 9 5 ⟨w.heap.size, 0, none⟩ 1 [UInt8.ofNat (48 + r)] Tryd.underlying63 Tryd.underlying5 Tryd.underlying9
  refine h fun j hj => ?_
  have hj0 : j = 0 := by simp at hj; exact hj
  subst hj0
  show World.cell? _ ⟨w.heap.size, 0, none⟩ = _
  rw [World.cell?_alloc_new]
  simp
  omega
theorem bs_append (a b : List UInt8) : bs a ++ bs b = bs (a ++ b) := by
  apply ByteArray.ext; simp [bs]
theorem number_any : ∀ (n : Nat) (hn : n ≤ 2147483648) (w : World),
    Calls Tryd.prog 28 #[.int .i64 (n : Int)] w fun e w' => e = .returned (.string (bs (Lib.decDigits n))) ∧ Below w.heap.size w w' := by
  intro n
  induction n using Nat.strongRecOn with
  | _ n ih =>
    intro hn w
    obtain ⟨r, hr⟩ : ∃ r, n % 10 = r := ⟨_, rfl⟩
    have hr10 : r < 10 := by omega
    have e1 : (n : Int) % 10 = (r : Int) := by omega
    have e2 : IntKind.u8.wrap (48 + (r : Int)) = ((48 + r : Nat) : Int) := by
      simp only [IntKind.wrap, IntKind.bits, IntKind.signed]
      simp
      omega
    have hds := fun w => digit_str r hr10 w
    have HB0 := Lib.hid ((Below.refl w.heap.size w).alloc (Nat.le_refl _) (Obj.cells #[.int .u8 (48 + (r : Int))] 5))
    by_cases hlt : n < 10
    · have hr2 : r = n := by omega
      have HR : Hid (bs [UInt8.ofNat (48 + r)] = bs (Lib.decDigits n)) := Lib.hid (by rw [Lib.decDigits, dif_pos hlt, hr2])
      have f1 : (n : Int) < 10 := by omega
      generalize bs [UInt8.ofNat (48 + r)] = D1 at *
      clear hr2 ih hr
      go_enter Tryd.func28, Tryd.ntmps28
      go_wp2_with fail
      go_ret
      exact ⟨by rw [← HR.out]; rfl, HB0.out⟩
    · have f1 : ¬ (n : Int) < 10 := by omega
      obtain ⟨q, hq⟩ : ∃ q, n / 10 = q := ⟨_, rfl⟩
      have e3 : (n : Int) / 10 = (q : Int) := by omega
      have ihq := ih q (by omega) (by omega)
      have HIH := Lib.hid ihq
      have HR : Hid (bs (Lib.decDigits q) ++ bs [UInt8.ofNat (48 + r)] = bs (Lib.decDigits n)) := Lib.hid (by
        rw [bs_append]
        conv => rhs; rw [Lib.decDigits, dif_neg hlt]
        rw [hq, hr])
      have HL : Hid ((bs (Lib.decDigits q)).size ≤ 21) := Lib.hid (by rw [bs_size]; exact dec_len q (by omega))
      generalize bs (Lib.decDigits q) = D at *
      generalize bs (Lib.decDigits n) = E at *
      have HS1 : Hid ((bs [UInt8.ofNat (48 + r)]).size = 1) := Lib.hid (by rw [bs_size]; rfl)
      generalize bs [UInt8.ofNat (48 + r)] = D1 at *
      have s1 := HL.out
      have s2 := HS1.out
      clear ih ihq hr hq
      go_enter Tryd.func28, Tryd.ntmps28
      go_wp2_with (go_at_call 28; ((with_reducible refine (HIH.out _).mono ?_); rintro e w1 ⟨rfl, hB⟩))
      go_ret
      exact ⟨by rw [← HR.out]; rfl, HB0.out.trans (hB.mono HB0.out.size)⟩
set_option maxHeartbeats 4000000 in
theorem rprint_any (n : Int) (hn : -9223372036854775808 ≤ n ∧ n ≤ 9223372036854775807) (w : World) :
    Calls Tryd.prog 14 #[.int .i64 n] w fun e w' => e = .returned (.tuple #[.string (bs (pdM n).1), .int .i64 (pdM n).2]) ∧ Below w.heap.size w w' := by
  obtain ⟨R, hR⟩ : ∃ R, pdM n = R := ⟨_, rfl⟩
  rw [hR]
  unfold pdM at hR
  go_enter Tryd.func14, Tryd.ntmps14
  by_cases c1 : n < 0
  · rw [if_pos (.inl c1)] at hR
    subst hR
    go_wp2_with fail
    go_ret2
    exact ⟨rfl, Below.refl _ _⟩
  · by_cases c2 : 2147483648 < n
    · rw [if_pos (.inr c2)] at hR
      subst hR
      go_wp2_with fail
      go_ret2
      exact ⟨rfl, Below.refl _ _⟩
    · rw [if_neg (by omega)] at hR
      by_cases c3 : n = 0
      · rw [if_pos c3] at hR
        subst hR
        have e1 : (n == 0) = true := by simp; exact c3
        go_wp2_with fail
        go_ret2
        exact ⟨rfl, Below.refl _ _⟩
      · rw [if_neg c3] at hR
        have e1 : (n == 0) = false := by simp; exact c3
        obtain ⟨m, rfl⟩ : ∃ m : Nat, n = m := ⟨n.toNat, by omega⟩
        have hm : m ≤ 2147483648 := by omega
        obtain ⟨O, hO⟩ : ∃ O, pd 6 m = O := ⟨_, rfl⟩
        have hR' : R = (O, 0) := by rw [← hR, ← hO]; rfl
        have HR := Lib.hid hR'
        have HO0 : Hid ([] ++ pd (6 - 0) m = O) := Lib.hid hO
        clear hR hR' hO
        go_wp2_with (go_at_call 22; ((with_reducible refine (runits_any _).mono ?_); rintro e w' ⟨⟨B, p, c, C, q, d, rfl, hU⟩, hB⟩))
        go_loopw [0, 6, 7] (fun nv ov iv wr => ∃ (m i : Nat) (out : List UInt8) (S : ByteArray), i ≤ 6 ∧ nv = .int .i64 m ∧ ov = .string S ∧ iv = .int .i64 i ∧ m ≤ 2147483648 ∧ S.size ≤ 23 * i ∧ Hid (S = bs out) ∧ Hid (out ++ pd (6 - i) m = O) ∧
          Hid (RU wr B p C q) ∧ Hid (Below w.heap.size w wr)) (fun _ _ iv _ => 6 - (intOf iv).toNat)
        case atStart => exact ⟨m, 0, [], ⟨#[]⟩, by omega, rfl, rfl, rfl, hm, by simp [ByteArray.size], Lib.hid rfl, HO0, Lib.hid hU, Lib.hid hB⟩
        case round =>
          obtain ⟨k, i, out, S, hi, rfl, rfl, rfl, hk, hlen, HS, Hout, HU, HB⟩ := hrel
          by_cases hlt : i < 6
          · have hi6 : (i : Int) < 6 := by omega
            obtain ⟨zb1, zb2⟩ := uS_bd i hlt
            have hpd := Hout.out
            rw [show 6 - i = (5 - i) + 1 by omega] at hpd
            unfold pd at hpd
            rw [show 5 - (5 - i) = i by omega] at hpd
            have cz := HU.out.sz i hlt
            have cn := HU.out.nm i hlt
            have hBB := HU.out.bB
            have hCC := HU.out.bC
            obtain ⟨z, hz⟩ : ∃ z, uS i = z := ⟨_, rfl⟩
            rw [hz] at hpd zb1 zb2 cz
            obtain ⟨V, hV⟩ : ∃ V, uB i = V := ⟨_, rfl⟩
            have hVl : V.data.toList = uNames.getD i [] := by rw [← hV, uB_list]
            have hVs : V.size ≤ 2 := by
              rw [← size_len, hVl]
              exact six (p := fun j => (uNames.getD j []).length ≤ 2) (by decide) i hlt
            rw [hV] at cn
            have Hpd := Lib.hid hpd
            have HVl := Lib.hid hVl
            clear hpd hVl hz hV
            by_cases hzk : z ≤ k
            · have f1 : (z : Int) ≤ (k : Int) := by omega
              have f2 : decide ((z : Int) ≤ (k : Int)) = true := by simp; exact hzk
              obtain ⟨q', hq⟩ : ∃ q, k / z = q := ⟨_, rfl⟩
              have hq1 : q' ≤ 2147483648 := by rw [← hq]; exact Nat.le_trans (Nat.div_le_self _ _) hk
              obtain ⟨r, hr⟩ : ∃ r, k % z = r := ⟨_, rfl⟩
              have hr1 : r ≤ 2147483648 := by rw [← hr]; exact Nat.le_trans (Nat.mod_le _ _) hk
              have eq1 : IntKind.i64.wrap (Int.tdiv (k : Int) (z : Int)) = (q' : Int) := by
                rw [← Int.ofNat_tdiv, hq]
                exact IntWalk.i64_in _ (by omega)
              have eq2 : Int.tmod (k : Int) (z : Int) = (r : Int) := by rw [← Int.ofNat_tmod, hr]
              have hz0 : (z : Int) ≠ 0 := by omega
              have eq3 : (k : Int) / (z : Int) = (q' : Int) := by rw [← Int.natCast_ediv, hq]
              have eq4 : (k : Int) % (z : Int) = (r : Int) := by rw [← Int.natCast_emod, hr]
              have hpd2 := Hpd.out
              rw [if_pos hzk, hq, hr] at hpd2
              have Hpd2 := Lib.hid hpd2
              have HN := Lib.hid fun w => number_any q' hq1 w
              obtain ⟨D, hD⟩ : ∃ D, bs (Lib.decDigits q') = D := ⟨_, rfl⟩
              have hDs : D.size ≤ 21 := by rw [← hD, bs_size]; exact dec_len q' hq1
              rw [hD] at HN
              have HD := Lib.hid hD
              have hS2 : S.size ≤ 200 := by omega
              obtain ⟨SD, hSD⟩ : ∃ SD, S ++ D = SD := ⟨_, rfl⟩
              have hSDs : SD.size ≤ 300 := by rw [← hSD, ByteArray.size_append]; omega
              have HSD := Lib.hid hSD
              have t1 : ¬ 9223372036854775807 < S.size + D.size := by omega
              have t2 : ¬ 9223372036854775807 < SD.size + V.size := by omega
              have hi0 : (0 : Int) ≤ (i : Int) := by omega
              have eq5 : IntKind.i64.wrap (q' : Int) = (q' : Int) := IntWalk.i64_in _ (by omega)
              have hzn : z ≠ 0 := by omega
              have hzb : ((z : Int) == 0) = false := by simp; omega
              clear hq hr hpd2 hD
              go_wp2_with fail
              go_region_held3 (fun w' => w'.cell? ⟨C, q + i, none⟩ = some (.int .i64 z) ∧ w'.cell? ⟨B, p + i, none⟩ = some (.string V)) (first | go_keep | exact ⟨(hB2.cell (p := ⟨C, q + i, none⟩) hCC).trans cz, (hB2.cell (p := ⟨B, p + i, none⟩) hBB).trans cn⟩)
                ((first | (go_at_call 28; (try rw [eq5]); with_reducible refine (HN.out _).mono ?_; rintro e w1 ⟨rfl, hB2⟩)))
              have HB2 := Lib.hid ((HB.out.drewN' 1).trans (hB2.mono HB.out.size))
              have HU2 : Hid (RU w1 B p C q) := Lib.hid ((HU.out.below (drewN_below wr 1)).below hB2)
              obtain ⟨cz2, cn2⟩ := (by assumption : w1.cell? ⟨C, q + i, none⟩ = some (.int .i64 z) ∧ w1.cell? ⟨B, p + i, none⟩ = some (.string V))
              go_wp2_with fail
              go_roundw
              case rel =>
                refine ⟨r, i + 1, out ++ (Lib.decDigits q' ++ uNames.getD i []), SD ++ V, by omega, rfl, rfl, by go_num, hr1, ?_, Lib.hid ?_, Lib.hid ?_, HU2, HB2⟩
                · rw [ByteArray.size_append, ← HSD.out, ByteArray.size_append]
                  omega
                · have hv : V = bs (uNames.getD i []) := by
                    rw [← HVl.out]
                    rfl
                  rw [← HSD.out, HS.out, ← HD.out, hv, bs_append, bs_append, List.append_assoc]
                · rw [← Hpd2.out, show 6 - (i + 1) = 5 - i by omega]
                  simp only [List.append_assoc]
              case measure => simp [intOf]; omega
            · have f1 : ¬ (z : Int) ≤ (k : Int) := by omega
              have f2 : decide ((z : Int) ≤ (k : Int)) = false := by simp; omega
              have hpd2 := Hpd.out
              rw [if_neg hzk] at hpd2
              have Hpd2 := Lib.hid hpd2
              have hi0 : (0 : Int) ≤ (i : Int) := by omega
              clear hpd2
              go_wp2_with fail
              go_roundw
              case rel => exact ⟨k, i + 1, out, S, by omega, rfl, rfl, by go_num, hk, by omega, HS, Lib.hid (by rw [show 6 - (i + 1) = 5 - i by omega]; exact Hpd2.out), HU, HB⟩
              case measure => simp [intOf]; omega
          · have hi6 : ¬ (i : Int) < 6 := by omega
            have ho : S = bs O := by
              have := Hout.out
              rw [show 6 - i = 0 by omega] at this
              unfold pd at this
              rw [HS.out, ← this, List.append_nil]
            have HSO := Lib.hid ho
            clear ho
            go_wp2_with fail
            go_ret2
            exact ⟨by rw [HR.out, ← HSO.out]; rfl, HB.out⟩
end Go.Proofs.YtdpcpnhkkedfcaaDoor
