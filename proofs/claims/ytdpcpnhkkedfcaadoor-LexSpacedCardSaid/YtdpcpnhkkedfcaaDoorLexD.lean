/- Layer 15: lex.Dur tells a duration's length. -/
import Derived.Test.YtdpcpnhkkedfcaaDoorProg
import Derived.WalkKit
import Derived.ProofKit
import Derived.OpenShut
import Derived.Outline
import Derived.WalkSpells
import Derived.WalkLawsBesides
import Derived.Deep.QuietTactic
import Derived.BigQuiet
import Derived.Lib.Hide
import Derived.Deep.DeepFit
import Derived.Deep.DeepMust

import Derived.Test.YtdpcpnhkkedfcaaDoorLexT
namespace Go.Proofs.YtdpcpnhkkedfcaaDoor
open Go.ChangeShapes Go.WideShapes Go.ChangeAt Go.RowKit
set_option linter.unusedVariables false
set_option maxRecDepth 100000
def uB (j : Nat) : ByteArray := ⟨(uNames.getD j []).toArray⟩
theorem uB_list (j : Nat) : (uB j).data.toList = uNames.getD j [] := by simp [uB]
def uS (j : Nat) : Nat := uSizes.getD j 1
theorem six {p : Nat → Prop} (h : p 0 ∧ p 1 ∧ p 2 ∧ p 3 ∧ p 4 ∧ p 5) (j : Nat) (hj : j < 6) : p j := by
  match j, hj with
  | 0, _ => exact h.1
  | 1, _ => exact h.2.1
  | 2, _ => exact h.2.2.1
  | 3, _ => exact h.2.2.2.1
  | 4, _ => exact h.2.2.2.2.1
  | 5, _ => exact h.2.2.2.2.2
theorem unit_ix (w : World) (j : Nat) (hj : j < 6) : Sem.run Tryd.prog (Instr.index 51 (.agg unitsA) (.int .i64 j)) w = .ok (.agg #[.string (uB j), .int .i64 (uS j)]) w := by
  refine six (p := fun j => Sem.run Tryd.prog (Instr.index 51 (.agg unitsA) (.int .i64 (j : Int))) w = .ok (.agg #[.string (uB j), .int .i64 (uS j)]) w) ?_ j hj
  exact ⟨by kernel_rfl, by kernel_rfl, by kernel_rfl, by kernel_rfl, by kernel_rfl, by kernel_rfl⟩
theorem unit_field (w : World) (x : ByteArray) (z : Int) : Sem.run Tryd.prog (Instr.field 50 (.agg #[.string x, .int .i64 z]) 1) w = .ok (.int .i64 z) w := by kernel_rfl
theorem uS_bd (j : Nat) (hj : j < 6) : 1 ≤ uS j ∧ uS j ≤ 604800000 := six (p := fun j => 1 ≤ uS j ∧ uS j ≤ 604800000) (by decide) j hj
theorem ext_list (s : ByteArray) (a b : Nat) : (s.extract a b).data.toList = (s.data.toList.drop a).take (b - a) := by
  obtain ⟨⟨l⟩⟩ := s
  rw [ByteArray.extract_mk]
theorem eq_list (a b : ByteArray) : (a.toList == b.toList) = (a.data.toList == b.data.toList) := by
  rw [ByteArray.toList_eq, ByteArray.toList_eq]
theorem durL_cons (f : Nat) (c : UInt8) (r : List UInt8) (st : Int) (sum : Nat) (over : Bool) (k m : Nat) (a : Int) (hk : pre isDig (c :: r) = k) (hm : pre isLet ((c :: r).drop k) = m) (ha : uix (((c :: r).drop k).take m) 6 = a) :
    durL (f + 1) (c :: r) st sum over = if k = 0 ∨ c.toNat = 48 ∨ a < st then none
      else if decA 0 ((c :: r).take k) > 2147483648 / uSizes.getD a.toNat 1 ∨ sum + decA 0 ((c :: r).take k) * uSizes.getD a.toNat 1 > 2147483648 then durL f ((c :: r).drop (k + m)) (a + 1) sum true
      else durL f ((c :: r).drop (k + m)) (a + 1) (sum + decA 0 ((c :: r).take k) * uSizes.getD a.toNat 1) over := by
  subst hk hm ha
  rfl
theorem quot_nat (z : Nat) : Int.tdiv 2147483648 (z : Int) = ((2147483648 / z : Nat) : Int) := (Int.ofNat_tdiv 2147483648 z).symm
def strLen : Value → Nat
  | .string s => s.size
  | _ => 0
set_option maxHeartbeats 2000000 in
theorem dur_any (s : ByteArray) (hs : s.size ≤ 281474976710656) (w : World) (hT : Tab w) :
    Calls Tryd.prog 11 #[.string s] w fun e w' => e = .returned (.tuple #[.int .i64 (durM s.data.toList).1, .int .i64 (durM s.data.toList).2]) ∧ Below w.heap.size w w' := by
  obtain ⟨R, hR⟩ : ∃ R, durM s.data.toList = R := ⟨_, rfl⟩
  rw [hR]
  have HR := Lib.hid hR
  have HT := Lib.hid hT
  clear hR hT
  go_enter Tryd.func11, Tryd.ntmps11
  cases h0 : (s.toList == [48, 115])
  · cases h1 : s.toList.isEmpty
    · have hneS : s.data.toList ≠ [] := by rw [← ByteArray.toList_eq]; intro h; rw [h] at h1; cases h1
      have hR0 : (match durL s.data.toList.length s.data.toList 0 0 false with
          | none => ((0 : Int), (14 : Int))
          | some (_, true) => (0, 11)
          | some (n, false) => ((n : Int), 0)) = R := by
        have := HR.out
        unfold durM at this
        rw [if_neg (by rw [← ByteArray.toList_eq]; intro h; rw [h] at h0; cases h0), if_neg hneS] at this
        exact this
      obtain ⟨O, hO⟩ : ∃ O, durL s.data.toList.length s.data.toList 0 0 false = O := ⟨_, rfl⟩
      rw [hO] at hR0
      have HO := Lib.hid hO
      have HR0 := Lib.hid hR0
      have HZ := Lib.hid (size_len s)
      clear hR0 hO HR hneS
      go_wp2_with fail
      go_loopw [0, 4, 5, 6] (fun t su ov fr wr => ∃ (t' : ByteArray) (f sum st : Nat) (over : Bool), t = .string t' ∧ su = .int .i64 sum ∧ ov = .bool over ∧ fr = .int .i64 st ∧ t'.size ≤ 281474976710656 ∧ sum ≤ 2147483648 ∧ st ≤ 6 ∧
        t'.data.toList.length ≤ f ∧ Hid (durL f t'.data.toList st sum over = O) ∧ Below w.heap.size w wr) (fun t _ _ _ _ => strLen t)
      case atStart => exact ⟨s, s.data.toList.length, 0, 0, false, rfl, rfl, rfl, rfl, hs, by omega, by omega, Nat.le_refl _, HO, Below.refl _ _⟩
      case round =>
        obtain ⟨t, f, sum, st, over, rfl, rfl, rfl, rfl, hts, hsum, hst, hlen, hacc, hBl⟩ := hrel
        cases h1t : t.toList.isEmpty
        · obtain ⟨l, hl⟩ : ∃ l, t.data.toList = l := ⟨_, rfl⟩
          have hne : l ≠ [] := by rw [← hl, ← ByteArray.toList_eq]; intro h; rw [h] at h1t; cases h1t
          obtain ⟨c, r, hcr⟩ : ∃ c r, l = c :: r := by cases l with | nil => exact absurd rfl hne | cons c r => exact ⟨c, r, rfl⟩
          have hsz : l.length = t.size := by rw [← hl]; exact size_len t
          obtain ⟨k, hk⟩ : ∃ k, pre isDig l = k := ⟨_, rfl⟩
          have hkl : k ≤ l.length := by rw [← hk]; exact pre_le _ _
          obtain ⟨N, hN⟩ : ∃ N, t.extract k t.size = N := ⟨_, rfl⟩
          have hNl : N.data.toList = l.drop k := by rw [← hN, ext_list, hl, List.take_of_length_le (by simp; omega)]
          have hNsz : (l.drop k).length = N.size := by rw [← hNl]; exact size_len N
          obtain ⟨m, hm⟩ : ∃ m, pre isLet (l.drop k) = m := ⟨_, rfl⟩
          have hml : m ≤ N.size := by rw [← hm, ← hNsz]; exact pre_le _ _
          obtain ⟨M, hM⟩ : ∃ M, N.extract 0 m = M := ⟨_, rfl⟩
          have hMl : M.data.toList = (l.drop k).take m := by rw [← hM, ext_list, hNl]; simp
          have hPk : ∀ w, Calls Tryd.prog 17 #[.string t, .func (.func 18) #[] #[]] w fun e w' => e = .returned (.int .i64 (k : Nat)) ∧ w = w' := by
            intro w
            have := prefix_digit t hts w
            rw [hl, hk] at this
            exact this
          have hPm : ∀ w, Calls Tryd.prog 17 #[.string N, .func (.func 19) #[] #[]] w fun e w' => e = .returned (.int .i64 (m : Nat)) ∧ w = w' := by
            intro w
            have := prefix_letter N (by rw [← hNsz]; simp; omega) w
            rw [hNl, hm] at this
            exact this
          have HPk := Lib.hid hPk
          have HPm := Lib.hid hPm
          have k1 : (k : Int) ≤ (t.size : Int) := by omega
          have k2 : k ≤ t.size := by omega
          have m1 : (m : Int) ≤ (N.size : Int) := by omega
          have HMl := Lib.hid hMl
          have HNl := Lib.hid hNl
          have Hl := Lib.hid hl
          have Hk := Lib.hid hk
          have Hm := Lib.hid hm
          have Hcr := Lib.hid hcr
          have Hsz := Lib.hid hsz
          have Hlen := Lib.hid hlen
          clear hPk hPm hMl hNl hl hk hm hcr hsz hNsz hne hlen
          go_wp2_with (first | (go_at_call 17; ((with_reducible refine (HPk.out _).mono ?_); rintro e w' ⟨rfl, rfl⟩)) | (go_at_call 17; ((with_reducible refine (HPm.out _).mono ?_); rintro e w' ⟨rfl, rfl⟩)) | (go_at_call 20; ((with_reducible refine (units_any _).mono ?_); rintro e w' ⟨rfl, hB⟩; have HB := Lib.hid (hBl.trans (hB.mono hBl.size)); clear hB)))
          obtain ⟨A, hA⟩ : ∃ A, uix M.data.toList 6 = A := ⟨_, rfl⟩
          have HA := Lib.hid hA
          clear hA
          have HBl := HB
          go_loopw [9, 32] (fun a j wq => ∃ (i : Nat), i ≤ 6 ∧ j = .int .i64 i ∧ a = .int .i64 (uix M.data.toList i) ∧ Below w.heap.size w wq) (fun _ j _ => 6 - (intOf j).toNat)
          case atStart => exact ⟨0, by omega, rfl, rfl, HBl.out⟩
          case round =>
            obtain ⟨i, hi, rfl, rfl, hBq⟩ := hrel
            by_cases hlt : i < 6
            · have hix := fun w => unit_ix w i hlt
              have hi6 : (i : Int) < 6 := by omega
              cases he : ((uB i).toList == M.toList)
              · have hux : uix M.data.toList (i + 1) = uix M.data.toList i := by
                  rw [eq_list, uB_list] at he
                  conv => lhs; unfold uix
                  rw [if_neg (by rw [he]; simp)]
                have Hux := Lib.hid hux
                clear hux
                go_wp2_with fail
                go_roundw
                case rel => exact ⟨i + 1, by omega, by go_num, by rw [Hux.out], hBq.alloc hBq.size _⟩
                case measure => simp [intOf]; omega
              · have hux : uix M.data.toList (i + 1) = i := by
                  rw [eq_list, uB_list] at he
                  conv => lhs; unfold uix
                  rw [if_pos he]
                have Hux := Lib.hid hux
                clear hux
                go_wp2_with fail
                go_roundw
                case rel => exact ⟨i + 1, by omega, by go_num, by rw [Hux.out], hBq.alloc hBq.size _⟩
                case measure => simp [intOf]; omega
            · have hA6 : uix M.data.toList i = A := by rw [show i = 6 by omega]; exact HA.out
              rw [hA6]
              have hAb := uix_lt M.data.toList 6
              rw [HA.out] at hAb
              have hi6 : ¬ (i : Int) < 6 := by omega
              clear hA6
              have hct : t.size ≠ 0 := by rw [← Hsz.out, Hcr.out]; simp
              have hb0 : t[0]'(by omega) = c := by rw [byte_getD, Hl.out, Hcr.out]; rfl
              have hstep := durL_cons (f - 1) c r (st : Int) sum over k m A (by rw [← Hcr.out]; exact Hk.out) (by rw [← Hcr.out]; exact Hm.out) (by rw [← Hcr.out, ← HMl.out]; exact HA.out)
              have hf1 : f - 1 + 1 = f := by
                have := Hlen.out
                rw [Hl.out, Hcr.out] at this
                simp at this
                omega
              rw [hf1] at hstep
              have hO2 := hacc.out
              rw [Hl.out, Hcr.out, hstep] at hO2
              by_cases hbad : k = 0 ∨ c.toNat = 48 ∨ A < (st : Int)
              · rw [if_pos hbad] at hO2
                have HO2 := Lib.hid hO2
                have hfin : R = (0, 14) := by
                  have := HR0.out
                  rw [← HO2.out] at this
                  exact this.symm
                have HF := Lib.hid hfin
                clear hstep hO2 hfin hacc
                by_cases hk0 : k = 0
                · have e1 : ((k : Int) == 0) = true := by simp; exact hk0
                  have e2 : (k == 0) = true := by simp; exact hk0
                  clear hbad
                  go_wp2_with fail
                  go_ret2
                  exact ⟨by rw [HF.out]; rfl, hBq⟩
                · have e1 : ((k : Int) == 0) = false := by simp; exact hk0
                  have e2 : (k == 0) = false := by simp; exact hk0
                  by_cases hc0 : c.toNat = 48
                  · have e3 : ((c.toNat : Int) == 48) = true := by simp; omega
                    have e4 : (c.toNat == 48) = true := by simp; exact hc0
                    clear hbad
                    go_wp2_with fail
                    go_ret2
                    exact ⟨by rw [HF.out]; rfl, hBq⟩
                  · have e3 : ((c.toNat : Int) == 48) = false := by simp; omega
                    have e4 : (c.toNat == 48) = false := by simp; exact hc0
                    have e5 : decide (A < (st : Int)) = true := by
                      rcases hbad with h | h | h
                      · exact absurd h hk0
                      · exact absurd h hc0
                      · simpa using h
                    clear hbad
                    go_wp2_with fail
                    go_ret2
                    exact ⟨by rw [HF.out]; rfl, hBq⟩
              · rw [if_neg hbad] at hO2
                have hk0 : k ≠ 0 := fun h => hbad (.inl h)
                have hc0 : c.toNat ≠ 48 := fun h => hbad (.inr (.inl h))
                have hAs : ¬ A < (st : Int) := fun h => hbad (.inr (.inr h))
                have e1 : ((k : Int) == 0) = false := by simp; exact hk0
                have e2 : (k == 0) = false := by simp; exact hk0
                have e3 : ((c.toNat : Int) == 48) = false := by simp; omega
                have e4 : (c.toNat == 48) = false := by simp; exact hc0
                have e5 : decide (A < (st : Int)) = false := by simp; omega
                obtain ⟨a, rfl⟩ : ∃ a : Nat, A = a := ⟨A.toNat, by omega⟩
                have ha6 : a < 6 := by omega
                have hix := fun w => unit_ix w a ha6
                obtain ⟨zb1, zb2⟩ := uS_bd a ha6
                have hzz : uSizes.getD (a : Int).toNat 1 = uS a := rfl
                rw [hzz, ← Hcr.out] at hO2
                generalize uS a = z at *
                obtain ⟨D, hD⟩ : ∃ D, t.extract 0 k = D := ⟨_, rfl⟩
                have hDl : D.data.toList = l.take k := by rw [← hD, ext_list, Hl.out]; simp
                obtain ⟨n, hn⟩ : ∃ n, decA 0 (l.take k) = n := ⟨_, rfl⟩
                rw [hn] at hO2
                have hDdig : allDig D.data.toList := by
                  rw [hDl, ← Hk.out]
                  exact take_pre isDig l
                have hDne : D.data.toList ≠ [] := by rw [hDl, Hcr.out]; cases k with | zero => exact absurd rfl hk0 | succ k => simp
                have hDs : D.size ≤ 281474976710656 := by
                  rw [← size_len, hDl, List.length_take]
                  omega
                have hDn : decA 0 D.data.toList = n := by rw [hDl]; exact hn
                have ha0 : (0 : Int) ≤ (a : Int) := by omega
                have hfd := fun w => unit_field w (uB a) z
                obtain ⟨q, hq⟩ : ∃ q, 2147483648 / z = q := ⟨_, rfl⟩
                have hq1 : q ≤ 2147483648 := by rw [← hq]; exact Nat.div_le_self _ _
                have hqz : q * z ≤ 2147483648 := by rw [← hq]; exact Nat.div_mul_le_self _ _
                have eq1 : IntKind.i64.wrap (Int.tdiv 2147483648 (z : Int)) = (q : Int) := by
                  rw [show Int.tdiv 2147483648 (z : Int) = (q : Int) from (quot_nat z).trans (by rw [hq])]
                  exact IntWalk.i64_in _ (by omega)
                have hz0 : (z : Int) ≠ 0 := by omega
                have ha7 : (a : Int) < 6 := by omega
                have HO2 := Lib.hid hO2
                have HB := Lib.hid hBq
                have HTq := Lib.hid (HT.out.below hBq)
                clear hstep hO2 hbad hacc hBq hn hDl
                have hMs : M.size = m := by
                  rw [← size_len, HMl.out, List.length_take, List.length_drop]
                  have := Hm.out
                  have h2 := pre_le isLet (l.drop k)
                  rw [List.length_drop] at h2
                  omega
                obtain ⟨km, hkm⟩ : ∃ km, k + m = km := ⟨_, rfl⟩
                have hkmt : km ≤ t.size := by
                  have h2 := pre_le isLet (l.drop k)
                  rw [List.length_drop, Hm.out] at h2
                  have := Hsz.out
                  omega
                have hkmi : (km : Int) ≤ (t.size : Int) := by omega
                have eq4 : IntKind.i64.wrap ((a : Int) + 1) = ((a + 1 : Nat) : Int) := by rw [IntWalk.i64_in _ (by omega)]; push_cast; rfl
                have eq5 : IntKind.i64.wrap ((k : Int) + (M.size : Int)) = (km : Int) := by rw [hMs, ← hkm, IntWalk.i64_in _ (by omega)]; push_cast; rfl
                obtain ⟨T2, hT2⟩ : ∃ T2, t.extract km t.size = T2 := ⟨_, rfl⟩
                have hT2l : T2.data.toList = l.drop km := by rw [← hT2, ext_list, Hl.out, List.take_of_length_le (by rw [List.length_drop, Hsz.out]; omega)]
                have hT2s : T2.size = t.size - km := by rw [← size_len, hT2l, List.length_drop, Hsz.out]
                have hlf := Hlen.out
                have HT2 : Hid (T2.size ≤ 281474976710656 ∧ T2.data.toList.length ≤ f - 1 ∧ T2.data.toList = l.drop km) := Lib.hid ⟨by omega, by rw [hT2l, List.length_drop, Hsz.out]; rw [Hl.out, Hsz.out] at hlf; omega, hT2l⟩
                have HTs : Hid (T2.size < t.size) := Lib.hid (by omega)
                have HO2 := Lib.hid (by have := HO2.out; rw [hkm, hq] at this; exact this)
                clear hMs hT2l hT2s hlf hkm
                by_cases hbig : n < 9223372036854775808
                · have HAt := Lib.hid fun w => atoi_ok D hDs hDdig hDne n hDn hbig w
                  clear hDdig hDne hDn
                  by_cases hnq : n > q
                  · have e6 : decide ((q : Int) < (n : Int)) = true := by simp; exact hnq
                    have e7 : decide (q < n) = true := by simp; exact hnq
                    go_wp2_with (first | (go_at_call 20; ((with_reducible refine (units_any _).mono ?_); rintro e w' ⟨rfl, hB⟩; have HTq := Lib.hid (HTq.out.below hB); have HB := Lib.hid (HB.out.trans (hB.mono HB.out.size)); clear hB)) | (go_at_call 21; ((with_reducible refine (HAt.out _).mono ?_); rintro e w' ⟨rfl, hB⟩; have HB := Lib.hid (HB.out.trans (hB.mono HB.out.size)); clear hB)))
                    go_wp2_with go_quiet ((first | fail))
                    go_roundw
                    case rel => exact ⟨T2, f - 1, sum, a + 1, true, rfl, rfl, rfl, by go_num, HT2.out.1, by omega, by omega, HT2.out.2.1, Lib.hid (by have h := HO2.out; rw [if_pos (Or.inl hnq)] at h; rw [HT2.out.2.2]; rw [← h]; push_cast; rfl), HB.out.drewN' _⟩
                    case measure => simp only [strLen]; exact HTs.out
                  · have e6 : decide ((q : Int) < (n : Int)) = false := by simp; omega
                    have e7 : decide (q < n) = false := by simp; omega
                    have hp1 : n * z ≤ 2147483648 := Nat.le_trans (Nat.mul_le_mul_right z (show n ≤ q by omega)) hqz
                    obtain ⟨p, hp⟩ : ∃ p, n * z = p := ⟨_, rfl⟩
                    rw [hp] at hp1
                    have eq2 : IntKind.i64.wrap ((n : Int) * (z : Int)) = (p : Int) := by rw [← hp, ← Int.natCast_mul, IntWalk.i64_in _ (by omega)]
                    obtain ⟨u, hu⟩ : ∃ u, sum + p = u := ⟨_, rfl⟩
                    have eq3 : IntKind.i64.wrap ((sum : Int) + (p : Int)) = (u : Int) := by rw [← hu, IntWalk.i64_in _ (by omega)]; push_cast; rfl
                    have HO2 := Lib.hid (by have := HO2.out; rw [hp, hu] at this; exact this)
                    clear hp hu
                    by_cases hu2 : u > 2147483648
                    · have e8 : decide ((2147483648 : Int) < (u : Int)) = true := by simp; omega
                      have e9 : decide (2147483648 < u) = true := by simp; exact hu2
                      go_wp2_with (first | (go_at_call 20; ((with_reducible refine (units_any _).mono ?_); rintro e w' ⟨rfl, hB⟩; have HTq := Lib.hid (HTq.out.below hB); have HB := Lib.hid (HB.out.trans (hB.mono HB.out.size)); clear hB)) | (go_at_call 21; ((with_reducible refine (HAt.out _).mono ?_); rintro e w' ⟨rfl, hB⟩; have HB := Lib.hid (HB.out.trans (hB.mono HB.out.size)); clear hB)))
                      go_wp2_with go_quiet ((first | fail))
                      go_roundw
                      case rel => exact ⟨T2, f - 1, sum, a + 1, true, rfl, rfl, rfl, by go_num, HT2.out.1, by omega, by omega, HT2.out.2.1, Lib.hid (by have h := HO2.out; rw [if_pos (Or.inr hu2)] at h; rw [HT2.out.2.2]; rw [← h]; push_cast; rfl), HB.out.drewN' _⟩
                      case measure => simp only [strLen]; exact HTs.out
                    · have e8 : decide ((2147483648 : Int) < (u : Int)) = false := by simp; omega
                      have e9 : decide (2147483648 < u) = false := by simp; omega
                      go_wp2_with (first | (go_at_call 20; ((with_reducible refine (units_any _).mono ?_); rintro e w' ⟨rfl, hB⟩; have HTq := Lib.hid (HTq.out.below hB); have HB := Lib.hid (HB.out.trans (hB.mono HB.out.size)); clear hB)) | (go_at_call 21; ((with_reducible refine (HAt.out _).mono ?_); rintro e w' ⟨rfl, hB⟩; have HB := Lib.hid (HB.out.trans (hB.mono HB.out.size)); clear hB)))
                      go_wp2_with go_quiet ((first | fail))
                      go_roundw
                      case rel => exact ⟨T2, f - 1, u, a + 1, over, rfl, rfl, rfl, by go_num, HT2.out.1, by omega, by omega, HT2.out.2.1, Lib.hid (by have h := HO2.out; rw [if_neg (by omega)] at h; rw [HT2.out.2.2]; rw [← h]; push_cast; rfl), HB.out.drewN' _⟩
                      case measure => simp only [strLen]; exact HTs.out
                · have HAt := Lib.hid fun w => atoi_range D hDs hDdig hDne n hDn hbig w
                  clear hDdig hDne hDn
                  go_wp2_with (first | (go_at_call 20; ((with_reducible refine (units_any _).mono ?_); rintro e w' ⟨rfl, hB⟩; have HTq := Lib.hid (HTq.out.below hB); have HB := Lib.hid (HB.out.trans (hB.mono HB.out.size)); clear hB)) | (go_at_call 21; ((with_reducible refine (HAt.out _ HTq.out).mono ?_); rintro e w' ⟨⟨v, B, rfl⟩, hB⟩; have HB := Lib.hid (HB.out.trans (hB.mono HB.out.size)); clear hB)))
                  go_wp2_with go_quiet ((first | fail))
                  go_roundw
                  case rel => exact ⟨T2, f - 1, sum, a + 1, true, rfl, rfl, rfl, by go_num, HT2.out.1, by omega, by omega, HT2.out.2.1, Lib.hid (by have h := HO2.out; rw [if_pos (Or.inl (by omega))] at h; rw [HT2.out.2.2]; rw [← h]; push_cast; rfl), HB.out.drewN' _⟩
                  case measure => simp only [strLen]; exact HTs.out
        · have hnil : t.data.toList = [] := by rw [← ByteArray.toList_eq]; simpa using h1t
          have ha := hacc.out
          rw [hnil] at ha
          have HA := Lib.hid ha
          clear ha hacc hlen hnil
          cases over
          · go_wp2_with fail
            go_ret2
            refine ⟨?_, hBl⟩
            have h := HR0.out
            rw [← HA.out] at h
            have e : durL f [] st sum false = some (sum, false) := by cases f <;> rfl
            rw [e] at h
            rw [← h]
            rfl
          · go_wp2_with fail
            go_ret2
            refine ⟨?_, hBl⟩
            have h := HR0.out
            rw [← HA.out] at h
            have e : durL f [] st sum true = some (sum, true) := by cases f <;> rfl
            rw [e] at h
            rw [← h]
            rfl
    · go_wp2_with fail
      go_ret2
      refine ⟨?_, Below.refl _ _⟩
      have h := HR.out
      have hnil : s.data.toList = [] := by rw [← ByteArray.toList_eq]; simpa using h1
      rw [hnil] at h
      rw [← h]
      rfl
  · go_wp2_with fail
    go_ret2
    refine ⟨?_, Below.refl _ _⟩
    have h := HR.out
    have he : s.data.toList = [48, 115] := by rw [← ByteArray.toList_eq]; simpa using h0
    rw [he] at h
    rw [← h]
    rfl
end Go.Proofs.YtdpcpnhkkedfcaaDoor
