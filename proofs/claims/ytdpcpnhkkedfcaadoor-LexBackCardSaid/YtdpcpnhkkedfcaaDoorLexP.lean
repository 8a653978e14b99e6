/- Layer 15: lex.PrintDur. -/
import Derived.Test.YtdpcpnhkkedfcaaDoorProg
import Derived.WalkKit
import Derived.ProofKit
import Derived.OpenShut
import Derived.Outline
import Derived.WalkSpells
import Derived.WalkLawsBesides
import Derived.Deep.QuietTactic
import Derived.BigQuiet
import Derived.Lib.Hide
import Derived.Deep.DeepFit
import Derived.Deep.DeepMust

import Derived.Test.YtdpcpnhkkedfcaaDoorLexW
import Derived.Test.YtdpcpnhkkedfcaaDoorLexD
import Derived.Lib.ItoaLen
import Derived.Lib.ItoaMem
namespace Go.Proofs.YtdpcpnhkkedfcaaDoor
open Go.ChangeShapes Go.WideShapes Go.ChangeAt Go.RowKit
set_option linter.unusedVariables false
set_option maxRecDepth 100000
/-- The text of a length by the last k units. -/
def pd : Nat → Nat → List UInt8
  | 0, _ => []
  | k + 1, n => if uS (5 - k) ≤ n then Lib.decDigits (n / uS (5 - k)) ++ (uNames.getD (5 - k) [] ++ pd k (n % uS (5 - k))) else pd k n
def pdM (n : Int) : List UInt8 × Int :=
  if n < 0 ∨ 2147483648 < n then ([], 11) else if n = 0 then ([48, 115], 0) else (pd 6 n.toNat, 0)
def bs (l : List UInt8) : ByteArray := ⟨l.toArray⟩
theorem bs_size (l : List UInt8) : (bs l).size = l.length := by simp [bs, ByteArray.size]
theorem bs_list (l : List UInt8) : (bs l).data.toList = l := by simp [bs]
theorem itoa_nat (q : Nat) (w : World) (hq : q ≤ 2147483648) (ht : Tab w) :
    Calls Tryd.prog 26 #[.int .i64 (q : Int)] w fun e w' => e = .returned (.string (bs (Lib.decDigits q))) ∧ Below w.heap.size w w' :=
  (Tryd.strconv_Itoa (q : Int) (by omega) (by omega) w ht.pow).mono fun e w' ⟨he, k, os, hw⟩ => ⟨by rw [he, Lib.itoa_nonneg]; rfl, by rw [hw]; exact grow_below _ _ _⟩
theorem dec_len (q : Nat) (hq : q ≤ 2147483648) : (Lib.decDigits q).length ≤ 21 := by
  have := Lib.itoa_length_le (q : Int) (by omega) (by omega)
  rw [Lib.itoa_nonneg] at this
  exact this
theorem strCells_bs (l : List UInt8) : Lib.strCells (bs l) = Lib.byteCells l := rfl
theorem byteCells_append (a b : List UInt8) : Lib.byteCells (a ++ b) = Lib.byteCells a ++ Lib.byteCells b := by simp [Lib.byteCells]
theorem uB_bs (i : Nat) : uB i = bs (uNames.getD i []) := rfl
theorem szA (w : World) (o : Obj) : (w.alloc o).heap.size = w.heap.size + 1 := by
  show (w.heap.push o).size = _
  exact Array.size_push _
set_option maxHeartbeats 4000000 in
theorem print_any (n : Int) (hn : -9223372036854775808 ≤ n ∧ n ≤ 9223372036854775807) (w : World) (hT : Tab w) :
    Calls Tryd.prog 13 #[.int .i64 n] w fun e w' => e = .returned (.tuple #[.string (bs (pdM n).1), .int .i64 (pdM n).2]) ∧ Below w.heap.size w w' := by
  obtain ⟨R, hR⟩ : ∃ R, pdM n = R := ⟨_, rfl⟩
  rw [hR]
  have HT := Lib.hid hT
  clear hT
  unfold pdM at hR
  go_enter Tryd.func13, Tryd.ntmps13
  by_cases c1 : n < 0
  · rw [if_pos (.inl c1)] at hR
    subst hR
    go_wp2_with fail
    go_ret2
    exact ⟨rfl, Below.refl _ _⟩
  · by_cases c2 : 2147483648 < n
    · rw [if_pos (.inr c2)] at hR
      subst hR
      go_wp2_with fail
      go_ret2
      exact ⟨rfl, Below.refl _ _⟩
    · rw [if_neg (by omega)] at hR
      by_cases c3 : n = 0
      · rw [if_pos c3] at hR
        subst hR
        have e1 : (n == 0) = true := by simp; exact c3
        go_wp2_with fail
        go_ret2
        exact ⟨rfl, Below.refl _ _⟩
      · rw [if_neg c3] at hR
        have e1 : (n == 0) = false := by simp; exact c3
        obtain ⟨m, rfl⟩ : ∃ m : Nat, n = m := ⟨n.toNat, by omega⟩
        have hm : m ≤ 2147483648 := by omega
        obtain ⟨O, hO⟩ : ∃ O, pd 6 m = O := ⟨_, rfl⟩
        have hR' : R = (O, 0) := by rw [← hR, ← hO]; rfl
        have HR := Lib.hid hR'
        have HO := Lib.hid hO
        clear hR hR' hO
        go_wp2_with (go_at_call 20; ((with_reducible refine (units_any _).mono ?_); rintro e w' ⟨rfl, hB⟩))
        have HB0 := Lib.hid ((((Below.refl w.heap.size w).alloc (Nat.le_refl _) (Obj.cells #[.pointer none, .slice none 0 0] 65))).trans (hB.mono (by rw [szA]; omega)))
        have HI0 := Lib.hid (own_below (Lib.fresh_isBuilder 65 5 w) hB)
        have HO0 : Hid ([] ++ pd (6 - 0) m = O) := Lib.hid HO.out
        clear hB
        go_loopw [0, 18] (fun nv iv wr => ∃ (m i : Nat) (out : List UInt8), i ≤ 6 ∧ nv = .int .i64 m ∧ iv = .int .i64 i ∧ m ≤ 2147483648 ∧ out.length ≤ 23 * i ∧ Hid (out ++ pd (6 - i) m = O) ∧
          Hid (Lib.IsBuilder 65 5 w.heap.size w.heap.size (Lib.byteCells out) wr) ∧ Hid (Below w.heap.size w wr)) (fun _ iv _ => 6 - (intOf iv).toNat)
        case atStart => exact ⟨m, 0, [], by omega, rfl, rfl, hm, by simp, HO0, HI0, HB0⟩
        case round =>
          obtain ⟨k, i, out, hi, rfl, rfl, hk, hlen, Hout, HI, HB⟩ := hrel
          by_cases hlt : i < 6
          · have hix := fun w => unit_ix w i hlt
            have hi6 : (i : Int) < 6 := by omega
            obtain ⟨zb1, zb2⟩ := uS_bd i hlt
            have hpd := Hout.out
            rw [show 6 - i = (5 - i) + 1 by omega] at hpd
            unfold pd at hpd
            rw [show 5 - (5 - i) = i by omega] at hpd
            obtain ⟨z, hz⟩ : ∃ z, uS i = z := ⟨_, rfl⟩
            rw [hz] at hpd zb1 zb2
            obtain ⟨V, hV⟩ : ∃ V, uB i = V := ⟨_, rfl⟩
            have hVl : V.data.toList = uNames.getD i [] := by rw [← hV, uB_list]
            have hVs : V.size ≤ 2 := by
              rw [← size_len, hVl]
              exact six (p := fun j => (uNames.getD j []).length ≤ 2) (by decide) i hlt
            have hix' : ∀ w, Sem.run Tryd.prog (Instr.index 51 (.agg unitsA) (.int .i64 i)) w = .ok (.agg #[.string V, .int .i64 z]) w := by rw [← hV, ← hz]; exact hix
            have Hpd := Lib.hid hpd
            have HVl := Lib.hid hVl
            clear hix hpd hVl hz hV
            by_cases hzk : z ≤ k
            · have f1 : (z : Int) ≤ (k : Int) := by omega
              have f2 : decide ((z : Int) ≤ (k : Int)) = true := by simp; exact hzk
              obtain ⟨q, hq⟩ : ∃ q, k / z = q := ⟨_, rfl⟩
              have hq1 : q ≤ 2147483648 := by rw [← hq]; exact Nat.le_trans (Nat.div_le_self _ _) hk
              obtain ⟨r, hr⟩ : ∃ r, k % z = r := ⟨_, rfl⟩
              have hr1 : r ≤ 2147483648 := by rw [← hr]; exact Nat.le_trans (Nat.mod_le _ _) hk
              have eq1 : IntKind.i64.wrap (Int.tdiv (k : Int) (z : Int)) = (q : Int) := by
                rw [← Int.ofNat_tdiv, hq]
                exact IntWalk.i64_in _ (by omega)
              have eq2 : Int.tmod (k : Int) (z : Int) = (r : Int) := by rw [← Int.ofNat_tmod, hr]
              have hz0 : (z : Int) ≠ 0 := by omega
              have eq3 : (k : Int) / (z : Int) = (q : Int) := by rw [← Int.natCast_ediv, hq]
              have eq4 : (k : Int) % (z : Int) = (r : Int) := by rw [← Int.natCast_emod, hr]
              have hpd2 := Hpd.out
              rw [if_pos hzk, hq, hr] at hpd2
              have Hpd2 := Lib.hid hpd2
              have hdl := dec_len q hq1
              have hl1 : (Lib.byteCells out).length + (bs (Lib.decDigits q)).size ≤ 140737488355328 := by rw [bs_size, Lib.byteCells, List.length_map]; omega
              have hl2 : (Lib.byteCells out ++ Lib.strCells (bs (Lib.decDigits q))).length + V.size ≤ 140737488355328 := by rw [List.length_append, Lib.strCells_length, bs_size, Lib.byteCells, List.length_map]; omega
              have HAL := Lib.hid (HB.out.alloc HB.out.size (Obj.cells #[.string V, .int .i64 z] 50))
              have HTx := Lib.hid (HT.out.below HAL.out)
              have HIx := Lib.hid (own_below HI.out ((Below.refl wr.heap.size wr).alloc (Nat.le_refl _) (Obj.cells #[.string V, .int .i64 z] 50)))
              have HU := Lib.hid (heap_alloc_new wr (Obj.cells #[.string V, .int .i64 z] 50))
              have HNE : Hid (wr.heap.size ≠ w.heap.size) := Lib.hid (by
                rcases HI.out with h | h
                · have := h.lt; omega
                · have := h.lt; omega)
              clear hq hr hpd2
              go_wp2_with (first | (go_at_call 26; ((with_reducible refine (itoa_nat q _ hq1 HTx.out).mono ?_); rintro e w1 ⟨rfl, hB⟩; have HB1 := Lib.hid (HAL.out.trans (hB.mono HAL.out.size)); have HI1 := Lib.hid (own_below HIx.out hB); have HU1 := Lib.hid ((hB.block wr.heap.size (by rw [szA]; omega)).trans HU.out); clear hB)) | (go_at_call 25; ((with_reducible refine (write_any w.heap.size w.heap.size (Lib.byteCells out) (bs (Lib.decDigits q)) _ HI1.out hl1 HB1.out.size).mono ?_); rintro e w2 ⟨rfl, hI, hB, hS⟩; have HB2 := Lib.hid (HB1.out.trans hB); have HI2 := Lib.hid hI; have HU2 := Lib.hid (hS wr.heap.size _ _ _ HU1.out (by decide) HNE.out); have cu0 := (Lib.cell_of_heap HU2.out 0); have cu1 := (Lib.cell_of_heap HU2.out 1); simp only [List.getElem?_toArray, List.getElem?_cons_zero, List.getElem?_cons_succ] at cu0 cu1; clear hB hI hS)) | (go_at_call 25; ((with_reducible refine (write_any w.heap.size w.heap.size _ V _ HI2.out hl2 HB2.out.size).mono ?_); rintro e w3 ⟨rfl, hI, hB, hS⟩; have HB3 := Lib.hid (HB2.out.trans hB); have HI3 := Lib.hid hI; have HU3 := Lib.hid (hS wr.heap.size _ _ _ HU2.out (by decide) HNE.out); have cv0 := (Lib.cell_of_heap HU3.out 0); have cv1 := (Lib.cell_of_heap HU3.out 1); simp only [List.getElem?_toArray, List.getElem?_cons_zero, List.getElem?_cons_succ] at cv0 cv1; clear hB hI hS)))
              go_roundw
              case rel =>
                refine ⟨r, i + 1, out ++ (Lib.decDigits q ++ uNames.getD i []), by omega, rfl, by go_num, hr1, ?_, Lib.hid ?_, Lib.hid ?_, HB3⟩
                · have := HVl.out
                  have h2 := size_len V
                  rw [this] at h2
                  rw [List.length_append, List.length_append, h2]
                  omega
                · rw [← Hpd2.out, show 6 - (i + 1) = 5 - i by omega]
                  simp only [List.append_assoc]
                · have h := HI3.out
                  rw [strCells_bs, show Lib.strCells V = Lib.byteCells (uNames.getD i []) by rw [← HVl.out]; rfl, List.append_assoc, ← byteCells_append, ← byteCells_append] at h
                  exact h
              case measure => simp [intOf]; omega
            · have f1 : ¬ (z : Int) ≤ (k : Int) := by omega
              have f2 : decide ((z : Int) ≤ (k : Int)) = false := by simp; omega
              have hpd2 := Hpd.out
              rw [if_neg hzk] at hpd2
              have Hpd2 := Lib.hid hpd2
              have HAL := Lib.hid (HB.out.alloc HB.out.size (Obj.cells #[.string V, .int .i64 z] 50))
              have HIx := Lib.hid (own_below HI.out ((Below.refl wr.heap.size wr).alloc (Nat.le_refl _) (Obj.cells #[.string V, .int .i64 z] 50)))
              clear hpd2
              go_wp2_with fail
              go_roundw
              case rel => exact ⟨k, i + 1, out, by omega, rfl, by go_num, hk, by omega, Lib.hid (by rw [show 6 - (i + 1) = 5 - i by omega]; exact Hpd2.out), HIx, HAL⟩
              case measure => simp [intOf]; omega
          · have hi6 : ¬ (i : Int) < 6 := by omega
            have ho : out = O := by
              have := Hout.out
              rw [show 6 - i = 0 by omega] at this
              unfold pd at this
              simpa using this
            have HIO := Lib.hid (by have h := HI.out; rw [ho] at h; exact h)
            clear ho
            go_wp2_with (go_at_call 27; ((with_reducible refine (Tryd.Builder_String_any w.heap.size w.heap.size O _ HIO.out HB.out.size).mono ?_); rintro e w1 ⟨rfl, hB⟩))
            go_ret2
            exact ⟨by rw [HR.out]; rfl, HB.out.trans hB⟩
end Go.Proofs.YtdpcpnhkkedfcaaDoor
