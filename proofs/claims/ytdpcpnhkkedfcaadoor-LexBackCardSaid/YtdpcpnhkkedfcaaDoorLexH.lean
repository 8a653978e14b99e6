/- Layer 15: the reference's Dur. -/
import Derived.Test.YtdpcpnhkkedfcaaDoorProg
import Derived.WalkKit
import Derived.ProofKit
import Derived.OpenShut
import Derived.Outline
import Derived.WalkSpells
import Derived.WalkLawsBesides
import Derived.Deep.QuietTactic
import Derived.BigQuiet
import Derived.Lib.Hide
import Derived.Deep.DeepFit
import Derived.Deep.DeepMust

import Derived.Test.YtdpcpnhkkedfcaaDoorLexG
namespace Go.Proofs.YtdpcpnhkkedfcaaDoor
open Go.ChangeShapes Go.WideShapes Go.ChangeAt Go.RowKit
set_option linter.unusedVariables false
set_option maxRecDepth 100000
def satN (n : Nat) : Nat := min n 2147483649
/-- The reference's parts from a unit on. -/
def rdurL : Nat → List UInt8 → Int → Nat → Bool → Option (Nat × Bool)
  | _, [], _, sum, over => some (sum, over)
  | 0, _ :: _, _, _, _ => none
  | f + 1, c :: r, last, sum, over =>
    let l := c :: r
    let k := pre isDig l
    let u := runit (l.drop k)
    if k = 0 ∨ c.toNat = 48 ∨ u ≤ last then none
    else
      let n := satN (decA 0 (l.take k))
      let z := uSizes.getD u.toNat 1
      let d := (uNames.getD u.toNat []).length
      if over = true ∨ n > 2147483648 / z ∨ sum + n * z > 2147483648 then rdurL f (l.drop (k + d)) u sum true
      else rdurL f (l.drop (k + d)) u (sum + n * z) false
def rdurM (l : List UInt8) : Int × Int :=
  if l = [48, 115] then (0, 0)
  else if l = [] then (0, 14)
  else match rdurL l.length l (-1) 0 false with
    | none => (0, 14)
    | some (_, true) => (0, 11)
    | some (s, false) => ((s : Int), 0)
theorem rdurL_cons (f : Nat) (c : UInt8) (r : List UInt8) (last : Int) (sum : Nat) (over : Bool) (k : Nat) (u : Int) (hk : pre isDig (c :: r) = k) (hu : runit ((c :: r).drop k) = u) :
    rdurL (f + 1) (c :: r) last sum over = if k = 0 ∨ c.toNat = 48 ∨ u ≤ last then none
      else if over = true ∨ satN (decA 0 ((c :: r).take k)) > 2147483648 / uSizes.getD u.toNat 1 ∨ sum + satN (decA 0 ((c :: r).take k)) * uSizes.getD u.toNat 1 > 2147483648 then rdurL f ((c :: r).drop (k + (uNames.getD u.toNat []).length)) u sum true
      else rdurL f ((c :: r).drop (k + (uNames.getD u.toNat []).length)) u (sum + satN (decA 0 ((c :: r).take k)) * uSizes.getD u.toNat 1) false := by
  subst hk hu
  rfl
theorem decA_snoc : ∀ (l : List UInt8) (acc : Nat) (c : UInt8), decA acc (l ++ [c]) = decA acc l * 10 + (c.toNat - 48)
  | [], acc, c => rfl
  | x :: l, acc, c => decA_snoc l _ c
theorem take_snoc (l : List UInt8) (i : Nat) (h : i < l.length) : l.take (i + 1) = l.take i ++ [l.getD i 0] := by
  rw [List.take_add_one, List.getElem?_eq_getElem h]
  simp [h]
theorem runit_lt (l : List UInt8) : -1 ≤ runit l ∧ runit l < 6 := by
  have key : ∀ n, -1 ≤ rux l n ∧ rux l n < 6 := by
    intro n
    induction n with
    | zero => unfold rux; omega
    | succ n ih =>
      unfold rux
      split
      · omega
      · exact ih
  unfold runit
  split
  · omega
  · exact key 5
theorem uLen (j : Nat) (hj : j < 6) : 1 ≤ (uNames.getD j []).length ∧ (uNames.getD j []).length ≤ 2 := six (p := fun j => 1 ≤ (uNames.getD j []).length ∧ (uNames.getD j []).length ≤ 2) (by decide) j hj
theorem rux_drop (l : List UInt8) : ∀ n, n ≤ 5 → 0 ≤ rux l n → (uNames.getD (rux l n).toNat []).length ≤ l.length
  | 0, _, h => by unfold rux at h; omega
  | n + 1, hn, h => by
    unfold rux at h ⊢
    split
    · rename_i hh
      rw [if_pos hh] at h
      have : (((4 - n : Nat) : Int)).toNat = 4 - n := rfl
      rw [this, ← hh.2, List.length_take]
      exact Nat.min_le_right _ _
    · rename_i hh
      rw [if_neg hh] at h
      exact rux_drop l n (by omega) h
theorem runit_drop (l : List UInt8) (h : 0 ≤ runit l) : (uNames.getD (runit l).toNat []).length ≤ l.length := by
  unfold runit at h ⊢
  split
  · rename_i hh
    have : ((5 : Int)).toNat = 5 := rfl
    rw [this]
    exact hh.1
  · rename_i hh
    rw [if_neg hh] at h
    exact rux_drop l 5 (by omega) h
set_option maxHeartbeats 4000000 in
theorem rdur_any (s : ByteArray) (hs : s.size ≤ 281474976710656) (w : World) :
    Calls Tryd.prog 12 #[.string s] w fun e w' => e = .returned (.tuple #[.int .i64 (rdurM s.data.toList).1, .int .i64 (rdurM s.data.toList).2]) ∧ Below w.heap.size w w' := by
  obtain ⟨R, hR⟩ : ∃ R, rdurM s.data.toList = R := ⟨_, rfl⟩
  rw [hR]
  have HR := Lib.hid hR
  clear hR
  go_enter Tryd.func12, Tryd.ntmps12
  cases h0 : (s.toList == [48, 115])
  · cases h1 : s.toList.isEmpty
    · have hneS : s.data.toList ≠ [] := by rw [← ByteArray.toList_eq]; intro h; rw [h] at h1; cases h1
      have hR0 : (match rdurL s.data.toList.length s.data.toList (-1) 0 false with
          | none => ((0 : Int), (14 : Int))
          | some (_, true) => (0, 11)
          | some (n, false) => ((n : Int), 0)) = R := by
        have := HR.out
        unfold rdurM at this
        rw [if_neg (by rw [← ByteArray.toList_eq]; intro h; rw [h] at h0; cases h0), if_neg hneS] at this
        exact this
      obtain ⟨O, hO⟩ : ∃ O, rdurL s.data.toList.length s.data.toList (-1) 0 false = O := ⟨_, rfl⟩
      rw [hO] at hR0
      have HO := Lib.hid hO
      have HR0 := Lib.hid hR0
      have HZ := Lib.hid (size_len s)
      clear hR0 hO HR hneS
      go_wp2_with (go_at_call 22; ((with_reducible refine (runits_any _).mono ?_); rintro e w' ⟨⟨B, p, c, C, q, d, rfl, hU⟩, hB⟩))
      go_loopw [0, 6, 7, 8] (fun t su la ov wr => ∃ (t' : ByteArray) (f sum : Nat) (last : Int) (over : Bool), t = .string t' ∧ su = .int .i64 sum ∧ la = .int .i64 last ∧ ov = .bool over ∧ t'.size ≤ 281474976710656 ∧ sum ≤ 2147483648 ∧ -1 ≤ last ∧ last ≤ 6 ∧
        t'.data.toList.length ≤ f ∧ Hid (rdurL f t'.data.toList last sum over = O) ∧ Hid (RU wr B p C q) ∧ Below w.heap.size w wr) (fun t _ _ _ _ => strLen t)
      case atStart => exact ⟨s, s.data.toList.length, 0, -1, false, rfl, rfl, rfl, rfl, hs, by omega, by omega, by omega, Nat.le_refl _, HO, Lib.hid hU, hB⟩
      case round =>
        obtain ⟨t, f, sum, last, over, rfl, rfl, rfl, rfl, hts, hsum, hla, hlb, hlen, hacc, HU, hBl⟩ := hrel
        cases h1t : t.toList.isEmpty
        · obtain ⟨l, hl⟩ : ∃ l, t.data.toList = l := ⟨_, rfl⟩
          have hne : l ≠ [] := by rw [← hl, ← ByteArray.toList_eq]; intro h; rw [h] at h1t; cases h1t
          obtain ⟨c, r, hcr⟩ : ∃ c r, l = c :: r := by cases l with | nil => exact absurd rfl hne | cons c r => exact ⟨c, r, rfl⟩
          have hsz : l.length = t.size := by rw [← hl]; exact size_len t
          obtain ⟨len, hlen2⟩ : ∃ len, t.size = len := ⟨_, rfl⟩
          obtain ⟨kk, hk⟩ : ∃ k, pre isDig l = k := ⟨_, rfl⟩
          have hkl : kk ≤ l.length := by rw [← hk]; exact pre_le _ _
          have HK0 : Hid (0 + pre isDig (l.drop 0) = kk) := Lib.hid (by simpa using hk)
          have Hl := Lib.hid hl
          have Hcr := Lib.hid hcr
          have Hsz := Lib.hid hsz
          have HL := Lib.hid hlen2
          have Hlen := Lib.hid hlen
          have HBl := Lib.hid hBl
          clear hl hcr hsz hne hlen hBl hk hlen2
          go_wp2_with fail
          go_loopw [9, 10] (fun kv nv wq => ∃ (i n : Nat), i ≤ len ∧ kv = .int .i64 i ∧ nv = .int .i64 n ∧ n ≤ 2147483649 ∧ Hid (n = satN (decA 0 (l.take i))) ∧ Hid (i + pre isDig (l.drop i) = kk) ∧ Hid (RU wq B p C q) ∧ Below w.heap.size w wq) (fun kv _ _ => len - (intOf kv).toNat)
          case atStart => exact ⟨0, 0, by omega, rfl, rfl, by omega, Lib.hid rfl, HK0, HU, HBl.out⟩
          case round =>
            obtain ⟨i, n, hi, rfl, rfl, hn, Hn, Hi, HU, hBq⟩ := hrel
            by_cases hlt : i < len
            · have hd := drop_cons8 l i (by rw [Hsz.out, HL.out]; exact hlt)
              have hb := byte_getD t i (by rw [HL.out]; exact hlt)
              have hts2 := take_snoc l i (by rw [Hsz.out, HL.out]; exact hlt)
              rw [Hl.out] at hb
              have hacc' := Hi.out
              rw [hd] at hacc'
              unfold pre at hacc'
              generalize l.getD i 0 = x at *
              have hx : x.toNat < 256 := x.toNat_lt
              have HA := Lib.hid hacc'
              have HT2 := Lib.hid hts2
              have hki : (i : Int) < (t.size : Int) := by rw [HL.out]; omega
              have hki2 : i < t.size := by rw [HL.out]; exact hlt
              have HBq := Lib.hid hBq
              clear hd hacc' hts2 hBq
              cases hp : isDig x.toNat
              · have hik : i = kk := by have h := HA.out; rw [hp] at h; simp at h; omega
                subst hik
                have hct : t.size ≠ 0 := by rw [← Hsz.out, Hcr.out]; simp
                have hb0 : t[0]'(by omega) = c := by rw [byte_getD, Hl.out, Hcr.out]; rfl
                obtain ⟨N, hN⟩ : ∃ N, t.extract i t.size = N := ⟨_, rfl⟩
                have hNl : N.data.toList = l.drop i := by rw [← hN, ext_list, Hl.out, List.take_of_length_le (by simp; rw [Hsz.out]; omega)]
                obtain ⟨u, hu⟩ : ∃ u, runit (l.drop i) = u := ⟨_, rfl⟩
                have hub := runit_lt (l.drop i)
                have hud := runit_drop (l.drop i)
                rw [hu] at hub hud
                have hNs : N.size ≤ 281474976710656 := by rw [← size_len, hNl, List.length_drop, Hsz.out]; omega
                have HUn : Hid (∀ w, Calls Tryd.prog 24 #[.string N] w fun e w' => e = .returned (.int .i64 u) ∧ Below w.heap.size w w') := Lib.hid fun w => by
                  have := runit_any N hNs w
                  rw [hNl, hu] at this
                  exact this
                have kI : pre isDig l = i := by have := HK0.out; simpa using this
                have hstep := rdurL_cons (f - 1) c r last sum over i u (by rw [← Hcr.out]; exact kI) (by rw [← Hcr.out]; exact hu)
                have hf1 : f - 1 + 1 = f := by
                  have := Hlen.out
                  rw [Hl.out, Hcr.out] at this
                  simp at this
                  omega
                rw [hf1] at hstep
                have hO2 := hacc.out
                rw [Hl.out, Hcr.out, hstep, ← Hcr.out, ← Hn.out] at hO2
                have i1 : (i : Int) ≤ (t.size : Int) := by have := HL.out; omega
                have i2 : i ≤ t.size := by have := HL.out; omega
                have HB := HBq
                clear hstep hf1 kI hu hNl hacc
                by_cases hbad : i = 0 ∨ c.toNat = 48 ∨ u ≤ last
                · rw [if_pos hbad] at hO2
                  have HO2 := Lib.hid hO2
                  have HF : Hid (R = (0, 14)) := Lib.hid (by
                    have := HR0.out
                    rw [← HO2.out] at this
                    exact this.symm)
                  clear hO2
                  by_cases hk0 : i = 0
                  · have e1 : ((i : Int) == 0) = true := by simp; exact hk0
                    have e2 : (i == 0) = true := by simp; exact hk0
                    clear hbad hk0
                    go_wp2_with (go_at_call 23; ((with_reducible refine (rdigit_any _ hx _).mono ?_); rintro e w' ⟨rfl, rfl⟩))
                    go_ret2
                    exact ⟨by rw [HF.out]; rfl, HB.out⟩
                  · have e1 : ((i : Int) == 0) = false := by simp; exact hk0
                    have e2 : (i == 0) = false := by simp; exact hk0
                    by_cases hc0 : c.toNat = 48
                    · have e3 : ((c.toNat : Int) == 48) = true := by simp; omega
                      have e4 : (c.toNat == 48) = true := by simp; exact hc0
                      clear hbad
                      go_wp2_with (go_at_call 23; ((with_reducible refine (rdigit_any _ hx _).mono ?_); rintro e w' ⟨rfl, rfl⟩))
                      go_ret2
                      exact ⟨by rw [HF.out]; rfl, HB.out⟩
                    · have e3 : ((c.toNat : Int) == 48) = false := by simp; omega
                      have e4 : (c.toNat == 48) = false := by simp; exact hc0
                      have e5 : decide (u ≤ last) = true := by
                        rcases hbad with h | h | h
                        · exact absurd h hk0
                        · exact absurd h hc0
                        · simpa using h
                      have e6 : u ≤ last := by simpa using e5
                      clear hbad
                      go_wp2_with (first | (go_at_call 24; ((with_reducible refine (HUn.out _).mono ?_); rintro e w' ⟨rfl, hB⟩; have HU := Lib.hid (HU.out.below hB); have HB := Lib.hid (HB.out.trans (hB.mono HB.out.size)); clear hB)) | (go_at_call 23; ((with_reducible refine (rdigit_any _ hx _).mono ?_); rintro e w' ⟨rfl, rfl⟩)))
                      go_ret2
                      exact ⟨by rw [HF.out]; rfl, HB.out⟩
                · rw [if_neg hbad] at hO2
                  have hk0 : i ≠ 0 := fun h => hbad (.inl h)
                  have hc0 : c.toNat ≠ 48 := fun h => hbad (.inr (.inl h))
                  have hAs : ¬ u ≤ last := fun h => hbad (.inr (.inr h))
                  have e1 : ((i : Int) == 0) = false := by simp; exact hk0
                  have e2 : (i == 0) = false := by simp; exact hk0
                  have e3 : ((c.toNat : Int) == 48) = false := by simp; omega
                  have e4 : (c.toNat == 48) = false := by simp; exact hc0
                  have e5 : decide (u ≤ last) = false := by simp; omega
                  obtain ⟨a, rfl⟩ : ∃ a : Nat, u = a := ⟨u.toNat, by omega⟩
                  have ha6 : a < 6 := by omega
                  obtain ⟨zb1, zb2⟩ := uS_bd a ha6
                  obtain ⟨ub1, ub2⟩ := uLen a ha6
                  have hud2 := hud (by omega)
                  have hzz : uSizes.getD (a : Int).toNat 1 = uS a := rfl
                  have hdd : (uNames.getD (a : Int).toNat []).length = (uNames.getD a []).length := rfl
                  rw [hzz, hdd] at hO2
                  rw [hdd] at hud2
                  have hUl : (uB a).size = (uNames.getD a []).length := by rw [← size_len, uB_list]
                  rw [← hUl] at hO2 hud2 ub1 ub2
                  have hul0 := uS a
                  obtain ⟨z, hz⟩ : ∃ z, uS a = z := ⟨_, rfl⟩
                  obtain ⟨V, hV⟩ : ∃ V, uB a = V := ⟨_, rfl⟩
                  have RU6 : ∀ {wx}, RU wx B p C q → wx.cell? ⟨C, q + a, none⟩ = some (.int .i64 z) ∧ wx.cell? ⟨B, p + a, none⟩ = some (.string V) := fun h => ⟨by rw [← hz]; exact h.sz a ha6, by rw [← hV]; exact h.nm a ha6⟩
                  rw [hz, hV] at hO2
                  rw [hz] at zb1 zb2
                  rw [hV] at hud2 ub1 ub2
                  have HRU6 : Hid (∀ {wx}, RU wx B p C q → wx.cell? ⟨C, q + a, none⟩ = some (.int .i64 z) ∧ wx.cell? ⟨B, p + a, none⟩ = some (.string V)) := Lib.hid RU6
                  clear hz hV RU6 hzz hdd hUl hul0 hud
                  obtain ⟨q', hq⟩ : ∃ q, 2147483648 / z = q := ⟨_, rfl⟩
                  have hq1 : q' ≤ 2147483648 := by rw [← hq]; exact Nat.div_le_self _ _
                  have hqz : q' * z ≤ 2147483648 := by rw [← hq]; exact Nat.div_mul_le_self _ _
                  have eq1 : IntKind.i64.wrap (Int.tdiv 2147483648 (z : Int)) = (q' : Int) := by
                    rw [show Int.tdiv 2147483648 (z : Int) = (q' : Int) from (quot_nat z).trans (by rw [hq])]
                    exact IntWalk.i64_in _ (by omega)
                  have hz0 : (z : Int) ≠ 0 := by omega
                  have ha0 : (0 : Int) ≤ (a : Int) := by omega
                  have ha7 : (a : Int) < 6 := by omega
                  have hld : (l.drop i).length = l.length - i := List.length_drop
                  obtain ⟨km, hkm⟩ : ∃ km, i + V.size = km := ⟨_, rfl⟩
                  have hkmt : km ≤ t.size := by have := Hsz.out; omega
                  have hkmi : (km : Int) ≤ (t.size : Int) := by omega
                  have eq5 : IntKind.i64.wrap ((i : Int) + (V.size : Int)) = (km : Int) := by rw [← hkm, IntWalk.i64_in _ (by omega)]; push_cast; rfl
                  obtain ⟨T2, hT2⟩ : ∃ T2, t.extract km t.size = T2 := ⟨_, rfl⟩
                  have hT2l : T2.data.toList = l.drop km := by rw [← hT2, ext_list, Hl.out, List.take_of_length_le (by rw [List.length_drop, Hsz.out]; omega)]
                  have hT2s : T2.size = t.size - km := by rw [← size_len, hT2l, List.length_drop, Hsz.out]
                  have hlf := Hlen.out
                  have HT2 : Hid (T2.size ≤ 281474976710656 ∧ T2.data.toList.length ≤ f - 1 ∧ T2.data.toList = l.drop km) := Lib.hid ⟨by omega, by rw [hT2l, List.length_drop, Hsz.out]; rw [Hl.out, Hsz.out] at hlf; omega, hT2l⟩
                  have HTs : Hid (T2.size < t.size) := Lib.hid (by omega)
                  have HO2 := Lib.hid (by have := hO2; rw [hkm, hq] at this; exact this)
                  clear hT2l hT2s hlf hkm hO2 hbad hld
                  cases over
                  · by_cases hnq : n > q'
                    · have e6 : decide ((q' : Int) < (n : Int)) = true := by simp; exact hnq
                      have e7 : decide (q' < n) = true := by simp; exact hnq
                      go_wp2_with (first | (go_at_call 24; ((with_reducible refine (HUn.out _).mono ?_); rintro e w' ⟨rfl, hB⟩; have HU := Lib.hid (HU.out.below hB); have HB := Lib.hid (HB.out.trans (hB.mono HB.out.size)); have cz := (HRU6.out HU.out).1; have cn := (HRU6.out HU.out).2; clear hB)) | (go_at_call 23; ((with_reducible refine (rdigit_any _ hx _).mono ?_); rintro e w' ⟨rfl, rfl⟩)))
                      go_roundw
                      case rel => exact ⟨T2, f - 1, sum, (a : Int), true, rfl, rfl, rfl, rfl, HT2.out.1, by omega, by omega, by omega, HT2.out.2.1, Lib.hid (by have h := HO2.out; rw [if_pos (Or.inr (Or.inl hnq))] at h; rw [HT2.out.2.2]; exact h), HU, HB.out⟩
                      case measure => simp only [strLen]; exact HTs.out
                    · have e6 : decide ((q' : Int) < (n : Int)) = false := by simp; omega
                      have e7 : decide (q' < n) = false := by simp; omega
                      have hp1 : n * z ≤ 2147483648 := Nat.le_trans (Nat.mul_le_mul_right z (show n ≤ q' by omega)) hqz
                      obtain ⟨pp, hp⟩ : ∃ p, n * z = p := ⟨_, rfl⟩
                      rw [hp] at hp1
                      have eq2 : IntKind.i64.wrap ((n : Int) * (z : Int)) = (pp : Int) := by rw [← hp, ← Int.natCast_mul, IntWalk.i64_in _ (by omega)]
                      obtain ⟨v, hv⟩ : ∃ u, sum + pp = u := ⟨_, rfl⟩
                      have eq3 : IntKind.i64.wrap ((sum : Int) + (pp : Int)) = (v : Int) := by rw [← hv, IntWalk.i64_in _ (by omega)]; push_cast; rfl
                      have HO2 := Lib.hid (by have := HO2.out; rw [hp, hv] at this; exact this)
                      clear hp hv
                      by_cases hu2 : v > 2147483648
                      · have e8 : decide ((2147483648 : Int) < (v : Int)) = true := by simp; omega
                        have e9 : decide (2147483648 < v) = true := by simp; exact hu2
                        go_wp2_with (first | (go_at_call 24; ((with_reducible refine (HUn.out _).mono ?_); rintro e w' ⟨rfl, hB⟩; have HU := Lib.hid (HU.out.below hB); have HB := Lib.hid (HB.out.trans (hB.mono HB.out.size)); have cz := (HRU6.out HU.out).1; have cn := (HRU6.out HU.out).2; clear hB)) | (go_at_call 23; ((with_reducible refine (rdigit_any _ hx _).mono ?_); rintro e w' ⟨rfl, rfl⟩)))
                        go_roundw
                        case rel => exact ⟨T2, f - 1, sum, (a : Int), true, rfl, rfl, rfl, rfl, HT2.out.1, by omega, by omega, by omega, HT2.out.2.1, Lib.hid (by have h := HO2.out; rw [if_pos (Or.inr (Or.inr hu2))] at h; rw [HT2.out.2.2]; exact h), HU, HB.out⟩
                        case measure => simp only [strLen]; exact HTs.out
                      · have e8 : decide ((2147483648 : Int) < (v : Int)) = false := by simp; omega
                        have e9 : decide (2147483648 < v) = false := by simp; omega
                        go_wp2_with (first | (go_at_call 24; ((with_reducible refine (HUn.out _).mono ?_); rintro e w' ⟨rfl, hB⟩; have HU := Lib.hid (HU.out.below hB); have HB := Lib.hid (HB.out.trans (hB.mono HB.out.size)); have cz := (HRU6.out HU.out).1; have cn := (HRU6.out HU.out).2; clear hB)) | (go_at_call 23; ((with_reducible refine (rdigit_any _ hx _).mono ?_); rintro e w' ⟨rfl, rfl⟩)))
                        go_roundw
                        case rel => exact ⟨T2, f - 1, v, (a : Int), false, rfl, rfl, rfl, rfl, HT2.out.1, by omega, by omega, by omega, HT2.out.2.1, Lib.hid (by have h := HO2.out; rw [if_neg (by simp; omega)] at h; rw [HT2.out.2.2]; exact h), HU, HB.out⟩
                        case measure => simp only [strLen]; exact HTs.out
                  · skip
                    go_wp2_with (first | (go_at_call 24; ((with_reducible refine (HUn.out _).mono ?_); rintro e w' ⟨rfl, hB⟩; have HU := Lib.hid (HU.out.below hB); have HB := Lib.hid (HB.out.trans (hB.mono HB.out.size)); have cz := (HRU6.out HU.out).1; have cn := (HRU6.out HU.out).2; clear hB)) | (go_at_call 23; ((with_reducible refine (rdigit_any _ hx _).mono ?_); rintro e w' ⟨rfl, rfl⟩)))
                    go_roundw
                    case rel => exact ⟨T2, f - 1, sum, (a : Int), true, rfl, rfl, rfl, rfl, HT2.out.1, by omega, by omega, by omega, HT2.out.2.1, Lib.hid (by have h := HO2.out; simp only [true_or, if_true] at h; rw [HT2.out.2.2]; exact h), HU, HB.out⟩
                    case measure => simp only [strLen]; exact HTs.out
              · obtain ⟨dg, hdg⟩ : ∃ dg, x.toNat - 48 = dg := ⟨_, rfl⟩
                have hxd := (isDig_iff _).1 hp
                have q1 : IntKind.u8.wrap ((x.toNat : Int) - 48) = (dg : Int) := by
                  rw [← hdg]
                  simp only [IntKind.wrap, IntKind.bits, IntKind.signed]
                  simp
                  omega
                have q2 : IntKind.i64.wrap (dg : Int) = (dg : Int) := IntWalk.i64_in _ (by omega)
                have q3 : IntKind.i64.wrap (10 * (n : Int)) = ((10 * n : Nat) : Int) := by rw [IntWalk.i64_in _ (by omega)]; push_cast; rfl
                obtain ⟨y, hy⟩ : ∃ y, 10 * n + dg = y := ⟨_, rfl⟩
                have q4 : IntKind.i64.wrap (((10 * n : Nat) : Int) + (dg : Int)) = (y : Int) := by rw [IntWalk.i64_in _ (by omega)]; omega
                obtain ⟨n2, hn2⟩ : ∃ n2, min y 2147483649 = n2 := ⟨_, rfl⟩
                have q5 : min (y : Int) 2147483649 = (n2 : Int) := by omega
                have HN2 := Lib.hid hn2
                have HY := Lib.hid hy
                have HDG := Lib.hid hdg
                clear hn2 hy hdg
                have q6 : wrap64 (10 * (n : Int) + (dg : Int)) = (y : Int) := by
                  have h1 := HY.out
                  have h2 := HDG.out
                  have h3 : IntKind.i64.wrap (10 * (n : Int) + (dg : Int)) = (y : Int) := by rw [← h1, IntWalk.i64_in _ (by omega)]; push_cast; rfl
                  rw [IntWalk.i64_left] at h3
                  exact h3
                have Q5 := Lib.hid q5
                have Q6 := Lib.hid q6
                clear q5 q6
                go_wp2_with (go_at_call 23; ((with_reducible refine (rdigit_any _ hx _).mono ?_); rintro e w' ⟨rfl, rfl⟩))
                go_roundw
                case rel =>
                  refine ⟨i + 1, n2, by omega, by go_num, by rw [Q6.out, Q5.out], by have := HN2.out; omega, Lib.hid ?_, Lib.hid ?_, HU, HBq.out⟩
                  · rw [HT2.out, decA_snoc]
                    have h1 := HN2.out
                    have h2 := HY.out
                    have h3 := HDG.out
                    have h4 := Hn.out
                    unfold satN at h4 ⊢
                    omega
                  · have h := HA.out
                    rw [hp] at h
                    simp at h
                    omega
                case measure => simp [intOf]; omega
            · have hdn : l.drop i = [] := by rw [List.drop_eq_nil_iff, Hsz.out, HL.out]; omega
              have hik : i = kk := by have h := Hi.out; rw [hdn] at h; simp [pre] at h; omega
              subst hik
              have hkp : ¬ i < t.size := by rw [HL.out]; exact hlt
              have hkq : ¬ (i : Int) < (t.size : Int) := by omega
              have HBq := Lib.hid hBq
              clear hdn hBq
              have hct : t.size ≠ 0 := by rw [← Hsz.out, Hcr.out]; simp
              have hb0 : t[0]'(by omega) = c := by rw [byte_getD, Hl.out, Hcr.out]; rfl
              obtain ⟨N, hN⟩ : ∃ N, t.extract i t.size = N := ⟨_, rfl⟩
              have hNl : N.data.toList = l.drop i := by rw [← hN, ext_list, Hl.out, List.take_of_length_le (by simp; rw [Hsz.out]; omega)]
              obtain ⟨u, hu⟩ : ∃ u, runit (l.drop i) = u := ⟨_, rfl⟩
              have hub := runit_lt (l.drop i)
              have hud := runit_drop (l.drop i)
              rw [hu] at hub hud
              have hNs : N.size ≤ 281474976710656 := by rw [← size_len, hNl, List.length_drop, Hsz.out]; omega
              have HUn : Hid (∀ w, Calls Tryd.prog 24 #[.string N] w fun e w' => e = .returned (.int .i64 u) ∧ Below w.heap.size w w') := Lib.hid fun w => by
                have := runit_any N hNs w
                rw [hNl, hu] at this
                exact this
              have kI : pre isDig l = i := by have := HK0.out; simpa using this
              have hstep := rdurL_cons (f - 1) c r last sum over i u (by rw [← Hcr.out]; exact kI) (by rw [← Hcr.out]; exact hu)
              have hf1 : f - 1 + 1 = f := by
                have := Hlen.out
                rw [Hl.out, Hcr.out] at this
                simp at this
                omega
              rw [hf1] at hstep
              have hO2 := hacc.out
              rw [Hl.out, Hcr.out, hstep, ← Hcr.out, ← Hn.out] at hO2
              have i1 : (i : Int) ≤ (t.size : Int) := by have := HL.out; omega
              have i2 : i ≤ t.size := by have := HL.out; omega
              have HB := HBq
              clear hstep hf1 kI hu hNl hacc
              by_cases hbad : i = 0 ∨ c.toNat = 48 ∨ u ≤ last
              · rw [if_pos hbad] at hO2
                have HO2 := Lib.hid hO2
                have HF : Hid (R = (0, 14)) := Lib.hid (by
                  have := HR0.out
                  rw [← HO2.out] at this
                  exact this.symm)
                clear hO2
                by_cases hk0 : i = 0
                · have e1 : ((i : Int) == 0) = true := by simp; exact hk0
                  have e2 : (i == 0) = true := by simp; exact hk0
                  clear hbad hk0
                  go_wp2_with fail
                  go_ret2
                  exact ⟨by rw [HF.out]; rfl, HB.out⟩
                · have e1 : ((i : Int) == 0) = false := by simp; exact hk0
                  have e2 : (i == 0) = false := by simp; exact hk0
                  by_cases hc0 : c.toNat = 48
                  · have e3 : ((c.toNat : Int) == 48) = true := by simp; omega
                    have e4 : (c.toNat == 48) = true := by simp; exact hc0
                    clear hbad
                    go_wp2_with fail
                    go_ret2
                    exact ⟨by rw [HF.out]; rfl, HB.out⟩
                  · have e3 : ((c.toNat : Int) == 48) = false := by simp; omega
                    have e4 : (c.toNat == 48) = false := by simp; exact hc0
                    have e5 : decide (u ≤ last) = true := by
                      rcases hbad with h | h | h
                      · exact absurd h hk0
                      · exact absurd h hc0
                      · simpa using h
                    have e6 : u ≤ last := by simpa using e5
                    clear hbad
                    go_wp2_with (first | (go_at_call 24; ((with_reducible refine (HUn.out _).mono ?_); rintro e w' ⟨rfl, hB⟩; have HU := Lib.hid (HU.out.below hB); have HB := Lib.hid (HB.out.trans (hB.mono HB.out.size)); clear hB)) | fail)
                    go_ret2
                    exact ⟨by rw [HF.out]; rfl, HB.out⟩
              · rw [if_neg hbad] at hO2
                have hk0 : i ≠ 0 := fun h => hbad (.inl h)
                have hc0 : c.toNat ≠ 48 := fun h => hbad (.inr (.inl h))
                have hAs : ¬ u ≤ last := fun h => hbad (.inr (.inr h))
                have e1 : ((i : Int) == 0) = false := by simp; exact hk0
                have e2 : (i == 0) = false := by simp; exact hk0
                have e3 : ((c.toNat : Int) == 48) = false := by simp; omega
                have e4 : (c.toNat == 48) = false := by simp; exact hc0
                have e5 : decide (u ≤ last) = false := by simp; omega
                obtain ⟨a, rfl⟩ : ∃ a : Nat, u = a := ⟨u.toNat, by omega⟩
                have ha6 : a < 6 := by omega
                obtain ⟨zb1, zb2⟩ := uS_bd a ha6
                obtain ⟨ub1, ub2⟩ := uLen a ha6
                have hud2 := hud (by omega)
                have hzz : uSizes.getD (a : Int).toNat 1 = uS a := rfl
                have hdd : (uNames.getD (a : Int).toNat []).length = (uNames.getD a []).length := rfl
                rw [hzz, hdd] at hO2
                rw [hdd] at hud2
                have hUl : (uB a).size = (uNames.getD a []).length := by rw [← size_len, uB_list]
                rw [← hUl] at hO2 hud2 ub1 ub2
                have hul0 := uS a
                obtain ⟨z, hz⟩ : ∃ z, uS a = z := ⟨_, rfl⟩
                obtain ⟨V, hV⟩ : ∃ V, uB a = V := ⟨_, rfl⟩
                have RU6 : ∀ {wx}, RU wx B p C q → wx.cell? ⟨C, q + a, none⟩ = some (.int .i64 z) ∧ wx.cell? ⟨B, p + a, none⟩ = some (.string V) := fun h => ⟨by rw [← hz]; exact h.sz a ha6, by rw [← hV]; exact h.nm a ha6⟩
                rw [hz, hV] at hO2
                rw [hz] at zb1 zb2
                rw [hV] at hud2 ub1 ub2
                have HRU6 : Hid (∀ {wx}, RU wx B p C q → wx.cell? ⟨C, q + a, none⟩ = some (.int .i64 z) ∧ wx.cell? ⟨B, p + a, none⟩ = some (.string V)) := Lib.hid RU6
                clear hz hV RU6 hzz hdd hUl hul0 hud
                obtain ⟨q', hq⟩ : ∃ q, 2147483648 / z = q := ⟨_, rfl⟩
                have hq1 : q' ≤ 2147483648 := by rw [← hq]; exact Nat.div_le_self _ _
                have hqz : q' * z ≤ 2147483648 := by rw [← hq]; exact Nat.div_mul_le_self _ _
                have eq1 : IntKind.i64.wrap (Int.tdiv 2147483648 (z : Int)) = (q' : Int) := by
                  rw [show Int.tdiv 2147483648 (z : Int) = (q' : Int) from (quot_nat z).trans (by rw [hq])]
                  exact IntWalk.i64_in _ (by omega)
                have hz0 : (z : Int) ≠ 0 := by omega
                have ha0 : (0 : Int) ≤ (a : Int) := by omega
                have ha7 : (a : Int) < 6 := by omega
                have hld : (l.drop i).length = l.length - i := List.length_drop
                obtain ⟨km, hkm⟩ : ∃ km, i + V.size = km := ⟨_, rfl⟩
                have hkmt : km ≤ t.size := by have := Hsz.out; omega
                have hkmi : (km : Int) ≤ (t.size : Int) := by omega
                have eq5 : IntKind.i64.wrap ((i : Int) + (V.size : Int)) = (km : Int) := by rw [← hkm, IntWalk.i64_in _ (by omega)]; push_cast; rfl
                obtain ⟨T2, hT2⟩ : ∃ T2, t.extract km t.size = T2 := ⟨_, rfl⟩
                have hT2l : T2.data.toList = l.drop km := by rw [← hT2, ext_list, Hl.out, List.take_of_length_le (by rw [List.length_drop, Hsz.out]; omega)]
                have hT2s : T2.size = t.size - km := by rw [← size_len, hT2l, List.length_drop, Hsz.out]
                have hlf := Hlen.out
                have HT2 : Hid (T2.size ≤ 281474976710656 ∧ T2.data.toList.length ≤ f - 1 ∧ T2.data.toList = l.drop km) := Lib.hid ⟨by omega, by rw [hT2l, List.length_drop, Hsz.out]; rw [Hl.out, Hsz.out] at hlf; omega, hT2l⟩
                have HTs : Hid (T2.size < t.size) := Lib.hid (by omega)
                have HO2 := Lib.hid (by have := hO2; rw [hkm, hq] at this; exact this)
                clear hT2l hT2s hlf hkm hO2 hbad hld
                cases over
                · by_cases hnq : n > q'
                  · have e6 : decide ((q' : Int) < (n : Int)) = true := by simp; exact hnq
                    have e7 : decide (q' < n) = true := by simp; exact hnq
                    go_wp2_with (first | (go_at_call 24; ((with_reducible refine (HUn.out _).mono ?_); rintro e w' ⟨rfl, hB⟩; have HU := Lib.hid (HU.out.below hB); have HB := Lib.hid (HB.out.trans (hB.mono HB.out.size)); have cz := (HRU6.out HU.out).1; have cn := (HRU6.out HU.out).2; clear hB)) | fail)
                    go_roundw
                    case rel => exact ⟨T2, f - 1, sum, (a : Int), true, rfl, rfl, rfl, rfl, HT2.out.1, by omega, by omega, by omega, HT2.out.2.1, Lib.hid (by have h := HO2.out; rw [if_pos (Or.inr (Or.inl hnq))] at h; rw [HT2.out.2.2]; exact h), HU, HB.out⟩
                    case measure => simp only [strLen]; exact HTs.out
                  · have e6 : decide ((q' : Int) < (n : Int)) = false := by simp; omega
                    have e7 : decide (q' < n) = false := by simp; omega
                    have hp1 : n * z ≤ 2147483648 := Nat.le_trans (Nat.mul_le_mul_right z (show n ≤ q' by omega)) hqz
                    obtain ⟨pp, hp⟩ : ∃ p, n * z = p := ⟨_, rfl⟩
                    rw [hp] at hp1
                    have eq2 : IntKind.i64.wrap ((n : Int) * (z : Int)) = (pp : Int) := by rw [← hp, ← Int.natCast_mul, IntWalk.i64_in _ (by omega)]
                    obtain ⟨v, hv⟩ : ∃ u, sum + pp = u := ⟨_, rfl⟩
                    have eq3 : IntKind.i64.wrap ((sum : Int) + (pp : Int)) = (v : Int) := by rw [← hv, IntWalk.i64_in _ (by omega)]; push_cast; rfl
                    have HO2 := Lib.hid (by have := HO2.out; rw [hp, hv] at this; exact this)
                    clear hp hv
                    by_cases hu2 : v > 2147483648
                    · have e8 : decide ((2147483648 : Int) < (v : Int)) = true := by simp; omega
                      have e9 : decide (2147483648 < v) = true := by simp; exact hu2
                      go_wp2_with (first | (go_at_call 24; ((with_reducible refine (HUn.out _).mono ?_); rintro e w' ⟨rfl, hB⟩; have HU := Lib.hid (HU.out.below hB); have HB := Lib.hid (HB.out.trans (hB.mono HB.out.size)); have cz := (HRU6.out HU.out).1; have cn := (HRU6.out HU.out).2; clear hB)) | fail)
                      go_roundw
                      case rel => exact ⟨T2, f - 1, sum, (a : Int), true, rfl, rfl, rfl, rfl, HT2.out.1, by omega, by omega, by omega, HT2.out.2.1, Lib.hid (by have h := HO2.out; rw [if_pos (Or.inr (Or.inr hu2))] at h; rw [HT2.out.2.2]; exact h), HU, HB.out⟩
                      case measure => simp only [strLen]; exact HTs.out
                    · have e8 : decide ((2147483648 : Int) < (v : Int)) = false := by simp; omega
                      have e9 : decide (2147483648 < v) = false := by simp; omega
                      go_wp2_with (first | (go_at_call 24; ((with_reducible refine (HUn.out _).mono ?_); rintro e w' ⟨rfl, hB⟩; have HU := Lib.hid (HU.out.below hB); have HB := Lib.hid (HB.out.trans (hB.mono HB.out.size)); have cz := (HRU6.out HU.out).1; have cn := (HRU6.out HU.out).2; clear hB)) | fail)
                      go_roundw
                      case rel => exact ⟨T2, f - 1, v, (a : Int), false, rfl, rfl, rfl, rfl, HT2.out.1, by omega, by omega, by omega, HT2.out.2.1, Lib.hid (by have h := HO2.out; rw [if_neg (by simp; omega)] at h; rw [HT2.out.2.2]; exact h), HU, HB.out⟩
                      case measure => simp only [strLen]; exact HTs.out
                · skip
                  go_wp2_with (first | (go_at_call 24; ((with_reducible refine (HUn.out _).mono ?_); rintro e w' ⟨rfl, hB⟩; have HU := Lib.hid (HU.out.below hB); have HB := Lib.hid (HB.out.trans (hB.mono HB.out.size)); have cz := (HRU6.out HU.out).1; have cn := (HRU6.out HU.out).2; clear hB)) | fail)
                  go_roundw
                  case rel => exact ⟨T2, f - 1, sum, (a : Int), true, rfl, rfl, rfl, rfl, HT2.out.1, by omega, by omega, by omega, HT2.out.2.1, Lib.hid (by have h := HO2.out; simp only [true_or, if_true] at h; rw [HT2.out.2.2]; exact h), HU, HB.out⟩
                  case measure => simp only [strLen]; exact HTs.out
        · have hnil : t.data.toList = [] := by rw [← ByteArray.toList_eq]; simpa using h1t
          have ha := hacc.out
          rw [hnil] at ha
          have HA := Lib.hid ha
          clear ha hacc hlen hnil
          cases over
          · go_wp2_with fail
            go_ret2
            refine ⟨?_, hBl⟩
            have h := HR0.out
            rw [← HA.out] at h
            have e : rdurL f [] last sum false = some (sum, false) := by cases f <;> rfl
            rw [e] at h
            rw [← h]
            rfl
          · go_wp2_with fail
            go_ret2
            refine ⟨?_, hBl⟩
            have h := HR0.out
            rw [← HA.out] at h
            have e : rdurL f [] last sum true = some (sum, true) := by cases f <;> rfl
            rw [e] at h
            rw [← h]
            rfl
    · go_wp2_with (go_at_call 22; ((with_reducible refine (runits_any _).mono ?_); rintro e w' ⟨⟨B, p, c, C, q, d, rfl, hU⟩, hB⟩))
      go_ret2
      refine ⟨?_, hB⟩
      have h := HR.out
      have hnil : s.data.toList = [] := by rw [← ByteArray.toList_eq]; simpa using h1
      rw [hnil] at h
      rw [← h]
      rfl
  · go_wp2_with fail
    go_ret2
    refine ⟨?_, Below.refl _ _⟩
    have h := HR.out
    have he : s.data.toList = [48, 115] := by rw [← ByteArray.toList_eq]; simpa using h0
    rw [he] at h
    rw [← h]
    rfl
end Go.Proofs.YtdpcpnhkkedfcaaDoor
