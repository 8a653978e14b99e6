/- Chapter 7, by the document: atoms, alternatives, patterns. -/
import Derived.Test.YtndhhgbpcmfeiaaGreatDoorEVc
namespace Go.Proofs.YtndhhgbpcmfeiaaGreatDoor.Ev.P16
open Go.RowKit
set_option maxRecDepth 100000
set_option maxHeartbeats 1000000
theorem W.loop_ind6 {tb : Tab} {n : Nat} {E : Env} {s : St} {hs : HSt} {α β γ δ ε ζ : Type} {b : Code} {Q} (st : α → β → γ → δ → ε → ζ → St) (hp : α → β → γ → δ → ε → ζ → HSt) (Inv : α → β → γ → δ → ε → ζ → Prop) (μ : α → β → γ → δ → ε → ζ → Nat) (a0 : α) (b0 : β) (c0 : γ) (d0 : δ) (e0 : ε) (f0 : ζ)
  (h0 : Inv a0 b0 c0 d0 e0 f0) (hsub : SubS (st a0 b0 c0 d0 e0 f0) s) (hsubH : SubH (hp a0 b0 c0 d0 e0 f0) hs)
  (step : ∀ a c e f g h, Inv a c e f g h → (∀ a' c' e' f' g' h', Inv a' c' e' f' g' h' → μ a' c' e' f' g' h' < μ a c e f g h → W tb n (.loop b) E (st a' c' e' f' g' h') (hp a' c' e' f' g' h') Q) → W tb n b E (st a c e f g h) (hp a c e f g h) (KL tb n b Q)) : W tb n (.loop b) E s hs Q :=
 W.loop_ind (α := α × β × γ × δ × ε × ζ) (fun x => st x.1 x.2.1 x.2.2.1 x.2.2.2.1 x.2.2.2.2.1 x.2.2.2.2.2) (fun x => hp x.1 x.2.1 x.2.2.1 x.2.2.2.1 x.2.2.2.2.1 x.2.2.2.2.2) (fun x => Inv x.1 x.2.1 x.2.2.1 x.2.2.2.1 x.2.2.2.2.1 x.2.2.2.2.2) (fun x => μ x.1 x.2.1 x.2.2.1 x.2.2.2.1 x.2.2.2.2.1 x.2.2.2.2.2) (a0, b0, c0, d0, e0, f0) h0 hsub hsubH
  fun a ha ih => step a.1 a.2.1 a.2.2.1 a.2.2.2.1 a.2.2.2.2.1 a.2.2.2.2.2 ha fun a' c' e' f' g' h' => ih (a', c', e', f', g', h')
theorem cloF_len : ∀ {k o : Nat} {l : List Nat} {n : Nat}, cloF k o l = some n → n < l.length
 | 0, _, _, _, h => by simp [cloF] at h
 | k + 1, o, l, n, h => by
  unfold cloF at h
  by_cases h0 : l = []
  ·rw [if_pos h0] at h; exact absurd h (by simp)
  rw [if_neg h0] at h
  have hp : 0 < l.length := List.length_pos_iff.2 h0
  by_cases h1 : l.getD 0 0 = 92
  ·rw [if_pos h1] at h
   obtain ⟨m, hm, rfl⟩ := Option.map_eq_some_iff.1 h
   have := cloF_len hm
   rw [List.length_drop] at this
   omega
  rw [if_neg h1] at h
  by_cases h2 : l.getD 0 0 = 91
  ·rw [if_pos h2] at h
   cases e : classL (l.drop 1) with
   | none => rw [e] at h; exact absurd h (by simp)
   | some q =>
    rw [e] at h
    obtain ⟨m, hm, rfl⟩ := Option.map_eq_some_iff.1 h
    have := cloF_len hm
    rw [List.length_drop] at this
    omega
  rw [if_neg h2] at h
  by_cases h3 : l.getD 0 0 = 40
  ·rw [if_pos h3] at h
   obtain ⟨m, hm, rfl⟩ := Option.map_eq_some_iff.1 h
   have := cloF_len hm
   rw [List.length_drop] at this
   omega
  rw [if_neg h3] at h
  by_cases h4 : l.getD 0 0 = 41
  ·rw [if_pos h4] at h
   split at h
   ·have := Option.some.inj h; omega
   ·obtain ⟨m, hm, rfl⟩ := Option.map_eq_some_iff.1 h
    have := cloF_len hm
    rw [List.length_drop] at this
    omega
  ·rw [if_neg h4] at h
   obtain ⟨m, hm, rfl⟩ := Option.map_eq_some_iff.1 h
   have := cloF_len hm
   rw [List.length_drop] at this
   omega
theorem clo_pos {k o : Nat} {l : List Nat} {n : Nat} (h : cloF k o l = some n) (h40 : l.getD 0 0 = 40) : 0 < n := by
 cases k with
 | zero => simp [cloF] at h
 | succ k =>
  unfold cloF at h
  by_cases h0 : l = []
  ·rw [if_pos h0] at h; exact absurd h (by simp)
  rw [if_neg h0, if_neg zy, if_neg zy, if_pos h40] at h
  obtain ⟨m, hm, rfl⟩ := Option.map_eq_some_iff.1 h
  omega
theorem closing_e (p : List Nat) (hs : Bytes p) (hl : p.length ≤ 64) (i : Nat) (hi : i < p.length) (h40 : p.getD i 0 = 40) : Spec tab 211 [.str p, .int .i64 ((i : Nat) : Int)] [] []
  (ValE fun v => ∃ x : Int, v = .int .i64 x ∧ (x < 0 → cloF 100 0 (p.drop i) = none) ∧ (0 ≤ x → ∃ n : Nat, cloF 100 0 (p.drop i) = some n ∧ x = ((i + n : Nat) : Int))) := by
 refine (closing_spec p hs hl i hi h40).mono fun v D ⟨h1, h2⟩ => ⟨⟨_, h1, ?_, ?_⟩, h2⟩
 ·intro g
  cases e : cloF 100 0 (p.drop i) with
  | none => rfl
  | some n => rw [e] at g; exact absurd g (by show ¬ ((i + n : Nat) : Int) < 0; omega)
 ·intro g
  cases e : cloF 100 0 (p.drop i) with
  | none => rw [e] at g; exact absurd g (by show ¬ (0 : Int) ≤ -1; omega)
  | some n => exact ⟨n, rfl, rfl⟩
def atomF (r : List Nat → Bool) (l : List Nat) : Option Nat :=
 if l = [] then none
 else if l.getD 0 0 = 46 ∨ plainB (l.getD 0 0) = true then some 1
 else if l.getD 0 0 = 92 ∧ 1 < l.length ∧ plainB (l.getD 1 0) = false then some 2
 else if l.getD 0 0 = 91 then (classL (l.drop 1)).map (· + 1)
 else if l.getD 0 0 = 40 then (match cloF 100 0 l with
  | none => none
  | some n => if r ((l.drop 1).take (n - 1)) = true then some (n + 1) else none)
 else none
theorem atomF_at {r : List Nat → Bool} {p : List Nat} {i : Nat} (h : i < p.length) : atomF r (p.drop i) =
  if p.getD i 0 = 46 ∨ plainB (p.getD i 0) = true then some 1
  else if p.getD i 0 = 92 ∧ i + 1 < p.length ∧ plainB (p.getD (i + 1) 0) = false then some 2
  else if p.getD i 0 = 91 then (classL (p.drop (i + 1))).map (· + 1)
  else if p.getD i 0 = 40 then (match cloF 100 0 (p.drop i) with
   | none => none
   | some n => if r ((p.drop (i + 1)).take (n - 1)) = true then some (n + 1) else none)
  else none := by
 have hne : ¬ p.drop i = [] := by
  intro e
  have := congrArg List.length e
  simp at this
  omega
 have e1 : (1 < (p.drop i).length) = (i + 1 < p.length) := by rw [List.length_drop]; exact propext ⟨fun h => by omega, fun h => by omega⟩
 conv => lhs; unfold atomF
 rw [if_neg hne]
 simp only [drop_getD, List.drop_drop, Nat.add_zero, e1]
theorem atomF_nil {r : List Nat → Bool} {p : List Nat} {i : Nat} (h : p.length ≤ i) : atomF r (p.drop i) = none := by
 rw [List.drop_eq_nil_of_le h]
 rfl
theorem atomF_len {r : List Nat → Bool} {l : List Nat} {n : Nat} (h : atomF r l = some n) : 0 < n ∧ n ≤ l.length := by
 unfold atomF at h
 by_cases h0 : l = []
 ·rw [if_pos h0] at h; exact absurd h (by simp)
 rw [if_neg h0] at h
 have hp : 0 < l.length := List.length_pos_iff.2 h0
 split at h
 ·have := Option.some.inj h; omega
 split at h
 ·rename_i g; have := Option.some.inj h; omega
 split at h
 ·obtain ⟨m, hm, rfl⟩ := Option.map_eq_some_iff.1 h
  have := classL_len hm
  rw [List.length_drop] at this
  omega
 split at h
 ·cases e : cloF 100 0 l with
  | none => rw [e] at h; exact absurd h (by simp)
  | some q =>
   rw [e] at h
   have := cloF_len e
   simp only at h
   split at h
   ·have := Option.some.inj h; omega
   ·exact absurd h (by simp)
 ·exact absurd h (by simp)
theorem atom_some {r : List Nat → Bool} {p : List Nat} {i : Nat} (h : ¬ clsE i (atomF r (p.drop i)) = 0) : ∃ n, atomF r (p.drop i) = some n ∧ 0 < n ∧ i + n ≤ p.length ∧ clsE i (atomF r (p.drop i)) = i + n := by
 cases e : atomF r (p.drop i) with
 | none => rw [e] at h; exact absurd rfl h
 | some n =>
  have := atomF_len e
  rw [List.length_drop] at this
  exact ⟨n, rfl, this.1, by omega, rfl⟩
theorem atom_none {r : List Nat → Bool} {p : List Nat} {i : Nat} (h : clsE i (atomF r (p.drop i)) = 0) : atomF r (p.drop i) = none := by
 cases e : atomF r (p.drop i) with
 | none => rfl
 | some n =>
  have := atomF_len e
  rw [e] at h
  exact absurd h (by show ¬ i + n = 0; omega)
def cutF (r : List Nat → Bool) : Nat → List Nat → List Nat → Option (List (List Nat))
 | 0, _, _ => none
 | k + 1, cur, l =>
  if l = [] then some [cur]
  else if l.getD 0 0 = 124 then (cutF r k [] (l.drop 1)).map (cur :: ·)
  else match atomF r l with
   | none => none
   | some n =>
    if n < l.length ∧ (l.getD n 0 = 42 ∨ l.getD n 0 = 43 ∨ l.getD n 0 = 63) then cutF r k (cur ++ l.take (n + 1)) (l.drop (n + 1))
    else cutF r k (cur ++ l.take n) (l.drop n)
theorem cutF_at {r : List Nat → Bool} {p cur : List Nat} {a k : Nat} (h : a < p.length) : cutF r (k + 1) cur (p.drop a) =
  if p.getD a 0 = 124 then (cutF r k [] (p.drop (a + 1))).map (cur :: ·)
  else match atomF r (p.drop a) with
   | none => none
   | some n =>
    if a + n < p.length ∧ (p.getD (a + n) 0 = 42 ∨ p.getD (a + n) 0 = 43 ∨ p.getD (a + n) 0 = 63) then cutF r k (cur ++ (p.drop a).take (n + 1)) (p.drop (a + (n + 1)))
    else cutF r k (cur ++ (p.drop a).take n) (p.drop (a + n)) := by
 have hne : ¬ p.drop a = [] := by
  intro e
  have := congrArg List.length e
  simp at this
  omega
 have e1 : ∀ n, (n < (p.drop a).length) = (a + n < p.length) := fun n => by rw [List.length_drop]; exact propext ⟨fun h => by omega, fun h => by omega⟩
 conv => lhs; unfold cutF
 rw [if_neg hne]
 simp only [drop_getD, List.drop_drop, Nat.add_zero, e1]
theorem cutF_nil {r : List Nat → Bool} {p cur : List Nat} {a k : Nat} (h : p.length ≤ a) : cutF r (k + 1) cur (p.drop a) = some [cur] := by
 rw [List.drop_eq_nil_of_le h]
 rfl
theorem seg_app {p : List Nat} {fr a m : Nat} (h : fr ≤ a) : (p.drop fr).take (a - fr) ++ (p.drop a).take m = (p.drop fr).take (a + m - fr) := by
 have e : a + m - fr = (a - fr) + m := by omega
 rw [e, List.take_add, List.drop_drop, show fr + (a - fr) = a from by omega]
theorem cur_end {p : List Nat} {fr a : Nat} (h : p.length ≤ a) : (p.drop fr).take (a - fr) = p.drop fr := List.take_of_length_le (by rw [List.length_drop]; omega)
def cutP (r : List Nat → Bool) (p : List Nat) (v : AV) (D : HSt) : Prop :=
 (cutF r 100 [] p = none ∧ v = .tuple [.nils, .bool false] ∧ D = []) ∨
 ∃ L b ex, cutF r 100 [] p = some L ∧ v = .tuple [.slice b 0 L.length 1, .bool true] ∧ D = [⟨b, ⟨1, ex, L.map AV.str⟩, true⟩]
theorem cut_no {r : List Nat → Bool} {p : List Nat} (h : cutF r 100 [] p = none) : cutP r p (oneOf [.nils, .bool false]) [] := .inl ⟨h, rfl, rfl⟩
theorem cut_yes {r : List Nat → Bool} {p : List Nat} {L : List (List Nat)} {b n : Nat} {ex : Bool} {cs : List AV} (h : cutF r 100 [] p = some L) (hn : n = L.length) (hc : cs = L.map AV.str) : cutP r p (oneOf [.slice b 0 n 1, .bool true]) [⟨b, ⟨1, ex, cs⟩, true⟩] := by
 subst hn hc
 exact .inr ⟨L, b, ex, h, rfl, rfl⟩
theorem cut_val {r : List Nat → Bool} {p : List Nat} {v : AV} {D : HSt} (h : cutP r p v D) : ∃ vc, v = .tuple [vc, .bool (cutF r 100 [] p).isSome] := by
 rcases h with ⟨h1, h2, _⟩ | ⟨L, b, ex, h1, h2, _⟩
 ·exact ⟨_, by rw [h1]; exact h2⟩
 ·exact ⟨_, by rw [h1]; exact h2⟩
def rightF : Nat → List Nat → Bool
 | 0, _ => false
 | d + 1, p => (cutF (rightF d) 100 [] p).isSome
theorem atm_ret {r : List Nat → Bool} {p : List Nat} {i a : Nat} (h : clsE i (atomF r (p.drop i)) = a) : oneOf [AV.int .i64 ((a : Nat) : Int)] = .int .i64 ((clsE i (atomF r (p.drop i)) : Nat) : Int) := by rw [h]; rfl
theorem atom_spec (p : List Nat) (hs : Bytes p) (hl : p.length ≤ 64) (i : Nat) (r : List Nat → Bool) (d : Nat) (HR : ∀ q : List Nat, Bytes q → q.length ≤ 64 → q.length < d → Spec tab 192 [.str q] [] [] (Val (.bool (r q)))) (hd : p.length ≤ d) : Spec tab 205 [.str p, .int .i64 ((i : Nat) : Int)] [] [] (Val (.int .i64 ((clsE i (atomF r (p.drop i)) : Nat) : Int))) := by
 refine Spec.en (ftg 205 Tryz.func205) rfl (m := 81) rfl (rs := [.tmp 4]) rfl (st := [(0, .str p), (1, .int .i64 ((i : Nat) : Int))]) rfl rfl (fun _ => rfl) (fun E => zr (za (zi 0) (zk (W.seq (W.block (zr (zm rfl (zm rfl (zq (Q.len ud9 rfl rfl) (zq (Q.bin rfl rfl rfl (bv_geq le_nat)) (za rfl (zk (W.cD rfl (fun hc8 => ?_) (fun hc8 => ?_))))))))))))))
 ·refine zr (za (zi 0) (zk (W.ret (End.Br (End.Kr (End.rV (z1 rfl) ?_))))))
  first | (exfalso; omega; done) | exact atm_ret (by rw [atomF_nil zy]; rfl)
 have hi : i < p.length := zy
 refine zr (zm rfl (zm rfl (WO.indexB hs ud9 rfl rfl zo rfl (fun c16 hd16 hb16 => zq (Q.bin rfl (zu 46) rfl (bv_eql eq_nat)) (zm rfl (WO.sD (d := 18) rfl (fun hc18 => ?_) (fun hc18 => ?_)))))))
 ·refine zG (zG (zG (zG (zq (Q.pT rfl rfl) (za rfl (zk (W.sub (zc 13 rfl (zc 0 rfl (zc 1 rfl zzn))) (W.condT rfl (zr (zm rfl (zq (Q.bin rfl (zi 1) rfl zp) (za rfl (zk (W.ret (End.Br (End.Kr (End.rV (z1 rfl) ?_)))))))))))))))))
  first | (exfalso; omega; done) | exact atm_ret (by rw [atomF_at hi, if_pos (.inl zy)]; rfl)
 refine zT (zm rfl (zT (zm rfl (zT (WO.indexB hs ud9 rfl rfl zo rfl (fun c21 hd21 hb21 => zT (WO.cV rfl (oLc rfl oz) rfl (plain_spec _ (by assumption)) SubR.nil rfl (zq (Q.pF rfl rfl) (za rfl (zk (W.sub (zc 13 rfl (zc 0 rfl (zc 1 rfl zzn))) (W.condS rfl (fun hc13 => ?_) (fun hc13 => ?_)))))))))))))
 ·refine zr (zm rfl (zq (Q.bin rfl (zi 1) rfl zp) (za rfl (zk (W.ret (End.Br (End.Kr (End.rV (z1 rfl) ?_))))))))
  first | (exfalso; omega; done) | exact atm_ret (by rw [atomF_at hi, if_pos (.inr (by rw [← hd21]; exact hc13))]; rfl)
 have hA : ¬ (p.getD i 0 = 46 ∨ plainB (p.getD i 0) = true) := (by rintro (g | g); omega; rw [← hd21, hc13] at g; cases g)
 refine zr (zm rfl (zm rfl (WO.indexB hs ud9 rfl rfl zo rfl (fun c29 hd29 hb29 => zq (Q.bin rfl (zu 92) rfl (bv_eql eq_nat)) (zm rfl (WO.sD (d := 31) rfl (fun hc31 => ?_) (fun hc31 => ?_)))))))
 ·refine zT (zm rfl (zT (zq (Q.bin rfl (zi 1) rfl zp) (zT (zm rfl (zT (zq (Q.len ud9 rfl rfl) (zT (zq (Q.bin rfl rfl rfl (bvl ltn)) (zq (Q.pT rfl rfl) (zm rfl (WO.sD (d := 38) rfl (fun hc38 => ?_) (fun hc38 => ?_)))))))))))))
  ·refine zT (zm rfl (zT (zm rfl (zT (zq (Q.bin rfl (zi 1) rfl zp) (zT (WO.indexB hs ud9 rfl rfl zo rfl (fun c42 hd42 hb42 => zT (WO.cV rfl (oLc rfl oz) rfl (plain_spec _ (by assumption)) SubR.nil rfl (zT (zq (Q.not rfl rfl) (zq (Q.pT rfl rfl) (za rfl (zk (W.sub (zc 26 rfl (zc 0 rfl (zc 1 rfl zzn))) (W.condS rfl (fun hc26 => ?_) (fun hc26 => ?_)))))))))))))))))
   ·refine zr (zm rfl (zq (Q.bin rfl (zi 2) rfl zp) (za rfl (zk (W.ret (End.Br (End.Kr (End.rV (z1 rfl) ?_))))))))
    first | (exfalso; omega; done) | exact atm_ret (by rw [atomF_at hi, if_neg hA, if_pos ⟨by omega, by omega, by rw [← hd42]; simpa using hc26⟩]; rfl)
   have hB : ¬ (p.getD i 0 = 92 ∧ i + 1 < p.length ∧ plainB (p.getD (i + 1) 0) = false) := (fun g => by have h := g.2.2; rw [← hd42] at h; simp [h] at hc26)
   refine zr (zm rfl (zm rfl (WO.indexB hs ud9 rfl rfl zo rfl (fun c51 hd51 hb51 => zq (Q.bin rfl (zu 91) rfl (bv_eql eq_nat)) (za rfl (zk (W.cD rfl (fun hc48 => ?_) (fun hc48 => ?_))))))))
   ·refine zr (zm rfl (zm rfl (WO.callE rfl (oLc rfl (oLc rfl (oLc (zu 0) oz))) rfl (class_spec _ hs zy _ zy _ zy) SubR.nil rfl (fun v56 hP56 => ?_))))
    obtain ⟨h56, rfl⟩ := hP56
    refine zm rfl (zq (Q.extract rfl rfl) (zq (Q.extract rfl rfl) (za rfl (za rfl (zk (W.sub (zc 5 rfl zzn) (zr (zm rfl (za rfl (zk (W.ret (End.Br (End.Kr (End.rV (z1 rfl) ?_))))))))))))))
    first | (exfalso; omega; done) | exact atm_ret (by rw [atomF_at hi, if_neg hA, if_neg hB, if_pos zy, clsE_map]; rfl)
   refine zr (zm rfl (zm rfl (WO.indexB hs ud9 rfl rfl zo rfl (fun c63 hd63 hb63 => zq (Q.bin rfl (zu 40) rfl (bv_eql eq_nat)) (za rfl (zk (W.cD rfl (fun hc60 => ?_) (fun hc60 => ?_))))))))
   ·refine zr (zm rfl (zm rfl (WO.callE rfl (oLc rfl (oLc rfl oz)) rfl (closing_e _ hs zy _ zy zy) SubR.nil rfl (fun v67 hP67 => ?_))))
    obtain ⟨x, rfl, hx1, hx2⟩ := hP67
    refine za rfl (zk (W.sub (zc 7 rfl (zc 0 rfl (zc 1 rfl zzn))) (W.seq (zr (zm rfl (zq (Q.bin rfl (zi 0) rfl (bvl (ltA_eq _ _))) (zm rfl (WO.sD (d := 70) rfl (fun hc70 => ?_) (fun hc70 => ?_)))))))))
    ·refine zG (zG (zG (zG (zG (zG (zG (zq (Q.pT rfl rfl) (zk (W.condT rfl (zr (za (zi 0) (zk (W.sub (zc 4 rfl zzn) (W.ret (End.Kr (End.Br (End.Kr (End.rV (z1 rfl) ?_))))))))))))))))))
     first | (exfalso; omega; done) | exact atm_ret (by rw [atomF_at hi, if_neg hA, if_neg hB, if_neg zy, if_pos zy, hx1 zy]; rfl)
    obtain ⟨n, hn, rfl⟩ := hx2 zy
    have hnl := cloF_len hn
    have hn0 := clo_pos hn (by rw [drop_getD]; show p.getD i 0 = 40; omega)
    simp only [List.length_drop] at hnl
    have hin : i + n - (i + 1) = n - 1 := zy
    refine zT (zm rfl (zT (zm rfl (zT (zq (Q.bin rfl (zi 1) rfl zp) (zT (zm rfl (zT (zq (Q.sliceS ud9 rfl rfl zo rfl) (zT (WO.cV rfl (oLc rfl oz) rfl (HR _ (Bytes.take (Bytes.drop hs _) _) zo zo) SubR.nil rfl (zT (zq (Q.not rfl rfl) (zq (Q.pF rfl rfl) (zk (W.condS rfl (fun hc78 => ?_) (fun hc78 => ?_)))))))))))))))))
    ·refine zr (za (zi 0) (zk (W.sub (zc 4 rfl zzn) (W.ret (End.Kr (End.Br (End.Kr (End.rV (z1 rfl) ?_))))))))
     first | (exfalso; omega; done) | exact atm_ret (by rw [atomF_at hi, if_neg hA, if_neg hB, if_neg zy, if_pos zy, hn]; show clsE i (if r ((p.drop (i + 1)).take (n - 1)) = true then some (n + 1) else none) = _; rw [← hin, if_neg (by simpa using hc78)]; rfl)
    refine zw (zr (zm rfl (zq (Q.bin rfl (zi 1) rfl zp) (za rfl (zk (W.sub (zc 4 rfl zzn) (W.ret (End.Br (End.Kr (End.rV (z1 rfl) ?_))))))))))
    first | (exfalso; omega; done) | exact atm_ret (by rw [atomF_at hi, if_neg hA, if_neg hB, if_neg zy, if_pos zy, hn]; show clsE i (if r ((p.drop (i + 1)).take (n - 1)) = true then some (n + 1) else none) = _; rw [← hin, if_pos (by simpa using hc78)]; rfl)
   refine W.skip (End.KB (End.K (zr (za (zi 0) (zk (W.ret (End.rV (z1 rfl) ?_)))))))
   first | (exfalso; omega; done) | exact atm_ret (by rw [atomF_at hi, if_neg hA, if_neg hB, if_neg zy, if_neg zy]; rfl)
  have hB : ¬ (p.getD i 0 = 92 ∧ i + 1 < p.length ∧ plainB (p.getD (i + 1) 0) = false) := zy
  refine zG (zG (zG (zG (zG (zG (zq (Q.pF rfl rfl) (za rfl (zk (W.sub (zc 26 rfl (zc 0 rfl (zc 1 rfl zzn))) (W.condF rfl (zr (zm rfl (zm rfl (WO.indexB hs ud9 rfl rfl zo rfl (fun c51 hd51 hb51 => zq (Q.bin rfl (zu 91) rfl (bv_eql eq_nat)) (za rfl (zk (W.cD rfl (fun hc48 => ?_) (fun hc48 => ?_)))))))))))))))))))
  ·refine zr (zm rfl (zm rfl (WO.callE rfl (oLc rfl (oLc rfl (oLc (zu 0) oz))) rfl (class_spec _ hs zy _ zy _ zy) SubR.nil rfl (fun v56 hP56 => ?_))))
   obtain ⟨h56, rfl⟩ := hP56
   refine zm rfl (zq (Q.extract rfl rfl) (zq (Q.extract rfl rfl) (za rfl (za rfl (zk (W.sub (zc 5 rfl zzn) (zr (zm rfl (za rfl (zk (W.ret (End.Br (End.Kr (End.rV (z1 rfl) ?_))))))))))))))
   first | (exfalso; omega; done) | exact atm_ret (by rw [atomF_at hi, if_neg hA, if_neg hB, if_pos zy, clsE_map]; rfl)
  refine zr (zm rfl (zm rfl (WO.indexB hs ud9 rfl rfl zo rfl (fun c63 hd63 hb63 => zq (Q.bin rfl (zu 40) rfl (bv_eql eq_nat)) (za rfl (zk (W.cD rfl (fun hc60 => ?_) (fun hc60 => ?_))))))))
  ·refine zr (zm rfl (zm rfl (WO.callE rfl (oLc rfl (oLc rfl oz)) rfl (closing_e _ hs zy _ zy zy) SubR.nil rfl (fun v67 hP67 => ?_))))
   obtain ⟨x, rfl, hx1, hx2⟩ := hP67
   refine za rfl (zk (W.sub (zc 7 rfl (zc 0 rfl (zc 1 rfl zzn))) (W.seq (zr (zm rfl (zq (Q.bin rfl (zi 0) rfl (bvl (ltA_eq _ _))) (zm rfl (WO.sD (d := 70) rfl (fun hc70 => ?_) (fun hc70 => ?_)))))))))
   ·refine zG (zG (zG (zG (zG (zG (zG (zq (Q.pT rfl rfl) (zk (W.condT rfl (zr (za (zi 0) (zk (W.sub (zc 4 rfl zzn) (W.ret (End.Kr (End.Br (End.Kr (End.rV (z1 rfl) ?_))))))))))))))))))
    first | (exfalso; omega; done) | exact atm_ret (by rw [atomF_at hi, if_neg hA, if_neg hB, if_neg zy, if_pos zy, hx1 zy]; rfl)
   obtain ⟨n, hn, rfl⟩ := hx2 zy
   have hnl := cloF_len hn
   have hn0 := clo_pos hn (by rw [drop_getD]; show p.getD i 0 = 40; omega)
   simp only [List.length_drop] at hnl
   have hin : i + n - (i + 1) = n - 1 := zy
   refine zT (zm rfl (zT (zm rfl (zT (zq (Q.bin rfl (zi 1) rfl zp) (zT (zm rfl (zT (zq (Q.sliceS ud9 rfl rfl zo rfl) (zT (WO.cV rfl (oLc rfl oz) rfl (HR _ (Bytes.take (Bytes.drop hs _) _) zo zo) SubR.nil rfl (zT (zq (Q.not rfl rfl) (zq (Q.pF rfl rfl) (zk (W.condS rfl (fun hc78 => ?_) (fun hc78 => ?_)))))))))))))))))
   ·refine zr (za (zi 0) (zk (W.sub (zc 4 rfl zzn) (W.ret (End.Kr (End.Br (End.Kr (End.rV (z1 rfl) ?_))))))))
    first | (exfalso; omega; done) | exact atm_ret (by rw [atomF_at hi, if_neg hA, if_neg hB, if_neg zy, if_pos zy, hn]; show clsE i (if r ((p.drop (i + 1)).take (n - 1)) = true then some (n + 1) else none) = _; rw [← hin, if_neg (by simpa using hc78)]; rfl)
   refine zw (zr (zm rfl (zq (Q.bin rfl (zi 1) rfl zp) (za rfl (zk (W.sub (zc 4 rfl zzn) (W.ret (End.Br (End.Kr (End.rV (z1 rfl) ?_))))))))))
   first | (exfalso; omega; done) | exact atm_ret (by rw [atomF_at hi, if_neg hA, if_neg hB, if_neg zy, if_pos zy, hn]; show clsE i (if r ((p.drop (i + 1)).take (n - 1)) = true then some (n + 1) else none) = _; rw [← hin, if_pos (by simpa using hc78)]; rfl)
  refine W.skip (End.KB (End.K (zr (za (zi 0) (zk (W.ret (End.rV (z1 rfl) ?_)))))))
  first | (exfalso; omega; done) | exact atm_ret (by rw [atomF_at hi, if_neg hA, if_neg hB, if_neg zy, if_neg zy]; rfl)
 have hB : ¬ (p.getD i 0 = 92 ∧ i + 1 < p.length ∧ plainB (p.getD (i + 1) 0) = false) := zy
 refine zG (zG (zG (zG (zG (zq (Q.pF rfl rfl) (zm rfl (zG (zG (zG (zG (zG (zG (zq (Q.pF rfl rfl) (za rfl (zk (W.sub (zc 26 rfl (zc 0 rfl (zc 1 rfl zzn))) (W.condF rfl (zr (zm rfl (zm rfl (WO.indexB hs ud9 rfl rfl zo rfl (fun c51 hd51 hb51 => zq (Q.bin rfl (zu 91) rfl (bv_eql eq_nat)) (za rfl ?_)))))))))))))))))))))))
 refine zk (W.cD rfl (fun hc48 => ?_) (fun hc48 => ?_))
 ·refine zr (zm rfl (zm rfl (WO.callE rfl (oLc rfl (oLc rfl (oLc (zu 0) oz))) rfl (class_spec _ hs zy _ zy _ zy) SubR.nil rfl (fun v56 hP56 => ?_))))
  obtain ⟨h56, rfl⟩ := hP56
  refine zm rfl (zq (Q.extract rfl rfl) (zq (Q.extract rfl rfl) (za rfl (za rfl (zk (W.sub (zc 5 rfl zzn) (zr (zm rfl (za rfl (zk (W.ret (End.Br (End.Kr (End.rV (z1 rfl) ?_))))))))))))))
  first | (exfalso; omega; done) | exact atm_ret (by rw [atomF_at hi, if_neg hA, if_neg hB, if_pos zy, clsE_map]; rfl)
 refine zr (zm rfl (zm rfl (WO.indexB hs ud9 rfl rfl zo rfl (fun c63 hd63 hb63 => zq (Q.bin rfl (zu 40) rfl (bv_eql eq_nat)) (za rfl (zk (W.cD rfl (fun hc60 => ?_) (fun hc60 => ?_))))))))
 ·refine zr (zm rfl (zm rfl (WO.callE rfl (oLc rfl (oLc rfl oz)) rfl (closing_e _ hs zy _ zy zy) SubR.nil rfl (fun v67 hP67 => ?_))))
  obtain ⟨x, rfl, hx1, hx2⟩ := hP67
  refine za rfl (zk (W.sub (zc 7 rfl (zc 0 rfl (zc 1 rfl zzn))) (W.seq (zr (zm rfl (zq (Q.bin rfl (zi 0) rfl (bvl (ltA_eq _ _))) (zm rfl (WO.sD (d := 70) rfl (fun hc70 => ?_) (fun hc70 => ?_)))))))))
  ·refine zG (zG (zG (zG (zG (zG (zG (zq (Q.pT rfl rfl) (zk (W.condT rfl (zr (za (zi 0) (zk (W.sub (zc 4 rfl zzn) (W.ret (End.Kr (End.Br (End.Kr (End.rV (z1 rfl) ?_))))))))))))))))))
   first | (exfalso; omega; done) | exact atm_ret (by rw [atomF_at hi, if_neg hA, if_neg hB, if_neg zy, if_pos zy, hx1 zy]; rfl)
  obtain ⟨n, hn, rfl⟩ := hx2 zy
  have hnl := cloF_len hn
  have hn0 := clo_pos hn (by rw [drop_getD]; show p.getD i 0 = 40; omega)
  simp only [List.length_drop] at hnl
  have hin : i + n - (i + 1) = n - 1 := zy
  refine zT (zm rfl (zT (zm rfl (zT (zq (Q.bin rfl (zi 1) rfl zp) (zT (zm rfl (zT (zq (Q.sliceS ud9 rfl rfl zo rfl) (zT (WO.cV rfl (oLc rfl oz) rfl (HR _ (Bytes.take (Bytes.drop hs _) _) zo zo) SubR.nil rfl (zT (zq (Q.not rfl rfl) (zq (Q.pF rfl rfl) (zk (W.condS rfl (fun hc78 => ?_) (fun hc78 => ?_)))))))))))))))))
  ·refine zr (za (zi 0) (zk (W.sub (zc 4 rfl zzn) (W.ret (End.Kr (End.Br (End.Kr (End.rV (z1 rfl) ?_))))))))
   first | (exfalso; omega; done) | exact atm_ret (by rw [atomF_at hi, if_neg hA, if_neg hB, if_neg zy, if_pos zy, hn]; show clsE i (if r ((p.drop (i + 1)).take (n - 1)) = true then some (n + 1) else none) = _; rw [← hin, if_neg (by simpa using hc78)]; rfl)
  refine zw (zr (zm rfl (zq (Q.bin rfl (zi 1) rfl zp) (za rfl (zk (W.sub (zc 4 rfl zzn) (W.ret (End.Br (End.Kr (End.rV (z1 rfl) ?_))))))))))
  first | (exfalso; omega; done) | exact atm_ret (by rw [atomF_at hi, if_neg hA, if_neg hB, if_neg zy, if_pos zy, hn]; show clsE i (if r ((p.drop (i + 1)).take (n - 1)) = true then some (n + 1) else none) = _; rw [← hin, if_pos (by simpa using hc78)]; rfl)
 refine W.skip (End.KB (End.K (zr (za (zi 0) (zk (W.ret (End.rV (z1 rfl) ?_)))))))
 first | (exfalso; omega; done) | exact atm_ret (by rw [atomF_at hi, if_neg hA, if_neg hB, if_neg zy, if_neg zy]; rfl)

theorem cut_spec (p : List Nat) (hs : Bytes p) (hl : p.length ≤ 64) (r : List Nat → Bool) (d : Nat) (HR : ∀ q : List Nat, Bytes q → q.length ≤ 64 → q.length < d → Spec tab 192 [.str q] [] [] (Val (.bool (r q)))) (hd : p.length ≤ d) : Spec tab 201 [.str p] [] [] (cutP r p) := by
 refine Spec.en (ftg 201 Tryz.func201) rfl (m := 62) rfl (rs := [.tmp 2, .tmp 3]) rfl (st := [(0, .str p)]) rfl rfl (fun _ => rfl) (fun E => zr (za rfl (za rfl (zk (zr (za rfl (zk (zr (za (zi 0) (za (zi 0) (zk (W.seq (W.block (W.loop_ind6 (fun (fr : Nat) (a : Nat) (k : Nat) (acc : List (List Nat)) (v : AV) (hp : HSt) => [(0, .str p), (4, v), (5, .int .i64 ((fr : Nat) : Int)), (6, .int .i64 ((a : Nat) : Int))]) (fun (fr : Nat) (a : Nat) (k : Nat) (acc : List (List Nat)) (v : AV) (hp : HSt) => hp) (fun (fr : Nat) (a : Nat) (k : Nat) (acc : List (List Nat)) (v : AV) (hp : HSt) => a ≤ p.length ∧ fr ≤ a ∧ p.length - a < k ∧ acc.length ≤ a ∧ Own 1 (acc.map AV.str) acc.length v hp ∧ cutF r 100 [] p = (cutF r k ((p.drop fr).take (a - fr)) (p.drop a)).map (acc ++ ·)) (fun (fr : Nat) (a : Nat) (k : Nat) (acc : List (List Nat)) (v : AV) (hp : HSt) => p.length - a) (0) (0) (100) ([]) (.nils) ([]) ⟨by omega, by omega, by omega, by simp, Own.nil 1, by simp⟩ zv (SubH.refl _) (fun fr a k acc v hp hI0 ih0 => ?_)))))))))))))))
 obtain ⟨ha, hf, hk, hla, hO, hv⟩ := hI0
 obtain ⟨k, rfl⟩ : ∃ q, k = q + 1 := ⟨k - 1, by omega⟩
 refine W.seq (zr (zm rfl (zm rfl (zq (Q.len ud9 rfl rfl) (zq (Q.bin rfl rfl rfl (bvl ltn)) (zk (W.cD rfl (fun hc11 => ?_) (fun hc11 => ?_))))))))
 ·refine zw (W.block (W.seq (zr (zm rfl (zm rfl (WO.indexB hs ud9 rfl rfl zo rfl (fun c14 hd14 hb14 => zq (Q.bin rfl (zu 124) rfl (bv_eql eq_nat)) (zk (W.cD rfl (fun hc15 => ?_) (fun hc15 => ?_))))))))))
  ·refine zr (zm rfl (zm rfl (zm rfl (zm rfl (zq (Q.sliceS ud9 rfl rfl zo rfl) (WO.bslice ud23 sz9 zr9 rfl (opc rfl oPs_nil) rfl (cs := [_]) rfl rfl rfl (fun b1 => WO.appOwn (e := ⟨b1, _, true⟩) (A := []) ap23_23 hO rfl rfl rfl rfl ⟨by first | omega | (simp at * <;> omega), by first | omega | (simp at * <;> omega)⟩ (by decide) rfl rfl (fun v22 hp22 hO22 => za rfl (zk (W.sub (zc 4 rfl (zc 0 rfl (zc 6 rfl zzn))) (zr (zm rfl (zq (Q.bin rfl (zi 1) rfl zp) (za rfl (zk (zr (zm rfl (za rfl (zk (W.exit (End.Kx (End.Bh (End.KL (W.sub zv (ih0 (a + 1) (a + 1) (k) (acc ++ [(p.drop fr).take (a - fr)]) (v22) (hp22) ?_ ?_)))))))))))))))))))))))))
   ·exact ⟨by omega, by omega, by omega, by simp; omega, by simpa using hO22, by rw [hv, cutF_at zy, if_pos zy]; simp [Option.map_map, Function.comp_def]⟩
   exact zo
  refine zw (zr (zm rfl (zm rfl (WO.cV rfl (oLc rfl (oLc rfl oz)) rfl (atom_spec _ hs zy _ r d HR zy) SubR.nil rfl (za rfl (zk (W.seq (zr (zm rfl (zq (Q.bin rfl (zi 0) rfl (bv_eql eq_nat)) (zk (W.cD rfl (fun hc30 => ?_) (fun hc30 => ?_)))))))))))))
  ·refine zr (za rfl (za rfl (zk (W.sub (zc 3 rfl (zc 2 rfl zzn)) (W.ret ?_)))))
   refine End.Kr (End.Br (End.Lr (End.Br (End.Kr (End.ret (ResL.tmp rfl (z1 rfl)) (hs' := []) (cut_no (by rw [hv, cutF_at zy, if_neg zy, atom_none zy]; rfl)) (fun e h => no_w h) (SubH.nil _))))))
  obtain ⟨n, hn, hn0, hnl, hne⟩ := atom_some (r := r) (p := p) (i := a) zy
  rw [hne]
  refine zw (W.sub (zc 7 rfl (zc 0 rfl (zc 4 rfl (zc 5 rfl zzn)))) (zr (zm rfl (za rfl (zk (zr (zm rfl (zm rfl (zq (Q.len ud9 rfl rfl) (zq (Q.bin rfl rfl rfl (bvl ltn)) (zm rfl (WO.sD (d := 36) rfl (fun hc36 => ?_) (fun hc36 => ?_)))))))))))))
  ·refine zT (zm rfl (zT (zm rfl (zT (WO.indexB hs ud9 rfl rfl zo rfl (fun c39 hd39 hb39 => zT (zq (Q.bin rfl (zu 42) rfl (bv_eql eq_nat)) (zT (zm rfl (WO.sD (d := 41) rfl (fun hc41 => ?_) (fun hc41 => ?_)))))))))))
   ·refine zG (zG (zG (zG (zT (zq (Q.pT rfl rfl) (zT (zm rfl (zG (zG (zG (zG (zT (zq (Q.pT rfl rfl) (zq (Q.pT rfl rfl) (zk (W.sub (zc 53 rfl (zc 6 rfl (zc 0 rfl (zc 4 rfl (zc 5 rfl zzn))))) (W.condT rfl (W.reg (zm rfl (zq (Q.bin rfl (zi 1) rfl zp) (za rfl (WO.nil (End.KB (End.KL ?_))))))))))))))))))))))))
    refine W.sub zv (ih0 (fr) (a + n + 1) (k) (acc) (v) (hp) ?_ ?_)
    ·exact ⟨by omega, by omega, by omega, by omega, hO, by rw [hv, cutF_at zy, if_neg zy, hn]; show Option.map _ (if a + n < p.length ∧ (p.getD (a + n) 0 = 42 ∨ p.getD (a + n) 0 = 43 ∨ p.getD (a + n) 0 = 63) then _ else _) = _; rw [if_pos zy, seg_app zy]; rfl⟩
    exact zo
   refine zT (zm rfl (zT (zm rfl (zT (WO.indexB hs ud9 rfl rfl zo rfl (fun c44 hd44 hb44 => zT (zq (Q.bin rfl (zu 43) rfl (bv_eql eq_nat)) (zT (zq (Q.pF rfl rfl) (zT (zm rfl (WO.sD (d := 47) rfl (fun hc47 => ?_) (fun hc47 => ?_)))))))))))))
   ·refine zG (zG (zG (zG (zT (zq (Q.pT rfl rfl) (zq (Q.pT rfl rfl) (zk (W.sub (zc 53 rfl (zc 6 rfl (zc 0 rfl (zc 4 rfl (zc 5 rfl zzn))))) (W.condT rfl (W.reg (zm rfl (zq (Q.bin rfl (zi 1) rfl zp) (za rfl (WO.nil (End.KB (End.KL (W.sub zv (ih0 (fr) (a + n + 1) (k) (acc) (v) (hp) ?_ ?_))))))))))))))))))
    ·exact ⟨by omega, by omega, by omega, by omega, hO, by rw [hv, cutF_at zy, if_neg zy, hn]; show Option.map _ (if a + n < p.length ∧ (p.getD (a + n) 0 = 42 ∨ p.getD (a + n) 0 = 43 ∨ p.getD (a + n) 0 = 63) then _ else _) = _; rw [if_pos zy, seg_app zy]; rfl⟩
    exact zo
   refine zT (zm rfl (zT (zm rfl (zT (WO.indexB hs ud9 rfl rfl zo rfl (fun c50 hd50 hb50 => zT (zq (Q.bin rfl (zu 63) rfl (bv_eql eq_nat)) (zT (zq (Q.pF rfl rfl) (zq (Q.pT rfl rfl) (zk (W.sub (zc 53 rfl (zc 6 rfl (zc 0 rfl (zc 4 rfl (zc 5 rfl zzn))))) (W.cD rfl (fun hc53 => ?_) (fun hc53 => ?_))))))))))))))
   ·refine W.reg (zm rfl (zq (Q.bin rfl (zi 1) rfl zp) (za rfl (WO.nil (End.KB (End.KL (W.sub zv (ih0 (fr) (a + n + 1) (k) (acc) (v) (hp) ?_ ?_))))))))
    ·exact ⟨by omega, by omega, by omega, by omega, hO, by rw [hv, cutF_at zy, if_neg zy, hn]; show Option.map _ (if a + n < p.length ∧ (p.getD (a + n) 0 = 42 ∨ p.getD (a + n) 0 = 43 ∨ p.getD (a + n) 0 = 63) then _ else _) = _; rw [if_pos zy, seg_app zy]; rfl⟩
    exact zo
   refine W.skip (End.KB (End.KL (W.sub zv (ih0 (fr) (a + n) (k) (acc) (v) (hp) ?_ ?_))))
   ·exact ⟨by omega, by omega, by omega, by omega, hO, by rw [hv, cutF_at zy, if_neg zy, hn]; show Option.map _ (if a + n < p.length ∧ (p.getD (a + n) 0 = 42 ∨ p.getD (a + n) 0 = 43 ∨ p.getD (a + n) 0 = 63) then _ else _) = _; rw [if_neg zy, seg_app zy]⟩
   exact zo
  refine zG (zG (zG (zG (zG (WO.gF rfl rfl (.inr rfl) rfl (WO.gF rfl rfl (.inr rfl) rfl (WO.gF rfl rfl (.inr rfl) rfl (WO.gF rfl rfl (.inr rfl) rfl (zG (zG (WO.gF rfl rfl (.inr rfl) rfl (WO.gF rfl rfl (.inr rfl) rfl (WO.gF rfl rfl (.inr rfl) rfl (WO.gF rfl rfl (.inr rfl) rfl (zG (zq (Q.pF rfl rfl) (zk (W.sub (zc 53 rfl (zc 6 rfl (zc 0 rfl (zc 4 rfl (zc 5 rfl zzn))))) (W.condF rfl (W.skip (End.KB (End.KL (W.sub zv (ih0 (fr) (a + n) (k) (acc) (v) (hp) ?_ ?_))))))))))))))))))))))))
  ·exact ⟨by omega, by omega, by omega, by omega, hO, by rw [hv, cutF_at zy, if_neg zy, hn]; show Option.map _ (if a + n < p.length ∧ (p.getD (a + n) 0 = 42 ∨ p.getD (a + n) 0 = 43 ∨ p.getD (a + n) 0 = 63) then _ else _) = _; rw [if_neg zy, seg_app zy]⟩
  exact zo
 refine W.exit (End.Kx (End.Lx (End.Bh (End.K (zr (zm rfl (zm rfl (zm rfl (zq (Q.sliceS ud9 rfl rfl zo sl_lo) (WO.bslice ud23 sz9 zr9 rfl (opc rfl oPs_nil) rfl (cs := [_]) rfl rfl rfl (fun b3 => WO.appOwn (e := ⟨b3, _, true⟩) (A := []) ap23_23 hO rfl rfl rfl rfl ⟨by first | omega | (simp at * <;> omega), by first | omega | (simp at * <;> omega)⟩ (by decide) rfl rfl (fun v61 hp61 hO61 => ?_))))))))))))
 obtain ⟨b61, ex61, rfl, rfl⟩ := hO61.full zy
 refine za rfl (za rfl (zk (W.sub (zc 3 rfl (zc 2 rfl zzn)) (W.ret ?_))))
 refine End.ret (ResL.tmp rfl (z1 rfl)) (hs' := [⟨b61, ⟨1, ex61, (acc.map AV.str) ++ [.str (p.drop fr)]⟩, true⟩]) (cut_yes (L := acc ++ [p.drop fr]) (by rw [hv, cutF_nil zy, cur_end zy]; rfl) (by simp) (by simp)) (by intro e he; simp at he; subst he; rfl) (SubH.of_sublist (by simp))

theorem rightS_spec (p : List Nat) (hs : Bytes p) (hl : p.length ≤ 64) (d : Nat) (HR : ∀ q : List Nat, Bytes q → q.length ≤ 64 → q.length < d → Spec tab 192 [.str q] [] [] (Val (.bool (rightF d q)))) (hd : p.length ≤ d) : Spec tab 192 [.str p] [] [] (Val (.bool (rightF (d + 1) p))) := by
 refine Spec.en (ftg 192 Tryz.func192) rfl (m := 11) rfl (rs := [.tmp 2]) rfl (st := [(0, .str p)]) rfl rfl (fun _ => rfl) (fun E => zr (za rfl (zk (zr (zm rfl (WO.call0 rfl (oLc rfl oz) rfl (cut_spec p hs hl (rightF d) d HR hd) SubR.nil rfl (fun v7 D7 hP7 => ?_)))))))
 obtain ⟨vc, rfl⟩ := cut_val hP7
 refine WO.subH (hs' := (D7)) (SubH.op (perm_tail (N := []) (G := D7) (K := []) (X := []))) (zm rfl (zq (Q.extract rfl rfl) (zq (Q.extract rfl rfl) (za rfl (za rfl (zk (zr (zm rfl (za rfl (zk (W.ret (End.rV (z1 rfl) ?_))))))))))))
 rfl
end Go.Proofs.YtndhhgbpcmfeiaaGreatDoor.Ev.P16
