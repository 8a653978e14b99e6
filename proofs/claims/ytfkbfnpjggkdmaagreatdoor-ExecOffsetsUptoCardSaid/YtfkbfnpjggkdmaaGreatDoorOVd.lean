/- Chapter 7, by the document: atoms, alternatives, patterns. -/
import Derived.Test.YtfkbfnpjggkdmaaGreatDoorOVc
namespace Go.Proofs.YtfkbfnpjggkdmaaGreatDoor.Ev.P7
open Go.RowKit
set_option maxRecDepth 100000
set_option maxHeartbeats 1000000
theorem W.loop_ind6 {tb : Tab} {n : Nat} {E : Env} {s : St} {hs : HSt} {α β γ δ ε ζ : Type} {b : Code} {Q} (st : α → β → γ → δ → ε → ζ → St) (hp : α → β → γ → δ → ε → ζ → HSt) (Inv : α → β → γ → δ → ε → ζ → Prop) (μ : α → β → γ → δ → ε → ζ → Nat) (a0 : α) (b0 : β) (c0 : γ) (d0 : δ) (e0 : ε) (f0 : ζ)
  (h0 : Inv a0 b0 c0 d0 e0 f0) (hsub : SubS (st a0 b0 c0 d0 e0 f0) s) (hsubH : SubH (hp a0 b0 c0 d0 e0 f0) hs)
  (step : ∀ a c e f g h, Inv a c e f g h → (∀ a' c' e' f' g' h', Inv a' c' e' f' g' h' → μ a' c' e' f' g' h' < μ a c e f g h → W tb n (.loop b) E (st a' c' e' f' g' h') (hp a' c' e' f' g' h') Q) → W tb n b E (st a c e f g h) (hp a c e f g h) (KL tb n b Q)) : W tb n (.loop b) E s hs Q :=
 W.loop_ind (α := α × β × γ × δ × ε × ζ) (fun x => st x.1 x.2.1 x.2.2.1 x.2.2.2.1 x.2.2.2.2.1 x.2.2.2.2.2) (fun x => hp x.1 x.2.1 x.2.2.1 x.2.2.2.1 x.2.2.2.2.1 x.2.2.2.2.2) (fun x => Inv x.1 x.2.1 x.2.2.1 x.2.2.2.1 x.2.2.2.2.1 x.2.2.2.2.2) (fun x => μ x.1 x.2.1 x.2.2.1 x.2.2.2.1 x.2.2.2.2.1 x.2.2.2.2.2) (a0, b0, c0, d0, e0, f0) h0 hsub hsubH
  fun a ha ih => step a.1 a.2.1 a.2.2.1 a.2.2.2.1 a.2.2.2.2.1 a.2.2.2.2.2 ha fun a' c' e' f' g' h' => ih (a', c', e', f', g', h')
theorem cloF_len : ∀ {k o : Nat} {l : List Nat} {n : Nat}, cloF k o l = some n → n < l.length
 | 0, _, _, _, h => by simp [cloF] at h
 | k + 1, o, l, n, h => by
  unfold cloF at h
  by_cases h0 : l = []
  ·rw [if_pos h0] at h; exact absurd h (by simp)
  rw [if_neg h0] at h
  have hp : 0 < l.length := List.length_pos_iff.2 h0
  by_cases h1 : l.getD 0 0 = 92
  ·rw [if_pos h1] at h
   obtain ⟨m, hm, rfl⟩ := Option.map_eq_some_iff.1 h
   have := cloF_len hm
   rw [List.length_drop] at this
   omega
  rw [if_neg h1] at h
  by_cases h2 : l.getD 0 0 = 91
  ·rw [if_pos h2] at h
   cases e : classL (l.drop 1) with
   | none => rw [e] at h; exact absurd h (by simp)
   | some q =>
    rw [e] at h
    obtain ⟨m, hm, rfl⟩ := Option.map_eq_some_iff.1 h
    have := cloF_len hm
    rw [List.length_drop] at this
    omega
  rw [if_neg h2] at h
  by_cases h3 : l.getD 0 0 = 40
  ·rw [if_pos h3] at h
   obtain ⟨m, hm, rfl⟩ := Option.map_eq_some_iff.1 h
   have := cloF_len hm
   rw [List.length_drop] at this
   omega
  rw [if_neg h3] at h
  by_cases h4 : l.getD 0 0 = 41
  ·rw [if_pos h4] at h
   split at h
   ·have := Option.some.inj h; omega
   ·obtain ⟨m, hm, rfl⟩ := Option.map_eq_some_iff.1 h
    have := cloF_len hm
    rw [List.length_drop] at this
    omega
  ·rw [if_neg h4] at h
   obtain ⟨m, hm, rfl⟩ := Option.map_eq_some_iff.1 h
   have := cloF_len hm
   rw [List.length_drop] at this
   omega
theorem clo_pos {k o : Nat} {l : List Nat} {n : Nat} (h : cloF k o l = some n) (h40 : l.getD 0 0 = 40) : 0 < n := by
 cases k with
 | zero => simp [cloF] at h
 | succ k =>
  unfold cloF at h
  by_cases h0 : l = []
  ·rw [if_pos h0] at h; exact absurd h (by simp)
  rw [if_neg h0, if_neg (by omega), if_neg (by omega), if_pos h40] at h
  obtain ⟨m, hm, rfl⟩ := Option.map_eq_some_iff.1 h
  omega
theorem closing_e (p : List Nat) (hs : Bytes p) (hl : p.length ≤ 64) (i : Nat) (hi : i < p.length) (h40 : p.getD i 0 = 40) : Spec tab 278 [.str p, .int .i64 ((i : Nat) : Int)] [] []
  (ValE fun v => ∃ x : Int, v = .int .i64 x ∧ (x < 0 → cloF 100 0 (p.drop i) = none) ∧ (0 ≤ x → ∃ n : Nat, cloF 100 0 (p.drop i) = some n ∧ x = ((i + n : Nat) : Int))) := by
 refine (closing_spec p hs hl i hi h40).mono fun v D ⟨h1, h2⟩ => ⟨⟨_, h1, ?_, ?_⟩, h2⟩
 ·intro g
  cases e : cloF 100 0 (p.drop i) with
  | none => rfl
  | some n => rw [e] at g; exact absurd g (by show ¬ ((i + n : Nat) : Int) < 0; omega)
 ·intro g
  cases e : cloF 100 0 (p.drop i) with
  | none => rw [e] at g; exact absurd g (by show ¬ (0 : Int) ≤ -1; omega)
  | some n => exact ⟨n, rfl, rfl⟩
def atomF (r : List Nat → Bool) (l : List Nat) : Option Nat :=
 if l = [] then none
 else if l.getD 0 0 = 46 ∨ plainB (l.getD 0 0) = true then some 1
 else if l.getD 0 0 = 92 ∧ 1 < l.length ∧ plainB (l.getD 1 0) = false then some 2
 else if l.getD 0 0 = 91 then (classL (l.drop 1)).map (· + 1)
 else if l.getD 0 0 = 40 then (match cloF 100 0 l with
  | none => none
  | some n => if r ((l.drop 1).take (n - 1)) = true then some (n + 1) else none)
 else none
theorem atomF_at {r : List Nat → Bool} {p : List Nat} {i : Nat} (h : i < p.length) : atomF r (p.drop i) =
  if p.getD i 0 = 46 ∨ plainB (p.getD i 0) = true then some 1
  else if p.getD i 0 = 92 ∧ i + 1 < p.length ∧ plainB (p.getD (i + 1) 0) = false then some 2
  else if p.getD i 0 = 91 then (classL (p.drop (i + 1))).map (· + 1)
  else if p.getD i 0 = 40 then (match cloF 100 0 (p.drop i) with
   | none => none
   | some n => if r ((p.drop (i + 1)).take (n - 1)) = true then some (n + 1) else none)
  else none := by
 have hne : ¬ p.drop i = [] := by
  intro e
  have := congrArg List.length e
  simp at this
  omega
 have e1 : (1 < (p.drop i).length) = (i + 1 < p.length) := by rw [List.length_drop]; exact propext ⟨fun h => by omega, fun h => by omega⟩
 conv => lhs; unfold atomF
 rw [if_neg hne]
 simp only [drop_getD, List.drop_drop, Nat.add_zero, e1]
theorem atomF_nil {r : List Nat → Bool} {p : List Nat} {i : Nat} (h : p.length ≤ i) : atomF r (p.drop i) = none := by
 rw [List.drop_eq_nil_of_le h]
 rfl
theorem atomF_len {r : List Nat → Bool} {l : List Nat} {n : Nat} (h : atomF r l = some n) : 0 < n ∧ n ≤ l.length := by
 unfold atomF at h
 by_cases h0 : l = []
 ·rw [if_pos h0] at h; exact absurd h (by simp)
 rw [if_neg h0] at h
 have hp : 0 < l.length := List.length_pos_iff.2 h0
 split at h
 ·have := Option.some.inj h; omega
 split at h
 ·rename_i g; have := Option.some.inj h; omega
 split at h
 ·obtain ⟨m, hm, rfl⟩ := Option.map_eq_some_iff.1 h
  have := classL_len hm
  rw [List.length_drop] at this
  omega
 split at h
 ·cases e : cloF 100 0 l with
  | none => rw [e] at h; exact absurd h (by simp)
  | some q =>
   rw [e] at h
   have := cloF_len e
   simp only at h
   split at h
   ·have := Option.some.inj h; omega
   ·exact absurd h (by simp)
 ·exact absurd h (by simp)
theorem atom_some {r : List Nat → Bool} {p : List Nat} {i : Nat} (h : ¬ clsE i (atomF r (p.drop i)) = 0) : ∃ n, atomF r (p.drop i) = some n ∧ 0 < n ∧ i + n ≤ p.length ∧ clsE i (atomF r (p.drop i)) = i + n := by
 cases e : atomF r (p.drop i) with
 | none => rw [e] at h; exact absurd rfl h
 | some n =>
  have := atomF_len e
  rw [List.length_drop] at this
  exact ⟨n, rfl, this.1, by omega, rfl⟩
theorem atom_none {r : List Nat → Bool} {p : List Nat} {i : Nat} (h : clsE i (atomF r (p.drop i)) = 0) : atomF r (p.drop i) = none := by
 cases e : atomF r (p.drop i) with
 | none => rfl
 | some n =>
  have := atomF_len e
  rw [e] at h
  exact absurd h (by show ¬ i + n = 0; omega)
def cutF (r : List Nat → Bool) : Nat → List Nat → List Nat → Option (List (List Nat))
 | 0, _, _ => none
 | k + 1, cur, l =>
  if l = [] then some [cur]
  else if l.getD 0 0 = 124 then (cutF r k [] (l.drop 1)).map (cur :: ·)
  else match atomF r l with
   | none => none
   | some n =>
    if n < l.length ∧ (l.getD n 0 = 42 ∨ l.getD n 0 = 43 ∨ l.getD n 0 = 63) then cutF r k (cur ++ l.take (n + 1)) (l.drop (n + 1))
    else cutF r k (cur ++ l.take n) (l.drop n)
theorem cutF_at {r : List Nat → Bool} {p cur : List Nat} {a k : Nat} (h : a < p.length) : cutF r (k + 1) cur (p.drop a) =
  if p.getD a 0 = 124 then (cutF r k [] (p.drop (a + 1))).map (cur :: ·)
  else match atomF r (p.drop a) with
   | none => none
   | some n =>
    if a + n < p.length ∧ (p.getD (a + n) 0 = 42 ∨ p.getD (a + n) 0 = 43 ∨ p.getD (a + n) 0 = 63) then cutF r k (cur ++ (p.drop a).take (n + 1)) (p.drop (a + (n + 1)))
    else cutF r k (cur ++ (p.drop a).take n) (p.drop (a + n)) := by
 have hne : ¬ p.drop a = [] := by
  intro e
  have := congrArg List.length e
  simp at this
  omega
 have e1 : ∀ n, (n < (p.drop a).length) = (a + n < p.length) := fun n => by rw [List.length_drop]; exact propext ⟨fun h => by omega, fun h => by omega⟩
 conv => lhs; unfold cutF
 rw [if_neg hne]
 simp only [drop_getD, List.drop_drop, Nat.add_zero, e1]
theorem cutF_nil {r : List Nat → Bool} {p cur : List Nat} {a k : Nat} (h : p.length ≤ a) : cutF r (k + 1) cur (p.drop a) = some [cur] := by
 rw [List.drop_eq_nil_of_le h]
 rfl
theorem seg_app {p : List Nat} {fr a m : Nat} (h : fr ≤ a) : (p.drop fr).take (a - fr) ++ (p.drop a).take m = (p.drop fr).take (a + m - fr) := by
 have e : a + m - fr = (a - fr) + m := by omega
 rw [e, List.take_add, List.drop_drop, show fr + (a - fr) = a from by omega]
theorem cur_end {p : List Nat} {fr a : Nat} (h : p.length ≤ a) : (p.drop fr).take (a - fr) = p.drop fr := List.take_of_length_le (by rw [List.length_drop]; omega)
def cutP (r : List Nat → Bool) (p : List Nat) (v : AV) (D : HSt) : Prop :=
 (cutF r 100 [] p = none ∧ v = .tuple [.nils, .bool false] ∧ D = []) ∨
 ∃ L b ex, cutF r 100 [] p = some L ∧ v = .tuple [.slice b 0 L.length 1, .bool true] ∧ D = [⟨b, ⟨1, ex, L.map AV.str⟩, true⟩]
theorem cut_no {r : List Nat → Bool} {p : List Nat} (h : cutF r 100 [] p = none) : cutP r p (oneOf [.nils, .bool false]) [] := .inl ⟨h, rfl, rfl⟩
theorem cut_yes {r : List Nat → Bool} {p : List Nat} {L : List (List Nat)} {b n : Nat} {ex : Bool} {cs : List AV} (h : cutF r 100 [] p = some L) (hn : n = L.length) (hc : cs = L.map AV.str) : cutP r p (oneOf [.slice b 0 n 1, .bool true]) [⟨b, ⟨1, ex, cs⟩, true⟩] := by
 subst hn hc
 exact .inr ⟨L, b, ex, h, rfl, rfl⟩
theorem cut_val {r : List Nat → Bool} {p : List Nat} {v : AV} {D : HSt} (h : cutP r p v D) : ∃ vc, v = .tuple [vc, .bool (cutF r 100 [] p).isSome] := by
 rcases h with ⟨h1, h2, _⟩ | ⟨L, b, ex, h1, h2, _⟩
 ·exact ⟨_, by rw [h1]; exact h2⟩
 ·exact ⟨_, by rw [h1]; exact h2⟩
def rightF : Nat → List Nat → Bool
 | 0, _ => false
 | d + 1, p => (cutF (rightF d) 100 [] p).isSome
theorem atm_ret {r : List Nat → Bool} {p : List Nat} {i a : Nat} (h : clsE i (atomF r (p.drop i)) = a) : oneOf [AV.int .i64 ((a : Nat) : Int)] = .int .i64 ((clsE i (atomF r (p.drop i)) : Nat) : Int) := by rw [h]; rfl
theorem atom_spec (p : List Nat) (hs : Bytes p) (hl : p.length ≤ 64) (i : Nat) (r : List Nat → Bool) (d : Nat) (HR : ∀ q : List Nat, Bytes q → q.length ≤ 64 → q.length < d → Spec tab 162 [.str q] [] [] (Val (.bool (r q)))) (hd : p.length ≤ d) : Spec tab 250 [.str p, .int .i64 ((i : Nat) : Int)] [] [] (Val (.int .i64 ((clsE i (atomF r (p.drop i)) : Nat) : Int))) := by
 refine Spec.en (ftg 250 Tryz.func250) rfl (m := 81) rfl (rs := [.tmp 4]) rfl (st := [(0, .str p), (1, .int .i64 ((i : Nat) : Int))]) rfl rfl (fun _ => rfl) (fun E => ?_)
 refine W.seq ?_
 refine W.reg ?_
 refine WO.q (Q.assign (oc (v := .int .i64 ((0 : Nat) : Int)) rfl)) rfl ?_
 refine WO.nil ?_
 refine End.K ?_
 refine W.seq ?_
 refine W.block ?_
 refine W.seq ?_
 refine W.reg ?_
 refine WO.q (Q.move rfl) rfl ?_
 refine WO.q (Q.move rfl) rfl ?_
 refine WO.q (Q.len ud9 rfl rfl) rfl ?_
 refine WO.q (Q.bin rfl rfl rfl (bv_geq le_nat)) rfl ?_
 refine WO.q (Q.assign rfl) rfl ?_
 refine WO.nil ?_
 refine End.K ?_
 refine W.cD rfl (fun hc8 => ?_) (fun hc8 => ?_)
 ·skip -- T
  refine W.seq ?_
  refine W.reg ?_
  refine WO.q (Q.assign (oc (v := .int .i64 ((0 : Nat) : Int)) rfl)) rfl ?_
  refine WO.nil ?_
  refine End.K ?_
  refine W.ret ?_
  refine End.Br (End.Kr (End.rV (ResL.tmp rfl ResL.nil) ?_))
  first | (exfalso; omega; done) | exact atm_ret (by rw [atomF_nil (by omega)]; rfl)
 ·skip -- F
  have hi : i < p.length := (by omega)
  refine W.seq ?_
  refine W.reg ?_
  refine WO.q (Q.move rfl) rfl ?_
  refine WO.q (Q.move rfl) rfl ?_
  refine WO.indexB hs ud9 rfl rfl zo rfl (fun c16 hd16 hb16 => ?_)
  refine WO.q (Q.bin rfl (oc (v := .int .u8 ((46 : Nat) : Int)) rfl) rfl (bv_eql eq_nat)) rfl ?_
  refine WO.q (Q.move rfl) rfl ?_
  refine WO.sD (d := 18) rfl (fun hc18 => ?_) (fun hc18 => ?_)
  ·skip -- Ft
   refine WO.gF rfl rfl (.inl rfl) rfl ?_
   refine WO.gF rfl rfl (.inl rfl) rfl ?_
   refine WO.gF rfl rfl (.inl rfl) rfl ?_
   refine WO.gF rfl rfl (.inl rfl) rfl ?_
   refine WO.q (Q.pT rfl rfl) rfl ?_
   refine WO.q (Q.assign rfl) rfl ?_
   refine WO.nil ?_
   refine End.K ?_
   refine W.sub (SubS.cons (k := 13) rfl (SubS.cons (k := 0) rfl (SubS.cons (k := 1) rfl (SubS.nil _)))) ?_
   refine W.condT rfl ?_
   refine W.seq ?_
   refine W.reg ?_
   refine WO.q (Q.move rfl) rfl ?_
   refine WO.q (Q.bin rfl (oc (v := .int .i64 ((1 : Nat) : Int)) rfl) rfl (bv_add (wna zo))) rfl ?_
   refine WO.q (Q.assign rfl) rfl ?_
   refine WO.nil ?_
   refine End.K ?_
   refine W.ret ?_
   refine End.Br (End.Kr (End.rV (ResL.tmp rfl ResL.nil) ?_))
   first | (exfalso; omega; done) | exact atm_ret (by rw [atomF_at hi, if_pos (.inl (by omega))]; rfl)
  ·skip -- Ff
   refine WO.gT rfl rfl ?_
   refine WO.q (Q.move rfl) rfl ?_
   refine WO.gT rfl rfl ?_
   refine WO.q (Q.move rfl) rfl ?_
   refine WO.gT rfl rfl ?_
   refine WO.indexB hs ud9 rfl rfl zo rfl (fun c21 hd21 hb21 => ?_)
   refine WO.gT rfl rfl ?_
   refine WO.cV rfl (oLc rfl oz) rfl (plain_spec _ (by assumption)) SubR.nil rfl ?_
   refine WO.q (Q.pF rfl rfl) rfl ?_
   refine WO.q (Q.assign rfl) rfl ?_
   refine WO.nil ?_
   refine End.K ?_
   refine W.sub (SubS.cons (k := 13) rfl (SubS.cons (k := 0) rfl (SubS.cons (k := 1) rfl (SubS.nil _)))) ?_
   refine W.condS rfl (fun hc13 => ?_) (fun hc13 => ?_)
   ·skip -- FfT
    refine W.seq ?_
    refine W.reg ?_
    refine WO.q (Q.move rfl) rfl ?_
    refine WO.q (Q.bin rfl (oc (v := .int .i64 ((1 : Nat) : Int)) rfl) rfl (bv_add (wna zo))) rfl ?_
    refine WO.q (Q.assign rfl) rfl ?_
    refine WO.nil ?_
    refine End.K ?_
    refine W.ret ?_
    refine End.Br (End.Kr (End.rV (ResL.tmp rfl ResL.nil) ?_))
    first | (exfalso; omega; done) | exact atm_ret (by rw [atomF_at hi, if_pos (.inr (by rw [← hd21]; exact hc13))]; rfl)
   ·skip -- FfF
    have hA : ¬ (p.getD i 0 = 46 ∨ plainB (p.getD i 0) = true) := (by rintro (g | g); omega; rw [← hd21, hc13] at g; cases g)
    refine W.seq ?_
    refine W.reg ?_
    refine WO.q (Q.move rfl) rfl ?_
    refine WO.q (Q.move rfl) rfl ?_
    refine WO.indexB hs ud9 rfl rfl zo rfl (fun c29 hd29 hb29 => ?_)
    refine WO.q (Q.bin rfl (oc (v := .int .u8 ((92 : Nat) : Int)) rfl) rfl (bv_eql eq_nat)) rfl ?_
    refine WO.q (Q.move rfl) rfl ?_
    refine WO.sD (d := 31) rfl (fun hc31 => ?_) (fun hc31 => ?_)
    ·skip -- FfFt
     refine WO.gT rfl rfl ?_
     refine WO.q (Q.move rfl) rfl ?_
     refine WO.gT rfl rfl ?_
     refine WO.q (Q.bin rfl (oc (v := .int .i64 ((1 : Nat) : Int)) rfl) rfl (bv_add (wna zo))) rfl ?_
     refine WO.gT rfl rfl ?_
     refine WO.q (Q.move rfl) rfl ?_
     refine WO.gT rfl rfl ?_
     refine WO.q (Q.len ud9 rfl rfl) rfl ?_
     refine WO.gT rfl rfl ?_
     refine WO.q (Q.bin rfl rfl rfl (bvl ltn)) rfl ?_
     refine WO.q (Q.pT rfl rfl) rfl ?_
     refine WO.q (Q.move rfl) rfl ?_
     refine WO.sD (d := 38) rfl (fun hc38 => ?_) (fun hc38 => ?_)
     ·skip -- FfFtt
      refine WO.gT rfl rfl ?_
      refine WO.q (Q.move rfl) rfl ?_
      refine WO.gT rfl rfl ?_
      refine WO.q (Q.move rfl) rfl ?_
      refine WO.gT rfl rfl ?_
      refine WO.q (Q.bin rfl (oc (v := .int .i64 ((1 : Nat) : Int)) rfl) rfl (bv_add (wna zo))) rfl ?_
      refine WO.gT rfl rfl ?_
      refine WO.indexB hs ud9 rfl rfl zo rfl (fun c42 hd42 hb42 => ?_)
      refine WO.gT rfl rfl ?_
      refine WO.cV rfl (oLc rfl oz) rfl (plain_spec _ (by assumption)) SubR.nil rfl ?_
      refine WO.gT rfl rfl ?_
      refine WO.q (Q.not rfl rfl) rfl ?_
      refine WO.q (Q.pT rfl rfl) rfl ?_
      refine WO.q (Q.assign rfl) rfl ?_
      refine WO.nil ?_
      refine End.K ?_
      refine W.sub (SubS.cons (k := 26) rfl (SubS.cons (k := 0) rfl (SubS.cons (k := 1) rfl (SubS.nil _)))) ?_
      refine W.condS rfl (fun hc26 => ?_) (fun hc26 => ?_)
      ·skip -- FfFttT
       refine W.seq ?_
       refine W.reg ?_
       refine WO.q (Q.move rfl) rfl ?_
       refine WO.q (Q.bin rfl (oc (v := .int .i64 ((2 : Nat) : Int)) rfl) rfl (bv_add (wna zo))) rfl ?_
       refine WO.q (Q.assign rfl) rfl ?_
       refine WO.nil ?_
       refine End.K ?_
       refine W.ret ?_
       refine End.Br (End.Kr (End.rV (ResL.tmp rfl ResL.nil) ?_))
       first | (exfalso; omega; done) | exact atm_ret (by rw [atomF_at hi, if_neg hA, if_pos ⟨by omega, by omega, by rw [← hd42]; simpa using hc26⟩]; rfl)
      ·skip -- FfFttF
       have hB : ¬ (p.getD i 0 = 92 ∧ i + 1 < p.length ∧ plainB (p.getD (i + 1) 0) = false) := (fun g => by have h := g.2.2; rw [← hd42] at h; simp [h] at hc26)
       refine W.seq ?_
       refine W.reg ?_
       refine WO.q (Q.move rfl) rfl ?_
       refine WO.q (Q.move rfl) rfl ?_
       refine WO.indexB hs ud9 rfl rfl zo rfl (fun c51 hd51 hb51 => ?_)
       refine WO.q (Q.bin rfl (oc (v := .int .u8 ((91 : Nat) : Int)) rfl) rfl (bv_eql eq_nat)) rfl ?_
       refine WO.q (Q.assign rfl) rfl ?_
       refine WO.nil ?_
       refine End.K ?_
       refine W.cD rfl (fun hc48 => ?_) (fun hc48 => ?_)
       ·skip -- FfFttFT
        refine W.seq ?_
        refine W.reg ?_
        refine WO.q (Q.move rfl) rfl ?_
        refine WO.q (Q.move rfl) rfl ?_
        refine WO.callE rfl (oLc rfl (oLc rfl (oLc (oc (v := .int .u8 ((0 : Nat) : Int)) rfl) oz))) rfl (class_spec _ hs (by omega) _ (by omega) _ (by omega)) SubR.nil rfl (fun v56 hP56 => ?_)
        obtain ⟨h56, rfl⟩ := hP56
        refine WO.q (Q.move rfl) rfl ?_
        refine WO.q (Q.extract rfl rfl) rfl ?_
        refine WO.q (Q.extract rfl rfl) rfl ?_
        refine WO.q (Q.assign rfl) rfl ?_
        refine WO.q (Q.assign rfl) rfl ?_
        refine WO.nil ?_
        refine End.K ?_
        refine W.sub (SubS.cons (k := 5) rfl (SubS.nil _)) ?_
        refine W.seq ?_
        refine W.reg ?_
        refine WO.q (Q.move rfl) rfl ?_
        refine WO.q (Q.assign rfl) rfl ?_
        refine WO.nil ?_
        refine End.K ?_
        refine W.ret ?_
        refine End.Br (End.Kr (End.rV (ResL.tmp rfl ResL.nil) ?_))
        first | (exfalso; omega; done) | exact atm_ret (by rw [atomF_at hi, if_neg hA, if_neg hB, if_pos (by omega), clsE_map]; rfl)
       ·skip -- FfFttFF
        refine W.seq ?_
        refine W.reg ?_
        refine WO.q (Q.move rfl) rfl ?_
        refine WO.q (Q.move rfl) rfl ?_
        refine WO.indexB hs ud9 rfl rfl zo rfl (fun c63 hd63 hb63 => ?_)
        refine WO.q (Q.bin rfl (oc (v := .int .u8 ((40 : Nat) : Int)) rfl) rfl (bv_eql eq_nat)) rfl ?_
        refine WO.q (Q.assign rfl) rfl ?_
        refine WO.nil ?_
        refine End.K ?_
        refine W.cD rfl (fun hc60 => ?_) (fun hc60 => ?_)
        ·skip -- FfFttFFT
         refine W.seq ?_
         refine W.reg ?_
         refine WO.q (Q.move rfl) rfl ?_
         refine WO.q (Q.move rfl) rfl ?_
         refine WO.callE rfl (oLc rfl (oLc rfl oz)) rfl (closing_e _ hs (by omega) _ (by omega) (by omega)) SubR.nil rfl (fun v67 hP67 => ?_)
         obtain ⟨x, rfl, hx1, hx2⟩ := hP67
         refine WO.q (Q.assign rfl) rfl ?_
         refine WO.nil ?_
         refine End.K ?_
         refine W.sub (SubS.cons (k := 7) rfl (SubS.cons (k := 0) rfl (SubS.cons (k := 1) rfl (SubS.nil _)))) ?_
         refine W.seq ?_
         refine W.seq ?_
         refine W.reg ?_
         refine WO.q (Q.move rfl) rfl ?_
         refine WO.q (Q.bin rfl (oc (v := .int .i64 ((0 : Nat) : Int)) rfl) rfl (bvl (ltA_eq _ _))) rfl ?_
         refine WO.q (Q.move rfl) rfl ?_
         refine WO.sD (d := 70) rfl (fun hc70 => ?_) (fun hc70 => ?_)
         ·skip -- FfFttFFTt
          refine WO.gF rfl rfl (.inl rfl) rfl ?_
          refine WO.gF rfl rfl (.inl rfl) rfl ?_
          refine WO.gF rfl rfl (.inl rfl) rfl ?_
          refine WO.gF rfl rfl (.inl rfl) rfl ?_
          refine WO.gF rfl rfl (.inl rfl) rfl ?_
          refine WO.gF rfl rfl (.inl rfl) rfl ?_
          refine WO.gF rfl rfl (.inl rfl) rfl ?_
          refine WO.q (Q.pT rfl rfl) rfl ?_
          refine WO.nil ?_
          refine End.K ?_
          refine W.condT rfl ?_
          refine W.seq ?_
          refine W.reg ?_
          refine WO.q (Q.assign (oc (v := .int .i64 ((0 : Nat) : Int)) rfl)) rfl ?_
          refine WO.nil ?_
          refine End.K ?_
          refine W.sub (SubS.cons (k := 4) rfl (SubS.nil _)) ?_
          refine W.ret ?_
          refine End.Kr (End.Br (End.Kr (End.rV (ResL.tmp rfl ResL.nil) ?_)))
          first | (exfalso; omega; done) | exact atm_ret (by rw [atomF_at hi, if_neg hA, if_neg hB, if_neg (by omega), if_pos (by omega), hx1 (by omega)]; rfl)
         ·skip -- FfFttFFTf
          obtain ⟨n, hn, rfl⟩ := hx2 (by omega)
          have hnl := cloF_len hn
          have hn0 := clo_pos hn (by rw [drop_getD]; show p.getD i 0 = 40; omega)
          simp only [List.length_drop] at hnl
          have hin : i + n - (i + 1) = n - 1 := (by omega)
          refine WO.gT rfl rfl ?_
          refine WO.q (Q.move rfl) rfl ?_
          refine WO.gT rfl rfl ?_
          refine WO.q (Q.move rfl) rfl ?_
          refine WO.gT rfl rfl ?_
          refine WO.q (Q.bin rfl (oc (v := .int .i64 ((1 : Nat) : Int)) rfl) rfl (bv_add (wna zo))) rfl ?_
          refine WO.gT rfl rfl ?_
          refine WO.q (Q.move rfl) rfl ?_
          refine WO.gT rfl rfl ?_
          refine WO.q (Q.sliceS ud9 rfl rfl zo rfl) rfl ?_
          refine WO.gT rfl rfl ?_
          refine WO.cV rfl (oLc rfl oz) rfl (HR _ (Bytes.take (Bytes.drop hs _) _) zo zo) SubR.nil rfl ?_
          refine WO.gT rfl rfl ?_
          refine WO.q (Q.not rfl rfl) rfl ?_
          refine WO.q (Q.pF rfl rfl) rfl ?_
          refine WO.nil ?_
          refine End.K ?_
          refine W.condS rfl (fun hc78 => ?_) (fun hc78 => ?_)
          ·skip -- FfFttFFTfT
           refine W.seq ?_
           refine W.reg ?_
           refine WO.q (Q.assign (oc (v := .int .i64 ((0 : Nat) : Int)) rfl)) rfl ?_
           refine WO.nil ?_
           refine End.K ?_
           refine W.sub (SubS.cons (k := 4) rfl (SubS.nil _)) ?_
           refine W.ret ?_
           refine End.Kr (End.Br (End.Kr (End.rV (ResL.tmp rfl ResL.nil) ?_)))
           first | (exfalso; omega; done) | exact atm_ret (by rw [atomF_at hi, if_neg hA, if_neg hB, if_neg (by omega), if_pos (by omega), hn]; show clsE i (if r ((p.drop (i + 1)).take (n - 1)) = true then some (n + 1) else none) = _; rw [← hin, if_neg (by simpa using hc78)]; rfl)
          ·skip -- FfFttFFTfF
           refine W.skip ?_
           refine End.K ?_
           refine W.seq ?_
           refine W.reg ?_
           refine WO.q (Q.move rfl) rfl ?_
           refine WO.q (Q.bin rfl (oc (v := .int .i64 ((1 : Nat) : Int)) rfl) rfl (bv_add (wna zo))) rfl ?_
           refine WO.q (Q.assign rfl) rfl ?_
           refine WO.nil ?_
           refine End.K ?_
           refine W.sub (SubS.cons (k := 4) rfl (SubS.nil _)) ?_
           refine W.ret ?_
           refine End.Br (End.Kr (End.rV (ResL.tmp rfl ResL.nil) ?_))
           first | (exfalso; omega; done) | exact atm_ret (by rw [atomF_at hi, if_neg hA, if_neg hB, if_neg (by omega), if_pos (by omega), hn]; show clsE i (if r ((p.drop (i + 1)).take (n - 1)) = true then some (n + 1) else none) = _; rw [← hin, if_pos (by simpa using hc78)]; rfl)
        ·skip -- FfFttFFF
         refine W.skip ?_
         refine End.KB (End.K ?_)
         refine W.seq ?_
         refine W.reg ?_
         refine WO.q (Q.assign (oc (v := .int .i64 ((0 : Nat) : Int)) rfl)) rfl ?_
         refine WO.nil ?_
         refine End.K ?_
         refine W.ret ?_
         refine End.rV (ResL.tmp rfl ResL.nil) ?_
         first | (exfalso; omega; done) | exact atm_ret (by rw [atomF_at hi, if_neg hA, if_neg hB, if_neg (by omega), if_neg (by omega)]; rfl)
     ·skip -- FfFtf
      have hB : ¬ (p.getD i 0 = 92 ∧ i + 1 < p.length ∧ plainB (p.getD (i + 1) 0) = false) := (by omega)
      refine WO.gF rfl rfl (.inl rfl) rfl ?_
      refine WO.gF rfl rfl (.inl rfl) rfl ?_
      refine WO.gF rfl rfl (.inl rfl) rfl ?_
      refine WO.gF rfl rfl (.inl rfl) rfl ?_
      refine WO.gF rfl rfl (.inl rfl) rfl ?_
      refine WO.gF rfl rfl (.inl rfl) rfl ?_
      refine WO.q (Q.pF rfl rfl) rfl ?_
      refine WO.q (Q.assign rfl) rfl ?_
      refine WO.nil ?_
      refine End.K ?_
      refine W.sub (SubS.cons (k := 26) rfl (SubS.cons (k := 0) rfl (SubS.cons (k := 1) rfl (SubS.nil _)))) ?_
      refine W.condF rfl ?_
      refine W.seq ?_
      refine W.reg ?_
      refine WO.q (Q.move rfl) rfl ?_
      refine WO.q (Q.move rfl) rfl ?_
      refine WO.indexB hs ud9 rfl rfl zo rfl (fun c51 hd51 hb51 => ?_)
      refine WO.q (Q.bin rfl (oc (v := .int .u8 ((91 : Nat) : Int)) rfl) rfl (bv_eql eq_nat)) rfl ?_
      refine WO.q (Q.assign rfl) rfl ?_
      refine WO.nil ?_
      refine End.K ?_
      refine W.cD rfl (fun hc48 => ?_) (fun hc48 => ?_)
      ·skip -- FfFtfT
       refine W.seq ?_
       refine W.reg ?_
       refine WO.q (Q.move rfl) rfl ?_
       refine WO.q (Q.move rfl) rfl ?_
       refine WO.callE rfl (oLc rfl (oLc rfl (oLc (oc (v := .int .u8 ((0 : Nat) : Int)) rfl) oz))) rfl (class_spec _ hs (by omega) _ (by omega) _ (by omega)) SubR.nil rfl (fun v56 hP56 => ?_)
       obtain ⟨h56, rfl⟩ := hP56
       refine WO.q (Q.move rfl) rfl ?_
       refine WO.q (Q.extract rfl rfl) rfl ?_
       refine WO.q (Q.extract rfl rfl) rfl ?_
       refine WO.q (Q.assign rfl) rfl ?_
       refine WO.q (Q.assign rfl) rfl ?_
       refine WO.nil ?_
       refine End.K ?_
       refine W.sub (SubS.cons (k := 5) rfl (SubS.nil _)) ?_
       refine W.seq ?_
       refine W.reg ?_
       refine WO.q (Q.move rfl) rfl ?_
       refine WO.q (Q.assign rfl) rfl ?_
       refine WO.nil ?_
       refine End.K ?_
       refine W.ret ?_
       refine End.Br (End.Kr (End.rV (ResL.tmp rfl ResL.nil) ?_))
       first | (exfalso; omega; done) | exact atm_ret (by rw [atomF_at hi, if_neg hA, if_neg hB, if_pos (by omega), clsE_map]; rfl)
      ·skip -- FfFtfF
       refine W.seq ?_
       refine W.reg ?_
       refine WO.q (Q.move rfl) rfl ?_
       refine WO.q (Q.move rfl) rfl ?_
       refine WO.indexB hs ud9 rfl rfl zo rfl (fun c63 hd63 hb63 => ?_)
       refine WO.q (Q.bin rfl (oc (v := .int .u8 ((40 : Nat) : Int)) rfl) rfl (bv_eql eq_nat)) rfl ?_
       refine WO.q (Q.assign rfl) rfl ?_
       refine WO.nil ?_
       refine End.K ?_
       refine W.cD rfl (fun hc60 => ?_) (fun hc60 => ?_)
       ·skip -- FfFtfFT
        refine W.seq ?_
        refine W.reg ?_
        refine WO.q (Q.move rfl) rfl ?_
        refine WO.q (Q.move rfl) rfl ?_
        refine WO.callE rfl (oLc rfl (oLc rfl oz)) rfl (closing_e _ hs (by omega) _ (by omega) (by omega)) SubR.nil rfl (fun v67 hP67 => ?_)
        obtain ⟨x, rfl, hx1, hx2⟩ := hP67
        refine WO.q (Q.assign rfl) rfl ?_
        refine WO.nil ?_
        refine End.K ?_
        refine W.sub (SubS.cons (k := 7) rfl (SubS.cons (k := 0) rfl (SubS.cons (k := 1) rfl (SubS.nil _)))) ?_
        refine W.seq ?_
        refine W.seq ?_
        refine W.reg ?_
        refine WO.q (Q.move rfl) rfl ?_
        refine WO.q (Q.bin rfl (oc (v := .int .i64 ((0 : Nat) : Int)) rfl) rfl (bvl (ltA_eq _ _))) rfl ?_
        refine WO.q (Q.move rfl) rfl ?_
        refine WO.sD (d := 70) rfl (fun hc70 => ?_) (fun hc70 => ?_)
        ·skip -- FfFtfFTt
         refine WO.gF rfl rfl (.inl rfl) rfl ?_
         refine WO.gF rfl rfl (.inl rfl) rfl ?_
         refine WO.gF rfl rfl (.inl rfl) rfl ?_
         refine WO.gF rfl rfl (.inl rfl) rfl ?_
         refine WO.gF rfl rfl (.inl rfl) rfl ?_
         refine WO.gF rfl rfl (.inl rfl) rfl ?_
         refine WO.gF rfl rfl (.inl rfl) rfl ?_
         refine WO.q (Q.pT rfl rfl) rfl ?_
         refine WO.nil ?_
         refine End.K ?_
         refine W.condT rfl ?_
         refine W.seq ?_
         refine W.reg ?_
         refine WO.q (Q.assign (oc (v := .int .i64 ((0 : Nat) : Int)) rfl)) rfl ?_
         refine WO.nil ?_
         refine End.K ?_
         refine W.sub (SubS.cons (k := 4) rfl (SubS.nil _)) ?_
         refine W.ret ?_
         refine End.Kr (End.Br (End.Kr (End.rV (ResL.tmp rfl ResL.nil) ?_)))
         first | (exfalso; omega; done) | exact atm_ret (by rw [atomF_at hi, if_neg hA, if_neg hB, if_neg (by omega), if_pos (by omega), hx1 (by omega)]; rfl)
        ·skip -- FfFtfFTf
         obtain ⟨n, hn, rfl⟩ := hx2 (by omega)
         have hnl := cloF_len hn
         have hn0 := clo_pos hn (by rw [drop_getD]; show p.getD i 0 = 40; omega)
         simp only [List.length_drop] at hnl
         have hin : i + n - (i + 1) = n - 1 := (by omega)
         refine WO.gT rfl rfl ?_
         refine WO.q (Q.move rfl) rfl ?_
         refine WO.gT rfl rfl ?_
         refine WO.q (Q.move rfl) rfl ?_
         refine WO.gT rfl rfl ?_
         refine WO.q (Q.bin rfl (oc (v := .int .i64 ((1 : Nat) : Int)) rfl) rfl (bv_add (wna zo))) rfl ?_
         refine WO.gT rfl rfl ?_
         refine WO.q (Q.move rfl) rfl ?_
         refine WO.gT rfl rfl ?_
         refine WO.q (Q.sliceS ud9 rfl rfl zo rfl) rfl ?_
         refine WO.gT rfl rfl ?_
         refine WO.cV rfl (oLc rfl oz) rfl (HR _ (Bytes.take (Bytes.drop hs _) _) zo zo) SubR.nil rfl ?_
         refine WO.gT rfl rfl ?_
         refine WO.q (Q.not rfl rfl) rfl ?_
         refine WO.q (Q.pF rfl rfl) rfl ?_
         refine WO.nil ?_
         refine End.K ?_
         refine W.condS rfl (fun hc78 => ?_) (fun hc78 => ?_)
         ·skip -- FfFtfFTfT
          refine W.seq ?_
          refine W.reg ?_
          refine WO.q (Q.assign (oc (v := .int .i64 ((0 : Nat) : Int)) rfl)) rfl ?_
          refine WO.nil ?_
          refine End.K ?_
          refine W.sub (SubS.cons (k := 4) rfl (SubS.nil _)) ?_
          refine W.ret ?_
          refine End.Kr (End.Br (End.Kr (End.rV (ResL.tmp rfl ResL.nil) ?_)))
          first | (exfalso; omega; done) | exact atm_ret (by rw [atomF_at hi, if_neg hA, if_neg hB, if_neg (by omega), if_pos (by omega), hn]; show clsE i (if r ((p.drop (i + 1)).take (n - 1)) = true then some (n + 1) else none) = _; rw [← hin, if_neg (by simpa using hc78)]; rfl)
         ·skip -- FfFtfFTfF
          refine W.skip ?_
          refine End.K ?_
          refine W.seq ?_
          refine W.reg ?_
          refine WO.q (Q.move rfl) rfl ?_
          refine WO.q (Q.bin rfl (oc (v := .int .i64 ((1 : Nat) : Int)) rfl) rfl (bv_add (wna zo))) rfl ?_
          refine WO.q (Q.assign rfl) rfl ?_
          refine WO.nil ?_
          refine End.K ?_
          refine W.sub (SubS.cons (k := 4) rfl (SubS.nil _)) ?_
          refine W.ret ?_
          refine End.Br (End.Kr (End.rV (ResL.tmp rfl ResL.nil) ?_))
          first | (exfalso; omega; done) | exact atm_ret (by rw [atomF_at hi, if_neg hA, if_neg hB, if_neg (by omega), if_pos (by omega), hn]; show clsE i (if r ((p.drop (i + 1)).take (n - 1)) = true then some (n + 1) else none) = _; rw [← hin, if_pos (by simpa using hc78)]; rfl)
       ·skip -- FfFtfFF
        refine W.skip ?_
        refine End.KB (End.K ?_)
        refine W.seq ?_
        refine W.reg ?_
        refine WO.q (Q.assign (oc (v := .int .i64 ((0 : Nat) : Int)) rfl)) rfl ?_
        refine WO.nil ?_
        refine End.K ?_
        refine W.ret ?_
        refine End.rV (ResL.tmp rfl ResL.nil) ?_
        first | (exfalso; omega; done) | exact atm_ret (by rw [atomF_at hi, if_neg hA, if_neg hB, if_neg (by omega), if_neg (by omega)]; rfl)
    ·skip -- FfFf
     have hB : ¬ (p.getD i 0 = 92 ∧ i + 1 < p.length ∧ plainB (p.getD (i + 1) 0) = false) := (by omega)
     refine WO.gF rfl rfl (.inl rfl) rfl ?_
     refine WO.gF rfl rfl (.inl rfl) rfl ?_
     refine WO.gF rfl rfl (.inl rfl) rfl ?_
     refine WO.gF rfl rfl (.inl rfl) rfl ?_
     refine WO.gF rfl rfl (.inl rfl) rfl ?_
     refine WO.q (Q.pF rfl rfl) rfl ?_
     refine WO.q (Q.move rfl) rfl ?_
     refine WO.gF rfl rfl (.inl rfl) rfl ?_
     refine WO.gF rfl rfl (.inl rfl) rfl ?_
     refine WO.gF rfl rfl (.inl rfl) rfl ?_
     refine WO.gF rfl rfl (.inl rfl) rfl ?_
     refine WO.gF rfl rfl (.inl rfl) rfl ?_
     refine WO.gF rfl rfl (.inl rfl) rfl ?_
     refine WO.q (Q.pF rfl rfl) rfl ?_
     refine WO.q (Q.assign rfl) rfl ?_
     refine WO.nil ?_
     refine End.K ?_
     refine W.sub (SubS.cons (k := 26) rfl (SubS.cons (k := 0) rfl (SubS.cons (k := 1) rfl (SubS.nil _)))) ?_
     refine W.condF rfl ?_
     refine W.seq ?_
     refine W.reg ?_
     refine WO.q (Q.move rfl) rfl ?_
     refine WO.q (Q.move rfl) rfl ?_
     refine WO.indexB hs ud9 rfl rfl zo rfl (fun c51 hd51 hb51 => ?_)
     refine WO.q (Q.bin rfl (oc (v := .int .u8 ((91 : Nat) : Int)) rfl) rfl (bv_eql eq_nat)) rfl ?_
     refine WO.q (Q.assign rfl) rfl ?_
     refine WO.nil ?_
     refine End.K ?_
     refine W.cD rfl (fun hc48 => ?_) (fun hc48 => ?_)
     ·skip -- FfFfT
      refine W.seq ?_
      refine W.reg ?_
      refine WO.q (Q.move rfl) rfl ?_
      refine WO.q (Q.move rfl) rfl ?_
      refine WO.callE rfl (oLc rfl (oLc rfl (oLc (oc (v := .int .u8 ((0 : Nat) : Int)) rfl) oz))) rfl (class_spec _ hs (by omega) _ (by omega) _ (by omega)) SubR.nil rfl (fun v56 hP56 => ?_)
      obtain ⟨h56, rfl⟩ := hP56
      refine WO.q (Q.move rfl) rfl ?_
      refine WO.q (Q.extract rfl rfl) rfl ?_
      refine WO.q (Q.extract rfl rfl) rfl ?_
      refine WO.q (Q.assign rfl) rfl ?_
      refine WO.q (Q.assign rfl) rfl ?_
      refine WO.nil ?_
      refine End.K ?_
      refine W.sub (SubS.cons (k := 5) rfl (SubS.nil _)) ?_
      refine W.seq ?_
      refine W.reg ?_
      refine WO.q (Q.move rfl) rfl ?_
      refine WO.q (Q.assign rfl) rfl ?_
      refine WO.nil ?_
      refine End.K ?_
      refine W.ret ?_
      refine End.Br (End.Kr (End.rV (ResL.tmp rfl ResL.nil) ?_))
      first | (exfalso; omega; done) | exact atm_ret (by rw [atomF_at hi, if_neg hA, if_neg hB, if_pos (by omega), clsE_map]; rfl)
     ·skip -- FfFfF
      refine W.seq ?_
      refine W.reg ?_
      refine WO.q (Q.move rfl) rfl ?_
      refine WO.q (Q.move rfl) rfl ?_
      refine WO.indexB hs ud9 rfl rfl zo rfl (fun c63 hd63 hb63 => ?_)
      refine WO.q (Q.bin rfl (oc (v := .int .u8 ((40 : Nat) : Int)) rfl) rfl (bv_eql eq_nat)) rfl ?_
      refine WO.q (Q.assign rfl) rfl ?_
      refine WO.nil ?_
      refine End.K ?_
      refine W.cD rfl (fun hc60 => ?_) (fun hc60 => ?_)
      ·skip -- FfFfFT
       refine W.seq ?_
       refine W.reg ?_
       refine WO.q (Q.move rfl) rfl ?_
       refine WO.q (Q.move rfl) rfl ?_
       refine WO.callE rfl (oLc rfl (oLc rfl oz)) rfl (closing_e _ hs (by omega) _ (by omega) (by omega)) SubR.nil rfl (fun v67 hP67 => ?_)
       obtain ⟨x, rfl, hx1, hx2⟩ := hP67
       refine WO.q (Q.assign rfl) rfl ?_
       refine WO.nil ?_
       refine End.K ?_
       refine W.sub (SubS.cons (k := 7) rfl (SubS.cons (k := 0) rfl (SubS.cons (k := 1) rfl (SubS.nil _)))) ?_
       refine W.seq ?_
       refine W.seq ?_
       refine W.reg ?_
       refine WO.q (Q.move rfl) rfl ?_
       refine WO.q (Q.bin rfl (oc (v := .int .i64 ((0 : Nat) : Int)) rfl) rfl (bvl (ltA_eq _ _))) rfl ?_
       refine WO.q (Q.move rfl) rfl ?_
       refine WO.sD (d := 70) rfl (fun hc70 => ?_) (fun hc70 => ?_)
       ·skip -- FfFfFTt
        refine WO.gF rfl rfl (.inl rfl) rfl ?_
        refine WO.gF rfl rfl (.inl rfl) rfl ?_
        refine WO.gF rfl rfl (.inl rfl) rfl ?_
        refine WO.gF rfl rfl (.inl rfl) rfl ?_
        refine WO.gF rfl rfl (.inl rfl) rfl ?_
        refine WO.gF rfl rfl (.inl rfl) rfl ?_
        refine WO.gF rfl rfl (.inl rfl) rfl ?_
        refine WO.q (Q.pT rfl rfl) rfl ?_
        refine WO.nil ?_
        refine End.K ?_
        refine W.condT rfl ?_
        refine W.seq ?_
        refine W.reg ?_
        refine WO.q (Q.assign (oc (v := .int .i64 ((0 : Nat) : Int)) rfl)) rfl ?_
        refine WO.nil ?_
        refine End.K ?_
        refine W.sub (SubS.cons (k := 4) rfl (SubS.nil _)) ?_
        refine W.ret ?_
        refine End.Kr (End.Br (End.Kr (End.rV (ResL.tmp rfl ResL.nil) ?_)))
        first | (exfalso; omega; done) | exact atm_ret (by rw [atomF_at hi, if_neg hA, if_neg hB, if_neg (by omega), if_pos (by omega), hx1 (by omega)]; rfl)
       ·skip -- FfFfFTf
        obtain ⟨n, hn, rfl⟩ := hx2 (by omega)
        have hnl := cloF_len hn
        have hn0 := clo_pos hn (by rw [drop_getD]; show p.getD i 0 = 40; omega)
        simp only [List.length_drop] at hnl
        have hin : i + n - (i + 1) = n - 1 := (by omega)
        refine WO.gT rfl rfl ?_
        refine WO.q (Q.move rfl) rfl ?_
        refine WO.gT rfl rfl ?_
        refine WO.q (Q.move rfl) rfl ?_
        refine WO.gT rfl rfl ?_
        refine WO.q (Q.bin rfl (oc (v := .int .i64 ((1 : Nat) : Int)) rfl) rfl (bv_add (wna zo))) rfl ?_
        refine WO.gT rfl rfl ?_
        refine WO.q (Q.move rfl) rfl ?_
        refine WO.gT rfl rfl ?_
        refine WO.q (Q.sliceS ud9 rfl rfl zo rfl) rfl ?_
        refine WO.gT rfl rfl ?_
        refine WO.cV rfl (oLc rfl oz) rfl (HR _ (Bytes.take (Bytes.drop hs _) _) zo zo) SubR.nil rfl ?_
        refine WO.gT rfl rfl ?_
        refine WO.q (Q.not rfl rfl) rfl ?_
        refine WO.q (Q.pF rfl rfl) rfl ?_
        refine WO.nil ?_
        refine End.K ?_
        refine W.condS rfl (fun hc78 => ?_) (fun hc78 => ?_)
        ·skip -- FfFfFTfT
         refine W.seq ?_
         refine W.reg ?_
         refine WO.q (Q.assign (oc (v := .int .i64 ((0 : Nat) : Int)) rfl)) rfl ?_
         refine WO.nil ?_
         refine End.K ?_
         refine W.sub (SubS.cons (k := 4) rfl (SubS.nil _)) ?_
         refine W.ret ?_
         refine End.Kr (End.Br (End.Kr (End.rV (ResL.tmp rfl ResL.nil) ?_)))
         first | (exfalso; omega; done) | exact atm_ret (by rw [atomF_at hi, if_neg hA, if_neg hB, if_neg (by omega), if_pos (by omega), hn]; show clsE i (if r ((p.drop (i + 1)).take (n - 1)) = true then some (n + 1) else none) = _; rw [← hin, if_neg (by simpa using hc78)]; rfl)
        ·skip -- FfFfFTfF
         refine W.skip ?_
         refine End.K ?_
         refine W.seq ?_
         refine W.reg ?_
         refine WO.q (Q.move rfl) rfl ?_
         refine WO.q (Q.bin rfl (oc (v := .int .i64 ((1 : Nat) : Int)) rfl) rfl (bv_add (wna zo))) rfl ?_
         refine WO.q (Q.assign rfl) rfl ?_
         refine WO.nil ?_
         refine End.K ?_
         refine W.sub (SubS.cons (k := 4) rfl (SubS.nil _)) ?_
         refine W.ret ?_
         refine End.Br (End.Kr (End.rV (ResL.tmp rfl ResL.nil) ?_))
         first | (exfalso; omega; done) | exact atm_ret (by rw [atomF_at hi, if_neg hA, if_neg hB, if_neg (by omega), if_pos (by omega), hn]; show clsE i (if r ((p.drop (i + 1)).take (n - 1)) = true then some (n + 1) else none) = _; rw [← hin, if_pos (by simpa using hc78)]; rfl)
      ·skip -- FfFfFF
       refine W.skip ?_
       refine End.KB (End.K ?_)
       refine W.seq ?_
       refine W.reg ?_
       refine WO.q (Q.assign (oc (v := .int .i64 ((0 : Nat) : Int)) rfl)) rfl ?_
       refine WO.nil ?_
       refine End.K ?_
       refine W.ret ?_
       refine End.rV (ResL.tmp rfl ResL.nil) ?_
       first | (exfalso; omega; done) | exact atm_ret (by rw [atomF_at hi, if_neg hA, if_neg hB, if_neg (by omega), if_neg (by omega)]; rfl)

theorem cut_spec (p : List Nat) (hs : Bytes p) (hl : p.length ≤ 64) (r : List Nat → Bool) (d : Nat) (HR : ∀ q : List Nat, Bytes q → q.length ≤ 64 → q.length < d → Spec tab 162 [.str q] [] [] (Val (.bool (r q)))) (hd : p.length ≤ d) : Spec tab 209 [.str p] [] [] (cutP r p) := by
 refine Spec.en (ftg 209 Tryz.func209) rfl (m := 62) rfl (rs := [.tmp 2, .tmp 3]) rfl (st := [(0, .str p)]) rfl rfl (fun _ => rfl) (fun E => ?_)
 refine W.seq ?_
 refine W.reg ?_
 refine WO.q (Q.assign rfl) rfl ?_
 refine WO.q (Q.assign rfl) rfl ?_
 refine WO.nil ?_
 refine End.K ?_
 refine W.seq ?_
 refine W.reg ?_
 refine WO.q (Q.assign rfl) rfl ?_
 refine WO.nil ?_
 refine End.K ?_
 refine W.seq ?_
 refine W.reg ?_
 refine WO.q (Q.assign (oc (v := .int .i64 ((0 : Nat) : Int)) rfl)) rfl ?_
 refine WO.q (Q.assign (oc (v := .int .i64 ((0 : Nat) : Int)) rfl)) rfl ?_
 refine WO.nil ?_
 refine End.K ?_
 refine W.seq ?_
 refine W.block ?_
 refine W.loop_ind6 (fun (fr : Nat) (a : Nat) (k : Nat) (acc : List (List Nat)) (v : AV) (hp : HSt) => [(0, .str p), (4, v), (5, .int .i64 ((fr : Nat) : Int)), (6, .int .i64 ((a : Nat) : Int))]) (fun (fr : Nat) (a : Nat) (k : Nat) (acc : List (List Nat)) (v : AV) (hp : HSt) => hp) (fun (fr : Nat) (a : Nat) (k : Nat) (acc : List (List Nat)) (v : AV) (hp : HSt) => a ≤ p.length ∧ fr ≤ a ∧ p.length - a < k ∧ acc.length ≤ a ∧ Own 1 (acc.map AV.str) acc.length v hp ∧ cutF r 100 [] p = (cutF r k ((p.drop fr).take (a - fr)) (p.drop a)).map (acc ++ ·)) (fun (fr : Nat) (a : Nat) (k : Nat) (acc : List (List Nat)) (v : AV) (hp : HSt) => p.length - a) (0) (0) (100) ([]) (.nils) ([]) ⟨by omega, by omega, by omega, by simp, Own.nil 1, by simp⟩ (SubS.cons rfl (SubS.cons rfl (SubS.cons rfl (SubS.cons rfl (SubS.nil _))))) (SubH.refl _) (fun fr a k acc v hp hI0 ih0 => ?_)
 obtain ⟨ha, hf, hk, hla, hO, hv⟩ := hI0
 obtain ⟨k, rfl⟩ : ∃ q, k = q + 1 := ⟨k - 1, by omega⟩
 refine W.seq ?_
 refine W.seq ?_
 refine W.reg ?_
 refine WO.q (Q.move rfl) rfl ?_
 refine WO.q (Q.move rfl) rfl ?_
 refine WO.q (Q.len ud9 rfl rfl) rfl ?_
 refine WO.q (Q.bin rfl rfl rfl (bvl ltn)) rfl ?_
 refine WO.nil ?_
 refine End.K ?_
 refine W.cD rfl (fun hc11 => ?_) (fun hc11 => ?_)
 ·skip -- L0T
  refine W.skip ?_
  refine End.K ?_
  refine W.block ?_
  refine W.seq ?_
  refine W.seq ?_
  refine W.reg ?_
  refine WO.q (Q.move rfl) rfl ?_
  refine WO.q (Q.move rfl) rfl ?_
  refine WO.indexB hs ud9 rfl rfl zo rfl (fun c14 hd14 hb14 => ?_)
  refine WO.q (Q.bin rfl (oc (v := .int .u8 ((124 : Nat) : Int)) rfl) rfl (bv_eql eq_nat)) rfl ?_
  refine WO.nil ?_
  refine End.K ?_
  refine W.cD rfl (fun hc15 => ?_) (fun hc15 => ?_)
  ·skip -- L0TT
   refine W.seq ?_
   refine W.reg ?_
   refine WO.q (Q.move rfl) rfl ?_
   refine WO.q (Q.move rfl) rfl ?_
   refine WO.q (Q.move rfl) rfl ?_
   refine WO.q (Q.move rfl) rfl ?_
   refine WO.q (Q.sliceS ud9 rfl rfl zo rfl) rfl ?_
   refine WO.bslice ud50 sz9 zr9 rfl (opc rfl opn) rfl (cs := [_]) rfl rfl rfl (fun b1 => ?_)
   refine WO.appOwn (e := ⟨b1, _, true⟩) (A := []) ap50_50 hO rfl rfl rfl rfl ⟨by first | omega | (simp at * <;> omega), by first | omega | (simp at * <;> omega)⟩ (by decide) rfl rfl (fun v22 hp22 hO22 => ?_)
   refine WO.q (Q.assign rfl) rfl ?_
   refine WO.nil ?_
   refine End.K ?_
   refine W.sub (SubS.cons (k := 4) rfl (SubS.cons (k := 0) rfl (SubS.cons (k := 6) rfl (SubS.nil _)))) ?_
   refine W.seq ?_
   refine W.reg ?_
   refine WO.q (Q.move rfl) rfl ?_
   refine WO.q (Q.bin rfl (oc (v := .int .i64 ((1 : Nat) : Int)) rfl) rfl (bv_add (wna zo))) rfl ?_
   refine WO.q (Q.assign rfl) rfl ?_
   refine WO.nil ?_
   refine End.K ?_
   refine W.seq ?_
   refine W.reg ?_
   refine WO.q (Q.move rfl) rfl ?_
   refine WO.q (Q.assign rfl) rfl ?_
   refine WO.nil ?_
   refine End.K ?_
   refine W.exit ?_
   refine End.Kx (End.Bh (End.KL ?_))
   refine W.sub (SubS.cons rfl (SubS.cons rfl (SubS.cons rfl (SubS.cons rfl (SubS.nil _))))) (ih0 (a + 1) (a + 1) (k) (acc ++ [(p.drop fr).take (a - fr)]) (v22) (hp22) ?_ ?_)
   ·exact ⟨by omega, by omega, by omega, by simp; omega, by simpa using hO22, by rw [hv, cutF_at (by omega), if_pos (by omega)]; simp [Option.map_map, Function.comp_def]⟩
   ·exact zo
  ·skip -- L0TF
   refine W.skip ?_
   refine End.K ?_
   refine W.seq ?_
   refine W.reg ?_
   refine WO.q (Q.move rfl) rfl ?_
   refine WO.q (Q.move rfl) rfl ?_
   refine WO.cV rfl (oLc rfl (oLc rfl oz)) rfl (atom_spec _ hs (by omega) _ r d HR (by omega)) SubR.nil rfl ?_
   refine WO.q (Q.assign rfl) rfl ?_
   refine WO.nil ?_
   refine End.K ?_
   refine W.seq ?_
   refine W.seq ?_
   refine W.reg ?_
   refine WO.q (Q.move rfl) rfl ?_
   refine WO.q (Q.bin rfl (oc (v := .int .i64 ((0 : Nat) : Int)) rfl) rfl (bv_eql eq_nat)) rfl ?_
   refine WO.nil ?_
   refine End.K ?_
   refine W.cD rfl (fun hc30 => ?_) (fun hc30 => ?_)
   ·skip -- L0TFT
    refine W.seq ?_
    refine W.reg ?_
    refine WO.q (Q.assign rfl) rfl ?_
    refine WO.q (Q.assign rfl) rfl ?_
    refine WO.nil ?_
    refine End.K ?_
    refine W.sub (SubS.cons (k := 3) rfl (SubS.cons (k := 2) rfl (SubS.nil _))) ?_
    refine W.ret ?_
    refine End.Kr (End.Br (End.Lr (End.Br (End.Kr (End.ret (ResL.tmp rfl (ResL.tmp rfl ResL.nil)) (hs' := []) (cut_no (by rw [hv, cutF_at (by omega), if_neg (by omega), atom_none (by omega)]; rfl)) (fun e h => no_w h) (SubH.nil _))))))
   ·skip -- L0TFF
    obtain ⟨n, hn, hn0, hnl, hne⟩ := atom_some (r := r) (p := p) (i := a) (by omega)
    rw [hne]
    refine W.skip ?_
    refine End.K ?_
    refine W.sub (SubS.cons (k := 7) rfl (SubS.cons (k := 0) rfl (SubS.cons (k := 4) rfl (SubS.cons (k := 5) rfl (SubS.nil _))))) ?_
    refine W.seq ?_
    refine W.reg ?_
    refine WO.q (Q.move rfl) rfl ?_
    refine WO.q (Q.assign rfl) rfl ?_
    refine WO.nil ?_
    refine End.K ?_
    refine W.seq ?_
    refine W.reg ?_
    refine WO.q (Q.move rfl) rfl ?_
    refine WO.q (Q.move rfl) rfl ?_
    refine WO.q (Q.len ud9 rfl rfl) rfl ?_
    refine WO.q (Q.bin rfl rfl rfl (bvl ltn)) rfl ?_
    refine WO.q (Q.move rfl) rfl ?_
    refine WO.sD (d := 36) rfl (fun hc36 => ?_) (fun hc36 => ?_)
    ·skip -- L0TFFt
     refine WO.gT rfl rfl ?_
     refine WO.q (Q.move rfl) rfl ?_
     refine WO.gT rfl rfl ?_
     refine WO.q (Q.move rfl) rfl ?_
     refine WO.gT rfl rfl ?_
     refine WO.indexB hs ud9 rfl rfl zo rfl (fun c39 hd39 hb39 => ?_)
     refine WO.gT rfl rfl ?_
     refine WO.q (Q.bin rfl (oc (v := .int .u8 ((42 : Nat) : Int)) rfl) rfl (bv_eql eq_nat)) rfl ?_
     refine WO.gT rfl rfl ?_
     refine WO.q (Q.move rfl) rfl ?_
     refine WO.sD (d := 41) rfl (fun hc41 => ?_) (fun hc41 => ?_)
     ·skip -- L0TFFtt
      refine WO.gF rfl rfl (.inl rfl) rfl ?_
      refine WO.gF rfl rfl (.inl rfl) rfl ?_
      refine WO.gF rfl rfl (.inl rfl) rfl ?_
      refine WO.gF rfl rfl (.inl rfl) rfl ?_
      refine WO.gT rfl rfl ?_
      refine WO.q (Q.pT rfl rfl) rfl ?_
      refine WO.gT rfl rfl ?_
      refine WO.q (Q.move rfl) rfl ?_
      refine WO.gF rfl rfl (.inl rfl) rfl ?_
      refine WO.gF rfl rfl (.inl rfl) rfl ?_
      refine WO.gF rfl rfl (.inl rfl) rfl ?_
      refine WO.gF rfl rfl (.inl rfl) rfl ?_
      refine WO.gT rfl rfl ?_
      refine WO.q (Q.pT rfl rfl) rfl ?_
      refine WO.q (Q.pT rfl rfl) rfl ?_
      refine WO.nil ?_
      refine End.K ?_
      refine W.sub (SubS.cons (k := 53) rfl (SubS.cons (k := 6) rfl (SubS.cons (k := 0) rfl (SubS.cons (k := 4) rfl (SubS.cons (k := 5) rfl (SubS.nil _)))))) ?_
      refine W.condT rfl ?_
      refine W.reg ?_
      refine WO.q (Q.move rfl) rfl ?_
      refine WO.q (Q.bin rfl (oc (v := .int .i64 ((1 : Nat) : Int)) rfl) rfl (bv_add (wna zo))) rfl ?_
      refine WO.q (Q.assign rfl) rfl ?_
      refine WO.nil ?_
      refine End.KB (End.KL ?_)
      refine W.sub (SubS.cons rfl (SubS.cons rfl (SubS.cons rfl (SubS.cons rfl (SubS.nil _))))) (ih0 (fr) (a + n + 1) (k) (acc) (v) (hp) ?_ ?_)
      ·exact ⟨by omega, by omega, by omega, by omega, hO, by rw [hv, cutF_at (by omega), if_neg (by omega), hn]; show Option.map _ (if a + n < p.length ∧ (p.getD (a + n) 0 = 42 ∨ p.getD (a + n) 0 = 43 ∨ p.getD (a + n) 0 = 63) then _ else _) = _; rw [if_pos (by omega), seg_app (by omega)]; rfl⟩
      ·exact zo
     ·skip -- L0TFFtf
      refine WO.gT rfl rfl ?_
      refine WO.q (Q.move rfl) rfl ?_
      refine WO.gT rfl rfl ?_
      refine WO.q (Q.move rfl) rfl ?_
      refine WO.gT rfl rfl ?_
      refine WO.indexB hs ud9 rfl rfl zo rfl (fun c44 hd44 hb44 => ?_)
      refine WO.gT rfl rfl ?_
      refine WO.q (Q.bin rfl (oc (v := .int .u8 ((43 : Nat) : Int)) rfl) rfl (bv_eql eq_nat)) rfl ?_
      refine WO.gT rfl rfl ?_
      refine WO.q (Q.pF rfl rfl) rfl ?_
      refine WO.gT rfl rfl ?_
      refine WO.q (Q.move rfl) rfl ?_
      refine WO.sD (d := 47) rfl (fun hc47 => ?_) (fun hc47 => ?_)
      ·skip -- L0TFFtft
       refine WO.gF rfl rfl (.inl rfl) rfl ?_
       refine WO.gF rfl rfl (.inl rfl) rfl ?_
       refine WO.gF rfl rfl (.inl rfl) rfl ?_
       refine WO.gF rfl rfl (.inl rfl) rfl ?_
       refine WO.gT rfl rfl ?_
       refine WO.q (Q.pT rfl rfl) rfl ?_
       refine WO.q (Q.pT rfl rfl) rfl ?_
       refine WO.nil ?_
       refine End.K ?_
       refine W.sub (SubS.cons (k := 53) rfl (SubS.cons (k := 6) rfl (SubS.cons (k := 0) rfl (SubS.cons (k := 4) rfl (SubS.cons (k := 5) rfl (SubS.nil _)))))) ?_
       refine W.condT rfl ?_
       refine W.reg ?_
       refine WO.q (Q.move rfl) rfl ?_
       refine WO.q (Q.bin rfl (oc (v := .int .i64 ((1 : Nat) : Int)) rfl) rfl (bv_add (wna zo))) rfl ?_
       refine WO.q (Q.assign rfl) rfl ?_
       refine WO.nil ?_
       refine End.KB (End.KL ?_)
       refine W.sub (SubS.cons rfl (SubS.cons rfl (SubS.cons rfl (SubS.cons rfl (SubS.nil _))))) (ih0 (fr) (a + n + 1) (k) (acc) (v) (hp) ?_ ?_)
       ·exact ⟨by omega, by omega, by omega, by omega, hO, by rw [hv, cutF_at (by omega), if_neg (by omega), hn]; show Option.map _ (if a + n < p.length ∧ (p.getD (a + n) 0 = 42 ∨ p.getD (a + n) 0 = 43 ∨ p.getD (a + n) 0 = 63) then _ else _) = _; rw [if_pos (by omega), seg_app (by omega)]; rfl⟩
       ·exact zo
      ·skip -- L0TFFtff
       refine WO.gT rfl rfl ?_
       refine WO.q (Q.move rfl) rfl ?_
       refine WO.gT rfl rfl ?_
       refine WO.q (Q.move rfl) rfl ?_
       refine WO.gT rfl rfl ?_
       refine WO.indexB hs ud9 rfl rfl zo rfl (fun c50 hd50 hb50 => ?_)
       refine WO.gT rfl rfl ?_
       refine WO.q (Q.bin rfl (oc (v := .int .u8 ((63 : Nat) : Int)) rfl) rfl (bv_eql eq_nat)) rfl ?_
       refine WO.gT rfl rfl ?_
       refine WO.q (Q.pF rfl rfl) rfl ?_
       refine WO.q (Q.pT rfl rfl) rfl ?_
       refine WO.nil ?_
       refine End.K ?_
       refine W.sub (SubS.cons (k := 53) rfl (SubS.cons (k := 6) rfl (SubS.cons (k := 0) rfl (SubS.cons (k := 4) rfl (SubS.cons (k := 5) rfl (SubS.nil _)))))) ?_
       refine W.cD rfl (fun hc53 => ?_) (fun hc53 => ?_)
       ·skip -- L0TFFtffT
        refine W.reg ?_
        refine WO.q (Q.move rfl) rfl ?_
        refine WO.q (Q.bin rfl (oc (v := .int .i64 ((1 : Nat) : Int)) rfl) rfl (bv_add (wna zo))) rfl ?_
        refine WO.q (Q.assign rfl) rfl ?_
        refine WO.nil ?_
        refine End.KB (End.KL ?_)
        refine W.sub (SubS.cons rfl (SubS.cons rfl (SubS.cons rfl (SubS.cons rfl (SubS.nil _))))) (ih0 (fr) (a + n + 1) (k) (acc) (v) (hp) ?_ ?_)
        ·exact ⟨by omega, by omega, by omega, by omega, hO, by rw [hv, cutF_at (by omega), if_neg (by omega), hn]; show Option.map _ (if a + n < p.length ∧ (p.getD (a + n) 0 = 42 ∨ p.getD (a + n) 0 = 43 ∨ p.getD (a + n) 0 = 63) then _ else _) = _; rw [if_pos (by omega), seg_app (by omega)]; rfl⟩
        ·exact zo
       ·skip -- L0TFFtffF
        refine W.skip ?_
        refine End.KB (End.KL ?_)
        refine W.sub (SubS.cons rfl (SubS.cons rfl (SubS.cons rfl (SubS.cons rfl (SubS.nil _))))) (ih0 (fr) (a + n) (k) (acc) (v) (hp) ?_ ?_)
        ·exact ⟨by omega, by omega, by omega, by omega, hO, by rw [hv, cutF_at (by omega), if_neg (by omega), hn]; show Option.map _ (if a + n < p.length ∧ (p.getD (a + n) 0 = 42 ∨ p.getD (a + n) 0 = 43 ∨ p.getD (a + n) 0 = 63) then _ else _) = _; rw [if_neg (by omega), seg_app (by omega)]⟩
        ·exact zo
    ·skip -- L0TFFf
     refine WO.gF rfl rfl (.inl rfl) rfl ?_
     refine WO.gF rfl rfl (.inl rfl) rfl ?_
     refine WO.gF rfl rfl (.inl rfl) rfl ?_
     refine WO.gF rfl rfl (.inl rfl) rfl ?_
     refine WO.gF rfl rfl (.inl rfl) rfl ?_
     refine WO.gF rfl rfl (.inr rfl) rfl ?_
     refine WO.gF rfl rfl (.inr rfl) rfl ?_
     refine WO.gF rfl rfl (.inr rfl) rfl ?_
     refine WO.gF rfl rfl (.inr rfl) rfl ?_
     refine WO.gF rfl rfl (.inl rfl) rfl ?_
     refine WO.gF rfl rfl (.inl rfl) rfl ?_
     refine WO.gF rfl rfl (.inr rfl) rfl ?_
     refine WO.gF rfl rfl (.inr rfl) rfl ?_
     refine WO.gF rfl rfl (.inr rfl) rfl ?_
     refine WO.gF rfl rfl (.inr rfl) rfl ?_
     refine WO.gF rfl rfl (.inl rfl) rfl ?_
     refine WO.q (Q.pF rfl rfl) rfl ?_
     refine WO.nil ?_
     refine End.K ?_
     refine W.sub (SubS.cons (k := 53) rfl (SubS.cons (k := 6) rfl (SubS.cons (k := 0) rfl (SubS.cons (k := 4) rfl (SubS.cons (k := 5) rfl (SubS.nil _)))))) ?_
     refine W.condF rfl ?_
     refine W.skip ?_
     refine End.KB (End.KL ?_)
     refine W.sub (SubS.cons rfl (SubS.cons rfl (SubS.cons rfl (SubS.cons rfl (SubS.nil _))))) (ih0 (fr) (a + n) (k) (acc) (v) (hp) ?_ ?_)
     ·exact ⟨by omega, by omega, by omega, by omega, hO, by rw [hv, cutF_at (by omega), if_neg (by omega), hn]; show Option.map _ (if a + n < p.length ∧ (p.getD (a + n) 0 = 42 ∨ p.getD (a + n) 0 = 43 ∨ p.getD (a + n) 0 = 63) then _ else _) = _; rw [if_neg (by omega), seg_app (by omega)]⟩
     ·exact zo
 ·skip -- L0F
  refine W.exit ?_
  refine End.Kx (End.Lx (End.Bh (End.K ?_)))
  refine W.seq ?_
  refine W.reg ?_
  refine WO.q (Q.move rfl) rfl ?_
  refine WO.q (Q.move rfl) rfl ?_
  refine WO.q (Q.move rfl) rfl ?_
  refine WO.q (Q.sliceS ud9 rfl rfl zo sl_lo) rfl ?_
  refine WO.bslice ud50 sz9 zr9 rfl (opc rfl opn) rfl (cs := [_]) rfl rfl rfl (fun b3 => ?_)
  refine WO.appOwn (e := ⟨b3, _, true⟩) (A := []) ap50_50 hO rfl rfl rfl rfl ⟨by first | omega | (simp at * <;> omega), by first | omega | (simp at * <;> omega)⟩ (by decide) rfl rfl (fun v61 hp61 hO61 => ?_)
  obtain ⟨b61, ex61, rfl, rfl⟩ := hO61.full (by omega)
  refine WO.q (Q.assign rfl) rfl ?_
  refine WO.q (Q.assign rfl) rfl ?_
  refine WO.nil ?_
  refine End.K ?_
  refine W.sub (SubS.cons (k := 3) rfl (SubS.cons (k := 2) rfl (SubS.nil _))) ?_
  refine W.ret ?_
  refine End.ret (ResL.tmp rfl (ResL.tmp rfl ResL.nil)) (hs' := [⟨b61, ⟨1, ex61, (acc.map AV.str) ++ [.str (p.drop fr)]⟩, true⟩]) (cut_yes (L := acc ++ [p.drop fr]) (by rw [hv, cutF_nil (by omega), cur_end (by omega)]; rfl) (by simp) (by simp)) zW (SubH.of_sublist (by simp))

theorem rightS_spec (p : List Nat) (hs : Bytes p) (hl : p.length ≤ 64) (d : Nat) (HR : ∀ q : List Nat, Bytes q → q.length ≤ 64 → q.length < d → Spec tab 162 [.str q] [] [] (Val (.bool (rightF d q)))) (hd : p.length ≤ d) : Spec tab 162 [.str p] [] [] (Val (.bool (rightF (d + 1) p))) := by
 refine Spec.en (ftg 162 Tryz.func162) rfl (m := 11) rfl (rs := [.tmp 2]) rfl (st := [(0, .str p)]) rfl rfl (fun _ => rfl) (fun E => ?_)
 refine W.seq ?_
 refine W.reg ?_
 refine WO.q (Q.assign rfl) rfl ?_
 refine WO.nil ?_
 refine End.K ?_
 refine W.seq ?_
 refine W.reg ?_
 refine WO.q (Q.move rfl) rfl ?_
 refine WO.call0 rfl (oLc rfl oz) rfl (cut_spec p hs hl (rightF d) d HR hd) SubR.nil rfl (fun v7 D7 hP7 => ?_)
 obtain ⟨vc, rfl⟩ := cut_val hP7
 refine WO.subH (hs' := (D7)) (SubH.op (perm_tail (N := []) (G := D7) (K := []) (X := []))) ?_
 refine WO.q (Q.move rfl) rfl ?_
 refine WO.q (Q.extract rfl rfl) rfl ?_
 refine WO.q (Q.extract rfl rfl) rfl ?_
 refine WO.q (Q.assign rfl) rfl ?_
 refine WO.q (Q.assign rfl) rfl ?_
 refine WO.nil ?_
 refine End.K ?_
 refine W.seq ?_
 refine W.reg ?_
 refine WO.q (Q.move rfl) rfl ?_
 refine WO.q (Q.assign rfl) rfl ?_
 refine WO.nil ?_
 refine End.K ?_
 refine W.ret ?_
 refine End.rV (ResL.tmp rfl ResL.nil) ?_
 rfl
end Go.Proofs.YtfkbfnpjggkdmaaGreatDoor.Ev.P7
