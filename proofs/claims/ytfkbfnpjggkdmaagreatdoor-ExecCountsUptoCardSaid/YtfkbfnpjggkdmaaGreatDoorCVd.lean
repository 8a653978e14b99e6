/- Chapter 7, by the document: atoms, alternatives, patterns. -/
import Derived.Test.YtfkbfnpjggkdmaaGreatDoorCVc
namespace Go.Proofs.YtfkbfnpjggkdmaaGreatDoor.Ev.P7
open Go.RowKit
set_option maxRecDepth 100000
set_option maxHeartbeats 1000000
theorem W.loop_ind6 {tb : Tab} {n : Nat} {E : Env} {s : St} {hs : af} {α β γ δ ε ζ : Type} {b : Code} {Q} (st : α -> β -> γ -> δ -> ε -> ζ -> St) (hp : α -> β -> γ -> δ -> ε -> ζ -> af) (Inv : α -> β -> γ -> δ -> ε -> ζ -> Prop) (μ : α -> β -> γ -> δ -> ε -> ζ -> Nat) (a0 : α) (b0 : β) (c0 : γ) (d0 : δ) (e0 : ε) (f0 : ζ)
  (h0 : Inv a0 b0 c0 d0 e0 f0) (hsub : SubS (st a0 b0 c0 d0 e0 f0) s) (hsubH : SubH (hp a0 b0 c0 d0 e0 f0) hs)
  (step : ∀ a c e f g h, Inv a c e f g h -> (∀ a' c' e' f' g' h', Inv a' c' e' f' g' h' -> μ a' c' e' f' g' h' < μ a c e f g h -> W tb n (.loop b) E (st a' c' e' f' g' h') (hp a' c' e' f' g' h') Q) -> W tb n b E (st a c e f g h) (hp a c e f g h) (KL tb n b Q)) : W tb n (.loop b) E s hs Q :=
 W.loop_ind (α := α × β × γ × δ × ε × ζ) (fun x => st x.1 x.2.1 x.2.2.1 x.2.2.2.1 x.2.2.2.2.1 x.2.2.2.2.2) (fun x => hp x.1 x.2.1 x.2.2.1 x.2.2.2.1 x.2.2.2.2.1 x.2.2.2.2.2) (fun x => Inv x.1 x.2.1 x.2.2.1 x.2.2.2.1 x.2.2.2.2.1 x.2.2.2.2.2) (fun x => μ x.1 x.2.1 x.2.2.1 x.2.2.2.1 x.2.2.2.2.1 x.2.2.2.2.2) (a0, b0, c0, d0, e0, f0) h0 hsub hsubH
  fun a ha ih => step a.1 a.2.1 a.2.2.1 a.2.2.2.1 a.2.2.2.2.1 a.2.2.2.2.2 ha fun a' c' e' f' g' h' => ih (a', c', e', f', g', h')
theorem fg : ∀ {k o : Nat} {l : List Nat} {n : Nat}, dk k o l = some n -> n < l.length
 | 0, _, _, _, h => by simp [dk] at h
 | k + 1, o, l, n, h => by
  unfold dk at h
  by_cases h0 : l = []
  ·rw [if_pos h0] at h; exact absurd h (by simp)
  rw [if_neg h0] at h
  have hp : 0 < l.length := List.length_pos_iff.2 h0
  by_cases h1 : l.getD 0 0 = 92
  ·rw [if_pos h1] at h
   obtain ⟨m, hm, rfl⟩ := Option.map_eq_some_iff.1 h
   have := fg hm
   rw [List.length_drop] at this
   omega
  rw [if_neg h1] at h
  by_cases h2 : l.getD 0 0 = 91
  ·rw [if_pos h2] at h
   cases e : dx (l.drop 1) with
   | none => rw [e] at h; exact absurd h (by simp)
   | some q =>
    rw [e] at h
    obtain ⟨m, hm, rfl⟩ := Option.map_eq_some_iff.1 h
    have := fg hm
    rw [List.length_drop] at this
    omega
  rw [if_neg h2] at h
  by_cases h3 : l.getD 0 0 = 40
  ·rw [if_pos h3] at h
   obtain ⟨m, hm, rfl⟩ := Option.map_eq_some_iff.1 h
   have := fg hm
   rw [List.length_drop] at this
   omega
  rw [if_neg h3] at h
  by_cases h4 : l.getD 0 0 = 41
  ·rw [if_pos h4] at h
   split at h
   ·have := Option.some.inj h; omega
   ·obtain ⟨m, hm, rfl⟩ := Option.map_eq_some_iff.1 h
    have := fg hm
    rw [List.length_drop] at this
    omega
  ·rw [if_neg h4] at h
   obtain ⟨m, hm, rfl⟩ := Option.map_eq_some_iff.1 h
   have := fg hm
   rw [List.length_drop] at this
   omega
theorem nM {k o : Nat} {l : List Nat} {n : Nat} (h : dk k o l = some n) (h40 : l.getD 0 0 = 40) : 0 < n := by
 cases k with
 | zero => simp [dk] at h
 | succ k =>
  unfold dk at h
  by_cases h0 : l = []
  ·rw [if_pos h0] at h; exact absurd h (by simp)
  rw [if_neg h0, if_neg zy, if_neg zy, if_pos h40] at h
  obtain ⟨m, hm, rfl⟩ := Option.map_eq_some_iff.1 h
  omega
theorem mh (p : List Nat) (hs : Bytes p) (hl : p.length <= 64) (i : Nat) (hi : i < p.length) (h40 : p.getD i 0 = 40) : Spec tab 278 [.str p, .int .i64 ((i : Nat) : Int)] [] []
  (ij fun v => ∃ x : Int, v = .int .i64 x /\ (x < 0 -> dk 100 0 (p.drop i) = none) /\ (0 <= x -> ∃ n : Nat, dk 100 0 (p.drop i) = some n /\ x = ((i + n : Nat) : Int))) := by
 refine (rM p hs hl i hi h40).mono fun v D ⟨h1, h2⟩ => ⟨⟨_, h1, ?_, ?_⟩, h2⟩
 ·intro g
  cases e : dk 100 0 (p.drop i) with
  | none => rfl
  | some n => rw [e] at g; exact absurd g (by show ¬ ((i + n : Nat) : Int) < 0; omega)
 ·intro g
  cases e : dk 100 0 (p.drop i) with
  | none => rw [e] at g; exact absurd g (by show ¬ (0 : Int) <= -1; omega)
  | some n => exact ⟨n, rfl, rfl⟩
def cG (r : List Nat -> Bool) (l : List Nat) : Option Nat :=
 if l = [] then none
 else if l.getD 0 0 = 46 \/ dL (l.getD 0 0) = true then some 1
 else if l.getD 0 0 = 92 /\ 1 < l.length /\ dL (l.getD 1 0) = false then some 2
 else if l.getD 0 0 = 91 then (dx (l.drop 1)).map (· + 1)
 else if l.getD 0 0 = 40 then (match dk 100 0 l with
  | none => none
  | some n => if r ((l.drop 1).take (n - 1)) = true then some (n + 1) else none)
 else none
theorem co {r : List Nat -> Bool} {p : List Nat} {i : Nat} (h : i < p.length) : cG r (p.drop i) =
  if p.getD i 0 = 46 \/ dL (p.getD i 0) = true then some 1
  else if p.getD i 0 = 92 /\ i + 1 < p.length /\ dL (p.getD (i + 1) 0) = false then some 2
  else if p.getD i 0 = 91 then (dx (p.drop (i + 1))).map (· + 1)
  else if p.getD i 0 = 40 then (match dk 100 0 (p.drop i) with
   | none => none
   | some n => if r ((p.drop (i + 1)).take (n - 1)) = true then some (n + 1) else none)
  else none := by
 have hne : ¬ p.drop i = [] := by
  intro e
  have := congrArg List.length e
  simp at this
  omega
 have e1 : (1 < (p.drop i).length) = (i + 1 < p.length) := by rw [List.length_drop]; exact propext ⟨fun h => by omega, fun h => by omega⟩
 conv => lhs; unfold cG
 rw [if_neg hne]
 simp only [cx, List.drop_drop, Nat.add_zero, e1]
theorem yU {r : List Nat -> Bool} {p : List Nat} {i : Nat} (h : p.length <= i) : cG r (p.drop i) = none := by
 rw [List.drop_eq_nil_of_le h]
 rfl
theorem fE {r : List Nat -> Bool} {l : List Nat} {n : Nat} (h : cG r l = some n) : 0 < n /\ n <= l.length := by
 unfold cG at h
 by_cases h0 : l = []
 ·rw [if_pos h0] at h; exact absurd h (by simp)
 rw [if_neg h0] at h
 have hp : 0 < l.length := List.length_pos_iff.2 h0
 split at h
 ·have := Option.some.inj h; omega
 split at h
 ·rename_i g; have := Option.some.inj h; omega
 split at h
 ·obtain ⟨m, hm, rfl⟩ := Option.map_eq_some_iff.1 h
  have := je hm
  rw [List.length_drop] at this
  omega
 split at h
 ·cases e : dk 100 0 l with
  | none => rw [e] at h; exact absurd h (by simp)
  | some q =>
   rw [e] at h
   have := fg e
   simp only at h
   split at h
   ·have := Option.some.inj h; omega
   ·exact absurd h (by simp)
 ·exact absurd h (by simp)
theorem yW {r : List Nat -> Bool} {p : List Nat} {i : Nat} (h : ¬ iI i (cG r (p.drop i)) = 0) : ∃ n, cG r (p.drop i) = some n /\ 0 < n /\ i + n <= p.length /\ iI i (cG r (p.drop i)) = i + n := by
 cases e : cG r (p.drop i) with
 | none => rw [e] at h; exact absurd rfl h
 | some n =>
  have := fE e
  rw [List.length_drop] at this
  exact ⟨n, rfl, this.1, by omega, rfl⟩
theorem yV {r : List Nat -> Bool} {p : List Nat} {i : Nat} (h : iI i (cG r (p.drop i)) = 0) : cG r (p.drop i) = none := by
 cases e : cG r (p.drop i) with
 | none => rfl
 | some n =>
  have := fE e
  rw [e] at h
  exact absurd h (by show ¬ i + n = 0; omega)
def eY (r : List Nat -> Bool) : Nat -> List Nat -> List Nat -> Option (List (List Nat))
 | 0, _, _ => none
 | k + 1, cur, l =>
  if l = [] then some [cur]
  else if l.getD 0 0 = 124 then (eY r k [] (l.drop 1)).map (cur :: ·)
  else match cG r l with
   | none => none
   | some n =>
    if n < l.length /\ (l.getD n 0 = 42 \/ l.getD n 0 = 43 \/ l.getD n 0 = 63) then eY r k (cur ++ l.take (n + 1)) (l.drop (n + 1))
    else eY r k (cur ++ l.take n) (l.drop n)
theorem jh {r : List Nat -> Bool} {p cur : List Nat} {a k : Nat} (h : a < p.length) : eY r (k + 1) cur (p.drop a) =
  if p.getD a 0 = 124 then (eY r k [] (p.drop (a + 1))).map (cur :: ·)
  else match cG r (p.drop a) with
   | none => none
   | some n =>
    if a + n < p.length /\ (p.getD (a + n) 0 = 42 \/ p.getD (a + n) 0 = 43 \/ p.getD (a + n) 0 = 63) then eY r k (cur ++ (p.drop a).take (n + 1)) (p.drop (a + (n + 1)))
    else eY r k (cur ++ (p.drop a).take n) (p.drop (a + n)) := by
 have hne : ¬ p.drop a = [] := by
  intro e
  have := congrArg List.length e
  simp at this
  omega
 have e1 : ∀ n, (n < (p.drop a).length) = (a + n < p.length) := fun n => by rw [List.length_drop]; exact propext ⟨fun h => by omega, fun h => by omega⟩
 conv => lhs; unfold eY
 rw [if_neg hne]
 simp only [cx, List.drop_drop, Nat.add_zero, e1]
theorem Bu {r : List Nat -> Bool} {p cur : List Nat} {a k : Nat} (h : p.length <= a) : eY r (k + 1) cur (p.drop a) = some [cur] := by
 rw [List.drop_eq_nil_of_le h]
 rfl
theorem lT {p : List Nat} {fr a m : Nat} (h : fr <= a) : (p.drop fr).take (a - fr) ++ (p.drop a).take m = (p.drop fr).take (a + m - fr) := by
 have e : a + m - fr = (a - fr) + m := by omega
 rw [e, List.take_add, List.drop_drop, show fr + (a - fr) = a from by omega]
theorem D5 {p : List Nat} {fr a : Nat} (h : p.length <= a) : (p.drop fr).take (a - fr) = p.drop fr := List.take_of_length_le (by rw [List.length_drop]; omega)
def Bv (r : List Nat -> Bool) (p : List Nat) (v : AV) (D : af) : Prop :=
 (eY r 100 [] p = none /\ v = .tuple [.nils, .bool false] /\ D = []) \/
 ∃ L b ex, eY r 100 [] p = some L /\ v = .tuple [.slice b 0 L.length 1, .bool true] /\ D = [⟨b, ⟨1, ex, L.map AV.str⟩, true⟩]
theorem Gj {r : List Nat -> Bool} {p : List Nat} (h : eY r 100 [] p = none) : Bv r p (bW [.nils, .bool false]) [] := .inl ⟨h, rfl, rfl⟩
theorem D9 {r : List Nat -> Bool} {p : List Nat} {L : List (List Nat)} {b n : Nat} {ex : Bool} {cs : List AV} (h : eY r 100 [] p = some L) (hn : n = L.length) (hc : cs = L.map AV.str) : Bv r p (bW [.slice b 0 n 1, .bool true]) [⟨b, ⟨1, ex, cs⟩, true⟩] := by
 subst hn hc
 exact .inr ⟨L, b, ex, h, rfl, rfl⟩
theorem D8 {r : List Nat -> Bool} {p : List Nat} {v : AV} {D : af} (h : Bv r p v D) : ∃ vc, v = .tuple [vc, .bool (eY r 100 [] p).isSome] := by
 rcases h with ⟨h1, h2, _⟩ | ⟨L, b, ex, h1, h2, _⟩
 ·exact ⟨_, by rw [h1]; exact h2⟩
 ·exact ⟨_, by rw [h1]; exact h2⟩
def dm : Nat -> List Nat -> Bool
 | 0, _ => false
 | d + 1, p => (eY (dm d) 100 [] p).isSome
theorem cP {r : List Nat -> Bool} {p : List Nat} {i a : Nat} (h : iI i (cG r (p.drop i)) = a) : bW [AV.int .i64 ((a : Nat) : Int)] = .int .i64 ((iI i (cG r (p.drop i)) : Nat) : Int) := by rw [h]; rfl
theorem ql (p : List Nat) (hs : Bytes p) (hl : p.length <= 64) (i : Nat) (r : List Nat -> Bool) (d : Nat) (HR : ∀ q : List Nat, Bytes q -> q.length <= 64 -> q.length < d -> Spec tab 162 [.str q] [] [] (bN (.bool (r q)))) (hd : p.length <= d) : Spec tab 250 [.str p, .int .i64 ((i : Nat) : Int)] [] [] (bN (.int .i64 ((iI i (cG r (p.drop i)) : Nat) : Int))) := by
 refine ac (bz 250 Tryz.func250) rfl (m := 81) rfl (rs := [.tmp 4]) rfl (st := [(0, .str p), (1, .int .i64 ((i : Nat) : Int))]) rfl rfl (fun _ => rfl) (fun E => zr (za (zi 0) (zk (W.seq (W.block (zr (zm rfl (zm rfl (zq (Q.len cf rfl rfl) (zq (aa rfl rfl rfl (bp bf)) (za rfl (zk (aB rfl (fun hc8 => ?_) (fun hc8 => ?_))))))))))))))
 ·refine zr (za (zi 0) (zk (W.ret (ah (ad (ae (z1 rfl) ?_))))))
  first | (exfalso; omega; done) | exact cP (by rw [yU zy]; rfl)
 have hi : i < p.length := zy
 refine zr (zm rfl (zm rfl (aE hs cf rfl rfl zo rfl (fun c16 hd16 hb16 => zq (aa rfl (zu 46) rfl (ai aG)) (zm rfl (aC (d := 18) rfl (fun hc18 => ?_) (fun hc18 => ?_)))))))
 ·refine z2 (z2 (zq (aA rfl rfl) (za rfl (zk (W.sub (zc 13 rfl (zc 0 rfl (zc 1 rfl aI))) (W.condT rfl (zr (zm rfl (zq (aa rfl (zi 1) rfl zp) (za rfl (zk (W.ret (ah (ad (ae (z1 rfl) ?_)))))))))))))))
  first | (exfalso; omega; done) | exact cP (by rw [co hi, if_pos (.inl zy)]; rfl)
 refine zT (zm rfl (zT (zm rfl (zT (aE hs cf rfl rfl zo rfl (fun c21 hd21 hb21 => zT (ak rfl (aj rfl oz) rfl (pA _ (by assumption)) SubR.nil rfl (zq (aF rfl rfl) (za rfl (zk (W.sub (zc 13 rfl (zc 0 rfl (zc 1 rfl aI))) (W.condS rfl (fun hc13 => ?_) (fun hc13 => ?_)))))))))))))
 ·refine zr (zm rfl (zq (aa rfl (zi 1) rfl zp) (za rfl (zk (W.ret (ah (ad (ae (z1 rfl) ?_))))))))
  first | (exfalso; omega; done) | exact cP (by rw [co hi, if_pos (.inr (by rw [<- hd21]; exact hc13))]; rfl)
 have hA : ¬ (p.getD i 0 = 46 \/ dL (p.getD i 0) = true) := (by rintro (g | g); omega; rw [<- hd21, hc13] at g; cases g)
 refine zr (zm rfl (zm rfl (aE hs cf rfl rfl zo rfl (fun c29 hd29 hb29 => zq (aa rfl (zu 92) rfl (ai aG)) (zm rfl (aC (d := 31) rfl (fun hc31 => ?_) (fun hc31 => ?_)))))))
 ·refine zT (zm rfl (zT (zq (aa rfl (zi 1) rfl zp) (zT (zm rfl (zT (zq (Q.len cf rfl rfl) (zT (zq (aa rfl rfl rfl (bu bY)) (zq (aA rfl rfl) (zm rfl (aC (d := 38) rfl (fun hc38 => ?_) (fun hc38 => ?_)))))))))))))
  ·refine zT (zm rfl (zT (zm rfl (zT (zq (aa rfl (zi 1) rfl zp) (zT (aE hs cf rfl rfl zo rfl (fun c42 hd42 hb42 => zT (ak rfl (aj rfl oz) rfl (pA _ (by assumption)) SubR.nil rfl (zT (zq (Q.not rfl rfl) (zq (aA rfl rfl) (za rfl (zk (W.sub (zc 26 rfl (zc 0 rfl (zc 1 rfl aI))) (W.condS rfl (fun hc26 => ?_) (fun hc26 => ?_)))))))))))))))))
   ·refine zr (zm rfl (zq (aa rfl (zi 2) rfl zp) (za rfl (zk (W.ret (ah (ad (ae (z1 rfl) ?_))))))))
    first | (exfalso; omega; done) | exact cP (by rw [co hi, if_neg hA, if_pos ⟨by omega, by omega, by rw [<- hd42]; simpa using hc26⟩]; rfl)
   have hB : ¬ (p.getD i 0 = 92 /\ i + 1 < p.length /\ dL (p.getD (i + 1) 0) = false) := (fun g => by have h := g.2.2; rw [<- hd42] at h; simp [h] at hc26)
   refine zr (zm rfl (zm rfl (aE hs cf rfl rfl zo rfl (fun c51 hd51 hb51 => zq (aa rfl (zu 91) rfl (ai aG)) (za rfl (zk (aB rfl (fun hc48 => ?_) (fun hc48 => ?_))))))))
   ·refine zr (zm rfl (zm rfl (WO.callE rfl (aj rfl (aj rfl (aj (zu 0) oz))) rfl (fV _ hs zy _ zy _ zy) SubR.nil rfl (fun v56 hP56 => ?_))))
    obtain ⟨h56, rfl⟩ := hP56
    refine zm rfl (zq (Q.extract rfl rfl) (zq (Q.extract rfl rfl) (za rfl (za rfl (zk (W.sub (zc 5 rfl aI) (zr (zm rfl (za rfl (zk (W.ret (ah (ad (ae (z1 rfl) ?_))))))))))))))
    first | (exfalso; omega; done) | exact cP (by rw [co hi, if_neg hA, if_neg hB, if_pos zy, gR]; rfl)
   refine zr (zm rfl (zm rfl (aE hs cf rfl rfl zo rfl (fun c63 hd63 hb63 => zq (aa rfl (zu 40) rfl (ai aG)) (za rfl (zk (aB rfl (fun hc60 => ?_) (fun hc60 => ?_))))))))
   ·refine zr (zm rfl (zm rfl (WO.callE rfl (aj rfl (aj rfl oz)) rfl (mh _ hs zy _ zy zy) SubR.nil rfl (fun v67 hP67 => ?_))))
    obtain ⟨x, rfl, hx1, hx2⟩ := hP67
    refine za rfl (zk (W.sub (zc 7 rfl (zc 0 rfl (zc 1 rfl aI))) (W.seq (zr (zm rfl (zq (aa rfl (zi 0) rfl (bu (bS _ _))) (zm rfl (aC (d := 70) rfl (fun hc70 => ?_) (fun hc70 => ?_)))))))))
    ·refine z2 (z2 (z2 (zG (zq (aA rfl rfl) (zk (W.condT rfl (zr (za (zi 0) (zk (W.sub (zc 4 rfl aI) (W.ret (ad (ah (ad (ae (z1 rfl) ?_)))))))))))))))
     first | (exfalso; omega; done) | exact cP (by rw [co hi, if_neg hA, if_neg hB, if_neg zy, if_pos zy, hx1 zy]; rfl)
    obtain ⟨n, hn, rfl⟩ := hx2 zy
    have hnl := fg hn
    have hn0 := nM hn (by rw [cx]; show p.getD i 0 = 40; omega)
    simp only [List.length_drop] at hnl
    have hin : i + n - (i + 1) = n - 1 := zy
    refine zT (zm rfl (zT (zm rfl (zT (zq (aa rfl (zi 1) rfl zp) (zT (zm rfl (zT (zq (gi cf rfl rfl zo rfl) (zT (ak rfl (aj rfl oz) rfl (HR _ (Bytes.take (Bytes.drop hs _) _) zo zo) SubR.nil rfl (zT (zq (Q.not rfl rfl) (zq (aF rfl rfl) (zk (W.condS rfl (fun hc78 => ?_) (fun hc78 => ?_)))))))))))))))))
    ·refine zr (za (zi 0) (zk (W.sub (zc 4 rfl aI) (W.ret (ad (ah (ad (ae (z1 rfl) ?_))))))))
     first | (exfalso; omega; done) | exact cP (by rw [co hi, if_neg hA, if_neg hB, if_neg zy, if_pos zy, hn]; show iI i (if r ((p.drop (i + 1)).take (n - 1)) = true then some (n + 1) else none) = _; rw [<- hin, if_neg (by simpa using hc78)]; rfl)
    refine zw (zr (zm rfl (zq (aa rfl (zi 1) rfl zp) (za rfl (zk (W.sub (zc 4 rfl aI) (W.ret (ah (ad (ae (z1 rfl) ?_))))))))))
    first | (exfalso; omega; done) | exact cP (by rw [co hi, if_neg hA, if_neg hB, if_neg zy, if_pos zy, hn]; show iI i (if r ((p.drop (i + 1)).take (n - 1)) = true then some (n + 1) else none) = _; rw [<- hin, if_pos (by simpa using hc78)]; rfl)
   refine W.skip (End.KB (End.K (zr (za (zi 0) (zk (W.ret (ae (z1 rfl) ?_)))))))
   first | (exfalso; omega; done) | exact cP (by rw [co hi, if_neg hA, if_neg hB, if_neg zy, if_neg zy]; rfl)
  have hB : ¬ (p.getD i 0 = 92 /\ i + 1 < p.length /\ dL (p.getD (i + 1) 0) = false) := zy
  refine z2 (z2 (z2 (zq (aF rfl rfl) (za rfl (zk (W.sub (zc 26 rfl (zc 0 rfl (zc 1 rfl aI))) (W.condF rfl (zr (zm rfl (zm rfl (aE hs cf rfl rfl zo rfl (fun c51 hd51 hb51 => zq (aa rfl (zu 91) rfl (ai aG)) (za rfl (zk (aB rfl (fun hc48 => ?_) (fun hc48 => ?_))))))))))))))))
  ·refine zr (zm rfl (zm rfl (WO.callE rfl (aj rfl (aj rfl (aj (zu 0) oz))) rfl (fV _ hs zy _ zy _ zy) SubR.nil rfl (fun v56 hP56 => ?_))))
   obtain ⟨h56, rfl⟩ := hP56
   refine zm rfl (zq (Q.extract rfl rfl) (zq (Q.extract rfl rfl) (za rfl (za rfl (zk (W.sub (zc 5 rfl aI) (zr (zm rfl (za rfl (zk (W.ret (ah (ad (ae (z1 rfl) ?_))))))))))))))
   first | (exfalso; omega; done) | exact cP (by rw [co hi, if_neg hA, if_neg hB, if_pos zy, gR]; rfl)
  refine zr (zm rfl (zm rfl (aE hs cf rfl rfl zo rfl (fun c63 hd63 hb63 => zq (aa rfl (zu 40) rfl (ai aG)) (za rfl (zk (aB rfl (fun hc60 => ?_) (fun hc60 => ?_))))))))
  ·refine zr (zm rfl (zm rfl (WO.callE rfl (aj rfl (aj rfl oz)) rfl (mh _ hs zy _ zy zy) SubR.nil rfl (fun v67 hP67 => ?_))))
   obtain ⟨x, rfl, hx1, hx2⟩ := hP67
   refine za rfl (zk (W.sub (zc 7 rfl (zc 0 rfl (zc 1 rfl aI))) (W.seq (zr (zm rfl (zq (aa rfl (zi 0) rfl (bu (bS _ _))) (zm rfl (aC (d := 70) rfl (fun hc70 => ?_) (fun hc70 => ?_)))))))))
   ·refine z2 (z2 (z2 (zG (zq (aA rfl rfl) (zk (W.condT rfl (zr (za (zi 0) (zk (W.sub (zc 4 rfl aI) (W.ret (ad (ah (ad (ae (z1 rfl) ?_)))))))))))))))
    first | (exfalso; omega; done) | exact cP (by rw [co hi, if_neg hA, if_neg hB, if_neg zy, if_pos zy, hx1 zy]; rfl)
   obtain ⟨n, hn, rfl⟩ := hx2 zy
   have hnl := fg hn
   have hn0 := nM hn (by rw [cx]; show p.getD i 0 = 40; omega)
   simp only [List.length_drop] at hnl
   have hin : i + n - (i + 1) = n - 1 := zy
   refine zT (zm rfl (zT (zm rfl (zT (zq (aa rfl (zi 1) rfl zp) (zT (zm rfl (zT (zq (gi cf rfl rfl zo rfl) (zT (ak rfl (aj rfl oz) rfl (HR _ (Bytes.take (Bytes.drop hs _) _) zo zo) SubR.nil rfl (zT (zq (Q.not rfl rfl) (zq (aF rfl rfl) (zk (W.condS rfl (fun hc78 => ?_) (fun hc78 => ?_)))))))))))))))))
   ·refine zr (za (zi 0) (zk (W.sub (zc 4 rfl aI) (W.ret (ad (ah (ad (ae (z1 rfl) ?_))))))))
    first | (exfalso; omega; done) | exact cP (by rw [co hi, if_neg hA, if_neg hB, if_neg zy, if_pos zy, hn]; show iI i (if r ((p.drop (i + 1)).take (n - 1)) = true then some (n + 1) else none) = _; rw [<- hin, if_neg (by simpa using hc78)]; rfl)
   refine zw (zr (zm rfl (zq (aa rfl (zi 1) rfl zp) (za rfl (zk (W.sub (zc 4 rfl aI) (W.ret (ah (ad (ae (z1 rfl) ?_))))))))))
   first | (exfalso; omega; done) | exact cP (by rw [co hi, if_neg hA, if_neg hB, if_neg zy, if_pos zy, hn]; show iI i (if r ((p.drop (i + 1)).take (n - 1)) = true then some (n + 1) else none) = _; rw [<- hin, if_pos (by simpa using hc78)]; rfl)
  refine W.skip (End.KB (End.K (zr (za (zi 0) (zk (W.ret (ae (z1 rfl) ?_)))))))
  first | (exfalso; omega; done) | exact cP (by rw [co hi, if_neg hA, if_neg hB, if_neg zy, if_neg zy]; rfl)
 have hB : ¬ (p.getD i 0 = 92 /\ i + 1 < p.length /\ dL (p.getD (i + 1) 0) = false) := zy
 refine z2 (z2 (zG (zq (aF rfl rfl) (zm rfl (z2 (z2 (z2 (zq (aF rfl rfl) (za rfl (zk (W.sub (zc 26 rfl (zc 0 rfl (zc 1 rfl aI))) (W.condF rfl (zr (zm rfl (zm rfl (aE hs cf rfl rfl zo rfl (fun c51 hd51 hb51 => zq (aa rfl (zu 91) rfl (ai aG)) (za rfl ?_))))))))))))))))))
 refine zk (aB rfl (fun hc48 => ?_) (fun hc48 => ?_))
 ·refine zr (zm rfl (zm rfl (WO.callE rfl (aj rfl (aj rfl (aj (zu 0) oz))) rfl (fV _ hs zy _ zy _ zy) SubR.nil rfl (fun v56 hP56 => ?_))))
  obtain ⟨h56, rfl⟩ := hP56
  refine zm rfl (zq (Q.extract rfl rfl) (zq (Q.extract rfl rfl) (za rfl (za rfl (zk (W.sub (zc 5 rfl aI) (zr (zm rfl (za rfl (zk (W.ret (ah (ad (ae (z1 rfl) ?_))))))))))))))
  first | (exfalso; omega; done) | exact cP (by rw [co hi, if_neg hA, if_neg hB, if_pos zy, gR]; rfl)
 refine zr (zm rfl (zm rfl (aE hs cf rfl rfl zo rfl (fun c63 hd63 hb63 => zq (aa rfl (zu 40) rfl (ai aG)) (za rfl (zk (aB rfl (fun hc60 => ?_) (fun hc60 => ?_))))))))
 ·refine zr (zm rfl (zm rfl (WO.callE rfl (aj rfl (aj rfl oz)) rfl (mh _ hs zy _ zy zy) SubR.nil rfl (fun v67 hP67 => ?_))))
  obtain ⟨x, rfl, hx1, hx2⟩ := hP67
  refine za rfl (zk (W.sub (zc 7 rfl (zc 0 rfl (zc 1 rfl aI))) (W.seq (zr (zm rfl (zq (aa rfl (zi 0) rfl (bu (bS _ _))) (zm rfl (aC (d := 70) rfl (fun hc70 => ?_) (fun hc70 => ?_)))))))))
  ·refine z2 (z2 (z2 (zG (zq (aA rfl rfl) (zk (W.condT rfl (zr (za (zi 0) (zk (W.sub (zc 4 rfl aI) (W.ret (ad (ah (ad (ae (z1 rfl) ?_)))))))))))))))
   first | (exfalso; omega; done) | exact cP (by rw [co hi, if_neg hA, if_neg hB, if_neg zy, if_pos zy, hx1 zy]; rfl)
  obtain ⟨n, hn, rfl⟩ := hx2 zy
  have hnl := fg hn
  have hn0 := nM hn (by rw [cx]; show p.getD i 0 = 40; omega)
  simp only [List.length_drop] at hnl
  have hin : i + n - (i + 1) = n - 1 := zy
  refine zT (zm rfl (zT (zm rfl (zT (zq (aa rfl (zi 1) rfl zp) (zT (zm rfl (zT (zq (gi cf rfl rfl zo rfl) (zT (ak rfl (aj rfl oz) rfl (HR _ (Bytes.take (Bytes.drop hs _) _) zo zo) SubR.nil rfl (zT (zq (Q.not rfl rfl) (zq (aF rfl rfl) (zk (W.condS rfl (fun hc78 => ?_) (fun hc78 => ?_)))))))))))))))))
  ·refine zr (za (zi 0) (zk (W.sub (zc 4 rfl aI) (W.ret (ad (ah (ad (ae (z1 rfl) ?_))))))))
   first | (exfalso; omega; done) | exact cP (by rw [co hi, if_neg hA, if_neg hB, if_neg zy, if_pos zy, hn]; show iI i (if r ((p.drop (i + 1)).take (n - 1)) = true then some (n + 1) else none) = _; rw [<- hin, if_neg (by simpa using hc78)]; rfl)
  refine zw (zr (zm rfl (zq (aa rfl (zi 1) rfl zp) (za rfl (zk (W.sub (zc 4 rfl aI) (W.ret (ah (ad (ae (z1 rfl) ?_))))))))))
  first | (exfalso; omega; done) | exact cP (by rw [co hi, if_neg hA, if_neg hB, if_neg zy, if_pos zy, hn]; show iI i (if r ((p.drop (i + 1)).take (n - 1)) = true then some (n + 1) else none) = _; rw [<- hin, if_pos (by simpa using hc78)]; rfl)
 refine W.skip (End.KB (End.K (zr (za (zi 0) (zk (W.ret (ae (z1 rfl) ?_)))))))
 first | (exfalso; omega; done) | exact cP (by rw [co hi, if_neg hA, if_neg hB, if_neg zy, if_neg zy]; rfl)

theorem oP (p : List Nat) (hs : Bytes p) (hl : p.length <= 64) (r : List Nat -> Bool) (d : Nat) (HR : ∀ q : List Nat, Bytes q -> q.length <= 64 -> q.length < d -> Spec tab 162 [.str q] [] [] (bN (.bool (r q)))) (hd : p.length <= d) : Spec tab 209 [.str p] [] [] (Bv r p) := by
 refine ac (bz 209 Tryz.func209) rfl (m := 62) rfl (rs := [.tmp 2, .tmp 3]) rfl (st := [(0, .str p)]) rfl rfl (fun _ => rfl) (fun E => zr (za rfl (za rfl (zk (zr (za rfl (zk (zr (za (zi 0) (za (zi 0) (zk (W.seq (W.block (W.loop_ind6 (fun (fr : Nat) (a : Nat) (k : Nat) (acc : List (List Nat)) (v : AV) (hp : af) => [(0, .str p), (4, v), (5, .int .i64 ((fr : Nat) : Int)), (6, .int .i64 ((a : Nat) : Int))]) (fun (fr : Nat) (a : Nat) (k : Nat) (acc : List (List Nat)) (v : AV) (hp : af) => hp) (fun (fr : Nat) (a : Nat) (k : Nat) (acc : List (List Nat)) (v : AV) (hp : af) => a <= p.length /\ fr <= a /\ p.length - a < k /\ acc.length <= a /\ Own 1 (acc.map AV.str) acc.length v hp /\ eY r 100 [] p = (eY r k ((p.drop fr).take (a - fr)) (p.drop a)).map (acc ++ ·)) (fun (fr : Nat) (a : Nat) (k : Nat) (acc : List (List Nat)) (v : AV) (hp : af) => p.length - a) (0) (0) (100) ([]) (.nils) ([]) ⟨by omega, by omega, by omega, by simp, Own.nil 1, by simp⟩ zv (SubH.refl _) (fun fr a k acc v hp hI0 ih0 => ?_)))))))))))))))
 obtain ⟨ha, hf, hk, hla, hO, hv⟩ := hI0
 obtain ⟨k, rfl⟩ : ∃ q, k = q + 1 := ⟨k - 1, by omega⟩
 refine W.seq (zr (zm rfl (zm rfl (zq (Q.len cf rfl rfl) (zq (aa rfl rfl rfl (bu bY)) (zk (aB rfl (fun hc11 => ?_) (fun hc11 => ?_))))))))
 ·refine zw (W.block (W.seq (zr (zm rfl (zm rfl (aE hs cf rfl rfl zo rfl (fun c14 hd14 hb14 => zq (aa rfl (zu 124) rfl (ai aG)) (zk (aB rfl (fun hc15 => ?_) (fun hc15 => ?_))))))))))
  ·refine zr (zm rfl (zm rfl (zm rfl (zm rfl (zq (gi cf rfl rfl zo rfl) (WO.bslice mY C9 JE rfl (cy rfl dE) rfl (cs := [_]) rfl rfl rfl (fun b1 => cw (e := ⟨b1, _, true⟩) (A := []) wu hO rfl rfl rfl rfl ⟨by first | omega | (simp at * <;> omega), by first | omega | (simp at * <;> omega)⟩ (by decide) rfl rfl (fun v22 hp22 hO22 => za rfl (zk (W.sub (zc 4 rfl (zc 0 rfl (zc 6 rfl aI))) (zr (zm rfl (zq (aa rfl (zi 1) rfl zp) (za rfl (zk (zr (zm rfl (za rfl (zk (W.exit (am (ap (End.KL (W.sub zv (ih0 (a + 1) (a + 1) (k) (acc ++ [(p.drop fr).take (a - fr)]) (v22) (hp22) ?_ ?_)))))))))))))))))))))))))
   ·exact ⟨by omega, by omega, by omega, by simp; omega, by simpa using hO22, by rw [hv, jh zy, if_pos zy]; simp [Option.map_map, Function.comp_def]⟩
   exact zo
  refine zw (zr (zm rfl (zm rfl (ak rfl (aj rfl (aj rfl oz)) rfl (ql _ hs zy _ r d HR zy) SubR.nil rfl (za rfl (zk (W.seq (zr (zm rfl (zq (aa rfl (zi 0) rfl (ai aG)) (zk (aB rfl (fun hc30 => ?_) (fun hc30 => ?_)))))))))))))
  ·refine zr (za rfl (za rfl (zk (W.sub (zc 3 rfl (zc 2 rfl aI)) (W.ret ?_)))))
   refine ad (ah (aU (ah (ad (End.ret (ResL.tmp rfl (z1 rfl)) (hs' := []) (Gj (by rw [hv, jh zy, if_neg zy, yV zy]; rfl)) (fun e h => sx h) (SubH.nil _))))))
  obtain ⟨n, hn, hn0, hnl, hne⟩ := yW (r := r) (p := p) (i := a) zy
  rw [hne]
  refine zw (W.sub (zc 7 rfl (zc 0 rfl (zc 4 rfl (zc 5 rfl aI)))) (zr (zm rfl (za rfl (zk (zr (zm rfl (zm rfl (zq (Q.len cf rfl rfl) (zq (aa rfl rfl rfl (bu bY)) (zm rfl (aC (d := 36) rfl (fun hc36 => ?_) (fun hc36 => ?_)))))))))))))
  ·refine zT (zm rfl (zT (zm rfl (zT (aE hs cf rfl rfl zo rfl (fun c39 hd39 hb39 => zT (zq (aa rfl (zu 42) rfl (ai aG)) (zT (zm rfl (aC (d := 41) rfl (fun hc41 => ?_) (fun hc41 => ?_)))))))))))
   ·refine z2 (z2 (zT (zq (aA rfl rfl) (zT (zm rfl (z2 (z2 (zT (zq (aA rfl rfl) (zq (aA rfl rfl) (zk (W.sub (zc 53 rfl (zc 6 rfl (zc 0 rfl (zc 4 rfl (zc 5 rfl aI))))) (W.condT rfl (W.reg (zm rfl (zq (aa rfl (zi 1) rfl zp) (za rfl (WO.nil (End.KB (End.KL ?_))))))))))))))))))))
    refine W.sub zv (ih0 (fr) (a + n + 1) (k) (acc) (v) (hp) ?_ ?_)
    ·exact ⟨by omega, by omega, by omega, by omega, hO, by rw [hv, jh zy, if_neg zy, hn]; show Option.map _ (if a + n < p.length /\ (p.getD (a + n) 0 = 42 \/ p.getD (a + n) 0 = 43 \/ p.getD (a + n) 0 = 63) then _ else _) = _; rw [if_pos zy, lT zy]; rfl⟩
    exact zo
   refine zT (zm rfl (zT (zm rfl (zT (aE hs cf rfl rfl zo rfl (fun c44 hd44 hb44 => zT (zq (aa rfl (zu 43) rfl (ai aG)) (zT (zq (aF rfl rfl) (zT (zm rfl (aC (d := 47) rfl (fun hc47 => ?_) (fun hc47 => ?_)))))))))))))
   ·refine z2 (z2 (zT (zq (aA rfl rfl) (zq (aA rfl rfl) (zk (W.sub (zc 53 rfl (zc 6 rfl (zc 0 rfl (zc 4 rfl (zc 5 rfl aI))))) (W.condT rfl (W.reg (zm rfl (zq (aa rfl (zi 1) rfl zp) (za rfl (WO.nil (End.KB (End.KL (W.sub zv (ih0 (fr) (a + n + 1) (k) (acc) (v) (hp) ?_ ?_))))))))))))))))
    ·exact ⟨by omega, by omega, by omega, by omega, hO, by rw [hv, jh zy, if_neg zy, hn]; show Option.map _ (if a + n < p.length /\ (p.getD (a + n) 0 = 42 \/ p.getD (a + n) 0 = 43 \/ p.getD (a + n) 0 = 63) then _ else _) = _; rw [if_pos zy, lT zy]; rfl⟩
    exact zo
   refine zT (zm rfl (zT (zm rfl (zT (aE hs cf rfl rfl zo rfl (fun c50 hd50 hb50 => zT (zq (aa rfl (zu 63) rfl (ai aG)) (zT (zq (aF rfl rfl) (zq (aA rfl rfl) (zk (W.sub (zc 53 rfl (zc 6 rfl (zc 0 rfl (zc 4 rfl (zc 5 rfl aI))))) (aB rfl (fun hc53 => ?_) (fun hc53 => ?_))))))))))))))
   ·refine W.reg (zm rfl (zq (aa rfl (zi 1) rfl zp) (za rfl (WO.nil (End.KB (End.KL (W.sub zv (ih0 (fr) (a + n + 1) (k) (acc) (v) (hp) ?_ ?_))))))))
    ·exact ⟨by omega, by omega, by omega, by omega, hO, by rw [hv, jh zy, if_neg zy, hn]; show Option.map _ (if a + n < p.length /\ (p.getD (a + n) 0 = 42 \/ p.getD (a + n) 0 = 43 \/ p.getD (a + n) 0 = 63) then _ else _) = _; rw [if_pos zy, lT zy]; rfl⟩
    exact zo
   refine W.skip (End.KB (End.KL (W.sub zv (ih0 (fr) (a + n) (k) (acc) (v) (hp) ?_ ?_))))
   ·exact ⟨by omega, by omega, by omega, by omega, hO, by rw [hv, jh zy, if_neg zy, hn]; show Option.map _ (if a + n < p.length /\ (p.getD (a + n) 0 = 42 \/ p.getD (a + n) 0 = 43 \/ p.getD (a + n) 0 = 63) then _ else _) = _; rw [if_neg zy, lT zy]⟩
   exact zo
  refine z2 (z2 (zG (aW rfl rfl (.inr rfl) rfl (aW rfl rfl (.inr rfl) rfl (aW rfl rfl (.inr rfl) rfl (aW rfl rfl (.inr rfl) rfl (z2 (aW rfl rfl (.inr rfl) rfl (aW rfl rfl (.inr rfl) rfl (aW rfl rfl (.inr rfl) rfl (aW rfl rfl (.inr rfl) rfl (zG (zq (aF rfl rfl) (zk (W.sub (zc 53 rfl (zc 6 rfl (zc 0 rfl (zc 4 rfl (zc 5 rfl aI))))) (W.condF rfl (W.skip (End.KB (End.KL (W.sub zv (ih0 (fr) (a + n) (k) (acc) (v) (hp) ?_ ?_)))))))))))))))))))))
  ·exact ⟨by omega, by omega, by omega, by omega, hO, by rw [hv, jh zy, if_neg zy, hn]; show Option.map _ (if a + n < p.length /\ (p.getD (a + n) 0 = 42 \/ p.getD (a + n) 0 = 43 \/ p.getD (a + n) 0 = 63) then _ else _) = _; rw [if_neg zy, lT zy]⟩
  exact zo
 refine W.exit (am (aq (ap (End.K (zr (zm rfl (zm rfl (zm rfl (zq (gi cf rfl rfl zo Jn) (WO.bslice mY C9 JE rfl (cy rfl dE) rfl (cs := [_]) rfl rfl rfl (fun b3 => cw (e := ⟨b3, _, true⟩) (A := []) wu hO rfl rfl rfl rfl ⟨by first | omega | (simp at * <;> omega), by first | omega | (simp at * <;> omega)⟩ (by decide) rfl rfl (fun v61 hp61 hO61 => ?_))))))))))))
 obtain ⟨b61, ex61, rfl, rfl⟩ := hO61.full zy
 refine za rfl (za rfl (zk (W.sub (zc 3 rfl (zc 2 rfl aI)) (W.ret ?_))))
 refine End.ret (ResL.tmp rfl (z1 rfl)) (hs' := [⟨b61, ⟨1, ex61, (acc.map AV.str) ++ [.str (p.drop fr)]⟩, true⟩]) (D9 (L := acc ++ [p.drop fr]) (by rw [hv, Bu zy, D5 zy]; rfl) (by simp) (by simp)) zW (SubH.of_sublist (by simp))

theorem um (p : List Nat) (hs : Bytes p) (hl : p.length <= 64) (d : Nat) (HR : ∀ q : List Nat, Bytes q -> q.length <= 64 -> q.length < d -> Spec tab 162 [.str q] [] [] (bN (.bool (dm d q)))) (hd : p.length <= d) : Spec tab 162 [.str p] [] [] (bN (.bool (dm (d + 1) p))) := by
 refine ac (bz 162 Tryz.func162) rfl (m := 11) rfl (rs := [.tmp 2]) rfl (st := [(0, .str p)]) rfl rfl (fun _ => rfl) (fun E => zr (za rfl (zk (zr (zm rfl (WO.call0 rfl (aj rfl oz) rfl (oP p hs hl (dm d) d HR hd) SubR.nil rfl (fun v7 D7 hP7 => ?_)))))))
 obtain ⟨vc, rfl⟩ := D8 hP7
 refine WO.subH (hs' := (D7)) (SubH.op (aw (N := []) (G := D7) (K := []) (X := []))) (zm rfl (zq (Q.extract rfl rfl) (zq (Q.extract rfl rfl) (za rfl (za rfl (zk (zr (zm rfl (za rfl (zk (W.ret (ae (z1 rfl) ?_))))))))))))
 rfl
end Go.Proofs.YtfkbfnpjggkdmaaGreatDoor.Ev.P7
