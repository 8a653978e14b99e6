/- Chapter 7, by the document: where a text ends in an alternative. -/
import Derived.Test.YtfkbfnpjggkdmaaGreatDoorOVg
namespace Go.Proofs.YtfkbfnpjggkdmaaGreatDoor.Ev.P7
open Go.RowKit
set_option maxRecDepth 100000
set_option maxHeartbeats 1000000
theorem Alt.at_ {r : List Nat → Bool} {p : List Nat} {i : Nat} (h : Alt r (p.drop i)) (hi : i < p.length) : ∃ n, atomF r (p.drop i) = some n ∧ 0 < n ∧ i + n ≤ p.length ∧
  (i + n < p.length → isM (p.getD (i + n) 0) → Alt r (p.drop (i + n + 1))) ∧ (¬ (i + n < p.length ∧ isM (p.getD (i + n) 0)) → Alt r (p.drop (i + n))) := by
 have hne := drop_ne hi
 have e1 : ∀ n, (p.drop i).getD n 0 = p.getD (i + n) 0 := fun n => drop_getD
 have e2 : ∀ n, (p.drop i).drop n = p.drop (i + n) := fun n => List.drop_drop ..
 have e3 : (p.drop i).length = p.length - i := List.length_drop ..
 generalize hq : p.drop i = l at h hne e1 e2 e3
 cases h with
 | nil => exact absurd rfl hne
 | @mark _ n h1 h2 h3 h4 =>
  have := atomF_len h1
  exact ⟨n, h1, this.1, by omega, fun _ _ => by rw [e2] at h4; exact h4, fun g => absurd (And.intro (by omega) (by rw [← e1]; exact h3)) g⟩
 | @bare _ n h1 h2 h3 =>
  have := atomF_len h1
  exact ⟨n, h1, this.1, by omega, fun g1 g2 => absurd (And.intro (by omega) (by rw [e1]; exact g2)) h2, fun _ => by rw [e2] at h3; exact h3⟩
theorem atom_at (p : List Nat) (hs : Bytes p) (hl : p.length ≤ 64) (i : Nat) (r : List Nat → Bool) (d : Nat) (HR : ∀ q : List Nat, Bytes q → q.length ≤ 64 → q.length < d → Spec tab 162 [.str q] [] [] (Val (.bool (r q)))) (hd : p.length ≤ d) {n : Nat} (hn : atomF r (p.drop i) = some n) :
  Spec tab 250 [.str p, .int .i64 ((i : Nat) : Int)] [] [] (Val (.int .i64 ((i + n : Nat) : Int))) := by
 have := atom_spec p hs hl i r d HR hd
 rw [hn] at this
 exact this
theorem piece_in {r : List Nat → Bool} {l : List Nat} {n m : Nat} (h : atomF r l = some n) (hm : m = n) : (l.take m).getD 0 0 = 40 → 2 ≤ (l.take m).length ∧ r (((l.take m).drop 1).take ((l.take m).length - 1 - 1)) = true := by
 subst hm
 intro h40
 have hn := atomF_len h
 rw [take_getD (by omega)] at h40
 unfold atomF at h
 by_cases h0 : l = []
 ·rw [if_pos h0] at h; exact absurd h (by simp)
 have hp : ¬ (l.getD 0 0 = 46 ∨ plainB (l.getD 0 0) = true) := by
  rw [h40]
  decide
 rw [if_neg h0, if_neg hp, if_neg (by omega), if_neg (by omega), if_pos h40] at h
 cases e : cloF 100 0 l with
 | none => rw [e] at h; exact absurd h (by simp)
 | some q =>
  rw [e] at h
  simp only at h
  by_cases h5 : r ((l.drop 1).take (q - 1)) = true
  ·rw [if_pos h5] at h
   have hq := Option.some.inj h
   have hq0 := clo_pos e h40
   have hl : (l.take m).length = m := by rw [List.length_take]; omega
   refine ⟨by omega, ?_⟩
   rw [hl, List.drop_take, List.take_take, show min (m - 1 - 1) (m - 1) = q - 1 from by omega]
   exact h5
  ·rw [if_neg h5] at h; exact absurd h (by simp)
theorem piece_92 {r : List Nat → Bool} {l : List Nat} {n m : Nat} (h : atomF r l = some n) (hm : m = n) : (l.take m).getD 0 0 = 92 → 2 ≤ (l.take m).length := by
 subst hm
 intro h92
 have hn := atomF_len h
 rw [take_getD (by omega)] at h92
 rw [List.length_take]
 unfold atomF at h
 by_cases h0 : l = []
 ·rw [if_pos h0] at h; exact absurd h (by simp)
 have hp : ¬ (l.getD 0 0 = 46 ∨ plainB (l.getD 0 0) = true) := by
  rw [h92]
  decide
 rw [if_neg h0, if_neg hp] at h
 split at h
 ·rename_i g
  have := Option.some.inj h
  omega
 ·rw [if_neg (by omega), if_neg (by omega)] at h; exact absurd h (by simp)
theorem alt_spec (p : List Nat) (hs : Bytes p) (hl : p.length ≤ 64) (s : List Nat) (hS : Bytes s) (hsl : s.length ≤ 64) (r : List Nat → Bool) (d : Nat) (HE : ∀ q : List Nat, Bytes q → q.length ≤ 64 → q.length < d → r q = true → ∀ (hs : HSt) (v : AV), (∀ e ∈ hs, e.w = false) → ZV s.length hs v → Spec tab 211 [.str q, .str s, v] [] hs (ZQ s.length)) (HR : ∀ q : List Nat, Bytes q → q.length ≤ 64 → q.length < d → Spec tab 162 [.str q] [] [] (Val (.bool (r q)))) (hd : p.length ≤ d) (hA : Alt r p) (gs : HSt) (hro : ∀ e ∈ gs, e.w = false) (v : AV) (hz : ZV s.length gs v) : Spec tab 253 [.str p, .str s, v] [] gs (fun v D => ZV s.length (gs ++ D) v ∧ ∀ e ∈ D, e.w = true) := by
 refine Spec.en (ftg 253 Tryz.func253) rfl (m := 56) rfl (rs := [.tmp 6]) rfl (st := [(0, .str p), (1, .str s), (2, v)]) rfl rfl (fun _ => rfl) (fun E => ?_)
 refine W.seq ?_
 refine W.reg ?_
 refine WO.q (Q.assign rfl) rfl ?_
 refine WO.nil ?_
 refine End.K ?_
 refine W.seq ?_
 refine W.reg ?_
 refine WO.q (Q.assign (oc (v := .int .i64 ((0 : Nat) : Int)) rfl)) rfl ?_
 refine WO.nil ?_
 refine End.K ?_
 refine W.seq ?_
 refine W.block ?_
 refine W.loop_ind3 (fun (i : Nat) (v : AV) (G : HSt) => [(0, .str p), (1, .str s), (2, v), (7, .int .i64 ((i : Nat) : Int))]) (fun (i : Nat) (v : AV) (G : HSt) => gs ++ G) (fun (i : Nat) (v : AV) (G : HSt) => Alt r (p.drop i) ∧ i ≤ p.length ∧ ZV s.length (gs ++ G) v ∧ ∀ e ∈ G, e.w = true) (fun (i : Nat) (v : AV) (G : HSt) => p.length - i) (0) (v) ([]) ⟨hA, by omega, by simpa using hz, fun e h => no_w h⟩ (SubS.cons rfl (SubS.cons rfl (SubS.cons rfl (SubS.cons rfl (SubS.nil _))))) (SubH.of_sublist (by simp)) (fun i v G hI0 ih0 => ?_)
 obtain ⟨hA, hi, hz, hG⟩ := hI0
 refine W.seq ?_
 refine W.seq ?_
 refine W.reg ?_
 refine WO.q (Q.move rfl) rfl ?_
 refine WO.q (Q.move rfl) rfl ?_
 refine WO.q (Q.len ud9 rfl rfl) rfl ?_
 refine WO.q (Q.bin rfl rfl rfl (bvl ltn)) rfl ?_
 refine WO.nil ?_
 refine End.K ?_
 refine W.cD rfl (fun hc13 => ?_) (fun hc13 => ?_)
 ·skip -- L0T
  obtain ⟨n, hn, hn0, hnl, hm1, hm2⟩ := hA.at_ (by omega)
  refine W.skip ?_
  refine End.K ?_
  refine W.block ?_
  refine W.seq ?_
  refine W.reg ?_
  refine WO.q (Q.move rfl) rfl ?_
  refine WO.q (Q.move rfl) rfl ?_
  refine WO.cV rfl (oLc rfl (oLc rfl oz)) rfl (atom_at p hs hl i r d HR hd hn) SubR.nil rfl ?_
  refine WO.q (Q.assign rfl) rfl ?_
  refine WO.nil ?_
  refine End.K ?_
  refine W.seq ?_
  refine W.reg ?_
  refine WO.q (Q.assign (oc (v := .int .u8 ((0 : Nat) : Int)) rfl)) rfl ?_
  refine WO.nil ?_
  refine End.K ?_
  refine W.seqK1 (fun (c : Nat) => [(0, .str p), (1, .str s), (2, v), (7, .int .i64 ((i : Nat) : Int)), (8, .int .i64 ((i + n : Nat) : Int)), (9, .int .u8 ((c : Nat) : Int))]) (fun (c : Nat) => c < 256 ∧ ((c ≠ 0 ∧ Alt r (p.drop (i + n + 1)) ∧ i + n < p.length) ∨ (c = 0 ∧ Alt r (p.drop (i + n))))) (fun c hI7 => ?_) (fun hJ7 => ?_)
  ·skip -- L0TJ7
   obtain ⟨hcb, hc⟩ := hI7
   refine W.seq ?_
   refine W.reg ?_
   refine WO.q (Q.move rfl) rfl ?_
   refine WO.q (Q.move rfl) rfl ?_
   refine WO.q (Q.move rfl) rfl ?_
   refine WO.q (Q.sliceS ud9 rfl rfl zo rfl) rfl ?_
   refine WO.q (Q.move rfl) rfl ?_
   refine WO.q (Q.move rfl) rfl ?_
   refine WO.q (Q.move rfl) rfl ?_
   refine WO.call0 rfl (oLc rfl (oLc rfl (oLc rfl (oLc rfl oz)))) rfl (piece_spec s hS hsl r d HE _ (Bytes.take (Bytes.drop hs _) _) zo zo zo (piece_in hn (by omega)) (piece_92 hn (by omega)) c hcb (ro (gs ++ G)) ro_w v hz.ro) (SubR.ro (SubH.refl _)) rfl (fun v49 D49 hP49 => ?_)
   refine WO.subH (hs' := (gs ++ G ++ D49)) (SubH.op (perm_tail (N := []) (G := D49) (K := []) (X := gs ++ G))) ?_
   refine WO.q (Q.assign rfl) rfl ?_
   refine WO.nil ?_
   refine End.K ?_
   refine W.seq ?_
   refine W.reg ?_
   refine WO.q (Q.move rfl) rfl ?_
   refine WO.q (Q.assign rfl) rfl ?_
   refine WO.nil ?_
   refine End.K ?_
   refine W.seq ?_
   refine W.reg ?_
   refine WO.q (Q.move rfl) rfl ?_
   refine WO.q (Q.bin rfl (oc (v := .int .u8 ((0 : Nat) : Int)) rfl) rfl (bv_neq ne_nat)) rfl ?_
   refine WO.nil ?_
   refine End.K ?_
   refine W.cD rfl (fun hc52 => ?_) (fun hc52 => ?_)
   ·skip -- L0TJ7T
    refine W.reg ?_
    refine WO.q (Q.move rfl) rfl ?_
    refine WO.q (Q.bin rfl (oc (v := .int .i64 ((1 : Nat) : Int)) rfl) rfl (bv_add (wna zo))) rfl ?_
    refine WO.q (Q.assign rfl) rfl ?_
    refine WO.nil ?_
    refine End.KB (End.KL ?_)
    refine W.sub (SubS.cons rfl (SubS.cons rfl (SubS.cons rfl (SubS.cons rfl (SubS.nil _))))) (W.sH (SubH.of_sublist (by simp)) (ih0 (i + n + 1) (v49) (D49) ?_ ?_))
    ·exact ⟨by rcases hc with ⟨_, g, _⟩ | ⟨g, _⟩; exact g; omega, by omega, (hP49.1).appr, hP49.2⟩
    ·exact zo
   ·skip -- L0TJ7F
    refine W.skip ?_
    refine End.KB (End.KL ?_)
    refine W.sub (SubS.cons rfl (SubS.cons rfl (SubS.cons rfl (SubS.cons rfl (SubS.nil _))))) (W.sH (SubH.of_sublist (by simp)) (ih0 (i + n) (v49) (D49) ?_ ?_))
    ·exact ⟨by rcases hc with ⟨g, _⟩ | ⟨_, g⟩; omega; exact g, by omega, (hP49.1).appr, hP49.2⟩
    ·exact zo
  ·skip
   refine W.seq ?_
   refine W.reg ?_
   refine WO.q (Q.move rfl) rfl ?_
   refine WO.q (Q.move rfl) rfl ?_
   refine WO.q (Q.len ud9 rfl rfl) rfl ?_
   refine WO.q (Q.bin rfl rfl rfl (bvl ltn)) rfl ?_
   refine WO.q (Q.move rfl) rfl ?_
   refine WO.sD (d := 21) rfl (fun hc21 => ?_) (fun hc21 => ?_)
   ·skip -- L0Tt
    refine WO.gT rfl rfl ?_
    refine WO.q (Q.move rfl) rfl ?_
    refine WO.gT rfl rfl ?_
    refine WO.q (Q.move rfl) rfl ?_
    refine WO.gT rfl rfl ?_
    refine WO.indexB hs ud9 rfl rfl zo rfl (fun c24 hd24 hb24 => ?_)
    refine WO.gT rfl rfl ?_
    refine WO.q (Q.bin rfl (oc (v := .int .u8 ((42 : Nat) : Int)) rfl) rfl (bv_eql eq_nat)) rfl ?_
    refine WO.gT rfl rfl ?_
    refine WO.q (Q.move rfl) rfl ?_
    refine WO.sD (d := 26) rfl (fun hc26 => ?_) (fun hc26 => ?_)
    ·skip -- L0Ttt
     refine WO.gF rfl rfl (.inl rfl) rfl ?_
     refine WO.gF rfl rfl (.inl rfl) rfl ?_
     refine WO.gF rfl rfl (.inl rfl) rfl ?_
     refine WO.gF rfl rfl (.inl rfl) rfl ?_
     refine WO.gT rfl rfl ?_
     refine WO.q (Q.pT rfl rfl) rfl ?_
     refine WO.gT rfl rfl ?_
     refine WO.q (Q.move rfl) rfl ?_
     refine WO.gF rfl rfl (.inl rfl) rfl ?_
     refine WO.gF rfl rfl (.inl rfl) rfl ?_
     refine WO.gF rfl rfl (.inl rfl) rfl ?_
     refine WO.gF rfl rfl (.inl rfl) rfl ?_
     refine WO.gT rfl rfl ?_
     refine WO.q (Q.pT rfl rfl) rfl ?_
     refine WO.q (Q.pT rfl rfl) rfl ?_
     refine WO.nil ?_
     refine End.K ?_
     refine W.sub (SubS.cons (k := 38) rfl (SubS.cons (k := 9) rfl (SubS.cons (k := 8) rfl (SubS.cons (k := 0) rfl (SubS.cons (k := 1) rfl (SubS.cons (k := 2) rfl (SubS.cons (k := 7) rfl (SubS.nil _)))))))) ?_
     refine W.condT rfl ?_
     refine W.reg ?_
     refine WO.q (Q.move rfl) rfl ?_
     refine WO.q (Q.move rfl) rfl ?_
     refine WO.indexB hs ud9 rfl rfl zo rfl (fun c41 hd41 hb41 => ?_)
     refine WO.q (Q.assign rfl) rfl ?_
     refine WO.nil ?_
     refine End.K (W.sub (SubS.cons rfl (SubS.cons rfl (SubS.cons rfl (SubS.cons rfl (SubS.cons rfl (SubS.cons rfl (SubS.nil _))))))) (hJ7 (_) ?_))
     exact ⟨hb41, .inl ⟨by omega, hm1 (by omega) (by unfold isM; omega), by omega⟩⟩
    ·skip -- L0Ttf
     refine WO.gT rfl rfl ?_
     refine WO.q (Q.move rfl) rfl ?_
     refine WO.gT rfl rfl ?_
     refine WO.q (Q.move rfl) rfl ?_
     refine WO.gT rfl rfl ?_
     refine WO.indexB hs ud9 rfl rfl zo rfl (fun c29 hd29 hb29 => ?_)
     refine WO.gT rfl rfl ?_
     refine WO.q (Q.bin rfl (oc (v := .int .u8 ((43 : Nat) : Int)) rfl) rfl (bv_eql eq_nat)) rfl ?_
     refine WO.gT rfl rfl ?_
     refine WO.q (Q.pF rfl rfl) rfl ?_
     refine WO.gT rfl rfl ?_
     refine WO.q (Q.move rfl) rfl ?_
     refine WO.sD (d := 32) rfl (fun hc32 => ?_) (fun hc32 => ?_)
     ·skip -- L0Ttft
      refine WO.gF rfl rfl (.inl rfl) rfl ?_
      refine WO.gF rfl rfl (.inl rfl) rfl ?_
      refine WO.gF rfl rfl (.inl rfl) rfl ?_
      refine WO.gF rfl rfl (.inl rfl) rfl ?_
      refine WO.gT rfl rfl ?_
      refine WO.q (Q.pT rfl rfl) rfl ?_
      refine WO.q (Q.pT rfl rfl) rfl ?_
      refine WO.nil ?_
      refine End.K ?_
      refine W.sub (SubS.cons (k := 38) rfl (SubS.cons (k := 9) rfl (SubS.cons (k := 8) rfl (SubS.cons (k := 0) rfl (SubS.cons (k := 1) rfl (SubS.cons (k := 2) rfl (SubS.cons (k := 7) rfl (SubS.nil _)))))))) ?_
      refine W.condT rfl ?_
      refine W.reg ?_
      refine WO.q (Q.move rfl) rfl ?_
      refine WO.q (Q.move rfl) rfl ?_
      refine WO.indexB hs ud9 rfl rfl zo rfl (fun c41 hd41 hb41 => ?_)
      refine WO.q (Q.assign rfl) rfl ?_
      refine WO.nil ?_
      refine End.K (W.sub (SubS.cons rfl (SubS.cons rfl (SubS.cons rfl (SubS.cons rfl (SubS.cons rfl (SubS.cons rfl (SubS.nil _))))))) (hJ7 (_) ?_))
      exact ⟨hb41, .inl ⟨by omega, hm1 (by omega) (by unfold isM; omega), by omega⟩⟩
     ·skip -- L0Ttff
      refine WO.gT rfl rfl ?_
      refine WO.q (Q.move rfl) rfl ?_
      refine WO.gT rfl rfl ?_
      refine WO.q (Q.move rfl) rfl ?_
      refine WO.gT rfl rfl ?_
      refine WO.indexB hs ud9 rfl rfl zo rfl (fun c35 hd35 hb35 => ?_)
      refine WO.gT rfl rfl ?_
      refine WO.q (Q.bin rfl (oc (v := .int .u8 ((63 : Nat) : Int)) rfl) rfl (bv_eql eq_nat)) rfl ?_
      refine WO.gT rfl rfl ?_
      refine WO.q (Q.pF rfl rfl) rfl ?_
      refine WO.q (Q.pT rfl rfl) rfl ?_
      refine WO.nil ?_
      refine End.K ?_
      refine W.sub (SubS.cons (k := 38) rfl (SubS.cons (k := 9) rfl (SubS.cons (k := 8) rfl (SubS.cons (k := 0) rfl (SubS.cons (k := 1) rfl (SubS.cons (k := 2) rfl (SubS.cons (k := 7) rfl (SubS.nil _)))))))) ?_
      refine W.cD rfl (fun hc38 => ?_) (fun hc38 => ?_)
      ·skip -- L0TtffT
       refine W.reg ?_
       refine WO.q (Q.move rfl) rfl ?_
       refine WO.q (Q.move rfl) rfl ?_
       refine WO.indexB hs ud9 rfl rfl zo rfl (fun c41 hd41 hb41 => ?_)
       refine WO.q (Q.assign rfl) rfl ?_
       refine WO.nil ?_
       refine End.K (W.sub (SubS.cons rfl (SubS.cons rfl (SubS.cons rfl (SubS.cons rfl (SubS.cons rfl (SubS.cons rfl (SubS.nil _))))))) (hJ7 (_) ?_))
       exact ⟨hb41, .inl ⟨by omega, hm1 (by omega) (by unfold isM; omega), by omega⟩⟩
      ·skip -- L0TtffF
       refine W.skip ?_
       refine End.K (W.sub (SubS.cons rfl (SubS.cons rfl (SubS.cons rfl (SubS.cons rfl (SubS.cons rfl (SubS.cons rfl (SubS.nil _))))))) (hJ7 (_) ?_))
       exact ⟨by omega, .inr ⟨rfl, hm2 (by unfold isM; omega)⟩⟩
   ·skip -- L0Tf
    refine WO.gF rfl rfl (.inl rfl) rfl ?_
    refine WO.gF rfl rfl (.inl rfl) rfl ?_
    refine WO.gF rfl rfl (.inl rfl) rfl ?_
    refine WO.gF rfl rfl (.inl rfl) rfl ?_
    refine WO.gF rfl rfl (.inl rfl) rfl ?_
    refine WO.gF rfl rfl (.inr rfl) rfl ?_
    refine WO.gF rfl rfl (.inr rfl) rfl ?_
    refine WO.gF rfl rfl (.inr rfl) rfl ?_
    refine WO.gF rfl rfl (.inr rfl) rfl ?_
    refine WO.gF rfl rfl (.inl rfl) rfl ?_
    refine WO.gF rfl rfl (.inl rfl) rfl ?_
    refine WO.gF rfl rfl (.inr rfl) rfl ?_
    refine WO.gF rfl rfl (.inr rfl) rfl ?_
    refine WO.gF rfl rfl (.inr rfl) rfl ?_
    refine WO.gF rfl rfl (.inr rfl) rfl ?_
    refine WO.gF rfl rfl (.inl rfl) rfl ?_
    refine WO.q (Q.pF rfl rfl) rfl ?_
    refine WO.nil ?_
    refine End.K ?_
    refine W.sub (SubS.cons (k := 38) rfl (SubS.cons (k := 9) rfl (SubS.cons (k := 8) rfl (SubS.cons (k := 0) rfl (SubS.cons (k := 1) rfl (SubS.cons (k := 2) rfl (SubS.cons (k := 7) rfl (SubS.nil _)))))))) ?_
    refine W.condF rfl ?_
    refine W.skip ?_
    refine End.K (W.sub (SubS.cons rfl (SubS.cons rfl (SubS.cons rfl (SubS.cons rfl (SubS.cons rfl (SubS.cons rfl (SubS.nil _))))))) (hJ7 (_) ?_))
    exact ⟨by omega, .inr ⟨rfl, hm2 (by unfold isM; omega)⟩⟩
 ·skip -- L0F
  refine W.exit ?_
  refine End.Kx (End.Lx (End.Bh (End.K ?_)))
  refine W.seq ?_
  refine W.reg ?_
  refine WO.q (Q.move rfl) rfl ?_
  refine WO.q (Q.assign rfl) rfl ?_
  refine WO.nil ?_
  refine End.K ?_
  refine W.ret ?_
  refine End.ret (ResL.tmp rfl ResL.nil) (hs' := G) ⟨hz, hG⟩ hG (SubH.of_sublist (by simp))
theorem ZV.tl {N : Nat} {hs : HSt} {e : HE} {v : AV} (h : ZV N hs v) : ZV N (e :: hs) v := h.mono fun b o ⟨w, g⟩ => ⟨w, List.mem_cons_of_mem _ g⟩
theorem is_len_eq {hs : HSt} {A : List Nat} {v : AV} (h : IS hs A 0 v) : zn v = A.length := by
 rcases h with ⟨rfl, rfl⟩ | ⟨b, ex, rfl, _⟩ <;> rfl
theorem strs_at {L : List (List Nat)} {i : Nat} (h : i < L.length) : (L.map AV.str)[(0 + i) * 1]? = some (.str (L.getD i [])) := by
 rw [Nat.zero_add, Nat.mul_one, List.getElem?_map, List.getD_eq_getElem?_getD, List.getElem?_eq_getElem h]; rfl
theorem zv_alt {N : Nat} {e : HE} {A D : HSt} {v : AV} (h : ZV N (Ev.ro (e :: A) ++ D) v) : ZV N (Ev.ro (e :: (A ++ D))) v := by
 refine h.mono fun b o ⟨w, h2⟩ => ?_
 rcases List.mem_append.1 h2 with g | g
 ·obtain ⟨x, hx, ex⟩ := List.mem_map.1 g
  have hw : false = w := congrArg HE.w ex
  subst hw
  refine ⟨false, List.mem_map.2 ⟨x, ?_, ex⟩⟩
  rcases List.mem_cons.1 hx with rfl | hx
  ·exact List.mem_cons_self
  ·exact List.mem_cons_of_mem _ (List.mem_append_left _ hx)
 ·exact ⟨false, List.mem_map.2 ⟨_, List.mem_cons_of_mem _ (List.mem_append_right _ g), rfl⟩⟩
theorem cut_some {d : Nat} {p : List Nat} {v : AV} {D : HSt} (hR : rightF (d + 1) p = true) (h : cutP (rightF d) p v D) :
  ∃ L b ex, cutF (rightF d) 100 [] p = some L ∧ v = .tuple [.slice b 0 L.length 1, .bool true] ∧ D = [⟨b, ⟨1, ex, L.map AV.str⟩, true⟩] := by
 rcases h with ⟨h1, _⟩ | h
 ·unfold rightF at hR
  rw [h1] at hR
  exact absurd hR (by simp)
 ·exact h
theorem cut_len {r : List Nat → Bool} : ∀ {k : Nat} {cur l : List Nat} {L : List (List Nat)}, cutF r k cur l = some L → L.length ≤ k
 | 0, _, _, _, h => by simp [cutF] at h
 | k + 1, cur, l, L, h => by
  unfold cutF at h
  by_cases h0 : l = []
  ·rw [if_pos h0] at h
   have := Option.some.inj h
   subst this
   simp
  rw [if_neg h0] at h
  by_cases h1 : l.getD 0 0 = 124
  ·rw [if_pos h1] at h
   obtain ⟨M, hM, rfl⟩ := Option.map_eq_some_iff.1 h
   have := cut_len hM
   simp
   omega
  rw [if_neg h1] at h
  cases e : atomF r l with
  | none => rw [e] at h; exact absurd h (by simp)
  | some n =>
   rw [e] at h
   simp only at h
   split at h
   ·have := cut_len h; omega
   ·have := cut_len h; omega
theorem cut_sub {r : List Nat → Bool} : ∀ {k : Nat} {cur l : List Nat} {L : List (List Nat)}, cutF r k cur l = some L → ∀ x ∈ L, x.length ≤ cur.length + l.length ∧ ∀ c ∈ x, c ∈ cur ∨ c ∈ l
 | 0, _, _, _, h => by simp [cutF] at h
 | k + 1, cur, l, L, h => by
  unfold cutF at h
  by_cases h0 : l = []
  ·rw [if_pos h0] at h
   have := Option.some.inj h
   subst this
   intro x hx
   simp at hx
   subst hx
   exact ⟨by omega, fun c hc => .inl hc⟩
  rw [if_neg h0] at h
  by_cases h1 : l.getD 0 0 = 124
  ·rw [if_pos h1] at h
   obtain ⟨M, hM, rfl⟩ := Option.map_eq_some_iff.1 h
   intro x hx
   rcases List.mem_cons.1 hx with rfl | hx
   ·exact ⟨by omega, fun c hc => .inl hc⟩
   ·have := cut_sub hM x hx
    simp only [List.length_drop, List.length_nil] at this
    refine ⟨by omega, fun c hc => ?_⟩
    rcases this.2 c hc with g | g
    ·simp at g
    ·exact .inr (List.mem_of_mem_drop g)
  rw [if_neg h1] at h
  cases e : atomF r l with
  | none => rw [e] at h; exact absurd h (by simp)
  | some n =>
   rw [e] at h
   have st : ∀ m, cutF r k (cur ++ l.take m) (l.drop m) = some L → ∀ x ∈ L, x.length ≤ cur.length + l.length ∧ ∀ c ∈ x, c ∈ cur ∨ c ∈ l := by
    intro m hm x hx
    have := cut_sub hm x hx
    simp only [List.length_append, List.length_take, List.length_drop] at this
    refine ⟨by omega, fun c hc => ?_⟩
    rcases this.2 c hc with g | g
    ·rcases List.mem_append.1 g with g | g
     ·exact .inl g
     ·exact .inr (List.mem_of_mem_take g)
    ·exact .inr (List.mem_of_mem_drop g)
   simp only at h
   split at h
   ·exact st _ h
   ·exact st _ h
theorem cut_in {r : List Nat → Bool} {p : List Nat} {L : List (List Nat)} {i : Nat} (h : cutF r 100 [] p = some L) (hs : Bytes p) (hl : p.length ≤ 64) (hi : i < L.length) :
  Bytes (L.getD i []) ∧ (L.getD i []).length ≤ 64 ∧ (L.getD i []).length ≤ p.length ∧ Alt r (L.getD i []) := by
 have hm : L.getD i [] ∈ L := by
  rw [List.getD_eq_getElem?_getD, List.getElem?_eq_getElem hi]
  exact List.getElem_mem hi
 have hx := cut_sub h _ hm
 obtain ⟨m, tail, h1, h2, h3⟩ := cut_alt h
 simp only [List.length_nil] at hx
 refine ⟨fun c hc => ?_, by omega, by omega, ?_⟩
 ·rcases hx.2 c hc with g | g
  ·simp at g
  ·exact hs c g
 ·rw [h1] at hm ⊢
  rcases List.mem_cons.1 hm with g | g
  ·rw [g]
   simpa using h2
  ·exact h3 _ g
theorem ends_step (p : List Nat) (hs : Bytes p) (hl : p.length ≤ 64) (d : Nat) (s : List Nat) (hS : Bytes s) (hsl : s.length ≤ 64) (HE : ∀ q : List Nat, Bytes q → q.length ≤ 64 → q.length < d → rightF d q = true → ∀ (hs : HSt) (v : AV), (∀ e ∈ hs, e.w = false) → ZV s.length hs v → Spec tab 211 [.str q, .str s, v] [] hs (ZQ s.length)) (hd : p.length ≤ d) (hR : rightF (d + 1) p = true) (gs : HSt) (hro : ∀ e ∈ gs, e.w = false) (v : AV) (hz : ZV s.length gs v) : Spec tab 211 [.str p, .str s, v] [] gs (ZQ s.length) := by
 refine Spec.en (ftg 211 Tryz.func211) rfl (m := 32) rfl (rs := [.tmp 6]) rfl (st := [(0, .str p), (1, .str s), (2, v)]) rfl rfl (fun _ => rfl) (fun E => ?_)
 refine W.seq ?_
 refine W.reg ?_
 refine WO.q (Q.assign rfl) rfl ?_
 refine WO.nil ?_
 refine End.K ?_
 refine W.seq ?_
 refine W.reg ?_
 refine WO.q (Q.move rfl) rfl ?_
 refine WO.call0 rfl (oLc rfl oz) rfl (cut_spec p hs hl (rightF d) d (right_is d) hd) SubR.nil rfl (fun v13 D13 hP13 => ?_)
 obtain ⟨L, bL, exL, hL, rfl, rfl⟩ := cut_some hR hP13
 have hLl := cut_len hL
 refine WO.q (Q.move rfl) rfl ?_
 refine WO.q (Q.extract rfl rfl) rfl ?_
 refine WO.q (Q.extract rfl rfl) rfl ?_
 refine WO.q (Q.assign rfl) rfl ?_
 refine WO.q (Q.assign rfl) rfl ?_
 refine WO.nil ?_
 refine End.K ?_
 refine W.seq ?_
 refine W.reg ?_
 refine WO.q (Q.assign rfl) rfl ?_
 refine WO.nil ?_
 refine End.K ?_
 refine W.seq ?_
 refine W.seq ?_
 refine W.reg ?_
 refine WO.q (Q.assign (oc (v := .int .i64 ((0 : Nat) : Int)) rfl)) rfl ?_
 refine WO.nil ?_
 refine End.K ?_
 refine W.block ?_
 refine W.loop_ind3 (fun (i : Nat) (o : AV) (G : HSt) => [(1, .str s), (2, v), (7, .slice bL 0 L.length 1), (9, o), (10, .int .i64 ((i : Nat) : Int))]) (fun (i : Nat) (o : AV) (G : HSt) => ⟨bL, ⟨1, exL, L.map AV.str⟩, true⟩ :: (gs ++ G)) (fun (i : Nat) (o : AV) (G : HSt) => i ≤ L.length ∧ ZV s.length G o ∧ ∀ e ∈ G, e.w = true) (fun (i : Nat) (o : AV) (G : HSt) => L.length - i) (0) (.nils) ([]) ⟨by omega, ⟨[], Inc.nil _, .inl ⟨rfl, rfl⟩⟩, fun e h => no_w h⟩ (SubS.cons rfl (SubS.cons rfl (SubS.cons rfl (SubS.cons rfl (SubS.cons rfl (SubS.nil _)))))) (SubH.of_sublist (by simp)) (fun i o G hI0 ih0 => ?_)
 obtain ⟨hi, hG, hGw⟩ := hI0
 refine W.seq ?_
 refine W.seq ?_
 refine W.reg ?_
 refine WO.q (Q.move rfl) rfl ?_
 refine WO.q (Q.move rfl) rfl ?_
 refine WO.q (Q.len ud50 rfl rfl) rfl ?_
 refine WO.q (Q.bin rfl rfl rfl (bvl ltn)) rfl ?_
 refine WO.nil ?_
 refine End.K ?_
 refine W.cD rfl (fun hc19 => ?_) (fun hc19 => ?_)
 ·skip -- L0T
  have hx := cut_in hL hs hl (i := i) (by omega)
  refine W.skip ?_
  refine End.K ?_
  refine W.seq ?_
  refine W.block ?_
  refine W.reg ?_
  refine WO.q (Q.move rfl) rfl ?_
  refine WO.q (Q.move rfl) rfl ?_
  refine WO.q (Q.move rfl) rfl ?_
  refine WO.q (Q.iS ud50 sz9 rfl rfl zo) rfl ?_
  refine WO.q (Q.l1 rfl (mem_at (i := 0) rfl) ag9 (strs_at (by omega))) rfl ?_
  refine WO.q (Q.move rfl) rfl ?_
  refine WO.q (Q.move rfl) rfl ?_
  refine WO.call0 rfl (oLc rfl (oLc rfl (oLc rfl oz))) rfl (alt_spec (L.getD i []) hx.1 hx.2.1 s hS hsl (rightF d) d HE (right_is d) (by omega) hx.2.2.2 (ro (⟨bL, ⟨1, exL, L.map AV.str⟩, true⟩ :: (gs ++ G))) ro_w v (hz.appl.tl.ro)) (SubR.ro (SubH.refl _)) rfl (fun v29 D29 hP29 => ?_)
  refine WO.subH (hs' := _ :: (gs ++ G ++ D29)) (SubH.op (perm_tail (N := []) (G := D29) (K := [_]) (X := gs ++ G))) ?_
  refine WO.call0 rfl (oLc rfl (oLc rfl oz)) rfl (merge_z (by omega) (ro (⟨bL, ⟨1, exL, L.map AV.str⟩, true⟩ :: ((gs ++ G) ++ D29))) ro_w _ _ (((hG.appr).appl).tl.ro) (zv_alt hP29.1)) (SubR.ro (SubH.refl _)) rfl (fun v30 D30 hP30 => ?_)
  refine WO.subH (hs' := _ :: (gs ++ G ++ D29 ++ D30)) (SubH.op (perm_tail (N := []) (G := D30) (K := [_]) (X := gs ++ G ++ D29))) ?_
  refine WO.q (Q.assign rfl) rfl ?_
  refine WO.nil ?_
  refine End.KB (End.K ?_)
  refine W.reg ?_
  refine WO.q (Q.move rfl) rfl ?_
  refine WO.q (Q.bin rfl (oc (v := .int .i64 ((1 : Nat) : Int)) rfl) rfl (bv_add (wna zo))) rfl ?_
  refine WO.q (Q.assign rfl) rfl ?_
  refine WO.nil ?_
  refine End.KL ?_
  refine W.sub (SubS.cons rfl (SubS.cons rfl (SubS.cons rfl (SubS.cons rfl (SubS.cons rfl (SubS.nil _)))))) (W.sH (SubH.of_sublist (by simp)) (ih0 (i + 1) (v30) (D30) ?_ ?_))
  ·exact ⟨by omega, hP30.1, hP30.2⟩
  ·exact zo
 ·skip -- L0F
  refine W.exit ?_
  refine End.Kx (End.Lx (End.Bh (End.K ?_)))
  refine W.seq ?_
  refine W.reg ?_
  refine WO.q (Q.move rfl) rfl ?_
  refine WO.q (Q.assign rfl) rfl ?_
  refine WO.nil ?_
  refine End.K ?_
  refine W.ret ?_
  refine End.ret (ResL.tmp rfl ResL.nil) (hs' := G) ⟨hG, hGw⟩ hGw (SubH.of_sublist (by simp))
theorem ends_is (s : List Nat) (hS : Bytes s) (hsl : s.length ≤ 64) : ∀ (d : Nat) (p : List Nat), Bytes p → p.length ≤ 64 → p.length < d → rightF d p = true → ∀ (hs : HSt) (v : AV), (∀ e ∈ hs, e.w = false) → ZV s.length hs v → Spec tab 211 [.str p, .str s, v] [] hs (ZQ s.length)
 | 0, _, _, _, h, _, _, _, _, _ => absurd h (Nat.not_lt_zero _)
 | d + 1, p, hs, hl, h, hR, gs, v, hro, hz => ends_step p hs hl d s hS hsl (ends_is s hS hsl d) (by omega) hR gs hro v hz
theorem rfits_spec (p : List Nat) (hs : Bytes p) (hl : p.length ≤ 1048576) (s : List Nat) (hS : Bytes s) (hsL : s.length ≤ 1048576) : Spec tab 165 [.str p, .str s] [] [] (ValE (fun v => ∃ (b : Bool) (e : Int), v = .tuple [.bool b, .int .i64 e])) := by
 refine Spec.en (ftg 165 Tryz.func165) rfl (m := 34) rfl (rs := [.tmp 4, .tmp 5]) rfl (st := [(0, .str p), (1, .str s)]) rfl rfl (fun _ => rfl) (fun E => ?_)
 refine W.seq ?_
 refine W.reg ?_
 refine WO.q (Q.assign rfl) rfl ?_
 refine WO.q (Q.assign (oc (v := .int .i64 ((0 : Nat) : Int)) rfl)) rfl ?_
 refine WO.nil ?_
 refine End.K ?_
 refine W.seq ?_
 refine W.seq ?_
 refine W.reg ?_
 refine WO.q (Q.move rfl) rfl ?_
 refine WO.callE rfl (oLc rfl oz) rfl (rcheck_spec _ hs (by omega)) SubR.nil rfl (fun v9 hP9 => ?_)
 obtain ⟨x9, rfl, hx9⟩ := hP9
 refine WO.q (Q.assign rfl) rfl ?_
 refine WO.nil ?_
 refine End.K ?_
 refine W.seq ?_
 refine W.reg ?_
 refine WO.q (Q.move rfl) rfl ?_
 refine WO.q (Q.bin rfl (oc (v := .int .i64 ((0 : Nat) : Int)) rfl) rfl (bv_neq ne_int)) rfl ?_
 refine WO.nil ?_
 refine End.K ?_
 refine W.cD rfl (fun hc11 => ?_) (fun hc11 => ?_)
 ·skip -- T
  refine W.seq ?_
  refine W.reg ?_
  refine WO.q (Q.move rfl) rfl ?_
  refine WO.q (Q.assign rfl) rfl ?_
  refine WO.q (Q.assign rfl) rfl ?_
  refine WO.nil ?_
  refine End.K ?_
  refine W.ret ?_
  refine End.Kr (End.retE (ResL.tmp rfl (ResL.tmp rfl ResL.nil)) ?_)
  exact ⟨_, _, rfl⟩
 ·skip -- F
  refine W.skip ?_
  refine End.K ?_
  refine W.seq ?_
  refine W.seq ?_
  refine W.reg ?_
  refine WO.q (Q.move rfl) rfl ?_
  refine WO.q (Q.len ud9 rfl rfl) rfl ?_
  refine WO.q (Q.bin rfl (oc (v := .int .i64 ((64 : Nat) : Int)) rfl) rfl (bv_gtr ltn)) rfl ?_
  refine WO.nil ?_
  refine End.K ?_
  refine W.cD rfl (fun hc15 => ?_) (fun hc15 => ?_)
  ·skip -- FT
   refine W.seq ?_
   refine W.reg ?_
   refine WO.q (Q.assign rfl) rfl ?_
   refine WO.q (Q.assign (oc (v := .int .i64 ((3 : Nat) : Int)) rfl)) rfl ?_
   refine WO.nil ?_
   refine End.K ?_
   refine W.ret ?_
   refine End.Kr (End.retE (ResL.tmp rfl (ResL.tmp rfl ResL.nil)) ?_)
   exact ⟨_, _, rfl⟩
  ·skip -- FF
   refine W.skip ?_
   refine End.K ?_
   refine W.seq ?_
   refine W.reg ?_
   refine WO.q (Q.move rfl) rfl ?_
   refine WO.q (Q.move rfl) rfl ?_
   refine WO.bslice ud25 sz3 zr3 rfl (opc (oc (v := .int .i64 ((0 : Nat) : Int)) rfl) opn) rfl (cs := [_]) rfl rfl rfl (fun b1 => ?_)
   refine WO.call0 rfl (oLc rfl (oLc rfl (oLc rfl oz))) rfl (ends_is s hS (by omega) 100 p hs (hx9 (by omega)).1 (by have := (hx9 (by omega)).1; omega) (hx9 (by omega)).2 [⟨b1, ⟨1, true, [.int .i64 ((0 : Nat) : Int)]⟩, false⟩] (.slice b1 0 1 1) (by simp) ⟨[0], ⟨List.pairwise_singleton _ _, by simp⟩, .inr ⟨b1, true, rfl, false, by simp [cI]⟩⟩) (SubR.one (mem_at (i := 0) rfl)) rfl (fun v19 D19 hP19 => ?_)
   refine WO.subH (hs' := _ :: (D19)) (SubH.op (perm_tail (N := []) (G := D19) (K := [_]) (X := []))) ?_
   refine WO.q (Q.assign rfl) rfl ?_
   refine WO.nil ?_
   refine End.K ?_
   refine W.sub (SubS.cons (k := 7) rfl (SubS.cons (k := 1) rfl (SubS.nil _))) ?_
   refine W.seq ?_
   refine W.reg ?_
   refine WO.q (Q.move rfl) rfl ?_
   refine WO.q (Q.len ud25 rfl (zv_len hP19.1)) rfl ?_
   refine WO.q (Q.bin rfl (oc (v := .int .i64 ((0 : Nat) : Int)) rfl) rfl (bv_gtr ltn)) rfl ?_
   refine WO.q (Q.move rfl) rfl ?_
   refine WO.sD (d := 23) rfl (fun hc23 => ?_) (fun hc23 => ?_)
   ·skip -- FFt
    obtain ⟨⟨L, hIL, hL⟩, hDw⟩ := hP19
    obtain ⟨b0, ex0, rfl, w0, m0⟩ := is_full hL (by rw [is_len_eq hL] at *; omega)
    have hIl := hIL.len
    have hzn : zn (AV.slice b0 0 (L.length - 0) 1) = L.length := rfl
    refine WO.gT rfl rfl ?_
    refine WO.q (Q.move rfl) rfl ?_
    refine WO.gT rfl rfl ?_
    refine WO.q (Q.move rfl) rfl ?_
    refine WO.gT rfl rfl ?_
    refine WO.q (Q.len ud25 rfl rfl) rfl ?_
    refine WO.gT rfl rfl ?_
    refine WO.q (Q.bin rfl (oc (v := .int .i64 ((1 : Nat) : Int)) rfl) rfl (bv_sub (wns zo))) rfl ?_
    refine WO.gT rfl rfl ?_
    refine WO.q (Q.iS ud25 sz3 rfl rfl zo) rfl ?_
    refine WO.gT rfl rfl ?_
    refine WO.q (Q.l1 rfl (List.mem_cons_of_mem _ m0) ag3 (ci_at (L := L) (by omega))) rfl ?_
    refine WO.gT rfl rfl ?_
    refine WO.q (Q.move rfl) rfl ?_
    refine WO.gT rfl rfl ?_
    refine WO.q (Q.len ud9 rfl rfl) rfl ?_
    refine WO.gT rfl rfl ?_
    refine WO.q (Q.bin rfl rfl rfl (bv_eql eq_nat)) rfl ?_
    refine WO.q (Q.pT rfl rfl) rfl ?_
    refine WO.q (Q.assign rfl) rfl ?_
    refine WO.q (Q.assign (oc (v := .int .i64 ((0 : Nat) : Int)) rfl)) rfl ?_
    refine WO.nil ?_
    refine End.K ?_
    refine W.sub (SubS.cons (k := 5) rfl (SubS.cons (k := 4) rfl (SubS.nil _))) ?_
    refine W.ret ?_
    refine End.retE (ResL.tmp rfl (ResL.tmp rfl ResL.nil)) ?_
    exact ⟨_, _, rfl⟩
   ·skip -- FFf
    refine WO.gF rfl rfl (.inl rfl) rfl ?_
    refine WO.gF rfl rfl (.inl rfl) rfl ?_
    refine WO.gF rfl rfl (.inl rfl) rfl ?_
    refine WO.gF rfl rfl (.inl rfl) rfl ?_
    refine WO.gF rfl rfl (.inl rfl) rfl ?_
    refine WO.gF rfl rfl (.inl rfl) rfl ?_
    refine WO.gF rfl rfl (.inl rfl) rfl ?_
    refine WO.gF rfl rfl (.inl rfl) rfl ?_
    refine WO.gF rfl rfl (.inl rfl) rfl ?_
    refine WO.q (Q.pF rfl rfl) rfl ?_
    refine WO.q (Q.assign rfl) rfl ?_
    refine WO.q (Q.assign (oc (v := .int .i64 ((0 : Nat) : Int)) rfl)) rfl ?_
    refine WO.nil ?_
    refine End.K ?_
    refine W.sub (SubS.cons (k := 5) rfl (SubS.cons (k := 4) rfl (SubS.nil _))) ?_
    refine W.ret ?_
    refine End.retE (ResL.tmp rfl (ResL.tmp rfl ResL.nil)) ?_
    exact ⟨_, _, rfl⟩
end Go.Proofs.YtfkbfnpjggkdmaaGreatDoor.Ev.P7
