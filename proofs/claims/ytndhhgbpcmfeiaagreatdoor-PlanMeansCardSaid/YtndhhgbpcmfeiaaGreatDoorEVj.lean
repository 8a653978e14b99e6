/- Chapter 7, by the document: where the empty text ends in an alternative. -/
import Derived.Test.YtndhhgbpcmfeiaaGreatDoorEVg
namespace Go.Proofs.YtndhhgbpcmfeiaaGreatDoor.Ev.P16
open Go.RowKit
set_option maxRecDepth 100000
set_option maxHeartbeats 1000000
theorem Alt.at_ {r : List Nat → Bool} {p : List Nat} {i : Nat} (h : Alt r (p.drop i)) (hi : i < p.length) : ∃ n, atomF r (p.drop i) = some n ∧ 0 < n ∧ i + n ≤ p.length ∧
  (i + n < p.length → isM (p.getD (i + n) 0) → Alt r (p.drop (i + n + 1))) ∧ (¬ (i + n < p.length ∧ isM (p.getD (i + n) 0)) → Alt r (p.drop (i + n))) := by
 have hne := drop_ne hi
 have e1 : ∀ n, (p.drop i).getD n 0 = p.getD (i + n) 0 := fun n => drop_getD
 have e2 : ∀ n, (p.drop i).drop n = p.drop (i + n) := fun n => List.drop_drop ..
 have e3 : (p.drop i).length = p.length - i := List.length_drop ..
 generalize hq : p.drop i = l at h hne e1 e2 e3
 cases h with
 | nil => exact absurd rfl hne
 | @mark _ n h1 h2 h3 h4 =>
  have := atomF_len h1
  exact ⟨n, h1, this.1, by omega, fun _ _ => by rw [e2] at h4; exact h4, fun g => absurd (And.intro zy (by rw [← e1]; exact h3)) g⟩
 | @bare _ n h1 h2 h3 =>
  have := atomF_len h1
  exact ⟨n, h1, this.1, by omega, fun g1 g2 => absurd (And.intro zy (by rw [e1]; exact g2)) h2, fun _ => by rw [e2] at h3; exact h3⟩
theorem atom_at (p : List Nat) (hs : Bytes p) (hl : p.length ≤ 64) (i : Nat) (r : List Nat → Bool) (d : Nat) (HR : ∀ q : List Nat, Bytes q → q.length ≤ 64 → q.length < d → Spec tab 192 [.str q] [] [] (Val (.bool (r q)))) (hd : p.length ≤ d) {n : Nat} (hn : atomF r (p.drop i) = some n) :
  Spec tab 205 [.str p, .int .i64 ((i : Nat) : Int)] [] [] (Val (.int .i64 ((i + n : Nat) : Int))) := by
 have := atom_spec p hs hl i r d HR hd
 rw [hn] at this
 exact this
theorem piece_in {r : List Nat → Bool} {l : List Nat} {n m : Nat} (h : atomF r l = some n) (hm : m = n) : (l.take m).getD 0 0 = 40 → 2 ≤ (l.take m).length ∧ r (((l.take m).drop 1).take ((l.take m).length - 1 - 1)) = true := by
 subst hm
 intro h40
 have hn := atomF_len h
 rw [take_getD zy] at h40
 unfold atomF at h
 by_cases h0 : l = []
 ·rw [if_pos h0] at h; exact absurd h (by simp)
 have hp : ¬ (l.getD 0 0 = 46 ∨ plainB (l.getD 0 0) = true) := by
  rw [h40]
  decide
 rw [if_neg h0, if_neg hp, if_neg zy, if_neg zy, if_pos h40] at h
 cases e : cloF 100 0 l with
 | none => rw [e] at h; exact absurd h (by simp)
 | some q =>
  rw [e] at h
  simp only at h
  by_cases h5 : r ((l.drop 1).take (q - 1)) = true
  ·rw [if_pos h5] at h
   have hq := Option.some.inj h
   have hq0 := clo_pos e h40
   have hl : (l.take m).length = m := by rw [List.length_take]; omega
   refine ⟨by omega, ?_⟩
   rw [hl, List.drop_take, List.take_take, show min (m - 1 - 1) (m - 1) = q - 1 from by omega]
   exact h5
  ·rw [if_neg h5] at h; exact absurd h (by simp)
theorem alt_spec (p : List Nat) (hs : Bytes p) (hl : p.length ≤ 64) (r : List Nat → Bool) (d : Nat) (HE : ∀ q : List Nat, Bytes q → q.length ≤ 64 → q.length < d → r q = true → ∀ (hs : HSt) (v : AV), (∀ e ∈ hs, e.w = false) → ZV hs v → Spec tab 203 [.str q, .str [], v] [] hs ZQ) (HR : ∀ q : List Nat, Bytes q → q.length ≤ 64 → q.length < d → Spec tab 192 [.str q] [] [] (Val (.bool (r q)))) (hd : p.length ≤ d) (hA : Alt r p) (gs : HSt) (hro : ∀ e ∈ gs, e.w = false) (v : AV) (hz : ZV gs v) : Spec tab 208 [.str p, .str [], v] [] gs (fun v D => ZV (gs ++ D) v ∧ ∀ e ∈ D, e.w = true) := by
 refine Spec.en (ftg 208 Tryz.func208) rfl (m := 56) rfl (rs := [.tmp 6]) rfl (st := [(0, .str p), (1, .str []), (2, v)]) rfl rfl (fun _ => rfl) (fun E => zr (za rfl (zk (zr (za (zi 0) (zk (W.seq (W.block (W.loop_ind3 (fun (i : Nat) (v : AV) (G : HSt) => [(0, .str p), (1, .str []), (2, v), (7, .int .i64 ((i : Nat) : Int))]) (fun (i : Nat) (v : AV) (G : HSt) => gs ++ G) (fun (i : Nat) (v : AV) (G : HSt) => Alt r (p.drop i) ∧ i ≤ p.length ∧ ZV (gs ++ G) v ∧ ∀ e ∈ G, e.w = true) (fun (i : Nat) (v : AV) (G : HSt) => p.length - i) (0) (v) ([]) ⟨hA, by omega, by simpa using hz, fun e h => no_w h⟩ zv (SubH.of_sublist (by simp)) (fun i v G hI0 ih0 => ?_))))))))))
 obtain ⟨hA, hi, hz, hG⟩ := hI0
 refine W.seq (zr (zm rfl (zm rfl (zq (Q.len ud9 rfl rfl) (zq (Q.bin rfl rfl rfl (bvl ltn)) (zk (W.cD rfl (fun hc13 => ?_) (fun hc13 => ?_))))))))
 ·obtain ⟨n, hn, hn0, hnl, hm1, hm2⟩ := hA.at_ zy
  refine zw (W.block (zr (zm rfl (zm rfl (WO.cV rfl (oLc rfl (oLc rfl oz)) rfl (atom_at p hs hl i r d HR hd hn) SubR.nil rfl (za rfl (zk (zr (za (zu 0) (zk (W.seqK1 (fun (c : Nat) => [(0, .str p), (1, .str []), (2, v), (7, .int .i64 ((i : Nat) : Int)), (8, .int .i64 ((i + n : Nat) : Int)), (9, .int .u8 ((c : Nat) : Int))]) (fun (c : Nat) => c < 256 ∧ ((c ≠ 0 ∧ Alt r (p.drop (i + n + 1)) ∧ i + n < p.length) ∨ (c = 0 ∧ Alt r (p.drop (i + n))))) (fun c hI7 => ?_) (fun hJ7 => ?_))))))))))))
  ·obtain ⟨hcb, hc⟩ := hI7
   refine zr (zm rfl (zm rfl (zm rfl (zq (Q.sliceS ud9 rfl rfl zo rfl) (zm rfl (zm rfl (zm rfl (WO.call0 rfl (oLc rfl (oLc rfl (oLc rfl (oLc rfl oz)))) rfl (piece_spec r d HE _ (Bytes.take (Bytes.drop hs _) _) zo zo zo (piece_in hn zy) c hcb (ro (gs ++ G)) ro_w v hz.ro) (SubR.ro (SubH.refl _)) rfl (fun v49 D49 hP49 => WO.subH (hs' := (gs ++ G ++ D49)) (SubH.op (perm_tail (N := []) (G := D49) (K := []) (X := gs ++ G))) (za rfl (zk (zr (zm rfl (za rfl (zk (zr (zm rfl (zq (Q.bin rfl (zu 0) rfl (bv_neq ne_nat)) (zk (W.cD rfl (fun hc52 => ?_) (fun hc52 => ?_)))))))))))))))))))))
   ·refine W.reg (zm rfl (zq (Q.bin rfl (zi 1) rfl zp) (za rfl (WO.nil (End.KB (End.KL (W.sub zv (W.sH (SubH.of_sublist (by simp)) (ih0 (i + n + 1) (v49) (D49) ?_ ?_)))))))))
    ·exact ⟨by rcases hc with ⟨_, g, _⟩ | ⟨g, _⟩; exact g; omega, by omega, (hP49.1).appr, hP49.2⟩
    exact zo
   refine W.skip (End.KB (End.KL (W.sub zv (W.sH (SubH.of_sublist (by simp)) (ih0 (i + n) (v49) (D49) ?_ ?_)))))
   ·exact ⟨by rcases hc with ⟨g, _⟩ | ⟨_, g⟩; omega; exact g, by omega, (hP49.1).appr, hP49.2⟩
   exact zo
  refine zr (zm rfl (zm rfl (zq (Q.len ud9 rfl rfl) (zq (Q.bin rfl rfl rfl (bvl ltn)) (zm rfl (WO.sD (d := 21) rfl (fun hc21 => ?_) (fun hc21 => ?_)))))))
  ·refine zT (zm rfl (zT (zm rfl (zT (WO.indexB hs ud9 rfl rfl zo rfl (fun c24 hd24 hb24 => zT (zq (Q.bin rfl (zu 42) rfl (bv_eql eq_nat)) (zT (zm rfl (WO.sD (d := 26) rfl (fun hc26 => ?_) (fun hc26 => ?_)))))))))))
   ·refine zG (zG (zG (zG (zT (zq (Q.pT rfl rfl) (zT (zm rfl (zG (zG (zG (zG (zT (zq (Q.pT rfl rfl) (zq (Q.pT rfl rfl) (zk (W.sub (zc 38 rfl (zc 9 rfl (zc 8 rfl (zc 0 rfl (zc 1 rfl (zc 2 rfl (zc 7 rfl zzn))))))) (W.condT rfl (W.reg (zm rfl (zm rfl (WO.indexB hs ud9 rfl rfl zo rfl (fun c41 hd41 hb41 => za rfl (WO.nil ?_)))))))))))))))))))))))
    refine End.K (W.sub zv (hJ7 (_) ?_))
    exact ⟨hb41, .inl ⟨by omega, hm1 zy (by unfold isM; omega), by omega⟩⟩
   refine zT (zm rfl (zT (zm rfl (zT (WO.indexB hs ud9 rfl rfl zo rfl (fun c29 hd29 hb29 => zT (zq (Q.bin rfl (zu 43) rfl (bv_eql eq_nat)) (zT (zq (Q.pF rfl rfl) (zT (zm rfl (WO.sD (d := 32) rfl (fun hc32 => ?_) (fun hc32 => ?_)))))))))))))
   ·refine zG (zG (zG (zG (zT (zq (Q.pT rfl rfl) (zq (Q.pT rfl rfl) (zk (W.sub (zc 38 rfl (zc 9 rfl (zc 8 rfl (zc 0 rfl (zc 1 rfl (zc 2 rfl (zc 7 rfl zzn))))))) (W.condT rfl (W.reg (zm rfl (zm rfl (WO.indexB hs ud9 rfl rfl zo rfl (fun c41 hd41 hb41 => za rfl (WO.nil (End.K (W.sub zv (hJ7 (_) ?_))))))))))))))))))
    exact ⟨hb41, .inl ⟨by omega, hm1 zy (by unfold isM; omega), by omega⟩⟩
   refine zT (zm rfl (zT (zm rfl (zT (WO.indexB hs ud9 rfl rfl zo rfl (fun c35 hd35 hb35 => zT (zq (Q.bin rfl (zu 63) rfl (bv_eql eq_nat)) (zT (zq (Q.pF rfl rfl) (zq (Q.pT rfl rfl) (zk (W.sub (zc 38 rfl (zc 9 rfl (zc 8 rfl (zc 0 rfl (zc 1 rfl (zc 2 rfl (zc 7 rfl zzn))))))) (W.cD rfl (fun hc38 => ?_) (fun hc38 => ?_))))))))))))))
   ·refine W.reg (zm rfl (zm rfl (WO.indexB hs ud9 rfl rfl zo rfl (fun c41 hd41 hb41 => za rfl (WO.nil (End.K (W.sub zv (hJ7 (_) ?_))))))))
    exact ⟨hb41, .inl ⟨by omega, hm1 zy (by unfold isM; omega), by omega⟩⟩
   refine W.skip (End.K (W.sub zv (hJ7 (_) ?_)))
   exact ⟨by omega, .inr ⟨rfl, hm2 (by unfold isM; omega)⟩⟩
  refine zG (zG (zG (zG (zG (WO.gF rfl rfl (.inr rfl) rfl (WO.gF rfl rfl (.inr rfl) rfl (WO.gF rfl rfl (.inr rfl) rfl (WO.gF rfl rfl (.inr rfl) rfl (zG (zG (WO.gF rfl rfl (.inr rfl) rfl (WO.gF rfl rfl (.inr rfl) rfl (WO.gF rfl rfl (.inr rfl) rfl (WO.gF rfl rfl (.inr rfl) rfl (zG (zq (Q.pF rfl rfl) (zk (W.sub (zc 38 rfl (zc 9 rfl (zc 8 rfl (zc 0 rfl (zc 1 rfl (zc 2 rfl (zc 7 rfl zzn))))))) (W.condF rfl (W.skip (End.K (W.sub zv (hJ7 (_) ?_)))))))))))))))))))))))
  exact ⟨by omega, .inr ⟨rfl, hm2 (by unfold isM; omega)⟩⟩
 refine W.exit (End.Kx (End.Lx (End.Bh (End.K (zr (zm rfl (za rfl (zk (W.ret ?_)))))))))
 refine End.ret (z1 rfl) (hs' := G) ⟨hz, hG⟩ hG (SubH.of_sublist (by simp))
theorem ZV.tl {hs : HSt} {e : HE} {v : AV} (h : ZV hs v) : ZV (e :: hs) v := h.imp id fun ⟨b, ex, h1, w, h2⟩ => ⟨b, ex, h1, w, List.mem_cons_of_mem _ h2⟩
theorem zv_alt {e : HE} {A D : HSt} {v : AV} (h : ZV (Ev.ro (e :: A) ++ D) v) : ZV (Ev.ro (e :: (A ++ D))) v := by
 refine h.imp id fun ⟨b, ex, h1, w, h2⟩ => ⟨b, ex, h1, ?_⟩
 rcases List.mem_append.1 h2 with g | g
 ·obtain ⟨x, hx, ex⟩ := List.mem_map.1 g
  have hw : false = w := congrArg HE.w ex
  subst hw
  refine ⟨false, List.mem_map.2 ⟨x, ?_, ex⟩⟩
  rcases List.mem_cons.1 hx with rfl | hx
  ·exact List.mem_cons_self
  ·exact List.mem_cons_of_mem _ (List.mem_append_left _ hx)
 ·exact ⟨false, List.mem_map.2 ⟨_, List.mem_cons_of_mem _ (List.mem_append_right _ g), rfl⟩⟩
theorem cut_some {d : Nat} {p : List Nat} {v : AV} {D : HSt} (hR : rightF (d + 1) p = true) (h : cutP (rightF d) p v D) :
  ∃ L b ex, cutF (rightF d) 100 [] p = some L ∧ v = .tuple [.slice b 0 L.length 1, .bool true] ∧ D = [⟨b, ⟨1, ex, L.map AV.str⟩, true⟩] := by
 rcases h with ⟨h1, _⟩ | h
 ·unfold rightF at hR
  rw [h1] at hR
  exact absurd hR (by simp)
 ·exact h
theorem cut_len {r : List Nat → Bool} : ∀ {k : Nat} {cur l : List Nat} {L : List (List Nat)}, cutF r k cur l = some L → L.length ≤ k
 | 0, _, _, _, h => by simp [cutF] at h
 | k + 1, cur, l, L, h => by
  unfold cutF at h
  by_cases h0 : l = []
  ·rw [if_pos h0] at h
   have := Option.some.inj h
   subst this
   simp
  rw [if_neg h0] at h
  by_cases h1 : l.getD 0 0 = 124
  ·rw [if_pos h1] at h
   obtain ⟨M, hM, rfl⟩ := Option.map_eq_some_iff.1 h
   have := cut_len hM
   simp
   omega
  rw [if_neg h1] at h
  cases e : atomF r l with
  | none => rw [e] at h; exact absurd h (by simp)
  | some n =>
   rw [e] at h
   simp only at h
   split at h
   ·have := cut_len h; omega
   ·have := cut_len h; omega
theorem cut_sub {r : List Nat → Bool} : ∀ {k : Nat} {cur l : List Nat} {L : List (List Nat)}, cutF r k cur l = some L → ∀ x ∈ L, x.length ≤ cur.length + l.length ∧ ∀ c ∈ x, c ∈ cur ∨ c ∈ l
 | 0, _, _, _, h => by simp [cutF] at h
 | k + 1, cur, l, L, h => by
  unfold cutF at h
  by_cases h0 : l = []
  ·rw [if_pos h0] at h
   have := Option.some.inj h
   subst this
   intro x hx
   simp at hx
   subst hx
   exact ⟨by omega, fun c hc => .inl hc⟩
  rw [if_neg h0] at h
  by_cases h1 : l.getD 0 0 = 124
  ·rw [if_pos h1] at h
   obtain ⟨M, hM, rfl⟩ := Option.map_eq_some_iff.1 h
   intro x hx
   rcases List.mem_cons.1 hx with rfl | hx
   ·exact ⟨by omega, fun c hc => .inl hc⟩
   ·have := cut_sub hM x hx
    simp only [List.length_drop, List.length_nil] at this
    refine ⟨by omega, fun c hc => ?_⟩
    rcases this.2 c hc with g | g
    ·simp at g
    ·exact .inr (List.mem_of_mem_drop g)
  rw [if_neg h1] at h
  cases e : atomF r l with
  | none => rw [e] at h; exact absurd h (by simp)
  | some n =>
   rw [e] at h
   have st : ∀ m, cutF r k (cur ++ l.take m) (l.drop m) = some L → ∀ x ∈ L, x.length ≤ cur.length + l.length ∧ ∀ c ∈ x, c ∈ cur ∨ c ∈ l := by
    intro m hm x hx
    have := cut_sub hm x hx
    simp only [List.length_append, List.length_take, List.length_drop] at this
    refine ⟨by omega, fun c hc => ?_⟩
    rcases this.2 c hc with g | g
    ·rcases List.mem_append.1 g with g | g
     ·exact .inl g
     ·exact .inr (List.mem_of_mem_take g)
    ·exact .inr (List.mem_of_mem_drop g)
   simp only at h
   split at h
   ·exact st _ h
   ·exact st _ h
theorem cut_in {r : List Nat → Bool} {p : List Nat} {L : List (List Nat)} {i : Nat} (h : cutF r 100 [] p = some L) (hs : Bytes p) (hl : p.length ≤ 64) (hi : i < L.length) :
  Bytes (L.getD i []) ∧ (L.getD i []).length ≤ 64 ∧ (L.getD i []).length ≤ p.length ∧ Alt r (L.getD i []) := by
 have hm : L.getD i [] ∈ L := by
  rw [List.getD_eq_getElem?_getD, List.getElem?_eq_getElem hi]
  exact List.getElem_mem hi
 have hx := cut_sub h _ hm
 obtain ⟨m, tail, h1, h2, h3⟩ := cut_alt h
 simp only [List.length_nil] at hx
 refine ⟨fun c hc => ?_, by omega, by omega, ?_⟩
 ·rcases hx.2 c hc with g | g
  ·simp at g
  ·exact hs c g
 ·rw [h1] at hm ⊢
  rcases List.mem_cons.1 hm with g | g
  ·rw [g]
   simpa using h2
  ·exact h3 _ g
theorem ends_step (p : List Nat) (hs : Bytes p) (hl : p.length ≤ 64) (d : Nat) (HE : ∀ q : List Nat, Bytes q → q.length ≤ 64 → q.length < d → rightF d q = true → ∀ (hs : HSt) (v : AV), (∀ e ∈ hs, e.w = false) → ZV hs v → Spec tab 203 [.str q, .str [], v] [] hs ZQ) (hd : p.length ≤ d) (hR : rightF (d + 1) p = true) (gs : HSt) (hro : ∀ e ∈ gs, e.w = false) (v : AV) (hz : ZV gs v) : Spec tab 203 [.str p, .str [], v] [] gs (ZQ) := by
 refine Spec.en (ftg 203 Tryz.func203) rfl (m := 32) rfl (rs := [.tmp 6]) rfl (st := [(0, .str p), (1, .str []), (2, v)]) rfl rfl (fun _ => rfl) (fun E => zr (za rfl (zk (zr (zm rfl (WO.call0 rfl (oLc rfl oz) rfl (cut_spec p hs hl (rightF d) d (right_is d) hd) SubR.nil rfl (fun v13 D13 hP13 => ?_)))))))
 obtain ⟨L, bL, exL, hL, rfl, rfl⟩ := cut_some hR hP13
 have hLl := cut_len hL
 refine zm rfl (zq (Q.extract rfl rfl) (zq (Q.extract rfl rfl) (za rfl (za rfl (zk (zr (za rfl (zk (W.seq (zr (za (zi 0) (zk (W.block (W.loop_ind3 (fun (i : Nat) (o : AV) (G : HSt) => [(1, .str []), (2, v), (7, .slice bL 0 L.length 1), (9, o), (10, .int .i64 ((i : Nat) : Int))]) (fun (i : Nat) (o : AV) (G : HSt) => ⟨bL, ⟨1, exL, L.map AV.str⟩, true⟩ :: (gs ++ G)) (fun (i : Nat) (o : AV) (G : HSt) => i ≤ L.length ∧ ZV G o ∧ ∀ e ∈ G, e.w = true) (fun (i : Nat) (o : AV) (G : HSt) => L.length - i) (0) (.nils) ([]) ⟨by omega, .inl rfl, fun e h => no_w h⟩ zv (SubH.of_sublist (by simp)) (fun i o G hI0 ih0 => ?_)))))))))))))))
 obtain ⟨hi, hG, hGw⟩ := hI0
 refine W.seq (zr (zm rfl (zm rfl (zq (Q.len ud23 rfl rfl) (zq (Q.bin rfl rfl rfl (bvl ltn)) (zk (W.cD rfl (fun hc19 => ?_) (fun hc19 => ?_))))))))
 ·have hx := cut_in hL hs hl (i := i) zy
  refine zw (W.seq (W.block (W.reg (zm rfl (zm rfl (zm rfl (zq (Q.iS ud23 sz9 rfl rfl zo) (zq (Q.l1 rfl (zt 0 rfl) ag9 (strs_at zy)) (zm rfl (zm rfl (WO.call0 rfl (oLc rfl (oLc rfl (oLc rfl oz))) rfl (alt_spec (L.getD i []) hx.1 hx.2.1 (rightF d) d HE (right_is d) zy hx.2.2.2 (ro (⟨bL, ⟨1, exL, L.map AV.str⟩, true⟩ :: (gs ++ G))) ro_w v (hz.appl.tl.ro)) (SubR.ro (SubH.refl _)) rfl (fun v29 D29 hP29 => WO.subH (hs' := _ :: (gs ++ G ++ D29)) (SubH.op (perm_tail (N := []) (G := D29) (K := [_]) (X := gs ++ G))) (WO.call0 rfl (oLc rfl (oLc rfl oz)) rfl (merge_spec (ro (⟨bL, ⟨1, exL, L.map AV.str⟩, true⟩ :: ((gs ++ G) ++ D29))) ro_w _ _ (((hG.appr).appl).tl.ro) (zv_alt hP29.1)) (SubR.ro (SubH.refl _)) rfl (fun v30 D30 hP30 => WO.subH (hs' := _ :: (gs ++ G ++ D29 ++ D30)) (SubH.op (perm_tail (N := []) (G := D30) (K := [_]) (X := gs ++ G ++ D29))) (za rfl (WO.nil (End.KB (End.K (W.reg (zm rfl (zq (Q.bin rfl (zi 1) rfl zp) (za rfl (WO.nil (End.KL ?_))))))))))))))))))))))))
  refine W.sub zv (W.sH (SubH.of_sublist (by simp)) (ih0 (i + 1) (v30) (D30) ?_ ?_))
  ·exact ⟨by omega, hP30.1, hP30.2⟩
  exact zo
 refine W.exit (End.Kx (End.Lx (End.Bh (End.K (zr (zm rfl (za rfl (zk (W.ret ?_)))))))))
 refine End.ret (z1 rfl) (hs' := G) ⟨hG, hGw⟩ hGw (SubH.of_sublist (by simp))
theorem ends_is : ∀ (d : Nat) (p : List Nat), Bytes p → p.length ≤ 64 → p.length < d → rightF d p = true → ∀ (hs : HSt) (v : AV), (∀ e ∈ hs, e.w = false) → ZV hs v → Spec tab 203 [.str p, .str [], v] [] hs ZQ
 | 0, _, _, _, h, _, _, _, _, _ => absurd h (Nat.not_lt_zero _)
 | d + 1, p, hs, hl, h, hR, gs, v, hro, hz => ends_step p hs hl d (ends_is d) zy hR gs hro v hz
theorem rfits_spec (p : List Nat) (hs : Bytes p) (hl : p.length ≤ 1048576) : Spec tab 195 [.str p, .str []] [] [] (ValE (fun v => ∃ (b : Bool) (e : Int), v = .tuple [.bool b, .int .i64 e])) := by
 refine Spec.en (ftg 195 Tryz.func195) rfl (m := 34) rfl (rs := [.tmp 4, .tmp 5]) rfl (st := [(0, .str p), (1, .str [])]) rfl rfl (fun _ => rfl) (fun E => zr (za rfl (za (zi 0) (zk (W.seq (zr (zm rfl (WO.callE rfl (oLc rfl oz) rfl (rcheck_spec _ hs zy) SubR.nil rfl (fun v9 hP9 => ?_)))))))))
 obtain ⟨x9, rfl, hx9⟩ := hP9
 refine za rfl (zk (zr (zm rfl (zq (Q.bin rfl (zi 0) rfl (bv_neq ne_int)) (zk (W.cD rfl (fun hc11 => ?_) (fun hc11 => ?_)))))))
 ·refine zr (zm rfl (za rfl (za rfl (zk (W.ret (End.Kr (End.retE (ResL.tmp rfl (z1 rfl)) ?_)))))))
  exact ⟨_, _, rfl⟩
 refine zw (W.seq (zr (zm rfl (zq (Q.len ud9 rfl rfl) (zq (Q.bin rfl (zi 64) rfl (bv_gtr (p := false) rfl)) (zk (W.condF rfl (zw (zr (zm rfl (zm rfl (WO.bslice ud40 sz3 zr3 rfl (opc (zi 0) oPs_nil) rfl (cs := [_]) rfl rfl rfl (fun b1 => WO.call0 rfl (oLc rfl (oLc rfl (oLc rfl oz))) rfl (ends_is 100 p hs (hx9 zy).1 (by have := (hx9 zy).1; omega) (hx9 zy).2 [⟨b1, ⟨1, true, [.int .i64 ((0 : Nat) : Int)]⟩, false⟩] (.slice b1 0 1 1) (by simp) (.inr ⟨b1, true, rfl, false, by simp⟩)) (SubR.one (zt 0 rfl)) rfl (fun v19 D19 hP19 => WO.subH (hs' := _ :: (D19)) (SubH.op (perm_tail (N := []) (G := D19) (K := [_]) (X := []))) (za rfl (zk (W.sub (zc 7 rfl (zc 1 rfl zzn)) (zr ?_))))))))))))))))))
 rcases hP19 with ⟨rfl | ⟨b0, ex0, rfl, w0, m0⟩, hw⟩
 ·refine zm rfl (zq (Q.len ud40 rfl rfl) (zq (Q.bin rfl (zi 0) rfl (bv_gtr (p := false) rfl)) (zm rfl (zG (zG (zG (zG (zG (zG (zG (zG (zG (zq (Q.pF rfl rfl) (za rfl (za (zi 0) (zk (W.sub (zc 5 rfl (zc 4 rfl zzn)) (W.ret (End.retE (ResL.tmp rfl (z1 rfl)) ?_)))))))))))))))))))
  exact ⟨_, _, rfl⟩
 refine zm rfl (zq (Q.len ud40 rfl rfl) (zq (Q.bin rfl (zi 0) rfl (bv_gtr (p := true) rfl)) (zm rfl (zT (zm rfl (zT (zm rfl (zT (zq (Q.len ud40 rfl rfl) (zT (zq (Q.bin rfl (zi 1) rfl (bv_sub (wns zo))) (zT (zq (Q.iaddrL ud40 sz3 rfl rfl zo (o' := 0) rfl) (zT (zq (Q.l1 rfl (List.mem_cons_of_mem _ m0) ag3 (rfl : (⟨1, _, [.int .i64 ((0 : Nat) : Int)]⟩ : AObj).cells[0]? = some (.int .i64 ((0 : Nat) : Int)))) (zT (zm rfl (zT (zq (Q.len ud9 rfl rfl) (zT (zq (Q.bin rfl rfl rfl (bv_eql (p := true) rfl)) (zq (Q.pT rfl rfl) (za rfl ?_)))))))))))))))))))))))
 refine za (zi 0) (zk (W.sub (zc 5 rfl (zc 4 rfl zzn)) (W.ret (End.retE (ResL.tmp rfl (z1 rfl)) ?_))))
 exact ⟨_, _, rfl⟩
theorem bv_beqB {tb : Tab} {t : Nat} {a b : Bool} (hu : tb.und t = some .bool) : evBin tb .eql t (.bool a) (.bool b) = some (.bool (a == b)) := by
 show (match eqIn tb 20 t (.bool a) (.bool b) with | some b => some (AV.bool b) | none => none) = _
 unfold eqIn
 simp only [hu]
 rfl
abbrev MtT := Int × List Nat × List Nat
def mC (x : MtT) : List AV := [.int .i64 x.1, .str x.2.1, .str x.2.2]
def mCs (l : List MtT) : List AV := l.flatMap mC
def mg (M : List MtT) (i : Nat) : MtT := M.getD i (0, [], [])
theorem mC_len (t : MtT) : (mC t).length = 3 := rfl
theorem mCs_cons (t : MtT) (L : List MtT) : mCs (t :: L) = mC t ++ mCs L := by simp [mCs]
theorem mCs_len : ∀ L : List MtT, (mCs L).length = L.length * 3
 | [] => rfl
 | t :: L => by rw [mCs_cons, List.length_append, mC_len, mCs_len L, List.length_cons]; omega
theorem mCs_get : ∀ (L : List MtT) (i j : Nat), i < L.length → j < 3 → (mCs L)[i * 3 + j]? = (mC (mg L i))[j]?
 | [], i, j, h, _ => by simp at h
 | t :: L, 0, j, h, hj => by
  rw [mCs_cons, List.getElem?_append_left (by rw [mC_len]; omega)]
  simp [mg]
 | t :: L, i + 1, j, h, hj => by
  rw [mCs_cons, List.getElem?_append_right (by rw [mC_len]; omega), mC_len]
  have : (i + 1) * 3 + j - 3 = i * 3 + j := by omega
  rw [this, mCs_get L i j (by simpa using h) hj]
  rfl
theorem msub {L : List MtT} {i : Nat} (h : i < L.length) : sub? (mCs L) ((0 + i) * 3) 3 = some (mC (mg L i)) := by
 unfold sub?
 have hle : Nat.ble ((0 + i) * 3 + 3) (mCs L).length = true := by rw [mCs_len]; apply Nat.ble_eq.mpr; omega
 simp only [hle]
 congr 1
 apply List.ext_getElem?
 intro j
 rw [List.getElem?_take, List.getElem?_drop]
 split
 ·rename_i hj
  rw [Nat.zero_add, mCs_get L i j h hj]
 ·rw [List.getElem?_eq_none (by rw [mC_len]; omega)]
def ISm (hs : HSt) (M : List MtT) (v : AV) : Prop := (v = .nils ∧ M = []) ∨ ∃ b ex, v = .slice b 0 M.length 3 ∧ MemH hs b ⟨3, ex, mCs M⟩
theorem ism_len {hs : HSt} {M : List MtT} {v : AV} {e : Nat} (h : ISm hs M v) : lenA (.slice e) v = some M.length := by
 rcases h with ⟨rfl, rfl⟩ | ⟨b, ex, rfl, _⟩ <;> rfl
theorem ism_full {hs : HSt} {M : List MtT} {v : AV} (h : ISm hs M v) (hl : 0 < M.length) : ∃ b ex, v = .slice b 0 M.length 3 ∧ MemH hs b ⟨3, ex, mCs M⟩ := by
 rcases h with ⟨_, rfl⟩ | h
 ·simp at hl
 ·exact h
def MOk (M : List MtT) : Prop := ∀ x ∈ M, Bytes x.2.1 ∧ x.2.1.length ≤ 1048576 ∧ Bytes x.2.2 ∧ x.2.2.length ≤ 1048576
theorem mok_at {M : List MtT} (h : MOk M) {i : Nat} (hi : i < M.length) : Bytes (mg M i).2.1 ∧ (mg M i).2.1.length ≤ 1048576 ∧ Bytes (mg M i).2.2 ∧ (mg M i).2.2.length ≤ 1048576 := by
 refine h _ ?_
 unfold mg
 rw [List.getD_eq_getElem?_getD, List.getElem?_eq_getElem hi]
 exact List.getElem_mem hi
theorem nam_spec (s : List Nat) (hs : Bytes s) (hl : s.length ≤ 1048576) : Spec tab 134 [.str s] [] [] (ValE (fun v => ∃ b : Bool, v = .bool b)) := by
 refine Spec.en (ftg 134 Tryz.func134) rfl (m := 54) rfl (rs := [.tmp 2]) rfl (st := [(0, .str s)]) rfl rfl (fun _ => rfl) (fun E => zr (za rfl (zk (W.seq (zr (za (zi 0) (zk (W.block (W.loop_ind (fun (i : Nat) => [(0, .str s), (3, .int .i64 ((i : Nat) : Int))]) (fun _ => _) (fun (i : Nat) => i ≤ s.length) (fun (i : Nat) => s.length - i) (0) (Nat.zero_le _) zv (SubH.refl _) (fun i hI0 ih0 => ?_))))))))))
 have hi := hI0
 refine W.seq (zr (zm rfl (zm rfl (zq (Q.len ud9 rfl rfl) (zq (Q.bin rfl rfl rfl (bvl ltn)) (zk (W.cD rfl (fun hc9 => ?_) (fun hc9 => ?_))))))))
 ·refine zw (W.seq (W.block (zr (zm rfl (zm rfl (WO.indexB hs ud9 rfl rfl zo rfl (fun c14 hd14 hb14 => za rfl (zk (W.seqK1 (fun (lt : Bool) => [(0, .str s), (3, .int .i64 ((i : Nat) : Int)), (4, .int .u8 ((c14 : Nat) : Int)), (5, .bool lt)]) (fun (lt : Bool) => True) (fun lt hI6 => ?_) (fun hJ6 => ?_))))))))))
  ·refine zr (zm rfl (zq (Q.not rfl rfl) (zm rfl (WO.split (d := 35) rfl (fun hc35 => ?_) (fun hc35 => ?_)))))
   ·refine zT (zm rfl (zT (zq (Q.bin rfl (zi 0) rfl (bv_eql eq_nat)) (zT (zm rfl (WO.sD (d := 38) rfl (fun hc38 => ?_) (fun hc38 => ?_)))))))
    ·refine zG (zG (zT (zq (Q.pT rfl rfl) (zT (zm rfl (zG (zG (zT (zq (Q.pT rfl rfl) (zq (Q.pT rfl rfl) (zk (W.sub (zc 46 rfl (zc 0 rfl (zc 3 rfl zzn))) (W.condT rfl (zr (za rfl (zk (W.ret (End.Br (End.Kr (End.Lr (End.Br (End.Kr (End.retE (z1 rfl) ?_)))))))))))))))))))))))
     exact ⟨_, rfl⟩
    refine zT (zm rfl (zT (zq (Q.bin rfl (zu 48) rfl (bvl ltn)) (zT (zq (Q.pF rfl rfl) (zT (zm rfl (WO.sD (d := 42) rfl (fun hc42 => ?_) (fun hc42 => ?_)))))))))
    ·refine zG (zG (zT (zq (Q.pT rfl rfl) (zq (Q.pT rfl rfl) (zk (W.sub (zc 46 rfl (zc 0 rfl (zc 3 rfl zzn))) (W.condT rfl (zr (za rfl (zk (W.ret (End.Br (End.Kr (End.Lr (End.Br (End.Kr (End.retE (z1 rfl) ?_)))))))))))))))))
     exact ⟨_, rfl⟩
    refine zT (zm rfl (zT (zq (Q.bin rfl (zu 57) rfl (bv_gtr ltn)) (zT (zq (Q.pF rfl rfl) (zq (Q.pT rfl rfl) (zk (W.sub (zc 46 rfl (zc 0 rfl (zc 3 rfl zzn))) (W.cD rfl (fun hc46 => ?_) (fun hc46 => ?_))))))))))
    ·refine zr (za rfl (zk (W.ret (End.Br (End.Kr (End.Lr (End.Br (End.Kr (End.retE (z1 rfl) ?_)))))))))
     exact ⟨_, rfl⟩
    refine W.skip (End.KB (End.K (W.reg (zm rfl (zq (Q.bin rfl (zi 1) rfl zp) (za rfl (WO.nil (End.KL (W.sub zv (ih0 (i + 1) ?_ ?_))))))))))
    ·exact zy
    exact zo
   refine zG (zG (zG (WO.gF rfl rfl (.inr rfl) rfl (WO.gF rfl rfl (.inr rfl) rfl (zG (zG (WO.gF rfl rfl (.inr rfl) rfl (WO.gF rfl rfl (.inr rfl) rfl (zG (zq (Q.pF rfl rfl) (zk (W.sub (zc 46 rfl (zc 0 rfl (zc 3 rfl zzn))) (W.condF rfl (W.skip (End.KB (End.K (W.reg (zm rfl (zq (Q.bin rfl (zi 1) rfl zp) (za rfl (WO.nil (End.KL (W.sub zv (ih0 (i + 1) ?_ ?_))))))))))))))))))))))))
   ·exact zy
   exact zo
  refine W.reg (zm rfl (zq (Q.bin rfl (zu 97) rfl (bv_geq le_nat)) (zm rfl (WO.sD (d := 17) rfl (fun hc17 => ?_) (fun hc17 => ?_)))))
  ·refine zT (zm rfl (zT (zq (Q.bin rfl (zu 122) rfl (bv_leq le_nat)) (zq (Q.pT rfl rfl) (zm rfl (WO.sD (d := 21) rfl (fun hc21 => ?_) (fun hc21 => ?_)))))))
   ·refine zG (zG (zG (WO.gF rfl rfl (.inr rfl) rfl (WO.gF rfl rfl (.inr rfl) rfl (zG (zq (Q.pT rfl rfl) (zm rfl (zG (zG (zq (Q.pT rfl rfl) (za rfl (WO.nil (End.K (W.sub zv (hJ6 (_) ?_)))))))))))))))
    exact trivial
   refine zT (zm rfl (zT (zq (Q.bin rfl (zu 65) rfl (bv_geq le_nat)) (zT (zm rfl (WO.sD (d := 24) rfl (fun hc24 => ?_) (fun hc24 => ?_)))))))
   ·refine zT (zm rfl (zT (zq (Q.bin rfl (zu 90) rfl (bv_leq le_nat)) (zT (zq (Q.pT rfl rfl) (zq (Q.pF rfl rfl) (zm rfl (WO.sD (d := 29) rfl (fun hc29 => ?_) (fun hc29 => ?_)))))))))
    ·refine zG (zG (zq (Q.pT rfl rfl) (za rfl (WO.nil (End.K (W.sub zv (hJ6 (_) ?_)))))))
     exact trivial
    refine zT (zm rfl (zT (zq (Q.bin rfl (zu 95) rfl (bv_eql eq_nat)) (zq (Q.pF rfl rfl) (za rfl (WO.nil (End.K (W.sub zv (hJ6 (_) ?_)))))))))
    exact trivial
   refine zG (zG (zT (zq (Q.pF rfl rfl) (zq (Q.pF rfl rfl) (zm rfl (zT (zm rfl (zT (zq (Q.bin rfl (zu 95) rfl (bv_eql eq_nat)) (zq (Q.pF rfl rfl) (za rfl (WO.nil (End.K (W.sub zv (hJ6 (_) ?_)))))))))))))))
   exact trivial
  refine zG (zG (zq (Q.pF rfl rfl) (zm rfl (zT (zm rfl (zT (zq (Q.bin rfl (zu 65) rfl (bv_geq le_nat)) (zT (zm rfl (WO.sD (d := 24) rfl (fun hc24 => ?_) (fun hc24 => ?_)))))))))))
  ·refine zT (zm rfl (zT (zq (Q.bin rfl (zu 90) rfl (bv_leq le_nat)) (zT (zq (Q.pT rfl rfl) (zq (Q.pF rfl rfl) (zm rfl (WO.sD (d := 29) rfl (fun hc29 => ?_) (fun hc29 => ?_)))))))))
   ·refine zG (zG (zq (Q.pT rfl rfl) (za rfl (WO.nil (End.K (W.sub zv (hJ6 (_) ?_)))))))
    exact trivial
   refine zT (zm rfl (zT (zq (Q.bin rfl (zu 95) rfl (bv_eql eq_nat)) (zq (Q.pF rfl rfl) (za rfl (WO.nil (End.K (W.sub zv (hJ6 (_) ?_)))))))))
   exact trivial
  refine zG (zG (zT (zq (Q.pF rfl rfl) (zq (Q.pF rfl rfl) (zm rfl (zT (zm rfl (zT (zq (Q.bin rfl (zu 95) rfl (bv_eql eq_nat)) (zq (Q.pF rfl rfl) (za rfl (WO.nil (End.K (W.sub zv (hJ6 (_) ?_)))))))))))))))
  exact trivial
 refine W.exit (End.Kx (End.Lx (End.Bh (End.K (zr (zm rfl (zq (Q.bin rfl (oc (v := .str []) (by kernel_rfl)) rfl bv_sneq) (zm rfl (WO.sD (d := 49) rfl (fun hc49 => ?_) (fun hc49 => ?_))))))))))
 ·refine zT (zm rfl (zT (zq (Q.len ud9 rfl rfl) (zT (zq (Q.bin rfl (zi 32) rfl (bv_leq le_nat)) (zq (Q.pT rfl rfl) (za rfl (zk (W.ret (End.retE (z1 rfl) ?_))))))))))
  exact ⟨_, rfl⟩
 refine zG (zG (zG (zq (Q.pF rfl rfl) (za rfl (zk (W.ret (End.retE (z1 rfl) ?_)))))))
 exact ⟨_, rfl⟩

theorem get_spec (s : List Nat) (hs : Bytes s) : Spec tab 194 [.nils, .str s] [] [] (Val (.str [])) := by
 refine Spec.en (ftg 194 Tryz.func194) rfl (m := 24) rfl (rs := [.tmp 4]) rfl (st := [(0, .nils), (1, .str s)]) rfl rfl (fun _ => rfl) (fun E => zr (zq (Q.assign (oc (v := .str []) (by kernel_rfl))) (zk (W.seq (zr (za (zi 0) (zk (W.block (W.loop (W.seq (zr (zm rfl (zm rfl (zq (Q.len ud188 rfl rfl) (zq (Q.bin rfl rfl rfl (bvl (p := false) rfl)) (zk (W.condF rfl (W.exit (End.Kx (End.Lx (End.Bh (End.K (zr (zq (Q.assign (oc (v := .str []) (by kernel_rfl))) (zk (W.ret ?_))))))))))))))))))))))))))
 refine End.rV (z1 rfl) ?_
 rfl

theorem mchk_spec (k : Int) (n u : List Nat) (hn : Bytes n) (hu : Bytes u) (hnl : n.length ≤ 1048576) (hul : u.length ≤ 1048576) : Spec tab 172 [.agg [.int .i64 k, .str n, .str u]] [] [] (ValE (fun v => ∃ x : Int, v = .int .i64 x)) := by
 refine Spec.en (ftg 172 Tryz.func172) rfl (m := 25) rfl (rs := [.tmp 2]) rfl (st := [(0, .agg [.int .i64 k, .str n, .str u])]) rfl rfl (fun _ => rfl) (fun E => zr (WO.box rfl rfl (bx91 _ rfl) rfl (fun b1 => za (zi 0) (zk (W.seq (zr (zf fa91_0 rfl 0 (zq (Q.l1 rfl (zt 0 rfl) ag3 rfl) (zq (Q.bin rfl (zi 1) rfl (bvl (ltA_eq _ _))) (zm rfl (WO.sD (d := 6) rfl (fun hc6 => ?_) (fun hc6 => ?_))))))))))))
 ·refine zG (zG (zG (zq (Q.pT rfl rfl) (zk (W.condT rfl (zr (za (zi 2) (zk (W.ret (End.Kr (End.retE (z1 rfl) ?_)))))))))))
  exact ⟨_, rfl⟩
 refine zT (zf fa91_0 rfl 0 (zT (zq (Q.l1 rfl (zt 0 rfl) ag3 rfl) (zT (zq (Q.bin rfl (zi 4) rfl (bv_gtr (ltA_eq _ _))) (zq (Q.pF rfl rfl) (zk (W.cD rfl (fun hc10 => ?_) (fun hc10 => ?_)))))))))
 ·refine zr (za (zi 2) (zk (W.ret (End.Kr (End.retE (z1 rfl) ?_)))))
  exact ⟨_, rfl⟩
 refine zw (W.seq (zr (zf fa91_1 rfl 1 (zq (Q.l1 rfl (zt 0 rfl) ag9 rfl) (WO.callE rfl (oLc rfl oz) rfl (nam_spec _ hn zy) SubR.nil rfl (fun v13 hP13 => ?_))))))
 obtain ⟨nb, rfl⟩ := hP13
 refine zq (Q.not rfl rfl) (zk (W.condS rfl (fun hc14 => ?_) (fun hc14 => ?_)))
 ·refine zr (za (zi 8) (zk (W.sub (zc 2 rfl zzn) (W.ret (End.Kr (End.retE (z1 rfl) ?_))))))
  exact ⟨_, rfl⟩
 refine zw (W.sub (zc 1 rfl zzn) (W.seq (zr (zf fa91_2 rfl 2 (zq (Q.l1 rfl (zt 0 rfl) ag9 rfl) (zq (Q.len ud9 rfl rfl) (zq (Q.bin rfl (zi 64) rfl (bv_gtr ltn)) (zk (W.cD rfl (fun hc18 => ?_) (fun hc18 => ?_))))))))))
 ·refine zr (za (zi 3) (zk (W.ret (End.Kr (End.retE (z1 rfl) ?_)))))
  exact ⟨_, rfl⟩
 refine zw (W.seq (zr (zf fa91_0 rfl 0 (zq (Q.l1 rfl (zt 0 rfl) ag3 rfl) (zq (Q.bin rfl (zi 2) rfl (bv_gtr (ltA_eq _ _))) (zk (W.cD rfl (fun hc21 => ?_) (fun hc21 => ?_))))))))
 ·refine zr (zf fa91_2 rfl 2 (zq (Q.l1 rfl (zt 0 rfl) ag9 rfl) (WO.callE rfl (oLc rfl oz) rfl (rcheck_spec _ hu zy) SubR.nil rfl (fun v24 hP24 => ?_))))
  obtain ⟨x24, rfl, hx24⟩ := hP24
  refine za rfl (zk (W.ret (End.Kr (End.retE (z1 rfl) ?_))))
  exact ⟨_, rfl⟩
 refine zw (zr (za (zi 0) (zk (W.ret (End.retE (z1 rfl) ?_)))))
 exact ⟨_, rfl⟩

theorem mfits_spec (k : Int) (n u : List Nat) (hn : Bytes n) (hu : Bytes u) (hnl : n.length ≤ 1048576) (hul : u.length ≤ 1048576) : Spec tab 186 [.agg [.int .i64 k, .str n, .str u], .nils] [] [] (ValE (fun v => ∃ b : Bool, v = .bool b)) := by
 refine Spec.en (ftg 186 Tryz.func186) rfl (m := 38) rfl (rs := [.tmp 4]) rfl (st := [(0, .agg [.int .i64 k, .str n, .str u]), (1, .nils)]) rfl rfl (fun _ => rfl) (fun E => zr (WO.box rfl rfl (bx91 _ rfl) rfl (fun b1 => za rfl (zk (W.seq (zr (zq (Q.loadN rfl (zt 0 rfl) ag91 sz91 (l := [_, _, _]) rfl) (WO.callE rfl (oLc rfl oz) rfl (mchk_spec _ _ _ hn hu zy zy) SubR.nil rfl (fun v9 hP9 => ?_)))))))))
 obtain ⟨y9, rfl⟩ := hP9
 refine zq (Q.bin rfl (zi 0) rfl (bv_neq ne_int)) (zk (W.cD rfl (fun hc10 => ?_) (fun hc10 => ?_)))
 ·refine zr (za rfl (zk (W.ret (End.Kr (End.retE (z1 rfl) ?_)))))
  exact ⟨_, rfl⟩
 refine zw (zr (zm rfl (zf fa91_1 rfl 1 (zq (Q.l1 rfl (zt 0 rfl) ag9 rfl) (WO.cV rfl (oLc rfl (oLc rfl oz)) rfl (get_spec _ hn) SubR.nil rfl (za rfl (zk (W.seq (zr (zf fa91_0 rfl 0 (zq (Q.l1 rfl (zt 0 rfl) ag3 rfl) (zq (Q.bin rfl (zi 3) rfl (bvl (ltA_eq _ _))) (zk (W.cD rfl (fun hc17 => ?_) (fun hc17 => ?_)))))))))))))))
 ·refine zr (zm rfl (zf fa91_2 rfl 2 (zq (Q.l1 rfl (zt 0 rfl) ag9 rfl) (zq (Q.bin rfl rfl rfl bv_seql) (zf fa91_0 rfl 0 (zq (Q.l1 rfl (zt 0 rfl) ag3 rfl) (zq (Q.bin rfl (zi 1) rfl (bv_eql eq_int)) (zq (Q.bin rfl rfl rfl (bv_beqB ud4)) (za rfl (zk (W.sub (zc 4 rfl zzn) (W.ret (End.Kr (End.retE (z1 rfl) ?_))))))))))))))
  exact ⟨_, rfl⟩
 refine zw (zr (zf fa91_2 rfl 2 (zq (Q.l1 rfl (zt 0 rfl) ag9 rfl) (zm rfl (WO.callE rfl (oLc rfl (oLc rfl oz)) rfl (rfits_spec _ hu zy) SubR.nil rfl (fun v30 hP30 => ?_))))))
 obtain ⟨fb, fe, rfl⟩ := hP30
 refine zm rfl (zq (Q.extract rfl rfl) (zq (Q.extract rfl rfl) (za rfl (za rfl (zk (W.sub (zc 6 rfl (zc 2 rfl zzn)) (zr (zm rfl (zf fa91_0 rfl 0 (zq (Q.l1 rfl (zt 0 rfl) ag3 rfl) (zq (Q.bin rfl (zi 3) rfl (bv_eql eq_int)) (zq (Q.bin rfl rfl rfl (bv_beqB ud4)) (za rfl (zk (W.ret (End.retE (z1 rfl) ?_))))))))))))))))
 exact ⟨_, rfl⟩

theorem mall_spec (hs : HSt) (hro : ∀ e ∈ hs, e.w = false) (M : List MtT) (v : AV) (hM : ISm hs M v) (hok : MOk M) (hML : M.length ≤ 1048576) : Spec tab 173 [v, .nils] [] hs (ValE (fun v => ∃ b : Bool, v = .bool b)) := by
 refine Spec.en (ftg 173 Tryz.func173) rfl (m := 19) rfl (rs := [.tmp 4]) rfl (st := [(0, v), (1, .nils)]) rfl rfl (fun _ => rfl) (fun E => zr (za rfl (zk (W.seq (zr (za (zi 0) (zk (W.block (W.loop_ind (fun (i : Nat) => [(0, v), (1, .nils), (5, .int .i64 ((i : Nat) : Int))]) (fun _ => _) (fun (i : Nat) => i ≤ M.length) (fun (i : Nat) => M.length - i) (0) (Nat.zero_le _) zv (SubH.refl _) (fun i hI0 ih0 => ?_))))))))))
 have hi := hI0
 refine W.seq (zr (zm rfl (zm rfl (zq (Q.len ud22 rfl (ism_len hM)) (zq (Q.bin rfl rfl rfl (bvl ltn)) (zk (W.cD rfl (fun hc9 => ?_) (fun hc9 => ?_))))))))
 ·obtain ⟨bm, exm, rfl, wm, mm⟩ := ism_full hM zy
  have hx := mok_at hok (i := i) zy
  obtain ⟨hx1, hx2, hx3, hx4⟩ := id hx
  refine zw (W.seq (W.block (zr (zm rfl (zm rfl (zq (Q.iS ud22 sz91 rfl rfl zo) (zq (Q.loadN rfl mm ag91 sz91 (msub zy)) (zm rfl (WO.callE rfl (oLc rfl (oLc rfl oz)) rfl (mfits_spec _ _ _ hx.1 hx.2.2.1 zy zy) SubR.nil rfl (fun v17 hP17 => ?_))))))))))
  obtain ⟨mb, rfl⟩ := hP17
  refine zq (Q.not rfl rfl) (zk (W.condS rfl (fun hc18 => ?_) (fun hc18 => ?_)))
  ·refine zr (za rfl (zk (W.sub (zc 4 rfl zzn) (W.ret (End.Br (End.Kr (End.Lr (End.Br (End.Kr (End.retE (z1 rfl) ?_))))))))))
   exact ⟨_, rfl⟩
  refine W.skip (End.KB (End.K (W.reg (zm rfl (zq (Q.bin rfl (zi 1) rfl zp) (za rfl (WO.nil (End.KL (W.sub zv (ih0 (i + 1) ?_ ?_))))))))))
  ·exact zy
  exact zo
 refine W.exit (End.Kx (End.Lx (End.Bh (End.K (zr (za rfl (zk (W.ret (End.retE (z1 rfl) ?_)))))))))
 exact ⟨_, rfl⟩

theorem mca_spec (hs : HSt) (hro : ∀ e ∈ hs, e.w = false) (M : List MtT) (v : AV) (hM : ISm hs M v) (hok : MOk M) (hML : M.length ≤ 1048576) : Spec tab 151 [v] [] hs (ValE (fun v => ∃ x : Int, v = .int .i64 x)) := by
 refine Spec.en (ftg 151 Tryz.func151) rfl (m := 24) rfl (rs := [.tmp 2]) rfl (st := [(0, v)]) rfl rfl (fun _ => rfl) (fun E => zr (za (zi 0) (zk (W.seq (zr (zm rfl (zq (Q.len ud22 rfl (ism_len hM)) (zq (Q.bin rfl (zi 8) rfl (bv_gtr ltn)) (zk (W.cD rfl (fun hc7 => ?_) (fun hc7 => ?_)))))))))))
 ·refine zr (za (zi 3) (zk (W.ret (End.Kr (End.retE (z1 rfl) ?_)))))
  exact ⟨_, rfl⟩
 refine zw (W.seq (zr (za (zi 0) (zk (W.block (W.loop_ind (fun (i : Nat) => [(0, v), (3, .int .i64 ((i : Nat) : Int))]) (fun _ => _) (fun (i : Nat) => i ≤ M.length) (fun (i : Nat) => M.length - i) (0) (Nat.zero_le _) zv (SubH.refl _) (fun i hI0 ih0 => ?_)))))))
 have hi := hI0
 refine W.seq (zr (zm rfl (zm rfl (zq (Q.len ud22 rfl (ism_len hM)) (zq (Q.bin rfl rfl rfl (bvl ltn)) (zk (W.cD rfl (fun hc11 => ?_) (fun hc11 => ?_))))))))
 ·obtain ⟨bm, exm, rfl, wm, mm⟩ := ism_full hM zy
  have hx := mok_at hok (i := i) zy
  obtain ⟨hx1, hx2, hx3, hx4⟩ := id hx
  refine zw (W.seq (W.block (zr (zm rfl (zm rfl (zq (Q.iS ud22 sz91 rfl rfl zo) (zq (Q.loadN rfl mm ag91 sz91 (msub zy)) (WO.callE rfl (oLc rfl oz) rfl (mchk_spec _ _ _ hx.1 hx.2.2.1 zy zy) SubR.nil rfl (fun v18 hP18 => ?_)))))))))
  obtain ⟨y18, rfl⟩ := hP18
  refine za rfl (zk (zr (zm rfl (zq (Q.bin rfl (zi 0) rfl (bv_neq ne_int)) (zk (W.cD rfl (fun hc20 => ?_) (fun hc20 => ?_)))))))
  ·refine zr (zm rfl (za rfl (zk (W.sub (zc 2 rfl zzn) (W.ret (End.Br (End.Kr (End.Lr (End.Br (End.Kr (End.retE (z1 rfl) ?_)))))))))))
   exact ⟨_, rfl⟩
  refine W.skip (End.KB (End.K (W.reg (zm rfl (zq (Q.bin rfl (zi 1) rfl zp) (za rfl (WO.nil (End.KL (W.sub zv (ih0 (i + 1) ?_ ?_))))))))))
  ·exact zy
  exact zo
 refine W.exit (End.Kx (End.Lx (End.Bh (End.K (W.seq (zr (zm rfl (WO.callE rfl (oLc rfl (oLc rfl oz)) rfl (mall_spec hs hro M _ hM hok hML) (SubR.s hro) rfl (fun v23 hP23 => ?_)))))))))
 obtain ⟨ab, rfl⟩ := hP23
 refine zk (W.condS rfl (fun hc23 => ?_) (fun hc23 => ?_))
 ·refine zr (za (zi 2) (zk (W.ret (End.Kr (End.retE (z1 rfl) ?_)))))
  exact ⟨_, rfl⟩
 refine zw (zr (za (zi 0) (zk (W.ret (End.retE (z1 rfl) ?_)))))
 exact ⟨_, rfl⟩
end Go.Proofs.YtndhhgbpcmfeiaaGreatDoor.Ev.P16
