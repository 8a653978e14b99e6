/- Chapter 7, by the document: where a text ends in an alternative. -/
import Derived.Test.YtfkbfnpjggkdmaaGreatDoorCVg
namespace Go.Proofs.YtfkbfnpjggkdmaaGreatDoor.Ev.P7
open Go.RowKit
set_option maxRecDepth 100000
set_option maxHeartbeats 1000000
theorem Alt.at_ {r : List Nat -> Bool} {p : List Nat} {i : Nat} (h : Alt r (p.drop i)) (hi : i < p.length) : ∃ n, cG r (p.drop i) = some n /\ 0 < n /\ i + n <= p.length /\
  (i + n < p.length -> Et (p.getD (i + n) 0) -> Alt r (p.drop (i + n + 1))) /\ (¬ (i + n < p.length /\ Et (p.getD (i + n) 0)) -> Alt r (p.drop (i + n))) := by
 have hne := nT hi
 have e1 : ∀ n, (p.drop i).getD n 0 = p.getD (i + n) 0 := fun n => cx
 have e2 : ∀ n, (p.drop i).drop n = p.drop (i + n) := fun n => List.drop_drop ..
 have e3 : (p.drop i).length = p.length - i := List.length_drop ..
 generalize hq : p.drop i = l at h hne e1 e2 e3
 cases h with
 | nil => exact absurd rfl hne
 | @mark _ n h1 h2 h3 h4 =>
  have := fE h1
  exact ⟨n, h1, this.1, by omega, fun _ _ => by rw [e2] at h4; exact h4, fun g => absurd (And.intro zy (by rw [<- e1]; exact h3)) g⟩
 | @bare _ n h1 h2 h3 =>
  have := fE h1
  exact ⟨n, h1, this.1, by omega, fun g1 g2 => absurd (And.intro zy (by rw [e1]; exact g2)) h2, fun _ => by rw [e2] at h3; exact h3⟩
theorem wx (p : List Nat) (hs : Bytes p) (hl : p.length <= 64) (i : Nat) (r : List Nat -> Bool) (d : Nat) (HR : ∀ q : List Nat, Bytes q -> q.length <= 64 -> q.length < d -> Spec tab 162 [.str q] [] [] (bN (.bool (r q)))) (hd : p.length <= d) {n : Nat} (hn : cG r (p.drop i) = some n) :
  Spec tab 250 [.str p, .int .i64 ((i : Nat) : Int)] [] [] (bN (.int .i64 ((i + n : Nat) : Int))) := by
 have := ql p hs hl i r d HR hd
 rw [hn] at this
 exact this
theorem CE {r : List Nat -> Bool} {l : List Nat} {n m : Nat} (h : cG r l = some n) (hm : m = n) : (l.take m).getD 0 0 = 40 -> 2 <= (l.take m).length /\ r (((l.take m).drop 1).take ((l.take m).length - 1 - 1)) = true := by
 subst hm
 intro h40
 have hn := fE h
 rw [cK zy] at h40
 unfold cG at h
 by_cases h0 : l = []
 ·rw [if_pos h0] at h; exact absurd h (by simp)
 have hp : ¬ (l.getD 0 0 = 46 \/ dL (l.getD 0 0) = true) := by
  rw [h40]
  decide
 rw [if_neg h0, if_neg hp, if_neg zy, if_neg zy, if_pos h40] at h
 cases e : dk 100 0 l with
 | none => rw [e] at h; exact absurd h (by simp)
 | some q =>
  rw [e] at h
  simp only at h
  by_cases h5 : r ((l.drop 1).take (q - 1)) = true
  ·rw [if_pos h5] at h
   have hq := Option.some.inj h
   have hq0 := nM e h40
   have hl : (l.take m).length = m := by rw [List.length_take]; omega
   refine ⟨by omega, ?_⟩
   rw [hl, List.drop_take, List.take_take, show min (m - 1 - 1) (m - 1) = q - 1 from by omega]
   exact h5
  ·rw [if_neg h5] at h; exact absurd h (by simp)
theorem CD {r : List Nat -> Bool} {l : List Nat} {n m : Nat} (h : cG r l = some n) (hm : m = n) : (l.take m).getD 0 0 = 92 -> 2 <= (l.take m).length := by
 subst hm
 intro h92
 have hn := fE h
 rw [cK zy] at h92
 rw [List.length_take]
 unfold cG at h
 by_cases h0 : l = []
 ·rw [if_pos h0] at h; exact absurd h (by simp)
 have hp : ¬ (l.getD 0 0 = 46 \/ dL (l.getD 0 0) = true) := by
  rw [h92]
  decide
 rw [if_neg h0, if_neg hp] at h
 split at h
 ·rename_i g
  have := Option.some.inj h
  omega
 ·rw [if_neg zy, if_neg zy] at h; exact absurd h (by simp)
theorem AI (p : List Nat) (hs : Bytes p) (hl : p.length <= 64) (s : List Nat) (hS : Bytes s) (hsl : s.length <= 64) (r : List Nat -> Bool) (d : Nat) (HE : ∀ q : List Nat, Bytes q -> q.length <= 64 -> q.length < d -> r q = true -> ∀ (hs : af) (v : AV), (∀ e ∈ hs, e.w = false) -> ZV s.length hs v -> Spec tab 211 [.str q, .str s, v] [] hs (ZQ s.length)) (HR : ∀ q : List Nat, Bytes q -> q.length <= 64 -> q.length < d -> Spec tab 162 [.str q] [] [] (bN (.bool (r q)))) (hd : p.length <= d) (hA : Alt r p) (gs : af) (hro : ∀ e ∈ gs, e.w = false) (v : AV) (hz : ZV s.length gs v) : Spec tab 253 [.str p, .str s, v] [] gs (fun v D => ZV s.length (gs ++ D) v /\ ∀ e ∈ D, e.w = true) := by
 refine ac (bz 253 Tryz.func253) rfl (m := 56) rfl (rs := [.tmp 6]) rfl (st := [(0, .str p), (1, .str s), (2, v)]) rfl rfl (fun _ => rfl) (fun E => zr (za rfl (zk (zr (za (zi 0) (zk (W.seq (W.block (bI (fun (i : Nat) (v : AV) (G : af) => [(0, .str p), (1, .str s), (2, v), (7, .int .i64 ((i : Nat) : Int))]) (fun (i : Nat) (v : AV) (G : af) => gs ++ G) (fun (i : Nat) (v : AV) (G : af) => Alt r (p.drop i) /\ i <= p.length /\ ZV s.length (gs ++ G) v /\ ∀ e ∈ G, e.w = true) (fun (i : Nat) (v : AV) (G : af) => p.length - i) (0) (v) ([]) ⟨hA, by omega, by simpa using hz, fun e h => sx h⟩ zv (SubH.of_sublist (by simp)) (fun i v G hI0 ih0 => ?_))))))))))
 obtain ⟨hA, hi, hz, hG⟩ := hI0
 refine W.seq (zr (zm rfl (zm rfl (zq (Q.len cf rfl rfl) (zq (aa rfl rfl rfl (bu bY)) (zk (aB rfl (fun hc13 => ?_) (fun hc13 => ?_))))))))
 ·obtain ⟨n, hn, hn0, hnl, hm1, hm2⟩ := hA.at_ zy
  refine zw (W.block (zr (zm rfl (zm rfl (ak rfl (aj rfl (aj rfl oz)) rfl (wx p hs hl i r d HR hd hn) SubR.nil rfl (za rfl (zk (zr (za (zu 0) (zk (j5 (fun (c : Nat) => [(0, .str p), (1, .str s), (2, v), (7, .int .i64 ((i : Nat) : Int)), (8, .int .i64 ((i + n : Nat) : Int)), (9, .int .u8 ((c : Nat) : Int))]) (fun (c : Nat) => c < 256 /\ ((c ≠ 0 /\ Alt r (p.drop (i + n + 1)) /\ i + n < p.length) \/ (c = 0 /\ Alt r (p.drop (i + n))))) (fun c hI7 => ?_) (fun hJ7 => ?_))))))))))))
  ·obtain ⟨hcb, hc⟩ := hI7
   refine zr (zm rfl (zm rfl (zm rfl (zq (gi cf rfl rfl zo rfl) (zm rfl (zm rfl (zm rfl (WO.call0 rfl (aj rfl (aj rfl (aj rfl (aj rfl oz)))) rfl (vQ s hS hsl r d HE _ (Bytes.take (Bytes.drop hs _) _) zo zo zo (CE hn zy) (CD hn zy) c hcb (ro (gs ++ G)) ie v hz.ro) (SubR.ro (SubH.refl _)) rfl (fun v49 D49 hP49 => WO.subH (hs' := (gs ++ G ++ D49)) (SubH.op (aw (N := []) (G := D49) (K := []) (X := gs ++ G))) (za rfl (zk (zr (zm rfl (za rfl (zk (zr (zm rfl (zq (aa rfl (zu 0) rfl (bd gB)) (zk (aB rfl (fun hc52 => ?_) (fun hc52 => ?_)))))))))))))))))))))
   ·refine W.reg (zm rfl (zq (aa rfl (zi 1) rfl zp) (za rfl (WO.nil (End.KB (End.KL (W.sub zv (cz (SubH.of_sublist (by simp)) (ih0 (i + n + 1) (v49) (D49) ?_ ?_)))))))))
    ·exact ⟨by rcases hc with ⟨_, g, _⟩ | ⟨g, _⟩; exact g; omega, by omega, (hP49.1).appr, hP49.2⟩
    exact zo
   refine W.skip (End.KB (End.KL (W.sub zv (cz (SubH.of_sublist (by simp)) (ih0 (i + n) (v49) (D49) ?_ ?_)))))
   ·exact ⟨by rcases hc with ⟨g, _⟩ | ⟨_, g⟩; omega; exact g, by omega, (hP49.1).appr, hP49.2⟩
   exact zo
  refine zr (zm rfl (zm rfl (zq (Q.len cf rfl rfl) (zq (aa rfl rfl rfl (bu bY)) (zm rfl (aC (d := 21) rfl (fun hc21 => ?_) (fun hc21 => ?_)))))))
  ·refine zT (zm rfl (zT (zm rfl (zT (aE hs cf rfl rfl zo rfl (fun c24 hd24 hb24 => zT (zq (aa rfl (zu 42) rfl (ai aG)) (zT (zm rfl (aC (d := 26) rfl (fun hc26 => ?_) (fun hc26 => ?_)))))))))))
   ·refine z2 (z2 (zT (zq (aA rfl rfl) (zT (zm rfl (z2 (z2 (zT (zq (aA rfl rfl) (zq (aA rfl rfl) (zk (W.sub (zc 38 rfl (zc 9 rfl (zc 8 rfl (zc 0 rfl (zc 1 rfl (zc 2 rfl (zc 7 rfl aI))))))) (W.condT rfl (W.reg (zm rfl (zm rfl (aE hs cf rfl rfl zo rfl (fun c41 hd41 hb41 => za rfl (WO.nil ?_)))))))))))))))))))
    refine End.K (W.sub zv (hJ7 (_) ?_))
    exact ⟨hb41, .inl ⟨by omega, hm1 zy (by unfold Et; omega), by omega⟩⟩
   refine zT (zm rfl (zT (zm rfl (zT (aE hs cf rfl rfl zo rfl (fun c29 hd29 hb29 => zT (zq (aa rfl (zu 43) rfl (ai aG)) (zT (zq (aF rfl rfl) (zT (zm rfl (aC (d := 32) rfl (fun hc32 => ?_) (fun hc32 => ?_)))))))))))))
   ·refine z2 (z2 (zT (zq (aA rfl rfl) (zq (aA rfl rfl) (zk (W.sub (zc 38 rfl (zc 9 rfl (zc 8 rfl (zc 0 rfl (zc 1 rfl (zc 2 rfl (zc 7 rfl aI))))))) (W.condT rfl (W.reg (zm rfl (zm rfl (aE hs cf rfl rfl zo rfl (fun c41 hd41 hb41 => za rfl (WO.nil (End.K (W.sub zv (hJ7 (_) ?_))))))))))))))))
    exact ⟨hb41, .inl ⟨by omega, hm1 zy (by unfold Et; omega), by omega⟩⟩
   refine zT (zm rfl (zT (zm rfl (zT (aE hs cf rfl rfl zo rfl (fun c35 hd35 hb35 => zT (zq (aa rfl (zu 63) rfl (ai aG)) (zT (zq (aF rfl rfl) (zq (aA rfl rfl) (zk (W.sub (zc 38 rfl (zc 9 rfl (zc 8 rfl (zc 0 rfl (zc 1 rfl (zc 2 rfl (zc 7 rfl aI))))))) (aB rfl (fun hc38 => ?_) (fun hc38 => ?_))))))))))))))
   ·refine W.reg (zm rfl (zm rfl (aE hs cf rfl rfl zo rfl (fun c41 hd41 hb41 => za rfl (WO.nil (End.K (W.sub zv (hJ7 (_) ?_))))))))
    exact ⟨hb41, .inl ⟨by omega, hm1 zy (by unfold Et; omega), by omega⟩⟩
   refine W.skip (End.K (W.sub zv (hJ7 (_) ?_)))
   exact ⟨by omega, .inr ⟨rfl, hm2 (by unfold Et; omega)⟩⟩
  refine z2 (z2 (zG (aW rfl rfl (.inr rfl) rfl (aW rfl rfl (.inr rfl) rfl (aW rfl rfl (.inr rfl) rfl (aW rfl rfl (.inr rfl) rfl (z2 (aW rfl rfl (.inr rfl) rfl (aW rfl rfl (.inr rfl) rfl (aW rfl rfl (.inr rfl) rfl (aW rfl rfl (.inr rfl) rfl (zG (zq (aF rfl rfl) (zk (W.sub (zc 38 rfl (zc 9 rfl (zc 8 rfl (zc 0 rfl (zc 1 rfl (zc 2 rfl (zc 7 rfl aI))))))) (W.condF rfl (W.skip (End.K (W.sub zv (hJ7 (_) ?_))))))))))))))))))))
  exact ⟨by omega, .inr ⟨rfl, hm2 (by unfold Et; omega)⟩⟩
 refine W.exit (am (aq (ap (End.K (zr (zm rfl (za rfl (zk (W.ret ?_)))))))))
 refine End.ret (z1 rfl) (hs' := G) ⟨hz, hG⟩ hG (SubH.of_sublist (by simp))
theorem ZV.tl {N : Nat} {hs : af} {e : HE} {v : AV} (h : ZV N hs v) : ZV N (e :: hs) v := h.mono fun b o ⟨w, g⟩ => ⟨w, List.mem_cons_of_mem _ g⟩
theorem zP {hs : af} {A : List Nat} {v : AV} (h : IS hs A 0 v) : zn v = A.length := by
 rcases h with ⟨rfl, rfl⟩ | ⟨b, ex, rfl, _⟩ <;> rfl
theorem sJ {L : List (List Nat)} {i : Nat} (h : i < L.length) : (L.map AV.str)[(0 + i) * 1]? = some (.str (L.getD i [])) := by
 rw [Nat.zero_add, Nat.mul_one, List.getElem?_map, List.getD_eq_getElem?_getD, List.getElem?_eq_getElem h]; rfl
theorem HO {N : Nat} {e : HE} {A D : af} {v : AV} (h : ZV N (Ev.ro (e :: A) ++ D) v) : ZV N (Ev.ro (e :: (A ++ D))) v := by
 refine h.mono fun b o ⟨w, h2⟩ => ?_
 rcases List.mem_append.1 h2 with g | g
 ·obtain ⟨x, hx, ex⟩ := List.mem_map.1 g
  have hw : false = w := congrArg HE.w ex
  subst hw
  refine ⟨false, List.mem_map.2 ⟨x, ?_, ex⟩⟩
  rcases List.mem_cons.1 hx with rfl | hx
  ·exact List.mem_cons_self
  ·exact List.mem_cons_of_mem _ (List.mem_append_left _ hx)
 ·exact ⟨false, List.mem_map.2 ⟨_, List.mem_cons_of_mem _ (List.mem_append_right _ g), rfl⟩⟩
theorem tB {d : Nat} {p : List Nat} {v : AV} {D : af} (hR : dm (d + 1) p = true) (h : Bv (dm d) p v D) :
  ∃ L b ex, eY (dm d) 100 [] p = some L /\ v = .tuple [.slice b 0 L.length 1, .bool true] /\ D = [⟨b, ⟨1, ex, L.map AV.str⟩, true⟩] := by
 rcases h with ⟨h1, _⟩ | h
 ·unfold dm at hR
  rw [h1] at hR
  exact absurd hR (by simp)
 ·exact h
theorem nS {r : List Nat -> Bool} : ∀ {k : Nat} {cur l : List Nat} {L : List (List Nat)}, eY r k cur l = some L -> L.length <= k
 | 0, _, _, _, h => by simp [eY] at h
 | k + 1, cur, l, L, h => by
  unfold eY at h
  by_cases h0 : l = []
  ·rw [if_pos h0] at h
   have := Option.some.inj h
   subst this
   simp
  rw [if_neg h0] at h
  by_cases h1 : l.getD 0 0 = 124
  ·rw [if_pos h1] at h
   obtain ⟨M, hM, rfl⟩ := Option.map_eq_some_iff.1 h
   have := nS hM
   simp
   omega
  rw [if_neg h1] at h
  cases e : cG r l with
  | none => rw [e] at h; exact absurd h (by simp)
  | some n =>
   rw [e] at h
   simp only at h
   split at h
   ·have := nS h; omega
   ·have := nS h; omega
theorem rO {r : List Nat -> Bool} : ∀ {k : Nat} {cur l : List Nat} {L : List (List Nat)}, eY r k cur l = some L -> ∀ x ∈ L, x.length <= cur.length + l.length /\ ∀ c ∈ x, c ∈ cur \/ c ∈ l
 | 0, _, _, _, h => by simp [eY] at h
 | k + 1, cur, l, L, h => by
  unfold eY at h
  by_cases h0 : l = []
  ·rw [if_pos h0] at h
   have := Option.some.inj h
   subst this
   intro x hx
   simp at hx
   subst hx
   exact ⟨by omega, fun c hc => .inl hc⟩
  rw [if_neg h0] at h
  by_cases h1 : l.getD 0 0 = 124
  ·rw [if_pos h1] at h
   obtain ⟨M, hM, rfl⟩ := Option.map_eq_some_iff.1 h
   intro x hx
   rcases List.mem_cons.1 hx with rfl | hx
   ·exact ⟨by omega, fun c hc => .inl hc⟩
   ·have := rO hM x hx
    simp only [List.length_drop, List.length_nil] at this
    refine ⟨by omega, fun c hc => ?_⟩
    rcases this.2 c hc with g | g
    ·simp at g
    ·exact .inr (List.mem_of_mem_drop g)
  rw [if_neg h1] at h
  cases e : cG r l with
  | none => rw [e] at h; exact absurd h (by simp)
  | some n =>
   rw [e] at h
   have st : ∀ m, eY r k (cur ++ l.take m) (l.drop m) = some L -> ∀ x ∈ L, x.length <= cur.length + l.length /\ ∀ c ∈ x, c ∈ cur \/ c ∈ l := by
    intro m hm x hx
    have := rO hm x hx
    simp only [List.length_append, List.length_take, List.length_drop] at this
    refine ⟨by omega, fun c hc => ?_⟩
    rcases this.2 c hc with g | g
    ·rcases List.mem_append.1 g with g | g
     ·exact .inl g
     ·exact .inr (List.mem_of_mem_take g)
    ·exact .inr (List.mem_of_mem_drop g)
   simp only at h
   split at h
   ·exact st _ h
   ·exact st _ h
theorem Gi {r : List Nat -> Bool} {p : List Nat} {L : List (List Nat)} {i : Nat} (h : eY r 100 [] p = some L) (hs : Bytes p) (hl : p.length <= 64) (hi : i < L.length) :
  Bytes (L.getD i []) /\ (L.getD i []).length <= 64 /\ (L.getD i []).length <= p.length /\ Alt r (L.getD i []) := by
 have hm : L.getD i [] ∈ L := by
  rw [List.getD_eq_getElem?_getD, List.getElem?_eq_getElem hi]
  exact List.getElem_mem hi
 have hx := rO h _ hm
 obtain ⟨m, tail, h1, h2, h3⟩ := nQ h
 simp only [List.length_nil] at hx
 refine ⟨fun c hc => ?_, by omega, by omega, ?_⟩
 ·rcases hx.2 c hc with g | g
  ·simp at g
  ·exact hs c g
 ·rw [h1] at hm ⊢
  rcases List.mem_cons.1 hm with g | g
  ·rw [g]
   simpa using h2
  ·exact h3 _ g
theorem zb (p : List Nat) (hs : Bytes p) (hl : p.length <= 64) (d : Nat) (s : List Nat) (hS : Bytes s) (hsl : s.length <= 64) (HE : ∀ q : List Nat, Bytes q -> q.length <= 64 -> q.length < d -> dm d q = true -> ∀ (hs : af) (v : AV), (∀ e ∈ hs, e.w = false) -> ZV s.length hs v -> Spec tab 211 [.str q, .str s, v] [] hs (ZQ s.length)) (hd : p.length <= d) (hR : dm (d + 1) p = true) (gs : af) (hro : ∀ e ∈ gs, e.w = false) (v : AV) (hz : ZV s.length gs v) : Spec tab 211 [.str p, .str s, v] [] gs (ZQ s.length) := by
 refine ac (bz 211 Tryz.func211) rfl (m := 32) rfl (rs := [.tmp 6]) rfl (st := [(0, .str p), (1, .str s), (2, v)]) rfl rfl (fun _ => rfl) (fun E => zr (za rfl (zk (zr (zm rfl (WO.call0 rfl (aj rfl oz) rfl (oP p hs hl (dm d) d (ic d) hd) SubR.nil rfl (fun v13 D13 hP13 => ?_)))))))
 obtain ⟨L, bL, exL, hL, rfl, rfl⟩ := tB hR hP13
 have hLl := nS hL
 refine zm rfl (zq (Q.extract rfl rfl) (zq (Q.extract rfl rfl) (za rfl (za rfl (zk (zr (za rfl (zk (W.seq (zr (za (zi 0) (zk (W.block (bI (fun (i : Nat) (o : AV) (G : af) => [(1, .str s), (2, v), (7, .slice bL 0 L.length 1), (9, o), (10, .int .i64 ((i : Nat) : Int))]) (fun (i : Nat) (o : AV) (G : af) => ⟨bL, ⟨1, exL, L.map AV.str⟩, true⟩ :: (gs ++ G)) (fun (i : Nat) (o : AV) (G : af) => i <= L.length /\ ZV s.length G o /\ ∀ e ∈ G, e.w = true) (fun (i : Nat) (o : AV) (G : af) => L.length - i) (0) (.nils) ([]) ⟨by omega, ⟨[], Inc.nil _, .inl ⟨rfl, rfl⟩⟩, fun e h => sx h⟩ zv (SubH.of_sublist (by simp)) (fun i o G hI0 ih0 => ?_)))))))))))))))
 obtain ⟨hi, hG, hGw⟩ := hI0
 refine W.seq (zr (zm rfl (zm rfl (zq (Q.len mY rfl rfl) (zq (aa rfl rfl rfl (bu bY)) (zk (aB rfl (fun hc19 => ?_) (fun hc19 => ?_))))))))
 ·have hx := Gi hL hs hl (i := i) zy
  refine zw (W.seq (W.block (W.reg (zm rfl (zm rfl (zm rfl (zq (bj mY C9 rfl rfl zo) (zq (ag rfl (zt 0 rfl) gP (sJ zy)) (zm rfl (zm rfl (WO.call0 rfl (aj rfl (aj rfl (aj rfl oz))) rfl (AI (L.getD i []) hx.1 hx.2.1 s hS hsl (dm d) d HE (ic d) zy hx.2.2.2 (ro (⟨bL, ⟨1, exL, L.map AV.str⟩, true⟩ :: (gs ++ G))) ie v (hz.appl.tl.ro)) (SubR.ro (SubH.refl _)) rfl (fun v29 D29 hP29 => WO.subH (hs' := _ :: (gs ++ G ++ D29)) (SubH.op (aw (N := []) (G := D29) (K := [_]) (X := gs ++ G))) (WO.call0 rfl (aj rfl (aj rfl oz)) rfl (lL zy (ro (⟨bL, ⟨1, exL, L.map AV.str⟩, true⟩ :: ((gs ++ G) ++ D29))) ie _ _ (((hG.appr).appl).tl.ro) (HO hP29.1)) (SubR.ro (SubH.refl _)) rfl (fun v30 D30 hP30 => WO.subH (hs' := _ :: (gs ++ G ++ D29 ++ D30)) (SubH.op (aw (N := []) (G := D30) (K := [_]) (X := gs ++ G ++ D29))) (za rfl (WO.nil (End.KB (End.K (W.reg (zm rfl (zq (aa rfl (zi 1) rfl zp) (za rfl (WO.nil (End.KL ?_))))))))))))))))))))))))
  refine W.sub zv (cz (SubH.of_sublist (by simp)) (ih0 (i + 1) (v30) (D30) ?_ ?_))
  ·exact ⟨by omega, hP30.1, hP30.2⟩
  exact zo
 refine W.exit (am (aq (ap (End.K (zr (zm rfl (za rfl (zk (W.ret ?_)))))))))
 refine End.ret (z1 rfl) (hs' := G) ⟨hG, hGw⟩ hGw (SubH.of_sublist (by simp))
theorem wQ (s : List Nat) (hS : Bytes s) (hsl : s.length <= 64) : ∀ (d : Nat) (p : List Nat), Bytes p -> p.length <= 64 -> p.length < d -> dm d p = true -> ∀ (hs : af) (v : AV), (∀ e ∈ hs, e.w = false) -> ZV s.length hs v -> Spec tab 211 [.str p, .str s, v] [] hs (ZQ s.length)
 | 0, _, _, _, h, _, _, _, _, _ => absurd h (Nat.not_lt_zero _)
 | d + 1, p, hs, hl, h, hR, gs, v, hro, hz => zb p hs hl d s hS hsl (wQ s hS hsl d) zy hR gs hro v hz
theorem rfits_spec (p : List Nat) (hs : Bytes p) (hl : p.length <= 1048576) (s : List Nat) (hS : Bytes s) (hsL : s.length <= 1048576) : Spec tab 165 [.str p, .str s] [] [] (ij (fun v => ∃ (b : Bool) (e : Int), v = .tuple [.bool b, .int .i64 e])) := by
 refine ac (bz 165 Tryz.func165) rfl (m := 34) rfl (rs := [.tmp 4, .tmp 5]) rfl (st := [(0, .str p), (1, .str s)]) rfl rfl (fun _ => rfl) (fun E => zr (za rfl (za (zi 0) (zk (W.seq (zr (zm rfl (WO.callE rfl (aj rfl oz) rfl (nx _ hs zy) SubR.nil rfl (fun v9 hP9 => ?_)))))))))
 obtain ⟨x9, rfl, hx9⟩ := hP9
 refine za rfl (zk (zr (zm rfl (zq (aa rfl (zi 0) rfl (bd f5)) (zk (aB rfl (fun hc11 => ?_) (fun hc11 => ?_)))))))
 ·refine zr (zm rfl (za rfl (za rfl (zk (W.ret (ad (ar (ResL.tmp rfl (z1 rfl)) ?_)))))))
  exact ⟨_, _, rfl⟩
 refine zw (W.seq (zr (zm rfl (zq (Q.len cf rfl rfl) (zq (aa rfl (zi 64) rfl (aJ bY)) (zk (aB rfl (fun hc15 => ?_) (fun hc15 => ?_))))))))
 ·refine zr (za rfl (za (zi 3) (zk (W.ret (ad (ar (ResL.tmp rfl (z1 rfl)) ?_))))))
  exact ⟨_, _, rfl⟩
 refine zw (zr (zm rfl (zm rfl (WO.bslice aP dn sS rfl (cy (zi 0) dE) rfl (cs := [_]) rfl rfl rfl (fun b1 => WO.call0 rfl (aj rfl (aj rfl (aj rfl oz))) rfl (wQ s hS zy 100 p hs (hx9 zy).1 (by have := (hx9 zy).1; omega) (hx9 zy).2 [⟨b1, ⟨1, true, [.int .i64 ((0 : Nat) : Int)]⟩, false⟩] (.slice b1 0 1 1) (by simp) ⟨[0], ⟨List.pairwise_singleton _ _, by simp⟩, .inr ⟨b1, true, rfl, false, by simp [cI]⟩⟩) (SubR.one (zt 0 rfl)) rfl (fun v19 D19 hP19 => WO.subH (hs' := _ :: (D19)) (SubH.op (aw (N := []) (G := D19) (K := [_]) (X := []))) (za rfl (zk (W.sub (zc 7 rfl (zc 1 rfl aI)) (zr (zm rfl (zq (Q.len aP rfl (pU hP19.1)) (zq (aa rfl (zi 0) rfl (aJ bY)) (zm rfl (aC (d := 23) rfl (fun hc23 => ?_) (fun hc23 => ?_))))))))))))))))
 ·obtain ⟨⟨L, hIL, hL⟩, hDw⟩ := hP19
  obtain ⟨b0, ex0, rfl, w0, m0⟩ := fo hL (by rw [zP hL] at *; omega)
  have hIl := hIL.len
  have hzn : zn (AV.slice b0 0 (L.length - 0) 1) = L.length := rfl
  refine zT (zm rfl (zT (zm rfl (zT (zq (Q.len aP rfl rfl) (zT (zq (aa rfl (zi 1) rfl (bM (oe zo))) (zT (zq (bj aP dn rfl rfl zo) (zT (zq (ag rfl (List.mem_cons_of_mem _ m0) bH (eX (L := L) zy)) (zT (zm rfl (zT (zq (Q.len cf rfl rfl) (zT (zq (aa rfl rfl rfl (ai aG)) (zq (aA rfl rfl) (za rfl (za (zi 0) (zk (W.sub (zc 5 rfl (zc 4 rfl aI)) (W.ret ?_)))))))))))))))))))))))
  refine ar (ResL.tmp rfl (z1 rfl)) ?_
  exact ⟨_, _, rfl⟩
 refine z2 (z2 (z2 (z2 (zG (zq (aF rfl rfl) (za rfl (za (zi 0) (zk (W.sub (zc 5 rfl (zc 4 rfl aI)) (W.ret (ar (ResL.tmp rfl (z1 rfl)) ?_)))))))))))
 exact ⟨_, _, rfl⟩
end Go.Proofs.YtfkbfnpjggkdmaaGreatDoor.Ev.P7
