/- Chapter 15, by the document: what Scan makes of a text whose tokens are known. -/
import Derived.Test.YtndhhgbpcmfeiaaGreatDoorNAwK
namespace Go.Proofs.YtndhhgbpcmfeiaaGreatDoor.Ev.P16
open Go.RowKit
set_option maxRecDepth 100000
set_option maxHeartbeats 1000000
section
variable {tb : Tab} {s : St} {hs : af} {t : TypeId} {k : IntKind} {x y : List Nat}
theorem aK {ox oi : Operand} {l : List Nat} {m c : Nat} (hu : tb.und t = some .string) (hx : oL s ox = some (.str l)) (hi : oL s oi = some (.int k ((m : Nat) : Int))) (hm : m < l.length) (hc : l.getD m 0 = c) : QV tb s hs (.index t ox oi) (.int .u8 ((c : Nat) : Int)) := by
 subst hc
 exact lz hu hx hi hm
theorem fx {p : Bool} (h : decide (x = y) = p) : bz tb .eql t (.str x) (.str y) = some (.bool p) := by rw [ap, h]
theorem fy {p : Bool} (h : (!(decide (x = y))) = p) : bz tb .neq t (.str x) (.str y) = some (.bool p) := by
 rw [sM]
 rw [<- h]
 by_cases e : x = y <;> simp [e]
theorem bv_saddP {r : List Nat} (h : x ++ y = r) (hl : x.length + y.length <= 4611686018427387904 := by decide) : bz tb .add t (.str x) (.str y) = some (.str r) := by rw [sL hl, h]
end
def nb (c : Nat) : Prop := c ≠ 35 /\ c ≠ 32 /\ c ≠ 9 /\ c ≠ 10
theorem pz {s : List Nat} {k q : Nat} (hend : k = s.length \/ (dB (s.getD k 0) = false /\ eM (s.getD k 0) = false /\ s.getD k 0 ≠ 46)) (hq : q < s.length) (h : q <= k) (g : dB (s.getD q 0) = true \/ eM (s.getD q 0) = true) : q < k := by
 rcases Nat.lt_or_ge q k with h1 | h1
 ·exact h1
 ·have e : q = k := by omega
  subst e
  rcases hend with h2 | ⟨h2, h3, _⟩
  ·omega
  ·rw [h2, h3] at g; simp at g
theorem yf {s : List Nat} {k q : Nat} (hend : k = s.length \/ (dB (s.getD k 0) = false /\ eM (s.getD k 0) = false /\ s.getD k 0 ≠ 46)) (hq : q < s.length) (h : q <= k) (g : s.getD q 0 = 46) : q < k := by
 rcases Nat.lt_or_ge q k with h1 | h1
 ·exact h1
 ·have e : q = k := by omega
  subst e
  rcases hend with h2 | ⟨_, _, h3⟩
  ·omega
  ·exact absurd g h3
theorem ye {s : List Nat} {i k q : Nat} (hrun : ∀ j, i <= j -> j < k -> dB (s.getD j 0) = true \/ eM (s.getD j 0) = true) (h1 : i <= q) (h2 : q <= k) (g1 : dB (s.getD q 0) = false) (g2 : eM (s.getD q 0) = false) : q = k := by
 rcases Nat.lt_or_ge q k with h | h
 ·have := hrun q h1 h
  rw [g1, g2] at this; simp at this
 ·omega
theorem wC {c : Nat} (h : c ∈ ([40, 41, 91, 93, 44, 43, 45, 42, 47, 37] : List Nat)) : dB c = false /\ eM c = false /\ c ≠ 34 := by
 simp only [List.mem_cons, List.not_mem_nil, or_false] at h
 rcases h with rfl | rfl | rfl | rfl | rfl | rfl | rfl | rfl | rfl | rfl <;> decide
theorem yS {c : Nat} (h : eM c = true) : dB c = false := by
 simp only [eM, Bool.and_eq_true, decide_eq_true_eq] at h
 simp [dB]; omega
theorem C0 {s : List Nat} {i k : Nat} (h : s.getD i 0 ∈ ([40, 41, 91, 93, 44, 43, 45, 42, 47, 37] : List Nat)) (hk : k < 6) : ¬ (s.drop i).take 2 = ([[61, 126], [33, 126], [61, 61], [33, 61], [60, 61], [62, 61]] : List (List Nat)).getD k [] := by
 intro e
 have e0 : ((s.drop i).take 2).getD 0 0 = s.getD i 0 := by simp [List.getD_eq_getElem?_getD]
 rw [e] at e0
 have : ∀ w : Fin 6, ¬ (([[61, 126], [33, 126], [61, 61], [33, 61], [60, 61], [62, 61]] : List (List Nat)).getD w.val []).getD 0 0 ∈ ([40, 41, 91, 93, 44, 43, 45, 42, 47, 37] : List Nat) := by decide
 exact this ⟨k, hk⟩ (by rw [e0]; exact h)
theorem BK {c : Nat} (h : c ∈ ([40, 41, 91, 93, 44, 43, 45, 42, 47, 37] : List Nat)) (g : ∀ j, j < 15 -> ([61, 60, 62, 43, 45, 42, 47, 37, 40, 41, 123, 125, 91, 93, 44] : List Nat).getD j 0 ≠ c) : False := by
 simp only [List.mem_cons, List.not_mem_nil, or_false] at h
 rcases h with rfl | rfl | rfl | rfl | rfl | rfl | rfl | rfl | rfl | rfl
 ·exact g 8 (by decide) rfl
 ·exact g 9 (by decide) rfl
 ·exact g 12 (by decide) rfl
 ·exact g 13 (by decide) rfl
 ·exact g 14 (by decide) rfl
 ·exact g 3 (by decide) rfl
 ·exact g 4 (by decide) rfl
 ·exact g 5 (by decide) rfl
 ·exact g 6 (by decide) rfl
 ·exact g 7 (by decide) rfl
def ny (s : List Nat) (i : Nat) (t : aY) (k : Nat) : Prop := Spec aA 55 [.str s, .int .i64 ((i : Nat) : Int)] [] [] (eA (.tuple [.agg (np t), .int .i64 ((k : Nat) : Int), .int .i64 ((0 : Nat) : Int)]))
def qT (s : List Nat) (i j : Nat) : Prop := Spec aA 54 [.str s, .int .i64 ((i : Nat) : Int)] [] [] (eA (.int .i64 ((j : Nat) : Int)))
inductive Toks (s : List Nat) : Nat -> List aY -> Prop where
 | done : Toks s s.length []
 | step {i k j : Nat} {t : aY} {L : List aY} (h : i < s.length) (ht : ny s i t k) (hb : qT s k j) (g : Toks s j L) : Toks s i (t :: L)
theorem uv {s : List Nat} {i : Nat} {L : List aY} (h : Toks s i L) (hi : i < s.length) : ∃ t k j R, L = t :: R /\ ny s i t k /\ qT s k j /\ Toks s j R := by
 cases h with
 | done => exact absurd hi (Nat.lt_irrefl _)
 | step h ht hb g => exact ⟨_, _, _, _, rfl, ht, hb, g⟩
theorem yv {s : List Nat} {i : Nat} {L : List aY} (h : Toks s i L) (hi : ¬ i < s.length) : L = [] /\ i = s.length := by
 cases h with
 | done => exact ⟨rfl, rfl⟩
 | step h ht hb g => exact absurd h hi
theorem Bl (s : List Nat) (hs : Bytes s) (hl : s.length <= 1048576) (i : Nat) (h : i = s.length \/ (i < s.length /\ nb (s.getD i 0))) : Spec aA 54 [.str s, .int .i64 ((i : Nat) : Int)] [] [] (eA (.int .i64 ((i : Nat) : Int))) := by
 refine aj (dW 54 Tryz.func54) rfl (m := 44) rfl (rs := [.tmp 4]) rfl (st := [(0, .str s), (1, .int .i64 ((i : Nat) : Int))]) rfl rfl (fun _ => rfl) (fun E => zr (za (zi 0) (zk (W.seq (W.block (W.loop (W.seq (zr (zm rfl (zm rfl (zq (Q.len cy rfl rfl) (zq (Q.bin rfl rfl rfl (ec jr)) (zk (ax rfl (fun hc8 => ?_) (fun hc8 => ?_)))))))))))))))
 ·obtain ⟨hlt, n1, n2, n3, n4⟩ := h.resolve_left zy
  refine zw (W.block (W.seq (zr (zm rfl (zm rfl (aP hs cy rfl rfl zo rfl (fun c11 hd11 hb11 => zq (Q.bin rfl (zu 35) rfl (ag aD)) (zk (ax rfl (fun hc12 => ?_) (fun hc12 => ?_))))))))))
  ·(exfalso; omega)
  refine zw (W.seq (zr (zm rfl (zm rfl (aP hs cy rfl rfl zo rfl (fun c27 hd27 hb27 => zq (Q.bin rfl (zu 32) rfl (bE dY)) (zm rfl (aQ (d := 29) rfl (fun hc29 => ?_) (fun hc29 => ?_)))))))))
  ·refine zT (zm rfl (zT (zm rfl (zT (aP hs cy rfl rfl zo rfl (fun c32 hd32 hb32 => zT (zq (Q.bin rfl (zu 9) rfl (bE dY)) (zq (aC rfl rfl) (zm rfl (aQ (d := 35) rfl (fun hc35 => ?_) (fun hc35 => ?_)))))))))))
   ·refine zT (zm rfl (zT (zm rfl (zT (aP hs cy rfl rfl zo rfl (fun c38 hd38 hb38 => zT (zq (Q.bin rfl (zu 10) rfl (bE dY)) (zq (aC rfl rfl) (zk (W.sub (zc 40 rfl (zc 0 rfl (zc 1 rfl aU))) (ax rfl (fun hc40 => ?_) (fun hc40 => ?_))))))))))))
    ·refine W.exit (av (bZ rfl (aL (aq (End.K (zr (zm rfl (za rfl (zk (W.ret (ab (z1 rfl) ?_)))))))))))
     rfl
    (exfalso; omega)
   (exfalso; omega)
  (exfalso; omega)
 refine W.exit (av (aL (aq (End.K (zr (zm rfl (za rfl (zk (W.ret (ab (z1 rfl) ?_))))))))))
 rfl

theorem Bm (s : List Nat) (hs : Bytes s) (hl : s.length <= 1048576) (i : Nat) (hi : i < s.length) (h32 : s.getD i 0 = 32) (h : i + 1 = s.length \/ (i + 1 < s.length /\ nb (s.getD (i + 1) 0))) : Spec aA 54 [.str s, .int .i64 ((i : Nat) : Int)] [] [] (eA (.int .i64 ((i + 1 : Nat) : Int))) := by
 refine aj (dW 54 Tryz.func54) rfl (m := 44) rfl (rs := [.tmp 4]) rfl (st := [(0, .str s), (1, .int .i64 ((i : Nat) : Int))]) rfl rfl (fun _ => rfl) (fun E => zr (za (zi 0) (zk (W.seq (W.block (W.loop (W.seq (zr (zm rfl (zm rfl (zq (Q.len cy rfl rfl) (zq (Q.bin rfl rfl rfl (ec jr)) (zk (ax rfl (fun hc8 => ?_) (fun hc8 => ?_)))))))))))))))
 ·refine zw (W.block (W.seq (zr (zm rfl (zm rfl (aP hs cy rfl rfl zo rfl (fun c11 hd11 hb11 => zq (Q.bin rfl (zu 35) rfl (ag aD)) (zk (ax rfl (fun hc12 => ?_) (fun hc12 => ?_))))))))))
  ·(exfalso; omega)
  refine zw (W.seq (zr (zm rfl (zm rfl (aP hs cy rfl rfl zo rfl (fun c27 hd27 hb27 => zq (Q.bin rfl (zu 32) rfl (bE dY)) (zm rfl (aQ (d := 29) rfl (fun hc29 => ?_) (fun hc29 => ?_)))))))))
  ·(exfalso; omega)
  refine z2 (z2 (zq (aH rfl rfl) (zm rfl (z2 (z2 (zq (aH rfl rfl) (zk (W.sub (zc 40 rfl (zc 0 rfl (zc 1 rfl aU))) (ad rfl (zw (aF (zm rfl (zq (Q.bin rfl (zi 1) rfl zp) (za rfl (WO.nil (End.KB (End.KL (W.loop (W.seq (zr ?_))))))))))))))))))))
  refine zm rfl (zm rfl (zq (Q.len cy rfl rfl) (zq (Q.bin rfl rfl rfl (ec jr)) (zk (ax rfl (fun hc8 => ?_) (fun hc8 => ?_))))))
  ·obtain ⟨hlt, n1, n2, n3, n4⟩ := h.resolve_left zy
   refine zw (W.block (W.seq (zr (zm rfl (zm rfl (aP hs cy rfl rfl zo rfl (fun c11 hd11 hb11 => zq (Q.bin rfl (zu 35) rfl (ag aD)) (zk (ax rfl (fun hc12 => ?_) (fun hc12 => ?_))))))))))
   ·(exfalso; omega)
   refine zw (W.seq (zr (zm rfl (zm rfl (aP hs cy rfl rfl zo rfl (fun c27 hd27 hb27 => zq (Q.bin rfl (zu 32) rfl (bE dY)) (zm rfl (aQ (d := 29) rfl (fun hc29 => ?_) (fun hc29 => ?_)))))))))
   ·refine zT (zm rfl (zT (zm rfl (zT (aP hs cy rfl rfl zo rfl (fun c32 hd32 hb32 => zT (zq (Q.bin rfl (zu 9) rfl (bE dY)) (zq (aC rfl rfl) (zm rfl (aQ (d := 35) rfl (fun hc35 => ?_) (fun hc35 => ?_)))))))))))
    ·refine zT (zm rfl (zT (zm rfl (zT (aP hs cy rfl rfl zo rfl (fun c38 hd38 hb38 => zT (zq (Q.bin rfl (zu 10) rfl (bE dY)) (zq (aC rfl rfl) (zk (W.sub (zc 40 rfl (zc 1 rfl (zc 0 rfl aU))) (ax rfl (fun hc40 => ?_) (fun hc40 => ?_))))))))))))
     ·refine W.exit (av (bZ rfl (aL (aq (End.K (zr (zm rfl (za rfl (zk (W.ret (ab (z1 rfl) ?_)))))))))))
      rfl
     (exfalso; omega)
    (exfalso; omega)
   (exfalso; omega)
  refine W.exit (av (aL (aq (End.K (zr (zm rfl (za rfl (zk (W.ret (ab (z1 rfl) ?_))))))))))
  rfl
 (exfalso; omega)

theorem yu (s : List Nat) (hs : Bytes s) (hl : s.length <= 1048576) (i : Nat) (k : Nat) (hik : i < k) (hk : k <= s.length) (hrun : ∀ j, i <= j -> j < k -> dB (s.getD j 0) = true \/ eM (s.getD j 0) = true) (hend : k = s.length \/ (dB (s.getD k 0) = false /\ eM (s.getD k 0) = false /\ s.getD k 0 ≠ 46)) (hle : dB (s.getD i 0) = true) : Spec aA 55 [.str s, .int .i64 ((i : Nat) : Int)] [] [] (eA (.tuple [.agg [.int .i64 ((1 : Nat) : Int), .str ((s.drop i).take (k - i)), .int .i64 0, .int .i64 ((i : Nat) : Int)], .int .i64 ((k : Nat) : Int), .int .i64 ((0 : Nat) : Int)])) := by
 refine aj (dW 55 Tryz.func55) rfl (m := 96) rfl (rs := [.cell 4 67, .tmp 5, .tmp 6]) rfl (st := [(0, .str s), (1, .int .i64 ((i : Nat) : Int))]) rfl rfl (fun _ => rfl) (fun E => zr (WO.alloc oE rfl (fun b1 => za (zi 0) (za (zi 0) (zk (W.seq (W.block (zr (zm rfl (zm rfl (aP hs cy rfl rfl zo rfl (fun c14 hd14 hb14 => az rfl (aX rfl oz) rfl (eS _ (by assumption)) SubR.nil rfl (za rfl (zk (aM rfl (fun hc11 => ?_) (fun hc11 => ?_))))))))))))))))
 ·refine zr (zm rfl (za rfl (zk (W.seq (W.block (bF (fun (q : Nat) => [(0, .str s), (1, .int .i64 ((i : Nat) : Int)), (4, .ptr b1 0), (7, .int .i64 ((q : Nat) : Int))]) (fun _ => _) (fun (q : Nat) => i <= q /\ q <= k) (fun (q : Nat) => k - q) (i) ⟨Nat.le_refl _, by omega⟩ zv (SubH.refl _) (fun q hI0 ih0 => ?_)))))))
  obtain ⟨h1, h2⟩ := hI0
  refine W.seq (zr (zm rfl (zm rfl (zq (Q.len cy rfl rfl) (zq (Q.bin rfl rfl rfl (ec jr)) (zm rfl (aQ (d := 21) rfl (fun hc21 => ?_) (fun hc21 => ?_))))))))
  ·refine zT (zm rfl (zT (zm rfl (zT (aP hs cy rfl rfl zo rfl (fun c24 hd24 hb24 => zT (az rfl (aX rfl oz) rfl (eS _ (by assumption)) SubR.nil rfl (zT (zm rfl (WO.split (d := 26) rfl (fun hc26 => ?_) (fun hc26 => ?_)))))))))))
   ·have hqk : q < k := pz hend zy h2 (by simp_all)
    refine z2 (z2 (zT (zq (aC rfl rfl) (zq (aC rfl rfl) (zk (W.sub (zc 32 rfl (zc 0 rfl (zc 1 rfl (zc 4 rfl (zc 7 rfl aU))))) (ah rfl (zw (W.block (aF (zm rfl (zq (Q.bin rfl (zi 1) rfl zp) (za rfl (WO.nil (End.KB (End.KL (W.sub zv (ih0 (q + 1) ?_ ?_))))))))))))))))))
    ·exact ⟨by omega, by omega⟩
    exact zo
   refine zT (zm rfl (zT (zm rfl (zT (aP hs cy rfl rfl zo rfl (fun c29 hd29 hb29 => zT (az rfl (aX rfl oz) rfl (gR _ (by assumption)) SubR.nil rfl (zT (zq (aH rfl rfl) (zq (aC rfl rfl) (zk (W.sub (zc 32 rfl (zc 0 rfl (zc 1 rfl (zc 4 rfl (zc 7 rfl aU))))) (aM rfl (fun hc32 => ?_) (fun hc32 => ?_))))))))))))))
   ·have hqk : q < k := pz hend zy h2 (by simp_all)
    refine zw (W.block (aF (zm rfl (zq (Q.bin rfl (zi 1) rfl zp) (za rfl (WO.nil (End.KB (End.KL (W.sub zv (ih0 (q + 1) ?_ ?_))))))))))
    ·exact ⟨by omega, by omega⟩
    exact zo
   have hqk : q = k := ye hrun h1 h2 (by simp_all) (by simp_all)
   subst hqk
   refine W.exit (av (aL (aq (End.K (zr (zm rfl (zm rfl (zm rfl (zq (gt cy rfl rfl zo rfl) (zm rfl (zq (Q.build uj (b8 (zi 1) (b8 rfl (b8 rfl ak))) rfl (cs := [_, _, _, _]) rfl) (zm rfl (WO.store fO rfl rfl (i := 0) rfl rfl (cs := [_, _, _, _]) rfl (hs' := [_]) rfl (za rfl (za (zi 0) (zk (W.ret (ae (aa (ab (ResL.agg (c := [_, _, _, _]) rfl (zt 0 rfl) oD fO rfl (ResL.tmp rfl (z1 rfl))) ?_))))))))))))))))))))
   rfl
  have hqk : q = k := zy
  subst hqk
  refine z2 (z2 (zG (dD rfl rfl (.inr rfl) rfl (dD rfl rfl (.inr rfl) rfl (dD rfl rfl (.inr rfl) rfl (dD rfl rfl (.inr rfl) rfl (zG (zq (aH rfl rfl) (zk (W.sub (zc 32 rfl (zc 0 rfl (zc 1 rfl (zc 4 rfl (zc 7 rfl aU))))) (ad rfl (W.exit (av (aL (aq (End.K (zr (zm rfl (zm rfl (zm rfl (zq (gt cy rfl rfl zo rfl) (zm rfl (zq (Q.build uj (b8 (zi 1) (b8 rfl (b8 rfl ak))) rfl (cs := [_, _, _, _]) rfl) (zm rfl ?_))))))))))))))))))))))))
  refine WO.store fO rfl rfl (i := 0) rfl rfl (cs := [_, _, _, _]) rfl (hs' := [_]) rfl (za rfl (za (zi 0) (zk (W.ret (ae (aa (ab (ResL.agg (c := [_, _, _, _]) rfl (zt 0 rfl) oD fO rfl (ResL.tmp rfl (z1 rfl))) ?_)))))))
  rfl
 (exfalso; rw [hd14, hle] at hc11; cases hc11)

theorem wD (s : List Nat) (hs : Bytes s) (hl : s.length <= 1048576) (i : Nat) (hi : i < s.length) (hM : s.getD i 0 ∈ ([40, 41, 91, 93, 44, 43, 45, 42, 47, 37] : List Nat)) : Spec aA 88 [.str s, .int .i64 ((i : Nat) : Int)] [] [] (eA (.int .i64 ((1 : Nat) : Int))) := by
 refine aj (dW 88 Tryz.func88) rfl (m := 46) rfl (rs := [.tmp 4]) rfl (st := [(0, .str s), (1, .int .i64 ((i : Nat) : Int))]) rfl rfl (fun _ => rfl) (fun E => zr (za (zi 0) (zk (zr (WO.bslice jd uB Av rfl (b8 (oc (v := .str [61, 126]) (by kernel_rfl)) (b8 (oc (v := .str [33, 126]) (by kernel_rfl)) (b8 (oc (v := .str [61, 61]) (by kernel_rfl)) (b8 (oc (v := .str [33, 61]) (by kernel_rfl)) (b8 (oc (v := .str [60, 61]) (by kernel_rfl)) (b8 (oc (v := .str [62, 61]) (by kernel_rfl)) ak)))))) rfl (cs := [_, _, _, _, _, _]) rfl rfl rfl (fun b1 => za rfl (zk (W.seq (zr (za (zi 0) (zk (W.block (bF (fun (k : Nat) => [(0, .str s), (1, .int .i64 ((i : Nat) : Int)), (5, .slice b1 0 6 1), (6, .int .i64 ((k : Nat) : Int))]) (fun (k : Nat) => [⟨b1, ⟨1, true, ([[61, 126], [33, 126], [61, 61], [33, 61], [60, 61], [62, 61]] : List (List Nat)).map AV.str⟩, true⟩]) (fun (k : Nat) => k <= 6) (fun (k : Nat) => 6 - k) (0) (Nat.zero_le _) zv (SubH.refl _) (fun k hI0 ih0 => W.seq (zr (zm rfl (zm rfl (zq (Q.len jd rfl rfl) (zq (Q.bin rfl rfl rfl (ec jr)) (zk (ax rfl (fun hc13 => ?_) (fun hc13 => ?_))))))))))))))))))))))
 ·refine zw (W.seq (W.block (W.seq (lC (by kernel_rfl) (zm rfl (zq (Q.len cy rfl rfl) (zm rfl (zq (Q.bin rfl rfl rfl (eo (AZ zo))) (zq (Q.bin rfl (zi 2) rfl (dS fI)) (zm rfl (aQ (d := 21) rfl (fun hc21 => ?_) (fun hc21 => ?_))))))))))))
  ·refine zT (zm rfl (zT (zm rfl (zT (zm rfl (zT (zq (Q.bin rfl (zi 2) rfl zp) (zT (zq (gt cy rfl rfl zo yh) (zT (zm rfl (zT (zm rfl (zT (zq (ee jd uB rfl rfl zo) (zT (zq (aG rfl (zt 0 rfl) uy (tz (L := [[61, 126], [33, 126], [61, 61], [33, 61], [60, 61], [62, 61]]) (by simp; omega))) (zT (zq (Q.bin rfl rfl rfl ap) (zq (aC rfl rfl) (zk (W.sub (zc 32 rfl (zc 0 rfl (zc 1 rfl (zc 5 rfl (zc 6 rfl aU))))) (ax rfl (fun hc32 => ?_) (fun hc32 => ?_))))))))))))))))))))))))
   ·exact absurd hc32 (C0 hM (by simp at *; omega))
   refine W.skip (End.KB (End.K (aF (zm rfl (zq (Q.bin rfl (zi 1) rfl zp) (za rfl (WO.nil (End.KL (W.sub zv (ih0 (k + 1) ?_ ?_))))))))))
   ·exact zy
   exact zo
  refine z2 (z2 (z2 (z2 (z2 (zq (aH rfl rfl) (zk (W.sub (zc 32 rfl (zc 0 rfl (zc 1 rfl (zc 5 rfl (zc 6 rfl aU))))) (ad rfl (W.skip (End.KB (End.K (aF (zm rfl (zq (Q.bin rfl (zi 1) rfl zp) (za rfl (WO.nil (End.KL (W.sub zv (ih0 (k + 1) ?_ ?_)))))))))))))))))))
  ·exact zy
  exact zo
 refine W.exit (av (aL (aq (End.K (zr (zq (Q.assign (oc (v := .str [61, 60, 62, 43, 45, 42, 47, 37, 40, 41, 123, 125, 91, 93, 44]) (by kernel_rfl))) (zk (W.seq (zr (za (zi 0) (zk (W.block (bF (fun (k : Nat) => [(0, .str s), (1, .int .i64 ((i : Nat) : Int)), (7, .str [61, 60, 62, 43, 45, 42, 47, 37, 40, 41, 123, 125, 91, 93, 44]), (8, .int .i64 ((k : Nat) : Int))]) (fun _ => _) (fun (k : Nat) => k <= 15 /\ ∀ j, j < k -> ([61, 60, 62, 43, 45, 42, 47, 37, 40, 41, 123, 125, 91, 93, 44] : List Nat).getD j 0 ≠ s.getD i 0) (fun (k : Nat) => 15 - k) (0) ⟨Nat.zero_le _, fun j h => by omega⟩ zv (SubH.refl _) (fun k hI1 ih1 => ?_))))))))))))))
 obtain ⟨h1, h2⟩ := hI1
 refine W.seq (zr (zm rfl (zm rfl (zq (Q.len cy rfl rfl) (zq (Q.bin rfl rfl rfl (ec jr)) (zk (ax rfl (fun hc36 => ?_) (fun hc36 => ?_))))))))
 ·refine zw (W.seq (W.block (W.seq (lC (by kernel_rfl) (zm rfl (zm rfl (aP hs cy rfl rfl zo rfl (fun c41 hd41 hb41 => zm rfl (zm rfl (aP (by unfold Bytes; decide) cy rfl rfl zo rfl (fun c44 hd44 hb44 => zq (Q.bin rfl rfl rfl (ag aD)) (zk (ax rfl (fun hc45 => ?_) (fun hc45 => ?_))))))))))))))
  ·refine zr (za (zi 1) (zk (W.sub (zc 4 rfl aU) (W.ret (ae (aa (gh (ae (aa (ab (z1 rfl) ?_))))))))))
   rfl
  refine W.skip (End.KB (End.K (aF (zm rfl (zq (Q.bin rfl (zi 1) rfl zp) (za rfl (WO.nil (End.KL (W.sub zv (ih1 (k + 1) ?_ ?_))))))))))
  ·exact ⟨by simp at *; omega, fun j h => by rcases Nat.lt_or_ge j k with g | g; exact h2 j g; have hjk : j = k := zy; subst hjk; omega⟩
  exact (by simp at *; omega)
 exact (BK hM (fun j hj => h2 j (by simp at *; omega))).elim

theorem yr (s : List Nat) (hs : Bytes s) (hl : s.length <= 1048576) (i : Nat) (hi : i < s.length) (hM : s.getD i 0 ∈ ([40, 41, 91, 93, 44, 43, 45, 42, 47, 37] : List Nat)) : Spec aA 55 [.str s, .int .i64 ((i : Nat) : Int)] [] [] (eA (.tuple [.agg [.int .i64 ((5 : Nat) : Int), .str ((s.drop i).take 1), .int .i64 0, .int .i64 ((i : Nat) : Int)], .int .i64 ((i + 1 : Nat) : Int), .int .i64 ((0 : Nat) : Int)])) := by
 obtain ⟨f1, f2, f3⟩ := wC hM
 refine aj (dW 55 Tryz.func55) rfl (m := 96) rfl (rs := [.cell 4 67, .tmp 5, .tmp 6]) rfl (st := [(0, .str s), (1, .int .i64 ((i : Nat) : Int))]) rfl rfl (fun _ => rfl) (fun E => zr (WO.alloc oE rfl (fun b1 => za (zi 0) (za (zi 0) (zk (W.seq (W.block (zr (zm rfl (zm rfl (aP hs cy rfl rfl zo rfl (fun c14 hd14 hb14 => az rfl (aX rfl oz) rfl (eS _ (by assumption)) SubR.nil rfl (za rfl (zk (aM rfl (fun hc11 => ?_) (fun hc11 => ?_))))))))))))))))
 ·(exfalso; rw [hd14, f1] at hc11; cases hc11)
 refine zr (zm rfl (zm rfl (aP hs cy rfl rfl zo rfl (fun c45 hd45 hb45 => az rfl (aX rfl oz) rfl (gR _ (by assumption)) SubR.nil rfl (za rfl (zk (aM rfl (fun hc42 => ?_) (fun hc42 => ?_))))))))
 ·(exfalso; rw [hd45, f2] at hc42; cases hc42)
 refine zr (zm rfl (zm rfl (aP hs cy rfl rfl zo rfl (fun c56 hd56 hb56 => zq (Q.bin rfl (zu 34) rfl (ag aD)) (za rfl (zk (W.sub (zc 53 rfl (zc 4 rfl (zc 0 rfl (zc 1 rfl aU)))) (ax rfl (fun hc53 => ?_) (fun hc53 => ?_)))))))))
 ·(exfalso; omega)
 refine W.skip (End.KB (End.K (zr (zm rfl (zm rfl (az rfl (aX rfl (aX rfl oz)) rfl (wD s hs hl i hi hM) SubR.nil rfl (za rfl (zk (W.seq (zr (zm rfl (zq (Q.bin rfl (zi 0) rfl (ag (p := false) rfl)) (zk (ad rfl (zw (zr (zm rfl (zm rfl (zm rfl (zm rfl (zq (Q.bin rfl rfl rfl zp) (zq (gt cy rfl rfl zo yh) (zm rfl (zq (Q.build uj (b8 (zi 5) (b8 rfl (b8 rfl ak))) rfl (cs := [_, _, _, _]) rfl) ?_))))))))))))))))))))))))
 refine zm rfl (zm rfl (zq (Q.bin rfl rfl rfl zp) (WO.store fO rfl rfl (i := 0) rfl rfl (cs := [_, _, _, _]) rfl (hs' := [_]) rfl (za rfl (za (zi 0) (zk (W.sub (zc 6 rfl (zc 5 rfl (zc 4 rfl aU))) (W.ret (ab (ResL.agg (c := [_, _, _, _]) rfl (zt 0 rfl) oD fO rfl (ResL.tmp rfl (z1 rfl))) ?_)))))))))
 rfl

theorem zN (s : List Nat) (hs : Bytes s) (hl : s.length <= 1048576) (i : Nat) (k : Nat) (hik : i < k) (hk : k <= s.length) (hrun : ∀ j, i <= j -> j < k -> dB (s.getD j 0) = true \/ eM (s.getD j 0) = true) (hend : k = s.length \/ (dB (s.getD k 0) = false /\ eM (s.getD k 0) = false /\ s.getD k 0 ≠ 46)) (v : Int) (hp1 : Spec aA 122 [.str ((s.drop i).take (k - i))] [] [] (eA (.tuple [.int .i64 v, .int .i64 ((0 : Nat) : Int)]))) : Spec aA 86 [.str s, .int .i64 ((i : Nat) : Int)] [] [] (eA (.tuple [.agg [.int .i64 ((2 : Nat) : Int), .str ((s.drop i).take (k - i)), .int .i64 v, .int .i64 ((i : Nat) : Int)], .int .i64 ((k : Nat) : Int), .int .i64 ((0 : Nat) : Int)])) := by
 refine aj (dW 86 Tryz.func86) rfl (m := 68) rfl (rs := [.cell 4 67, .tmp 5, .tmp 6]) rfl (st := [(0, .str s), (1, .int .i64 ((i : Nat) : Int))]) rfl rfl (fun _ => rfl) (fun E => zr (WO.alloc oE rfl (fun b1 => za (zi 0) (za (zi 0) (zk (zr (zm rfl (za rfl (zk (W.seq (W.block (bF (fun (q : Nat) => [(0, .str s), (1, .int .i64 ((i : Nat) : Int)), (4, .ptr b1 0), (7, .int .i64 ((q : Nat) : Int))]) (fun _ => _) (fun (q : Nat) => i <= q /\ q <= k) (fun (q : Nat) => k - q) (i) ⟨Nat.le_refl _, by omega⟩ zv (SubH.refl _) (fun q hI0 ih0 => ?_)))))))))))))
 obtain ⟨h1, h2⟩ := hI0
 refine W.seq (zr (zm rfl (zm rfl (zq (Q.len cy rfl rfl) (zq (Q.bin rfl rfl rfl (ec jr)) (zm rfl (aQ (d := 16) rfl (fun hc16 => ?_) (fun hc16 => ?_))))))))
 ·refine zT (zm rfl (zT (zm rfl (zT (aP hs cy rfl rfl zo rfl (fun c19 hd19 hb19 => zT (az rfl (aX rfl oz) rfl (gR _ (by assumption)) SubR.nil rfl (zT (zm rfl (WO.split (d := 21) rfl (fun hc21 => ?_) (fun hc21 => ?_)))))))))))
  ·have hqk : q < k := pz hend zy h2 (by simp_all)
   refine z2 (z2 (zT (zq (aC rfl rfl) (zT (zm rfl (z2 (z2 (zT (zq (aC rfl rfl) (zq (aC rfl rfl) (zk (W.sub (zc 33 rfl (zc 0 rfl (zc 1 rfl (zc 4 rfl (zc 7 rfl aU))))) (ah rfl (zw (W.block (aF (zm rfl (zq (Q.bin rfl (zi 1) rfl zp) (za rfl ?_)))))))))))))))))))
   refine WO.nil (End.KB (End.KL (W.sub zv (ih0 (q + 1) ?_ ?_))))
   ·exact ⟨by omega, by omega⟩
   exact zo
  refine zT (zm rfl (zT (zm rfl (zT (aP hs cy rfl rfl zo rfl (fun c24 hd24 hb24 => zT (az rfl (aX rfl oz) rfl (eS _ (by assumption)) SubR.nil rfl (zT (zq (aH rfl rfl) (zT (zm rfl (WO.split (d := 27) rfl (fun hc27 => ?_) (fun hc27 => ?_)))))))))))))
  ·have hqk : q < k := pz hend zy h2 (by simp_all)
   refine z2 (z2 (zT (zq (aC rfl rfl) (zq (aC rfl rfl) (zk (W.sub (zc 33 rfl (zc 0 rfl (zc 1 rfl (zc 4 rfl (zc 7 rfl aU))))) (ah rfl (zw (W.block (aF (zm rfl (zq (Q.bin rfl (zi 1) rfl zp) (za rfl (WO.nil (End.KB (End.KL (W.sub zv (ih0 (q + 1) ?_ ?_))))))))))))))))))
   ·exact ⟨by omega, by omega⟩
   exact zo
  refine zT (zm rfl (zT (zm rfl (zT (aP hs cy rfl rfl zo rfl (fun c30 hd30 hb30 => zT (zq (Q.bin rfl (zu 46) rfl (ag aD)) (zT (zq (aH rfl rfl) (zq (aC rfl rfl) (zk (W.sub (zc 33 rfl (zc 0 rfl (zc 1 rfl (zc 4 rfl (zc 7 rfl aU))))) (ax rfl (fun hc33 => ?_) (fun hc33 => ?_))))))))))))))
  ·have hqk : q < k := yf hend zy h2 zy
   refine zw (W.block (aF (zm rfl (zq (Q.bin rfl (zi 1) rfl zp) (za rfl (WO.nil (End.KB (End.KL (W.sub zv (ih0 (q + 1) ?_ ?_))))))))))
   ·exact ⟨by omega, by omega⟩
   exact zo
  have hqk : q = k := ye hrun h1 h2 (by simp_all) (by simp_all)
  subst hqk
  refine W.exit (av (aL (aq (End.K (zr (zm rfl (zm rfl (zm rfl (zq (gt cy rfl rfl zo rfl) (za rfl (zk (zr (zm rfl (az rfl (aX rfl oz) rfl hp1 SubR.nil rfl (zm rfl (zq (Q.extract rfl rfl) (zq (Q.extract rfl rfl) (za rfl (za rfl (zk (W.seq (zr (zm rfl (zq (Q.bin rfl (zi 0) rfl (ag (p := true) rfl)) (zm rfl (zg rfl rfl ?_))))))))))))))))))))))))))
  refine zG (zq (aC rfl rfl) (zk (W.sub (zc 50 rfl (zc 10 rfl (zc 9 rfl (zc 8 rfl (zc 1 rfl (zc 4 rfl (zc 7 rfl aU))))))) (ah rfl (zr (zm rfl (zm rfl (zm rfl (zq (Q.build uj (b8 (zi 2) (b8 rfl (b8 rfl (b8 rfl ak)))) rfl (cs := [_, _, _, _]) rfl) (zm rfl (zm rfl (WO.store fO rfl rfl (i := 0) rfl rfl (cs := [_, _, _, _]) rfl (hs' := [_]) rfl (za rfl (za rfl (zk (W.ret (aa (ab (ResL.agg (c := [_, _, _, _]) rfl (zt 0 rfl) oD fO rfl (ResL.tmp rfl (z1 rfl))) ?_))))))))))))))))))
  rfl
 have hqk : q = k := zy
 subst hqk
 refine z2 (z2 (zG (dD rfl rfl (.inr rfl) rfl (dD rfl rfl (.inr rfl) rfl (dD rfl rfl (.inr rfl) rfl (dD rfl rfl (.inr rfl) rfl (z2 (dD rfl rfl (.inr rfl) rfl (dD rfl rfl (.inr rfl) rfl (dD rfl rfl (.inr rfl) rfl (dD rfl rfl (.inr rfl) rfl (zG (zq (aH rfl rfl) (zk (W.sub (zc 33 rfl (zc 0 rfl (zc 1 rfl (zc 4 rfl (zc 7 rfl aU))))) (ad rfl (W.exit (av (aL (aq (End.K (zr (zm rfl ?_)))))))))))))))))))))))
 refine zm rfl (zm rfl (zq (gt cy rfl rfl zo rfl) (za rfl (zk (zr (zm rfl (az rfl (aX rfl oz) rfl hp1 SubR.nil rfl (zm rfl (zq (Q.extract rfl rfl) (zq (Q.extract rfl rfl) (za rfl (za rfl (zk (W.seq (zr (zm rfl (zq (Q.bin rfl (zi 0) rfl (ag (p := true) rfl)) (zm rfl (z2 (zq (aC rfl rfl) (zk (W.sub (zc 50 rfl (zc 10 rfl (zc 9 rfl (zc 8 rfl (zc 1 rfl (zc 4 rfl (zc 7 rfl aU))))))) ?_))))))))))))))))))))))
 refine ah rfl (zr (zm rfl (zm rfl (zm rfl (zq (Q.build uj (b8 (zi 2) (b8 rfl (b8 rfl (b8 rfl ak)))) rfl (cs := [_, _, _, _]) rfl) (zm rfl (zm rfl (WO.store fO rfl rfl (i := 0) rfl rfl (cs := [_, _, _, _]) rfl (hs' := [_]) rfl (za rfl (za rfl (zk (W.ret (aa (ab (ResL.agg (c := [_, _, _, _]) rfl (zt 0 rfl) oD fO rfl (ResL.tmp rfl (z1 rfl))) ?_))))))))))))))
 rfl

theorem Al (s : List Nat) (hs : Bytes s) (hl : s.length <= 1048576) (i : Nat) (k : Nat) (hik : i < k) (hk : k <= s.length) (hrun : ∀ j, i <= j -> j < k -> dB (s.getD j 0) = true \/ eM (s.getD j 0) = true) (hend : k = s.length \/ (dB (s.getD k 0) = false /\ eM (s.getD k 0) = false /\ s.getD k 0 ≠ 46)) (hdg : eM (s.getD i 0) = true) (v : Int) (hp1 : Spec aA 122 [.str ((s.drop i).take (k - i))] [] [] (eA (.tuple [.int .i64 v, .int .i64 ((0 : Nat) : Int)]))) : Spec aA 55 [.str s, .int .i64 ((i : Nat) : Int)] [] [] (eA (.tuple [.agg [.int .i64 ((2 : Nat) : Int), .str ((s.drop i).take (k - i)), .int .i64 v, .int .i64 ((i : Nat) : Int)], .int .i64 ((k : Nat) : Int), .int .i64 ((0 : Nat) : Int)])) := by
 have hnl := yS hdg
 refine aj (dW 55 Tryz.func55) rfl (m := 96) rfl (rs := [.cell 4 67, .tmp 5, .tmp 6]) rfl (st := [(0, .str s), (1, .int .i64 ((i : Nat) : Int))]) rfl rfl (fun _ => rfl) (fun E => zr (WO.alloc oE rfl (fun b1 => za (zi 0) (za (zi 0) (zk (W.seq (W.block (zr (zm rfl (zm rfl (aP hs cy rfl rfl zo rfl (fun c14 hd14 hb14 => az rfl (aX rfl oz) rfl (eS _ (by assumption)) SubR.nil rfl (za rfl (zk (aM rfl (fun hc11 => ?_) (fun hc11 => ?_))))))))))))))))
 ·(exfalso; rw [hd14, hnl] at hc11; cases hc11)
 refine zr (zm rfl (zm rfl (aP hs cy rfl rfl zo rfl (fun c45 hd45 hb45 => az rfl (aX rfl oz) rfl (gR _ (by assumption)) SubR.nil rfl (za rfl (zk (aM rfl (fun hc42 => ?_) (fun hc42 => ?_))))))))
 ·refine zr (zm rfl (zm rfl (az rfl (aX rfl (aX rfl oz)) rfl (zN s hs hl i k hik hk hrun hend v hp1) SubR.nil rfl (zq (Q.extract rfl rfl) (zq (Q.extract rfl rfl) (zq (Q.extract rfl rfl) (WO.store fO rfl rfl (i := 0) rfl rfl (cs := [_, _, _, _]) rfl (hs' := [_]) rfl (za rfl (za rfl (zk (W.sub (zc 6 rfl (zc 5 rfl (zc 4 rfl aU))) (W.ret (ae (aa (ab (ResL.agg (c := [_, _, _, _]) rfl (zt 0 rfl) oD fO rfl (ResL.tmp rfl (z1 rfl))) ?_)))))))))))))))
  rfl
 (exfalso; rw [hd45, hdg] at hc42; cases hc42)

theorem sf (s : List Nat) (hs : Bytes s) (hl : s.length <= 1024) (j0 : Nat) (hb0 : qT s 0 j0) (L : List aY) (hT : Toks s j0 L) (hL : L.length <= 1024) : Spec aA 30 [.str s] [] [] (fun v D => ∃ (b : Nat) (ex : Bool), v = .tuple [.slice b 0 (L.length + 1) 4, .int .i64 ((0 : Nat) : Int), .int .i64 ((0 : Nat) : Int)] /\ D = [⟨b, ⟨4, ex, cF (L ++ [(6, [], 0, ((s.length : Nat) : Int))])⟩, true⟩]) := by
 refine aj (dW 30 Tryz.func30) rfl (m := 42) rfl (rs := [.tmp 2, .tmp 3, .tmp 4]) rfl (st := [(0, .str s)]) rfl rfl (fun _ => rfl) (fun E => zr (za rfl (za (zi 0) (za (zi 0) (zk (W.seq (zr (zm rfl (zq (Q.len cy rfl rfl) (zq (Q.bin rfl (zi 1024) rfl (bf jr)) (zk (ax rfl (fun hc12 => ?_) (fun hc12 => ?_)))))))))))))
 ·(exfalso; omega)
 refine zw (zr (za rfl (zk (zr (zm rfl (az rfl (aX rfl (aX (zi 0) oz)) rfl hb0 SubR.nil rfl (za rfl (zk (W.seq (W.block (iw (fun (i : Nat) (acc : List aY) (rest : List aY) (v : AV) (hp : af) => [(0, .str s), (5, v), (6, .int .i64 ((i : Nat) : Int))]) (fun (i : Nat) (acc : List aY) (rest : List aY) (v : AV) (hp : af) => hp) (fun (i : Nat) (acc : List aY) (rest : List aY) (v : AV) (hp : af) => Toks s i rest /\ acc ++ rest = L /\ Own 4 (cF acc) acc.length v hp) (fun (i : Nat) (acc : List aY) (rest : List aY) (v : AV) (hp : af) => rest.length) (j0) ([]) (L) (.nils) ([]) ⟨hT, rfl, Own.nil 4⟩ zv (SubH.refl _) (fun i acc rest v hp hI0 ih0 => ?_))))))))))))
 obtain ⟨h1, h2, hO⟩ := hI0
 have hal : acc.length + rest.length = L.length := (by rw [<- h2, List.length_append])
 refine W.seq (zr (zm rfl (zm rfl (zq (Q.len cy rfl rfl) (zq (Q.bin rfl rfl rfl (ec jr)) (zk (ax rfl (fun hc18 => ?_) (fun hc18 => ?_))))))))
 ·obtain ⟨t1, k1, j1, r1, rfl, ht1, hb1, hr1⟩ := uv h1 zy
  rw [List.length_cons] at hal
  refine zw (W.block (zr (zm rfl (zm rfl (az rfl (aX rfl (aX rfl oz)) rfl ht1 SubR.nil rfl (zm rfl (zq (Q.extract rfl rfl) (zq (Q.extract rfl rfl) (zq (Q.extract rfl rfl) (WO.alloc oE rfl (fun b1 => WO.store fO rfl rfl (i := 0) rfl rfl (cs := [_, _, _, _]) rfl (hs' := _ :: _) rfl (za rfl (za rfl (zk (W.seq (zr (zm rfl (zq (Q.bin rfl (zi 0) rfl (bE (p := false) rfl)) (zk (ad rfl (zw (W.sub (zc 8 rfl (zc 7 rfl (zc 0 rfl (zc 5 rfl aU)))) (zr ?_)))))))))))))))))))))))
  refine zm rfl (zq (cj rfl (zt 0 rfl) oD fO (l := [_, _, _, _]) rfl) (WO.bslice At fO Du rfl (b8 rfl ak) rfl (cs := [_, _, _, _]) rfl rfl rfl (fun b2 => j8 (e := ⟨b2, _, true⟩) (A := [_]) sE hO rfl rfl rfl rfl ⟨by first | omega | (simp at * <;> omega), by first | omega | (simp at * <;> omega)⟩ (by decide) rfl rfl (fun v33 hp33 hO33 => za rfl (zk (aF (zm rfl (zm rfl (az rfl (aX rfl (aX rfl oz)) rfl hb1 SubR.nil rfl (za rfl (WO.nil (End.KB (End.KL (W.sub zv (gM (SubH.of_sublist (by simp)) (ih0 (j1) (acc ++ [t1]) (r1) (v33) (hp33) ?_ ?_))))))))))))))))
  ·exact ⟨hr1, (by rw [<- h2, List.append_assoc]; rfl), (by simpa [cF, np] using hO33)⟩
  exact (by simp)
 obtain ⟨rfl, hie⟩ := yv h1 zy
 rw [List.append_nil] at h2
 subst h2
 rw [List.length_nil] at hal
 refine W.exit (av (aL (aq (End.K (zr (zm rfl (zm rfl (zq (Q.build uj (b8 (zi 6) (b8 rfl ak)) rfl (cs := [_, _, _, _]) rfl) (WO.bslice At fO Du rfl (b8 rfl ak) rfl (cs := [_, _, _, _]) rfl rfl rfl (fun b4 => j8 (e := ⟨b4, _, true⟩) (A := []) sE hO rfl rfl rfl rfl ⟨by first | omega | (simp at * <;> omega), by first | omega | (simp at * <;> omega)⟩ (by decide) rfl rfl (fun v41 hp41 hO41 => ?_)))))))))))
 obtain ⟨b41, ex41, rfl, rfl⟩ := hO41.full zy
 refine za rfl (za (zi 0) (za (zi 0) (zk (W.ret ?_))))
 refine End.ret (ResL.tmp rfl (ResL.tmp rfl (z1 rfl))) (hs' := [⟨b41, ⟨4, ex41, cF acc ++ [.int .i64 ((6 : Nat) : Int), .str [], .int .i64 0, .int .i64 ((i : Nat) : Int)]⟩, true⟩]) ⟨b41, ex41, rfl, by rw [hie]; simp [cF, np]⟩ zW (SubH.of_sublist (by simp))
end Go.Proofs.YtndhhgbpcmfeiaaGreatDoor.Ev.P16
