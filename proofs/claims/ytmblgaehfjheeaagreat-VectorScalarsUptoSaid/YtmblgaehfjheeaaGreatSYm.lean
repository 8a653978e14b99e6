/- The standard library's stable sort, walks: parts changed. -/
import Derived.Test.YtmblgaehfjheeaaGreatSAwK
namespace Go.Proofs.YtmblgaehfjheeaaGreat.Ev
open Go.RowKit
set_option linter.unusedVariables false
set_option linter.unusedSimpArgs false
set_option maxRecDepth 100000
set_option maxHeartbeats 1000000
theorem bq_agg2 {v : AV} {k : IntKind} {m : Int} (h : beq0 v v = true) : (AV.agg [v, .int k m]).beq (.agg [v, .int k m]) = true := by
  show (beq0 v v && (beq0 (.int k m) (.int k m) && true)) = true
  rw [h]; simp [beq0]
theorem sto_ck {α : Type} {raw : α → El} {f : Nat → α} {N i : Nat} {x : AV} {m : Int} (hx : x.isCell = true) (h : i < N) :
    (Nat.beq (AV.agg [x, .int .i64 m]).cells.length 2 && Nat.ble ((0 + i) * 2 + 2) (cE (vF raw f N)).length && (AV.agg [x, .int .i64 m]).cells.all AV.isCell) = true := by
  have e : Nat.ble ((0 + i) * 2 + 2) (cE (vF raw f N)).length = true := by rw [cE_len, vF_len]; apply Nat.ble_eq.mpr; omega
  rw [e]
  exact and_tt rfl (and_tt hx rfl)
/-- Two parts changed. -/
def swF {α : Type} (f : Nat → α) (a b n : Nat) : Nat → α := fun x => if a ≤ x ∧ x < a + n then f (x - a + b) else if b ≤ x ∧ x < b + n then f (x - b + a) else f x
theorem swF_0 {α : Type} {f : Nat → α} {a b : Nat} : swF f a b 0 = f := by
  funext x
  unfold swF
  rw [if_neg (by omega), if_neg (by omega)]
theorem swF_step {α : Type} {f : Nat → α} {a b i : Nat} (h : a + i < b) : swF f a b (i + 1) = sw (swF f a b i) (a + i) (b + i) := by
  funext x
  unfold sw
  by_cases h1 : x = a + i
  · subst h1
    rw [if_pos rfl]
    unfold swF
    rw [if_pos (by omega), if_neg (by omega), if_neg (by omega)]
    congr 1; omega
  · rw [if_neg h1]
    by_cases h2 : x = b + i
    · subst h2
      rw [if_pos rfl]
      unfold swF
      rw [if_neg (by omega), if_pos (by omega), if_neg (by omega), if_neg (by omega)]
      congr 1; omega
    · rw [if_neg h2]
      unfold swF
      by_cases h3 : a ≤ x ∧ x < a + i
      · rw [if_pos (by omega), if_pos h3]
      · rw [if_neg (by omega), if_neg h3]
        by_cases h4 : b ≤ x ∧ x < b + i
        · rw [if_pos (by omega), if_pos h4]
        · rw [if_neg (by omega), if_neg h4]
theorem swr_spec {α : Type} (raw : α → El) (hraw : ∀ x, (raw x).1.isCell = true ∧ (raw x).1.beq (raw x).1 = true ∧ beq0 (raw x).1 (raw x).1 = true) (B N : Nat) (ex : Bool) (hN : N ≤ 1048576) (f : Nat → α) (a b n F : Nat) (caps : List AV) (hab : a + n ≤ b) (hb : b + n ≤ N) : Spec tab 161 [.slice B 0 N 2, .int .i64 ((a : Nat) : Int), .int .i64 ((b : Nat) : Int), .int .i64 ((n : Nat) : Int), .func F caps] [B] [⟨B, ⟨2, ex, cE (vF raw (f) N)⟩, true⟩] (fun v D => D = [⟨B, ⟨2, ex, cE (vF raw (swF f a b n) N)⟩, true⟩]) := by
  refine Spec.enter' (ft_get 161 Tryz.func161) rfl (m := 38) rfl (rs := []) rfl (st := [(0, .slice B 0 N 2), (1, .int .i64 ((a : Nat) : Int)), (2, .int .i64 ((b : Nat) : Int)), (3, .int .i64 ((n : Nat) : Int)), (4, .func F caps)]) rfl rfl (fun _ => rfl) (fun E => ?_)
  refine W.seq ?_
  refine W.reg ?_
  refine WO.q (Q.assign (oc (v := .int .i64 ((0 : Nat) : Int)) rfl)) rfl ?_
  refine WO.nil ?_
  refine End.K ?_
  refine W.block ?_
  refine W.loop_ind (fun (i : Nat) => [(0, .slice B 0 N 2), (1, .int .i64 ((a : Nat) : Int)), (2, .int .i64 ((b : Nat) : Int)), (3, .int .i64 ((n : Nat) : Int)), (10, .int .i64 ((i : Nat) : Int))]) (fun (i : Nat) => [⟨B, ⟨2, ex, cE (vF raw (swF f a b i) N)⟩, true⟩]) (fun (i : Nat) => i ≤ n) (fun (i : Nat) => n - i) (0) (Nat.zero_le _) (SubS.cons rfl (SubS.cons rfl (SubS.cons rfl (SubS.cons rfl (SubS.cons rfl (SubS.nil _)))))) (by rw [swF_0]; exact SubH.refl _) (fun i hI0 ih0 => ?_)
  have h1 := hI0
  refine W.seq ?_
  refine W.seq ?_
  refine W.reg ?_
  refine WO.q (Q.move rfl) rfl ?_
  refine WO.q (Q.move rfl) rfl ?_
  refine WO.q (Q.bin rfl rfl rfl (bv_lss lt_nat)) rfl ?_
  refine WO.nil ?_
  refine End.K ?_
  refine W.condDS rfl (fun hc13 => ?_) (fun hc13 => ?_)
  · skip -- L0T
    refine W.skip ?_
    refine End.K ?_
    refine W.seq ?_
    refine W.block ?_
    refine W.regX (by kernel_rfl) ?_
    refine WX.f (Q.move rfl) bq_slice rfl ?_
    refine WX.f (Q.move rfl) bq_int rfl ?_
    refine WX.f (Q.move rfl) bq_int rfl ?_
    refine WX.f (Q.bin rfl rfl rfl (bv_add (wn_add (by first | omega | (simp at * <;> omega))))) bq_int rfl ?_
    refine WX.f (Q.move rfl) bq_slice rfl ?_
    refine WX.f (Q.move rfl) bq_int rfl ?_
    refine WX.f (Q.move rfl) bq_int rfl ?_
    refine WX.f (Q.bin rfl rfl rfl (bv_add (wn_add (by first | omega | (simp at * <;> omega))))) bq_int rfl ?_
    refine WX.f (Q.move rfl) bq_slice rfl ?_
    refine WX.f (Q.move rfl) bq_int rfl ?_
    refine WX.f (Q.move rfl) bq_int rfl ?_
    refine WX.f (Q.bin rfl rfl rfl (bv_add (wn_add (by first | omega | (simp at * <;> omega))))) bq_int rfl ?_
    refine WX.f (Q.iaddrS ud22 sz35 rfl rfl (by first | omega | (simp at * <;> omega))) bq_ptr rfl ?_
    refine WX.q (by kernel_rfl) (Q.loadN rfl (mem_at (i := 0) rfl) ag35 sz35 (vF_at (by first | omega | (simp at * <;> omega)))) (bq_agg2 (hraw _).2.2) rfl ?_
    refine WX.f (Q.move rfl) bq_slice rfl ?_
    refine WX.f (Q.move rfl) bq_int rfl ?_
    refine WX.f (Q.move rfl) bq_int rfl ?_
    refine WX.f (Q.bin rfl rfl rfl (bv_add (wn_add (by first | omega | (simp at * <;> omega))))) bq_int rfl ?_
    refine WX.f (Q.iaddrS ud22 sz35 rfl rfl (by first | omega | (simp at * <;> omega))) bq_ptr rfl ?_
    refine WX.q (by kernel_rfl) (Q.loadN rfl (mem_at (i := 0) rfl) ag35 sz35 (vF_at (by first | omega | (simp at * <;> omega)))) (bq_agg2 (hraw _).2.2) rfl ?_
    refine WX.f (Q.iaddrS ud22 sz35 rfl rfl (by first | omega | (simp at * <;> omega))) bq_ptr rfl ?_
    refine WX.store sz35 rfl rfl (j := 0) rfl (sto_ck (hraw _).1 (by first | omega | (simp at * <;> omega))) (vF_lay (x := swF f a b i (b + i)) (by first | omega | (simp at * <;> omega))) (hs' := [_]) rfl ?_
    refine WX.f (Q.iaddrS ud22 sz35 rfl rfl (by first | omega | (simp at * <;> omega))) bq_ptr rfl ?_
    refine WX.store sz35 rfl rfl (j := 0) rfl (sto_ck (hraw _).1 (by first | omega | (simp at * <;> omega))) (vF_lay (x := swF f a b i (a + i)) (by first | omega | (simp at * <;> omega))) (hs' := [_]) rfl ?_
    refine WX.nil ?_
    refine End.KB (End.K ?_)
    refine W.sub (SubS.cons (k := 0) rfl (SubS.cons (k := 1) rfl (SubS.cons (k := 2) rfl (SubS.cons (k := 3) rfl (SubS.cons (k := 10) rfl (SubS.nil _)))))) ?_
    refine W.reg ?_
    refine WO.q (Q.move rfl) rfl ?_
    refine WO.q (Q.bin rfl (oc (v := .int .i64 ((1 : Nat) : Int)) rfl) rfl (bv_add (wn_add (by first | omega | (simp at * <;> omega))))) rfl ?_
    refine WO.q (Q.assign rfl) rfl ?_
    refine WO.nil ?_
    refine End.KL ?_
    refine W.sub (SubS.cons rfl (SubS.cons rfl (SubS.cons rfl (SubS.cons rfl (SubS.cons rfl (SubS.nil _)))))) (W.subH (by rw [swF_step (by omega), ← upd_sw]; exact SubH.refl _) (ih0 (i + 1) ?_ ?_))
    · exact (by omega)
    · exact (by first | omega | (simp at * <;> omega))
  · skip -- L0F
    refine W.exit ?_
    refine End.K_exit (End.KL_exit (End.KB_hit (End.fall ResL.nil (hs' := [⟨B, ⟨2, ex, cE (vF raw (swF f a b n) N)⟩, true⟩]) rfl (ww no_wl) (by rw [show n = i by omega]; exact SubH.refl _))))
end Go.Proofs.YtmblgaehfjheeaaGreat.Ev

/- The standard library's stable sort, walks: a part turned round. -/
namespace Go.Proofs.YtmblgaehfjheeaaGreat.Ev
open Go.RowKit
set_option linter.unusedVariables false
set_option linter.unusedSimpArgs false
set_option maxRecDepth 100000
set_option maxHeartbeats 1000000
/-- The part from m - i to m and the one from m to m + j change places. -/
def rotF {α : Type} (f : Nat → α) (m i j : Nat) : Nat → α := fun x => if m - i ≤ x ∧ x < m - i + j then f (x + i) else if m - i + j ≤ x ∧ x < m + j then f (x - j) else f x
theorem rot_e {α : Type} {g : Nat → α} {m i : Nat} (h : i ≤ m) : rotF g m i i = swF g (m - i) m i := by
  funext x
  unfold rotF swF
  by_cases h1 : m - i ≤ x ∧ x < m - i + i
  · rw [if_pos h1, if_pos h1]; congr 1; omega
  · rw [if_neg h1, if_neg h1]
    by_cases h2 : m ≤ x ∧ x < m + i
    · rw [if_pos (by omega), if_pos h2]; congr 1; omega
    · rw [if_neg (by omega), if_neg h2]
theorem rot_l {α : Type} {g : Nat → α} {m i j : Nat} (h : j < i ∧ i ≤ m) : rotF (swF g (m - i) m j) m (i - j) j = rotF g m i j := by
  funext x
  unfold rotF swF
  by_cases h1 : m - i ≤ x ∧ x < m - i + j
  · rw [if_neg (by omega), if_neg (by omega), if_pos h1, if_pos h1]; congr 1; omega
  · simp only [if_neg h1]
    by_cases h2 : m - i + j ≤ x ∧ x < m + j
    · simp only [if_pos h2]
      by_cases h3 : x < m - (i - j) + j
      · rw [if_pos (by omega), if_neg (by omega), if_pos (by omega)]; congr 1; omega
      · rw [if_neg (by omega), if_pos (by omega), if_neg (by omega), if_neg (by omega)]
    · simp only [if_neg h2]; rw [if_neg (by omega), if_neg (by omega), if_neg (by omega)]
theorem rot_r {α : Type} {g : Nat → α} {m i j : Nat} (h : i < j ∧ i ≤ m) : rotF (swF g (m - i) (m + j - i) i) m i (j - i) = rotF g m i j := by
  funext x
  unfold rotF swF
  by_cases h1 : m - i ≤ x ∧ x < m - i + (j - i)
  · rw [if_pos h1, if_neg (by omega), if_neg (by omega), if_pos (by omega)]
  · rw [if_neg h1]
    by_cases h2 : m - i + (j - i) ≤ x ∧ x < m + (j - i)
    · rw [if_pos h2, if_pos (by omega), if_pos (by omega)]; congr 1; omega
    · rw [if_neg h2]
      by_cases h3 : m + j - i ≤ x ∧ x < m + j
      · rw [if_neg (by omega), if_pos (by omega), if_neg (by omega), if_pos (by omega)]; congr 1; omega
      · rw [if_neg (by omega), if_neg (by omega), if_neg (by omega), if_neg (by omega)]
theorem rot_spec {α : Type} (raw : α → El) (hraw : ∀ x, (raw x).1.isCell = true ∧ (raw x).1.beq (raw x).1 = true ∧ beq0 (raw x).1 (raw x).1 = true) (B N : Nat) (ex : Bool) (hN : N ≤ 1048576) (f : Nat → α) (a m b F : Nat) (caps : List AV) (ham : a < m) (hmb : m < b) (hb : b ≤ N) : Spec tab 157 [.slice B 0 N 2, .int .i64 ((a : Nat) : Int), .int .i64 ((m : Nat) : Int), .int .i64 ((b : Nat) : Int), .func F caps] [B] [⟨B, ⟨2, ex, cE (vF raw (f) N)⟩, true⟩] (fun v D => D = [⟨B, ⟨2, ex, cE (vF raw (rotF f m (m - a) (b - m)) N)⟩, true⟩]) := by
  refine Spec.enter' (ft_get 157 Tryz.func157) rfl (m := 58) rfl (rs := []) rfl (st := [(0, .slice B 0 N 2), (1, .int .i64 ((a : Nat) : Int)), (2, .int .i64 ((m : Nat) : Int)), (3, .int .i64 ((b : Nat) : Int)), (4, .func F caps)]) rfl rfl (fun _ => rfl) (fun E => ?_)
  refine W.seq ?_
  refine W.reg ?_
  refine WO.q (Q.move rfl) rfl ?_
  refine WO.q (Q.move rfl) rfl ?_
  refine WO.q (Q.bin rfl rfl rfl (bv_sub (wn_sub (by first | omega | (simp at * <;> omega))))) rfl ?_
  refine WO.q (Q.assign rfl) rfl ?_
  refine WO.nil ?_
  refine End.K ?_
  refine W.seq ?_
  refine W.reg ?_
  refine WO.q (Q.move rfl) rfl ?_
  refine WO.q (Q.move rfl) rfl ?_
  refine WO.q (Q.bin rfl rfl rfl (bv_sub (wn_sub (by first | omega | (simp at * <;> omega))))) rfl ?_
  refine WO.q (Q.assign rfl) rfl ?_
  refine WO.nil ?_
  refine End.K ?_
  refine W.seq ?_
  refine W.block ?_
  refine W.loop_ind3 (fun (i : Nat) (j : Nat) (g : Nat → α) => [(0, .slice B 0 N 2), (2, .int .i64 ((m : Nat) : Int)), (4, .func F caps), (10, .int .i64 ((i : Nat) : Int)), (11, .int .i64 ((j : Nat) : Int))]) (fun (i : Nat) (j : Nat) (g : Nat → α) => [⟨B, ⟨2, ex, cE (vF raw (g) N)⟩, true⟩]) (fun (i : Nat) (j : Nat) (g : Nat → α) => 0 < i ∧ 0 < j ∧ i ≤ m ∧ m + j ≤ N ∧ rotF g m i j = rotF f m (m - a) (b - m)) (fun (i : Nat) (j : Nat) (g : Nat → α) => i + j) (m - a) (b - m) (f) ⟨by omega, by omega, by omega, by omega, rfl⟩ (SubS.cons rfl (SubS.cons rfl (SubS.cons rfl (SubS.cons rfl (SubS.cons rfl (SubS.nil _)))))) (SubH.refl _) (fun i j g hI0 ih0 => ?_)
  obtain ⟨h1, h2, h3, h4, h5⟩ := hI0
  refine W.seq ?_
  refine W.seq ?_
  refine W.reg ?_
  refine WO.q (Q.move rfl) rfl ?_
  refine WO.q (Q.move rfl) rfl ?_
  refine WO.q (Q.bin rfl rfl rfl (bv_neq ne_nat)) rfl ?_
  refine WO.nil ?_
  refine End.K ?_
  refine W.condDS rfl (fun hc20 => ?_) (fun hc20 => ?_)
  · skip -- L0T
    refine W.skip ?_
    refine End.K ?_
    refine W.block ?_
    refine W.seq ?_
    refine W.reg ?_
    refine WO.q (Q.move rfl) rfl ?_
    refine WO.q (Q.move rfl) rfl ?_
    refine WO.q (Q.bin rfl rfl rfl (bv_gtr lt_nat)) rfl ?_
    refine WO.nil ?_
    refine End.K ?_
    refine W.condDS rfl (fun hc23 => ?_) (fun hc23 => ?_)
    · skip -- L0TT
      refine W.seq ?_
      refine W.reg ?_
      refine WO.q (Q.move rfl) rfl ?_
      refine WO.q (Q.move rfl) rfl ?_
      refine WO.q (Q.move rfl) rfl ?_
      refine WO.q (Q.bin rfl rfl rfl (bv_sub (wn_sub (by first | omega | (simp at * <;> omega))))) rfl ?_
      refine WO.q (Q.move rfl) rfl ?_
      refine WO.q (Q.move rfl) rfl ?_
      refine WO.q (Q.move rfl) rfl ?_
      refine WO.call1 rfl (oLs_cons rfl (oLs_cons rfl (oLs_cons rfl (oLs_cons rfl (oLs_cons rfl oLs_nil))))) rfl (i := 0) rfl (swr_spec raw hraw B N ex hN (g) (m - i) m j F caps (by omega) (by omega)) SubR.nil (hs' := []) rfl rfl (fun v31 D31 hP31 => ?_)
      obtain rfl := hP31
      refine WO.nil ?_
      refine End.K ?_
      refine W.sub (SubS.cons (k := 0) rfl (SubS.cons (k := 2) rfl (SubS.cons (k := 4) rfl (SubS.cons (k := 10) rfl (SubS.cons (k := 11) rfl (SubS.nil _)))))) ?_
      refine W.reg ?_
      refine WO.q (Q.move rfl) rfl ?_
      refine WO.q (Q.move rfl) rfl ?_
      refine WO.q (Q.bin rfl rfl rfl (bv_sub (wn_sub (by first | omega | (simp at * <;> omega))))) rfl ?_
      refine WO.q (Q.assign rfl) rfl ?_
      refine WO.nil ?_
      refine End.KB (End.KL ?_)
      refine W.sub (SubS.cons rfl (SubS.cons rfl (SubS.cons rfl (SubS.cons rfl (SubS.cons rfl (SubS.nil _)))))) (W.subH (SubH.refl _) (ih0 (i - j) (j) (swF g (m - i) m j) ?_ ?_))
      · exact ⟨by omega, by omega, by omega, by omega, by rw [← h5, rot_l (by omega)]⟩
      · exact (by first | omega | (simp at * <;> omega))
    · skip -- L0TF
      refine W.seq ?_
      refine W.reg ?_
      refine WO.q (Q.move rfl) rfl ?_
      refine WO.q (Q.move rfl) rfl ?_
      refine WO.q (Q.move rfl) rfl ?_
      refine WO.q (Q.bin rfl rfl rfl (bv_sub (wn_sub (by first | omega | (simp at * <;> omega))))) rfl ?_
      refine WO.q (Q.move rfl) rfl ?_
      refine WO.q (Q.move rfl) rfl ?_
      refine WO.q (Q.bin rfl rfl rfl (bv_add (wn_add (by first | omega | (simp at * <;> omega))))) rfl ?_
      refine WO.q (Q.move rfl) rfl ?_
      refine WO.q (Q.bin rfl rfl rfl (bv_sub (wn_sub (by first | omega | (simp at * <;> omega))))) rfl ?_
      refine WO.q (Q.move rfl) rfl ?_
      refine WO.q (Q.move rfl) rfl ?_
      refine WO.call1 rfl (oLs_cons rfl (oLs_cons rfl (oLs_cons rfl (oLs_cons rfl (oLs_cons rfl oLs_nil))))) rfl (i := 0) rfl (swr_spec raw hraw B N ex hN (g) (m - i) (m + j - i) i F caps (by omega) (by omega)) SubR.nil (hs' := []) rfl rfl (fun v46 D46 hP46 => ?_)
      obtain rfl := hP46
      refine WO.nil ?_
      refine End.K ?_
      refine W.sub (SubS.cons (k := 0) rfl (SubS.cons (k := 2) rfl (SubS.cons (k := 4) rfl (SubS.cons (k := 10) rfl (SubS.cons (k := 11) rfl (SubS.nil _)))))) ?_
      refine W.reg ?_
      refine WO.q (Q.move rfl) rfl ?_
      refine WO.q (Q.move rfl) rfl ?_
      refine WO.q (Q.bin rfl rfl rfl (bv_sub (wn_sub (by first | omega | (simp at * <;> omega))))) rfl ?_
      refine WO.q (Q.assign rfl) rfl ?_
      refine WO.nil ?_
      refine End.KB (End.KL ?_)
      refine W.sub (SubS.cons rfl (SubS.cons rfl (SubS.cons rfl (SubS.cons rfl (SubS.cons rfl (SubS.nil _)))))) (W.subH (SubH.refl _) (ih0 (i) (j - i) (swF g (m - i) (m + j - i) i) ?_ ?_))
      · exact ⟨by omega, by omega, by omega, by omega, by rw [← h5, rot_r (by omega)]⟩
      · exact (by first | omega | (simp at * <;> omega))
  · skip -- L0F
    refine W.exit ?_
    refine End.K_exit (End.KL_exit (End.KB_hit (End.K ?_)))
    refine W.reg ?_
    refine WO.q (Q.move rfl) rfl ?_
    refine WO.q (Q.move rfl) rfl ?_
    refine WO.q (Q.move rfl) rfl ?_
    refine WO.q (Q.bin rfl rfl rfl (bv_sub (wn_sub (by first | omega | (simp at * <;> omega))))) rfl ?_
    refine WO.q (Q.move rfl) rfl ?_
    refine WO.q (Q.move rfl) rfl ?_
    refine WO.q (Q.move rfl) rfl ?_
    refine WO.call1 rfl (oLs_cons rfl (oLs_cons rfl (oLs_cons rfl (oLs_cons rfl (oLs_cons rfl oLs_nil))))) rfl (i := 0) rfl (swr_spec raw hraw B N ex hN (g) (m - i) m i F caps (by omega) (by omega)) SubR.nil (hs' := []) rfl rfl (fun v57 D57 hP57 => ?_)
    obtain rfl := hP57
    refine WO.nil ?_
    refine End.fall ResL.nil (hs' := [⟨B, ⟨2, ex, cE (vF raw (rotF f m (m - a) (b - m)) N)⟩, true⟩]) rfl (ww no_wl) (by rw [← h5, show j = i by omega, rot_e (by omega)]; exact SubH.refl _)
end Go.Proofs.YtmblgaehfjheeaaGreat.Ev
