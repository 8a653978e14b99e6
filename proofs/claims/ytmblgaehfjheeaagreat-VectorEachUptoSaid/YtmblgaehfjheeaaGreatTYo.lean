/- The standard library's stable sort, walks: one by one. -/
import Derived.Test.YtmblgaehfjheeaaGreatTYn
namespace Go.Proofs.YtmblgaehfjheeaaGreat.Ev
open Go.RowKit
set_option linter.unusedVariables false
set_option linter.unusedSimpArgs false
set_option maxRecDepth 100000
set_option maxHeartbeats 1000000
theorem ins_spec {α : Type} (raw : α → El) (hraw : ∀ x, (raw x).1.isCell = true ∧ (raw x).1.beq (raw x).1 = true ∧ beq0 (raw x).1 (raw x).1 = true) (B N : Nat) (ex : Bool) (hN : N ≤ 1048576) (c : α → α → Int) (F : Nat) (caps : List AV) (hs : HSt) (hro : ∀ e ∈ hs, e.w = false) (hC : ∀ x y : α, Spec tab F ([.agg [(raw x).1, .int .i64 (raw x).2.2], .agg [(raw y).1, .int .i64 (raw y).2.2]] ++ caps) [] hs (Val (.int .i64 (c x y)))) (le : α → α → Prop) (htr : ∀ x y z, le x y → le y z → le x z) (hrf : ∀ x, le x x) (hto : ∀ x y, le x y ∨ le y x) (f : Nat → α) (a b : Nat) (hab : a ≤ b) (hb : b ≤ N) (hX : ∀ i j, a ≤ i → i < j → j < b → Tells le c (f i) (f j)) : Spec tab 147 [.slice B 0 N 2, .int .i64 ((a : Nat) : Int), .int .i64 ((b : Nat) : Int), .func F caps] [B] (⟨B, ⟨2, ex, cE (vF raw (f) N)⟩, true⟩ :: hs) (fun v D => ∃ g, D = [⟨B, ⟨2, ex, cE (vF raw (g) N)⟩, true⟩] ∧ PermOn a b f g ∧ SrtOn le a b g) := by
  refine Spec.enter' (ft_get 147 Tryz.func147) rfl (m := 53) rfl (rs := []) rfl (st := [(0, .slice B 0 N 2), (1, .int .i64 ((a : Nat) : Int)), (2, .int .i64 ((b : Nat) : Int)), (3, .func F caps)]) rfl rfl (fun _ => rfl) (fun E => ?_)
  refine W.seq ?_
  refine W.reg ?_
  refine WO.q (Q.move rfl) rfl ?_
  refine WO.q (Q.bin rfl (oc (v := .int .i64 ((1 : Nat) : Int)) rfl) rfl (bv_add (wn_add (by first | omega | (simp at * <;> omega))))) rfl ?_
  refine WO.q (Q.assign rfl) rfl ?_
  refine WO.nil ?_
  refine End.K ?_
  refine W.block ?_
  refine W.loop_ind2 (fun (i : Nat) (g : Nat → α) => [(0, .slice B 0 N 2), (1, .int .i64 ((a : Nat) : Int)), (2, .int .i64 ((b : Nat) : Int)), (3, .func F caps), (8, .int .i64 ((i : Nat) : Int))]) (fun (i : Nat) (g : Nat → α) => (⟨B, ⟨2, ex, cE (vF raw (g) N)⟩, true⟩ :: hs)) (fun (i : Nat) (g : Nat → α) => a < i ∧ i ≤ b + 1 ∧ (a < b → i ≤ b) ∧ (b ≤ a → g = f) ∧ PermOn a i f g ∧ SrtOn le a i g) (fun (i : Nat) (g : Nat → α) => b + 1 - i) (a + 1) (f) ⟨by omega, by omega, by omega, fun _ => rfl, PermOn.refl _ _ _, SrtOn.one (by omega)⟩ (SubS.cons rfl (SubS.cons rfl (SubS.cons rfl (SubS.cons rfl (SubS.cons rfl (SubS.nil _)))))) (SubH.refl _) (fun i g hI0 ih0 => ?_)
  obtain ⟨h1, h2, h3, h4, hp, hs1⟩ := hI0
  refine W.seq ?_
  refine W.seq ?_
  refine W.reg ?_
  refine WO.q (Q.move rfl) rfl ?_
  refine WO.q (Q.move rfl) rfl ?_
  refine WO.q (Q.bin rfl rfl rfl (bv_lss lt_nat)) rfl ?_
  refine WO.nil ?_
  refine End.K ?_
  refine W.condDS rfl (fun hc14 => ?_) (fun hc14 => ?_)
  · skip -- L0T
    refine W.skip ?_
    refine End.K ?_
    refine W.seq ?_
    refine W.block ?_
    refine W.seq ?_
    refine W.reg ?_
    refine WO.q (Q.move rfl) rfl ?_
    refine WO.q (Q.assign rfl) rfl ?_
    refine WO.nil ?_
    refine End.K ?_
    refine W.block ?_
    refine W.loop_ind (fun (j : Nat) => [(0, .slice B 0 N 2), (1, .int .i64 ((a : Nat) : Int)), (2, .int .i64 ((b : Nat) : Int)), (3, .func F caps), (8, .int .i64 ((i : Nat) : Int)), (9, .int .i64 ((j : Nat) : Int))]) (fun (j : Nat) => (⟨B, ⟨2, ex, cE (vF raw (movD g i j) N)⟩, true⟩ :: hs)) (fun (j : Nat) => a ≤ j ∧ j ≤ i ∧ ∀ x, j ≤ x → x < i → ¬ le (g x) (g i)) (fun (j : Nat) => j) (i) ⟨by omega, Nat.le_refl _, fun x q1 q2 => by omega⟩ (SubS.cons rfl (SubS.cons rfl (SubS.cons rfl (SubS.cons rfl (SubS.cons rfl (SubS.cons rfl (SubS.nil _))))))) (by rw [movD_0]; exact SubH.refl _) (fun j hI1 ih1 => ?_)
    obtain ⟨hj1, hj2, hg⟩ := hI1
    refine W.seq ?_
    refine W.seq ?_
    refine W.regT (by kernel_rfl) ?_
    refine WO.q (Q.move rfl) rfl ?_
    refine WO.q (Q.move rfl) rfl ?_
    refine WO.q (Q.bin rfl rfl rfl (bv_gtr lt_nat)) rfl ?_
    refine WO.q (Q.move rfl) rfl ?_
    refine WO.splitD (d := 21) rfl (fun hc21 => ?_) (fun hc21 => ?_)
    · skip -- L0TL1t
      have hT : Tells le c (g (j - 1)) (g i) := by obtain ⟨k, hk, e⟩ := hp.get (i := j - 1) ⟨by omega, by omega⟩; rw [e, hp.out (i := i) (by omega)]; exact hX k i hk.1 hk.2 (by omega)
      have e1 : movD g i j j = g i := by rw [movD_at, if_pos rfl]
      have e2 : movD g i j (j - 1) = g (j - 1) := by rw [movD_at, if_neg (by omega), if_neg (by omega)]
      refine WO.gT rfl rfl ?_
      refine WO.q (Q.move rfl) rfl ?_
      refine WO.gT rfl rfl ?_
      refine WO.q (Q.move rfl) rfl ?_
      refine WO.gT rfl rfl ?_
      refine WO.q (Q.move rfl) rfl ?_
      refine WO.gT rfl rfl ?_
      refine WO.q (Q.iaddrS ud22 sz35 rfl rfl (by first | omega | (simp at * <;> omega))) rfl ?_
      refine WO.gT rfl rfl ?_
      refine WO.q (Q.loadN rfl (mem_at (i := 0) rfl) ag35 sz35 (vF_at (by first | omega | (simp at * <;> omega)))) rfl ?_
      refine WO.gT rfl rfl ?_
      refine WO.q (Q.move rfl) rfl ?_
      refine WO.gT rfl rfl ?_
      refine WO.q (Q.move rfl) rfl ?_
      refine WO.gT rfl rfl ?_
      refine WO.q (Q.bin rfl (oc (v := .int .i64 ((1 : Nat) : Int)) rfl) rfl (bv_sub (wn_sub (by first | omega | (simp at * <;> omega))))) rfl ?_
      refine WO.gT rfl rfl ?_
      refine WO.q (Q.iaddrS ud22 sz35 rfl rfl (by first | omega | (simp at * <;> omega))) rfl ?_
      refine WO.gT rfl rfl ?_
      refine WO.q (Q.loadN rfl (mem_at (i := 0) rfl) ag35 sz35 (vF_at (by first | omega | (simp at * <;> omega)))) rfl ?_
      refine WO.gT rfl rfl ?_
      refine WO.callV rfl (oLs_cons rfl (oLs_cons rfl oLs_nil)) rfl (hC _ _) (SubR.tl (SubR.self hro)) rfl ?_
      refine WO.gT rfl rfl ?_
      refine WO.q (Q.bin rfl (oc (v := .int .i64 ((0 : Nat) : Int)) rfl) rfl (bv_lss (ltA_eq _ _))) rfl ?_
      refine WO.q (Q.pickT rfl rfl) rfl ?_
      refine WO.nil ?_
      refine End.K ?_
      refine W.sub (SubS.cons (k := 34) rfl (SubS.cons (k := 0) rfl (SubS.cons (k := 1) rfl (SubS.cons (k := 2) rfl (SubS.cons (k := 3) rfl (SubS.cons (k := 8) rfl (SubS.cons (k := 9) rfl (SubS.nil _)))))))) ?_
      refine W.condDS rfl (fun hc34 => ?_) (fun hc34 => ?_)
      · skip -- L0TL1tT
        have hlt : ¬ le (g (j - 1)) (g i) := hT.1 (by rw [← e1, ← e2]; simpa using hc34)
        refine W.skip ?_
        refine End.K ?_
        refine W.seq ?_
        refine W.block ?_
        refine W.regX (by kernel_rfl) ?_
        refine WX.f (Q.move rfl) bq_slice rfl ?_
        refine WX.f (Q.move rfl) bq_int rfl ?_
        refine WX.f (Q.move rfl) bq_slice rfl ?_
        refine WX.f (Q.move rfl) bq_int rfl ?_
        refine WX.f (Q.bin rfl (oc (v := .int .i64 ((1 : Nat) : Int)) rfl) rfl (bv_sub (wn_sub (by first | omega | (simp at * <;> omega))))) bq_int rfl ?_
        refine WX.f (Q.move rfl) bq_slice rfl ?_
        refine WX.f (Q.move rfl) bq_int rfl ?_
        refine WX.f (Q.bin rfl (oc (v := .int .i64 ((1 : Nat) : Int)) rfl) rfl (bv_sub (wn_sub (by first | omega | (simp at * <;> omega))))) bq_int rfl ?_
        refine WX.f (Q.iaddrS ud22 sz35 rfl rfl (by first | omega | (simp at * <;> omega))) bq_ptr rfl ?_
        refine WX.q (by kernel_rfl) (Q.loadN rfl (mem_at (i := 0) rfl) ag35 sz35 (vF_at (by first | omega | (simp at * <;> omega)))) (bq_agg2 (hraw _).2.2) rfl ?_
        refine WX.f (Q.move rfl) bq_slice rfl ?_
        refine WX.f (Q.move rfl) bq_int rfl ?_
        refine WX.f (Q.iaddrS ud22 sz35 rfl rfl (by first | omega | (simp at * <;> omega))) bq_ptr rfl ?_
        refine WX.q (by kernel_rfl) (Q.loadN rfl (mem_at (i := 0) rfl) ag35 sz35 (vF_at (by first | omega | (simp at * <;> omega)))) (bq_agg2 (hraw _).2.2) rfl ?_
        refine WX.f (Q.iaddrS ud22 sz35 rfl rfl (by first | omega | (simp at * <;> omega))) bq_ptr rfl ?_
        refine WX.store sz35 rfl rfl (j := 0) rfl (sto_ck (hraw _).1 (by first | omega | (simp at * <;> omega))) (vF_lay (x := movD g i j (j - 1)) (by first | omega | (simp at * <;> omega))) (hs' := _ :: _) rfl ?_
        refine WX.f (Q.iaddrS ud22 sz35 rfl rfl (by first | omega | (simp at * <;> omega))) bq_ptr rfl ?_
        refine WX.store sz35 rfl rfl (j := 0) rfl (sto_ck (hraw _).1 (by first | omega | (simp at * <;> omega))) (vF_lay (x := movD g i j j) (by first | omega | (simp at * <;> omega))) (hs' := _ :: _) rfl ?_
        refine WX.nil ?_
        refine End.KB (End.K ?_)
        refine W.sub (SubS.cons (k := 0) rfl (SubS.cons (k := 1) rfl (SubS.cons (k := 2) rfl (SubS.cons (k := 3) rfl (SubS.cons (k := 8) rfl (SubS.cons (k := 9) rfl (SubS.nil _))))))) ?_
        refine W.reg ?_
        refine WO.q (Q.move rfl) rfl ?_
        refine WO.q (Q.bin rfl (oc (v := .int .i64 ((1 : Nat) : Int)) rfl) rfl (bv_sub (wn_sub (by first | omega | (simp at * <;> omega))))) rfl ?_
        refine WO.q (Q.assign rfl) rfl ?_
        refine WO.nil ?_
        refine End.KL ?_
        refine W.sub (SubS.cons rfl (SubS.cons rfl (SubS.cons rfl (SubS.cons rfl (SubS.cons rfl (SubS.cons rfl (SubS.nil _))))))) (W.subH (by rw [upd_sw, movD_step ⟨by omega, by omega⟩]; exact SubH.refl _) (ih1 (j - 1) ?_ ?_))
        · exact ⟨by omega, by omega, fun x q1 q2 => by rcases Nat.lt_or_ge x j with q | q; exact (show x = j - 1 by omega) ▸ hlt; exact hg x q q2⟩
        · exact (by first | omega | (simp at * <;> omega))
      · skip -- L0TL1tF
        have hle : le (g (j - 1)) (g i) := Classical.not_not.1 fun q => hc34 (by have := hT.2 q; rw [← e1, ← e2] at this; simpa using this)
        refine W.exit ?_
        refine End.K_exit (End.KL_exit (End.KB_hit (End.KB (End.K ?_))))
        refine W.reg ?_
        refine WO.q (Q.move rfl) rfl ?_
        refine WO.q (Q.bin rfl (oc (v := .int .i64 ((1 : Nat) : Int)) rfl) rfl (bv_add (wn_add (by first | omega | (simp at * <;> omega))))) rfl ?_
        refine WO.q (Q.assign rfl) rfl ?_
        refine WO.nil ?_
        refine End.KL ?_
        refine W.sub (SubS.cons rfl (SubS.cons rfl (SubS.cons rfl (SubS.cons rfl (SubS.cons rfl (SubS.nil _)))))) (W.subH (SubH.refl _) (ih0 (i + 1) (movD g i j) ?_ ?_))
        · exact ⟨by omega, by omega, by omega, by omega, (hp.mono (Nat.le_refl _) (by omega)).trans (movD_perm (by omega) (by omega)), movD_srt hs1 ⟨by omega, by omega⟩ (fun x q1 q2 => (by rcases Nat.lt_or_ge x (j - 1) with q | q; exact htr _ _ _ (hs1 x (j - 1) q1 q (by omega)) hle; exact (show j - 1 = x by omega) ▸ hle)) (fun x q1 q2 => (hto _ _).resolve_right (hg x q1 q2))⟩
        · exact (by first | omega | (simp at * <;> omega))
    · skip -- L0TL1f
      refine WO.gF rfl rfl (.inl rfl) rfl ?_
      refine WO.gF rfl rfl (.inl rfl) rfl ?_
      refine WO.gF rfl rfl (.inl rfl) rfl ?_
      refine WO.gF rfl rfl (.inl rfl) rfl ?_
      refine WO.gF rfl rfl (.inl rfl) rfl ?_
      refine WO.gF rfl rfl (.inl rfl) rfl ?_
      refine WO.gF rfl rfl (.inl rfl) rfl ?_
      refine WO.gF rfl rfl (.inl rfl) rfl ?_
      refine WO.gF rfl rfl (.inl rfl) rfl ?_
      refine WO.gF rfl rfl (.inl rfl) rfl ?_
      refine WO.gF rfl rfl (.inl rfl) rfl ?_
      refine WO.gF rfl rfl (.inl rfl) rfl ?_
      refine WO.q (Q.pickF rfl rfl) rfl ?_
      refine WO.nil ?_
      refine End.K ?_
      refine W.sub (SubS.cons (k := 34) rfl (SubS.cons (k := 0) rfl (SubS.cons (k := 1) rfl (SubS.cons (k := 2) rfl (SubS.cons (k := 3) rfl (SubS.cons (k := 8) rfl (SubS.cons (k := 9) rfl (SubS.nil _)))))))) ?_
      refine W.condF rfl ?_
      refine W.exit ?_
      refine End.K_exit (End.KL_exit (End.KB_hit (End.KB (End.K ?_))))
      refine W.reg ?_
      refine WO.q (Q.move rfl) rfl ?_
      refine WO.q (Q.bin rfl (oc (v := .int .i64 ((1 : Nat) : Int)) rfl) rfl (bv_add (wn_add (by first | omega | (simp at * <;> omega))))) rfl ?_
      refine WO.q (Q.assign rfl) rfl ?_
      refine WO.nil ?_
      refine End.KL ?_
      refine W.sub (SubS.cons rfl (SubS.cons rfl (SubS.cons rfl (SubS.cons rfl (SubS.cons rfl (SubS.nil _)))))) (W.subH (SubH.refl _) (ih0 (i + 1) (movD g i j) ?_ ?_))
      · exact ⟨by omega, by omega, by omega, by omega, (hp.mono (Nat.le_refl _) (by omega)).trans (movD_perm (by omega) (by omega)), movD_srt hs1 ⟨by omega, by omega⟩ (fun x q1 q2 => by omega) (fun x q1 q2 => (hto _ _).resolve_right (hg x q1 q2))⟩
      · exact (by first | omega | (simp at * <;> omega))
  · skip -- L0F
    refine W.exit ?_
    refine End.K_exit (End.KL_exit (End.KB_hit (End.fall ResL.nil (hs' := [⟨B, ⟨2, ex, cE (vF raw (g) N)⟩, true⟩]) ⟨g, rfl, (by rcases Nat.lt_or_ge a b with q | q; exact (show i = b by omega) ▸ ⟨hp, hs1⟩; exact h4 q ▸ ⟨PermOn.refl _ _ _, SrtOn.one (by omega)⟩)⟩ (ww no_wl) (SubH.of_sublist (List.Sublist.cons_cons _ (List.nil_sublist _))))))
end Go.Proofs.YtmblgaehfjheeaaGreat.Ev
