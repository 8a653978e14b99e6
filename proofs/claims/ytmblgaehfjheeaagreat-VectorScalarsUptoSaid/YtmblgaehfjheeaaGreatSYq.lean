/- The standard library's stable sort, walks: all of it. -/
import Derived.Test.YtmblgaehfjheeaaGreatSYp
namespace Go.Proofs.YtmblgaehfjheeaaGreat.Ev
open Go.RowKit
set_option linter.unusedVariables false
set_option linter.unusedSimpArgs false
set_option maxRecDepth 100000
set_option maxHeartbeats 1000000
theorem Ph.step' {α : Type} {le : α → α → Prop} {c : α → α → Int} {N w p a b : Nat} {g0 g h : Nat → α} (k : Ph le c N w p g0 g) (ha : a = w * p) (hb : b = w * (p + 1)) (hN : b ≤ N) (hp : PermOn a b g h) (hs : SrtOn le a b h) : Ph le c N w (p + 1) g0 h := by
  subst ha hb; exact k.step hN hp hs
theorem Ph.last' {α : Type} {le : α → α → Prop} {c : α → α → Int} {N w p a : Nat} {g0 g h : Nat → α} (k : Ph le c N w p g0 g) (ha : a = w * p) (h0 : a ≤ N) (hN : N ≤ w * (p + 1)) (hp : PermOn a N g h) (hs : SrtOn le a N h) : PermOn 0 N g0 h ∧ Blk le c N w h := by
  subst ha; exact k.last h0 hN hp hs
theorem stb_spec {α : Type} (raw : α → El) (hraw : ∀ x, (raw x).1.isCell = true ∧ (raw x).1.beq (raw x).1 = true ∧ beq0 (raw x).1 (raw x).1 = true) (B N : Nat) (ex : Bool) (hN : N ≤ 1048576) (c : α → α → Int) (F : Nat) (caps : List AV) (hs : HSt) (hro : ∀ e ∈ hs, e.w = false) (hC : ∀ x y : α, Spec tab F ([.agg [(raw x).1, .int .i64 (raw x).2.2], .agg [(raw y).1, .int .i64 (raw y).2.2]] ++ caps) [] hs (Val (.int .i64 (c x y)))) (le : α → α → Prop) (htr : ∀ x y z, le x y → le y z → le x z) (hrf : ∀ x, le x x) (hto : ∀ x y, le x y ∨ le y x) (f : Nat → α) (hX : ∀ i j, i < j → j < N → Tells le c (f i) (f j)) : Spec tab 118 [.slice B 0 N 2, .int .i64 ((N : Nat) : Int), .func F caps] [B] (⟨B, ⟨2, ex, cE (vF raw (f) N)⟩, true⟩ :: hs) (fun v D => ∃ g, D = [⟨B, ⟨2, ex, cE (vF raw (g) N)⟩, true⟩] ∧ PermOn 0 N f g ∧ SrtOn le 0 N g) := by
  refine Spec.enter' (ft_get 118 Tryz.func118) rfl (m := 63) rfl (rs := []) rfl (st := [(0, .slice B 0 N 2), (1, .int .i64 ((N : Nat) : Int)), (2, .func F caps)]) rfl rfl (fun _ => rfl) (fun E => ?_)
  refine W.seq ?_
  refine W.reg ?_
  refine WO.q (Q.assign (oc (v := .int .i64 ((20 : Nat) : Int)) rfl)) rfl ?_
  refine WO.nil ?_
  refine End.K ?_
  refine W.seq ?_
  refine W.reg ?_
  refine WO.q (Q.move rfl) rfl ?_
  refine WO.q (Q.assign (oc (v := .int .i64 ((0 : Nat) : Int)) rfl)) rfl ?_
  refine WO.q (Q.assign rfl) rfl ?_
  refine WO.nil ?_
  refine End.K ?_
  refine W.seq ?_
  refine W.block ?_
  refine W.loop_ind2 (fun (a : Nat) (g : Nat → α) => [(0, .slice B 0 N 2), (1, .int .i64 ((N : Nat) : Int)), (2, .func F caps), (6, .int .i64 ((20 : Nat) : Int)), (7, .int .i64 ((a : Nat) : Int)), (8, .int .i64 ((a + 20 : Nat) : Int))]) (fun (a : Nat) (g : Nat → α) => (⟨B, ⟨2, ex, cE (vF raw (g) N)⟩, true⟩ :: hs)) (fun (a : Nat) (g : Nat → α) => ∃ p, a = 20 * p ∧ a ≤ N ∧ Ph le c N 20 p f g) (fun (a : Nat) (g : Nat → α) => N + 20 - a) (0) (f) ⟨0, by omega, by omega, Ph.begin fun q i j q1 q2 q3 q4 => hX i j (by omega) q4⟩ (SubS.cons rfl (SubS.cons rfl (SubS.cons rfl (SubS.cons rfl (SubS.cons rfl (SubS.cons rfl (SubS.nil _))))))) (SubH.refl _) (fun a g hI0 ih0 => ?_)
  obtain ⟨p, ha, haN, hP⟩ := hI0
  refine W.seq ?_
  refine W.seq ?_
  refine W.reg ?_
  refine WO.q (Q.move rfl) rfl ?_
  refine WO.q (Q.move rfl) rfl ?_
  refine WO.q (Q.bin rfl rfl rfl (bv_leq le_nat)) rfl ?_
  refine WO.nil ?_
  refine End.K ?_
  refine W.condDS rfl (fun hc13 => ?_) (fun hc13 => ?_)
  · skip -- L0T
    refine W.skip ?_
    refine End.K ?_
    refine W.block ?_
    refine W.seq ?_
    refine W.reg ?_
    refine WO.q (Q.move rfl) rfl ?_
    refine WO.q (Q.move rfl) rfl ?_
    refine WO.q (Q.move rfl) rfl ?_
    refine WO.q (Q.move rfl) rfl ?_
    refine WO.call1 rfl (oLs_cons rfl (oLs_cons rfl (oLs_cons rfl (oLs_cons rfl oLs_nil)))) rfl (i := 0) rfl (ins_spec raw hraw B N ex hN c F caps hs hro hC le htr hrf hto g a (a + 20) (by omega) (by omega) (fun i j q1 q2 q3 => (by rw [hP.same i (by omega), hP.same j (by omega)]; exact hX i j q2 (by omega)))) (SubR.self hro) (hs' := _) rfl rfl (fun v18 D18 hP18 => ?_)
    obtain ⟨g1, rfl, pg1, sg1⟩ := hP18
    refine WO.nil ?_
    refine End.K ?_
    refine W.seq ?_
    refine W.reg ?_
    refine WO.q (Q.move rfl) rfl ?_
    refine WO.q (Q.assign rfl) rfl ?_
    refine WO.nil ?_
    refine End.K ?_
    refine W.reg ?_
    refine WO.q (Q.move rfl) rfl ?_
    refine WO.q (Q.move rfl) rfl ?_
    refine WO.q (Q.bin rfl rfl rfl (bv_add (wn_add (by first | omega | (simp at * <;> omega))))) rfl ?_
    refine WO.q (Q.assign rfl) rfl ?_
    refine WO.nil ?_
    refine End.KB (End.KL ?_)
    refine W.sub (SubS.cons rfl (SubS.cons rfl (SubS.cons rfl (SubS.cons rfl (SubS.cons rfl (SubS.cons rfl (SubS.nil _))))))) (W.subH (SubH.refl _) (ih0 (a + 20) (g1) ?_ ?_))
    · exact ⟨p + 1, by omega, by omega, hP.step' ha (by omega) (by omega) pg1 sg1⟩
    · exact (by first | omega | (simp at * <;> omega))
  · skip -- L0F
    refine W.exit ?_
    refine End.K_exit (End.KL_exit (End.KB_hit (End.K ?_)))
    refine W.seq ?_
    refine W.reg ?_
    refine WO.q (Q.move rfl) rfl ?_
    refine WO.q (Q.move rfl) rfl ?_
    refine WO.q (Q.move rfl) rfl ?_
    refine WO.q (Q.move rfl) rfl ?_
    refine WO.call1 rfl (oLs_cons rfl (oLs_cons rfl (oLs_cons rfl (oLs_cons rfl oLs_nil)))) rfl (i := 0) rfl (ins_spec raw hraw B N ex hN c F caps hs hro hC le htr hrf hto g a N (by omega) (by omega) (fun i j q1 q2 q3 => (by rw [hP.same i (by omega), hP.same j (by omega)]; exact hX i j q2 (by omega)))) (SubR.self hro) (hs' := _) rfl rfl (fun v27 D27 hP27 => ?_)
    obtain ⟨g1, rfl, pg1, sg1⟩ := hP27
    refine WO.nil ?_
    refine End.K ?_
    refine W.block ?_
    refine W.loop_ind2 (fun (bs : Nat) (g : Nat → α) => [(0, .slice B 0 N 2), (1, .int .i64 ((N : Nat) : Int)), (2, .func F caps), (6, .int .i64 ((bs : Nat) : Int))]) (fun (bs : Nat) (g : Nat → α) => (⟨B, ⟨2, ex, cE (vF raw (g) N)⟩, true⟩ :: hs)) (fun (bs : Nat) (g : Nat → α) => 20 ≤ bs ∧ bs ≤ 2097172 ∧ PermOn 0 N f g ∧ Blk le c N bs g) (fun (bs : Nat) (g : Nat → α) => N - bs) (20) (g1) ⟨by omega, by omega, hP.last' ha haN (by omega) pg1 sg1⟩ (SubS.cons rfl (SubS.cons rfl (SubS.cons rfl (SubS.cons rfl (SubS.nil _))))) (SubH.refl _) (fun bs g hI1 ih1 => ?_)
    obtain ⟨b1, b2, hp, hB⟩ := hI1
    refine W.seq ?_
    refine W.seq ?_
    refine W.reg ?_
    refine WO.q (Q.move rfl) rfl ?_
    refine WO.q (Q.move rfl) rfl ?_
    refine WO.q (Q.bin rfl rfl rfl (bv_lss lt_nat)) rfl ?_
    refine WO.nil ?_
    refine End.K ?_
    refine W.condDS rfl (fun hc30 => ?_) (fun hc30 => ?_)
    · skip -- L0FL1T
      refine W.skip ?_
      refine End.K ?_
      refine W.block ?_
      refine W.seq ?_
      refine W.reg ?_
      refine WO.q (Q.move rfl) rfl ?_
      refine WO.q (Q.bin (oc (v := .int .i64 ((2 : Nat) : Int)) rfl) rfl rfl (bv_mul (wn_mul (by first | omega | (simp at * <;> omega))))) rfl ?_
      refine WO.q (Q.assign (oc (v := .int .i64 ((0 : Nat) : Int)) rfl)) rfl ?_
      refine WO.q (Q.assign rfl) rfl ?_
      refine WO.nil ?_
      refine End.K ?_
      refine W.seq ?_
      refine W.block ?_
      refine W.loop_ind3 (fun (a : Nat) (b : Nat) (h : Nat → α) => [(0, .slice B 0 N 2), (1, .int .i64 ((N : Nat) : Int)), (2, .func F caps), (6, .int .i64 ((bs : Nat) : Int)), (7, .int .i64 ((a : Nat) : Int)), (8, .int .i64 ((b : Nat) : Int))]) (fun (a : Nat) (b : Nat) (h : Nat → α) => (⟨B, ⟨2, ex, cE (vF raw (h) N)⟩, true⟩ :: hs)) (fun (a : Nat) (b : Nat) (h : Nat → α) => b = a + 2 * bs ∧ ∃ p, a = 2 * bs * p ∧ a ≤ N ∧ Ph le c N (2 * bs) p g h) (fun (a : Nat) (b : Nat) (h : Nat → α) => N + 2 * bs - a) (0) (2 * bs) (g) ⟨by omega, 0, by simp, by omega, Ph.begin hB.two⟩ (SubS.cons rfl (SubS.cons rfl (SubS.cons rfl (SubS.cons rfl (SubS.cons rfl (SubS.cons rfl (SubS.nil _))))))) (SubH.refl _) (fun a b h hI2 ih2 => ?_)
      obtain ⟨hb, p, ha, haN, hP⟩ := hI2
      refine W.seq ?_
      refine W.seq ?_
      refine W.reg ?_
      refine WO.q (Q.move rfl) rfl ?_
      refine WO.q (Q.move rfl) rfl ?_
      refine WO.q (Q.bin rfl rfl rfl (bv_leq le_nat)) rfl ?_
      refine WO.nil ?_
      refine End.K ?_
      refine W.condDS rfl (fun hc35 => ?_) (fun hc35 => ?_)
      · skip -- L0FL1TL2T
        have hQ := ha ▸ hB.pair hP (b := b) (by omega) (by omega) (by omega)
        refine W.skip ?_
        refine End.K ?_
        refine W.block ?_
        refine W.seq ?_
        refine W.reg ?_
        refine WO.q (Q.move rfl) rfl ?_
        refine WO.q (Q.move rfl) rfl ?_
        refine WO.q (Q.move rfl) rfl ?_
        refine WO.q (Q.move rfl) rfl ?_
        refine WO.q (Q.bin rfl rfl rfl (bv_add (wn_add (by first | omega | (simp at * <;> omega))))) rfl ?_
        refine WO.q (Q.move rfl) rfl ?_
        refine WO.q (Q.move rfl) rfl ?_
        refine WO.call1 rfl (oLs_cons rfl (oLs_cons rfl (oLs_cons rfl (oLs_cons rfl (oLs_cons rfl oLs_nil))))) rfl (i := 0) rfl (sym_spec raw hraw B N ex hN c F caps hs hro hC le htr hrf hto (b - a) h a (a + bs) b (Nat.le_refl _) (by omega) (by omega) (by omega) hQ.1 hQ.2.1 hQ.2.2) (SubR.self hro) (hs' := _) rfl rfl (fun v43 D43 hP43 => ?_)
        obtain ⟨h1, rfl, ph1, sh1⟩ := hP43
        refine WO.nil ?_
        refine End.K ?_
        refine W.seq ?_
        refine W.reg ?_
        refine WO.q (Q.move rfl) rfl ?_
        refine WO.q (Q.assign rfl) rfl ?_
        refine WO.nil ?_
        refine End.K ?_
        refine W.reg ?_
        refine WO.q (Q.move rfl) rfl ?_
        refine WO.q (Q.move rfl) rfl ?_
        refine WO.q (Q.bin (oc (v := .int .i64 ((2 : Nat) : Int)) rfl) rfl rfl (bv_mul (wn_mul (by first | omega | (simp at * <;> omega))))) rfl ?_
        refine WO.q (Q.bin rfl rfl rfl (bv_add (wn_add (by first | omega | (simp at * <;> omega))))) rfl ?_
        refine WO.q (Q.assign rfl) rfl ?_
        refine WO.nil ?_
        refine End.KB (End.KL ?_)
        refine W.sub (SubS.cons rfl (SubS.cons rfl (SubS.cons rfl (SubS.cons rfl (SubS.cons rfl (SubS.cons rfl (SubS.nil _))))))) (W.subH (SubH.refl _) (ih2 (b) (b + 2 * bs) (h1) ?_ ?_))
        · exact ⟨rfl, p + 1, by rw [hb, ha]; rfl, by omega, hP.step' ha (by rw [hb, ha]; rfl) (by omega) ph1 sh1⟩
        · exact (by first | omega | (simp at * <;> omega))
      · skip -- L0FL1TL2F
        refine W.exit ?_
        refine End.K_exit (End.KL_exit (End.KB_hit (End.K ?_)))
        refine W.seqJ1 (fun (h : Nat → α) => [(0, .slice B 0 N 2), (1, .int .i64 ((N : Nat) : Int)), (2, .func F caps), (6, .int .i64 ((bs : Nat) : Int))]) (fun (h : Nat → α) => (⟨B, ⟨2, ex, cE (vF raw (h) N)⟩, true⟩ :: hs)) (fun (h : Nat → α) => PermOn 0 N g h ∧ Blk le c N (2 * bs) h) (fun h hI16 => ?_) (fun hJ16 => ?_)
        · skip -- L0FL1TL2FJ16
          obtain ⟨hph, hBh⟩ := hI16
          refine W.reg ?_
          refine WO.q (Q.move rfl) rfl ?_
          refine WO.q (Q.bin rfl (oc (v := .int .i64 ((2 : Nat) : Int)) rfl) rfl (bv_mul (wn_mul (by first | omega | (simp at * <;> omega))))) rfl ?_
          refine WO.q (Q.assign rfl) rfl ?_
          refine WO.nil ?_
          refine End.KB (End.KL ?_)
          refine W.sub (SubS.cons rfl (SubS.cons rfl (SubS.cons rfl (SubS.cons rfl (SubS.nil _))))) (W.subH (SubH.refl _) (ih1 (bs * 2) (h) ?_ ?_))
          · exact ⟨by omega, by omega, hp.trans hph, by rw [Nat.mul_comm bs 2]; exact hBh⟩
          · exact (by first | omega | (simp at * <;> omega))
        · skip
          refine W.seq ?_
          refine W.reg ?_
          refine WO.q (Q.move rfl) rfl ?_
          refine WO.q (Q.move rfl) rfl ?_
          refine WO.q (Q.bin rfl rfl rfl (bv_add (wn_add (by first | omega | (simp at * <;> omega))))) rfl ?_
          refine WO.q (Q.assign rfl) rfl ?_
          refine WO.nil ?_
          refine End.K ?_
          refine W.seq ?_
          refine W.reg ?_
          refine WO.q (Q.move rfl) rfl ?_
          refine WO.q (Q.move rfl) rfl ?_
          refine WO.q (Q.bin rfl rfl rfl (bv_lss lt_nat)) rfl ?_
          refine WO.nil ?_
          refine End.K ?_
          refine W.condDS rfl (fun hc54 => ?_) (fun hc54 => ?_)
          · skip -- L0FL1TL2FT
            have hQ := ha ▸ hB.pair hP (b := N) (by omega) (by omega) (by omega)
            refine W.reg ?_
            refine WO.q (Q.move rfl) rfl ?_
            refine WO.q (Q.move rfl) rfl ?_
            refine WO.q (Q.move rfl) rfl ?_
            refine WO.q (Q.move rfl) rfl ?_
            refine WO.q (Q.move rfl) rfl ?_
            refine WO.call1 rfl (oLs_cons rfl (oLs_cons rfl (oLs_cons rfl (oLs_cons rfl (oLs_cons rfl oLs_nil))))) rfl (i := 0) rfl (sym_spec raw hraw B N ex hN c F caps hs hro hC le htr hrf hto (N - a) h a (a + bs) N (Nat.le_refl _) (by omega) (by omega) (by omega) hQ.1 hQ.2.1 hQ.2.2) (SubR.self hro) (hs' := _) rfl rfl (fun v60 D60 hP60 => ?_)
            obtain ⟨h1, rfl, ph1, sh1⟩ := hP60
            refine WO.nil ?_
            refine End.K (W.sub (SubS.cons rfl (SubS.cons rfl (SubS.cons rfl (SubS.cons rfl (SubS.nil _))))) (W.subH (SubH.refl _) (hJ16 (h1) ?_)))
            exact hP.last' ha haN (by rw [Nat.mul_succ]; omega) ph1 sh1
          · skip -- L0FL1TL2FF
            refine W.skip ?_
            refine End.K (W.sub (SubS.cons rfl (SubS.cons rfl (SubS.cons rfl (SubS.cons rfl (SubS.nil _))))) (W.subH (SubH.refl _) (hJ16 (h) ?_)))
            exact hP.last' ha haN (by rw [Nat.mul_succ]; omega) (PermOn.refl _ _ _) (ha ▸ hB.rest hP (by omega))
    · skip -- L0FL1F
      refine W.exit ?_
      refine End.K_exit (End.KL_exit (End.KB_hit (End.fall ResL.nil (hs' := [⟨B, ⟨2, ex, cE (vF raw (g) N)⟩, true⟩]) ⟨g, rfl, hp, hB.all (by omega)⟩ (ww no_wl) (SubH.of_sublist (List.Sublist.cons_cons _ (List.nil_sublist _))))))

theorem ssf_spec {α : Type} (raw : α → El) (hraw : ∀ x, (raw x).1.isCell = true ∧ (raw x).1.beq (raw x).1 = true ∧ beq0 (raw x).1 (raw x).1 = true) (B N : Nat) (ex : Bool) (hN : N ≤ 1048576) (c : α → α → Int) (F : Nat) (caps : List AV) (hs : HSt) (hro : ∀ e ∈ hs, e.w = false) (hC : ∀ x y : α, Spec tab F ([.agg [(raw x).1, .int .i64 (raw x).2.2], .agg [(raw y).1, .int .i64 (raw y).2.2]] ++ caps) [] hs (Val (.int .i64 (c x y)))) (le : α → α → Prop) (htr : ∀ x y z, le x y → le y z → le x z) (hrf : ∀ x, le x x) (hto : ∀ x y, le x y ∨ le y x) (f : Nat → α) (hX : ∀ i j, i < j → j < N → Tells le c (f i) (f j)) : Spec tab 81 [.slice B 0 N 2, .func F caps] [B] (⟨B, ⟨2, ex, cE (vF raw (f) N)⟩, true⟩ :: hs) (fun v D => ∃ g, D = [⟨B, ⟨2, ex, cE (vF raw (g) N)⟩, true⟩] ∧ PermOn 0 N f g ∧ SrtOn le 0 N g) := by
  refine Spec.enter' (ft_get 81 Tryz.func81) rfl (m := 9) rfl (rs := []) rfl (st := [(0, .slice B 0 N 2), (1, .func F caps)]) rfl rfl (fun _ => rfl) (fun E => ?_)
  refine W.reg ?_
  refine WO.q (Q.move rfl) rfl ?_
  refine WO.q (Q.move rfl) rfl ?_
  refine WO.q (Q.len ud22 rfl rfl) rfl ?_
  refine WO.q (Q.move rfl) rfl ?_
  refine WO.call1 rfl (oLs_cons rfl (oLs_cons rfl (oLs_cons rfl oLs_nil))) rfl (i := 0) rfl (stb_spec raw hraw B N ex hN c F caps hs hro hC le htr hrf hto f hX) (SubR.self hro) (hs' := _) rfl rfl (fun v8 D8 hP8 => ?_)
  obtain ⟨g1, rfl, pg1, sg1⟩ := hP8
  refine WO.nil ?_
  refine End.fall ResL.nil (hs' := [⟨B, ⟨2, ex, cE (vF raw (g1) N)⟩, true⟩]) ⟨g1, rfl, pg1, sg1⟩ (ww no_wl) (SubH.of_sublist (List.Sublist.cons_cons _ (List.nil_sublist _)))

theorem ins_nil (F : Nat) (caps : List AV) : Spec tab 147 [.nils, .int .i64 ((0 : Nat) : Int), .int .i64 ((0 : Nat) : Int), .func F caps] [] [] (Val (.tuple [])) := by
  refine Spec.enter' (ft_get 147 Tryz.func147) rfl (m := 53) rfl (rs := []) rfl (st := [(0, .nils), (1, .int .i64 ((0 : Nat) : Int)), (2, .int .i64 ((0 : Nat) : Int)), (3, .func F caps)]) rfl rfl (fun _ => rfl) (fun E => ?_)
  refine W.seq ?_
  refine W.reg ?_
  refine WO.q (Q.move rfl) rfl ?_
  refine WO.q (Q.bin rfl (oc (v := .int .i64 ((1 : Nat) : Int)) rfl) rfl (bv_add (c := (((1 : Nat)) : Int)) (by decide))) rfl ?_
  refine WO.q (Q.assign rfl) rfl ?_
  refine WO.nil ?_
  refine End.K ?_
  refine W.block ?_
  refine W.loop ?_
  refine W.seq ?_
  refine W.seq ?_
  refine W.reg ?_
  refine WO.q (Q.move rfl) rfl ?_
  refine WO.q (Q.move rfl) rfl ?_
  refine WO.q (Q.bin rfl rfl rfl (bv_lss (p := false) rfl)) rfl ?_
  refine WO.nil ?_
  refine End.K ?_
  refine W.condF rfl ?_
  refine W.exit ?_
  refine End.K_exit (End.KL_exit (End.KB_hit (End.fall ResL.nil ⟨rfl, rfl⟩ no_wl (SubH.nil _))))

theorem stb_nil (F : Nat) (caps : List AV) : Spec tab 118 [.nils, .int .i64 ((0 : Nat) : Int), .func F caps] [] [] (Val (.tuple [])) := by
  refine Spec.enter' (ft_get 118 Tryz.func118) rfl (m := 63) rfl (rs := []) rfl (st := [(0, .nils), (1, .int .i64 ((0 : Nat) : Int)), (2, .func F caps)]) rfl rfl (fun _ => rfl) (fun E => ?_)
  refine W.seq ?_
  refine W.reg ?_
  refine WO.q (Q.assign (oc (v := .int .i64 ((20 : Nat) : Int)) rfl)) rfl ?_
  refine WO.nil ?_
  refine End.K ?_
  refine W.seq ?_
  refine W.reg ?_
  refine WO.q (Q.move rfl) rfl ?_
  refine WO.q (Q.assign (oc (v := .int .i64 ((0 : Nat) : Int)) rfl)) rfl ?_
  refine WO.q (Q.assign rfl) rfl ?_
  refine WO.nil ?_
  refine End.K ?_
  refine W.seq ?_
  refine W.block ?_
  refine W.loop ?_
  refine W.seq ?_
  refine W.seq ?_
  refine W.reg ?_
  refine WO.q (Q.move rfl) rfl ?_
  refine WO.q (Q.move rfl) rfl ?_
  refine WO.q (Q.bin rfl rfl rfl (bv_leq (p := false) rfl)) rfl ?_
  refine WO.nil ?_
  refine End.K ?_
  refine W.condF rfl ?_
  refine W.exit ?_
  refine End.K_exit (End.KL_exit (End.KB_hit (End.K ?_)))
  refine W.seq ?_
  refine W.reg ?_
  refine WO.q (Q.move rfl) rfl ?_
  refine WO.q (Q.move rfl) rfl ?_
  refine WO.q (Q.move rfl) rfl ?_
  refine WO.q (Q.move rfl) rfl ?_
  refine WO.callV rfl (oLs_cons rfl (oLs_cons rfl (oLs_cons rfl (oLs_cons rfl oLs_nil)))) rfl (ins_nil F caps) SubR.nil rfl ?_
  refine WO.nil ?_
  refine End.K ?_
  refine W.block ?_
  refine W.loop ?_
  refine W.seq ?_
  refine W.seq ?_
  refine W.reg ?_
  refine WO.q (Q.move rfl) rfl ?_
  refine WO.q (Q.move rfl) rfl ?_
  refine WO.q (Q.bin rfl rfl rfl (bv_lss (p := false) rfl)) rfl ?_
  refine WO.nil ?_
  refine End.K ?_
  refine W.condF rfl ?_
  refine W.exit ?_
  refine End.K_exit (End.KL_exit (End.KB_hit (End.fall ResL.nil ⟨rfl, rfl⟩ no_wl (SubH.nil _))))

theorem ssf_nil (F : Nat) (caps : List AV) : Spec tab 81 [.nils, .func F caps] [] [] (Val (.tuple [])) := by
  refine Spec.enter' (ft_get 81 Tryz.func81) rfl (m := 9) rfl (rs := []) rfl (st := [(0, .nils), (1, .func F caps)]) rfl rfl (fun _ => rfl) (fun E => ?_)
  refine W.reg ?_
  refine WO.q (Q.move rfl) rfl ?_
  refine WO.q (Q.move rfl) rfl ?_
  refine WO.q (Q.len ud22 rfl rfl) rfl ?_
  refine WO.q (Q.move rfl) rfl ?_
  refine WO.callV rfl (oLs_cons rfl (oLs_cons rfl (oLs_cons rfl oLs_nil))) rfl (stb_nil F caps) SubR.nil rfl ?_
  refine WO.nil ?_
  refine End.fall ResL.nil ⟨rfl, rfl⟩ no_wl (SubH.nil _)
end Go.Proofs.YtmblgaehfjheeaaGreat.Ev
