/- Chapter 19, walks: a vector written over. -/
import Derived.Test.YtmblgaehfjheeaaGreatTYu
namespace Go.Proofs.YtmblgaehfjheeaaGreat.Ev
open Go.RowKit
set_option linter.unusedVariables false
set_option linter.unusedSimpArgs false
set_option maxRecDepth 100000
set_option maxHeartbeats 1000000
def lenV : AV → Nat
  | .slice _ _ n _ => n
  | _ => 0
/-- Labels of which only the place is known, and how many they are. -/
def SLab (L : HSt) (v : AV) : Prop := v = .nils ∨ ∃ b n ex c, v = .slice b 0 n 2 ∧ (⟨b, ⟨2, ex, c⟩, true⟩ : HE) ∈ L ∧ c.length = n * 2 ∧ n ≤ 1048576
theorem SLab.len {L : HSt} {v : AV} {e : Nat} (h : SLab L v) : lenA (.slice e) v = some (lenV v) := by
  rcases h with rfl | ⟨b, n, ex, c, rfl, _⟩ <;> rfl
theorem SLab.full {L : HSt} {v : AV} (h : SLab L v) (hl : 0 < lenV v) : ∃ b n ex c, v = .slice b 0 n 2 ∧ (⟨b, ⟨2, ex, c⟩, true⟩ : HE) ∈ L ∧ c.length = n * 2 ∧ n ≤ 1048576 := by
  rcases h with rfl | h
  · exact absurd hl (by simp [lenV])
  · exact h
def Shp (cs : List AV) (L : HSt) (N : Nat) : Prop := cs.length = N * 2 ∧ ∀ i, i < N → SLab L (cs.getD (i * 2) .nils)
theorem Shp.at {cs : List AV} {L : HSt} {N i : Nat} (h : Shp cs L N) (hi : i < N) : cs[(0 + i) * 2 + 0]? = some (cs.getD (i * 2) .nils) ∧ SLab L (cs.getD (i * 2) .nils) := by
  refine ⟨?_, h.2 i hi⟩
  have : i * 2 < cs.length := by rw [h.1]; omega
  rw [Nat.zero_add, Nat.add_zero, List.getD_eq_getElem?_getD, List.getElem?_eq_getElem this]; rfl
theorem lay_len : ∀ {l new : List AV} {o : Nat}, o + new.length ≤ l.length → (layL l o new).length = l.length
  | l, [], o, _ => by simp [layL]
  | [], a :: new, o, h => by simp at h
  | x :: l, a :: new, 0, h => by
    simp only [layL, List.length_cons]
    rw [lay_len (by simpa using h)]
  | x :: l, a :: new, o + 1, h => by
    simp only [layL, List.length_cons]
    rw [lay_len (by simp at h ⊢; omega)]
theorem lay_ev : ∀ (l : List AV) (i k : Nat) (v : AV), (layL l (i * 2 + 1) [v]).getD (k * 2) .nils = l.getD (k * 2) .nils
  | [], i, k, v => by simp [layL]
  | x :: l, 0, 0, v => by cases l <;> rfl
  | [x], 0, k + 1, v => by simp [layL]
  | x :: y :: l, 0, k + 1, v => by
    rw [show (k + 1) * 2 = k * 2 + 1 + 1 by omega]; cases l <;> rfl
  | [x], i + 1, k, v => by
    rw [show (i + 1) * 2 + 1 = i * 2 + 1 + 1 + 1 by omega]; simp [layL]
  | x :: y :: l, i + 1, 0, v => by
    rw [show (i + 1) * 2 + 1 = i * 2 + 1 + 1 + 1 by omega]; rfl
  | x :: y :: l, i + 1, k + 1, v => by
    rw [show (i + 1) * 2 + 1 = i * 2 + 1 + 1 + 1 by omega, show (k + 1) * 2 = k * 2 + 1 + 1 by omega]
    show (layL l (i * 2 + 1) [v]).getD (k * 2) .nils = l.getD (k * 2) .nils
    exact lay_ev l i k v
theorem Shp.num {cs : List AV} {L : HSt} {N i : Nat} {v : AV} (h : Shp cs L N) (hi : i < N) : Shp (layL cs ((0 + i) * 2 + 1) [v]) L N := by
  refine ⟨?_, fun k hk => ?_⟩
  · rw [lay_len (by rw [h.1]; simp; omega)]; exact h.1
  · rw [Nat.zero_add, lay_ev]; exact h.2 k hk
theorem SLab.put {P Q : HSt} {b : Nat} {ex : Bool} {c c' : List AV} {v : AV} (hc : c'.length = c.length) (h : SLab (P ++ ⟨b, ⟨2, ex, c⟩, true⟩ :: Q) v) : SLab (P ++ ⟨b, ⟨2, ex, c'⟩, true⟩ :: Q) v := by
  rcases h with h | ⟨b1, n, ex1, c1, h1, h2, h3⟩
  · exact .inl h
  · rcases List.mem_append.1 h2 with h2 | h2
    · exact .inr ⟨b1, n, ex1, c1, h1, List.mem_append_left _ h2, h3⟩
    · rcases List.mem_cons.1 h2 with h2 | h2
      · cases h2
        exact .inr ⟨b, n, ex, c', h1, List.mem_append_right _ List.mem_cons_self, hc.trans h3.1, h3.2⟩
      · exact .inr ⟨b1, n, ex1, c1, h1, List.mem_append_right _ (List.mem_cons_of_mem _ h2), h3⟩
theorem Shp.put {cs : List AV} {P Q : HSt} {N b : Nat} {ex : Bool} {c c' : List AV} (h : Shp cs (P ++ ⟨b, ⟨2, ex, c⟩, true⟩ :: Q) N) (hc : c'.length = c.length) : Shp cs (P ++ ⟨b, ⟨2, ex, c'⟩, true⟩ :: Q) N := ⟨h.1, fun i hi => (h.2 i hi).put hc⟩
theorem wput {P Q : HSt} {e e' : HE} (h : ∀ x ∈ P ++ e :: Q, x.w = true) (he : e'.w = true := by rfl) : ∀ x ∈ P ++ e' :: Q, x.w = true := by
  intro x hx
  rcases List.mem_append.1 hx with hx | hx
  · exact h x (List.mem_append_left _ hx)
  · rcases List.mem_cons.1 hx with rfl | hx
    · exact he
    · exact h x (List.mem_append_right _ (List.mem_cons_of_mem _ hx))
theorem ck2 {x y : AV} {o n : Nat} (hx : x.isCell = true) (hy : y.isCell = true) (h : Nat.ble (o + 2) n = true) : (Nat.beq (AV.agg [x, y]).cells.length 2 && Nat.ble (o + 2) n && (AV.agg [x, y]).cells.all AV.isCell) = true := by
  rw [h]; exact and_tt rfl (and_tt hx (and_tt hy rfl))
theorem eown_shp {W : List El} {hl : HSt} (h : ∀ x ∈ W, LIn hl x.2.1 x.1) (hw : WZ hl) (hB : EBd W) : Shp (cE W) hl W.length := by
  refine ⟨cE_len W, fun i hi => ?_⟩
  have e : (cE W).getD (i * 2) .nils = (eg W i).1 := by rw [List.getD_eq_getElem?_getD, (cE_get W i hi).1]; rfl
  rw [e]
  rcases h _ (eg_mem hi) with ⟨h1, _⟩ | ⟨b, sz, ex, h1, w, h2⟩
  · exact .inl h1
  · obtain ⟨g1, g2⟩ := hw _ h2
    simp only at g1 g2
    subst g1 g2
    exact .inr ⟨b, _, ex, _, h1, h2, cL_len _, (hB.at hi).1.1⟩
theorem spl_some (B N : Nat) (ex : Bool) (cs : List AV) (L : HSt) (hw : ∀ e ∈ L, e.w = true) (hN : N ≤ 1048576) (hsh : Shp cs L N) : Spec tab 15 [.slice B 0 N 2] (B :: L.map (·.b)) (⟨B, ⟨2, ex, cs⟩, true⟩ :: L) (Val (.tuple [])) := by
  refine Spec.enter' (ft_get 15 Tryz.func15) rfl (m := 32) rfl (rs := []) rfl (st := [(0, .slice B 0 N 2)]) rfl rfl (fun _ => rfl) (fun E => ?_)
  refine W.seq ?_
  refine W.reg ?_
  refine WO.q (Q.assign (oc (v := .int .i64 ((0 : Nat) : Int)) rfl)) rfl ?_
  refine WO.nil ?_
  refine End.K ?_
  refine W.block ?_
  refine W.loop_ind3 (fun (i : Nat) (cs : List AV) (L : HSt) => [(0, .slice B 0 N 2), (2, .int .i64 ((i : Nat) : Int))]) (fun (i : Nat) (cs : List AV) (L : HSt) => (⟨B, ⟨2, ex, cs⟩, true⟩ :: L)) (fun (i : Nat) (cs : List AV) (L : HSt) => i ≤ N ∧ Shp cs L N ∧ (∀ e ∈ L, e.w = true)) (fun (i : Nat) (cs : List AV) (L : HSt) => N - i) (0) (cs) (L) ⟨Nat.zero_le _, hsh, hw⟩ (SubS.cons rfl (SubS.cons rfl (SubS.nil _))) (SubH.refl _) (fun i cs L hI0 ih0 => ?_)
  obtain ⟨h1, hsh, hw⟩ := hI0
  refine W.seq ?_
  refine W.seq ?_
  refine W.reg ?_
  refine WO.q (Q.move rfl) rfl ?_
  refine WO.q (Q.move rfl) rfl ?_
  refine WO.q (Q.len ud22 rfl rfl) rfl ?_
  refine WO.q (Q.bin rfl rfl rfl (bv_lss lt_nat)) rfl ?_
  refine WO.nil ?_
  refine End.K ?_
  refine W.condDS rfl (fun hc7 => ?_) (fun hc7 => ?_)
  · skip -- L0T
    refine W.skip ?_
    refine End.K ?_
    refine W.seq ?_
    refine W.block ?_
    refine W.seq ?_
    refine W.reg ?_
    refine WO.q (Q.move rfl) rfl ?_
    refine WO.q (Q.move rfl) rfl ?_
    refine WO.q (Q.iaddrS ud22 sz35 rfl rfl (by first | omega | (simp at * <;> omega))) rfl ?_
    refine WO.q (Q.fieldAddr fa35_1 rfl rfl) rfl ?_
    refine WO.store sz3 rfl rfl (i := 0) rfl (ck1 rfl (by rw [hsh.1]; rw [Nat.ble_eq]; omega)) rfl (hs' := _ :: _) rfl ?_
    refine WO.nil ?_
    refine End.K ?_
    refine W.seq ?_
    refine W.reg ?_
    refine WO.q (Q.assign (oc (v := .int .i64 ((0 : Nat) : Int)) rfl)) rfl ?_
    refine WO.nil ?_
    refine End.K ?_
    refine W.block ?_
    refine W.loop_ind3 (fun (k : Nat) (ds : List AV) (L : HSt) => [(0, .slice B 0 N 2), (2, .int .i64 ((i : Nat) : Int)), (3, .int .i64 ((k : Nat) : Int))]) (fun (k : Nat) (ds : List AV) (L : HSt) => (⟨B, ⟨2, ex, ds⟩, true⟩ :: L)) (fun (k : Nat) (ds : List AV) (L : HSt) => k ≤ lenV (ds.getD (i * 2) .nils) ∧ Shp ds L N ∧ (∀ e ∈ L, e.w = true)) (fun (k : Nat) (ds : List AV) (L : HSt) => lenV (ds.getD (i * 2) .nils) - k) (0) (layL cs ((0 + i) * 2 + 1) (AV.int .i64 (-1)).cells) (L) ⟨Nat.zero_le _, hsh.num (by omega), hw⟩ (SubS.cons rfl (SubS.cons rfl (SubS.cons rfl (SubS.nil _)))) (SubH.refl _) (fun k ds L hI1 ih1 => ?_)
    obtain ⟨hk, hsh, hw⟩ := hI1
    obtain ⟨hc, hS⟩ := hsh.at (i := i) (by omega)
    refine W.seq ?_
    refine W.seq ?_
    refine W.reg ?_
    refine WO.q (Q.move rfl) rfl ?_
    refine WO.q (Q.move rfl) rfl ?_
    refine WO.q (Q.move rfl) rfl ?_
    refine WO.q (Q.iaddrS ud22 sz35 rfl rfl (by first | omega | (simp at * <;> omega))) rfl ?_
    refine WO.q (Q.fieldAddr fa35_0 rfl rfl) rfl ?_
    refine WO.q (Q.load1 rfl (mem_at (i := 0) rfl) ag33 hc) rfl ?_
    refine WO.q (Q.len ud33 rfl (SLab.len hS)) rfl ?_
    refine WO.q (Q.bin rfl rfl rfl (bv_lss lt_nat)) rfl ?_
    refine WO.nil ?_
    refine End.K ?_
    refine W.condDS rfl (fun hc21 => ?_) (fun hc21 => ?_)
    · skip -- L0TL1T
      refine W.skip ?_
      refine End.K ?_
      refine W.seq ?_
      refine W.block ?_
      refine W.reg ?_
      refine WO.q (Q.move rfl) rfl ?_
      refine WO.q (Q.move rfl) rfl ?_
      refine WO.q (Q.iaddrS ud22 sz35 rfl rfl (by first | omega | (simp at * <;> omega))) rfl ?_
      refine WO.q (Q.fieldAddr fa35_0 rfl rfl) rfl ?_
      refine WO.q (Q.load1 rfl (mem_at (i := 0) rfl) ag33 hc) rfl ?_
      obtain ⟨bl, n, exl, cl, hlv, hm, hcl, hnb⟩ := SLab.full hS (by omega)
      · skip -- L0TL1TS
        rw [hlv] at hk hc21 ⊢
        have hkn : k < n := hc21
        obtain ⟨Lp, Lq, rfl⟩ := List.append_of_mem hm
        refine WO.subH (hs' := ⟨B, ⟨2, ex, ds⟩, true⟩ :: ⟨bl, ⟨2, exl, cl⟩, true⟩ :: (Lp ++ Lq)) gc ?_
        refine WO.q (Q.move rfl) rfl ?_
        refine WO.q (Q.build pl68 (oPs_cons (oc (v := .str [122, 122]) (by kernel_rfl)) (oPs_cons (oc (v := .str [115, 112, 111, 105, 108, 116]) (by kernel_rfl)) oPs_nil)) rfl (cs := [_, _]) rfl) rfl ?_
        refine WO.q (Q.iaddrS ud33 sz68 rfl rfl (by first | omega | (simp at * <;> omega))) rfl ?_
        refine WO.store sz68 rfl rfl (i := 1) rfl (ck2 rfl rfl (by rw [hcl, Nat.ble_eq]; omega)) rfl (hs' := _ :: _ :: _) rfl ?_
        refine WO.nil ?_
        refine End.KB (End.K ?_)
        refine W.sub (SubS.cons (k := 0) rfl (SubS.cons (k := 2) rfl (SubS.cons (k := 3) rfl (SubS.nil _)))) ?_
        refine W.reg ?_
        refine WO.q (Q.move rfl) rfl ?_
        refine WO.q (Q.bin rfl (oc (v := .int .i64 ((1 : Nat) : Int)) rfl) rfl (bv_add (wn_add (by first | omega | (simp at * <;> omega))))) rfl ?_
        refine WO.q (Q.assign rfl) rfl ?_
        refine WO.nil ?_
        refine End.KL ?_
        refine W.sub (SubS.cons rfl (SubS.cons rfl (SubS.cons rfl (SubS.nil _)))) (W.subH gc (ih1 (k + 1) (ds) (Lp ++ ⟨bl, ⟨2, exl, layL cl ((0 + k) * 2) (AV.agg [.str [122, 122], .str [115, 112, 111, 105, 108, 116]]).cells⟩, true⟩ :: Lq) ?_ ?_))
        · exact ⟨by rw [hlv]; show k + 1 ≤ n; omega, hsh.put (lay_len (by rw [hcl]; show (0 + k) * 2 + 2 ≤ _; omega)), wput hw⟩
        · exact (by rw [hlv]; show n - (k + 1) < n - k; omega)
    · skip -- L0TL1F
      refine W.exit ?_
      refine End.K_exit (End.KL_exit (End.KB_hit (End.KB (End.K ?_))))
      refine W.reg ?_
      refine WO.q (Q.move rfl) rfl ?_
      refine WO.q (Q.bin rfl (oc (v := .int .i64 ((1 : Nat) : Int)) rfl) rfl (bv_add (wn_add (by first | omega | (simp at * <;> omega))))) rfl ?_
      refine WO.q (Q.assign rfl) rfl ?_
      refine WO.nil ?_
      refine End.KL ?_
      refine W.sub (SubS.cons rfl (SubS.cons rfl (SubS.nil _))) (W.subH (SubH.refl _) (ih0 (i + 1) (ds) (L) ?_ ?_))
      · exact ⟨by omega, hsh, hw⟩
      · exact (by first | omega | (simp at * <;> omega))
  · skip -- L0F
    refine W.exit ?_
    refine End.K_exit (End.KL_exit (End.KB_hit (End.fall ResL.nil ⟨rfl, rfl⟩ no_wl (SubH.nil _))))

theorem spl_nil  : Spec tab 15 [.nils] [] [] (Val (.tuple [])) := by
  refine Spec.enter' (ft_get 15 Tryz.func15) rfl (m := 32) rfl (rs := []) rfl (st := [(0, .nils)]) rfl rfl (fun _ => rfl) (fun E => ?_)
  refine W.seq ?_
  refine W.reg ?_
  refine WO.q (Q.assign (oc (v := .int .i64 ((0 : Nat) : Int)) rfl)) rfl ?_
  refine WO.nil ?_
  refine End.K ?_
  refine W.block ?_
  refine W.loop ?_
  refine W.seq ?_
  refine W.seq ?_
  refine W.reg ?_
  refine WO.q (Q.move rfl) rfl ?_
  refine WO.q (Q.move rfl) rfl ?_
  refine WO.q (Q.len ud22 rfl rfl) rfl ?_
  refine WO.q (Q.bin rfl rfl rfl (bv_lss (p := false) rfl)) rfl ?_
  refine WO.nil ?_
  refine End.K ?_
  refine W.condF rfl ?_
  refine W.exit ?_
  refine End.K_exit (End.KL_exit (End.KB_hit (End.fall ResL.nil ⟨rfl, rfl⟩ no_wl (SubH.nil _))))
/-- A vector of one's own is written over. -/
theorem spl_spec (W : List El) (w : AV) (D : HSt) (hD : VOwn W w D) : Spec tab 15 [w] (D.map (·.b)) (D ++ []) (Val (.tuple [])) := by
  obtain ⟨hp, hl, rfl, hO, hL, hw, hB⟩ := hD
  rw [List.append_nil]
  rcases hO with ⟨h1, h2, rfl, rfl⟩ | ⟨b, ex, rfl, rfl, h3⟩
  · exact fun h hh => by
      obtain ⟨v, h', hs', q1, ⟨q2, q3⟩, q4, q5⟩ := spl_nil h ⟨fun e he => by simp at he, List.nodup_nil, Fr.refl _ _⟩
      exact ⟨v, h', hs', q1, ⟨q2, q3⟩, q4, ⟨fun e he => (by subst q3; simp at he), q5.nd, ⟨q5.fr.1, fun b hb _ => q5.fr.2 b hb (by simp)⟩⟩⟩
  · exact spl_some b W.length ex (cE W) hl hw.w hB.1 (eown_shp hL hw hB)
end Go.Proofs.YtmblgaehfjheeaaGreat.Ev
