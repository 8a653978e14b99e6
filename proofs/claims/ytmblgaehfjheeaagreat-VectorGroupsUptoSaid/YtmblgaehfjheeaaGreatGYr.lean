/- The standard library's stable sort, walks: all of it. -/
import Derived.Test.YtmblgaehfjheeaaGreatGYp
import Derived.Test.YtmblgaehfjheeaaGreatGYm
namespace Go.Proofs.YtmblgaehfjheeaaGreat.Ev
open Go.RowKit
set_option linter.unusedVariables false
set_option linter.unusedSimpArgs false
set_option maxRecDepth 100000
set_option maxHeartbeats 1000000
theorem Ph.step' {α : Type} {le : α → α → Prop} {c : α → α → Int} {N w p a b : Nat} {g0 g h : Nat → α} (k : Ph le c N w p g0 g) (ha : a = w * p) (hb : b = w * (p + 1)) (hN : b ≤ N) (hp : PermOn a b g h) (hs : SrtOn le a b h) : Ph le c N w (p + 1) g0 h := by
 subst ha hb; exact k.step hN hp hs
theorem Ph.last' {α : Type} {le : α → α → Prop} {c : α → α → Int} {N w p a : Nat} {g0 g h : Nat → α} (k : Ph le c N w p g0 g) (ha : a = w * p) (h0 : a ≤ N) (hN : N ≤ w * (p + 1)) (hp : PermOn a N g h) (hs : SrtOn le a N h) : PermOn 0 N g0 h ∧ Blk le c N w h := by
 subst ha; exact k.last h0 hN hp hs
theorem stb_spec {α : Type} (raw : α → El) (hraw : ∀ x, (raw x).1.isCell = true ∧ (raw x).1.beq (raw x).1 = true ∧ beq0 (raw x).1 (raw x).1 = true) (B N : Nat) (ex : Bool) (hN : N ≤ 1048576) (c : α → α → Int) (F : Nat) (caps : List AV) (hs : HSt) (hro : ∀ e ∈ hs, e.w = false) (hC : ∀ x y : α, Spec tab F ([.agg [(raw x).1, .int .i64 (raw x).2.2], .agg [(raw y).1, .int .i64 (raw y).2.2]] ++ caps) [] hs (Val (.int .i64 (c x y)))) (le : α → α → Prop) (htr : ∀ x y z, le x y → le y z → le x z) (hrf : ∀ x, le x x) (hto : ∀ x y, le x y ∨ le y x) (f : Nat → α) (hX : ∀ i j, i < j → j < N → Tells le c (f i) (f j)) : Spec tab 118 [.slice B 0 N 2, .int .i64 ((N : Nat) : Int), .func F caps] [B] (⟨B, ⟨2, ex, cE (vF raw (f) N)⟩, true⟩ :: hs) (fun v D => ∃ g, D = [⟨B, ⟨2, ex, cE (vF raw (g) N)⟩, true⟩] ∧ PermOn 0 N f g ∧ SrtOn le 0 N g) := by
 refine Spec.en (ftg 118 Tryz.func118) rfl (m := 63) rfl (rs := []) rfl (st := [(0, .slice B 0 N 2), (1, .int .i64 ((N : Nat) : Int)), (2, .func F caps)]) rfl rfl (fun _ => rfl) (fun E => zr (za (zi 20) (zk (zr (zm rfl (za (zi 0) (za rfl (zk (W.seq (W.block (W.loop_ind2 (fun (a : Nat) (g : Nat → α) => [(0, .slice B 0 N 2), (1, .int .i64 ((N : Nat) : Int)), (2, .func F caps), (6, .int .i64 ((20 : Nat) : Int)), (7, .int .i64 ((a : Nat) : Int)), (8, .int .i64 ((a + 20 : Nat) : Int))]) (fun (a : Nat) (g : Nat → α) => (⟨B, ⟨2, ex, cE (vF raw (g) N)⟩, true⟩ :: hs)) (fun (a : Nat) (g : Nat → α) => ∃ p, a = 20 * p ∧ a ≤ N ∧ Ph le c N 20 p f g) (fun (a : Nat) (g : Nat → α) => N + 20 - a) (0) (f) ⟨0, by omega, by omega, Ph.begin fun q i j q1 q2 q3 q4 => hX i j zy q4⟩ zv (SubH.refl _) (fun a g hI0 ih0 => ?_))))))))))))
 obtain ⟨p, ha, haN, hP⟩ := hI0
 refine W.seq (zr (zm rfl (zm rfl (zq (Q.bin rfl rfl rfl (bv_leq le_nat)) (zk (W.cD rfl (fun hc13 => ?_) (fun hc13 => ?_)))))))
 ·refine zw (W.block (zr (zm rfl (zm rfl (zm rfl (zm rfl (WO.call1 rfl (oLc rfl (oLc rfl (oLc rfl (oLc rfl oz)))) rfl (i := 0) rfl (ins_spec raw hraw B N ex hN c F caps hs hro hC le htr hrf hto g a (a + 20) zy zy (fun i j q1 q2 q3 => (by rw [hP.same i zy, hP.same j zy]; exact hX i j q2 zy))) (SubR.s hro) (hs' := _) rfl rfl (fun v18 D18 hP18 => ?_))))))))
  obtain ⟨g1, rfl, pg1, sg1⟩ := hP18
  refine zk (zr (zm rfl (za rfl (zk (W.reg (zm rfl (zm rfl (zq (Q.bin rfl rfl rfl zp) (za rfl (WO.nil (End.KB (End.KL (W.sub zv (W.sH (SubH.refl _) (ih0 (a + 20) (g1) ?_ ?_)))))))))))))))
  ·exact ⟨p + 1, by omega, by omega, hP.step' ha zy zy pg1 sg1⟩
  exact zo
 refine W.exit (End.Kx (End.Lx (End.Bh (End.K (zr (zm rfl (zm rfl (zm rfl (zm rfl (WO.call1 rfl (oLc rfl (oLc rfl (oLc rfl (oLc rfl oz)))) rfl (i := 0) rfl (ins_spec raw hraw B N ex hN c F caps hs hro hC le htr hrf hto g a N zy zy (fun i j q1 q2 q3 => (by rw [hP.same i zy, hP.same j zy]; exact hX i j q2 zy))) (SubR.s hro) (hs' := _) rfl rfl (fun v27 D27 hP27 => ?_)))))))))))
 obtain ⟨g1, rfl, pg1, sg1⟩ := hP27
 refine zk (W.block (W.loop_ind2 (fun (bs : Nat) (g : Nat → α) => [(0, .slice B 0 N 2), (1, .int .i64 ((N : Nat) : Int)), (2, .func F caps), (6, .int .i64 ((bs : Nat) : Int))]) (fun (bs : Nat) (g : Nat → α) => (⟨B, ⟨2, ex, cE (vF raw (g) N)⟩, true⟩ :: hs)) (fun (bs : Nat) (g : Nat → α) => 20 ≤ bs ∧ bs ≤ 2097172 ∧ PermOn 0 N f g ∧ Blk le c N bs g) (fun (bs : Nat) (g : Nat → α) => N - bs) (20) (g1) ⟨by omega, by omega, hP.last' ha haN zy pg1 sg1⟩ zv (SubH.refl _) (fun bs g hI1 ih1 => ?_)))
 obtain ⟨b1, b2, hp, hB⟩ := hI1
 refine W.seq (zr (zm rfl (zm rfl (zq (Q.bin rfl rfl rfl (bvl ltn)) (zk (W.cD rfl (fun hc30 => ?_) (fun hc30 => ?_)))))))
 ·refine zw (W.block (zr (zm rfl (zq (Q.bin (zi 2) rfl rfl (bv_mul (wn_mul zo))) (za (zi 0) (za rfl (zk (W.seq (W.block (W.loop_ind3 (fun (a : Nat) (b : Nat) (h : Nat → α) => [(0, .slice B 0 N 2), (1, .int .i64 ((N : Nat) : Int)), (2, .func F caps), (6, .int .i64 ((bs : Nat) : Int)), (7, .int .i64 ((a : Nat) : Int)), (8, .int .i64 ((b : Nat) : Int))]) (fun (a : Nat) (b : Nat) (h : Nat → α) => (⟨B, ⟨2, ex, cE (vF raw (h) N)⟩, true⟩ :: hs)) (fun (a : Nat) (b : Nat) (h : Nat → α) => b = a + 2 * bs ∧ ∃ p, a = 2 * bs * p ∧ a ≤ N ∧ Ph le c N (2 * bs) p g h) (fun (a : Nat) (b : Nat) (h : Nat → α) => N + 2 * bs - a) (0) (2 * bs) (g) ⟨by omega, 0, by simp, by omega, Ph.begin hB.two⟩ zv (SubH.refl _) (fun a b h hI2 ih2 => ?_)))))))))))
  obtain ⟨hb, p, ha, haN, hP⟩ := hI2
  refine W.seq (zr (zm rfl (zm rfl (zq (Q.bin rfl rfl rfl (bv_leq le_nat)) (zk (W.cD rfl (fun hc35 => ?_) (fun hc35 => ?_)))))))
  ·have hQ := ha ▸ hB.pair hP (b := b) zy zy zy
   refine zw (W.block (zr (zm rfl (zm rfl (zm rfl (zm rfl (zq (Q.bin rfl rfl rfl zp) (zm rfl (zm rfl (WO.call1 rfl (oLc rfl (oLc rfl (oLc rfl (oLc rfl (oLc rfl oz))))) rfl (i := 0) rfl (sym_spec raw hraw B N ex hN c F caps hs hro hC le htr hrf hto (b - a) h a (a + bs) b (Nat.le_refl _) zy zy zy hQ.1 hQ.2.1 hQ.2.2) (SubR.s hro) (hs' := _) rfl rfl (fun v43 D43 hP43 => ?_)))))))))))
   obtain ⟨h1, rfl, ph1, sh1⟩ := hP43
   refine zk (zr (zm rfl (za rfl (zk (W.reg (zm rfl (zm rfl (zq (Q.bin (zi 2) rfl rfl (bv_mul (wn_mul zo))) (zq (Q.bin rfl rfl rfl zp) (za rfl (WO.nil (End.KB (End.KL (W.sub zv (W.sH (SubH.refl _) (ih2 (b) (b + 2 * bs) (h1) ?_ ?_))))))))))))))))
   ·exact ⟨rfl, p + 1, by rw [hb, ha]; rfl, by omega, hP.step' ha (by rw [hb, ha]; rfl) zy ph1 sh1⟩
   exact zo
  refine W.exit (End.Kx (End.Lx (End.Bh (End.K (W.seqJ1 (fun (h : Nat → α) => [(0, .slice B 0 N 2), (1, .int .i64 ((N : Nat) : Int)), (2, .func F caps), (6, .int .i64 ((bs : Nat) : Int))]) (fun (h : Nat → α) => (⟨B, ⟨2, ex, cE (vF raw (h) N)⟩, true⟩ :: hs)) (fun (h : Nat → α) => PermOn 0 N g h ∧ Blk le c N (2 * bs) h) (fun h hI16 => ?_) (fun hJ16 => ?_))))))
  ·obtain ⟨hph, hBh⟩ := hI16
   refine W.reg (zm rfl (zq (Q.bin rfl (zi 2) rfl (bv_mul (wn_mul zo))) (za rfl (WO.nil (End.KB (End.KL (W.sub zv (W.sH (SubH.refl _) (ih1 (bs * 2) (h) ?_ ?_)))))))))
   ·exact ⟨by omega, by omega, hp.trans hph, by rw [Nat.mul_comm bs 2]; exact hBh⟩
   exact zo
  refine zr (zm rfl (zm rfl (zq (Q.bin rfl rfl rfl zp) (za rfl (zk (zr (zm rfl (zm rfl (zq (Q.bin rfl rfl rfl (bvl ltn)) (zk (W.cD rfl (fun hc54 => ?_) (fun hc54 => ?_))))))))))))
  ·have hQ := ha ▸ hB.pair hP (b := N) zy zy zy
   refine W.reg (zm rfl (zm rfl (zm rfl (zm rfl (zm rfl (WO.call1 rfl (oLc rfl (oLc rfl (oLc rfl (oLc rfl (oLc rfl oz))))) rfl (i := 0) rfl (sym_spec raw hraw B N ex hN c F caps hs hro hC le htr hrf hto (N - a) h a (a + bs) N (Nat.le_refl _) zy zy zy hQ.1 hQ.2.1 hQ.2.2) (SubR.s hro) (hs' := _) rfl rfl (fun v60 D60 hP60 => ?_)))))))
   obtain ⟨h1, rfl, ph1, sh1⟩ := hP60
   refine WO.nil (End.K (W.sub zv (W.sH (SubH.refl _) (hJ16 (h1) ?_))))
   exact hP.last' ha haN (by rw [Nat.mul_succ]; omega) ph1 sh1
  refine W.skip (End.K (W.sub zv (W.sH (SubH.refl _) (hJ16 (h) ?_))))
  exact hP.last' ha haN (by rw [Nat.mul_succ]; omega) (PermOn.refl _ _ _) (ha ▸ hB.rest hP zy)
 refine W.exit ?_
 refine End.Kx (End.Lx (End.Bh (End.fall ResL.nil (hs' := [⟨B, ⟨2, ex, cE (vF raw (g) N)⟩, true⟩]) ⟨g, rfl, hp, hB.all zy⟩ (ww no_wl) (SubH.of_sublist (List.Sublist.cons_cons _ (List.nil_sublist _))))))

theorem ssf_spec {α : Type} (raw : α → El) (hraw : ∀ x, (raw x).1.isCell = true ∧ (raw x).1.beq (raw x).1 = true ∧ beq0 (raw x).1 (raw x).1 = true) (B N : Nat) (ex : Bool) (hN : N ≤ 1048576) (c : α → α → Int) (F : Nat) (caps : List AV) (hs : HSt) (hro : ∀ e ∈ hs, e.w = false) (hC : ∀ x y : α, Spec tab F ([.agg [(raw x).1, .int .i64 (raw x).2.2], .agg [(raw y).1, .int .i64 (raw y).2.2]] ++ caps) [] hs (Val (.int .i64 (c x y)))) (le : α → α → Prop) (htr : ∀ x y z, le x y → le y z → le x z) (hrf : ∀ x, le x x) (hto : ∀ x y, le x y ∨ le y x) (f : Nat → α) (hX : ∀ i j, i < j → j < N → Tells le c (f i) (f j)) : Spec tab 81 [.slice B 0 N 2, .func F caps] [B] (⟨B, ⟨2, ex, cE (vF raw (f) N)⟩, true⟩ :: hs) (fun v D => ∃ g, D = [⟨B, ⟨2, ex, cE (vF raw (g) N)⟩, true⟩] ∧ PermOn 0 N f g ∧ SrtOn le 0 N g) := by
 refine Spec.en (ftg 81 Tryz.func81) rfl (m := 9) rfl (rs := []) rfl (st := [(0, .slice B 0 N 2), (1, .func F caps)]) rfl rfl (fun _ => rfl) (fun E => W.reg (zm rfl (zm rfl (zq (Q.len ud22 rfl rfl) (zm rfl (WO.call1 rfl (oLc rfl (oLc rfl (oLc rfl oz))) rfl (i := 0) rfl (stb_spec raw hraw B N ex hN c F caps hs hro hC le htr hrf hto f hX) (SubR.s hro) (hs' := _) rfl rfl (fun v8 D8 hP8 => ?_)))))))
 obtain ⟨g1, rfl, pg1, sg1⟩ := hP8
 refine WO.nil ?_
 refine End.fall ResL.nil (hs' := [⟨B, ⟨2, ex, cE (vF raw (g1) N)⟩, true⟩]) ⟨g1, rfl, pg1, sg1⟩ (ww no_wl) (SubH.of_sublist (List.Sublist.cons_cons _ (List.nil_sublist _)))

theorem ins_nil (F : Nat) (caps : List AV) : Spec tab 147 [.nils, .int .i64 ((0 : Nat) : Int), .int .i64 ((0 : Nat) : Int), .func F caps] [] [] (Val (.tuple [])) := by
 refine Spec.en (ftg 147 Tryz.func147) rfl (m := 53) rfl (rs := []) rfl (st := [(0, .nils), (1, .int .i64 ((0 : Nat) : Int)), (2, .int .i64 ((0 : Nat) : Int)), (3, .func F caps)]) rfl rfl (fun _ => rfl) (fun E => zr (zm rfl (zq (Q.bin rfl (zi 1) rfl (bv_add (c := (((1 : Nat)) : Int)) (by decide))) (za rfl (zk (W.block (W.loop (W.seq (zr (zm rfl (zm rfl (zq (Q.bin rfl rfl rfl (bvl (p := false) rfl)) (zk (W.condF rfl (W.exit ?_)))))))))))))))
 refine End.Kx (End.Lx (End.Bh (End.fall ResL.nil ⟨rfl, rfl⟩ no_wl (SubH.nil _))))

theorem stb_nil (F : Nat) (caps : List AV) : Spec tab 118 [.nils, .int .i64 ((0 : Nat) : Int), .func F caps] [] [] (Val (.tuple [])) := by
 refine Spec.en (ftg 118 Tryz.func118) rfl (m := 63) rfl (rs := []) rfl (st := [(0, .nils), (1, .int .i64 ((0 : Nat) : Int)), (2, .func F caps)]) rfl rfl (fun _ => rfl) (fun E => zr (za (zi 20) (zk (zr (zm rfl (za (zi 0) (za rfl (zk (W.seq (W.block (W.loop (W.seq (zr (zm rfl (zm rfl (zq (Q.bin rfl rfl rfl (bv_leq (p := false) rfl)) (zk (W.condF rfl (W.exit (End.Kx (End.Lx (End.Bh (End.K (zr (zm rfl (zm rfl ?_))))))))))))))))))))))))))
 refine zm rfl (zm rfl (WO.cV rfl (oLc rfl (oLc rfl (oLc rfl (oLc rfl oz)))) rfl (ins_nil F caps) SubR.nil rfl (zk (W.block (W.loop (W.seq (zr (zm rfl (zm rfl (zq (Q.bin rfl rfl rfl (bvl (p := false) rfl)) (zk (W.condF rfl (W.exit ?_)))))))))))))
 refine End.Kx (End.Lx (End.Bh (End.fall ResL.nil ⟨rfl, rfl⟩ no_wl (SubH.nil _))))

theorem ssf_nil (F : Nat) (caps : List AV) : Spec tab 81 [.nils, .func F caps] [] [] (Val (.tuple [])) := by
 refine Spec.en (ftg 81 Tryz.func81) rfl (m := 9) rfl (rs := []) rfl (st := [(0, .nils), (1, .func F caps)]) rfl rfl (fun _ => rfl) (fun E => W.reg (zm rfl (zm rfl (zq (Q.len ud22 rfl rfl) (zm rfl (WO.cV rfl (oLc rfl (oLc rfl (oLc rfl oz))) rfl (stb_nil F caps) SubR.nil rfl (WO.nil ?_)))))))
 refine End.fall ResL.nil ⟨rfl, rfl⟩ no_wl (SubH.nil _)
theorem WO.callS {tb : Tab} {n : Nat} {E : Env} {s : St} {hs : HSt} {R : T AV → AHeap → Prop} {ops rest : List Oper} {d : Nat} {ty : TypeId} {pos : String} {aft : Array Edge} {of : Operand} {args : List Operand} {ts : Array TypeId} {g : Nat} {caps l l' : List AV} {M A hsc : HSt} {Post : AV → HSt → Prop} (hf : oL s of = some (.func g caps)) (ha : oLs s args = some l) (hl : l ++ caps = l')
  (hM : ∀ e ∈ M, e.w = true) (hs_ : SubH (M ++ A) hs) (hsp : Spec tb g l' (M.map (·.b)) (M ++ hsc) Post) (hsub : SubR hsc A) (hd : Nat.blt d n = true)
  (hk : ∀ v D, Post v D → WO tb n ops rest E ((d, v) :: s) (D ++ A) R) :
  WO tb n ops (⟨some d, .call ⟨.value of, args.toArray, ts⟩, ty, pos, aft, none⟩ :: rest) E s hs R := by
 refine WO.l (s' := s) fun tm h ht hh0 => ?_
 have hh := hh0.sub hs_
 have hnd := hh.nd
 rw [List.map_append] at hnd
 obtain ⟨n1, n2, n3⟩ := List.nodup_append.1 hnd
 have hne : ∀ e ∈ A, e.b ∉ M.map (·.b) := fun e he hm => n3 e.b hm e.b (List.mem_map.2 ⟨e, he, rfl⟩) rfl
 have hA : ∀ e ∈ A, _ := fun e he => hh.at_ e (List.mem_append_right _ he)
 have hMa : ∀ e ∈ M, _ := fun e he => hh.at_ e (List.mem_append_left _ he)
 have hin : HS ⟨h, M.map (·.b)⟩ (M ++ hsc) h := by
  refine ⟨fun e he => ?_, ?_, Fr.refl _ _⟩
  ·rcases List.mem_append.1 he with he | he
   ·exact ⟨(hMa e he).1, (hMa e he).2.1, fun _ => .inr (List.mem_map.2 ⟨e, he, rfl⟩)⟩
   ·obtain ⟨hw, w, hm⟩ := hsub.1 e he
    obtain ⟨a1, a2, a3⟩ := hA _ hm
    exact ⟨a1, a2, fun h' => by rw [hw] at h'; cases h'⟩
  ·rw [List.map_append]
   refine List.nodup_append.2 ⟨n1, hsub.2 n2, ?_⟩
   intro a ha' b hb hab
   obtain ⟨y, hy, rfl⟩ := List.mem_map.1 hb
   obtain ⟨hw, w, hm⟩ := hsub.1 y hy
   exact hne _ hm (hab ▸ ha')
 obtain ⟨v, h', D, hE, hP, hw, hD⟩ := hsp h hin
 have hfr := hD.fr
 have hback : HS E (D ++ A) h' := by
  refine ⟨fun e he => ?_, ?_, ?_, fun c hc hcS => ?_⟩
  ·rcases List.mem_append.1 he with he | he
   ·obtain ⟨a1, a2, a3⟩ := hD.at_ e he
    refine ⟨a1, a2, fun hw' => ?_⟩
    rcases a3 hw' with b1 | b1
    ·exact .inl (Nat.le_trans hh.fr.1 b1)
    ·obtain ⟨x, hx, hxe⟩ := List.mem_map.1 b1
     rw [← hxe]
     exact (hMa x hx).2.2 (hM x hx)
   ·obtain ⟨a1, a2, a3⟩ := hA e he
    refine ⟨?_, Nat.lt_of_lt_of_le a2 hfr.1, a3⟩
    rw [hfr.2 e.b a2 (hne e he)]
    exact a1
  ·rw [List.map_append]
   refine List.nodup_append.2 ⟨hD.nd, n2, ?_⟩
   intro a ha' b hb' hab
   obtain ⟨x, hx, rfl⟩ := List.mem_map.1 ha'
   obtain ⟨y, hy, rfl⟩ := List.mem_map.1 hb'
   have h1 := (hA y hy).2.1
   have hab : x.b = y.b := hab
   rcases (hD.at_ x hx).2.2 (hw x hx) with b1 | b1
   ·have b1 : h.next ≤ x.b := b1
    omega
   ·exact hne y hy (hab ▸ b1)
  ·exact Nat.le_trans hh.fr.1 hfr.1
  ·have hcb : c ∉ M.map (·.b) := by
    intro hm
    obtain ⟨x, hx, rfl⟩ := List.mem_map.1 hm
    rcases (hMa x hx).2.2 (hM x hx) with g | g
    ·omega
    ·exact hcS g
   rw [hfr.2 c (Nat.lt_of_lt_of_le hc hh.fr.1) hcb]
   exact hh.fr.2 c hc hcS
 refine ⟨v, h', tm.set d v, ?_, putDst_at hd, hk v D hP _ _ (ht.set d _) hback⟩
 show Res.l (evCallVal tm h (callOf (Ev.callE tb)) of args.toArray) = _
 unfold evCallVal
 simp only [oL_ok ht hf, oLs_ok ht ha]
 subst hl
 rw [callOf_eq hE]
theorem Spec.sub {tb : Tab} {f : Nat} {args : List AV} {S : List Nat} {hs hs' : HSt} {Post : AV → HSt → Prop} (h : Spec tb f args S hs Post) (g : SubH hs hs') : Spec tb f args S hs' Post := fun h0 hh => h h0 (hh.sub g)
theorem LIn.bq0 {hs : HSt} {l : List Lab} {v : AV} (h : LIn hs l v) : beq0 v v = true := by
 rcases h with ⟨rfl, _⟩ | ⟨b, sz, ex, rfl, _⟩
 ·rfl
 ·simp [beq0]
theorem all_c2 {v : AV} {n : Int} (h : v.isCell = true) : (AV.agg [v, .int .i64 n]).cells.all AV.isCell = true := by
 show (v.isCell && (true && true)) = true
 rw [h]; rfl
theorem leL_refl (x : List Lab) : leL x x := by unfold leL; rw [cmpL_eq.2 rfl]; decide
theorem eg_out {V : List El} {i : Nat} (h : V.length ≤ i) : eg V i = (.nils, [], 0) := by
 unfold eg
 rw [List.getD_eq_getElem?_getD, List.getElem?_eq_none h]; rfl
theorem lin_any {hs : HSt} {V : List El} (hV : ∀ x ∈ V, LIn hs x.2.1 x.1) (i : Nat) : LIn hs (eg V i).2.1 (eg V i).1 := by
 rcases Nat.lt_or_ge i V.length with h | h
 ·exact hV _ (eg_mem h)
 ·rw [eg_out h]; exact .inl ⟨rfl, rfl⟩
theorem lbd_any {V : List El} (hB : EBd V) (i : Nat) : LBd (eg V i).2.1 := by
 rcases Nat.lt_or_ge i V.length with h | h
 ·exact (hB.at h).1
 ·rw [eg_out h]; exact ⟨by simp, fun x hx => by simp at hx⟩
theorem vF_id (V : List El) : vF (eg V) id V.length = V := by
 apply List.ext_getElem?
 intro k
 unfold vF
 rcases Nat.lt_or_ge k V.length with h | h
 ·simp [List.getElem?_map, List.getElem?_range h, eg, List.getD_eq_getElem?_getD, List.getElem?_eq_getElem h]
 ·rw [List.getElem?_eq_none (by simpa using h), List.getElem?_eq_none h]
abbrev PE := List Lab × Int
def P2 (V : List El) : List PE := V.map (·.2)
def OrdR (L : List PE) (e : Nat) (W : List PE) : Prop := (e = 17 ∧ W = [] ∧ ¬ (L.map (·.1)).Nodup) ∨ (e = 0 ∧ W.Perm L ∧ W.Pairwise fun x y => cmpL x.1 y.1 < 0)
theorem srt_nodup {W : List PE} (h : W.Pairwise fun x y => cmpL x.1 y.1 < 0) : (W.map (·.1)).Nodup := by
 refine List.Pairwise.map (S := fun a b => a ≠ b) (·.1) (fun a b hab e => ?_) h
 have : cmpL a.1 b.1 = 0 := cmpL_eq.2 e
 omega
theorem OrdR.fn {L : List PE} {e e' : Nat} {W W' : List PE} (h : OrdR L e W) (g : OrdR L e' W') : e = e' ∧ W = W' := by
 rcases h with ⟨h1, h2, h3⟩ | ⟨h1, h2, h3⟩
 ·rcases g with ⟨g1, g2, g3⟩ | ⟨g1, g2, g3⟩
  ·exact ⟨h1.trans g1.symm, h2.trans g2.symm⟩
  ·exact absurd (((g2.map _).nodup_iff).1 (srt_nodup g3)) h3
 ·rcases g with ⟨g1, g2, g3⟩ | ⟨g1, g2, g3⟩
  ·exact absurd (((h2.map _).nodup_iff).1 (srt_nodup h3)) g3
  ·refine ⟨h1.trans g1.symm, List.Perm.eq_of_pairwise (fun a b _ _ q1 q2 => ?_) h3 g3 (h2.trans g2.symm)⟩
   have := cmpL_swap a.1 b.1
   omega
section
variable {V : List El} {g : Nat → Nat}
theorem perm_bd {N : Nat} (p : PermOn 0 N id g) {i : Nat} (h : i < N) : g i < N := by
 obtain ⟨j, hj, e⟩ := p.get ⟨Nat.zero_le _, h⟩
 rw [e]; exact hj.2
theorem perm_inj {N : Nat} (p : PermOn 0 N id g) {i j : Nat} (h : g i = g j) : i = j := by
 obtain ⟨s, t, h1, h2, h3, h4⟩ := p
 have e : ∀ x, g x = s x := fun x => h4 x
 rw [e, e] at h
 rw [← h2 i, ← h2 j, h]
theorem vF_perm {N : Nat} (p : PermOn 0 N id g) : ((List.range N).map g).Perm (List.range N) := by
 refine (List.perm_ext_iff_of_nodup ?_ List.nodup_range).2 fun a => ?_
 ·exact List.Pairwise.map g (fun a b hab e => hab (perm_inj p e)) List.nodup_range
 ·rw [List.mem_map, List.mem_range]
  constructor
  ·rintro ⟨i, hi, rfl⟩
   exact perm_bd p (by simpa using hi)
  ·intro ha
   obtain ⟨j, hj, e⟩ := p.back (i := a) ⟨Nat.zero_le _, ha⟩
   exact ⟨j, by simpa using hj.2, e.symm⟩
theorem ord_perm (p : PermOn 0 V.length id g) : (vF (eg V) g V.length).Perm V := by
 have h := (vF_perm p).map (eg V)
 rw [List.map_map] at h
 have e : (List.range V.length).map (eg V) = V := vF_id V
 rw [e] at h
 exact h
theorem ord_mem (p : PermOn 0 V.length id g) {x : El} (hx : x ∈ vF (eg V) g V.length) : x ∈ V := (ord_perm p).mem_iff.1 hx
theorem ord_dup (p : PermOn 0 V.length id g) {i : Nat} (h1 : 1 ≤ i) (h2 : i < V.length) (h : (eg V (g (i - 1))).2.1 = (eg V (g i)).2.1) : OrdR (P2 V) 17 (P2 []) := by
 refine .inl ⟨rfl, rfl, fun hn => ?_⟩
 have ha : g (i - 1) < V.length := perm_bd p zy
 have hb : g i < V.length := perm_bd p h2
 have hne : g (i - 1) ≠ g i := fun e => by have := perm_inj p e; omega
 have hg : ∀ k (hk : k < V.length), ((P2 V).map (·.1))[k]? = some (eg V k).2.1 := by
  intro k hk
  simp [P2, eg, List.getElem?_map, List.getElem?_eq_getElem hk, List.getD_eq_getElem?_getD]
 exact hne (nodup_at hn (hg _ ha) (by rw [hg _ hb, h]))
theorem ord_ok (p : PermOn 0 V.length id g) (hs : SrtOn (fun x y => leL (eg V x).2.1 (eg V y).2.1) 0 V.length g) (h : ∀ k, 1 ≤ k → k < V.length → cmpL (eg V (g (k - 1))).2.1 (eg V (g k)).2.1 ≠ 0) : OrdR (P2 V) 0 (P2 (vF (eg V) g V.length)) := by
 refine .inr ⟨rfl, (ord_perm p).map _, ?_⟩
 unfold P2 vF
 rw [List.map_map]
 have hst : ∀ i j, i < j → j < V.length → cmpL (eg V (g i)).2.1 (eg V (g j)).2.1 < 0 := by
  intro i j hij hj
  have h1 : leL (eg V (g i)).2.1 (eg V (g (j - 1))).2.1 := by
   rcases Nat.lt_or_ge i (j - 1) with q | q
   ·exact hs i (j - 1) (Nat.zero_le _) q zy
   ·rw [show j - 1 = i by omega]; exact leL_refl _
  have h2 : leL (eg V (g (j - 1))).2.1 (eg V (g j)).2.1 := hs (j - 1) j (Nat.zero_le _) zy hj
  have h3 := h j zy hj
  have h4 : leL (eg V (g i)).2.1 (eg V (g j)).2.1 := leL_trans h1 h2
  refine Int.lt_iff_le_and_ne.2 ⟨h4, fun e => h3 ?_⟩
  have e := cmpL_eq.1 e
  rw [e] at h1
  unfold leL at h1 h2
  have := cmpL_swap (eg V (g (j - 1))).2.1 (eg V (g j)).2.1
  omega
 refine List.pairwise_iff_getElem.2 fun i j hi hj hij => ?_
 simp only [List.length_map, List.length_range] at hi hj
 simp only [List.getElem_map, List.getElem_range, Function.comp]
 exact hst i j hij hj
end
theorem ord1_spec (hs : HSt) (hro : ∀ e ∈ hs, e.w = false) (A B : List Lab) (va vb : AV) (ha : LIn hs A va) (hb : LIn hs B vb) (hA : LBd A) (hB : LBd B) (n m : Int) : Spec tab 82 [.agg [va, .int .i64 n], .agg [vb, .int .i64 m]] [] hs (Val (.int .i64 (cmpL A B))) := by
 refine Spec.en (ftg 82 Tryz.func82) rfl (m := 10) rfl (rs := [.tmp 4]) rfl (st := [(0, .agg [va, .int .i64 n]), (1, .agg [vb, .int .i64 m])]) rfl rfl (fun _ => rfl) (fun E => zr (WO.box rfl (all_c2 (LIn.cell ha)) (bx35 _ rfl) rfl (fun b1 => WO.box rfl (all_c2 (LIn.cell hb)) (bx35 _ rfl) rfl (fun b2 => za (zi 0) (zk (zr (zf fa35_0 rfl 0 (zq (Q.l1 rfl (zt 1 rfl) ag33 rfl) (zf fa35_0 rfl 0 (zq (Q.l1 rfl (zt 0 rfl) ag33 rfl) (WO.cV rfl (oLc rfl (oLc rfl oz)) rfl (cmp_spec hs hro A B _ _ ha hb hA hB) (SubR.t (SubR.t (SubR.s hro))) rfl (za rfl (zk (W.ret (End.rV (z1 rfl) ?_)))))))))))))))
 rfl

theorem ord_some (hs : HSt) (hro : ∀ e ∈ hs, e.w = false) (V : List El) (hV : ∀ x ∈ V, LIn hs x.2.1 x.1) (hB : EBd V) (B : Nat) (ex : Bool) : Spec tab 35 [.slice B 0 V.length 2] [B] (⟨B, ⟨2, ex, cE (vF (eg V) (id) V.length)⟩, true⟩ :: hs) (fun u D => ∃ (e : Nat) (W : List El) (w : AV), OrdR (P2 V) e (P2 W) ∧ (∀ x ∈ W, x ∈ V) ∧ OwnE 2 (cE W) W.length w D ∧ u = .tuple [w, .int .i64 (e : Nat)]) := by
 have hBl := hB.1
 have hL : ∀ i, LIn hs (eg V i).2.1 (eg V i).1 := fun i => lin_any hV i
 have hLb : ∀ i, LBd (eg V i).2.1 := fun i => lbd_any hB i
 have hL0 : ∀ i, beq0 (eg V i).1 (eg V i).1 = true := fun i => LIn.bq0 (hL i)
 refine Spec.en (ftg 35 Tryz.func35) rfl (m := 27) rfl (rs := [.tmp 2, .tmp 3]) rfl (st := [(0, .slice B 0 V.length 2)]) rfl rfl (fun _ => rfl) (fun E => zr (za rfl (za (zi 0) (zk (zr (zm rfl (WO.call1 rfl (oLc rfl (oLc rfl oz)) rfl (i := 0) rfl (ssf_spec (eg V) (fun x => ⟨LIn.cell (hL x), LIn.bq (hL x), hL0 x⟩) B V.length ex hB.1 (fun x y => cmpL (eg V x).2.1 (eg V y).2.1) 82 [] hs hro (fun x y => ord1_spec hs hro _ _ _ _ (hL x) (hL y) (hLb x) (hLb y) _ _) (fun x y => leL (eg V x).2.1 (eg V y).2.1) (fun x y z => leL_trans) (fun x => leL_refl _) (fun x y => leL_total _ _) id (fun i j _ _ => leL_not _ _)) (SubR.s hro) (hs' := _) rfl rfl (fun v6 D6 hP6 => ?_))))))))
 obtain ⟨g, rfl, pg, sg⟩ := hP6
 refine zk (W.seq (zr (za (zi 1) (zk (W.block (W.loop_ind (fun (i : Nat) => [(0, .slice B 0 V.length 2), (4, .int .i64 ((i : Nat) : Int))]) (fun (i : Nat) => (⟨B, ⟨2, ex, cE (vF (eg V) (g) V.length)⟩, true⟩ :: hs)) (fun (i : Nat) => 1 ≤ i ∧ (i = 1 ∨ i ≤ V.length) ∧ ∀ k, 1 ≤ k → k < i → cmpL (eg V (g (k - 1))).2.1 (eg V (g k)).2.1 ≠ 0) (fun (i : Nat) => V.length - i) (1) ⟨by omega, .inl rfl, fun k q1 q2 => by omega⟩ zv (SubH.refl _) (fun i hI0 ih0 => ?_)))))))
 obtain ⟨h1, h2, h3⟩ := hI0
 refine W.seq (zr (zm rfl (zm rfl (zq (Q.len ud22 rfl rfl) (zq (Q.bin rfl rfl rfl (bvl ltn)) (zk (W.cD rfl (fun hc10 => ?_) (fun hc10 => ?_))))))))
 ·refine zw (W.seq (W.block (W.seq (W.regT (by kernel_rfl) (zm rfl (zm rfl (zq (Q.bin rfl (zi 1) rfl (bv_sub (wns zo))) (zq (Q.iS ud22 sz35 rfl rfl zo) (zq (Q.fieldAddr fa35_0 rfl rfl) (zq (Q.l1 rfl (zt 0 rfl) ag33 (vF_f0 zo)) (zm rfl (zm rfl (zq (Q.iS ud22 sz35 rfl rfl zo) (zq (Q.fieldAddr fa35_0 rfl rfl) (zq (Q.l1 rfl (zt 0 rfl) ag33 (vF_f0 zo)) (WO.cV rfl (oLc rfl (oLc rfl oz)) rfl (cmp_spec hs hro _ _ _ _ (hL _) (hL _) (hLb _) (hLb _)) (SubR.t (SubR.s hro)) rfl (zq (Q.bin rfl (zi 0) rfl (bv_eql eq_int)) (zk (W.sub (zc 25 rfl (zc 0 rfl (zc 4 rfl zzn))) (W.cD rfl (fun hc25 => ?_) (fun hc25 => ?_)))))))))))))))))))))
  ·refine zr (za rfl (za (zi 17) (zk (W.ret ?_))))
   refine End.Br (End.Kr (End.Lr (End.Br (End.Kr (End.ret (ResL.tmp rfl (z1 rfl)) (hs' := []) ⟨17, [], .nils, ord_dup pg h1 zy (cmpL_eq.1 (by simpa using hc25)), fun x hx => by simp at hx, OwnE.nil 2, rfl⟩ no_wl (SubH.nil _))))))
  refine W.skip (End.KB (End.K (W.reg (zm rfl (zq (Q.bin rfl (zi 1) rfl zp) (za rfl (WO.nil (End.KL (W.sub zv (W.sH (SubH.refl _) (ih0 (i + 1) ?_ ?_)))))))))))
  ·exact ⟨by omega, by omega, fun k q1 q2 => by rcases Nat.lt_or_ge k i with q | q; exact h3 k q1 q; obtain rfl : k = i := zy; simpa using hc25⟩
  exact zo
 refine W.exit (End.Kx (End.Lx (End.Bh (End.K (zr (zm rfl (za rfl (za (zi 0) (zk (W.ret ?_))))))))))
 refine End.ret (ResL.tmp rfl (z1 rfl)) (hs' := [⟨B, ⟨2, ex, cE (vF (eg V) (g) V.length)⟩, true⟩]) ⟨0, vF (eg V) g V.length, _, ord_ok pg sg fun k q1 q2 => h3 k q1 zy, fun x hx => ord_mem pg hx, .inr ⟨B, ex, by rw [vF_len], rfl, cE_len _⟩, rfl⟩ (ww no_wl) (SubH.of_sublist (List.Sublist.cons_cons _ (List.nil_sublist _)))

theorem ord_nil  : Spec tab 35 [.nils] [] [] (Val (.tuple [.nils, .int .i64 ((0 : Nat) : Int)])) := by
 refine Spec.en (ftg 35 Tryz.func35) rfl (m := 27) rfl (rs := [.tmp 2, .tmp 3]) rfl (st := [(0, .nils)]) rfl rfl (fun _ => rfl) (fun E => zr (za rfl (za (zi 0) (zk (zr (zm rfl (WO.cV rfl (oLc rfl (oLc rfl oz)) rfl (ssf_nil 82 []) SubR.nil rfl (zk (W.seq (zr (za (zi 1) (zk (W.block (W.loop (W.seq (zr (zm rfl (zm rfl (zq (Q.len ud22 rfl rfl) (zq (Q.bin rfl rfl rfl (bvl (p := false) rfl)) (zk (W.condF rfl (W.exit ?_)))))))))))))))))))))))
 refine End.Kx (End.Lx (End.Bh (End.K (zr (zm rfl (za rfl (za (zi 0) (zk (W.ret (End.rV (ResL.tmp rfl (z1 rfl)) ?_))))))))))
 rfl
theorem ord_spec (hs : HSt) (hro : ∀ e ∈ hs, e.w = false) (V : List El) (v : AV) (hp : HSt) (hO : OwnE 2 (cE V) V.length v hp) (hV : ∀ x ∈ V, LIn hs x.2.1 x.1) (hB : EBd V) : Spec tab 35 [v] (hp.map (·.b)) (hp ++ hs) (fun u D => ∃ (e : Nat) (W : List El) (w : AV), OrdR (P2 V) e (P2 W) ∧ (∀ x ∈ W, x ∈ V) ∧ OwnE 2 (cE W) W.length w D ∧ u = .tuple [w, .int .i64 (e : Nat)]) := by
 rcases hO with ⟨h1, h2, rfl, rfl⟩ | ⟨b, ex, rfl, rfl, h3⟩
 ·obtain rfl : V = [] := List.length_eq_zero_iff.1 h1
  refine (Spec.sub ord_nil (SubH.nil _)).mono fun v D ⟨q1, q2⟩ => ?_
  exact ⟨0, [], .nils, .inr ⟨rfl, List.Perm.refl _, List.Pairwise.nil⟩, fun x hx => hx, .inl ⟨rfl, rfl, rfl, q2⟩, q1⟩
 ·have := ord_some hs hro V hV hB b ex
  rw [vF_id] at this
  exact this
end Go.Proofs.YtmblgaehfjheeaaGreat.Ev
