/- The standard library's stable sort, walks: two parts merged. -/
import Derived.Test.YtmblgaehfjheeaaGreatGYo
namespace Go.Proofs.YtmblgaehfjheeaaGreat.Ev
open Go.RowKit
set_option linter.unusedVariables false
set_option linter.unusedSimpArgs false
set_option maxRecDepth 100000
set_option maxHeartbeats 1000000
theorem bv_shr1 {tb : Tab} {t : TypeId} {a : Nat} : evBin tb .shr t (.int .u64 ((a : Nat) : Int)) (.int .u64 ((1 : Nat) : Int)) = some (.int .u64 ((a / 2 : Nat) : Int)) := by
 have e : ltA ((1 : Nat) : Int) 0 = false := rfl
 unfold evBin shiftA
 simp only [e]
 refine congrArg (fun x => some (AV.int .u64 x)) ?_
 show Int.fdiv ((a : Nat) : Int) (2 ^ 1) = _
 rw [Int.fdiv_eq_ediv_of_nonneg _ (by decide)]
 omega
theorem sym_step {α : Type} (raw : α → El) (hraw : ∀ x, (raw x).1.isCell = true ∧ (raw x).1.beq (raw x).1 = true ∧ beq0 (raw x).1 (raw x).1 = true) (B N : Nat) (ex : Bool) (hN : N ≤ 1048576) (c : α → α → Int) (F : Nat) (caps : List AV) (hs : HSt) (hro : ∀ e ∈ hs, e.w = false) (hC : ∀ x y : α, Spec tab F ([.agg [(raw x).1, .int .i64 (raw x).2.2], .agg [(raw y).1, .int .i64 (raw y).2.2]] ++ caps) [] hs (Val (.int .i64 (c x y)))) (le : α → α → Prop) (htr : ∀ x y z, le x y → le y z → le x z) (hrf : ∀ x, le x x) (hto : ∀ x y, le x y ∨ le y x) (f : Nat → α) (a m b : Nat) (ham : a < m) (hmb : m < b) (hb : b ≤ N) (h1 : SrtOn le a m f) (h2 : SrtOn le m b f) (hX : Cross le c a m b f) (ih : ∀ (f' : Nat → α) (a' m' b' : Nat), b' - a' < b - a → a' < m' → m' < b' → b' ≤ N → SrtOn le a' m' f' → SrtOn le m' b' f' → Cross le c a' m' b' f' → Spec tab 148 [.slice B 0 N 2, .int .i64 ((a' : Nat) : Int), .int .i64 ((m' : Nat) : Int), .int .i64 ((b' : Nat) : Int), .func F caps] [B] ((⟨B, ⟨2, ex, cE (vF raw (f') N)⟩, true⟩ :: hs)) (fun v D => ∃ g, D = [⟨B, ⟨2, ex, cE (vF raw (g) N)⟩, true⟩] ∧ PermOn a' b' f' g ∧ SrtOn le a' b' g)) : Spec tab 148 [.slice B 0 N 2, .int .i64 ((a : Nat) : Int), .int .i64 ((m : Nat) : Int), .int .i64 ((b : Nat) : Int), .func F caps] [B] (⟨B, ⟨2, ex, cE (vF raw (f) N)⟩, true⟩ :: hs) (fun v D => ∃ g, D = [⟨B, ⟨2, ex, cE (vF raw (g) N)⟩, true⟩] ∧ PermOn a b f g ∧ SrtOn le a b g) := by
 refine Spec.en (ftg 148 Tryz.func148) rfl (m := 220) rfl (rs := []) rfl (st := [(0, .slice B 0 N 2), (1, .int .i64 ((a : Nat) : Int)), (2, .int .i64 ((m : Nat) : Int)), (3, .int .i64 ((b : Nat) : Int)), (4, .func F caps)]) rfl rfl (fun _ => rfl) (fun E => W.seq (zr (zm rfl (zm rfl (zq (Q.bin rfl rfl rfl (bv_sub (wns zo))) (zq (Q.bin rfl (zi 1) rfl (bv_eql eq_nat)) (zk (W.cD rfl (fun hc28 => ?_) (fun hc28 => ?_)))))))))
 ·refine zr (zm rfl (za rfl (zk (zr (zm rfl (za rfl (zk (W.seq (W.block (W.loop_ind2 (fun (i : Nat) (j : Nat) => [(0, .slice B 0 N 2), (1, .int .i64 ((a : Nat) : Int)), (4, .func F caps), (10, .int .i64 ((i : Nat) : Int)), (11, .int .i64 ((j : Nat) : Int))]) (fun (i : Nat) (j : Nat) => (⟨B, ⟨2, ex, cE (vF raw (f) N)⟩, true⟩ :: hs)) (fun (i : Nat) (j : Nat) => m ≤ i ∧ i ≤ j ∧ j ≤ b ∧ (∀ x, m ≤ x → x < i → ¬ le (f a) (f x)) ∧ (∀ x, j ≤ x → x < b → le (f a) (f x))) (fun (i : Nat) (j : Nat) => j - i) (m) (b) ⟨by omega, by omega, by omega, fun x q1 q2 => by omega, fun x q1 q2 => by omega⟩ zv (SubH.refl _) (fun i j hI0 ih0 => ?_)))))))))))
  obtain ⟨i1, i2, i3, i4, i5⟩ := hI0
  refine W.seq (zr (zm rfl (zm rfl (zq (Q.bin rfl rfl rfl (bvl ltn)) (zk (W.cD rfl (fun hc33 => ?_) (fun hc33 => ?_)))))))
  ·have hT := hX (a) ((i + j) / 2) zy zy zy zy
   refine zw (W.block (zr (zm rfl (zm rfl (zq (Q.bin rfl rfl rfl zp) (zq (Q.convI ud3 ud121 rfl (wru64 zo)) (zq (Q.bin rfl (oc (v := .int .u64 ((1 : Nat) : Int)) rfl) rfl bv_shr1) (zq (Q.convI ud121 ud3 rfl (wr64 zo)) (za rfl (zk (W.seq (W.regT (by kernel_rfl) (zm rfl (zm rfl (zm rfl (zq (Q.iS ud22 sz35 rfl rfl zo) (zq (Q.loadN rfl (zt 0 rfl) ag35 sz35 (vF_at zo)) (zm rfl (zm rfl (zq (Q.iS ud22 sz35 rfl rfl zo) (zq (Q.loadN rfl (zt 0 rfl) ag35 sz35 (vF_at zo)) (WO.cV rfl (oLc rfl (oLc rfl oz)) rfl (hC _ _) (SubR.t (SubR.s hro)) rfl (zq (Q.bin rfl (zi 0) rfl (bvl (ltA_eq _ _))) ?_)))))))))))))))))))))))
   refine zk (W.sub (zc 50 rfl (zc 12 rfl (zc 0 rfl (zc 1 rfl (zc 4 rfl (zc 10 rfl (zc 11 rfl zzn))))))) (W.cD rfl (fun hc50 => ?_) (fun hc50 => ?_)))
   ·refine W.reg (zm rfl (zq (Q.bin rfl (zi 1) rfl zp) (za rfl (WO.nil (End.KB (End.KL (W.sub zv (W.sH (SubH.refl _) (ih0 ((i + j) / 2 + 1) (j) ?_ ?_)))))))))
    ·exact ⟨by omega, by omega, i3, fun x q1 q2 hx => (hT.1 (by simpa using hc50)) (htr _ _ _ hx (h2.le' hrf q1 zy zy)), i5⟩
    exact zo
   refine W.reg (zm rfl (za rfl (WO.nil (End.KB (End.KL (W.sub zv (W.sH (SubH.refl _) (ih0 (i) ((i + j) / 2) ?_ ?_))))))))
   ·exact ⟨i1, by omega, by omega, i4, fun x q1 q2 => htr _ _ _ (Classical.not_not.1 fun q => hc50 (by simpa using hT.2 q)) (h2.le' hrf zy q1 q2)⟩
   exact zo
  refine W.exit (End.Kx (End.Lx (End.Bh (End.K (W.seq (zr (zm rfl (za rfl (zk (W.block (W.loop_ind (fun (k : Nat) => [(0, .slice B 0 N 2), (10, .int .i64 ((i : Nat) : Int)), (13, .int .i64 ((k : Nat) : Int))]) (fun (k : Nat) => (⟨B, ⟨2, ex, cE (vF raw (movU f a k) N)⟩, true⟩ :: hs)) (fun (k : Nat) => a ≤ k ∧ k ≤ i - 1) (fun (k : Nat) => i - k) (a) ⟨by omega, by omega⟩ zv (by rw [movU_0]; exact SubH.refl _) (fun k hI1 ih1 => ?_))))))))))))
  obtain ⟨k1, k2⟩ := hI1
  refine W.seq (zr (zm rfl (zm rfl (zq (Q.bin rfl (zi 1) rfl (bv_sub (wns zo))) (zq (Q.bin rfl rfl rfl (bvl ltn)) (zk (W.cD rfl (fun hc58 => ?_) (fun hc58 => ?_))))))))
  ·refine zw (W.seq (W.block (W.regX (by kernel_rfl) (WX.f (Q.move rfl) bqs rfl (WX.f (Q.move rfl) bqi rfl (WX.f (Q.move rfl) bqs rfl (WX.f (Q.move rfl) bqi rfl (WX.f (Q.bin rfl (zi 1) rfl zp) bqi rfl (WX.f (Q.move rfl) bqs rfl (WX.f (Q.move rfl) bqi rfl (WX.f (Q.bin rfl (zi 1) rfl zp) bqi rfl (WX.f (Q.iS ud22 sz35 rfl rfl zo) bqp rfl (WX.q (by kernel_rfl) (Q.loadN rfl (zt 0 rfl) ag35 sz35 (vF_at zo)) (bq_agg2 (hraw _).2.2) rfl (WX.f (Q.move rfl) bqs rfl (WX.f (Q.move rfl) bqi rfl (WX.f (Q.iS ud22 sz35 rfl rfl zo) bqp rfl (WX.q (by kernel_rfl) (Q.loadN rfl (zt 0 rfl) ag35 sz35 (vF_at zo)) (bq_agg2 (hraw _).2.2) rfl (WX.f (Q.iS ud22 sz35 rfl rfl zo) bqp rfl (WX.store sz35 rfl rfl (j := 0) rfl (sto_ck (hraw _).1 zo) (vF_lay (x := movU f a k (k + 1)) zo) (hs' := _ :: _) rfl (WX.f (Q.iS ud22 sz35 rfl rfl zo) bqp rfl (WX.store sz35 rfl rfl (j := 0) rfl (sto_ck (hraw _).1 zo) (vF_lay (x := movU f a k k) zo) (hs' := _ :: _) rfl (WX.nil (End.KB (End.K ?_))))))))))))))))))))))))
   refine W.sub (zc 0 rfl (zc 10 rfl (zc 13 rfl zzn))) (W.reg (zm rfl (zq (Q.bin rfl (zi 1) rfl zp) (za rfl (WO.nil (End.KL (W.sub zv (W.sH (by rw [upd_sw, movU_step zy]; exact SubH.refl _) (ih1 (k + 1) ?_ ?_)))))))))
   ·exact ⟨by omega, by omega⟩
   exact zo
  refine W.exit (End.Kx (End.Lx (End.Bh (End.K (W.ret ?_)))))
  refine End.Kr (End.ret ResL.nil (hs' := [⟨B, ⟨2, ex, cE (vF raw (movU f a k) N)⟩, true⟩]) ⟨_, rfl, ⟨movU_perm zy zy, movU_srt ((show m = a + 1 by omega) ▸ h2) ⟨by omega, by omega⟩ (fun x q1 q2 => (hto _ _).resolve_right (i4 x zy zy)) (fun x q1 q2 => i5 x zy q2)⟩⟩ (ww no_wl) (SubH.of_sublist (List.Sublist.cons_cons _ (List.nil_sublist _))))
 refine zw (W.seq (zr (zm rfl (zm rfl (zq (Q.bin rfl rfl rfl (bv_sub (wns zo))) (zq (Q.bin rfl (zi 1) rfl (bv_eql eq_nat)) (zk (W.cD rfl (fun hc80 => ?_) (fun hc80 => ?_)))))))))
 ·refine zr (zm rfl (za rfl (zk (zr (zm rfl (za rfl (zk (W.seq (W.block (W.loop_ind2 (fun (i : Nat) (j : Nat) => [(0, .slice B 0 N 2), (2, .int .i64 ((m : Nat) : Int)), (4, .func F caps), (14, .int .i64 ((i : Nat) : Int)), (15, .int .i64 ((j : Nat) : Int))]) (fun (i : Nat) (j : Nat) => (⟨B, ⟨2, ex, cE (vF raw (f) N)⟩, true⟩ :: hs)) (fun (i : Nat) (j : Nat) => a ≤ i ∧ i ≤ j ∧ j ≤ m ∧ (∀ x, a ≤ x → x < i → le (f x) (f m)) ∧ (∀ x, j ≤ x → x < m → ¬ le (f x) (f m))) (fun (i : Nat) (j : Nat) => j - i) (a) (m) ⟨by omega, by omega, by omega, fun x q1 q2 => by omega, fun x q1 q2 => by omega⟩ zv (SubH.refl _) (fun i j hI2 ih2 => ?_)))))))))))
  obtain ⟨i1, i2, i3, i4, i5⟩ := hI2
  refine W.seq (zr (zm rfl (zm rfl (zq (Q.bin rfl rfl rfl (bvl ltn)) (zk (W.cD rfl (fun hc85 => ?_) (fun hc85 => ?_)))))))
  ·have hT := hX ((i + j) / 2) (m) zy zy zy zy
   refine zw (W.block (zr (zm rfl (zm rfl (zq (Q.bin rfl rfl rfl zp) (zq (Q.convI ud3 ud121 rfl (wru64 zo)) (zq (Q.bin rfl (oc (v := .int .u64 ((1 : Nat) : Int)) rfl) rfl bv_shr1) (zq (Q.convI ud121 ud3 rfl (wr64 zo)) (za rfl (zk (W.seq (W.regT (by kernel_rfl) (zm rfl (zm rfl (zm rfl (zq (Q.iS ud22 sz35 rfl rfl zo) (zq (Q.loadN rfl (zt 0 rfl) ag35 sz35 (vF_at zo)) (zm rfl (zm rfl (zq (Q.iS ud22 sz35 rfl rfl zo) (zq (Q.loadN rfl (zt 0 rfl) ag35 sz35 (vF_at zo)) (WO.cV rfl (oLc rfl (oLc rfl oz)) rfl (hC _ _) (SubR.t (SubR.s hro)) rfl (zq (Q.bin rfl (zi 0) rfl (bvl (ltA_eq _ _))) ?_)))))))))))))))))))))))
   refine zq (Q.not rfl not_dec) (zk (W.sub (zc 103 rfl (zc 16 rfl (zc 0 rfl (zc 2 rfl (zc 4 rfl (zc 14 rfl (zc 15 rfl zzn))))))) (W.cD rfl (fun hc103 => ?_) (fun hc103 => ?_))))
   ·refine W.reg (zm rfl (zq (Q.bin rfl (zi 1) rfl zp) (za rfl (WO.nil (End.KB (End.KL (W.sub zv (W.sH (SubH.refl _) (ih2 ((i + j) / 2 + 1) (j) ?_ ?_)))))))))
    ·exact ⟨by omega, by omega, i3, fun x q1 q2 => htr _ _ _ (h1.le' hrf q1 (show x ≤ (i + j) / 2 by omega) zy) (Classical.not_not.1 fun q => hc103 (by simpa using hT.2 q)), i5⟩
    exact zo
   refine W.reg (zm rfl (za rfl (WO.nil (End.KB (End.KL (W.sub zv (W.sH (SubH.refl _) (ih2 (i) ((i + j) / 2) ?_ ?_))))))))
   ·exact ⟨i1, by omega, by omega, i4, fun x q1 q2 hx => (hT.1 (by simpa using hc103)) (htr _ _ _ (h1.le' hrf zy q1 q2) hx)⟩
   exact zo
  refine W.exit (End.Kx (End.Lx (End.Bh (End.K (W.seq (zr (zm rfl (za rfl (zk (W.block (W.loop_ind (fun (k : Nat) => [(0, .slice B 0 N 2), (14, .int .i64 ((i : Nat) : Int)), (17, .int .i64 ((k : Nat) : Int))]) (fun (k : Nat) => (⟨B, ⟨2, ex, cE (vF raw (movD f m k) N)⟩, true⟩ :: hs)) (fun (k : Nat) => i ≤ k ∧ k ≤ m) (fun (k : Nat) => k - i) (m) ⟨by omega, by omega⟩ zv (by rw [movD_0]; exact SubH.refl _) (fun k hI3 ih3 => ?_))))))))))))
  obtain ⟨k1, k2⟩ := hI3
  refine W.seq (zr (zm rfl (zm rfl (zq (Q.bin rfl rfl rfl (bv_gtr ltn)) (zk (W.cD rfl (fun hc110 => ?_) (fun hc110 => ?_)))))))
  ·refine zw (W.seq (W.block (W.regX (by kernel_rfl) (WX.f (Q.move rfl) bqs rfl (WX.f (Q.move rfl) bqi rfl (WX.f (Q.move rfl) bqs rfl (WX.f (Q.move rfl) bqi rfl (WX.f (Q.bin rfl (zi 1) rfl (bv_sub (wns zo))) bqi rfl (WX.f (Q.move rfl) bqs rfl (WX.f (Q.move rfl) bqi rfl (WX.f (Q.bin rfl (zi 1) rfl (bv_sub (wns zo))) bqi rfl (WX.f (Q.iS ud22 sz35 rfl rfl zo) bqp rfl (WX.q (by kernel_rfl) (Q.loadN rfl (zt 0 rfl) ag35 sz35 (vF_at zo)) (bq_agg2 (hraw _).2.2) rfl (WX.f (Q.move rfl) bqs rfl (WX.f (Q.move rfl) bqi rfl (WX.f (Q.iS ud22 sz35 rfl rfl zo) bqp rfl (WX.q (by kernel_rfl) (Q.loadN rfl (zt 0 rfl) ag35 sz35 (vF_at zo)) (bq_agg2 (hraw _).2.2) rfl (WX.f (Q.iS ud22 sz35 rfl rfl zo) bqp rfl (WX.store sz35 rfl rfl (j := 0) rfl (sto_ck (hraw _).1 zo) (vF_lay (x := movD f m k (k - 1)) zo) (hs' := _ :: _) rfl (WX.f (Q.iS ud22 sz35 rfl rfl zo) bqp rfl (WX.store sz35 rfl rfl (j := 0) rfl (sto_ck (hraw _).1 zo) (vF_lay (x := movD f m k k) zo) (hs' := _ :: _) rfl (WX.nil (End.KB (End.K ?_))))))))))))))))))))))))
   refine W.sub (zc 0 rfl (zc 14 rfl (zc 17 rfl zzn))) (W.reg (zm rfl (zq (Q.bin rfl (zi 1) rfl (bv_sub (wns zo))) (za rfl (WO.nil (End.KL (W.sub zv (W.sH (by rw [upd_sw, movD_step ⟨by omega, by omega⟩]; exact SubH.refl _) (ih3 (k - 1) ?_ ?_)))))))))
   ·exact ⟨by omega, by omega⟩
   exact zo
  refine W.exit (End.Kx (End.Lx (End.Bh (End.K (W.ret ?_)))))
  refine End.Kr (End.ret ResL.nil (hs' := [⟨B, ⟨2, ex, cE (vF raw (movD f m k) N)⟩, true⟩]) ⟨_, rfl, (show m + 1 = b by omega) ▸ ⟨movD_perm zy zy, movD_srt h1 ⟨by omega, by omega⟩ (fun x q1 q2 => i4 x q1 zy) (fun x q1 q2 => (hto _ _).resolve_right (i5 x zy q2))⟩⟩ (ww no_wl) (SubH.of_sublist (List.Sublist.cons_cons _ (List.nil_sublist _))))
 refine zw (zr (zm rfl (zm rfl (zq (Q.bin rfl rfl rfl zp) (zq (Q.convI ud3 ud121 rfl (wru64 zo)) (zq (Q.bin rfl (oc (v := .int .u64 ((1 : Nat) : Int)) rfl) rfl bv_shr1) (zq (Q.convI ud121 ud3 rfl (wr64 zo)) (za rfl (zk (W.sub (zc 18 rfl (zc 0 rfl (zc 1 rfl (zc 2 rfl (zc 3 rfl (zc 4 rfl zzn)))))) (zr (zm rfl (zm rfl (zq (Q.bin rfl rfl rfl zp) (za rfl (zk (zr (za (zi 0) (za (zi 0) (zk (W.seqJ2 (fun (s0 : Nat) (r0 : Nat) => [(0, .slice B 0 N 2), (1, .int .i64 ((a : Nat) : Int)), (2, .int .i64 ((m : Nat) : Int)), (3, .int .i64 ((b : Nat) : Int)), (4, .func F caps), (18, .int .i64 (((a + b) / 2 : Nat) : Int)), (19, .int .i64 (((a + b) / 2 + m : Nat) : Int)), (20, .int .i64 ((s0 : Nat) : Int)), (21, .int .i64 ((r0 : Nat) : Int))]) (fun (s0 : Nat) (r0 : Nat) => (⟨B, ⟨2, ex, cE (vF raw (f) N)⟩, true⟩ :: hs)) (fun (s0 : Nat) (r0 : Nat) => ((a + b) / 2 < m ∧ s0 = (a + b) / 2 + m - b ∧ r0 = (a + b) / 2) ∨ (m ≤ (a + b) / 2 ∧ s0 = a ∧ r0 = m)) (fun s0 r0 hI32 => ?_) (fun hJ32 => ?_))))))))))))))))))))))
 ·have hI := hI32
  refine zr (zm rfl (zq (Q.bin rfl (zi 1) rfl (bv_sub (wns zo))) (za rfl (zk (W.seq (W.block (W.loop_ind2 (fun (i : Nat) (j : Nat) => [(0, .slice B 0 N 2), (1, .int .i64 ((a : Nat) : Int)), (2, .int .i64 ((m : Nat) : Int)), (3, .int .i64 ((b : Nat) : Int)), (4, .func F caps), (18, .int .i64 (((a + b) / 2 : Nat) : Int)), (19, .int .i64 (((a + b) / 2 + m : Nat) : Int)), (20, .int .i64 ((i : Nat) : Int)), (21, .int .i64 ((j : Nat) : Int)), (22, .int .i64 (((a + b) / 2 + m - 1 : Nat) : Int))]) (fun (i : Nat) (j : Nat) => (⟨B, ⟨2, ex, cE (vF raw (f) N)⟩, true⟩ :: hs)) (fun (i : Nat) (j : Nat) => s0 ≤ i ∧ i ≤ j ∧ j ≤ r0 ∧ (∀ x, s0 ≤ x → x < i → le (f x) (f ((a + b) / 2 + m - 1 - x))) ∧ (∀ x, j ≤ x → x < r0 → ¬ le (f x) (f ((a + b) / 2 + m - 1 - x)))) (fun (i : Nat) (j : Nat) => j - i) (s0) (r0) ⟨by omega, by omega, by omega, fun x q1 q2 => by omega, fun x q1 q2 => by omega⟩ zv (SubH.refl _) (fun i j hI4 ih4 => ?_))))))))
  obtain ⟨i1, i2, i3, i4, i5⟩ := hI4
  refine W.seq (zr (zm rfl (zm rfl (zq (Q.bin rfl rfl rfl (bvl ltn)) (zk (W.cD rfl (fun hc151 => ?_) (fun hc151 => ?_)))))))
  ·have hT := hX ((i + j) / 2) ((a + b) / 2 + m - 1 - (i + j) / 2) zy zy zy zy
   refine zw (W.block (zr (zm rfl (zm rfl (zq (Q.bin rfl rfl rfl zp) (zq (Q.convI ud3 ud121 rfl (wru64 zo)) (zq (Q.bin rfl (oc (v := .int .u64 ((1 : Nat) : Int)) rfl) rfl bv_shr1) (zq (Q.convI ud121 ud3 rfl (wr64 zo)) (za rfl (zk (W.seq (W.regT (by kernel_rfl) (zm rfl (zm rfl (zm rfl (zm rfl (zq (Q.bin rfl rfl rfl (bv_sub (wns zo))) (zq (Q.iS ud22 sz35 rfl rfl zo) (zq (Q.loadN rfl (zt 0 rfl) ag35 sz35 (vF_at zo)) (zm rfl (zm rfl (zq (Q.iS ud22 sz35 rfl rfl zo) (zq (Q.loadN rfl (zt 0 rfl) ag35 sz35 (vF_at zo)) ?_)))))))))))))))))))))))
   refine WO.cV rfl (oLc rfl (oLc rfl oz)) rfl (hC _ _) (SubR.t (SubR.s hro)) rfl (zq (Q.bin rfl (zi 0) rfl (bvl (ltA_eq _ _))) (zq (Q.not rfl not_dec) (zk (W.sub (zc 171 rfl (zc 23 rfl (zc 0 rfl (zc 1 rfl (zc 2 rfl (zc 3 rfl (zc 4 rfl (zc 18 rfl (zc 19 rfl (zc 20 rfl (zc 21 rfl (zc 22 rfl zzn)))))))))))) (W.cD rfl (fun hc171 => ?_) (fun hc171 => ?_))))))
   ·refine W.reg (zm rfl (zq (Q.bin rfl (zi 1) rfl zp) (za rfl (WO.nil (End.KB (End.KL (W.sub zv (W.sH (SubH.refl _) (ih4 ((i + j) / 2 + 1) (j) ?_ ?_)))))))))
    ·exact ⟨by omega, by omega, i3, fun x q1 q2 => htr _ _ _ (h1.le' hrf zy (show x ≤ (i + j) / 2 by omega) zy) (htr _ _ _ (Classical.not_not.1 fun q => hc171 (by simpa using hT.2 q)) (h2.le' hrf zy zy zy)), i5⟩
    exact zo
   refine W.reg (zm rfl (za rfl (WO.nil (End.KB (End.KL (W.sub zv (W.sH (SubH.refl _) (ih4 (i) ((i + j) / 2) ?_ ?_))))))))
   ·exact ⟨i1, by omega, by omega, i4, fun x q1 q2 hx => (hT.1 (by simpa using hc171)) (htr _ _ _ (h1.le' hrf zy q1 zy) (htr _ _ _ hx (h2.le' hrf zy zy zy)))⟩
   exact zo
  have kC : Cut le a m b ((a + b) / 2) i ((a + b) / 2 + m - i) f := ⟨⟨by omega, by omega, by omega, by omega, by omega, by omega⟩, by omega, fun q1 q2 => (by have := i4 (i - 1) zy zy; rwa [show (a + b) / 2 + m - 1 - (i - 1) = (a + b) / 2 + m - i by omega] at this), fun q1 q2 => (hto _ _).resolve_right (by have := i5 i zy zy; rwa [show (a + b) / 2 + m - 1 - i = (a + b) / 2 + m - i - 1 by omega] at this)⟩
  refine W.exit (End.Kx (End.Lx (End.Bh (End.K (zr (zm rfl (zm rfl (zq (Q.bin rfl rfl rfl (bv_sub (wns zo))) (za rfl (zk (W.seqJ1 (fun (st : Nat) => [(0, .slice B 0 N 2), (1, .int .i64 ((a : Nat) : Int)), (3, .int .i64 ((b : Nat) : Int)), (4, .func F caps), (18, .int .i64 (((a + b) / 2 : Nat) : Int)), (20, .int .i64 ((st : Nat) : Int)), (24, .int .i64 ((((a + b) / 2 + m - st) : Nat) : Int))]) (fun (st : Nat) => (⟨B, ⟨2, ex, cE (vF raw (rotF f m (m - st) (((a + b) / 2 + m - st) - m)) N)⟩, true⟩ :: hs)) (fun (st : Nat) => Cut le a m b ((a + b) / 2) st ((a + b) / 2 + m - st) f) (fun st hI41 => ?_) (fun hJ41 => ?_))))))))))))
  ·have kC := hI41
   obtain ⟨b1, b2, b3, b4, b5, b6⟩ := kC.bd
   obtain ⟨k1, k2, k3, k4, k5⟩ := cut_rot htr hrf h1 h2 kC
   obtain ⟨k6, k7⟩ := cut_cross kC hX
   have kR : PermOn a b f (rotF f m (m - st) (((a + b) / 2 + m - st) - m)) := (rotF_perm (f := f) (m := m) (i := m - st) (j := ((a + b) / 2 + m - st) - m) zy).mono zy zy
   refine W.seqJ1 (fun (g : Nat → α) => [(0, .slice B 0 N 2), (3, .int .i64 ((b : Nat) : Int)), (4, .func F caps), (18, .int .i64 (((a + b) / 2 : Nat) : Int)), (24, .int .i64 ((((a + b) / 2 + m - st) : Nat) : Int))]) (fun (g : Nat → α) => (⟨B, ⟨2, ex, cE (vF raw (g) N)⟩, true⟩ :: hs)) (fun (g : Nat → α) => PermOn a ((a + b) / 2) (rotF f m (m - st) (((a + b) / 2 + m - st) - m)) g ∧ SrtOn le a ((a + b) / 2) g) (fun g hI43 => ?_) (fun hJ43 => ?_)
   ·obtain ⟨pg, sg⟩ := hI43
    replace k3 := k3.congr (g := g) fun x q1 q2 => pg.out zy
    replace k4 := k4.congr (g := g) fun x q1 q2 => pg.out zy
    replace k7 := k7.congr (g := g) fun x q1 q2 => pg.out zy
    refine zr (zm rfl (zm rfl (zq (Q.bin rfl rfl rfl (bvl ltn)) (zm rfl (WO.sD (d := 209) rfl (fun hc209 => ?_) (fun hc209 => ?_))))))
    ·refine WO.gT rfl rfl (zm rfl (WO.gT rfl rfl (zm rfl (WO.gT rfl rfl (zq (Q.bin rfl rfl rfl (bvl ltn)) (zq (Q.pT rfl rfl) (zk (W.cD rfl (fun hc213 => ?_) (fun hc213 => ?_)))))))))
     ·refine W.reg (zm rfl (zm rfl (zm rfl (zm rfl (zm rfl (WO.call1 rfl (oLc rfl (oLc rfl (oLc rfl (oLc rfl (oLc rfl oz))))) rfl (i := 0) rfl (ih g ((a + b) / 2) ((a + b) / 2 + m - st) b zy zy zy zy k3 k4 k7) (SubR.s hro) (hs' := _) rfl rfl (fun v219 D219 hP219 => ?_)))))))
      obtain ⟨g2, rfl, pg2, sg2⟩ := hP219
      refine WO.nil ?_
      refine End.fall ResL.nil (hs' := [⟨B, ⟨2, ex, cE (vF raw (g2) N)⟩, true⟩]) ⟨g2, rfl, kR.trans ((pg.mono (Nat.le_refl _) zy).trans (pg2.mono zy (Nat.le_refl _))), cut_done ⟨by omega, by omega⟩ k5 pg sg pg2 sg2⟩ (ww no_wl) (SubH.of_sublist (List.Sublist.cons_cons _ (List.nil_sublist _)))
     refine W.skip ?_
     refine End.fall ResL.nil (hs' := [⟨B, ⟨2, ex, cE (vF raw (g) N)⟩, true⟩]) ⟨g, rfl, kR.trans (pg.mono (Nat.le_refl _) zy), cut_done ⟨by omega, by omega⟩ k5 pg sg (PermOn.refl _ _ _) (k3.mono (Nat.le_refl _) zy)⟩ (ww no_wl) (SubH.of_sublist (List.Sublist.cons_cons _ (List.nil_sublist _)))
    refine zg rfl rfl (zg rfl rfl (zg rfl rfl (zq (Q.pF rfl rfl) (zk (W.condF rfl (W.skip ?_))))))
    refine End.fall ResL.nil (hs' := [⟨B, ⟨2, ex, cE (vF raw (g) N)⟩, true⟩]) ⟨g, rfl, kR.trans (pg.mono (Nat.le_refl _) zy), cut_done ⟨by omega, by omega⟩ k5 pg sg (PermOn.refl _ _ _) (k4.mono zy (Nat.le_refl _))⟩ (ww no_wl) (SubH.of_sublist (List.Sublist.cons_cons _ (List.nil_sublist _)))
   refine zr (zm rfl (zm rfl (zq (Q.bin rfl rfl rfl (bvl ltn)) (zm rfl (WO.sD (d := 195) rfl (fun hc195 => ?_) (fun hc195 => ?_))))))
   ·refine WO.gT rfl rfl (zm rfl (WO.gT rfl rfl (zm rfl (WO.gT rfl rfl (zq (Q.bin rfl rfl rfl (bvl ltn)) (zq (Q.pT rfl rfl) (zk (W.cD rfl (fun hc199 => ?_) (fun hc199 => ?_)))))))))
    ·refine W.reg (zm rfl (zm rfl (zm rfl (zm rfl (zm rfl (WO.call1 rfl (oLc rfl (oLc rfl (oLc rfl (oLc rfl (oLc rfl oz))))) rfl (i := 0) rfl (ih (rotF f m (m - st) (((a + b) / 2 + m - st) - m)) a st ((a + b) / 2) zy zy zy zy k1 k2 k6) (SubR.s hro) (hs' := _) rfl rfl (fun v205 D205 hP205 => ?_)))))))
     obtain ⟨g1, rfl, pg1, sg1⟩ := hP205
     refine WO.nil (End.K (W.sub zv (W.sH (SubH.refl _) (hJ43 (g1) ?_))))
     exact ⟨pg1, sg1⟩
    refine W.skip (End.K (W.sub zv (W.sH (SubH.refl _) (hJ43 (rotF f m (m - st) (((a + b) / 2 + m - st) - m)) ?_))))
    exact ⟨PermOn.refl _ _ _, k1.mono (Nat.le_refl _) zy⟩
   refine zg rfl rfl (zg rfl rfl (zg rfl rfl (zq (Q.pF rfl rfl) (zk (W.condF rfl (W.skip (End.K (W.sub zv (W.sH (SubH.refl _) (hJ43 (rotF f m (m - st) (((a + b) / 2 + m - st) - m)) ?_))))))))))
   exact ⟨PermOn.refl _ _ _, k2.mono zy (Nat.le_refl _)⟩
  refine zr (zm rfl (zm rfl (zq (Q.bin rfl rfl rfl (bvl ltn)) (zm rfl (WO.sD (d := 181) rfl (fun hc181 => ?_) (fun hc181 => ?_))))))
  ·refine WO.gT rfl rfl (zm rfl (WO.gT rfl rfl (zm rfl (WO.gT rfl rfl (zq (Q.bin rfl rfl rfl (bvl ltn)) (zq (Q.pT rfl rfl) (zk (W.sub (zc 185 rfl (zc 24 rfl (zc 0 rfl (zc 1 rfl (zc 2 rfl (zc 3 rfl (zc 4 rfl (zc 18 rfl (zc 20 rfl zzn))))))))) (W.cD rfl (fun hc185 => ?_) (fun hc185 => ?_))))))))))
   ·refine W.reg (zm rfl (zm rfl (zm rfl (zm rfl (zm rfl (WO.call1 rfl (oLc rfl (oLc rfl (oLc rfl (oLc rfl (oLc rfl oz))))) rfl (i := 0) rfl (rot_spec raw hraw B N ex hN f i m ((a + b) / 2 + m - i) F caps zy zy zy) SubR.nil (hs' := _) rfl rfl (fun v191 D191 hP191 => ?_)))))))
    obtain rfl := hP191
    refine WO.nil (End.K (W.sub zv (W.sH (SubH.refl _) (hJ41 (i) ?_))))
    exact kC
   refine W.skip (End.K (W.sub zv (W.sH (by rw [show ((a + b) / 2 + m - i) - m = 0 by omega, rotF_r0 zy]; exact SubH.refl _) (hJ41 (i) ?_))))
   exact kC
  refine zg rfl rfl (zg rfl rfl (zg rfl rfl (zq (Q.pF rfl rfl) (zk (W.sub (zc 185 rfl (zc 24 rfl (zc 0 rfl (zc 1 rfl (zc 2 rfl (zc 3 rfl (zc 4 rfl (zc 18 rfl (zc 20 rfl zzn))))))))) (W.condF rfl (W.skip (End.K (W.sub zv (W.sH (by rw [show m - i = 0 by omega, rotF_l0]; exact SubH.refl _) (hJ41 (i) ?_)))))))))))
  exact kC
 refine zr (zm rfl (zm rfl (zq (Q.bin rfl rfl rfl (bv_gtr ltn)) (zk (W.cD rfl (fun hc140 => ?_) (fun hc140 => ?_))))))
 ·refine zr (zm rfl (zm rfl (zq (Q.bin rfl rfl rfl (bv_sub (wns zo))) (za rfl (zk (W.reg (zm rfl (za rfl (WO.nil (End.K (W.sub zv (W.sH (SubH.refl _) (hJ32 ((a + b) / 2 + m - b) ((a + b) / 2) ?_)))))))))))))
  exact (by first | (left; omega) | (right; omega))
 refine zr (zm rfl (za rfl (zk (W.reg (zm rfl (za rfl (WO.nil (End.K (W.sub zv (W.sH (SubH.refl _) (hJ32 (a) (m) ?_)))))))))))
 exact (by first | (left; omega) | (right; omega))
theorem sym_spec {α : Type} (raw : α → El) (hraw : ∀ x, (raw x).1.isCell = true ∧ (raw x).1.beq (raw x).1 = true ∧ beq0 (raw x).1 (raw x).1 = true) (B N : Nat) (ex : Bool) (hN : N ≤ 1048576) (c : α → α → Int) (F : Nat) (caps : List AV) (hs : HSt) (hro : ∀ e ∈ hs, e.w = false) (hC : ∀ x y : α, Spec tab F ([.agg [(raw x).1, .int .i64 (raw x).2.2], .agg [(raw y).1, .int .i64 (raw y).2.2]] ++ caps) [] hs (Val (.int .i64 (c x y)))) (le : α → α → Prop) (htr : ∀ x y z, le x y → le y z → le x z) (hrf : ∀ x, le x x) (hto : ∀ x y, le x y ∨ le y x) : ∀ (K : Nat) (f : Nat → α) (a m b : Nat) (hK : b - a ≤ K) (ham : a < m) (hmb : m < b) (hb : b ≤ N) (h1 : SrtOn le a m f) (h2 : SrtOn le m b f) (hX : Cross le c a m b f), Spec tab 148 [.slice B 0 N 2, .int .i64 ((a : Nat) : Int), .int .i64 ((m : Nat) : Int), .int .i64 ((b : Nat) : Int), .func F caps] [B] ((⟨B, ⟨2, ex, cE (vF raw (f) N)⟩, true⟩ :: hs)) (fun v D => ∃ g, D = [⟨B, ⟨2, ex, cE (vF raw (g) N)⟩, true⟩] ∧ PermOn a b f g ∧ SrtOn le a b g) := by
 intro K
 induction K with
 | zero => intro f a m b hK ham hmb; omega
 | succ K ihK =>
  intro f a m b hK ham hmb hb h1 h2 hX
  exact sym_step raw hraw B N ex hN c F caps hs hro hC le htr hrf hto f a m b ham hmb hb h1 h2 hX fun f' a' m' b' q0 q1 q2 q3 q4 q5 q6 => ihK f' a' m' b' zy q1 q2 q3 q4 q5 q6
end Go.Proofs.YtmblgaehfjheeaaGreat.Ev
