/- The standard library's sort of groups, walks: patterns broken, the pivot. -/
import Derived.Test.YtmblgaehfjheeaaGreatGQb
namespace Go.Proofs.YtmblgaehfjheeaaGreat.Ev
open Go.RowKit
set_option linter.unusedVariables false
set_option linter.unusedSimpArgs false
set_option maxRecDepth 100000
set_option maxHeartbeats 1000000
def lenT : List Nat := [0, 1, 2, 2, 3, 3, 3, 3, 4, 4, 4, 4, 4, 4, 4, 4, 5, 5, 5, 5, 5, 5, 5, 5, 5, 5, 5, 5, 5, 5, 5, 5, 6, 6, 6, 6, 6, 6, 6, 6, 6, 6, 6, 6, 6, 6, 6, 6, 6, 6, 6, 6, 6, 6, 6, 6, 6, 6, 6, 6, 6, 6, 6, 6, 7, 7, 7, 7, 7, 7, 7, 7, 7, 7, 7, 7, 7, 7, 7, 7, 7, 7, 7, 7, 7, 7, 7, 7, 7, 7, 7, 7, 7, 7, 7, 7, 7, 7, 7, 7, 7, 7, 7, 7, 7, 7, 7, 7, 7, 7, 7, 7, 7, 7, 7, 7, 7, 7, 7, 7, 7, 7, 7, 7, 7, 7, 7, 7, 8, 8, 8, 8, 8, 8, 8, 8, 8, 8, 8, 8, 8, 8, 8, 8, 8, 8, 8, 8, 8, 8, 8, 8, 8, 8, 8, 8, 8, 8, 8, 8, 8, 8, 8, 8, 8, 8, 8, 8, 8, 8, 8, 8, 8, 8, 8, 8, 8, 8, 8, 8, 8, 8, 8, 8, 8, 8, 8, 8, 8, 8, 8, 8, 8, 8, 8, 8, 8, 8, 8, 8, 8, 8, 8, 8, 8, 8, 8, 8, 8, 8, 8, 8, 8, 8, 8, 8, 8, 8, 8, 8, 8, 8, 8, 8, 8, 8, 8, 8, 8, 8, 8, 8, 8, 8, 8, 8, 8, 8, 8, 8, 8, 8, 8, 8, 8, 8, 8, 8, 8, 8, 8, 8, 8, 8, 8, 8]
theorem len_all : ∀ n : Fin 256, lenT.getD n.val 0 ≤ 8 ∧ (1 ≤ n.val → 2 ^ lenT.getD n.val 0 ≤ 2 * n.val) := by decide +kernel
theorem len_tab {n c : Nat} (h1 : 1 ≤ n) (hn : n < 256) (hd : c = lenT.getD n 0) : c ≤ 8 ∧ 2 ^ c ≤ 2 * n := by
 have h := len_all ⟨n, hn⟩
 rw [← hd] at h
 exact ⟨h.1, h.2 h1⟩
theorem len_one {c : Nat} (hd : c = lenT.getD 1 0) : c = 1 := hd.trans (by decide)
theorem len_256 {c : Nat} (h : c = 1) : 2 ^ (0 + 8 + c) ≤ 2 * 256 := by subst h; decide
theorem bv_shl2 {tb : Tab} {t : Nat} {r : Nat} (h : r ≤ 9) : evBin tb .shl t (.int .u64 ((1 : Nat) : Int)) (.int .i64 ((r : Nat) : Int)) = some (.int .u64 ((2 ^ r : Nat) : Int)) := by
 have : ∀ r : Fin 10, wrapA .u64 (((1 : Nat) : Int) * 2 ^ (min (((r.val : Nat) : Int)).toNat (IntKind.bits .u64))) = ((2 ^ r.val : Nat) : Int) := by decide
 have h1 := this ⟨r, by omega⟩
 have e : ltA ((r : Nat) : Int) 0 = false := rfl
 unfold evBin shiftA
 simp only [e]
 exact congrArg (fun x => some (AV.int .u64 x)) h1
theorem and_u64 {tb : Tab} {t : Nat} (x y : Int) (h : 0 ≤ y ∧ y < 18446744073709551616) : ∃ o : Nat, evBin tb .and t (.int .u64 x) (.int .u64 y) = some (.int .u64 ((o : Nat) : Int)) ∧ ((o : Nat) : Int) ≤ y := by
 obtain ⟨o, ho⟩ : ∃ o, o = (BitVec.ofInt 64 x &&& BitVec.ofInt 64 y).toNat := ⟨_, rfl⟩
 have hl : o ≤ (BitVec.ofInt 64 y).toNat := by rw [ho, BitVec.toNat_and]; exact Nat.and_le_right
 have hy : (((BitVec.ofInt 64 y).toNat : Nat) : Int) = y := by
  rw [BitVec.toNat_ofInt]
  have e : ((2 ^ 64 : Nat) : Int) = 18446744073709551616 := by decide
  rw [e, Int.emod_eq_of_lt h.1 h.2]
  exact Int.toNat_of_nonneg h.1
 have ho2 : ((o : Nat) : Int) ≤ y := by omega
 refine ⟨o, ?_, ho2⟩
 show (if IntKind.u64 = IntKind.u64 then intBin .and .u64 x y else none) = _
 rw [if_pos rfl]
 show some (AV.int .u64 (wrapA .u64 (((BitVec.ofInt 64 x &&& BitVec.ofInt 64 y).toNat : Nat) : Int))) = _
 rw [← ho, wrapA_eq, wru64 zy]
theorem hro_b {hs : HSt} {b : Nat} {o : AObj} (hro : ∀ e ∈ hs, e.w = false) : ∀ e ∈ (⟨b, o, false⟩ :: hs : HSt), e.w = false := by
 intro e he
 rcases List.mem_cons.1 he with rfl | he
 ·rfl
 ·exact hro e he
theorem SubR.refl {hs : HSt} (hro : ∀ e ∈ hs, e.w = false) : SubR hs hs := ⟨fun e he => ⟨hro e he, e.w, by obtain ⟨b, o, w⟩ := e; exact he⟩, fun hn => hn⟩
theorem ag172 : tab.isAgg 172 = some false := by kernel_rfl
theorem ao172 : AO tab 172 = some ⟨1, true, [.int .u64 0]⟩ := by kernel_rfl
theorem ao3 : AO tab 3 = some ⟨1, true, [.int .i64 0]⟩ := by kernel_rfl
theorem sz172 : tab.size 172 = some 1 := by kernel_rfl
theorem ud172 : tab.und 172 = some (.int .u64) := by kernel_rfl
theorem len64_pow (n : Nat) (h1 : 1 ≤ n) (hn : n ≤ 256) : Spec tab 140 [.int .u64 (n : Nat)] [] [] (ValE (fun u => ∃ r : Nat, r ≤ 9 ∧ 2 ^ r ≤ 2 * n ∧ u = .int .i64 (r : Nat))) := by
 refine Spec.en (ftg 140 Tryz.func140) rfl (m := 25) rfl (rs := [.tmp 2]) rfl (st := [(0, .int .u64 (n : Nat))]) rfl rfl (fun _ => rfl) (fun E => zr (za (zi 0) (zk (W.seq (zr (zm rfl (zq (Q.bin rfl (oc (v := .int .u64 ((4294967296 : Nat) : Int)) rfl) rfl (bv_geq le_nat)) (zk (W.cD rfl (fun hc4 => ?_) (fun hc4 => ?_))))))))))
 ·exfalso; omega
 refine zw (W.seq (zr (zm rfl (zq (Q.bin rfl (oc (v := .int .u64 ((65536 : Nat) : Int)) rfl) rfl (bv_geq le_nat)) (zk (W.cD rfl (fun hc8 => ?_) (fun hc8 => ?_)))))))
 ·exfalso; omega
 refine zw (W.seq (zr (zm rfl (zq (Q.bin rfl (oc (v := .int .u64 ((256 : Nat) : Int)) rfl) rfl (bv_geq le_nat)) (zk (W.cD rfl (fun hc14 => ?_) (fun hc14 => ?_)))))))
 ·obtain rfl : n = 256 := zy
  refine zr (zm rfl (zq (Q.bin rfl (oc (v := .int .u64 ((8 : Nat) : Int)) rfl) rfl (show _ = some (AV.int .u64 ((1 : Nat) : Int)) from by rfl)) (za rfl (zk (W.reg (zm rfl (zq (Q.bin rfl (zi 8) rfl zp) (za rfl (zk (zr (zm rfl (zm rfl (zq (Q.convI ud139 ud5 rfl (wr8 zo)) (WO.indexB (by unfold Bytes; decide) ud9 (oc (v := .str [0, 1, 2, 2, 3, 3, 3, 3, 4, 4, 4, 4, 4, 4, 4, 4, 5, 5, 5, 5, 5, 5, 5, 5, 5, 5, 5, 5, 5, 5, 5, 5, 6, 6, 6, 6, 6, 6, 6, 6, 6, 6, 6, 6, 6, 6, 6, 6, 6, 6, 6, 6, 6, 6, 6, 6, 6, 6, 6, 6, 6, 6, 6, 6, 7, 7, 7, 7, 7, 7, 7, 7, 7, 7, 7, 7, 7, 7, 7, 7, 7, 7, 7, 7, 7, 7, 7, 7, 7, 7, 7, 7, 7, 7, 7, 7, 7, 7, 7, 7, 7, 7, 7, 7, 7, 7, 7, 7, 7, 7, 7, 7, 7, 7, 7, 7, 7, 7, 7, 7, 7, 7, 7, 7, 7, 7, 7, 7, 8, 8, 8, 8, 8, 8, 8, 8, 8, 8, 8, 8, 8, 8, 8, 8, 8, 8, 8, 8, 8, 8, 8, 8, 8, 8, 8, 8, 8, 8, 8, 8, 8, 8, 8, 8, 8, 8, 8, 8, 8, 8, 8, 8, 8, 8, 8, 8, 8, 8, 8, 8, 8, 8, 8, 8, 8, 8, 8, 8, 8, 8, 8, 8, 8, 8, 8, 8, 8, 8, 8, 8, 8, 8, 8, 8, 8, 8, 8, 8, 8, 8, 8, 8, 8, 8, 8, 8, 8, 8, 8, 8, 8, 8, 8, 8, 8, 8, 8, 8, 8, 8, 8, 8, 8, 8, 8, 8, 8, 8, 8, 8, 8, 8, 8, 8, 8, 8, 8, 8, 8, 8, 8, 8, 8, 8, 8, 8]) (by kernel_rfl)) rfl zo rfl (fun c22 hd22 hb22 => zq (Q.convI ud5 ud3 rfl (wr64 zo)) (zq (Q.bin rfl rfl rfl zp) (za rfl (zk (W.sub (zc 2 rfl zzn) (W.ret (End.retE (z1 rfl) ?_)))))))))))))))))))))
  have e1 := len_one hd22
  exact ⟨_, by omega, len_256 e1, rfl⟩
 refine zw (zr (zm rfl (zm rfl (zq (Q.convI ud139 ud5 rfl (wr8 zo)) (WO.indexB (by unfold Bytes; decide) ud9 (oc (v := .str [0, 1, 2, 2, 3, 3, 3, 3, 4, 4, 4, 4, 4, 4, 4, 4, 5, 5, 5, 5, 5, 5, 5, 5, 5, 5, 5, 5, 5, 5, 5, 5, 6, 6, 6, 6, 6, 6, 6, 6, 6, 6, 6, 6, 6, 6, 6, 6, 6, 6, 6, 6, 6, 6, 6, 6, 6, 6, 6, 6, 6, 6, 6, 6, 7, 7, 7, 7, 7, 7, 7, 7, 7, 7, 7, 7, 7, 7, 7, 7, 7, 7, 7, 7, 7, 7, 7, 7, 7, 7, 7, 7, 7, 7, 7, 7, 7, 7, 7, 7, 7, 7, 7, 7, 7, 7, 7, 7, 7, 7, 7, 7, 7, 7, 7, 7, 7, 7, 7, 7, 7, 7, 7, 7, 7, 7, 7, 7, 8, 8, 8, 8, 8, 8, 8, 8, 8, 8, 8, 8, 8, 8, 8, 8, 8, 8, 8, 8, 8, 8, 8, 8, 8, 8, 8, 8, 8, 8, 8, 8, 8, 8, 8, 8, 8, 8, 8, 8, 8, 8, 8, 8, 8, 8, 8, 8, 8, 8, 8, 8, 8, 8, 8, 8, 8, 8, 8, 8, 8, 8, 8, 8, 8, 8, 8, 8, 8, 8, 8, 8, 8, 8, 8, 8, 8, 8, 8, 8, 8, 8, 8, 8, 8, 8, 8, 8, 8, 8, 8, 8, 8, 8, 8, 8, 8, 8, 8, 8, 8, 8, 8, 8, 8, 8, 8, 8, 8, 8, 8, 8, 8, 8, 8, 8, 8, 8, 8, 8, 8, 8, 8, 8, 8, 8, 8, 8]) (by kernel_rfl)) rfl zo rfl (fun c22 hd22 hb22 => zq (Q.convI ud5 ud3 rfl (wr64 zo)) (zq (Q.bin rfl rfl rfl zp) (za rfl (zk (W.ret (End.retE (z1 rfl) ?_)))))))))))
 obtain ⟨q1, q2⟩ := len_tab h1 zy hd22
 exact ⟨_, by omega, by rw [Nat.zero_add]; exact q2, rfl⟩

theorem lenb_pow (n : Nat) (h1 : 1 ≤ n) (hn : n ≤ 256) : Spec tab 100 [.int .u64 (n : Nat)] [] [] (ValE (fun u => ∃ r : Nat, r ≤ 9 ∧ 2 ^ r ≤ 2 * n ∧ u = .int .i64 (r : Nat))) := by
 refine Spec.en (ftg 100 Tryz.func100) rfl (m := 8) rfl (rs := [.tmp 2]) rfl (st := [(0, .int .u64 (n : Nat))]) rfl rfl (fun _ => rfl) (fun E => zr (za (zi 0) (zk (W.seq (W.condF rfl (zw (zr (zm rfl (WO.callE rfl (oLc rfl oz) rfl (len64_pow n h1 hn) SubR.nil rfl (fun v7 hP7 => ?_))))))))))
 obtain ⟨r, hr9, hr, rfl⟩ := hP7
 refine za rfl (zk (W.ret (End.retE (z1 rfl) ?_)))
 exact ⟨r, hr9, hr, rfl⟩

theorem npt_spec (n : Nat) (h1 : 1 ≤ n) (hn : n ≤ 256) : Spec tab 153 [.int .i64 (n : Nat)] [] [] (ValE (fun u => ∃ m : Nat, 1 ≤ m ∧ m ≤ 2 * n ∧ u = .int .u64 (m : Nat))) := by
 refine Spec.en (ftg 153 Tryz.func153) rfl (m := 7) rfl (rs := [.tmp 2]) rfl (st := [(0, .int .i64 (n : Nat))]) rfl rfl (fun _ => rfl) (fun E => zr (zq (Q.assign (oc (v := .int .u64 ((0 : Nat) : Int)) rfl)) (zk (zr (zm rfl (zq (Q.convI ud3 ud121 rfl (wru64 zo)) (WO.callE rfl (oLc rfl oz) rfl (lenb_pow n h1 hn) SubR.nil rfl (fun v5 hP5 => ?_))))))))
 obtain ⟨r, hr9, hr, rfl⟩ := hP5
 refine zq (Q.bin (oc (v := .int .u64 ((1 : Nat) : Int)) rfl) rfl rfl (bv_shl2 hr9)) (za rfl (zk (W.ret (End.retE (z1 rfl) ?_))))
 exact ⟨2 ^ r, Nat.one_le_two_pow, hr, rfl⟩

theorem nxt_spec (R : Nat) (x : Int) : Spec tab 154 [.ptr R 0] [R] [⟨R, ⟨1, true, [.int .u64 x]⟩, true⟩] (fun v D => ∃ y : Int, v = .int .u64 y ∧ D = [⟨R, ⟨1, true, [.int .u64 y]⟩, true⟩]) := by
 refine Spec.en (ftg 154 Tryz.func154) rfl (m := 33) rfl (rs := [.tmp 2]) rfl (st := [(0, .ptr R 0)]) rfl rfl (fun _ => rfl) (fun E => zr (zq (Q.assign (oc (v := .int .u64 ((0 : Nat) : Int)) rfl)) (zk (W.seq (W.regT (by kernel_rfl) (zm rfl (zq (Q.nilP rfl) (zq (Q.l1 rfl (zt 0 rfl) ag172 rfl) (zm rfl (zq (Q.nilP rfl) (zq (Q.l1 rfl (zt 0 rfl) ag172 rfl) (zq (Q.bin rfl (oc (v := .int .u64 ((13 : Nat) : Int)) rfl) rfl (show _ = some (AV.int .u64 _) from rfl)) (zq (Q.bin rfl rfl rfl (show _ = some (AV.int .u64 _) from rfl)) (zq (Q.nilP rfl) (WO.store sz172 rfl rfl (i := 0) rfl rfl (cs := [_]) rfl (hs' := [_]) rfl (zk (W.seq (W.regT (by kernel_rfl) (zm rfl (zq (Q.nilP rfl) (zq (Q.l1 rfl (zt 0 rfl) ag172 rfl) (zm rfl (zq (Q.nilP rfl) ?_)))))))))))))))))))))))
 refine zq (Q.l1 rfl (zt 0 rfl) ag172 rfl) (zq (Q.bin rfl (oc (v := .int .u64 ((7 : Nat) : Int)) rfl) rfl (show _ = some (AV.int .u64 _) from rfl)) (zq (Q.bin rfl rfl rfl (show _ = some (AV.int .u64 _) from rfl)) (zq (Q.nilP rfl) (WO.store sz172 rfl rfl (i := 0) rfl rfl (cs := [_]) rfl (hs' := [_]) rfl (zk (W.sub (zc 0 rfl zzn) (W.seq (W.regT (by kernel_rfl) (zm rfl (zq (Q.nilP rfl) (zq (Q.l1 rfl (zt 0 rfl) ag172 rfl) (zm rfl (zq (Q.nilP rfl) (zq (Q.l1 rfl (zt 0 rfl) ag172 rfl) (zq (Q.bin rfl (oc (v := .int .u64 ((17 : Nat) : Int)) rfl) rfl (show _ = some (AV.int .u64 _) from rfl)) (zq (Q.bin rfl rfl rfl (show _ = some (AV.int .u64 _) from rfl)) (zq (Q.nilP rfl) (WO.store sz172 rfl rfl (i := 0) rfl rfl (cs := [_]) rfl (hs' := [_]) rfl (zk (zr (zm rfl (zq (Q.nilP rfl) (zq (Q.l1 rfl (zt 0 rfl) ag172 rfl) ?_)))))))))))))))))))))))
 refine za rfl (zk (W.ret ?_))
 refine End.ret (z1 rfl) (hs' := [⟨R, ⟨1, true, [.int .u64 _]⟩, true⟩]) ⟨_, rfl, rfl⟩ (ww no_wl) (SubH.refl _)

theorem gbrk_spec (G : List Ge) (B : Nat) (ex : Bool) (hN : G.length ≤ 256) (c : Ge → Ge → Int) (F : Nat) (caps : List AV) (hs : HSt) (hro : ∀ e ∈ hs, e.w = false) (hQ : ∀ x ∈ G, x.2.isCell = true ∧ x.2.beq x.2 = true) (hC : ∀ x ∈ G, ∀ y ∈ G, Spec tab F ([x.2, y.2] ++ caps) [] hs (Val (.int .i64 (c x y)))) (l : List Ge) (pl : l.Perm G) (a b : Nat) (hab : a ≤ b) (hb : b ≤ G.length) (h13 : a + 13 ≤ b) : Spec tab 133 [.slice B 0 G.length 1, .int .i64 ((a : Nat) : Int), .int .i64 ((b : Nat) : Int), .func F caps] [B] (⟨B, ⟨1, ex, (l).map (·.2)⟩, true⟩ :: hs) (fun v D => ∃ g : List Ge, g.Perm G ∧ D = [⟨B, ⟨1, ex, (g).map (·.2)⟩, true⟩]) := by
 refine Spec.en (ftg 133 Tryz.func133) rfl (m := 67) rfl (rs := []) rfl (st := [(0, .slice B 0 G.length 1), (1, .int .i64 ((a : Nat) : Int)), (2, .int .i64 ((b : Nat) : Int)), (3, .func F caps)]) rfl rfl (fun _ => rfl) (fun E => zr (zm rfl (zm rfl (zq (Q.bin rfl rfl rfl (bv_sub (wns zo))) (za rfl (zk (zr (zm rfl (zq (Q.bin rfl (zi 8) rfl (bv_geq le_nat)) (zk (W.cD rfl (fun hc17 => ?_) (fun hc17 => ?_))))))))))))
 ·refine zr (zm rfl (zq (Q.convI ud3 ud172 rfl (wru64 zo)) (WO.alloc ao172 rfl (fun b1 => WO.store sz172 rfl rfl (i := 0) rfl rfl (cs := [_]) rfl (hs' := _ :: _ :: _) rfl (zk (zr (zm rfl (WO.callE rfl (oLc rfl oz) rfl (npt_spec (b - a) zy zy) SubR.nil rfl (fun v21 hP21 => ?_)))))))))
  obtain ⟨m, hm1, hm2, rfl⟩ := hP21
  refine za rfl (zk (zr (zm rfl (zm rfl (zq (Q.bin rfl (zi 4) rfl (bv_quo (by decide) (qn (by decide) zy))) (zq (Q.bin rfl (zi 2) rfl (bv_mul (wn_mul zo))) (zq (Q.bin rfl rfl rfl zp) (zq (Q.bin rfl (zi 1) rfl (bv_sub (wns zo))) (za rfl (zk (W.sub (zc 11 rfl (zc 10 rfl (zc 9 rfl (zc 8 rfl (zc 0 rfl (zc 1 rfl zzn)))))) (W.block (W.loop_ind3 (fun (i : Nat) (x : Int) (g : List Ge) => [(0, .slice B 0 G.length 1), (1, .int .i64 ((a : Nat) : Int)), (8, .int .i64 ((b - a : Nat) : Int)), (9, .ptr b1 0), (10, .int .u64 (m : Nat)), (11, .int .i64 ((i : Nat) : Int))]) (fun (i : Nat) (x : Int) (g : List Ge) => (⟨b1, ⟨1, true, [.int .u64 x]⟩, true⟩ :: ⟨B, ⟨1, ex, (g).map (·.2)⟩, true⟩ :: hs)) (fun (i : Nat) (x : Int) (g : List Ge) => a + (b - a) / 4 * 2 - 1 ≤ i ∧ i ≤ a + (b - a) / 4 * 2 + 2 ∧ g.Perm G) (fun (i : Nat) (x : Int) (g : List Ge) => a + (b - a) / 4 * 2 + 2 - i) (a + (b - a) / 4 * 2 - 1) (_) (l) ⟨Nat.le_refl _, by omega, pl⟩ zv (SubH.refl _) (fun i x g hI0 ih0 => ?_))))))))))))))
  obtain ⟨h2, h3, pg⟩ := hI0
  refine W.seq (zr (zm rfl (zm rfl (zm rfl (zq (Q.bin rfl (zi 4) rfl (bv_quo (by decide) (qn (by decide) zy))) (zq (Q.bin rfl (zi 2) rfl (bv_mul (wn_mul zo))) (zq (Q.bin rfl rfl rfl zp) (zq (Q.bin rfl (zi 1) rfl zp) (zq (Q.bin rfl rfl rfl (bv_leq le_nat)) (zk (W.cD rfl (fun hc35 => ?_) (fun hc35 => ?_))))))))))))
  ·refine zw (W.seq (W.block (zr (WO.call1 rfl (oLc rfl oz) rfl (i := 0) rfl (nxt_spec b1 x) SubR.nil (hs' := _ :: _) rfl rfl (fun v38 D38 hP38 => ?_)))))
   obtain ⟨y, rfl, rfl⟩ := hP38
   refine zm rfl (zq (Q.bin rfl (oc (v := .int .u64 ((1 : Nat) : Int)) rfl) rfl (bv_sub (wru64 zo))) ?_)
   obtain ⟨o, hand, ho⟩ := and_u64 (tb := tab) (t := 121) y (((m : Nat) : Int) - ((1 : Nat) : Int)) zy
   refine zq (Q.bin rfl rfl rfl hand) (zq (Q.convI ud121 ud3 rfl (wr64 zo)) (za rfl (zk (W.seqJ1 (fun (q : Nat) => [(0, .slice B 0 G.length 1), (1, .int .i64 ((a : Nat) : Int)), (8, .int .i64 ((b - a : Nat) : Int)), (9, .ptr b1 0), (10, .int .u64 (m : Nat)), (11, .int .i64 ((i : Nat) : Int)), (12, .int .i64 ((q : Nat) : Int))]) (fun (q : Nat) => (⟨b1, ⟨1, true, [.int .u64 y]⟩, true⟩ :: ⟨B, ⟨1, ex, (g).map (·.2)⟩, true⟩ :: hs)) (fun (q : Nat) => q < (b - a)) (fun q hI10 => ?_) (fun hJ10 => ?_)))))
   ·have hq := hI10
    refine W.regX (by kernel_rfl) (WX.f (Q.move rfl) bqs rfl (WX.f (Q.move rfl) bqi rfl (WX.f (Q.move rfl) bqs rfl (WX.f (Q.move rfl) bqi rfl (WX.f (Q.move rfl) bqi rfl (WX.f (Q.bin rfl rfl rfl zp) bqi rfl (WX.f (Q.move rfl) bqs rfl (WX.f (Q.move rfl) bqi rfl (WX.f (Q.move rfl) bqi rfl (WX.f (Q.bin rfl rfl rfl zp) bqi rfl (WX.f (Q.iS ud81 sz22 rfl rfl zo) bqp rfl (WX.q (by kernel_rfl) (Q.l1 rfl (zt 1 rfl) ag22 (gread pg zo)) (gq hQ pg zo).2 rfl (WX.f (Q.move rfl) bqs rfl (WX.f (Q.move rfl) bqi rfl (WX.f (Q.iS ud81 sz22 rfl rfl zo) bqp rfl (WX.q (by kernel_rfl) (Q.l1 rfl (zt 1 rfl) ag22 (gread pg zo)) (gq hQ pg zo).2 rfl (WX.f (Q.iS ud81 sz22 rfl rfl zo) bqp rfl (WX.store sz22 rfl rfl (j := 1) rfl (ck1 (gq (i := a + q) hQ pg zy).1 (gset_le (by rw [(pg).length_eq]; omega))) (gset_lay (k := (ge (g) (a + q)).1) (by rw [(pg).length_eq]; omega) (gq (i := a + q) hQ pg zy).1) (hs' := _ :: _ :: _) rfl (WX.f (Q.iS ud81 sz22 rfl rfl zo) bqp rfl (WX.store sz22 rfl rfl (j := 1) rfl (ck1 (gq (i := i) hQ pg zy).1 (gset_le (by rw [List.length_set, (pg).length_eq]; omega))) (gset_lay (k := (ge (g) (i)).1) (by rw [List.length_set, (pg).length_eq]; omega) (gq (i := i) hQ pg zy).1) (hs' := _ :: _ :: _) rfl (WX.nil (End.KB (End.K (W.sub (zc 0 rfl (zc 1 rfl (zc 8 rfl (zc 9 rfl (zc 10 rfl (zc 11 rfl zzn)))))) ?_))))))))))))))))))))))))
    refine W.reg (zm rfl (zq (Q.bin rfl (zi 1) rfl zp) (za rfl (WO.nil (End.KL (W.sub zv (W.sH (SubH.refl _) (ih0 (i + 1) (y) (swp (g) (i) (a + q)) ?_ ?_))))))))
    ·exact ⟨by omega, by omega, swp_pm pg zy zy⟩
    exact zo
   refine zr (zm rfl (zm rfl (zq (Q.bin rfl rfl rfl (bv_geq le_nat)) (zk (W.sub (zc 45 rfl (zc 12 rfl (zc 0 rfl (zc 1 rfl (zc 8 rfl (zc 9 rfl (zc 10 rfl (zc 11 rfl zzn)))))))) (W.cD rfl (fun hc45 => ?_) (fun hc45 => ?_)))))))
   ·refine W.reg (zm rfl (zm rfl (zq (Q.bin rfl rfl rfl (bv_sub (wns zo))) (za rfl (WO.nil (End.K (W.sub zv (W.sH (SubH.refl _) (hJ10 (o - (b - a)) ?_)))))))))
    exact zy
   refine W.skip (End.K (W.sub zv (W.sH (SubH.refl _) (hJ10 (o) ?_))))
   exact zy
  refine W.exit ?_
  refine End.Kx (End.Lx (End.Bh (End.fall ResL.nil (hs' := [⟨B, ⟨1, ex, (g).map (·.2)⟩, true⟩]) ⟨g, pg, rfl⟩ (ww no_wl) gc)))
 exfalso; omega

theorem gord2_spec (G : List Ge) (B : Nat) (ex : Bool) (hN : G.length ≤ 256) (c : Ge → Ge → Int) (F : Nat) (caps : List AV) (hs : HSt) (hro : ∀ e ∈ hs, e.w = false) (hQ : ∀ x ∈ G, x.2.isCell = true ∧ x.2.beq x.2 = true) (hC : ∀ x ∈ G, ∀ y ∈ G, Spec tab F ([x.2, y.2] ++ caps) [] hs (Val (.int .i64 (c x y)))) (l : List Ge) (pl : l.Perm G) (s n : Nat) (a b : Nat) (ha : a < G.length) (hb : b < G.length) (hn : n ≤ 1000) : Spec tab 160 [.slice B 0 G.length 1, .int .i64 ((a : Nat) : Int), .int .i64 ((b : Nat) : Int), .ptr s 0, .func F caps] [s] (⟨s, ⟨1, true, [.int .i64 ((n : Nat) : Int)]⟩, true⟩ :: ⟨B, ⟨1, ex, (l).map (·.2)⟩, false⟩ :: hs) (fun v D => ∃ x y n' : Nat, v = .tuple [.int .i64 ((x : Nat) : Int), .int .i64 ((y : Nat) : Int)] ∧ ((x = a ∧ y = b) ∨ (x = b ∧ y = a)) ∧ n' ≤ n + 1 ∧ D = [⟨s, ⟨1, true, [.int .i64 ((n' : Nat) : Int)]⟩, true⟩]) := by
 refine Spec.en (ftg 160 Tryz.func160) rfl (m := 32) rfl (rs := [.tmp 10, .tmp 11]) rfl (st := [(0, .slice B 0 G.length 1), (1, .int .i64 ((a : Nat) : Int)), (2, .int .i64 ((b : Nat) : Int)), (3, .ptr s 0), (4, .func F caps)]) rfl rfl (fun _ => rfl) (fun E => zr (za (zi 0) (za (zi 0) (zk (W.seq (W.seq (W.regT (by kernel_rfl) (zm rfl (zm rfl (zm rfl (zq (Q.iS ud81 sz22 rfl rfl zo) (zq (Q.l1 rfl (zt 1 rfl) ag22 (gread pl zo)) (zm rfl (zm rfl (zq (Q.iS ud81 sz22 rfl rfl zo) (zq (Q.l1 rfl (zt 1 rfl) ag22 (gread pl zo)) (WO.cV rfl (oLc rfl (oLc rfl oz)) rfl (hC _ (gmem pl zy) _ (gmem pl zy)) (SubR.t (SubR.t (SubR.s hro))) rfl (zq (Q.bin rfl (zi 0) rfl (bvl (ltA_eq _ _))) (zk (W.sub (zc 22 rfl (zc 1 rfl (zc 2 rfl (zc 3 rfl zzn)))) (W.cD rfl (fun hc22 => ?_) (fun hc22 => ?_))))))))))))))))))))))
 ·refine zr (zm rfl (zq (Q.nilP rfl) (zq (Q.l1 rfl (zt 0 rfl) ag3 rfl) (zq (Q.bin rfl (zi 1) rfl zp) (zq (Q.nilP rfl) (WO.store sz3 rfl rfl (i := 0) rfl rfl (cs := [_]) rfl (hs' := _ :: _ :: _) rfl (zk (zr (zm rfl (zm rfl (za rfl (za rfl (zk (W.ret ?_))))))))))))))
  refine End.Kr (End.ret (ResL.tmp rfl (z1 rfl)) (hs' := [⟨s, ⟨1, true, [.int .i64 ((n + 1 : Nat) : Int)]⟩, true⟩]) ⟨b, a, n + 1, rfl, .inr ⟨rfl, rfl⟩, Nat.le_refl _, rfl⟩ (ww no_wl) (SubH.of_sublist (List.Sublist.cons_cons _ (List.nil_sublist _))))
 refine zw (zr (zm rfl (zm rfl (za rfl (za rfl (zk (W.ret ?_)))))))
 refine End.ret (ResL.tmp rfl (z1 rfl)) (hs' := [⟨s, ⟨1, true, [.int .i64 ((n : Nat) : Int)]⟩, true⟩]) ⟨a, b, n, rfl, .inl ⟨rfl, rfl⟩, by omega, rfl⟩ (ww no_wl) (SubH.of_sublist (List.Sublist.cons_cons _ (List.nil_sublist _)))

theorem gmed_spec (G : List Ge) (B : Nat) (ex : Bool) (hN : G.length ≤ 256) (c : Ge → Ge → Int) (F : Nat) (caps : List AV) (hs : HSt) (hro : ∀ e ∈ hs, e.w = false) (hQ : ∀ x ∈ G, x.2.isCell = true ∧ x.2.beq x.2 = true) (hC : ∀ x ∈ G, ∀ y ∈ G, Spec tab F ([x.2, y.2] ++ caps) [] hs (Val (.int .i64 (c x y)))) (l : List Ge) (pl : l.Perm G) (s n : Nat) (a b c' : Nat) (ha : a < G.length) (hb : b < G.length) (hc : c' < G.length) (hn : n ≤ 900) : Spec tab 156 [.slice B 0 G.length 1, .int .i64 ((a : Nat) : Int), .int .i64 ((b : Nat) : Int), .int .i64 ((c' : Nat) : Int), .ptr s 0, .func F caps] [s] (⟨s, ⟨1, true, [.int .i64 ((n : Nat) : Int)]⟩, true⟩ :: ⟨B, ⟨1, ex, (l).map (·.2)⟩, false⟩ :: hs) (fun v D => ∃ r n' : Nat, v = .int .i64 ((r : Nat) : Int) ∧ (r = a ∨ r = b ∨ r = c') ∧ n' ≤ n + 3 ∧ D = [⟨s, ⟨1, true, [.int .i64 ((n' : Nat) : Int)]⟩, true⟩]) := by
 refine Spec.en (ftg 156 Tryz.func156) rfl (m := 41) rfl (rs := [.tmp 12]) rfl (st := [(0, .slice B 0 G.length 1), (1, .int .i64 ((a : Nat) : Int)), (2, .int .i64 ((b : Nat) : Int)), (3, .int .i64 ((c' : Nat) : Int)), (4, .ptr s 0), (5, .func F caps)]) rfl rfl (fun _ => rfl) (fun E => zr (za (zi 0) (zk (zr (zm rfl (zm rfl (zm rfl (zm rfl (zm rfl (WO.call1 rfl (oLc rfl (oLc rfl (oLc rfl (oLc rfl (oLc rfl oz))))) rfl (i := 0) rfl (gord2_spec G B ex hN c F caps hs hro hQ hC l pl s n a b zy zy zy) (SubR.refl (hro_b hro)) (hs' := _ :: _) rfl rfl (fun v19 D19 hP19 => ?_)))))))))))
 obtain ⟨x1, y1, n1, rfl, ho1, hn1, rfl⟩ := hP19
 refine zm rfl (zq (Q.extract rfl rfl) (zq (Q.extract rfl rfl) (za rfl (za rfl (zk (zr (zm rfl (zm rfl (zm rfl (zm rfl (zm rfl (WO.call1 rfl (oLc rfl (oLc rfl (oLc rfl (oLc rfl (oLc rfl oz))))) rfl (i := 0) rfl (gord2_spec G B ex hN c F caps hs hro hQ hC l pl s n1 y1 c' zy zy zy) (SubR.refl (hro_b hro)) (hs' := _ :: _) rfl rfl (fun v28 D28 hP28 => ?_)))))))))))))
 obtain ⟨x2, y2, n2, rfl, ho2, hn2, rfl⟩ := hP28
 refine zm rfl (zq (Q.extract rfl rfl) (zq (Q.extract rfl rfl) (za rfl (za rfl (zk (W.sub (zc 2 rfl (zc 1 rfl (zc 0 rfl (zc 4 rfl (zc 5 rfl zzn))))) (zr (zm rfl (zm rfl (zm rfl (zm rfl (zm rfl (WO.call1 rfl (oLc rfl (oLc rfl (oLc rfl (oLc rfl (oLc rfl oz))))) rfl (i := 0) rfl (gord2_spec G B ex hN c F caps hs hro hQ hC l pl s n2 x1 x2 zy zy zy) (SubR.refl (hro_b hro)) (hs' := _ :: _) rfl rfl (fun v37 D37 hP37 => ?_))))))))))))))
 obtain ⟨x3, y3, n3, rfl, ho3, hn3, rfl⟩ := hP37
 refine zm rfl (zq (Q.extract rfl rfl) (zq (Q.extract rfl rfl) (za rfl (za rfl (zk (zr (zm rfl (za rfl (zk (W.sub (zc 12 rfl zzn) (W.ret ?_)))))))))))
 refine End.ret (z1 rfl) (hs' := [⟨s, ⟨1, true, [.int .i64 ((n3 : Nat) : Int)]⟩, true⟩]) ⟨y3, n3, rfl, by omega, by omega, rfl⟩ (ww no_wl) (SubH.of_sublist (List.Sublist.cons_cons _ (List.nil_sublist _)))

theorem gmda_spec (G : List Ge) (B : Nat) (ex : Bool) (hN : G.length ≤ 256) (c : Ge → Ge → Int) (F : Nat) (caps : List AV) (hs : HSt) (hro : ∀ e ∈ hs, e.w = false) (hQ : ∀ x ∈ G, x.2.isCell = true ∧ x.2.beq x.2 = true) (hC : ∀ x ∈ G, ∀ y ∈ G, Spec tab F ([x.2, y.2] ++ caps) [] hs (Val (.int .i64 (c x y)))) (l : List Ge) (pl : l.Perm G) (s n : Nat) (a : Nat) (h1 : 1 ≤ a) (ha : a + 1 < G.length) (hn : n ≤ 900) : Spec tab 155 [.slice B 0 G.length 1, .int .i64 ((a : Nat) : Int), .ptr s 0, .func F caps] [s] (⟨s, ⟨1, true, [.int .i64 ((n : Nat) : Int)]⟩, true⟩ :: ⟨B, ⟨1, ex, (l).map (·.2)⟩, false⟩ :: hs) (fun v D => ∃ r n' : Nat, v = .int .i64 ((r : Nat) : Int) ∧ a - 1 ≤ r ∧ r ≤ a + 1 ∧ n' ≤ n + 3 ∧ D = [⟨s, ⟨1, true, [.int .i64 ((n' : Nat) : Int)]⟩, true⟩]) := by
 refine Spec.en (ftg 155 Tryz.func155) rfl (m := 18) rfl (rs := [.tmp 8]) rfl (st := [(0, .slice B 0 G.length 1), (1, .int .i64 ((a : Nat) : Int)), (2, .ptr s 0), (3, .func F caps)]) rfl rfl (fun _ => rfl) (fun E => zr (za (zi 0) (zk (zr (zm rfl (zm rfl (zq (Q.bin rfl (zi 1) rfl (bv_sub (wns zo))) (zm rfl (zm rfl (zq (Q.bin rfl (zi 1) rfl zp) (zm rfl (zm rfl (WO.call1 rfl (oLc rfl (oLc rfl (oLc rfl (oLc rfl (oLc rfl (oLc rfl oz)))))) rfl (i := 0) rfl (gmed_spec G B ex hN c F caps hs hro hQ hC l pl s n (a - 1) a (a + 1) zy zy zy zy) (SubR.refl (hro_b hro)) (hs' := _ :: _) rfl rfl (fun v17 D17 hP17 => ?_))))))))))))))
 obtain ⟨r1, n1, rfl, hr1, hn1, rfl⟩ := hP17
 refine za rfl (zk (W.ret ?_))
 refine End.ret (z1 rfl) (hs' := [⟨s, ⟨1, true, [.int .i64 ((n1 : Nat) : Int)]⟩, true⟩]) ⟨r1, n1, rfl, by omega, by omega, by omega, rfl⟩ (ww no_wl) (SubH.of_sublist (List.Sublist.cons_cons _ (List.nil_sublist _)))

theorem gchp_spec (G : List Ge) (B : Nat) (ex : Bool) (hN : G.length ≤ 256) (c : Ge → Ge → Int) (F : Nat) (caps : List AV) (hs : HSt) (hro : ∀ e ∈ hs, e.w = false) (hQ : ∀ x ∈ G, x.2.isCell = true ∧ x.2.beq x.2 = true) (hC : ∀ x ∈ G, ∀ y ∈ G, Spec tab F ([x.2, y.2] ++ caps) [] hs (Val (.int .i64 (c x y)))) (l : List Ge) (pl : l.Perm G) (a b : Nat) (hab : a ≤ b) (hb : b ≤ G.length) (h13 : a + 13 ≤ b) : Spec tab 134 [.slice B 0 G.length 1, .int .i64 ((a : Nat) : Int), .int .i64 ((b : Nat) : Int), .func F caps] [] (⟨B, ⟨1, ex, (l).map (·.2)⟩, false⟩ :: hs) (ValE (fun v => ∃ p h : Nat, v = .tuple [.int .i64 ((p : Nat) : Int), .int .i64 ((h : Nat) : Int)] ∧ a ≤ p ∧ p < b)) := by
 refine Spec.en (ftg 134 Tryz.func134) rfl (m := 63) rfl (rs := [.tmp 8, .tmp 9]) rfl (st := [(0, .slice B 0 G.length 1), (1, .int .i64 ((a : Nat) : Int)), (2, .int .i64 ((b : Nat) : Int)), (3, .func F caps)]) rfl rfl (fun _ => rfl) (fun E => zr (za (zi 0) (za (zi 0) (zk (zr (zm rfl (zm rfl (zq (Q.bin rfl rfl rfl (bv_sub (wns zo))) (za rfl (zk (zr (WO.alloc ao3 rfl (fun b1 => zk (zr (zm rfl (zm rfl (zq (Q.bin rfl (zi 4) rfl (bv_quo (by decide) (qn (by decide) zy))) (zq (Q.bin rfl (zi 1) rfl (bv_mul (wn_mul zo))) (zq (Q.bin rfl rfl rfl zp) (za rfl (zk (zr (zm rfl ?_)))))))))))))))))))))))
 refine zm rfl (zq (Q.bin rfl (zi 4) rfl (bv_quo (by decide) (qn (by decide) zy))) (zq (Q.bin rfl (zi 2) rfl (bv_mul (wn_mul zo))) (zq (Q.bin rfl rfl rfl zp) (za rfl (zk (W.sub (zc 13 rfl (zc 12 rfl (zc 11 rfl (zc 10 rfl (zc 0 rfl (zc 1 rfl (zc 3 rfl zzn))))))) (zr (zm rfl (zm rfl (zq (Q.bin rfl (zi 4) rfl (bv_quo (by decide) (qn (by decide) zy))) (zq (Q.bin rfl (zi 3) rfl (bv_mul (wn_mul zo))) (zq (Q.bin rfl rfl rfl zp) (za rfl (zk (W.seq (zr (zm rfl (zq (Q.bin rfl (zi 8) rfl (bv_geq le_nat)) (zk (W.cD rfl (fun hc34 => ?_) (fun hc34 => ?_)))))))))))))))))))))
 ·refine W.seqJ4 (fun (i0 : Nat) (j0 : Nat) (k0 : Nat) (n0 : Nat) => [(0, .slice B 0 G.length 1), (3, .func F caps), (11, .ptr b1 0), (12, .int .i64 ((i0 : Nat) : Int)), (13, .int .i64 ((j0 : Nat) : Int)), (14, .int .i64 ((k0 : Nat) : Int))]) (fun (i0 : Nat) (j0 : Nat) (k0 : Nat) (n0 : Nat) => (⟨b1, ⟨1, true, [.int .i64 ((n0 : Nat) : Int)]⟩, true⟩ :: ⟨B, ⟨1, ex, (l).map (·.2)⟩, false⟩ :: hs)) (fun (i0 : Nat) (j0 : Nat) (k0 : Nat) (n0 : Nat) => a ≤ i0 ∧ i0 < b ∧ a ≤ j0 ∧ j0 < b ∧ a ≤ k0 ∧ k0 < b ∧ n0 ≤ 9) (fun i0 j0 k0 n0 hI11 => ?_) (fun hJ11 => ?_)
  ·obtain ⟨q1, q2, q3, q4, q5, q6, q7⟩ := hI11
   refine W.reg (zm rfl (zm rfl (zm rfl (zm rfl (zm rfl (WO.call1 rfl (oLc rfl (oLc rfl (oLc rfl (oLc rfl (oLc rfl (oLc rfl oz)))))) rfl (i := 0) rfl (gmed_spec G B ex hN c F caps hs hro hQ hC l pl b1 n0 i0 j0 k0 zy zy zy zy) (SubR.refl (hro_b hro)) (hs' := _ :: _) rfl rfl (fun v54 D54 hP54 => ?_)))))))
   obtain ⟨r5, n5, rfl, hr5, hn5, rfl⟩ := hP54
   refine za rfl (zk (zr (zq (Q.l1 rfl (zt 0 rfl) ag3 rfl) (zk (W.block (zr (zq (Q.bin rfl (zi 0) rfl (bv_eql eq_nat)) (za rfl (zk (W.cD rfl (fun hc57 => ?_) (fun hc57 => ?_)))))))))))
   ·refine zr (zm rfl (za rfl (za (zi 1) (zk (W.sub (zc 9 rfl (zc 8 rfl zzn)) (W.ret (End.Br (End.retE (ResL.tmp rfl (z1 rfl)) ?_))))))))
    exact ⟨_, _, rfl, by omega, by omega⟩
   refine zr (zq (Q.bin rfl (zi 12) rfl (bv_eql eq_nat)) (za rfl (zk (W.sub (zc 60 rfl (zc 13 rfl zzn)) (W.cD rfl (fun hc60 => ?_) (fun hc60 => ?_))))))
   ·refine zr (zm rfl (za rfl (za (zi 2) (zk (W.ret (End.Br (End.retE (ResL.tmp rfl (z1 rfl)) ?_)))))))
    exact ⟨_, _, rfl, by omega, by omega⟩
   refine zr (zm rfl (za rfl (za (zi 0) (zk (W.ret (End.Br (End.retE (ResL.tmp rfl (z1 rfl)) ?_)))))))
   exact ⟨_, _, rfl, by omega, by omega⟩
  refine zr (zm rfl (zq (Q.bin rfl (zi 50) rfl (bv_geq le_nat)) (zk (W.cD rfl (fun hc36 => ?_) (fun hc36 => ?_)))))
  ·refine zr (zm rfl (zm rfl (zm rfl (WO.call1 rfl (oLc rfl (oLc rfl (oLc rfl (oLc rfl oz)))) rfl (i := 0) rfl (gmda_spec G B ex hN c F caps hs hro hQ hC l pl b1 0 (a + (b - a) / 4 * 1) zy zy zy) (SubR.refl (hro_b hro)) (hs' := _ :: _) rfl rfl (fun v40 D40 hP40 => ?_)))))
   obtain ⟨r1, n1, rfl, hra1, hrb1, hn1, rfl⟩ := hP40
   refine za rfl (zk (W.sub (zc 12 rfl (zc 14 rfl (zc 13 rfl (zc 11 rfl (zc 0 rfl (zc 3 rfl zzn)))))) (zr (zm rfl (zm rfl (zm rfl (WO.call1 rfl (oLc rfl (oLc rfl (oLc rfl (oLc rfl oz)))) rfl (i := 0) rfl (gmda_spec G B ex hN c F caps hs hro hQ hC l pl b1 n1 (a + (b - a) / 4 * 2) zy zy zy) (SubR.refl (hro_b hro)) (hs' := _ :: _) rfl rfl (fun v44 D44 hP44 => ?_))))))))
   obtain ⟨r2, n2, rfl, hra2, hrb2, hn2, rfl⟩ := hP44
   refine za rfl (zk (W.reg (zm rfl (zm rfl (zm rfl (WO.call1 rfl (oLc rfl (oLc rfl (oLc rfl (oLc rfl oz)))) rfl (i := 0) rfl (gmda_spec G B ex hN c F caps hs hro hQ hC l pl b1 n2 (a + (b - a) / 4 * 3) zy zy zy) (SubR.refl (hro_b hro)) (hs' := _ :: _) rfl rfl (fun v48 D48 hP48 => ?_)))))))
   obtain ⟨r3, n3, rfl, hra3, hrb3, hn3, rfl⟩ := hP48
   refine za rfl (WO.nil (End.K (W.sub zv (W.sH (SubH.refl _) (hJ11 (r1) (r2) (r3) (n3) ?_)))))
   exact ⟨by omega, by omega, by omega, by omega, by omega, by omega, by omega⟩
  refine W.skip (End.K (W.sub zv (W.sH (SubH.refl _) (hJ11 (a + (b - a) / 4 * 1) (a + (b - a) / 4 * 2) (a + (b - a) / 4 * 3) (0) ?_))))
  exact ⟨by omega, by omega, by omega, by omega, by omega, by omega, by omega⟩
 exfalso; omega
end Go.Proofs.YtmblgaehfjheeaaGreat.Ev
