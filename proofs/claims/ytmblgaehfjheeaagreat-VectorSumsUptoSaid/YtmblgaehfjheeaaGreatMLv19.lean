/- Chapter 19: VectorTop, of any vector in memory. -/
import Derived.Test.YtmblgaehfjheeaaGreatMQf
import Derived.Test.YtmblgaehfjheeaaGreatMQh
import Derived.Test.YtmblgaehfjheeaaGreatMQd
import Derived.Test.YtmblgaehfjheeaaGreatMAwA
import Derived.Test.YtmblgaehfjheeaaGreatProg
namespace Go.Proofs.YtmblgaehfjheeaaGreat.Ev
open Go.RowKit
set_option linter.unusedVariables false
set_option linter.unusedSimpArgs false
set_option maxRecDepth 100000
set_option maxHeartbeats 1000000
theorem sbd_nil : SBd [] := ⟨by decide, fun x hx => by simp at hx⟩
section
variable {op : List Nat} {V W : List El} {L M : List PE} {k : Int}
end
theorem law_sums (hs : HSt) (hro : ∀ e ∈ hs, e.w = false) (V : List El) (v : AV) (hV : EIn hs V v) (hB : EBd V) (N : List (List Nat)) (vn : AV) (hN : SIn hs N vn) (hNb : SBd N) (rs : Bool) : Spec tab 6 [vn, .bool rs, v] [] hs (Val (.bool true)) := by
 have hBl := hB.1
 refine Spec.enter' (ft_get 6 Tryz.func6) rfl (m := 154) rfl (rs := [.tmp 6]) rfl (st := [(0, vn), (1, .bool rs), (2, v)]) rfl rfl (fun _ => rfl) (fun E => zr (za rfl (zk (zr (za (zi 1) (zk (W.seqJ1 (fun (md : Int) => [(0, vn), (2, v), (7, .int .i64 md)]) (fun (md : Int) => hs) (fun (md : Int) => md = 1 ∨ md = 2) (fun md hI4 => ?_) (fun hJ4 => ?_))))))))
 · have hmd := hI4
   have hmd2 : 0 ≤ md ∧ md ≤ 2 := (by omega)
   refine W.seq (zr (zm rfl (WO.callV rfl (oLs_cons rfl oLs_nil) rfl (vck_spec hs hro V _ hV hB) (SubR.self hro) rfl (zq (Q.bin rfl (zi 0) rfl (bv_neq ne_nat)) (zm rfl (WO.splitD (d := 22) rfl (fun hc22 => ?_) (fun hc22 => ?_)))))))
   · refine zg rfl rfl (zg rfl rfl (zg rfl rfl (zq (Q.pickT rfl rfl) (zk (W.condT rfl (zr (WO.callV rfl oLs_nil rfl (Spec.known (fun _ => rfl)) SubR.nil rfl (za rfl (zk (W.ret (End.K_ret (End.retV (z1 rfl) ?_))))))))))))
     rfl
   refine WO.gT rfl rfl (zm rfl (WO.gT rfl rfl (zq (Q.len ud22 rfl (EIn.len hV)) (WO.gT rfl rfl (zq (Q.bin rfl (zi 0) rfl (bv_eql eq_nat)) (zq (Q.pickF rfl rfl) (zk (W.condDS rfl (fun hc26 => ?_) (fun hc26 => ?_)))))))))
   · refine zr (WO.callV rfl oLs_nil rfl (Spec.known (fun _ => rfl)) SubR.nil rfl (za rfl (zk (W.ret (End.K_ret (End.retV (z1 rfl) ?_))))))
     rfl
   have hck : vchk V = 0 := (by omega)
   have h0 : 0 < V.length := (by omega)
   have hVl := vchk_len hck
   have hK : ∀ i, i < V.length → KeyOK (eg V i).2.1 := fun i hi => vchk_key hB hck hi
   refine zw (W.seq (zr (za (zi 0) (zk (W.block (W.loop_ind (fun (i : Nat) => [(0, vn), (2, v), (7, .int .i64 md), (8, .int .i64 ((i : Nat) : Int))]) (fun (i : Nat) => hs) (fun (i : Nat) => i ≤ V.length ∧ ∀ j, j < i → -1125899906842624 ≤ (eg V j).2.2 ∧ (eg V j).2.2 ≤ 1125899906842624) (fun (i : Nat) => V.length - i) (0) ⟨Nat.zero_le _, fun j h => absurd h (Nat.not_lt_zero _)⟩ zv (SubH.refl _) (fun i hI0 ih0 => ?_)))))))
   obtain ⟨h1, h2⟩ := hI0
   refine W.seq (zr (zm rfl (zm rfl (zq (Q.len ud22 rfl (EIn.len hV)) (zq (Q.bin rfl rfl rfl (bv_lss lt_nat)) (zk (W.condDS rfl (fun hc31 => ?_) (fun hc31 => ?_))))))))
   · obtain ⟨bv, szv, exv, rfl, wv, mv⟩ := EIn.full hV (by omega)
     refine zw (W.seq (W.block (zr (zm rfl (zm rfl (zq (Q.iaddrS ud22 sz35 rfl rfl zo) (zq (Q.fieldAddr fa35_1 rfl rfl) (zq (Q.load1 rfl mv ag3 (cE_f1 zo)) (zq (Q.bin rfl rfl rfl (bv_lss (ltA_eq _ _))) (zm rfl (WO.splitD (d := 40) rfl (fun hc40 => ?_) (fun hc40 => ?_))))))))))))
     · refine zg rfl rfl (zg rfl rfl (zg rfl rfl (zg rfl rfl (zg rfl rfl (zg rfl rfl (zq (Q.pickT rfl rfl) (zk (W.sub (zc 47 rfl (zc 0 rfl (zc 2 rfl (zc 7 rfl (zc 8 rfl zzn))))) (W.condT rfl (zr (WO.callV rfl oLs_nil rfl (Spec.known (fun _ => rfl)) SubR.nil rfl (za rfl (zk (W.ret (End.KB_ret (End.K_ret (End.KL_ret (End.KB_ret (End.K_ret (End.retV (z1 rfl) ?_))))))))))))))))))))
       rfl
     refine WO.gT rfl rfl (zm rfl (WO.gT rfl rfl (zm rfl (WO.gT rfl rfl (zq (Q.iaddrS ud22 sz35 rfl rfl zo) (WO.gT rfl rfl (zq (Q.fieldAddr fa35_1 rfl rfl) (WO.gT rfl rfl (zq (Q.load1 rfl mv ag3 (cE_f1 zo)) (WO.gT rfl rfl (zq (Q.bin rfl (zi 1125899906842624) rfl (bv_gtr (ltA_eq _ _))) (zq (Q.pickF rfl rfl) (zk (W.sub (zc 47 rfl (zc 0 rfl (zc 2 rfl (zc 7 rfl (zc 8 rfl zzn))))) (W.condDS rfl (fun hc47 => ?_) (fun hc47 => ?_))))))))))))))))
     · refine zr (WO.callV rfl oLs_nil rfl (Spec.known (fun _ => rfl)) SubR.nil rfl (za rfl (zk (W.ret (End.KB_ret (End.K_ret (End.KL_ret (End.KB_ret (End.K_ret (End.retV (z1 rfl) ?_))))))))))
       rfl
     refine W.skip (End.KB (End.K (W.reg (zm rfl (zq (Q.bin rfl (zi 1) rfl zp) (za rfl (WO.nil (End.KL (W.sub zv (W.subH (SubH.refl _) (ih0 (i + 1) ?_ ?_)))))))))))
     · exact ⟨by omega, fun j hj => by rcases Nat.lt_or_ge j i with q | q; exact h2 j q; obtain rfl : j = i := (by omega); omega⟩
     exact zo
   have hbd : ∀ j, j < V.length → -1125899906842624 ≤ (eg V j).2.2 ∧ (eg V j).2.2 ≤ 1125899906842624 := fun j hj => h2 j (by omega)
   refine W.exit (End.K_exit (End.KL_exit (End.KB_hit (End.K (zr (za (zi 0) (za (zi 0) (zk (zr (zm rfl (zm rfl (zm rfl (WO.call0 rfl (oLs_cons (oc (v := .str [115, 117, 109]) (by kernel_rfl)) (oLs_cons rfl (oLs_cons rfl (oLs_cons (zi 0) (oLs_cons rfl oLs_nil))))) rfl (agg_tell hs hro V v hV hB [115, 117, 109] (by unfold Bytes; decide) md ((0 : Nat) : Int) N vn hN hNb 256 srt_all (fun _ _ _ G _ hl => Nat.le_trans hl hVl) (by decide)) (SubR.self hro) rfl (fun v53 D53 hP53 => ?_))))))))))))))
   obtain ⟨e53, W53, w53, hR53, hO53, rfl⟩ := hP53
   have hWE53 := VOwn.ein hO53
   have hWB53 := hO53.ebd
   have hWn53 := hWB53.1
   refine WO.subH (hs' := (hs ++ D53)) (SubH.of_perm (perm_tail (N := []) (G := D53) (K := []) (X := hs))) (zm rfl (zq (Q.extract rfl rfl) (zq (Q.extract rfl rfl) (za rfl (za rfl (zk (zr (zm rfl (zm rfl (zm rfl (WO.call0 rfl (oLs_cons (oc (v := .str [99, 111, 117, 110, 116]) (by kernel_rfl)) (oLs_cons rfl (oLs_cons rfl (oLs_cons (zi 0) (oLs_cons rfl oLs_nil))))) rfl (agg_tell hs hro V v hV hB [99, 111, 117, 110, 116] (by unfold Bytes; decide) md ((0 : Nat) : Int) N vn hN hNb 256 srt_all (fun _ _ _ G _ hl => Nat.le_trans hl hVl) (by decide)) (SubR.appl (SubR.self hro)) rfl (fun v60 D60 hP60 => ?_))))))))))))
   obtain ⟨e60, W60, w60, hR60, hO60, rfl⟩ := hP60
   have hWE60 := VOwn.ein hO60
   have hWB60 := hO60.ebd
   have hWn60 := hWB60.1
   refine WO.subH (hs' := (hs ++ D53 ++ D60)) (SubH.of_perm (perm_tail (N := []) (G := D60) (K := []) (X := hs ++ D53))) (zm rfl (zq (Q.extract rfl rfl) (zq (Q.extract rfl rfl) (za rfl (za rfl (zk (W.sub (zc 14 rfl (zc 13 rfl (zc 12 rfl (zc 11 rfl (zc 10 rfl (zc 9 rfl (zc 2 rfl zzn))))))) (zr (zm rfl (WO.call0 rfl (oLs_cons (oc (v := .str [115, 117, 109]) (by kernel_rfl)) (oLs_cons (zi 0) (oLs_cons rfl (oLs_cons (zi 0) (oLs_cons rfl oLs_nil))))) rfl (agg_tell hs hro V v hV hB [115, 117, 109] (by unfold Bytes; decide) ((0 : Nat) : Int) ((0 : Nat) : Int) [] .nils (.inl ⟨rfl, rfl⟩) sbd_nil 256 srt_all (fun _ _ _ G _ hl => Nat.le_trans hl hVl) (by decide)) (SubR.appl (SubR.appl (SubR.self hro))) rfl (fun v65 D65 hP65 => ?_)))))))))))
   obtain ⟨e65, W65, w65, hR65, hO65, rfl⟩ := hP65
   have hWE65 := VOwn.ein hO65
   have hWB65 := hO65.ebd
   have hWn65 := hWB65.1
   obtain ⟨he1, he2, he3, hll, hl1, hlb, Sf, Qf, hS0, hQ0, hst, hbd2, hSe, hQe⟩ := sums_law hck hK hbd h0 hmd2 hR53 hR60 hR65
   refine WO.subH (hs' := (hs ++ D53 ++ D60 ++ D65)) (SubH.of_perm (perm_tail (N := []) (G := D65) (K := []) (X := hs ++ D53 ++ D60))) (zm rfl (zq (Q.extract rfl rfl) (zq (Q.extract rfl rfl) (za rfl (za rfl (zk (W.seq (zr (zm rfl (zq (Q.bin rfl (zi 0) rfl (bv_neq ne_nat)) (zm rfl (WO.splitD (d := 70) rfl (fun hc70 => ?_) (fun hc70 => ?_)))))))))))))
   · exact absurd he1 (by omega)
   refine WO.gT rfl rfl (zm rfl (WO.gT rfl rfl (zq (Q.bin rfl (zi 0) rfl (bv_neq ne_nat)) (zq (Q.pickF rfl rfl) (zm rfl (WO.splitD (d := 74) rfl (fun hc74 => ?_) (fun hc74 => ?_)))))))
   · exact absurd he2 (by omega)
   refine WO.gT rfl rfl (zm rfl (WO.gT rfl rfl (zq (Q.bin rfl (zi 0) rfl (bv_neq ne_nat)) (zq (Q.pickF rfl rfl) (zm rfl (WO.splitD (d := 78) rfl (fun hc78 => ?_) (fun hc78 => ?_)))))))
   · exact absurd he3 (by omega)
   refine WO.gT rfl rfl (zm rfl (WO.gT rfl rfl (zq (Q.len ud22 rfl (EIn.len hWE53)) (WO.gT rfl rfl (zm rfl (WO.gT rfl rfl (zq (Q.len ud22 rfl (EIn.len hWE60)) (WO.gT rfl rfl (zq (Q.bin rfl rfl rfl (bv_neq ne_nat)) (zq (Q.pickF rfl rfl) (zm rfl (WO.splitD (d := 85) rfl (fun hc85 => ?_) (fun hc85 => ?_)))))))))))))
   · exact absurd hll (by omega)
   refine WO.gT rfl rfl (zm rfl (WO.gT rfl rfl (zq (Q.len ud22 rfl (EIn.len hWE65)) (WO.gT rfl rfl (zq (Q.bin rfl (zi 1) rfl (bv_neq ne_nat)) (zq (Q.pickF rfl rfl) (zm rfl (WO.splitD (d := 90) rfl (fun hc90 => ?_) (fun hc90 => ?_)))))))))
   · exact absurd hl1 (by omega)
   obtain ⟨p65, q65, hD65, hOw65, _, _, _⟩ := id hO65
   obtain ⟨bc, exbc, rfl, hhbc⟩ := OwnE.full hOw65 (by omega)
   have mbc : (⟨bc, ⟨2, exbc, cE W65⟩, true⟩ : HE) ∈ D65 := (by rw [hD65, hhbc]; simp)
   refine WO.gT rfl rfl (zm rfl (WO.gT rfl rfl (zq (Q.iaddrL ud22 sz35 rfl (zi 0) zo (o' := 0) rfl) (WO.gT rfl rfl (zf fa35_0 rfl 0 (WO.gT rfl rfl (zq (Q.load1 rfl (List.mem_append_right _ mbc) ag33 (cE_f0 (i := 0) zo)) (WO.gT rfl rfl (zq (Q.len ud33 rfl (LIn.len (hWE65.at (by omega)))) (WO.gT rfl rfl (zq (Q.bin rfl (zi 0) rfl (bv_neq ne_nat)) (zq (Q.pickF rfl rfl) (zk (W.sub (zc 97 rfl (zc 15 rfl (zc 13 rfl (zc 11 rfl (zc 10 rfl (zc 9 rfl (zc 2 rfl zzn))))))) (W.condDS rfl (fun hc97 => ?_) (fun hc97 => ?_))))))))))))))))
   · (exfalso; rw [hlb] at hc97; simp at hc97)
   refine zw (W.seq (zr (za (zi 0) (zk (W.block (W.loop_ind (fun (i : Nat) => [(2, v), (9, .int .i64 (Sf i)), (10, .int .i64 ((Qf i * 1000000 : Nat) : Int)), (11, w53), (13, w60), (15, .slice bc 0 W65.length 2), (17, .int .i64 ((i : Nat) : Int))]) (fun (i : Nat) => (hs ++ D53 ++ D60 ++ D65)) (fun (i : Nat) => i ≤ W53.length) (fun (i : Nat) => W53.length - i) (0) (Nat.zero_le _) (zd rfl (SubS.cons (by rw [hS0]; rfl) (SubS.cons (by rw [hQ0]; rfl) zv))) gc (fun i hI1 ih1 => ?_)))))))
   have h1 := hI1
   refine W.seq (zr (zm rfl (zm rfl (zq (Q.len ud22 rfl (EIn.len hWE53)) (zq (Q.bin rfl rfl rfl (bv_lss lt_nat)) (zk (W.condDS rfl (fun hc101 => ?_) (fun hc101 => ?_))))))))
   · obtain ⟨p53, q53, hD53, hOw53, _, _, _⟩ := id hO53
     obtain ⟨ba, exba, rfl, hhba⟩ := OwnE.full hOw53 (by omega)
     have mba : (⟨ba, ⟨2, exba, cE W53⟩, true⟩ : HE) ∈ D53 := (by rw [hD53, hhba]; simp)
     obtain ⟨p60, q60, hD60, hOw60, _, _, _⟩ := id hO60
     obtain ⟨bb, exbb, rfl, hhbb⟩ := OwnE.full hOw60 (by omega)
     have mbb : (⟨bb, ⟨2, exbb, cE W60⟩, true⟩ : HE) ∈ D60 := (by rw [hD60, hhbb]; simp)
     obtain ⟨hk1, hk2, q, hq1, hq2, hq3⟩ := hst i (by omega)
     have hb1 := hbd2 (i + 1)
     have hb0 := hbd2 i
     refine zw (W.seq (W.block (W.seq (W.regT (by kernel_rfl) (zm rfl (zm rfl (zm rfl (zq (Q.iaddrS ud22 sz35 rfl rfl zo) (zq (Q.fieldAddr fa35_1 rfl rfl) (zq (Q.load1 rfl (List.mem_append_left _ (List.mem_append_left _ (List.mem_append_right _ mba))) ag3 (cE_f1 zo)) (zq (Q.bin rfl rfl rfl (bv_add (wr64 zo))) (zm rfl (zm rfl (zm rfl (zq (Q.iaddrS ud22 sz35 rfl rfl zo) (zq (Q.fieldAddr fa35_1 rfl rfl) (zq (Q.load1 rfl (List.mem_append_left _ (List.mem_append_right _ mbb)) ag3 (cE_f1 zo)) (zq (Q.bin rfl rfl rfl (bv_add (wr64 zo))) (za rfl (za rfl (zk (W.sub (zc 10 rfl (zc 9 rfl (zc 2 rfl (zc 11 rfl (zc 13 rfl (zc 15 rfl (zc 17 rfl zzn))))))) (W.seq ?_)))))))))))))))))))))))
     refine W.regT (by kernel_rfl) (zm rfl (zm rfl (zq (Q.iaddrS ud22 sz35 rfl rfl zo) (zq (Q.fieldAddr fa35_1 rfl rfl) (zq (Q.load1 rfl (List.mem_append_left _ (List.mem_append_right _ mbb)) ag3 (cE_f1 zo)) (zq (Q.bin rfl (zi 1000000) rfl (bv_lss (ltA_eq _ _))) (zm rfl (WO.splitD (d := 124) rfl (fun hc124 => ?_) (fun hc124 => ?_)))))))))
     · (exfalso; rw [hq2] at hc124; omega)
     refine WO.gT rfl rfl (zm rfl (WO.gT rfl rfl (zm rfl (WO.gT rfl rfl (zq (Q.iaddrS ud22 sz35 rfl rfl zo) (WO.gT rfl rfl (zq (Q.fieldAddr fa35_0 rfl rfl) (WO.gT rfl rfl (zq (Q.load1 rfl (List.mem_append_left _ (List.mem_append_left _ (List.mem_append_right _ mba))) ag33 (cE_f0 zo)) (WO.gT rfl rfl (zm rfl (WO.gT rfl rfl (zm rfl (WO.gT rfl rfl (zq (Q.iaddrS ud22 sz35 rfl rfl zo) (WO.gT rfl rfl (zq (Q.fieldAddr fa35_0 rfl rfl) (WO.gT rfl rfl (zq (Q.load1 rfl (List.mem_append_left _ (List.mem_append_right _ mbb)) ag33 (cE_f0 zo)) (WO.gT rfl rfl (WO.callV rfl (oLs_cons rfl (oLs_cons rfl oLs_nil)) rfl (rsame_spec (ro (D53 ++ D60) ++ hs) (ro_app hro) _ _ _ _ ((hWE53.at (by omega)).mono fun b o h => (MemH.ro_l h).appl) ((hWE60.at (by omega)).mono fun b o h => (MemH.ro_r h).appl) (hWB53.at (by omega)).1 (hWB60.at (by omega)).1) (SubR.mix gc hro) rfl (WO.gT rfl rfl (zq (Q.not rfl not_dec) ?_)))))))))))))))))))))))
     refine zq (Q.pickF rfl rfl) (zk (W.sub (zc 137 rfl (zc 10 rfl (zc 9 rfl (zc 2 rfl (zc 11 rfl (zc 13 rfl (zc 15 rfl (zc 17 rfl zzn)))))))) (W.condDS rfl (fun hc137 => ?_) (fun hc137 => ?_))))
     · (exfalso; exact absurd hk1 (by simpa using hc137))
     refine W.skip (End.KB (End.K (W.reg (zm rfl (zq (Q.bin rfl (zi 1) rfl zp) (za rfl (WO.nil (End.KL (W.sub (zd rfl (SubS.cons (by rw [hk2]; rfl) (SubS.cons (by rw [hq3]; exact congrArg (fun z => some (AV.int .i64 z)) (show ((Qf i * 1000000 : Nat) : Int) + (eg W60 i).2.2 = (((Qf i + q) * 1000000 : Nat) : Int) by rw [hq2]; omega)) zv))) (W.subH gc (ih1 (i + 1) ?_ ?_)))))))))))
     · exact (by omega)
     exact zo
   obtain rfl : i = W53.length := (by omega)
   have hb0 := hbd2 W53.length
   refine W.exit (End.K_exit (End.KL_exit (End.KB_hit (End.K (zr (zm rfl (zm rfl (zq (Q.iaddrL ud22 sz35 rfl (zi 0) zo (o' := 0) rfl) (zf fa35_1 rfl 1 (zq (Q.load1 rfl (List.mem_append_right _ mbc) ag3 (cE_f1 (i := 0) zo)) (zq (Q.bin rfl rfl rfl (bv_eql eq_int)) (zm rfl (WO.splitD (d := 144) rfl (fun hc144 => ?_) (fun hc144 => ?_))))))))))))))
   · refine WO.gT rfl rfl (zm rfl (WO.gT rfl rfl (zm rfl (WO.gT rfl rfl (zq (Q.len ud22 rfl (EIn.len hV)) (WO.gT rfl rfl (zq (Q.bin rfl (zi 1000000) rfl (bv_mul (wn_mul zo))) (WO.gT rfl rfl (zq (Q.bin rfl rfl rfl (bv_eql eq_nat)) (zq (Q.pickT rfl rfl) (zm rfl (WO.splitD (d := 151) rfl (fun hc151 => ?_) (fun hc151 => ?_)))))))))))))
     · refine WO.gT rfl rfl (WO.callV rfl oLs_nil rfl (Spec.known (fun _ => rfl)) SubR.nil rfl (zq (Q.pickT rfl rfl) (za rfl (zk (W.sub (zc 6 rfl zzn) (W.ret (End.retV (z1 rfl) ?_)))))))
       rfl
     (exfalso; rw [hQe] at hc151; simp at hc151)
   exact absurd hSe (by simpa using hc144)
 refine zr (zm rfl (zk (W.condS rfl (fun hc18 => ?_) (fun hc18 => ?_))))
 · refine W.reg (za (zi 2) (WO.nil (End.K (W.sub zv (W.subH (SubH.refl _) (hJ4 (((2 : Nat) : Int)) ?_))))))
   exact (.inr rfl)
 refine W.skip (End.K (W.sub zv (W.subH (SubH.refl _) (hJ4 (((1 : Nat) : Int)) ?_))))
 exact (.inl rfl)
set_option maxRecDepth 1000000
noncomputable def tabP : Tab := tabOf Tryz.prog
theorem tabP_is (J : Ctx) : TabOK Tryz.prog tabP J := tab_ok (by kernel_rfl) (by kernel_rfl)
theorem lives_ev : givesQ (callQ tabP (qFns tabP Tryz.prog.funcs.toList) 3000 300 18 [] ⟨0, .leaf⟩) (.bool true) = true := by kernel_rfl
theorem lives_any (w : World) : Calls Tryz.prog 18 #[] w fun e w' => e = .returned (.bool true) ∧ Below w.heap.size w w' :=
  quick_call (l := []) (tabP_is _) (qFns_ok tabP _ rfl) (v := .bool true) rfl lives_ev (.nil _) w
end Go.Proofs.YtmblgaehfjheeaaGreat.Ev
