/- Chapter 19: VectorTop, of any vector in memory. -/
import Derived.Test.YtmblgaehfjheeaaGreatKZv
namespace Go.Proofs.YtmblgaehfjheeaaGreat.Ev
open Go.RowKit
set_option linter.unusedVariables false
set_option linter.unusedSimpArgs false
set_option maxRecDepth 100000
set_option maxHeartbeats 1000000
theorem sbd_nil : SBd [] := ⟨by decide, fun x hx => by simp at hx⟩
theorem ak_z {N : List (List Nat)} {A : List Lab} : aggKey ((0 : Nat) : Int) N A = [] := if_pos rfl
theorem sg_bd {sg n : Int} (h : sg = 1 ∨ sg = -1) (g : -1152921504606846976 ≤ n ∧ n ≤ 1152921504606846976) : -9223372036854775808 ≤ sg * n ∧ sg * n ≤ 9223372036854775807 := by
  rcases h with rfl | rfl <;> omega
theorem one_group {kf : PE → List Nat} {V : List El} {G : List Ge} {c : List Nat} (h : GInv kf V G) (hc : ∀ x, kf x = c) : G.length ≤ 1 := by
  have hk : ∀ g ∈ G, g.1.1 = c := by
    intro g hg
    obtain ⟨h1, h2⟩ := h.2.1 g hg
    obtain ⟨x, hx⟩ := List.exists_mem_of_ne_nil _ h2
    rw [h1] at hx
    have := (List.mem_filter.1 hx).2
    rw [← of_decide_eq_true this, hc]
  have hn := h.1
  match G, hk, hn with
  | [], _, _ => simp
  | [g], _, _ => simp
  | g :: g' :: G, hk, hn =>
    exfalso
    rw [List.map_cons, List.nodup_cons] at hn
    refine hn.1 (List.mem_map.2 ⟨g', by simp, ?_⟩)
    rw [hk g (by simp), hk g' (by simp)]
section
variable {op : List Nat} {V W : List El} {L M : List PE} {k : Int}
theorem bef_tr {x y z : PE} (h : befP op x y = true) (g : befP op y z = true) : befP op x z = true := by
  unfold befP at *
  split at h
  · rw [if_pos ‹_›] at g ⊢
    have h := of_decide_eq_true h
    have g := of_decide_eq_true g
    refine decide_eq_true ?_
    rcases h with h | ⟨h, h'⟩ <;> rcases g with g | ⟨g, g'⟩
    · exact .inl (by omega)
    · exact .inl (by omega)
    · exact .inl (by omega)
    · exact .inr ⟨by omega, lt_trans3 h' g'⟩
  · rw [if_neg ‹_›] at g ⊢
    have h := of_decide_eq_true h
    have g := of_decide_eq_true g
    refine decide_eq_true ?_
    rcases h with h | ⟨h, h'⟩ <;> rcases g with g | ⟨g, g'⟩
    · exact .inl (by omega)
    · exact .inl (by omega)
    · exact .inl (by omega)
    · exact .inr ⟨by omega, lt_trans3 h' g'⟩
theorem bef_tri {x y : PE} (h : x ≠ y) : befP op x y = true ∨ befP op y x = true := by
  have hs := cmpL_swap x.1 y.1
  have he : cmpL x.1 y.1 = 0 → x.1 = y.1 := cmpL_eq.1
  have hne : ¬ (x.2 = y.2 ∧ cmpL x.1 y.1 = 0) := fun q => h (Prod.ext (he q.2) q.1)
  unfold befP
  split
  · rcases Int.lt_trichotomy x.2 y.2 with q | q | q
    · exact .inr (decide_eq_true (.inl q))
    · rcases Int.lt_trichotomy (cmpL x.1 y.1) 0 with r | r | r
      · exact .inl (decide_eq_true (.inr ⟨q, r⟩))
      · exact absurd ⟨q, r⟩ hne
      · exact .inr (decide_eq_true (.inr ⟨q.symm, by omega⟩))
    · exact .inl (decide_eq_true (.inl q))
  · rcases Int.lt_trichotomy x.2 y.2 with q | q | q
    · exact .inl (decide_eq_true (.inl q))
    · rcases Int.lt_trichotomy (cmpL x.1 y.1) 0 with r | r | r
      · exact .inl (decide_eq_true (.inr ⟨q, r⟩))
      · exact absurd ⟨q, r⟩ hne
      · exact .inr (decide_eq_true (.inr ⟨q.symm, by omega⟩))
    · exact .inr (decide_eq_true (.inl q))
theorem bef_sorted (hn : L.Nodup) : ∃ M : List PE, M.Perm L ∧ M.Pairwise fun a b => befP op a b = true := by
  induction L with
  | nil => exact ⟨[], List.Perm.refl _, List.Pairwise.nil⟩
  | cons x L ih =>
    rw [List.nodup_cons] at hn
    obtain ⟨M, hp, hw⟩ := ih hn.2
    have hx : x ∉ M := fun h => hn.1 (hp.mem_iff.1 h)
    refine ⟨(M.filter fun y => befP op y x) ++ x :: M.filter fun y => !(befP op y x), ?_, ?_⟩
    · refine List.perm_middle.trans (List.Perm.cons x ?_)
      exact (List.filter_append_perm _ M).trans hp
    · rw [List.pairwise_append]
      refine ⟨hw.filter _, ?_, ?_⟩
      · rw [List.pairwise_cons]
        refine ⟨fun y hy => ?_, hw.filter _⟩
        obtain ⟨h1, h2⟩ := List.mem_filter.1 hy
        rcases bef_tri (op := op) (x := x) (y := y) (fun e => hx (e ▸ h1)) with q | q
        · exact q
        · rw [q] at h2; cases h2
      · intro a ha b hb
        obtain ⟨h1, h2⟩ := List.mem_filter.1 ha
        rcases List.mem_cons.1 hb with rfl | hb
        · exact h2
        · obtain ⟨h3, h4⟩ := List.mem_filter.1 hb
          rcases bef_tri (op := op) (x := x) (y := b) (fun e => hx (e ▸ h3)) with q | q
          · exact bef_tr h2 q
          · rw [q] at h4; cases h4
theorem stays_len (hn : L.Nodup) : (L.filter (stP op k L)).length = (min (max 0 k) (L.length : Int)).toNat := by
  obtain ⟨M, hp, hw⟩ := bef_sorted (op := op) hn
  rw [← stP_perm hp, ← (hp.filter _).length_eq, ← take_stays hw, List.length_take, hp.length_eq]
  omega
theorem vchk_sub (hV : vchk V = 0) (hS : Srt (P2 W)) (hs : ∀ x ∈ P2 W, x ∈ P2 V) (hl : W.length ≤ V.length) : vchk W = 0 := by
  have hVl := vchk_len hV
  have hin : ∀ i, i < W.length → ∃ j, j < V.length ∧ (eg V j).2 = (eg W i).2 := by
    intro i hi
    obtain ⟨j, hj⟩ := List.getElem?_of_mem (hs _ (List.mem_of_getElem? (p2_eg hi)))
    have hjl : j < V.length := by have := (List.getElem?_eq_some_iff.1 hj).1; rwa [p2_ln] at this
    rw [p2_eg hjl] at hj
    exact ⟨j, hjl, Option.some.inj hj⟩
  have h1 : ichk W = 0 := by
    rw [ichk_go (by omega), Nat.sub_zero, fst_zero]
    intro i _ hi
    obtain ⟨j, hj, e⟩ := hin i (by omega)
    unfold ichk1
    rw [← e, if_neg (by simpa using (vchk_lchk hV hj).1)]
    refine if_neg ?_
    rintro ⟨q1, q2⟩
    rw [e] at q2
    have hp := List.pairwise_iff_getElem.1 hS (i - 1) i (by rw [p2_ln]; omega) (by rw [p2_ln]; omega) (by omega)
    have ei : (P2 W)[i - 1]'(by rw [p2_ln]; omega) = (eg W (i - 1)).2 := Option.some.inj ((List.getElem?_eq_getElem _).symm.trans (p2_eg (by omega)))
    have ej : (P2 W)[i]'(by rw [p2_ln]; omega) = (eg W i).2 := Option.some.inj ((List.getElem?_eq_getElem _).symm.trans (p2_eg (by omega)))
    rw [ei, ej] at hp
    omega
  unfold vchk
  rw [if_neg (by simpa using h1), if_pos]
  refine decide_eq_true ?_
  intro i hi
  obtain ⟨j, hj, e⟩ := hin i hi
  rw [← e]
  exact vchk_fit hV hj
theorem top_law {e : Nat} (hop : op = [116, 111, 112, 107] ∨ op = [98, 111, 116, 116, 111, 109, 107]) (hck : vchk V = 0) (h0 : 0 ≤ k) (h1 : k ≤ 300) (h : TopR op ((0 : Nat) : Int) [] (k * ((1000000 : Nat) : Int)) V e (P2 W)) :
    e = 0 ∧ ((W.length : Nat) : Int) = min k ((V.length : Nat) : Int) ∧ Srt (P2 W) ∧ (∀ x ∈ P2 W, x ∈ P2 V) ∧ vchk W = 0 ∧ ∀ x ∈ P2 V, x ∉ P2 W → ∀ y ∈ P2 W, if op = [116, 111, 112, 107] then x.2 ≤ y.2 else y.2 ≤ x.2 := by
  have hS := vchk_srt hck
  have hf : fitB (k * ((1000000 : Nat) : Int)) = true := by
    unfold fitB
    rw [decide_eq_true (by omega), decide_eq_true (by omega)]; rfl
  have hp : aggPre op ((0 : Nat) : Int) (k * ((1000000 : Nat) : Int)) V = none := ag_no hck hf (.inr (decide_eq_true hop)) ⟨by omega, by omega⟩
  rcases h with ⟨a, _⟩ | ⟨_, a⟩
  · rw [hp] at a; cases a
  have hk : (k * ((1000000 : Nat) : Int)).tdiv 1000000 = k := Int.mul_tdiv_cancel k (by decide)
  rw [hk] at a
  have ht : topL op k (fun x : PE => prM (aggKey ((0 : Nat) : Int) [] x.1)) (P2 V) = (P2 V).filter (stP op k (P2 V)) := by
    unfold topL
    refine List.filter_congr fun x _ => ?_
    congr 1
    exact List.filter_eq_self.2 fun y _ => decide_eq_true (by show prM (aggKey _ _ _) = prM (aggKey _ _ _); rw [ak_z, ak_z])
  rw [ht] at a
  obtain ⟨he, hw⟩ := ord_one (srt_filter hS _) (List.Perm.refl _) a
  have hm : ∀ x, x ∈ P2 W ↔ x ∈ P2 V ∧ stP op k (P2 V) x = true := fun x => by rw [hw, List.mem_filter]
  have hl : W.length = (min (max 0 k) (V.length : Int)).toNat := by
    rw [← p2_ln (F := W), hw, stays_len (srt_nd hS), p2_ln]
  refine ⟨he, by omega, hw ▸ srt_filter hS _, fun x hx => ((hm x).1 hx).1, vchk_sub hck (hw ▸ srt_filter hS _) (fun x hx => ((hm x).1 hx).1) (by omega), ?_⟩
  intro x hx hnx y hy
  have hsx : ¬ stP op k (P2 V) x = true := fun q => hnx ((hm x).2 ⟨hx, q⟩)
  have hsy := ((hm y).1 hy).2
  have hb : befP op x y = false := by
    cases q : befP op x y with
    | false => rfl
    | true =>
      exfalso
      unfold stP at hsx hsy
      rw [decide_eq_true_eq] at hsx hsy
      have := List.countP_mono_left (l := P2 V) (p := fun z => befP op z x) (q := fun z => befP op z y) fun z _ hz => bef_tr hz q
      rw [List.countP_eq_length_filter, List.countP_eq_length_filter] at this
      omega
  unfold befP at hb
  split at hb
  · rw [if_pos ‹_›]
    have := of_decide_eq_false hb
    omega
  · rw [if_neg ‹_›]
    have := of_decide_eq_false hb
    omega
end
theorem not_in {A R : List PE} (hA : Srt A) (hR : Srt R) (hs : ∀ x ∈ A, x ∈ R) {i : Nat} {r : PE} (hi : R[i]? = some r) (h : ∀ a, A[cntA A R i]? = some a → r.1 ≠ a.1) : r ∉ A := by
  intro hr
  obtain ⟨B, C, h1, h2, h3, h4⟩ := cnt_split hA hR hs hi
  rw [if_pos hr] at h3
  refine h r ?_ rfl
  rw [← h2]
  conv => lhs; rw [h1]
  rw [List.getElem?_append_right (Nat.le_refl _), Nat.sub_self, h3]; rfl

theorem law_top (hs : HSt) (hro : ∀ e ∈ hs, e.w = false) (V : List El) (v : AV) (hV : EIn hs V v) (hB : EBd V) (k : Int) (bo : Bool) : Spec tab 7 [v, .int .i64 k, .bool bo] [] hs (Val (.bool true)) := by
 have hBl := hB.1
 refine Spec.enter' (ft_get 7 Tryz.func7) rfl (m := 115) rfl (rs := [.tmp 6]) rfl (st := [(0, v), (1, .int .i64 k), (2, .bool bo)]) rfl rfl (fun _ => rfl) (fun E => zr (za rfl (zk (W.seq (W.seqJ1 (fun (q : Bool) => [(0, v), (1, .int .i64 k), (2, .bool bo), (24, .bool q)]) (fun (q : Bool) => hs) (fun (q : Bool) => q = false → vchk V = 0 ∧ 0 ≤ k ∧ k ≤ 300) (fun q hIc24 => ?_) (fun hJc24 => ?_))))))
 · have hq := hIc24
   refine W.condS rfl (fun hc24 => ?_) (fun hc24 => ?_)
   · refine zr (WO.callV rfl oLs_nil rfl (Spec.known (fun _ => rfl)) SubR.nil rfl (za rfl (zk (W.ret (End.K_ret (End.retV (z1 rfl) ?_))))))
     rfl
   obtain ⟨hck, hk0, hk1⟩ := hq (by simpa using hc24)
   have hVl := vchk_len hck
   refine zw (zr (zq (Q.assign (oc (v := .str [116, 111, 112, 107]) (by kernel_rfl))) (za (zi 1) (zk (W.seqJ2 (fun (op : List Nat) (sg : Int) => [(0, v), (1, .int .i64 k), (7, .str op), (8, .int .i64 sg)]) (fun (op : List Nat) (sg : Int) => hs) (fun (op : List Nat) (sg : Int) => (op = [116, 111, 112, 107] ∧ sg = 1) ∨ (op = [98, 111, 116, 116, 111, 109, 107] ∧ sg = -1)) (fun op sg hI6 => ?_) (fun hJ6 => ?_))))))
   · have hsg := hI6
     have hopt := hsg.imp And.left And.left
     have hs1 : sg = 1 ∨ sg = -1 := hsg.imp And.right And.right
     have ho : Bytes op := (by rcases hopt with rfl | rfl <;> (unfold Bytes; decide))
     have hag : agB op = false := (by rcases hopt with rfl | rfl <;> decide)
     refine zr (zm rfl (zm rfl (zq (Q.bin rfl (zi 1000000) rfl (bv_mul (wr64 zo))) (zm rfl (WO.call0 rfl (oLs_cons rfl (oLs_cons (zi 0) (oLs_cons rfl (oLs_cons rfl (oLs_cons rfl oLs_nil))))) rfl (agg_top hs hro V v hV hB op ho ((0 : Nat) : Int) (k * ((1000000 : Nat) : Int)) [] .nils (.inl ⟨rfl, rfl⟩) sbd_nil 1 srt_one (fun hc h0 h2 G hG hl => one_group (c := prM []) hG fun x => by show prM (aggKey _ _ _) = prM []; rw [ak_z]) hag) (SubR.self hro) rfl (fun v32 D32 hP32 => ?_))))))
     obtain ⟨e32, W32, w32, hR32, hO32, rfl⟩ := hP32
     obtain ⟨he, hWl, hWS, hWs, hWc, hWb⟩ := top_law hopt hck (by omega) (by omega) hR32
     have hWE := VOwn.ein hO32
     have hWB := hO32.ebd
     have hWn := hWB.1
     have hSV := vchk_srt hck
     refine WO.subH (hs' := (hs ++ D32)) (SubH.of_perm (perm_tail (N := []) (G := D32) (K := []) (X := hs))) (zm rfl (zq (Q.extract rfl rfl) (zq (Q.extract rfl rfl) (za rfl (za rfl (zk (W.seq (zr (zm rfl (zq (Q.bin rfl (zi 0) rfl (bv_neq ne_nat)) (zm rfl (WO.splitD (d := 37) rfl (fun hc37 => ?_) (fun hc37 => ?_)))))))))))))
     · exact absurd he (by simpa using hc37)
     refine WO.gT rfl rfl (zm rfl (WO.gT rfl rfl (zq (Q.len ud22 rfl (EIn.len (VOwn.ein hO32))) (WO.gT rfl rfl (zm rfl (WO.gT rfl rfl (zm rfl (WO.gT rfl rfl (zq (Q.len ud22 rfl (EIn.len hV)) (WO.gT rfl rfl (zq (Q.minmax false (oLs_cons rfl (oLs_cons rfl oLs_nil)) mm_minI) (WO.gT rfl rfl (zq (Q.bin rfl rfl rfl (bv_neq ne_int)) (zq (Q.pickF rfl rfl) (zm rfl (WO.splitD (d := 46) rfl (fun hc46 => ?_) (fun hc46 => ?_)))))))))))))))))
     · exact absurd hWl (by simpa using hc46)
     refine WO.gT rfl rfl (zm rfl (WO.gT rfl rfl (WO.callV rfl (oLs_cons rfl oLs_nil) rfl (vck_spec (ro D32 ++ hs) (ro_app hro) W32 _ (hWE.mono fun b o h => h.appl) hWB) (SubR.mix gc hro) rfl (WO.gT rfl rfl (zq (Q.bin rfl (zi 0) rfl (bv_neq ne_nat)) (zq (Q.pickF rfl rfl) (zk (W.sub (zc 50 rfl (zc 9 rfl (zc 0 rfl (zc 8 rfl zzn)))) (W.condDS rfl (fun hc50 => ?_) (fun hc50 => ?_))))))))))
     · exact absurd hWc (by simpa using hc50)
     refine zw (zr (za (zi 0) (zk (W.seq (zr (za (zi 0) (zk (W.block (W.loop_ind (fun (i : Nat) => [(0, v), (8, .int .i64 sg), (9, w32), (11, .int .i64 (((cntA (P2 W32) (P2 V) i) : Nat) : Int)), (12, .int .i64 ((i : Nat) : Int))]) (fun (i : Nat) => (hs ++ D32)) (fun (i : Nat) => i ≤ V.length) (fun (i : Nat) => V.length - i) (0) (Nat.zero_le _) zv gc (fun i hI0 ih0 => ?_))))))))))
     have h1 := hI0
     have hct := cnt_le (A := P2 W32) (R := P2 V) i
     refine W.seq (zr (zm rfl (zm rfl (zq (Q.len ud22 rfl (EIn.len hV)) (zq (Q.bin rfl rfl rfl (bv_lss lt_nat)) (zk (W.condDS rfl (fun hc54 => ?_) (fun hc54 => ?_))))))))
     · obtain ⟨bv, szv, exv, rfl, wv, mv⟩ := EIn.full hV (by omega)
       have hi68 := p2_eg (V := V) (i := i) (by omega)
       have hfv := vchk_fit hck (i := i) (by omega)
       have hfb := fit_bd hfv
       refine zw (W.seq (W.block (W.seq (W.seq (W.regT (by kernel_rfl) (zm rfl (zm rfl (zq (Q.len ud22 rfl (EIn.len hWE)) (zq (Q.bin rfl rfl rfl (bv_lss lt_nat)) (zm rfl (WO.splitD (d := 61) rfl (fun hc61 => ?_) (fun hc61 => ?_))))))))))))
       · obtain ⟨pw, lw, hDw, hOw, _, _, _⟩ := id hO32
         obtain ⟨bw, exw, rfl, hhw⟩ := OwnE.full hOw (by omega)
         have mw : (⟨bw, ⟨2, exw, cE W32⟩, true⟩ : HE) ∈ D32 := (by rw [hDw, hhw]; simp)
         have ha68 := p2_eg (V := W32) (i := (cntA (P2 W32) (P2 V) i)) (by omega)
         refine WO.gT rfl rfl (zm rfl (WO.gT rfl rfl (zm rfl (WO.gT rfl rfl (zq (Q.iaddrS ud22 sz35 rfl rfl zo) (WO.gT rfl rfl (zq (Q.fieldAddr fa35_0 rfl rfl) (WO.gT rfl rfl (zq (Q.load1 rfl (List.mem_append_right _ mw) ag33 (cE_f0 zo)) (WO.gT rfl rfl (zm rfl (WO.gT rfl rfl (zm rfl (WO.gT rfl rfl (zq (Q.iaddrS ud22 sz35 rfl rfl zo) (WO.gT rfl rfl (zq (Q.fieldAddr fa35_0 rfl rfl) (WO.gT rfl rfl (zq (Q.load1 rfl (List.mem_append_left _ mv) ag33 (cE_f0 zo)) (WO.gT rfl rfl (WO.callV rfl (oLs_cons rfl (oLs_cons rfl oLs_nil)) rfl (rsame_spec (ro D32 ++ hs) (ro_app hro) _ _ _ _ ((hWE.at (by omega)).mono fun b o h => h.appl) ((hV.at (by omega)).mono fun b o h => h.app) (hWB.at (by omega)).1 (hB.at (by omega)).1) (SubR.mix gc hro) rfl (zq (Q.pickT rfl rfl) (zk ?_)))))))))))))))))))))))
         refine W.sub (zc 73 rfl (zc 0 rfl (zc 8 rfl (zc 9 rfl (zc 11 rfl (zc 12 rfl zzn)))))) (W.condDS rfl (fun hc73 => ?_) (fun hc73 => ?_))
         · obtain ⟨hra, hcn⟩ := seq_yes hWS hSV hWs hi68 ha68 (Eq.symm (by simpa using hc73))
           refine W.seq (W.seq (W.regT (by kernel_rfl) (zm rfl (zm rfl (zq (Q.iaddrS ud22 sz35 rfl rfl zo) (zq (Q.fieldAddr fa35_1 rfl rfl) (zq (Q.load1 rfl (List.mem_append_right _ mw) ag3 (cE_f1 zo)) (zm rfl (zm rfl (zq (Q.iaddrS ud22 sz35 rfl rfl zo) (zq (Q.fieldAddr fa35_1 rfl rfl) (zq (Q.load1 rfl (List.mem_append_left _ mv) ag3 (cE_f1 zo)) (zq (Q.bin rfl rfl rfl (bv_neq ne_int)) (zk (W.condDS rfl (fun hc84 => ?_) (fun hc84 => ?_))))))))))))))))
           · exact absurd (congrArg Prod.snd hra).symm (by simpa using hc84)
           refine zw (zr (zm rfl (zq (Q.bin rfl (zi 1) rfl zp) (za rfl (zk (W.sub (zc 11 rfl (zc 0 rfl (zc 8 rfl (zc 9 rfl (zc 12 rfl zzn))))) (W.exit (End.K_exit (End.KB_hit (End.K (W.reg (zm rfl (zq (Q.bin rfl (zi 1) rfl zp) (za rfl (WO.nil (End.KL (W.sub (zd rfl (zd rfl (zd rfl (SubS.cons (by rw [hcn]; rfl) (zd rfl zzn))))) (W.subH gc (ih0 (i + 1) ?_ ?_)))))))))))))))))))
           · exact (by omega)
           exact zo
         have hcn := seq_no hWS hSV hWs hi68 (fun a ha => by rw [ha68] at ha; cases ha; intro e; exact absurd e.symm (by simpa using hc73))
         have hni := not_in hWS hSV hWs hi68 (fun a ha => by rw [ha68] at ha; cases ha; intro e; exact absurd e.symm (by simpa using hc73))
         generalize hgw : AV.slice bw 0 W32.length 2 = w32 at *
         refine zw (zr (za (zi 0) (zk (W.block (W.loop_ind (fun (j : Nat) => [(0, .slice bv 0 V.length 2), (8, .int .i64 sg), (9, w32), (11, .int .i64 (((cntA (P2 W32) (P2 V) i) : Nat) : Int)), (12, .int .i64 ((i : Nat) : Int)), (13, .int .i64 ((j : Nat) : Int))]) (fun (j : Nat) => (hs ++ D32)) (fun (j : Nat) => j ≤ W32.length) (fun (j : Nat) => W32.length - j) (0) (Nat.zero_le _) zv gc (fun j hI1 ih1 => ?_))))))
         have h2 := hI1
         refine W.seq (zr (zm rfl (zm rfl (zq (Q.len ud22 rfl (EIn.len hWE)) (zq (Q.bin rfl rfl rfl (bv_lss lt_nat)) (zk (W.condDS rfl (fun hc90 => ?_) (fun hc90 => ?_))))))))
         · obtain ⟨bw, exw, rfl, hhw⟩ := OwnE.full hOw (by omega)
           have mw : (⟨bw, ⟨2, exw, cE W32⟩, true⟩ : HE) ∈ D32 := (by rw [hDw, hhw]; simp)
           have hwj := p2_eg (V := W32) (i := j) (by omega)
           have hfw := fit_bd (vchk_fit hWc (i := j) (by omega))
           have hle := hWb _ (List.mem_of_getElem? hi68) hni _ (List.mem_of_getElem? hwj)
           refine zw (W.seq (W.block (W.seq (W.regT (by kernel_rfl) (zm rfl (zm rfl (zm rfl (zq (Q.iaddrS ud22 sz35 rfl rfl zo) (zq (Q.fieldAddr fa35_1 rfl rfl) (zq (Q.load1 rfl (List.mem_append_left _ mv) ag3 (cE_f1 zo)) (zq (Q.bin rfl rfl rfl (bv_mul (wr64 (sg_bd hs1 hfb)))) (zm rfl (zm rfl (zm rfl (zq (Q.iaddrS ud22 sz35 rfl rfl zo) (zq (Q.fieldAddr fa35_1 rfl rfl) (zq (Q.load1 rfl (List.mem_append_right _ mw) ag3 (cE_f1 zo)) (zq (Q.bin rfl rfl rfl (bv_mul (wr64 (sg_bd hs1 hfw)))) (zq (Q.bin rfl rfl rfl (bv_gtr (ltA_eq _ _))) (zk (W.sub (zc 107 rfl (zc 0 rfl (zc 8 rfl (zc 9 rfl (zc 11 rfl (zc 12 rfl (zc 13 rfl zzn))))))) (W.condDS rfl (fun hc107 => ?_) (fun hc107 => ?_)))))))))))))))))))))))
           · (exfalso; rcases hsg with ⟨rfl, rfl⟩ | ⟨rfl, rfl⟩ <;> simp at hle hc107 <;> omega)
           refine W.skip (End.KB (End.K (W.reg (zm rfl (zq (Q.bin rfl (zi 1) rfl zp) (za rfl (WO.nil (End.KL (W.sub zv (W.subH gc (ih1 (j + 1) ?_ ?_)))))))))))
           · exact (by omega)
           exact zo
         refine W.exit (End.K_exit (End.KL_exit (End.KB_hit (End.KB (End.K (W.reg (zm rfl (zq (Q.bin rfl (zi 1) rfl zp) (za rfl (WO.nil (End.KL (W.sub (zd rfl (zd rfl (zd rfl (SubS.cons (by rw [hcn]; rfl) (zd rfl zzn))))) (W.subH gc (ih0 (i + 1) ?_ ?_))))))))))))))
         · exact (by omega)
         exact zo
       have hno : ∀ a, (P2 W32)[(cntA (P2 W32) (P2 V) i)]? = some a → (eg V i).2.1 ≠ a.1 := (fun a ha => by have := (List.getElem?_eq_some_iff.1 ha).1; rw [p2_ln] at this; omega)
       have hcn := seq_no hWS hSV hWs hi68 hno
       have hni := not_in hWS hSV hWs hi68 hno
       obtain ⟨pw, lw, hDw, hOw, _, _, _⟩ := id hO32
       refine zg rfl rfl (zg rfl rfl (zg rfl rfl (zg rfl rfl (zg rfl rfl (zg rfl rfl (zg rfl rfl (zg rfl rfl (zg rfl rfl (zg rfl rfl (zg rfl rfl (zq (Q.pickF rfl rfl) (zk (W.sub (zc 73 rfl (zc 0 rfl (zc 8 rfl (zc 9 rfl (zc 11 rfl (zc 12 rfl zzn)))))) (W.condF rfl (zw (zr (za (zi 0) (zk (W.block (W.loop_ind (fun (j : Nat) => [(0, .slice bv 0 V.length 2), (8, .int .i64 sg), (9, w32), (11, .int .i64 (((cntA (P2 W32) (P2 V) i) : Nat) : Int)), (12, .int .i64 ((i : Nat) : Int)), (13, .int .i64 ((j : Nat) : Int))]) (fun (j : Nat) => (hs ++ D32)) (fun (j : Nat) => j ≤ W32.length) (fun (j : Nat) => W32.length - j) (0) (Nat.zero_le _) zv gc (fun j hI1 ih1 => ?_)))))))))))))))))))))
       have h2 := hI1
       refine W.seq (zr (zm rfl (zm rfl (zq (Q.len ud22 rfl (EIn.len hWE)) (zq (Q.bin rfl rfl rfl (bv_lss lt_nat)) (zk (W.condDS rfl (fun hc90 => ?_) (fun hc90 => ?_))))))))
       · obtain ⟨bw, exw, rfl, hhw⟩ := OwnE.full hOw (by omega)
         have mw : (⟨bw, ⟨2, exw, cE W32⟩, true⟩ : HE) ∈ D32 := (by rw [hDw, hhw]; simp)
         have hwj := p2_eg (V := W32) (i := j) (by omega)
         have hfw := fit_bd (vchk_fit hWc (i := j) (by omega))
         have hle := hWb _ (List.mem_of_getElem? hi68) hni _ (List.mem_of_getElem? hwj)
         refine zw (W.seq (W.block (W.seq (W.regT (by kernel_rfl) (zm rfl (zm rfl (zm rfl (zq (Q.iaddrS ud22 sz35 rfl rfl zo) (zq (Q.fieldAddr fa35_1 rfl rfl) (zq (Q.load1 rfl (List.mem_append_left _ mv) ag3 (cE_f1 zo)) (zq (Q.bin rfl rfl rfl (bv_mul (wr64 (sg_bd hs1 hfb)))) (zm rfl (zm rfl (zm rfl (zq (Q.iaddrS ud22 sz35 rfl rfl zo) (zq (Q.fieldAddr fa35_1 rfl rfl) (zq (Q.load1 rfl (List.mem_append_right _ mw) ag3 (cE_f1 zo)) (zq (Q.bin rfl rfl rfl (bv_mul (wr64 (sg_bd hs1 hfw)))) (zq (Q.bin rfl rfl rfl (bv_gtr (ltA_eq _ _))) (zk (W.sub (zc 107 rfl (zc 0 rfl (zc 8 rfl (zc 9 rfl (zc 11 rfl (zc 12 rfl (zc 13 rfl zzn))))))) (W.condDS rfl (fun hc107 => ?_) (fun hc107 => ?_)))))))))))))))))))))))
         · (exfalso; rcases hsg with ⟨rfl, rfl⟩ | ⟨rfl, rfl⟩ <;> simp at hle hc107 <;> omega)
         refine W.skip (End.KB (End.K (W.reg (zm rfl (zq (Q.bin rfl (zi 1) rfl zp) (za rfl (WO.nil (End.KL (W.sub zv (W.subH gc (ih1 (j + 1) ?_ ?_)))))))))))
         · exact (by omega)
         exact zo
       refine W.exit (End.K_exit (End.KL_exit (End.KB_hit (End.KB (End.K (W.reg (zm rfl (zq (Q.bin rfl (zi 1) rfl zp) (za rfl (WO.nil (End.KL (W.sub (zd rfl (zd rfl (zd rfl (SubS.cons (by rw [hcn]; rfl) (zd rfl zzn))))) (W.subH gc (ih0 (i + 1) ?_ ?_))))))))))))))
       · exact (by omega)
       exact zo
     have hce : (cntA (P2 W32) (P2 V) i) = W32.length := (by rw [cnt_end hWS hSV hWs (by rw [p2_ln]; omega), p2_ln])
     refine W.exit (End.K_exit (End.KL_exit (End.KB_hit (End.K (zr (zm rfl (zm rfl (zq (Q.len ud22 rfl (EIn.len hWE)) (zq (Q.bin rfl rfl rfl (bv_eql eq_nat)) (zm rfl (WO.splitD (d := 112) rfl (fun hc112 => ?_) (fun hc112 => ?_))))))))))))
     · refine WO.gT rfl rfl (WO.callV rfl oLs_nil rfl (Spec.known (fun _ => rfl)) SubR.nil rfl (zq (Q.pickT rfl rfl) (za rfl (zk (W.sub (zc 6 rfl zzn) (W.ret (End.retV (z1 rfl) ?_)))))))
       rfl
     exact absurd hce (by simpa using hc112)
   refine zr (zm rfl (zk (W.condS rfl (fun hc26 => ?_) (fun hc26 => ?_))))
   · refine W.reg (zq (Q.assign (oc (v := .str [98, 111, 116, 116, 111, 109, 107]) (by kernel_rfl))) (za rfl (WO.nil (End.K (W.sub zv (W.subH (SubH.refl _) (hJ6 ([98, 111, 116, 116, 111, 109, 107]) (-1) ?_)))))))
     exact (.inr ⟨rfl, rfl⟩)
   refine W.skip (End.K (W.sub zv (W.subH (SubH.refl _) (hJ6 ([116, 111, 112, 107]) (1) ?_))))
   exact (.inl ⟨rfl, rfl⟩)
 refine W.reg (zm rfl (WO.callV rfl (oLs_cons rfl oLs_nil) rfl (vck_spec hs hro V _ hV hB) (SubR.self hro) rfl (zq (Q.bin rfl (zi 0) rfl (bv_neq ne_nat)) (zm rfl (WO.splitD (d := 17) rfl (fun hc17 => ?_) (fun hc17 => ?_))))))
 · refine zg rfl rfl (zg rfl rfl (zq (Q.pickT rfl rfl) (zm rfl (zg rfl rfl (zg rfl rfl (zq (Q.pickT rfl rfl) (WO.nil (End.K (W.sub zv (W.subH (SubH.refl _) (hJc24 (_) ?_)))))))))))
   exact (by intro h; first | (simp_all; done) | (simp_all; omega))
 refine WO.gT rfl rfl (zm rfl (WO.gT rfl rfl (zq (Q.bin rfl (zi 0) rfl (bv_lss (ltA_eq _ _))) (zq (Q.pickF rfl rfl) (zm rfl (WO.splitD (d := 21) rfl (fun hc21 => ?_) (fun hc21 => ?_)))))))
 · refine zg rfl rfl (zg rfl rfl (zq (Q.pickT rfl rfl) (WO.nil (End.K (W.sub zv (W.subH (SubH.refl _) (hJc24 (_) ?_)))))))
   exact (by intro h; first | (simp_all; done) | (simp_all; omega))
 refine WO.gT rfl rfl (zm rfl (WO.gT rfl rfl (zq (Q.bin rfl (zi 300) rfl (bv_gtr (ltA_eq _ _))) (zq (Q.pickF rfl rfl) (WO.nil (End.K (W.sub zv (W.subH (SubH.refl _) (hJc24 (_) ?_)))))))))
 exact (by intro h; first | (simp_all; done) | (simp_all; omega))
end Go.Proofs.YtmblgaehfjheeaaGreat.Ev
