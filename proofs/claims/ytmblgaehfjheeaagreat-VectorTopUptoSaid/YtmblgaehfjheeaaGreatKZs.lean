/- Chapter 19, walks: the first of a group by their numbers; parts. -/
import Derived.Test.YtmblgaehfjheeaaGreatKZo
namespace Go.Proofs.YtmblgaehfjheeaaGreat.Ev
open Go.RowKit
set_option linter.unusedVariables false
set_option linter.unusedSimpArgs false
set_option maxRecDepth 100000
set_option maxHeartbeats 1000000
def bstC (op : List Nat) (n m : Int) : Int := if op = [116, 111, 112, 107] then (if m < n then -1 else if n < m then 1 else 0) else (if n < m then -1 else if m < n then 1 else 0)
def bleN (op : List Nat) (V : List El) (i j : Nat) : Prop := if op = [116, 111, 112, 107] then ((eg V j).2.2 < (eg V i).2.2 ∨ ((eg V i).2.2 = (eg V j).2.2 ∧ i ≤ j)) else ((eg V i).2.2 < (eg V j).2.2 ∨ ((eg V i).2.2 = (eg V j).2.2 ∧ i ≤ j))
section
variable {op : List Nat} {V : List El} {i j k : Nat}
theorem ble_tr (h : bleN op V i j) (g : bleN op V j k) : bleN op V i k := by
  unfold bleN at *
  split at h
  · rw [if_pos ‹_›] at g ⊢; omega
  · rw [if_neg ‹_›] at g ⊢; omega
theorem ble_rf : bleN op V i i := by unfold bleN; split <;> omega
theorem ble_to : bleN op V i j ∨ bleN op V j i := by unfold bleN; split <;> omega
theorem ble_tl (h : i < j) : Tells (bleN op V) (fun x y => bstC op (eg V x).2.2 (eg V y).2.2) i j := by
  unfold Tells bleN bstC
  simp only []
  split
  · constructor
    · intro q; split at q
      · omega
      · split at q <;> omega
    · intro q; rw [if_pos (by omega)]; decide
  · constructor
    · intro q; split at q
      · omega
      · split at q <;> omega
    · intro q; rw [if_pos (by omega)]; decide
theorem i64_any (hB : EBd V) (i : Nat) : I64 (eg V i).2.2 := by
  rcases Nat.lt_or_ge i V.length with h | h
  · exact (hB.at h).2
  · rw [eg_out h]; exact i64_0
theorem p2_snoc {X : List El} {v : AV} {x : PE} : P2 (X ++ [(v, x)]) = P2 X ++ [x] := by unfold P2; rw [List.map_append]; rfl
theorem take_wg {g : Nat → Nat} (h : i < V.length) : (P2 (vF (eg V) g V.length)).take (i + 1) = (P2 (vF (eg V) g V.length)).take i ++ [(eg V (g i)).2] := by
  rw [List.take_add_one]
  congr 1
  unfold P2 vF
  rw [List.getElem?_map, List.getElem?_map, List.getElem?_range h]
  rfl
end
theorem ssf_own (hs : HSt) (hro : ∀ e ∈ hs, e.w = false) (V : List El) (v : AV) (hp : HSt) (hO : OwnE 2 (cE V) V.length v hp) (hL : ∀ i, LIn hs (eg V i).2.1 (eg V i).1) (hN : V.length ≤ 1048576) (c : Int → Int → Int) (F : Nat) (caps : List AV)
    (hC : ∀ x y : Nat, Spec tab F ([.agg [(eg V x).1, .int .i64 (eg V x).2.2], .agg [(eg V y).1, .int .i64 (eg V y).2.2]] ++ caps) [] hs (Val (.int .i64 (c (eg V x).2.2 (eg V y).2.2)))) (op : List Nat) (hop : ∀ x y, c x y = bstC op x y) :
    Spec tab 81 [v, .func F caps] (hp.map (·.b)) (hp ++ hs) (fun u D => ∃ g, OwnE 2 (cE (vF (eg V) g V.length)) V.length v D ∧ PermOn 0 V.length id g ∧ SrtOn (bleN op V) 0 V.length g) := by
  obtain rfl : c = bstC op := by funext x y; exact hop x y
  rcases id hO with ⟨h1, h2, rfl, rfl⟩ | ⟨b, ex, rfl, rfl, h3⟩
  · have hz : V = [] := List.length_eq_zero_iff.1 h1
    subst hz
    intro h hh
    obtain ⟨v, h', hs', g1, ⟨g2, g3⟩, g4, g5⟩ := ssf_nil F caps h (hh.sub (SubH.nil _))
    exact ⟨v, h', hs', g1, ⟨id, by subst g3; exact OwnE.nil 2, PermOn.refl _ _ _, fun i j _ _ q => absurd q (Nat.not_lt_zero _)⟩, g4, g5⟩
  · have hs1 := ssf_spec (eg V) (fun x => ⟨LIn.cell (hL x), LIn.bq (hL x), LIn.bq0 (hL x)⟩) b V.length ex hN (fun x y => bstC op (eg V x).2.2 (eg V y).2.2) F caps hs hro hC (bleN op V) (fun x y z => ble_tr) (fun x => ble_rf) (fun x y => ble_to) id (fun i j h _ => ble_tl h)
    rw [vF_id] at hs1
    refine hs1.mono fun u D hD => ?_
    obtain ⟨g, rfl, p, q⟩ := hD
    exact ⟨g, .inr ⟨b, ex, rfl, rfl, (cE_len _).trans (by rw [vF_len])⟩, p, q⟩
theorem bx9 : ∀ l : List AV, l.length = 1 → varObj tab 9 l = ⟨1, true, l⟩ := by intro l h; exact varObj_plain (by kernel_rfl) h
theorem bst1_spec (hs : HSt) (hro : ∀ e ∈ hs, e.w = false) (A B : List Lab) (va vb : AV) (ha : LIn hs A va) (hb : LIn hs B vb) (n m : Int) (op : List Nat) (ho : Bytes op) (b0 : Nat) (m0 : MemH hs b0 ⟨1, true, [.str op]⟩) : Spec tab 106 [.agg [va, .int .i64 n], .agg [vb, .int .i64 m], .ptr b0 0] [] hs (Val (.int .i64 (bstC op n m))) := by
 obtain ⟨w0, m0⟩ := m0
 refine Spec.enter' (ft_get 106 Tryz.func106) rfl (m := 22) rfl (rs := [.tmp 5]) rfl (st := [(0, .agg [va, .int .i64 n]), (1, .agg [vb, .int .i64 m]), (2, .ptr b0 0)]) rfl rfl (fun _ => rfl) (fun E => zr (WO.box rfl (all_c2 (LIn.cell ha)) (bx35 _ rfl) rfl (fun b1 => WO.box rfl (all_c2 (LIn.cell hb)) (bx35 _ rfl) rfl (fun b2 => za (zi 0) (zk (W.seq (zr (zq (Q.load1 rfl (List.mem_cons_of_mem _ (List.mem_cons_of_mem _ m0)) ag9 rfl) (zq (Q.bin rfl (oc (v := .str [116, 111, 112, 107]) (by kernel_rfl)) rfl bv_seql) (zk (W.condDS rfl (fun hc7 => ?_) (fun hc7 => ?_))))))))))))
 · refine W.reg (zq (Q.loadN rfl (zt 0 rfl) ag35 sz35 (l := [_, _]) rfl) (zq (Q.loadN rfl (zt 1 rfl) ag35 sz35 (l := [_, _]) rfl) (WO.store sz35 rfl rfl (i := 1) rfl (ck3 (LIn.cell hb) rfl) (cs := [_, _]) rfl (hs' := _ :: _ :: _) rfl (WO.store sz35 rfl rfl (i := 0) rfl (ck3 (LIn.cell ha) rfl) (cs := [_, _]) rfl (hs' := _ :: _ :: _) rfl (zk (W.seq (W.block (zr (zf fa35_1 rfl 1 (zq (Q.load1 rfl (zt 1 rfl) ag3 rfl) (zf fa35_1 rfl 1 (zq (Q.load1 rfl (zt 0 rfl) ag3 rfl) (zq (Q.bin rfl rfl rfl (bv_lss (ltA_eq _ _))) (za rfl (zk (W.condDS rfl (fun hc10 => ?_) (fun hc10 => ?_)))))))))))))))))
   · refine zr (za rfl (zk (W.sub (zc 5 rfl zzn) (W.ret (End.KB_ret (End.K_ret (End.retV (z1 rfl) (congrArg (AV.int .i64) ?_))))))))
     unfold bstC
     first | rw [if_pos (by assumption)] | rw [if_neg (by assumption)]
     split <;> (try split) <;> simp_all <;> omega
   refine zr (zf fa35_1 rfl 1 (zq (Q.load1 rfl (zt 1 rfl) ag3 rfl) (zf fa35_1 rfl 1 (zq (Q.load1 rfl (zt 0 rfl) ag3 rfl) (zq (Q.bin rfl rfl rfl (bv_gtr (ltA_eq _ _))) (za rfl (zk (W.sub (zc 16 rfl zzn) (W.condDS rfl (fun hc16 => ?_) (fun hc16 => ?_))))))))))
   · refine zr (za (zi 1) (zk (W.ret (End.KB_ret (End.K_ret (End.retV (z1 rfl) (congrArg (AV.int .i64) ?_)))))))
     unfold bstC
     first | rw [if_pos (by assumption)] | rw [if_neg (by assumption)]
     split <;> (try split) <;> simp_all <;> omega
   refine W.skip (End.KB (End.K (zr (za (zi 0) (zk (W.ret (End.retV (z1 rfl) (congrArg (AV.int .i64) ?_))))))))
   unfold bstC
   first | rw [if_pos (by assumption)] | rw [if_neg (by assumption)]
   split <;> (try split) <;> simp_all <;> omega
 refine zw (W.seq (W.block (zr (zf fa35_1 rfl 1 (zq (Q.load1 rfl (zt 1 rfl) ag3 rfl) (zf fa35_1 rfl 1 (zq (Q.load1 rfl (zt 0 rfl) ag3 rfl) (zq (Q.bin rfl rfl rfl (bv_lss (ltA_eq _ _))) (za rfl (zk (W.condDS rfl (fun hc10 => ?_) (fun hc10 => ?_))))))))))))
 · refine zr (za rfl (zk (W.ret (End.KB_ret (End.K_ret (End.retV (z1 rfl) (congrArg (AV.int .i64) ?_)))))))
   unfold bstC
   first | rw [if_pos (by assumption)] | rw [if_neg (by assumption)]
   split <;> (try split) <;> simp_all <;> omega
 refine zr (zf fa35_1 rfl 1 (zq (Q.load1 rfl (zt 1 rfl) ag3 rfl) (zf fa35_1 rfl 1 (zq (Q.load1 rfl (zt 0 rfl) ag3 rfl) (zq (Q.bin rfl rfl rfl (bv_gtr (ltA_eq _ _))) (za rfl (zk (W.sub (zc 16 rfl zzn) (W.condDS rfl (fun hc16 => ?_) (fun hc16 => ?_))))))))))
 · refine zr (za (zi 1) (zk (W.ret (End.KB_ret (End.K_ret (End.retV (z1 rfl) (congrArg (AV.int .i64) ?_)))))))
   unfold bstC
   first | rw [if_pos (by assumption)] | rw [if_neg (by assumption)]
   split <;> (try split) <;> simp_all <;> omega
 refine W.skip (End.KB (End.K (zr (za (zi 0) (zk (W.ret (End.retV (z1 rfl) (congrArg (AV.int .i64) ?_))))))))
 unfold bstC
 first | rw [if_pos (by assumption)] | rw [if_neg (by assumption)]
 split <;> (try split) <;> simp_all <;> omega

theorem clonE_nil  : Spec tab 105 [.nils] [] [] (Val (.nils)) := by
 refine Spec.enter' (ft_get 105 Tryz.func105) rfl (m := 8) rfl (rs := [.tmp 2]) rfl (st := [(0, .nils)]) rfl rfl (fun _ => rfl) (fun E => zr (za rfl (zk (W.seq (zr (zm rfl (zq (Q.bin rfl rfl rfl (bv_eqNN ud22)) (zk (W.condT rfl (zr (za rfl (zk (W.ret (End.K_ret (End.retV (z1 rfl) ?_)))))))))))))))
 rfl

theorem clonE_some (hs : HSt) (V : List El) (b : Nat) (hS : Src hs 2 (.slice b 0 V.length 2) V.length (cE V)) (hl : V.length ≤ 1048576) : Spec tab 105 [.slice b 0 V.length 2] [] hs (fun v D => OwnE 2 (cE V) V.length v D) := by
 refine Spec.enter' (ft_get 105 Tryz.func105) rfl (m := 8) rfl (rs := [.tmp 2]) rfl (st := [(0, .slice b 0 V.length 2)]) rfl rfl (fun _ => rfl) (fun E => zr (za rfl (zk (W.seq (zr (zm rfl (zq (Q.bin rfl rfl rfl (bv_eqSN ud22)) (zk (W.condF rfl (zw (zr (WO.bslice ud22 sz35 zr35 rfl oPs_nil rfl (cs := []) rfl rfl rfl (fun b1 => zm rfl (WO.appAny (A := _) ap22_22 (OwnE.cons rfl) rfl rfl (Src.mono (fun e he => MemH.tl ⟨e.w, by obtain ⟨b, o, w⟩ := e; exact he⟩) hS) (cE_len V) (by omega) (by decide) (SubH.of_perm (List.perm_append_singleton _ _)) rfl (fun v7 hp7 hO7 => za rfl (zk (W.ret ?_)))))))))))))))))
 refine End.ret (z1 rfl) (hs' := hp7) (by rw [one1]; simpa using hO7) (OwnE.w hO7) gc

theorem clonE_spec (hs : HSt) (V : List El) (v : AV) (hV : EIn hs V v) (hl : V.length ≤ 1048576) : Spec tab 105 [v] [] hs (fun v D => OwnE 2 (cE V) V.length v D) := by
  rcases id hV.1 with ⟨rfl, rfl⟩ | ⟨b, sz, ex, rfl, hm⟩
  · intro h hh
    obtain ⟨v, h', hs', h1, ⟨h2, h3⟩, h4, h5⟩ := clonE_nil h (hh.sub (SubH.nil _))
    exact ⟨v, h', hs', h1, .inl ⟨rfl, rfl, h2, h3⟩, h4, h5⟩
  · exact clonE_some hs V b (Src.all hm (cE_len V)) hl
theorem best_spec (hs : HSt) (hro : ∀ e ∈ hs, e.w = false) (V : List El) (v : AV) (hV : EIn hs V v) (hB : EBd V) (op : List Nat) (ho : Bytes op) (k : Int) : Spec tab 62 [.str op, v, .int .i64 k] [] hs (fun u D => ∃ (g : Nat → Nat) (X : List El), PermOn 0 V.length id g ∧ SrtOn (bleN op V) 0 V.length g ∧ P2 X = (P2 (vF (eg V) g V.length)).take (min (max 0 k) (V.length : Int)).toNat ∧ VOwn X u D) := by
 have hBl := hB.1
 have hL : ∀ i, LIn hs (eg V i).2.1 (eg V i).1 := fun i => lin_any hV.2 i
 have hLb : ∀ i, LBd (eg V i).2.1 := fun i => lbd_any hB i
 have hI : ∀ i, I64 (eg V i).2.2 := fun i => i64_any hB i
 have hL0 : ∀ i, beq0 (eg V i).1 (eg V i).1 = true := fun i => LIn.bq0 (hL i)
 refine Spec.enter' (ft_get 62 Tryz.func62) rfl (m := 33) rfl (rs := [.tmp 6]) rfl (st := [(0, .str op), (1, v), (2, .int .i64 k)]) rfl rfl (fun _ => rfl) (fun E => zr (WO.box rfl rfl (bx9 _ rfl) rfl (fun b1 => za rfl (zk (zr (zm rfl (WO.call0 rfl (oLs_cons rfl oLs_nil) rfl (clonE_spec hs V v hV hBl) (SubR.tl (SubR.self hro)) rfl (fun v11 D11 hP11 => WO.subH (hs' := _ :: (hs ++ D11)) (SubH.of_perm (perm_tail (N := []) (G := D11) (K := [_]) (X := hs))) (za rfl (zk (zr (zm rfl (zq (Q.makeF (oLs_cons rfl oLs_nil)) ?_)))))))))))))
 (obtain ⟨SB, hSB⟩ : ∃ SB : HSt, SB = [⟨b1, ⟨1, true, (AV.str op).cells⟩, true⟩] := ⟨_, rfl⟩; refine WO.subH (hs' := hs ++ SB ++ D11) (by subst hSB; exact gc) ?_)
 refine WO.callS (M := D11) (A := (hs ++ SB)) rfl (oLs_cons rfl (oLs_cons rfl oLs_nil)) rfl (OwnE.w hP11) gc (ssf_own (ro SB ++ hs) (ro_app hro) V _ _ hP11 (fun i => (hL i).mono fun b o h => h.app) hBl (bstC op · ·) 106 [.ptr b1 0] (fun x y => bst1_spec (ro SB ++ hs) (ro_app hro) _ _ _ _ ((hL x).mono fun b o h => h.app) ((hL y).mono fun b o h => h.app) _ _ op ho b1 ⟨false, by rw [hSB]; exact List.mem_cons_self⟩) op (fun x y => rfl)) (SubR.mix gc hro) rfl (fun v14 D14 hP14 => ?_)
 obtain ⟨g, hO14, pg, sg⟩ := hP14
 refine WO.subH (hs' := (hs ++ SB ++ D14)) (SubH.of_perm (perm_tail (N := []) (G := D14) (K := []) (X := hs ++ SB))) (zk (zr (za rfl (zk (W.seq (zr (zm rfl (zq (Q.minmax true (oLs_cons (zi 0) (oLs_cons rfl oLs_nil)) mm_maxI) (zm rfl (zq (Q.len ud22 rfl hP11.len) (zq (Q.minmax false (oLs_cons rfl (oLs_cons rfl oLs_nil)) mm_minI) (zq (Q.move (zi 0)) (zk (W.sub (zc 20 rfl (zc 19 rfl (zc 8 rfl (zc 7 rfl zzn)))) (W.block (W.loop_ind5 (fun (i : Nat) (X : List El) (u : AV) (hp : HSt) (hl : HSt) => [(7, v11), (8, u), (19, .int .i64 (min (max ((0 : Nat) : Int) k) ((V.length : Nat) : Int))), (20, .int .i64 ((i : Nat) : Int))]) (fun (i : Nat) (X : List El) (u : AV) (hp : HSt) (hl : HSt) => (hs ++ SB ++ D14 ++ hp ++ hl)) (fun (i : Nat) (X : List El) (u : AV) (hp : HSt) (hl : HSt) => i ≤ V.length ∧ ((i : Nat) : Int) ≤ min (max 0 k) (V.length : Int) ∧ P2 X = (P2 (vF (eg V) g V.length)).take i ∧ X.length = i ∧ OwnE 2 (cE X) X.length u hp ∧ (∀ x ∈ X, LIn hl x.2.1 x.1) ∧ WZ hl ∧ EBd X) (fun (i : Nat) (X : List El) (u : AV) (hp : HSt) (hl : HSt) => V.length - i) (0) ([]) (.nils) ([]) ([]) ⟨Nat.zero_le _, by omega, by rfl, rfl, OwnE.nil 2, fun x hx => by simp at hx, WZ.nil, ebd_nil⟩ zv (by rw [List.append_nil, List.append_nil]; exact SubH.refl _) (fun i X u hp hl hI0 ih0 => ?_)))))))))))))))))
 obtain ⟨h1, h2, h3, h4, hO, hL2, hwz, hXB⟩ := hI0
 have hw := hwz.w
 refine zr (zq (Q.bin rfl rfl rfl (bv_lss (ltA_eq _ _))) (zk (W.seq (W.condDS rfl (fun hc21 => ?_) (fun hc21 => ?_)))))
 · obtain ⟨bw, exw, rfl, hhw⟩ := OwnE.full hO14 (by omega)
   have mw : (⟨bw, ⟨2, exw, cE (vF (eg V) g V.length)⟩, true⟩ : HE) ∈ D14 := (by rw [hhw]; simp)
   refine zw (W.seq (W.block (zr (zm rfl (za rfl (zk (W.reg (zm rfl (zm rfl (zm rfl (zq (Q.iaddrS ud22 sz35 rfl rfl zo) (zq (Q.loadN rfl (List.mem_append_left _ (List.mem_append_left _ (List.mem_append_right _ mw))) ag35 sz35 (vF_at zo)) (WO.call0 rfl (oLs_cons rfl oLs_nil) rfl (cpy_spec hs hro _ _ (hL _) (hLb _) _) (SubR.appl (SubR.appl (SubR.appl (SubR.appl (SubR.self hro))))) rfl (fun v28 D28 hP28 => ?_))))))))))))))
   obtain ⟨lv28, rfl, hP28'⟩ := hP28
   refine WO.subH (hs' := (hs ++ SB ++ D14 ++ hl ++ D28 ++ hp)) (SubH.of_perm (perm_tailO (N := []) (G := D28) (K := []) (X := hs ++ SB ++ D14 ++ hp ++ hl) (by simp only [List.append_assoc, List.nil_append]; exact List.perm_iff_count.2 (by intro z; simp only [List.append_eq, List.count_append, List.count_nil]; omega)))) (WO.bslice ud22 sz35 zr35 rfl (oPs_cons rfl oPs_nil) rfl (cs := [_, _]) rfl (and_tt (OwnE.cell hP28') rfl) rfl (fun b2 => WO.appAny (A := ([] ++ hs ++ SB ++ D14 ++ hl ++ D28)) ap22_22 hO rfl rfl (Src.slice (zt 0 rfl) rfl) rfl (by omega) (by decide) (SubH.of_sublist (List.sublist_cons_self _ _)) rfl (fun v30 hp30 hO30 => za rfl (WO.nil (End.KB (End.K (W.reg (zq (Q.bin rfl (zi 1) rfl zp) (zm rfl (WO.nil (End.KL (W.sub zv (W.subH gc (ih0 (i + 1) (X ++ [(lv28, (eg V (g i)).2)]) (v30) (hp30) (hl ++ D28) ?_ ?_))))))))))))))
   · exact ⟨by omega, by omega, by rw [p2_snoc, h3, take_wg (by omega)], by simp [h4], own_snoc hO30, lin_snoc hL2 (LIn.own hP28'), WZ.app hwz (OwnE.wz hP28'), ebd_put hXB (by omega) ⟨hLb _, hI _⟩⟩
   exact zo
 refine W.exit (End.K_exit (End.KL_exit (End.KB_hit (End.K (zr (zm rfl (za rfl (zk (W.ret ?_)))))))))
 refine End.ret (z1 rfl) (hs' := hp ++ hl) ⟨g, X, pg, sg, by rw [h3]; congr 1; omega, ⟨hp, hl, rfl, hO, hL2, hwz, hXB⟩⟩ (wa (OwnE.w hO) hw) gc
theorem ud139 : tab.und 139 = some (.int .u64) := by kernel_rfl
theorem len64_spec (n : Nat) (hn : n ≤ 256) : Spec tab 140 [.int .u64 (n : Nat)] [] [] (ValE (fun u => ∃ r : Nat, r ≤ 300 ∧ u = .int .i64 (r : Nat))) := by
 refine Spec.enter' (ft_get 140 Tryz.func140) rfl (m := 25) rfl (rs := [.tmp 2]) rfl (st := [(0, .int .u64 (n : Nat))]) rfl rfl (fun _ => rfl) (fun E => zr (za (zi 0) (zk (W.seq (zr (zm rfl (zq (Q.bin rfl (oc (v := .int .u64 ((4294967296 : Nat) : Int)) rfl) rfl (bv_geq le_nat)) (zk (W.condDS rfl (fun hc4 => ?_) (fun hc4 => ?_))))))))))
 · exfalso; omega
 refine zw (W.seq (zr (zm rfl (zq (Q.bin rfl (oc (v := .int .u64 ((65536 : Nat) : Int)) rfl) rfl (bv_geq le_nat)) (zk (W.condDS rfl (fun hc8 => ?_) (fun hc8 => ?_)))))))
 · exfalso; omega
 refine zw (W.seq (zr (zm rfl (zq (Q.bin rfl (oc (v := .int .u64 ((256 : Nat) : Int)) rfl) rfl (bv_geq le_nat)) (zk (W.condDS rfl (fun hc14 => ?_) (fun hc14 => ?_)))))))
 · obtain rfl : n = 256 := (by omega)
   refine zr (zm rfl (zq (Q.bin rfl (oc (v := .int .u64 ((8 : Nat) : Int)) rfl) rfl (show _ = some (AV.int .u64 ((1 : Nat) : Int)) from by rfl)) (za rfl (zk (W.reg (zm rfl (zq (Q.bin rfl (zi 8) rfl zp) (za rfl (zk (zr (zm rfl (zm rfl (zq (Q.convI ud139 ud5 rfl (wr8 zo)) (WO.indexB (by unfold Bytes; decide) ud9 (oc (v := .str [0, 1, 2, 2, 3, 3, 3, 3, 4, 4, 4, 4, 4, 4, 4, 4, 5, 5, 5, 5, 5, 5, 5, 5, 5, 5, 5, 5, 5, 5, 5, 5, 6, 6, 6, 6, 6, 6, 6, 6, 6, 6, 6, 6, 6, 6, 6, 6, 6, 6, 6, 6, 6, 6, 6, 6, 6, 6, 6, 6, 6, 6, 6, 6, 7, 7, 7, 7, 7, 7, 7, 7, 7, 7, 7, 7, 7, 7, 7, 7, 7, 7, 7, 7, 7, 7, 7, 7, 7, 7, 7, 7, 7, 7, 7, 7, 7, 7, 7, 7, 7, 7, 7, 7, 7, 7, 7, 7, 7, 7, 7, 7, 7, 7, 7, 7, 7, 7, 7, 7, 7, 7, 7, 7, 7, 7, 7, 7, 8, 8, 8, 8, 8, 8, 8, 8, 8, 8, 8, 8, 8, 8, 8, 8, 8, 8, 8, 8, 8, 8, 8, 8, 8, 8, 8, 8, 8, 8, 8, 8, 8, 8, 8, 8, 8, 8, 8, 8, 8, 8, 8, 8, 8, 8, 8, 8, 8, 8, 8, 8, 8, 8, 8, 8, 8, 8, 8, 8, 8, 8, 8, 8, 8, 8, 8, 8, 8, 8, 8, 8, 8, 8, 8, 8, 8, 8, 8, 8, 8, 8, 8, 8, 8, 8, 8, 8, 8, 8, 8, 8, 8, 8, 8, 8, 8, 8, 8, 8, 8, 8, 8, 8, 8, 8, 8, 8, 8, 8, 8, 8, 8, 8, 8, 8, 8, 8, 8, 8, 8, 8, 8, 8, 8, 8, 8, 8]) (by kernel_rfl)) rfl zo rfl (fun c22 hd22 hb22 => zq (Q.convI ud5 ud3 rfl (wr64 zo)) (zq (Q.bin rfl rfl rfl zp) (za rfl (zk (W.sub (zc 2 rfl zzn) (W.ret (End.retE (z1 rfl) ?_)))))))))))))))))))))
   exact ⟨_, by omega, rfl⟩
 refine zw (zr (zm rfl (zm rfl (zq (Q.convI ud139 ud5 rfl (wr8 zo)) (WO.indexB (by unfold Bytes; decide) ud9 (oc (v := .str [0, 1, 2, 2, 3, 3, 3, 3, 4, 4, 4, 4, 4, 4, 4, 4, 5, 5, 5, 5, 5, 5, 5, 5, 5, 5, 5, 5, 5, 5, 5, 5, 6, 6, 6, 6, 6, 6, 6, 6, 6, 6, 6, 6, 6, 6, 6, 6, 6, 6, 6, 6, 6, 6, 6, 6, 6, 6, 6, 6, 6, 6, 6, 6, 7, 7, 7, 7, 7, 7, 7, 7, 7, 7, 7, 7, 7, 7, 7, 7, 7, 7, 7, 7, 7, 7, 7, 7, 7, 7, 7, 7, 7, 7, 7, 7, 7, 7, 7, 7, 7, 7, 7, 7, 7, 7, 7, 7, 7, 7, 7, 7, 7, 7, 7, 7, 7, 7, 7, 7, 7, 7, 7, 7, 7, 7, 7, 7, 8, 8, 8, 8, 8, 8, 8, 8, 8, 8, 8, 8, 8, 8, 8, 8, 8, 8, 8, 8, 8, 8, 8, 8, 8, 8, 8, 8, 8, 8, 8, 8, 8, 8, 8, 8, 8, 8, 8, 8, 8, 8, 8, 8, 8, 8, 8, 8, 8, 8, 8, 8, 8, 8, 8, 8, 8, 8, 8, 8, 8, 8, 8, 8, 8, 8, 8, 8, 8, 8, 8, 8, 8, 8, 8, 8, 8, 8, 8, 8, 8, 8, 8, 8, 8, 8, 8, 8, 8, 8, 8, 8, 8, 8, 8, 8, 8, 8, 8, 8, 8, 8, 8, 8, 8, 8, 8, 8, 8, 8, 8, 8, 8, 8, 8, 8, 8, 8, 8, 8, 8, 8, 8, 8, 8, 8, 8, 8]) (by kernel_rfl)) rfl zo rfl (fun c22 hd22 hb22 => zq (Q.convI ud5 ud3 rfl (wr64 zo)) (zq (Q.bin rfl rfl rfl zp) (za rfl (zk (W.ret (End.retE (z1 rfl) ?_)))))))))))
 exact ⟨_, by omega, rfl⟩

theorem lenb_spec (n : Nat) (hn : n ≤ 256) : Spec tab 100 [.int .u64 (n : Nat)] [] [] (ValE (fun u => ∃ r : Nat, r ≤ 300 ∧ u = .int .i64 (r : Nat))) := by
 refine Spec.enter' (ft_get 100 Tryz.func100) rfl (m := 8) rfl (rs := [.tmp 2]) rfl (st := [(0, .int .u64 (n : Nat))]) rfl rfl (fun _ => rfl) (fun E => zr (za (zi 0) (zk (W.seq (W.condF rfl (zw (zr (zm rfl (WO.callE rfl (oLs_cons rfl oLs_nil) rfl (len64_spec n hn) SubR.nil rfl (fun v7 hP7 => ?_))))))))))
 obtain ⟨r, hr, rfl⟩ := hP7
 refine za rfl (zk (W.ret (End.retE (z1 rfl) ?_)))
 exact ⟨r, hr, rfl⟩

theorem gins_nil (F : Nat) (caps : List AV) : Spec tab 131 [.nils, .int .i64 ((0 : Nat) : Int), .int .i64 ((0 : Nat) : Int), .func F caps] [] [] (Val (.tuple [])) := by
 refine Spec.enter' (ft_get 131 Tryz.func131) rfl (m := 53) rfl (rs := []) rfl (st := [(0, .nils), (1, .int .i64 ((0 : Nat) : Int)), (2, .int .i64 ((0 : Nat) : Int)), (3, .func F caps)]) rfl rfl (fun _ => rfl) (fun E => zr (zm rfl (zq (Q.bin rfl (zi 1) rfl (bv_add (c := (((1 : Nat)) : Int)) (by decide))) (za rfl (zk (W.block (W.loop (W.seq (zr (zm rfl (zm rfl (zq (Q.bin rfl rfl rfl (bv_lss (p := false) rfl)) (zk (W.condF rfl (W.exit ?_)))))))))))))))
 refine End.K_exit (End.KL_exit (End.KB_hit (End.fall ResL.nil ⟨rfl, rfl⟩ no_wl (SubH.nil _))))

theorem gpdq_nil (F : Nat) (caps : List AV) (lim : Nat) : Spec tab 99 [.nils, .int .i64 ((0 : Nat) : Int), .int .i64 ((0 : Nat) : Int), .int .i64 (lim : Nat), .func F caps] [] [] (Val (.tuple [])) := by
 refine Spec.enter' (ft_get 99 Tryz.func99) rfl (m := 148) rfl (rs := []) rfl (st := [(0, .nils), (1, .int .i64 ((0 : Nat) : Int)), (2, .int .i64 ((0 : Nat) : Int)), (3, .int .i64 (lim : Nat)), (4, .func F caps)]) rfl rfl (fun _ => rfl) (fun E => zr (za rfl (zk (zr (za rfl (zk (W.block (W.loop (W.block (zr (zm rfl (zm rfl (zq (Q.bin rfl rfl rfl (bv_sub (c := (((0 : Nat)) : Int)) (by decide))) (za rfl (zk (W.seq (zr (zm rfl (zq (Q.bin rfl (zi 12) rfl (bv_leq (p := true) rfl)) (zk (W.condT rfl (zr (zm rfl ?_)))))))))))))))))))))))
 refine zm rfl (zm rfl (zm rfl (WO.callV rfl (oLs_cons rfl (oLs_cons rfl (oLs_cons rfl (oLs_cons rfl oLs_nil)))) rfl (gins_nil F caps) SubR.nil rfl (zk (W.sub zzn (W.ret ?_))))))
 refine End.K_ret (End.KB_ret (End.KL_ret (End.KB_ret (End.ret ResL.nil ⟨rfl, rfl⟩ no_wl (SubH.nil _)))))

theorem gsrt_nil (F : Nat) (caps : List AV) : Spec tab 59 [.nils, .func F caps] [] [] (Val (.tuple [])) := by
 refine Spec.enter' (ft_get 59 Tryz.func59) rfl (m := 14) rfl (rs := []) rfl (st := [(0, .nils), (1, .func F caps)]) rfl rfl (fun _ => rfl) (fun E => zr (zm rfl (zq (Q.len ud81 rfl rfl) (za rfl (zk (W.reg (zm rfl (zm rfl (zm rfl (zq (Q.convI ud3 ud121 rfl (wru64 zo)) (WO.callE rfl (oLs_cons rfl oLs_nil) rfl (lenb_spec 0 (by omega)) SubR.nil rfl (fun v11 hP11 => ?_))))))))))))
 obtain ⟨lim, hlim, rfl⟩ := hP11
 refine zm rfl (WO.callV rfl (oLs_cons rfl (oLs_cons (zi 0) (oLs_cons rfl (oLs_cons rfl (oLs_cons rfl oLs_nil))))) rfl (gpdq_nil F caps lim) SubR.nil rfl (WO.nil ?_))
 refine End.fall ResL.nil ⟨rfl, rfl⟩ no_wl (SubH.nil _)

theorem gins_one (B : Nat) (ex : Bool) (l : List AV) (hs : HSt) (hro : ∀ e ∈ hs, e.w = false) (F : Nat) (caps : List AV) : Spec tab 131 [.slice B 0 1 1, .int .i64 ((0 : Nat) : Int), .int .i64 ((1 : Nat) : Int), .func F caps] [B] (⟨B, ⟨1, ex, l⟩, true⟩ :: hs) (fun v D => D = [⟨B, ⟨1, ex, l⟩, true⟩]) := by
 refine Spec.enter' (ft_get 131 Tryz.func131) rfl (m := 53) rfl (rs := []) rfl (st := [(0, .slice B 0 1 1), (1, .int .i64 ((0 : Nat) : Int)), (2, .int .i64 ((1 : Nat) : Int)), (3, .func F caps)]) rfl rfl (fun _ => rfl) (fun E => zr (zm rfl (zq (Q.bin rfl (zi 1) rfl (bv_add (c := (((1 : Nat)) : Int)) (by decide))) (za rfl (zk (W.block (W.loop (W.seq (zr (zm rfl (zm rfl (zq (Q.bin rfl rfl rfl (bv_lss (p := false) rfl)) (zk (W.condF rfl (W.exit ?_)))))))))))))))
 refine End.K_exit (End.KL_exit (End.KB_hit (End.fall ResL.nil (hs' := [⟨B, ⟨1, ex, l⟩, true⟩]) rfl (ww no_wl) (SubH.of_sublist (List.Sublist.cons_cons _ (List.nil_sublist _))))))

theorem gpdq_one (B : Nat) (ex : Bool) (l : List AV) (hs : HSt) (hro : ∀ e ∈ hs, e.w = false) (F : Nat) (caps : List AV) (lim : Nat) : Spec tab 99 [.slice B 0 1 1, .int .i64 ((0 : Nat) : Int), .int .i64 ((1 : Nat) : Int), .int .i64 (lim : Nat), .func F caps] [B] (⟨B, ⟨1, ex, l⟩, true⟩ :: hs) (fun v D => D = [⟨B, ⟨1, ex, l⟩, true⟩]) := by
 refine Spec.enter' (ft_get 99 Tryz.func99) rfl (m := 148) rfl (rs := []) rfl (st := [(0, .slice B 0 1 1), (1, .int .i64 ((0 : Nat) : Int)), (2, .int .i64 ((1 : Nat) : Int)), (3, .int .i64 (lim : Nat)), (4, .func F caps)]) rfl rfl (fun _ => rfl) (fun E => zr (za rfl (zk (zr (za rfl (zk (W.block (W.loop (W.block (zr (zm rfl (zm rfl (zq (Q.bin rfl rfl rfl (bv_sub (c := (((1 : Nat)) : Int)) (by decide))) (za rfl (zk (W.seq (zr (zm rfl (zq (Q.bin rfl (zi 12) rfl (bv_leq (p := true) rfl)) (zk (W.condT rfl (zr (zm rfl ?_)))))))))))))))))))))))
 refine zm rfl (zm rfl (zm rfl (WO.call1 rfl (oLs_cons rfl (oLs_cons rfl (oLs_cons rfl (oLs_cons rfl oLs_nil)))) rfl (i := 0) rfl (gins_one B ex l hs hro F caps) (SubR.self hro) (hs' := _) rfl rfl (fun v30 D30 hP30 => ?_))))
 obtain rfl := hP30
 refine zk (W.sub zzn (W.ret ?_))
 refine End.K_ret (End.KB_ret (End.KL_ret (End.KB_ret (End.ret ResL.nil (hs' := [⟨B, ⟨1, ex, l⟩, true⟩]) rfl (ww no_wl) (SubH.of_sublist (List.Sublist.cons_cons _ (List.nil_sublist _)))))))

theorem gsrt_one (B : Nat) (ex : Bool) (l : List AV) (hs : HSt) (hro : ∀ e ∈ hs, e.w = false) (F : Nat) (caps : List AV) : Spec tab 59 [.slice B 0 1 1, .func F caps] [B] (⟨B, ⟨1, ex, l⟩, true⟩ :: hs) (fun v D => D = [⟨B, ⟨1, ex, l⟩, true⟩]) := by
 refine Spec.enter' (ft_get 59 Tryz.func59) rfl (m := 14) rfl (rs := []) rfl (st := [(0, .slice B 0 1 1), (1, .func F caps)]) rfl rfl (fun _ => rfl) (fun E => zr (zm rfl (zq (Q.len ud81 rfl rfl) (za rfl (zk (W.reg (zm rfl (zm rfl (zm rfl (zq (Q.convI ud3 ud121 rfl (wru64 zo)) (WO.callE rfl (oLs_cons rfl oLs_nil) rfl (lenb_spec 1 (by omega)) SubR.nil rfl (fun v11 hP11 => ?_))))))))))))
 obtain ⟨lim, hlim, rfl⟩ := hP11
 refine zm rfl (WO.call1 rfl (oLs_cons rfl (oLs_cons (zi 0) (oLs_cons rfl (oLs_cons rfl (oLs_cons rfl oLs_nil))))) rfl (i := 0) rfl (gpdq_one B ex l hs hro F caps lim) (SubR.self hro) (hs' := _) rfl rfl (fun v13 D13 hP13 => ?_))
 obtain rfl := hP13
 refine WO.nil ?_
 refine End.fall ResL.nil (hs' := [⟨B, ⟨1, ex, l⟩, true⟩]) rfl (ww no_wl) (SubH.of_sublist (List.Sublist.cons_cons _ (List.nil_sublist _)))
def SrtOK (M : Nat) : Prop := ∀ (G : List Ge) (v : AV) (hp hs : HSt) (hro : ∀ e ∈ hs, e.w = false) (F : Nat) (caps : List AV), Own 1 (G.map (·.2)) G.length v hp → G.length ≤ M →
  (∀ x ∈ G, ∀ y ∈ G, ∃ c : Int, Spec tab F ([x.2, y.2] ++ caps) [] hs (Val (.int .i64 c))) →
  Spec tab 59 [v, .func F caps] (hp.map (·.b)) (hp ++ hs) (fun u D => ∃ G' : List Ge, G'.Perm G ∧ Own 1 (G'.map (·.2)) G'.length v D)
theorem srt_one : SrtOK 1 := by
  intro G v hp hs hro F caps hO hM hC
  rcases id hO with ⟨h1, h2, rfl, rfl⟩ | ⟨b, ex, rfl, rfl, h3, h4⟩
  · intro h hh
    obtain ⟨v, h', hs', g1, ⟨g2, g3⟩, g4, g5⟩ := gsrt_nil F caps h (hh.sub (SubH.nil _))
    exact ⟨v, h', hs', g1, ⟨G, List.Perm.refl _, by subst g3; exact hO⟩, g4, g5⟩
  · have e1 : G.length = 1 := by omega
    have hs1 := gsrt_one b ex (G.map (·.2)) hs hro F caps
    rw [e1]
    refine hs1.mono fun u D hD => ?_
    subst hD
    refine ⟨G, List.Perm.refl _, ?_⟩
    rw [e1] at hO ⊢
    exact hO
end Go.Proofs.YtmblgaehfjheeaaGreat.Ev
