/- Chapter 19, walks: elements in order, by the document. -/
import Derived.Test.YtmblgaehfjheeaaGreatGYr
namespace Go.Proofs.YtmblgaehfjheeaaGreat.Ev
open Go.RowKit
set_option linter.unusedVariables false
set_option linter.unusedSimpArgs false
set_option maxRecDepth 100000
set_option maxHeartbeats 1000000
theorem cE_sub : ∀ {V : List El} {m k : Nat}, m + k ≤ V.length → sub? (cE V) (m * 2) (k * 2) = some (cE ((V.drop m).take k)) := by
 intro V m k h
 have hd : ∀ (V : List El) (m : Nat), (cE V).drop (m * 2) = cE (V.drop m) := by
  intro V m
  induction m generalizing V with
  | zero => simp
  | succ m ih =>
   cases V with
   | nil => simp [cE]
   | cons x V => rw [Nat.succ_mul, cE_cons, show m * 2 + 2 = m * 2 + 1 + 1 by omega, List.drop_succ_cons, List.drop_succ_cons, List.drop_succ_cons, ih]
 have ht : ∀ (V : List El) (m : Nat), (cE V).take (m * 2) = cE (V.take m) := by
  intro V m
  induction m generalizing V with
  | zero => simp [cE]
  | succ m ih =>
   cases V with
   | nil => simp [cE]
   | cons x V => rw [Nat.succ_mul, cE_cons, show m * 2 + 2 = m * 2 + 1 + 1 by omega, List.take_succ_cons, List.take_succ_cons, List.take_succ_cons, ih, cE_cons]
 unfold sub?
 have e : Nat.ble (m * 2 + k * 2) (cE V).length = true := by rw [Nat.ble_eq, cE_len]; omega
 simp only [e]
 rw [hd, ht]
theorem WO.sliceE {tb : Tab} {n : Nat} {E : Env} {s : St} {hs : HSt} {R : T AV → AHeap → Prop} {ops rest : List Oper} {d : Nat} {ty : TypeId} {pos : String} {aft : Array Edge} {t e : TypeId} {ox : Operand} {lo hi : Option Operand} {v : AV} {W : List El} {hp : HSt} {m j : Nat}
  (hu : tb.und t = some (.slice e)) (hz : tb.size e = some 2) (hx : oL s ox = some v) (hO : OwnE 2 (cE W) W.length v hp) (hb : bL s W.length lo hi = some (m, j)) (hm : m ≤ j ∧ j ≤ W.length) (hd : Nat.blt d n = true)
  (hk : ∀ u, (∀ hs' : HSt, (∀ x ∈ hp, x ∈ hs') → Src hs' 2 u (j - m) (cE ((W.drop m).take (j - m)))) → WO tb n ops rest E ((d, u) :: s) hs R) :
  WO tb n ops (⟨some d, .slice t ox lo hi none, ty, pos, aft, none⟩ :: rest) E s hs R := by
 rcases hO with ⟨h1, h2, rfl, rfl⟩ | ⟨b, ex, rfl, rfl, h3⟩
 ·obtain rfl : W = [] := List.length_eq_zero_iff.1 h1
  refine WO.q (v := .nils) ?_ hd (hk .nils fun hs' _ => ?_)
  ·intro tm h ht hh call
   show Res.q (evSlice tb tm h.objs t ox lo hi none) = _
   unfold evSlice
   simp only [hu, oL_ok ht hx]
   rw [show (0 : Nat) = ([] : List El).length from rfl, bL_ok ht hb hm]
   simp only [hz]
  ·simp only [List.length_nil] at hm
   have : j = 0 := by omega
   have : m = 0 := by omega
   subst m j
   exact Src.nils
 ·refine WO.q (Q.sliceL hu hz hx hb hm) hd (hk _ fun hs' hh => ?_)
  refine Src.slice (hh _ List.mem_cons_self) ?_
  rw [Nat.zero_add]
  exact cE_sub zy
theorem ord_0 {V : List El} : OrdR (P2 (V.take 0)) 0 (P2 []) := .inr ⟨rfl, by simp [P2], List.Pairwise.nil⟩
theorem ins_len {W : List El} {x : El} {j : Nat} (hj : j ≤ W.length) : (W.take j ++ [x] ++ W.drop j).length = W.length + 1 := by simp; omega
theorem own_ins {X V : List El} {i j : Nat} {v : AV} {hp : HSt} (hj : j ≤ X.length) (h : OwnE 2 ([] ++ cE ((X.drop 0).take (j - 0)) ++ [(eg V i).1, .int .i64 (eg V i).2.2] ++ cE ((X.drop j).take (X.length - j))) (0 + (j - 0) + 1 + (X.length - j)) v hp) : OwnE 2 (cE (X.take j ++ [eg V i] ++ X.drop j)) (X.take j ++ [eg V i] ++ X.drop j).length v hp := by
 rw [List.take_of_length_le (show (X.drop j).length ≤ X.length - j by simp)] at h
 rw [ins_len hj, cE_append, cE_append]
 have e2 : 0 + (j - 0) + 1 + (X.length - j) = X.length + 1 := by omega
 rw [e2] at h
 exact h
theorem ins_mem {W V : List El} {i j : Nat} (h : ∀ x ∈ W, x ∈ V) (hi : i < V.length) : ∀ x ∈ W.take j ++ [eg V i] ++ W.drop j, x ∈ V := by
 intro x hx
 rcases List.mem_append.1 hx with hx | hx
 ·rcases List.mem_append.1 hx with hx | hx
  ·exact h x (List.mem_of_mem_take hx)
  ·rw [List.mem_singleton.1 hx]; exact eg_mem hi
 ·exact h x (List.mem_of_mem_drop hx)
theorem p2_eg {V : List El} {i : Nat} (h : i < V.length) : (P2 V)[i]? = some (eg V i).2 := by
 simp [P2, eg, List.getElem?_map, List.getElem?_eq_getElem h, List.getD_eq_getElem?_getD]
theorem ord_ins {V W : List El} {i j : Nat} (h : OrdR (P2 (V.take i)) 0 (P2 W)) (hi : i < V.length) (hj : j ≤ W.length) (hlo : ∀ k, k < j → cmpL (eg W k).2.1 (eg V i).2.1 < 0) (hhi : j < W.length → 0 < cmpL (eg W j).2.1 (eg V i).2.1) : OrdR (P2 (V.take (i + 1))) 0 (P2 (W.take j ++ [eg V i] ++ W.drop j)) := by
 rcases h with ⟨h, _⟩ | ⟨_, h1, h2⟩
 ·cases h
 refine .inr ⟨rfl, ?_, ?_⟩
 ·rw [take_el hi]
  unfold P2 at *
  rw [List.map_append, List.map_append, List.map_append, List.append_assoc]
  have e : (W.take j).map (·.2) ++ (W.drop j).map (·.2) = W.map (·.2) := by rw [← List.map_append, List.take_append_drop]
  show ((W.take j).map (·.2) ++ ((eg V i).2 :: (W.drop j).map (·.2))).Perm _
  refine List.perm_middle.trans ?_
  rw [e]
  exact (List.Perm.cons _ h1).trans (List.perm_append_singleton _ _).symm
 ·have hat : ∀ k (hk : k < W.length), W[k] = eg W k := fun k hk => by simp [eg, List.getD_eq_getElem?_getD, List.getElem?_eq_getElem hk]
  have hlt : ∀ k l, k < l → l < W.length → cmpL (eg W k).2.1 (eg W l).2.1 < 0 := by
   intro k l hkl hl
   have := List.pairwise_iff_getElem.1 h2 k l (by simp [P2]; omega) (by simp [P2]; omega) hkl
   simp only [P2, List.getElem_map] at this
   rwa [hat, hat] at this
  have hup : ∀ k, j ≤ k → k < W.length → cmpL (eg V i).2.1 (eg W k).2.1 < 0 := by
   intro k hk hkl
   have h3 : cmpL (eg V i).2.1 (eg W j).2.1 = -1 := by
    have := hhi zy
    have h4 := cmpL_swap (eg W j).2.1 (eg V i).2.1
    have h5 := cmpL_three (eg V i).2.1 (eg W j).2.1
    omega
   rcases Nat.lt_or_ge j k with q | q
   ·have h6 := hlt j k q hkl
    have h7 := cmpL_three (eg W j).2.1 (eg W k).2.1
    rw [cmpL_trans h3 zy]; decide
   ·rw [show k = j by omega, h3]; decide
  unfold P2
  rw [List.map_append, List.map_append, List.append_assoc]
  refine List.pairwise_append.2 ⟨?_, ?_, ?_⟩
  ·unfold P2 at h2
   rw [← List.take_append_drop j W, List.map_append] at h2
   exact (List.pairwise_append.1 h2).1
  ·refine List.pairwise_cons.2 ⟨fun a ha => ?_, ?_⟩
   ·obtain ⟨y, hy, rfl⟩ := List.mem_map.1 ha
    obtain ⟨k, hk, rfl⟩ := List.getElem_of_mem hy
    rw [List.getElem_drop, hat]
    exact hup _ zy (by simp at hk; omega)
   ·unfold P2 at h2
    rw [← List.take_append_drop j W, List.map_append] at h2
    exact (List.pairwise_append.1 h2).2.1
  ·intro a ha b hb
   obtain ⟨x, hx, rfl⟩ := List.mem_map.1 ha
   obtain ⟨k, hk, rfl⟩ := List.getElem_of_mem hx
   simp only [List.length_take] at hk
   rw [List.getElem_take, hat]
   rcases List.mem_cons.1 hb with rfl | hb
   ·exact hlo k zy
   ·obtain ⟨y, hy, rfl⟩ := List.mem_map.1 hb
    obtain ⟨l, hl, rfl⟩ := List.getElem_of_mem hy
    rw [List.getElem_drop, hat]
    simp only [List.length_drop] at hl
    exact hlt k _ zy zy
theorem ord_same {V W : List El} {i j : Nat} (h : OrdR (P2 (V.take i)) 0 (P2 W)) (hi : i < V.length) (hj : j < W.length) (e : (eg W j).2.1 = (eg V i).2.1) : OrdR (P2 V) 17 (P2 []) := by
 rcases h with ⟨h, _⟩ | ⟨_, h1, h2⟩
 ·cases h
 refine .inl ⟨rfl, rfl, fun hn => ?_⟩
 have hm : (eg W j).2 ∈ P2 (V.take i) := h1.mem_iff.1 (List.mem_of_getElem? (p2_eg hj))
 have e2 : P2 V = P2 (V.take i) ++ P2 (V.drop i) := by unfold P2; rw [← List.map_append, List.take_append_drop]
 rw [e2, List.map_append] at hn
 refine (List.nodup_append.1 hn).2.2 _ (List.mem_map.2 ⟨_, hm, rfl⟩) (eg V i).2.1 (List.mem_map.2 ⟨(eg V i).2, ?_, rfl⟩) e
 refine List.mem_map.2 ⟨eg V i, ?_, rfl⟩
 have : (V.drop i)[0]? = some (eg V i) := by simp [eg, List.getD_eq_getElem?_getD, List.getElem?_eq_getElem hi]
 exact List.mem_of_getElem? this
theorem rord_spec (hs : HSt) (hro : ∀ e ∈ hs, e.w = false) (V : List El) (v : AV) (hV : EIn hs V v) (hB : EBd V) : Spec tab 25 [v] [] hs (fun u D => ∃ (e : Nat) (W : List El) (w : AV), OrdR (P2 V) e (P2 W) ∧ (∀ x ∈ W, x ∈ V) ∧ OwnE 2 (cE W) W.length w D ∧ u = .tuple [w, .int .i64 (e : Nat)]) := by
 have hBl := hB.1
 refine Spec.en (ftg 25 Tryz.func25) rfl (m := 69) rfl (rs := [.tmp 2, .tmp 3]) rfl (st := [(0, v)]) rfl rfl (fun _ => rfl) (fun E => zr (za rfl (za (zi 0) (zk (zr (za rfl (zk (W.seq (zr (za (zi 0) (zk (W.block (W.loop_ind4 (fun (i : Nat) (X : List El) (u : AV) (hp : HSt) => [(0, v), (4, u), (5, .int .i64 ((i : Nat) : Int))]) (fun (i : Nat) (X : List El) (u : AV) (hp : HSt) => (hs ++ hp)) (fun (i : Nat) (X : List El) (u : AV) (hp : HSt) => i ≤ V.length ∧ OrdR (P2 (V.take i)) 0 (P2 X) ∧ (∀ x ∈ X, x ∈ V) ∧ OwnE 2 (cE X) X.length u hp ∧ X.length = i) (fun (i : Nat) (X : List El) (u : AV) (hp : HSt) => V.length - i) (0) ([]) (.nils) ([]) ⟨Nat.zero_le _, ord_0, fun x hx => by simp at hx, OwnE.nil 2, rfl⟩ zv app_nil_sub (fun i X u hp hI0 ih0 => ?_))))))))))))))
 obtain ⟨h1, h2, h3, hO, h5⟩ := hI0
 have hWL : ∀ x ∈ X, LIn hs x.2.1 x.1 := fun x hx => hV.2 x (h3 x hx)
 have hWB : EBd X := ⟨by omega, fun x hx => hB.2 x (h3 x hx)⟩
 refine W.seq (zr (zm rfl (zm rfl (zq (Q.len ud22 rfl (EIn.len hV)) (zq (Q.bin rfl rfl rfl (bvl ltn)) (zk (W.cD rfl (fun hc11 => ?_) (fun hc11 => ?_))))))))
 ·obtain ⟨bv, szv, exv, rfl, wv, mv⟩ := EIn.full hV zy
  have h1' : i < V.length := zy
  refine zw (W.seq (W.block (zr (za (zi 0) (zk (W.seq (W.block (W.loop_ind (fun (j : Nat) => [(0, .slice bv 0 V.length 2), (4, u), (5, .int .i64 ((i : Nat) : Int)), (6, .int .i64 ((j : Nat) : Int))]) (fun (j : Nat) => (hs ++ hp)) (fun (j : Nat) => j ≤ X.length ∧ ∀ k, k < j → cmpL (eg X k).2.1 (eg V i).2.1 < 0) (fun (j : Nat) => X.length - j) (0) ⟨Nat.zero_le _, fun k q => by omega⟩ zv (SubH.refl _) (fun j hI1 ih1 => ?_)))))))))
  obtain ⟨hj, hlo⟩ := hI1
  refine W.seq (W.seq (W.regT (by kernel_rfl) (zm rfl (zm rfl (zq (Q.len ud22 rfl hO.len) (zq (Q.bin rfl rfl rfl (bvl ltn)) (zm rfl (WO.sD (d := 18) rfl (fun hc18 => ?_) (fun hc18 => ?_)))))))))
  ·obtain ⟨bo, exo, rfl, hh⟩ := OwnE.full hO zy
   have mo : (⟨bo, ⟨2, exo, cE X⟩, true⟩ : HE) ∈ hp := (by rw [hh]; exact List.mem_cons_self)
   refine WO.gT rfl rfl (zm rfl (WO.gT rfl rfl (zm rfl (WO.gT rfl rfl (zq (Q.iS ud22 sz35 rfl rfl zo) (WO.gT rfl rfl (zq (Q.fieldAddr fa35_0 rfl rfl) (WO.gT rfl rfl (zq (Q.l1 rfl (List.mem_append_right _ mo) ag33 (cE_f0 zo)) (WO.gT rfl rfl (zm rfl (WO.gT rfl rfl (zm rfl (WO.gT rfl rfl (zq (Q.iS ud22 sz35 rfl rfl zo) (WO.gT rfl rfl (zq (Q.fieldAddr fa35_0 rfl rfl) (WO.gT rfl rfl (zq (Q.l1 rfl (List.mem_append_left _ mv) ag33 (cE_f0 zo)) (WO.gT rfl rfl (WO.cV rfl (oLc rfl (oLc rfl oz)) rfl (rcmp_spec hs hro _ _ _ _ (lin_any hWL _) (hV.at zy) (lbd_any hWB _) (hB.at zy).1) (SubR.appl (SubR.s hro)) rfl (WO.gT rfl rfl (zq (Q.bin rfl (zi 0) rfl (bvl (ltA_eq _ _))) ?_)))))))))))))))))))))))
   refine zq (Q.pT rfl rfl) (zk (W.sub (zc 31 rfl (zc 0 rfl (zc 4 rfl (zc 5 rfl (zc 6 rfl zzn))))) (W.cD rfl (fun hc31 => ?_) (fun hc31 => ?_))))
   ·refine zw (W.block (W.reg (zm rfl (zq (Q.bin rfl (zi 1) rfl zp) (za rfl (WO.nil (End.KB (End.KL (W.sub zv (W.sH (SubH.refl _) (ih1 (j + 1) ?_ ?_)))))))))))
    ·exact ⟨by omega, fun k q => by rcases Nat.lt_or_ge k j with q1 | q1; exact hlo k q1; obtain rfl : k = j := zy; simpa using hc31⟩
    exact zo
   refine W.exit (End.Kx (End.Lx (End.Bh (End.K (W.seq (W.seq (W.regT (by kernel_rfl) (zm rfl (zm rfl (zq (Q.len ud22 rfl rfl) (zq (Q.bin rfl rfl rfl (bvl ltn)) (zm rfl (WO.sD (d := 38) rfl (fun hc38 => ?_) (fun hc38 => ?_))))))))))))))
   ·refine WO.gT rfl rfl (zm rfl (WO.gT rfl rfl (zm rfl (WO.gT rfl rfl (zq (Q.iS ud22 sz35 rfl rfl zo) (WO.gT rfl rfl (zq (Q.fieldAddr fa35_0 rfl rfl) (WO.gT rfl rfl (zq (Q.l1 rfl (List.mem_append_right _ mo) ag33 (cE_f0 zo)) (WO.gT rfl rfl (zm rfl (WO.gT rfl rfl (zm rfl (WO.gT rfl rfl (zq (Q.iS ud22 sz35 rfl rfl zo) (WO.gT rfl rfl (zq (Q.fieldAddr fa35_0 rfl rfl) (WO.gT rfl rfl (zq (Q.l1 rfl (List.mem_append_left _ mv) ag33 (cE_f0 zo)) (WO.gT rfl rfl (WO.cV rfl (oLc rfl (oLc rfl oz)) rfl (rsame_spec hs hro _ _ _ _ (lin_any hWL _) (hV.at zy) (lbd_any hWB _) (hB.at zy).1) (SubR.appl (SubR.s hro)) rfl (zq (Q.pT rfl rfl) (zk ?_)))))))))))))))))))))))
    refine W.sub (zc 50 rfl (zc 0 rfl (zc 4 rfl (zc 5 rfl (zc 6 rfl zzn))))) (W.cD rfl (fun hc50 => ?_) (fun hc50 => ?_))
    ·refine zr (za rfl (za (zi 17) (zk (W.ret ?_))))
     refine End.Kr (End.Br (End.Kr (End.Lr (End.Br (End.Kr (End.ret (ResL.tmp rfl (z1 rfl)) (hs' := []) ⟨17, [], .nils, ord_same h2 h1' zy hc50, fun x hx => by simp at hx, OwnE.nil 2, rfl⟩ no_wl (SubH.nil _)))))))
    refine zw (zr (WO.bslice ud22 sz35 zr35 rfl opn rfl (cs := []) rfl rfl rfl (fun b1 => zm rfl (zm rfl (WO.sliceE ud22 sz35 rfl hO rfl ⟨by first | omega | (simp at * <;> omega), by first | omega | (simp at * <;> omega)⟩ rfl (fun u54 hu54 => WO.appAny (A := _) ap22_22 (OwnE.cons rfl) rfl rfl (hu54 _ (by intro e he; simp [he])) (by rw [cE_len]; simp; omega) zo (by decide) (SubH.op (List.perm_append_singleton _ _)) rfl (fun v55 hp55 hO55 => za rfl (zk (zr (zm rfl (zm rfl (zm rfl (zq (Q.iS ud22 sz35 rfl rfl zo) (zq (Q.loadN rfl (List.mem_append_left _ (List.mem_append_left _ mv)) ag35 sz35 (cE_at zo)) (WO.bslice ud22 sz35 zr35 rfl (opc rfl opn) rfl (cs := [_, _]) rfl (and_tt (LIn.cell (hV.at zy)) rfl) rfl (fun b2 => WO.appAny (A := ([] ++ hs ++ hp)) ap22_22 hO55 rfl rfl (Src.slice (zt 0 rfl) rfl) rfl zo (by decide) (SubH.of_sublist (List.sublist_cons_self _ _)) rfl (fun v62 hp62 hO62 => za rfl (zk (W.reg (zm rfl (zm rfl (zm rfl (WO.sliceE ud22 sz35 rfl hO rfl ⟨by first | omega | (simp at * <;> omega), by first | omega | (simp at * <;> omega)⟩ rfl (fun u66 hu66 => ?_))))))))))))))))))))))))
    refine WO.appAny (A := ([] ++ hs ++ hp)) ap22_22 hO62 rfl rfl (hu66 _ (by intro e he; simp [he])) (by rw [cE_len]; simp) zo (by decide) (SubH.refl _) rfl (fun v67 hp67 hO67 => za rfl (WO.nil (End.KB (End.K (W.sub (zc 4 rfl (zc 0 rfl (zc 5 rfl zzn))) (W.reg (zm rfl (zq (Q.bin rfl (zi 1) rfl zp) (za rfl (WO.nil (End.KL (W.sub zv (W.sH gc (ih0 (i + 1) (X.take j ++ [eg V i] ++ X.drop j) (v67) (hp67) ?_ ?_))))))))))))))
    ·exact ⟨by omega, ord_ins h2 h1' hj hlo (fun _ => by have := mt cmpL_eq.1 hc50; omega), ins_mem h3 h1', own_ins hj hO67, by rw [ins_len hj, h5]⟩
    exact zo
   omega
  refine zg rfl rfl (zg rfl rfl (zg rfl rfl (zg rfl rfl (zg rfl rfl (zg rfl rfl (zg rfl rfl (zg rfl rfl (zg rfl rfl (zg rfl rfl (zg rfl rfl (zg rfl rfl (zq (Q.pF rfl rfl) (zk (W.sub (zc 31 rfl (zc 0 rfl (zc 4 rfl (zc 5 rfl (zc 6 rfl zzn))))) (W.condF rfl (W.exit (End.Kx (End.Lx (End.Bh (End.K (W.seq (W.seq (W.regT (by kernel_rfl) (zm rfl (zm rfl (zq (Q.len ud22 rfl hO.len) ?_))))))))))))))))))))))))))
  refine zq (Q.bin rfl rfl rfl (bvl ltn)) (zm rfl (WO.sD (d := 38) rfl (fun hc38 => ?_) (fun hc38 => ?_)))
  ·omega
  refine zg rfl rfl (zg rfl rfl (zg rfl rfl (zg rfl rfl (zg rfl rfl (zg rfl rfl (zg rfl rfl (zg rfl rfl (zg rfl rfl (zg rfl rfl (zg rfl rfl (zq (Q.pF rfl rfl) (zk (W.sub (zc 50 rfl (zc 0 rfl (zc 4 rfl (zc 5 rfl (zc 6 rfl zzn))))) (W.condF rfl (zw (zr (WO.bslice ud22 sz35 zr35 rfl opn rfl (cs := []) rfl rfl rfl (fun b3 => zm rfl (zm rfl (WO.sliceE ud22 sz35 rfl hO rfl ⟨by first | omega | (simp at * <;> omega), by first | omega | (simp at * <;> omega)⟩ rfl (fun u54 hu54 => WO.appAny (A := _) ap22_22 (OwnE.cons rfl) rfl rfl (hu54 _ (by intro e he; simp [he])) (by rw [cE_len]; simp; omega) zo (by decide) (SubH.op (List.perm_append_singleton _ _)) rfl (fun v55 hp55 hO55 => za rfl (zk ?_)))))))))))))))))))))))
  refine zr (zm rfl (zm rfl (zm rfl (zq (Q.iS ud22 sz35 rfl rfl zo) (zq (Q.loadN rfl (List.mem_append_left _ (List.mem_append_left _ mv)) ag35 sz35 (cE_at zo)) (WO.bslice ud22 sz35 zr35 rfl (opc rfl opn) rfl (cs := [_, _]) rfl (and_tt (LIn.cell (hV.at zy)) rfl) rfl (fun b4 => WO.appAny (A := ([] ++ hs ++ hp)) ap22_22 hO55 rfl rfl (Src.slice (zt 0 rfl) rfl) rfl zo (by decide) (SubH.of_sublist (List.sublist_cons_self _ _)) rfl (fun v62 hp62 hO62 => za rfl (zk (W.reg (zm rfl (zm rfl (zm rfl (WO.sliceE ud22 sz35 rfl hO rfl ⟨by first | omega | (simp at * <;> omega), by first | omega | (simp at * <;> omega)⟩ rfl (fun u66 hu66 => WO.appAny (A := ([] ++ hs ++ hp)) ap22_22 hO62 rfl rfl (hu66 _ (by intro e he; simp [he])) (by rw [cE_len]; simp) zo (by decide) (SubH.refl _) rfl (fun v67 hp67 hO67 => za rfl (WO.nil (End.KB (End.K (W.sub (zc 4 rfl (zc 0 rfl (zc 5 rfl zzn))) (W.reg (zm rfl (zq (Q.bin rfl (zi 1) rfl zp) (za rfl ?_))))))))))))))))))))))))
  refine WO.nil (End.KL (W.sub zv (W.sH gc (ih0 (i + 1) (X.take j ++ [eg V i] ++ X.drop j) (v67) (hp67) ?_ ?_))))
  ·exact ⟨by omega, ord_ins h2 h1' hj hlo (fun q => absurd q zy), ins_mem h3 h1', own_ins hj hO67, by rw [ins_len hj, h5]⟩
  exact zo
 refine W.exit (End.Kx (End.Lx (End.Bh (End.K (zr (zm rfl (za rfl (za (zi 0) (zk (W.ret ?_))))))))))
 refine End.ret (ResL.tmp rfl (z1 rfl)) (hs' := hp) ⟨0, X, u, by rw [List.take_of_length_le zy] at h2; exact h2, h3, hO, rfl⟩ (OwnE.w hO) gc
theorem ebd_nil : EBd [] := ⟨by simp, fun x hx => by simp at hx⟩
theorem ord_ebd {X W : List El} {e : Nat} (h : OrdR (P2 X) e (P2 W)) (hm : ∀ x ∈ W, x ∈ X) (hB : EBd X) : EBd W := by
 refine ⟨?_, fun x hx => hB.2 x (hm x hx)⟩
 rcases h with ⟨_, h, _⟩ | ⟨_, h, _⟩
 ·have : W.length = 0 := by have := congrArg List.length h; simpa [P2] using this
  omega
 ·have := h.length_eq
  simp only [P2, List.length_map] at this
  have := hB.1
  omega
def WZ (hl : HSt) : Prop := ∀ e ∈ hl, e.w = true ∧ e.o.sz = 2
theorem WZ.nil : WZ [] := fun e he => by simp at he
theorem WZ.w {hl : HSt} (h : WZ hl) : ∀ e ∈ hl, e.w = true := fun e he => (h e he).1
theorem WZ.app {a b : HSt} (h : WZ a) (g : WZ b) : WZ (a ++ b) := fun e he => (List.mem_append.1 he).elim (h e) (g e)
theorem OwnE.wz {cells : List AV} {len : Nat} {v : AV} {hp : HSt} (h : OwnE 2 cells len v hp) : WZ hp := by
 rcases h with ⟨_, _, _, rfl⟩ | ⟨b, ex, _, rfl, _⟩
 ·exact WZ.nil
 ·intro e he
  rw [List.mem_singleton.1 he]
  exact ⟨rfl, rfl⟩
def VOwn (W : List El) (w : AV) (D : HSt) : Prop := ∃ hp hl, D = hp ++ hl ∧ OwnE 2 (cE W) W.length w hp ∧ (∀ x ∈ W, LIn hl x.2.1 x.1) ∧ WZ hl ∧ EBd W
theorem VOwn.nil : VOwn [] .nils [] := ⟨[], [], rfl, OwnE.nil 2, fun x hx => by simp at hx, WZ.nil, ebd_nil⟩
def eachL (op : List Nat) (low high : Int) (V : List El) : List PE := V.map fun x => (x.2.1.filter (dropP [[95, 95, 110, 97, 109, 101, 95, 95]]), oneM op x.2.2 low high)
theorem eachL_len {op : List Nat} {low high : Int} {V : List El} : (eachL op low high V).length = V.length := by simp [eachL]
open Classical in
noncomputable def eachPre (op : List Nat) (low high : Int) (V : List El) : Option Nat :=
 if vchk V ≠ 0 then some (vchk V) else if op = [99, 108, 97, 109, 112] ∧ ¬ (fitB low = true ∧ fitB high = true) then some 2 else if ¬ opK op then some 9 else if op = [99, 108, 97, 109, 112] ∧ high < low then some 0
 else if ∃ i, i < V.length ∧ fitB (oneM op (eg V i).2.2 low high) = false then some 11 else none
def EachR (op : List Nat) (low high : Int) (V : List El) (e : Nat) (W : List PE) : Prop := (eachPre op low high V = some e ∧ W = []) ∨ (eachPre op low high V = none ∧ OrdR (eachL op low high V) e W)
theorem each_pre {op : List Nat} {low high : Int} {V : List El} {e : Nat} (h : eachPre op low high V = some e) : EachR op low high V e (P2 []) := .inl ⟨h, rfl⟩
theorem each_go {op : List Nat} {low high : Int} {V : List El} {e : Nat} {W : List PE} (h : eachPre op low high V = none) (g : OrdR (eachL op low high V) e W) : EachR op low high V e W := .inr ⟨h, g⟩
theorem EachR.fn {op : List Nat} {low high : Int} {V : List El} {e e' : Nat} {W W' : List PE} (h : EachR op low high V e W) (g : EachR op low high V e' W') : e = e' ∧ W = W' := by
 rcases h with ⟨h1, h2⟩ | ⟨h1, h2⟩ <;> rcases g with ⟨g1, g2⟩ | ⟨g1, g2⟩
 ·rw [h1] at g1; cases g1; exact ⟨rfl, h2.trans g2.symm⟩
 ·rw [h1] at g1; cases g1
 ·rw [h1] at g1; cases g1
 ·exact h2.fn g2
section
variable {op : List Nat} {low high : Int} {V : List El}
theorem eachPre_1 (h : vchk V ≠ 0) : eachPre op low high V = some (vchk V) := if_pos h
theorem eachPre_2 (h : vchk V = 0) (hc : op = [99, 108, 97, 109, 112]) (hf : fitB low = false ∨ fitB high = false) : eachPre op low high V = some 2 := by
 unfold eachPre
 rw [if_neg (by simp [h]), if_pos ⟨hc, by rcases hf with hf | hf <;> simp [hf]⟩]
theorem eachPre_9 (h : vchk V = 0) (hk : ¬ opK op) : eachPre op low high V = some 9 := by
 have : op ≠ [99, 108, 97, 109, 112] := fun e => hk (by unfold opK; simp [e])
 unfold eachPre
 rw [if_neg (by simp [h]), if_neg (by simp [this]), if_pos hk]
theorem eachPre_0 (h : vchk V = 0) (hc : op = [99, 108, 97, 109, 112]) (h1 : fitB low = true) (h2 : fitB high = true) (hlt : high < low) : eachPre op low high V = some 0 := by
 have : opK op := by unfold opK; simp [hc]
 unfold eachPre
 rw [if_neg (by simp [h]), if_neg (by simp [h1, h2]), if_neg (by simp [this]), if_pos ⟨hc, hlt⟩]
theorem eachPre_11 (h : vchk V = 0) (hk : opK op) (hcl : op = [99, 108, 97, 109, 112] → fitB low = true ∧ fitB high = true ∧ low ≤ high) {i : Nat} (hi : i < V.length) (hf : fitB (oneM op (eg V i).2.2 low high) = false) : eachPre op low high V = some 11 := by
 unfold eachPre
 rw [if_neg (by simp [h]), if_neg (fun g => g.2 ⟨(hcl g.1).1, (hcl g.1).2.1⟩), if_neg (by simp [hk]), if_neg (fun g => by have := (hcl g.1).2.2; omega), if_pos ⟨i, hi, hf⟩]
theorem eachPre_no (h : vchk V = 0) (hk : opK op) (hcl : op = [99, 108, 97, 109, 112] → fitB low = true ∧ fitB high = true ∧ low ≤ high) (hf : ∀ i, i < V.length → fitB (oneM op (eg V i).2.2 low high) = true) : eachPre op low high V = none := by
 unfold eachPre
 rw [if_neg (by simp [h]), if_neg (fun g => g.2 ⟨(hcl g.1).1, (hcl g.1).2.1⟩), if_neg (by simp [hk]), if_neg (fun g => by have := (hcl g.1).2.2; omega), if_neg (fun ⟨i, hi, g⟩ => by rw [hf i hi] at g; cases g)]
theorem vchk_fit (h : vchk V = 0) {i : Nat} (hi : i < V.length) : fitB (eg V i).2.2 = true := by
 unfold vchk at h
 split at h
 ·rename_i g; exact absurd h g
 ·split at h
  ·rename_i g
   exact of_decide_eq_true g i hi
  ·cases h
theorem each_next {X : List El} {i : Nat} {v : AV} (h : P2 X = (eachL op low high V).take i) (hi : i < V.length) : P2 (X ++ [(v, (eg V i).2.1.filter (dropP [[95, 95, 110, 97, 109, 101, 95, 95]]), oneM op (eg V i).2.2 low high)]) = (eachL op low high V).take (i + 1) := by
 have : (eachL op low high V)[i]? = some ((eg V i).2.1.filter (dropP [[95, 95, 110, 97, 109, 101, 95, 95]]), oneM op (eg V i).2.2 low high) := by
  simp [eachL, eg, List.getElem?_map, List.getElem?_eq_getElem hi, List.getD_eq_getElem?_getD]
 unfold P2 at *
 rw [List.map_append, h, List.take_add_one, this]
 rfl
end
theorem own_snoc {X : List El} {x : El} {v : AV} {hp : HSt} (h : OwnE 2 (cE X ++ [x.1, .int .i64 x.2.2]) (X.length + 1) v hp) : OwnE 2 (cE (X ++ [x])) (X ++ [x]).length v hp := by
 rw [cE_append, List.length_append]; exact h
theorem LIn.own {l : List Lab} {v : AV} {hp : HSt} (h : OwnE 2 (cL l) l.length v hp) : LIn hp l v := by
 rcases h with ⟨h1, _, h2, _⟩ | ⟨b, ex, h1, rfl, _⟩
 ·exact .inl ⟨h2, List.length_eq_zero_iff.1 h1⟩
 ·exact .inr ⟨b, 2, ex, h1, true, List.mem_cons_self⟩
theorem MemH.appl {A hs : HSt} {b : Nat} {o : AObj} (h : MemH hs b o) : MemH (hs ++ A) b o := let ⟨w, g⟩ := h; ⟨w, List.mem_append_left _ g⟩
theorem lin_snoc {X : List El} {x : El} {hl D : HSt} (h : ∀ y ∈ X, LIn hl y.2.1 y.1) (g : LIn D x.2.1 x.1) : ∀ y ∈ X ++ [x], LIn (hl ++ D) y.2.1 y.1 := by
 intro y hy
 rcases List.mem_append.1 hy with hy | hy
 ·exact (h y hy).mono fun b o h => h.appl
 ·rw [List.mem_singleton.1 hy]; exact g.mono fun b o h => h.app
theorem fit_i64 {n : Int} (h : fitB n = true) : I64 n := by
 have := fit_bd h
 unfold I64; omega
theorem ebd_snoc {X : List El} {v : AV} {l : List Lab} {p : Lab → Bool} {n : Int} (h : EBd X) (hl : X.length + 1 ≤ 1048576) (g : LBd l) (hn : fitB n = true) : EBd (X ++ [(v, l.filter p, n)]) := by
 refine ⟨by simp; omega, fun x hx => ?_⟩
 rcases List.mem_append.1 hx with hx | hx
 ·exact h.2 x hx
 ·rw [List.mem_singleton.1 hx]
  exact ⟨⟨Nat.le_trans (List.length_filter_le _ _) g.1, fun y hy => g.2 y (List.mem_filter.1 hy).1⟩, fit_i64 hn⟩
theorem EIn.own {X : List El} {u : AV} {hp hl : HSt} (h : OwnE 2 (cE X) X.length u hp) (g : ∀ x ∈ X, LIn hl x.2.1 x.1) : EIn (ro (hp ++ hl)) X u := by
 refine ⟨?_, fun x hx => (g x hx).mono fun b o h => h.app.ro⟩
 rcases h with ⟨h1, _, h2, _⟩ | ⟨b, ex, h1, rfl, _⟩
 ·exact .inl ⟨h2, List.length_eq_zero_iff.1 h1⟩
 ·exact .inr ⟨b, 2, ex, h1, MemH.ro ⟨true, List.mem_cons_self⟩⟩
end Go.Proofs.YtmblgaehfjheeaaGreat.Ev
