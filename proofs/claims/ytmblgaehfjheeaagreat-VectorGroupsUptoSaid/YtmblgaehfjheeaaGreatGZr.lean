/- Chapter 19: VectorEach, of any vector in memory. -/
import Derived.Test.YtmblgaehfjheeaaGreatGAwN
import Derived.Test.YtmblgaehfjheeaaGreatGAwM
namespace Go.Proofs.YtmblgaehfjheeaaGreat.Ev
open Go.RowKit
set_option linter.unusedVariables false
set_option linter.unusedSimpArgs false
set_option maxRecDepth 100000
set_option maxHeartbeats 1000000
theorem VOwn.ein {W : List El} {w : AV} {D : HSt} (h : VOwn W w D) : EIn (ro D) W w := by
 obtain ⟨hp, hl, rfl, hO, hL, _, _⟩ := h
 exact EIn.own hO hL
theorem VOwn.ebd {W : List El} {w : AV} {D : HSt} (h : VOwn W w D) : EBd W := by
 obtain ⟨hp, hl, rfl, hO, hL, _, h⟩ := h
 exact h
theorem VOwn.w {W : List El} {w : AV} {D : HSt} (h : VOwn W w D) : ∀ e ∈ D, e.w = true := by
 obtain ⟨hp, hl, rfl, hO, hL, h, _⟩ := h
 exact wa (OwnE.w hO) h.w
theorem MemH.ro_l {A hs : HSt} {b : Nat} {o : AObj} (h : MemH (Ev.ro hs) b o) : MemH (Ev.ro (hs ++ A)) b o := by
 obtain ⟨w, g⟩ := h
 obtain ⟨x, hx, e⟩ := List.mem_map.1 g
 exact ⟨w, List.mem_map.2 ⟨x, List.mem_append_left _ hx, e⟩⟩
theorem MemH.ro_r {A hs : HSt} {b : Nat} {o : AObj} (h : MemH (Ev.ro hs) b o) : MemH (Ev.ro (A ++ hs)) b o := by
 obtain ⟨w, g⟩ := h
 obtain ⟨x, hx, e⟩ := List.mem_map.1 g
 exact ⟨w, List.mem_map.2 ⟨x, List.mem_append_right _ hx, e⟩⟩
theorem ro_id : ∀ {b : HSt}, (∀ e ∈ b, e.w = false) → ro b = b
 | [], _ => rfl
 | ⟨c, o, w⟩ :: b, h => by
  have h1 : w = false := h _ List.mem_cons_self
  subst h1
  show _ :: ro b = _
  rw [ro_id fun e he => h e (List.mem_cons_of_mem _ he)]
theorem SubR.mix {a b hs : HSt} (g : SubH (a ++ b) hs) (hb : ∀ e ∈ b, e.w = false) : SubR (Ev.ro a ++ b) hs := by
 have := SubR.ro g
 have e : Ev.ro (a ++ b) = Ev.ro a ++ b := by
  unfold Ev.ro
  rw [List.map_append]
  congr 1
  exact ro_id hb
 rwa [e] at this
theorem p2_at {X V : List El} (h : P2 X = P2 V) (i : Nat) : (eg X i).2 = (eg V i).2 := by
 have hl := congrArg List.length h
 simp only [P2, List.length_map] at hl
 rcases Nat.lt_or_ge i X.length with q | q
 ·have := p2_eg q
  rw [h, p2_eg zy] at this
  exact (Option.some.inj this).symm
 ·rw [eg_out q, eg_out zy]
theorem p2_length {X V : List El} (h : P2 X = P2 V) : X.length = V.length := by
 have hl := congrArg List.length h
 simpa only [P2, List.length_map] using hl
theorem ichk_p2 {X V : List El} (h : P2 X = P2 V) : ichk X = ichk V := by
 have e : ichk1 X = ichk1 V := by
  funext i
  unfold ichk1
  rw [p2_at h i, p2_at h (i - 1)]
 unfold ichk
 rw [e, p2_length h]
theorem fits_p2 {X V : List El} (h : P2 X = P2 V) : fitsE X = fitsE V := by
 unfold fitsE
 rw [p2_length h]
 congr 1
 apply propext
 exact ⟨fun g i hi => by rw [← p2_at h i]; exact g i hi, fun g i hi => by rw [p2_at h i]; exact g i hi⟩
theorem vchk_p2 {X V : List El} (h : P2 X = P2 V) : vchk X = vchk V := by
 unfold vchk
 rw [ichk_p2 h, fits_p2 h]
theorem VRes.ein {hs : HSt} {W : List El} {w : AV} {D : HSt} (h : VRes hs W w D) : EIn (ro D ++ hs) W w := by
 obtain ⟨hp, hl, rfl, hO, hL, _, _⟩ := h
 exact EIn.mixd hO hL
theorem VRes.ebd {hs : HSt} {W : List El} {w : AV} {D : HSt} (h : VRes hs W w D) : EBd W := by
 obtain ⟨hp, hl, rfl, hO, hL, _, h⟩ := h
 exact h
theorem MemH.mixd2 {A D hs : HSt} {b : Nat} {o : AObj} (h : MemH (Ev.ro D ++ hs) b o) : MemH (Ev.ro (A ++ D) ++ hs) b o := by
 obtain ⟨w, g⟩ := h
 rcases List.mem_append.1 g with g | g
 ·exact (MemH.ro_r ⟨w, g⟩).appl
 ·exact ⟨w, List.mem_append_right _ g⟩
def mdN (md : Int) (N : List (List Nat)) : List (List Nat) := if md = 0 then [] else N
def rkeyM (md : Int) (N : List (List Nat)) (A : List Lab) : List Lab := if md = 1 then A.filter (pickP N true) else (A.filter (dropP N)).filter (dropP [[95, 95, 110, 97, 109, 101, 95, 95]])
theorem rkeyM_1 {md : Int} {N : List (List Nat)} {A : List Lab} (h : md = 1) : rkeyM md N A = A.filter (pickP N true) := if_pos h
theorem rkeyM_0 {md : Int} {N : List (List Nat)} {A : List Lab} (h : md ≠ 1) : rkeyM md N A = (A.filter (dropP N)).filter (dropP [[95, 95, 110, 97, 109, 101, 95, 95]]) := if_neg h
theorem rkey_eq {md : Int} {N : List (List Nat)} {A : List Lab} (h : 0 ≤ md ∧ md ≤ 2) : rkeyM md (mdN md N) A = keyM md N A := by
 by_cases h1 : md = 1
 ·rw [rkeyM_1 h1, keyM_1 h1, mdN, if_neg zy]
 ·rw [rkeyM_0 h1]
  by_cases h2 : md = 2
  ·rw [keyM_2 h2, mdN, if_neg zy]
  ·rw [keyM_0 h1 h2, mdN, if_pos zy]
   congr 1
   apply List.filter_eq_self.2
   intro x _
   simp [dropP]
section
variable {op : List Nat} {md : Int} {N : List (List Nat)} {V : List El} {k : List Lab} {i : Nat}
theorem EIn.ownh {hs hp : HSt} {X : List El} {u : AV} (h : OwnE 2 (cE X) X.length u hp) (g : ∀ x ∈ X, LIn hs x.2.1 x.1) : EIn (ro hp ++ hs) X u := by
 have := EIn.mixd (hl := []) h (hs := hs) (fun x hx => by rw [List.append_nil]; exact g x hx)
 rw [List.append_nil] at this
 exact this
end

theorem rkey_spec (hs : HSt) (hro : ∀ e ∈ hs, e.w = false) (A : List Lab) (va : AV) (ha : LIn hs A va) (hA : LBd A) (N : List (List Nat)) (vn : AV) (hN : SIn hs N vn) (hNb : SBd N) (md : Int) : Spec tab 63 [.int .i64 md, vn, va] [] hs (fun v D => OwnE 2 (cL (rkeyM md N A)) (rkeyM md N A).length v D) := by
 refine Spec.en (ftg 63 Tryz.func63) rfl (m := 16) rfl (rs := [.tmp 6]) rfl (st := [(0, .int .i64 md), (1, vn), (2, va)]) rfl rfl (fun _ => rfl) (fun E => zr (za rfl (zk (W.seq (zr (zm rfl (zq (Q.bin rfl (zi 1) rfl (bv_eql eq_int)) (zk (W.cD rfl (fun hc8 => ?_) (fun hc8 => ?_))))))))))
 ·refine zr (zm rfl (zm rfl (WO.call0 rfl (oLc rfl (oLc rfl (oLc rfl oz))) rfl (pick_spec hs hro A _ ha hA N _ hN hNb true) (SubR.s hro) rfl (fun v11 D11 hP11 => WO.subH (hs' := (hs ++ D11)) (SubH.op (perm_tail (N := []) (G := D11) (K := []) (X := hs))) (za rfl (zk (W.ret ?_)))))))
  refine End.Kr (End.ret (z1 rfl) (hs' := D11) (by rw [rkeyM_1 (by simpa using hc8)]; exact hP11) (OwnE.w hP11) gc)
 refine zw (zr (zm rfl (zm rfl (WO.call0 rfl (oLc rfl (oLc rfl (oLc rfl oz))) rfl (pick_spec hs hro A _ ha hA N _ hN hNb false) (SubR.s hro) rfl (fun v14 D14 hP14 => WO.subH (hs' := (hs ++ D14)) (SubH.op (perm_tail (N := []) (G := D14) (K := []) (X := hs))) (WO.call0 rfl (oLc rfl oz) rfl (rnless_spec (ro D14) ro_w _ _ ((LIn.own hP14).mono fun b o h => h.ro) (LBd.filter hA _)) (SubR.ro gc) rfl (fun v15 D15 hP15 => WO.subH (hs' := (hs ++ D14 ++ D15)) (SubH.op (perm_tail (N := []) (G := D15) (K := []) (X := hs ++ D14))) (za rfl (zk (W.ret ?_))))))))))
 refine End.ret (z1 rfl) (hs' := D15) (by rw [rkeyM_0 (by simpa using hc8), ← pick_drop (N := N)]; exact hP15) (OwnE.w hP15) gc

section
variable {op : List Nat} {bl : Bool} {md sd : Int} {N : List (List Nat)} {V U X Y : List El} {e e' : Nat} {W W' : List PE}
theorem coreR.fn (h : coreR op bl md sd N V U e W) (g : coreR op bl md sd N V U e' W') : e = e' ∧ W = W' := by
 rcases h with ⟨h1, h2, h3⟩ | ⟨h1, h2⟩ <;> rcases g with ⟨g1, g2, g3⟩ | ⟨g1, g2⟩
 ·exact ⟨h1.symm.trans g1, h3.trans g3.symm⟩
 ·exact absurd (h1.symm.trans g1) h2
 ·exact absurd (g1.symm.trans h1) g2
 ·exact h2.fn g2
theorem BinR.fn (h : BinR op bl md sd N V U e W) (g : BinR op bl md sd N V U e' W') : e = e' ∧ W = W' := by
 rcases h with ⟨h1, h2⟩ | ⟨h1, h2, h3⟩ | ⟨h1, h2, h3⟩ <;> rcases g with ⟨g1, g2⟩ | ⟨g1, g2, g3⟩ | ⟨g1, g2, g3⟩
 ·rw [h1] at g1; cases g1; exact ⟨rfl, h2.trans g2.symm⟩
 ·rw [h1] at g1; cases g1
 ·rw [h1] at g1; cases g1
 ·rw [h1] at g1; cases g1
 ·exact h3.fn g3
 ·rw [h2] at g2; cases g2
 ·rw [h1] at g1; cases g1
 ·rw [h2] at g2; cases g2
 ·exact h3.fn g3
end

theorem lt_trans3 {x y z : List Lab} (h : cmpL x y < 0) (g : cmpL y z < 0) : cmpL x z < 0 := by
 have q : leL x z := leL_trans (y := y) (by unfold leL; omega) (by unfold leL; omega)
 have q : cmpL x z ≤ 0 := q
 rcases Int.lt_or_eq_of_le q with q | q
 ·exact q
 ·have e := cmpL_eq.1 q
  subst e
  have := cmpL_swap x y
  omega
def Srt (L : List PE) : Prop := L.Pairwise fun x y => cmpL x.1 y.1 < 0
theorem vchk_next {V : List El} (h : vchk V = 0) {i : Nat} (hi : i + 1 < V.length) : cmpL (eg V i).2.1 (eg V (i + 1)).2.1 < 0 := by
 unfold vchk at h
 split at h
 ·rename_i g; exact absurd h g
 rename_i g
 have g : ichk V = 0 := Classical.not_not.1 g
 unfold ichk at g
 split at g
 ·cases g
 have := fstE_all _ _ g (i + 1) (Nat.zero_le _) zy
 unfold ichk1 at this
 split at this
 ·rename_i q; exact absurd this q
 ·split at this
  ·cases this
  ·rename_i q
   rw [Nat.add_sub_cancel] at q
   by_cases q2 : 0 ≤ cmpL (eg V i).2.1 (eg V (i + 1)).2.1
   ·exact absurd ⟨by omega, q2⟩ q
   ·omega
theorem vchk_srt {V : List El} (h : vchk V = 0) : Srt (P2 V) := by
 have key : ∀ d i, i + d + 1 < V.length → cmpL (eg V i).2.1 (eg V (i + d + 1)).2.1 < 0 := by
  intro d
  induction d with
  | zero => intro i hi; exact vchk_next h hi
  | succ d ih => intro i hi; exact lt_trans3 (ih i zy) (vchk_next h (i := i + d + 1) zy)
 unfold Srt
 rw [List.pairwise_iff_getElem]
 intro i j hi hj hij
 have hlen : (P2 V).length = V.length := p2_ln
 have ei : (P2 V)[i] = (eg V i).2 := Option.some.inj ((List.getElem?_eq_getElem hi).symm.trans (p2_eg zy))
 have ej : (P2 V)[j] = (eg V j).2 := Option.some.inj ((List.getElem?_eq_getElem hj).symm.trans (p2_eg zy))
 rw [ei, ej]
 have := key (j - i - 1) i zy
 rwa [show i + (j - i - 1) + 1 = j by omega] at this
theorem ord_one {L M : List PE} {e : Nat} {W : List PE} (hs : Srt M) (hp : M.Perm L) (h : OrdR L e W) : e = 0 ∧ W = M := h.fn (.inr ⟨rfl, hp, hs⟩)
section
variable {md : Int} {N : List (List Nat)} {L M W W1 W2 : List PE} {e e1 e2 : Nat}
theorem srt_filter (h : Srt L) (p : PE → Bool) : Srt (L.filter p) := List.Pairwise.filter p h
theorem srt_nd (h : Srt L) : L.Nodup := by
 unfold Srt at h
 refine List.Pairwise.imp ?_ h
 intro a b q e
 subst e
 have := cmpL_eq.2 (rfl : a.1 = a.1)
 omega
theorem sub_flt {A R : List PE} (hA : Srt A) (hR : Srt R) (hs : ∀ x ∈ A, x ∈ R) : R.filter (fun r => decide (r ∈ A)) = A := by
 have n1 : A.Nodup := srt_nd hA
 have n2 : (R.filter fun r => decide (r ∈ A)).Nodup := srt_nd (srt_filter hR _)
 have hp : A.Perm (R.filter fun r => decide (r ∈ A)) := (List.perm_ext_iff_of_nodup n1 n2).2 fun x => by simp; exact fun hx => hs x hx
 exact (ord_one hA hp (.inr ⟨rfl, List.Perm.refl _, srt_filter hR _⟩)).2
end
theorem VOwn.lin {W : List El} {w : AV} {D : HSt} (h : VOwn W w D) : ∀ x ∈ W, LIn D x.2.1 x.1 := by
 obtain ⟨hp, hl, rfl, hO, hL, _, _⟩ := h
 exact fun x hx => (hL x hx).mono fun b o h => h.app
theorem VOwn.src {W : List El} {w : AV} {D hs : HSt} (h : VOwn W w D) (hm : ∀ e ∈ D, MemH hs e.b e.o) : Src hs 2 w W.length (cE W) := by
 obtain ⟨hp, hl, rfl, hO, hL, _, _⟩ := h
 rcases hO with ⟨h1, h2, rfl, _⟩ | ⟨b, ex, rfl, rfl, h3⟩
 ·rw [h1, h2]; exact Src.nils
 ·exact Src.all (hm ⟨b, ⟨2, ex, cE W⟩, true⟩ (by simp)) h3
def bstC (op : List Nat) (n m : Int) : Int := if op = [116, 111, 112, 107] then (if m < n then -1 else if n < m then 1 else 0) else (if n < m then -1 else if m < n then 1 else 0)
def bleN (op : List Nat) (V : List El) (i j : Nat) : Prop := if op = [116, 111, 112, 107] then ((eg V j).2.2 < (eg V i).2.2 ∨ ((eg V i).2.2 = (eg V j).2.2 ∧ i ≤ j)) else ((eg V i).2.2 < (eg V j).2.2 ∨ ((eg V i).2.2 = (eg V j).2.2 ∧ i ≤ j))
section
variable {op : List Nat} {V : List El} {i j k : Nat}
theorem ble_tr (h : bleN op V i j) (g : bleN op V j k) : bleN op V i k := by
 unfold bleN at *
 split at h
 ·rw [if_pos ‹_›] at g ⊢; omega
 ·rw [if_neg ‹_›] at g ⊢; omega
theorem ble_rf : bleN op V i i := by unfold bleN; split <;> omega
theorem ble_to : bleN op V i j ∨ bleN op V j i := by unfold bleN; split <;> omega
theorem ble_tl (h : i < j) : Tells (bleN op V) (fun x y => bstC op (eg V x).2.2 (eg V y).2.2) i j := by
 unfold Tells bleN bstC
 simp only []
 split
 ·constructor
  ·intro q; split at q
   ·omega
   ·split at q <;> omega
  ·intro q; rw [if_pos zy]; decide
 ·constructor
  ·intro q; split at q
   ·omega
   ·split at q <;> omega
  ·intro q; rw [if_pos zy]; decide
theorem i64_any (hB : EBd V) (i : Nat) : I64 (eg V i).2.2 := by
 rcases Nat.lt_or_ge i V.length with h | h
 ·exact (hB.at h).2
 ·rw [eg_out h]; exact i64_0
theorem p2_snoc {X : List El} {v : AV} {x : PE} : P2 (X ++ [(v, x)]) = P2 X ++ [x] := by unfold P2; rw [List.map_append]; rfl
theorem take_wg {g : Nat → Nat} (h : i < V.length) : (P2 (vF (eg V) g V.length)).take (i + 1) = (P2 (vF (eg V) g V.length)).take i ++ [(eg V (g i)).2] := by
 rw [List.take_add_one]
 congr 1
 unfold P2 vF
 rw [List.getElem?_map, List.getElem?_map, List.getElem?_range h]
 rfl
end
theorem ssf_own (hs : HSt) (hro : ∀ e ∈ hs, e.w = false) (V : List El) (v : AV) (hp : HSt) (hO : OwnE 2 (cE V) V.length v hp) (hL : ∀ i, LIn hs (eg V i).2.1 (eg V i).1) (hN : V.length ≤ 1048576) (c : Int → Int → Int) (F : Nat) (caps : List AV)
  (hC : ∀ x y : Nat, Spec tab F ([.agg [(eg V x).1, .int .i64 (eg V x).2.2], .agg [(eg V y).1, .int .i64 (eg V y).2.2]] ++ caps) [] hs (Val (.int .i64 (c (eg V x).2.2 (eg V y).2.2)))) (op : List Nat) (hop : ∀ x y, c x y = bstC op x y) :
  Spec tab 81 [v, .func F caps] (hp.map (·.b)) (hp ++ hs) (fun u D => ∃ g, OwnE 2 (cE (vF (eg V) g V.length)) V.length v D ∧ PermOn 0 V.length id g ∧ SrtOn (bleN op V) 0 V.length g) := by
 obtain rfl : c = bstC op := by funext x y; exact hop x y
 rcases id hO with ⟨h1, h2, rfl, rfl⟩ | ⟨b, ex, rfl, rfl, h3⟩
 ·have hz : V = [] := List.length_eq_zero_iff.1 h1
  subst hz
  intro h hh
  obtain ⟨v, h', hs', g1, ⟨g2, g3⟩, g4, g5⟩ := ssf_nil F caps h (hh.sub (SubH.nil _))
  exact ⟨v, h', hs', g1, ⟨id, by subst g3; exact OwnE.nil 2, PermOn.refl _ _ _, fun i j _ _ q => absurd q (Nat.not_lt_zero _)⟩, g4, g5⟩
 ·have hs1 := ssf_spec (eg V) (fun x => ⟨LIn.cell (hL x), LIn.bq (hL x), LIn.bq0 (hL x)⟩) b V.length ex hN (fun x y => bstC op (eg V x).2.2 (eg V y).2.2) F caps hs hro hC (bleN op V) (fun x y z => ble_tr) (fun x => ble_rf) (fun x y => ble_to) id (fun i j h _ => ble_tl h)
  rw [vF_id] at hs1
  refine hs1.mono fun u D hD => ?_
  obtain ⟨g, rfl, p, q⟩ := hD
  exact ⟨g, .inr ⟨b, ex, rfl, rfl, (cE_len _).trans (by rw [vF_len])⟩, p, q⟩
theorem bx9 : ∀ l : List AV, l.length = 1 → varObj tab 9 l = ⟨1, true, l⟩ := by intro l h; exact varObj_plain (by kernel_rfl) h
theorem bst1_spec (hs : HSt) (hro : ∀ e ∈ hs, e.w = false) (A B : List Lab) (va vb : AV) (ha : LIn hs A va) (hb : LIn hs B vb) (n m : Int) (op : List Nat) (ho : Bytes op) (b0 : Nat) (m0 : MemH hs b0 ⟨1, true, [.str op]⟩) : Spec tab 106 [.agg [va, .int .i64 n], .agg [vb, .int .i64 m], .ptr b0 0] [] hs (Val (.int .i64 (bstC op n m))) := by
 obtain ⟨w0, m0⟩ := m0
 refine Spec.en (ftg 106 Tryz.func106) rfl (m := 22) rfl (rs := [.tmp 5]) rfl (st := [(0, .agg [va, .int .i64 n]), (1, .agg [vb, .int .i64 m]), (2, .ptr b0 0)]) rfl rfl (fun _ => rfl) (fun E => zr (WO.box rfl (all_c2 (LIn.cell ha)) (bx35 _ rfl) rfl (fun b1 => WO.box rfl (all_c2 (LIn.cell hb)) (bx35 _ rfl) rfl (fun b2 => za (zi 0) (zk (W.seq (zr (zq (Q.l1 rfl (List.mem_cons_of_mem _ (List.mem_cons_of_mem _ m0)) ag9 rfl) (zq (Q.bin rfl (oc (v := .str [116, 111, 112, 107]) (by kernel_rfl)) rfl bv_seql) (zk (W.cD rfl (fun hc7 => ?_) (fun hc7 => ?_))))))))))))
 ·refine W.reg (zq (Q.loadN rfl (zt 0 rfl) ag35 sz35 (l := [_, _]) rfl) (zq (Q.loadN rfl (zt 1 rfl) ag35 sz35 (l := [_, _]) rfl) (WO.store sz35 rfl rfl (i := 1) rfl (ck3 (LIn.cell hb) rfl) (cs := [_, _]) rfl (hs' := _ :: _ :: _) rfl (WO.store sz35 rfl rfl (i := 0) rfl (ck3 (LIn.cell ha) rfl) (cs := [_, _]) rfl (hs' := _ :: _ :: _) rfl (zk (W.seq (W.block (zr (zf fa35_1 rfl 1 (zq (Q.l1 rfl (zt 1 rfl) ag3 rfl) (zf fa35_1 rfl 1 (zq (Q.l1 rfl (zt 0 rfl) ag3 rfl) (zq (Q.bin rfl rfl rfl (bvl (ltA_eq _ _))) (za rfl (zk (W.cD rfl (fun hc10 => ?_) (fun hc10 => ?_)))))))))))))))))
  ·refine zr (za rfl (zk (W.sub (zc 5 rfl zzn) (W.ret (End.Br (End.Kr (End.rV (z1 rfl) (congrArg (AV.int .i64) ?_))))))))
   unfold bstC
   first | rw [if_pos (by assumption)] | rw [if_neg (by assumption)]
   split <;> (try split) <;> simp_all <;> omega
  refine zr (zf fa35_1 rfl 1 (zq (Q.l1 rfl (zt 1 rfl) ag3 rfl) (zf fa35_1 rfl 1 (zq (Q.l1 rfl (zt 0 rfl) ag3 rfl) (zq (Q.bin rfl rfl rfl (bv_gtr (ltA_eq _ _))) (za rfl (zk (W.sub (zc 16 rfl zzn) (W.cD rfl (fun hc16 => ?_) (fun hc16 => ?_))))))))))
  ·refine zr (za (zi 1) (zk (W.ret (End.Br (End.Kr (End.rV (z1 rfl) (congrArg (AV.int .i64) ?_)))))))
   unfold bstC
   first | rw [if_pos (by assumption)] | rw [if_neg (by assumption)]
   split <;> (try split) <;> simp_all <;> omega
  refine W.skip (End.KB (End.K (zr (za (zi 0) (zk (W.ret (End.rV (z1 rfl) (congrArg (AV.int .i64) ?_))))))))
  unfold bstC
  first | rw [if_pos (by assumption)] | rw [if_neg (by assumption)]
  split <;> (try split) <;> simp_all <;> omega
 refine zw (W.seq (W.block (zr (zf fa35_1 rfl 1 (zq (Q.l1 rfl (zt 1 rfl) ag3 rfl) (zf fa35_1 rfl 1 (zq (Q.l1 rfl (zt 0 rfl) ag3 rfl) (zq (Q.bin rfl rfl rfl (bvl (ltA_eq _ _))) (za rfl (zk (W.cD rfl (fun hc10 => ?_) (fun hc10 => ?_))))))))))))
 ·refine zr (za rfl (zk (W.ret (End.Br (End.Kr (End.rV (z1 rfl) (congrArg (AV.int .i64) ?_)))))))
  unfold bstC
  first | rw [if_pos (by assumption)] | rw [if_neg (by assumption)]
  split <;> (try split) <;> simp_all <;> omega
 refine zr (zf fa35_1 rfl 1 (zq (Q.l1 rfl (zt 1 rfl) ag3 rfl) (zf fa35_1 rfl 1 (zq (Q.l1 rfl (zt 0 rfl) ag3 rfl) (zq (Q.bin rfl rfl rfl (bv_gtr (ltA_eq _ _))) (za rfl (zk (W.sub (zc 16 rfl zzn) (W.cD rfl (fun hc16 => ?_) (fun hc16 => ?_))))))))))
 ·refine zr (za (zi 1) (zk (W.ret (End.Br (End.Kr (End.rV (z1 rfl) (congrArg (AV.int .i64) ?_)))))))
  unfold bstC
  first | rw [if_pos (by assumption)] | rw [if_neg (by assumption)]
  split <;> (try split) <;> simp_all <;> omega
 refine W.skip (End.KB (End.K (zr (za (zi 0) (zk (W.ret (End.rV (z1 rfl) (congrArg (AV.int .i64) ?_))))))))
 unfold bstC
 first | rw [if_pos (by assumption)] | rw [if_neg (by assumption)]
 split <;> (try split) <;> simp_all <;> omega

theorem clonE_nil  : Spec tab 105 [.nils] [] [] (Val (.nils)) := by
 refine Spec.en (ftg 105 Tryz.func105) rfl (m := 8) rfl (rs := [.tmp 2]) rfl (st := [(0, .nils)]) rfl rfl (fun _ => rfl) (fun E => zr (za rfl (zk (W.seq (zr (zm rfl (zq (Q.bin rfl rfl rfl (bv_eqNN ud22)) (zk (W.condT rfl (zr (za rfl (zk (W.ret (End.Kr (End.rV (z1 rfl) ?_)))))))))))))))
 rfl

theorem clonE_some (hs : HSt) (V : List El) (b : Nat) (hS : Src hs 2 (.slice b 0 V.length 2) V.length (cE V)) (hl : V.length ≤ 1048576) : Spec tab 105 [.slice b 0 V.length 2] [] hs (fun v D => OwnE 2 (cE V) V.length v D) := by
 refine Spec.en (ftg 105 Tryz.func105) rfl (m := 8) rfl (rs := [.tmp 2]) rfl (st := [(0, .slice b 0 V.length 2)]) rfl rfl (fun _ => rfl) (fun E => zr (za rfl (zk (W.seq (zr (zm rfl (zq (Q.bin rfl rfl rfl (bv_eqSN ud22)) (zk (W.condF rfl (zw (zr (WO.bslice ud22 sz35 zr35 rfl opn rfl (cs := []) rfl rfl rfl (fun b1 => zm rfl (WO.appAny (A := _) ap22_22 (OwnE.cons rfl) rfl rfl (Src.mono (fun e he => MemH.tl ⟨e.w, by obtain ⟨b, o, w⟩ := e; exact he⟩) hS) (cE_len V) zy (by decide) (SubH.op (List.perm_append_singleton _ _)) rfl (fun v7 hp7 hO7 => za rfl (zk (W.ret ?_)))))))))))))))))
 refine End.ret (z1 rfl) (hs' := hp7) (by rw [one1]; simpa using hO7) (OwnE.w hO7) gc

theorem clonE_spec (hs : HSt) (V : List El) (v : AV) (hV : EIn hs V v) (hl : V.length ≤ 1048576) : Spec tab 105 [v] [] hs (fun v D => OwnE 2 (cE V) V.length v D) := by
 rcases id hV.1 with ⟨rfl, rfl⟩ | ⟨b, sz, ex, rfl, hm⟩
 ·intro h hh
  obtain ⟨v, h', hs', h1, ⟨h2, h3⟩, h4, h5⟩ := clonE_nil h (hh.sub (SubH.nil _))
  exact ⟨v, h', hs', h1, .inl ⟨rfl, rfl, h2, h3⟩, h4, h5⟩
 ·exact clonE_some hs V b (Src.all hm (cE_len V)) hl
theorem best_spec (hs : HSt) (hro : ∀ e ∈ hs, e.w = false) (V : List El) (v : AV) (hV : EIn hs V v) (hB : EBd V) (op : List Nat) (ho : Bytes op) (k : Int) : Spec tab 62 [.str op, v, .int .i64 k] [] hs (fun u D => ∃ (g : Nat → Nat) (X : List El), PermOn 0 V.length id g ∧ SrtOn (bleN op V) 0 V.length g ∧ P2 X = (P2 (vF (eg V) g V.length)).take (min (max 0 k) (V.length : Int)).toNat ∧ VOwn X u D) := by
 have hBl := hB.1
 have hL : ∀ i, LIn hs (eg V i).2.1 (eg V i).1 := fun i => lin_any hV.2 i
 have hLb : ∀ i, LBd (eg V i).2.1 := fun i => lbd_any hB i
 have hI : ∀ i, I64 (eg V i).2.2 := fun i => i64_any hB i
 have hL0 : ∀ i, beq0 (eg V i).1 (eg V i).1 = true := fun i => LIn.bq0 (hL i)
 refine Spec.en (ftg 62 Tryz.func62) rfl (m := 33) rfl (rs := [.tmp 6]) rfl (st := [(0, .str op), (1, v), (2, .int .i64 k)]) rfl rfl (fun _ => rfl) (fun E => zr (WO.box rfl rfl (bx9 _ rfl) rfl (fun b1 => za rfl (zk (zr (zm rfl (WO.call0 rfl (oLc rfl oz) rfl (clonE_spec hs V v hV hBl) (SubR.t (SubR.s hro)) rfl (fun v11 D11 hP11 => WO.subH (hs' := _ :: (hs ++ D11)) (SubH.op (perm_tail (N := []) (G := D11) (K := [_]) (X := hs))) (za rfl (zk (zr (zm rfl (zq (Q.makeF (oLc rfl oz)) ?_)))))))))))))
 (obtain ⟨SB, hSB⟩ : ∃ SB : HSt, SB = [⟨b1, ⟨1, true, (AV.str op).cells⟩, true⟩] := ⟨_, rfl⟩; refine WO.subH (hs' := hs ++ SB ++ D11) (by subst hSB; exact gc) ?_)
 refine WO.callS (M := D11) (A := (hs ++ SB)) rfl (oLc rfl (oLc rfl oz)) rfl (OwnE.w hP11) gc (ssf_own (ro SB ++ hs) (ro_app hro) V _ _ hP11 (fun i => (hL i).mono fun b o h => h.app) hBl (bstC op · ·) 106 [.ptr b1 0] (fun x y => bst1_spec (ro SB ++ hs) (ro_app hro) _ _ _ _ ((hL x).mono fun b o h => h.app) ((hL y).mono fun b o h => h.app) _ _ op ho b1 ⟨false, by rw [hSB]; exact List.mem_cons_self⟩) op (fun x y => rfl)) (SubR.mix gc hro) rfl (fun v14 D14 hP14 => ?_)
 obtain ⟨g, hO14, pg, sg⟩ := hP14
 refine WO.subH (hs' := (hs ++ SB ++ D14)) (SubH.op (perm_tail (N := []) (G := D14) (K := []) (X := hs ++ SB))) (zk (zr (za rfl (zk (W.seq (zr (zm rfl (zq (Q.minmax true (oLc (zi 0) (oLc rfl oz)) mm_maxI) (zm rfl (zq (Q.len ud22 rfl hP11.len) (zq (Q.minmax false (oLc rfl (oLc rfl oz)) mm_minI) (zq (Q.move (zi 0)) (zk (W.sub (zc 20 rfl (zc 19 rfl (zc 8 rfl (zc 7 rfl zzn)))) (W.block (W.loop_ind5 (fun (i : Nat) (X : List El) (u : AV) (hp : HSt) (hl : HSt) => [(7, v11), (8, u), (19, .int .i64 (min (max ((0 : Nat) : Int) k) ((V.length : Nat) : Int))), (20, .int .i64 ((i : Nat) : Int))]) (fun (i : Nat) (X : List El) (u : AV) (hp : HSt) (hl : HSt) => (hs ++ SB ++ D14 ++ hp ++ hl)) (fun (i : Nat) (X : List El) (u : AV) (hp : HSt) (hl : HSt) => i ≤ V.length ∧ ((i : Nat) : Int) ≤ min (max 0 k) (V.length : Int) ∧ P2 X = (P2 (vF (eg V) g V.length)).take i ∧ X.length = i ∧ OwnE 2 (cE X) X.length u hp ∧ (∀ x ∈ X, LIn hl x.2.1 x.1) ∧ WZ hl ∧ EBd X) (fun (i : Nat) (X : List El) (u : AV) (hp : HSt) (hl : HSt) => V.length - i) (0) ([]) (.nils) ([]) ([]) ⟨Nat.zero_le _, by omega, by rfl, rfl, OwnE.nil 2, fun x hx => by simp at hx, WZ.nil, ebd_nil⟩ zv (by rw [List.append_nil, List.append_nil]; exact SubH.refl _) (fun i X u hp hl hI0 ih0 => ?_)))))))))))))))))
 obtain ⟨h1, h2, h3, h4, hO, hL2, hwz, hXB⟩ := hI0
 have hw := hwz.w
 refine zr (zq (Q.bin rfl rfl rfl (bvl (ltA_eq _ _))) (zk (W.seq (W.cD rfl (fun hc21 => ?_) (fun hc21 => ?_)))))
 ·obtain ⟨bw, exw, rfl, hhw⟩ := OwnE.full hO14 zy
  have mw : (⟨bw, ⟨2, exw, cE (vF (eg V) g V.length)⟩, true⟩ : HE) ∈ D14 := (by rw [hhw]; simp)
  refine zw (W.seq (W.block (zr (zm rfl (za rfl (zk (W.reg (zm rfl (zm rfl (zm rfl (zq (Q.iS ud22 sz35 rfl rfl zo) (zq (Q.loadN rfl (List.mem_append_left _ (List.mem_append_left _ (List.mem_append_right _ mw))) ag35 sz35 (vF_at zo)) (WO.call0 rfl (oLc rfl oz) rfl (cpy_spec hs hro _ _ (hL _) (hLb _) _) (SubR.appl (SubR.appl (SubR.appl (SubR.appl (SubR.s hro))))) rfl (fun v28 D28 hP28 => ?_))))))))))))))
  obtain ⟨lv28, rfl, hP28'⟩ := hP28
  refine WO.subH (hs' := (hs ++ SB ++ D14 ++ hl ++ D28 ++ hp)) (SubH.op (perm_tailO (N := []) (G := D28) (K := []) (X := hs ++ SB ++ D14 ++ hp ++ hl) (by simp only [List.append_assoc, List.nil_append]; exact List.perm_iff_count.2 (by intro z; simp only [List.append_eq, List.count_append, List.count_nil]; omega)))) (WO.bslice ud22 sz35 zr35 rfl (opc rfl opn) rfl (cs := [_, _]) rfl (and_tt (OwnE.cell hP28') rfl) rfl (fun b2 => WO.appAny (A := ([] ++ hs ++ SB ++ D14 ++ hl ++ D28)) ap22_22 hO rfl rfl (Src.slice (zt 0 rfl) rfl) rfl zy (by decide) (SubH.of_sublist (List.sublist_cons_self _ _)) rfl (fun v30 hp30 hO30 => za rfl (WO.nil (End.KB (End.K (W.reg (zq (Q.bin rfl (zi 1) rfl zp) (zm rfl (WO.nil (End.KL (W.sub zv (W.sH gc (ih0 (i + 1) (X ++ [(lv28, (eg V (g i)).2)]) (v30) (hp30) (hl ++ D28) ?_ ?_))))))))))))))
  ·exact ⟨by omega, by omega, by rw [p2_snoc, h3, take_wg zy], by simp [h4], own_snoc hO30, lin_snoc hL2 (LIn.own hP28'), WZ.app hwz (OwnE.wz hP28'), ebd_put hXB zy ⟨hLb _, hI _⟩⟩
  exact zo
 refine W.exit (End.Kx (End.Lx (End.Bh (End.K (zr (zm rfl (za rfl (zk (W.ret ?_)))))))))
 refine End.ret (z1 rfl) (hs' := hp ++ hl) ⟨g, X, pg, sg, by rw [h3]; congr 1; omega, ⟨hp, hl, rfl, hO, hL2, hwz, hXB⟩⟩ (wa (OwnE.w hO) hw) gc
end Go.Proofs.YtmblgaehfjheeaaGreat.Ev
