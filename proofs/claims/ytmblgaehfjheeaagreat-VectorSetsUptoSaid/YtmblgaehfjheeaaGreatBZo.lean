/- Chapter 19: VectorEach, of any vector in memory. -/
import Derived.Test.YtmblgaehfjheeaaGreatBYv
import Derived.Test.YtmblgaehfjheeaaGreatBAwM
import Derived.Test.YtmblgaehfjheeaaGreatBAwN
import Derived.Test.YtmblgaehfjheeaaGreatBZj
namespace Go.Proofs.YtmblgaehfjheeaaGreat.Ev
open Go.RowKit
set_option linter.unusedVariables false
set_option linter.unusedSimpArgs false
set_option maxRecDepth 100000
set_option maxHeartbeats 1000000
theorem VOwn.ein {W : List El} {w : AV} {D : HSt} (h : VOwn W w D) : EIn (ro D) W w := by
  obtain ⟨hp, hl, rfl, hO, hL, _, _⟩ := h
  exact EIn.own hO hL
theorem VOwn.ebd {W : List El} {w : AV} {D : HSt} (h : VOwn W w D) : EBd W := by
  obtain ⟨hp, hl, rfl, hO, hL, _, h⟩ := h
  exact h
theorem VOwn.w {W : List El} {w : AV} {D : HSt} (h : VOwn W w D) : ∀ e ∈ D, e.w = true := by
  obtain ⟨hp, hl, rfl, hO, hL, h, _⟩ := h
  exact wa (OwnE.w hO) h.w
theorem ro_id : ∀ {b : HSt}, (∀ e ∈ b, e.w = false) → ro b = b
  | [], _ => rfl
  | ⟨c, o, w⟩ :: b, h => by
    have h1 : w = false := h _ List.mem_cons_self
    subst h1
    show _ :: ro b = _
    rw [ro_id fun e he => h e (List.mem_cons_of_mem _ he)]
theorem SubR.mix {a b hs : HSt} (g : SubH (a ++ b) hs) (hb : ∀ e ∈ b, e.w = false) : SubR (Ev.ro a ++ b) hs := by
  have := SubR.ro g
  have e : Ev.ro (a ++ b) = Ev.ro a ++ b := by
    unfold Ev.ro
    rw [List.map_append]
    congr 1
    exact ro_id hb
  rwa [e] at this
theorem p2_length {X V : List El} (h : P2 X = P2 V) : X.length = V.length := by
  have hl := congrArg List.length h
  simpa only [P2, List.length_map] using hl
theorem VRes.ein {hs : HSt} {W : List El} {w : AV} {D : HSt} (h : VRes hs W w D) : EIn (ro D ++ hs) W w := by
  obtain ⟨hp, hl, rfl, hO, hL, _, _⟩ := h
  exact EIn.mixd hO hL
theorem VRes.ebd {hs : HSt} {W : List El} {w : AV} {D : HSt} (h : VRes hs W w D) : EBd W := by
  obtain ⟨hp, hl, rfl, hO, hL, _, h⟩ := h
  exact h
def mdN (md : Int) (N : List (List Nat)) : List (List Nat) := if md = 0 then [] else N
def mdV (md : Int) (v : AV) : AV := if md = 0 then .nils else v
def rkeyM (md : Int) (N : List (List Nat)) (A : List Lab) : List Lab := if md = 1 then A.filter (pickP N true) else (A.filter (dropP N)).filter (dropP [[95, 95, 110, 97, 109, 101, 95, 95]])
def hvL (md : Int) (N : List (List Nat)) (V : List El) (k : List Lab) : List El := V.filter fun y => decide (keyM md N y.2.1 = k)
section
variable {op : List Nat} {md : Int} {N : List (List Nat)} {V : List El} {k : List Lab} {i : Nat}
theorem st2_off {L M : List PE} (h : op ≠ [111, 114]) : M.flatMap (st2 op md N L) = [] := by
  rw [List.flatMap_eq_nil_iff]
  intro x _
  unfold st2; exact if_neg fun g => h g.1
end

section
variable {op : List Nat} {bl : Bool} {md sd : Int} {N : List (List Nat)} {V U X Y : List El} {e e' : Nat} {W W' : List PE}
theorem coreR.fn (h : coreR op bl md sd N V U e W) (g : coreR op bl md sd N V U e' W') : e = e' ∧ W = W' := by
  rcases h with ⟨h1, h2, h3⟩ | ⟨h1, h2⟩ <;> rcases g with ⟨g1, g2, g3⟩ | ⟨g1, g2⟩
  · exact ⟨h1.symm.trans g1, h3.trans g3.symm⟩
  · exact absurd (h1.symm.trans g1) h2
  · exact absurd (g1.symm.trans h1) g2
  · exact h2.fn g2
theorem BinR.fn (h : BinR op bl md sd N V U e W) (g : BinR op bl md sd N V U e' W') : e = e' ∧ W = W' := by
  rcases h with ⟨h1, h2⟩ | ⟨h1, h2, h3⟩ | ⟨h1, h2, h3⟩ <;> rcases g with ⟨g1, g2⟩ | ⟨g1, g2, g3⟩ | ⟨g1, g2, g3⟩
  · rw [h1] at g1; cases g1; exact ⟨rfl, h2.trans g2.symm⟩
  · rw [h1] at g1; cases g1
  · rw [h1] at g1; cases g1
  · rw [h1] at g1; cases g1
  · exact h3.fn g3
  · rw [h2] at g2; cases g2
  · rw [h1] at g1; cases g1
  · rw [h2] at g2; cases g2
  · exact h3.fn g3
end

theorem lt_trans3 {x y z : List Lab} (h : cmpL x y < 0) (g : cmpL y z < 0) : cmpL x z < 0 := by
  have q : leL x z := leL_trans (y := y) (by unfold leL; omega) (by unfold leL; omega)
  have q : cmpL x z ≤ 0 := q
  rcases Int.lt_or_eq_of_le q with q | q
  · exact q
  · have e := cmpL_eq.1 q
    subst e
    have := cmpL_swap x y
    omega
def Srt (L : List PE) : Prop := L.Pairwise fun x y => cmpL x.1 y.1 < 0
theorem vchk_next {V : List El} (h : vchk V = 0) {i : Nat} (hi : i + 1 < V.length) : cmpL (eg V i).2.1 (eg V (i + 1)).2.1 < 0 := by
  unfold vchk at h
  split at h
  · rename_i g; exact absurd h g
  rename_i g
  have g : ichk V = 0 := Classical.not_not.1 g
  unfold ichk at g
  split at g
  · cases g
  have := fstE_all _ _ g (i + 1) (Nat.zero_le _) (by omega)
  unfold ichk1 at this
  split at this
  · rename_i q; exact absurd this q
  · split at this
    · cases this
    · rename_i q
      rw [Nat.add_sub_cancel] at q
      by_cases q2 : 0 ≤ cmpL (eg V i).2.1 (eg V (i + 1)).2.1
      · exact absurd ⟨by omega, q2⟩ q
      · omega
theorem vchk_srt {V : List El} (h : vchk V = 0) : Srt (P2 V) := by
  have key : ∀ d i, i + d + 1 < V.length → cmpL (eg V i).2.1 (eg V (i + d + 1)).2.1 < 0 := by
    intro d
    induction d with
    | zero => intro i hi; exact vchk_next h hi
    | succ d ih => intro i hi; exact lt_trans3 (ih i (by omega)) (vchk_next h (i := i + d + 1) (by omega))
  unfold Srt
  rw [List.pairwise_iff_getElem]
  intro i j hi hj hij
  have hlen : (P2 V).length = V.length := p2_ln
  have ei : (P2 V)[i] = (eg V i).2 := Option.some.inj ((List.getElem?_eq_getElem hi).symm.trans (p2_eg (by omega)))
  have ej : (P2 V)[j] = (eg V j).2 := Option.some.inj ((List.getElem?_eq_getElem hj).symm.trans (p2_eg (by omega)))
  rw [ei, ej]
  have := key (j - i - 1) i (by omega)
  rwa [show i + (j - i - 1) + 1 = j by omega] at this
theorem ord_one {L M : List PE} {e : Nat} {W : List PE} (hs : Srt M) (hp : M.Perm L) (h : OrdR L e W) : e = 0 ∧ W = M := h.fn (.inr ⟨rfl, hp, hs⟩)
theorem fm_filter {g : PE → List PE} {p : PE → Bool} (h : ∀ x, g x = if p x = true then [x] else []) : ∀ L : List PE, L.flatMap g = L.filter p
  | [] => rfl
  | x :: L => by
    rw [List.flatMap_cons, fm_filter h L, h x, List.filter_cons]
    split <;> rfl
section
variable {md : Int} {N : List (List Nat)} {L M W W1 W2 : List PE} {e e1 e2 : Nat}
def hasB (md : Int) (N : List (List Nat)) (M : List PE) (x : PE) : Bool := decide (hvP md N M (keyM md N x.1) ≠ [])
theorem set_and : setL [97, 110, 100] md N L M = L.filter (hasB md N M) := by
  unfold setL
  rw [st2_off (by decide), List.append_nil]
  refine fm_filter (fun x => ?_) L
  unfold st1 hasB
  have e1 : (([97, 110, 100] : List Nat) = [111, 114]) = False := by simp
  simp only [e1, false_or, iff_true, decide_eq_true_eq]
theorem set_unl : setL [117, 110, 108, 101, 115, 115] md N L M = L.filter fun x => !(hasB md N M x) := by
  unfold setL
  rw [st2_off (by decide), List.append_nil]
  refine fm_filter (fun x => ?_) L
  unfold st1 hasB
  have e1 : (([117, 110, 108, 101, 115, 115] : List Nat) = [111, 114]) = False := by simp
  have e2 : (([117, 110, 108, 101, 115, 115] : List Nat) = [97, 110, 100]) = False := by simp
  simp only [e1, e2, false_or, iff_false]
  by_cases h : hvP md N M (keyM md N x.1) = [] <;> simp [h]
theorem set_or : setL [111, 114] md N L M = L ++ M.filter fun y => !(hasB md N L y) := by
  unfold setL
  congr 1
  · have : ∀ x, st1 [111, 114] md N M x = [x] := fun x => if_pos (.inl rfl)
    rw [show st1 [111, 114] md N M = fun x => [x] from funext this]
    simp
  · refine fm_filter (fun x => ?_) M
    unfold st2 hasB
    by_cases h : hvP md N L (keyM md N x.1) = [] <;> simp [h]
theorem srt_filter (h : Srt L) (p : PE → Bool) : Srt (L.filter p) := List.Pairwise.filter p h
theorem or_set (hL : Srt L) (hM : Srt M) (h : OrdR (setL [111, 114] md N L M) e W) : e = 0 ∧ Srt W ∧ ∀ x ∈ L, x ∈ W := by
  rw [set_or] at h
  have hn : ((L ++ M.filter fun y => !(hasB md N L y)).map (·.1)).Nodup := by
    rw [List.map_append, List.nodup_append]
    refine ⟨srt_nodup hL, srt_nodup (srt_filter hM _), ?_⟩
    intro a ha b hb hab
    obtain ⟨x, hx, rfl⟩ := List.mem_map.1 ha
    obtain ⟨y, hy, rfl⟩ := List.mem_map.1 hb
    have hq := (List.mem_filter.1 hy).2
    have hm : x ∈ hvP md N L (keyM md N y.1) := List.mem_filter.2 ⟨hx, by rw [← hab]; simp⟩
    unfold hasB at hq
    simp at hq
    rw [hq] at hm
    cases hm
  rcases h with ⟨_, _, h3⟩ | ⟨h1, h2, h3⟩
  · exact absurd hn h3
  · exact ⟨h1, h3, fun x hx => h2.mem_iff.2 (List.mem_append_left _ hx)⟩
theorem srt_nd (h : Srt L) : L.Nodup := by
  unfold Srt at h
  refine List.Pairwise.imp ?_ h
  intro a b q e
  subst e
  have := cmpL_eq.2 (rfl : a.1 = a.1)
  omega
def cntA (A R : List PE) (i : Nat) : Nat := ((R.take i).filter fun r => decide (r ∈ A)).length
theorem sub_flt {A R : List PE} (hA : Srt A) (hR : Srt R) (hs : ∀ x ∈ A, x ∈ R) : R.filter (fun r => decide (r ∈ A)) = A := by
  have n1 : A.Nodup := srt_nd hA
  have n2 : (R.filter fun r => decide (r ∈ A)).Nodup := srt_nd (srt_filter hR _)
  have hp : A.Perm (R.filter fun r => decide (r ∈ A)) := (List.perm_ext_iff_of_nodup n1 n2).2 fun x => by simp; exact fun hx => hs x hx
  exact (ord_one hA hp (.inr ⟨rfl, List.Perm.refl _, srt_filter hR _⟩)).2
theorem cnt_end {A R : List PE} (hA : Srt A) (hR : Srt R) (hs : ∀ x ∈ A, x ∈ R) {i : Nat} (hi : R.length ≤ i) : cntA A R i = A.length := by
  unfold cntA
  rw [List.take_of_length_le hi, sub_flt hA hR hs]
theorem cnt_split {A R : List PE} (hA : Srt A) (hR : Srt R) (hs : ∀ x ∈ A, x ∈ R) {i : Nat} {r : PE} (hi : R[i]? = some r) : ∃ B C, A = B ++ C ∧ B.length = cntA A R i ∧ C = (if r ∈ A then [r] else []) ++ (R.drop (i + 1)).filter (fun r => decide (r ∈ A)) ∧ cntA A R (i + 1) = cntA A R i + (if r ∈ A then 1 else 0) := by
  refine ⟨(R.take i).filter (fun r => decide (r ∈ A)), (R.drop i).filter (fun r => decide (r ∈ A)), ?_, rfl, ?_, ?_⟩
  · rw [← List.filter_append, List.take_append_drop]; exact (sub_flt hA hR hs).symm
  · have e : R.drop i = r :: R.drop (i + 1) := by
      have h1 := (List.getElem?_eq_some_iff.1 hi)
      obtain ⟨h1, h2⟩ := h1
      rw [List.drop_eq_getElem_cons h1, h2]
    rw [e, List.filter_cons]
    by_cases h : r ∈ A <;> simp [h]
  · unfold cntA
    rw [List.take_add_one, hi, List.filter_append, List.length_append]
    by_cases h : r ∈ A <;> simp [h]
theorem seq_yes {A R : List PE} (hA : Srt A) (hR : Srt R) (hs : ∀ x ∈ A, x ∈ R) {i : Nat} {r a : PE} (hi : R[i]? = some r) (ha : A[cntA A R i]? = some a) (h : r.1 = a.1) : r = a ∧ cntA A R (i + 1) = cntA A R i + 1 := by
  have har : a ∈ A := List.mem_of_getElem? ha
  have haR := hs a har
  have e : r = a := by
    obtain ⟨j, hj⟩ := List.getElem?_of_mem haR
    have hn := srt_nodup hR
    have e1 : (R.map (·.1))[i]? = some r.1 := by rw [List.getElem?_map, hi]; rfl
    have e2 : (R.map (·.1))[j]? = some r.1 := by rw [List.getElem?_map, hj, h]; rfl
    have hij := nodup_at hn e1 e2
    subst hij
    rw [hi] at hj
    exact Option.some.inj hj
  refine ⟨e, ?_⟩
  obtain ⟨B, C, _, _, _, h4⟩ := cnt_split hA hR hs hi
  rw [h4, if_pos (e ▸ har)]
theorem seq_no {A R : List PE} (hA : Srt A) (hR : Srt R) (hs : ∀ x ∈ A, x ∈ R) {i : Nat} {r : PE} (hi : R[i]? = some r) (h : ∀ a, A[cntA A R i]? = some a → r.1 ≠ a.1) : cntA A R (i + 1) = cntA A R i := by
  obtain ⟨B, C, h1, h2, h3, h4⟩ := cnt_split hA hR hs hi
  rw [h4]
  by_cases hr : r ∈ A
  · exfalso
    rw [if_pos hr] at h3
    refine h r ?_ rfl
    rw [← h2]
    conv => lhs; rw [h1]
    rw [List.getElem?_append_right (Nat.le_refl _), Nat.sub_self, h3]; rfl
  · rw [if_neg hr, Nat.add_zero]
theorem cnt_le {A R : List PE} (i : Nat) : cntA A R i ≤ i := Nat.le_trans (List.length_filter_le _ _) (by simp; omega)
end
theorem cq_nil : CellQ .nils := ⟨rfl, rfl, rfl⟩
theorem fill47 {v : AV} {op : List Nat} {md : Int} (h : v.isCell = true) : fillA (fun i => [(0, 1), (1, 1), (2, 1), (3, 1), (4, 1), (5, 1), (6, 1), (7, 1), (8, 1), (9, 1), (10, 1)][i]?) [.int .i64 0, .str [], .int .i64 0, .nils, .int .i64 0, .int .i64 0, .int .i64 0, .nils, .int .i64 0, .bool false, .nils] [(1, .str op), (6, .int .i64 md), (7, v)] = some [.int .i64 0, .str op, .int .i64 0, .nils, .int .i64 0, .int .i64 0, .int .i64 md, v, .int .i64 0, .bool false, .nils] := by
  simp only [fillA, cells_cell h]; rfl
theorem bin_set {op : List Nat} {md : Int} {N : List (List Nat)} {V U : List El} {e : Nat} {W : List PE} (h1 : vchk V = 0) (h2 : vchk U = 0) (hs : setB op = true) (hm : 0 ≤ md ∧ md ≤ 2) (h : BinR op false md 0 N V U e W) : OrdR (setL op md N (P2 V) (P2 U)) e W := by
  have hp : binPre op md 0 V U = none := pre_no h1 h2 (.inl hs) ⟨hm.1, hm.2, by omega, by omega⟩ (fun g => g.1 rfl)
  rcases h with ⟨a, _⟩ | ⟨_, _, a⟩ | ⟨_, a, _⟩
  · rw [hp] at a; cases a
  · exact a
  · rw [hs] at a; cases a
theorem VOwn.lin {W : List El} {w : AV} {D : HSt} (h : VOwn W w D) : ∀ x ∈ W, LIn D x.2.1 x.1 := by
  obtain ⟨hp, hl, rfl, hO, hL, _, _⟩ := h
  exact fun x hx => (hL x hx).mono fun b o h => h.app
theorem VOwn.src {W : List El} {w : AV} {D hs : HSt} (h : VOwn W w D) (hm : ∀ e ∈ D, MemH hs e.b e.o) : Src hs 2 w W.length (cE W) := by
  obtain ⟨hp, hl, rfl, hO, hL, _, _⟩ := h
  rcases hO with ⟨h1, h2, rfl, _⟩ | ⟨b, ex, rfl, rfl, h3⟩
  · rw [h1, h2]; exact Src.nils
  · exact Src.all (hm ⟨b, ⟨2, ex, cE W⟩, true⟩ (by simp)) h3
theorem both_own {W1 W2 : List El} {v : AV} {hp : HSt} (h : OwnE 2 ([] ++ cE W1 ++ cE W2) (0 + W1.length + W2.length) v hp) : OwnE 2 (cE (W1 ++ W2)) (W1 ++ W2).length v hp := by
  rw [List.nil_append, ← cE_append, Nat.zero_add, ← List.length_append] at h
  exact h
theorem p2_len2 {X V : List El} (h : P2 X = P2 V) : X.length = V.length := p2_length h
theorem both_v {V W1 W2 W : List El} {p : PE → Bool} {e : Nat} (hs : Srt (P2 V)) (h1 : P2 W1 = (P2 V).filter p) (h2 : P2 W2 = (P2 V).filter fun x => !(p x)) (h : OrdR (P2 (W1 ++ W2)) e (P2 W)) : e = 0 ∧ P2 W = P2 V := by
  refine ord_one hs ?_ h
  have : P2 (W1 ++ W2) = P2 W1 ++ P2 W2 := by unfold P2; rw [List.map_append]
  rw [this, h1, h2]
  exact (List.filter_append_perm p (P2 V)).symm
theorem flt_len {V W : List El} {p : PE → Bool} (h : P2 W = (P2 V).filter p) : W.length ≤ V.length := by
  have := congrArg List.length h
  rw [p2_ln] at this
  rw [this]
  exact Nat.le_trans (List.length_filter_le _ _) (Nat.le_of_eq p2_ln)
theorem pl47 : PL tab 47 [.int .i64 0, .str [], .int .i64 0, .nils, .int .i64 0, .int .i64 0, .int .i64 0, .nils, .int .i64 0, .bool false, .nils] [(0, 1), (1, 1), (2, 1), (3, 1), (4, 1), (5, 1), (6, 1), (7, 1), (8, 1), (9, 1), (10, 1)] = true := by kernel_rfl
theorem law_sets (hs : HSt) (hro : ∀ e ∈ hs, e.w = false) (V : List El) (v : AV) (hV : EIn hs V v) (hB : EBd V) (U : List El) (vu : AV) (hU : EIn hs U vu) (hUB : EBd U) (md : Int) (N : List (List Nat)) (vn : AV) (hN : SIn hs N vn) (hNb : SBd N) : Spec tab 8 [.int .i64 md, vn, v, vu] [] hs (Val (.bool true)) := by
 have hBl := hB.1
 have hUl2 := hUB.1
 refine Spec.enter' (ft_get 8 Tryz.func8) rfl (m := 150) rfl (rs := [.tmp 8]) rfl (st := [(0, .int .i64 md), (1, vn), (2, v), (3, vu)]) rfl rfl (fun _ => rfl) (fun E => zr (za rfl (zk (W.seq (W.seqJ1 (fun (q : Bool) => [(0, .int .i64 md), (1, vn), (2, v), (3, vu), (42, .bool q)]) (fun (q : Bool) => hs) (fun (q : Bool) => q = false → vchk V = 0 ∧ vchk U = 0 ∧ 0 ≤ md ∧ md ≤ 2) (fun q hIc42 => ?_) (fun hJc42 => ?_))))))
 · have hq := hIc42
   refine W.condS rfl (fun hc42 => ?_) (fun hc42 => ?_)
   · refine zr (WO.callV rfl oLs_nil rfl (Spec.known (fun _ => rfl)) SubR.nil rfl (za rfl (zk (W.ret (End.K_ret (End.retV (z1 rfl) ?_))))))
     rfl
   obtain ⟨hck, hcU, hmd1, hmd2⟩ := hq (by simpa using hc42)
   have hmd : 0 ≤ md ∧ md ≤ 2 := ⟨hmd1, hmd2⟩
   have hSV := vchk_srt hck
   have hSU := vchk_srt hcU
   have hVl := vchk_len hck
   have hUl := vchk_len hcU
   refine zw (zr (zm rfl (zm rfl (zq (Q.build pl47 (oPs_cons (oc (v := .str [97, 110, 100]) (by kernel_rfl)) (oPs_cons rfl (oPs_cons rfl oPs_nil))) rfl (cs := [_, _, _, _, _, _, _, _, _, _, _]) (fill47 (SIn.cell hN))) (zm rfl (zm rfl (WO.call0 rfl (oLs_cons rfl (oLs_cons rfl (oLs_cons rfl oLs_nil))) rfl (bin_spec hs hro V _ hV hB U _ hU hUB 0 0 0 0 md 0 [97, 110, 100] (by unfold Bytes; decide) false .nils .nils cq_nil cq_nil N _ hN hNb) (SubR.self hro) rfl (fun v50 D50 hP50 => ?_))))))))
   obtain ⟨e50, W50, w50, hR50, hO50, rfl⟩ := hP50
   obtain ⟨rfl, hW50⟩ := ord_one (srt_filter hSV _) (List.Perm.refl _) (set_and ▸ (bin_set hck hcU (by decide) hmd hR50))
   refine WO.subH (hs' := (hs ++ D50)) (SubH.of_perm (perm_tail (N := []) (G := D50) (K := []) (X := hs))) (zm rfl (zq (Q.extract rfl rfl) (zq (Q.extract rfl rfl) (za rfl (za rfl (zk (zr (zm rfl (zm rfl (zq (Q.build pl47 (oPs_cons (oc (v := .str [117, 110, 108, 101, 115, 115]) (by kernel_rfl)) (oPs_cons rfl (oPs_cons rfl oPs_nil))) rfl (cs := [_, _, _, _, _, _, _, _, _, _, _]) (fill47 (SIn.cell hN))) (zm rfl (zm rfl (WO.call0 rfl (oLs_cons rfl (oLs_cons rfl (oLs_cons rfl oLs_nil))) rfl (bin_spec hs hro V _ hV hB U _ hU hUB 0 0 0 0 md 0 [117, 110, 108, 101, 115, 115] (by unfold Bytes; decide) false .nils .nils cq_nil cq_nil N _ hN hNb) (SubR.appl (SubR.self hro)) rfl (fun v59 D59 hP59 => ?_))))))))))))))
   obtain ⟨e59, W59, w59, hR59, hO59, rfl⟩ := hP59
   obtain ⟨rfl, hW59⟩ := ord_one (srt_filter hSV _) (List.Perm.refl _) (set_unl ▸ (bin_set hck hcU (by decide) hmd hR59))
   have hl50 := flt_len hW50
   have hl59 := flt_len hW59
   have hLL : ∀ x ∈ W50 ++ W59, LIn (D50 ++ D59) x.2.1 x.1 := fun x hx => (List.mem_append.1 hx).elim (fun h => (hO50.lin x h).mono fun b o q => q.appl) (fun h => (hO59.lin x h).mono fun b o q => q.app)
   have hBB : EBd (W50 ++ W59) := ⟨by simp; omega, fun x hx => (List.mem_append.1 hx).elim (hO50.ebd.2 x) (hO59.ebd.2 x)⟩
   refine WO.subH (hs' := (hs ++ D50 ++ D59)) (SubH.of_perm (perm_tail (N := []) (G := D59) (K := []) (X := hs ++ D50))) (zm rfl (zq (Q.extract rfl rfl) (zq (Q.extract rfl rfl) (za rfl (za rfl (zk (W.sub (zc 12 rfl (zc 11 rfl (zc 10 rfl (zc 9 rfl (zc 0 rfl (zc 1 rfl (zc 2 rfl (zc 3 rfl zzn)))))))) (zr (zm rfl (zm rfl (zq (Q.build pl47 (oPs_cons (oc (v := .str [111, 114]) (by kernel_rfl)) (oPs_cons rfl (oPs_cons rfl oPs_nil))) rfl (cs := [_, _, _, _, _, _, _, _, _, _, _]) (fill47 (SIn.cell hN))) (zm rfl (zm rfl (WO.call0 rfl (oLs_cons rfl (oLs_cons rfl (oLs_cons rfl oLs_nil))) rfl (bin_spec hs hro V _ hV hB U _ hU hUB 0 0 0 0 md 0 [111, 114] (by unfold Bytes; decide) false .nils .nils cq_nil cq_nil N _ hN hNb) (SubR.appl (SubR.appl (SubR.self hro))) rfl (fun v68 D68 hP68 => ?_)))))))))))))))
   obtain ⟨e68, W68, w68, hR68, hO68, rfl⟩ := hP68
   obtain ⟨rfl, hS68, hsub⟩ := or_set hSV hSU (bin_set hck hcU (by decide) hmd hR68)
   have hL68 := hO68.lin
   have hB68 := hO68.ebd
   have hl68 := hB68.1
   refine WO.subH (hs' := (hs ++ D50 ++ D59 ++ D68)) (SubH.of_perm (perm_tail (N := []) (G := D68) (K := []) (X := hs ++ D50 ++ D59))) (zm rfl (zq (Q.extract rfl rfl) (zq (Q.extract rfl rfl) (za rfl (za rfl (zk (zr (WO.bslice ud22 sz35 zr35 rfl oPs_nil rfl (cs := []) rfl rfl rfl (fun b1 => zm rfl (WO.appAny (A := _) ap22_22 (OwnE.cons rfl) rfl rfl (VOwn.src hO50 (fun e he => ⟨e.w, by obtain ⟨b, o, w⟩ := e; simp [he]⟩)) (cE_len _) (by omega) (by decide) (SubH.of_perm (List.perm_append_singleton _ _)) rfl (fun v74 hp74 hO74 => zm rfl (WO.appAny (A := ([] ++ hs ++ D50 ++ D59 ++ D68)) ap22_22 hO74 rfl rfl (VOwn.src hO59 (fun e he => ⟨e.w, by obtain ⟨b, o, w⟩ := e; simp [he]⟩)) (cE_len _) (by omega) (by decide) (SubH.refl _) rfl (fun v76 hp76 hO76 => WO.call0 rfl (oLs_cons rfl oLs_nil) rfl (rord_spec (ro (hp76 ++ (D50 ++ D59))) ro_w (W50 ++ W59) _ (EIn.own (both_own hO76) hLL) hBB) (SubR.ro gc) rfl (fun v77 D77 hP77 => ?_))))))))))))))
   obtain ⟨e77, W77, w77, hR77, hM77, hO77, rfl⟩ := hP77
   obtain ⟨rfl, hW77⟩ := both_v hSV hW50 hW59 hR77
   refine WO.subH (hs' := (hs ++ D50 ++ D59 ++ D68 ++ hp76 ++ D77)) (SubH.of_perm (perm_tail (N := []) (G := D77) (K := []) (X := hs ++ D50 ++ D59 ++ D68 ++ hp76))) (zm rfl (zq (Q.extract rfl rfl) (zq (Q.extract rfl rfl) (za rfl (za rfl (zk (W.sub (zc 16 rfl (zc 15 rfl (zc 14 rfl (zc 13 rfl (zc 12 rfl (zc 10 rfl (zc 2 rfl zzn))))))) (W.seq (zr (zm rfl (zq (Q.bin rfl (zi 0) rfl (bv_neq ne_nat)) (zm rfl (WO.splitD (d := 82) rfl (fun hc82 => ?_) (fun hc82 => ?_))))))))))))))
   · exact absurd rfl hc82
   refine WO.gT rfl rfl (zm rfl (WO.gT rfl rfl (zq (Q.bin rfl (zi 0) rfl (bv_neq ne_nat)) (zq (Q.pickF rfl rfl) (zm rfl (WO.splitD (d := 86) rfl (fun hc86 => ?_) (fun hc86 => ?_)))))))
   · exact absurd rfl hc86
   refine WO.gT rfl rfl (zm rfl (WO.gT rfl rfl (zq (Q.bin rfl (zi 0) rfl (bv_neq ne_nat)) (zq (Q.pickF rfl rfl) (zm rfl (WO.splitD (d := 90) rfl (fun hc90 => ?_) (fun hc90 => ?_)))))))
   · exact absurd rfl hc90
   refine WO.gT rfl rfl (zm rfl (WO.gT rfl rfl (zq (Q.bin rfl (zi 0) rfl (bv_neq ne_nat)) (zq (Q.pickF rfl rfl) (zm rfl (WO.splitD (d := 94) rfl (fun hc94 => ?_) (fun hc94 => ?_)))))))
   · exact absurd rfl hc94
   refine WO.gT rfl rfl (zm rfl (WO.gT rfl rfl (zm rfl (WO.gT rfl rfl (WO.callV rfl (oLs_cons rfl (oLs_cons rfl oLs_nil)) rfl (vsame_spec (ro (D77 ++ (D50 ++ D59)) ++ hs) (ro_app hro) W77 V _ _ ((EIn.own hO77 fun x hx => hLL x (hM77 x hx)).mono fun b o h => h.appl) (hV.mono fun b o h => h.app) ⟨by rw [p2_len2 hW77]; exact hB.1, fun x hx => hBB.2 x (hM77 x hx)⟩ hB) (SubR.mix gc hro) rfl (WO.gT rfl rfl (zq (Q.not rfl not_dec) (zq (Q.pickF rfl rfl) (zk (W.sub (zc 99 rfl (zc 13 rfl (zc 2 rfl zzn))) (W.condDS rfl (fun hc99 => ?_) (fun hc99 => ?_))))))))))))
   · exact absurd hW77 (by simpa using hc99)
   refine zw (zr (za (zi 0) (zk (W.seq (zr (za (zi 0) (zk (W.block (W.loop_ind (fun (i : Nat) => [(2, v), (13, w68), (17, .int .i64 (((cntA (P2 V) (P2 W68) i) : Nat) : Int)), (18, .int .i64 ((i : Nat) : Int))]) (fun (i : Nat) => (hs ++ D68)) (fun (i : Nat) => i ≤ W68.length) (fun (i : Nat) => W68.length - i) (0) (Nat.zero_le _) zv gc (fun i hI0 ih0 => ?_))))))))))
   have h1 := hI0
   refine W.seq (zr (zm rfl (zm rfl (zq (Q.len ud22 rfl (EIn.len (VOwn.ein hO68))) (zq (Q.bin rfl rfl rfl (bv_lss lt_nat)) (zk (W.condDS rfl (fun hc103 => ?_) (fun hc103 => ?_))))))))
   · obtain ⟨pw, lw, hDw, hOw, _, _, _⟩ := id hO68
     obtain ⟨bw, exw, rfl, hhw⟩ := OwnE.full hOw (by omega)
     have mw : (⟨bw, ⟨2, exw, cE W68⟩, true⟩ : HE) ∈ D68 := (by rw [hDw, hhw]; simp)
     have hi68 := p2_eg (V := W68) (i := i) (by omega)
     refine zw (W.seq (W.block (W.seq (W.regT (by kernel_rfl) (zm rfl (zm rfl (zq (Q.len ud22 rfl (EIn.len hV)) (zq (Q.bin rfl rfl rfl (bv_lss lt_nat)) (zm rfl (WO.splitD (d := 110) rfl (fun hc110 => ?_) (fun hc110 => ?_)))))))))))
     · obtain ⟨bv, szv, exv, rfl, wv, mv⟩ := EIn.full hV (by omega)
       have ha68 := p2_eg (V := V) (i := (cntA (P2 V) (P2 W68) i)) (by omega)
       refine WO.gT rfl rfl (zm rfl (WO.gT rfl rfl (zm rfl (WO.gT rfl rfl (zq (Q.iaddrS ud22 sz35 rfl rfl zo) (WO.gT rfl rfl (zq (Q.fieldAddr fa35_0 rfl rfl) (WO.gT rfl rfl (zq (Q.load1 rfl (List.mem_append_right _ mw) ag33 (cE_f0 zo)) (WO.gT rfl rfl (zm rfl (WO.gT rfl rfl (zm rfl (WO.gT rfl rfl (zq (Q.iaddrS ud22 sz35 rfl rfl zo) (WO.gT rfl rfl (zq (Q.fieldAddr fa35_0 rfl rfl) (WO.gT rfl rfl (zq (Q.load1 rfl (List.mem_append_left _ mv) ag33 (cE_f0 zo)) (WO.gT rfl rfl (WO.callV rfl (oLs_cons rfl (oLs_cons rfl oLs_nil)) rfl (rsame_spec (ro D68 ++ hs) (ro_app hro) _ _ _ _ ((lin_any hL68 _).mono fun b o h => h.ro.appl) ((hV.at (by omega)).mono fun b o h => h.app) (lbd_any hB68 _) (hB.at (by omega)).1) (SubR.mix gc hro) rfl (zq (Q.pickT rfl rfl) (zk ?_)))))))))))))))))))))))
       refine W.sub (zc 122 rfl (zc 2 rfl (zc 13 rfl (zc 17 rfl (zc 18 rfl zzn))))) (W.condDS rfl (fun hc122 => ?_) (fun hc122 => ?_))
       · obtain ⟨hra, hcn⟩ := seq_yes hSV hS68 hsub hi68 ha68 (by simpa using hc122)
         refine W.seq (W.seq (W.regT (by kernel_rfl) (zm rfl (zm rfl (zq (Q.iaddrS ud22 sz35 rfl rfl zo) (zq (Q.fieldAddr fa35_1 rfl rfl) (zq (Q.load1 rfl (List.mem_append_right _ mw) ag3 (cE_f1 zo)) (zm rfl (zm rfl (zq (Q.iaddrS ud22 sz35 rfl rfl zo) (zq (Q.fieldAddr fa35_1 rfl rfl) (zq (Q.load1 rfl (List.mem_append_left _ mv) ag3 (cE_f1 zo)) (zq (Q.bin rfl rfl rfl (bv_neq ne_int)) (zk (W.condDS rfl (fun hc133 => ?_) (fun hc133 => ?_))))))))))))))))
         · exact absurd (congrArg Prod.snd hra) (by simpa using hc133)
         refine zw (W.reg (zm rfl (zq (Q.bin rfl (zi 1) rfl zp) (za rfl (WO.nil (End.KB (End.K (W.sub (zc 17 rfl (zc 2 rfl (zc 13 rfl (zc 18 rfl zzn)))) (W.reg (zm rfl (zq (Q.bin rfl (zi 1) rfl zp) (za rfl (WO.nil (End.KL (W.sub (zd rfl (zd rfl (SubS.cons (by rw [hcn]; rfl) (zd rfl zzn)))) (W.subH gc (ih0 (i + 1) ?_ ?_)))))))))))))))))
         · exact (by omega)
         exact zo
       have hcn := seq_no hSV hS68 hsub hi68 (fun a ha => by rw [ha68] at ha; cases ha; simpa using hc122)
       refine W.skip (End.KB (End.K (W.reg (zm rfl (zq (Q.bin rfl (zi 1) rfl zp) (za rfl (WO.nil (End.KL (W.sub (zd rfl (zd rfl (SubS.cons (by rw [hcn]; rfl) (zd rfl zzn)))) (W.subH gc (ih0 (i + 1) ?_ ?_)))))))))))
       · exact (by omega)
       exact zo
     have hcn := seq_no hSV hS68 hsub hi68 (fun a ha => by have := (List.getElem?_eq_some_iff.1 ha).1; rw [p2_ln] at this; omega)
     refine zg rfl rfl (zg rfl rfl (zg rfl rfl (zg rfl rfl (zg rfl rfl (zg rfl rfl (zg rfl rfl (zg rfl rfl (zg rfl rfl (zg rfl rfl (zg rfl rfl (zq (Q.pickF rfl rfl) (zk (W.sub (zc 122 rfl (zc 2 rfl (zc 13 rfl (zc 17 rfl (zc 18 rfl zzn))))) (W.condF rfl (W.skip (End.KB (End.K (W.reg (zm rfl (zq (Q.bin rfl (zi 1) rfl zp) (za rfl (WO.nil (End.KL (W.sub (zd rfl (zd rfl (SubS.cons (by rw [hcn]; rfl) (zd rfl zzn)))) (W.subH gc (ih0 (i + 1) ?_ ?_))))))))))))))))))))))))))
     · exact (by omega)
     exact zo
   have hce : (cntA (P2 V) (P2 W68) i) = V.length := (by rw [cnt_end hSV hS68 hsub (by rw [p2_ln]; omega), p2_ln])
   refine W.exit (End.K_exit (End.KL_exit (End.KB_hit (End.K (zr (zm rfl (zm rfl (zq (Q.len ud22 rfl (EIn.len hV)) (zq (Q.bin rfl rfl rfl (bv_eql eq_nat)) (zm rfl (WO.splitD (d := 140) rfl (fun hc140 => ?_) (fun hc140 => ?_))))))))))))
   · refine WO.gT rfl rfl (zm rfl (WO.gT rfl rfl (zq (Q.len ud22 rfl (EIn.len (VOwn.ein hO68))) (WO.gT rfl rfl (zm rfl (WO.gT rfl rfl (zq (Q.len ud22 rfl (EIn.len hV)) (WO.gT rfl rfl (zq (Q.bin rfl rfl rfl (bv_geq le_nat)) (zq (Q.pickT rfl rfl) (zm rfl (WO.splitD (d := 147) rfl (fun hc147 => ?_) (fun hc147 => ?_)))))))))))))
     · refine WO.gT rfl rfl (WO.callV rfl oLs_nil rfl (Spec.known (fun _ => rfl)) SubR.nil rfl (zq (Q.pickT rfl rfl) (za rfl (zk (W.sub (zc 8 rfl zzn) (W.ret (End.retV (z1 rfl) ?_)))))))
       rfl
     (exfalso; have := cnt_le (A := P2 V) (R := P2 W68) i; omega)
   exact absurd hce (by simpa using hc140)
 refine W.reg (zm rfl (WO.callV rfl (oLs_cons rfl oLs_nil) rfl (vck_spec hs hro V _ hV hB) (SubR.self hro) rfl (zq (Q.bin rfl (zi 0) rfl (bv_neq ne_nat)) (zm rfl (WO.splitD (d := 22) rfl (fun hc22 => ?_) (fun hc22 => ?_))))))
 · refine zg rfl rfl (zg rfl rfl (zg rfl rfl (zq (Q.pickT rfl rfl) (zm rfl (zg rfl rfl (zg rfl rfl (zq (Q.pickT rfl rfl) (zm rfl (zg rfl rfl (zg rfl rfl (zq (Q.pickT rfl rfl) (zm rfl (zg rfl rfl (zg rfl rfl (zg rfl rfl (zg rfl rfl (zg rfl rfl (zg rfl rfl (zq (Q.pickT rfl rfl) (WO.nil (End.K (W.sub zv (W.subH (SubH.refl _) (hJc42 (_) ?_))))))))))))))))))))))))
   exact (by intro h; first | (simp_all; done) | (simp_all; omega))
 refine WO.gT rfl rfl (zm rfl (WO.gT rfl rfl (WO.callV rfl (oLs_cons rfl oLs_nil) rfl (vck_spec hs hro U _ hU hUB) (SubR.self hro) rfl (WO.gT rfl rfl (zq (Q.bin rfl (zi 0) rfl (bv_neq ne_nat)) (zq (Q.pickF rfl rfl) (zm rfl (WO.splitD (d := 27) rfl (fun hc27 => ?_) (fun hc27 => ?_)))))))))
 · refine zg rfl rfl (zg rfl rfl (zq (Q.pickT rfl rfl) (zm rfl (zg rfl rfl (zg rfl rfl (zq (Q.pickT rfl rfl) (zm rfl (zg rfl rfl (zg rfl rfl (zg rfl rfl (zg rfl rfl (zg rfl rfl (zg rfl rfl (zq (Q.pickT rfl rfl) (WO.nil (End.K (W.sub zv (W.subH (SubH.refl _) (hJc42 (_) ?_)))))))))))))))))))
   exact (by intro h; first | (simp_all; done) | (simp_all; omega))
 refine WO.gT rfl rfl (zm rfl (WO.gT rfl rfl (zq (Q.bin rfl (zi 0) rfl (bv_lss (ltA_eq _ _))) (zq (Q.pickF rfl rfl) (zm rfl (WO.splitD (d := 31) rfl (fun hc31 => ?_) (fun hc31 => ?_)))))))
 · refine zg rfl rfl (zg rfl rfl (zq (Q.pickT rfl rfl) (zm rfl (zg rfl rfl (zg rfl rfl (zg rfl rfl (zg rfl rfl (zg rfl rfl (zg rfl rfl (zq (Q.pickT rfl rfl) (WO.nil (End.K (W.sub zv (W.subH (SubH.refl _) (hJc42 (_) ?_)))))))))))))))
   exact (by intro h; first | (simp_all; done) | (simp_all; omega))
 refine WO.gT rfl rfl (zm rfl (WO.gT rfl rfl (zq (Q.bin rfl (zi 2) rfl (bv_gtr (ltA_eq _ _))) (zq (Q.pickF rfl rfl) (zm rfl (WO.splitD (d := 35) rfl (fun hc35 => ?_) (fun hc35 => ?_)))))))
 · refine zg rfl rfl (zg rfl rfl (zg rfl rfl (zg rfl rfl (zg rfl rfl (zg rfl rfl (zq (Q.pickT rfl rfl) (WO.nil (End.K (W.sub zv (W.subH (SubH.refl _) (hJc42 (_) ?_)))))))))))
   exact (by intro h; first | (simp_all; done) | (simp_all; omega))
 refine WO.gT rfl rfl (zm rfl (WO.gT rfl rfl (zq (Q.len ud22 rfl (EIn.len hV)) (WO.gT rfl rfl (zm rfl (WO.gT rfl rfl (zq (Q.len ud22 rfl (EIn.len hU)) (WO.gT rfl rfl (zq (Q.bin rfl rfl rfl zp) (WO.gT rfl rfl (zq (Q.bin rfl (zi 200) rfl (bv_gtr lt_nat)) (zq (Q.pickF rfl rfl) (WO.nil (End.K (W.sub zv (W.subH (SubH.refl _) (hJc42 (_) ?_)))))))))))))))))
 exact (by intro h; first | (simp_all; done) | (simp_all; omega))
end Go.Proofs.YtmblgaehfjheeaaGreat.Ev
