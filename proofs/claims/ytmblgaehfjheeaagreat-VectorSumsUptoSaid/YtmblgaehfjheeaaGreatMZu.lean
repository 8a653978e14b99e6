/- Chapter 19: VectorEach, of any vector in memory. -/
import Derived.Test.YtmblgaehfjheeaaGreatMAwN
import Derived.Test.YtmblgaehfjheeaaGreatMAwM
import Derived.Test.YtmblgaehfjheeaaGreatMZj
namespace Go.Proofs.YtmblgaehfjheeaaGreat.Ev
open Go.RowKit
set_option linter.unusedVariables false
set_option linter.unusedSimpArgs false
set_option maxRecDepth 100000
set_option maxHeartbeats 1000000
theorem VOwn.ein {W : List El} {w : AV} {D : HSt} (h : VOwn W w D) : EIn (ro D) W w := by
  obtain ⟨hp, hl, rfl, hO, hL, _, _⟩ := h
  exact EIn.own hO hL
theorem VOwn.ebd {W : List El} {w : AV} {D : HSt} (h : VOwn W w D) : EBd W := by
  obtain ⟨hp, hl, rfl, hO, hL, _, h⟩ := h
  exact h
theorem VOwn.w {W : List El} {w : AV} {D : HSt} (h : VOwn W w D) : ∀ e ∈ D, e.w = true := by
  obtain ⟨hp, hl, rfl, hO, hL, h, _⟩ := h
  exact wa (OwnE.w hO) h.w
theorem MemH.ro_l {A hs : HSt} {b : Nat} {o : AObj} (h : MemH (Ev.ro hs) b o) : MemH (Ev.ro (hs ++ A)) b o := by
  obtain ⟨w, g⟩ := h
  obtain ⟨x, hx, e⟩ := List.mem_map.1 g
  exact ⟨w, List.mem_map.2 ⟨x, List.mem_append_left _ hx, e⟩⟩
theorem MemH.ro_r {A hs : HSt} {b : Nat} {o : AObj} (h : MemH (Ev.ro hs) b o) : MemH (Ev.ro (A ++ hs)) b o := by
  obtain ⟨w, g⟩ := h
  obtain ⟨x, hx, e⟩ := List.mem_map.1 g
  exact ⟨w, List.mem_map.2 ⟨x, List.mem_append_right _ hx, e⟩⟩
theorem ro_id : ∀ {b : HSt}, (∀ e ∈ b, e.w = false) → ro b = b
  | [], _ => rfl
  | ⟨c, o, w⟩ :: b, h => by
    have h1 : w = false := h _ List.mem_cons_self
    subst h1
    show _ :: ro b = _
    rw [ro_id fun e he => h e (List.mem_cons_of_mem _ he)]
theorem SubR.mix {a b hs : HSt} (g : SubH (a ++ b) hs) (hb : ∀ e ∈ b, e.w = false) : SubR (Ev.ro a ++ b) hs := by
  have := SubR.ro g
  have e : Ev.ro (a ++ b) = Ev.ro a ++ b := by
    unfold Ev.ro
    rw [List.map_append]
    congr 1
    exact ro_id hb
  rwa [e] at this
theorem VRes.ein {hs : HSt} {W : List El} {w : AV} {D : HSt} (h : VRes hs W w D) : EIn (ro D ++ hs) W w := by
  obtain ⟨hp, hl, rfl, hO, hL, _, _⟩ := h
  exact EIn.mixd hO hL
theorem VRes.ebd {hs : HSt} {W : List El} {w : AV} {D : HSt} (h : VRes hs W w D) : EBd W := by
  obtain ⟨hp, hl, rfl, hO, hL, _, h⟩ := h
  exact h
theorem MemH.mixd2 {A D hs : HSt} {b : Nat} {o : AObj} (h : MemH (Ev.ro D ++ hs) b o) : MemH (Ev.ro (A ++ D) ++ hs) b o := by
  obtain ⟨w, g⟩ := h
  rcases List.mem_append.1 g with g | g
  · exact (MemH.ro_r ⟨w, g⟩).appl
  · exact ⟨w, List.mem_append_right _ g⟩
def mdN (md : Int) (N : List (List Nat)) : List (List Nat) := if md = 0 then [] else N
def mdV (md : Int) (v : AV) : AV := if md = 0 then .nils else v
def rkeyM (md : Int) (N : List (List Nat)) (A : List Lab) : List Lab := if md = 1 then A.filter (pickP N true) else (A.filter (dropP N)).filter (dropP [[95, 95, 110, 97, 109, 101, 95, 95]])
def hvL (md : Int) (N : List (List Nat)) (V : List El) (k : List Lab) : List El := V.filter fun y => decide (keyM md N y.2.1 = k)
section
variable {op : List Nat} {md : Int} {N : List (List Nat)} {V : List El} {k : List Lab} {i : Nat}
end

section
variable {op : List Nat} {bl : Bool} {md sd : Int} {N : List (List Nat)} {V U X Y : List El} {e e' : Nat} {W W' : List PE}
theorem coreR.fn (h : coreR op bl md sd N V U e W) (g : coreR op bl md sd N V U e' W') : e = e' ∧ W = W' := by
  rcases h with ⟨h1, h2, h3⟩ | ⟨h1, h2⟩ <;> rcases g with ⟨g1, g2, g3⟩ | ⟨g1, g2⟩
  · exact ⟨h1.symm.trans g1, h3.trans g3.symm⟩
  · exact absurd (h1.symm.trans g1) h2
  · exact absurd (g1.symm.trans h1) g2
  · exact h2.fn g2
theorem BinR.fn (h : BinR op bl md sd N V U e W) (g : BinR op bl md sd N V U e' W') : e = e' ∧ W = W' := by
  rcases h with ⟨h1, h2⟩ | ⟨h1, h2, h3⟩ | ⟨h1, h2, h3⟩ <;> rcases g with ⟨g1, g2⟩ | ⟨g1, g2, g3⟩ | ⟨g1, g2, g3⟩
  · rw [h1] at g1; cases g1; exact ⟨rfl, h2.trans g2.symm⟩
  · rw [h1] at g1; cases g1
  · rw [h1] at g1; cases g1
  · rw [h1] at g1; cases g1
  · exact h3.fn g3
  · rw [h2] at g2; cases g2
  · rw [h1] at g1; cases g1
  · rw [h2] at g2; cases g2
  · exact h3.fn g3
end

theorem lt_trans3 {x y z : List Lab} (h : cmpL x y < 0) (g : cmpL y z < 0) : cmpL x z < 0 := by
  have q : leL x z := leL_trans (y := y) (by unfold leL; omega) (by unfold leL; omega)
  have q : cmpL x z ≤ 0 := q
  rcases Int.lt_or_eq_of_le q with q | q
  · exact q
  · have e := cmpL_eq.1 q
    subst e
    have := cmpL_swap x y
    omega
def Srt (L : List PE) : Prop := L.Pairwise fun x y => cmpL x.1 y.1 < 0
theorem vchk_next {V : List El} (h : vchk V = 0) {i : Nat} (hi : i + 1 < V.length) : cmpL (eg V i).2.1 (eg V (i + 1)).2.1 < 0 := by
  unfold vchk at h
  split at h
  · rename_i g; exact absurd h g
  rename_i g
  have g : ichk V = 0 := Classical.not_not.1 g
  unfold ichk at g
  split at g
  · cases g
  have := fstE_all _ _ g (i + 1) (Nat.zero_le _) (by omega)
  unfold ichk1 at this
  split at this
  · rename_i q; exact absurd this q
  · split at this
    · cases this
    · rename_i q
      rw [Nat.add_sub_cancel] at q
      by_cases q2 : 0 ≤ cmpL (eg V i).2.1 (eg V (i + 1)).2.1
      · exact absurd ⟨by omega, q2⟩ q
      · omega
theorem vchk_srt {V : List El} (h : vchk V = 0) : Srt (P2 V) := by
  have key : ∀ d i, i + d + 1 < V.length → cmpL (eg V i).2.1 (eg V (i + d + 1)).2.1 < 0 := by
    intro d
    induction d with
    | zero => intro i hi; exact vchk_next h hi
    | succ d ih => intro i hi; exact lt_trans3 (ih i (by omega)) (vchk_next h (i := i + d + 1) (by omega))
  unfold Srt
  rw [List.pairwise_iff_getElem]
  intro i j hi hj hij
  have hlen : (P2 V).length = V.length := p2_ln
  have ei : (P2 V)[i] = (eg V i).2 := Option.some.inj ((List.getElem?_eq_getElem hi).symm.trans (p2_eg (by omega)))
  have ej : (P2 V)[j] = (eg V j).2 := Option.some.inj ((List.getElem?_eq_getElem hj).symm.trans (p2_eg (by omega)))
  rw [ei, ej]
  have := key (j - i - 1) i (by omega)
  rwa [show i + (j - i - 1) + 1 = j by omega] at this
section
variable {md : Int} {N : List (List Nat)} {L M W W1 W2 : List PE} {e e1 e2 : Nat}
def hasB (md : Int) (N : List (List Nat)) (M : List PE) (x : PE) : Bool := decide (hvP md N M (keyM md N x.1) ≠ [])
def cntA (A R : List PE) (i : Nat) : Nat := ((R.take i).filter fun r => decide (r ∈ A)).length
end
theorem VOwn.lin {W : List El} {w : AV} {D : HSt} (h : VOwn W w D) : ∀ x ∈ W, LIn D x.2.1 x.1 := by
  obtain ⟨hp, hl, rfl, hO, hL, _, _⟩ := h
  exact fun x hx => (hL x hx).mono fun b o h => h.app
theorem VOwn.src {W : List El} {w : AV} {D hs : HSt} (h : VOwn W w D) (hm : ∀ e ∈ D, MemH hs e.b e.o) : Src hs 2 w W.length (cE W) := by
  obtain ⟨hp, hl, rfl, hO, hL, _, _⟩ := h
  rcases hO with ⟨h1, h2, rfl, _⟩ | ⟨b, ex, rfl, rfl, h3⟩
  · rw [h1, h2]; exact Src.nils
  · exact Src.all (hm ⟨b, ⟨2, ex, cE W⟩, true⟩ (by simp)) h3
def bstC (op : List Nat) (n m : Int) : Int := if op = [116, 111, 112, 107] then (if m < n then -1 else if n < m then 1 else 0) else (if n < m then -1 else if m < n then 1 else 0)
def bleN (op : List Nat) (V : List El) (i j : Nat) : Prop := if op = [116, 111, 112, 107] then ((eg V j).2.2 < (eg V i).2.2 ∨ ((eg V i).2.2 = (eg V j).2.2 ∧ i ≤ j)) else ((eg V i).2.2 < (eg V j).2.2 ∨ ((eg V i).2.2 = (eg V j).2.2 ∧ i ≤ j))
section
variable {op : List Nat} {V : List El} {i j k : Nat}
theorem p2_snoc {X : List El} {v : AV} {x : PE} : P2 (X ++ [(v, x)]) = P2 X ++ [x] := by unfold P2; rw [List.map_append]; rfl
end
theorem ud139 : tab.und 139 = some (.int .u64) := by kernel_rfl
theorem len64_spec (n : Nat) (hn : n ≤ 256) : Spec tab 140 [.int .u64 (n : Nat)] [] [] (ValE (fun u => ∃ r : Nat, r ≤ 300 ∧ u = .int .i64 (r : Nat))) := by
 refine Spec.enter' (ft_get 140 Tryz.func140) rfl (m := 25) rfl (rs := [.tmp 2]) rfl (st := [(0, .int .u64 (n : Nat))]) rfl rfl (fun _ => rfl) (fun E => zr (za (zi 0) (zk (W.seq (zr (zm rfl (zq (Q.bin rfl (oc (v := .int .u64 ((4294967296 : Nat) : Int)) rfl) rfl (bv_geq le_nat)) (zk (W.condDS rfl (fun hc4 => ?_) (fun hc4 => ?_))))))))))
 · exfalso; omega
 refine zw (W.seq (zr (zm rfl (zq (Q.bin rfl (oc (v := .int .u64 ((65536 : Nat) : Int)) rfl) rfl (bv_geq le_nat)) (zk (W.condDS rfl (fun hc8 => ?_) (fun hc8 => ?_)))))))
 · exfalso; omega
 refine zw (W.seq (zr (zm rfl (zq (Q.bin rfl (oc (v := .int .u64 ((256 : Nat) : Int)) rfl) rfl (bv_geq le_nat)) (zk (W.condDS rfl (fun hc14 => ?_) (fun hc14 => ?_)))))))
 · obtain rfl : n = 256 := (by omega)
   refine zr (zm rfl (zq (Q.bin rfl (oc (v := .int .u64 ((8 : Nat) : Int)) rfl) rfl (show _ = some (AV.int .u64 ((1 : Nat) : Int)) from by rfl)) (za rfl (zk (W.reg (zm rfl (zq (Q.bin rfl (zi 8) rfl zp) (za rfl (zk (zr (zm rfl (zm rfl (zq (Q.convI ud139 ud5 rfl (wr8 zo)) (WO.indexB (by unfold Bytes; decide) ud9 (oc (v := .str [0, 1, 2, 2, 3, 3, 3, 3, 4, 4, 4, 4, 4, 4, 4, 4, 5, 5, 5, 5, 5, 5, 5, 5, 5, 5, 5, 5, 5, 5, 5, 5, 6, 6, 6, 6, 6, 6, 6, 6, 6, 6, 6, 6, 6, 6, 6, 6, 6, 6, 6, 6, 6, 6, 6, 6, 6, 6, 6, 6, 6, 6, 6, 6, 7, 7, 7, 7, 7, 7, 7, 7, 7, 7, 7, 7, 7, 7, 7, 7, 7, 7, 7, 7, 7, 7, 7, 7, 7, 7, 7, 7, 7, 7, 7, 7, 7, 7, 7, 7, 7, 7, 7, 7, 7, 7, 7, 7, 7, 7, 7, 7, 7, 7, 7, 7, 7, 7, 7, 7, 7, 7, 7, 7, 7, 7, 7, 7, 8, 8, 8, 8, 8, 8, 8, 8, 8, 8, 8, 8, 8, 8, 8, 8, 8, 8, 8, 8, 8, 8, 8, 8, 8, 8, 8, 8, 8, 8, 8, 8, 8, 8, 8, 8, 8, 8, 8, 8, 8, 8, 8, 8, 8, 8, 8, 8, 8, 8, 8, 8, 8, 8, 8, 8, 8, 8, 8, 8, 8, 8, 8, 8, 8, 8, 8, 8, 8, 8, 8, 8, 8, 8, 8, 8, 8, 8, 8, 8, 8, 8, 8, 8, 8, 8, 8, 8, 8, 8, 8, 8, 8, 8, 8, 8, 8, 8, 8, 8, 8, 8, 8, 8, 8, 8, 8, 8, 8, 8, 8, 8, 8, 8, 8, 8, 8, 8, 8, 8, 8, 8, 8, 8, 8, 8, 8, 8]) (by kernel_rfl)) rfl zo rfl (fun c22 hd22 hb22 => zq (Q.convI ud5 ud3 rfl (wr64 zo)) (zq (Q.bin rfl rfl rfl zp) (za rfl (zk (W.sub (zc 2 rfl zzn) (W.ret (End.retE (z1 rfl) ?_)))))))))))))))))))))
   exact ⟨_, by omega, rfl⟩
 refine zw (zr (zm rfl (zm rfl (zq (Q.convI ud139 ud5 rfl (wr8 zo)) (WO.indexB (by unfold Bytes; decide) ud9 (oc (v := .str [0, 1, 2, 2, 3, 3, 3, 3, 4, 4, 4, 4, 4, 4, 4, 4, 5, 5, 5, 5, 5, 5, 5, 5, 5, 5, 5, 5, 5, 5, 5, 5, 6, 6, 6, 6, 6, 6, 6, 6, 6, 6, 6, 6, 6, 6, 6, 6, 6, 6, 6, 6, 6, 6, 6, 6, 6, 6, 6, 6, 6, 6, 6, 6, 7, 7, 7, 7, 7, 7, 7, 7, 7, 7, 7, 7, 7, 7, 7, 7, 7, 7, 7, 7, 7, 7, 7, 7, 7, 7, 7, 7, 7, 7, 7, 7, 7, 7, 7, 7, 7, 7, 7, 7, 7, 7, 7, 7, 7, 7, 7, 7, 7, 7, 7, 7, 7, 7, 7, 7, 7, 7, 7, 7, 7, 7, 7, 7, 8, 8, 8, 8, 8, 8, 8, 8, 8, 8, 8, 8, 8, 8, 8, 8, 8, 8, 8, 8, 8, 8, 8, 8, 8, 8, 8, 8, 8, 8, 8, 8, 8, 8, 8, 8, 8, 8, 8, 8, 8, 8, 8, 8, 8, 8, 8, 8, 8, 8, 8, 8, 8, 8, 8, 8, 8, 8, 8, 8, 8, 8, 8, 8, 8, 8, 8, 8, 8, 8, 8, 8, 8, 8, 8, 8, 8, 8, 8, 8, 8, 8, 8, 8, 8, 8, 8, 8, 8, 8, 8, 8, 8, 8, 8, 8, 8, 8, 8, 8, 8, 8, 8, 8, 8, 8, 8, 8, 8, 8, 8, 8, 8, 8, 8, 8, 8, 8, 8, 8, 8, 8, 8, 8, 8, 8, 8, 8]) (by kernel_rfl)) rfl zo rfl (fun c22 hd22 hb22 => zq (Q.convI ud5 ud3 rfl (wr64 zo)) (zq (Q.bin rfl rfl rfl zp) (za rfl (zk (W.ret (End.retE (z1 rfl) ?_)))))))))))
 exact ⟨_, by omega, rfl⟩

theorem lenb_spec (n : Nat) (hn : n ≤ 256) : Spec tab 100 [.int .u64 (n : Nat)] [] [] (ValE (fun u => ∃ r : Nat, r ≤ 300 ∧ u = .int .i64 (r : Nat))) := by
 refine Spec.enter' (ft_get 100 Tryz.func100) rfl (m := 8) rfl (rs := [.tmp 2]) rfl (st := [(0, .int .u64 (n : Nat))]) rfl rfl (fun _ => rfl) (fun E => zr (za (zi 0) (zk (W.seq (W.condF rfl (zw (zr (zm rfl (WO.callE rfl (oLs_cons rfl oLs_nil) rfl (len64_spec n hn) SubR.nil rfl (fun v7 hP7 => ?_))))))))))
 obtain ⟨r, hr, rfl⟩ := hP7
 refine za rfl (zk (W.ret (End.retE (z1 rfl) ?_)))
 exact ⟨r, hr, rfl⟩

theorem gins_nil (F : Nat) (caps : List AV) : Spec tab 131 [.nils, .int .i64 ((0 : Nat) : Int), .int .i64 ((0 : Nat) : Int), .func F caps] [] [] (Val (.tuple [])) := by
 refine Spec.enter' (ft_get 131 Tryz.func131) rfl (m := 53) rfl (rs := []) rfl (st := [(0, .nils), (1, .int .i64 ((0 : Nat) : Int)), (2, .int .i64 ((0 : Nat) : Int)), (3, .func F caps)]) rfl rfl (fun _ => rfl) (fun E => zr (zm rfl (zq (Q.bin rfl (zi 1) rfl (bv_add (c := (((1 : Nat)) : Int)) (by decide))) (za rfl (zk (W.block (W.loop (W.seq (zr (zm rfl (zm rfl (zq (Q.bin rfl rfl rfl (bv_lss (p := false) rfl)) (zk (W.condF rfl (W.exit ?_)))))))))))))))
 refine End.K_exit (End.KL_exit (End.KB_hit (End.fall ResL.nil ⟨rfl, rfl⟩ no_wl (SubH.nil _))))

theorem gpdq_nil (F : Nat) (caps : List AV) (lim : Nat) : Spec tab 99 [.nils, .int .i64 ((0 : Nat) : Int), .int .i64 ((0 : Nat) : Int), .int .i64 (lim : Nat), .func F caps] [] [] (Val (.tuple [])) := by
 refine Spec.enter' (ft_get 99 Tryz.func99) rfl (m := 148) rfl (rs := []) rfl (st := [(0, .nils), (1, .int .i64 ((0 : Nat) : Int)), (2, .int .i64 ((0 : Nat) : Int)), (3, .int .i64 (lim : Nat)), (4, .func F caps)]) rfl rfl (fun _ => rfl) (fun E => zr (za rfl (zk (zr (za rfl (zk (W.block (W.loop (W.block (zr (zm rfl (zm rfl (zq (Q.bin rfl rfl rfl (bv_sub (c := (((0 : Nat)) : Int)) (by decide))) (za rfl (zk (W.seq (zr (zm rfl (zq (Q.bin rfl (zi 12) rfl (bv_leq (p := true) rfl)) (zk (W.condT rfl (zr (zm rfl ?_)))))))))))))))))))))))
 refine zm rfl (zm rfl (zm rfl (WO.callV rfl (oLs_cons rfl (oLs_cons rfl (oLs_cons rfl (oLs_cons rfl oLs_nil)))) rfl (gins_nil F caps) SubR.nil rfl (zk (W.sub zzn (W.ret ?_))))))
 refine End.K_ret (End.KB_ret (End.KL_ret (End.KB_ret (End.ret ResL.nil ⟨rfl, rfl⟩ no_wl (SubH.nil _)))))

theorem gsrt_nil (F : Nat) (caps : List AV) : Spec tab 59 [.nils, .func F caps] [] [] (Val (.tuple [])) := by
 refine Spec.enter' (ft_get 59 Tryz.func59) rfl (m := 14) rfl (rs := []) rfl (st := [(0, .nils), (1, .func F caps)]) rfl rfl (fun _ => rfl) (fun E => zr (zm rfl (zq (Q.len ud81 rfl rfl) (za rfl (zk (W.reg (zm rfl (zm rfl (zm rfl (zq (Q.convI ud3 ud121 rfl (wru64 zo)) (WO.callE rfl (oLs_cons rfl oLs_nil) rfl (lenb_spec 0 (by omega)) SubR.nil rfl (fun v11 hP11 => ?_))))))))))))
 obtain ⟨lim, hlim, rfl⟩ := hP11
 refine zm rfl (WO.callV rfl (oLs_cons rfl (oLs_cons (zi 0) (oLs_cons rfl (oLs_cons rfl (oLs_cons rfl oLs_nil))))) rfl (gpdq_nil F caps lim) SubR.nil rfl (WO.nil ?_))
 refine End.fall ResL.nil ⟨rfl, rfl⟩ no_wl (SubH.nil _)

def SrtOK (M : Nat) : Prop := ∀ (G : List Ge) (v : AV) (hp hs : HSt) (hro : ∀ e ∈ hs, e.w = false) (F : Nat) (caps : List AV), Own 1 (G.map (·.2)) G.length v hp → G.length ≤ M → (∀ x ∈ G, x.2.isCell = true ∧ x.2.beq x.2 = true) →
  (∀ x ∈ G, ∀ y ∈ G, ∃ c : Int, Spec tab F ([x.2, y.2] ++ caps) [] hs (Val (.int .i64 c))) →
  Spec tab 59 [v, .func F caps] (hp.map (·.b)) (hp ++ hs) (fun u D => ∃ G' : List Ge, G'.Perm G ∧ Own 1 (G'.map (·.2)) G'.length v D)
def tnB (op : List Nat) : List Nat := if op = [60] then [62] else if op = [62] then [60] else if op = [60, 61] then [62, 61] else if op = [62, 61] then [60, 61] else op
def TnOK (op : List Nat) : Prop := op ≠ [45] ∧ op ≠ [47] ∧ op ≠ [37] ∧ setB op = false
section
variable {op : List Nat} {md : Int} {N : List (List Nat)} {V U : List El} {A B : List PE}
theorem fm_app {β γ : Type} (f g : β → List γ) : ∀ B : List β, (B.flatMap f ++ B.flatMap g).Perm (B.flatMap fun y => f y ++ g y)
  | [] => by simp
  | y :: B => by
    rw [List.flatMap_cons, List.flatMap_cons, List.flatMap_cons, List.append_assoc, List.append_assoc]
    refine List.Perm.append_left _ ?_
    refine List.Perm.trans ?_ (List.Perm.append_left _ (fm_app f g B))
    rw [← List.append_assoc, ← List.append_assoc]
    exact List.Perm.append_right _ List.perm_append_comm
end
def aggKey (md : Int) (N : List (List Nat)) (A : List Lab) : List Lab := if md = 0 then [] else keyM md N A
def tkB (op : List Nat) : Bool := decide (op = [116, 111, 112, 107] ∨ op = [98, 111, 116, 116, 111, 109, 107])
def agB (op : List Nat) : Bool := decide (op = [115, 117, 109] ∨ op = [97, 118, 103] ∨ op = [109, 105, 110] ∨ op = [109, 97, 120] ∨ op = [99, 111, 117, 110, 116])
def befP (op : List Nat) (y x : PE) : Bool := if op = [116, 111, 112, 107] then decide (x.2 < y.2 ∨ (y.2 = x.2 ∧ cmpL y.1 x.1 < 0)) else decide (y.2 < x.2 ∨ (y.2 = x.2 ∧ cmpL y.1 x.1 < 0))
def stP (op : List Nat) (k : Int) (L : List PE) (x : PE) : Bool := decide (((L.filter fun y => befP op y x).length : Int) < k)
def topL (op : List Nat) (k : Int) (kf : PE → List Nat) (L : List PE) : List PE := L.filter fun x => stP op k (L.filter fun y => decide (kf y = kf x)) x
theorem cmpL_self (a : List Lab) : cmpL a a = 0 := cmpL_eq.2 rfl
section
variable {op : List Nat} {V : List El} {L M : List PE} {k : Int} {g : Nat → Nat} {kf : PE → List Nat} {G G' : List Ge}
theorem hit_one {κ α : Type} [DecidableEq κ] (c : κ) (x : α) : ∀ ks : List κ, ks.Nodup → c ∈ ks → (ks.flatMap fun q => if c = q then [x] else []) = [x]
  | [], _, h => by cases h
  | q :: ks, hn, h => by
    rw [List.nodup_cons] at hn
    rw [List.flatMap_cons]
    by_cases e : c = q
    · subst e
      have : (ks.flatMap fun q => if c = q then [x] else []) = [] := by
        rw [List.flatMap_eq_nil_iff]
        intro a ha
        have hne : c ≠ a := fun e => hn.1 (by rw [e]; exact ha)
        rw [if_neg hne]
      rw [this, if_pos rfl]; rfl
    · rw [if_neg e, List.nil_append]
      exact hit_one c x ks hn.2 ((List.mem_cons.1 h).resolve_left e)
theorem part_perm {κ α : Type} [DecidableEq κ] (f : α → κ) (ks : List κ) (hn : ks.Nodup) : ∀ L : List α, (∀ x ∈ L, f x ∈ ks) → (ks.flatMap fun c => L.filter fun x => decide (f x = c)).Perm L
  | [], _ => by simp
  | x :: L, h => by
    have e : (fun c => (x :: L).filter fun x => decide (f x = c)) = fun c => (if f x = c then [x] else []) ++ L.filter fun x => decide (f x = c) := by
      funext c
      rw [List.filter_cons]
      by_cases q : f x = c <;> simp [q]
    rw [e]
    refine (fm_app _ _ ks).symm.trans ?_
    rw [hit_one (f x) x ks hn (h x (by simp))]
    exact List.Perm.cons x (part_perm f ks hn L fun y hy => h y (by simp [hy]))
theorem p2_fl {key : List Nat} : P2 (fl kf V key) = (P2 V).filter fun x => decide (kf x = key) := by
  unfold fl P2
  rw [List.filter_map]; rfl
theorem GInv.perm (h : GInv kf V G) (p : G'.Perm G) : GInv kf V G' :=
  ⟨((p.map _).nodup_iff).2 h.1, fun g hg => h.2.1 g (p.mem_iff.1 hg), fun x hx => by obtain ⟨g, hg, e⟩ := h.2.2 x hx; exact ⟨g, p.mem_iff.2 hg, e⟩⟩
end
noncomputable def aggPre (op : List Nat) (md k : Int) (V : List El) : Option Nat :=
  if vchk V ≠ 0 then some (vchk V) else if fitB k = false then some 2 else if agB op = false ∧ tkB op = false then some 9 else if md < 0 ∨ 2 < md then some 2 else none
def TopR (op : List Nat) (md : Int) (N : List (List Nat)) (k : Int) (V : List El) (e : Nat) (W : List PE) : Prop :=
  (aggPre op md k V = some e ∧ W = []) ∨ (aggPre op md k V = none ∧ OrdR (topL op (k.tdiv 1000000) (fun x : PE => prM (aggKey md N x.1)) (P2 V)) e W)
section
variable {op : List Nat} {V : List El} {md k : Int}
theorem ag_1 (h : vchk V ≠ 0) : aggPre op md k V = some (vchk V) := if_pos h
theorem ag_2 (h : vchk V = 0) (g : fitB k = false) : aggPre op md k V = some 2 := by unfold aggPre; rw [if_neg (by simp [h]), if_pos g]
theorem ag_r (h : vchk V = 0) (g : fitB k = true) (q : agB op = true ∨ tkB op = true) (r : md < 0 ∨ 2 < md) : aggPre op md k V = some 2 := by
  unfold aggPre; rw [if_neg (by simp [h]), if_neg (by simp [g]), if_neg (by rintro ⟨a, b⟩; simp [a, b] at q), if_pos r]
theorem ag_no (h : vchk V = 0) (g : fitB k = true) (q : agB op = true ∨ tkB op = true) (r : 0 ≤ md ∧ md ≤ 2) : aggPre op md k V = none := by
  unfold aggPre; rw [if_neg (by simp [h]), if_neg (by simp [g]), if_neg (by rintro ⟨a, b⟩; simp [a, b] at q), if_neg (by omega)]
end
theorem GB.ein {hs : HSt} {G : List Ge} {D : HSt} {g : Ge} (h : GB G D) (hg : g ∈ G) (hL : ∀ x ∈ g.1.2, LIn hs x.2.1 x.1) : EIn (ro D ++ hs) g.1.2 g.2 := by
  obtain ⟨j, hj⟩ := List.getElem?_of_mem hg
  obtain ⟨A, hp, B, rfl, hO, _⟩ := GB.at h hj
  refine ⟨?_, fun x hx => (hL x hx).mono fun b o h => h.app⟩
  rcases hO with ⟨h1, _, h2, _⟩ | ⟨b, ex, h1, rfl, _⟩
  · exact .inl ⟨h2, List.length_eq_zero_iff.1 h1⟩
  · exact .inr ⟨b, 2, ex, h1, ⟨false, by simp [ro]⟩⟩
theorem keyok_nil : KeyOK [] := ⟨Nat.zero_le _, fun x hx => by simp at hx⟩
section
variable {md : Int} {N : List (List Nat)} {A : List Lab}
theorem ak_0 (h : md = 0) : aggKey md N A = [] := if_pos h
theorem ak_1 (h : md ≠ 0) : aggKey md N A = keyM md N A := if_neg h
theorem ak_bd (h : LBd A) (md : Int) (N : List (List Nat)) : LBd (aggKey md N A) := by
  unfold aggKey
  split
  · exact lbd_nil
  · exact lbd_key h
theorem ak_key (h : KeyOK A) (md : Int) (N : List (List Nat)) : KeyOK (aggKey md N A) := by
  unfold aggKey
  split
  · exact keyok_nil
  · exact h.key md N
end
theorem ag76 : tab.isAgg 76 = some true := by kernel_rfl
theorem ag80 : tab.isAgg 80 = some false := by kernel_rfl
theorem ao76 : AO tab 76 = some ⟨1, true, [.nilf]⟩ := by kernel_rfl
theorem pl76 : PL tab 76 [.nilf] [(0, 1)] = true := by kernel_rfl
theorem sz76 : tab.size 76 = some 1 := by kernel_rfl
theorem agg1_spec (hs : HSt) (hro : ∀ e ∈ hs, e.w = false) (A : List Lab) (va : AV) (ha : LIn hs A va) (hA : LBd A) (n : Int) (N : List (List Nat)) (vn : AV) (hN : SIn hs N vn) (hNb : SBd N) (md : Int) (bM bN : Nat) (m1 : MemH hs bM ⟨1, true, [.int .i64 md]⟩) (mN : MemH hs bN ⟨1, true, [vn]⟩) : Spec tab 54 [.agg [va, .int .i64 n], .ptr bM 0, .ptr bN 0] [] hs (fun v D => OwnE 2 (cL (aggKey md N A)) (aggKey md N A).length v D) := by
 have m1o := m1
 have mNo := mN
 obtain ⟨w1, m1⟩ := m1
 obtain ⟨wN, mN⟩ := mN
 refine Spec.enter' (ft_get 54 Tryz.func54) rfl (m := 12) rfl (rs := [.tmp 4]) rfl (st := [(0, .agg [va, .int .i64 n]), (1, .ptr bM 0), (2, .ptr bN 0)]) rfl rfl (fun _ => rfl) (fun E => zr (WO.box rfl (all_c2 (LIn.cell ha)) (bx35 _ rfl) rfl (fun b1 => za rfl (zk (W.seq (zr (zq (Q.load1 rfl (List.mem_cons_of_mem _ m1) ag3 rfl) (zq (Q.bin rfl (zi 0) rfl (bv_eql eq_int)) (zk (W.condDS rfl (fun hc6 => ?_) (fun hc6 => ?_)))))))))))
 · refine zr (za rfl (zk (W.ret ?_)))
   refine End.K_ret (End.ret (z1 rfl) (hs' := []) (by rw [ak_0 (by simpa using hc6)]; exact OwnE.nil 2) no_wl (SubH.nil _))
 refine zw (zr (zq (Q.load1 rfl (List.mem_cons_of_mem _ m1) ag3 rfl) (zq (Q.load1 rfl (List.mem_cons_of_mem _ mN) ag40 rfl) (zf fa35_0 rfl 0 (zq (Q.load1 rfl (zt 0 rfl) ag33 rfl) (WO.call0 rfl (oLs_cons rfl (oLs_cons rfl (oLs_cons rfl oLs_nil))) rfl (key_spec hs hro A _ ha hA N _ hN hNb md) (SubR.tl (SubR.self hro)) rfl (fun v11 D11 hP11 => WO.subH (hs' := _ :: (hs ++ D11)) (SubH.of_perm (perm_tail (N := []) (G := D11) (K := [_]) (X := hs))) (za rfl (zk (W.ret ?_))))))))))
 refine End.ret (z1 rfl) (hs' := D11) (by rw [ak_1 (by simpa using hc6)]; exact hP11) (OwnE.w hP11) gc

theorem agg2_spec (hs : HSt) (hro : ∀ e ∈ hs, e.w = false) (A : List Lab) (va : AV) (ha : LIn hs A va) (hK : KeyOK A) (n : Int) (N : List (List Nat)) (vn : AV) (hN : SIn hs N vn) (hNb : SBd N) (md : Int) (bM bN : Nat) (m1 : MemH hs bM ⟨1, true, [.int .i64 md]⟩) (mN : MemH hs bN ⟨1, true, [vn]⟩) (bL : Nat) (m4 : MemH hs bL ⟨1, true, [.func 54 [.ptr bM 0, .ptr bN 0]]⟩) : Spec tab 57 [.agg [va, .int .i64 n], .ptr bL 0] [] hs (Val (.str (prM (aggKey md N A)))) := by
 have m4o := m4
 obtain ⟨w4, m4⟩ := m4
 refine Spec.enter' (ft_get 57 Tryz.func57) rfl (m := 8) rfl (rs := [.tmp 3]) rfl (st := [(0, .agg [va, .int .i64 n]), (1, .ptr bL 0)]) rfl rfl (fun _ => rfl) (fun E => zr (WO.box rfl (all_c2 (LIn.cell ha)) (bx35 _ rfl) rfl (fun b1 => zq (Q.assign (oc (v := .str []) (by kernel_rfl))) (zk (zr (zq (Q.load1 rfl (List.mem_cons_of_mem _ m4) ag80 rfl) (zq (Q.loadN rfl (zt 0 rfl) ag35 sz35 (l := [_, _]) rfl) (WO.call0 rfl (oLs_cons rfl oLs_nil) rfl (agg1_spec hs hro A _ ha hK.bd n N vn hN hNb md bM bN m1 mN) (SubR.tl (SubR.self hro)) rfl (fun v6 D6 hP6 => WO.subH (hs' := _ :: (hs ++ D6)) (SubH.of_perm (perm_tail (N := []) (G := D6) (K := [_]) (X := hs))) (WO.callV rfl (oLs_cons rfl oLs_nil) rfl (print_spec (ro D6) ro_w _ _ ((LIn.own hP6).mono fun b o h => h.ro) (ak_key hK md N)) (SubR.ro gc) rfl (za rfl (zk (W.ret (End.retV (z1 rfl) ?_))))))))))))))
 rfl

theorem agg3_spec (hs : HSt) (hro : ∀ e ∈ hs, e.w = false) (X Y : List El) (bx by_ szx szy : Nat) (exx exy : Bool) (mx : MemH hs bx ⟨szx, exx, cE X⟩) (my : MemH hs by_ ⟨szy, exy, cE Y⟩) (hXL : ∀ x ∈ X, LIn hs x.2.1 x.1) (hYL : ∀ x ∈ Y, LIn hs x.2.1 x.1) (hXB : EBd X) (hYB : EBd Y) (hx0 : 0 < X.length) (hy0 : 0 < Y.length) (N : List (List Nat)) (vn : AV) (hN : SIn hs N vn) (hNb : SBd N) (md : Int) (bM bN : Nat) (m1 : MemH hs bM ⟨1, true, [.int .i64 md]⟩) (mN : MemH hs bN ⟨1, true, [vn]⟩) (bL : Nat) (m4 : MemH hs bL ⟨1, true, [.func 54 [.ptr bM 0, .ptr bN 0]]⟩) : Spec tab 60 [.slice bx 0 X.length 2, .slice by_ 0 Y.length 2, .ptr bL 0] [] hs (Val (.int .i64 (cmpL (aggKey md N (eg X 0).2.1) (aggKey md N (eg Y 0).2.1)))) := by
 have hX : EIn hs X (.slice bx 0 X.length 2) := ⟨.inr ⟨_, _, _, rfl, mx⟩, hXL⟩
 have hY : EIn hs Y (.slice by_ 0 Y.length 2) := ⟨.inr ⟨_, _, _, rfl, my⟩, hYL⟩
 obtain ⟨wx, mx⟩ := mx
 obtain ⟨wy, my⟩ := my
 have hXl := hXB.1
 have hYl := hYB.1
 obtain ⟨w4, m4⟩ := m4
 refine Spec.enter' (ft_get 60 Tryz.func60) rfl (m := 17) rfl (rs := [.tmp 5]) rfl (st := [(0, .slice bx 0 X.length 2), (1, .slice by_ 0 Y.length 2), (2, .ptr bL 0)]) rfl rfl (fun _ => rfl) (fun E => zr (za (zi 0) (zk (W.seq (W.regD 9 _ (by kernel_rfl) (KIn.refl _) (WD.q (Q.load1 rfl m4 ag80 rfl) (by simp [AV.beq, beq1, beq0, beqL]) rfl (WD.q (Q.move rfl) bq_slice rfl (WD.q (Q.iaddrL ud22 sz35 rfl (zi 0) zo (o' := 0) rfl) bq_ptr rfl (WD.q (Q.loadN rfl mx ag35 sz35 (cE_at (V := X) (i := 0) (by omega))) (bq_agg2 (LIn.bq0 (hX.at (by omega)))) rfl (WD.call0 rfl (oLs_cons rfl oLs_nil) rfl (agg1_spec hs hro _ _ (hX.at (by omega)) (hXB.at (by omega)).1 _ N vn hN hNb md bM bN m1 mN) (SubR.self hro) (KIn.refl _) rfl (fun v10 D10 hP10 => WD.subH (hs' := (hs ++ D10)) (SubH.of_perm (perm_tail (N := []) (G := D10) (K := []) (X := hs))) (WD.q (Q.load1 rfl m4 ag80 rfl) (by simp [AV.beq, beq1, beq0, beqL]) rfl (WD.q (Q.move rfl) bq_slice rfl (WD.q (Q.iaddrL ud22 sz35 rfl (zi 0) zo (o' := 0) rfl) bq_ptr rfl (WD.q (Q.loadN rfl my ag35 sz35 (cE_at (V := Y) (i := 0) (by omega))) (bq_agg2 (LIn.bq0 (hY.at (by omega)))) rfl (WD.call0 rfl (oLs_cons rfl oLs_nil) rfl (agg1_spec hs hro _ _ (hY.at (by omega)) (hYB.at (by omega)).1 _ N vn hN hNb md bM bN m1 mN) (SubR.appl (SubR.self hro)) (KIn.ofH gc) rfl (fun v15 D15 hP15 => WD.subH (hs' := (hs ++ D10 ++ D15)) (SubH.of_perm (perm_tail (N := []) (G := D15) (K := []) (X := hs ++ D10))) (WD.callV rfl (oLs_cons rfl (oLs_cons rfl oLs_nil)) rfl (cmp_spec (ro (D10 ++ D15)) ro_w _ _ _ _ ((LIn.own hP10).mono fun b o h => h.appl.ro) ((LIn.own hP15).mono fun b o h => h.app.ro) (ak_bd (hXB.at (by omega)).1 md N) (ak_bd (hYB.at (by omega)).1 md N)) (SubR.ro gc) (KIn.ofH gc) rfl (WD.q (Q.assign rfl) bq_int rfl (WD.nil (End.K (W.sub (zc 5 rfl zzn) (W.ret ?_)))))))))))))))))))))))
 refine End.retV (z1 rfl) ?_
 rfl

end Go.Proofs.YtmblgaehfjheeaaGreat.Ev
