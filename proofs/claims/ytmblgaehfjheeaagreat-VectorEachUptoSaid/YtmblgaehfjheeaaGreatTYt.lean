/- Chapter 19, walks: what a call makes of each element. -/
import Derived.Test.YtmblgaehfjheeaaGreatTYs
namespace Go.Proofs.YtmblgaehfjheeaaGreat.Ev
open Go.RowKit
set_option linter.unusedVariables false
set_option linter.unusedSimpArgs false
set_option maxRecDepth 100000
set_option maxHeartbeats 1000000
theorem ebd_nil : EBd [] := ⟨by simp, fun x hx => by simp at hx⟩
theorem ord_ebd {X W : List El} {e : Nat} (h : OrdR (P2 X) e (P2 W)) (hm : ∀ x ∈ W, x ∈ X) (hB : EBd X) : EBd W := by
  refine ⟨?_, fun x hx => hB.2 x (hm x hx)⟩
  rcases h with ⟨_, h, _⟩ | ⟨_, h, _⟩
  · have : W.length = 0 := by have := congrArg List.length h; simpa [P2] using this
    omega
  · have := h.length_eq
    simp only [P2, List.length_map] at this
    have := hB.1
    omega
/-- Blocks of cells in pairs that may be written. -/
def WZ (hl : HSt) : Prop := ∀ e ∈ hl, e.w = true ∧ e.o.sz = 2
theorem WZ.nil : WZ [] := fun e he => by simp at he
theorem WZ.w {hl : HSt} (h : WZ hl) : ∀ e ∈ hl, e.w = true := fun e he => (h e he).1
theorem WZ.app {a b : HSt} (h : WZ a) (g : WZ b) : WZ (a ++ b) := fun e he => (List.mem_append.1 he).elim (h e) (g e)
theorem OwnE.wz {cells : List AV} {len : Nat} {v : AV} {hp : HSt} (h : OwnE 2 cells len v hp) : WZ hp := by
  rcases h with ⟨_, _, _, rfl⟩ | ⟨b, ex, _, rfl, _⟩
  · exact WZ.nil
  · intro e he
    rw [List.mem_singleton.1 he]
    exact ⟨rfl, rfl⟩
/-- A vector of a function's own: its array, and the blocks of its labels. -/
def VOwn (W : List El) (w : AV) (D : HSt) : Prop := ∃ hp hl, D = hp ++ hl ∧ OwnE 2 (cE W) W.length w hp ∧ (∀ x ∈ W, LIn hl x.2.1 x.1) ∧ WZ hl ∧ EBd W
theorem VOwn.nil : VOwn [] .nils [] := ⟨[], [], rfl, OwnE.nil 2, fun x hx => by simp at hx, WZ.nil, ebd_nil⟩
def eachL (op : List Nat) (low high : Int) (V : List El) : List PE := V.map fun x => (x.2.1.filter (dropP [[95, 95, 110, 97, 109, 101, 95, 95]]), oneM op x.2.2 low high)
theorem eachL_len {op : List Nat} {low high : Int} {V : List El} : (eachL op low high V).length = V.length := by simp [eachL]
open Classical in
noncomputable def eachPre (op : List Nat) (low high : Int) (V : List El) : Option Nat :=
  if vchk V ≠ 0 then some (vchk V) else if op = [99, 108, 97, 109, 112] ∧ ¬ (fitB low = true ∧ fitB high = true) then some 2 else if ¬ opK op then some 9 else if op = [99, 108, 97, 109, 112] ∧ high < low then some 0
  else if ∃ i, i < V.length ∧ fitB (oneM op (eg V i).2.2 low high) = false then some 11 else none
/-- What a call makes of each element. -/
def EachR (op : List Nat) (low high : Int) (V : List El) (e : Nat) (W : List PE) : Prop := (eachPre op low high V = some e ∧ W = []) ∨ (eachPre op low high V = none ∧ OrdR (eachL op low high V) e W)
theorem each_pre {op : List Nat} {low high : Int} {V : List El} {e : Nat} (h : eachPre op low high V = some e) : EachR op low high V e (P2 []) := .inl ⟨h, rfl⟩
theorem each_go {op : List Nat} {low high : Int} {V : List El} {e : Nat} {W : List PE} (h : eachPre op low high V = none) (g : OrdR (eachL op low high V) e W) : EachR op low high V e W := .inr ⟨h, g⟩
theorem EachR.fn {op : List Nat} {low high : Int} {V : List El} {e e' : Nat} {W W' : List PE} (h : EachR op low high V e W) (g : EachR op low high V e' W') : e = e' ∧ W = W' := by
  rcases h with ⟨h1, h2⟩ | ⟨h1, h2⟩ <;> rcases g with ⟨g1, g2⟩ | ⟨g1, g2⟩
  · rw [h1] at g1; cases g1; exact ⟨rfl, h2.trans g2.symm⟩
  · rw [h1] at g1; cases g1
  · rw [h1] at g1; cases g1
  · exact h2.fn g2
section
variable {op : List Nat} {low high : Int} {V : List El}
theorem eachPre_1 (h : vchk V ≠ 0) : eachPre op low high V = some (vchk V) := if_pos h
theorem eachPre_2 (h : vchk V = 0) (hc : op = [99, 108, 97, 109, 112]) (hf : fitB low = false ∨ fitB high = false) : eachPre op low high V = some 2 := by
  unfold eachPre
  rw [if_neg (by simp [h]), if_pos ⟨hc, by rcases hf with hf | hf <;> simp [hf]⟩]
theorem eachPre_9 (h : vchk V = 0) (hk : ¬ opK op) : eachPre op low high V = some 9 := by
  have : op ≠ [99, 108, 97, 109, 112] := fun e => hk (by unfold opK; simp [e])
  unfold eachPre
  rw [if_neg (by simp [h]), if_neg (by simp [this]), if_pos hk]
theorem eachPre_0 (h : vchk V = 0) (hc : op = [99, 108, 97, 109, 112]) (h1 : fitB low = true) (h2 : fitB high = true) (hlt : high < low) : eachPre op low high V = some 0 := by
  have : opK op := by unfold opK; simp [hc]
  unfold eachPre
  rw [if_neg (by simp [h]), if_neg (by simp [h1, h2]), if_neg (by simp [this]), if_pos ⟨hc, hlt⟩]
theorem eachPre_11 (h : vchk V = 0) (hk : opK op) (hcl : op = [99, 108, 97, 109, 112] → fitB low = true ∧ fitB high = true ∧ low ≤ high) {i : Nat} (hi : i < V.length) (hf : fitB (oneM op (eg V i).2.2 low high) = false) : eachPre op low high V = some 11 := by
  unfold eachPre
  rw [if_neg (by simp [h]), if_neg (fun g => g.2 ⟨(hcl g.1).1, (hcl g.1).2.1⟩), if_neg (by simp [hk]), if_neg (fun g => by have := (hcl g.1).2.2; omega), if_pos ⟨i, hi, hf⟩]
theorem eachPre_no (h : vchk V = 0) (hk : opK op) (hcl : op = [99, 108, 97, 109, 112] → fitB low = true ∧ fitB high = true ∧ low ≤ high) (hf : ∀ i, i < V.length → fitB (oneM op (eg V i).2.2 low high) = true) : eachPre op low high V = none := by
  unfold eachPre
  rw [if_neg (by simp [h]), if_neg (fun g => g.2 ⟨(hcl g.1).1, (hcl g.1).2.1⟩), if_neg (by simp [hk]), if_neg (fun g => by have := (hcl g.1).2.2; omega), if_neg (fun ⟨i, hi, g⟩ => by rw [hf i hi] at g; cases g)]
theorem vchk_fit (h : vchk V = 0) {i : Nat} (hi : i < V.length) : fitB (eg V i).2.2 = true := by
  unfold vchk at h
  split at h
  · rename_i g; exact absurd h g
  · split at h
    · rename_i g
      exact of_decide_eq_true g i hi
    · cases h
theorem each_next {X : List El} {i : Nat} {v : AV} (h : P2 X = (eachL op low high V).take i) (hi : i < V.length) : P2 (X ++ [(v, (eg V i).2.1.filter (dropP [[95, 95, 110, 97, 109, 101, 95, 95]]), oneM op (eg V i).2.2 low high)]) = (eachL op low high V).take (i + 1) := by
  have : (eachL op low high V)[i]? = some ((eg V i).2.1.filter (dropP [[95, 95, 110, 97, 109, 101, 95, 95]]), oneM op (eg V i).2.2 low high) := by
    simp [eachL, eg, List.getElem?_map, List.getElem?_eq_getElem hi, List.getD_eq_getElem?_getD]
  unfold P2 at *
  rw [List.map_append, h, List.take_add_one, this]
  rfl
end
theorem own_snoc {X : List El} {x : El} {v : AV} {hp : HSt} (h : OwnE 2 (cE X ++ [x.1, .int .i64 x.2.2]) (X.length + 1) v hp) : OwnE 2 (cE (X ++ [x])) (X ++ [x]).length v hp := by
  rw [cE_append, List.length_append]; exact h
theorem LIn.own {l : List Lab} {v : AV} {hp : HSt} (h : OwnE 2 (cL l) l.length v hp) : LIn hp l v := by
  rcases h with ⟨h1, _, h2, _⟩ | ⟨b, ex, h1, rfl, _⟩
  · exact .inl ⟨h2, List.length_eq_zero_iff.1 h1⟩
  · exact .inr ⟨b, 2, ex, h1, true, List.mem_cons_self⟩
theorem MemH.appl {A hs : HSt} {b : Nat} {o : AObj} (h : MemH hs b o) : MemH (hs ++ A) b o := let ⟨w, g⟩ := h; ⟨w, List.mem_append_left _ g⟩
theorem lin_snoc {X : List El} {x : El} {hl D : HSt} (h : ∀ y ∈ X, LIn hl y.2.1 y.1) (g : LIn D x.2.1 x.1) : ∀ y ∈ X ++ [x], LIn (hl ++ D) y.2.1 y.1 := by
  intro y hy
  rcases List.mem_append.1 hy with hy | hy
  · exact (h y hy).mono fun b o h => h.appl
  · rw [List.mem_singleton.1 hy]; exact g.mono fun b o h => h.app
theorem fit_i64 {n : Int} (h : fitB n = true) : I64 n := by
  have := fit_bd h
  unfold I64; omega
theorem ebd_snoc {X : List El} {v : AV} {l : List Lab} {p : Lab → Bool} {n : Int} (h : EBd X) (hl : X.length + 1 ≤ 1048576) (g : LBd l) (hn : fitB n = true) : EBd (X ++ [(v, l.filter p, n)]) := by
  refine ⟨by simp; omega, fun x hx => ?_⟩
  rcases List.mem_append.1 hx with hx | hx
  · exact h.2 x hx
  · rw [List.mem_singleton.1 hx]
    exact ⟨⟨Nat.le_trans (List.length_filter_le _ _) g.1, fun y hy => g.2 y (List.mem_filter.1 hy).1⟩, fit_i64 hn⟩
theorem EIn.own {X : List El} {u : AV} {hp hl : HSt} (h : OwnE 2 (cE X) X.length u hp) (g : ∀ x ∈ X, LIn hl x.2.1 x.1) : EIn (ro (hp ++ hl)) X u := by
  refine ⟨?_, fun x hx => (g x hx).mono fun b o h => h.app.ro⟩
  rcases h with ⟨h1, _, h2, _⟩ | ⟨b, ex, h1, rfl, _⟩
  · exact .inl ⟨h2, List.length_eq_zero_iff.1 h1⟩
  · exact .inr ⟨b, 2, ex, h1, MemH.ro ⟨true, List.mem_cons_self⟩⟩
theorem each_spec (hs : HSt) (hro : ∀ e ∈ hs, e.w = false) (V : List El) (v : AV) (hV : EIn hs V v) (hB : EBd V) (op : List Nat) (ho : Bytes op) (low high : Int) : Spec tab 27 [.str op, v, .int .i64 low, .int .i64 high] [] hs (fun u D => ∃ (e : Nat) (W : List El) (w : AV), EachR op low high V e (P2 W) ∧ VOwn W w D ∧ u = .tuple [w, .int .i64 (e : Nat)]) := by
  have hBl := hB.1
  refine Spec.enter' (ft_get 27 Tryz.func27) rfl (m := 68) rfl (rs := [.tmp 8, .tmp 9]) rfl (st := [(0, .str op), (1, v), (2, .int .i64 low), (3, .int .i64 high)]) rfl rfl (fun _ => rfl) (fun E => ?_)
  refine W.seq ?_
  refine W.reg ?_
  refine WO.q (Q.assign rfl) rfl ?_
  refine WO.q (Q.assign (oc (v := .int .i64 ((0 : Nat) : Int)) rfl)) rfl ?_
  refine WO.nil ?_
  refine End.K ?_
  refine W.seq ?_
  refine W.seq ?_
  refine W.reg ?_
  refine WO.q (Q.move rfl) rfl ?_
  refine WO.callV rfl (oLs_cons rfl oLs_nil) rfl (vck_spec hs hro V _ hV hB) (SubR.self hro) rfl ?_
  refine WO.q (Q.assign rfl) rfl ?_
  refine WO.nil ?_
  refine End.K ?_
  refine W.seq ?_
  refine W.reg ?_
  refine WO.q (Q.move rfl) rfl ?_
  refine WO.q (Q.bin rfl (oc (v := .int .i64 ((0 : Nat) : Int)) rfl) rfl (bv_neq ne_nat)) rfl ?_
  refine WO.nil ?_
  refine End.K ?_
  refine W.condDS rfl (fun hc18 => ?_) (fun hc18 => ?_)
  · skip -- T
    refine W.seq ?_
    refine W.reg ?_
    refine WO.q (Q.move rfl) rfl ?_
    refine WO.q (Q.assign rfl) rfl ?_
    refine WO.q (Q.assign rfl) rfl ?_
    refine WO.nil ?_
    refine End.K ?_
    refine W.ret ?_
    refine End.K_ret (End.ret (ResL.tmp rfl (ResL.tmp rfl ResL.nil)) (hs' := []) ⟨_, [], .nils, each_pre (eachPre_1 (by simpa using hc18)), VOwn.nil, rfl⟩ no_wl (SubH.nil _))
  · skip -- F
    have hck : vchk V = 0 := (by have := Classical.not_not.1 hc18; omega)
    refine W.skip ?_
    refine End.K ?_
    refine W.seqJ1 (fun (q : Unit) => [(0, .str op), (1, v), (2, .int .i64 low), (3, .int .i64 high)]) (fun (q : Unit) => hs) (fun (q : Unit) => opK op ∧ (op = [99, 108, 97, 109, 112] → fitB low = true ∧ fitB high = true ∧ low ≤ high)) (fun q hI16 => ?_) (fun hJ16 => ?_)
    · skip -- FJ16
      obtain ⟨hk, hcl⟩ := hI16
      refine W.seq ?_
      refine W.reg ?_
      refine WO.q (Q.assign rfl) rfl ?_
      refine WO.nil ?_
      refine End.K ?_
      refine W.seq ?_
      refine W.seq ?_
      refine W.reg ?_
      refine WO.q (Q.move rfl) rfl ?_
      refine WO.q (Q.len ud22 rfl (EIn.len hV)) rfl ?_
      refine WO.q (Q.move (oc (v := .int .i64 ((0 : Nat) : Int)) rfl)) rfl ?_
      refine WO.nil ?_
      refine End.K ?_
      refine W.block ?_
      refine W.loop_ind5 (fun (i : Nat) (X : List El) (u : AV) (hp : HSt) (hl : HSt) => [(0, .str op), (2, .int .i64 low), (3, .int .i64 high), (11, u), (40, v), (41, .int .i64 ((V.length : Nat) : Int)), (42, .int .i64 ((i : Nat) : Int))]) (fun (i : Nat) (X : List El) (u : AV) (hp : HSt) (hl : HSt) => ((hs ++ hp) ++ hl)) (fun (i : Nat) (X : List El) (u : AV) (hp : HSt) (hl : HSt) => i ≤ V.length ∧ P2 X = (eachL op low high V).take i ∧ X.length = i ∧ OwnE 2 (cE X) X.length u hp ∧ (∀ x ∈ X, LIn hl x.2.1 x.1) ∧ WZ hl ∧ EBd X ∧ ∀ k, k < i → fitB (oneM op (eg V k).2.2 low high) = true) (fun (i : Nat) (X : List El) (u : AV) (hp : HSt) (hl : HSt) => V.length - i) (0) ([]) (.nils) ([]) ([]) ⟨Nat.zero_le _, rfl, rfl, OwnE.nil 2, fun x hx => by simp at hx, WZ.nil, ebd_nil, fun k q => by omega⟩ (SubS.cons rfl (SubS.cons rfl (SubS.cons rfl (SubS.cons rfl (SubS.cons rfl (SubS.cons rfl (SubS.cons rfl (SubS.nil _)))))))) gc (fun i X u hp hl hI0 ih0 => ?_)
      obtain ⟨h1, h2, h3, hO, hL, hwz, hXB, hfit⟩ := hI0
      have hw := hwz.w
      refine W.seq ?_
      refine W.reg ?_
      refine WO.q (Q.bin rfl rfl rfl (bv_lss lt_nat)) rfl ?_
      refine WO.nil ?_
      refine End.K ?_
      refine W.seq ?_
      refine W.condDS rfl (fun hc43 => ?_) (fun hc43 => ?_)
      · skip -- FJ16L0T
        obtain ⟨bv, szv, exv, rfl, wv, mv⟩ := EIn.full hV (by omega)
        refine W.skip ?_
        refine End.K ?_
        refine W.seq ?_
        refine W.block ?_
        refine W.seq ?_
        refine W.reg ?_
        refine WO.q (Q.iaddrS ud22 sz35 rfl rfl (by first | omega | (simp at * <;> omega))) rfl ?_
        refine WO.q (Q.loadN rfl (List.mem_append_left _ (List.mem_append_left _ mv)) ag35 sz35 (cE_at (by first | omega | (simp at * <;> omega)))) rfl ?_
        refine WO.alloc ao35 rfl (fun b1 => ?_)
        refine WO.store sz35 rfl rfl (i := 0) rfl (and_tt rfl (and_tt (LIn.cell (hV.at (by omega))) rfl)) (cs := [_, _]) rfl (hs' := _ :: _) rfl ?_
        refine WO.nil ?_
        refine End.K ?_
        refine W.seq ?_
        refine W.reg ?_
        refine WO.q (Q.move rfl) rfl ?_
        refine WO.q (Q.fieldAddr fa35_1 rfl (o' := 1) rfl) rfl ?_
        refine WO.q (Q.load1 rfl (mem_at (i := 0) rfl) ag3 rfl) rfl ?_
        refine WO.q (Q.move rfl) rfl ?_
        refine WO.q (Q.move rfl) rfl ?_
        refine WO.callV rfl (oLs_cons rfl (oLs_cons rfl (oLs_cons rfl (oLs_cons rfl oLs_nil)))) rfl (one_spec op ho _ _ _ (vchk_fit hck (by omega))) SubR.nil rfl ?_
        refine WO.q (Q.assign rfl) rfl ?_
        refine WO.nil ?_
        refine End.K ?_
        refine W.seq ?_
        refine W.seq ?_
        refine W.reg ?_
        refine WO.q (Q.move rfl) rfl ?_
        refine WO.callV rfl (oLs_cons rfl oLs_nil) rfl (fits_spec _) SubR.nil rfl ?_
        refine WO.q (Q.not rfl rfl) rfl ?_
        refine WO.nil ?_
        refine End.K ?_
        refine W.condS rfl (fun hc54 => ?_) (fun hc54 => ?_)
        · skip -- FJ16L0TT
          refine W.seq ?_
          refine W.reg ?_
          refine WO.q (Q.assign rfl) rfl ?_
          refine WO.q (Q.assign (oc (v := .int .i64 ((11 : Nat) : Int)) rfl)) rfl ?_
          refine WO.nil ?_
          refine End.K ?_
          refine W.sub (SubS.cons (k := 9) rfl (SubS.cons (k := 8) rfl (SubS.nil _))) ?_
          refine W.ret ?_
          refine End.K_ret (End.KB_ret (End.K_ret (End.KL_ret (End.KB_ret (End.K_ret (End.ret (ResL.tmp rfl (ResL.tmp rfl ResL.nil)) (hs' := []) ⟨_, [], .nils, each_pre (eachPre_11 hck hk hcl (i := i) (by omega) (by simpa using hc54)), VOwn.nil, rfl⟩ no_wl (SubH.nil _)))))))
        · skip -- FJ16L0TF
          have hf1 : fitB (oneM op (eg V i).2.2 low high) = true := (by simpa using hc54)
          refine W.skip ?_
          refine End.K ?_
          refine W.reg ?_
          refine WO.q (Q.move rfl) rfl ?_
          refine WO.q (Q.fieldAddr fa35_0 rfl (o' := 0) rfl) rfl ?_
          refine WO.q (Q.load1 rfl (mem_at (i := 0) rfl) ag33 rfl) rfl ?_
          refine WO.call0 rfl (oLs_cons rfl oLs_nil) rfl (nless_spec hs hro _ _ (hV.at (by omega)) (hB.at (by omega)).1) (SubR.tl (SubR.appl (SubR.appl (SubR.self hro)))) rfl (fun v58 D58 hP58 => ?_)
          refine WO.subH (hs' := _ :: (hs ++ hl ++ D58 ++ hp)) (SubH.of_perm (perm_tailO (N := []) (G := D58) (K := [_]) (X := hs ++ hp ++ hl) (by simp only [List.append_assoc, List.nil_append]; exact List.perm_iff_count.2 (by intro z; simp only [List.append_eq, List.count_append, List.count_nil]; omega)))) ?_
          refine WO.q (Q.move rfl) rfl ?_
          refine WO.q (Q.build pl35 (oPs_cons rfl (oPs_cons rfl oPs_nil)) rfl (cs := [_, _]) (fillE2 (OwnE.cell hP58))) rfl ?_
          refine WO.bslice ud22 sz35 zr35 rfl (oPs_cons rfl oPs_nil) rfl (cs := [_, _]) rfl (and_tt (OwnE.cell hP58) rfl) rfl (fun b2 => ?_)
          refine WO.appAny (A := ([_] ++ hs ++ hl ++ D58)) ap22_22 hO rfl rfl (Src.slice (mem_at (i := 0) rfl) rfl) rfl (by omega) (by decide) (SubH.of_sublist (List.sublist_cons_self _ _)) rfl (fun v62 hp62 hO62 => ?_)
          refine WO.q (Q.assign rfl) rfl ?_
          refine WO.nil ?_
          refine End.KB (End.K ?_)
          refine W.sub (SubS.cons (k := 11) rfl (SubS.cons (k := 0) rfl (SubS.cons (k := 2) rfl (SubS.cons (k := 3) rfl (SubS.cons (k := 40) rfl (SubS.cons (k := 41) rfl (SubS.cons (k := 42) rfl (SubS.nil _)))))))) ?_
          refine W.reg ?_
          refine WO.q (Q.bin rfl (oc (v := .int .i64 ((1 : Nat) : Int)) rfl) rfl (bv_add (wn_add (by first | omega | (simp at * <;> omega))))) rfl ?_
          refine WO.q (Q.move rfl) rfl ?_
          refine WO.nil ?_
          refine End.KL ?_
          refine W.sub (SubS.cons rfl (SubS.cons rfl (SubS.cons rfl (SubS.cons rfl (SubS.cons rfl (SubS.cons rfl (SubS.cons rfl (SubS.nil _)))))))) (W.subH gc (ih0 (i + 1) (X ++ [(v58, (eg V i).2.1.filter (dropP [[95, 95, 110, 97, 109, 101, 95, 95]]), oneM op (eg V i).2.2 low high)]) (v62) (hp62) (hl ++ D58) ?_ ?_))
          · exact ⟨by omega, each_next h2 (by omega), by simp [h3], own_snoc hO62, lin_snoc hL (LIn.own hP58), WZ.app hwz (OwnE.wz hP58), ebd_snoc hXB (by omega) (hB.at (by omega)).1 hf1, fun k q => by rcases Nat.lt_or_ge k i with q1 | q1; exact hfit k q1; obtain rfl : k = i := (by omega); exact hf1⟩
          · exact (by first | omega | (simp at * <;> omega))
      · skip -- FJ16L0F
        have hXe : P2 X = eachL op low high V := (by rw [h2]; exact List.take_of_length_le (by rw [eachL_len]; omega))
        refine W.exit ?_
        refine End.K_exit (End.KL_exit (End.KB_hit (End.K ?_)))
        refine W.seq ?_
        refine W.reg ?_
        refine WO.q (Q.move rfl) rfl ?_
        refine WO.callS (M := hp) (A := (hs ++ hl)) rfl (oLs_cons rfl oLs_nil) rfl (OwnE.w hO) gc (ord_spec (ro hl) ro_w X u hp hO (fun x hx => (hL x hx).mono fun b o h => h.ro) hXB) (SubR.ro gc) rfl (fun v65 D65 hP65 => ?_)
        obtain ⟨e65, W65, w65, hR65, hM65, hO65, rfl⟩ := hP65
        refine WO.subH (hs' := (hs ++ hl ++ D65)) (SubH.of_perm (perm_tail (N := []) (G := D65) (K := []) (X := hs ++ hl))) ?_
        refine WO.q (Q.extract rfl rfl) rfl ?_
        refine WO.q (Q.extract rfl rfl) rfl ?_
        refine WO.q (Q.assign rfl) rfl ?_
        refine WO.q (Q.assign rfl) rfl ?_
        refine WO.nil ?_
        refine End.K ?_
        refine W.ret ?_
        refine End.ret (ResL.tmp rfl (ResL.tmp rfl ResL.nil)) (hs' := D65 ++ hl) ⟨e65, W65, w65, each_go (eachPre_no hck hk hcl fun k q => hfit k (by omega)) (hXe ▸ hR65), ⟨D65, hl, rfl, hO65, fun x hx => hL x (hM65 x hx), hwz, ord_ebd hR65 hM65 hXB⟩, rfl⟩ (wa (OwnE.w hO65) hw) gc
    · skip
      refine W.seq ?_
      refine W.reg ?_
      refine WO.q (Q.move rfl) rfl ?_
      refine WO.nil ?_
      refine End.K ?_
      refine W.block ?_
      refine W.seq ?_
      refine W.reg ?_
      refine WO.q (Q.bin rfl (oc (v := .str [99, 108, 97, 109, 112]) (by kernel_rfl)) rfl bv_seql) rfl ?_
      refine WO.q (Q.assign rfl) rfl ?_
      refine WO.nil ?_
      refine End.K ?_
      refine W.condDS rfl (fun hc21 => ?_) (fun hc21 => ?_)
      · skip -- FT
        refine W.seq ?_
        refine W.seq ?_
        refine W.reg ?_
        refine WO.q (Q.move rfl) rfl ?_
        refine WO.callV rfl (oLs_cons rfl oLs_nil) rfl (fits_spec _) SubR.nil rfl ?_
        refine WO.q (Q.not rfl rfl) rfl ?_
        refine WO.q (Q.move rfl) rfl ?_
        refine WO.split (d := 26) rfl (fun hc26 => ?_) (fun hc26 => ?_)
        · skip -- FTt
          refine WO.gF rfl rfl (.inl rfl) rfl ?_
          refine WO.gF rfl rfl (.inl rfl) rfl ?_
          refine WO.gF rfl rfl (.inl rfl) rfl ?_
          refine WO.q (Q.pickT rfl rfl) rfl ?_
          refine WO.nil ?_
          refine End.K ?_
          refine W.sub (SubS.cons (k := 30) rfl (SubS.cons (k := 0) rfl (SubS.cons (k := 1) rfl (SubS.cons (k := 2) rfl (SubS.cons (k := 3) rfl (SubS.nil _)))))) ?_
          refine W.condT rfl ?_
          refine W.seq ?_
          refine W.reg ?_
          refine WO.q (Q.assign rfl) rfl ?_
          refine WO.q (Q.assign (oc (v := .int .i64 ((2 : Nat) : Int)) rfl)) rfl ?_
          refine WO.nil ?_
          refine End.K ?_
          refine W.ret ?_
          refine End.K_ret (End.KB_ret (End.K_ret (End.ret (ResL.tmp rfl (ResL.tmp rfl ResL.nil)) (hs' := []) ⟨_, [], .nils, each_pre (eachPre_2 hck hc21 (.inl (by simpa using hc26))), VOwn.nil, rfl⟩ no_wl (SubH.nil _))))
        · skip -- FTf
          refine WO.gT rfl rfl ?_
          refine WO.q (Q.move rfl) rfl ?_
          refine WO.gT rfl rfl ?_
          refine WO.callV rfl (oLs_cons rfl oLs_nil) rfl (fits_spec _) SubR.nil rfl ?_
          refine WO.gT rfl rfl ?_
          refine WO.q (Q.not rfl rfl) rfl ?_
          refine WO.q (Q.pickF rfl rfl) rfl ?_
          refine WO.nil ?_
          refine End.K ?_
          refine W.sub (SubS.cons (k := 30) rfl (SubS.cons (k := 0) rfl (SubS.cons (k := 1) rfl (SubS.cons (k := 2) rfl (SubS.cons (k := 3) rfl (SubS.nil _)))))) ?_
          refine W.condS rfl (fun hc30 => ?_) (fun hc30 => ?_)
          · skip -- FTfT
            refine W.seq ?_
            refine W.reg ?_
            refine WO.q (Q.assign rfl) rfl ?_
            refine WO.q (Q.assign (oc (v := .int .i64 ((2 : Nat) : Int)) rfl)) rfl ?_
            refine WO.nil ?_
            refine End.K ?_
            refine W.ret ?_
            refine End.K_ret (End.KB_ret (End.K_ret (End.ret (ResL.tmp rfl (ResL.tmp rfl ResL.nil)) (hs' := []) ⟨_, [], .nils, each_pre (eachPre_2 hck hc21 (.inr (by simpa using hc30))), VOwn.nil, rfl⟩ no_wl (SubH.nil _))))
          · skip -- FTfF
            refine W.skip ?_
            refine End.K ?_
            refine W.seq ?_
            refine W.reg ?_
            refine WO.q (Q.move rfl) rfl ?_
            refine WO.q (Q.move rfl) rfl ?_
            refine WO.q (Q.bin rfl rfl rfl (bv_gtr (ltA_eq _ _))) rfl ?_
            refine WO.nil ?_
            refine End.K ?_
            refine W.condDS rfl (fun hc33 => ?_) (fun hc33 => ?_)
            · skip -- FTfFT
              refine W.seq ?_
              refine W.reg ?_
              refine WO.q (Q.assign rfl) rfl ?_
              refine WO.q (Q.assign (oc (v := .int .i64 ((0 : Nat) : Int)) rfl)) rfl ?_
              refine WO.nil ?_
              refine End.K ?_
              refine W.ret ?_
              refine End.KB_ret (End.K_ret (End.ret (ResL.tmp rfl (ResL.tmp rfl ResL.nil)) (hs' := []) ⟨_, [], .nils, each_pre (eachPre_0 hck hc21 (by simp_all) (by simp_all) (by simpa using hc33)), VOwn.nil, rfl⟩ no_wl (SubH.nil _)))
            · skip -- FTfFF
              refine W.skip ?_
              refine End.KB (End.K (W.sub (SubS.cons rfl (SubS.cons rfl (SubS.cons rfl (SubS.cons rfl (SubS.nil _))))) (W.subH (SubH.refl _) (hJ16 (()) ?_))))
              exact ⟨by unfold opK; simp_all, fun _ => ⟨by simp_all, by simp_all, by omega⟩⟩
      · skip -- FF
        refine W.seq ?_
        refine W.seq ?_
        refine W.reg ?_
        refine WO.q (Q.bin rfl (oc (v := .str [110, 101, 103]) (by kernel_rfl)) rfl bv_seql) rfl ?_
        refine WO.q (Q.assign rfl) rfl ?_
        refine WO.nil ?_
        refine End.K ?_
        refine W.condDS rfl (fun hc34 => ?_) (fun hc34 => ?_)
        · skip -- FFT
          refine W.skip ?_
          refine End.K ?_
          refine W.condT rfl ?_
          refine W.skip ?_
          refine End.KB (End.K (W.sub (SubS.cons rfl (SubS.cons rfl (SubS.cons rfl (SubS.cons rfl (SubS.nil _))))) (W.subH (SubH.refl _) (hJ16 (()) ?_))))
          exact ⟨by unfold opK; simp_all, fun h => absurd h hc21⟩
        · skip -- FFF
          refine W.seq ?_
          refine W.reg ?_
          refine WO.q (Q.bin rfl (oc (v := .str [97, 98, 115]) (by kernel_rfl)) rfl bv_seql) rfl ?_
          refine WO.q (Q.assign rfl) rfl ?_
          refine WO.nil ?_
          refine End.K ?_
          refine W.condDS rfl (fun hc34 => ?_) (fun hc34 => ?_)
          · skip -- FFFT
            refine W.skip ?_
            refine End.K ?_
            refine W.condT rfl ?_
            refine W.skip ?_
            refine End.KB (End.K (W.sub (SubS.cons rfl (SubS.cons rfl (SubS.cons rfl (SubS.cons rfl (SubS.nil _))))) (W.subH (SubH.refl _) (hJ16 (()) ?_))))
            exact ⟨by unfold opK; simp_all, fun h => absurd h hc21⟩
          · skip -- FFFF
            refine W.seq ?_
            refine W.reg ?_
            refine WO.q (Q.bin rfl (oc (v := .str [99, 101, 105, 108]) (by kernel_rfl)) rfl bv_seql) rfl ?_
            refine WO.q (Q.assign rfl) rfl ?_
            refine WO.nil ?_
            refine End.K ?_
            refine W.condDS rfl (fun hc34 => ?_) (fun hc34 => ?_)
            · skip -- FFFFT
              refine W.skip ?_
              refine End.K ?_
              refine W.condT rfl ?_
              refine W.skip ?_
              refine End.KB (End.K (W.sub (SubS.cons rfl (SubS.cons rfl (SubS.cons rfl (SubS.cons rfl (SubS.nil _))))) (W.subH (SubH.refl _) (hJ16 (()) ?_))))
              exact ⟨by unfold opK; simp_all, fun h => absurd h hc21⟩
            · skip -- FFFFF
              refine W.seq ?_
              refine W.reg ?_
              refine WO.q (Q.bin rfl (oc (v := .str [102, 108, 111, 111, 114]) (by kernel_rfl)) rfl bv_seql) rfl ?_
              refine WO.q (Q.assign rfl) rfl ?_
              refine WO.nil ?_
              refine End.K ?_
              refine W.condDS rfl (fun hc34 => ?_) (fun hc34 => ?_)
              · skip -- FFFFFT
                refine W.skip ?_
                refine End.K ?_
                refine W.sub (SubS.cons (k := 34) rfl (SubS.cons (k := 0) rfl (SubS.cons (k := 1) rfl (SubS.cons (k := 2) rfl (SubS.cons (k := 3) rfl (SubS.nil _)))))) ?_
                refine W.condT rfl ?_
                refine W.skip ?_
                refine End.KB (End.K (W.sub (SubS.cons rfl (SubS.cons rfl (SubS.cons rfl (SubS.cons rfl (SubS.nil _))))) (W.subH (SubH.refl _) (hJ16 (()) ?_))))
                exact ⟨by unfold opK; simp_all, fun h => absurd h hc21⟩
              · skip -- FFFFFF
                refine W.reg ?_
                refine WO.q (Q.bin rfl (oc (v := .str [115, 103, 110]) (by kernel_rfl)) rfl bv_seql) rfl ?_
                refine WO.q (Q.assign rfl) rfl ?_
                refine WO.nil ?_
                refine End.K ?_
                refine W.sub (SubS.cons (k := 34) rfl (SubS.cons (k := 0) rfl (SubS.cons (k := 1) rfl (SubS.cons (k := 2) rfl (SubS.cons (k := 3) rfl (SubS.nil _)))))) ?_
                refine W.condDS rfl (fun hc34 => ?_) (fun hc34 => ?_)
                · skip -- FFFFFFT
                  refine W.skip ?_
                  refine End.KB (End.K (W.sub (SubS.cons rfl (SubS.cons rfl (SubS.cons rfl (SubS.cons rfl (SubS.nil _))))) (W.subH (SubH.refl _) (hJ16 (()) ?_))))
                  exact ⟨by unfold opK; simp_all, fun h => absurd h hc21⟩
                · skip -- FFFFFFF
                  refine W.seq ?_
                  refine W.reg ?_
                  refine WO.q (Q.assign rfl) rfl ?_
                  refine WO.q (Q.assign (oc (v := .int .i64 ((9 : Nat) : Int)) rfl)) rfl ?_
                  refine WO.nil ?_
                  refine End.K ?_
                  refine W.ret ?_
                  refine End.KB_ret (End.K_ret (End.ret (ResL.tmp rfl (ResL.tmp rfl ResL.nil)) (hs' := []) ⟨_, [], .nils, each_pre (eachPre_9 hck (by unfold opK; simp_all)), VOwn.nil, rfl⟩ no_wl (SubH.nil _)))
end Go.Proofs.YtmblgaehfjheeaaGreat.Ev
