/- Chapter 19, walks: a vector and a number. -/
import Derived.Test.YtmblgaehfjheeaaGreatSZa
namespace Go.Proofs.YtmblgaehfjheeaaGreat.Ev
open Go.RowKit
set_option linter.unusedVariables false
set_option linter.unusedSimpArgs false
set_option maxRecDepth 100000
set_option maxHeartbeats 1000000
theorem ck3 {x y : AV} (hx : x.isCell = true) (hy : y.isCell = true) : (Nat.beq (AV.agg [x, y]).cells.length 2 && Nat.ble (0 + 2) 2 && (AV.agg [x, y]).cells.all AV.isCell) = true := and_tt rfl (and_tt hx (and_tt hy rfl))
theorem fitB_fitsB (n : Int) : fitB n = fitsB n := by unfold fitB fitsB; rw [Bool.eq_iff_iff]; simp
theorem told_fit (n : Int) : fitsB (fTold n).1 = true := by
  unfold fTold
  split
  · assumption
  · decide
theorem scaled_fit (a b c : Int) : fitsB (fScaled a b c).1 = true := by
  unfold fScaled
  split
  · rename_i h
    generalize a.natAbs * b.natAbs / c.natAbs = q at h ⊢
    unfold fitsB sgn
    rw [decide_eq_true_iff]
    split <;> (simp only []; omega)
  · decide
theorem mod_fit (a b : Int) : fitsB (fMod a b).1 = true := by
  unfold fMod
  split
  · rename_i h
    split
    · decide
    · simp only [Bool.and_eq_true] at h
      have h1 := fitsB_t h.1
      unfold fitsB
      rw [decide_eq_true_iff]
      have h2 : (a.tmod b).natAbs ≤ a.natAbs := by rw [Int.natAbs_tmod]; exact Nat.mod_le _ _
      simp only []
      omega
  · decide
theorem num_fit (op : List Nat) (a b : Int) : fitB (numM op a b).1 = true := by
  rw [fitB_fitsB]
  unfold numM
  split
  · decide
  · split
    · decide
    · split
      · unfold fAdd; split; exact told_fit _; decide
      · split
        · unfold fSub; split; exact told_fit _; decide
        · split
          · unfold fMul; split; exact scaled_fit _ _ _; decide
          · split
            · unfold fDiv; split
              · split; decide; exact scaled_fit _ _ _
              · decide
            · split
              · exact mod_fit _ _
              · split <;> decide
def sclF (op : List Nat) (n : Int) (lf : Bool) (z : Int) : Int × Int := numM op (if lf = true then n else z) (if lf = true then z else n)
def sclI (F : Int → Int × Int) (kp : Bool) (x : PE) : List PE := if kp = true then (if (F x.2).1 ≠ 0 then [x] else []) else [(x.1.filter (dropP [[95, 95, 110, 97, 109, 101, 95, 95]]), (F x.2).1)]
def sclL (F : Int → Int × Int) (kp : Bool) (L : List PE) : List PE := L.flatMap (sclI F kp)
def sclG (F : Int → Int × Int) (V : List El) (i : Nat) : Nat := (F (eg V i).2.2).2.toNat
noncomputable def sclPre (op : List Nat) (n : Int) (lf : Bool) (V : List El) : Option Nat :=
  if vchk V ≠ 0 then some (vchk V) else if fitB n = false then some 2 else if ariB op = false ∧ cmpB op = false then some 9 else if fstE (sclG (sclF op n lf) V) V.length 0 ≠ 0 then some (fstE (sclG (sclF op n lf) V) V.length 0) else none
/-- What an operator makes of a vector and a number. -/
def SclR (op : List Nat) (bl : Bool) (n : Int) (lf : Bool) (V : List El) (e : Nat) (W : List PE) : Prop := (sclPre op n lf V = some e ∧ W = []) ∨ (sclPre op n lf V = none ∧ OrdR (sclL (sclF op n lf) (cmpB op && !bl) (P2 V)) e W)
section
variable {op : List Nat} {bl lf kp : Bool} {n : Int} {V X : List El} {e i : Nat} {W : List PE} {F : Int → Int × Int}
theorem scl_pre (h : sclPre op n lf V = some e) : SclR op bl n lf V e (P2 []) := .inl ⟨h, rfl⟩
theorem scl_go (h : sclPre op n lf V = none) (g : OrdR (sclL (sclF op n lf) (cmpB op && !bl) (P2 V)) e W) : SclR op bl n lf V e W := .inr ⟨h, g⟩
theorem SclR.fn {e' : Nat} {W' : List PE} (h : SclR op bl n lf V e W) (g : SclR op bl n lf V e' W') : e = e' ∧ W = W' := by
  rcases h with ⟨h1, h2⟩ | ⟨h1, h2⟩ <;> rcases g with ⟨g1, g2⟩ | ⟨g1, g2⟩
  · rw [h1] at g1; cases g1; exact ⟨rfl, h2.trans g2.symm⟩
  · rw [h1] at g1; cases g1
  · rw [h1] at g1; cases g1
  · exact h2.fn g2
theorem sclPre_1 (h : vchk V ≠ 0) : sclPre op n lf V = some (vchk V) := if_pos h
theorem sclPre_2 (h : vchk V = 0) (hf : fitB n = false) : sclPre op n lf V = some 2 := by unfold sclPre; rw [if_neg (by simp [h]), if_pos hf]
theorem sclPre_9 (h : vchk V = 0) (hf : fitB n = true) (h1 : ariB op = false) (h2 : cmpB op = false) : sclPre op n lf V = some 9 := by unfold sclPre; rw [if_neg (by simp [h]), if_neg (by simp [hf]), if_pos ⟨h1, h2⟩]
theorem sclPre_e (h : vchk V = 0) (hf : fitB n = true) (ho : ariB op = true ∨ cmpB op = true) (he : fstE (sclG (sclF op n lf) V) V.length 0 = e) (hn : e ≠ 0) : sclPre op n lf V = some e := by
  unfold sclPre; rw [if_neg (by simp [h]), if_neg (by simp [hf]), if_neg (by rcases ho with h | h <;> simp [h]), he, if_pos hn]
theorem sclPre_no (h : vchk V = 0) (hf : fitB n = true) (ho : ariB op = true ∨ cmpB op = true) (he : fstE (sclG (sclF op n lf) V) V.length 0 = 0) : sclPre op n lf V = none := by
  unfold sclPre; rw [if_neg (by simp [h]), if_neg (by simp [hf]), if_neg (by rcases ho with h | h <;> simp [h]), he, if_neg (by simp)]
theorem scl_take (hi : i < V.length) : (P2 V).take (i + 1) = (P2 V).take i ++ [(eg V i).2] := by rw [List.take_add_one, p2_eg hi]; rfl
theorem scl_next {Y : List El} (h : P2 X = sclL F kp ((P2 V).take i)) (hi : i < V.length) (hY : P2 Y = sclI F kp (eg V i).2) : P2 (X ++ Y) = sclL F kp ((P2 V).take (i + 1)) := by
  rw [scl_take hi]
  unfold sclL at *
  rw [List.flatMap_append]
  unfold P2 at *
  rw [List.map_append, h, hY]
  simp
theorem scl_none (h : P2 X = sclL F kp ((P2 V).take i)) (hi : i < V.length) (hY : [] = sclI F kp (eg V i).2) : P2 X = sclL F kp ((P2 V).take (i + 1)) := by
  have := scl_next (Y := []) h hi hY
  simpa using this
theorem scl_no {v : AV} {p : Int × Int} (hF : F (eg V i).2.2 = p) (hk : kp = false) : P2 [(v, (eg V i).2.1.filter (dropP [[95, 95, 110, 97, 109, 101, 95, 95]]), p.1)] = sclI F kp (eg V i).2 := by
  unfold sclI; rw [hk, hF]; rfl
theorem scl_yes {v : AV} {p : Int × Int} (hF : F (eg V i).2.2 = p) (hk : kp = true) (hx : p.1 ≠ 0) : P2 [(v, (eg V i).2)] = sclI F kp (eg V i).2 := by
  unfold sclI; rw [hk, hF, if_pos rfl, if_pos hx]; rfl
theorem scl_nil {p : Int × Int} (hF : F (eg V i).2.2 = p) (hk : kp = true) (hx : p.1 = 0) : [] = sclI F kp (eg V i).2 := by
  unfold sclI; rw [hk, hF, if_pos rfl, if_neg (by simp [hx])]
end
theorem ebd_put {X : List El} {v : AV} {x : PE} (h : EBd X) (hl : X.length + 1 ≤ 1048576) (g : LBd x.1 ∧ I64 x.2) : EBd (X ++ [(v, x)]) := by
  refine ⟨by simp; omega, fun y hy => ?_⟩
  rcases List.mem_append.1 hy with hy | hy
  · exact h.2 y hy
  · rw [List.mem_singleton.1 hy]; exact g
/-- A vector whose labels may lie in what came in. -/
def VRes (hs : HSt) (W : List El) (w : AV) (D : HSt) : Prop := ∃ hp hl, D = hp ++ hl ∧ OwnE 2 (cE W) W.length w hp ∧ (∀ x ∈ W, LIn (hs ++ hl) x.2.1 x.1) ∧ (∀ e ∈ hl, e.w = true) ∧ EBd W
theorem VRes.nil {hs : HSt} : VRes hs [] .nils [] := ⟨[], [], rfl, OwnE.nil 2, fun x hx => by simp at hx, no_wl, ebd_nil⟩
theorem lin_snocR {X : List El} {x : El} {hs hl D : HSt} (h : ∀ y ∈ X, LIn (hs ++ hl) y.2.1 y.1) (g : LIn D x.2.1 x.1) : ∀ y ∈ X ++ [x], LIn (hs ++ (hl ++ D)) y.2.1 y.1 := by
  intro y hy
  rcases List.mem_append.1 hy with hy | hy
  · exact (h y hy).mono fun b o h => by rw [← List.append_assoc]; exact h.appl
  · rw [List.mem_singleton.1 hy]; exact g.mono fun b o h => h.app.app
theorem lin_snocL {X : List El} {x : El} {hs hl : HSt} (h : ∀ y ∈ X, LIn (hs ++ hl) y.2.1 y.1) (g : LIn hs x.2.1 x.1) : ∀ y ∈ X ++ [x], LIn (hs ++ hl) y.2.1 y.1 := by
  intro y hy
  rcases List.mem_append.1 hy with hy | hy
  · exact h y hy
  · rw [List.mem_singleton.1 hy]; exact g.mono fun b o h => h.appl
theorem MemH.mixd {hs hp hl : HSt} {b : Nat} {o : AObj} (h : MemH (hs ++ hl) b o) : MemH (Ev.ro (hp ++ hl) ++ hs) b o := by
  obtain ⟨w, g⟩ := h
  rcases List.mem_append.1 g with g | g
  · exact ⟨w, List.mem_append_right _ g⟩
  · exact MemH.appl (MemH.ro ⟨w, List.mem_append_right _ g⟩)
theorem EIn.mixd {X : List El} {u : AV} {hs hp hl : HSt} (h : OwnE 2 (cE X) X.length u hp) (g : ∀ x ∈ X, LIn (hs ++ hl) x.2.1 x.1) : EIn (ro (hp ++ hl) ++ hs) X u := by
  refine ⟨?_, fun x hx => (g x hx).mono fun b o h => h.mixd⟩
  rcases h with ⟨h1, _, h2, _⟩ | ⟨b, ex, h1, rfl, _⟩
  · exact .inl ⟨h2, List.length_eq_zero_iff.1 h1⟩
  · exact .inr ⟨b, 2, ex, h1, MemH.appl (MemH.ro ⟨true, List.mem_cons_self⟩)⟩
theorem cpy_spec (hs : HSt) (hro : ∀ e ∈ hs, e.w = false) (A : List Lab) (va : AV) (ha : LIn hs A va) (hA : LBd A) (n : Int) : Spec tab 34 [.agg [va, .int .i64 n]] [] hs (fun u D => ∃ v, u = .agg [v, .int .i64 n] ∧ OwnE 2 (cL A) A.length v D) := by
  refine Spec.enter' (ft_get 34 Tryz.func34) rfl (m := 9) rfl (rs := [.cell 2 35]) rfl (st := [(0, .agg [va, .int .i64 n])]) rfl rfl (fun _ => rfl) (fun E => ?_)
  refine W.seq ?_
  refine W.reg ?_
  refine WO.box rfl (all_c2 (LIn.cell ha)) (bx35 _ rfl) rfl (fun b1 => ?_)
  refine WO.alloc ao35 rfl (fun b2 => ?_)
  refine WO.nil ?_
  refine End.K ?_
  refine W.seq ?_
  refine W.regD 5 _ (by kernel_rfl) (KIn.refl _) ?_
  refine WD.q (Q.fieldAddr fa35_0 rfl (o' := 0) rfl) bq_ptr rfl ?_
  refine WD.q (Q.load1 rfl (mem_at (i := 1) rfl) ag33 rfl) (LIn.bq ha) rfl ?_
  refine WD.call0 rfl (oLs_cons rfl oLs_nil) rfl (clone_spec hs hro A va ha hA) (SubR.tl (SubR.tl (SubR.self hro))) (KIn.refl _) rfl (fun v5 D5 hP5 => ?_)
  refine WD.subH (hs' := _ :: _ :: (hs ++ D5)) (SubH.of_perm (perm_tail (N := []) (G := D5) (K := [_, _]) (X := hs))) ?_
  refine WD.q (Q.fieldAddr fa35_1 rfl (o' := 1) rfl) bq_ptr rfl ?_
  refine WD.q (Q.load1 rfl (mem_at (i := 1) rfl) ag3 rfl) bq_int rfl ?_
  refine WD.q (Q.build pl35 (oPs_cons rfl (oPs_cons rfl oPs_nil)) rfl (cs := [_, _]) (fillE2 (OwnE.cell hP5))) (bq_agg2 (OwnE.bq0 hP5)) rfl ?_
  refine WD.store sz35 rfl rfl (j := 0) rfl (ck3 (OwnE.cell hP5) rfl) (cs := [_, _]) rfl (hs' := _ :: _ :: _) rfl (fun h => by cases h) ?_
  refine WD.nil ?_
  refine End.K ?_
  refine W.ret ?_
  refine End.ret (ResL.agg (c := [_, _]) rfl (mem_at (i := 0) rfl) ag35 sz35 rfl ResL.nil) (hs' := D5) ⟨v5, rfl, hP5⟩ (OwnE.w hP5) gc

theorem scl_spec (hs : HSt) (hro : ∀ e ∈ hs, e.w = false) (V : List El) (v : AV) (hV : EIn hs V v) (hB : EBd V) (op : List Nat) (ho : Bytes op) (bl : Bool) (n : Int) (lf : Bool) : Spec tab 12 [.str op, .bool bl, v, .int .i64 n, .bool lf] [] hs (fun u D => ∃ (e : Nat) (W : List El) (w : AV), SclR op bl n lf V e (P2 W) ∧ VOwn W w D ∧ u = .tuple [w, .int .i64 (e : Nat)]) := by
  have hBl := hB.1
  refine Spec.enter' (ft_get 12 Tryz.func12) rfl (m := 90) rfl (rs := [.tmp 10, .tmp 11]) rfl (st := [(0, .str op), (1, .bool bl), (2, v), (3, .int .i64 n), (4, .bool lf)]) rfl rfl (fun _ => rfl) (fun E => ?_)
  refine W.seq ?_
  refine W.reg ?_
  refine WO.q (Q.assign rfl) rfl ?_
  refine WO.q (Q.assign (oc (v := .int .i64 ((0 : Nat) : Int)) rfl)) rfl ?_
  refine WO.nil ?_
  refine End.K ?_
  refine W.seq ?_
  refine W.seq ?_
  refine W.reg ?_
  refine WO.q (Q.move rfl) rfl ?_
  refine WO.callV rfl (oLs_cons rfl oLs_nil) rfl (vck_spec hs hro V _ hV hB) (SubR.self hro) rfl ?_
  refine WO.q (Q.assign rfl) rfl ?_
  refine WO.nil ?_
  refine End.K ?_
  refine W.seq ?_
  refine W.reg ?_
  refine WO.q (Q.move rfl) rfl ?_
  refine WO.q (Q.bin rfl (oc (v := .int .i64 ((0 : Nat) : Int)) rfl) rfl (bv_neq ne_nat)) rfl ?_
  refine WO.nil ?_
  refine End.K ?_
  refine W.condDS rfl (fun hc24 => ?_) (fun hc24 => ?_)
  · skip -- T
    refine W.seq ?_
    refine W.reg ?_
    refine WO.q (Q.move rfl) rfl ?_
    refine WO.q (Q.assign rfl) rfl ?_
    refine WO.q (Q.assign rfl) rfl ?_
    refine WO.nil ?_
    refine End.K ?_
    refine W.ret ?_
    refine End.K_ret (End.ret (ResL.tmp rfl (ResL.tmp rfl ResL.nil)) (hs' := []) ⟨_, [], .nils, scl_pre (sclPre_1 (by simpa using hc24)), VOwn.nil, rfl⟩ no_wl (SubH.nil _))
  · skip -- F
    have hck : vchk V = 0 := (by have := Classical.not_not.1 hc24; omega)
    refine W.skip ?_
    refine End.K ?_
    refine W.seq ?_
    refine W.seq ?_
    refine W.reg ?_
    refine WO.q (Q.move rfl) rfl ?_
    refine WO.callV rfl (oLs_cons rfl oLs_nil) rfl (fits_spec _) SubR.nil rfl ?_
    refine WO.q (Q.not rfl rfl) rfl ?_
    refine WO.nil ?_
    refine End.K ?_
    refine W.condS rfl (fun hc28 => ?_) (fun hc28 => ?_)
    · skip -- FT
      refine W.seq ?_
      refine W.reg ?_
      refine WO.q (Q.assign rfl) rfl ?_
      refine WO.q (Q.assign (oc (v := .int .i64 ((2 : Nat) : Int)) rfl)) rfl ?_
      refine WO.nil ?_
      refine End.K ?_
      refine W.ret ?_
      refine End.K_ret (End.ret (ResL.tmp rfl (ResL.tmp rfl ResL.nil)) (hs' := []) ⟨_, [], .nils, scl_pre (sclPre_2 hck (by simpa using hc28)), VOwn.nil, rfl⟩ no_wl (SubH.nil _))
    · skip -- FF
      have hfn : fitB n = true := (by simpa using hc28)
      refine W.skip ?_
      refine End.K ?_
      refine W.seqJ1 (fun (q : Unit) => [(0, .str op), (1, .bool bl), (2, v), (3, .int .i64 n), (4, .bool lf)]) (fun (q : Unit) => hs) (fun (q : Unit) => ariB op = true ∨ cmpB op = true) (fun q hI8 => ?_) (fun hJ8 => ?_)
      · skip -- FFJ8
        have hop := hI8
        refine W.seqJ1 (fun (kp : Bool) => [(0, .str op), (2, v), (3, .int .i64 n), (4, .bool lf), (13, .bool kp)]) (fun (kp : Bool) => hs) (fun (kp : Bool) => kp = (cmpB op && !bl)) (fun kp hI9 => ?_) (fun hJ9 => ?_)
        · skip -- FFJ8J9
          have hkp := hI9
          refine W.seq ?_
          refine W.reg ?_
          refine WO.q (Q.assign rfl) rfl ?_
          refine WO.nil ?_
          refine End.K ?_
          refine W.seq ?_
          refine W.seq ?_
          refine W.reg ?_
          refine WO.q (Q.move rfl) rfl ?_
          refine WO.q (Q.len ud22 rfl (EIn.len hV)) rfl ?_
          refine WO.q (Q.move (oc (v := .int .i64 ((0 : Nat) : Int)) rfl)) rfl ?_
          refine WO.nil ?_
          refine End.K ?_
          refine W.block ?_
          refine W.loop_ind5 (fun (i : Nat) (X : List El) (u : AV) (hp : HSt) (hl : HSt) => [(0, .str op), (3, .int .i64 n), (4, .bool lf), (13, .bool kp), (14, u), (43, v), (44, .int .i64 ((V.length : Nat) : Int)), (45, .int .i64 ((i : Nat) : Int))]) (fun (i : Nat) (X : List El) (u : AV) (hp : HSt) (hl : HSt) => ((hs ++ hp) ++ hl)) (fun (i : Nat) (X : List El) (u : AV) (hp : HSt) (hl : HSt) => i ≤ V.length ∧ P2 X = sclL (sclF op n lf) (cmpB op && !bl) ((P2 V).take i) ∧ X.length ≤ i ∧ OwnE 2 (cE X) X.length u hp ∧ (∀ x ∈ X, LIn hl x.2.1 x.1) ∧ WZ hl ∧ EBd X ∧ fstE (sclG (sclF op n lf) V) V.length 0 = fstE (sclG (sclF op n lf) V) (V.length - i) i) (fun (i : Nat) (X : List El) (u : AV) (hp : HSt) (hl : HSt) => V.length - i) (0) ([]) (.nils) ([]) ([]) ⟨Nat.zero_le _, rfl, Nat.zero_le _, OwnE.nil 2, fun x hx => by simp at hx, WZ.nil, ebd_nil, rfl⟩ (SubS.cons rfl (SubS.cons rfl (SubS.cons rfl (SubS.cons rfl (SubS.cons rfl (SubS.cons rfl (SubS.cons rfl (SubS.cons rfl (SubS.nil _))))))))) gc (fun i X u hp hl hI0 ih0 => ?_)
          obtain ⟨h1, h2, h3, hO, hL, hwz, hXB, hfi⟩ := hI0
          have hw := hwz.w
          refine W.seq ?_
          refine W.reg ?_
          refine WO.q (Q.bin rfl rfl rfl (bv_lss lt_nat)) rfl ?_
          refine WO.nil ?_
          refine End.K ?_
          refine W.seq ?_
          refine W.condDS rfl (fun hc46 => ?_) (fun hc46 => ?_)
          · skip -- FFJ8J9L0T
            obtain ⟨bv, szv, exv, rfl, wv, mv⟩ := EIn.full hV (by omega)
            refine W.skip ?_
            refine End.K ?_
            refine W.seq ?_
            refine W.block ?_
            refine W.seq ?_
            refine W.reg ?_
            refine WO.q (Q.iaddrS ud22 sz35 rfl rfl (by first | omega | (simp at * <;> omega))) rfl ?_
            refine WO.q (Q.loadN rfl (List.mem_append_left _ (List.mem_append_left _ mv)) ag35 sz35 (cE_at (by first | omega | (simp at * <;> omega)))) rfl ?_
            refine WO.alloc ao35 rfl (fun b1 => ?_)
            refine WO.store sz35 rfl rfl (i := 0) rfl (and_tt rfl (and_tt (LIn.cell (hV.at (by omega))) rfl)) (cs := [_, _]) rfl (hs' := _ :: _) rfl ?_
            refine WO.nil ?_
            refine End.K ?_
            refine W.seq ?_
            refine W.reg ?_
            refine WO.q (Q.fieldAddr fa35_1 rfl (o' := 1) rfl) rfl ?_
            refine WO.q (Q.load1 rfl (mem_at (i := 0) rfl) ag3 rfl) rfl ?_
            refine WO.q (Q.move rfl) rfl ?_
            refine WO.q (Q.assign rfl) rfl ?_
            refine WO.q (Q.assign rfl) rfl ?_
            refine WO.nil ?_
            refine End.K ?_
            refine W.seq ?_
            refine W.seq ?_
            refine W.reg ?_
            refine WO.q (Q.move rfl) rfl ?_
            refine WO.nil ?_
            refine End.K ?_
            refine W.condS rfl (fun hc52 => ?_) (fun hc52 => ?_)
            · skip -- FFJ8J9L0TT
              have hF : sclF op n lf (eg V i).2.2 = numM op n (eg V i).2.2 := (by simp [sclF, hc52])
              have hfz : fitB (numM op n (eg V i).2.2).1 = true := num_fit _ _ _
              refine W.reg ?_
              refine WO.q (Q.move rfl) rfl ?_
              refine WO.q (Q.move rfl) rfl ?_
              refine WO.q (Q.assign rfl) rfl ?_
              refine WO.q (Q.assign rfl) rfl ?_
              refine WO.nil ?_
              refine End.K ?_
              refine W.seq ?_
              refine W.reg ?_
              refine WO.q (Q.move rfl) rfl ?_
              refine WO.q (Q.move rfl) rfl ?_
              refine WO.q (Q.move rfl) rfl ?_
              refine WO.callV rfl (oLs_cons rfl (oLs_cons rfl (oLs_cons rfl oLs_nil))) rfl (num_spec op ho _ _) SubR.nil rfl ?_
              refine WO.q (Q.move rfl) rfl ?_
              refine WO.q (Q.extract rfl rfl) rfl ?_
              refine WO.q (Q.extract rfl rfl) rfl ?_
              refine WO.q (Q.assign rfl) rfl ?_
              refine WO.q (Q.assign rfl) rfl ?_
              refine WO.nil ?_
              refine End.K ?_
              refine W.sub (SubS.cons (k := 20) rfl (SubS.cons (k := 19) rfl (SubS.cons (k := 16) rfl (SubS.cons (k := 0) rfl (SubS.cons (k := 3) rfl (SubS.cons (k := 4) rfl (SubS.cons (k := 13) rfl (SubS.cons (k := 14) rfl (SubS.cons (k := 43) rfl (SubS.cons (k := 44) rfl (SubS.cons (k := 45) rfl (SubS.nil _)))))))))))) ?_
              refine W.block ?_
              refine W.seq ?_
              refine W.reg ?_
              refine WO.q (Q.move rfl) rfl ?_
              refine WO.q (Q.bin rfl (oc (v := .int .i64 ((0 : Nat) : Int)) rfl) rfl (bv_neq ne_nat)) rfl ?_
              refine WO.q (Q.assign rfl) rfl ?_
              refine WO.nil ?_
              refine End.K ?_
              refine W.condDS rfl (fun hc62 => ?_) (fun hc62 => ?_)
              · skip -- FFJ8J9L0TTT
                refine W.seq ?_
                refine W.reg ?_
                refine WO.q (Q.move rfl) rfl ?_
                refine WO.q (Q.assign rfl) rfl ?_
                refine WO.q (Q.assign rfl) rfl ?_
                refine WO.nil ?_
                refine End.K ?_
                refine W.sub (SubS.cons (k := 11) rfl (SubS.cons (k := 10) rfl (SubS.nil _))) ?_
                refine W.ret ?_
                refine End.KB_ret (End.KB_ret (End.K_ret (End.KL_ret (End.KB_ret (End.K_ret (End.ret (ResL.tmp rfl (ResL.tmp rfl ResL.nil)) (hs' := []) ⟨_, [], .nils, scl_pre (sclPre_e hck hfn hop (by rw [hfi]; exact fst_hit (by omega) (by unfold sclG; rw [hF]) hc62) hc62), VOwn.nil, rfl⟩ no_wl (SubH.nil _)))))))
              · skip -- FFJ8J9L0TTF
                have hg0 : sclG (sclF op n lf) V i = 0 := (by unfold sclG; rw [hF]; exact Classical.not_not.1 hc62)
                refine W.seq ?_
                refine W.reg ?_
                refine WO.q (Q.move rfl) rfl ?_
                refine WO.q (Q.not rfl rfl) rfl ?_
                refine WO.q (Q.assign rfl) rfl ?_
                refine WO.nil ?_
                refine End.K ?_
                refine W.condS rfl (fun hc66 => ?_) (fun hc66 => ?_)
                · skip -- FFJ8J9L0TTFT
                  refine W.reg ?_
                  refine WO.q (Q.move rfl) rfl ?_
                  refine WO.q (Q.fieldAddr fa35_0 rfl (o' := 0) rfl) rfl ?_
                  refine WO.q (Q.load1 rfl (mem_at (i := 0) rfl) ag33 rfl) rfl ?_
                  refine WO.call0 rfl (oLs_cons rfl oLs_nil) rfl (nless_spec hs hro _ _ (hV.at (by omega)) (hB.at (by omega)).1) (SubR.tl (SubR.appl (SubR.appl (SubR.self hro)))) rfl (fun v72 D72 hP72 => ?_)
                  refine WO.subH (hs' := _ :: (hs ++ hl ++ D72 ++ hp)) (SubH.of_perm (perm_tailO (N := []) (G := D72) (K := [_]) (X := hs ++ hp ++ hl) (by simp only [List.append_assoc, List.nil_append]; exact List.perm_iff_count.2 (by intro z; simp only [List.append_eq, List.count_append, List.count_nil]; omega)))) ?_
                  refine WO.q (Q.move rfl) rfl ?_
                  refine WO.q (Q.build pl35 (oPs_cons rfl (oPs_cons rfl oPs_nil)) rfl (cs := [_, _]) (fillE2 (OwnE.cell hP72))) rfl ?_
                  refine WO.bslice ud22 sz35 zr35 rfl (oPs_cons rfl oPs_nil) rfl (cs := [_, _]) rfl (and_tt (OwnE.cell hP72) rfl) rfl (fun b2 => ?_)
                  refine WO.appAny (A := ([_] ++ hs ++ hl ++ D72)) ap22_22 hO rfl rfl (Src.slice (mem_at (i := 0) rfl) rfl) rfl (by omega) (by decide) (SubH.of_sublist (List.sublist_cons_self _ _)) rfl (fun v76 hp76 hO76 => ?_)
                  refine WO.q (Q.assign rfl) rfl ?_
                  refine WO.nil ?_
                  refine End.KB (End.KB (End.K ?_))
                  refine W.sub (SubS.cons (k := 14) rfl (SubS.cons (k := 0) rfl (SubS.cons (k := 3) rfl (SubS.cons (k := 4) rfl (SubS.cons (k := 13) rfl (SubS.cons (k := 43) rfl (SubS.cons (k := 44) rfl (SubS.cons (k := 45) rfl (SubS.nil _))))))))) ?_
                  refine W.reg ?_
                  refine WO.q (Q.bin rfl (oc (v := .int .i64 ((1 : Nat) : Int)) rfl) rfl (bv_add (wn_add (by first | omega | (simp at * <;> omega))))) rfl ?_
                  refine WO.q (Q.move rfl) rfl ?_
                  refine WO.nil ?_
                  refine End.KL ?_
                  refine W.sub (SubS.cons rfl (SubS.cons rfl (SubS.cons rfl (SubS.cons rfl (SubS.cons rfl (SubS.cons rfl (SubS.cons rfl (SubS.cons rfl (SubS.nil _))))))))) (W.subH gc (ih0 (i + 1) (X ++ [(v72, (eg V i).2.1.filter (dropP [[95, 95, 110, 97, 109, 101, 95, 95]]), (numM op n (eg V i).2.2).1)]) (v76) (hp76) (hl ++ D72) ?_ ?_))
                  · exact ⟨by omega, scl_next h2 (by omega) (scl_no hF (by rw [← hkp]; simpa using hc66)), by simp <;> omega, own_snoc hO76, lin_snoc hL (LIn.own hP72), WZ.app hwz (OwnE.wz hP72), ebd_snoc hXB (by omega) (hB.at (by omega)).1 hfz, by rw [hfi, fst_next (by omega) hg0]⟩
                  · exact (by first | omega | (simp at * <;> omega))
                · skip -- FFJ8J9L0TTFF
                  refine W.seq ?_
                  refine W.reg ?_
                  refine WO.q (Q.move rfl) rfl ?_
                  refine WO.q (Q.bin rfl (oc (v := .int .i64 ((0 : Nat) : Int)) rfl) rfl (bv_neq ne_int)) rfl ?_
                  refine WO.q (Q.assign rfl) rfl ?_
                  refine WO.nil ?_
                  refine End.K ?_
                  refine W.condDS rfl (fun hc77 => ?_) (fun hc77 => ?_)
                  · skip -- FFJ8J9L0TTFFT
                    refine W.reg ?_
                    refine WO.q (Q.move rfl) rfl ?_
                    refine WO.q (Q.loadN rfl (mem_at (i := 0) rfl) ag35 sz35 (l := [_, _]) rfl) rfl ?_
                    refine WO.call0 rfl (oLs_cons rfl oLs_nil) rfl (cpy_spec hs hro _ _ (hV.at (by omega)) (hB.at (by omega)).1 _) (SubR.tl (SubR.appl (SubR.appl (SubR.self hro)))) rfl (fun v82 D82 hP82 => ?_)
                    obtain ⟨lv82, rfl, hP82'⟩ := hP82
                    refine WO.subH (hs' := _ :: (hs ++ hl ++ D82 ++ hp)) (SubH.of_perm (perm_tailO (N := []) (G := D82) (K := [_]) (X := hs ++ hp ++ hl) (by simp only [List.append_assoc, List.nil_append]; exact List.perm_iff_count.2 (by intro z; simp only [List.append_eq, List.count_append, List.count_nil]; omega)))) ?_
                    refine WO.bslice ud22 sz35 zr35 rfl (oPs_cons rfl oPs_nil) rfl (cs := [_, _]) rfl (and_tt (OwnE.cell hP82') rfl) rfl (fun b3 => ?_)
                    refine WO.appAny (A := ([_] ++ hs ++ hl ++ D82)) ap22_22 hO rfl rfl (Src.slice (mem_at (i := 0) rfl) rfl) rfl (by omega) (by decide) (SubH.of_sublist (List.sublist_cons_self _ _)) rfl (fun v84 hp84 hO84 => ?_)
                    refine WO.q (Q.assign rfl) rfl ?_
                    refine WO.nil ?_
                    refine End.KB (End.KB (End.K ?_))
                    refine W.sub (SubS.cons (k := 14) rfl (SubS.cons (k := 0) rfl (SubS.cons (k := 3) rfl (SubS.cons (k := 4) rfl (SubS.cons (k := 13) rfl (SubS.cons (k := 43) rfl (SubS.cons (k := 44) rfl (SubS.cons (k := 45) rfl (SubS.nil _))))))))) ?_
                    refine W.reg ?_
                    refine WO.q (Q.bin rfl (oc (v := .int .i64 ((1 : Nat) : Int)) rfl) rfl (bv_add (wn_add (by first | omega | (simp at * <;> omega))))) rfl ?_
                    refine WO.q (Q.move rfl) rfl ?_
                    refine WO.nil ?_
                    refine End.KL ?_
                    refine W.sub (SubS.cons rfl (SubS.cons rfl (SubS.cons rfl (SubS.cons rfl (SubS.cons rfl (SubS.cons rfl (SubS.cons rfl (SubS.cons rfl (SubS.nil _))))))))) (W.subH gc (ih0 (i + 1) (X ++ [(lv82, (eg V i).2)]) (v84) (hp84) (hl ++ D82) ?_ ?_))
                    · exact ⟨by omega, scl_next h2 (by omega) (scl_yes hF (by rw [← hkp]; simpa using hc66) (by simpa using hc77)), by simp <;> omega, own_snoc hO84, lin_snoc hL (LIn.own hP82'), WZ.app hwz (OwnE.wz hP82'), ebd_put hXB (by omega) (hB.at (by omega)), by rw [hfi, fst_next (by omega) hg0]⟩
                    · exact (by first | omega | (simp at * <;> omega))
                  · skip -- FFJ8J9L0TTFFF
                    refine W.skip ?_
                    refine End.KB (End.KB (End.K ?_))
                    refine W.reg ?_
                    refine WO.q (Q.bin rfl (oc (v := .int .i64 ((1 : Nat) : Int)) rfl) rfl (bv_add (wn_add (by first | omega | (simp at * <;> omega))))) rfl ?_
                    refine WO.q (Q.move rfl) rfl ?_
                    refine WO.nil ?_
                    refine End.KL ?_
                    refine W.sub (SubS.cons rfl (SubS.cons rfl (SubS.cons rfl (SubS.cons rfl (SubS.cons rfl (SubS.cons rfl (SubS.cons rfl (SubS.cons rfl (SubS.nil _))))))))) (W.subH gc (ih0 (i + 1) (X) (u) (hp) (hl) ?_ ?_))
                    · exact ⟨by omega, scl_none h2 (by omega) (scl_nil hF (by rw [← hkp]; simpa using hc66) (by simpa using hc77)), by omega, hO, hL, hwz, hXB, by rw [hfi, fst_next (by omega) hg0]⟩
                    · exact (by first | omega | (simp at * <;> omega))
            · skip -- FFJ8J9L0TF
              have hF : sclF op n lf (eg V i).2.2 = numM op (eg V i).2.2 n := (by simp [sclF, hc52])
              have hfz : fitB (numM op (eg V i).2.2 n).1 = true := num_fit _ _ _
              refine W.skip ?_
              refine End.K ?_
              refine W.seq ?_
              refine W.reg ?_
              refine WO.q (Q.move rfl) rfl ?_
              refine WO.q (Q.move rfl) rfl ?_
              refine WO.q (Q.move rfl) rfl ?_
              refine WO.callV rfl (oLs_cons rfl (oLs_cons rfl (oLs_cons rfl oLs_nil))) rfl (num_spec op ho _ _) SubR.nil rfl ?_
              refine WO.q (Q.move rfl) rfl ?_
              refine WO.q (Q.extract rfl rfl) rfl ?_
              refine WO.q (Q.extract rfl rfl) rfl ?_
              refine WO.q (Q.assign rfl) rfl ?_
              refine WO.q (Q.assign rfl) rfl ?_
              refine WO.nil ?_
              refine End.K ?_
              refine W.sub (SubS.cons (k := 20) rfl (SubS.cons (k := 19) rfl (SubS.cons (k := 16) rfl (SubS.cons (k := 0) rfl (SubS.cons (k := 3) rfl (SubS.cons (k := 4) rfl (SubS.cons (k := 13) rfl (SubS.cons (k := 14) rfl (SubS.cons (k := 43) rfl (SubS.cons (k := 44) rfl (SubS.cons (k := 45) rfl (SubS.nil _)))))))))))) ?_
              refine W.block ?_
              refine W.seq ?_
              refine W.reg ?_
              refine WO.q (Q.move rfl) rfl ?_
              refine WO.q (Q.bin rfl (oc (v := .int .i64 ((0 : Nat) : Int)) rfl) rfl (bv_neq ne_nat)) rfl ?_
              refine WO.q (Q.assign rfl) rfl ?_
              refine WO.nil ?_
              refine End.K ?_
              refine W.condDS rfl (fun hc62 => ?_) (fun hc62 => ?_)
              · skip -- FFJ8J9L0TFT
                refine W.seq ?_
                refine W.reg ?_
                refine WO.q (Q.move rfl) rfl ?_
                refine WO.q (Q.assign rfl) rfl ?_
                refine WO.q (Q.assign rfl) rfl ?_
                refine WO.nil ?_
                refine End.K ?_
                refine W.sub (SubS.cons (k := 11) rfl (SubS.cons (k := 10) rfl (SubS.nil _))) ?_
                refine W.ret ?_
                refine End.KB_ret (End.KB_ret (End.K_ret (End.KL_ret (End.KB_ret (End.K_ret (End.ret (ResL.tmp rfl (ResL.tmp rfl ResL.nil)) (hs' := []) ⟨_, [], .nils, scl_pre (sclPre_e hck hfn hop (by rw [hfi]; exact fst_hit (by omega) (by unfold sclG; rw [hF]) hc62) hc62), VOwn.nil, rfl⟩ no_wl (SubH.nil _)))))))
              · skip -- FFJ8J9L0TFF
                have hg0 : sclG (sclF op n lf) V i = 0 := (by unfold sclG; rw [hF]; exact Classical.not_not.1 hc62)
                refine W.seq ?_
                refine W.reg ?_
                refine WO.q (Q.move rfl) rfl ?_
                refine WO.q (Q.not rfl rfl) rfl ?_
                refine WO.q (Q.assign rfl) rfl ?_
                refine WO.nil ?_
                refine End.K ?_
                refine W.condS rfl (fun hc66 => ?_) (fun hc66 => ?_)
                · skip -- FFJ8J9L0TFFT
                  refine W.reg ?_
                  refine WO.q (Q.move rfl) rfl ?_
                  refine WO.q (Q.fieldAddr fa35_0 rfl (o' := 0) rfl) rfl ?_
                  refine WO.q (Q.load1 rfl (mem_at (i := 0) rfl) ag33 rfl) rfl ?_
                  refine WO.call0 rfl (oLs_cons rfl oLs_nil) rfl (nless_spec hs hro _ _ (hV.at (by omega)) (hB.at (by omega)).1) (SubR.tl (SubR.appl (SubR.appl (SubR.self hro)))) rfl (fun v72 D72 hP72 => ?_)
                  refine WO.subH (hs' := _ :: (hs ++ hl ++ D72 ++ hp)) (SubH.of_perm (perm_tailO (N := []) (G := D72) (K := [_]) (X := hs ++ hp ++ hl) (by simp only [List.append_assoc, List.nil_append]; exact List.perm_iff_count.2 (by intro z; simp only [List.append_eq, List.count_append, List.count_nil]; omega)))) ?_
                  refine WO.q (Q.move rfl) rfl ?_
                  refine WO.q (Q.build pl35 (oPs_cons rfl (oPs_cons rfl oPs_nil)) rfl (cs := [_, _]) (fillE2 (OwnE.cell hP72))) rfl ?_
                  refine WO.bslice ud22 sz35 zr35 rfl (oPs_cons rfl oPs_nil) rfl (cs := [_, _]) rfl (and_tt (OwnE.cell hP72) rfl) rfl (fun b4 => ?_)
                  refine WO.appAny (A := ([_] ++ hs ++ hl ++ D72)) ap22_22 hO rfl rfl (Src.slice (mem_at (i := 0) rfl) rfl) rfl (by omega) (by decide) (SubH.of_sublist (List.sublist_cons_self _ _)) rfl (fun v76 hp76 hO76 => ?_)
                  refine WO.q (Q.assign rfl) rfl ?_
                  refine WO.nil ?_
                  refine End.KB (End.KB (End.K ?_))
                  refine W.sub (SubS.cons (k := 14) rfl (SubS.cons (k := 0) rfl (SubS.cons (k := 3) rfl (SubS.cons (k := 4) rfl (SubS.cons (k := 13) rfl (SubS.cons (k := 43) rfl (SubS.cons (k := 44) rfl (SubS.cons (k := 45) rfl (SubS.nil _))))))))) ?_
                  refine W.reg ?_
                  refine WO.q (Q.bin rfl (oc (v := .int .i64 ((1 : Nat) : Int)) rfl) rfl (bv_add (wn_add (by first | omega | (simp at * <;> omega))))) rfl ?_
                  refine WO.q (Q.move rfl) rfl ?_
                  refine WO.nil ?_
                  refine End.KL ?_
                  refine W.sub (SubS.cons rfl (SubS.cons rfl (SubS.cons rfl (SubS.cons rfl (SubS.cons rfl (SubS.cons rfl (SubS.cons rfl (SubS.cons rfl (SubS.nil _))))))))) (W.subH gc (ih0 (i + 1) (X ++ [(v72, (eg V i).2.1.filter (dropP [[95, 95, 110, 97, 109, 101, 95, 95]]), (numM op (eg V i).2.2 n).1)]) (v76) (hp76) (hl ++ D72) ?_ ?_))
                  · exact ⟨by omega, scl_next h2 (by omega) (scl_no hF (by rw [← hkp]; simpa using hc66)), by simp <;> omega, own_snoc hO76, lin_snoc hL (LIn.own hP72), WZ.app hwz (OwnE.wz hP72), ebd_snoc hXB (by omega) (hB.at (by omega)).1 hfz, by rw [hfi, fst_next (by omega) hg0]⟩
                  · exact (by first | omega | (simp at * <;> omega))
                · skip -- FFJ8J9L0TFFF
                  refine W.seq ?_
                  refine W.reg ?_
                  refine WO.q (Q.move rfl) rfl ?_
                  refine WO.q (Q.bin rfl (oc (v := .int .i64 ((0 : Nat) : Int)) rfl) rfl (bv_neq ne_int)) rfl ?_
                  refine WO.q (Q.assign rfl) rfl ?_
                  refine WO.nil ?_
                  refine End.K ?_
                  refine W.condDS rfl (fun hc77 => ?_) (fun hc77 => ?_)
                  · skip -- FFJ8J9L0TFFFT
                    refine W.reg ?_
                    refine WO.q (Q.move rfl) rfl ?_
                    refine WO.q (Q.loadN rfl (mem_at (i := 0) rfl) ag35 sz35 (l := [_, _]) rfl) rfl ?_
                    refine WO.call0 rfl (oLs_cons rfl oLs_nil) rfl (cpy_spec hs hro _ _ (hV.at (by omega)) (hB.at (by omega)).1 _) (SubR.tl (SubR.appl (SubR.appl (SubR.self hro)))) rfl (fun v82 D82 hP82 => ?_)
                    obtain ⟨lv82, rfl, hP82'⟩ := hP82
                    refine WO.subH (hs' := _ :: (hs ++ hl ++ D82 ++ hp)) (SubH.of_perm (perm_tailO (N := []) (G := D82) (K := [_]) (X := hs ++ hp ++ hl) (by simp only [List.append_assoc, List.nil_append]; exact List.perm_iff_count.2 (by intro z; simp only [List.append_eq, List.count_append, List.count_nil]; omega)))) ?_
                    refine WO.bslice ud22 sz35 zr35 rfl (oPs_cons rfl oPs_nil) rfl (cs := [_, _]) rfl (and_tt (OwnE.cell hP82') rfl) rfl (fun b5 => ?_)
                    refine WO.appAny (A := ([_] ++ hs ++ hl ++ D82)) ap22_22 hO rfl rfl (Src.slice (mem_at (i := 0) rfl) rfl) rfl (by omega) (by decide) (SubH.of_sublist (List.sublist_cons_self _ _)) rfl (fun v84 hp84 hO84 => ?_)
                    refine WO.q (Q.assign rfl) rfl ?_
                    refine WO.nil ?_
                    refine End.KB (End.KB (End.K ?_))
                    refine W.sub (SubS.cons (k := 14) rfl (SubS.cons (k := 0) rfl (SubS.cons (k := 3) rfl (SubS.cons (k := 4) rfl (SubS.cons (k := 13) rfl (SubS.cons (k := 43) rfl (SubS.cons (k := 44) rfl (SubS.cons (k := 45) rfl (SubS.nil _))))))))) ?_
                    refine W.reg ?_
                    refine WO.q (Q.bin rfl (oc (v := .int .i64 ((1 : Nat) : Int)) rfl) rfl (bv_add (wn_add (by first | omega | (simp at * <;> omega))))) rfl ?_
                    refine WO.q (Q.move rfl) rfl ?_
                    refine WO.nil ?_
                    refine End.KL ?_
                    refine W.sub (SubS.cons rfl (SubS.cons rfl (SubS.cons rfl (SubS.cons rfl (SubS.cons rfl (SubS.cons rfl (SubS.cons rfl (SubS.cons rfl (SubS.nil _))))))))) (W.subH gc (ih0 (i + 1) (X ++ [(lv82, (eg V i).2)]) (v84) (hp84) (hl ++ D82) ?_ ?_))
                    · exact ⟨by omega, scl_next h2 (by omega) (scl_yes hF (by rw [← hkp]; simpa using hc66) (by simpa using hc77)), by simp <;> omega, own_snoc hO84, lin_snoc hL (LIn.own hP82'), WZ.app hwz (OwnE.wz hP82'), ebd_put hXB (by omega) (hB.at (by omega)), by rw [hfi, fst_next (by omega) hg0]⟩
                    · exact (by first | omega | (simp at * <;> omega))
                  · skip -- FFJ8J9L0TFFFF
                    refine W.skip ?_
                    refine End.KB (End.KB (End.K ?_))
                    refine W.reg ?_
                    refine WO.q (Q.bin rfl (oc (v := .int .i64 ((1 : Nat) : Int)) rfl) rfl (bv_add (wn_add (by first | omega | (simp at * <;> omega))))) rfl ?_
                    refine WO.q (Q.move rfl) rfl ?_
                    refine WO.nil ?_
                    refine End.KL ?_
                    refine W.sub (SubS.cons rfl (SubS.cons rfl (SubS.cons rfl (SubS.cons rfl (SubS.cons rfl (SubS.cons rfl (SubS.cons rfl (SubS.cons rfl (SubS.nil _))))))))) (W.subH gc (ih0 (i + 1) (X) (u) (hp) (hl) ?_ ?_))
                    · exact ⟨by omega, scl_none h2 (by omega) (scl_nil hF (by rw [← hkp]; simpa using hc66) (by simpa using hc77)), by omega, hO, hL, hwz, hXB, by rw [hfi, fst_next (by omega) hg0]⟩
                    · exact (by first | omega | (simp at * <;> omega))
          · skip -- FFJ8J9L0F
            have hXe : P2 X = sclL (sclF op n lf) (cmpB op && !bl) (P2 V) := (by rw [h2, List.take_of_length_le (by simp [P2]; omega)])
            have hf0 : fstE (sclG (sclF op n lf) V) V.length 0 = 0 := (by rw [hfi]; exact fst_done (by omega))
            refine W.exit ?_
            refine End.K_exit (End.KL_exit (End.KB_hit (End.K ?_)))
            refine W.seq ?_
            refine W.reg ?_
            refine WO.q (Q.move rfl) rfl ?_
            refine WO.callS (M := hp) (A := (hs ++ hl)) rfl (oLs_cons rfl oLs_nil) rfl (OwnE.w hO) gc (ord_spec (ro hl) ro_w X u hp hO (fun x hx => (hL x hx).mono fun b o h => h.ro) hXB) (SubR.ro gc) rfl (fun v87 D87 hP87 => ?_)
            obtain ⟨e87, W87, w87, hR87, hM87, hO87, rfl⟩ := hP87
            refine WO.subH (hs' := (hs ++ hl ++ D87)) (SubH.of_perm (perm_tail (N := []) (G := D87) (K := []) (X := hs ++ hl))) ?_
            refine WO.q (Q.extract rfl rfl) rfl ?_
            refine WO.q (Q.extract rfl rfl) rfl ?_
            refine WO.q (Q.assign rfl) rfl ?_
            refine WO.q (Q.assign rfl) rfl ?_
            refine WO.nil ?_
            refine End.K ?_
            refine W.ret ?_
            refine End.ret (ResL.tmp rfl (ResL.tmp rfl ResL.nil)) (hs' := D87 ++ hl) ⟨e87, W87, w87, scl_go (sclPre_no hck hfn hop hf0) (hXe ▸ hR87), ⟨D87, hl, rfl, hO87, fun x hx => hL x (hM87 x hx), hwz, ord_ebd hR87 hM87 hXB⟩, rfl⟩ (wa (OwnE.w hO87) hw) gc
        · skip
          refine W.reg ?_
          refine WO.q (Q.move rfl) rfl ?_
          refine WO.callV rfl (oLs_cons rfl oLs_nil) rfl (cps_spec _ ho) SubR.nil rfl ?_
          refine WO.q (Q.move rfl) rfl ?_
          refine WO.split (d := 39) rfl (fun hc39 => ?_) (fun hc39 => ?_)
          · skip -- FFJ8t
            refine WO.gT rfl rfl ?_
            refine WO.q (Q.move rfl) rfl ?_
            refine WO.gT rfl rfl ?_
            refine WO.q (Q.not rfl rfl) rfl ?_
            refine WO.q (Q.pickT rfl rfl) rfl ?_
            refine WO.q (Q.assign rfl) rfl ?_
            refine WO.nil ?_
            refine End.K (W.sub (SubS.cons rfl (SubS.cons rfl (SubS.cons rfl (SubS.cons rfl (SubS.cons rfl (SubS.nil _)))))) (W.subH (SubH.refl _) (hJ9 (!bl) ?_)))
            exact (by simp [hc39])
          · skip -- FFJ8f
            refine WO.gF rfl rfl (.inl rfl) rfl ?_
            refine WO.gF rfl rfl (.inl rfl) rfl ?_
            refine WO.q (Q.pickF rfl rfl) rfl ?_
            refine WO.q (Q.assign rfl) rfl ?_
            refine WO.nil ?_
            refine End.K (W.sub (SubS.cons rfl (SubS.cons rfl (SubS.cons rfl (SubS.cons rfl (SubS.cons rfl (SubS.nil _)))))) (W.subH (SubH.refl _) (hJ9 (false) ?_)))
            exact (by simp [hc39])
      · skip
        refine W.seq ?_
        refine W.reg ?_
        refine WO.q (Q.move rfl) rfl ?_
        refine WO.callV rfl (oLs_cons rfl oLs_nil) rfl (ari_spec _ ho) SubR.nil rfl ?_
        refine WO.q (Q.not rfl rfl) rfl ?_
        refine WO.q (Q.move rfl) rfl ?_
        refine WO.split (d := 32) rfl (fun hc32 => ?_) (fun hc32 => ?_)
        · skip -- FFt
          refine WO.gT rfl rfl ?_
          refine WO.q (Q.move rfl) rfl ?_
          refine WO.gT rfl rfl ?_
          refine WO.callV rfl (oLs_cons rfl oLs_nil) rfl (cps_spec _ ho) SubR.nil rfl ?_
          refine WO.gT rfl rfl ?_
          refine WO.q (Q.not rfl rfl) rfl ?_
          refine WO.q (Q.pickT rfl rfl) rfl ?_
          refine WO.nil ?_
          refine End.K ?_
          refine W.sub (SubS.cons (k := 36) rfl (SubS.cons (k := 0) rfl (SubS.cons (k := 1) rfl (SubS.cons (k := 2) rfl (SubS.cons (k := 3) rfl (SubS.cons (k := 4) rfl (SubS.nil _))))))) ?_
          refine W.condS rfl (fun hc36 => ?_) (fun hc36 => ?_)
          · skip -- FFtT
            refine W.seq ?_
            refine W.reg ?_
            refine WO.q (Q.assign rfl) rfl ?_
            refine WO.q (Q.assign (oc (v := .int .i64 ((9 : Nat) : Int)) rfl)) rfl ?_
            refine WO.nil ?_
            refine End.K ?_
            refine W.ret ?_
            refine End.K_ret (End.ret (ResL.tmp rfl (ResL.tmp rfl ResL.nil)) (hs' := []) ⟨_, [], .nils, scl_pre (sclPre_9 hck hfn (by simp_all) (by simp_all)), VOwn.nil, rfl⟩ no_wl (SubH.nil _))
          · skip -- FFtF
            refine W.skip ?_
            refine End.K (W.sub (SubS.cons rfl (SubS.cons rfl (SubS.cons rfl (SubS.cons rfl (SubS.cons rfl (SubS.nil _)))))) (W.subH (SubH.refl _) (hJ8 (()) ?_)))
            exact (by simp_all)
        · skip -- FFf
          refine WO.gF rfl rfl (.inl rfl) rfl ?_
          refine WO.gF rfl rfl (.inl rfl) rfl ?_
          refine WO.gF rfl rfl (.inl rfl) rfl ?_
          refine WO.q (Q.pickF rfl rfl) rfl ?_
          refine WO.nil ?_
          refine End.K ?_
          refine W.sub (SubS.cons (k := 36) rfl (SubS.cons (k := 0) rfl (SubS.cons (k := 1) rfl (SubS.cons (k := 2) rfl (SubS.cons (k := 3) rfl (SubS.cons (k := 4) rfl (SubS.nil _))))))) ?_
          refine W.condF rfl ?_
          refine W.skip ?_
          refine End.K (W.sub (SubS.cons rfl (SubS.cons rfl (SubS.cons rfl (SubS.cons rfl (SubS.cons rfl (SubS.nil _)))))) (W.subH (SubH.refl _) (hJ8 (()) ?_)))
          exact (by simp_all)
end Go.Proofs.YtmblgaehfjheeaaGreat.Ev
