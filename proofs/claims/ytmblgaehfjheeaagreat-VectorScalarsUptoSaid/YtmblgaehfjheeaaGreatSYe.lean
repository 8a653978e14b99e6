/- Chapters 6 and 19, walks: labels without some names, copies. -/
import Derived.Test.YtmblgaehfjheeaaGreatSYd
namespace Go.Proofs.YtmblgaehfjheeaaGreat.Ev
open Go.RowKit
set_option linter.unusedVariables false
set_option linter.unusedSimpArgs false
set_option maxRecDepth 100000
set_option maxHeartbeats 1000000
theorem SIn.cell {hs : HSt} {N : List (List Nat)} {v : AV} (h : SIn hs N v) : v.isCell = true := by
  rcases h with ⟨rfl, _⟩ | ⟨b, sz, ex, rfl, _⟩ <;> rfl
theorem WO.box1 {tb : Tab} {n : Nat} {E : Env} {s : St} {hs : HSt} {R : T AV → AHeap → Prop} {ops rest : List Oper} {d : Nat} {t : TypeId} {ty : TypeId} {pos : String} {aft : Array Edge} {ox : Operand} {v : AV} {ob : AObj} (hx : oL s ox = some v) (hc : v.isCell = true) (ho : varObj tb t [v] = ob) (hd : Nat.blt d n = true)
    (hk : ∀ b, WO tb n ops rest E ((d, .ptr b 0) :: s) (⟨b, ob, true⟩ :: hs) R) : WO tb n ops (⟨some d, .box t ox, ty, pos, aft, none⟩ :: rest) E s hs R := by
  have e : v.cells = [v] := by cases v <;> first | rfl | cases hc
  exact WO.box hx (by rw [e]; simp [hc]) (by rw [e]; exact ho) hd hk
theorem sub_f1 {hs : HSt} {b : Nat} {o : AObj} {w : Bool} (hro : ∀ e ∈ hs, e.w = false) : SubR (⟨b, o, false⟩ :: hs) (⟨b, o, w⟩ :: hs) := by
  refine ⟨fun e he => ?_, fun hn => by simpa using hn⟩
  rcases List.mem_cons.1 he with rfl | he
  · exact ⟨rfl, w, List.mem_cons_self⟩
  · exact ⟨hro e he, e.w, List.mem_cons_of_mem _ (by obtain ⟨b, o, w⟩ := e; exact he)⟩
/-- All but the labels of some names. -/
def dropP (N : List (List Nat)) : Lab → Bool := fun x => !(decide (x.1 ∈ N))
def pickP (N : List (List Nat)) (sm : Bool) : Lab → Bool := fun x => decide (x.1 ∈ N) == sm
theorem pick_drop {N : List (List Nat)} : pickP N false = dropP N := by
  funext x
  unfold pickP dropP
  cases decide (x.1 ∈ N) <;> rfl
theorem nm_sbd : SBd [[95, 95, 110, 97, 109, 101, 95, 95]] := ⟨by decide, fun x hx => by simp at hx; subst hx; unfold Bytes; decide⟩
theorem bv_eqNN {tb : Tab} {t e : Nat} (hu : tb.und t = some (.slice e)) : evBin tb .eql t .nils .nils = some (.bool true) := by
  show (match eqIn tb 20 t .nils .nils with | some b => some (AV.bool b) | none => none) = _
  unfold eqIn
  simp only [hu]
  rfl
theorem bv_eqSN {tb : Tab} {t e b o n z : Nat} (hu : tb.und t = some (.slice e)) : evBin tb .eql t (.slice b o n z) .nils = some (.bool false) := by
  show (match eqIn tb 20 t (.slice b o n z) .nils with | some b => some (AV.bool b) | none => none) = _
  unfold eqIn
  simp only [hu]
  rfl
theorem drop_spec (hs : HSt) (hro : ∀ e ∈ hs, e.w = false) (A : List Lab) (va : AV) (ha : LIn hs A va) (hA : LBd A) (N : List (List Nat)) (vn : AV) (hN : SIn hs N vn) (hNb : SBd N) : Spec tab 79 [va, vn] [] hs (fun v D => OwnE 2 (cL (A.filter (dropP N))) (A.filter (dropP N)).length v D) := by
  refine Spec.enter' (ft_get 79 Tryz.func79) rfl (m := 8) rfl (rs := [.tmp 4]) rfl (st := [(0, va), (1, vn)]) rfl rfl (fun _ => rfl) (fun E => ?_)
  refine W.seq ?_
  refine W.reg ?_
  refine WO.box1 rfl (SIn.cell hN) (bx40 _ rfl) rfl (fun b1 => ?_)
  refine WO.q (Q.assign rfl) rfl ?_
  refine WO.nil ?_
  refine End.K ?_
  refine W.seq ?_
  refine W.reg ?_
  refine WO.q (Q.move rfl) rfl ?_
  refine WO.q (Q.makeF (oLs_cons rfl oLs_nil)) rfl ?_
  refine WO.call0 rfl (oLs_cons rfl (oLs_cons rfl oLs_nil)) rfl (those_spec (hs := ⟨b1, ⟨1, true, [vn]⟩, false⟩ :: hs) (by intro e he; rcases List.mem_cons.1 he with rfl | he; rfl; exact hro e he) A _ (ha.mono fun b o h => h.tl) hA (dropP N) 116 [.ptr b1 0] (fun x h1 h2 => drop1_spec (hs := ⟨b1, ⟨1, true, [vn]⟩, false⟩ :: hs) (by intro e he; rcases List.mem_cons.1 he with rfl | he; rfl; exact hro e he) N vn (hN.mono fun b o h => h.tl) hNb b1 true ⟨_, List.mem_cons_self⟩ x.1 x.2 h1 h2)) (sub_f1 hro) rfl (fun v7 D7 hP7 => ?_)
  refine WO.subH (hs' := _ :: (hs ++ D7)) (SubH.of_perm (perm_tail (N := []) (G := D7) (K := [_]) (X := hs))) ?_
  refine WO.q (Q.assign rfl) rfl ?_
  refine WO.nil ?_
  refine End.K ?_
  refine W.ret ?_
  refine End.ret (ResL.tmp rfl ResL.nil) (hs' := D7) hP7 (OwnE.w hP7) gc

theorem nless_spec (hs : HSt) (hro : ∀ e ∈ hs, e.w = false) (A : List Lab) (va : AV) (ha : LIn hs A va) (hA : LBd A) : Spec tab 33 [va] [] hs (fun v D => OwnE 2 (cL (A.filter (dropP [[95, 95, 110, 97, 109, 101, 95, 95]]))) (A.filter (dropP [[95, 95, 110, 97, 109, 101, 95, 95]])).length v D) := by
  refine Spec.enter' (ft_get 33 Tryz.func33) rfl (m := 6) rfl (rs := [.tmp 2]) rfl (st := [(0, va)]) rfl rfl (fun _ => rfl) (fun E => ?_)
  refine W.seq ?_
  refine W.reg ?_
  refine WO.q (Q.assign rfl) rfl ?_
  refine WO.nil ?_
  refine End.K ?_
  refine W.seq ?_
  refine W.reg ?_
  refine WO.q (Q.move rfl) rfl ?_
  refine WO.bslice ud40 sz9 zr9 rfl (oPs_cons (oc (v := .str [95, 95, 110, 97, 109, 101, 95, 95]) (by kernel_rfl)) oPs_nil) rfl (cs := [_]) rfl rfl rfl (fun b1 => ?_)
  refine WO.call0 rfl (oLs_cons rfl (oLs_cons rfl oLs_nil)) rfl (drop_spec (hs := ⟨b1, ⟨1, true, [.str [95, 95, 110, 97, 109, 101, 95, 95]]⟩, false⟩ :: hs) (by intro e he; rcases List.mem_cons.1 he with rfl | he; rfl; exact hro e he) A _ (ha.mono fun b o h => h.tl) hA [[95, 95, 110, 97, 109, 101, 95, 95]] (.slice b1 0 1 1) (.inr ⟨b1, 1, true, rfl, _, List.mem_cons_self⟩) nm_sbd) (sub_f1 hro) rfl (fun v5 D5 hP5 => ?_)
  refine WO.subH (hs' := _ :: (hs ++ D5)) (SubH.of_perm (perm_tail (N := []) (G := D5) (K := [_]) (X := hs))) ?_
  refine WO.q (Q.assign rfl) rfl ?_
  refine WO.nil ?_
  refine End.K ?_
  refine W.ret ?_
  refine End.ret (ResL.tmp rfl ResL.nil) (hs' := D5) hP5 (OwnE.w hP5) gc

theorem pick_spec (hs : HSt) (hro : ∀ e ∈ hs, e.w = false) (A : List Lab) (va : AV) (ha : LIn hs A va) (hA : LBd A) (N : List (List Nat)) (vn : AV) (hN : SIn hs N vn) (hNb : SBd N) (sm : Bool) : Spec tab 83 [va, vn, .bool sm] [] hs (fun v D => OwnE 2 (cL (A.filter (pickP N sm))) (A.filter (pickP N sm)).length v D) := by
  have hAl := hA.1
  refine Spec.enter' (ft_get 83 Tryz.func83) rfl (m := 32) rfl (rs := [.tmp 6]) rfl (st := [(0, va), (1, vn), (2, .bool sm)]) rfl rfl (fun _ => rfl) (fun E => ?_)
  refine W.seq ?_
  refine W.reg ?_
  refine WO.q (Q.assign rfl) rfl ?_
  refine WO.nil ?_
  refine End.K ?_
  refine W.seq ?_
  refine W.reg ?_
  refine WO.q (Q.assign rfl) rfl ?_
  refine WO.nil ?_
  refine End.K ?_
  refine W.seq ?_
  refine W.seq ?_
  refine W.reg ?_
  refine WO.q (Q.assign (oc (v := .int .i64 ((0 : Nat) : Int)) rfl)) rfl ?_
  refine WO.nil ?_
  refine End.K ?_
  refine W.block ?_
  refine W.loop_ind3 (fun (i : Nat) (v : AV) (hp : HSt) => [(0, va), (1, vn), (2, .bool sm), (7, v), (8, .int .i64 ((i : Nat) : Int))]) (fun (i : Nat) (v : AV) (hp : HSt) => (hs ++ hp)) (fun (i : Nat) (v : AV) (hp : HSt) => i ≤ A.length ∧ OwnE 2 (cL ((A.take i).filter (pickP N sm))) ((A.take i).filter (pickP N sm)).length v hp) (fun (i : Nat) (v : AV) (hp : HSt) => A.length - i) (0) (.nils) ([]) ⟨Nat.zero_le _, OwnE.nil 2⟩ (SubS.cons rfl (SubS.cons rfl (SubS.cons rfl (SubS.cons rfl (SubS.cons rfl (SubS.nil _)))))) app_nil_sub (fun i v hp hI0 ih0 => ?_)
  obtain ⟨h1, hO⟩ := hI0
  refine W.seq ?_
  refine W.seq ?_
  refine W.reg ?_
  refine WO.q (Q.move rfl) rfl ?_
  refine WO.q (Q.move rfl) rfl ?_
  refine WO.q (Q.len ud33 rfl (LIn.len ha)) rfl ?_
  refine WO.q (Q.bin rfl rfl rfl (bv_lss lt_nat)) rfl ?_
  refine WO.nil ?_
  refine End.K ?_
  refine W.condDS rfl (fun hc12 => ?_) (fun hc12 => ?_)
  · skip -- L0T
    obtain ⟨ba, sza, exa, rfl, wa, ma⟩ := LIn.full ha (by omega)
    refine W.skip ?_
    refine End.K ?_
    refine W.seq ?_
    refine W.block ?_
    refine W.seq ?_
    refine W.reg ?_
    refine WO.q (Q.move rfl) rfl ?_
    refine WO.q (Q.move rfl) rfl ?_
    refine WO.q (Q.move rfl) rfl ?_
    refine WO.q (Q.iaddrS ud33 sz68 rfl rfl (by first | omega | (simp at * <;> omega))) rfl ?_
    refine WO.q (Q.fieldAddr fa68_0 rfl rfl) rfl ?_
    refine WO.q (Q.load1 rfl (List.mem_append_left _ ma) ag9 (cL_f0 (by first | omega | (simp at * <;> omega)))) rfl ?_
    refine WO.callV rfl (oLs_cons rfl (oLs_cons rfl oLs_nil)) rfl (has_spec hs hro N _ hN hNb _ (hA.at (by first | omega | (simp at * <;> omega))).1) (SubR.appl (SubR.self hro)) rfl ?_
    refine WO.q (Q.move rfl) rfl ?_
    refine WO.q (Q.bin rfl rfl rfl (bv_beqB ud4)) rfl ?_
    refine WO.nil ?_
    refine End.K ?_
    refine W.condS rfl (fun hc23 => ?_) (fun hc23 => ?_)
    · skip -- L0TT
      refine W.reg ?_
      refine WO.q (Q.move rfl) rfl ?_
      refine WO.q (Q.move rfl) rfl ?_
      refine WO.q (Q.move rfl) rfl ?_
      refine WO.q (Q.iaddrS ud33 sz68 rfl rfl (by first | omega | (simp at * <;> omega))) rfl ?_
      refine WO.q (Q.loadN rfl (List.mem_append_left _ ma) ag68 sz68 (cL_at (by first | omega | (simp at * <;> omega)))) rfl ?_
      refine WO.bslice ud33 sz68 zr68 rfl (oPs_cons rfl oPs_nil) rfl (cs := [_, _]) rfl rfl rfl (fun b1 => ?_)
      refine WO.appAny (A := ([] ++ hs)) ap33_33 hO rfl rfl (Src.slice (mem_at (i := 0) rfl) rfl) rfl (by have := filt_len A (pickP N sm) i; omega) (by decide) (SubH.of_sublist (List.sublist_cons_self _ _)) rfl (fun v30 hp30 hO30 => ?_)
      refine WO.q (Q.assign rfl) rfl ?_
      refine WO.nil ?_
      refine End.KB (End.K ?_)
      refine W.sub (SubS.cons (k := 7) rfl (SubS.cons (k := 0) rfl (SubS.cons (k := 1) rfl (SubS.cons (k := 2) rfl (SubS.cons (k := 8) rfl (SubS.nil _)))))) ?_
      refine W.reg ?_
      refine WO.q (Q.move rfl) rfl ?_
      refine WO.q (Q.bin rfl (oc (v := .int .i64 ((1 : Nat) : Int)) rfl) rfl (bv_add (wn_add (by first | omega | (simp at * <;> omega))))) rfl ?_
      refine WO.q (Q.assign rfl) rfl ?_
      refine WO.nil ?_
      refine End.KL ?_
      refine W.sub (SubS.cons rfl (SubS.cons rfl (SubS.cons rfl (SubS.cons rfl (SubS.cons rfl (SubS.nil _)))))) (W.subH gc (ih0 (i + 1) (v30) (hp30) ?_ ?_))
      · exact ⟨by omega, by rw [filt_yes (by omega) hc23, cL_append, List.length_append]; exact hO30⟩
      · exact (by first | omega | (simp at * <;> omega))
    · skip -- L0TF
      refine W.skip ?_
      refine End.KB (End.K ?_)
      refine W.reg ?_
      refine WO.q (Q.move rfl) rfl ?_
      refine WO.q (Q.bin rfl (oc (v := .int .i64 ((1 : Nat) : Int)) rfl) rfl (bv_add (wn_add (by first | omega | (simp at * <;> omega))))) rfl ?_
      refine WO.q (Q.assign rfl) rfl ?_
      refine WO.nil ?_
      refine End.KL ?_
      refine W.sub (SubS.cons rfl (SubS.cons rfl (SubS.cons rfl (SubS.cons rfl (SubS.cons rfl (SubS.nil _)))))) (W.subH gc (ih0 (i + 1) (v) (hp) ?_ ?_))
      · exact ⟨by omega, by rw [filt_no (by omega) hc23]; exact hO⟩
      · exact (by first | omega | (simp at * <;> omega))
  · skip -- L0F
    refine W.exit ?_
    refine End.K_exit (End.KL_exit (End.KB_hit (End.K ?_)))
    refine W.seq ?_
    refine W.reg ?_
    refine WO.q (Q.move rfl) rfl ?_
    refine WO.q (Q.assign rfl) rfl ?_
    refine WO.nil ?_
    refine End.K ?_
    refine W.ret ?_
    refine End.ret (ResL.tmp rfl ResL.nil) (hs' := hp) (by rw [List.take_of_length_le (by omega)] at hO; exact hO) (OwnE.w hO) gc

theorem rnless_spec (hs : HSt) (hro : ∀ e ∈ hs, e.w = false) (A : List Lab) (va : AV) (ha : LIn hs A va) (hA : LBd A) : Spec tab 39 [va] [] hs (fun v D => OwnE 2 (cL (A.filter (dropP [[95, 95, 110, 97, 109, 101, 95, 95]]))) (A.filter (dropP [[95, 95, 110, 97, 109, 101, 95, 95]])).length v D) := by
  refine Spec.enter' (ft_get 39 Tryz.func39) rfl (m := 6) rfl (rs := [.tmp 2]) rfl (st := [(0, va)]) rfl rfl (fun _ => rfl) (fun E => ?_)
  refine W.seq ?_
  refine W.reg ?_
  refine WO.q (Q.assign rfl) rfl ?_
  refine WO.nil ?_
  refine End.K ?_
  refine W.seq ?_
  refine W.reg ?_
  refine WO.q (Q.move rfl) rfl ?_
  refine WO.bslice ud40 sz9 zr9 rfl (oPs_cons (oc (v := .str [95, 95, 110, 97, 109, 101, 95, 95]) (by kernel_rfl)) oPs_nil) rfl (cs := [_]) rfl rfl rfl (fun b1 => ?_)
  refine WO.call0 rfl (oLs_cons rfl (oLs_cons rfl (oLs_cons rfl oLs_nil))) rfl (pick_spec (hs := ⟨b1, ⟨1, true, [.str [95, 95, 110, 97, 109, 101, 95, 95]]⟩, false⟩ :: hs) (by intro e he; rcases List.mem_cons.1 he with rfl | he; rfl; exact hro e he) A _ (ha.mono fun b o h => h.tl) hA [[95, 95, 110, 97, 109, 101, 95, 95]] (.slice b1 0 1 1) (.inr ⟨b1, 1, true, rfl, _, List.mem_cons_self⟩) nm_sbd false) (sub_f1 hro) rfl (fun v5 D5 hP5 => ?_)
  refine WO.subH (hs' := _ :: (hs ++ D5)) (SubH.of_perm (perm_tail (N := []) (G := D5) (K := [_]) (X := hs))) ?_
  refine WO.q (Q.assign rfl) rfl ?_
  refine WO.nil ?_
  refine End.K ?_
  refine W.ret ?_
  refine End.ret (ResL.tmp rfl ResL.nil) (hs' := D5) (by rw [← pick_drop]; exact hP5) (OwnE.w hP5) gc

theorem clone_nil  : Spec tab 80 [.nils] [] [] (Val (.nils)) := by
  refine Spec.enter' (ft_get 80 Tryz.func80) rfl (m := 8) rfl (rs := [.tmp 2]) rfl (st := [(0, .nils)]) rfl rfl (fun _ => rfl) (fun E => ?_)
  refine W.seq ?_
  refine W.reg ?_
  refine WO.q (Q.assign rfl) rfl ?_
  refine WO.nil ?_
  refine End.K ?_
  refine W.seq ?_
  refine W.seq ?_
  refine W.reg ?_
  refine WO.q (Q.move rfl) rfl ?_
  refine WO.q (Q.bin rfl rfl rfl (bv_eqNN ud33)) rfl ?_
  refine WO.nil ?_
  refine End.K ?_
  refine W.condT rfl ?_
  refine W.seq ?_
  refine W.reg ?_
  refine WO.q (Q.assign rfl) rfl ?_
  refine WO.nil ?_
  refine End.K ?_
  refine W.ret ?_
  refine End.K_ret (End.retV (ResL.tmp rfl ResL.nil) ?_)
  rfl

theorem clone_some (hs : HSt) (hro : ∀ e ∈ hs, e.w = false) (A : List Lab) (b : Nat) (ha : LIn hs A (.slice b 0 A.length 2)) (hA : LBd A) : Spec tab 80 [.slice b 0 A.length 2] [] hs (fun v D => OwnE 2 (cL A) A.length v D) := by
  have hAl := hA.1
  refine Spec.enter' (ft_get 80 Tryz.func80) rfl (m := 8) rfl (rs := [.tmp 2]) rfl (st := [(0, .slice b 0 A.length 2)]) rfl rfl (fun _ => rfl) (fun E => ?_)
  refine W.seq ?_
  refine W.reg ?_
  refine WO.q (Q.assign rfl) rfl ?_
  refine WO.nil ?_
  refine End.K ?_
  refine W.seq ?_
  refine W.seq ?_
  refine W.reg ?_
  refine WO.q (Q.move rfl) rfl ?_
  refine WO.q (Q.bin rfl rfl rfl (bv_eqSN ud33)) rfl ?_
  refine WO.nil ?_
  refine End.K ?_
  refine W.condF rfl ?_
  refine W.skip ?_
  refine End.K ?_
  refine W.seq ?_
  refine W.reg ?_
  refine WO.bslice ud33 sz68 zr68 rfl oPs_nil rfl (cs := []) rfl rfl rfl (fun b1 => ?_)
  refine WO.q (Q.move rfl) rfl ?_
  refine WO.appAny (A := _) ap33_33 (OwnE.cons rfl) rfl rfl (Src.mono (fun e he => MemH.tl ⟨e.w, by obtain ⟨b, o, w⟩ := e; exact he⟩) (Src.lin ha)) (cL_len A) (by omega) (by decide) (SubH.of_perm (List.perm_append_singleton _ _)) rfl (fun v7 hp7 hO7 => ?_)
  refine WO.q (Q.assign rfl) rfl ?_
  refine WO.nil ?_
  refine End.K ?_
  refine W.ret ?_
  refine End.ret (ResL.tmp rfl ResL.nil) (hs' := hp7) (by rw [one1]; simpa using hO7) (OwnE.w hO7) gc
/-- A copy of labels. -/
theorem clone_spec (hs : HSt) (hro : ∀ e ∈ hs, e.w = false) (A : List Lab) (va : AV) (ha : LIn hs A va) (hA : LBd A) : Spec tab 80 [va] [] hs (fun v D => OwnE 2 (cL A) A.length v D) := by
  rcases id ha with ⟨rfl, rfl⟩ | ⟨b, sz, ex, rfl, _⟩
  · intro h hh
    obtain ⟨v, h', hs', h1, ⟨h2, h3⟩, h4, h5⟩ := clone_nil h (hh.sub (SubH.nil _))
    exact ⟨v, h', hs', h1, .inl ⟨rfl, rfl, h2, h3⟩, h4, h5⟩
  · exact clone_some hs hro A b ha hA
end Go.Proofs.YtmblgaehfjheeaaGreat.Ev
