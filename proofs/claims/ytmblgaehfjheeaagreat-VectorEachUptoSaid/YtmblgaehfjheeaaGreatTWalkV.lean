/- Chapter 19: VectorEach, of any vector in memory. -/
import Derived.Test.YtmblgaehfjheeaaGreatTYv
import Derived.Test.YtmblgaehfjheeaaGreatTAwM
import Derived.Test.YtmblgaehfjheeaaGreatTEvU
import Derived.Test.YtmblgaehfjheeaaGreatProg
import Derived.Test.YtmblgaehfjheeaaGreatTNod
import Derived.Carry
import Derived.OpenShut
namespace Go.Proofs.YtmblgaehfjheeaaGreat.Ev
open Go.RowKit
set_option linter.unusedVariables false
set_option linter.unusedSimpArgs false
set_option maxRecDepth 100000
set_option maxHeartbeats 1000000
theorem VOwn.ein {W : List El} {w : AV} {D : HSt} (h : VOwn W w D) : EIn (ro D) W w := by
  obtain ⟨hp, hl, rfl, hO, hL, _, _⟩ := h
  exact EIn.own hO hL
theorem VOwn.ebd {W : List El} {w : AV} {D : HSt} (h : VOwn W w D) : EBd W := by
  obtain ⟨hp, hl, rfl, hO, hL, _, h⟩ := h
  exact h
theorem VOwn.w {W : List El} {w : AV} {D : HSt} (h : VOwn W w D) : ∀ e ∈ D, e.w = true := by
  obtain ⟨hp, hl, rfl, hO, hL, h, _⟩ := h
  exact wa (OwnE.w hO) h.w
theorem MemH.ro_l {A hs : HSt} {b : Nat} {o : AObj} (h : MemH (Ev.ro hs) b o) : MemH (Ev.ro (hs ++ A)) b o := by
  obtain ⟨w, g⟩ := h
  obtain ⟨x, hx, e⟩ := List.mem_map.1 g
  exact ⟨w, List.mem_map.2 ⟨x, List.mem_append_left _ hx, e⟩⟩
theorem MemH.ro_r {A hs : HSt} {b : Nat} {o : AObj} (h : MemH (Ev.ro hs) b o) : MemH (Ev.ro (A ++ hs)) b o := by
  obtain ⟨w, g⟩ := h
  obtain ⟨x, hx, e⟩ := List.mem_map.1 g
  exact ⟨w, List.mem_map.2 ⟨x, List.mem_append_right _ hx, e⟩⟩
theorem ro_id : ∀ {b : HSt}, (∀ e ∈ b, e.w = false) → ro b = b
  | [], _ => rfl
  | ⟨c, o, w⟩ :: b, h => by
    have h1 : w = false := h _ List.mem_cons_self
    subst h1
    show _ :: ro b = _
    rw [ro_id fun e he => h e (List.mem_cons_of_mem _ he)]
theorem SubR.mix {a b hs : HSt} (g : SubH (a ++ b) hs) (hb : ∀ e ∈ b, e.w = false) : SubR (Ev.ro a ++ b) hs := by
  have := SubR.ro g
  have e : Ev.ro (a ++ b) = Ev.ro a ++ b := by
    unfold Ev.ro
    rw [List.map_append]
    congr 1
    exact ro_id hb
  rwa [e] at this
theorem p2_at {X V : List El} (h : P2 X = P2 V) (i : Nat) : (eg X i).2 = (eg V i).2 := by
  have hl := congrArg List.length h
  simp only [P2, List.length_map] at hl
  rcases Nat.lt_or_ge i X.length with q | q
  · have := p2_eg q
    rw [h, p2_eg (by omega)] at this
    exact (Option.some.inj this).symm
  · rw [eg_out q, eg_out (by omega)]
theorem p2_length {X V : List El} (h : P2 X = P2 V) : X.length = V.length := by
  have hl := congrArg List.length h
  simpa only [P2, List.length_map] using hl
theorem ichk_p2 {X V : List El} (h : P2 X = P2 V) : ichk X = ichk V := by
  have e : ichk1 X = ichk1 V := by
    funext i
    unfold ichk1
    rw [p2_at h i, p2_at h (i - 1)]
  unfold ichk
  rw [e, p2_length h]
theorem fits_p2 {X V : List El} (h : P2 X = P2 V) : fitsE X = fitsE V := by
  unfold fitsE
  rw [p2_length h]
  congr 1
  apply propext
  exact ⟨fun g i hi => by rw [← p2_at h i]; exact g i hi, fun g i hi => by rw [p2_at h i]; exact g i hi⟩
theorem vchk_p2 {X V : List El} (h : P2 X = P2 V) : vchk X = vchk V := by
  unfold vchk
  rw [ichk_p2 h, fits_p2 h]
theorem each_p2 {op : List Nat} {low high : Int} {X V : List El} (h : P2 X = P2 V) : EachR op low high V = EachR op low high X := by
  have e1 : eachL op low high V = eachL op low high X := by
    have f : ∀ Y : List El, eachL op low high Y = (P2 Y).map fun y => (y.1.filter (dropP [[95, 95, 110, 97, 109, 101, 95, 95]]), oneM op y.2 low high) := fun Y => by simp [eachL, P2, List.map_map, Function.comp_def]
    rw [f, f, h]
  have e2 : eachPre op low high V = eachPre op low high X := by
    unfold eachPre
    have : (∃ i, i < V.length ∧ fitB (oneM op (eg V i).2.2 low high) = false) = (∃ i, i < X.length ∧ fitB (oneM op (eg X i).2.2 low high) = false) := by
      apply propext
      rw [p2_length h]
      exact ⟨fun ⟨i, hi, g⟩ => ⟨i, hi, by rw [p2_at h i]; exact g⟩, fun ⟨i, hi, g⟩ => ⟨i, hi, by rw [← p2_at h i]; exact g⟩⟩
    simp only [vchk_p2 h, this]
  funext e W
  unfold EachR
  rw [e1, e2]
theorem law_each (hs : HSt) (hro : ∀ e ∈ hs, e.w = false) (V : List El) (v : AV) (hV : EIn hs V v) (hB : EBd V) (op : List Nat) (ho : Bytes op) (low high : Int) : Spec tab 10 [.str op, v, .int .i64 low, .int .i64 high] [] hs (Val (.bool true)) := by
  refine Spec.enter' (ft_get 10 Tryz.func10) rfl (m := 56) rfl (rs := [.tmp 8]) rfl (st := [(0, .str op), (1, v), (2, .int .i64 low), (3, .int .i64 high)]) rfl rfl (fun _ => rfl) (fun E => ?_)
  refine W.seq ?_
  refine W.reg ?_
  refine WO.q (Q.assign rfl) rfl ?_
  refine WO.nil ?_
  refine End.K ?_
  refine W.seq ?_
  refine W.reg ?_
  refine WO.q (Q.move rfl) rfl ?_
  refine WO.call0 rfl (oLs_cons rfl oLs_nil) rfl (own_spec hs hro V v hV hB) (SubR.self hro) rfl (fun v15 D15 hP15 => ?_)
  obtain ⟨X, hX2, hO15⟩ := hP15
  have hI15 := VOwn.ein hO15
  have hXB := VOwn.ebd hO15
  have hck : vchk X = vchk V := vchk_p2 hX2
  refine WO.subH (hs' := (hs ++ D15)) (SubH.of_perm (perm_tail (N := []) (G := D15) (K := []) (X := hs))) ?_
  refine WO.q (Q.assign rfl) rfl ?_
  refine WO.nil ?_
  refine End.K ?_
  refine W.seq ?_
  refine W.reg ?_
  refine WO.q (Q.move rfl) rfl ?_
  refine WO.q (Q.move rfl) rfl ?_
  refine WO.q (Q.move rfl) rfl ?_
  refine WO.q (Q.move rfl) rfl ?_
  refine WO.call0 rfl (oLs_cons rfl (oLs_cons rfl (oLs_cons rfl (oLs_cons rfl oLs_nil)))) rfl (each_spec (ro D15) ro_w X _ hI15 hXB op ho low high) (SubR.ro gc) rfl (fun v21 D21 hP21 => ?_)
  obtain ⟨e21, W21, w21, hR21, hO21, rfl⟩ := hP21
  refine WO.subH (hs' := (hs ++ D15 ++ D21)) (SubH.of_perm (perm_tail (N := []) (G := D21) (K := []) (X := hs ++ D15))) ?_
  refine WO.q (Q.move rfl) rfl ?_
  refine WO.q (Q.extract rfl rfl) rfl ?_
  refine WO.q (Q.extract rfl rfl) rfl ?_
  refine WO.q (Q.assign rfl) rfl ?_
  refine WO.q (Q.assign rfl) rfl ?_
  refine WO.nil ?_
  refine End.K ?_
  refine W.seq ?_
  refine W.reg ?_
  refine WO.q (Q.move rfl) rfl ?_
  refine WO.q (Q.move rfl) rfl ?_
  refine WO.q (Q.move rfl) rfl ?_
  refine WO.q (Q.move rfl) rfl ?_
  refine WO.call0 rfl (oLs_cons rfl (oLs_cons rfl (oLs_cons rfl (oLs_cons rfl oLs_nil)))) rfl (reach_spec hs hro V v hV hB op ho low high) (SubR.appl (SubR.appl (SubR.self hro))) rfl (fun v29 D29 hP29 => ?_)
  obtain ⟨e29, W29, w29, hR29, hO29, rfl⟩ := hP29
  refine WO.subH (hs' := (hs ++ D15 ++ D21 ++ D29)) (SubH.of_perm (perm_tail (N := []) (G := D29) (K := []) (X := hs ++ D15 ++ D21))) ?_
  refine WO.q (Q.move rfl) rfl ?_
  refine WO.q (Q.extract rfl rfl) rfl ?_
  refine WO.q (Q.extract rfl rfl) rfl ?_
  refine WO.q (Q.assign rfl) rfl ?_
  refine WO.q (Q.assign rfl) rfl ?_
  refine WO.nil ?_
  refine End.K ?_
  refine W.sub (SubS.cons (k := 13) rfl (SubS.cons (k := 12) rfl (SubS.cons (k := 11) rfl (SubS.cons (k := 10) rfl (SubS.cons (k := 9) rfl (SubS.cons (k := 1) rfl (SubS.nil _))))))) ?_
  refine W.seq ?_
  refine W.seq ?_
  refine W.reg ?_
  refine WO.q (Q.move rfl) rfl ?_
  refine WO.callV rfl (oLs_cons rfl oLs_nil) rfl (vck_spec (ro D15) ro_w X _ hI15 hXB) (SubR.ro gc) rfl ?_
  refine WO.q (Q.move rfl) rfl ?_
  refine WO.callV rfl (oLs_cons rfl oLs_nil) rfl (rvck_spec hs hro V _ hV hB) (SubR.appl (SubR.appl (SubR.appl (SubR.self hro)))) rfl ?_
  refine WO.q (Q.bin rfl rfl rfl (bv_neq ne_nat)) rfl ?_
  refine WO.q (Q.move rfl) rfl ?_
  refine WO.splitD (d := 37) rfl (fun hc37 => ?_) (fun hc37 => ?_)
  · exact absurd hck (by simpa using hc37)
  · skip -- f
    obtain ⟨hee, hWW⟩ := hR21.fn ((each_p2 hX2) ▸ hR29)
    refine WO.gT rfl rfl ?_
    refine WO.q (Q.move rfl) rfl ?_
    refine WO.gT rfl rfl ?_
    refine WO.q (Q.move rfl) rfl ?_
    refine WO.gT rfl rfl ?_
    refine WO.callV rfl (oLs_cons rfl (oLs_cons rfl oLs_nil)) rfl (vsame_spec (ro (D21 ++ D29)) ro_w W21 W29 _ _ (hO21.ein.mono fun b o h => MemH.ro_l h) (hO29.ein.mono fun b o h => MemH.ro_r h) hO21.ebd hO29.ebd) (SubR.ro gc) rfl ?_
    refine WO.gT rfl rfl ?_
    refine WO.q (Q.not rfl not_dec) rfl ?_
    refine WO.q (Q.pickF rfl rfl) rfl ?_
    refine WO.q (Q.move rfl) rfl ?_
    refine WO.splitD (d := 43) rfl (fun hc43 => ?_) (fun hc43 => ?_)
    · exact absurd hWW (by simpa using hc43)
    · skip -- ff
      refine WO.gT rfl rfl ?_
      refine WO.q (Q.move rfl) rfl ?_
      refine WO.gT rfl rfl ?_
      refine WO.q (Q.move rfl) rfl ?_
      refine WO.gT rfl rfl ?_
      refine WO.q (Q.bin rfl rfl rfl (bv_neq ne_nat)) rfl ?_
      refine WO.q (Q.pickF rfl rfl) rfl ?_
      refine WO.nil ?_
      refine End.K ?_
      refine W.sub (SubS.cons (k := 47) rfl (SubS.cons (k := 10) rfl (SubS.cons (k := 9) rfl (SubS.cons (k := 1) rfl (SubS.nil _))))) ?_
      refine W.condDS rfl (fun hc47 => ?_) (fun hc47 => ?_)
      · exact absurd hee (by simpa using hc47)
      · skip -- ffF
        refine W.skip ?_
        refine End.K ?_
        refine W.seq ?_
        refine W.reg ?_
        refine WO.q (Q.move rfl) rfl ?_
        refine WO.callS (M := D21) (A := (hs ++ D15 ++ D29)) rfl (oLs_cons rfl oLs_nil) rfl hO21.w gc (spl_spec W21 w21 D21 hO21) SubR.nil rfl (fun v49 D49 hP49 => ?_)
        obtain ⟨rfl, rfl⟩ := hP49
        refine WO.nil ?_
        refine End.K ?_
        refine W.seq ?_
        refine W.reg ?_
        refine WO.q (Q.move rfl) rfl ?_
        refine WO.q (Q.move rfl) rfl ?_
        refine WO.callV rfl (oLs_cons rfl (oLs_cons rfl oLs_nil)) rfl (vsame_spec (ro D15 ++ hs) (ro_app hro) X V _ _ (hI15.mono fun b o h => h.appl) (hV.mono fun b o h => h.app) hXB hB) (SubR.mix gc hro) rfl ?_
        refine WO.q (Q.move rfl) rfl ?_
        refine WO.splitD (d := 53) rfl (fun hc53 => ?_) (fun hc53 => ?_)
        · skip -- ffFt
          refine WO.gT rfl rfl ?_
          refine WO.callV rfl oLs_nil rfl (Spec.known (fun _ => rfl)) SubR.nil rfl ?_
          refine WO.q (Q.pickT rfl rfl) rfl ?_
          refine WO.q (Q.assign rfl) rfl ?_
          refine WO.nil ?_
          refine End.K ?_
          refine W.ret ?_
          refine End.retV (ResL.tmp rfl ResL.nil) ?_
          rfl
        · exact absurd hX2 (by simpa using hc53)
end Go.Proofs.YtmblgaehfjheeaaGreat.Ev

/- The layer's examples hold (lives). -/
namespace Go.Proofs.YtmblgaehfjheeaaGreat.Ev
open Go.RowKit
set_option maxRecDepth 1000000
noncomputable def tabP : Tab := tabOf Tryz.prog
theorem tabP_is (J : Ctx) : TabOK Tryz.prog tabP J := tab_ok (by kernel_rfl) (by kernel_rfl)
theorem lives_ev : givesQ (callQ tabP (qFns tabP Tryz.prog.funcs.toList) 3000 300 18 [] ⟨0, .leaf⟩) (.bool true) = true := by kernel_rfl
theorem lives_any (w : World) : Calls Tryz.prog 18 #[] w fun e w' => e = .returned (.bool true) ∧ Below w.heap.size w w' :=
  quick_call (l := []) (tabP_is _) (qFns_ok tabP _ rfl) (v := .bool true) rfl lives_ev (.nil _) w
end Go.Proofs.YtmblgaehfjheeaaGreat.Ev

/- Chapter 19: what is known of calls holds; arguments read again. -/
namespace Go.Proofs.YtmblgaehfjheeaaGreat.Ev
open Go.RowKit Go.ChangeShapes Go.WideShapes
set_option linter.unusedVariables false
set_option maxRecDepth 100000
theorem orc_ok : ∀ f args h v, orc f args h = some v → ∀ M N (w0 : Base (ctxOf [])) (vs : Array Value) w, HRel M N w0 h w → LRel M args vs.toList →
    (∃ fn, Tryz.prog.funcs[f]? = some fn ∧ fn.body.isSome = true ∧ (fn.name == "runtime.NumGoroutine") = false) ∧
    Calls Tryz.prog f vs w fun e w' => ∃ u, e = .returned u ∧ VRel M v u ∧ Below w.heap.size w w' := by
  intro f args h v ho M N w0 vs w hh hr
  unfold orc at ho
  split at ho
  · rename_i hf
    have hf := Nat.eq_of_beq_eq_true hf
    subst hf
    split at ho
    rotate_left
    · cases ho
    simp only [Option.some.injEq] at ho
    subst ho
    refine ⟨⟨_, Tryz.func18, by kernel_rfl, by kernel_rfl⟩, ?_⟩
    obtain ⟨cs⟩ := vs
    match cs, hr with
    | [], hr =>
      refine (lives_any w).mono ?_
      rintro e w' ⟨rfl, hB⟩
      exact ⟨_, rfl, .bool _, hB⟩
    | _ :: _, hr => have := hr.1; simp at this
  · cases ho
theorem tab_is : TabOK Tryz.prog tab (ctxOf []) := tab_knows (tab_ok (by kernel_rfl) (by kernel_rfl)) (fun _ _ _ _ _ h => by cases h) (fun _ _ _ h => by cases h) orc_ok
theorem trodAll_below {H : Type} {enc : TypeId × Value → H} {P : Program} (hl : laidOutB P = true) {W W' : World} (hb : Below W.heap.size W W') :
    ∀ {ts : List TypeId} {vs : List Value} {ds : List (DataW H)} {ps : List MemPlace}, (ts.all fun t => P.readableRec t && decide (t < P.types.size)) = true → DataW.TrodAll enc P W 0 (fun _ => true) true ts vs ds ps → (∀ x ∈ ps, x.block < W.heap.size) →
    DataW.TrodAll enc P W' 0 (fun b => decide (b < W.heap.size)) true ts vs ds ps
  | [], vs, ds, ps, _, h, _ => by
    obtain ⟨rfl, rfl, rfl⟩ := trodAll_nil h
    exact trodAll_mk0
  | t :: ts, vs, ds, ps, hr, h, hlt => by
    obtain ⟨v0, vs0, d0, ds0, p0, q0, rfl, rfl, rfl, h0, r0⟩ := trodAll_cons h
    simp only [List.all_cons, Bool.and_eq_true, decide_eq_true_eq] at hr
    exact trodAll_cons_mk (Below.trod hl hr.1.1 hr.1.2 h0 hb fun x hx => hlt x (List.mem_append_left _ hx)) (trodAll_below hl hb (by simpa using hr.2) r0 fun x hx => hlt x (List.mem_append_right _ hx))
/-- The input's bulk, part by part. -/
theorem bk_bound {H : Type} {l : List (DataW H)} (hk : Rows.uptoSmall H l = true) {d : DataW H} (hd : d ∈ l) : Rows.uptoBulk d ≤ 1048576 := by
  have := of_decide_eq_true hk
  exact Nat.le_trans (bk_part hd) this
/-- A vector argument. -/
theorem vec_arg {H : Type} {enc : TypeId × Value → H} {W : World} {base : Nat} {v : Value} {d : DataW H} {p : List MemPlace} (hval : Value.okWide Tryz.prog W .any base 22 v) (h : DataW.Trod enc Tryz.prog W 0 (fun _ => true) true 22 v d p) (hb : Rows.uptoBulk d ≤ 1048576) (k : Nat) :
    ∃ (V : List El) (va : AV) (I : List InB), EIn (hsIn k I) V va ∧ EBd V ∧ ∀ M : Inj, (∀ j x, I[j]? = some x → M (k + j) = some x.bi) → VRel M va v ∧ ∀ x ∈ I, CellsOK W M x := by
  obtain ⟨fuel, hf⟩ := h
  have hc : v.cells.toList = [v] := by
    obtain ⟨a, len, cap, rfl⟩ := okWide_slice Tryz.underlying22 hval
    rfl
  rw [hc] at hf
  exact elems_in Tryz.underlying22 Tryz.underlying35 (by kernel_rfl) rfl rfl (by kernel_rfl) (by kernel_rfl) rfl Tryz.underlying3 Tryz.underlying33 Tryz.underlying68 (by kernel_rfl) rfl rfl (by kernel_rfl) (by kernel_rfl) Tryz.underlying9 Tryz.underlying9 hf hb (slice_there Tryz.underlying22 hval) k
theorem in_ok {W : World} {I : List InB} (h : ∀ x ∈ I, CellsOK W (injIn I) x) : InOK W I := fun x hx _ => let ⟨_, h2, h3⟩ := h x hx; ⟨h2, h3⟩
end Go.Proofs.YtmblgaehfjheeaaGreat.Ev
