/- ExecOffsets: the call, at every input that the row takes. -/
import Derived.Test.YtfkbfnpjggkdmaaGreatDoorOInA
import Derived.Test.YtfkbfnpjggkdmaaGreatDoorOInS
import Derived.Test.YtfkbfnpjggkdmaaGreatDoorTie
import Derived.Test.YtfkbfnpjggkdmaaGreatDoorCards
import Derived.WalkKit
import Derived.ProofKit
import Derived.Carry
import Derived.OpenShut
import Derived.LaidMore
import Derived.LaidLaws
import Derived.LaidHandle
import Derived.SevenTiedAt
import Derived.Stop.Joined
import Derived.JoinedCond
namespace Go.Proofs.YtfkbfnpjggkdmaaGreatDoor.execOffsets
open Go.ChangeShapes Go.WideShapes Go.ChangeAt Go.RowKit Go.ChangeMaps Go.Proofs.YtfkbfnpjggkdmaaGreatDoor
set_option maxRecDepth 100000
theorem own : ownKnob Tryz.prog.godebug = none := by kernel_rfl
theorem laidOut : laidOutB Tryz.prog = true := by kernel_rfl
theorem et : Tryz.prog.globalNamed "errors.errorType" = some 0 := by kernel_rfl
theorem rt : (Tryz.prog.cutTypes.find? (·.1 == "internal/reflectlite.rtype")).map (·.2) = some 195 := by kernel_rfl
theorem oneRow : ((List.range 389).filter fun t => Tryz.prog.rowNamed t [101, 114, 114, 111, 114]) = [122] := by kernel_rfl
theorem size : Tryz.prog.types.size = 389 := by kernel_rfl
def laidL : List (String × DataW Unit) := [("errors.errorType", Rows.laid_errors_errorType)]
theorem handle_of_laid {W : World} (h : laidMetH Tryz.prog laidL W) : Ev.HandleAt W := by
 have h' : laidMet Tryz.prog [] W ∧ handlesMet Tryz.prog laidL W := h
 obtain ⟨name, u, ty, e1, e2, e3, e4, e5⟩ := h'.2 _ (List.mem_singleton.2 rfl)
 have en : name = [101, 114, 114, 111, 114] := (Option.some.inj e1).symm
 subst en
 obtain rfl := Option.some.inj (rt.symm.trans e2)
 have hm : ty ∈ (List.range 389).filter fun t => Tryz.prog.rowNamed t [101, 114, 114, 111, 114] := List.mem_filter.2 ⟨List.mem_range.2 (by rw [← size]; exact e3), e4⟩
 rw [oneRow] at hm
 obtain rfl := List.mem_singleton.1 hm
 have hh : typeHandle Tryz.prog 122 = .pointer (some ⟨4, 122, none⟩) := by kernel_rfl
 rw [hh] at e5
 unfold Ev.HandleAt
 simpa using World.var?_cell et e5 0
noncomputable def laidWorld (os : Os) : World :=
 let w0 := World.holding Tryz.prog os ⟨#[], #[], []⟩
 { w0 with heap := w0.heap.modify 0 fun
   | .cells _ t frozen => .cells #[.iface 195 (.agg #[.pointer (some ⟨4, 122, none⟩)])] t frozen
   | o => o }
theorem laidWorld_met (os : Os) (args : Array Value) : laidMetH Tryz.prog laidL ((laidWorld os).forCall (fun _ _ => 0) ⟨#[], args, []⟩).memory :=
 laidMetH_of_parts (laidMet_nil _ _) (by kernel_rfl)
theorem trodAll_below {H : Type} {enc : TypeId × Value → H} {P : Program} (hl : laidOutB P = true) {W W' : World} (hb : Below W.heap.size W W') :
  ∀ {ts : List TypeId} {vs : List Value} {ds : List (DataW H)} {ps : List MemPlace}, (ts.all fun t => P.readableRec t && decide (t < P.types.size)) = true → DataW.TrodAll enc P W 0 (fun _ => true) true ts vs ds ps → (∀ x ∈ ps, x.block < W.heap.size) →
  DataW.TrodAll enc P W' 0 (fun b => decide (b < W.heap.size)) true ts vs ds ps
 | [], vs, ds, ps, _, h, _ => by
  obtain ⟨rfl, rfl, rfl⟩ := trodAll_nil h
  exact trodAll_mk0
 | t :: ts, vs, ds, ps, hr, h, hlt => by
  obtain ⟨v0, vs0, d0, ds0, p0, q0, rfl, rfl, rfl, h0, r0⟩ := trodAll_cons h
  simp only [List.all_cons, Bool.and_eq_true, decide_eq_true_eq] at hr
  exact trodAll_cons_mk (Below.trod hl hr.1.1 hr.1.2 h0 hb fun x hx => hlt x (List.mem_append_left _ hx)) (trodAll_below hl hb (by simpa using hr.2) r0 fun x hx => hlt x (List.mem_append_right _ hx))
theorem returns_cond_laidX {H : Type} {enc : TypeId × Value → H} {a : Assume} {C : Checked} {os : Os} {f : FuncId} {fn : Func} {s : OpenSpec} {k : (H : Type) → List (DataW H) → Bool} (hk : s.cond = some k) {F : Stop.Interp} {conds : List PathCond} {apart fresh handsOn again : Bool} {X : World → Array Value → Prop}
  (own : ownKnob C.prog.godebug = none) (started : os.Started) (noInit : C.prog.inits.idxOf? f = none) (hfn : C.prog.funcs[f]? = some fn)
  (witness : ∃ (w : World) (tape : Tape) (i : Input), w.os = os ∧ (w.forCall tape i).Shaped C.prog ∧ i.vars = [] ∧ Input.okWide C.prog (w.forCall tape i) .any w.heap.size f i ∧
   ((s.pre enc C.prog fn conds apart (w.forCall tape i).memory i.args ∧ X (w.forCall tape i).memory i.args) ∧ sizedMet enc C.prog fn s apart (w.forCall tape i).memory i.args) ∧ a.holds C.prog (lone (Frame.enter C.prog f i.args .normal) [] (w.forCall tape i)))
  (hX : ∀ (w w' : World) (args : Array Value), w'.heap = w.heap → X w args → X w' args) (contract : ∀ (W : World) (base : Nat) (args : Array Value) (ds gs : List (DataW H)) (before : List MemPlace),
   (∀ (j : Nat) t v, fn.params[j]? = some t → args[j]? = some v → Value.okWide C.prog W .any base t v) →
   DataW.Whole enc C.prog fn.params.toList s.vars apart W args.toList ds gs before → k H (ds ++ gs) = true → X W args →
   Calls C.prog f args W fun e W' => ∃ v, e = .returned v ∧ (s.at F).post enc C.prog fn apart fresh handsOn again W args v W') :
  ReturnsInHanded a C os f .any (fun w args => (s.pre enc C.prog fn conds apart w args ∧ X w args) ∧ sizedMet enc C.prog fn s apart w args) ((s.at F).post enc C.prog fn apart fresh handsOn again) := by
 refine returnsInHanded_of_calls own started noInit witness ?_
 intro w tape i _ _ _ hok hpre hholds
 obtain ⟨_, _, _, fn', hfn', _, _, _, _, hval⟩ := hok
 have e : fn' = fn := Option.some.inj (hfn'.symm.trans hfn)
 subst e
 obtain ⟨ds, gs, before, hw, hc, hkk⟩ := (OpenSpec.pre_some hk conds apart _ _).1 hpre.1.1
 have hw' := DataW.Whole.of_heap (w' := w.forCall tape i) (by rfl) hw
 refine (contract (w.forCall tape i) w.heap.size i.args ds gs before hval hw' hkk (hX _ _ _ (by rfl) hpre.1.2)).mono fun e W' ⟨v, he, hp⟩ => ?_
 subst he
 exact ChangeSpec.post_blind hp
theorem witness_cond_laid {H : Type} {enc : TypeId × Value → H} {C : Checked} {os : Os} {f : FuncId} {fn : Func} {s : OpenSpec} {k : (H : Type) → List (DataW H) → Bool} (hk : s.cond = some k) {conds : List PathCond} {apart : Bool} {X : World → Array Value → Prop} (modest : Bool) (w0 : World) (args : Array Value) (fuel : Nat) (hos : w0.os = os)
  (hsh : (w0.forCall (fun _ _ => 0) ⟨#[], args, []⟩).Shaped C.prog)
  (hok : Input.okWideB C.prog (w0.forCall (fun _ _ => 0) ⟨#[], args, []⟩) f ⟨#[], args, []⟩ = true)
  {x : List (DataW H) × List (DataW H) × List MemPlace} (hx : DataW.whole enc C.prog (w0.forCall (fun _ _ => 0) ⟨#[], args, []⟩).memory fn.params.toList s.vars apart args.toList fuel = some x)
  (hconds : conds.all (PathCond.test C.prog ⟨fn.params.toList, x.1, s.bare.plain.varTypes C.prog, x.2.1⟩) = true) (hkk : k H (x.1 ++ x.2.1) = true)
  (hsz : s.bare.sizedB enc C.prog fn apart (w0.forCall (fun _ _ => 0) ⟨#[], args, []⟩).memory args fuel = true)
  (hX : X (w0.forCall (fun _ _ => 0) ⟨#[], args, []⟩).memory args) :
  ∃ (w : World) (tape : Tape) (i : Input), w.os = os ∧ (w.forCall tape i).Shaped C.prog ∧ i.vars = [] ∧ Input.okWide C.prog (w.forCall tape i) .any w.heap.size f i ∧
   ((s.pre enc C.prog fn conds apart (w.forCall tape i).memory i.args ∧ X (w.forCall tape i).memory i.args) ∧ sizedMet enc C.prog fn s apart (w.forCall tape i).memory i.args) ∧ ({ modest := modest } : Assume).holds C.prog (lone (Frame.enter C.prog f i.args .normal) [] (w.forCall tape i)) :=
 ⟨w0, fun _ _ => 0, ⟨#[], args, []⟩, hos, hsh, (Input.okWide_of_okWideB (base := 0) hok).1, (Input.okWide_of_okWideB hok).2,
  ⟨⟨(OpenSpec.pre_some hk conds apart _ _).2 ⟨x.1, x.2.1, x.2.2, DataW.Whole_of_whole hx, hconds, hkk⟩, hX⟩, sizedMet_of_sizedB hsz⟩, by
  simp only [Assume.holds]
  exact ⟨by simp, by simp, fun _ => Modest.zero, by simp, by simp⟩⟩
theorem bk_bound {H : Type} {l : List (DataW H)} (hk : Rows.uptoSmall H l = true) {d : DataW H} (hd : d ∈ l) : Rows.uptoBulk d ≤ 1048576 := by
 have := of_decide_eq_true hk
 exact Nat.le_trans (Ev.bk_part hd) this
theorem in_ok {W : World} {I : List Ev.InB} (h : ∀ x ∈ I, Ev.CellsOK W (Ev.injIn I) x) : Ev.InOK W I := fun x hx _ => let ⟨_, h2, h3⟩ := h x hx; ⟨h2, h3⟩
theorem two_left {I J : List Ev.InB} {i : Nat} {x : Ev.InB} (h : I[i]? = some x) : Ev.injIn (I ++ J) (0 + i) = some x.bi := by
 rw [Nat.zero_add]; unfold Ev.injIn; rw [List.getElem?_append_left (List.getElem?_eq_some_iff.1 h).1, h]; rfl
theorem two_right {I J : List Ev.InB} {i : Nat} {x : Ev.InB} (h : J[i]? = some x) : Ev.injIn (I ++ J) (I.length + i) = some x.bi := by
 unfold Ev.injIn; rw [List.getElem?_append_right (by omega), Nat.add_sub_cancel_left, h]; rfl
theorem mem_left {I J : List Ev.InB} {b : Nat} {o : Ev.AObj} (h : Ev.MemH (Ev.hsIn 0 I) b o) : Ev.MemH (Ev.hsIn 0 (I ++ J)) b o := by
 obtain ⟨w, h⟩ := h
 exact ⟨w, by rw [Ev.hsIn_app]; exact List.mem_append_left _ h⟩
theorem mem_right {I J : List Ev.InB} {b : Nat} {o : Ev.AObj} (h : Ev.MemH (Ev.hsIn I.length J) b o) : Ev.MemH (Ev.hsIn 0 (I ++ J)) b o := by
 obtain ⟨w, h⟩ := h
 exact ⟨w, by rw [Ev.hsIn_app, Nat.zero_add]; exact List.mem_append_right _ h⟩
theorem contract (H : Type) (enc : TypeId × Value → H) (W : World) (base : Nat) (args : Array Value) (ds gs : List (DataW H)) (before : List MemPlace)
  (hval0 : ∀ (j : Nat) t v, Tryz.f5.params[j]? = some t → args[j]? = some v → Value.okWide Tryz.prog W .any base t v)
  (hW : DataW.Whole enc Tryz.prog Tryz.f5.params.toList Rows.execOffsetsSpec.vars false W args.toList ds gs before) (hk : Rows.uptoSmall H (ds ++ gs) = true) (hG : Ev.HandleAt W) :
  Calls Tryz.prog 5 args W fun e W' => ∃ v, e = .returned v ∧ Rows.execOffsetsSpec.post enc Tryz.prog Tryz.f5 false true false false W args v W' := by
 have hval := hval0
 have hW' := hW
 obtain ⟨p, q, hA0, hV, rfl, hfz, hnd⟩ := hW
 have hA : DataW.TrodAll enc Tryz.prog W 0 (fun _ => true) true Tryz.f5.params.toList args.toList ds p := hA0
 rw [Tryz.params5] at hA hval
 have hA1 := hA
 obtain ⟨v0, vs0, d0, ds0, p0, q0, hargs, rfl, rfl, h0, r0⟩ := trodAll_cons hA
 obtain ⟨v1, vs1, d1, ds1, p1, q1, rfl, rfl, rfl, h1, r1⟩ := trodAll_cons r0
 obtain ⟨v2, vs2, d2, ds2, p2, q2, rfl, rfl, rfl, h2, r2⟩ := trodAll_cons r1
 obtain ⟨v3, vs3, d3, ds3, p3, q3, rfl, rfl, rfl, h3, r3⟩ := trodAll_cons r2
 obtain ⟨rfl, rfl, rfl⟩ := trodAll_nil r3
 obtain rfl : args = #[v0, v1, v2, v3] := by cases args; simp_all
 obtain ⟨rfl, rfl⟩ := trodVars_none hV
 obtain ⟨M0, va0, I0, hE0, hB0, hM0⟩ := Ev.mts_arg (hval 0 49 v0 rfl rfl) h0 (bk_bound hk (by simp)) 0
 obtain ⟨R1, va1, I1, hE1, hA1', hB1, hM1⟩ := Ev.sers_arg (hval 1 22 v1 rfl rfl) h1 (bk_bound hk (by simp)) I0.length
 obtain ⟨a2, rfl, rfl, rfl, w2⟩ := open_int Tryz.underlying3 (hval 2 3 v2 rfl rfl) h2
 obtain ⟨a3, rfl, rfl, rfl, w3⟩ := open_int Tryz.underlying3 (hval 3 3 v3 rfl rfl) h3
 clear hA0 hval0
 obtain ⟨hr0, hc0⟩ := hM0 (Ev.injIn (I0 ++ I1)) (fun i x h => two_left h)
 obtain ⟨hr1, hc1⟩ := hM1 (Ev.injIn (I0 ++ I1)) (fun i x h => two_right h)
 have hc : ∀ x ∈ I0 ++ I1, Ev.CellsOK W (Ev.injIn (I0 ++ I1)) x := fun x hx => (List.mem_append.1 hx).elim (hc0 x) (hc1 x)
 have hS := Ev.hsIn_seen (I := I0 ++ I1) fun x hx => (hc x hx).1
 have hro := Ev.hsIn_ro (I0 ++ I1) 0
 have hOK := in_ok hc
 refine (Ev.in_callX (Ev.offs_spec _ hro R1 va1 (hE1.mono fun b o h => mem_right h) (hA1'.mono fun b o h => mem_right h) hB1 M0 va0 (hE0.mono fun b o h => mem_left h) hB0 a2 a3) (u := .bool true) rfl hS (.cons hr0 (.cons hr1 (.cons (.int _ _) (.cons (.int _ _) (.nil _))))) W hOK hG).mono fun e W' ⟨he, hg⟩ => ?_
 subst he
 refine ⟨_, rfl, _, _, _, [], (p0 ++ (p1 ++ ([] ++ ([] ++ [])))), [], hW', ?_, ?_, ?_, hg.frame _, fun h => by cases h⟩
 ·exact (trodAll_cons_mk (shut_bool Tryz.underlying4 _) trodAll_mk0)
 ·exact trodAll_below laidOut hg (by kernel_rfl) hA1 (fun x hx => by have := hW'.lt x (by simpa using hx); simpa using this)
 ·rfl
theorem lifted (os : Os) (started : os.Started) (H : Type) (enc : TypeId × Value → H) (F : Stop.Interp) :
  ReturnsInHanded {} Tryz.checked os 5 .any (fun w args => ((Rows.OpenSpec.upto Rows.execOffsetsSpec).pre enc Tryz.prog Tryz.f5 Rows.execOffsetsUptoRow.domain false w args ∧ laidMetH Tryz.prog laidL w) ∧ sizedMet enc Tryz.prog Tryz.f5 (Rows.OpenSpec.upto Rows.execOffsetsSpec) false w args) (((Rows.OpenSpec.upto Rows.execOffsetsSpec).at F).post enc Tryz.prog Tryz.f5 false true false false) := by
 refine returns_cond_laidX (hX := fun _ _ _ hh h => h.of_heap hh.symm) (C := Tryz.checked) (s := Rows.OpenSpec.upto Rows.execOffsetsSpec) (k := Rows.uptoSmall) (X := fun w _ => laidMetH Tryz.prog laidL w) rfl own started (by kernel_rfl) Tryz.func5
  (witness_cond_laid (enc := enc) (C := Tryz.checked) (os := os) (s := Rows.OpenSpec.upto Rows.execOffsetsSpec) (k := Rows.uptoSmall) (X := fun w _ => laidMetH Tryz.prog laidL w) rfl false (laidWorld os) #[.slice none 0 0, .slice none 0 0, .int .i64 0, .int .i64 0] 8 rfl
   (World.shaped_of_B (by kernel_rfl) (by kernel_rfl)) (by kernel_rfl) (x := ([.nil, .nil, .lit (.int .i64 0), .lit (.int .i64 0)], [], [])) (by kernel_rfl) rfl (by kernel_rfl) (by kernel_rfl) (laidWorld_met os _)) ?_
 intro W base args ds gs before hval hW hk hL
 exact contract H enc W base args ds gs before hval hW hk (handle_of_laid hL)
open Go.ChangeShapes Go.WideShapes Go.RowKit
noncomputable abbrev cN : OpenClaim := Rows.execOffsetsUptoRow
noncomputable abbrev pN : Program := Tryz.pinned.checked.prog
noncomputable abbrev fN : Func := Tryz.f5
noncomputable abbrev nN : Nat := 5
theorem k2 : laidOutB pN = true := by kernel_rfl
theorem k3 : mapsRowed pN = true := by kernel_rfl
theorem k10 : (cN.inPlace == pN.inPlace nN) = true := by kernel_rfl
theorem k11 : (cN.unfollowed == pN.unfollowed nN) = true := by kernel_rfl
theorem k12 : (cN.recurses == pN.recurses nN) = true := by kernel_rfl
theorem k13 : (cN.named == pN.varsNamed nN) = true := by kernel_rfl
theorem both {a b : Bool} (h : a = true) (g : b = true) : (a && b) = true := by rw [h, g]; rfl
theorem kJ : joinedFacts pN nN fN (Rows.OpenSpec.upto Rows.execOffsetsSpec).bare cN = true := by
 unfold joinedFacts
 refine both (both (both (both (both (both (both (both (both (both (both (both (both (both (both (both (both (both (both (both (both (both (both (both (both (both (both (both (both (both (both ?_ k2) k3) ?_) ?_) ?_) ?_) ?_) ?_) k10) k11) k12) k13) ?_) ?_) ?_) ?_) ?_) ?_) ?_) ?_) ?_) ?_) ?_) ?_) ?_) ?_) ?_) ?_) ?_) ?_) ?_ <;> kernel_rfl
end Go.Proofs.YtfkbfnpjggkdmaaGreatDoor.execOffsets
