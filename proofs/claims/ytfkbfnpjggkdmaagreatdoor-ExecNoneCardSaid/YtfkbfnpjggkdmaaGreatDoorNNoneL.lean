/- ExecNone: the call, at every input that the row takes. -/
import Derived.Test.YtfkbfnpjggkdmaaGreatDoorNCb21
import Derived.Test.YtfkbfnpjggkdmaaGreatDoorNNone21
import Derived.Test.YtfkbfnpjggkdmaaGreatDoorTie
import Derived.Test.YtfkbfnpjggkdmaaGreatDoorCards
import Derived.WalkKit
import Derived.ProofKit
import Derived.Carry
import Derived.OpenShut
import Derived.LaidMore
import Derived.LaidLaws
import Derived.LaidHandle
import Derived.SevenTiedAt
import Derived.Stop.Joined
import Derived.ChangeSame
import Derived.ChangeVars
import Derived.JoinedOf
set_option linter.unusedVariables false
namespace Go.Proofs.YtfkbfnpjggkdmaaGreatDoor.execNone
open Go.ChangeShapes Go.WideShapes Go.RowKit
set_option maxRecDepth 100000
theorem own : ownKnob Tryz.prog.godebug = none := by kernel_rfl
theorem laidOut : laidOutB Tryz.prog = true := by kernel_rfl
theorem et : Tryz.prog.globalNamed "errors.errorType" = some 0 := by kernel_rfl
theorem rt : (Tryz.prog.cutTypes.find? (·.1 == "internal/reflectlite.rtype")).map (·.2) = some 195 := by kernel_rfl
theorem oneRow : ((List.range 389).filter fun t => Tryz.prog.rowNamed t [101, 114, 114, 111, 114]) = [122] := by kernel_rfl
theorem size : Tryz.prog.types.size = 389 := by kernel_rfl
def laidL : List (String × DataW Unit) := [("errors.errorType", Rows.laid_errors_errorType)]
/-- What the condition gives: the variable's one cell. -/
theorem handle_of_laid {W : World} (h : laidMetH Tryz.prog laidL W) : Ev.HandleAt W := by
  have h' : laidMet Tryz.prog [] W ∧ handlesMet Tryz.prog laidL W := h
  obtain ⟨name, u, ty, e1, e2, e3, e4, e5⟩ := h'.2 _ (List.mem_singleton.2 rfl)
  have en : name = [101, 114, 114, 111, 114] := (Option.some.inj e1).symm
  subst en
  obtain rfl := Option.some.inj (rt.symm.trans e2)
  have hm : ty ∈ (List.range 389).filter fun t => Tryz.prog.rowNamed t [101, 114, 114, 111, 114] := List.mem_filter.2 ⟨List.mem_range.2 (by rw [← size]; exact e3), e4⟩
  rw [oneRow] at hm
  obtain rfl := List.mem_singleton.1 hm
  have hh : typeHandle Tryz.prog 122 = .pointer (some ⟨4, 122, none⟩) := by kernel_rfl
  rw [hh] at e5
  unfold Ev.HandleAt
  simpa using World.var?_cell et e5 0
noncomputable def laidWorld (os : Os) : World :=
  let w0 := World.holding Tryz.prog os ⟨#[], #[], []⟩
  { w0 with heap := w0.heap.modify 0 fun
      | .cells _ t frozen => .cells #[.iface 195 (.agg #[.pointer (some ⟨4, 122, none⟩)])] t frozen
      | o => o }
theorem laidWorld_met (os : Os) (args : Array Value) : laidMetH Tryz.prog laidL ((laidWorld os).forCall (fun _ _ => 0) ⟨#[], args, []⟩).memory :=
  laidMetH_of_parts (laidMet_nil _ _) (by kernel_rfl)
theorem orcX_ok (l : List Value) : ∀ f args h v, Ev.orcX f args h = some v → ∀ M N (w0 : Ev.Base (Ev.ctxX l)) (vs : Array Value) w, Ev.HRel M N w0 h w → Ev.LRel M args vs.toList →
    (∃ fn, Tryz.prog.funcs[f]? = some fn ∧ fn.body.isSome = true ∧ (fn.name == "runtime.NumGoroutine") = false) ∧
    Calls Tryz.prog f vs w fun e w' => ∃ u, e = .returned u ∧ Ev.VRel M v u ∧ Below w.heap.size w w' := by
  intro f args h v ho M N w0 vs w hh hl
  unfold Ev.orcX at ho
  split at ho
  rotate_left
  · cases ho
  split at ho
  rotate_left
  · cases ho
  rename_i hf
  cases ho
  have hf := Nat.eq_of_beq_eq_true hf
  subst hf
  have hvs : vs = #[] := by
    apply Array.ext'
    have := hl.1
    simpa using this
  subst hvs
  have hg : Ev.HandleAt w := w0.ok w (hh.below.below hh.lim)
  refine ⟨⟨_, Tryz.func12, by kernel_rfl, by kernel_rfl⟩, (Ev.lives_any w hg).mono fun e w' ⟨h1, h2⟩ => ⟨_, h1, .bool true, h2⟩⟩
theorem tabX_is (l : List Value) : Ev.TabOK Tryz.prog Ev.tabX (Ev.ctxX l) :=
  have H := Ev.tabP_is (Ev.ctxX l)
  ⟨H.tt, H.ft, H.et, H.nm, H.mo, H.ob, H.oc, orcX_ok l⟩
theorem none_walk (W : World) (h : Ev.HandleAt W) (v0 : Value) (hv : v0.oneCell' = true) (a b c d : Int) :
    Calls Tryz.prog 7 #[v0, .agg #[.int .i64 a, .int .i64 b, .int .i64 c, .int .i64 d]] W fun e W' => e = .returned (.bool true) ∧ Below W.heap.size W W' :=
  Ev.caught_call (J := Ev.ctxX [v0]) (l := [v0]) (tabX_is _) (Ev.cfg_ok fun _ h => h) rfl (v := .bool true) rfl (Ev.none_ev a b c d)
    (Ev.LRel.cons (.opq 0 ⟨0, 0, 0, 0, v0⟩ v0 rfl rfl hv) (.cons ((Ev.LRel.cons (.int _ _) (.cons (.int _ _) (.cons (.int _ _) (.cons (.int _ _) (.nil _))))).agg) (.nil _))) W (fun w' hb => Ev.handle_below h hb)
theorem field_one {H : Type} {enc : TypeId × Value → H} {P : Program} {w : World} {n : Nat} {fs : Array Field} {cs : List Value} {xs : List (DataW H × List MemPlace)}
    (hF : ∀ (i : Nat) (f : Field), fs[i]? = some f → DataW.trod enc P w 0 (fun _ => true) true n f.type ((cs.drop f.offset).take (P.cellsOf f.type)) = xs[i]?) (i : Nat) {f : Field} (hf : fs[i]? = some f) (ho : f.offset = i) (hc : P.cellsOf f.type = 1) {c : Value} {y : DataW H × List MemPlace}
    (hci : cs[i]? = some c) (hx : xs[i]? = some y) : DataW.trod enc P w 0 (fun _ => true) true n f.type [c] = some y := by
  have h := hF i f hf
  rw [ho, hc, hx] at h
  have e : (cs.drop i).take 1 = [c] := by
    rw [List.take_one, List.head?_drop, hci]; rfl
  rwa [e] at h
theorem list4 {α : Type} {l : List α} (h : l.length = 4) : ∃ a b c d, l = [a, b, c, d] := by
  match l, h with
  | [a, b, c, d], _ => exact ⟨a, b, c, d, rfl⟩
theorem array4 {l : Array Value} (h : l.size = 4) : ∃ a b c d, l = #[a, b, c, d] := by
  obtain ⟨l⟩ := l
  obtain ⟨a, b, c, d, rfl⟩ := list4 (l := l) h
  exact ⟨a, b, c, d, rfl⟩
/-- A span that comes in: four numbers. -/
theorem span_arg {H : Type} {enc : TypeId × Value → H} {W : World} {base : Nat} {v : Value} {d : DataW H} {p : List MemPlace} (hval : Value.okWide Tryz.prog W .any base 24 v) (h : DataW.Trod enc Tryz.prog W 0 (fun _ => true) true 24 v d p) :
    ∃ a b c e : Int, v = .agg #[.int .i64 a, .int .i64 b, .int .i64 c, .int .i64 e] := by
  obtain ⟨fuel, hf⟩ := h
  obtain ⟨cs, rfl, hsz⟩ := okWide_struct Tryz.underlying24 hval
  have h4 : Tryz.prog.cellsOf 24 = 4 := by kernel_rfl
  obtain ⟨c0, c1, c2, c3, rfl⟩ := array4 (hsz.trans h4)
  obtain ⟨xs, n, _, hx, _, hlen, hF⟩ := DataW.trod_struct Tryz.underlying24 hf
  obtain ⟨y0, y1, y2, y3, rfl⟩ := list4 (hlen.trans rfl)
  have i1 : Tryz.prog.cellsOf 3 = 1 := by kernel_rfl
  have g0 : DataW.trod enc Tryz.prog W 0 (fun _ => true) true n 3 [c0] = some y0 := field_one hF 0 rfl rfl i1 rfl rfl
  have g1 : DataW.trod enc Tryz.prog W 0 (fun _ => true) true n 3 [c1] = some y1 := field_one hF 1 rfl rfl i1 rfl rfl
  have g2 : DataW.trod enc Tryz.prog W 0 (fun _ => true) true n 3 [c2] = some y2 := field_one hF 2 rfl rfl i1 rfl rfl
  have g3 : DataW.trod enc Tryz.prog W 0 (fun _ => true) true n 3 [c3] = some y3 := field_one hF 3 rfl rfl i1 rfl rfl
  obtain ⟨a, q0, _⟩ := DataW.trod_int Tryz.underlying3 g0
  obtain ⟨b, q1, _⟩ := DataW.trod_int Tryz.underlying3 g1
  obtain ⟨c, q2, _⟩ := DataW.trod_int Tryz.underlying3 g2
  obtain ⟨e, q3, _⟩ := DataW.trod_int Tryz.underlying3 g3
  simp only [List.cons.injEq, and_true] at q0 q1 q2 q3
  subst q0 q1 q2 q3
  exact ⟨a, b, c, e, rfl⟩
theorem trodAll_below {H : Type} {enc : TypeId × Value → H} {P : Program} (hl : laidOutB P = true) {W W' : World} (hb : Below W.heap.size W W') :
    ∀ {ts : List TypeId} {vs : List Value} {ds : List (DataW H)} {ps : List MemPlace}, (ts.all fun t => P.readableRec t && decide (t < P.types.size)) = true → DataW.TrodAll enc P W 0 (fun _ => true) true ts vs ds ps → (∀ x ∈ ps, x.block < W.heap.size) →
    DataW.TrodAll enc P W' 0 (fun b => decide (b < W.heap.size)) true ts vs ds ps
  | [], vs, ds, ps, _, h, _ => by
    obtain ⟨rfl, rfl, rfl⟩ := trodAll_nil h
    exact trodAll_mk0
  | t :: ts, vs, ds, ps, hr, h, hlt => by
    obtain ⟨v0, vs0, d0, ds0, p0, q0, rfl, rfl, rfl, h0, r0⟩ := trodAll_cons h
    simp only [List.all_cons, Bool.and_eq_true, decide_eq_true_eq] at hr
    exact trodAll_cons_mk (Below.trod hl hr.1.1 hr.1.2 h0 hb fun x hx => hlt x (List.mem_append_left _ hx)) (trodAll_below hl hb (by simpa using hr.2) r0 fun x hx => hlt x (List.mem_append_right _ hx))
theorem lifted (os : Os) (started : os.Started) (H : Type) (enc : TypeId × Value → H) :
    ReturnsInHanded {} Tryz.checked os 7 .any (fun w args => (Rows.execNoneSpec.pre enc Tryz.prog Tryz.f7 Rows.execNoneRow.domain false w args ∧ laidMetH Tryz.prog laidL w) ∧ sizedMet enc Tryz.prog Tryz.f7 (OpenSpec.ofChange Rows.execNoneSpec) false w args)
      (Rows.execNoneSpec.post enc Tryz.prog Tryz.f7 false true false false) := by
  refine returnsInHanded_of_change_and (C := Tryz.checked) (X := fun w _ => laidMetH Tryz.prog laidL w) (fun _ _ _ hh h => h.of_heap hh) own started (by kernel_rfl) Tryz.func7
    (ChangeSpec.witness_at (enc := enc) (C := Tryz.checked) (os := os) (X := fun w _ => laidMetH Tryz.prog laidL w) false (laidWorld os) #[.slice none 0 0, .agg #[.int .i64 0, .int .i64 0, .int .i64 0, .int .i64 0]] 8 rfl (by kernel_rfl) (by kernel_rfl) (by kernel_rfl) (by kernel_rfl) (by kernel_rfl) (laidWorld_met os _)) ?_
  intro W base args ds gs before hval0 hW hcnd hsz hL _
  have hval : ∀ (j : Nat) t v, Tryz.f7.params[j]? = some t → args[j]? = some v → Value.okWide Tryz.prog W .any base t v := hval0
  have hW' := hW
  obtain ⟨p, q, hA0, hV, rfl, hfz, hnd⟩ := hW
  have hA : DataW.TrodAll enc Tryz.prog W 0 (fun _ => true) true Tryz.f7.params.toList args.toList ds p := hA0
  rw [Tryz.params7] at hA hval
  have hA1 := hA
  obtain ⟨v0, vs0, d0, ds0, p0, q0, hargs, rfl, rfl, h0, r0⟩ := trodAll_cons hA
  obtain ⟨v1, vs1, d1, ds1, p1, q1, rfl, rfl, rfl, h1, r1⟩ := trodAll_cons r0
  obtain ⟨rfl, rfl, rfl⟩ := trodAll_nil r1
  obtain rfl : args = #[v0, v1] := by cases args; simp_all
  obtain ⟨rfl, rfl⟩ := trodVars_none hV
  obtain ⟨a, b, c, e, rfl⟩ := span_arg (hval 1 24 v1 rfl rfl) h1
  have hv0 : v0.oneCell' = true := by
    obtain ⟨a, len, cap, rfl⟩ := okWide_slice Tryz.underlying26 (hval 0 26 v0 rfl rfl)
    rfl
  clear hA0 hval0
  refine (none_walk W (handle_of_laid hL) v0 hv0 a b c e).mono fun e W' ⟨he, hg⟩ => ?_
  subst he
  refine ⟨_, rfl, _, _, _, [], (p0 ++ (p1 ++ [])), [], hW', ?_, ?_, ?_, hg.frame _, fun h => by cases h⟩
  · exact (trodAll_cons_mk (shut_bool Tryz.underlying4 _) trodAll_mk0)
  · exact trodAll_below laidOut hg (by kernel_rfl) hA1 (fun x hx => by have := hW'.lt x (by simpa using hx); simpa using this)
  · rfl
end Go.Proofs.YtfkbfnpjggkdmaaGreatDoor.execNone
