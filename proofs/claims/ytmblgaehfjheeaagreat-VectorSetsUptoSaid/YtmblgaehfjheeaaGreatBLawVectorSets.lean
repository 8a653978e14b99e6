/- VectorSets: where what comes in is of bulk at most 1048576: the law returns true, and each argument reads behind the call as it read before; conditions: the bulk alone. -/
import Derived.Test.YtmblgaehfjheeaaGreatRows
import Derived.Test.YtmblgaehfjheeaaGreatBZo
import Derived.Test.YtmblgaehfjheeaaGreatBNodV
import Derived.WalkKit
import Derived.ProofKit
import Derived.OpenShut
import Derived.ShutString
import Derived.JoinedCond
namespace Go.Proofs.YtmblgaehfjheeaaGreat.vectorSets
open Go.ChangeShapes Go.WideShapes Go.ChangeAt Go.RowKit Go.ChangeMaps Go.Proofs.YtmblgaehfjheeaaGreat
set_option linter.unusedVariables false
theorem own : ownKnob Tryz.prog.godebug = none := by kernel_rfl
theorem laidOut : laidOutB Tryz.prog = true := by kernel_rfl
set_option maxRecDepth 100000 in
theorem contract (H : Type) (enc : TypeId × Value → H) (W : World) (base : Nat) (args : Array Value) (ds gs : List (DataW H)) (before : List MemPlace)
    (hval0 : ∀ (j : Nat) t v, Tryz.f8.params[j]? = some t → args[j]? = some v → Value.okWide Tryz.prog W .any base t v)
    (hW : DataW.Whole enc Tryz.prog Tryz.f8.params.toList Rows.vectorSetsSpec.vars false W args.toList ds gs before) (hk : Rows.uptoSmall H (ds ++ gs) = true) :
    Calls Tryz.prog 8 args W fun e W' => ∃ v, e = .returned v ∧ Rows.vectorSetsSpec.post enc Tryz.prog Tryz.f8 false true false false W args v W' := by
  have hval := hval0
  have hW' := hW
  obtain ⟨p, q, hA0, hV, rfl, hfz, hnd⟩ := hW
  have hA : DataW.TrodAll enc Tryz.prog W 0 (fun _ => true) true Tryz.f8.params.toList args.toList ds p := hA0
  rw [Tryz.params8] at hA hval
  have hA1 := hA
  obtain ⟨v0, vs0, d0, ds0, p0, q0, hargs, rfl, rfl, h0, r0⟩ := trodAll_cons hA
  obtain ⟨v1, vs1, d1, ds1, p1, q1, rfl, rfl, rfl, h1, r1⟩ := trodAll_cons r0
  obtain ⟨v2, vs2, d2, ds2, p2, q2, rfl, rfl, rfl, h2, r2⟩ := trodAll_cons r1
  obtain ⟨v3, vs3, d3, ds3, p3, q3, rfl, rfl, rfl, h3, r3⟩ := trodAll_cons r2
  obtain ⟨rfl, rfl, rfl⟩ := trodAll_nil r3
  obtain rfl : args = #[v0, v1, v2, v3] := by cases args; simp_all
  obtain ⟨rfl, rfl⟩ := trodVars_none hV
  obtain ⟨a0, rfl, rfl, rfl, w0⟩ := open_int Tryz.underlying3 (hval 0 3 v0 rfl rfl) h0
  obtain ⟨N1, vn1, I1, hS1, hNb1, hM1⟩ := Ev.names_arg (hval 1 40 v1 rfl rfl) h1 (Ev.bk_bound hk (by simp)) (0)
  obtain ⟨V2, va2, I2, hE2, hB2, hM2⟩ := Ev.vec_arg (hval 2 22 v2 rfl rfl) h2 (Ev.bk_bound hk (by simp)) (0 + I1.length)
  obtain ⟨V3, va3, I3, hE3, hB3, hM3⟩ := Ev.vec_arg (hval 3 22 v3 rfl rfl) h3 (Ev.bk_bound hk (by simp)) (0 + I1.length + I2.length)
  clear hA0 hval0
  obtain ⟨hr1, hc1⟩ := hM1 (Ev.injIn (I1 ++ (I2 ++ I3))) (fun i x h => by have := Ev.inj_at (A := []) (I := I1) (B := I2 ++ I3) i x h; simpa [List.append_assoc, Nat.add_assoc] using this)
  obtain ⟨hr2, hc2⟩ := hM2 (Ev.injIn (I1 ++ (I2 ++ I3))) (fun i x h => by have := Ev.inj_at (A := I1) (I := I2) (B := I3) i x h; simpa [List.append_assoc, Nat.add_assoc] using this)
  obtain ⟨hr3, hc3⟩ := hM3 (Ev.injIn (I1 ++ (I2 ++ I3))) (fun i x h => by have := Ev.inj_at (A := I1 ++ I2) (I := I3) (B := []) i x h; simpa [List.append_assoc, Nat.add_assoc] using this)
  have hc : ∀ x ∈ I1 ++ (I2 ++ I3), Ev.CellsOK W (Ev.injIn (I1 ++ (I2 ++ I3))) x := fun x hx => (List.mem_append.1 hx).elim (hc1 x) (fun hx => (List.mem_append.1 hx).elim (hc2 x) (hc3 x))
  have hS := Ev.hsIn_seen (I := I1 ++ (I2 ++ I3)) fun x hx => (hc x hx).1
  have hro := Ev.hsIn_ro (I1 ++ (I2 ++ I3)) 0
  have hOK := Ev.in_ok hc
  have hN1 := hS1.mono (hs' := Ev.hsIn 0 (I1 ++ (I2 ++ I3))) (fun b o h => by rw [Ev.hsIn_app]; exact h.appl)
  have hV2 := hE2.mono (hs' := Ev.hsIn 0 (I1 ++ (I2 ++ I3))) (fun b o h => by rw [Ev.hsIn_app, Ev.hsIn_app]; exact h.appl.app)
  have hV3 := hE3.mono (hs' := Ev.hsIn 0 (I1 ++ (I2 ++ I3))) (fun b o h => by rw [Ev.hsIn_app, Ev.hsIn_app]; exact h.app.app)
  refine (Ev.in_call Ev.tab_is (Ev.law_sets _ hro V2 va2 hV2 hB2 V3 va3 hV3 hB3 a0 N1 vn1 hN1 hNb1) (u := .bool true) rfl hS (.cons (.int _ _) (.cons hr1 (.cons hr2 (.cons hr3 (.nil _))))) W hOK).mono fun e W' ⟨he, hg⟩ => ?_
  subst he
  refine ⟨_, rfl, _, _, _, [], ([] ++ (p1 ++ (p2 ++ (p3 ++ [])))), [], hW', ?_, ?_, ?_, hg.frame _, fun h => by cases h⟩
  · exact (trodAll_cons_mk (shut_bool Tryz.underlying4 _) trodAll_mk0)
  · exact Ev.trodAll_below laidOut hg (by kernel_rfl) hA1 (fun x hx => by have := hW'.lt x (by simpa using hx); simpa using this)
  · rfl
set_option maxRecDepth 100000 in
theorem lifted (os : Os) (started : os.Started) (H : Type) (enc : TypeId × Value → H) (F : Stop.Interp) :
    ReturnsInHanded {} Tryz.checked os 8 .any ((Rows.OpenSpec.upto Rows.vectorSetsSpec).pre6 enc Tryz.prog Tryz.f8 Rows.vectorSetsUptoRow.domain false) (((Rows.OpenSpec.upto Rows.vectorSetsSpec).at F).post enc Tryz.prog Tryz.f8 false true false false) := by
  refine returnsInHanded_of_cond (C := Tryz.checked) (s := Rows.OpenSpec.upto Rows.vectorSetsSpec) (k := Rows.uptoSmall) rfl own started (by kernel_rfl) Tryz.func8
    (OpenSpec.witness (enc := enc) (C := Tryz.checked) (s := Rows.OpenSpec.upto Rows.vectorSetsSpec) (k := Rows.uptoSmall) rfl false ⟨#[], #[.int .i64 0, .slice none 0 0, .slice none 0 0, .slice none 0 0], []⟩ 8 (by kernel_rfl) (by kernel_rfl) (by kernel_rfl)
      (x := ([.lit (.int .i64 0), .nil, .nil, .nil], [], [])) (by kernel_rfl) rfl (by kernel_rfl)) ?_
  intro W base args ds gs before hval hW _ hk _
  exact contract H enc W base args ds gs before hval hW hk
theorem over : Rows.vectorSetsUptoRow.holds Tryz.pinned (Rows.OpenSpec.upto Rows.vectorSetsSpec) :=
  OpenClaim.holds_of_cond 8 Tryz.f8 rfl rfl rfl rfl rfl rfl rfl ⟨rfl, rfl, rfl, rfl, rfl⟩ rfl rfl rfl rfl rfl (by kernel_rfl) Tryz.func8 (by kernel_rfl)
    (of_decide_eq_true (by kernel_rfl)) (by unfold Func.isWrapper; first | (rw [if_pos (by decide +kernel)]; kernel_rfl) | (rw [if_neg (by decide +kernel)]; exact ⟨rfl, rfl⟩))
    (fun os started H enc _ F => lifted os started H enc F)
theorem proved : Rows.VectorSetsUptoSaid := over
#print axioms proved
end Go.Proofs.YtmblgaehfjheeaaGreat.vectorSets
