/- VectorSums: where what comes in is of bulk at most 1048576: the law returns true, and each argument reads behind the call as it read before; conditions: the bulk alone. -/
import Derived.Test.YtmblgaehfjheeaaGreatRows
import Derived.Test.YtmblgaehfjheeaaGreatMLv19
import Derived.Test.YtmblgaehfjheeaaGreatMNodV
import Derived.WalkKit
import Derived.ProofKit
import Derived.OpenShut
import Derived.ShutString
import Derived.JoinedCond
namespace Go.Proofs.YtmblgaehfjheeaaGreat.vectorSums
open Go.ChangeShapes Go.WideShapes Go.ChangeAt Go.RowKit Go.ChangeMaps Go.Proofs.YtmblgaehfjheeaaGreat
set_option linter.unusedVariables false
theorem own : ownKnob Tryz.prog.godebug = none := by kernel_rfl
theorem laidOut : laidOutB Tryz.prog = true := by kernel_rfl
set_option maxRecDepth 100000 in
theorem contract (H : Type) (enc : TypeId × Value → H) (W : World) (base : Nat) (args : Array Value) (ds gs : List (DataW H)) (before : List MemPlace)
    (hval0 : ∀ (j : Nat) t v, Tryz.f6.params[j]? = some t → args[j]? = some v → Value.okWide Tryz.prog W .any base t v)
    (hW : DataW.Whole enc Tryz.prog Tryz.f6.params.toList Rows.vectorSumsSpec.vars false W args.toList ds gs before) (hk : Rows.uptoSmall H (ds ++ gs) = true) :
    Calls Tryz.prog 6 args W fun e W' => ∃ v, e = .returned v ∧ Rows.vectorSumsSpec.post enc Tryz.prog Tryz.f6 false true false false W args v W' := by
  have hval := hval0
  have hW' := hW
  obtain ⟨p, q, hA0, hV, rfl, hfz, hnd⟩ := hW
  have hA : DataW.TrodAll enc Tryz.prog W 0 (fun _ => true) true Tryz.f6.params.toList args.toList ds p := hA0
  rw [Tryz.params6] at hA hval
  have hA1 := hA
  obtain ⟨v0, vs0, d0, ds0, p0, q0, hargs, rfl, rfl, h0, r0⟩ := trodAll_cons hA
  obtain ⟨v1, vs1, d1, ds1, p1, q1, rfl, rfl, rfl, h1, r1⟩ := trodAll_cons r0
  obtain ⟨v2, vs2, d2, ds2, p2, q2, rfl, rfl, rfl, h2, r2⟩ := trodAll_cons r1
  obtain ⟨rfl, rfl, rfl⟩ := trodAll_nil r2
  obtain rfl : args = #[v0, v1, v2] := by cases args; simp_all
  obtain ⟨rfl, rfl⟩ := trodVars_none hV
  obtain ⟨N0, vn0, I0, hS0, hNb0, hM0⟩ := Ev.names_arg (hval 0 40 v0 rfl rfl) h0 (Ev.bk_bound hk (by simp)) (0)
  obtain ⟨a1, rfl, rfl, rfl⟩ := open_bool Tryz.underlying4 (hval 1 4 v1 rfl rfl) h1
  obtain ⟨V2, va2, I2, hE2, hB2, hM2⟩ := Ev.vec_arg (hval 2 22 v2 rfl rfl) h2 (Ev.bk_bound hk (by simp)) (0 + I0.length)
  clear hA0 hval0
  obtain ⟨hr0, hc0⟩ := hM0 (Ev.injIn (I0 ++ I2)) (fun i x h => by have := Ev.inj_at (A := []) (I := I0) (B := I2) i x h; simpa [List.append_assoc, Nat.add_assoc] using this)
  obtain ⟨hr2, hc2⟩ := hM2 (Ev.injIn (I0 ++ I2)) (fun i x h => by have := Ev.inj_at (A := I0) (I := I2) (B := []) i x h; simpa [List.append_assoc, Nat.add_assoc] using this)
  have hc : ∀ x ∈ I0 ++ I2, Ev.CellsOK W (Ev.injIn (I0 ++ I2)) x := fun x => fun hx => (List.mem_append.1 hx).elim (hc0 x) (hc2 x)
  have hS := Ev.hsIn_seen (I := I0 ++ I2) fun x hx => (hc x hx).1
  have hro := Ev.hsIn_ro (I0 ++ I2) 0
  have hOK := Ev.in_ok hc
  have hN0 := hS0.mono (hs' := Ev.hsIn 0 (I0 ++ I2)) (fun b o h => by rw [Ev.hsIn_app]; exact h.appl)
  have hV2 := hE2.mono (hs' := Ev.hsIn 0 (I0 ++ I2)) (fun b o h => by rw [Ev.hsIn_app]; exact h.app)
  refine (Ev.in_call Ev.tab_is (Ev.law_sums _ hro V2 va2 hV2 hB2 N0 vn0 hN0 hNb0 a1) (u := .bool true) rfl hS (.cons hr0 (.cons (.bool _) (.cons hr2 (.nil _)))) W hOK).mono fun e W' ⟨he, hg⟩ => ?_
  subst he
  refine ⟨_, rfl, _, _, _, [], (p0 ++ ([] ++ (p2 ++ []))), [], hW', ?_, ?_, ?_, hg.frame _, fun h => by cases h⟩
  · exact (trodAll_cons_mk (shut_bool Tryz.underlying4 _) trodAll_mk0)
  · exact Ev.trodAll_below laidOut hg (by kernel_rfl) hA1 (fun x hx => by have := hW'.lt x (by simpa using hx); simpa using this)
  · rfl
set_option maxRecDepth 100000 in
theorem lifted (os : Os) (started : os.Started) (H : Type) (enc : TypeId × Value → H) (F : Stop.Interp) :
    ReturnsInHanded {} Tryz.checked os 6 .any ((Rows.OpenSpec.upto Rows.vectorSumsSpec).pre6 enc Tryz.prog Tryz.f6 Rows.vectorSumsUptoRow.domain false) (((Rows.OpenSpec.upto Rows.vectorSumsSpec).at F).post enc Tryz.prog Tryz.f6 false true false false) := by
  refine returnsInHanded_of_cond (C := Tryz.checked) (s := Rows.OpenSpec.upto Rows.vectorSumsSpec) (k := Rows.uptoSmall) rfl own started (by kernel_rfl) Tryz.func6
    (OpenSpec.witness (enc := enc) (C := Tryz.checked) (s := Rows.OpenSpec.upto Rows.vectorSumsSpec) (k := Rows.uptoSmall) rfl false ⟨#[], #[.slice none 0 0, .bool false, .slice none 0 0], []⟩ 8 (by kernel_rfl) (by kernel_rfl) (by kernel_rfl)
      (x := ([.nil, .lit (.bool false), .nil], [], [])) (by kernel_rfl) rfl (by kernel_rfl)) ?_
  intro W base args ds gs before hval hW _ hk _
  exact contract H enc W base args ds gs before hval hW hk
theorem over : Rows.vectorSumsUptoRow.holds Tryz.pinned (Rows.OpenSpec.upto Rows.vectorSumsSpec) :=
  OpenClaim.holds_of_cond 6 Tryz.f6 rfl rfl rfl rfl rfl rfl rfl ⟨rfl, rfl, rfl, rfl, rfl⟩ rfl rfl rfl rfl rfl (by kernel_rfl) Tryz.func6 (by kernel_rfl)
    (of_decide_eq_true (by kernel_rfl)) (by unfold Func.isWrapper; first | (rw [if_pos (by decide +kernel)]; kernel_rfl) | (rw [if_neg (by decide +kernel)]; exact ⟨rfl, rfl⟩))
    (fun os started H enc _ F => lifted os started H enc F)
theorem proved : Rows.VectorSumsUptoSaid := over
#print axioms proved
end Go.Proofs.YtmblgaehfjheeaaGreat.vectorSums
