/- VectorGroups: where what comes in is of bulk at most 1048576: the law returns true, and each argument reads behind the call as it read before; conditions: the bulk alone. -/
import Derived.Test.YtmblgaehfjheeaaGreatRows
import Derived.Test.YtmblgaehfjheeaaGreatGLv19
import Derived.Test.YtmblgaehfjheeaaGreatGNodV
import Derived.WalkKit
import Derived.ProofKit
import Derived.OpenShut
import Derived.ShutString
import Derived.JoinedCond
namespace Go.Proofs.YtmblgaehfjheeaaGreat.vectorGroups
open Go.ChangeShapes Go.WideShapes Go.ChangeAt Go.RowKit Go.ChangeMaps Go.Proofs.YtmblgaehfjheeaaGreat
set_option linter.unusedVariables false
theorem own : ownKnob Tryz.prog.godebug = none := by kernel_rfl
theorem laidOut : laidOutB Tryz.prog = true := by kernel_rfl
set_option maxRecDepth 100000 in
theorem contract (H : Type) (enc : TypeId × Value → H) (W : World) (base : Nat) (args : Array Value) (ds gs : List (DataW H)) (before : List MemPlace)
  (hval0 : ∀ (j : Nat) t v, Tryz.f4.params[j]? = some t → args[j]? = some v → Value.okWide Tryz.prog W .any base t v)
  (hW : DataW.Whole enc Tryz.prog Tryz.f4.params.toList Rows.vectorGroupsSpec.vars false W args.toList ds gs before) (hk : Rows.uptoSmall H (ds ++ gs) = true) :
  Calls Tryz.prog 4 args W fun e W' => ∃ v, e = .returned v ∧ Rows.vectorGroupsSpec.post enc Tryz.prog Tryz.f4 false true false false W args v W' := by
 have hval := hval0
 have hW' := hW
 obtain ⟨p, q, hA0, hV, rfl, hfz, hnd⟩ := hW
 have hA : DataW.TrodAll enc Tryz.prog W 0 (fun _ => true) true Tryz.f4.params.toList args.toList ds p := hA0
 rw [Tryz.params4] at hA hval
 have hA1 := hA
 obtain ⟨v0, vs0, d0, ds0, p0, q0, hargs, rfl, rfl, h0, r0⟩ := trodAll_cons hA
 obtain ⟨v1, vs1, d1, ds1, p1, q1, rfl, rfl, rfl, h1, r1⟩ := trodAll_cons r0
 obtain ⟨v2, vs2, d2, ds2, p2, q2, rfl, rfl, rfl, h2, r2⟩ := trodAll_cons r1
 obtain ⟨v3, vs3, d3, ds3, p3, q3, rfl, rfl, rfl, h3, r3⟩ := trodAll_cons r2
 obtain ⟨v4, vs4, d4, ds4, p4, q4, rfl, rfl, rfl, h4, r4⟩ := trodAll_cons r3
 obtain ⟨rfl, rfl, rfl⟩ := trodAll_nil r4
 obtain rfl : args = #[v0, v1, v2, v3, v4] := by cases args; simp_all
 obtain ⟨rfl, rfl⟩ := trodVars_none hV
 obtain ⟨a0, rfl, rfl, rfl, w0⟩ := open_string Tryz.underlying9 (hval 0 9 v0 rfl rfl) h0
 obtain ⟨a1, rfl, rfl, rfl, w1⟩ := open_int Tryz.underlying3 (hval 1 3 v1 rfl rfl) h1
 obtain ⟨N2, vn2, I2, hS2, hNb2, hM2⟩ := Ev.names_arg (hval 2 40 v2 rfl rfl) h2 (Ev.bk_bound hk (by simp)) (0)
 obtain ⟨a3, rfl, rfl, rfl, w3⟩ := open_int Tryz.underlying3 (hval 3 3 v3 rfl rfl) h3
 obtain ⟨V4, va4, I4, hE4, hB4, hM4⟩ := Ev.vec_arg (hval 4 22 v4 rfl rfl) h4 (Ev.bk_bound hk (by simp)) (0 + I2.length)
 clear hA0 hval0
 obtain ⟨hr2, hc2⟩ := hM2 (Ev.injIn (I2 ++ I4)) (fun i x h => by have := Ev.inj_at (A := []) (I := I2) (B := I4) i x h; simpa [List.append_assoc, Nat.add_assoc] using this)
 obtain ⟨hr4, hc4⟩ := hM4 (Ev.injIn (I2 ++ I4)) (fun i x h => by have := Ev.inj_at (A := I2) (I := I4) (B := []) i x h; simpa [List.append_assoc, Nat.add_assoc] using this)
 have hc : ∀ x ∈ I2 ++ I4, Ev.CellsOK W (Ev.injIn (I2 ++ I4)) x := fun x => fun hx => (List.mem_append.1 hx).elim (hc2 x) (hc4 x)
 have hS := Ev.hsIn_seen (I := I2 ++ I4) fun x hx => (hc x hx).1
 have hro := Ev.hsIn_ro (I2 ++ I4) 0
 have hOK := Ev.in_ok hc
 have hN2 := hS2.mono (hs' := Ev.hsIn 0 (I2 ++ I4)) (fun b o h => by rw [Ev.hsIn_app]; exact h.appl)
 have hV4 := hE4.mono (hs' := Ev.hsIn 0 (I2 ++ I4)) (fun b o h => by rw [Ev.hsIn_app]; exact h.app)
 refine (Ev.in_call Ev.tab_is (Ev.law_groups _ hro V4 va4 hV4 hB4 _ (Ev.str_bytes a0) a1 a3 N2 vn2 hN2 hNb2) (u := .bool true) rfl hS (.cons Ev.str_rel (.cons (.int _ _) (.cons hr2 (.cons (.int _ _) (.cons hr4 (.nil _)))))) W hOK).mono fun e W' ⟨he, hg⟩ => ?_
 subst he
 refine ⟨_, rfl, _, _, _, [], ([] ++ ([] ++ (p2 ++ ([] ++ (p4 ++ []))))), [], hW', ?_, ?_, ?_, hg.frame _, fun h => by cases h⟩
 ·exact (trodAll_cons_mk (shut_bool Tryz.underlying4 _) trodAll_mk0)
 ·exact Ev.trodAll_below laidOut hg (by kernel_rfl) hA1 (fun x hx => by have := hW'.lt x (by simpa using hx); simpa using this)
 ·rfl
set_option maxRecDepth 100000 in
theorem lifted (os : Os) (started : os.Started) (H : Type) (enc : TypeId × Value → H) (F : Stop.Interp) :
  ReturnsInHanded {} Tryz.checked os 4 .any ((Rows.OpenSpec.upto Rows.vectorGroupsSpec).pre6 enc Tryz.prog Tryz.f4 Rows.vectorGroupsUptoRow.domain false) (((Rows.OpenSpec.upto Rows.vectorGroupsSpec).at F).post enc Tryz.prog Tryz.f4 false true false false) := by
 refine returnsInHanded_of_cond (C := Tryz.checked) (s := Rows.OpenSpec.upto Rows.vectorGroupsSpec) (k := Rows.uptoSmall) rfl own started (by kernel_rfl) Tryz.func4
  (OpenSpec.witness (enc := enc) (C := Tryz.checked) (s := Rows.OpenSpec.upto Rows.vectorGroupsSpec) (k := Rows.uptoSmall) rfl false ⟨#[], #[.string .empty, .int .i64 0, .slice none 0 0, .int .i64 0, .slice none 0 0], []⟩ 8 (by kernel_rfl) (by kernel_rfl) (by kernel_rfl)
   (x := ([.lit (.string []), .lit (.int .i64 0), .nil, .lit (.int .i64 0), .nil], [], [])) (by kernel_rfl) rfl (by kernel_rfl)) ?_
 intro W base args ds gs before hval hW _ hk _
 exact contract H enc W base args ds gs before hval hW hk
theorem over : Rows.vectorGroupsUptoRow.holds Tryz.pinned (Rows.OpenSpec.upto Rows.vectorGroupsSpec) :=
 OpenClaim.holds_of_cond 4 Tryz.f4 rfl rfl rfl rfl rfl rfl rfl ⟨rfl, rfl, rfl, rfl, rfl⟩ rfl rfl rfl rfl rfl (by kernel_rfl) Tryz.func4 (by kernel_rfl)
  (of_decide_eq_true (by kernel_rfl)) (by unfold Func.isWrapper; first | (rw [if_pos (by decide +kernel)]; kernel_rfl) | (rw [if_neg (by decide +kernel)]; exact ⟨rfl, rfl⟩))
  (fun os started H enc _ F => lifted os started H enc F)
theorem proved : Rows.VectorGroupsUptoSaid := over
#print axioms proved
end Go.Proofs.YtmblgaehfjheeaaGreat.vectorGroups
