/- PlanNumbers: where what comes in is of bulk at most 1048576: the law returns true, and the argument reads behind the call as it read before; conditions: the bulk, and the row's own (the listed tables hold what the program's text lays). -/
import Derived.Test.YtndhhgbpcmfeiaaGreatDoorNV1
import Derived.Test.YtndhhgbpcmfeiaaGreatDoorNInN
import Derived.Test.YtndhhgbpcmfeiaaGreatDoorTie
import Derived.Test.YtndhhgbpcmfeiaaGreatDoorCards
import Derived.WalkKit
import Derived.ProofKit
import Derived.LaidMore
import Derived.Lay
import Derived.SevenTiedAt
import Derived.Stop.Joined
import Derived.Stop.LaidErr
import Derived.Lib.LaidTab
namespace Go.Proofs.YtndhhgbpcmfeiaaGreatDoor.planNumbers
open Go.ChangeShapes Go.WideShapes Go.ChangeAt Go.RowKit Go.ChangeMaps Go.Proofs.YtndhhgbpcmfeiaaGreatDoor
theorem own : ownKnob Tryz.prog.godebug = none := by kernel_rfl
theorem laidOut : laidOutB Tryz.prog = true := by kernel_rfl
def laidL : List (String × DataW Unit) := [("math/bits.deBruijn32tab", Rows.laid_math_bits_deBruijn32tab), ("math/bits.deBruijn64tab", Rows.laid_math_bits_deBruijn64tab), ("internal/strconv.uint64pow10", Rows.laid_internal_strconv_uint64pow10), ("unicode/utf8.acceptRanges", Rows.laid_unicode_utf8_acceptRanges), ("unicode/utf8.first", Rows.laid_unicode_utf8_first)]
theorem tPow : (Tryz.prog.globals[0]?).map (·.type) = some 201 := by kernel_rfl
theorem gPow : Tryz.prog.globalNamed "internal/strconv.uint64pow10" = some 0 := by kernel_rfl
theorem cT20 : Tryz.prog.cellsOf 201 = 20 := by kernel_rfl
theorem cE : Tryz.prog.cellsOf 157 = 1 := by kernel_rfl
theorem tab_of_laid {W : World} (h : laidMetH Tryz.prog laidL W) : Lib.TabIs Tryz.prog W "internal/strconv.uint64pow10" .u64 Lib.pow10Tab := by
 have hp : laidMet Tryz.prog laidL W := by
  rw [MakeChecks.laidMetH_plain _ _ _ (by kernel_rfl)] at h; exact h
 have h2 : laidMet Tryz.prog (("internal/strconv.uint64pow10", Lib.tabData .u64 Lib.pow10Tab) :: _) W := hp.tail.tail
 exact Lib.tabIs_of_head gPow tPow Tryz.underlying201 Tryz.underlying157 cE cT20 h2
set_option maxRecDepth 100000 in
theorem contract (H : Type) (enc : TypeId × Value -> H) (W : World) (base : Nat) (args : Array Value) (ds gs : List (DataW H)) (before : List MemPlace)
  (hval0 : ∀ (j : Nat) t v, Tryz.f6.params[j]? = some t -> args[j]? = some v -> Value.okWide Tryz.prog W .any base t v)
  (hW : DataW.Whole enc Tryz.prog Tryz.f6.params.toList Rows.planNumbersSpec.vars false W args.toList ds gs before) (hk : Rows.uptoSmall H (ds ++ gs) = true) (hT : Lib.TabIs Tryz.prog W "internal/strconv.uint64pow10" .u64 Lib.pow10Tab) :
  Calls Tryz.prog 6 args W fun e W' => ∃ v, e = .returned v /\ Rows.planNumbersSpec.post enc Tryz.prog Tryz.f6 false true false false W args v W' := by
 have hval := hval0
 have hW' := hW
 obtain ⟨p, q, hA0, hV, rfl, hfz, hnd⟩ := hW
 have hA : DataW.TrodAll enc Tryz.prog W 0 (fun _ => true) true Tryz.f6.params.toList args.toList ds p := hA0
 rw [Tryz.params6] at hA hval
 have hA1 := hA
 obtain ⟨v0, vs0, d0, ds0, p0, q0, hargs, rfl, rfl, h0, r0⟩ := trodAll_cons hA
 obtain ⟨v1, vs1, d1, ds1, p1, q1, rfl, rfl, rfl, h1, r1⟩ := trodAll_cons r0
 obtain ⟨rfl, rfl, rfl⟩ := trodAll_nil r1
 obtain rfl : args = #[v0, v1] := by cases args; simp_all
 obtain ⟨rfl, rfl⟩ := trodVars_none hV
 have ci : Tryz.prog.cellsOf 3 = 1 := by kernel_rfl
 have cb : Tryz.prog.cellsOf 4 = 1 := by kernel_rfl
 obtain ⟨A0, va0, I0, hA0', hAl0, hM0⟩ := Ev.row_arg (f := fun x : Int => Ev.AV.int .i64 x) Tryz.underlying40 ci (Ev.int_el Tryz.underlying3) (hval 0 40 v0 rfl rfl) h0 (Ev.bk_bound hk (by simp)) 0
 obtain ⟨B1, vb1, I1, hB1, hBl1, hM1⟩ := Ev.row_arg (f := fun x : Bool => Ev.AV.bool x) Tryz.underlying52 cb (Ev.bool_el Tryz.underlying4) (hval 1 52 v1 rfl rfl) h1 (Ev.bk_bound hk (by simp)) I0.length
 clear hA0 hval0
 obtain ⟨hr0, hc0⟩ := hM0 (Ev.injIn (I0 ++ I1)) (fun i x h => Ev.two_left h)
 obtain ⟨hr1, hc1⟩ := hM1 (Ev.injIn (I0 ++ I1)) (fun i x h => Ev.two_right h)
 have hcc : ∀ x ∈ I0 ++ I1, Ev.CellsOK W (Ev.injIn (I0 ++ I1)) x := fun x hx => (List.mem_append.1 hx).elim (hc0 x) (hc1 x)
 have hS := Ev.hsIn_seen (I := I0 ++ I1) fun x hx => (hcc x hx).1
 have hro := Ev.hsIn_ro (I0 ++ I1) 0
 have hOK := Ev.in_ok hcc
 refine (Ev.in_callT (Ev.law_numbers _ hro A0 B1 va0 vb1 (hA0'.mono fun b o q => Ev.mem_left q) (hB1.mono fun b o q => Ev.mem_right q) hAl0 hBl1) (u := .bool true) rfl hS (.cons hr0 (.cons hr1 (.nil _))) W hOK hT).mono fun e W' ⟨he, hg⟩ => ?_
 subst he
 refine ⟨_, rfl, _, _, _, [], (p0 ++ (p1 ++ [])), [], hW', ?_, ?_, ?_, hg.frame _, fun h => by cases h⟩
 ·exact (trodAll_cons_mk (shut_bool Tryz.underlying4 _) trodAll_mk0)
 ·exact Ev.trodAll_below laidOut hg (by kernel_rfl) hA1 (fun x hx => by have := hW'.lt x (by simpa using hx); simpa using this)
 ·rfl
theorem returns_cond_laidX {H : Type} {enc : TypeId × Value -> H} {a : Assume} {C : Checked} {os : Os} {f : FuncId} {fn : Func} {s : OpenSpec} {k : (H : Type) -> List (DataW H) -> Bool} (hk : s.cond = some k) {F : Stop.Interp} {conds : List PathCond} {apart fresh handsOn again : Bool} {X : World -> Array Value -> Prop}
  (own : ownKnob C.prog.godebug = none) (started : os.Started) (noInit : C.prog.inits.idxOf? f = none) (hfn : C.prog.funcs[f]? = some fn)
  (witness : ∃ (w : World) (tape : Tape) (i : Input), w.os = os /\ (w.forCall tape i).Shaped C.prog /\ i.vars = [] /\ Input.okWide C.prog (w.forCall tape i) .any w.heap.size f i /\
   ((s.pre enc C.prog fn conds apart (w.forCall tape i).memory i.args /\ X (w.forCall tape i).memory i.args) /\ sizedMet enc C.prog fn s apart (w.forCall tape i).memory i.args) /\ a.holds C.prog (lone (Frame.enter C.prog f i.args .normal) [] (w.forCall tape i)))
  (hX : ∀ (w w' : World) (args : Array Value), w'.heap = w.heap -> X w args -> X w' args) (contract : ∀ (W : World) (base : Nat) (args : Array Value) (ds gs : List (DataW H)) (before : List MemPlace),
   (∀ (j : Nat) t v, fn.params[j]? = some t -> args[j]? = some v -> Value.okWide C.prog W .any base t v) ->
   DataW.Whole enc C.prog fn.params.toList s.vars apart W args.toList ds gs before -> k H (ds ++ gs) = true -> X W args ->
   Calls C.prog f args W fun e W' => ∃ v, e = .returned v /\ (s.at F).post enc C.prog fn apart fresh handsOn again W args v W') :
  ReturnsInHanded a C os f .any (fun w args => (s.pre enc C.prog fn conds apart w args /\ X w args) /\ sizedMet enc C.prog fn s apart w args) ((s.at F).post enc C.prog fn apart fresh handsOn again) := by
 refine returnsInHanded_of_calls own started noInit witness ?_
 intro w tape i _ _ _ hok hpre hholds
 obtain ⟨_, _, _, fn', hfn', _, _, _, _, hval⟩ := hok
 have e : fn' = fn := Option.some.inj (hfn'.symm.trans hfn)
 subst e
 obtain ⟨ds, gs, before, hw, hc, hkk⟩ := (OpenSpec.pre_some hk conds apart _ _).1 hpre.1.1
 have hw' := DataW.Whole.of_heap (w' := w.forCall tape i) (by rfl) hw
 refine (contract (w.forCall tape i) w.heap.size i.args ds gs before hval hw' hkk (hX _ _ _ (by rfl) hpre.1.2)).mono fun e W' ⟨v, he, hp⟩ => ?_
 subst he
 exact ChangeSpec.post_blind hp
set_option maxRecDepth 100000 in
theorem lifted (os : Os) (started : os.Started) (H : Type) (enc : TypeId × Value -> H) (F : Stop.Interp) :
  ReturnsInHanded {} Tryz.checked os 6 .any (fun w args => ((Rows.OpenSpec.upto Rows.planNumbersSpec).pre enc Tryz.prog Tryz.f6 Rows.planNumbersUptoRow.domain false w args /\ laidMetH Tryz.prog laidL w) /\ sizedMet enc Tryz.prog Tryz.f6 (Rows.OpenSpec.upto Rows.planNumbersSpec) false w args) (((Rows.OpenSpec.upto Rows.planNumbersSpec).at F).post enc Tryz.prog Tryz.f6 false true false false) := by
 refine returns_cond_laidX (hX := fun _ _ _ hh h => h.of_heap hh.symm) (C := Tryz.checked) (s := Rows.OpenSpec.upto Rows.planNumbersSpec) (k := Rows.uptoSmall) (X := fun w _ => laidMetH Tryz.prog laidL w) rfl own started (by kernel_rfl) Tryz.func6
  (Ev.witness_cond_laid (enc := enc) (C := Tryz.checked) (os := os) (s := Rows.OpenSpec.upto Rows.planNumbersSpec) (k := Rows.uptoSmall) (X := fun w _ => laidMetH Tryz.prog laidL w) rfl false (World.laidAll Tryz.prog os laidL) #[.slice none 0 0, .slice none 0 0] 8 (World.laidAll_os _ _ _)
   (World.shaped_of_ZipB (by kernel_rfl) (by kernel_rfl)) (by kernel_rfl) (x := ([.nil, .nil], [], [])) (by kernel_rfl) rfl (by kernel_rfl) (by kernel_rfl)
   (by rw [MakeChecks.laidMetH_plain _ _ _ (by kernel_rfl)]; exact laidMet_laidAll _ (by kernel_rfl) (by kernel_rfl))) ?_
 intro W base args ds gs before hval hW hk hL
 exact contract H enc W base args ds gs before hval hW hk (tab_of_laid hL)
theorem over : Rows.planNumbersUptoRow.holds Tryz.pinned (Rows.OpenSpec.upto Rows.planNumbersSpec) :=
 OpenClaim.holds_of_cond 6 Tryz.f6 rfl rfl rfl rfl rfl rfl rfl ⟨rfl, rfl, rfl, rfl, rfl⟩ rfl rfl rfl rfl rfl (by kernel_rfl) Tryz.func6 (by kernel_rfl)
  (of_decide_eq_true (by kernel_rfl)) (by unfold Func.isWrapper; first | (rw [if_pos (by decide +kernel)]; kernel_rfl) | (rw [if_neg (by decide +kernel)]; exact ⟨rfl, rfl⟩))
  (fun os started H enc _ F => lifted os started H enc F)
theorem card : Rows.PlanNumbersUptoCardSaid :=
 Claim7.holds_tied_plain_at .later [] [.data, .data, .data, .data, .pinned] true (true, "685e878da94f16f50216ecab913f82d428f41a1e26df9fbbe34fb688b31ad50b") false
  over (fun _ h => by cases h) (by kernel_rfl) (fun _ h => by cases h) planNumbersUpto_row_tie rfl ⟨rfl, rfl⟩ (by kernel_rfl) rfl
  (fun f fn hf hfn => by
   obtain rfl : f = 6 := Option.some.inj ((show Tryz.prog.funcNamed "gauge/gaugelaw20.PlanNumbers" = some 6 by kernel_rfl).symm.trans hf) |>.symm
   obtain rfl : fn = Tryz.f6 := (Option.some.inj (Tryz.func6.symm.trans hfn)).symm
   exact ⟨by kernel_rfl, fun j t ht => by
    rw [Tryz.params6] at ht
    have hm : t ∈ [40, 52] := by simpa using Array.mem_of_getElem? ht
    have hall : ([40, 52].all fun u => !Tryz.prog.wantsStandIn u) = true := by kernel_rfl
    exact (show Tryz.prog.wantsStandIn t = false by simpa using List.all_eq_true.1 hall t hm)⟩)
  (by kernel_rfl)
#print axioms card
end Go.Proofs.YtndhhgbpcmfeiaaGreatDoor.planNumbers
