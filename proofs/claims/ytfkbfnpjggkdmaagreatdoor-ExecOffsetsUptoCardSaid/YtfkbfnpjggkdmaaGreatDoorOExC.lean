/- An evaluator of closed calls in which errors are thrown and caught, part 3: code and calls. -/
import Derived.Test.YtfkbfnpjggkdmaaGreatDoorOExB
namespace Go.Proofs.YtfkbfnpjggkdmaaGreatDoor.Ev
open Go.RowKit
variable {J : Ctx}
section draw
variable {P : Program} {tb : Tab} {tr : Trb} {c : XCall} {n : Nat} {ops : Array Oper}
theorem evLastX_ok (H : TabOK P tb J) (hc : XOK P J tr c) (hmo : P.follows .mixedOrders = true) {M : Inj} {N : Nat → Prop} {w0 : Base J} {tm tm' : T AV} {h h' : AHeap} {a : Act} {w : World} {id : Nat} {l : List AV}
  {Q : Exit → Act → World → Prop} (ht : TRel M tm a) (hs : a.tmps.size = n) (hh : HRel M N w0 h w) (he : evLastX tb c n ops.toList tm h = some (l, tm', h'))
  (hQ : ∀ M' a' w' chain, M.le M' → TRel M' tm' a' → a'.tmps.size = n → a'.defers = a.defers → HRel M' N w0 h' w' → tr l chain w' → Q (.panic chain) a' w') : (Code.region id ops true).wp P Q a w := by
 unfold evLastX at he
 split at he
 rotate_left
 ·cases he
 rename_i o hlast hD
 have hS := static_of hD
 split at he
 rotate_left
 ·cases he
 rename_i es ms tm1 h1 htr
 split at he
 rotate_left
 ·cases he
 rename_i hchk
 split at he
 rotate_left
 ·cases he
 rename_i l1 h2 hnow
 simp only [Option.some.injEq, Prod.mk.injEq] at he
 obtain ⟨rfl, rfl, rfl⟩ := he
 obtain ⟨hv, hw⟩ := callNow_some hnow
 rw [Bool.and_eq_true] at hchk
 obtain ⟨hall, hbits⟩ := hchk
 simp only [List.all_eq_true] at hall hbits
 have hne : ops.toList ≠ [] := by intro e; rw [e] at hlast; cases hlast
 obtain ⟨z, hzs⟩ : ∃ z, ops.size = z + 1 := ⟨ops.size - 1, by
  have : 0 < ops.toList.length := List.length_pos_iff.2 hne
  have e : ops.toList.length = ops.size := by simp
  omega⟩
 have hlen : ops.toList.length = z + 1 := by simp [hzs]
 have hdl : ops.toList.dropLast.length = z := by rw [List.length_dropLast, hlen]; rfl
 have hzo : ops[z]? = some o := by
  rw [List.getLast?_eq_getElem?, hlen] at hlast
  simpa using hlast
 have hdrop : ∀ j x, j < z → ops[j]? = some x → ops.toList.dropLast[j]? = some x := by
  intro j x hj hx
  rw [List.getElem?_dropLast, if_pos (by rw [hlen]; omega)]
  simpa using hx
 obtain ⟨S, Hp, V, K, R⟩ := trace_rec htr
 have step : ∀ j x, j < z → ops[j]? = some x → ev1 tb (retOf c) ops.toList (S j) (Hp j) x = some (V j, Hp (j + 1), K j) ∧ putDst (S j) n x.dst (V j) = some (S (j + 1)) := by
  intro j x hj hx
  have := R.step j x (hdrop j x hj hx)
  simpa using this
 have hloud : ∀ i, i ∈ (es.filterMap fun e => if e.kind = 2 then some e.i else none) ↔ (i < z ∧ K i = 2) := by
  intro i
  rw [List.mem_filterMap]
  constructor
  ·rintro ⟨e, he, hi⟩
   obtain ⟨k, x, hk, rfl⟩ := R.of e he
   have hlt : k < z := by rw [← hdl]; exact (List.getElem?_eq_some_iff.1 hk).1
   simp only [Nat.zero_add] at hi
   split at hi
   ·rename_i h2
    cases hi
    exact ⟨hlt, h2⟩
   ·cases hi
  ·rintro ⟨hi, h2⟩
   have := R.mem i _ (List.getElem?_eq_getElem (by rw [hdl]; exact hi))
   refine ⟨_, this, ?_⟩
   simp [h2]
 have hlook : LookedB z tb (retOf c) n ops S Hp V K := by
  refine ⟨step, fun j hj h2 i hi h2i => ?_, fun j x hj hx h1 m hm hok => ?_⟩
  ·have hmem := R.mem j _ (List.getElem?_eq_getElem (by rw [hdl]; exact hj))
   have := hall _ hmem
   simp only [Nat.zero_add, entOk, h2, List.all_eq_true, Bool.or_eq_true, Bool.not_eq_true'] at this
   rcases this i ((hloud i).2 ⟨by omega, h2i⟩) with h | h
   ·have : Nat.blt i j = true := by rw [Nat.blt_eq]; exact hi
    rw [this] at h; cases h
   ·exact h
  ·have hmem := R.mem j x (hdrop j x hj hx)
   have := hall _ hmem
   simp only [Nat.zero_add, entOk, h1, List.all_eq_true, Bool.or_eq_true, Bool.not_eq_true'] at this
   have hmm : (m, Hp m) ∈ (0, h) :: ms := by
    rcases hm with rfl | ⟨i, hi, h2, rfl⟩
    ·rw [R.h0]; exact List.mem_cons_self
    ·refine List.mem_cons_of_mem _ ?_
     have := R.mark i (by rw [hdl]; exact hi) (by simpa using h2)
     simpa using this
   rcases this (m, Hp m) hmm with h | h
   ·exfalso
    have hT : (es.filterMap fun e => if e.kind = 2 then some e.i else none).all (fun i => (!(((aheadOf ops.toList []).getD j 0).testBit i) || Nat.blt i m) && (!(((aheadOf ops.toList []).getD i 0).testBit j) || Nat.ble m i)) = true := by
     rw [List.all_eq_true]
     intro i hi
     obtain ⟨hlt, h2⟩ := (hloud i).1 hi
     obtain ⟨k1, k2⟩ := hok i hlt h2
     simp only [Bool.and_eq_true, Bool.or_eq_true, Bool.not_eq_true', Nat.blt_eq, Nat.ble_eq]
     constructor
     ·cases hb : ((aheadOf ops.toList []).getD j 0).testBit i
      ·exact .inl rfl
      ·exact .inr (k1 hb)
     ·cases hb : ((aheadOf ops.toList []).getD i 0).testBit j
      ·exact .inl rfl
      ·exact .inr (k2 hb)
    rw [hT] at h
    cases h
   ·split at h
    ·rename_i v hv
     rw [hv, beq_ok _ _ h]
    ·cases h
 have e1 := R.s1
 have e2 := R.h1
 rw [hdl, Nat.zero_add] at e1 e2
 have hzb : ∀ i, i < z → bit ops z i := by
  intro i hi
  have := hbits i (by rw [hlen]; exact List.mem_range.2 (by omega))
  rw [hlen] at this
  simpa [bit] using this
 refine wp_region_any hmo ?_
 rw [World.drew_eq]
 refine wpAny_boom H hc.ret hS hlook hzs hzb (M := M) (N := N) (w0 := w0) (d0 := a.defers) (fun o' M' a' w' next ho' hM ht' hs' hd' hh' => ?_) ops.size _ a w.drew ?_ ?_
 ·rw [hzo] at ho'
  cases ho'
  rw [e1] at ht'
  rw [e2] at hh'
  unfold wpOp
  simp only [hzo]
  rw [wanted_ok ht' hw, if_pos rfl]
  refine .inl ?_
  exact val_boom hc ht' hh' hv fun M2 chain w2 g1 g2 g3 => hQ M2 a' w2 chain (Inj.le_trans hM g1) (ht'.mono g1) hs' hd' g2 g3
 ·unfold unl
  rw [List.countP_eq_length.2]
  ·simp
  ·intro i hi
   have := List.mem_range.1 hi
   simp [this]
 ·have hnl : ∀ i, ¬ Lst (Array.replicate ops.size false) i := by
   intro i h
   unfold Lst at h
   by_cases hi : i < ops.size
   ·simp [hi] at h
   ·simp [hi] at h
  refine ⟨by simp, hnl z, fun j x _ hl => absurd hl (hnl j), hs, rfl, M, Inj.le_refl M, fun t m hm hwr v hv => ?_, 0, .inl rfl, Nat.zero_le _, fun i hi _ => ⟨fun h => absurd h (hnl i), fun h => by omega⟩, ?_⟩
  ·have := slot_sameB hlook (by omega) t m 0 (by omega) (fun i x _ hi ho hd => by
    have := (hwr i x ho hd).2 (by omega)
    exact hnl i this)
   rw [Nat.zero_add, R.s0] at this
   rw [this] at hv
   exact ht t v hv
  ·rw [R.h0]
   exact hh.drew
end draw
section runs
variable {P : Program} {tb : Tab} {tr : Trb} {cfg : XCfg}
def After (cfg : XCfg) (tr : Trb) (n : Nat) (N : Nat → Prop) (w0 : Base J) (Q : Exit → Act → World → Prop) (M : Inj) : RRes → Prop
 | .go ex tm h d => ∀ M' a w, M.le M' → TRel M' tm a → a.tmps.size = n → DRel cfg M' d a.defers → HRel M' N w0 h w → Q (exOf ex) a w
 | .boom l tm h d => ∀ M' a w chain, M.le M' → TRel M' tm a → a.tmps.size = n → DRel cfg M' d a.defers → HRel M' N w0 h w → tr l chain w → Q (.panic chain) a w
theorem After.mono {n : Nat} {N : Nat → Prop} {w0 : Base J} {Q : Exit → Act → World → Prop} {M M1 : Inj} (hM : M.le M1) : ∀ {r : RRes}, After cfg tr n N w0 Q M r → After cfg tr n N w0 Q M1 r
 | .go .., h => fun M' a w g => h M' a w (Inj.le_trans hM g)
 | .boom .., h => fun M' a w ch g => h M' a w ch (Inj.le_trans hM g)
theorem evOpsX_ok (H : TabOK P tb J) {c : XCall} (hc : XOK P J tr c) {n : Nat} {N : Nat → Prop} {w0 : Base J} {ops : Array Oper} {Q : Exit → Act → World → Prop} {r : RRes} : ∀ {rest : List Oper} {i : Nat} {M : Inj} {tm : T AV} {h : AHeap} {d : Option (Nat × List AV)} {a : Act} {w : World},
  (∀ k o, rest[k]? = some o → ops[i + k]? = some o) → TRel M tm a → a.tmps.size = n → DRel cfg M d a.defers → HRel M N w0 h w → evOpsX cfg tb c n ops.toList rest tm h d = some r →
  After cfg tr n N w0 Q M r → wpOps P ops Q (List.range' i rest.length) a w
 | [], i, M, tm, h, d, a, w, hr, ht, hs, hd, hh, he, hn => by
  simp only [evOpsX, Option.some.injEq] at he
  subst he
  exact hn M a w (Inj.le_refl M) ht hs hd hh
 | o :: rest, i, M, tm, h, d, a, w, hr, ht, hs, hd, hh, he, hn => by
  have ho : ops[i]? = some o := by simpa using hr 0 o rfl
  have hr' : ∀ k o, rest[k]? = some o → ops[i + 1 + k]? = some o := fun k o hk => by
   have := hr (k + 1) o (by simpa using hk)
   rw [show i + 1 + k = i + (k + 1) by omega]
   exact this
  unfold evOpsX at he
  simp only [List.length_cons, List.range'_succ]
  rw [wpOps_cons]
  split at he
  ·-- a call that gives something back
   rename_i v h1 hnow
   obtain ⟨hv, hw⟩ := callNow_some hnow
   split at he
   ·rename_i tm1 hp
    unfold wpOp
    simp only [ho]
    rw [wanted_ok ht hw, if_pos rfl]
    refine .inl (val_ret hc ht hh hv fun M' u w' hM hh' hvu => ?_)
    exact evOpsX_ok H hc hr' (ht.put hM hs hp hvu) (by rw [put_size]; exact hs) (by rw [put_def]; exact hd.mono hM) hh' he (hn.mono hM)
   ·cases he
  ·-- a call that throws
   rename_i l h1 hnow
   obtain ⟨hv, hw⟩ := callNow_some hnow
   cases he
   unfold wpOp
   simp only [ho]
   rw [wanted_ok ht hw, if_pos rfl]
   exact .inl (val_boom hc ht hh hv fun M' chain w' hM hh' htr => hn M' a w' chain hM (ht.mono hM) hs (hd.mono hM) hh' htr)
  ·cases he
  ·split at he
   ·-- a deferred function
    rename_i dd hdd
    obtain ⟨g, caps⟩ := dd
    have h0 : a.defers = [] := hd
    have hg : o.guard = none := (defer_ok (P := P) (w := w) (next := fun _ _ => True) (Q := Q) ht hdd h0 (fun _ _ _ => trivial)).1
    unfold wpOp
    simp only [ho]
    have hw : wantedA ops.toList tm o = some true := by unfold wantedA; rw [hg]
    rw [wanted_ok ht hw, if_pos rfl]
    refine .inl (defer_ok ht hdd h0 fun a' hta hda => ?_).2
    refine evOpsX_ok H hc hr' ?_ (by rw [hta]; exact hs) hda hh he hn
    intro t v hv
    rw [hta]
    exact ht t v hv
   ·cases he
   ·split at he
    ·rename_i v h1 k he1
     split at he
     ·rename_i tm1 hp
      refine ev1_ok H hc.ret ht hh ho he1 (fun M' u w' hM hh' hv => ?_)
      exact evOpsX_ok H hc hr' (ht.put hM hs hp hv) (by rw [put_size]; exact hs) (by rw [put_def]; exact hd.mono hM) hh' he (hn.mono hM)
     ·cases he
    ·cases he
structure CfgOK (P : Program) (J : Ctx) (tr : Trb) (cfg : XCfg) : Prop where
 thr : ∀ f args l, cfg.thr f args = some l → ∀ (M : Inj) (N : Nat → Prop) (w0 : Base J) (h : AHeap) (w : World) (vs : Array Value), LRel M args vs.toList → HRel M N w0 h w →
  HasFn P f ∧ Calls P f vs w fun e w' => ∃ M' chain, e = .panicked chain ∧ M.le M' ∧ HRel M' N w0 h w' ∧ tr l chain w'
 idle : ∀ g caps, cfg.isR g caps = true → ∀ (M : Inj) (N : Nat → Prop) (w0 : Base J) (h : AHeap) (w : World) (cs : Array Value), LRel M caps cs.toList → HRel M N w0 h w →
  HasFn P g ∧ CallsD P g cs .returning w fun e u w' => (∃ v, e = .returned v) ∧ u = .returning ∧ ∃ M', M.le M' ∧ HRel M' N w0 h w'
 caught : ∀ g caps l h h', cfg.isR g caps = true → cfg.rcv g caps l h = some h' → ∀ (M : Inj) (N : Nat → Prop) (w0 : Base J) (w : World) (cs : Array Value) (chain : List PanicEntry), LRel M caps cs.toList → HRel M N w0 h w → tr l chain w →
  HasFn P g ∧ CallsD P g cs (.panicking chain) w fun e u w' => (∃ v, e = .returned v) ∧ settle u = .returning ∧ ∃ M', M.le M' ∧ HRel M' N w0 h' w'
def SoundX (P : Program) (J : Ctx) (tr : Trb) (cfg : XCfg) (tb : Tab) (k : Nat) : Prop :=
 ∀ (n : Nat) (cd : Code) (tm : T AV) (h : AHeap) (d : Option (Nat × List AV)) (r : RRes) (M : Inj) (N : Nat → Prop) (w0 : Base J) (a : Act) (w : World) (Q : Exit → Act → World → Prop),
  runX cfg tb k n cd tm h d = some r → TRel M tm a → a.tmps.size = n → DRel cfg M d a.defers → HRel M N w0 h w → After cfg tr n N w0 Q M r → cd.wp P Q a w
theorem enter_rel {M : Inj} {args : List AV} {vs : Array Value} {k : Nat} (hl : LRel M args vs.toList) : TRel M (argTmps 0 args .leaf) { tmps := vs ++ Array.replicate (k - vs.size) undef, defers := [] } := by
 intro t x hx
 rw [args_get] at hx
 split at hx
 ·rename_i hc
  simp only [Nat.sub_zero] at hx
  obtain ⟨u, hu, hr⟩ := hl.get hx
  have hu' : vs[t]? = some u := by simpa using hu
  have hlt : t < vs.size := (Array.getElem?_eq_some_iff.1 hu').1
  have : (vs ++ Array.replicate (k - vs.size) undef)[t]? = some u := by
   rw [Array.getElem?_append_left hlt]; exact hu'
  simp only [Array.getD_eq_getD_getElem?, this, Option.getD_some]
  exact hr
 ·rw [T.get_leaf] at hx; cases hx
theorem results_one (H : TabOK P tb J) {fn : Func} {M : Inj} {N : Nat → Prop} {w0 : Base J} {tm : T AV} {h : AHeap} {a : Act} {w : World} {l : List AV} (ht : TRel M tm a) (hh : HRel M N w0 h w) (hres : resultsA tb tm h fn.results.toList = some l) :
  ∃ u, (results fn a.tmps).run P w = .ok u w ∧ VRel M (oneOf l) u := by
 obtain ⟨us, q1, q2⟩ := results_ok H ht hh hres
 have e1 : (results fn a.tmps).run P w = .ok (if h : us.toArray.size = 1 then us.toArray[0] else .tuple us.toArray) w := by
  unfold results
  simp only [Sem.run_bind]
  rw [Array.mapM_eq_mapM_toList]
  simp only [Sem.run_map]
  refine (congrArg (fun q => Result.andThen (Result.andThen q _) _) q1).trans ?_
  rfl
 refine ⟨_, e1, ?_⟩
 match l, us, q2 with
 | [], [], _ => exact .tuple [] _ rfl (fun i v u p => by simp at p)
 | [x], [u], q2 => simpa [oneOf] using q2.2 0 x u rfl rfl
 | x :: y :: l, u :: v :: us, q2 =>
  have : ¬ ((u :: v :: us).toArray.size = 1) := by simp
  rw [dif_neg this]
  exact q2.tuple
 | [], _ :: _, q2 => have := q2.1; simp at this
 | [_], [], q2 => have := q2.1; simp at this
 | [_], _ :: _ :: _, q2 => have := q2.1; simp at this
 | _ :: _ :: _, [], q2 => have := q2.1; simp at this
 | _ :: _ :: _, [_], q2 => have := q2.1; simp at this
theorem endX_ok {rs : List ResultVar} {tm : T AV} {h : AHeap} {r : CRes} (h1 : endX tb rs tm h = some r) : ∃ l, resultsA tb tm h rs = some l ∧ r = .ret (oneOf l) h := by
 unfold endX at h1
 split at h1
 ·rename_i l hl
  cases h1
  exact ⟨l, hl, rfl⟩
 ·cases h1
theorem invoke_closure {g : Nat} {cs : Array Value} (hf : HasFn P g) (w : World) : (invoke (.fn (.func g) cs) #[]).run P w = .ok (.enter g cs) w := by
 obtain ⟨fn, hf, hb, hname⟩ := hf
 have hb2 : fn.body.isNone = false := by cases hbb : fn.body <;> simp_all
 simp only [Sem.run_bind, Sem.run_pure, Result.andThen_ok, invoke, callFunc, run_program, hf, hname, Bool.false_eq_true, if_false, hb2, Array.empty_append]
def EndR (tr : Trb) (M : Inj) (N : Nat → Prop) (w0 : Base J) : CRes → Ending → World → Prop
 | .ret v h, e, w => ∃ M' u, e = .returned u ∧ M.le M' ∧ HRel M' N w0 h w ∧ VRel M' v u
 | .boom l h, e, w => ∃ M' chain, e = .panicked chain ∧ M.le M' ∧ HRel M' N w0 h w ∧ tr l chain w
theorem leaveX_ok (H : TabOK P tb J) (hcf : CfgOK P J tr cfg) {fn : Func} {n : Nat} {N : Nat → Prop} {w0 : Base J} {M : Inj} {r : RRes} {cr : CRes} (he : leaveX cfg tb fn.results.toList (some r) = some cr) :
  After cfg tr n N w0 (bodyPostD P fn (EndR tr M N w0 cr)) M r := by
 cases r with
 | go ex tm h d =>
  intro M' a w hM ht hs hd hh
  have key : ∀ {v : AV} {h1 : AHeap} (e : endX tb fn.results.toList tm h = some cr), Leaves P fn a.tmps (EndR tr M N w0 cr) a.defers .returning w := by
   intro _ _ e
   obtain ⟨l, hl, rfl⟩ := endX_ok e
   cases d with
   | none =>
    have hd : a.defers = [] := hd
    rw [hd]
    obtain ⟨u, h1, h2⟩ := results_one H ht hh hl
    exact ⟨u, h1, M', u, rfl, hM, hh, h2⟩
   | some gc =>
    obtain ⟨g, caps⟩ := gc
    obtain ⟨hg, cs, hds, hcs⟩ := hd
    rw [hds]
    obtain ⟨hf, hcalls⟩ := hcf.idle g caps hg M' N w0 h w cs hcs hh
    refine ⟨by simp, _, _, g, cs, rfl, invoke_closure hf w, ?_⟩
    refine hcalls.mono ?_
    rintro e u w' ⟨⟨v, rfl⟩, rfl, M2, hM2, hh2⟩
    obtain ⟨x, h1, h2⟩ := results_one H (ht.mono hM2) hh2 hl
    exact ⟨x, h1, M2, x, rfl, Inj.le_trans hM hM2, hh2, h2⟩
  cases ex with
  | exit i => cases he
  | normal => exact key (v := .nilp) (h1 := h) he
  | ret => exact key (v := .nilp) (h1 := h) he
 | boom l tm h d =>
  intro M' a w chain hM ht hs hd hh htr
  show Leaves P fn a.tmps (EndR tr M N w0 cr) a.defers (.panicking chain) w
  cases d with
  | none =>
   have hd : a.defers = [] := hd
   rw [hd]
   cases he
   exact ⟨M', chain, rfl, hM, hh, htr⟩
  | some gc =>
   obtain ⟨g, caps⟩ := gc
   obtain ⟨hg, cs, hds, hcs⟩ := hd
   rw [hds]
   simp only [leaveX] at he
   split at he
   rotate_left
   ·cases he
   rename_i h' hrc
   obtain ⟨l2, hl, rfl⟩ := endX_ok he
   obtain ⟨hf, hcalls⟩ := hcf.caught g caps l h h' hg hrc M' N w0 w cs chain hcs hh htr
   refine ⟨by simp, _, _, g, cs, rfl, invoke_closure hf w, ?_⟩
   refine hcalls.mono ?_
   rintro e u w' ⟨⟨v, rfl⟩, hu, M2, hM2, hh2⟩
   show Leaves P fn a.tmps _ [] (settle u) w'
   rw [hu]
   obtain ⟨x, h1, h2⟩ := results_one H (ht.mono hM2) hh2 hl
   exact ⟨x, h1, M2, x, rfl, Inj.le_trans hM hM2, hh2, h2⟩
theorem callX_of (H : TabOK P tb J) (hcf : CfgOK P J tr cfg) {k : Nat} (hs : SoundX P J tr cfg tb k) : XOK P J tr (evCallX cfg tb (runX cfg tb k)) := by
 have main : ∀ (M : Inj) (N : Nat → Prop) (w0 : Base J) (h : AHeap) (w : World) (f : Nat) (args : List AV) (vs : Array Value) (cr : CRes), LRel M args vs.toList → HRel M N w0 h w →
   evCallX cfg tb (runX cfg tb k) f args h = some cr → HasFn P f ∧ Calls P f vs w (EndR tr M N w0 cr) := by
  intro M N w0 h w f args vs cr hl hh he
  unfold evCallX at he
  split at he
  ·-- known
   rename_i v1 hor
   cases he
   obtain ⟨h1, h2⟩ := H.orc _ _ _ _ hor M N w0 vs w hh hl
   refine ⟨h1, h2.mono ?_⟩
   rintro e w' ⟨u, rfl, hu, hb⟩
   refine ⟨M, u, rfl, Inj.le_refl M, ⟨hh.base, hh.lim, hh.below.trans (Keeps.of hb hh.big), fun k hk => Nat.lt_of_lt_of_le (hh.big k hk) hb.size, fun b o hbo => ?_, hh.apart, hh.old, hh.fresh, hh.res⟩, hu⟩
   have ho := hh.live b o hbo
   exact ho.mono (Inj.le_refl M) (fun i hi => hb.block _ (ho.blk_lt hi).1)
  split at he
  ·-- it throws
   rename_i l hth
   cases he
   exact hcf.thr f args l hth M N w0 h w vs hl hh
  split at he
  ·rename_i fn hfn
   split at he
   ·rename_i cd hb hle
    have hle := Nat.ble_eq.mp hle
    have hf := H.ft _ _ hfn
    refine ⟨⟨fn, hf, by rw [hb]; rfl, H.nm _ _ hfn (by rw [hb]; rfl)⟩, ?_⟩
    have hvs : vs.size = args.length := by rw [← hl.1]; simp
    cases hr : runX cfg tb k fn.ntmps cd (argTmps 0 args .leaf) h none with
    | none => rw [hr] at he; cases he
    | some r =>
     rw [hr] at he
     exact calls_of_wp_defers hf hb (hs fn.ntmps cd _ h none r M N w0 _ w _ hr (enter_rel hl) (by simp; omega) rfl hh (leaveX_ok H hcf he))
   ·cases he
  ·cases he
 intro M N w0 h w f args vs hl hh
 exact ⟨fun v h' he => main M N w0 h w f args vs _ hl hh he, fun l h' he => main M N w0 h w f args vs _ hl hh he⟩
end runs
end Go.Proofs.YtfkbfnpjggkdmaaGreatDoor.Ev
