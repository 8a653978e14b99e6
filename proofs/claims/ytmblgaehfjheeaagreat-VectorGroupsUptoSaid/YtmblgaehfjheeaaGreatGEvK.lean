/- An evaluator of closed calls, part 9: any one operation. -/
import Derived.Test.YtmblgaehfjheeaaGreatGEvW
import Derived.Orders
namespace Go.Proofs.YtmblgaehfjheeaaGreat.Ev
open Go.RowKit
variable {J : Ctx}
set_option linter.unusedVariables false
set_option linter.unusedSimpArgs false

def CallOK (P : Program) (J : Ctx) (call : Nat → List AV → AHeap → Option (AV × AHeap)) : Prop :=
 ∀ (M : Inj) (N : Nat → Prop) (w0 : Base J) (h : AHeap) (w : World) (f : Nat) (args : List AV) (vs : Array Value) (v : AV) (h' : AHeap),
  call f args h = some (v, h') → LRel M args vs.toList → HRel M N w0 h w →
  (∃ fn, P.funcs[f]? = some fn ∧ fn.body.isSome = true ∧ (fn.name == "runtime.NumGoroutine") = false) ∧
  Calls P f vs w fun e w' => ∃ M' u, e = .returned u ∧ M.le M' ∧ HRel M' N w0 h' w' ∧ VRel M' v u

section one
variable {P : Program} {tb : Tab} (H : TabOK P tb J) {M : Inj} {N : Nat → Prop} {w0 : Base J} {tm : T AV} {h : AHeap} {a : Act} {w : World}

theorem nilC_is {y : Operand} (h : isNilC y = true) : y = .const .nilIface := by
 unfold isNilC at h
 split at h
 ·rfl
 ·cases h
include H in
theorem evNil_ok (ht : TRel M tm a) {op : BinOp} {t : Nat} {x y : Operand} {u v : AV} (hy : isNilC y = true) (hx : opnd tm x = some u) (hv : nilV (tb.und t) op u = some v) :
  ∃ r, (do eqGuard op t x y (a.eval x) (a.eval y); binOp op t (a.eval x) (a.eval y) : Sem Value).run P w = .ok r w ∧ VRel M v r := by
 have hy := nilC_is hy
 subst hy
 have hr := opnd_ok ht hx
 have hev : a.eval (.const .nilIface) = .nilIface := rfl
 unfold nilV at hv
 split at hv
 ·rename_i ms _ _ _ hd
  simp only [Option.some.injEq] at hv
  subst hv
  have hu := und_ok H hd
  generalize a.eval x = z at hr
  cases hr
  refine ⟨.bool true, ?_, .bool _⟩
  rw [hev]
  have hg : (eqGuard .eql t x (.const .nilIface) .nilIface .nilIface).run P w = .ok () w := by simp [eqGuard]
  have hd : ∀ d, (Op.equalIn (d + 1) t .nilIface .nilIface).run P w = .ok true w := by
   intro d
   simp [Op.equalIn, run_underlying hu]
  have he : (Op.equal t .nilIface .nilIface).run P w = .ok true w := hd 9999
  simp only [Sem.run_bind, hg, Result.andThen_ok]
  show (do pure (.bool (← Op.equal t .nilIface .nilIface)) : Sem Value).run P w = _
  simp [he]
 ·rename_i ms _ _ _ hd
  simp only [Option.some.injEq] at hv
  subst hv
  have hu := und_ok H hd
  generalize a.eval x = z at hr
  cases hr
  refine ⟨.bool false, ?_, .bool _⟩
  rw [hev]
  have hg : (eqGuard .neq t x (.const .nilIface) .nilIface .nilIface).run P w = .ok () w := by simp [eqGuard]
  have hd : ∀ d, (Op.equalIn (d + 1) t .nilIface .nilIface).run P w = .ok true w := by
   intro d
   simp [Op.equalIn, run_underlying hu]
  have he : (Op.equal t .nilIface .nilIface).run P w = .ok true w := hd 9999
  simp only [Sem.run_bind, hg, Result.andThen_ok]
  show (do pure (.bool (!(← Op.equal t .nilIface .nilIface))) : Sem Value).run P w = _
  simp [he]
 ·cases hv

theorem evNilCheck_ok (ht : TRel M tm a) {o : Oper} {x : Operand} (ho : o.op = .nilCheck x) {v : AV} (hv : evNilCheck tm x = some v) :
  ∃ u, (execOp a.eval o).run P w = .ok (.value u) w ∧ VRel M v u := by
 unfold evNilCheck at hv
 split at hv
 ·rename_i b p hx
  simp only [Option.some.injEq] at hv
  subst hv
  have hr := opnd_ok ht hx
  obtain ⟨i, hi, he⟩ := ptr_iff hr
  refine ⟨a.eval x, ?_, hr⟩
  simp only [execOp, ho, he]
  rfl
 ·rename_i f l hx
  simp only [Option.some.injEq] at hv
  subst hv
  have hr := opnd_ok ht hx
  obtain ⟨cs, he, _⟩ := func_iff hr
  refine ⟨a.eval x, ?_, hr⟩
  simp only [execOp, ho, he]
  rfl
 ·cases hv

theorem bytesOf_ok (bad : ByteArray → Sem (ForInStep ByteArray)) : ∀ {l : List AV} {us : List Value} {s : List Nat}, bytesOf l = some s → LRel M l us →
  ∀ acc : ByteArray, ∃ r : ByteArray, (forIn us acc (fun c s => (match c with
   | .int .u8 n => pure (ForInStep.yield (s.push (UInt8.ofNat n.toNat)))
   | _ => bad s) : Value → ByteArray → Sem (ForInStep ByteArray))).run P w = .ok r w ∧ r.toList.map UInt8.toNat = acc.toList.map UInt8.toNat ++ s
 | [], [], s, hs, hl, acc => by
  simp only [bytesOf, Option.some.injEq] at hs
  subst hs
  exact ⟨acc, by simp, by simp⟩
 | a :: l, u :: us, s, hs, hl, acc => by
  have hu := hl.2 0 a u rfl rfl
  have hl' : LRel M l us := ⟨by have := hl.1; simpa using this, fun i v u a b => hl.2 (i + 1) v u (by simpa using a) (by simpa using b)⟩
  unfold bytesOf at hs
  split at hs
  ·rename_i heq; cases heq
  ·rename_i n l' heq
   cases heq
   split at hs
   ·rename_i m hm
    simp only [Option.some.injEq] at hs
    subst hs
    rw [int_iff hu]
    obtain ⟨r, h1, h2⟩ := bytesOf_ok bad hm hl' (acc.push (UInt8.ofNat n))
    refine ⟨r, ?_, ?_⟩
    ·simp only [List.forIn_cons, Sem.run_bind, Sem.run_pure, Result.andThen_ok]
     exact h1
    ·rw [h2]
     have : (acc.push (UInt8.ofNat n)).toList = acc.toList ++ [UInt8.ofNat n] := by
      rw [ByteArray.toList_eq, ByteArray.toList_eq]; simp
     rw [this]
     simp
   ·cases hs
  ·cases hs
 | [], _ :: _, _, _, hl, _ => by have := hl.1; simp at this
 | _ :: _, [], _, _, hl, _ => by have := hl.1; simp at this

theorem bytes_fin {l : List AV} {us : List Value} {s : List Nat} (hs : bytesOf l = some s) (hl : LRel M l us) (F : Value → ByteArray → Sem (ForInStep ByteArray))
  (hF : ∃ bad : ByteArray → Sem (ForInStep ByteArray), F = fun c s => match c with
   | .int .u8 n => pure (ForInStep.yield (s.push (UInt8.ofNat n.toNat)))
   | _ => bad s) : ∃ u, (((forIn us ByteArray.empty F : Sem ByteArray).run P w).andThen fun a w' => Sem.run P (pure (Value.string a)) w') = .ok u w ∧ VRel M (.str s) u := by
 obtain ⟨bad, rfl⟩ := hF
 obtain ⟨r, r1, r2⟩ := bytesOf_ok (P := P) (w := w) bad hs hl .empty
 refine ⟨.string r, ?_, str_of (by rw [r2]; simp [ByteArray.toList_eq])⟩
 rw [r1]
 rfl

theorem isU8_eq {d : Option TypeDesc} (h : isU8 d = true) : d = some (.int .u8) := by
 unfold isU8 at h
 split at h
 ·rfl
 ·cases h

theorem evConvert_q (H : TabOK P tb J) (ht : TRel M tm a) (hh : HRel M N w0 h w) {s d : Nat} {x : Operand} {v : AV} (hv : evConvert tb tm h s d x = .q (some v)) :
  ∃ u, (convert s d (a.eval x)).run P w = .ok u w ∧ VRel M v u := by
 unfold evConvert at hv
 split at hv
 ·rename_i e1 k k2 n h1 h2 hx
  simp only [Res.q.injEq, Option.some.injEq] at hv
  subst hv
  rw [int_iff (opnd_ok ht hx)]
  refine ⟨.int k (k.wrap n), ?_, by rw [wrapA_eq]; exact .int _ _⟩
  simp only [convert, Sem.run_bind, run_und H h1, run_und H h2, Result.andThen_ok]
  rfl
 ·rename_i e1 r h1 h2 hx
  simp only [Res.q.injEq, Option.some.injEq] at hv
  subst hv
  have hr := opnd_ok ht hx
  obtain ⟨q, he, hq, hql⟩ := str_iff hr
  refine ⟨a.eval x, ?_, hr⟩
  rw [he]
  simp only [convert, Sem.run_bind, run_und H h1, run_und H h2, Result.andThen_ok]
  rfl
 ·rename_i k1 k2 b h1 h2 hx
  simp only [Res.q.injEq] at hv
  obtain ⟨j, n, he, hr⟩ := H.oc _ _ _ hv M _ hh.base (opnd_ok ht hx)
  rw [he]
  refine ⟨.int k2 (k2.wrap n), ?_, hr⟩
  simp only [convert, Sem.run_bind, run_und H h1, run_und H h2, Result.andThen_ok]
  rfl
 ·rename_i e h1 h2 hx
  split at hv
  ·rename_i hu
   have hu := isU8_eq hu
   simp only [Res.q.injEq, Option.some.injEq] at hv
   subst hv
   rw [nils_iff (opnd_ok ht hx)]
   refine ⟨.string .empty, ?_, .str _ _ (by rfl)⟩
   simp only [convert, Sem.run_bind, run_und H h1, run_und H h2, run_und H hu, Result.andThen_ok]
   rfl
  ·cases hv
 ·rename_i e b o n sz h1 h2 hx
  split at hv
  ·rename_i hu
   have hu := isU8_eq hu
   simp only [Res.q.injEq] at hv
   unfold strOfBytes at hv
   split at hv
   ·rename_i ob hob hz
    have hz := Nat.eq_of_beq_eq_true hz
    subst hz
    split at hv
    ·rename_i l hs
     split at hv
     ·rename_i q hq
      simp only [Option.some.injEq] at hv
      subst hv
      obtain ⟨i, cap, p, hi, hz1, hcap, hm, hp, he⟩ := slice_iff (opnd_ok ht hx)
      obtain ⟨us, g1, g2, g3⟩ := (hh.readAt hob hi (slice_val (opnd_ok ht hx) hi)).cells hi hs
      have hload : (loadCells p n).run P w = .ok us.toArray w := by
       rcases hp with hp | hp
       ·rw [hp, hz1, Nat.mul_one]
        exact run_cells g1 g3
       ·have h0 : n = 0 := by omega
        subst h0
        have hus : us = [] := List.eq_nil_of_length_eq_zero g1
        subst hus
        simp [loadCells, loadCellsFrom]
      rw [he]
      simp only [convert, Sem.run_bind, run_und H h1, run_und H h2, run_und H hu, Result.andThen_ok, Conv.bytesToString, hload, List.forIn_toArray]
      exact bytes_fin hq g2 _ ⟨_, rfl⟩
     ·cases hv
    ·cases hv
   ·cases hv
  ·cases hv
 ·split at hv <;> cases hv
 ·cases hv


theorem evMakeFunc_ok (ht : TRel M tm a) {fn : Fn} {first captured : Array Operand} {v : AV} (hv : evMakeFunc tm fn first captured = some v) :
  ∃ u, (Instr.makeFunc fn (first.map a.eval) (captured.map a.eval)).run P w = .ok u w ∧ VRel M v u := by
 unfold evMakeFunc at hv
 split at hv
 ·rename_i f l hf hl
  simp only [Option.some.injEq] at hv
  subst hv
  have h1 : first = #[] := by
   apply Array.ext'
   simpa using hf
  subst h1
  have hr := opnds_ok ht hl
  refine ⟨.func (.func f) #[] (captured.map a.eval), by simp [Instr.makeFunc], .func f l _ (by have := hr.1; simpa using this) (fun i v u p q => hr.2 i v u p (by simpa using q))⟩
 ·cases hv

theorem evPick_ok (ht : TRel M tm a) {c x y : Operand} {v : AV} (hv : evPick tm c x y = some v) :
  ∃ u, (do pure (.value (if ← asBool (a.eval c) then a.eval x else a.eval y)) : Sem Next).run P w = .ok (.value u) w ∧ VRel M v u := by
 unfold evPick at hv
 split at hv
 ·rename_i hc
  rw [bool_iff (opnd_ok ht hc)]
  exact ⟨_, by simp [asBool], opnd_ok ht hv⟩
 ·rename_i hc
  rw [bool_iff (opnd_ok ht hc)]
  exact ⟨_, by simp [asBool], opnd_ok ht hv⟩
 ·cases hv

theorem quiet_ok (H : TabOK P tb J) (ht : TRel M tm a) (hh : HRel M N w0 h w) {call : Nat → List AV → AHeap → Option (AV × AHeap)} {o : Oper} {v : AV}
  (hq : evOp tb call tm h o.op = .q (some v)) : ∃ u, (execOp a.eval o).run P w = .ok (.value u) w ∧ VRel M v u := by
 have lift : ∀ {s : Sem Value}, (∃ u, s.run P w = .ok u w ∧ VRel M v u) → ∃ u, (do pure (.value (← s)) : Sem Next).run P w = .ok (.value u) w ∧ VRel M v u := by
  rintro s ⟨u, h1, h2⟩
  exact ⟨u, by simp [h1], h2⟩
 obtain ⟨dst, op, type, pos, after, guard⟩ := o
 unfold evOp at hq
 simp only at hq
 split at hq <;> first | (simp at hq; done) | skip
 ·-- move
  simp only [Res.q.injEq] at hq
  exact ⟨_, rfl, opnd_ok ht hq⟩
 ·simp only [Res.q.injEq] at hq
  exact ⟨_, rfl, opnd_ok ht hq⟩
 ·simp only [Res.q.injEq] at hq
  exact evPick_ok ht hq
 ·simp only [Res.q.injEq] at hq
  exact lift (evBuild_ok H ht hq)
 ·-- load
  rename_i t x
  simp only [Res.q.injEq] at hq
  unfold evLoad at hq
  split at hq
  ·rename_i b p hp
   obtain ⟨i, hi, he⟩ := ptr_iff (opnd_ok ht hp)
   refine lift ?_
   rw [he]
   simp only [Instr.loadAt, Instr.sureAddr, Sem.run_bind, Sem.run_pure, Result.andThen_ok]
   exact load_ok H hh hq hi (ptr_val (opnd_ok ht hp) hi)
  ·cases hq
 ·simp only [Res.q.injEq] at hq
  exact evNilCheck_ok ht rfl hq
 ·-- binOp
  rename_i op t x y yt
  simp only [Res.q.injEq] at hq
  unfold evBinOp at hq
  split at hq
  ·rename_i hy
   split at hq
   ·rename_i v hv
    exact lift (evNil_ok H ht hy hv hq)
   ·cases hq
  split at hq
  ·rename_i p q hp hq'
   exact lift (evBin_ok H hh.base (opnd_ok ht hp) (opnd_ok ht hq') hq x y w)
  ·cases hq
 ·simp only [Res.q.injEq] at hq
  exact lift (evUnOp_ok ht hq)
 ·exact lift (evConvert_q H ht hh hq)
 ·simp only [Res.q.injEq] at hq
  exact lift (evMakeFunc_ok ht hq)
 ·simp only [Res.q.injEq] at hq
  exact lift (evSlice_ok H ht hh hq)
 ·simp only [Res.q.injEq] at hq
  exact lift (evFieldAddr_ok H ht hq)
 ·simp only [Res.q.injEq] at hq
  exact lift (evField_ok H ht hq)
 ·simp only [Res.q.injEq] at hq
  exact lift (evIndexAddr_ok H ht hq)
 ·simp only [Res.q.injEq] at hq
  exact lift (evIndex_ok H ht hq)
 ·simp only [Res.q.injEq] at hq
  exact lift (evExtract_ok ht hq)
 ·-- calls
  rename_i c
  obtain ⟨callee, args, argTypes⟩ := c
  unfold evCallOp at hq
  simp only at hq
  split at hq <;> first | (simp at hq; done) | skip
  ·simp only [Res.q.injEq] at hq
   obtain ⟨u, h1, h2⟩ := evLen_ok (P := P) (w := w) H ht type hq
   exact ⟨u, by simp only [execOp, resolve, Sem.run_bind, Sem.run_pure, Result.andThen_ok, invoke, builtin, h1], h2⟩
  ·simp only [Res.q.injEq] at hq
   obtain ⟨u, h1, h2⟩ := evMinMax_ok (P := P) (w := w) ht false argTypes type hq
   simp only [Bool.false_eq_true, if_false] at h1
   exact ⟨u, by simp only [execOp, resolve, Sem.run_bind, Sem.run_pure, Result.andThen_ok, invoke, builtin, h1], h2⟩
  ·simp only [Res.q.injEq] at hq
   obtain ⟨u, h1, h2⟩ := evMinMax_ok (P := P) (w := w) ht true argTypes type hq
   simp only [if_true] at h1
   exact ⟨u, by simp only [execOp, resolve, Sem.run_bind, Sem.run_pure, Result.andThen_ok, invoke, builtin, h1], h2⟩
 ·simp only [Res.q.injEq] at hq
  exact lift (evLookup_ok H ht hh hq)

theorem loud_ok (H : TabOK P tb J) (ht : TRel M tm a) (hh : HRel M N w0 h w) {call : Nat → List AV → AHeap → Option (AV × AHeap)} (hcall : CallOK P J call) {o : Oper} {v : AV} {h' : AHeap}
  (hq : evOp tb call tm h o.op = .l (some (v, h'))) {next : Act → World → Prop} {Q : Exit → Act → World → Prop}
  (hn : ∀ M' u w', M.le M' → HRel M' N w0 h' w' → VRel M' v u → next (a.put o.dst u) w') : o.wp P a w next Q := by
 have lift : ∀ {s : Sem Value}, (execOp a.eval o).run P w = (do pure (.value (← s)) : Sem Next).run P w → Gives P M N w0 s w v h' → o.wp P a w next Q := by
  rintro s he ⟨u, M', w', h1, h2, h3, h4⟩
  unfold Oper.wp
  rw [he]
  simp only [Sem.run_bind, h1, Result.andThen_ok, Sem.run_pure, Oper.upon_value]
  exact hn M' u w' h2 h3 h4
 obtain ⟨dst, op, type, pos, after, guard⟩ := o
 unfold evOp at hq
 simp only at hq
 split at hq <;> first | (simp at hq; done) | skip
 ·simp only [Res.l.injEq] at hq
  exact lift rfl (evAlloc_ok H hh hq)
 ·simp only [Res.l.injEq] at hq
  exact lift rfl (evBox_ok hh ht hq)
 ·simp only [Res.l.injEq] at hq
  exact lift rfl (evBuildSlice_ok H hh ht hq)
 ·-- store
  simp only [Res.l.injEq] at hq
  obtain ⟨rfl, w', h1, h2⟩ := evStore_ok H hh ht hq
  unfold Oper.wp
  simp only [execOp, Sem.run_bind, h1, Result.andThen_ok, Sem.run_pure, Oper.upon_skip]
  exact hn M undef w' (Inj.le_refl M) h2 (.tuple [] #[] rfl (fun i v u p => by simp at p))
 ·-- convert
  rename_i s d x
  unfold evConvert at hq
  split at hq <;> first | (simp at hq; done) | (split at hq <;> simp at hq; done) | skip
  rename_i e r h1 h2 hx
  split at hq
  ·rename_i hu
   have hu := isU8_eq hu
   simp only [Res.l.injEq, Option.some.injEq, Prod.mk.injEq] at hq
   obtain ⟨rfl, rfl⟩ := hq
   obtain ⟨q, he, hs, hl⟩ := str_iff (opnd_ok ht hx)
   have hg := toBytes_ok (P := P) hh e hs
   refine lift (s := Conv.stringToBytes e q) ?_ hg
   simp only [execOp, he]
   simp only [convert, Sem.run_bind, run_und H h1, run_und H h2, run_und H hu, Result.andThen_ok]
  ·simp at hq
 ·simp only [Res.l.injEq] at hq
  exact lift rfl (evMakeSlice_ok H hh ht hq)
 ·-- calls
  rename_i c
  obtain ⟨callee, args, argTypes⟩ := c
  unfold evCallOp at hq
  simp only at hq
  split at hq <;> first | (simp at hq; done) | skip
  ·-- a function's value
   rename_i f
   simp only [Res.l.injEq] at hq
   unfold evCallVal at hq
   split at hq
   ·rename_i g caps l hg hl
    obtain ⟨cs, he, hcs⟩ := func_iff (opnd_ok ht hg)
    have hargs := opnds_ok ht hl
    have hall : LRel M (l ++ caps) ((args.map a.eval) ++ cs).toList := by
     have := hargs.append hcs
     simpa using this
    obtain ⟨⟨fn, hf, hb, hname⟩, hc⟩ := hcall M N w0 h w g (l ++ caps) _ v h' hq hall hh
    have hrun : (execOp a.eval { dst, op := .call { callee := .value f, args, argTypes }, type, pos, after, guard }).run P w = .ok (.enter g ((args.map a.eval) ++ cs)) w := by
     have hb2 : fn.body.isNone = false := by cases hbb : fn.body <;> simp_all
     simp only [execOp, resolve, Sem.run_bind, he, Deferred.ofValue, Sem.run_pure, Result.andThen_ok, invoke, callFunc, run_program, hf, hname, Bool.false_eq_true, if_false, hb2, Array.empty_append]
    unfold Oper.wp
    rw [hrun, Oper.upon_enter]
    refine hc.mono ?_
    rintro e w' ⟨M', u, rfl, h1, h2, h3⟩
    exact hn M' u w' h1 h2 h3
   ·cases hq
  ·-- append
   simp only [Res.l.injEq] at hq
   unfold evAppend at hq
   split at hq
   ·rename_i t t2 rest s x hts hargs
    have hl := opnds_ok ht hargs
    have e0 : argTypes[0]? = some t := by
     have : argTypes.toList[0]? = some t := by rw [hts]; rfl
     simpa using this
    have e1 : argTypes[1]? = some t2 := by
     have : argTypes.toList[1]? = some t2 := by rw [hts]; rfl
     simpa using this
    obtain ⟨sv, hs1, hs2⟩ := hl.get (i := 0) (v := s) rfl
    obtain ⟨xv, hx1, hx2⟩ := hl.get (i := 1) (v := x) rfl
    have f0 : (args.map a.eval)[0]? = some sv := by simpa using hs1
    have f1 : (args.map a.eval)[1]? = some xv := by simpa using hx1
    refine lift (s := Builtin.append_ argTypes type (args.map a.eval)) ?_ (appendA_ok H hh type e0 e1 f0 f1 hs2 hx2 hq)
    simp only [execOp, resolve, Sem.run_bind, Sem.run_pure, Result.andThen_ok, invoke, builtin]
   ·cases hq
  ·-- copy
   simp only [Res.l.injEq] at hq
   unfold evCopy at hq
   split at hq
   ·rename_i t rest s x hts hargs
    have hl := opnds_ok ht hargs
    have e0 : argTypes[0]? = some t := by
     have : argTypes.toList[0]? = some t := by rw [hts]; rfl
     simpa using this
    obtain ⟨sv, hs1, hs2⟩ := hl.get (i := 0) (v := s) rfl
    obtain ⟨xv, hx1, hx2⟩ := hl.get (i := 1) (v := x) rfl
    have f0 : (args.map a.eval)[0]? = some sv := by simpa using hs1
    have f1 : (args.map a.eval)[1]? = some xv := by simpa using hx1
    refine lift (s := Builtin.copy_ argTypes type (args.map a.eval)) ?_ (copyA_ok H hh type e0 f0 f1 hs2 hx2 hq)
    simp only [execOp, resolve, Sem.run_bind, Sem.run_pure, Result.andThen_ok, invoke, builtin]
   ·cases hq
 ·simp only [Res.l.injEq] at hq
  exact lift rfl (evMakeMap_ok H ht hh hq)
 ·simp only [Res.l.injEq] at hq
  obtain ⟨rfl, w', h1, h2⟩ := evMapUpdate_ok H ht hh hq
  unfold Oper.wp
  simp only [execOp, Sem.run_bind, h1, Result.andThen_ok, Sem.run_pure, Oper.upon_skip]
  exact hn M undef w' (Inj.le_refl M) h2 (.tuple [] #[] rfl (fun i v u p => by simp at p))
 ·simp only [Res.l.injEq] at hq
  exact lift rfl (evMapEntry_ok H ht hh hq)
 ·rename_i t m s x
  simp only [Res.l.injEq] at hq
  obtain ⟨rfl, w', h1, h2⟩ := evEntryStore_ok (P := P) (t := t) ht hh hq
  unfold Oper.wp
  simp only [execOp, Sem.run_bind, h1, Result.andThen_ok, Sem.run_pure, Oper.upon_skip]
  exact hn M undef w' (Inj.le_refl M) h2 (.tuple [] #[] rfl (fun i v u p => by simp at p))
end one
variable {J : Ctx}
set_option linter.unusedVariables false
set_option linter.unusedSimpArgs false

theorem beq0_ok (a b : AV) (h : beq0 a b = true) : a = b := by
 unfold beq0 at h
 split at h <;> simp_all
theorem beqL_ok {f : AV → AV → Bool} (hf : ∀ a b, f a b = true → a = b) : ∀ (l m : List AV), beqL f l m = true → l = m
 | [], [], _ => rfl
 | [], _ :: _, h => by simp [beqL] at h
 | _ :: _, [], h => by simp [beqL] at h
 | a :: l, b :: m, h => by
  simp only [beqL, Bool.and_eq_true] at h
  rw [hf a b h.1, beqL_ok hf l m h.2]
theorem beq1_ok (a b : AV) (h : beq1 a b = true) : a = b := by
 unfold beq1 at h
 split at h
 ·rw [beqL_ok beq0_ok _ _ h]
 ·simp only [Bool.and_eq_true, beq_iff_eq] at h
  rw [h.1, beqL_ok beq0_ok _ _ h.2]
 ·exact beq0_ok _ _ h
theorem beq_ok (a b : AV) (h : AV.beq a b = true) : a = b := by
 unfold AV.beq at h
 split at h
 ·rw [beqL_ok beq1_ok _ _ h]
 ·exact beq1_ok _ _ h

section slots
variable {P : Program} {tb : Tab} {M : Inj} {tm tm' : T AV} {a : Act} {n : Nat}

theorem put_size (a : Act) (d : Option Tmp) (u : Value) : (a.put d u).tmps.size = a.tmps.size := by
 cases d <;> simp [Act.put]
theorem put_def (a : Act) (d : Option Tmp) (u : Value) : (a.put d u).defers = a.defers := by
 cases d <;> simp [Act.put]
theorem put_getD (a : Act) (d : Option Tmp) (u : Value) (t : Nat) (ht : ∀ x, d = some x → x < a.tmps.size) :
  (a.put d u).tmps.getD t undef = if d = some t then u else a.tmps.getD t undef := by
 cases d with
 | none => simp [Act.put]
 | some x =>
  by_cases h : x = t
  ·subst h
   have := ht x rfl
   simp [Act.put, this]
  ·simp [Act.put, h, Array.getElem?_setIfInBounds_ne h]
theorem putDst_some {d : Option Nat} {v : AV} (h : putDst tm n d v = some tm') : (∀ x, d = some x → x < n) ∧ ∀ t, tm'.get t = if d = some t then some v else tm.get t := by
 unfold putDst at h
 split at h
 ·simp only [Option.some.injEq] at h
  subst h
  exact ⟨fun x hx => (by cases hx), fun t => (by simp)⟩
 ·rename_i x
  split at h
  ·rename_i hb
   simp only [Option.some.injEq] at h
   subst h
   rw [Nat.blt_eq] at hb
   refine ⟨fun y hy => (by cases hy; exact hb), fun t => ?_⟩
   rw [T.get_set]
   by_cases ht : t = x
   ·subst ht; simp
   ·have : ¬ x = t := fun e => ht e.symm
    simp [ht, this]
  ·cases h
theorem TRel.put {M' : Inj} (hM : M.le M') (ht : TRel M tm a) (hs : a.tmps.size = n) {d : Option Nat} {v : AV} {u : Value} (h : putDst tm n d v = some tm') (hv : VRel M' v u) : TRel M' tm' (a.put d u) := by
 obtain ⟨h1, h2⟩ := putDst_some h
 intro t x hx
 rw [put_getD a d u t (fun x hx => by rw [hs]; exact h1 x hx)]
 rw [h2] at hx
 split at hx
 ·rename_i he
  rw [if_pos he]
  cases hx
  exact hv
 ·rename_i he
  rw [if_neg he]
  exact (ht t x hx).mono hM

theorem wanted_ok {ops : Array Oper} (ht : TRel M tm a) {o : Oper} {b : Bool} (h : wantedA ops.toList tm o = some b) : Region.wanted o (yielded ops a.tmps) = b := by
 unfold wantedA at h
 unfold Region.wanted
 split at h
 ·rename_i hg
  rw [hg]
  simpa using h
 ·rename_i j want hg
  rw [hg]
  simp only
  split at h
  ·rename_i oj hoj
   have hoj' : ops[j]? = some oj := by simpa using hoj
   split at h
   ·rename_i d hd
    split at h
    ·rename_i x hx
     simp only [Option.some.injEq] at h
     subst h
     have hr := bool_iff (ht d _ hx)
     have : a.tmps[d]? = some (.bool x) := by
      cases hq : a.tmps[d]? with
      | none => simp [hq, undef] at hr
      | some y => simp [hq] at hr; rw [hr]
     simp only [yielded, hoj', Option.bind_some, hd, this]
     cases x <;> cases want <;> rfl
    ·rename_i hx
     simp only [Option.some.injEq] at h
     subst h
     obtain ⟨cs, hr, _⟩ := tuple_iff (ht d _ hx)
     have : yielded ops a.tmps j = none := by
      simp only [yielded, hoj', Option.bind_some, hd]
      cases hq : a.tmps[d]? with
      | none => rfl
      | some y => simp [hq] at hr; subst hr; rfl
     rw [this]
     cases want <;> rfl
    ·cases h
   ·cases h
  ·cases h
end slots

section one
variable {P : Program} {tb : Tab} (H : TabOK P tb J) {M : Inj} {N : Nat → Prop} {w0 : Base J} {tm : T AV} {h : AHeap} {a : Act} {w : World} {n : Nat}
 {call : Nat → List AV → AHeap → Option (AV × AHeap)} (hcall : CallOK P J call)
include H hcall

theorem ev1_ok {ops : Array Oper} {Q : Exit → Act → World → Prop} (ht : TRel M tm a) (hh : HRel M N w0 h w) {i : Nat} {o : Oper} (ho : ops[i]? = some o) {v : AV} {h' : AHeap} {k : Nat}
  (he : ev1 tb call ops.toList tm h o = some (v, h', k)) {K : Act → World → Prop}
  (hn : ∀ M' u w', M.le M' → HRel M' N w0 h' w' → VRel M' v u → K (a.put o.dst u) w') : wpOp P ops Q i K a w := by
 unfold ev1 at he
 unfold wpOp
 simp only [ho]
 split at he
 ·rename_i hw
  rw [wanted_ok ht hw, if_pos rfl]
  refine .inl ?_
  split at he
  ·rename_i v' h'' hq
   simp only [Option.some.injEq, Prod.mk.injEq] at he
   obtain ⟨rfl, rfl, rfl⟩ := he
   exact loud_ok H ht hh hcall hq hn
  ·rename_i v' hq
   simp only [Option.some.injEq, Prod.mk.injEq] at he
   obtain ⟨rfl, rfl, rfl⟩ := he
   obtain ⟨u, h1, h2⟩ := quiet_ok H ht hh hq
   unfold Oper.wp
   rw [h1, Oper.upon_value]
   exact hn M u w (Inj.le_refl M) hh h2
  ·cases he
 ·rename_i hw
  rw [wanted_ok ht hw]
  simp only [Bool.false_eq_true, if_false]
  simp only [Option.some.injEq, Prod.mk.injEq] at he
  obtain ⟨rfl, rfl, rfl⟩ := he
  exact hn M undef w (Inj.le_refl M) hh (.tuple [] #[] rfl (fun i v u p => by simp at p))
 ·cases he

theorem evOps_ok {ops : Array Oper} {Q : Exit → Act → World → Prop} : ∀ {rest : List Oper} {i : Nat} {M : Inj} {tm tm' : T AV} {h h' : AHeap} {a : Act} {w : World},
  (∀ k o, rest[k]? = some o → ops[i + k]? = some o) → TRel M tm a → a.tmps.size = n → HRel M N w0 h w → evOps tb call n ops.toList rest tm h = some (tm', h') →
  (∀ M' a' w', M.le M' → TRel M' tm' a' → a'.tmps.size = n → a'.defers = a.defers → HRel M' N w0 h' w' → Q .normal a' w') →
  wpOps P ops Q (List.range' i rest.length) a w
 | [], i, M, tm, tm', h, h', a, w, hr, ht, hs, hh, he, hn => by
  simp only [evOps, Option.some.injEq, Prod.mk.injEq] at he
  obtain ⟨rfl, rfl⟩ := he
  exact hn M a w (Inj.le_refl M) ht hs rfl hh
 | o :: rest, i, M, tm, tm', h, h', a, w, hr, ht, hs, hh, he, hn => by
  unfold evOps at he
  simp only [List.length_cons, List.range'_succ]
  rw [wpOps_cons]
  split at he
  ·rename_i v h1 k he1
   split at he
   ·rename_i tm1 hp
    refine ev1_ok H hcall ht hh (by simpa using hr 0 o rfl) he1 (fun M' u w' hM hh' hv => ?_)
    refine evOps_ok (fun k o hk => ?_) (ht.put hM hs hp hv) (by rw [put_size]; exact hs) hh' he (fun M2 a2 w2 hM2 ht2 hs2 hd2 hh2 => ?_)
    ·have := hr (k + 1) o (by simpa using hk)
     rw [show i + 1 + k = i + (k + 1) by omega]
     exact this
    ·exact hn M2 a2 w2 (Inj.le_trans hM hM2) ht2 hs2 (by rw [hd2, put_def]) hh2
   ·cases he
  ·cases he
end one
variable {J : Ctx}
set_option linter.unusedVariables false
set_option linter.unusedSimpArgs false

section congr
variable {tb : Tab} {tm tm' : T AV}

theorem opnds_congr : ∀ {l : List Operand}, (∀ x ∈ l, opnd tm x = opnd tm' x) → opnds tm l = opnds tm' l
 | [], _ => rfl
 | x :: l, h => by
  unfold opnds
  rw [h x (List.mem_cons_self), opnds_congr fun y hy => h y (List.mem_cons_of_mem _ hy)]
theorem opndPairs_congr : ∀ {l : List (Nat × Operand)}, (∀ p ∈ l, opnd tm p.2 = opnd tm' p.2) → opndPairs tm l = opndPairs tm' l
 | [], _ => rfl
 | (i, x) :: l, h => by
  unfold opndPairs
  rw [h (i, x) (List.mem_cons_self), opndPairs_congr fun y hy => h y (List.mem_cons_of_mem _ hy)]
theorem bounds_congr {len : Nat} {lo hi : Option Operand} (h1 : ∀ x, lo = some x → opnd tm x = opnd tm' x) (h2 : ∀ x, hi = some x → opnd tm x = opnd tm' x) :
  boundsA tm len lo hi = boundsA tm' len lo hi := by
 unfold boundsA
 cases lo with
 | none =>
  cases hi with
  | none => rfl
  | some y => simp only [h2 y rfl]
 | some x =>
  cases hi with
  | none => simp only [h1 x rfl]
  | some y => simp only [h1 x rfl, h2 y rfl]

theorem evOp_congr {call : Nat → List AV → AHeap → Option (AV × AHeap)} {h : AHeap} {op : Op} (hx : ∀ x ∈ op.operands, opnd tm x = opnd tm' x) :
  evOp tb call tm h op = evOp tb call tm' h op := by
 unfold evOp
 cases op <;> simp only [Op.operands] at hx <;> try rfl
 case move x => simp only; rw [hx x (by simp)]
 case assign x => simp only; rw [hx x (by simp)]
 case pick c x y => simp only; unfold evPick; rw [hx c (by simp), hx x (by simp), hx y (by simp)]
 case box t x => simp only; unfold evBox; rw [hx x (by simp)]
 case build t ps => simp only; unfold evBuild; rw [opndPairs_congr (tm := tm) (tm' := tm') fun p hp => hx p.2 (by simp; exact ⟨p.1, by simpa using hp⟩)]
 case buildSlice t n ps => simp only; unfold evBuildSlice; rw [opndPairs_congr (tm := tm) (tm' := tm') fun p hp => hx p.2 (by simp; exact ⟨p.1, by simpa using hp⟩)]
 case load t x => simp only; unfold evLoad; rw [hx x (by simp)]
 case store t x y => simp only; unfold evStore; rw [hx x (by simp), hx y (by simp)]
 case nilCheck x => simp only; unfold evNilCheck; rw [hx x (by simp)]
 case binOp o t x y u => simp only; unfold evBinOp; rw [hx x (by simp), hx y (by simp)]
 case unOp o t x => simp only; unfold evUnOp; rw [hx x (by simp)]
 case convert s d x => simp only; unfold evConvert; rw [hx x (by simp)]
 case makeFunc fn first captured =>
  simp only
  unfold evMakeFunc
  rw [opnds_congr (tm := tm) (tm' := tm') fun p hp => hx p (by simp; exact .inr (by simpa using hp))]
 case makeSlice t l c => simp only; unfold evMakeSlice; rw [hx l (by simp), hx c (by simp)]
 case slice t x lo hi mx =>
  have hb : ∀ len, boundsA tm len lo hi = boundsA tm' len lo hi := fun len => bounds_congr (fun y hy => hx y (by subst hy; simp)) (fun y hy => hx y (by subst hy; simp))
  simp only
  unfold evSlice
  rw [hx x (by simp)]
  unfold sliceStr sliceSlice sliceArr
  simp only [hb]
 case fieldAddr s x f => simp only; unfold evFieldAddr; rw [hx x (by simp)]
 case field s x f => simp only; unfold evField; rw [hx x (by simp)]
 case indexAddr t x i => simp only; unfold evIndexAddr; rw [hx x (by simp), hx i (by simp)]
 case index t x i => simp only; unfold evIndex; rw [hx x (by simp), hx i (by simp)]
 case extract x i => simp only; unfold evExtract; rw [hx x (by simp)]
 case lookup t x i ok => simp only; unfold evLookup; rw [hx x (by simp), hx i (by simp)]
 case makeMap t r =>
  simp only
  unfold evMakeMap
  cases r with
  | none => rfl
  | some x => simp only [hx x (by simp)]
 case mapUpdate t m k v => simp only; unfold evMapUpdate; rw [hx m (by simp), hx k (by simp), hx v (by simp)]
 case mapEntry t m k => simp only; unfold evMapEntry; rw [hx m (by simp), hx k (by simp)]
 case entryStore t m s v => simp only; unfold evEntryStore; rw [hx m (by simp), hx s (by simp), hx v (by simp)]
 case call c =>
  obtain ⟨callee, args, ts⟩ := c
  simp only [Call.operands] at hx
  have hargs : opnds tm args.toList = opnds tm' args.toList := opnds_congr fun p hp => hx p (by simp; exact .inr (by simpa using hp))
  simp only
  unfold evCallOp
  cases callee with
  | value f =>
   simp only
   unfold evCallVal
   rw [hx f (by simp), hargs]
  | invoke r m => rfl
  | builtin b =>
   cases b <;> simp only
   case len =>
    unfold evLen
    cases ts.toList with
    | nil => rfl
    | cons t tl =>
     cases hl : args.toList with
     | nil => rfl
     | cons y l =>
      cases l with
      | nil =>
       have : y ∈ args.toList := by rw [hl]; simp
       have hy := hx y (by simp; simpa using this)
       simp only [hy]
      | cons z l => rfl
   case append => unfold evAppend; rw [hargs]
   case copy => unfold evCopy; rw [hargs]
   case min => unfold evMinMax; rw [hargs]
   case max => unfold evMinMax; rw [hargs]

theorem evOp_call {call call' : Nat → List AV → AHeap → Option (AV × AHeap)} {h : AHeap} {op : Op} {r : Option AV} (hq : evOp tb call tm h op = .q r) : evOp tb call' tm h op = .q r := by
 unfold evOp at hq ⊢
 cases op <;> simp only at hq ⊢ <;> first | exact hq | (simp at hq; done) | skip
 rename_i c
 unfold evCallOp at hq ⊢
 obtain ⟨callee, args, ts⟩ := c
 cases callee with
 | value f => simp at hq
 | invoke r m => exact hq
 | builtin b => cases b <;> simp only at hq ⊢ <;> first | exact hq | (simp at hq; done)

theorem restrict (tm : T AV) : ∀ ks : List Nat, ∃ tr : T AV, ∀ t, tr.get t = if t ∈ ks then tm.get t else none
 | [] => ⟨.leaf, fun t => by simp [T.get_leaf]⟩
 | k :: ks => by
  obtain ⟨tr, h⟩ := restrict tm ks
  cases hk : tm.get k with
  | none =>
   refine ⟨tr.del k, fun t => ?_⟩
   rw [T.get_del, h]
   by_cases e : t = k
   ·subst e; simp [hk]
   ·simp [e]
  | some v =>
   refine ⟨tr.set k v, fun t => ?_⟩
   rw [T.get_set, h]
   by_cases e : t = k
   ·subst e; simp [hk]
   ·simp [e]

theorem opnd_restrict {tr : T AV} {ks : List Nat} (h : ∀ t, tr.get t = if t ∈ ks then tm.get t else none) {x : Operand} (hx : ∀ t, x = .tmp t → t ∈ ks) : opnd tr x = opnd tm x := by
 cases x with
 | tmp t => simp only [opnd]; rw [h, if_pos (hx t rfl)]
 | const v => rfl
 | global g => rfl
 | func f => rfl
end congr

section trace
variable {tb : Tab} {call : Nat → List AV → AHeap → Option (AV × AHeap)} {n : Nat} {ops : List Oper}

structure Rec (tb : Tab) (call : Nat → List AV → AHeap → Option (AV × AHeap)) (n : Nat) (ops : List Oper) (i : Nat) (rest : List Oper) (tm : T AV) (h : AHeap)
  (es : List Ent) (ms : List (Nat × AHeap)) (tm' : T AV) (h' : AHeap) (S : Nat → T AV) (Hp : Nat → AHeap) (V : Nat → AV) (K : Nat → Nat) : Prop where
 s0 : S i = tm
 h0 : Hp i = h
 s1 : S (i + rest.length) = tm'
 h1 : Hp (i + rest.length) = h'
 step : ∀ k o, rest[k]? = some o → ev1 tb call ops (S (i + k)) (Hp (i + k)) o = some (V (i + k), Hp (i + k + 1), K (i + k)) ∧ putDst (S (i + k)) n o.dst (V (i + k)) = some (S (i + k + 1))
 mem : ∀ k o, rest[k]? = some o → (⟨i + k, o, S (i + k), V (i + k), K (i + k)⟩ : Ent) ∈ es
 of : ∀ e ∈ es, ∃ k o, rest[k]? = some o ∧ e = ⟨i + k, o, S (i + k), V (i + k), K (i + k)⟩
 mark : ∀ k, k < rest.length → K (i + k) = 2 → (i + k + 1, Hp (i + k + 1)) ∈ ms
 nomark : ms = [] → ∀ k, k < rest.length → K (i + k) ≠ 2

theorem trace_rec : ∀ {rest : List Oper} {i : Nat} {tm tm' : T AV} {h h' : AHeap} {es : List Ent} {ms : List (Nat × AHeap)},
  evTrace tb call n ops i rest tm h = some (es, ms, tm', h') → ∃ S Hp V K, Rec tb call n ops i rest tm h es ms tm' h' S Hp V K
 | [], i, tm, tm', h, h', es, ms, he => by
  simp only [evTrace, Option.some.injEq, Prod.mk.injEq] at he
  obtain ⟨rfl, rfl, rfl, rfl⟩ := he
  exact ⟨fun _ => tm, fun _ => h, fun _ => .nilp, fun _ => 0, rfl, rfl, rfl, rfl, by simp, by simp, by simp, by simp, by simp⟩
 | o :: rest, i, tm, tm', h, h', es, ms, he => by
  unfold evTrace at he
  split at he
  ·rename_i v h1 k he1
   split at he
   ·rename_i tm1 hp
    split at he
    ·rename_i es1 ms1 tm2 h2 ht
     simp only [Option.some.injEq, Prod.mk.injEq] at he
     obtain ⟨rfl, rfl, rfl, rfl⟩ := he
     obtain ⟨S, Hp, V, K, R⟩ := trace_rec ht
     have ne : ∀ k, i + (k + 1) ≠ i := fun k => by omega
     have sh : ∀ k, i + (k + 1) = i + 1 + k := fun k => by omega
     refine ⟨fun j => if j = i then tm else S j, fun j => if j = i then h else Hp j, fun j => if j = i then v else V j, fun j => if j = i then k else K j, by simp, by simp, ?_, ?_, ?_, ?_, ?_, ?_, ?_⟩
     ·simp only [List.length_cons]
      rw [if_neg (by omega), sh]
      exact R.s1
     ·simp only [List.length_cons]
      rw [if_neg (by omega), sh]
      exact R.h1
     ·intro q x hq
      cases q with
      | zero =>
       simp at hq
       subst hq
       have : ¬ (i + 1 = i) := by omega
       simp only [Nat.add_zero, if_true, this, if_false]
       rw [R.s0, R.h0]
       exact ⟨he1, hp⟩
      | succ q =>
       have := R.step q x (by simpa using hq)
       have e1 : ¬ (i + (q + 1) = i) := by omega
       have e2 : ¬ (i + (q + 1) + 1 = i) := by omega
       simp only [e1, e2, if_false]
       rw [sh]
       exact this
     ·intro q x hq
      cases q with
      | zero =>
       simp at hq
       subst hq
       simp
      | succ q =>
       have e1 : ¬ (i + (q + 1) = i) := by omega
       simp only [e1, if_false]
       rw [sh]
       exact List.mem_cons_of_mem _ (R.mem q x (by simpa using hq))
     ·intro e he
      rcases List.mem_cons.1 he with rfl | he
      ·exact ⟨0, o, rfl, by simp⟩
      ·obtain ⟨q, x, hq, hx⟩ := R.of e he
       refine ⟨q + 1, x, by simpa using hq, ?_⟩
       have e1 : ¬ (i + (q + 1) = i) := by omega
       simp only [e1, if_false]
       rw [sh]
       exact hx
     ·intro q hq hk
      cases q with
      | zero =>
       have : ¬ (i + 1 = i) := by omega
       simp only [Nat.add_zero, if_true] at hk
       simp only [Nat.add_zero, this, if_false, hk, if_true]
       rw [R.h0]
       exact List.mem_cons_self
      | succ q =>
       have e1 : ¬ (i + (q + 1) = i) := by omega
       have e2 : ¬ (i + (q + 1) + 1 = i) := by omega
       simp only [e1, if_false] at hk
       simp only [e2, if_false]
       rw [sh] at hk
       have := R.mark q (by simpa using hq) hk
       rw [show i + (q + 1) + 1 = i + 1 + q + 1 by omega]
       split
       ·exact List.mem_cons_of_mem _ this
       ·exact this
     ·intro hm q hq
      by_cases h2 : k = 2
      ·rw [if_pos h2] at hm; cases hm
      ·rw [if_neg h2] at hm
       cases q with
       | zero => simpa using h2
       | succ q =>
        have e1 : ¬ (i + (q + 1) = i) := by omega
        simp only [e1, if_false]
        rw [sh]
        exact R.nomark hm q (by simpa using hq)
    ·cases he
   ·cases he
  ·cases he
end trace

section ahead
theorem ahead_spec : ∀ (rest : List Oper) (acc : List Nat), (∀ k, k < acc.length → (aheadOf rest acc).getD k 0 = acc.getD k 0) ∧
  ∀ k o, rest[k]? = some o → (aheadOf rest acc).getD (acc.length + k) 0 =
   o.after.toList.foldl (fun s e => if bindsAny e then s ||| 2 ^ e.on ||| ((aheadOf rest acc).take (acc.length + k)).getD e.on 0 else s) 0 := by
 intro rest
 induction rest with
 | nil => intro acc; exact ⟨fun k hk => rfl, by simp⟩
 | cons o rest ih =>
  intro acc
  simp only [aheadOf]
  generalize hx : o.after.toList.foldl (fun s e => if bindsAny e then s ||| 2 ^ e.on ||| acc.getD e.on 0 else s) 0 = x
  obtain ⟨h1, h2⟩ := ih (acc ++ [x])
  have hlen : ∀ (l : List Oper) (a : List Nat), (aheadOf l a).length = a.length + l.length := by
   intro l
   induction l with
   | nil => intro a; simp [aheadOf]
   | cons y l ihl => intro a; simp only [aheadOf]; rw [ihl]; simp; omega
  have hpre : ∀ k, k < acc.length → (aheadOf rest (acc ++ [x])).getD k 0 = acc.getD k 0 := by
   intro k hk
   rw [h1 k (by simp; omega)]
   simp [List.getD, List.getElem?_append_left hk]
  refine ⟨hpre, fun k y hy => ?_⟩
  cases k with
  | zero =>
   simp at hy
   subst hy
   rw [Nat.add_zero, h1 _ (by simp)]
   have : (acc ++ [x]).getD acc.length 0 = x := by simp [List.getD]
   rw [this]
   refine hx.symm.trans ?_
   have htake : (aheadOf rest (acc ++ [x])).take acc.length = acc := by
    apply List.ext_getElem?
    intro q
    by_cases hq : q < acc.length
    ·rw [List.getElem?_take_of_lt hq]
     have := hpre q hq
     have l1 : q < (aheadOf rest (acc ++ [x])).length := by rw [hlen]; simp; omega
     simp only [List.getD, List.getElem?_eq_getElem l1, List.getElem?_eq_getElem hq, Option.getD_some] at this
     rw [List.getElem?_eq_getElem l1, List.getElem?_eq_getElem hq, this]
    ·rw [List.getElem?_eq_none (by simp; omega), List.getElem?_eq_none (by omega)]
   rw [htake]
  | succ k =>
   have := h2 k y (by simpa using hy)
   have e : (acc ++ [x]).length + k = acc.length + (k + 1) := by simp; omega
   rw [e] at this
   exact this

theorem foldl_bit (b : List Nat) (i : Nat) : ∀ (es : List Edge) (s : Nat), (es.foldl (fun s e => if bindsAny e then s ||| 2 ^ e.on ||| b.getD e.on 0 else s) s).testBit i = true →
  s.testBit i = true ∨ ∃ e ∈ es, bindsAny e = true ∧ (i = e.on ∨ (b.getD e.on 0).testBit i = true)
 | [], s, h => .inl h
 | e :: es, s, h => by
  simp only [List.foldl_cons] at h
  rcases foldl_bit b i es _ h with h | ⟨e', he', h'⟩
  ·split at h
   ·rename_i hb
    simp only [Nat.testBit_or, Bool.or_eq_true, Nat.testBit_two_pow, decide_eq_true_eq] at h
    rcases h with (h | h) | h
    ·exact .inl h
    ·exact .inr ⟨e, List.mem_cons_self, hb, .inl h.symm⟩
    ·exact .inr ⟨e, List.mem_cons_self, hb, .inr h⟩
   ·exact .inl h
  ·exact .inr ⟨e', List.mem_cons_of_mem _ he', h'⟩

theorem ahead_bit {ops : List Oper} {j i : Nat} {o : Oper} (ho : ops[j]? = some o) (h : ((aheadOf ops []).getD j 0).testBit i = true) :
  ∃ e ∈ o.after.toList, bindsAny e = true ∧ (i = e.on ∨ (e.on < j ∧ ((aheadOf ops []).getD e.on 0).testBit i = true)) := by
 have hs := (ahead_spec ops []).2 j o ho
 simp only [List.length_nil, Nat.zero_add] at hs
 rw [hs] at h
 rcases foldl_bit _ i _ 0 h with h | ⟨e, he, hb, h⟩
 ·simp at h
 ·refine ⟨e, he, hb, ?_⟩
  rcases h with h | h
  ·exact .inl h
  ·right
   by_cases hlt : e.on < j
   ·refine ⟨hlt, ?_⟩
    rw [List.getD, List.getElem?_take_of_lt hlt] at h
    exact h
   ·rw [List.getD, List.getElem?_eq_none (by simp; omega)] at h
    simp at h
end ahead
end Go.Proofs.YtmblgaehfjheeaaGreat.Ev
