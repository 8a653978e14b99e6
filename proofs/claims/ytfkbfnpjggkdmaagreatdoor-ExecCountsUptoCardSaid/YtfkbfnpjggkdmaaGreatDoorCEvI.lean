/- An evaluator of closed calls, part 9: any one operation. -/
import Derived.Test.YtfkbfnpjggkdmaaGreatDoorCEvW
namespace Go.Proofs.YtfkbfnpjggkdmaaGreatDoor.Ev
open Go.RowKit
variable {J : Ctx}

def gO (P : Program) (J : Ctx) (call : Nat -> List AV -> AHeap -> Option (AV × AHeap)) : Prop :=
 ∀ (M : Inj) (N : Nat -> Prop) (w0 : Base J) (h : AHeap) (w : World) (f : Nat) (args : List AV) (vs : Array Value) (v : AV) (h' : AHeap),
  call f args h = some (v, h') -> LRel M args vs.toList -> HRel M N w0 h w ->
  (∃ fn, P.funcs[f]? = some fn /\ fn.body.isSome = true /\ (fn.name == "runtime.NumGoroutine") = false) /\
  Calls P f vs w fun e w' => ∃ M' u, e = .returned u /\ M.le M' /\ HRel M' N w0 h' w' /\ VRel M' v u

section one
variable {P : Program} {tb : Tab} (H : TabOK P tb J) {M : Inj} {N : Nat -> Prop} {w0 : Base J} {tm : T AV} {h : AHeap} {a : Act} {w : World}

theorem EN {y : Operand} (h : mL y = true) : y = .const .nilIface := by
 unfold mL at h
 split at h
 ·rfl
 ·cases h
include H in
theorem BE (ht : TRel M tm a) {op : BinOp} {t : Nat} {x y : Operand} {u v : AV} (hy : mL y = true) (hx : aS tm x = some u) (hv : GW (tb.und t) op u = some v) :
  ∃ r, (do eqGuard op t x y (a.eval x) (a.eval y); binOp op t (a.eval x) (a.eval y) : Sem Value).run P w = .ok r w /\ VRel M v r := by
 have hy := EN hy
 subst hy
 have hr := eU ht hx
 have hev : a.eval (.const .nilIface) = .nilIface := rfl
 unfold GW at hv
 split at hv
 ·rename_i ms _ _ _ hd
  simp only [Option.some.injEq] at hv
  subst hv
  have hu := jy H hd
  generalize a.eval x = z at hr
  cases hr
  refine ⟨.bool true, ?_, .bool _⟩
  rw [hev]
  have hg : (eqGuard .eql t x (.const .nilIface) .nilIface .nilIface).run P w = .ok () w := by simp [eqGuard]
  have hd : ∀ d, (Op.equalIn (d + 1) t .nilIface .nilIface).run P w = .ok true w := by
   intro d
   simp [Op.equalIn, run_underlying hu]
  have he : (Op.equal t .nilIface .nilIface).run P w = .ok true w := hd 9999
  simp only [Sem.run_bind, hg, Result.andThen_ok]
  show (do pure (.bool (<- Op.equal t .nilIface .nilIface)) : Sem Value).run P w = _
  simp [he]
 ·rename_i ms _ _ _ hd
  simp only [Option.some.injEq] at hv
  subst hv
  have hu := jy H hd
  generalize a.eval x = z at hr
  cases hr
  refine ⟨.bool false, ?_, .bool _⟩
  rw [hev]
  have hg : (eqGuard .neq t x (.const .nilIface) .nilIface .nilIface).run P w = .ok () w := by simp [eqGuard]
  have hd : ∀ d, (Op.equalIn (d + 1) t .nilIface .nilIface).run P w = .ok true w := by
   intro d
   simp [Op.equalIn, run_underlying hu]
  have he : (Op.equal t .nilIface .nilIface).run P w = .ok true w := hd 9999
  simp only [Sem.run_bind, hg, Result.andThen_ok]
  show (do pure (.bool (!(<- Op.equal t .nilIface .nilIface))) : Sem Value).run P w = _
  simp [he]
 ·cases hv

theorem p9 (ht : TRel M tm a) {o : Oper} {x : Operand} (ho : o.op = .nilCheck x) {v : AV} (hv : dT tm x = some v) :
  ∃ u, (execOp a.eval o).run P w = .ok (.value u) w /\ VRel M v u := by
 unfold dT at hv
 split at hv
 ·rename_i b p hx
  simp only [Option.some.injEq] at hv
  subst hv
  have hr := eU ht hx
  obtain ⟨i, hi, he⟩ := gf hr
  refine ⟨a.eval x, ?_, hr⟩
  simp only [execOp, ho, he]
  rfl
 ·rename_i f l hx
  simp only [Option.some.injEq] at hv
  subst hv
  have hr := eU ht hx
  obtain ⟨fn, q1, q2, he⟩ := BU hr
  refine ⟨a.eval x, ?_, hr⟩
  simp only [execOp, ho, he]
  rfl
 ·cases hv

theorem oG (bad : ByteArray -> Sem (ForInStep ByteArray)) : ∀ {l : List AV} {us : List Value} {s : List Nat}, ka l = some s -> LRel M l us ->
  ∀ acc : ByteArray, ∃ r : ByteArray, (forIn us acc (fun c s => (match c with
   | .int .u8 n => pure (ForInStep.yield (s.push (UInt8.ofNat n.toNat)))
   | _ => bad s) : Value -> ByteArray -> Sem (ForInStep ByteArray))).run P w = .ok r w /\ r.toList.map UInt8.toNat = acc.toList.map UInt8.toNat ++ s
 | [], [], s, hs, hl, acc => by
  simp only [ka, Option.some.injEq] at hs
  subst hs
  exact ⟨acc, by simp, by simp⟩
 | a :: l, u :: us, s, hs, hl, acc => by
  have hu := hl.2 0 a u rfl rfl
  have hl' : LRel M l us := ⟨by have := hl.1; simpa using this, fun i v u a b => hl.2 (i + 1) v u (by simpa using a) (by simpa using b)⟩
  unfold ka at hs
  split at hs
  ·rename_i heq; cases heq
  ·rename_i n l' heq
   cases heq
   split at hs
   ·rename_i m hm
    simp only [Option.some.injEq] at hs
    subst hs
    rw [dU hu]
    obtain ⟨r, h1, h2⟩ := oG bad hm hl' (acc.push (UInt8.ofNat n))
    refine ⟨r, ?_, ?_⟩
    ·simp only [List.forIn_cons, Sem.run_bind, Sem.run_pure, Result.andThen_ok]
     exact h1
    ·rw [h2]
     have : (acc.push (UInt8.ofNat n)).toList = acc.toList ++ [UInt8.ofNat n] := by
      rw [ByteArray.toList_eq, ByteArray.toList_eq]; simp
     rw [this]
     simp
   ·cases hs
  ·cases hs
 | [], _ :: _, _, _, hl, _ => by have := hl.1; simp at this
 | _ :: _, [], _, _, hl, _ => by have := hl.1; simp at this

theorem yZ {l : List AV} {us : List Value} {s : List Nat} (hs : ka l = some s) (hl : LRel M l us) (F : Value -> ByteArray -> Sem (ForInStep ByteArray))
  (hF : ∃ bad : ByteArray -> Sem (ForInStep ByteArray), F = fun c s => match c with
   | .int .u8 n => pure (ForInStep.yield (s.push (UInt8.ofNat n.toNat)))
   | _ => bad s) : ∃ u, (((forIn us ByteArray.empty F : Sem ByteArray).run P w).andThen fun a w' => Sem.run P (pure (Value.string a)) w') = .ok u w /\ VRel M (.str s) u := by
 obtain ⟨bad, rfl⟩ := hF
 obtain ⟨r, r1, r2⟩ := oG (P := P) (w := w) bad hs hl .empty
 refine ⟨.string r, ?_, Hu (by rw [r2]; simp [ByteArray.toList_eq])⟩
 rw [r1]
 rfl

theorem sl {d : Option TypeDesc} (h : B7 d = true) : d = some (.int .u8) := by
 unfold B7 at h
 split at h
 ·rfl
 ·cases h

theorem tH (H : TabOK P tb J) (ht : TRel M tm a) (hh : HRel M N w0 h w) {s d : Nat} {x : Operand} {v : AV} (hv : ec tb tm h s d x = .q (some v)) :
  ∃ u, (convert s d (a.eval x)).run P w = .ok u w /\ VRel M v u := by
 unfold ec at hv
 split at hv
 ·rename_i e1 k k2 n h1 h2 hx
  simp only [Res.q.injEq, Option.some.injEq] at hv
  subst hv
  rw [dU (eU ht hx)]
  refine ⟨.int k (k.wrap n), ?_, by rw [cv]; exact .int _ _⟩
  simp only [convert, Sem.run_bind, aM H h1, aM H h2, Result.andThen_ok]
  rfl
 ·rename_i e1 r h1 h2 hx
  simp only [Res.q.injEq, Option.some.injEq] at hv
  subst hv
  have hr := eU ht hx
  obtain ⟨q, he, hq, hql⟩ := dW hr
  refine ⟨a.eval x, ?_, hr⟩
  rw [he]
  simp only [convert, Sem.run_bind, aM H h1, aM H h2, Result.andThen_ok]
  rfl
 ·rename_i k1 k2 b h1 h2 hx
  simp only [Res.q.injEq] at hv
  obtain ⟨j, n, he, hr⟩ := H.oc _ _ _ hv M _ hh.base (eU ht hx)
  rw [he]
  refine ⟨.int k2 (k2.wrap n), ?_, hr⟩
  simp only [convert, Sem.run_bind, aM H h1, aM H h2, Result.andThen_ok]
  rfl
 ·rename_i e h1 h2 hx
  split at hv
  ·rename_i hu
   have hu := sl hu
   simp only [Res.q.injEq, Option.some.injEq] at hv
   subst hv
   rw [g8 (eU ht hx)]
   refine ⟨.string .empty, ?_, .str _ _ (by rfl)⟩
   simp only [convert, Sem.run_bind, aM H h1, aM H h2, aM H hu, Result.andThen_ok]
   rfl
  ·cases hv
 ·rename_i e b o n sz h1 h2 hx
  split at hv
  ·rename_i hu
   have hu := sl hu
   simp only [Res.q.injEq] at hv
   unfold pK at hv
   split at hv
   ·rename_i ob hob hz
    have hz := Nat.eq_of_beq_eq_true hz
    subst hz
    split at hv
    ·rename_i l hs
     split at hv
     ·rename_i q hq
      simp only [Option.some.injEq] at hv
      subst hv
      obtain ⟨i, cap, p, hi, hz1, hcap, hm, hp, he⟩ := fI (eU ht hx)
      obtain ⟨us, g1, g2, g3⟩ := (hh.readAt hob hi (f8 (eU ht hx) hi)).cells hi hs
      have hload : (loadCells p n).run P w = .ok us.toArray w := by
       rcases hp with hp | hp
       ·rw [hp, hz1, Nat.mul_one]
        exact mR g1 g3
       ·have h0 : n = 0 := by omega
        subst h0
        have hus : us = [] := List.eq_nil_of_length_eq_zero g1
        subst hus
        simp [loadCells, loadCellsFrom]
      rw [he]
      simp only [convert, Sem.run_bind, aM H h1, aM H h2, aM H hu, Result.andThen_ok, Conv.bytesToString, hload, List.forIn_toArray]
      exact yZ hq g2 _ ⟨_, rfl⟩
     ·cases hv
    ·cases hv
   ·cases hv
  ·cases hv
 ·split at hv <;> cases hv
 ·cases hv


theorem p5 (ht : TRel M tm a) {fn : Fn} {first captured : Array Operand} {v : AV} (hv : c9 tm fn first captured = some v) :
  ∃ u, (Instr.makeFunc fn (first.map a.eval) (captured.map a.eval)).run P w = .ok u w /\ VRel M v u := by
 unfold c9 at hv
 split at hv
 ·rename_i f l hf hl
  split at hv
  rotate_left
  ·cases hv
  rename_i hb
  simp only [Option.some.injEq] at hv
  subst hv
  have h1 : first = #[] := by
   apply Array.ext'
   simpa using hf
  subst h1
  have hr := gy ht hl
  refine ⟨.func (.func f) #[] (captured.map a.eval), by simp [Instr.makeFunc], .func f l _ (by have := hr.1; simpa using this) (fun i v u p q => hr.2 i v u p (by simpa using q))⟩
 ·rename_i f y hf hl
  split at hv
  ·rename_i x hx
   simp only [Option.some.injEq] at hv
   subst hv
   have h1 : first = #[y] := by
    apply Array.ext'
    simpa using hf
   have hr := gy ht hl
   have h2 : captured = #[] := by have := hr.1; simpa using this
   subst h1 h2
   exact ⟨.func (.func f) #[a.eval y] #[], by simp [Instr.makeFunc], .meth f x _ (eU ht hx)⟩
  ·cases hv
 ·cases hv

theorem zE (ht : TRel M tm a) {c x y : Operand} {v : AV} (hv : gV tm c x y = some v) :
  ∃ u, (do pure (.value (if <- asBool (a.eval c) then a.eval x else a.eval y)) : Sem Next).run P w = .ok (.value u) w /\ VRel M v u := by
 unfold gV at hv
 split at hv
 ·rename_i hc
  rw [gm (eU ht hc)]
  exact ⟨_, by simp [asBool], eU ht hv⟩
 ·rename_i hc
  rw [gm (eU ht hc)]
  exact ⟨_, by simp [asBool], eU ht hv⟩
 ·cases hv

theorem lO (H : TabOK P tb J) (ht : TRel M tm a) (hh : HRel M N w0 h w) {call : Nat -> List AV -> AHeap -> Option (AV × AHeap)} {o : Oper} {v : AV}
  (hq : cO tb call tm h o.op = .q (some v)) : ∃ u, (execOp a.eval o).run P w = .ok (.value u) w /\ VRel M v u := by
 have lift : ∀ {s : Sem Value}, (∃ u, s.run P w = .ok u w /\ VRel M v u) -> ∃ u, (do pure (.value (<- s)) : Sem Next).run P w = .ok (.value u) w /\ VRel M v u := by
  rintro s ⟨u, h1, h2⟩
  exact ⟨u, by simp [h1], h2⟩
 obtain ⟨dst, op, type, pos, after, guard⟩ := o
 unfold cO at hq
 simp only at hq
 split at hq <;> first | (simp at hq; done) | skip
 ·-- move
  simp only [Res.q.injEq] at hq
  exact ⟨_, rfl, eU ht hq⟩
 ·simp only [Res.q.injEq] at hq
  exact ⟨_, rfl, eU ht hq⟩
 ·simp only [Res.q.injEq] at hq
  exact zE ht hq
 ·simp only [Res.q.injEq] at hq
  exact lift (vk H ht hq)
 ·-- load
  rename_i t x
  simp only [Res.q.injEq] at hq
  unfold iK at hq
  split at hq
  ·rename_i b p hp
   obtain ⟨i, hi, he⟩ := gf (eU ht hp)
   refine lift ?_
   rw [he]
   simp only [Instr.loadAt, Instr.sureAddr, Sem.run_bind, Sem.run_pure, Result.andThen_ok]
   exact yf H hh hq hi (jv (eU ht hp) hi)
  ·cases hq
 ·simp only [Res.q.injEq] at hq
  exact p9 ht rfl hq
 ·-- binOp
  rename_i op t x y yt
  simp only [Res.q.injEq] at hq
  unfold ir at hq
  split at hq
  ·rename_i hy
   split at hq
   ·rename_i v hv
    exact lift (BE H ht hy hv hq)
   ·cases hq
  split at hq
  ·rename_i p q hp hq'
   exact lift (Bz H hh.base (eU ht hp) (eU ht hq') hq x y w)
  ·cases hq
 ·simp only [Res.q.injEq] at hq
  exact lift (zH ht hq)
 ·exact lift (tH H ht hh hq)
 ·simp only [Res.q.injEq] at hq
  exact lift (p5 ht hq)
 ·simp only [Res.q.injEq] at hq
  exact lift (vy H ht hh hq)
 ·simp only [Res.q.injEq] at hq
  exact lift (oU H ht hq)
 ·simp only [Res.q.injEq] at hq
  exact lift (vo H ht hq)
 ·simp only [Res.q.injEq] at hq
  exact lift (oW H ht hq)
 ·simp only [Res.q.injEq] at hq
  exact lift (vt H ht hq)
 ·simp only [Res.q.injEq] at hq
  exact lift (rT ht hq)
 ·-- calls
  rename_i c
  obtain ⟨callee, args, argTypes⟩ := c
  unfold gq at hq
  simp only at hq
  split at hq <;> first | (simp at hq; done) | skip
  ·simp only [Res.q.injEq] at hq
   obtain ⟨u, h1, h2⟩ := BC (P := P) (w := w) H ht type hq
   exact ⟨u, by simp only [execOp, resolve, Sem.run_bind, Sem.run_pure, Result.andThen_ok, invoke, builtin, h1], h2⟩
  ·simp only [Res.q.injEq] at hq
   obtain ⟨u, h1, h2⟩ := nh (P := P) (w := w) ht false argTypes type hq
   simp only [Bool.false_eq_true, if_false] at h1
   exact ⟨u, by simp only [execOp, resolve, Sem.run_bind, Sem.run_pure, Result.andThen_ok, invoke, builtin, h1], h2⟩
  ·simp only [Res.q.injEq] at hq
   obtain ⟨u, h1, h2⟩ := nh (P := P) (w := w) ht true argTypes type hq
   simp only [if_true] at h1
   exact ⟨u, by simp only [execOp, resolve, Sem.run_bind, Sem.run_pure, Result.andThen_ok, invoke, builtin, h1], h2⟩
 ·simp only [Res.q.injEq] at hq
  exact lift (tI H ht hh hq)

theorem zZ (H : TabOK P tb J) (ht : TRel M tm a) (hh : HRel M N w0 h w) {call : Nat -> List AV -> AHeap -> Option (AV × AHeap)} (hcall : gO P J call) {dst : Option Nat} {type : TypeId} {pos : String} {after : Array Edge} {guard : Option (Nat × Bool)} {f : Operand} {args : Array Operand} {argTypes : Array TypeId} {g : Nat} {caps l : List AV} {v : AV} {h' : AHeap}
  (hg : aS tm f = some (.func g caps)) (hl : cC tm args.toList = some l) {x : AV} (hgb : fM caps = some x) (hq : call g (x :: l) h = some (v, h')) {next : Act -> World -> Prop} {Q : Exit -> Act -> World -> Prop}
  (hn : ∀ M' u w', M.le M' -> HRel M' N w0 h' w' -> VRel M' v u -> next (a.put dst u) w') : Oper.wp P { dst, op := .call { callee := .value f, args, argTypes }, type, pos, after, guard } a w next Q := by
 obtain ⟨u0, he, hx⟩ := t5 (eU ht hg) hgb
 have hargs := gy ht hl
 have hall : LRel M (x :: l) (#[u0] ++ args.map a.eval).toList := by
  have := LRel.cons hx hargs
  simpa using this
 obtain ⟨⟨fn, hf, hb, hname⟩, hc⟩ := hcall M N w0 h w _ (x :: l) _ v h' hq hall hh
 have hrun : (execOp a.eval { dst, op := .call { callee := .value f, args, argTypes }, type, pos, after, guard }).run P w = .ok (.enter g (#[u0] ++ args.map a.eval)) w := by
  have hb2 : fn.body.isNone = false := by cases hbb : fn.body <;> simp_all
  simp only [execOp, resolve, Sem.run_bind, he, Deferred.ofValue, Sem.run_pure, Result.andThen_ok, invoke, callFunc, run_program, hf, hname, Bool.false_eq_true, if_false, hb2, Array.append_empty]
 unfold Oper.wp
 rw [hrun, Oper.upon_enter]
 refine hc.mono ?_
 rintro e w' ⟨M', u, rfl, h1, h2, h3⟩
 exact hn M' u w' h1 h2 h3

theorem nX (H : TabOK P tb J) (ht : TRel M tm a) (hh : HRel M N w0 h w) {call : Nat -> List AV -> AHeap -> Option (AV × AHeap)} (hcall : gO P J call) {o : Oper} {v : AV} {h' : AHeap}
  (hq : cO tb call tm h o.op = .l (some (v, h'))) {next : Act -> World -> Prop} {Q : Exit -> Act -> World -> Prop}
  (hn : ∀ M' u w', M.le M' -> HRel M' N w0 h' w' -> VRel M' v u -> next (a.put o.dst u) w') : o.wp P a w next Q := by
 have lift : ∀ {s : Sem Value}, (execOp a.eval o).run P w = (do pure (.value (<- s)) : Sem Next).run P w -> im P M N w0 s w v h' -> o.wp P a w next Q := by
  rintro s he ⟨u, M', w', h1, h2, h3, h4⟩
  unfold Oper.wp
  rw [he]
  simp only [Sem.run_bind, h1, Result.andThen_ok, Sem.run_pure, Oper.upon_value]
  exact hn M' u w' h2 h3 h4
 obtain ⟨dst, op, type, pos, after, guard⟩ := o
 unfold cO at hq
 simp only at hq
 split at hq <;> first | (simp at hq; done) | skip
 ·simp only [Res.l.injEq] at hq
  exact lift rfl (vh H hh hq)
 ·simp only [Res.l.injEq] at hq
  exact lift rfl (BA hh ht hq)
 ·simp only [Res.l.injEq] at hq
  exact lift rfl (nF H hh ht hq)
 ·-- store
  simp only [Res.l.injEq] at hq
  obtain ⟨rfl, w', h1, h2⟩ := vA H hh ht hq
  unfold Oper.wp
  simp only [execOp, Sem.run_bind, h1, Result.andThen_ok, Sem.run_pure, Oper.upon_skip]
  exact hn M undef w' (Inj.le_refl M) h2 (.tuple [] #[] rfl (fun i v u p => by simp at p))
 ·-- convert
  rename_i s d x
  unfold ec at hq
  split at hq <;> first | (simp at hq; done) | (split at hq <;> simp at hq; done) | skip
  rename_i e r h1 h2 hx
  split at hq
  ·rename_i hu
   have hu := sl hu
   simp only [Res.l.injEq, Option.some.injEq, Prod.mk.injEq] at hq
   obtain ⟨rfl, rfl⟩ := hq
   obtain ⟨q, he, hs, hl⟩ := dW (eU ht hx)
   have hg := v5 (P := P) hh e hs
   refine lift (s := Conv.stringToBytes e q) ?_ hg
   simp only [execOp, he]
   simp only [convert, Sem.run_bind, aM H h1, aM H h2, aM H hu, Result.andThen_ok]
  ·simp at hq
 ·simp only [Res.l.injEq] at hq
  exact lift rfl (oY H hh ht hq)
 ·-- calls
  rename_i c
  obtain ⟨callee, args, argTypes⟩ := c
  unfold gq at hq
  simp only at hq
  split at hq <;> first | (simp at hq; done) | skip
  ·-- a function's value
   rename_i f
   simp only [Res.l.injEq] at hq
   unfold bT at hq
   split at hq
   ·rename_i g caps l hg hl
    split at hq
    rotate_left
    ·rename_i x hgb
     exact zZ H ht hh hcall hg hl hgb hq hn
    rename_i hgb
    obtain ⟨cs, he, hcs⟩ := pc (eU ht hg) hgb
    have hargs := gy ht hl
    have hall : LRel M (l ++ caps) ((args.map a.eval) ++ cs).toList := by
     have := hargs.append hcs
     simpa using this
    obtain ⟨⟨fn, hf, hb, hname⟩, hc⟩ := hcall M N w0 h w g (l ++ caps) _ v h' hq hall hh
    have hrun : (execOp a.eval { dst, op := .call { callee := .value f, args, argTypes }, type, pos, after, guard }).run P w = .ok (.enter g ((args.map a.eval) ++ cs)) w := by
     have hb2 : fn.body.isNone = false := by cases hbb : fn.body <;> simp_all
     simp only [execOp, resolve, Sem.run_bind, he, Deferred.ofValue, Sem.run_pure, Result.andThen_ok, invoke, callFunc, run_program, hf, hname, Bool.false_eq_true, if_false, hb2, Array.empty_append]
    unfold Oper.wp
    rw [hrun, Oper.upon_enter]
    refine hc.mono ?_
    rintro e w' ⟨M', u, rfl, h1, h2, h3⟩
    exact hn M' u w' h1 h2 h3
   ·cases hq
  ·-- append
   simp only [Res.l.injEq] at hq
   unfold cq at hq
   split at hq
   ·rename_i t t2 rest s x hts hargs
    have hl := gy ht hargs
    have e0 : argTypes[0]? = some t := by
     have : argTypes.toList[0]? = some t := by rw [hts]; rfl
     simpa using this
    have e1 : argTypes[1]? = some t2 := by
     have : argTypes.toList[1]? = some t2 := by rw [hts]; rfl
     simpa using this
    obtain ⟨sv, hs1, hs2⟩ := hl.get (i := 0) (v := s) rfl
    obtain ⟨xv, hx1, hx2⟩ := hl.get (i := 1) (v := x) rfl
    have f0 : (args.map a.eval)[0]? = some sv := by simpa using hs1
    have f1 : (args.map a.eval)[1]? = some xv := by simpa using hx1
    refine lift (s := Builtin.append_ argTypes type (args.map a.eval)) ?_ (uW H hh type e0 e1 f0 f1 hs2 hx2 hq)
    simp only [execOp, resolve, Sem.run_bind, Sem.run_pure, Result.andThen_ok, invoke, builtin]
   ·cases hq
  ·-- copy
   simp only [Res.l.injEq] at hq
   unfold jI at hq
   split at hq
   ·rename_i t rest s x hts hargs
    have hl := gy ht hargs
    have e0 : argTypes[0]? = some t := by
     have : argTypes.toList[0]? = some t := by rw [hts]; rfl
     simpa using this
    obtain ⟨sv, hs1, hs2⟩ := hl.get (i := 0) (v := s) rfl
    obtain ⟨xv, hx1, hx2⟩ := hl.get (i := 1) (v := x) rfl
    have f0 : (args.map a.eval)[0]? = some sv := by simpa using hs1
    have f1 : (args.map a.eval)[1]? = some xv := by simpa using hx1
    refine lift (s := Builtin.copy_ argTypes type (args.map a.eval)) ?_ (Bp H hh type e0 f0 f1 hs2 hx2 hq)
    simp only [execOp, resolve, Sem.run_bind, Sem.run_pure, Result.andThen_ok, invoke, builtin]
   ·cases hq
 ·simp only [Res.l.injEq] at hq
  exact lift rfl (rY H ht hh hq)
 ·simp only [Res.l.injEq] at hq
  obtain ⟨rfl, w', h1, h2⟩ := o3 H ht hh hq
  unfold Oper.wp
  simp only [execOp, Sem.run_bind, h1, Result.andThen_ok, Sem.run_pure, Oper.upon_skip]
  exact hn M undef w' (Inj.le_refl M) h2 (.tuple [] #[] rfl (fun i v u p => by simp at p))
 ·simp only [Res.l.injEq] at hq
  exact lift rfl (p7 H ht hh hq)
 ·rename_i t m s x
  simp only [Res.l.injEq] at hq
  obtain ⟨rfl, w', h1, h2⟩ := nH (P := P) (t := t) ht hh hq
  unfold Oper.wp
  simp only [execOp, Sem.run_bind, h1, Result.andThen_ok, Sem.run_pure, Oper.upon_skip]
  exact hn M undef w' (Inj.le_refl M) h2 (.tuple [] #[] rfl (fun i v u p => by simp at p))
end one
end Go.Proofs.YtfkbfnpjggkdmaaGreatDoor.Ev
