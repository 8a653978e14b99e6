/- An evaluator of closed calls, part 10: regions. -/
import Derived.Test.YtfkbfnpjggkdmaaGreatDoorCEvI
import Derived.Orders
namespace Go.Proofs.YtfkbfnpjggkdmaaGreatDoor.Ev
open Go.RowKit
variable {J : Ctx}

theorem wB (a b : AV) (h : d6 a b = true) : a = b := by
 unfold d6 at h
 split at h <;> simp_all
theorem nL {f : AV -> AV -> Bool} (hf : ∀ a b, f a b = true -> a = b) : ∀ (l m : List AV), dO f l m = true -> l = m
 | [], [], _ => rfl
 | [], _ :: _, h => by simp [dO] at h
 | _ :: _, [], h => by simp [dO] at h
 | a :: l, b :: m, h => by
  simp only [dO, Bool.and_eq_true] at h
  rw [hf a b h.1, nL hf l m h.2]
theorem wy (a b : AV) (h : dF a b = true) : a = b := by
 unfold dF at h
 split at h
 ·simp only [Bool.and_eq_true, beq_iff_eq] at h
  rw [h.1, nL wB _ _ h.2]
 ·exact wB _ _ h
theorem wz (a b : AV) (h : dG a b = true) : a = b := by
 unfold dG at h
 split at h
 ·rw [nL wy _ _ h]
 ·exact wy _ _ h
theorem oE (a b : AV) (h : AV.beq a b = true) : a = b := by
 unfold AV.beq at h
 split at h
 ·rw [nL wz _ _ h]
 ·exact wz _ _ h

section slots
variable {P : Program} {tb : Tab} {M : Inj} {tm tm' : T AV} {a : Act} {n : Nat}

theorem ia (a : Act) (d : Option Tmp) (u : Value) : (a.put d u).tmps.size = a.tmps.size := by
 cases d <;> simp [Act.put]
theorem iA (a : Act) (d : Option Tmp) (u : Value) : (a.put d u).defers = a.defers := by
 cases d <;> simp [Act.put]
theorem lN (a : Act) (d : Option Tmp) (u : Value) (t : Nat) (ht : ∀ x, d = some x -> x < a.tmps.size) :
  (a.put d u).tmps.getD t undef = if d = some t then u else a.tmps.getD t undef := by
 cases d with
 | none => simp [Act.put]
 | some x =>
  by_cases h : x = t
  ·subst h
   have := ht x rfl
   simp [Act.put, this]
  ·simp [Act.put, h, Array.getElem?_setIfInBounds_ne h]
theorem eI {d : Option Nat} {v : AV} (h : bE tm n d v = some tm') : (∀ x, d = some x -> x < n) /\ ∀ t, tm'.get t = if d = some t then some v else tm.get t := by
 unfold bE at h
 split at h
 ·simp only [Option.some.injEq] at h
  subst h
  exact ⟨fun x hx => (by cases hx), fun t => (by simp)⟩
 ·rename_i x
  split at h
  ·rename_i hb
   simp only [Option.some.injEq] at h
   subst h
   rw [Nat.blt_eq] at hb
   refine ⟨fun y hy => (by cases hy; exact hb), fun t => ?_⟩
   rw [az]
   by_cases ht : t = x
   ·subst ht; simp
   ·have : ¬ x = t := fun e => ht e.symm
    simp [ht, this]
  ·cases h
theorem TRel.put {M' : Inj} (hM : M.le M') (ht : TRel M tm a) (hs : a.tmps.size = n) {d : Option Nat} {v : AV} {u : Value} (h : bE tm n d v = some tm') (hv : VRel M' v u) : TRel M' tm' (a.put d u) := by
 obtain ⟨h1, h2⟩ := eI h
 intro t x hx
 rw [lN a d u t (fun x hx => by rw [hs]; exact h1 x hx)]
 rw [h2] at hx
 split at hx
 ·rename_i he
  rw [if_pos he]
  cases hx
  exact hv
 ·rename_i he
  rw [if_neg he]
  exact (ht t x hx).mono hM

theorem cc {ops : Array Oper} (ht : TRel M tm a) {o : Oper} {b : Bool} (h : aK ops.toList tm o = some b) : Region.wanted o (yielded ops a.tmps) = b := by
 unfold aK at h
 unfold Region.wanted
 split at h
 ·rename_i hg
  rw [hg]
  simpa using h
 ·rename_i j want hg
  rw [hg]
  simp only
  split at h
  ·rename_i oj hoj
   have hoj' : ops[j]? = some oj := by simpa using hoj
   split at h
   ·rename_i d hd
    split at h
    ·rename_i x hx
     simp only [Option.some.injEq] at h
     subst h
     have hr := gm (ht d _ hx)
     have : a.tmps[d]? = some (.bool x) := by
      cases hq : a.tmps[d]? with
      | none => simp [hq, undef] at hr
      | some y => simp [hq] at hr; rw [hr]
     simp only [yielded, hoj', Option.bind_some, hd, this]
     cases x <;> cases want <;> rfl
    ·rename_i hx
     simp only [Option.some.injEq] at h
     subst h
     obtain ⟨cs, hr, _⟩ := mX (ht d _ hx)
     have : yielded ops a.tmps j = none := by
      simp only [yielded, hoj', Option.bind_some, hd]
      cases hq : a.tmps[d]? with
      | none => rfl
      | some y => simp [hq] at hr; subst hr; rfl
     rw [this]
     cases want <;> rfl
    ·cases h
   ·cases h
  ·cases h
end slots

section one
variable {P : Program} {tb : Tab} (H : TabOK P tb J) {M : Inj} {N : Nat -> Prop} {w0 : Base J} {tm : T AV} {h : AHeap} {a : Act} {w : World} {n : Nat}
 {call : Nat -> List AV -> AHeap -> Option (AV × AHeap)} (hcall : gO P J call)
include H hcall

theorem By {ops : Array Oper} {Q : Exit -> Act -> World -> Prop} (ht : TRel M tm a) (hh : HRel M N w0 h w) {i : Nat} {o : Oper} (ho : ops[i]? = some o) {v : AV} {h' : AHeap} {k : Nat}
  (he : fT tb call ops.toList tm h o = some (v, h', k)) {K : Act -> World -> Prop}
  (hn : ∀ M' u w', M.le M' -> HRel M' N w0 h' w' -> VRel M' v u -> K (a.put o.dst u) w') : wpOp P ops Q i K a w := by
 unfold fT at he
 unfold wpOp
 simp only [ho]
 split at he
 ·rename_i hw
  rw [cc ht hw, if_pos rfl]
  refine .inl ?_
  split at he
  ·rename_i v' h'' hq
   simp only [Option.some.injEq, Prod.mk.injEq] at he
   obtain ⟨rfl, rfl, rfl⟩ := he
   exact nX H ht hh hcall hq hn
  ·rename_i v' hq
   simp only [Option.some.injEq, Prod.mk.injEq] at he
   obtain ⟨rfl, rfl, rfl⟩ := he
   obtain ⟨u, h1, h2⟩ := lO H ht hh hq
   unfold Oper.wp
   rw [h1, Oper.upon_value]
   exact hn M u w (Inj.le_refl M) hh h2
  ·cases he
 ·rename_i hw
  rw [cc ht hw]
  simp only [Bool.false_eq_true, if_false]
  simp only [Option.some.injEq, Prod.mk.injEq] at he
  obtain ⟨rfl, rfl, rfl⟩ := he
  exact hn M undef w (Inj.le_refl M) hh (.tuple [] #[] rfl (fun i v u p => by simp at p))
 ·cases he

theorem tM {ops : Array Oper} {Q : Exit -> Act -> World -> Prop} : ∀ {rest : List Oper} {i : Nat} {M : Inj} {tm tm' : T AV} {h h' : AHeap} {a : Act} {w : World},
  (∀ k o, rest[k]? = some o -> ops[i + k]? = some o) -> TRel M tm a -> a.tmps.size = n -> HRel M N w0 h w -> db tb call n ops.toList rest tm h = some (tm', h') ->
  (∀ M' a' w', M.le M' -> TRel M' tm' a' -> a'.tmps.size = n -> a'.defers = a.defers -> HRel M' N w0 h' w' -> Q .normal a' w') ->
  wpOps P ops Q (List.range' i rest.length) a w
 | [], i, M, tm, tm', h, h', a, w, hr, ht, hs, hh, he, hn => by
  simp only [db, Option.some.injEq, Prod.mk.injEq] at he
  obtain ⟨rfl, rfl⟩ := he
  exact hn M a w (Inj.le_refl M) ht hs rfl hh
 | o :: rest, i, M, tm, tm', h, h', a, w, hr, ht, hs, hh, he, hn => by
  unfold db at he
  simp only [List.length_cons, List.range'_succ]
  rw [wpOps_cons]
  split at he
  ·rename_i v h1 k he1
   split at he
   ·rename_i tm1 hp
    refine By H hcall ht hh (by simpa using hr 0 o rfl) he1 (fun M' u w' hM hh' hv => ?_)
    refine tM (fun k o hk => ?_) (ht.put hM hs hp hv) (by rw [ia]; exact hs) hh' he (fun M2 a2 w2 hM2 ht2 hs2 hd2 hh2 => ?_)
    ·have := hr (k + 1) o (by simpa using hk)
     rw [show i + 1 + k = i + (k + 1) by omega]
     exact this
    ·exact hn M2 a2 w2 (Inj.le_trans hM hM2) ht2 hs2 (by rw [hd2, iA]) hh2
   ·cases he
  ·cases he
end one
variable {J : Ctx}

section congr
variable {tb : Tab} {tm tm' : T AV}

theorem jR : ∀ {l : List Operand}, (∀ x ∈ l, aS tm x = aS tm' x) -> cC tm l = cC tm' l
 | [], _ => rfl
 | x :: l, h => by
  unfold cC
  rw [h x (List.mem_cons_self), jR fun y hy => h y (List.mem_cons_of_mem _ hy)]
theorem fq : ∀ {l : List (Nat × Operand)}, (∀ p ∈ l, aS tm p.2 = aS tm' p.2) -> bK tm l = bK tm' l
 | [], _ => rfl
 | (i, x) :: l, h => by
  unfold bK
  rw [h (i, x) (List.mem_cons_self), fq fun y hy => h y (List.mem_cons_of_mem _ hy)]
theorem rF {len : Nat} {lo hi : Option Operand} (h1 : ∀ x, lo = some x -> aS tm x = aS tm' x) (h2 : ∀ x, hi = some x -> aS tm x = aS tm' x) :
  cH tm len lo hi = cH tm' len lo hi := by
 unfold cH
 cases lo with
 | none =>
  cases hi with
  | none => rfl
  | some y => simp only [h2 y rfl]
 | some x =>
  cases hi with
  | none => simp only [h1 x rfl]
  | some y => simp only [h1 x rfl, h2 y rfl]

theorem fW {call : Nat -> List AV -> AHeap -> Option (AV × AHeap)} {h : AHeap} {op : Op} (hx : ∀ x ∈ op.operands, aS tm x = aS tm' x) :
  cO tb call tm h op = cO tb call tm' h op := by
 unfold cO
 cases op <;> simp only [Op.operands] at hx <;> try rfl
 case move x => simp only; rw [hx x (by simp)]
 case assign x => simp only; rw [hx x (by simp)]
 case pick c x y => simp only; unfold gV; rw [hx c (by simp), hx x (by simp), hx y (by simp)]
 case box t x => simp only; unfold lD; rw [hx x (by simp)]
 case build t ps => simp only; unfold gH; rw [fq (tm := tm) (tm' := tm') fun p hp => hx p.2 (by simp; exact ⟨p.1, by simpa using hp⟩)]
 case buildSlice t n ps => simp only; unfold cQ; rw [fq (tm := tm) (tm' := tm') fun p hp => hx p.2 (by simp; exact ⟨p.1, by simpa using hp⟩)]
 case load t x => simp only; unfold iK; rw [hx x (by simp)]
 case store t x y => simp only; unfold dw; rw [hx x (by simp), hx y (by simp)]
 case nilCheck x => simp only; unfold dT; rw [hx x (by simp)]
 case binOp o t x y u => simp only; unfold ir; rw [hx x (by simp), hx y (by simp)]
 case unOp o t x => simp only; unfold gW; rw [hx x (by simp)]
 case convert s d x => simp only; unfold ec; rw [hx x (by simp)]
 case makeFunc fn first captured =>
  simp only
  unfold c9
  rw [jR (tm := tm) (tm' := tm') fun p hp => hx p (by simp; exact .inr (by simpa using hp))]
  have hy : ∀ y, first.toList = [y] -> aS tm y = aS tm' y := fun y e => hx y (by
   have : y ∈ first.toList := by rw [e]; exact List.mem_singleton.2 rfl
   simp; exact .inl (by simpa using this))
  generalize cC tm' captured.toList = q
  generalize first.toList = p at hy
  cases fn with
  | func f =>
   rcases q with _ | (_ | ⟨_, _⟩) <;> rcases p with _ | ⟨y, _ | ⟨z, r⟩⟩ <;> first | rfl | simp only [hy _ rfl]
  | _ => rfl
 case makeSlice t l c => simp only; unfold dt; rw [hx l (by simp), hx c (by simp)]
 case slice t x lo hi mx =>
  have hb : ∀ len, cH tm len lo hi = cH tm' len lo hi := fun len => rF (fun y hy => hx y (by subst hy; simp)) (fun y hy => hx y (by subst hy; simp))
  simp only
  unfold eR
  rw [hx x (by simp)]
  unfold jW ii jV
  simp only [hb]
 case fieldAddr s x f => simp only; unfold dq; rw [hx x (by simp)]
 case field s x f => simp only; unfold jj; rw [hx x (by simp)]
 case indexAddr t x i => simp only; unfold dr; rw [hx x (by simp), hx i (by simp)]
 case index t x i => simp only; unfold gI; rw [hx x (by simp), hx i (by simp)]
 case extract x i => simp only; unfold eP; rw [hx x (by simp)]
 case lookup t x i ok => simp only; unfold eG; rw [hx x (by simp), hx i (by simp)]
 case makeMap t r =>
  simp only
  unfold dI
  cases r with
  | none => rfl
  | some x => simp only [hx x (by simp)]
 case mapUpdate t m k v => simp only; unfold du; rw [hx m (by simp), hx k (by simp), hx v (by simp)]
 case mapEntry t m k => simp only; unfold da; rw [hx m (by simp), hx k (by simp)]
 case entryStore t m s v => simp only; unfold cU; rw [hx m (by simp), hx s (by simp), hx v (by simp)]
 case call c =>
  obtain ⟨callee, args, ts⟩ := c
  simp only [Call.operands] at hx
  have hargs : cC tm args.toList = cC tm' args.toList := jR fun p hp => hx p (by simp; exact .inr (by simpa using hp))
  simp only
  unfold gq
  cases callee with
  | value f =>
   simp only
   unfold bT
   rw [hx f (by simp), hargs]
  | invoke r m => rfl
  | builtin b =>
   cases b <;> simp only
   case len =>
    unfold lE
    cases ts.toList with
    | nil => rfl
    | cons t tl =>
     cases hl : args.toList with
     | nil => rfl
     | cons y l =>
      cases l with
      | nil =>
       have : y ∈ args.toList := by rw [hl]; simp
       have hy := hx y (by simp; simpa using this)
       simp only [hy]
      | cons z l => rfl
   case append => unfold cq; rw [hargs]
   case copy => unfold jI; rw [hargs]
   case min => unfold dJ; rw [hargs]
   case max => unfold dJ; rw [hargs]

theorem qy {call call' : Nat -> List AV -> AHeap -> Option (AV × AHeap)} {h : AHeap} {op : Op} {r : Option AV} (hq : cO tb call tm h op = .q r) : cO tb call' tm h op = .q r := by
 unfold cO at hq ⊢
 cases op <;> simp only at hq ⊢ <;> first | exact hq | (simp at hq; done) | skip
 rename_i c
 unfold gq at hq ⊢
 obtain ⟨callee, args, ts⟩ := c
 cases callee with
 | value f => simp at hq
 | invoke r m => exact hq
 | builtin b => cases b <;> simp only at hq ⊢ <;> first | exact hq | (simp at hq; done)

theorem lQ (tm : T AV) : ∀ ks : List Nat, ∃ tr : T AV, ∀ t, tr.get t = if t ∈ ks then tm.get t else none
 | [] => ⟨.leaf, fun t => by simp [bG]⟩
 | k :: ks => by
  obtain ⟨tr, h⟩ := lQ tm ks
  cases hk : tm.get k with
  | none =>
   refine ⟨tr.del k, fun t => ?_⟩
   rw [iR, h]
   by_cases e : t = k
   ·subst e; simp [hk]
   ·simp [e]
  | some v =>
   refine ⟨tr.set k v, fun t => ?_⟩
   rw [az, h]
   by_cases e : t = k
   ·subst e; simp [hk]
   ·simp [e]

theorem iO {tr : T AV} {ks : List Nat} (h : ∀ t, tr.get t = if t ∈ ks then tm.get t else none) {x : Operand} (hx : ∀ t, x = .tmp t -> t ∈ ks) : aS tr x = aS tm x := by
 cases x with
 | tmp t => simp only [aS]; rw [h, if_pos (hx t rfl)]
 | const v => rfl
 | global g => rfl
 | func f => rfl
end congr

section trace
variable {tb : Tab} {call : Nat -> List AV -> AHeap -> Option (AV × AHeap)} {n : Nat} {ops : List Oper}

structure Rec (tb : Tab) (call : Nat -> List AV -> AHeap -> Option (AV × AHeap)) (n : Nat) (ops : List Oper) (i : Nat) (rest : List Oper) (tm : T AV) (h : AHeap)
  (es : List Ent) (ms : List (Nat × AHeap)) (tm' : T AV) (h' : AHeap) (S : Nat -> T AV) (Hp : Nat -> AHeap) (V : Nat -> AV) (K : Nat -> Nat) : Prop where
 s0 : S i = tm
 h0 : Hp i = h
 s1 : S (i + rest.length) = tm'
 h1 : Hp (i + rest.length) = h'
 step : ∀ k o, rest[k]? = some o -> fT tb call ops (S (i + k)) (Hp (i + k)) o = some (V (i + k), Hp (i + k + 1), K (i + k)) /\ bE (S (i + k)) n o.dst (V (i + k)) = some (S (i + k + 1))
 mem : ∀ k o, rest[k]? = some o -> (⟨i + k, o, S (i + k), V (i + k), K (i + k)⟩ : Ent) ∈ es
 of : ∀ e ∈ es, ∃ k o, rest[k]? = some o /\ e = ⟨i + k, o, S (i + k), V (i + k), K (i + k)⟩
 mark : ∀ k, k < rest.length -> K (i + k) = 2 -> (i + k + 1, Hp (i + k + 1)) ∈ ms
 nomark : ms = [] -> ∀ k, k < rest.length -> K (i + k) ≠ 2

theorem gN : ∀ {rest : List Oper} {i : Nat} {tm tm' : T AV} {h h' : AHeap} {es : List Ent} {ms : List (Nat × AHeap)},
  bh tb call n ops i rest tm h = some (es, ms, tm', h') -> ∃ S Hp V K, Rec tb call n ops i rest tm h es ms tm' h' S Hp V K
 | [], i, tm, tm', h, h', es, ms, he => by
  simp only [bh, Option.some.injEq, Prod.mk.injEq] at he
  obtain ⟨rfl, rfl, rfl, rfl⟩ := he
  exact ⟨fun _ => tm, fun _ => h, fun _ => .nilp, fun _ => 0, rfl, rfl, rfl, rfl, by simp, by simp, by simp, by simp, by simp⟩
 | o :: rest, i, tm, tm', h, h', es, ms, he => by
  unfold bh at he
  split at he
  ·rename_i v h1 k he1
   split at he
   ·rename_i tm1 hp
    split at he
    ·rename_i es1 ms1 tm2 h2 ht
     simp only [Option.some.injEq, Prod.mk.injEq] at he
     obtain ⟨rfl, rfl, rfl, rfl⟩ := he
     obtain ⟨S, Hp, V, K, R⟩ := gN ht
     have ne : ∀ k, i + (k + 1) ≠ i := fun k => by omega
     have sh : ∀ k, i + (k + 1) = i + 1 + k := fun k => by omega
     refine ⟨fun j => if j = i then tm else S j, fun j => if j = i then h else Hp j, fun j => if j = i then v else V j, fun j => if j = i then k else K j, by simp, by simp, ?_, ?_, ?_, ?_, ?_, ?_, ?_⟩
     ·simp only [List.length_cons]
      rw [if_neg zy, sh]
      exact R.s1
     ·simp only [List.length_cons]
      rw [if_neg zy, sh]
      exact R.h1
     ·intro q x hq
      cases q with
      | zero =>
       simp at hq
       subst hq
       have : ¬ (i + 1 = i) := by omega
       simp only [Nat.add_zero, if_true, this, if_false]
       rw [R.s0, R.h0]
       exact ⟨he1, hp⟩
      | succ q =>
       have := R.step q x (by simpa using hq)
       have e1 : ¬ (i + (q + 1) = i) := by omega
       have e2 : ¬ (i + (q + 1) + 1 = i) := by omega
       simp only [e1, e2, if_false]
       rw [sh]
       exact this
     ·intro q x hq
      cases q with
      | zero =>
       simp at hq
       subst hq
       simp
      | succ q =>
       have e1 : ¬ (i + (q + 1) = i) := by omega
       simp only [e1, if_false]
       rw [sh]
       exact List.mem_cons_of_mem _ (R.mem q x (by simpa using hq))
     ·intro e he
      rcases List.mem_cons.1 he with rfl | he
      ·exact ⟨0, o, rfl, by simp⟩
      ·obtain ⟨q, x, hq, hx⟩ := R.of e he
       refine ⟨q + 1, x, by simpa using hq, ?_⟩
       have e1 : ¬ (i + (q + 1) = i) := by omega
       simp only [e1, if_false]
       rw [sh]
       exact hx
     ·intro q hq hk
      cases q with
      | zero =>
       have : ¬ (i + 1 = i) := by omega
       simp only [Nat.add_zero, if_true] at hk
       simp only [Nat.add_zero, this, if_false, hk, if_true]
       rw [R.h0]
       exact List.mem_cons_self
      | succ q =>
       have e1 : ¬ (i + (q + 1) = i) := by omega
       have e2 : ¬ (i + (q + 1) + 1 = i) := by omega
       simp only [e1, if_false] at hk
       simp only [e2, if_false]
       rw [sh] at hk
       have := R.mark q (by simpa using hq) hk
       rw [show i + (q + 1) + 1 = i + 1 + q + 1 by omega]
       split
       ·exact List.mem_cons_of_mem _ this
       ·exact this
     ·intro hm q hq
      by_cases h2 : k = 2
      ·rw [if_pos h2] at hm; cases hm
      ·rw [if_neg h2] at hm
       cases q with
       | zero => simpa using h2
       | succ q =>
        have e1 : ¬ (i + (q + 1) = i) := by omega
        simp only [e1, if_false]
        rw [sh]
        exact R.nomark hm q (by simpa using hq)
    ·cases he
   ·cases he
  ·cases he
end trace

section ahead
theorem uV : ∀ (rest : List Oper) (acc : List Nat), (∀ k, k < acc.length -> (ay rest acc).getD k 0 = acc.getD k 0) /\
  ∀ k o, rest[k]? = some o -> (ay rest acc).getD (acc.length + k) 0 =
   o.after.toList.foldl (fun s e => if cY e then s ||| 2 ^ e.on ||| ((ay rest acc).take (acc.length + k)).getD e.on 0 else s) 0 := by
 intro rest
 induction rest with
 | nil => intro acc; exact ⟨fun k hk => rfl, by simp⟩
 | cons o rest ih =>
  intro acc
  simp only [ay]
  generalize hx : o.after.toList.foldl (fun s e => if cY e then s ||| 2 ^ e.on ||| acc.getD e.on 0 else s) 0 = x
  obtain ⟨h1, h2⟩ := ih (acc ++ [x])
  have hlen : ∀ (l : List Oper) (a : List Nat), (ay l a).length = a.length + l.length := by
   intro l
   induction l with
   | nil => intro a; simp [ay]
   | cons y l ihl => intro a; simp only [ay]; rw [ihl]; simp; omega
  have hpre : ∀ k, k < acc.length -> (ay rest (acc ++ [x])).getD k 0 = acc.getD k 0 := by
   intro k hk
   rw [h1 k (by simp; omega)]
   simp [List.getD, List.getElem?_append_left hk]
  refine ⟨hpre, fun k y hy => ?_⟩
  cases k with
  | zero =>
   simp at hy
   subst hy
   rw [Nat.add_zero, h1 _ (by simp)]
   have : (acc ++ [x]).getD acc.length 0 = x := by simp [List.getD]
   rw [this]
   refine hx.symm.trans ?_
   have htake : (ay rest (acc ++ [x])).take acc.length = acc := by
    apply List.ext_getElem?
    intro q
    by_cases hq : q < acc.length
    ·rw [List.getElem?_take_of_lt hq]
     have := hpre q hq
     have l1 : q < (ay rest (acc ++ [x])).length := by rw [hlen]; simp; omega
     simp only [List.getD, List.getElem?_eq_getElem l1, List.getElem?_eq_getElem hq, Option.getD_some] at this
     rw [List.getElem?_eq_getElem l1, List.getElem?_eq_getElem hq, this]
    ·rw [List.getElem?_eq_none (by simp; omega), List.getElem?_eq_none zy]
   rw [htake]
  | succ k =>
   have := h2 k y (by simpa using hy)
   have e : (acc ++ [x]).length + k = acc.length + (k + 1) := by simp; omega
   rw [e] at this
   exact this

theorem qD (b : List Nat) (i : Nat) : ∀ (es : List Edge) (s : Nat), (es.foldl (fun s e => if cY e then s ||| 2 ^ e.on ||| b.getD e.on 0 else s) s).testBit i = true ->
  s.testBit i = true \/ ∃ e ∈ es, cY e = true /\ (i = e.on \/ (b.getD e.on 0).testBit i = true)
 | [], s, h => .inl h
 | e :: es, s, h => by
  simp only [List.foldl_cons] at h
  rcases qD b i es _ h with h | ⟨e', he', h'⟩
  ·split at h
   ·rename_i hb
    simp only [Nat.testBit_or, Bool.or_eq_true, Nat.testBit_two_pow, decide_eq_true_eq] at h
    rcases h with (h | h) | h
    ·exact .inl h
    ·exact .inr ⟨e, List.mem_cons_self, hb, .inl h.symm⟩
    ·exact .inr ⟨e, List.mem_cons_self, hb, .inr h⟩
   ·exact .inl h
  ·exact .inr ⟨e', List.mem_cons_of_mem _ he', h'⟩

theorem qi {ops : List Oper} {j i : Nat} {o : Oper} (ho : ops[j]? = some o) (h : ((ay ops []).getD j 0).testBit i = true) :
  ∃ e ∈ o.after.toList, cY e = true /\ (i = e.on \/ (e.on < j /\ ((ay ops []).getD e.on 0).testBit i = true)) := by
 have hs := (uV ops []).2 j o ho
 simp only [List.length_nil, Nat.zero_add] at hs
 rw [hs] at h
 rcases qD _ i _ 0 h with h | ⟨e, he, hb, h⟩
 ·simp at h
 ·refine ⟨e, he, hb, ?_⟩
  rcases h with h | h
  ·exact .inl h
  ·right
   by_cases hlt : e.on < j
   ·refine ⟨hlt, ?_⟩
    rw [List.getD, List.getElem?_take_of_lt hlt] at h
    exact h
   ·rw [List.getD, List.getElem?_eq_none (by simp; omega)] at h
    simp at h
end ahead
end Go.Proofs.YtfkbfnpjggkdmaaGreatDoor.Ev
