/- An evaluator of closed calls, part 13: code and calls. -/
import Derived.Test.YtfkbfnpjggkdmaaGreatDoorCEvL
namespace Go.Proofs.YtfkbfnpjggkdmaaGreatDoor.Ev
open Go.RowKit
variable {J : Ctx}

def Iy : Ex -> Exit
 | .normal => .normal
 | .exit i => .exit i
 | .ret => .ret

theorem IR {p : Nat -> Prop} (h : ∃ k, p k) : ∃ k, p k /\ ∀ m, p m -> k <= m := by
 obtain ⟨k, hk⟩ := h
 induction k using Nat.strongRecOn with
 | _ k ih =>
  by_cases hm : ∃ m, m < k /\ p m
  ·obtain ⟨m, h1, h2⟩ := hm
   exact ih m h1 h2
  ·refine ⟨k, hk, fun m hpm => ?_⟩
   rcases Nat.lt_or_ge m k with h | h
   ·exact absurd ⟨m, h, hpm⟩ hm
   ·exact h

noncomputable def mu (p : Nat -> Prop) : Nat := Classical.epsilon fun k => p k /\ ∀ m, p m -> k <= m
theorem n0 {p : Nat -> Prop} (h : ∃ j, p j) : p (mu p) /\ ∀ m, p m -> mu p <= m := Classical.epsilon_spec (IR h)

section runs
variable {P : Program} {tb : Tab}

def wg (P : Program) (J : Ctx) (tb : Tab) (k : Nat) : Prop :=
 ∀ (n : Nat) (c : Code) (tm : T AV) (h : AHeap) (ex : Ex) (tm' : T AV) (h' : AHeap) (M : Inj) (N : Nat -> Prop) (w0 : Base J) (a : Act) (w : World) (Q : Exit -> Act -> World -> Prop),
  run tb k n c tm h = some (ex, tm', h') -> TRel M tm a -> a.tmps.size = n -> a.defers = [] -> HRel M N w0 h w ->
  (∀ M' a' w', M.le M' -> TRel M' tm' a' -> a'.tmps.size = n -> a'.defers = [] -> HRel M' N w0 h' w' -> Q (Iy ex) a' w') -> c.wp P Q a w

theorem ls : ∀ (l : List AV) (i : Nat) (tm : T AV) (t : Nat), (er i l tm).get t = if i <= t /\ t < i + l.length then l[t - i]? else tm.get t
 | [], i, tm, t => by simp [er]; intro h1 h2; omega
 | v :: l, i, tm, t => by
  simp only [er, ls l (i + 1), az, List.length_cons]
  by_cases h : t = i
  ·subst h
   have a1 : ¬ (t + 1 <= t /\ t < t + 1 + l.length) := by omega
   have a2 : t <= t /\ t < t + (l.length + 1) := by omega
   rw [if_neg a1, if_pos a2]
   simp
  ·by_cases h2 : i + 1 <= t /\ t < i + 1 + l.length
   ·have a2 : i <= t /\ t < i + (l.length + 1) := by omega
    rw [if_pos h2, if_pos a2]
    have e : t - i = (t - (i + 1)) + 1 := by omega
    rw [e, List.getElem?_cons_succ]
   ·have a2 : ¬ (i <= t /\ t < i + (l.length + 1)) := by omega
    rw [if_neg h2, if_neg a2, if_neg h]

theorem kY (H : TabOK P tb J) {M : Inj} {N : Nat -> Prop} {w0 : Base J} {tm : T AV} {h : AHeap} {a : Act} {w : World} (ht : TRel M tm a) (hh : HRel M N w0 h w) :
  ∀ {rs : List ResultVar} {l : List AV}, cF tb tm h rs = some l -> ∃ vs : List Value, (rs.mapM fun
   | .tmp t => pure (a.tmps.getD t undef)
   | .cell x t => do loadVar t (<- asAddr (a.tmps.getD x undef)) : Sem (List Value)).run P w = .ok vs w /\ LRel M l vs
 | [], l, he => by
  simp only [cF, Option.some.injEq] at he
  subst he
  exact ⟨[], by simp, .nil M⟩
 | r :: rs, l, he => by
  unfold cF at he
  split at he
  ·rename_i v hv
   split at he
   ·rename_i m hm
    simp only [Option.some.injEq] at he
    subst he
    obtain ⟨vs, h1, h2⟩ := kY H ht hh hm
    have key : ∃ u, ((fun
      | .tmp t => pure (a.tmps.getD t undef)
      | .cell x t => do loadVar t (<- asAddr (a.tmps.getD x undef)) : ResultVar -> Sem Value) r).run P w = .ok u w /\ VRel M v u := by
     unfold jw at hv
     split at hv
     ·exact ⟨_, rfl, ht _ _ hv⟩
     ·split at hv
      ·rename_i b o hp
       obtain ⟨i, hi, he⟩ := gf (ht _ _ hp)
       obtain ⟨u, h3, h4⟩ := yf H hh hv hi (jv (ht _ _ hp) hi)
       refine ⟨u, ?_, h4⟩
       simp only [he, asAddr, Sem.run_bind, Sem.run_pure, Result.andThen_ok, h3]
      ·cases hv
    obtain ⟨u, h3, h4⟩ := key
    refine ⟨u :: vs, ?_, .cons h4 h2⟩
    simp only [List.mapM_cons, Sem.run_bind]
    rw [h3]
    simp only [Result.andThen_ok, h1, Sem.run_pure]
   ·cases he
  ·cases he

theorem wL (H : TabOK P tb J) {k : Nat} (hs : wg P J tb k) : gO P J (bQ tb (run tb k)) := by
 intro M N w0 h w f args vs v h' he hl hh
 unfold bQ at he
 split at he
 ·-- known
  rename_i v1 hor
  simp only [Option.some.injEq, Prod.mk.injEq] at he
  obtain ⟨rfl, rfl⟩ := he
  obtain ⟨h1, h2⟩ := H.orc _ _ _ _ hor M N w0 vs w hh hl
  refine ⟨h1, h2.mono ?_⟩
  rintro e w' ⟨u, rfl, hu, hb⟩
  refine ⟨M, u, rfl, Inj.le_refl M, ⟨hh.base, hh.lim, hh.below.trans (Keeps.of hb hh.big), fun k hk => Nat.lt_of_lt_of_le (hh.big k hk) hb.size, fun b o hbo => ?_, hh.apart, hh.old, hh.fresh, hh.res⟩, hu⟩
  have ho := hh.live b o hbo
  exact ho.mono (Inj.le_refl M) (fun i hi => hb.block _ (ho.blk_lt hi).1)
 rename_i hnor
 split at he
 ·rename_i fn hfn
  split at he
  ·rename_i c hb hle
   have hle := Nat.ble_eq.mp hle
   have hf := H.ft _ _ hfn
   refine ⟨⟨fn, hf, by rw [hb]; rfl, H.nm _ _ hfn (by rw [hb]; rfl)⟩, ?_⟩
   split at he
   ·cases he
   ·rename_i ex tm' h1 hex hrun
    split at he
    ·rename_i l hres
     simp only [Option.some.injEq, Prod.mk.injEq] at he
     obtain ⟨rfl, rfl⟩ := he
     have hvs : vs.size = args.length := by rw [<- hl.1]; simp
     refine calls_of_wp hf hb (hs fn.ntmps c _ h ex tm' h1 M N w0 _ w _ hrun ?_ ?_ rfl hh ?_)
     ·intro t x hx
      rw [ls] at hx
      split at hx
      ·rename_i hc
       simp only [Nat.sub_zero] at hx
       obtain ⟨u, hu, hr⟩ := hl.get hx
       have hu' : vs[t]? = some u := by simpa using hu
       have hlt : t < vs.size := (Array.getElem?_eq_some_iff.1 hu').1
       have : (vs ++ Array.replicate (fn.ntmps - vs.size) undef)[t]? = some u := by
        rw [Array.getElem?_append_left hlt]; exact hu'
       simp only [Array.getD_eq_getD_getElem?, this, Option.getD_some]
       exact hr
      ·rw [bG] at hx; cases hx
     ·simp; omega
     ·intro M' a' w' hM ht' hsz hd hh'
      obtain ⟨us, q1, q2⟩ := kY H ht' hh' hres
      have hR : ∃ u, (results fn a'.tmps).run P w' = .ok u w' /\ VRel M' (bW l) u := by
       have e1 : (results fn a'.tmps).run P w' = .ok (if h : us.toArray.size = 1 then us.toArray[0] else .tuple us.toArray) w' := by
        unfold results
        simp only [Sem.run_bind]
        rw [Array.mapM_eq_mapM_toList]
        simp only [Sem.run_map]
        refine (congrArg (fun q => Result.andThen (Result.andThen q _) _) q1).trans ?_
        rfl
       refine ⟨_, e1, ?_⟩
       match l, us, q2 with
       | [], [], _ => exact .tuple [] _ rfl (fun i v u p => by simp at p)
       | [x], [u], q2 => simpa [bW] using q2.2 0 x u rfl rfl
       | x :: y :: l, u :: v :: us, q2 =>
        have : ¬ ((u :: v :: us).toArray.size = 1) := by simp
        rw [dif_neg this]
        exact q2.tuple
       | [], _ :: _, q2 => have := q2.1; simp at this
       | [_], [], q2 => have := q2.1; simp at this
       | [_], _ :: _ :: _, q2 => have := q2.1; simp at this
       | _ :: _ :: _, [], q2 => have := q2.1; simp at this
       | _ :: _ :: _, [_], q2 => have := q2.1; simp at this
      obtain ⟨u, r1, r2⟩ := hR
      have post : a'.defers = [] /\ ∃ v, (results fn a'.tmps).run P w' = .ok v w' /\
        ∃ M'' u, Ending.returned v = .returned u /\ M.le M'' /\ HRel M'' N w0 h1 w' /\ VRel M'' (bW l) u := ⟨hd, u, r1, M', u, rfl, hM, hh', r2⟩
      cases ex with
      | normal => exact post
      | ret => exact post
      | exit i => exact (hex i rfl).elim
    ·cases he
   ·cases he
  ·cases he
 ·cases he

theorem vT (H : TabOK P tb J) (k : Nat) (IH : ∀ j, j <= k -> wg P J tb j) : wg P J tb (k + 1) := by
 intro n c tm h ex tm' h' M N w0 a w Q he ht hs hd hh hQ
 have hS := IH k (Nat.le_refl k)
 have hcall := wL H hS
 have he0 := he
 simp only [run] at he
 unfold cA at he
 split at he
 ·simp only [Option.some.injEq, Prod.mk.injEq] at he
  obtain ⟨rfl, rfl, rfl⟩ := he
  exact wp_skip (hQ M a w (Inj.le_refl M) ht hs hd hh)
 ·simp only [Option.some.injEq, Prod.mk.injEq] at he
  obtain ⟨rfl, rfl, rfl⟩ := he
  exact wp_label (hQ M a w (Inj.le_refl M) ht hs hd hh)
 ·simp only [Option.some.injEq, Prod.mk.injEq] at he
  obtain ⟨rfl, rfl, rfl⟩ := he
  exact wp_ret (hQ M a w (Inj.le_refl M) ht hs hd hh)
 ·simp only [Option.some.injEq, Prod.mk.injEq] at he
  obtain ⟨rfl, rfl, rfl⟩ := he
  exact wp_exit (hQ M a w (Inj.le_refl M) ht hs hd hh)
 ·-- a region
  rename_i id ops draw
  split at he
  ·rename_i tm1 h1 hr
   simp only [Option.some.injEq, Prod.mk.injEq] at he
   obtain ⟨rfl, rfl, rfl⟩ := he
   cases draw with
   | true =>
    exact qx H hcall H.mo ht hs hh hr (fun M' a' w' g1 g2 g3 g4 g5 => hQ M' a' w' g1 g2 g3 (by rw [g4]; exact hd) g5)
   | false =>
    refine wp_region ?_
    have := tM (Q := Q) (n := n) H hcall (ops := ops) (rest := ops.toList) (i := 0) (fun k o hk => by rw [Nat.zero_add]; simpa using hk) ht hs hh hr
     (fun M' a' w' g1 g2 g3 g4 g5 => hQ M' a' w' g1 g2 g3 (by rw [g4]; exact hd) g5)
    rw [List.range_eq_range']
    simpa using this
  ·cases he
 ·-- one behind the other
  rename_i x y
  split at he
  ·rename_i tm1 h1 h2
   refine wp_seq (hS n x tm h .normal tm1 h1 M N w0 a w _ h2 ht hs hd hh (fun M' a' w' g1 g2 g3 g4 g5 => ?_))
   exact hS n y tm1 h1 ex tm' h' M' N w0 a' w' Q he g2 g3 g4 g5 (fun M2 a2 w2 k1 k2 k3 k4 k5 => hQ M2 a2 w2 (Inj.le_trans g1 k1) k2 k3 k4 k5)
  ·rename_i hne
   refine wp_seq (hS n x tm h ex tm' h' M N w0 a w _ he ht hs hd hh (fun M' a' w' g1 g2 g3 g4 g5 => ?_))
   cases ex with
   | normal => exact absurd he (hne _ _)
   | exit i => exact hQ M' a' w' g1 g2 g3 g4 g5
   | ret => exact hQ M' a' w' g1 g2 g3 g4 g5
 ·-- if
  rename_i x y z
  split at he
  ·rename_i hx
   exact wp_cond_true (gm (eU ht hx)) (hS n y tm h ex tm' h' M N w0 a w Q he ht hs hd hh hQ)
  ·rename_i hx
   exact wp_cond_false (gm (eU ht hx)) (hS n z tm h ex tm' h' M N w0 a w Q he ht hs hd hh hQ)
  ·cases he
 ·-- a block
  rename_i id b
  split at he
  ·rename_i j tm1 h1 hb
   split at he
   ·rename_i hj
    have hj := Nat.eq_of_beq_eq_true hj
    subst hj
    simp only [Option.some.injEq, Prod.mk.injEq] at he
    obtain ⟨rfl, rfl, rfl⟩ := he
    refine wp_block (hS n b tm h _ _ _ M N w0 a w _ hb ht hs hd hh (fun M' a' w' g1 g2 g3 g4 g5 => ?_))
    show if j = j then Q .normal a' w' else _
    rw [if_pos rfl]
    exact hQ M' a' w' g1 g2 g3 g4 g5
   ·rename_i hj
    simp only [Option.some.injEq, Prod.mk.injEq] at he
    obtain ⟨rfl, rfl, rfl⟩ := he
    refine wp_block (hS n b tm h _ _ _ M N w0 a w _ hb ht hs hd hh (fun M' a' w' g1 g2 g3 g4 g5 => ?_))
    show if j = id then _ else Q (.exit j) a' w'
    rw [if_neg (by intro e; subst e; simp at hj)]
    exact hQ M' a' w' g1 g2 g3 g4 g5
  ·rename_i hne
   refine wp_block (hS n b tm h ex tm' h' M N w0 a w _ he ht hs hd hh (fun M' a' w' g1 g2 g3 g4 g5 => ?_))
   cases ex with
   | normal => exact hQ M' a' w' g1 g2 g3 g4 g5
   | exit i => exact absurd he (hne _ _ _)
   | ret => exact hQ M' a' w' g1 g2 g3 g4 g5
 ·-- a loop
  rename_i b
  let G : Act -> World -> Nat -> Prop := fun a1 w1 j => j <= k /\ ∃ M1 tm1 h1, M.le M1 /\ TRel M1 tm1 a1 /\ a1.tmps.size = n /\ a1.defers = [] /\ HRel M1 N w0 h1 w1 /\
   run tb (j + 1) n (.loop b) tm1 h1 = some (ex, tm', h')
  refine wp_loop (fun a1 w1 => ∃ j, G a1 w1 j) (fun a1 w1 => mu (G a1 w1))
   ⟨k, Nat.le_refl k, M, tm, h, Inj.le_refl M, ht, hs, hd, hh, he0⟩ ?_
  intro a1 w1 hI
  have hle := n0 hI
  generalize hj : mu (G a1 w1) = j at hle
  obtain ⟨⟨hjk, M1, tm1, h1, q1, q2, q3, q4, q5, q6⟩, hmin⟩ := hle
  simp only [run] at q6
  unfold cA at q6
  simp only at q6
  split at q6
  ·rename_i tm2 h2 hb
   refine IH j hjk n b tm1 h1 .normal tm2 h2 M1 N w0 a1 w1 _ hb q2 q3 q4 q5 (fun M' a' w' g1 g2 g3 g4 g5 => ?_)
   cases j with
   | zero => simp [run] at q6
   | succ j =>
    have hG : G a' w' j := ⟨by omega, M', tm2, h2, Inj.le_trans q1 g1, g2, g3, g4, g5, q6⟩
    have hI' : ∃ j, G a' w' j := ⟨j, hG⟩
    refine ⟨hI', ?_⟩
    have := (n0 hI').2 j hG
    omega
  ·rename_i hne
   refine IH j hjk n b tm1 h1 ex tm' h' M1 N w0 a1 w1 _ q6 q2 q3 q4 q5 (fun M' a' w' g1 g2 g3 g4 g5 => ?_)
   cases ex with
   | normal => exact absurd q6 (hne _ _)
   | exit i => exact hQ M' a' w' (Inj.le_trans q1 g1) g2 g3 g4 g5
   | ret => exact hQ M' a' w' (Inj.le_trans q1 g1) g2 g3 g4 g5
 ·cases he

theorem Jp (H : TabOK P tb J) : ∀ k, wg P J tb k := by
 intro k
 induction k using Nat.strongRecOn with
 | _ k ih =>
  cases k with
  | zero =>
   intro n c tm h ex tm' h' M N w0 a w Q he
   simp [run] at he
  | succ k => exact vT H k (fun j hj => ih j zy)

theorem A5 (H : TabOK P tb J) (k : Nat) : gO P J (Im tb k) := wL H (Jp H k)

def lI (l : List Value) : Inj := fun b => match l[b]? with
 | some v => some ⟨0, 0, 0, 0, v⟩
 | none => none
end runs

theorem HC {P : Program} (hn : (P.funcs.toList.all fun f => !(f.body.isSome) || !(f.name == "runtime.NumGoroutine")) = true) (hm : P.follows .mixedOrders = true) : TabOK P (lX P) J := by
 refine ⟨fun t x hx => ?_, fun f fn hf => ?_, fun t ht => ?_, fun f fn hf hb => ?_, hm, (fun _ _ _ _ _ h => by cases h), (fun _ _ _ h => by cases h), (fun _ _ _ _ h => by cases h)⟩
 ·simp only [lX, fK, bG, Nat.zero_le, true_and, Nat.zero_add, Nat.sub_zero] at hx
  split at hx
  ·have hx' : P.types[t]? = some x := by simpa using hx
   have hlt : t < P.types.size := (Array.getElem?_eq_some_iff.1 hx').1
   show P.toTables.info? t = some x
   unfold Tables.info?
   rw [if_pos hlt]
   exact hx'
  ·cases hx
 ·simp only [lX, fK, bG, Nat.zero_le, true_and, Nat.zero_add, Nat.sub_zero] at hf
  split at hf
  ·simpa using hf
  ·cases hf
 ·simp only [lX, fK, bG, Nat.zero_le, true_and, Nat.zero_add, Nat.sub_zero] at ht
  split at ht
  ·rename_i hlt
   simp only [List.length_map, List.length_range] at hlt
   simp only [List.getElem?_map, List.getElem?_range hlt, Option.map_some, Option.some.injEq, Bool.and_eq_true, Bool.not_eq_true'] at ht
   exact ht
  ·cases ht
 ·simp only [lX, fK, bG, Nat.zero_le, true_and, Nat.zero_add, Nat.sub_zero] at hf
  split at hf
  ·simp only [List.all_eq_true, Bool.or_eq_true, Bool.not_eq_true'] at hn
   rcases hn fn (List.mem_of_getElem? hf) with h | h
   ·rw [hb] at h; cases h
   ·exact h
  ·cases hf
def JK : AV -> Option Value
 | .bool b => some (.bool b)
 | .int k n => some (.int k n)
 | .str l => some (.string ⟨(l.map UInt8.ofNat).toArray⟩)
 | .nilp => some (.pointer none)
 | .nils => some (.slice none 0 0)
 | .nilf => some .nilFunc
 | .nili => some .nilIface
 | _ => none
def Bn : List AV -> Option (List Value)
 | [] => some []
 | v :: l => match JK v, Bn l with
  | some u, some m => some (u :: m)
  | _, _ => none
def D3 : AV -> Option Value
 | .tuple l => match Bn l with
  | some m => some (.tuple m.toArray)
  | none => none
 | v => JK v
theorem Bo {M : Inj} {v : AV} {u u' : Value} (h : JK v = some u) (hr : VRel M v u') : u' = u := by
 cases hr <;> simp only [JK, Option.some.injEq] at h <;> first | exact h | (cases h; done) | skip
 rename_i s l hs
 rw [<- h, <- hs]
 congr 1
 obtain ⟨⟨x⟩⟩ := s
 have e : (UInt8.ofNat ∘ UInt8.toNat) = id := by funext b; simp
 simp [e]
theorem wM {M : Inj} : ∀ {l : List AV} {m m' : List Value}, Bn l = some m -> LRel M l m' -> m' = m
 | [], m, m', h, hr => by
  simp only [Bn, Option.some.injEq] at h
  subst h
  exact List.eq_nil_of_length_eq_zero (by rw [hr.1]; rfl)
 | v :: l, m, m', h, hr => by
  unfold Bn at h
  split at h
  ·rename_i u q hu hq
   simp only [Option.some.injEq] at h
   subst h
   cases m' with
   | nil => have := hr.1; simp at this
   | cons u' q' =>
    have h1 := Bo hu (hr.2 0 v u' rfl rfl)
    have h2 := wM hq (m' := q') ⟨by have := hr.1; simpa using this, fun i v u a b => hr.2 (i + 1) v u (by simpa using a) (by simpa using b)⟩
    rw [h1, h2]
  ·cases h
theorem wN {M : Inj} {v : AV} {u u' : Value} (h : D3 v = some u) (hr : VRel M v u') : u' = u := by
 unfold D3 at h
 split at h
 ·rename_i l
  split at h
  ·rename_i m hm
   simp only [Option.some.injEq] at h
   obtain ⟨cs, rfl, hcs⟩ := mX hr
   have := wM hm hcs
   rw [<- h, <- this]
  ·cases h
 ·exact Bo h hr
def w6 (r : Option (AV × AHeap)) (v : AV) : Bool :=
 match r with
 | some (x, _) => x.beq v
 | none => false
def Tab.knows (tb : Tab) (ob : BinOp -> Nat -> IntKind -> Int -> Option AV) (oc : Nat -> IntKind -> Option AV) (orc : Nat -> List AV -> AHeap -> Option AV) : Tab := ⟨tb.tt, tb.ft, tb.et, ob, oc, orc⟩
theorem re {P : Program} {tb : Tab} (H : TabOK P tb J) {ob : BinOp -> Nat -> IntKind -> Int -> Option AV} {oc : Nat -> IntKind -> Option AV} {orc : Nat -> List AV -> AHeap -> Option AV}
  (h1 : ∀ op b k n v, ob op b k n = some v -> ∀ M u t w, J.le M -> VRel M (.opq b) u -> (∃ j a, u = .int j a) /\ ∃ x, (binOp op t u (.int k n)).run P w = .ok x w /\ VRel M v x)
  (h2 : ∀ b k v, oc b k = some v -> ∀ M u, J.le M -> VRel M (.opq b) u -> ∃ j n, u = .int j n /\ VRel M v (.int k (k.wrap n)))
  (h3 : ∀ f args h v, orc f args h = some v -> ∀ M N (w0 : Base J) (vs : Array Value) w, HRel M N w0 h w -> LRel M args vs.toList ->
   (∃ fn, P.funcs[f]? = some fn /\ fn.body.isSome = true /\ (fn.name == "runtime.NumGoroutine") = false) /\
   Calls P f vs w fun e w' => ∃ u, e = .returned u /\ VRel M v u /\ Below w.heap.size w w') : TabOK P (tb.knows ob oc orc) J :=
 ⟨H.tt, H.ft, H.et, H.nm, H.mo, h1, h2, h3⟩
noncomputable section
abbrev il := Nat -> List AV -> AHeap -> Option (AV × AHeap)
inductive VH where
 | bad
 | ok (v : AV) (h : AHeap)
abbrev iQ := Nat -> List AV -> AHeap -> VH
def Evt (p : Nat -> Prop) : Prop := ∃ K0, ∀ K, K0 <= K -> p K
theorem Evt.of {p : Nat -> Prop} (h : ∀ K, p K) : Evt p := ⟨0, fun K _ => h K⟩
theorem Evt.mono {p q : Nat -> Prop} (h : Evt p) (hpq : ∀ K, p K -> q K) : Evt q := h.imp fun _ h K hK => hpq K (h K hK)
theorem Evt.and {p q : Nat -> Prop} (h : Evt p) (g : Evt q) : Evt fun K => p K /\ q K := by
 obtain ⟨a, h⟩ := h
 obtain ⟨b, g⟩ := g
 exact ⟨a + b, fun K hK => ⟨h K zy, g K zy⟩⟩
theorem Evt.step {p q : Nat -> Prop} (h : Evt p) (hpq : ∀ K, p K -> q (K + 1)) : Evt q := by
 obtain ⟨a, h⟩ := h
 refine ⟨a + 1, fun K hK => ?_⟩
 obtain ⟨k, rfl⟩ : ∃ k, K = k + 1 := ⟨K - 1, by omega⟩
 exact hpq k (h k zy)
def gD (tb : Tab) (callq : iQ) : Prop := ∀ f args h v h', callq f args h = .ok v h' -> Evt fun K => bQ tb (run tb K) f args h = some (v, h')
theorem cu (tb : Tab) (K n : Nat) (c : Code) (tm : T AV) (h : AHeap) : run tb (K + 1) n c tm h = cA tb (bQ tb (run tb K)) n (run tb K n) c tm h := rfl
end
end Go.Proofs.YtfkbfnpjggkdmaaGreatDoor.Ev
