/- An evaluator of closed calls, part 16: runs with a builder hold. -/
import Derived.Test.YtndhhgbpcmfeiaaGreatDoorEEvY
import Derived.Shelf.Strings.Builder1
import Derived.Shelf.Strings.OnBuilder
import Derived.Shelf.Small.Bits
import Derived.Shelf.Bits.Mul64
import Derived.Test.YtndhhgbpcmfeiaaGreatDoorProg
namespace Go.Proofs.YtndhhgbpcmfeiaaGreatDoor.Ev
open Go.RowKit
variable {J : Ctx}

section runs
variable {P : Program} {tb : Tab} {c : BCfg}

theorem evOpsG_ok (H : TabOK P tb J) (HB : BOK P c) {call : Nat → List AV → AHeap → Option (AV × AHeap)} (hcall : CallOK P J call) {N0 : Nat → Prop} {w0 : Base J} {B : Nat} {h0 : T AObj} {n : Nat} {ops : Array Oper} {Q : Exit → Act → World → Prop} :
  ∀ {rest : List Oper} {i : Nat} {M : Inj} {tm tm' : T AV} {h h' : AHeap} {g g' : Gh} {a : Act} {w : World},
  (∀ k o, rest[k]? = some o → ops[i + k]? = some o) → TRel M tm a → a.tmps.size = n → GRel c N0 w0 B h0 M h g w → evOpsG c tb call h0 n ops.toList rest tm h g = some (tm', h', g') →
  (∀ M' a' w', M.le M' → TRel M' tm' a' → a'.tmps.size = n → a'.defers = a.defers → GRel c N0 w0 B h0 M' h' g' w' → Q .normal a' w') →
  wpOps P ops Q (List.range' i rest.length) a w
 | [], i, M, tm, tm', h, h', g, g', a, w, hr, ht, hs, hh, he, hn => by
  simp only [evOpsG, Option.some.injEq, Prod.mk.injEq] at he
  obtain ⟨rfl, rfl, rfl⟩ := he
  exact hn M a w (Inj.le_refl M) ht hs rfl hh
 | o :: rest, i, M, tm, tm', h, h', g, g', a, w, hr, ht, hs, hh, he, hn => by
  have ho : ops[i]? = some o := by simpa using hr 0 o rfl
  have hr' : ∀ k o, rest[k]? = some o → ops[i + 1 + k]? = some o := fun k o hk => by
   have := hr (k + 1) o (by simpa using hk)
   rw [show i + 1 + k = i + (k + 1) by omega]
   exact this
  unfold evOpsG at he
  simp only [List.length_cons, List.range'_succ]
  rw [wpOps_cons]
  split at he
  ·-- a builder's
   rename_i v h1 g1 hsp
   split at he
   ·rename_i tm1 hp
    unfold wpOp
    simp only [ho]
    have hgd : o.guard = none := by
     unfold spOp at hsp
     split at hsp
     ·cases hsp
     ·assumption
    have hw : Region.wanted o (yielded ops a.tmps) = true := by unfold Region.wanted; rw [hgd]
    rw [hw, if_pos rfl]
    refine .inl ?_
    refine (sp_ok HB ht hh hsp (fun M' u w' hM hg' hv => ?_)).2
    refine evOpsG_ok H HB hcall hr' (ht.put hM hs hp hv) (by rw [put_size]; exact hs) hg' he (fun M2 a2 w2 hM2 ht2 hs2 hd2 hh2 => ?_)
    exact hn M2 a2 w2 (Inj.le_trans hM hM2) ht2 hs2 (by rw [hd2, put_def]) hh2
   ·cases he
  ·cases he
  ·split at he
   ·rename_i v h1 k he1
    split at he
    ·rename_i tm1 hp
     obtain ⟨q1, q2, q3, N, w1, hh1, q4, q5, q6, q7, q8, q9⟩ := hh
     refine ev1_ok H hcall ht hh1 ho he1 (fun M' u w' hM hh' hv => ?_)
     refine evOpsG_ok H HB hcall hr' (ht.put hM hs hp hv) (by rw [put_size]; exact hs) (GRel.step q1 q2 q3 q4 q5 q6 q7 q8 q9 hM hh') he (fun M2 a2 w2 hM2 ht2 hs2 hd2 hh2 => ?_)
     exact hn M2 a2 w2 (Inj.le_trans hM hM2) ht2 hs2 (by rw [hd2, put_def]) hh2
    ·cases he
   ·cases he

def SoundG (P : Program) (J : Ctx) (c : BCfg) (tb : Tab) (k : Nat) : Prop :=
 ∀ (n : Nat) (cd : Code) (tm : T AV) (h : AHeap) (g : Gh) (ex : Ex) (tm' : T AV) (h' : AHeap) (g' : Gh) (M : Inj) (N0 : Nat → Prop) (w0 : Base J) (B : Nat) (h0 : T AObj) (a : Act) (w : World) (Q : Exit → Act → World → Prop),
  runG c tb k h0 n cd tm h g = some (ex, tm', h', g') → TRel M tm a → a.tmps.size = n → a.defers = [] → GRel c N0 w0 B h0 M h g w →
  (∀ M' a' w', M.le M' → TRel M' tm' a' → a'.tmps.size = n → a'.defers = [] → GRel c N0 w0 B h0 M' h' g' w' → Q (exOf ex) a' w') → cd.wp P Q a w

theorem callG_of (H : TabOK P tb J) {k : Nat} (hs : SoundG P J c tb k) : CallOK P J (evCallG tb (runG c tb k)) := by
 intro M N w0 h w f args vs v h' he hl hh
 unfold evCallG at he
 split at he
 ·-- known
  rename_i v1 hor
  simp only [Option.some.injEq, Prod.mk.injEq] at he
  obtain ⟨rfl, rfl⟩ := he
  obtain ⟨h1, h2⟩ := H.orc _ _ _ _ hor M N w0 vs w hh hl
  refine ⟨h1, h2.mono ?_⟩
  rintro e w' ⟨u, rfl, hu, hb⟩
  refine ⟨M, u, rfl, Inj.le_refl M, ⟨hh.base, hh.lim, hh.below.trans (Keeps.of hb hh.big), fun k hk => Nat.lt_of_lt_of_le (hh.big k hk) hb.size, fun b o hbo => ?_, hh.apart, hh.old, hh.fresh, hh.res⟩, hu⟩
  have ho := hh.live b o hbo
  exact ho.mono (Inj.le_refl M) (fun i hi => hb.block _ (ho.blk_lt hi).1)
 rename_i hnor
 split at he
 ·rename_i fn hfn
  split at he
  ·rename_i cd hb hle
   have hle := Nat.ble_eq.mp hle
   have hf := H.ft _ _ hfn
   refine ⟨⟨fn, hf, by rw [hb]; rfl, H.nm _ _ hfn (by rw [hb]; rfl)⟩, ?_⟩
   split at he
   ·cases he
   ·rename_i ex tm' h1 g1 hex hrun
    split at he
    ·rename_i l hres
     simp only [Option.some.injEq, Prod.mk.injEq] at he
     obtain ⟨rfl, rfl⟩ := he
     have hvs : vs.size = args.length := by rw [← hl.1]; simp
     refine calls_of_wp hf hb (hs fn.ntmps cd _ h none ex tm' h1 g1 M N w0 w.heap.size h.objs _ w _ hrun ?_ ?_ rfl (GRel.enter hh) ?_)
     ·intro t x hx
      rw [args_get] at hx
      split at hx
      ·rename_i hc
       simp only [Nat.sub_zero] at hx
       obtain ⟨u, hu, hr⟩ := hl.get hx
       have hu' : vs[t]? = some u := by simpa using hu
       have hlt : t < vs.size := (Array.getElem?_eq_some_iff.1 hu').1
       have : (vs ++ Array.replicate (fn.ntmps - vs.size) undef)[t]? = some u := by
        rw [Array.getElem?_append_left hlt]; exact hu'
       simp only [Array.getD_eq_getD_getElem?, this, Option.getD_some]
       exact hr
      ·rw [T.get_leaf] at hx; cases hx
     ·simp; omega
     ·intro M' a' w' hM ht' hsz hd hg'
      have hh' := hg'.leave
      obtain ⟨us, q1, q2⟩ := results_ok H ht' hh' hres
      have hR : ∃ u, (results fn a'.tmps).run P w' = .ok u w' ∧ VRel M' (oneOf l) u := by
       have e1 : (results fn a'.tmps).run P w' = .ok (if h : us.toArray.size = 1 then us.toArray[0] else .tuple us.toArray) w' := by
        unfold results
        simp only [Sem.run_bind]
        rw [Array.mapM_eq_mapM_toList]
        simp only [Sem.run_map]
        refine (congrArg (fun q => Result.andThen (Result.andThen q _) _) q1).trans ?_
        rfl
       refine ⟨_, e1, ?_⟩
       match l, us, q2 with
       | [], [], _ => exact .tuple [] _ rfl (fun i v u p => by simp at p)
       | [x], [u], q2 => simpa [oneOf] using q2.2 0 x u rfl rfl
       | x :: y :: l, u :: v :: us, q2 =>
        have : ¬ ((u :: v :: us).toArray.size = 1) := by simp
        rw [dif_neg this]
        exact q2.tuple
       | [], _ :: _, q2 => have := q2.1; simp at this
       | [_], [], q2 => have := q2.1; simp at this
       | [_], _ :: _ :: _, q2 => have := q2.1; simp at this
       | _ :: _ :: _, [], q2 => have := q2.1; simp at this
       | _ :: _ :: _, [_], q2 => have := q2.1; simp at this
      obtain ⟨u, r1, r2⟩ := hR
      have post : a'.defers = [] ∧ ∃ v, (results fn a'.tmps).run P w' = .ok v w' ∧
        ∃ M'' u, Ending.returned v = .returned u ∧ M.le M'' ∧ HRel M'' N w0 h1 w' ∧ VRel M'' (oneOf l) u := ⟨hd, u, r1, M', u, rfl, hM, hh', r2⟩
      cases ex with
      | normal => exact post
      | ret => exact post
      | exit i => exact (hex i rfl).elim
    ·cases he
   ·cases he
  ·cases he
 ·cases he

theorem soundG_step (H : TabOK P tb J) (HB : BOK P c) (k : Nat) (IH : ∀ j, j ≤ k → SoundG P J c tb j) : SoundG P J c tb (k + 1) := by
 intro n cd tm h g ex tm' h' g' M N0 w0 B h0 a w Q he ht hs hd hh hQ
 have hS := IH k (Nat.le_refl k)
 have hcall := callG_of H hS
 have he0 := he
 simp only [runG] at he
 unfold evCodeG at he
 split at he
 ·simp only [Option.some.injEq, Prod.mk.injEq] at he
  obtain ⟨rfl, rfl, rfl, rfl⟩ := he
  exact wp_skip (hQ M a w (Inj.le_refl M) ht hs hd hh)
 ·simp only [Option.some.injEq, Prod.mk.injEq] at he
  obtain ⟨rfl, rfl, rfl, rfl⟩ := he
  exact wp_label (hQ M a w (Inj.le_refl M) ht hs hd hh)
 ·simp only [Option.some.injEq, Prod.mk.injEq] at he
  obtain ⟨rfl, rfl, rfl, rfl⟩ := he
  exact wp_ret (hQ M a w (Inj.le_refl M) ht hs hd hh)
 ·simp only [Option.some.injEq, Prod.mk.injEq] at he
  obtain ⟨rfl, rfl, rfl, rfl⟩ := he
  exact wp_exit (hQ M a w (Inj.le_refl M) ht hs hd hh)
 ·-- a region
  rename_i id ops draw
  cases draw with
  | true =>
   simp only at he
   split at he
   ·rename_i tm1 h1 hr
    simp only [Option.some.injEq, Prod.mk.injEq] at he
    obtain ⟨rfl, rfl, rfl, rfl⟩ := he
    obtain ⟨q1, q2, q3, N, w1, hh1, q4, q5, q6, q7, q8, q9⟩ := hh
    exact evDraw_ok H hcall H.mo ht hs hh1 hr (fun M' a' w' g1 g2 g3 g4 g5 => hQ M' a' w' g1 g2 g3 (by rw [g4]; exact hd) (GRel.step q1 q2 q3 q4 q5 q6 q7 q8 q9 g1 g5))
   ·cases he
  | false =>
   simp only at he
   split at he
   ·rename_i tm1 h1 g1 hr
    simp only [Option.some.injEq, Prod.mk.injEq] at he
    obtain ⟨rfl, rfl, rfl, rfl⟩ := he
    refine wp_region ?_
    have := evOpsG_ok (Q := Q) (n := n) H HB hcall (ops := ops) (rest := ops.toList) (i := 0) (fun k o hk => by rw [Nat.zero_add]; simpa using hk) ht hs hh hr
     (fun M' a' w' g1 g2 g3 g4 g5 => hQ M' a' w' g1 g2 g3 (by rw [g4]; exact hd) g5)
    rw [List.range_eq_range']
    simpa using this
   ·cases he
 ·-- one behind the other
  rename_i x y
  split at he
  ·rename_i tm1 h1 g1 h2
   refine wp_seq (hS n x tm h g .normal tm1 h1 g1 M N0 w0 B h0 a w _ h2 ht hs hd hh (fun M' a' w' k1 k2 k3 k4 k5 => ?_))
   exact hS n y tm1 h1 g1 ex tm' h' g' M' N0 w0 B h0 a' w' Q he k2 k3 k4 k5 (fun M2 a2 w2 l1 l2 l3 l4 l5 => hQ M2 a2 w2 (Inj.le_trans k1 l1) l2 l3 l4 l5)
  ·rename_i hne
   refine wp_seq (hS n x tm h g ex tm' h' g' M N0 w0 B h0 a w _ he ht hs hd hh (fun M' a' w' k1 k2 k3 k4 k5 => ?_))
   cases ex with
   | normal => exact absurd he (hne _ _ _)
   | exit i => exact hQ M' a' w' k1 k2 k3 k4 k5
   | ret => exact hQ M' a' w' k1 k2 k3 k4 k5
 ·-- if
  rename_i x y z
  split at he
  ·rename_i hx
   exact wp_cond_true (bool_iff (opk ht hx)) (hS n y tm h g ex tm' h' g' M N0 w0 B h0 a w Q he ht hs hd hh hQ)
  ·rename_i hx
   exact wp_cond_false (bool_iff (opk ht hx)) (hS n z tm h g ex tm' h' g' M N0 w0 B h0 a w Q he ht hs hd hh hQ)
  ·cases he
 ·-- a block
  rename_i id b
  split at he
  ·rename_i j tm1 h1 g1 hb
   split at he
   ·rename_i hj
    have hj := Nat.eq_of_beq_eq_true hj
    subst hj
    simp only [Option.some.injEq, Prod.mk.injEq] at he
    obtain ⟨rfl, rfl, rfl, rfl⟩ := he
    refine wp_block (hS n b tm h g _ _ _ _ M N0 w0 B h0 a w _ hb ht hs hd hh (fun M' a' w' k1 k2 k3 k4 k5 => ?_))
    show if j = j then Q .normal a' w' else _
    rw [if_pos rfl]
    exact hQ M' a' w' k1 k2 k3 k4 k5
   ·rename_i hj
    simp only [Option.some.injEq, Prod.mk.injEq] at he
    obtain ⟨rfl, rfl, rfl, rfl⟩ := he
    refine wp_block (hS n b tm h g _ _ _ _ M N0 w0 B h0 a w _ hb ht hs hd hh (fun M' a' w' k1 k2 k3 k4 k5 => ?_))
    show if j = id then _ else Q (.exit j) a' w'
    rw [if_neg (by intro e; subst e; simp at hj)]
    exact hQ M' a' w' k1 k2 k3 k4 k5
  ·rename_i hne
   refine wp_block (hS n b tm h g ex tm' h' g' M N0 w0 B h0 a w _ he ht hs hd hh (fun M' a' w' k1 k2 k3 k4 k5 => ?_))
   cases ex with
   | normal => exact hQ M' a' w' k1 k2 k3 k4 k5
   | exit i => exact absurd he (hne _ _ _ _)
   | ret => exact hQ M' a' w' k1 k2 k3 k4 k5
 ·-- a loop
  rename_i b
  let G : Act → World → Nat → Prop := fun a1 w1 j => j ≤ k ∧ ∃ M1 tm1 h1 g1, M.le M1 ∧ TRel M1 tm1 a1 ∧ a1.tmps.size = n ∧ a1.defers = [] ∧ GRel c N0 w0 B h0 M1 h1 g1 w1 ∧
   runG c tb (j + 1) h0 n (.loop b) tm1 h1 g1 = some (ex, tm', h', g')
  refine wp_loop (fun a1 w1 => ∃ j, G a1 w1 j) (fun a1 w1 => mu (G a1 w1))
   ⟨k, Nat.le_refl k, M, tm, h, g, Inj.le_refl M, ht, hs, hd, hh, he0⟩ ?_
  intro a1 w1 hI
  have hle := mu_spec hI
  generalize hj : mu (G a1 w1) = j at hle
  obtain ⟨⟨hjk, M1, tm1, h1, g1, q1, q2, q3, q4, q5, q6⟩, hmin⟩ := hle
  simp only [runG] at q6
  unfold evCodeG at q6
  simp only at q6
  split at q6
  ·rename_i tm2 h2 g2 hb
   refine IH j hjk n b tm1 h1 g1 .normal tm2 h2 g2 M1 N0 w0 B h0 a1 w1 _ hb q2 q3 q4 q5 (fun M' a' w' k1 k2 k3 k4 k5 => ?_)
   cases j with
   | zero => simp [runG] at q6
   | succ j =>
    have hG : G a' w' j := ⟨by omega, M', tm2, h2, g2, Inj.le_trans q1 k1, k2, k3, k4, k5, q6⟩
    have hI' : ∃ j, G a' w' j := ⟨j, hG⟩
    refine ⟨hI', ?_⟩
    have := (mu_spec hI').2 j hG
    omega
  ·rename_i hne
   refine IH j hjk n b tm1 h1 g1 ex tm' h' g' M1 N0 w0 B h0 a1 w1 _ q6 q2 q3 q4 q5 (fun M' a' w' k1 k2 k3 k4 k5 => ?_)
   cases ex with
   | normal => exact absurd q6 (hne _ _ _)
   | exit i => exact hQ M' a' w' (Inj.le_trans q1 k1) k2 k3 k4 k5
   | ret => exact hQ M' a' w' (Inj.le_trans q1 k1) k2 k3 k4 k5
 ·cases he

theorem soundG (H : TabOK P tb J) (HB : BOK P c) : ∀ k, SoundG P J c tb k := by
 intro k
 induction k using Nat.strongRecOn with
 | _ k ih =>
  cases k with
  | zero =>
   intro n cd tm h g ex tm' h' g' M N0 w0 B h0 a w Q he
   simp [runG] at he
  | succ k => exact soundG_step H HB k (fun j hj => ih j zy)

theorem callG_ok (H : TabOK P tb J) (HB : BOK P c) (k : Nat) : CallOK P J (callG c tb k) := callG_of H (soundG H HB k)
end runs
theorem build_call {P : Program} {tb : Tab} {c : BCfg} {l : List Value} (H : TabOK P tb (ctxOf l)) (HB : BOK P c) {k f : Nat} {args : List AV} {v : AV} {u : Value} (hu : conT v = some u)
  (he : gives (callG c tb k f args ⟨l.length, .leaf⟩) v = true) {vs : Array Value} (hl : LRel (injOf l) args vs.toList) (w : World) :
  Calls P f vs w fun e w' => e = .returned u ∧ Below w.heap.size w w' := by
 obtain ⟨h', he⟩ := gives_ok he
 have hh : HRel (J := ctxOf l) (injOf l) (fun k => k < w.heap.size) ⟨w, 0, fun _ _ => trivial, fun _ => False⟩ ⟨l.length, .leaf⟩ w := ⟨Inj.le_refl _, fun k hk => absurd hk (Nat.not_lt_zero k), Keeps.refl _ _, fun k hk => hk, fun b o h => by simp [T.get_leaf] at h, fun b b' o o' i i' h => by simp [T.get_leaf] at h,
  fun b o h => by simp [T.get_leaf] at h, fun b hb => by unfold injOf; rw [List.getElem?_eq_none hb], fun b hb => hb.elim⟩
 obtain ⟨_, hc⟩ := callG_ok H HB k _ _ _ _ _ _ _ _ _ _ he hl hh
 exact hc.mono fun e w' ⟨M', x, h1, h2, h3, h4⟩ => ⟨by rw [h1, conT_ok hu h4], h3.below.below fun k hk => hk⟩
end Go.Proofs.YtndhhgbpcmfeiaaGreatDoor.Ev
/- The contracts of Go's library that the walks use, laid by program at this translation: plain declarations, each one application of the shelf's own theorem. Conditions: none beyond those of each theorem. -/
namespace Go.Proofs
open Go.Shelf
def Tryz.lays169_ren : Go.Shelf.Ren := ⟨fun | 169 => 65 | n => n, fun | 70 => 99 | 9 => 9 | 0 => 0 | 72 => 102 | 37 => 100 | 127 => 140 | 3 => 3 | 5 => 5 | n => n, fun | n => n⟩
theorem Tryz.lays169 : Go.Proofs.Lays.n169 Tryz.prog Tryz.lays169_ren := {
 mixed := by kernel_rfl
 f169 := Tryz.func65.trans (congrArg some (by kernel_rfl))
 t0 := Tryz.underlying0
 a0 := Tryz.isAgg0
 z0 := Tryz.sizeOf0
 v0 := Tryz.zeroValue0
 t3 := Tryz.underlying3
 a3 := Tryz.isAgg3
 z3 := Tryz.sizeOf3
 v3 := Tryz.zeroValue3
 t9 := Tryz.underlying9
 a9 := Tryz.isAgg9
 z9 := Tryz.sizeOf9
 v9 := Tryz.zeroValue9
 t37 := Tryz.underlying100
 a37 := Tryz.isAgg100
 z37 := Tryz.sizeOf100
 v37 := Tryz.zeroValue100
 t70 := Tryz.underlying99
 a70 := Tryz.isAgg99
 z70 := Tryz.sizeOf99
 v70 := Tryz.zeroValue99
 t72 := Tryz.underlying102
 a72 := Tryz.isAgg102
 z72 := Tryz.sizeOf102
 v72 := Tryz.zeroValue102
 t127 := Tryz.underlying140
 a127 := Tryz.isAgg140
 z127 := Tryz.sizeOf140
 v127 := Tryz.zeroValue140 }
theorem Tryz.Builder_Extra_169 : Builder.Extra Tryz.prog Tryz.lays169_ren := {
 sizeBuilder := by kernel_rfl
 liesBuilder := by kernel_rfl
 t5 := Tryz.underlying5
 a5 := Tryz.isAgg5
 z5 := Tryz.sizeOf5
 v5 := Tryz.zeroValue5
 infoByte := by kernel_rfl
 cellsByte := by kernel_rfl
 sizeByte := by kernel_rfl
 neB5 := by decide }
open Go.RowKit in
theorem Tryz.Builder_String (B b : Nat) (l : List UInt8) (w : World) (h : Lib.IsBuilder 102 5 B b (Lib.byteCells l) w) (h0 : l ≠ []) :
  Calls Tryz.prog 65 #[.pointer (some ⟨b, 0, none⟩)] w fun e w' => e = .returned (.string ⟨l.toArray⟩) ∧ Below B w w' := Any.Builder_String Tryz.lays169 Tryz.Builder_Extra_169 B b l w h h0
def Tryz.lays156_ren : Go.Shelf.Ren := ⟨fun | 156 => 96 | 165 => 141 | 166 => 62 | 169 => 65 | 240 => 93 | 241 => 166 | 276 => 136 | 277 => 183 | n => n, fun | 31 => 23 | 9 => 9 | 3 => 3 | 4 => 4 | 0 => 0 | 20 => 20 | 72 => 102 | 76 => 106 | 70 => 99 | 37 => 100 | 75 => 105 | 127 => 140 | 164 => 155 | 5 => 5 | 80 => 110 | n => n, fun | n => n⟩
theorem Tryz.lays156 : Go.Proofs.Lays.n156 Tryz.prog Tryz.lays156_ren := {
 mixed := by kernel_rfl
 f156 := Tryz.func96.trans (congrArg some (by kernel_rfl))
 f165 := Tryz.func141.trans (congrArg some (by kernel_rfl))
 f166 := Tryz.func62.trans (congrArg some (by kernel_rfl))
 f169 := Tryz.func65.trans (congrArg some (by kernel_rfl))
 f240 := Tryz.func93.trans (congrArg some (by kernel_rfl))
 f241 := Tryz.func166.trans (congrArg some (by kernel_rfl))
 f276 := Tryz.func136.trans (congrArg some (by kernel_rfl))
 f277 := Tryz.func183.trans (congrArg some (by kernel_rfl))
 t0 := Tryz.underlying0
 a0 := Tryz.isAgg0
 z0 := Tryz.sizeOf0
 v0 := Tryz.zeroValue0
 t3 := Tryz.underlying3
 a3 := Tryz.isAgg3
 z3 := Tryz.sizeOf3
 v3 := Tryz.zeroValue3
 t4 := Tryz.underlying4
 a4 := Tryz.isAgg4
 z4 := Tryz.sizeOf4
 v4 := Tryz.zeroValue4
 t9 := Tryz.underlying9
 a9 := Tryz.isAgg9
 z9 := Tryz.sizeOf9
 v9 := Tryz.zeroValue9
 t20 := Tryz.underlying20
 a20 := Tryz.isAgg20
 z20 := Tryz.sizeOf20
 v20 := Tryz.zeroValue20
 t31 := Tryz.underlying23
 a31 := Tryz.isAgg23
 z31 := Tryz.sizeOf23
 v31 := Tryz.zeroValue23
 t37 := Tryz.underlying100
 a37 := Tryz.isAgg100
 z37 := Tryz.sizeOf100
 v37 := Tryz.zeroValue100
 t70 := Tryz.underlying99
 a70 := Tryz.isAgg99
 z70 := Tryz.sizeOf99
 v70 := Tryz.zeroValue99
 t72 := Tryz.underlying102
 a72 := Tryz.isAgg102
 z72 := Tryz.sizeOf102
 v72 := Tryz.zeroValue102
 t75 := Tryz.underlying105
 a75 := Tryz.isAgg105
 z75 := Tryz.sizeOf105
 v75 := Tryz.zeroValue105
 t76 := Tryz.underlying106
 a76 := Tryz.isAgg106
 z76 := Tryz.sizeOf106
 v76 := Tryz.zeroValue106
 t127 := Tryz.underlying140
 a127 := Tryz.isAgg140
 z127 := Tryz.sizeOf140
 v127 := Tryz.zeroValue140
 t164 := Tryz.underlying155
 a164 := Tryz.isAgg155
 z164 := Tryz.sizeOf155
 v164 := Tryz.zeroValue155 }
theorem Tryz.Builder_Extra_156 : Builder.Extra Tryz.prog Tryz.lays156_ren := {
 sizeBuilder := by kernel_rfl
 liesBuilder := by kernel_rfl
 t5 := Tryz.underlying5
 a5 := Tryz.isAgg5
 z5 := Tryz.sizeOf5
 v5 := Tryz.zeroValue5
 infoByte := by kernel_rfl
 cellsByte := by kernel_rfl
 sizeByte := by kernel_rfl
 neB5 := by decide }
def Tryz.lays134_ren : Go.Shelf.Ren := ⟨fun | 134 => 184 | 129 => 175 | n => n, fun | 53 => 157 | 3 => 3 | 4 => 4 | 46 => 53 | 5 => 5 | 9 => 9 | n => n, fun | n => n⟩
theorem Tryz.lays134 : Go.Proofs.Lays.n134 Tryz.prog Tryz.lays134_ren := {
 mixed := by kernel_rfl
 f129 := Tryz.func175.trans (congrArg some (by kernel_rfl))
 f134 := Tryz.func184.trans (congrArg some (by kernel_rfl))
 t3 := Tryz.underlying3
 a3 := Tryz.isAgg3
 z3 := Tryz.sizeOf3
 v3 := Tryz.zeroValue3
 t4 := Tryz.underlying4
 a4 := Tryz.isAgg4
 z4 := Tryz.sizeOf4
 v4 := Tryz.zeroValue4
 t5 := Tryz.underlying5
 a5 := Tryz.isAgg5
 z5 := Tryz.sizeOf5
 v5 := Tryz.zeroValue5
 t9 := Tryz.underlying9
 a9 := Tryz.isAgg9
 z9 := Tryz.sizeOf9
 v9 := Tryz.zeroValue9
 t46 := Tryz.underlying53
 a46 := Tryz.isAgg53
 z46 := Tryz.sizeOf53
 v46 := Tryz.zeroValue53
 t53 := Tryz.underlying157
 a53 := Tryz.isAgg157
 z53 := Tryz.sizeOf157
 v53 := Tryz.zeroValue157 }
theorem Tryz.bits_LeadingZeros64 (x : Int) (w : World) (h0 : 0 ≤ x) (h1 : x ≤ 18446744073709551615) :
  Calls Tryz.prog 184 #[.int .u64 x] w fun e w' => e = .returned (.int .i64 (64 - (Lib.bitLen x.toNat : Int))) ∧ w' = w := Any.bits_LeadingZeros64 Tryz.lays134 x w h0 h1
def Tryz.lays264_ren : Go.Shelf.Ren := ⟨fun | 264 => 168 | n => n, fun | 53 => 157 | 46 => 53 | n => n, fun | n => n⟩
theorem Tryz.lays264 : Go.Proofs.Lays.n264 Tryz.prog Tryz.lays264_ren := {
 mixed := by kernel_rfl
 f264 := Tryz.func168.trans (congrArg some (by kernel_rfl))
 t46 := Tryz.underlying53
 a46 := Tryz.isAgg53
 z46 := Tryz.sizeOf53
 v46 := Tryz.zeroValue53
 t53 := Tryz.underlying157
 a53 := Tryz.isAgg157
 z53 := Tryz.sizeOf157
 v53 := Tryz.zeroValue157 }
open Go.RowKit Go.Lib in
theorem Tryz.bits_Mul64 (x y : Nat) (hx : x < 18446744073709551616) (hy : y < 18446744073709551616) (w : World) :
  Calls Tryz.prog 168 #[.int .u64 x, .int .u64 y] w fun e w' => e = .returned (.tuple #[.int .u64 ((x * y / 18446744073709551616 : Nat) : Int), .int .u64 ((x * y % 18446744073709551616 : Nat) : Int)]) ∧ w' = w := Any.bits_Mul64 Tryz.lays264 x y hx hy w
end Go.Proofs
