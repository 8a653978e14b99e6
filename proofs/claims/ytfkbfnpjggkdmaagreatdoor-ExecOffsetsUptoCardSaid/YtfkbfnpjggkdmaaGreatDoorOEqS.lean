/- An evaluator of closed calls in which errors are thrown and caught, part 4: all code; closed calls. -/
import Derived.Test.YtfkbfnpjggkdmaaGreatDoorOExC
import Derived.Test.YtfkbfnpjggkdmaaGreatDoorProg
import Derived.WalkKit
import Derived.WalkLawsBesides
import Derived.RowKitTokens
import Derived.Test.YtfkbfnpjggkdmaaGreatDoorOAt21
import Derived.Tactics
import Derived.Tactics2
import Derived.Defers
import Derived.Recover
import Derived.Laws.Pointers
import Derived.Test.YtfkbfnpjggkdmaaGreatDoorOEvM
namespace Go.Proofs.YtfkbfnpjggkdmaaGreatDoor.Ev
open Go.RowKit
variable {J : Ctx}
section runs
variable {P : Program} {tb : Tab} {tr : Trb} {cfg : XCfg}
theorem soundX_step (H : TabOK P tb J) (hcf : CfgOK P J tr cfg) (k : Nat) (IH : ∀ j, j ≤ k → SoundX P J tr cfg tb j) : SoundX P J tr cfg tb (k + 1) := by
 intro n cd tm h d r M N w0 a w Q he ht hs hd hh hQ
 have hS := IH k (Nat.le_refl k)
 have hcall := callX_of H hcf hS
 have he0 := he
 simp only [runX] at he
 unfold evCodeX at he
 split at he
 ·simp only [Option.some.injEq] at he
  subst he
  exact wp_skip (hQ M a w (Inj.le_refl M) ht hs hd hh)
 ·simp only [Option.some.injEq] at he
  subst he
  exact wp_label (hQ M a w (Inj.le_refl M) ht hs hd hh)
 ·simp only [Option.some.injEq] at he
  subst he
  exact wp_ret (hQ M a w (Inj.le_refl M) ht hs hd hh)
 ·simp only [Option.some.injEq] at he
  subst he
  exact wp_exit (hQ M a w (Inj.le_refl M) ht hs hd hh)
 ·-- a region
  rename_i id ops draw
  cases draw with
  | true =>
   simp only at he
   unfold evDrawX at he
   split at he
   ·rename_i tm1 h1 hr
    simp only [Option.some.injEq] at he
    subst he
    exact evDraw_ok H hcall.ret H.mo ht hs hh hr (fun M' a' w' g1 g2 g3 g4 g5 => hQ M' a' w' g1 g2 g3 (by rw [g4]; exact hd.mono g1) g5)
   ·split at he
    ·rename_i l tm1 h1 hr
     simp only [Option.some.injEq] at he
     subst he
     exact evLastX_ok H hcall H.mo ht hs hh hr (fun M' a' w' ch g1 g2 g3 g4 g5 g6 => hQ M' a' w' ch g1 g2 g3 (by rw [g4]; exact hd.mono g1) g5 g6)
    ·cases he
  | false =>
   simp only at he
   refine wp_region ?_
   have := evOpsX_ok (Q := Q) (n := n) H hcall (ops := ops) (rest := ops.toList) (i := 0) (fun k o hk => by rw [Nat.zero_add]; simpa using hk) ht hs hd hh he hQ
   rw [List.range_eq_range']
   simpa using this
 ·-- one behind the other
  rename_i x y
  split at he
  ·rename_i tm1 h1 d1 h2
   refine wp_seq (hS n x tm h d _ M N w0 a w _ h2 ht hs hd hh (fun M' a' w' k1 k2 k3 k4 k5 => ?_))
   exact hS n y tm1 h1 d1 r M' N w0 a' w' Q he k2 k3 k4 k5 (hQ.mono k1)
  ·rename_i hne
   refine wp_seq (hS n x tm h d r M N w0 a w _ he ht hs hd hh ?_)
   cases r with
   | go ex tm1 h1 d1 =>
    cases ex with
    | normal => exact absurd he (hne _ _ _)
    | exit i => exact fun M' a' w' k1 k2 k3 k4 k5 => hQ M' a' w' k1 k2 k3 k4 k5
    | ret => exact fun M' a' w' k1 k2 k3 k4 k5 => hQ M' a' w' k1 k2 k3 k4 k5
   | boom l tm1 h1 d1 => exact fun M' a' w' ch k1 k2 k3 k4 k5 k6 => hQ M' a' w' ch k1 k2 k3 k4 k5 k6
 ·-- if
  rename_i x y z
  split at he
  ·rename_i hx
   exact wp_cond_true (bool_iff (opk ht hx)) (hS n y tm h d r M N w0 a w Q he ht hs hd hh hQ)
  ·rename_i hx
   exact wp_cond_false (bool_iff (opk ht hx)) (hS n z tm h d r M N w0 a w Q he ht hs hd hh hQ)
  ·cases he
 ·-- a block
  rename_i id b
  split at he
  ·rename_i j tm1 h1 d1 hb
   split at he
   ·rename_i hj
    have hj := Nat.eq_of_beq_eq_true hj
    subst hj
    simp only [Option.some.injEq] at he
    subst he
    refine wp_block (hS n b tm h d _ M N w0 a w _ hb ht hs hd hh (fun M' a' w' k1 k2 k3 k4 k5 => ?_))
    show if j = j then Q .normal a' w' else _
    rw [if_pos rfl]
    exact hQ M' a' w' k1 k2 k3 k4 k5
   ·rename_i hj
    simp only [Option.some.injEq] at he
    subst he
    refine wp_block (hS n b tm h d _ M N w0 a w _ hb ht hs hd hh (fun M' a' w' k1 k2 k3 k4 k5 => ?_))
    show if j = id then _ else Q (.exit j) a' w'
    rw [if_neg (by intro e; subst e; simp at hj)]
    exact hQ M' a' w' k1 k2 k3 k4 k5
  ·rename_i hne
   refine wp_block (hS n b tm h d r M N w0 a w _ he ht hs hd hh ?_)
   cases r with
   | go ex tm1 h1 d1 =>
    cases ex with
    | normal => exact fun M' a' w' k1 k2 k3 k4 k5 => hQ M' a' w' k1 k2 k3 k4 k5
    | exit i => exact absurd he (hne _ _ _ _)
    | ret => exact fun M' a' w' k1 k2 k3 k4 k5 => hQ M' a' w' k1 k2 k3 k4 k5
   | boom l tm1 h1 d1 => exact fun M' a' w' ch k1 k2 k3 k4 k5 k6 => hQ M' a' w' ch k1 k2 k3 k4 k5 k6
 ·-- a loop
  rename_i b
  let G : Act → World → Nat → Prop := fun a1 w1 j => j ≤ k ∧ ∃ M1 tm1 h1 d1, M.le M1 ∧ TRel M1 tm1 a1 ∧ a1.tmps.size = n ∧ DRel cfg M1 d1 a1.defers ∧ HRel M1 N w0 h1 w1 ∧
   runX cfg tb (j + 1) n (.loop b) tm1 h1 d1 = some r
  refine wp_loop (fun a1 w1 => ∃ j, G a1 w1 j) (fun a1 w1 => mu (G a1 w1))
   ⟨k, Nat.le_refl k, M, tm, h, d, Inj.le_refl M, ht, hs, hd, hh, he0⟩ ?_
  intro a1 w1 hI
  have hle := mu_spec hI
  generalize hj : mu (G a1 w1) = j at hle
  obtain ⟨⟨hjk, M1, tm1, h1, d1, q1, q2, q3, q4, q5, q6⟩, hmin⟩ := hle
  simp only [runX] at q6
  unfold evCodeX at q6
  simp only at q6
  split at q6
  ·rename_i tm2 h2 d2 hb
   refine IH j hjk n b tm1 h1 d1 _ M1 N w0 a1 w1 _ hb q2 q3 q4 q5 (fun M' a' w' k1 k2 k3 k4 k5 => ?_)
   cases j with
   | zero => simp [runX] at q6
   | succ j =>
    have hG : G a' w' j := ⟨by omega, M', tm2, h2, d2, Inj.le_trans q1 k1, k2, k3, k4, k5, q6⟩
    have hI' : ∃ j, G a' w' j := ⟨j, hG⟩
    refine ⟨hI', ?_⟩
    have := (mu_spec hI').2 j hG
    omega
  ·rename_i hne
   refine IH j hjk n b tm1 h1 d1 r M1 N w0 a1 w1 _ q6 q2 q3 q4 q5 ?_
   cases r with
   | go ex tm2 h2 d2 =>
    cases ex with
    | normal => exact absurd q6 (hne _ _ _)
    | exit i => exact fun M' a' w' k1 k2 k3 k4 k5 => hQ M' a' w' (Inj.le_trans q1 k1) k2 k3 k4 k5
    | ret => exact fun M' a' w' k1 k2 k3 k4 k5 => hQ M' a' w' (Inj.le_trans q1 k1) k2 k3 k4 k5
   | boom l tm2 h2 d2 => exact fun M' a' w' ch k1 k2 k3 k4 k5 k6 => hQ M' a' w' ch (Inj.le_trans q1 k1) k2 k3 k4 k5 k6
 ·cases he
theorem soundX (H : TabOK P tb J) (hcf : CfgOK P J tr cfg) : ∀ k, SoundX P J tr cfg tb k := by
 intro k
 induction k using Nat.strongRecOn with
 | _ k ih =>
  cases k with
  | zero =>
   intro n cd tm h d r M N w0 a w Q he
   simp [runX] at he
  | succ k => exact soundX_step H hcf k (fun j hj => ih j (by omega))
theorem callX_ok (H : TabOK P tb J) (hcf : CfgOK P J tr cfg) (k : Nat) : XOK P J tr (callX cfg tb k) := callX_of H hcf (soundX H hcf k)
def givesX (r : Option CRes) (v : AV) : Bool :=
 match r with
 | some (.ret x _) => x.beq v
 | _ => false
theorem caught_call {l : List Value} (H : TabOK P tb J) (hcf : CfgOK P J tr cfg) (hJ : J.inj = injOf l) {k f : Nat} {args : List AV} {v : AV} {u : Value} (hu : conT v = some u)
  (he : givesX (callX cfg tb k f args ⟨l.length, .leaf⟩) v = true) {vs : Array Value} (hl : LRel (injOf l) args vs.toList) (w : World) (hg : ∀ w', Below w.heap.size w w' → J.good w') :
  Calls P f vs w fun e w' => e = .returned u ∧ Below w.heap.size w w' := by
 unfold givesX at he
 split at he
 rotate_left
 ·cases he
 rename_i x h' hx
 have hxv := beq_ok _ _ he
 subst hxv
 have hh : HRel (J := J) (injOf l) (fun k => k < w.heap.size) ⟨w, w.heap.size, hg, fun _ => False⟩ ⟨l.length, .leaf⟩ w := ⟨by show J.inj.le _; rw [hJ]; exact Inj.le_refl _, fun k hk => hk, Keeps.refl _ _, fun k hk => hk, fun b o h => by simp [T.get_leaf] at h, fun b b' o o' i i' h => by simp [T.get_leaf] at h,
  fun b o h => by simp [T.get_leaf] at h, fun b hb => by unfold injOf; rw [List.getElem?_eq_none hb], fun b hb => hb.elim⟩
 obtain ⟨_, hc⟩ := (callX_ok H hcf k _ _ _ _ w f args vs hl hh).1 _ _ hx
 exact hc.mono fun e w' ⟨M', y, h1, h2, h3, h4⟩ => ⟨by rw [h1, conT_ok hu h4], h3.below.below fun k hk => hk⟩
end runs
set_option maxRecDepth 1000000
noncomputable section
def tabP : Tab := tabOf Tryz.prog
theorem tabP_is (J : Ctx) : TabOK Tryz.prog tabP J := tab_ok (by kernel_rfl) (by kernel_rfl)
def thrX : Nat → List AV → Option (List AV)
 | f, [.int .i64 e] => match Nat.beq f 88, eqA e 0 with
  | true, false => some [.int .i64 e]
  | _, _ => none
 | _, _ => none
def isRX (g : Nat) (caps : List AV) : Bool :=
 match caps with
 | [.ptr _ _, .ptr _ _, .ptr _ _] => Nat.beq g 51
 | _ => false
def rcvX (tb : Tab) : Nat → List AV → List AV → AHeap → Option AHeap
 | _, [.ptr a i, .ptr b j, .ptr c k], [e], h => match tb.zero 37 with
  | some z => match storeA tb h 37 a i z with
   | some (_, h1) => match storeA tb h1 3 b j (.int .i64 0) with
    | some (_, h2) => match storeA tb h2 38 c k e with
     | some (_, h3) => some h3
     | none => none
    | none => none
   | none => none
  | none => none
 | _, _, _, _ => none
def xcfg : XCfg := ⟨thrX, isRX, rcvX tabP⟩
theorem lives_ev : givesX (callX xcfg tabP 3000 12 [] ⟨0, .leaf⟩) (.bool true) = true := by kernel_rfl
end
end Go.Proofs.YtfkbfnpjggkdmaaGreatDoor.Ev
/- exec.must at an error: what it throws. -/
namespace Go.Proofs.YtfkbfnpjggkdmaaGreatDoor
open Go.RowKit
theorem must_boom (x : Int) (hx : ¬ x = 0) (w : World) : Calls Tryz.prog 88 #[.int .i64 x] w fun e w' =>
  e = .panicked [{ v := .iface 209 (.pointer (some ⟨w.heap.size + 1, 0, none⟩)), recovered := false }] ∧
  w' = (w.alloc (.cells #[.int .i64 x] 127)).alloc (.cells #[.iface 120 (.pointer (some ⟨w.heap.size, 0, none⟩))] 211) := by
 go_enter Tryz.func88, Tryz.ntmps88
 go_wp2
 first | exact ⟨rfl, rfl⟩ | exact ⟨rfl, rfl, rfl⟩ | simp [bodyPost]
namespace Ev
variable {J : Ctx}
def trX : Trb := fun l chain w => ∃ x pb eb, l = [.int .i64 x] ∧ chain = [{ v := .iface 209 (.pointer (some ⟨pb, 0, none⟩)), recovered := false }] ∧
 w.cell? ⟨pb, 0, none⟩ = some (.iface 120 (.pointer (some ⟨eb, 0, none⟩))) ∧ w.cell? ⟨eb, 0, none⟩ = some (.int .i64 x)
theorem HRel.wider {M : Inj} {N : Nat → Prop} {w0 : Base J} {h : AHeap} {w w' : World} (hh : HRel M N w0 h w) (hb : Below w.heap.size w w') : HRel M N w0 h w' :=
 ⟨hh.base, hh.lim, hh.below.trans (Keeps.of hb hh.big), fun k hk => Nat.lt_of_lt_of_le (hh.big k hk) hb.size, fun b o hbo => (hh.live b o hbo).mono (Inj.le_refl M) (fun i hi => hb.block _ ((hh.live b o hbo).blk_lt hi).1), hh.apart, hh.old, hh.fresh, hh.res⟩
theorem must_ok : ∀ f args l, thrX f args = some l → ∀ (M : Inj) (N : Nat → Prop) (w0 : Base J) (h : AHeap) (w : World) (vs : Array Value), LRel M args vs.toList → HRel M N w0 h w →
  HasFn Tryz.prog f ∧ Calls Tryz.prog f vs w fun e w' => ∃ M' chain, e = .panicked chain ∧ M.le M' ∧ HRel M' N w0 h w' ∧ trX l chain w' := by
 intro f args l hth M N w0 h w vs hl hh
 unfold thrX at hth
 split at hth
 rotate_left
 ·cases hth
 rename_i x
 split at hth
 rotate_left
 ·cases hth
 rename_i hf hx
 cases hth
 have hf := Nat.eq_of_beq_eq_true hf
 subst hf
 obtain ⟨u, hu, hr⟩ := hl.get (i := 0) rfl
 have hr := int_iff hr
 subst hr
 have hvs : vs = #[.int .i64 x] := by
  apply Array.ext'
  have h1 := hl.1
  match h2 : vs.toList, h1, hu with
  | [y], _, hu => simpa using hu
 subst hvs
 have hx0 : ¬ x = 0 := by
  intro e
  subst e
  simp [eqA] at hx
 refine ⟨⟨_, Tryz.func88, by kernel_rfl, by kernel_rfl⟩, (must_boom x hx0 w).mono ?_⟩
 rintro e w' ⟨rfl, rfl⟩
 refine ⟨M, _, rfl, Inj.le_refl M, hh.wider (((Below.refl _ _).alloc (Nat.le_refl _) _).alloc (by simp) _), x, _, w.heap.size, rfl, rfl, ?_, ?_⟩
 ·simp
 ·rw [World.cell?_alloc_lt _ _ ⟨w.heap.size, 0, none⟩ (by simp)]
  simp
end Ev
theorem whole_idle (p1 p2 p3 : Addr) (w : World) :
  CallsD Tryz.prog 51 #[.pointer (some p1), .pointer (some p2), .pointer (some p3)] .returning w fun e u' w' => e = .returned (.tuple #[]) ∧ u' = .returning ∧ w' = w := by
 refine callsD_of_wpS Tryz.func51 rfl fun c₀ cs hu => ?_
 apply wpS_seq
 apply wpS_region
 simp [wpOpsS, go_sem, recoverD, hu, Tryz.ntmps51, Exit.thenS]
 apply wpS_seq
 apply wpS_seq
 apply wpS_region
 simp [wpOpsS, go_sem, Exit.thenS]
 refine wpS_cond (t := true) (by simp [Act.eval, Array.replicate]) ?_
 simp only [if_true]
 refine wpS_of_wp (wp_ret ?_)
 cases c₀
 simp_all [bodyPostS, results, Tryz.results51, Exit.thenS]
theorem Xas.isError (v : Value) (xT : TypeId) (w : World) : (Instr.typeAssert (.iface 209 v) xT 122 true).run Tryz.prog w = .ok (.tuple #[.iface 209 v, .bool true]) w := run_typeAssert_hasB Tryz.underlying122 (by kernel_rfl) v xT w
theorem step_val {P : Program} {ops : Array Oper} {Q : Exit → Act → World → Prop} {i : Nat} {rest : List Nat} {o : Oper} {a : Act} {w w' : World} {v : Value} (ho : ops[i]? = some o) (hg : o.guard = none)
  (hr : (execOp a.eval o).run P w = .ok (.value v) w') (hn : wpOps P ops Q rest (a.put o.dst v) w') : wpOps P ops Q (i :: rest) a w := by
 rw [wpOps_cons]
 unfold wpOp
 simp only [ho]
 rw [if_pos (by unfold Region.wanted; rw [hg])]
 refine .inl ?_
 unfold Oper.wp
 rw [hr, Oper.upon_value]
 exact hn
theorem step_skip {P : Program} {ops : Array Oper} {Q : Exit → Act → World → Prop} {i : Nat} {rest : List Nat} {o : Oper} {a : Act} {w w' : World} (ho : ops[i]? = some o) (hg : o.guard = none)
  (hr : (execOp a.eval o).run P w = .ok .skip w') (hn : wpOps P ops Q rest (a.put o.dst undef) w') : wpOps P ops Q (i :: rest) a w := by
 rw [wpOps_cons]
 unfold wpOp
 simp only [ho]
 rw [if_pos (by unfold Region.wanted; rw [hg])]
 refine .inl ?_
 unfold Oper.wp
 rw [hr, Oper.upon_skip]
 exact hn
theorem as_chain (pb B : Nat) (e t : Addr) (old : Value) (w : World) (hp : w.cell? ⟨pb, 0, none⟩ = some (.iface 120 (.pointer (some e)))) (hg : w.cell? ⟨0, 0, none⟩ = some (.iface 195 (.agg #[.pointer (some ⟨4, 122, none⟩)]))) (ht0 : w.cell? t = some old) (hf0 : w.frozen? t = false) (hB : B ≤ t.block) (hBw : B ≤ w.heap.size) (q : Addr) (qv : Value) (hq : w.cell? q = some qv) (hqB : q.block < B) :
  Calls Tryz.prog 52 #[.iface 209 (.pointer (some ⟨pb, 0, none⟩)), .iface 125 (.pointer (some t))] w fun ev w' => ev = .returned (.bool true) ∧ w'.cell? t = some (.pointer (some e)) ∧ w'.cell? q = some qv ∧ Below B w w' := by
 refine (as_hit pb e t old w hp hg ht0 hf0).mono ?_
 rintro ev w' ⟨rfl, rfl⟩
 have hb : Below B w (((((w.alloc (.cells #[.pointer (some t)] 125)).alloc (.cells #[.pointer (some ⟨4, 125, none⟩), .pointer (some ⟨w.heap.size, 0, none⟩), .int .u64 150] 160)).alloc (.cells #[.pointer (some ⟨4, 125, none⟩), .pointer (some ⟨w.heap.size, 0, none⟩), .int .u64 150] 160)).alloc (.cells #[.pointer (some e)] 120)).setCell t (.pointer (some e))) := by
  refine Below.setCell ?_ hB _
  exact ((((Below.refl _ _).alloc hBw _).alloc (by simp; omega) _).alloc (by simp; omega) _).alloc (by simp; omega) _
 refine ⟨rfl, ?_, by rw [hb.cell hqB]; exact hq, hb⟩
 ·refine World.cell?_setCell_same _ _ _ (u := old) ?_
  have htl : t.block < w.heap.size := by
   rcases Nat.lt_or_ge t.block w.heap.size with h | h
   ·exact h
   ·simp [World.cell?, Array.getElem?_eq_none h] at ht0
  rw [World.cell?_alloc_lt _ _ t (by simp; omega), World.cell?_alloc_lt _ _ t (by simp; omega), World.cell?_alloc_lt _ _ t (by simp; omega), World.cell?_alloc_lt _ _ t htl]
  exact ht0
set_option maxRecDepth 100000 in
set_option maxHeartbeats 400000 in
theorem whole_caught (pb eb : Nat) (p1 p2 p3 : Addr) (x : Int) (w : World) (R : World → Prop)
    (hp : w.cell? ⟨pb, 0, none⟩ = some (.iface 120 (.pointer (some ⟨eb, 0, none⟩)))) (he : w.cell? ⟨eb, 0, none⟩ = some (.int .i64 x))
    (hg : w.cell? ⟨0, 0, none⟩ = some (.iface 195 (.agg #[.pointer (some ⟨4, 122, none⟩)])))
    (hs : ∀ w', Below w.heap.size w w' → ∃ w1 w2 w3, (Instr.storeAt 37 (.pointer (some p1)) (.agg #[.int .i64 0, .slice none 0 0])).run Tryz.prog w' = .ok () w1 ∧ (Instr.storeAt 3 (.pointer (some p2)) (.int .i64 0)).run Tryz.prog w1 = .ok () w2 ∧ (Instr.storeAt 38 (.pointer (some p3)) (.int .i64 x)).run Tryz.prog w2 = .ok () w3 ∧ R w3) :
    CallsD Tryz.prog 51 #[.pointer (some p1), .pointer (some p2), .pointer (some p3)] (.panicking [{ v := .iface 209 (.pointer (some ⟨pb, 0, none⟩)), recovered := false }]) w fun e u' w' => e = .returned (.tuple #[]) ∧
      u' = .panicking [{ v := .iface 209 (.pointer (some ⟨pb, 0, none⟩)), recovered := true }] ∧ R w' := by
  have lt : ∀ {p : Addr} {v : Value}, w.cell? p = some v → p.block < w.heap.size := by
    intro p v h
    rcases Nat.lt_or_ge p.block w.heap.size with h1 | h1
    · exact h1
    · simp [World.cell?, Array.getElem?_eq_none h1] at h
  have old : ∀ {p : Addr} {v : Value}, w.cell? p = some v → (w.alloc (.cells #[.pointer none] 120)).cell? p = some v := fun {p v} h => by
    rw [World.cell?_alloc_lt _ _ p (lt h)]; exact h
  have hpA := old hp
  have hgA := old hg
  have heA := old he
  have htA : (w.alloc (.cells #[.pointer none] 120)).cell? ⟨w.heap.size, 0, none⟩ = some (.pointer none) := by simp
  have hfA : (w.alloc (.cells #[.pointer none] 120)).frozen? ⟨w.heap.size, 0, none⟩ = false := by simp
  have hpl := lt hp
  have hel := lt he
  have hE := Xas.isError
  clear old lt
  refine callsD_of_wpS Tryz.func51 rfl fun c₀ cs hu => ?_
  simp only [Tryz.ntmps51, List.size_toArray, List.length_cons, List.length_nil, Nat.reduceAdd, Nat.reduceSub, Array.replicate_succ,
     Array.replicate_zero, List.push_toArray, List.append_toArray, List.nil_append, List.cons_append]
  apply wpS_seq
  apply wpS_region
  simp [wpOpsS, go_sem, recoverD, hu, Exit.thenS]
  refine wpS_of_wp ?_
  generalize hC : Code.region 5 _ _ = C5
  go_wp2_with (go_at_call 52; refine (as_chain pb w.heap.size ⟨eb, 0, none⟩ ⟨w.heap.size, 0, none⟩ (.pointer none) _ hpA hgA htA hfA (Nat.le_refl _) (by simp) ⟨eb, 0, none⟩ _ heA hel).mono ?_; rintro e w' ⟨rfl, hcT, hcE, hbT⟩; obtain ⟨w1, w2, w3, s1, s2, s3, hR⟩ := hs w' (((Below.refl _ _).alloc (Nat.le_refl _) _).trans hbT))
  subst hC
  refine wp_region ?_
  refine step_val (i := 0) (rest := [1, 2, 3, 4, 5, 6, 7]) (v := .agg #[.int .i64 0, .slice none 0 0]) (w' := w') rfl rfl (by simp [go_sem]) ?_
  refine step_val (v := .pointer (some ⟨eb, 0, none⟩)) (w' := w') rfl rfl (by simp [go_sem, hcT]) ?_
  refine step_val (v := .pointer (some ⟨eb, 0, none⟩)) (w' := w') rfl rfl (by simp [go_sem]) ?_
  refine step_val (v := .pointer (some ⟨eb, 0, none⟩)) (w' := w') rfl rfl (by simp [go_sem]) ?_
  refine step_val (v := .int .i64 x) (w' := w') rfl rfl (by simp [go_sem, hcE]) ?_
  refine step_skip (w' := w1) rfl rfl (by simp [execOp, Act.eval, Act.put, Sem.run_bind, Sem.run_pure, Result.andThen_ok, s1]) ?_
  refine step_skip (w' := w2) rfl rfl (by simp [execOp, Act.eval, Act.put, Sem.run_bind, Sem.run_pure, Result.andThen_ok, s2]) ?_
  refine step_skip (w' := w3) rfl rfl (by simp [execOp, Act.eval, Act.put, Sem.run_bind, Sem.run_pure, Result.andThen_ok, s3]) ?_
  rename_i K hK
  refine hK _ _ (wp_ret ?_)
  refine ⟨rfl, _, rfl, .tuple #[], ?_, rfl, rfl, hR⟩
  simp [results, Tryz.results51, go_sem]
namespace Ev
variable {J : Ctx}
theorem ptrs3 {M : Inj} {caps : List AV} {cs : Array Value} {g : Nat} (hg : isRX g caps = true) (hl : LRel M caps cs.toList) :
  g = 51 ∧ ∃ a i b j c k I1 I2 I3, caps = [.ptr a i, .ptr b j, .ptr c k] ∧ M a = some I1 ∧ M b = some I2 ∧ M c = some I3 ∧ cs = #[.pointer (some ⟨I1.blk, I1.off + i, none⟩), .pointer (some ⟨I2.blk, I2.off + j, none⟩), .pointer (some ⟨I3.blk, I3.off + k, none⟩)] := by
 unfold isRX at hg
 split at hg
 rotate_left
 ·cases hg
 rename_i a i b j c k
 have hg := Nat.eq_of_beq_eq_true hg
 refine ⟨hg, ?_⟩
 obtain ⟨l⟩ := cs
 obtain ⟨h1, h2⟩ := hl
 match l, h1 with
 | [x, y, z], _ =>
  obtain ⟨I1, e1, f1⟩ := ptr_iff (h2 0 _ _ rfl rfl)
  obtain ⟨I2, e2, f2⟩ := ptr_iff (h2 1 _ _ rfl rfl)
  obtain ⟨I3, e3, f3⟩ := ptr_iff (h2 2 _ _ rfl rfl)
  subst f1 f2 f3
  exact ⟨a, i, b, j, c, k, I1, I2, I3, rfl, e1, e2, e3, rfl⟩
theorem has51 : HasFn Tryz.prog 51 := ⟨_, Tryz.func51, by kernel_rfl, by kernel_rfl⟩
theorem idle_ok : ∀ g caps, isRX g caps = true → ∀ (M : Inj) (N : Nat → Prop) (w0 : Base J) (h : AHeap) (w : World) (cs : Array Value), LRel M caps cs.toList → HRel M N w0 h w →
  HasFn Tryz.prog g ∧ CallsD Tryz.prog g cs .returning w fun e u w' => (∃ v, e = .returned v) ∧ u = .returning ∧ ∃ M', M.le M' ∧ HRel M' N w0 h w' := by
 intro g caps hg M N w0 h w cs hl hh
 obtain ⟨rfl, a, i, b, j, c, k, I1, I2, I3, rfl, e1, e2, e3, rfl⟩ := ptrs3 hg hl
 refine ⟨has51, fun c cs hu => ?_⟩
 obtain ⟨e, u', w', fr, hR, rest⟩ := whole_idle _ _ _ w c cs hu
 obtain ⟨rfl, rfl, rfl⟩ := hR
 exact ⟨_, _, _, fr, ⟨⟨_, rfl⟩, rfl, M, Inj.le_refl M, hh⟩, rest⟩
end Ev
end Go.Proofs.YtfkbfnpjggkdmaaGreatDoor
/- What is known of the functions that throw and of those that catch; the layer's examples hold. -/
namespace Go.Proofs.YtfkbfnpjggkdmaaGreatDoor.Ev
open Go.RowKit
variable {J : Ctx}
set_option maxRecDepth 1000000
theorem store_val {P : Program} {tb : Tab} (H : TabOK P tb J) {M : Inj} {N : Nat → Prop} {w0 : Base J} {h : AHeap} {w : World} (hh : HRel M N w0 h w) {t b o : Nat} {v : AV} {v' : AV} {h' : AHeap} {p u : Value} {I : BI} (hp : VRel M (.ptr b o) p) (hI : M b = some I) (hv : VRel M v u) (hs : storeA tb h t b o v = some (v', h')) :
  ∃ w', (Instr.storeAt t (.pointer (some ⟨I.blk, I.off + o, none⟩)) u).run P w = .ok () w' ∧ HRel M N w0 h' w' := by
 have hval := ptr_val hp hI
 have hxv := hv.cells
 unfold storeA at hs
 split at hs
 ·rename_i n ob hn hob
  split at hs
  ·rename_i hb hz1
   rw [Nat.blt_eq] at hz1
   simp only [Bool.and_eq_true, Nat.beq_eq, Nat.ble_eq, List.all_eq_true] at hb
   obtain ⟨⟨b1, b2⟩, b3⟩ := hb
   simp only [Option.some.injEq, Prod.mk.injEq] at hs
   obtain ⟨rfl, rfl⟩ := hs
   obtain ⟨w', r1, r2⟩ := hh.store (P := P) hob hI hval zy hxv b3 o zy
   refine ⟨w', ?_, r2⟩
   have hsz : u.cells.size = n := by rw [← b1, ← hxv.1]; simp
   simp only [Instr.storeAt, Instr.sureAddr, storeVar, Sem.run_bind, Sem.run_pure, Result.andThen_ok, run_size H hn, hsz, ne_eq, not_true_eq_false, if_false]
   exact r1
  ·cases hs
 ·cases hs
theorem zero37 : tabP.zero 37 = some (.agg [.int .i64 0, .nils]) := by kernel_rfl
theorem rcv_some {g : Nat} {a i b j c k : Nat} {l : List AV} {h h' : AHeap} (hr : rcvX tabP g [.ptr a i, .ptr b j, .ptr c k] l h = some h') :
  ∃ e v1 h1 v2 h2 v3, l = [e] ∧ storeA tabP h 37 a i (.agg [.int .i64 0, .nils]) = some (v1, h1) ∧ storeA tabP h1 3 b j (.int .i64 0) = some (v2, h2) ∧ storeA tabP h2 38 c k e = some (v3, h') := by
 match l, hr with
 | [e], hr =>
  unfold rcvX at hr
  rw [zero37] at hr
  simp only at hr
  split at hr
  ·rename_i v1 h1 e1
   split at hr
   ·rename_i v2 h2 e2
    split at hr
    ·rename_i v3 h3 e3
     cases hr
     exact ⟨e, v1, h1, v2, h2, v3, rfl, e1, e2, e3⟩
    ·cases hr
   ·cases hr
  ·cases hr
 | [], hr => simp [rcvX] at hr
 | _ :: _ :: _, hr => simp [rcvX] at hr
def HandleAt (w : World) : Prop := w.cell? ⟨0, 0, none⟩ = some (.iface 195 (.agg #[.pointer (some ⟨4, 122, none⟩)]))
theorem caught_ok (hJ : ∀ w, J.good w → HandleAt w) : ∀ g caps l h h', isRX g caps = true → rcvX tabP g caps l h = some h' → ∀ (M : Inj) (N : Nat → Prop) (w0 : Base J) (w : World) (cs : Array Value) (chain : List PanicEntry), LRel M caps cs.toList → HRel M N w0 h w → trX l chain w →
  HasFn Tryz.prog g ∧ CallsD Tryz.prog g cs (.panicking chain) w fun e u w' => (∃ v, e = .returned v) ∧ settle u = .returning ∧ ∃ M', M.le M' ∧ HRel M' N w0 h' w' := by
 intro g caps l h h' hg hr M N w0 w cs chain hl hh htr
 obtain ⟨rfl, a, i, b, j, c, k, I1, I2, I3, rfl, e1, e2, e3, rfl⟩ := ptrs3 hg hl
 obtain ⟨x, pb, eb, rfl, rfl, hp, he⟩ := htr
 obtain ⟨e, v1, h1, v2, h2, v3, hle, s1, s2, s3⟩ := rcv_some hr
 cases hle
 have hgood := hJ w (w0.ok w (hh.below.below hh.lim))
 have p1 := hl.2 0 _ _ rfl rfl
 have p2 := hl.2 1 _ _ rfl rfl
 have p3 := hl.2 2 _ _ rfl rfl
 refine ⟨has51, (whole_caught pb eb _ _ _ x w (fun w' => HRel M N w0 h' w') hp he hgood ?_).mono ?_⟩
 ·intro w' hb
  have hh' := hh.wider hb
  obtain ⟨w1, r1, g1⟩ := store_val (P := Tryz.prog) (tabP_is J) hh' p1 e1 (u := .agg #[.int .i64 0, .slice none 0 0]) ((LRel.cons (.int _ _) (.cons .nils (.nil _))).agg) s1
  obtain ⟨w2, r2, g2⟩ := store_val (P := Tryz.prog) (tabP_is J) g1 p2 e2 (.int .i64 0) s2
  obtain ⟨w3, r3, g3⟩ := store_val (P := Tryz.prog) (tabP_is J) g2 p3 e3 (.int .i64 x) s3
  exact ⟨w1, w2, w3, r1, r2, r3, g3⟩
 ·rintro e u w' ⟨rfl, rfl, hR⟩
  exact ⟨⟨_, rfl⟩, rfl, M, Inj.le_refl M, hR⟩
theorem cfg_ok (hJ : ∀ w, J.good w → HandleAt w) : CfgOK Tryz.prog J trX xcfg := ⟨must_ok, idle_ok, caught_ok hJ⟩
def ctxX (l : List Value) : Ctx := ⟨injOf l, HandleAt⟩
theorem handle_below {w w' : World} (h : HandleAt w) (hb : Below w.heap.size w w') : HandleAt w' := by
 unfold HandleAt at *
 have hlt : (0 : Nat) < w.heap.size := by
  rcases Nat.eq_zero_or_pos w.heap.size with h0 | h1
  ·simp [World.cell?, h0] at h
  ·exact h1
 rw [hb.cell (p := ⟨0, 0, none⟩) hlt]
 exact h
theorem lives_any (w : World) (h : HandleAt w) : Calls Tryz.prog 12 #[] w fun e w' => e = .returned (.bool true) ∧ Below w.heap.size w w' :=
 caught_call (J := ctxX []) (l := []) (tabP_is _) (cfg_ok fun _ h => h) rfl (v := .bool true) rfl lives_ev (.nil _) w (fun w' hb => handle_below h hb)
noncomputable section
abbrev CallF := Nat → List AV → AHeap → Option (AV × AHeap)
inductive VH where
 | bad
 | ok (v : AV) (h : AHeap)
abbrev CallQ := Nat → List AV → AHeap → VH
def Evt (p : Nat → Prop) : Prop := ∃ K0, ∀ K, K0 ≤ K → p K
theorem Evt.of {p : Nat → Prop} (h : ∀ K, p K) : Evt p := ⟨0, fun K _ => h K⟩
theorem Evt.mono {p q : Nat → Prop} (h : Evt p) (hpq : ∀ K, p K → q K) : Evt q := h.imp fun _ h K hK => hpq K (h K hK)
theorem Evt.and {p q : Nat → Prop} (h : Evt p) (g : Evt q) : Evt fun K => p K ∧ q K := by
 obtain ⟨a, h⟩ := h
 obtain ⟨b, g⟩ := g
 exact ⟨a + b, fun K hK => ⟨h K (by omega), g K (by omega)⟩⟩
theorem Evt.step {p q : Nat → Prop} (h : Evt p) (hpq : ∀ K, p K → q (K + 1)) : Evt q := by
 obtain ⟨a, h⟩ := h
 refine ⟨a + 1, fun K hK => ?_⟩
 obtain ⟨k, rfl⟩ : ∃ k, K = k + 1 := ⟨K - 1, by omega⟩
 exact hpq k (h k (by omega))
def CallsOK (tb : Tab) (callq : CallQ) : Prop := ∀ f args h v h', callq f args h = .ok v h' → Evt fun K => evCall tb (run tb K) f args h = some (v, h')
theorem run_succ (tb : Tab) (K n : Nat) (c : Code) (tm : T AV) (h : AHeap) : run tb (K + 1) n c tm h = evCode tb (evCall tb (run tb K)) n (run tb K n) c tm h := rfl
end
end Go.Proofs.YtfkbfnpjggkdmaaGreatDoor.Ev
