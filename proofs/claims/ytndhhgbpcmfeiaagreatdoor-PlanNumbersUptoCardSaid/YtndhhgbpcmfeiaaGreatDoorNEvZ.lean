/- An evaluator of closed calls, part 15: what is done to a builder, and runs with one. -/
import Derived.Test.YtndhhgbpcmfeiaaGreatDoorNEvX
namespace Go.Proofs.YtndhhgbpcmfeiaaGreatDoor.Ev
open Go.RowKit
variable {J : Ctx}

section ghost
variable {P : Program} {tb : Tab} {c : BCfg} {N0 : Nat -> Prop} {w0 : Base J} {B : Nat} {h0 : T AObj} {M : Inj} {h : AHeap} {g : Gh} {w : World}

theorem pv {k : Nat} {u v : Value} (hM : M k = some ⟨0, 0, 0, 0, v⟩) (hu : VRel M (.opq k) u) : u = v := by
 cases hu with
 | opq b i u hi he hc =>
  rw [hM] at hi
  cases hi
  exact he.symm
theorem vU (H : BOK P c) {k : Nat} {l t : List Nat} {u : Value} {q : ByteArray} (hg : GRel c N0 w0 B h0 M h (some (k, l)) w) (hu : VRel M (.opq k) u) (hq : q.data.toList.map UInt8.toNat = t) (hl : l.length + t.length <= 1048576) :
  Calls P c.fs #[u, .string q] w fun e w' => ∃ M' x, e = .returned x /\ M.le M' /\ GRel c N0 w0 B h0 M' h (some (k, l ++ t)) w' /\ VRel M' (.tuple [.int .i64 (t.length : Nat), .nili]) x := by
 obtain ⟨h1, h2, h3, N, w1, hh, h4, h5, h6, h7, h8, h9⟩ := hg
 obtain ⟨blk, s, q1, q2, q3, q4, q5⟩ := (h8.keeps hh.below) k l rfl
 obtain rfl := pv q1 hu
 have hqs : q.size = t.length := by rw [<- hq, List.length_map, Array.length_toList]; rfl
 obtain ⟨o1, o2, o3⟩ := ph q3
 refine (H.ws B blk (Lib.byteCells s) q w q3 (by rw [Lib.byteCells_length]; rw [q2, List.length_map] at hl; omega) zy).mono ?_
 rintro e w' ⟨rfl, r1, r2⟩
 have hk : Keeps N0 w w' := ⟨r2.os, r2.tape, r2.output, r2.size, fun x hx => by
  have := h2 x hx
  exact r2.block x zy zy (fun e => by have := (o3 x e).1; omega)⟩
 obtain ⟨p1, p2, p3⟩ := ph r1
 obtain ⟨w2, e1, e2, e3, hh2⟩ := hh.newBase (N0 := N0) (N' := fun x => N x \/ ownB w' blk = some x) (h' := h) (Inj.le_refl M) hk (fun k hk => h3 k (h6 ▸ hk)) h4 (fun k hk => .inl (h4 k hk))
  (fun x hx => hx.elim (fun hx => Nat.lt_of_lt_of_le (hh.big x hx) r2.size) (fun hx => (p3 x hx).2)) (fun b o hb => hb) (Nat.le_refl _) hh.fresh (fun _ _ => rfl)
  (fun b o i hb hi => by
   obtain ⟨lt, nd⟩ := (hh.live b o hb).blk_lt hi
   refine ⟨?_, fun hN hN' => hN'.elim hN fun e => (r2.own _ e).elim (fun e => hN (q5 _ e)) (fun e => by omega)⟩
   rcases nd with nd | nd
   ·exact r2.block _ lt (fun e => nd (e ▸ q4)) (fun e => nd (q5 _ e))
   ·exact hk.block _ (h3 _ (h6 ▸ nd)))
 refine ⟨M, _, rfl, Inj.le_refl M, ⟨h1, h2, h3, _, w2, hh2, fun k hk => .inl (h4 k hk), by rw [e1]; exact (h5.trans (hh.below.mono h4)).trans hk, by rw [e2, h6], fun b hb => e3 b (h7 b hb), ?_, by rw [e1]; omega⟩, ?_⟩
 ·intro a m e
  cases e
  refine ⟨blk, s ++ q.data.toList, q1, by rw [List.map_append, <- q2, hq], ?_, .inl q4, fun x hx => .inr (e1 ▸ hx)⟩
  rw [e1, Lib.byteCells_append]
  exact r1
 ·refine .tuple _ _ rfl fun i v x hv hx => ?_
  match i, hv, hx with
  | 0, hv, hx => cases hv; cases hx; rw [<- hqs]; exact .int _ _
  | 1, hv, hx => cases hv; cases hx; exact .nili
theorem s4 (hg : GRel c N0 w0 B h0 M h g w) {g' : Gh} {w' : World} (hb : Below B w w')
  (hB : ∀ k l, g' = some (k, l) -> ∃ (blk : Nat) (s : List UInt8), M k = some ⟨0, 0, 0, 0, .pointer (some ⟨blk, 0, none⟩)⟩ /\ l = s.map UInt8.toNat /\ Lib.IsBuilder c.bt c.bu B blk (Lib.byteCells s) w') : GRel c N0 w0 B h0 M ⟨h.next, keepIn h0 h.objs h.next⟩ g' w' := by
 obtain ⟨h1, h2, h3, N, w1, hh, h4, h5, h6, h7, h8, h9⟩ := hg
 have hk : Keeps N0 w w' := Keeps.of hb h2
 have hsz : B <= w.heap.size := Nat.le_trans h9 hh.below.size
 obtain ⟨w2, e1, e2, e3, hh2⟩ := hh.newBase (N0 := N0) (N' := fun x => N0 x \/ (B <= x /\ x < w'.heap.size)) (h' := ⟨h.next, keepIn h0 h.objs h.next⟩) (Inj.le_refl M) hk (fun k hk => h3 k (h6 ▸ hk)) h4 (fun k hk => .inl hk)
  (fun x hx => hx.elim (fun hx => by have := h2 x hx; have := hb.size; omega) (fun hx => hx.2)) (fun b o hb => (gY hb).1) (Nat.le_refl _) hh.fresh (fun _ _ => rfl)
  (fun b o i ho hi => by
   obtain ⟨_, o', ho'⟩ := gY ho
   obtain ⟨j, hj, hlt⟩ := h1 b o' ho'
   rw [hi] at hj
   cases hj
   exact ⟨hb.block _ hlt, fun hN hN' => hN'.elim (fun e => hN (h4 _ e)) (fun e => by omega)⟩)
 refine ⟨h1, h2, h3, _, w2, hh2, fun k hk => .inl hk, by rw [e1]; exact (h5.trans (hh.below.mono h4)).trans hk, by rw [e2, h6], fun b hb => e3 b (h7 b hb), ?_, by rw [e1]; have := hb.size; omega⟩
 intro k l e
 obtain ⟨blk, s, q1, q2, q3⟩ := hB k l e
 obtain ⟨o1, o2, o3⟩ := ph q3
 exact ⟨blk, s, q1, q2, e1 ▸ q3, .inr ⟨o1, o2⟩, fun x hx => .inr (o3 x (e1 ▸ hx))⟩
theorem y2 (H : BOK P c) {k n : Nat} {l : List Nat} {u : Value} (hg : GRel c N0 w0 B h0 M h (some (k, l)) w) (hu : VRel M (.opq k) u) (hn : n < 256) (hl : l.length + 1 <= 1048576) :
  Calls P c.fb #[u, .int .u8 (n : Int)] w fun e w' => ∃ M' x, e = .returned x /\ M.le M' /\ GRel c N0 w0 B h0 M' ⟨h.next, keepIn h0 h.objs h.next⟩ (some (k, l ++ [n])) w' /\ VRel M' .nili x := by
 have hg0 := hg
 obtain ⟨h1, h2, h3, N, w1, hh, h4, h5, h6, h7, h8, h9⟩ := hg
 obtain ⟨blk, s, q1, q2, q3, q4, q5⟩ := (h8.keeps hh.below) k l rfl
 obtain rfl := pv q1 hu
 obtain ⟨o1, o2, o3⟩ := ph q3
 refine (H.wb B blk (Lib.byteCells s) n w q3 (by rw [Lib.byteCells_length]; rw [q2, List.length_map] at hl; omega) zy).mono ?_
 rintro e w' ⟨rfl, r1, r2⟩
 refine ⟨M, _, rfl, Inj.le_refl M, s4 hg0 r2 ?_, .nili⟩
 intro a m e
 cases e
 refine ⟨blk, s ++ [UInt8.ofNat n], q1, by rw [List.map_append, <- q2]; simp [UInt8.toNat_ofNat', Nat.mod_eq_of_lt hn], ?_⟩
 rw [Lib.byteCells_append]
 have e2 : Lib.byteCells [UInt8.ofNat n] = [Value.int .u8 (n : Int)] := by simp [Lib.byteCells, UInt8.toNat_ofNat', Nat.mod_eq_of_lt hn]
 rw [e2]
 exact r1
theorem y3 (H : BOK P c) {k n : Nat} {l : List Nat} {u : Value} (hg : GRel c N0 w0 B h0 M h (some (k, n :: l)) w) (hu : VRel M (.opq k) u) :
  Calls P c.fr #[u] w fun e w' => ∃ M' x, e = .returned x /\ M.le M' /\ GRel c N0 w0 B h0 M' ⟨h.next, keepIn h0 h.objs h.next⟩ none w' /\ VRel M' (.str (n :: l)) x := by
 have hg0 := hg
 obtain ⟨h1, h2, h3, N, w1, hh, h4, h5, h6, h7, h8, h9⟩ := hg
 obtain ⟨blk, s, q1, q2, q3, q4, q5⟩ := (h8.keeps hh.below) k _ rfl
 obtain rfl := pv q1 hu
 refine (H.tl B blk s w q3 (by rintro rfl; cases q2)).mono ?_
 rintro e w' ⟨rfl, r2⟩
 exact ⟨M, _, rfl, Inj.le_refl M, s4 hg0 r2 (fun a m e => by cases e), .str _ _ (by rw [q2])⟩

theorem oQ {a : Act} {f : Nat} {args : Array Operand} {tys : Array TypeId} {vs : Array Value} {o : Oper} {next : Act -> World -> Prop} {Q : Exit -> Act -> World -> Prop} (ho : o.op = .call ⟨.value (.func f), args, tys⟩) (hf : s5 P f)
  (hvs : args.map a.eval = vs) {R : Value -> World -> Prop} (hc : Calls P f vs w fun e w' => ∃ x, e = .returned x /\ R x w') (hn : ∀ x w', R x w' -> next (a.put o.dst x) w') : o.wp P a w next Q := by
 obtain ⟨fn, h1, h2, h3⟩ := hf
 obtain ⟨dst, op, type, pos, after, guard⟩ := o
 simp only at ho
 subst ho
 have hrun : (execOp a.eval { dst, op := .call { callee := .value (.func f), args, argTypes := tys }, type, pos, after, guard }).run P w = .ok (.enter f vs) w := by
  have hb2 : fn.body.isNone = false := by cases hbb : fn.body <;> simp_all
  have he : a.eval (.func f) = .func (.func f) #[] #[] := rfl
  simp only [execOp, resolve, Sem.run_bind, he, Deferred.ofValue, Sem.run_pure, Result.andThen_ok, invoke, callFunc, run_program, h1, h3, Bool.false_eq_true, if_false, hb2, Array.empty_append, hvs, Array.append_empty]
 unfold Oper.wp
 rw [hrun, Oper.upon_enter]
 refine hc.mono ?_
 rintro e w' ⟨x, rfl, hx⟩
 exact hn x w' hx
theorem AB {tm : T AV} {a : Act} (ht : TRel M tm a) {args : Array Operand} {x y : AV} (h : cf tm args.toList = some [x, y]) : ∃ u v, args.map a.eval = #[u, v] /\ VRel M x u /\ VRel M y v := by
 have hl := fM ht h
 obtain ⟨u, h1, h2⟩ := hl.get (i := 0) rfl
 obtain ⟨v, h3, h4⟩ := hl.get (i := 1) rfl
 refine ⟨u, v, ?_, h2, h4⟩
 apply Array.ext'
 rw [Array.toList_map]
 match hm : args.toList.map a.eval, hl.1, h1, h3 with
 | [p, q], _, h1, h3 => cases h1; cases h3; rfl
theorem Cz {tm : T AV} {a : Act} (ht : TRel M tm a) {args : Array Operand} {x : AV} (h : cf tm args.toList = some [x]) : ∃ u, args.map a.eval = #[u] /\ VRel M x u := by
 have hl := fM ht h
 obtain ⟨u, h1, h2⟩ := hl.get (i := 0) rfl
 refine ⟨u, ?_, h2⟩
 apply Array.ext'
 rw [Array.toList_map]
 match hm : args.toList.map a.eval, hl.1, h1 with
 | [p], _, h1 => cases h1; rfl

theorem Dk (H : BOK P c) {tm : T AV} {a : Act} (ht : TRel M tm a) (hg : GRel c N0 w0 B h0 M h g w) {o : Oper} {v : AV} {h' : AHeap} {g' : Gh} (he : Ac c h0 tm h g o = some (some (v, h', g'))) {next : Act -> World -> Prop} {Q : Exit -> Act -> World -> Prop}
  (hn : ∀ M' u w', M.le M' -> GRel c N0 w0 B h0 M' h' g' w' -> VRel M' v u -> next (a.put o.dst u) w') : o.guard = none /\ o.wp P a w next Q := by
 unfold Ac at he
 split at he
 ·cases he
 rename_i hgd
 refine ⟨hgd, ?_⟩
 split at he
 ·-- a new one
  rename_i t hop
  split at he
  ·rename_i ht2
   have ht2 := Nat.eq_of_beq_eq_true ht2
   subst ht2
   split at he
   ·simp only [Option.some.injEq, Prod.mk.injEq] at he
    obtain ⟨rfl, rfl, rfl⟩ := he
    obtain ⟨u, M', w', r1, r2, r3, r4⟩ := vT H hg
    obtain ⟨dst, op, type, pos, after, guard⟩ := o
    simp only at hop
    subst hop
    unfold Oper.wp
    have e1 : (execOp a.eval { dst, op := .alloc c.bt, type, pos, after, guard }).run P w = .ok (.value u) w' := by
     have : (execOp a.eval { dst, op := .alloc c.bt, type, pos, after, guard }).run P w = (do pure (.value (<- Instr.alloc c.bt true (.tuple #[]))) : Sem Next).run P w := rfl
     rw [this]
     simp only [Sem.run_bind, r1, Result.andThen_ok, Sem.run_pure]
    rw [e1, Oper.upon_value]
    exact hn M' u w' r2 r4 r3
   ·cases he
  ·cases he
 ·rename_i cl hop
  obtain ⟨callee, args, tys⟩ := cl
  simp only at he
  split at he
  ·rename_i f
   split at he
   ·rename_i hf
    have hf := Nat.eq_of_beq_eq_true hf
    subst hf
    simp only [Option.some.injEq] at he
    unfold tw at he
    split at he
    ·rename_i k s hargs
     split at he
     ·rename_i l hl
      obtain rfl := kn hl
      split at he
      ·rename_i hle
       simp only [Option.some.injEq, Prod.mk.injEq] at he
       obtain ⟨rfl, rfl, rfl⟩ := he
       obtain ⟨u, v, e1, e2, e3⟩ := AB ht hargs
       cases e3 with
       | str q _ hq =>
        exact oQ (R := fun x w' => ∃ M', M.le M' /\ GRel c N0 w0 B h0 M' h (some (k, l ++ s)) w' /\ VRel M' (.tuple [.int .i64 (s.length : Nat), .nili]) x) hop H.fs e1
         ((vU H hg e2 hq (Nat.ble_eq.mp hle)).mono fun e w' ⟨M', x, r1, r2, r3, r4⟩ => ⟨x, r1, M', r2, r3, r4⟩) fun x w' ⟨M', r2, r3, r4⟩ => hn M' x w' r2 r3 r4
      ·cases he
     ·cases he
    ·cases he
   ·split at he
    ·rename_i hf
     have hf := Nat.eq_of_beq_eq_true hf
     subst hf
     simp only [Option.some.injEq] at he
     unfold yi at he
     split at he
     ·rename_i k n hargs
      split at he
      ·rename_i l hl
       obtain rfl := kn hl
       split at he
       ·rename_i hle
        rw [Bool.and_eq_true] at hle
        simp only [Option.some.injEq, Prod.mk.injEq] at he
        obtain ⟨rfl, rfl, rfl⟩ := he
        obtain ⟨u, v, e1, e2, e3⟩ := AB ht hargs
        obtain rfl := dd e3
        exact oQ (R := fun x w' => ∃ M', M.le M' /\ GRel c N0 w0 B h0 M' ⟨h.next, keepIn h0 h.objs h.next⟩ (some (k, l ++ [n])) w' /\ VRel M' .nili x) hop H.fb e1
         ((y2 H hg e2 (by simpa [Nat.blt_eq] using hle.2) (Nat.ble_eq.mp hle.1)).mono fun e w' ⟨M', x, r1, r2, r3, r4⟩ => ⟨x, r1, M', r2, r3, r4⟩) fun x w' ⟨M', r2, r3, r4⟩ => hn M' x w' r2 r3 r4
       ·cases he
      ·cases he
     ·cases he
    ·split at he
     ·rename_i hf
      have hf := Nat.eq_of_beq_eq_true hf
      subst hf
      simp only [Option.some.injEq] at he
      unfold yj at he
      split at he
      ·rename_i k hargs
       split at he
       ·rename_i n l hl
        obtain rfl := kn hl
        simp only [Option.some.injEq, Prod.mk.injEq] at he
        obtain ⟨rfl, rfl, rfl⟩ := he
        obtain ⟨u, e1, e2⟩ := Cz ht hargs
        exact oQ (R := fun x w' => ∃ M', M.le M' /\ GRel c N0 w0 B h0 M' ⟨h.next, keepIn h0 h.objs h.next⟩ none w' /\ VRel M' (.str (n :: l)) x) hop H.fr e1
         ((y3 H hg e2).mono fun e w' ⟨M', x, r1, r2, r3, r4⟩ => ⟨x, r1, M', r2, r3, r4⟩) fun x w' ⟨M', r2, r3, r4⟩ => hn M' x w' r2 r3 r4
       ·cases he
      ·cases he
     ·cases he
  ·cases he
 ·cases he
end ghost
variable {J : Ctx}

section runs
variable {P : Program} {tb : Tab} {c : BCfg}

theorem ki (H : TabOK P tb J) (HB : BOK P c) {call : Nat -> List AV -> AHeap -> Option (AV × AHeap)} (hcall : fu P J call) {N0 : Nat -> Prop} {w0 : Base J} {B : Nat} {h0 : T AObj} {n : Nat} {ops : Array Oper} {Q : Exit -> Act -> World -> Prop} :
  ∀ {rest : List Oper} {i : Nat} {M : Inj} {tm tm' : T AV} {h h' : AHeap} {g g' : Gh} {a : Act} {w : World},
  (∀ k o, rest[k]? = some o -> ops[i + k]? = some o) -> TRel M tm a -> a.tmps.size = n -> GRel c N0 w0 B h0 M h g w -> kh c tb call h0 n ops.toList rest tm h g = some (tm', h', g') ->
  (∀ M' a' w', M.le M' -> TRel M' tm' a' -> a'.tmps.size = n -> a'.defers = a.defers -> GRel c N0 w0 B h0 M' h' g' w' -> Q .normal a' w') ->
  wpOps P ops Q (List.range' i rest.length) a w
 | [], i, M, tm, tm', h, h', g, g', a, w, hr, ht, hs, hh, he, hn => by
  simp only [kh, Option.some.injEq, Prod.mk.injEq] at he
  obtain ⟨rfl, rfl, rfl⟩ := he
  exact hn M a w (Inj.le_refl M) ht hs rfl hh
 | o :: rest, i, M, tm, tm', h, h', g, g', a, w, hr, ht, hs, hh, he, hn => by
  have ho : ops[i]? = some o := by simpa using hr 0 o rfl
  have hr' : ∀ k o, rest[k]? = some o -> ops[i + 1 + k]? = some o := fun k o hk => by
   have := hr (k + 1) o (by simpa using hk)
   rw [show i + 1 + k = i + (k + 1) by omega]
   exact this
  unfold kh at he
  simp only [List.length_cons, List.range'_succ]
  rw [wpOps_cons]
  split at he
  ·-- a builder's
   rename_i v h1 g1 hsp
   split at he
   ·rename_i tm1 hp
    unfold wpOp
    simp only [ho]
    have hgd : o.guard = none := by
     unfold Ac at hsp
     split at hsp
     ·cases hsp
     ·assumption
    have hw : Region.wanted o (yielded ops a.tmps) = true := by unfold Region.wanted; rw [hgd]
    rw [hw, if_pos rfl]
    refine .inl ?_
    refine (Dk HB ht hh hsp (fun M' u w' hM hg' hv => ?_)).2
    refine ki H HB hcall hr' (ht.put hM hs hp hv) (by rw [gE]; exact hs) hg' he (fun M2 a2 w2 hM2 ht2 hs2 hd2 hh2 => ?_)
    exact hn M2 a2 w2 (Inj.le_trans hM hM2) ht2 hs2 (by rw [hd2, i6]) hh2
   ·cases he
  ·cases he
  ·split at he
   ·rename_i v h1 k he1
    split at he
    ·rename_i tm1 hp
     obtain ⟨q1, q2, q3, N, w1, hh1, q4, q5, q6, q7, q8, q9⟩ := hh
     refine vB H hcall ht hh1 ho he1 (fun M' u w' hM hh' hv => ?_)
     refine ki H HB hcall hr' (ht.put hM hs hp hv) (by rw [gE]; exact hs) (GRel.step q1 q2 q3 q4 q5 q6 q7 q8 q9 hM hh') he (fun M2 a2 w2 hM2 ht2 hs2 hd2 hh2 => ?_)
     exact hn M2 a2 w2 (Inj.le_trans hM hM2) ht2 hs2 (by rw [hd2, i6]) hh2
    ·cases he
   ·cases he

def ou (P : Program) (J : Ctx) (c : BCfg) (tb : Tab) (k : Nat) : Prop :=
 ∀ (n : Nat) (cd : Code) (tm : T AV) (h : AHeap) (g : Gh) (ex : Ex) (tm' : T AV) (h' : AHeap) (g' : Gh) (M : Inj) (N0 : Nat -> Prop) (w0 : Base J) (B : Nat) (h0 : T AObj) (a : Act) (w : World) (Q : Exit -> Act -> World -> Prop),
  nn c tb k h0 n cd tm h g = some (ex, tm', h', g') -> TRel M tm a -> a.tmps.size = n -> a.defers = [] -> GRel c N0 w0 B h0 M h g w ->
  (∀ M' a' w', M.le M' -> TRel M' tm' a' -> a'.tmps.size = n -> a'.defers = [] -> GRel c N0 w0 B h0 M' h' g' w' -> Q (CL ex) a' w') -> cd.wp P Q a w

theorem pY (H : TabOK P tb J) {k : Nat} (hs : ou P J c tb k) : fu P J (ls tb (nn c tb k)) := by
 intro M N w0 h w f args vs v h' he hl hh
 unfold ls at he
 split at he
 ·-- known
  rename_i v1 hor
  simp only [Option.some.injEq, Prod.mk.injEq] at he
  obtain ⟨rfl, rfl⟩ := he
  obtain ⟨h1, h2⟩ := H.orc _ _ _ _ hor M N w0 vs w hh hl
  refine ⟨h1, h2.mono ?_⟩
  rintro e w' ⟨u, rfl, hu, hb⟩
  refine ⟨M, u, rfl, Inj.le_refl M, ⟨hh.base, hh.lim, hh.below.trans (Keeps.of hb hh.big), fun k hk => Nat.lt_of_lt_of_le (hh.big k hk) hb.size, fun b o hbo => ?_, hh.apart, hh.old, hh.fresh, hh.res⟩, hu⟩
  have ho := hh.live b o hbo
  exact ho.mono (Inj.le_refl M) (fun i hi => hb.block _ (ho.blk_lt hi).1)
 rename_i hnor
 split at he
 ·rename_i fn hfn
  split at he
  ·rename_i cd hb hle
   have hle := Nat.ble_eq.mp hle
   have hf := H.ft _ _ hfn
   refine ⟨⟨fn, hf, by rw [hb]; rfl, H.nm _ _ hfn (by rw [hb]; rfl)⟩, ?_⟩
   split at he
   ·cases he
   ·rename_i ex tm' h1 g1 hex hrun
    split at he
    ·rename_i l hres
     simp only [Option.some.injEq, Prod.mk.injEq] at he
     obtain ⟨rfl, rfl⟩ := he
     have hvs : vs.size = args.length := by rw [<- hl.1]; simp
     refine calls_of_wp hf hb (hs fn.ntmps cd _ h none ex tm' h1 g1 M N w0 w.heap.size h.objs _ w _ hrun ?_ ?_ rfl (GRel.enter hh) ?_)
     ·intro t x hx
      rw [jE] at hx
      split at hx
      ·rename_i hc
       simp only [Nat.sub_zero] at hx
       obtain ⟨u, hu, hr⟩ := hl.get hx
       have hu' : vs[t]? = some u := by simpa using hu
       have hlt : t < vs.size := (Array.getElem?_eq_some_iff.1 hu').1
       have : (vs ++ Array.replicate (fn.ntmps - vs.size) undef)[t]? = some u := by
        rw [Array.getElem?_append_left hlt]; exact hu'
       simp only [Array.getD_eq_getD_getElem?, this, Option.getD_some]
       exact hr
      ·rw [bg] at hx; cases hx
     ·simp; omega
     ·intro M' a' w' hM ht' hsz hd hg'
      have hh' := hg'.leave
      obtain ⟨us, q1, q2⟩ := ju H ht' hh' hres
      have hR : ∃ u, (results fn a'.tmps).run P w' = .ok u w' /\ VRel M' (ac l) u := by
       have e1 : (results fn a'.tmps).run P w' = .ok (if h : us.toArray.size = 1 then us.toArray[0] else .tuple us.toArray) w' := by
        unfold results
        simp only [Sem.run_bind]
        rw [Array.mapM_eq_mapM_toList]
        simp only [Sem.run_map]
        refine (congrArg (fun q => Result.andThen (Result.andThen q _) _) q1).trans ?_
        rfl
       refine ⟨_, e1, ?_⟩
       match l, us, q2 with
       | [], [], _ => exact .tuple [] _ rfl (fun i v u p => by simp at p)
       | [x], [u], q2 => simpa [ac] using q2.2 0 x u rfl rfl
       | x :: y :: l, u :: v :: us, q2 =>
        have : ¬ ((u :: v :: us).toArray.size = 1) := by simp
        rw [dif_neg this]
        exact q2.tuple
       | [], _ :: _, q2 => have := q2.1; simp at this
       | [_], [], q2 => have := q2.1; simp at this
       | [_], _ :: _ :: _, q2 => have := q2.1; simp at this
       | _ :: _ :: _, [], q2 => have := q2.1; simp at this
       | _ :: _ :: _, [_], q2 => have := q2.1; simp at this
      obtain ⟨u, r1, r2⟩ := hR
      have post : a'.defers = [] /\ ∃ v, (results fn a'.tmps).run P w' = .ok v w' /\
        ∃ M'' u, Ending.returned v = .returned u /\ M.le M'' /\ HRel M'' N w0 h1 w' /\ VRel M'' (ac l) u := ⟨hd, u, r1, M', u, rfl, hM, hh', r2⟩
      cases ex with
      | normal => exact post
      | ret => exact post
      | exit i => exact (hex i rfl).elim
    ·cases he
   ·cases he
  ·cases he
 ·cases he

theorem qM (H : TabOK P tb J) (HB : BOK P c) (k : Nat) (IH : ∀ j, j <= k -> ou P J c tb j) : ou P J c tb (k + 1) := by
 intro n cd tm h g ex tm' h' g' M N0 w0 B h0 a w Q he ht hs hd hh hQ
 have hS := IH k (Nat.le_refl k)
 have hcall := pY H hS
 have he0 := he
 simp only [nn] at he
 unfold oU at he
 split at he
 ·simp only [Option.some.injEq, Prod.mk.injEq] at he
  obtain ⟨rfl, rfl, rfl, rfl⟩ := he
  exact wp_skip (hQ M a w (Inj.le_refl M) ht hs hd hh)
 ·simp only [Option.some.injEq, Prod.mk.injEq] at he
  obtain ⟨rfl, rfl, rfl, rfl⟩ := he
  exact wp_label (hQ M a w (Inj.le_refl M) ht hs hd hh)
 ·simp only [Option.some.injEq, Prod.mk.injEq] at he
  obtain ⟨rfl, rfl, rfl, rfl⟩ := he
  exact wp_ret (hQ M a w (Inj.le_refl M) ht hs hd hh)
 ·simp only [Option.some.injEq, Prod.mk.injEq] at he
  obtain ⟨rfl, rfl, rfl, rfl⟩ := he
  exact wp_exit (hQ M a w (Inj.le_refl M) ht hs hd hh)
 ·-- a region
  rename_i id ops draw
  cases draw with
  | true =>
   simp only at he
   split at he
   ·rename_i tm1 h1 hr
    simp only [Option.some.injEq, Prod.mk.injEq] at he
    obtain ⟨rfl, rfl, rfl, rfl⟩ := he
    obtain ⟨q1, q2, q3, N, w1, hh1, q4, q5, q6, q7, q8, q9⟩ := hh
    exact nF H hcall H.mo ht hs hh1 hr (fun M' a' w' g1 g2 g3 g4 g5 => hQ M' a' w' g1 g2 g3 (by rw [g4]; exact hd) (GRel.step q1 q2 q3 q4 q5 q6 q7 q8 q9 g1 g5))
   ·cases he
  | false =>
   simp only at he
   split at he
   ·rename_i tm1 h1 g1 hr
    simp only [Option.some.injEq, Prod.mk.injEq] at he
    obtain ⟨rfl, rfl, rfl, rfl⟩ := he
    refine wp_region ?_
    have := ki (Q := Q) (n := n) H HB hcall (ops := ops) (rest := ops.toList) (i := 0) (fun k o hk => by rw [Nat.zero_add]; simpa using hk) ht hs hh hr
     (fun M' a' w' g1 g2 g3 g4 g5 => hQ M' a' w' g1 g2 g3 (by rw [g4]; exact hd) g5)
    rw [List.range_eq_range']
    simpa using this
   ·cases he
 ·-- one behind the other
  rename_i x y
  split at he
  ·rename_i tm1 h1 g1 h2
   refine wp_seq (hS n x tm h g .normal tm1 h1 g1 M N0 w0 B h0 a w _ h2 ht hs hd hh (fun M' a' w' k1 k2 k3 k4 k5 => ?_))
   exact hS n y tm1 h1 g1 ex tm' h' g' M' N0 w0 B h0 a' w' Q he k2 k3 k4 k5 (fun M2 a2 w2 l1 l2 l3 l4 l5 => hQ M2 a2 w2 (Inj.le_trans k1 l1) l2 l3 l4 l5)
  ·rename_i hne
   refine wp_seq (hS n x tm h g ex tm' h' g' M N0 w0 B h0 a w _ he ht hs hd hh (fun M' a' w' k1 k2 k3 k4 k5 => ?_))
   cases ex with
   | normal => exact absurd he (hne _ _ _)
   | exit i => exact hQ M' a' w' k1 k2 k3 k4 k5
   | ret => exact hQ M' a' w' k1 k2 k3 k4 k5
 ·-- if
  rename_i x y z
  split at he
  ·rename_i hx
   exact wp_cond_true (eK (dP ht hx)) (hS n y tm h g ex tm' h' g' M N0 w0 B h0 a w Q he ht hs hd hh hQ)
  ·rename_i hx
   exact wp_cond_false (eK (dP ht hx)) (hS n z tm h g ex tm' h' g' M N0 w0 B h0 a w Q he ht hs hd hh hQ)
  ·cases he
 ·-- a block
  rename_i id b
  split at he
  ·rename_i j tm1 h1 g1 hb
   split at he
   ·rename_i hj
    have hj := Nat.eq_of_beq_eq_true hj
    subst hj
    simp only [Option.some.injEq, Prod.mk.injEq] at he
    obtain ⟨rfl, rfl, rfl, rfl⟩ := he
    refine wp_block (hS n b tm h g _ _ _ _ M N0 w0 B h0 a w _ hb ht hs hd hh (fun M' a' w' k1 k2 k3 k4 k5 => ?_))
    show if j = j then Q .normal a' w' else _
    rw [if_pos rfl]
    exact hQ M' a' w' k1 k2 k3 k4 k5
   ·rename_i hj
    simp only [Option.some.injEq, Prod.mk.injEq] at he
    obtain ⟨rfl, rfl, rfl, rfl⟩ := he
    refine wp_block (hS n b tm h g _ _ _ _ M N0 w0 B h0 a w _ hb ht hs hd hh (fun M' a' w' k1 k2 k3 k4 k5 => ?_))
    show if j = id then _ else Q (.exit j) a' w'
    rw [if_neg (by intro e; subst e; simp at hj)]
    exact hQ M' a' w' k1 k2 k3 k4 k5
  ·rename_i hne
   refine wp_block (hS n b tm h g ex tm' h' g' M N0 w0 B h0 a w _ he ht hs hd hh (fun M' a' w' k1 k2 k3 k4 k5 => ?_))
   cases ex with
   | normal => exact hQ M' a' w' k1 k2 k3 k4 k5
   | exit i => exact absurd he (hne _ _ _ _)
   | ret => exact hQ M' a' w' k1 k2 k3 k4 k5
 ·-- a loop
  rename_i b
  let G : Act -> World -> Nat -> Prop := fun a1 w1 j => j <= k /\ ∃ M1 tm1 h1 g1, M.le M1 /\ TRel M1 tm1 a1 /\ a1.tmps.size = n /\ a1.defers = [] /\ GRel c N0 w0 B h0 M1 h1 g1 w1 /\
   nn c tb (j + 1) h0 n (.loop b) tm1 h1 g1 = some (ex, tm', h', g')
  refine wp_loop (fun a1 w1 => ∃ j, G a1 w1 j) (fun a1 w1 => mu (G a1 w1))
   ⟨k, Nat.le_refl k, M, tm, h, g, Inj.le_refl M, ht, hs, hd, hh, he0⟩ ?_
  intro a1 w1 hI
  have hle := lw hI
  generalize hj : mu (G a1 w1) = j at hle
  obtain ⟨⟨hjk, M1, tm1, h1, g1, q1, q2, q3, q4, q5, q6⟩, hmin⟩ := hle
  simp only [nn] at q6
  unfold oU at q6
  simp only at q6
  split at q6
  ·rename_i tm2 h2 g2 hb
   refine IH j hjk n b tm1 h1 g1 .normal tm2 h2 g2 M1 N0 w0 B h0 a1 w1 _ hb q2 q3 q4 q5 (fun M' a' w' k1 k2 k3 k4 k5 => ?_)
   cases j with
   | zero => simp [nn] at q6
   | succ j =>
    have hG : G a' w' j := ⟨by omega, M', tm2, h2, g2, Inj.le_trans q1 k1, k2, k3, k4, k5, q6⟩
    have hI' : ∃ j, G a' w' j := ⟨j, hG⟩
    refine ⟨hI', ?_⟩
    have := (lw hI').2 j hG
    omega
  ·rename_i hne
   refine IH j hjk n b tm1 h1 g1 ex tm' h' g' M1 N0 w0 B h0 a1 w1 _ q6 q2 q3 q4 q5 (fun M' a' w' k1 k2 k3 k4 k5 => ?_)
   cases ex with
   | normal => exact absurd q6 (hne _ _ _)
   | exit i => exact hQ M' a' w' (Inj.le_trans q1 k1) k2 k3 k4 k5
   | ret => exact hQ M' a' w' (Inj.le_trans q1 k1) k2 k3 k4 k5
 ·cases he

theorem B8 (H : TabOK P tb J) (HB : BOK P c) : ∀ k, ou P J c tb k := by
 intro k
 induction k using Nat.strongRecOn with
 | _ k ih =>
  cases k with
  | zero =>
   intro n cd tm h g ex tm' h' g' M N0 w0 B h0 a w Q he
   simp [nn] at he
  | succ k => exact qM H HB k (fun j hj => ih j zy)

theorem vc (H : TabOK P tb J) (HB : BOK P c) (k : Nat) : fu P J (uZ c tb k) := pY H (B8 H HB k)
end runs
theorem ri {P : Program} {tb : Tab} {c : BCfg} {l : List Value} (H : TabOK P tb (AF l)) (HB : BOK P c) {k f : Nat} {args : List AV} {v : AV} {u : Value} (hu : yQ v = some u)
  (he : eZ (uZ c tb k f args ⟨l.length, .leaf⟩) v = true) {vs : Array Value} (hl : LRel (me l) args vs.toList) (w : World) :
  Calls P f vs w fun e w' => e = .returned u /\ Below w.heap.size w w' := by
 obtain ⟨h', he⟩ := vV he
 have hh : HRel (J := AF l) (me l) (fun k => k < w.heap.size) ⟨w, 0, fun _ _ => trivial, fun _ => False⟩ ⟨l.length, .leaf⟩ w := ⟨Inj.le_refl _, fun k hk => absurd hk (Nat.not_lt_zero k), Keeps.refl _ _, fun k hk => hk, fun b o h => by simp [bg] at h, fun b b' o o' i i' h => by simp [bg] at h,
  fun b o h => by simp [bg] at h, fun b hb => by unfold me; rw [List.getElem?_eq_none hb], fun b hb => hb.elim⟩
 obtain ⟨_, hc⟩ := vc H HB k _ _ _ _ _ _ _ _ _ _ he hl hh
 exact hc.mono fun e w' ⟨M', x, h1, h2, h3, h4⟩ => ⟨by rw [h1, sR hu h4], h3.below.below fun k hk => hk⟩
end Go.Proofs.YtndhhgbpcmfeiaaGreatDoor.Ev
