/- An evaluator of closed calls, part 15: what is done to a builder, and runs with one. -/
import Derived.Test.YtndhhgbpcmfeiaaGreatDoorGEvX
namespace Go.Proofs.YtndhhgbpcmfeiaaGreatDoor.Ev
open Go.RowKit
variable {J : Ctx}
set_option linter.unusedVariables false
set_option linter.unusedSimpArgs false

section ghost
variable {P : Program} {tb : Tab} {c : BCfg} {N0 : Nat → Prop} {w0 : Base J} {B : Nat} {h0 : T AObj} {M : Inj} {h : AHeap} {g : Gh} {w : World}

theorem opq_ptr {k : Nat} {u v : Value} (hM : M k = some ⟨0, 0, 0, 0, v⟩) (hu : VRel M (.opq k) u) : u = v := by
  cases hu with
  | opq b i u hi he hc =>
    rw [hM] at hi
    cases hi
    exact he.symm
theorem gh_write (H : BOK P c) {k : Nat} {l t : List Nat} {u : Value} {q : ByteArray} (hg : GRel c N0 w0 B h0 M h (some (k, l)) w) (hu : VRel M (.opq k) u) (hq : q.data.toList.map UInt8.toNat = t) (hl : l.length + t.length ≤ 1048576) :
    Calls P c.fs #[u, .string q] w fun e w' => ∃ M' x, e = .returned x ∧ M.le M' ∧ GRel c N0 w0 B h0 M' h (some (k, l ++ t)) w' ∧ VRel M' (.tuple [.int .i64 (t.length : Nat), .nili]) x := by
  obtain ⟨h1, h2, h3, N, w1, hh, h4, h5, h6, h7, h8, h9⟩ := hg
  obtain ⟨blk, s, q1, q2, q3, q4, q5⟩ := (h8.keeps hh.below) k l rfl
  obtain rfl := opq_ptr q1 hu
  have hqs : q.size = t.length := by rw [← hq, List.length_map, Array.length_toList]; rfl
  obtain ⟨o1, o2, o3⟩ := is_own q3
  refine (H.ws B blk (Lib.byteCells s) q w q3 (by rw [Lib.byteCells_length]; rw [q2, List.length_map] at hl; omega) (by omega)).mono ?_
  rintro e w' ⟨rfl, r1, r2⟩
  have hk : Keeps N0 w w' := ⟨r2.os, r2.tape, r2.output, r2.size, fun x hx => by
    have := h2 x hx
    exact r2.block x (by omega) (by omega) (fun e => by have := (o3 x e).1; omega)⟩
  obtain ⟨p1, p2, p3⟩ := is_own r1
  obtain ⟨w2, e1, e2, e3, hh2⟩ := hh.newBase (N0 := N0) (N' := fun x => N x ∨ ownB w' blk = some x) (h' := h) (Inj.le_refl M) hk (fun k hk => h3 k (h6 ▸ hk)) h4 (fun k hk => .inl (h4 k hk))
    (fun x hx => hx.elim (fun hx => Nat.lt_of_lt_of_le (hh.big x hx) r2.size) (fun hx => (p3 x hx).2)) (fun b o hb => hb) (Nat.le_refl _) hh.fresh (fun _ _ => rfl)
    (fun b o i hb hi => by
      obtain ⟨lt, nd⟩ := (hh.live b o hb).blk_lt hi
      refine ⟨?_, fun hN hN' => hN'.elim hN fun e => (r2.own _ e).elim (fun e => hN (q5 _ e)) (fun e => by omega)⟩
      rcases nd with nd | nd
      · exact r2.block _ lt (fun e => nd (e ▸ q4)) (fun e => nd (q5 _ e))
      · exact hk.block _ (h3 _ (h6 ▸ nd)))
  refine ⟨M, _, rfl, Inj.le_refl M, ⟨h1, h2, h3, _, w2, hh2, fun k hk => .inl (h4 k hk), by rw [e1]; exact (h5.trans (hh.below.mono h4)).trans hk, by rw [e2, h6], fun b hb => e3 b (h7 b hb), ?_, by rw [e1]; omega⟩, ?_⟩
  · intro a m e
    cases e
    refine ⟨blk, s ++ q.data.toList, q1, by rw [List.map_append, ← q2, hq], ?_, .inl q4, fun x hx => .inr (e1 ▸ hx)⟩
    rw [e1, Lib.byteCells_append]
    exact r1
  · refine .tuple _ _ rfl fun i v x hv hx => ?_
    match i, hv, hx with
    | 0, hv, hx => cases hv; cases hx; rw [← hqs]; exact .int _ _
    | 1, hv, hx => cases hv; cases hx; exact .nili
theorem gh_keep (hg : GRel c N0 w0 B h0 M h g w) {g' : Gh} {w' : World} (hb : Below B w w')
    (hB : ∀ k l, g' = some (k, l) → ∃ (blk : Nat) (s : List UInt8), M k = some ⟨0, 0, 0, 0, .pointer (some ⟨blk, 0, none⟩)⟩ ∧ l = s.map UInt8.toNat ∧ Lib.IsBuilder c.bt c.bu B blk (Lib.byteCells s) w') : GRel c N0 w0 B h0 M ⟨h.next, keepIn h0 h.objs h.next⟩ g' w' := by
  obtain ⟨h1, h2, h3, N, w1, hh, h4, h5, h6, h7, h8, h9⟩ := hg
  have hk : Keeps N0 w w' := Keeps.of hb h2
  have hsz : B ≤ w.heap.size := Nat.le_trans h9 hh.below.size
  obtain ⟨w2, e1, e2, e3, hh2⟩ := hh.newBase (N0 := N0) (N' := fun x => N0 x ∨ (B ≤ x ∧ x < w'.heap.size)) (h' := ⟨h.next, keepIn h0 h.objs h.next⟩) (Inj.le_refl M) hk (fun k hk => h3 k (h6 ▸ hk)) h4 (fun k hk => .inl hk)
    (fun x hx => hx.elim (fun hx => by have := h2 x hx; have := hb.size; omega) (fun hx => hx.2)) (fun b o hb => (keepIn_get hb).1) (Nat.le_refl _) hh.fresh (fun _ _ => rfl)
    (fun b o i ho hi => by
      obtain ⟨_, o', ho'⟩ := keepIn_get ho
      obtain ⟨j, hj, hlt⟩ := h1 b o' ho'
      rw [hi] at hj
      cases hj
      exact ⟨hb.block _ hlt, fun hN hN' => hN'.elim (fun e => hN (h4 _ e)) (fun e => by omega)⟩)
  refine ⟨h1, h2, h3, _, w2, hh2, fun k hk => .inl hk, by rw [e1]; exact (h5.trans (hh.below.mono h4)).trans hk, by rw [e2, h6], fun b hb => e3 b (h7 b hb), ?_, by rw [e1]; have := hb.size; omega⟩
  intro k l e
  obtain ⟨blk, s, q1, q2, q3⟩ := hB k l e
  obtain ⟨o1, o2, o3⟩ := is_own q3
  exact ⟨blk, s, q1, q2, e1 ▸ q3, .inr ⟨o1, o2⟩, fun x hx => .inr (o3 x (e1 ▸ hx))⟩
theorem gh_byte (H : BOK P c) {k n : Nat} {l : List Nat} {u : Value} (hg : GRel c N0 w0 B h0 M h (some (k, l)) w) (hu : VRel M (.opq k) u) (hn : n < 256) (hl : l.length + 1 ≤ 1048576) :
    Calls P c.fb #[u, .int .u8 (n : Int)] w fun e w' => ∃ M' x, e = .returned x ∧ M.le M' ∧ GRel c N0 w0 B h0 M' ⟨h.next, keepIn h0 h.objs h.next⟩ (some (k, l ++ [n])) w' ∧ VRel M' .nili x := by
  have hg0 := hg
  obtain ⟨h1, h2, h3, N, w1, hh, h4, h5, h6, h7, h8, h9⟩ := hg
  obtain ⟨blk, s, q1, q2, q3, q4, q5⟩ := (h8.keeps hh.below) k l rfl
  obtain rfl := opq_ptr q1 hu
  obtain ⟨o1, o2, o3⟩ := is_own q3
  refine (H.wb B blk (Lib.byteCells s) n w q3 (by rw [Lib.byteCells_length]; rw [q2, List.length_map] at hl; omega) (by omega)).mono ?_
  rintro e w' ⟨rfl, r1, r2⟩
  refine ⟨M, _, rfl, Inj.le_refl M, gh_keep hg0 r2 ?_, .nili⟩
  intro a m e
  cases e
  refine ⟨blk, s ++ [UInt8.ofNat n], q1, by rw [List.map_append, ← q2]; simp [UInt8.toNat_ofNat', Nat.mod_eq_of_lt hn], ?_⟩
  rw [Lib.byteCells_append]
  have e2 : Lib.byteCells [UInt8.ofNat n] = [Value.int .u8 (n : Int)] := by simp [Lib.byteCells, UInt8.toNat_ofNat', Nat.mod_eq_of_lt hn]
  rw [e2]
  exact r1
theorem gh_tell (H : BOK P c) {k n : Nat} {l : List Nat} {u : Value} (hg : GRel c N0 w0 B h0 M h (some (k, n :: l)) w) (hu : VRel M (.opq k) u) :
    Calls P c.fr #[u] w fun e w' => ∃ M' x, e = .returned x ∧ M.le M' ∧ GRel c N0 w0 B h0 M' ⟨h.next, keepIn h0 h.objs h.next⟩ none w' ∧ VRel M' (.str (n :: l)) x := by
  have hg0 := hg
  obtain ⟨h1, h2, h3, N, w1, hh, h4, h5, h6, h7, h8, h9⟩ := hg
  obtain ⟨blk, s, q1, q2, q3, q4, q5⟩ := (h8.keeps hh.below) k _ rfl
  obtain rfl := opq_ptr q1 hu
  refine (H.tl B blk s w q3 (by rintro rfl; cases q2)).mono ?_
  rintro e w' ⟨rfl, r2⟩
  exact ⟨M, _, rfl, Inj.le_refl M, gh_keep hg0 r2 (fun a m e => by cases e), .str _ _ (by rw [q2])⟩

/-- A call of a function that is known to end so. -/
theorem call_op {a : Act} {f : Nat} {args : Array Operand} {tys : Array TypeId} {vs : Array Value} {o : Oper} {next : Act → World → Prop} {Q : Exit → Act → World → Prop} (ho : o.op = .call ⟨.value (.func f), args, tys⟩) (hf : hasFn P f)
    (hvs : args.map a.eval = vs) {R : Value → World → Prop} (hc : Calls P f vs w fun e w' => ∃ x, e = .returned x ∧ R x w') (hn : ∀ x w', R x w' → next (a.put o.dst x) w') : o.wp P a w next Q := by
  obtain ⟨fn, h1, h2, h3⟩ := hf
  obtain ⟨dst, op, type, pos, after, guard⟩ := o
  simp only at ho
  subst ho
  have hrun : (execOp a.eval { dst, op := .call { callee := .value (.func f), args, argTypes := tys }, type, pos, after, guard }).run P w = .ok (.enter f vs) w := by
    have hb2 : fn.body.isNone = false := by cases hbb : fn.body <;> simp_all
    have he : a.eval (.func f) = .func (.func f) #[] #[] := rfl
    simp only [execOp, resolve, Sem.run_bind, he, Deferred.ofValue, Sem.run_pure, Result.andThen_ok, invoke, callFunc, run_program, h1, h3, Bool.false_eq_true, if_false, hb2, Array.empty_append, hvs, Array.append_empty]
  unfold Oper.wp
  rw [hrun, Oper.upon_enter]
  refine hc.mono ?_
  rintro e w' ⟨x, rfl, hx⟩
  exact hn x w' hx
theorem args2 {tm : T AV} {a : Act} (ht : TRel M tm a) {args : Array Operand} {x y : AV} (h : opnds tm args.toList = some [x, y]) : ∃ u v, args.map a.eval = #[u, v] ∧ VRel M x u ∧ VRel M y v := by
  have hl := opnds_ok ht h
  obtain ⟨u, h1, h2⟩ := hl.get (i := 0) rfl
  obtain ⟨v, h3, h4⟩ := hl.get (i := 1) rfl
  refine ⟨u, v, ?_, h2, h4⟩
  apply Array.ext'
  rw [Array.toList_map]
  match hm : args.toList.map a.eval, hl.1, h1, h3 with
  | [p, q], _, h1, h3 => cases h1; cases h3; rfl
theorem args1 {tm : T AV} {a : Act} (ht : TRel M tm a) {args : Array Operand} {x : AV} (h : opnds tm args.toList = some [x]) : ∃ u, args.map a.eval = #[u] ∧ VRel M x u := by
  have hl := opnds_ok ht h
  obtain ⟨u, h1, h2⟩ := hl.get (i := 0) rfl
  refine ⟨u, ?_, h2⟩
  apply Array.ext'
  rw [Array.toList_map]
  match hm : args.toList.map a.eval, hl.1, h1 with
  | [p], _, h1 => cases h1; rfl

theorem sp_ok (H : BOK P c) {tm : T AV} {a : Act} (ht : TRel M tm a) (hg : GRel c N0 w0 B h0 M h g w) {o : Oper} {v : AV} {h' : AHeap} {g' : Gh} (he : spOp c h0 tm h g o = some (some (v, h', g'))) {next : Act → World → Prop} {Q : Exit → Act → World → Prop}
    (hn : ∀ M' u w', M.le M' → GRel c N0 w0 B h0 M' h' g' w' → VRel M' v u → next (a.put o.dst u) w') : o.guard = none ∧ o.wp P a w next Q := by
  unfold spOp at he
  split at he
  · cases he
  rename_i hgd
  refine ⟨hgd, ?_⟩
  split at he
  · -- a new one
    rename_i t hop
    split at he
    · rename_i ht2
      have ht2 := Nat.eq_of_beq_eq_true ht2
      subst ht2
      split at he
      · simp only [Option.some.injEq, Prod.mk.injEq] at he
        obtain ⟨rfl, rfl, rfl⟩ := he
        obtain ⟨u, M', w', r1, r2, r3, r4⟩ := gh_alloc H hg
        obtain ⟨dst, op, type, pos, after, guard⟩ := o
        simp only at hop
        subst hop
        unfold Oper.wp
        have e1 : (execOp a.eval { dst, op := .alloc c.bt, type, pos, after, guard }).run P w = .ok (.value u) w' := by
          have : (execOp a.eval { dst, op := .alloc c.bt, type, pos, after, guard }).run P w = (do pure (.value (← Instr.alloc c.bt true (.tuple #[]))) : Sem Next).run P w := rfl
          rw [this]
          simp only [Sem.run_bind, r1, Result.andThen_ok, Sem.run_pure]
        rw [e1, Oper.upon_value]
        exact hn M' u w' r2 r4 r3
      · cases he
    · cases he
  · rename_i cl hop
    obtain ⟨callee, args, tys⟩ := cl
    simp only at he
    split at he
    · rename_i f
      split at he
      · rename_i hf
        have hf := Nat.eq_of_beq_eq_true hf
        subst hf
        simp only [Option.some.injEq] at he
        unfold spWrite at he
        split at he
        · rename_i k s hargs
          split at he
          · rename_i l hl
            obtain rfl := ghIs_some hl
            split at he
            · rename_i hle
              simp only [Option.some.injEq, Prod.mk.injEq] at he
              obtain ⟨rfl, rfl, rfl⟩ := he
              obtain ⟨u, v, e1, e2, e3⟩ := args2 ht hargs
              cases e3 with
              | str q _ hq =>
                exact call_op (R := fun x w' => ∃ M', M.le M' ∧ GRel c N0 w0 B h0 M' h (some (k, l ++ s)) w' ∧ VRel M' (.tuple [.int .i64 (s.length : Nat), .nili]) x) hop H.fs e1
                  ((gh_write H hg e2 hq (Nat.ble_eq.mp hle)).mono fun e w' ⟨M', x, r1, r2, r3, r4⟩ => ⟨x, r1, M', r2, r3, r4⟩) fun x w' ⟨M', r2, r3, r4⟩ => hn M' x w' r2 r3 r4
            · cases he
          · cases he
        · cases he
      · split at he
        · rename_i hf
          have hf := Nat.eq_of_beq_eq_true hf
          subst hf
          simp only [Option.some.injEq] at he
          unfold spByte at he
          split at he
          · rename_i k n hargs
            split at he
            · rename_i l hl
              obtain rfl := ghIs_some hl
              split at he
              · rename_i hle
                rw [Bool.and_eq_true] at hle
                simp only [Option.some.injEq, Prod.mk.injEq] at he
                obtain ⟨rfl, rfl, rfl⟩ := he
                obtain ⟨u, v, e1, e2, e3⟩ := args2 ht hargs
                obtain rfl := int_iff e3
                exact call_op (R := fun x w' => ∃ M', M.le M' ∧ GRel c N0 w0 B h0 M' ⟨h.next, keepIn h0 h.objs h.next⟩ (some (k, l ++ [n])) w' ∧ VRel M' .nili x) hop H.fb e1
                  ((gh_byte H hg e2 (by simpa [Nat.blt_eq] using hle.2) (Nat.ble_eq.mp hle.1)).mono fun e w' ⟨M', x, r1, r2, r3, r4⟩ => ⟨x, r1, M', r2, r3, r4⟩) fun x w' ⟨M', r2, r3, r4⟩ => hn M' x w' r2 r3 r4
              · cases he
            · cases he
          · cases he
        · split at he
          · rename_i hf
            have hf := Nat.eq_of_beq_eq_true hf
            subst hf
            simp only [Option.some.injEq] at he
            unfold spTell at he
            split at he
            · rename_i k hargs
              split at he
              · rename_i n l hl
                obtain rfl := ghIs_some hl
                simp only [Option.some.injEq, Prod.mk.injEq] at he
                obtain ⟨rfl, rfl, rfl⟩ := he
                obtain ⟨u, e1, e2⟩ := args1 ht hargs
                exact call_op (R := fun x w' => ∃ M', M.le M' ∧ GRel c N0 w0 B h0 M' ⟨h.next, keepIn h0 h.objs h.next⟩ none w' ∧ VRel M' (.str (n :: l)) x) hop H.fr e1
                  ((gh_tell H hg e2).mono fun e w' ⟨M', x, r1, r2, r3, r4⟩ => ⟨x, r1, M', r2, r3, r4⟩) fun x w' ⟨M', r2, r3, r4⟩ => hn M' x w' r2 r3 r4
              · cases he
            · cases he
          · cases he
    · cases he
  · cases he
end ghost
end Go.Proofs.YtndhhgbpcmfeiaaGreatDoor.Ev
