/- exec.whole's deferred function: it catches what exec.must threw; at a quiet end it does nothing. -/
import Derived.Test.YtfkbfnpjggkdmaaGreatDoorNAt21
import Derived.Test.YtfkbfnpjggkdmaaGreatDoorNMu21
import Derived.Tactics
import Derived.Tactics2
import Derived.Defers
import Derived.Recover
import Derived.Laws.Pointers
namespace Go.Proofs.YtfkbfnpjggkdmaaGreatDoor
open Go.RowKit
set_option linter.unusedVariables false
theorem whole_idle (p1 p2 p3 : Addr) (w : World) :
    CallsD Tryz.prog 51 #[.pointer (some p1), .pointer (some p2), .pointer (some p3)] .returning w fun e u' w' => e = .returned (.tuple #[]) ∧ u' = .returning ∧ w' = w := by
  refine callsD_of_wpS Tryz.func51 rfl fun c₀ cs hu => ?_
  apply wpS_seq
  apply wpS_region
  simp [wpOpsS, go_sem, recoverD, hu, Tryz.ntmps51, Exit.thenS]
  apply wpS_seq
  apply wpS_seq
  apply wpS_region
  simp [wpOpsS, go_sem, Exit.thenS]
  refine wpS_cond (t := true) (by simp [Act.eval, Array.replicate]) ?_
  simp only [if_true]
  refine wpS_of_wp (wp_ret ?_)
  cases c₀
  simp_all [bodyPostS, results, Tryz.results51, Exit.thenS]
theorem Xas.isError (v : Value) (xT : TypeId) (w : World) : (Instr.typeAssert (.iface 209 v) xT 122 true).run Tryz.prog w = .ok (.tuple #[.iface 209 v, .bool true]) w := run_typeAssert_hasB Tryz.underlying122 (by kernel_rfl) v xT w
theorem step_val {P : Program} {ops : Array Oper} {Q : Exit → Act → World → Prop} {i : Nat} {rest : List Nat} {o : Oper} {a : Act} {w w' : World} {v : Value} (ho : ops[i]? = some o) (hg : o.guard = none)
    (hr : (execOp a.eval o).run P w = .ok (.value v) w') (hn : wpOps P ops Q rest (a.put o.dst v) w') : wpOps P ops Q (i :: rest) a w := by
  rw [wpOps_cons]
  unfold wpOp
  simp only [ho]
  rw [if_pos (by unfold Region.wanted; rw [hg])]
  refine .inl ?_
  unfold Oper.wp
  rw [hr, Oper.upon_value]
  exact hn
theorem step_skip {P : Program} {ops : Array Oper} {Q : Exit → Act → World → Prop} {i : Nat} {rest : List Nat} {o : Oper} {a : Act} {w w' : World} (ho : ops[i]? = some o) (hg : o.guard = none)
    (hr : (execOp a.eval o).run P w = .ok .skip w') (hn : wpOps P ops Q rest (a.put o.dst undef) w') : wpOps P ops Q (i :: rest) a w := by
  rw [wpOps_cons]
  unfold wpOp
  simp only [ho]
  rw [if_pos (by unfold Region.wanted; rw [hg])]
  refine .inl ?_
  unfold Oper.wp
  rw [hr, Oper.upon_skip]
  exact hn
/-- errors.As at such a chain: what is said of the world behind it. -/
theorem as_chain (pb B : Nat) (e t : Addr) (old : Value) (w : World) (hp : w.cell? ⟨pb, 0, none⟩ = some (.iface 120 (.pointer (some e)))) (hg : w.cell? ⟨0, 0, none⟩ = some (.iface 195 (.agg #[.pointer (some ⟨4, 122, none⟩)]))) (ht0 : w.cell? t = some old) (hf0 : w.frozen? t = false) (hB : B ≤ t.block) (hBw : B ≤ w.heap.size) (q : Addr) (qv : Value) (hq : w.cell? q = some qv) (hqB : q.block < B) :
    Calls Tryz.prog 52 #[.iface 209 (.pointer (some ⟨pb, 0, none⟩)), .iface 125 (.pointer (some t))] w fun ev w' => ev = .returned (.bool true) ∧ w'.cell? t = some (.pointer (some e)) ∧ w'.cell? q = some qv ∧ Below B w w' := by
  refine (as_hit pb e t old w hp hg ht0 hf0).mono ?_
  rintro ev w' ⟨rfl, rfl⟩
  have hb : Below B w (((((w.alloc (.cells #[.pointer (some t)] 125)).alloc (.cells #[.pointer (some ⟨4, 125, none⟩), .pointer (some ⟨w.heap.size, 0, none⟩), .int .u64 150] 160)).alloc (.cells #[.pointer (some ⟨4, 125, none⟩), .pointer (some ⟨w.heap.size, 0, none⟩), .int .u64 150] 160)).alloc (.cells #[.pointer (some e)] 120)).setCell t (.pointer (some e))) := by
    refine Below.setCell ?_ hB _
    exact ((((Below.refl _ _).alloc hBw _).alloc (by simp; omega) _).alloc (by simp; omega) _).alloc (by simp; omega) _
  refine ⟨rfl, ?_, by rw [hb.cell hqB]; exact hq, hb⟩
  · refine World.cell?_setCell_same _ _ _ (u := old) ?_
    have htl : t.block < w.heap.size := by
      rcases Nat.lt_or_ge t.block w.heap.size with h | h
      · exact h
      · simp [World.cell?, Array.getElem?_eq_none h] at ht0
    rw [World.cell?_alloc_lt _ _ t (by simp; omega), World.cell?_alloc_lt _ _ t (by simp; omega), World.cell?_alloc_lt _ _ t (by simp; omega), World.cell?_alloc_lt _ _ t htl]
    exact ht0
set_option maxRecDepth 100000 in
set_option maxHeartbeats 400000 in
theorem whole_caught (pb eb : Nat) (p1 p2 p3 : Addr) (x : Int) (w : World) (R : World → Prop)
    (hp : w.cell? ⟨pb, 0, none⟩ = some (.iface 120 (.pointer (some ⟨eb, 0, none⟩)))) (he : w.cell? ⟨eb, 0, none⟩ = some (.int .i64 x))
    (hg : w.cell? ⟨0, 0, none⟩ = some (.iface 195 (.agg #[.pointer (some ⟨4, 122, none⟩)])))
    (hs : ∀ w', Below w.heap.size w w' → ∃ w1 w2 w3, (Instr.storeAt 37 (.pointer (some p1)) (.agg #[.int .i64 0, .slice none 0 0])).run Tryz.prog w' = .ok () w1 ∧ (Instr.storeAt 3 (.pointer (some p2)) (.int .i64 0)).run Tryz.prog w1 = .ok () w2 ∧ (Instr.storeAt 38 (.pointer (some p3)) (.int .i64 x)).run Tryz.prog w2 = .ok () w3 ∧ R w3) :
    CallsD Tryz.prog 51 #[.pointer (some p1), .pointer (some p2), .pointer (some p3)] (.panicking [{ v := .iface 209 (.pointer (some ⟨pb, 0, none⟩)), recovered := false }]) w fun e u' w' => e = .returned (.tuple #[]) ∧
      u' = .panicking [{ v := .iface 209 (.pointer (some ⟨pb, 0, none⟩)), recovered := true }] ∧ R w' := by
  have lt : ∀ {p : Addr} {v : Value}, w.cell? p = some v → p.block < w.heap.size := by
    intro p v h
    rcases Nat.lt_or_ge p.block w.heap.size with h1 | h1
    · exact h1
    · simp [World.cell?, Array.getElem?_eq_none h1] at h
  have old : ∀ {p : Addr} {v : Value}, w.cell? p = some v → (w.alloc (.cells #[.pointer none] 120)).cell? p = some v := fun {p v} h => by
    rw [World.cell?_alloc_lt _ _ p (lt h)]; exact h
  have hpA := old hp
  have hgA := old hg
  have heA := old he
  have htA : (w.alloc (.cells #[.pointer none] 120)).cell? ⟨w.heap.size, 0, none⟩ = some (.pointer none) := by simp
  have hfA : (w.alloc (.cells #[.pointer none] 120)).frozen? ⟨w.heap.size, 0, none⟩ = false := by simp
  have hpl := lt hp
  have hel := lt he
  have hE := Xas.isError
  clear old lt
  refine callsD_of_wpS Tryz.func51 rfl fun c₀ cs hu => ?_
  simp only [Tryz.ntmps51, List.size_toArray, List.length_cons, List.length_nil, Nat.reduceAdd, Nat.reduceSub, Array.replicate_succ,
     Array.replicate_zero, List.push_toArray, List.append_toArray, List.nil_append, List.cons_append]
  apply wpS_seq
  apply wpS_region
  simp [wpOpsS, go_sem, recoverD, hu, Exit.thenS]
  refine wpS_of_wp ?_
  generalize hC : Code.region 5 _ _ = C5
  go_wp2_with (go_at_call 52; refine (as_chain pb w.heap.size ⟨eb, 0, none⟩ ⟨w.heap.size, 0, none⟩ (.pointer none) _ hpA hgA htA hfA (Nat.le_refl _) (by simp) ⟨eb, 0, none⟩ _ heA hel).mono ?_; rintro e w' ⟨rfl, hcT, hcE, hbT⟩; obtain ⟨w1, w2, w3, s1, s2, s3, hR⟩ := hs w' (((Below.refl _ _).alloc (Nat.le_refl _) _).trans hbT))
  subst hC
  refine wp_region ?_
  refine step_val (i := 0) (rest := [1, 2, 3, 4, 5, 6, 7]) (v := .agg #[.int .i64 0, .slice none 0 0]) (w' := w') rfl rfl (by simp [go_sem]) ?_
  refine step_val (v := .pointer (some ⟨eb, 0, none⟩)) (w' := w') rfl rfl (by simp [go_sem, hcT]) ?_
  refine step_val (v := .pointer (some ⟨eb, 0, none⟩)) (w' := w') rfl rfl (by simp [go_sem]) ?_
  refine step_val (v := .pointer (some ⟨eb, 0, none⟩)) (w' := w') rfl rfl (by simp [go_sem]) ?_
  refine step_val (v := .int .i64 x) (w' := w') rfl rfl (by simp [go_sem, hcE]) ?_
  refine step_skip (w' := w1) rfl rfl (by simp [execOp, Act.eval, Act.put, Sem.run_bind, Sem.run_pure, Result.andThen_ok, s1]) ?_
  refine step_skip (w' := w2) rfl rfl (by simp [execOp, Act.eval, Act.put, Sem.run_bind, Sem.run_pure, Result.andThen_ok, s2]) ?_
  refine step_skip (w' := w3) rfl rfl (by simp [execOp, Act.eval, Act.put, Sem.run_bind, Sem.run_pure, Result.andThen_ok, s3]) ?_
  rename_i K hK
  refine hK _ _ (wp_ret ?_)
  refine ⟨rfl, _, rfl, .tuple #[], ?_, rfl, rfl, hR⟩
  simp [results, Tryz.results51, go_sem]
namespace Ev
variable {J : Ctx}
theorem ptrs3 {M : Inj} {caps : List AV} {cs : Array Value} {g : Nat} (hg : isRX g caps = true) (hl : LRel M caps cs.toList) :
    g = 51 ∧ ∃ a i b j c k I1 I2 I3, caps = [.ptr a i, .ptr b j, .ptr c k] ∧ M a = some I1 ∧ M b = some I2 ∧ M c = some I3 ∧ cs = #[.pointer (some ⟨I1.blk, I1.off + i, none⟩), .pointer (some ⟨I2.blk, I2.off + j, none⟩), .pointer (some ⟨I3.blk, I3.off + k, none⟩)] := by
  unfold isRX at hg
  split at hg
  rotate_left
  · cases hg
  rename_i a i b j c k
  have hg := Nat.eq_of_beq_eq_true hg
  refine ⟨hg, ?_⟩
  obtain ⟨l⟩ := cs
  obtain ⟨h1, h2⟩ := hl
  match l, h1 with
  | [x, y, z], _ =>
    obtain ⟨I1, e1, f1⟩ := ptr_iff (h2 0 _ _ rfl rfl)
    obtain ⟨I2, e2, f2⟩ := ptr_iff (h2 1 _ _ rfl rfl)
    obtain ⟨I3, e3, f3⟩ := ptr_iff (h2 2 _ _ rfl rfl)
    subst f1 f2 f3
    exact ⟨a, i, b, j, c, k, I1, I2, I3, rfl, e1, e2, e3, rfl⟩
theorem has51 : HasFn Tryz.prog 51 := ⟨_, Tryz.func51, by kernel_rfl, by kernel_rfl⟩
theorem idle_ok : ∀ g caps, isRX g caps = true → ∀ (M : Inj) (N : Nat → Prop) (w0 : Base J) (h : AHeap) (w : World) (cs : Array Value), LRel M caps cs.toList → HRel M N w0 h w →
    HasFn Tryz.prog g ∧ CallsD Tryz.prog g cs .returning w fun e u w' => (∃ v, e = .returned v) ∧ u = .returning ∧ ∃ M', M.le M' ∧ HRel M' N w0 h w' := by
  intro g caps hg M N w0 h w cs hl hh
  obtain ⟨rfl, a, i, b, j, c, k, I1, I2, I3, rfl, e1, e2, e3, rfl⟩ := ptrs3 hg hl
  refine ⟨has51, fun c cs hu => ?_⟩
  obtain ⟨e, u', w', fr, hR, rest⟩ := whole_idle _ _ _ w c cs hu
  obtain ⟨rfl, rfl, rfl⟩ := hR
  exact ⟨_, _, _, fr, ⟨⟨_, rfl⟩, rfl, M, Inj.le_refl M, hh⟩, rest⟩
end Ev
end Go.Proofs.YtfkbfnpjggkdmaaGreatDoor
