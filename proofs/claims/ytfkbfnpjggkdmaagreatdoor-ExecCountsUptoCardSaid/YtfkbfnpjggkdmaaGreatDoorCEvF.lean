/- An evaluator of closed calls, part 6: memory that is made and turned. -/
import Derived.Test.YtfkbfnpjggkdmaaGreatDoorCEvE
namespace Go.Proofs.YtfkbfnpjggkdmaaGreatDoor.Ev
open Go.RowKit
variable {J : Ctx}

structure Grow (w w' : World) (o : Obj) : Prop where
 os : w'.os = w.os
 tape : w'.tape = w.tape
 output : w'.output = w.output
 size : w'.heap.size = w.heap.size + 1
 old : ∀ k, k < w.heap.size -> w'.heap[k]? = w.heap[k]?
 new : w'.heap[w.heap.size]? = some o
structure Upd (w w' : World) (g : Nat) (o : Obj) : Prop where
 os : w'.os = w.os
 tape : w'.tape = w.tape
 output : w'.output = w.output
 size : w'.heap.size = w.heap.size
 old : ∀ k, k ≠ g -> w'.heap[k]? = w.heap[k]?
 new : w'.heap[g]? = some o

theorem Grow.alloc (w : World) (o : Obj) : Grow w (w.alloc o) o where
 os := rfl
 tape := rfl
 output := rfl
 size := by simp
 old := fun k hk => by show (w.heap.push o)[k]? = _; rw [Array.getElem?_push, if_neg zy]
 new := by show (w.heap.push o)[w.heap.size]? = _; simp
theorem Grow.below {N : Nat -> Prop} {w0 w w' : World} {o : Obj} (hb : Keeps N w0 w) (hN : ∀ k, N k -> k < w.heap.size) (g : Grow w w' o) : Keeps N w0 w' :=
 hb.trans ⟨g.os, g.tape, g.output, by rw [g.size]; omega, fun k hk => g.old k (hN k hk)⟩
theorem Upd.below {N : Nat -> Prop} {w0 w w' : World} {b : Nat} {o : Obj} (hb : Keeps N w0 w) (hN : ¬ N b) (g : Upd w w' b o) : Keeps N w0 w' :=
 hb.trans ⟨g.os, g.tape, g.output, by rw [g.size]; exact Nat.le_refl _, fun k hk => g.old k (fun e => hN (e ▸ hk))⟩

def Inj.upd (M : Inj) (b : Nat) (i : BI) : Inj := fun k => if k = b then some i else M k
theorem i8 {M : Inj} {b : Nat} (h : M b = none) (i : BI) : M.le (M.upd b i) := by
 intro k j hk
 unfold Inj.upd
 split
 ·rename_i e; subst e; rw [h] at hk; cases hk
 ·exact hk

theorem HRel.del {M : Inj} {N : Nat -> Prop} {w0 : Base J} {w : World} {h : AHeap} (hh : HRel M N w0 h w) (b : Nat) : HRel M N w0 ⟨h.next, h.objs.del b⟩ w := by
 have sub : ∀ c o, (h.objs.del b).get c = some o -> h.objs.get c = some o /\ c ≠ b := by
  intro c o hc
  rw [iR] at hc
  split at hc
  ·cases hc
  ·rename_i hne; exact ⟨hc, hne⟩
 exact ⟨hh.base, hh.lim, hh.below, hh.big, fun c o hc => hh.live c o (sub c o hc).1, fun c c' o o' i i' hc hc' => hh.apart c c' o o' i i' (sub c o hc).1 (sub c' o' hc').1,
  fun c o hc => hh.old c o (sub c o hc).1, hh.fresh, hh.res⟩

theorem ORel.mono {M M' : Inj} (hM : M.le M') {N : Nat -> Prop} {o : AObj} {b : Nat} {w w' : World} (h : ORel M N o b w)
  (hw : ∀ i, M b = some i -> w'.heap[i.blk]? = w.heap[i.blk]?) : ORel M' N o b w' := by
 obtain ⟨i, c, e, fr, h1, h2, h3, h4, h5, h6, h7, h8, h9⟩ := h
 exact ⟨i, c, e, fr, hM _ _ h1, by rw [hw i h1]; exact h2, h3, h4, h5, h6, h7, h8, fun k v hv => let ⟨p, u, q, r⟩ := h9 k v hv; ⟨p, u, q, r.mono hM⟩⟩
theorem RRel.mono {M M' : Inj} (hM : M.le M') {n : Nat} {o : AObj} {b : Nat} {w w' : World} (h : RRel M n o b w)
  (hw : ∀ i, M b = some i -> w'.heap[i.blk]? = w.heap[i.blk]?) : RRel M' n o b w' := by
 obtain ⟨i, c, e, fr, h1, h2, h3, h4, h5, h6⟩ := h
 exact ⟨i, c, e, fr, hM _ _ h1, h2, by rw [hw i h1]; exact h3, h4, h5, fun k v hv => let ⟨p, u, q, r⟩ := h6 k v hv; ⟨p, u, q, r.mono hM⟩⟩
theorem BRel.mono {M M' : Inj} (hM : M.le M') {N : Nat -> Prop} {n : Nat} {o : AObj} {b : Nat} {w w' : World} (h : BRel M N n o b w)
  (hw : ∀ i, M b = some i -> w'.heap[i.blk]? = w.heap[i.blk]?) : BRel M' N n o b w' := by
 rcases h with ⟨⟨i, hi, hv⟩, h⟩ | h | ⟨i, es, ck, h1, h2, h3, h4, h5, h6, h7⟩
 ·exact .inl ⟨⟨i, hM _ _ hi, hv⟩, h.mono hM hw⟩
 ·exact .inr (.inl (h.mono hM hw))
 ·exact .inr (.inr ⟨i, es, ck, hM _ _ h1, h2, h3, by rw [hw i h1]; exact h4, h5, h6, fun j e he => let ⟨a, v, q1, q2, q3, q4, q5⟩ := h7 j e he; ⟨a, v, q1, q2, q3, q4.mono hM, q5.mono hM⟩⟩)
theorem BRel.blk_lt {M : Inj} {N : Nat -> Prop} {n : Nat} {o : AObj} {b : Nat} {w : World} (h : BRel M N n o b w) {i : BI} (hi : M b = some i) : i.blk < w.heap.size /\ (¬ N i.blk \/ i.blk < n) := by
 rcases h with ⟨_, j, c, e, fr, h1, h2, h3, _⟩ | ⟨j, c, e, fr, h1, _, h2, h3, _⟩ | ⟨j, es, ck, h1, h2, h3, h4, _⟩
 ·rw [hi] at h1
  cases h1
  exact ⟨(Array.getElem?_eq_some_iff.1 h2).1, .inl h3⟩
 ·rw [hi] at h1
  cases h1
  exact ⟨(Array.getElem?_eq_some_iff.1 h2).1, .inr h3⟩
 ·rw [hi] at h1
  cases h1
  exact ⟨(Array.getElem?_eq_some_iff.1 h4).1, .inl h3⟩
theorem ORel.blk_lt {M : Inj} {N : Nat -> Prop} {o : AObj} {b : Nat} {w : World} (h : ORel M N o b w) {i : BI} (hi : M b = some i) : i.blk < w.heap.size /\ ¬ N i.blk := by
 obtain ⟨j, c, e, fr, h1, h2, h3, _⟩ := h
 rw [hi] at h1
 cases h1
 exact ⟨(Array.getElem?_eq_some_iff.1 h2).1, h3⟩

theorem HRel.grow {M : Inj} {N : Nat -> Prop} {w0 : Base J} {w w' : World} {h : AHeap} (hh : HRel M N w0 h w) {c : Array Value} {e : TypeId} {fr : Nat × Nat}
  (g : Grow w w' (.cells c e fr)) (hfr : ∀ k, k < c.size -> ¬ (fr.1 <= k /\ k < fr.2)) (o : AObj) (cap : Nat)
  (h1 : o.cells.length <= cap * o.sz) (h2 : cap * o.sz <= c.size) (h3 : o.exact_ = true -> o.cells.length = cap * o.sz)
  (h4 : ∀ v ∈ o.cells, v.isCell = true) (h5 : ∀ (k : Nat) (v : AV), o.cells[k]? = some v -> ∃ u : Value, c[k]? = some u /\ VRel M v u) :
  M.le (M.upd h.next ⟨w.heap.size, 0, cap, o.sz, undef⟩) /\ HRel (M.upd h.next ⟨w.heap.size, 0, cap, o.sz, undef⟩) N w0 ⟨h.next + 1, h.objs.set h.next o⟩ w' := by
 have hn := hh.fresh h.next (Nat.le_refl _)
 have hle := i8 hn ⟨w.heap.size, 0, cap, o.sz, undef⟩
 have hM : ∀ b, b < h.next -> (M.upd h.next ⟨w.heap.size, 0, cap, o.sz, undef⟩) b = M b := fun b hb => by unfold Inj.upd; rw [if_neg zy]
 have hself : (M.upd h.next ⟨w.heap.size, 0, cap, o.sz, undef⟩) h.next = some ⟨w.heap.size, 0, cap, o.sz, undef⟩ := by simp [Inj.upd]
 refine ⟨hle, Inj.le_trans hh.base hle, hh.lim, g.below hh.below hh.big, fun k hk => by have := hh.big k hk; have := g.size; omega, ?_, ?_, ?_, ?_, ?_⟩
 ·intro b ob hb
  rw [az] at hb
  split at hb
  ·rename_i he; subst he
   cases hb
   refine .inl ⟨⟨_, hself, rfl⟩, _, c, e, fr, hself, g.new, (fun hN => Nat.lt_irrefl _ (hh.big _ hN)), rfl, h1, by simpa using h2, h3, hfr, fun k v hv => ?_⟩
   obtain ⟨u, hu, hr⟩ := h5 k v hv
   exact ⟨h4 v (List.mem_of_getElem? hv), u, by simpa using hu, hr.mono hle⟩
  ·have ho := hh.live b ob hb
   exact ho.mono hle (fun i hi => g.old _ (ho.blk_lt hi).1)
 ·intro b b' ob ob' i i' hb hb' hi hi' heq hNb
  rw [az] at hb hb'
  by_cases e1 : b = h.next
  ·by_cases e2 : b' = h.next
   ·rw [e1, e2]
   ·rw [if_neg e2] at hb'
    rw [hM b' (hh.old _ _ hb')] at hi'
    have := ((hh.live _ _ hb').blk_lt hi').1
    subst e1
    rw [hself] at hi
    cases hi
    simp at heq
    omega
  ·rw [if_neg e1] at hb
   rw [hM b (hh.old _ _ hb)] at hi
   by_cases e2 : b' = h.next
   ·have := ((hh.live _ _ hb).blk_lt hi).1
    subst e2
    rw [hself] at hi'
    cases hi'
    simp at heq
    omega
   ·rw [if_neg e2] at hb'
    rw [hM b' (hh.old _ _ hb')] at hi'
    exact hh.apart b b' ob ob' i i' hb hb' hi hi' heq hNb
 ·intro b ob hb
  rw [az] at hb
  split at hb
  ·rename_i he; simp only; omega
  ·have := hh.old b ob hb; simp only at this ⊢; omega
 ·intro b hb
  simp only at hb
  unfold Inj.upd
  rw [if_neg zy]
  exact hh.fresh b zy
 ·intro b hb
  obtain ⟨r1, r2⟩ := hh.res b hb
  exact ⟨by unfold Inj.upd; rw [if_neg zy]; exact r1, by simp only; omega⟩

theorem HRel.turn {M : Inj} {N : Nat -> Prop} {w0 : Base J} {w w' : World} {h : AHeap} (hh : HRel M N w0 h w) {b : Nat} {ob : AObj} {i : BI} (hb : h.objs.get b = some ob) (hi : M b = some i) (hval : i.val = undef) (hz0 : ob.sz ≠ 0)
  {c c' : Array Value} {e : TypeId} {fr : Nat × Nat} (hc : w.heap[i.blk]? = some (.cells c e fr)) (g : Upd w w' i.blk (.cells c' e fr)) (hs : c'.size = c.size)
  {l : List AV} (hl : l.length = ob.cells.length) (h4 : ∀ v ∈ l, v.isCell = true) (h5 : ∀ (k : Nat) (v : AV), l[k]? = some v -> ∃ u : Value, c'[i.off + k]? = some u /\ VRel M v u) :
  HRel M N w0 ⟨h.next, h.objs.set b ⟨ob.sz, ob.exact_, l⟩⟩ w' := by
 have ho := hh.cellsAt hb hi hval hz0
 have hNi := (ho.blk_lt hi).2
 refine ⟨hh.base, hh.lim, g.below hh.below (ho.blk_lt hi).2, fun k hk => by rw [g.size]; exact hh.big k hk, ?_, ?_, ?_, hh.fresh, hh.res⟩
 ·intro b' ob' hb'
  rw [az] at hb'
  split at hb'
  ·rename_i he; subst he
   cases hb'
   obtain ⟨j, c2, e2, fr2, q1, q2, q3, q4, q5, q6, q7, q8, q9⟩ := ho
   rw [hi] at q1; cases q1
   rw [hc] at q2; cases q2
   exact .inl ⟨⟨i, hi, hval⟩, i, c', e, fr, hi, g.new, q3, q4, by simp only [hl]; exact q5, by rw [hs]; exact q6, by simp only [hl]; exact q7, by rw [hs]; exact q8,
    fun k v hv => let ⟨u, hu, hr⟩ := h5 k v hv; ⟨h4 v (List.mem_of_getElem? hv), u, hu, hr⟩⟩
  ·rename_i hne
   have ho' := hh.live b' ob' hb'
   refine ho'.mono (Inj.le_refl M) (fun j hj => g.old _ ?_)
   intro heq
   exact hne (hh.apart b' b ob' ob j i hb' hb hj hi heq (by rw [heq]; exact hNi))
 ·intro b1 b2 o1 o2 i1 i2 h1 h2 m1 m2 heq hNb
  rw [az] at h1 h2
  have g1 : ∃ o, h.objs.get b1 = some o := by
   split at h1
   ·rename_i he; subst he; exact ⟨ob, hb⟩
   ·exact ⟨_, h1⟩
  have g2 : ∃ o, h.objs.get b2 = some o := by
   split at h2
   ·rename_i he; subst he; exact ⟨ob, hb⟩
   ·exact ⟨_, h2⟩
  obtain ⟨p1, q1⟩ := g1
  obtain ⟨p2, q2⟩ := g2
  exact hh.apart b1 b2 p1 p2 i1 i2 q1 q2 m1 m2 heq hNb
 ·intro b1 o1 h1
  rw [az] at h1
  split at h1
  ·rename_i he; subst he; exact hh.old _ _ hb
  ·exact hh.old _ _ h1

theorem HRel.move {M : Inj} {N : Nat -> Prop} {w0 : Base J} {w w' : World} {h : AHeap} (hh : HRel M N w0 h w) {b : Nat} {ob : AObj} {i : BI} (hb : h.objs.get b = some ob) (hi : M b = some i) (hval : i.val = undef) (hz0 : ob.sz ≠ 0)
  {c c' : Array Value} {e : TypeId} {fr : Nat × Nat} (hc : w.heap[i.blk]? = some (.cells c e fr)) (g : Upd w w' i.blk (.cells c' e fr)) (hs : c'.size = c.size)
  {l : List AV} {o cap : Nat} (ho : o + cap = i.cap) (h1 : l.length <= cap * i.sz) (h4 : ∀ v ∈ l, v.isCell = true)
  (h5 : ∀ (k : Nat) (v : AV), l[k]? = some v -> ∃ u : Value, c'[i.off + o * i.sz + k]? = some u /\ VRel M v u) :
  M.le (M.upd h.next ⟨i.blk, i.off + o * i.sz, cap, i.sz, undef⟩) /\ HRel (M.upd h.next ⟨i.blk, i.off + o * i.sz, cap, i.sz, undef⟩) N w0 ⟨h.next + 1, (h.objs.del b).set h.next ⟨i.sz, false, l⟩⟩ w' := by
 have hob := hh.cellsAt hb hi hval hz0
 have hNi := (hob.blk_lt hi).2
 have hn := hh.fresh h.next (Nat.le_refl _)
 have hle := i8 hn ⟨i.blk, i.off + o * i.sz, cap, i.sz, undef⟩
 have hM : ∀ b, b < h.next -> (M.upd h.next ⟨i.blk, i.off + o * i.sz, cap, i.sz, undef⟩) b = M b := fun b hb => by unfold Inj.upd; rw [if_neg zy]
 have hself : (M.upd h.next ⟨i.blk, i.off + o * i.sz, cap, i.sz, undef⟩) h.next = some ⟨i.blk, i.off + o * i.sz, cap, i.sz, undef⟩ := by simp [Inj.upd]
 have hd := hh.del b
 have sub : ∀ b' o', (h.objs.del b).get b' = some o' -> h.objs.get b' = some o' /\ b' ≠ b := by
  intro c o hc
  rw [iR] at hc
  split at hc
  ·cases hc
  ·rename_i hne; exact ⟨hc, hne⟩
 have other : ∀ b' o' j, (h.objs.del b).get b' = some o' -> M b' = some j -> j.blk ≠ i.blk := by
  intro b' o' j hb' hj heq
  exact (sub b' o' hb').2 (hh.apart b' b o' ob j i (sub b' o' hb').1 hb hj hi heq (by rw [heq]; exact hNi))
 refine ⟨hle, Inj.le_trans hh.base hle, hh.lim, g.below hh.below (hob.blk_lt hi).2, fun k hk => by rw [g.size]; exact hh.big k hk, ?_, ?_, ?_, ?_, ?_⟩
 ·intro b' ob' hb'
  rw [az] at hb'
  split at hb'
  ·rename_i he; subst he
   cases hb'
   obtain ⟨j, c2, e2, fr2, q1, q2, q3, q4, q5, q6, q7, q8, q9⟩ := hob
   rw [hi] at q1; cases q1
   rw [hc] at q2; cases q2
   refine .inl ⟨⟨_, hself, rfl⟩, _, c', e, fr, hself, g.new, q3, rfl, h1, ?_, (by simp), by rw [hs]; exact q8, fun k v hv => ?_⟩
   ·rw [hs]
    have : (o + cap) * i.sz = i.cap * i.sz := by rw [ho]
    rw [Nat.add_mul] at this
    simp only
    omega
   ·obtain ⟨u, hu, hr⟩ := h5 k v hv
    exact ⟨h4 v (List.mem_of_getElem? hv), u, hu, hr.mono hle⟩
  ·have ho' := hd.live b' ob' hb'
   exact ho'.mono hle (fun j hj => g.old _ (other b' ob' j hb' hj))
 ·intro b1 b2 o1 o2 i1 i2 h1 h2 m1 m2 heq hNb
  rw [az] at h1 h2
  by_cases e1 : b1 = h.next
  ·by_cases e2 : b2 = h.next
   ·rw [e1, e2]
   ·rw [if_neg e2] at h2
    rw [hM b2 (hd.old _ _ h2)] at m2
    subst e1
    rw [hself] at m1
    cases m1
    exact absurd heq.symm (other b2 o2 i2 h2 m2)
  ·rw [if_neg e1] at h1
   rw [hM b1 (hd.old _ _ h1)] at m1
   by_cases e2 : b2 = h.next
   ·subst e2
    rw [hself] at m2
    cases m2
    exact absurd heq (other b1 o1 i1 h1 m1)
   ·rw [if_neg e2] at h2
    rw [hM b2 (hd.old _ _ h2)] at m2
    exact hd.apart b1 b2 o1 o2 i1 i2 h1 h2 m1 m2 heq hNb
 ·intro b1 o1 h1
  rw [az] at h1
  split at h1
  ·rename_i he; simp only; omega
  ·have := hd.old b1 o1 h1; simp only at this ⊢; omega
 ·intro b1 hb1
  simp only at hb1
  unfold Inj.upd
  rw [if_neg zy]
  exact hh.fresh b1 zy
 ·intro b hb
  obtain ⟨r1, r2⟩ := hh.res b hb
  exact ⟨by unfold Inj.upd; rw [if_neg zy]; exact r1, by simp only; omega⟩

theorem HRel.drew {M : Inj} {N : Nat -> Prop} {w0 : Base J} {w : World} {h : AHeap} (hh : HRel M N w0 h w) : HRel M N w0 h w.drew :=
 ⟨hh.base, hh.lim, hh.below.drew, hh.big, hh.live, hh.apart, hh.old, hh.fresh, hh.res⟩

theorem jZ (P : Program) (g p : Nat) (e : TypeId) (fr : Nat × Nat) : ∀ (vs : List Value) (i : Nat) (c : Array Value) (w : World), w.heap[g]? = some (.cells c e fr) ->
  (∀ k, k < c.size -> ¬ (fr.1 <= k /\ k < fr.2)) -> p + i + vs.length <= c.size -> (∀ v ∈ vs, v.oneCell' = true) ->
  ∃ w' c', (storeCells ⟨g, p, none⟩ vs i).run P w = .ok () w' /\ Upd w w' g (.cells c' e fr) /\ c'.size = c.size /\
   ∀ k, c'[k]? = if p + i <= k /\ k < p + i + vs.length then vs[k - (p + i)]? else c[k]?
 | [], i, c, w, hc, hf, hb, hv => ⟨w, c, by simp [storeCells], ⟨rfl, rfl, rfl, rfl, fun _ _ => rfl, hc⟩, rfl, fun k => by
   rw [if_neg (by simp)]⟩
 | v :: vs, i, c, w, hc, hf, hb, hv => by
  simp only [List.length_cons] at hb
  have hlt : p + i < c.size := by omega
  have hcell : w.cell? ⟨g, p + i, none⟩ = some c[p + i] := by simp [World.cell?, hc, hlt]
  have hfz : w.frozen? ⟨g, p + i, none⟩ = false := by
   have := hf (p + i) hlt
   simp only [World.frozen?, hc]
   simpa using this
  have hw1 : (w.setCell ⟨g, p + i, none⟩ v).heap[g]? = some (.cells (c.setIfInBounds (p + i) v) e fr) := by
   simp [World.setCell, Array.getElem?_modify, hc]
  obtain ⟨w', c', h1, h2, h3, h4⟩ := jZ P g p e fr vs (i + 1) (c.setIfInBounds (p + i) v) _ hw1 (by simpa using hf) (by simp; omega) (fun x hx => hv x (List.mem_cons_of_mem _ hx))
  refine ⟨w', c', ?_, ⟨h2.os, h2.tape, h2.output, by rw [h2.size]; simp, fun k hk => ?_, h2.new⟩, by rw [h3]; simp, fun k => ?_⟩
  ·simp only [storeCells, Sem.run_bind, fc, run_store P w _ v .plain (hv v (List.mem_cons_self)), hcell, hfz, Bool.false_eq_true, if_false, Result.andThen_ok]
   exact h1
  ·rw [h2.old k hk]
   exact Below.heap_setCell w _ _ _ hk
  ·rw [h4 k]
   simp only [List.length_cons]
   by_cases hk : k = p + i
   ·subst hk
    have n1 : ¬ (p + (i + 1) <= p + i /\ p + i < p + (i + 1) + vs.length) := by omega
    have p1 : p + i <= p + i /\ p + i < p + i + (vs.length + 1) := by omega
    rw [if_neg n1, if_pos p1]
    simp [hlt]
   ·rw [Array.getElem?_setIfInBounds_ne (fun h => hk h.symm)]
    by_cases hc2 : p + (i + 1) <= k /\ k < p + (i + 1) + vs.length
    ·have hc' : p + i <= k /\ k < p + i + (vs.length + 1) := by omega
     rw [if_pos hc2, if_pos hc']
     have e : k - (p + i) = (k - (p + (i + 1))) + 1 := by omega
     rw [e, List.getElem?_cons_succ]
    ·have hc' : ¬ (p + i <= k /\ k < p + i + (vs.length + 1)) := by omega
     rw [if_neg hc2, if_neg hc']
theorem wo {M : Inj} {l : List AV} {us : List Value} (h : LRel M l us) (hc : ∀ v ∈ l, v.isCell = true) : ∀ u ∈ us, u.oneCell' = true := by
 intro u hu
 obtain ⟨i, hi, rfl⟩ := List.getElem_of_mem hu
 have hl : i < l.length := by rw [<- h.1]; exact hi
 exact (h.2 i l[i] us[i] (List.getElem?_eq_getElem hl) (List.getElem?_eq_getElem hi)).oneCell (hc _ (List.getElem_mem hl))
theorem ORel.isCells {M : Inj} {N : Nat -> Prop} {o : AObj} {b : Nat} {w : World} (h : ORel M N o b w) : ∀ v ∈ o.cells, v.isCell = true := by
 obtain ⟨i, c, e, fr, h1, h2, h3, h4, h5, h6, h7, h8, h9⟩ := h
 intro v hv
 obtain ⟨k, hk, rfl⟩ := List.getElem_of_mem hv
 exact (h9 k _ (List.getElem?_eq_getElem hk)).1
theorem LRd.isCells {M : Inj} {o : AObj} {b : Nat} {w : World} (h : LRd M o b w) : ∀ v ∈ o.cells, v.isCell = true := by
 obtain ⟨i, c, e, fr, h1, h2, h9⟩ := h
 intro v hv
 obtain ⟨k, hk, rfl⟩ := List.getElem_of_mem hv
 exact (h9 k _ (List.getElem?_eq_getElem hk)).1
theorem Cb : ∀ {l : List AV} {o : Nat} {m : List AV} {v : AV}, v ∈ ct l o m -> v ∈ l \/ v ∈ m := by
 intro l o m v hv
 obtain ⟨k, hk, rfl⟩ := List.getElem_of_mem hv
 have := gZ l o m k
 rw [List.getElem?_eq_getElem hk] at this
 split at this
 ·exact .inr (List.mem_of_getElem? this.symm)
 ·exact .inl (List.mem_of_getElem? this.symm)

theorem HRel.store {P : Program} {M : Inj} {N : Nat -> Prop} {w0 : Base J} {w : World} {h : AHeap} (hh : HRel M N w0 h w) {b : Nat} {ob : AObj} {i : BI} (hb : h.objs.get b = some ob) (hi : M b = some i) (hval : i.val = undef) (hz0 : ob.sz ≠ 0)
  {l : List AV} {us : List Value} (hl : LRel M l us) (hcell : ∀ v ∈ l, v.isCell = true) (o : Nat) (hle : o + l.length <= ob.cells.length) :
  ∃ w', (storeCells ⟨i.blk, i.off + o, none⟩ us).run P w = .ok () w' /\ HRel M N w0 ⟨h.next, h.objs.set b ⟨ob.sz, ob.exact_, ct ob.cells o l⟩⟩ w' := by
 have ho := hh.cellsAt hb hi hval hz0
 have hic := ho.isCells
 obtain ⟨j, c, e, fr, q1, q2, q3, q4, q5, q6, q7, q8, q9⟩ := ho
 rw [hi] at q1; cases q1
 obtain ⟨w', c', h1, h2, h3, h4⟩ := jZ P i.blk (i.off + o) e fr us 0 c w q2 q8 (by rw [hl.1]; omega) (wo hl hcell)
 refine ⟨w', h1, hh.turn hb hi hval hz0 q2 h2 h3 (dP _ _ _) (fun v hv => ?_) (fun k v hv => ?_)⟩
 ·rcases Cb hv with h | h
  ·exact hic v h
  ·exact hcell v h
 ·rw [gZ] at hv
  rw [h4]
  split at hv
  ·rename_i hc
   rw [hl.1, if_pos zy]
   obtain ⟨u, hu, hr⟩ := hl.get hv
   have e1 : i.off + k - (i.off + o + 0) = k - o := by omega
   rw [e1]
   exact ⟨u, hu, hr⟩
  ·rename_i hc
   have hk := (List.getElem?_eq_some_iff.1 hv).1
   rw [hl.1, if_neg zy]
   exact (q9 k v hv).2

theorem HRel.know {M : Inj} {N : Nat -> Prop} {w0 : Base J} {w w' : World} {h : AHeap} (hh : HRel M N w0 h w) {o : Obj} (g : Grow w w' o) {b0 : Nat} (hb0 : M b0 = none) (hlt : b0 < h.next) (hr : ¬ w0.res b0) (i : BI) :
  M.le (M.upd b0 i) /\ HRel (M.upd b0 i) N w0 h w' := by
 have hle := i8 hb0 i
 have old : ∀ b o j, h.objs.get b = some o -> (M.upd b0 i) b = some j -> M b = some j := by
  intro b o j hb hj
  unfold Inj.upd at hj
  split at hj
  ·rename_i he
   subst he
   rcases hh.live _ _ hb with ⟨⟨x, hx, _⟩, _⟩ | ⟨x, _, _, _, hx, _⟩ | ⟨x, _, _, hx, _⟩ <;> rw [hb0] at hx <;> cases hx
  ·exact hj
 refine ⟨hle, Inj.le_trans hh.base hle, hh.lim, g.below hh.below hh.big, fun k hk => by have := hh.big k hk; have := g.size; omega, fun b o hb => (hh.live b o hb).mono hle (fun j hj => g.old _ ((hh.live b o hb).blk_lt hj).1),
  fun b b' o o' j j' hb hb' hj hj' => hh.apart b b' o o' j j' hb hb' (old b o j hb hj) (old b' o' j' hb' hj'), hh.old, fun b hb => ?_, fun b hb => ?_⟩
 ·unfold Inj.upd
  rw [if_neg zy]
  exact hh.fresh b hb
 ·obtain ⟨r1, r2⟩ := hh.res b hb
  refine ⟨?_, r2⟩
  unfold Inj.upd
  rw [if_neg (by rintro rfl; exact hr hb)]
  exact r1
theorem HRel.adopt {M : Inj} {N : Nat -> Prop} {w0 : Base J} {w : World} {h : AHeap} (hh : HRel M N w0 h w) {b0 blk cap : Nat} {o : AObj} {c : Array Value} {e : TypeId} {fr : Nat × Nat} (hM : M b0 = some ⟨blk, 0, cap, o.sz, undef⟩)
  (hc : w.heap[blk]? = some (.cells c e fr)) (hN : ¬ N blk) (hap : ∀ b o j, h.objs.get b = some o -> M b = some j -> j.blk ≠ blk) (hfr : ∀ k, k < c.size -> ¬ (fr.1 <= k /\ k < fr.2))
  (h1 : o.cells.length <= cap * o.sz) (h2 : cap * o.sz <= c.size) (h3 : o.exact_ = true -> o.cells.length = cap * o.sz)
  (h4 : ∀ v ∈ o.cells, v.isCell = true) (h5 : ∀ (k : Nat) (v : AV), o.cells[k]? = some v -> ∃ u : Value, c[k]? = some u /\ VRel M v u) :
  HRel M N w0 ⟨h.next, h.objs.set b0 o⟩ w := by
 have hlt : b0 < h.next := by
  rcases Nat.lt_or_ge b0 h.next with g | g
  ·exact g
  ·rw [hh.fresh b0 g] at hM; cases hM
 refine ⟨hh.base, hh.lim, hh.below, hh.big, ?_, ?_, ?_, hh.fresh, hh.res⟩
 ·intro b ob hb
  rw [az] at hb
  split at hb
  ·rename_i he; subst he
   cases hb
   refine .inl ⟨⟨_, hM, rfl⟩, _, c, e, fr, hM, hc, hN, rfl, h1, by simpa using h2, h3, hfr, fun k v hv => ?_⟩
   obtain ⟨u, hu, hr⟩ := h5 k v hv
   exact ⟨h4 v (List.mem_of_getElem? hv), u, by simpa using hu, hr⟩
  ·exact hh.live b ob hb
 ·intro b b' ob ob' i i' hb hb' hi hi' heq hNb
  rw [az] at hb hb'
  by_cases e1 : b = b0
  ·by_cases e2 : b' = b0
   ·rw [e1, e2]
   ·rw [if_neg e2] at hb'
    subst e1
    rw [hM] at hi
    cases hi
    exact absurd heq.symm (hap _ _ _ hb' hi')
  ·rw [if_neg e1] at hb
   by_cases e2 : b' = b0
   ·subst e2
    rw [hM] at hi'
    cases hi'
    exact absurd heq (hap _ _ _ hb hi)
   ·rw [if_neg e2] at hb'
    exact hh.apart b b' ob ob' i i' hb hb' hi hi' heq hNb
 ·intro b ob hb
  rw [az] at hb
  split at hb
  ·rename_i he; subst he; exact hlt
  ·exact hh.old b ob hb
theorem BRel.limit {M : Inj} {N N' : Nat -> Prop} {n : Nat} {o : AObj} {b : Nat} {w : World} (h : BRel M N n o b w) (hN : ∀ i, M b = some i -> ¬ N i.blk -> ¬ N' i.blk) : BRel M N' n o b w := by
 rcases h with ⟨hv, i, c, e, fr, h1, h2, h3, h4⟩ | h | ⟨i, es, ck, h1, h2, h3, h4⟩
 ·exact .inl ⟨hv, i, c, e, fr, h1, h2, hN i h1 h3, h4⟩
 ·exact .inr (.inl h)
 ·exact .inr (.inr ⟨i, es, ck, h1, h2, hN i h1 h3, h4⟩)
def Base.at_ {w0 : Base J} {N : Nat -> Prop} {w : World} (hl : ∀ k, k < w0.n -> N k) (hb : Keeps N w0.w w) (R : Nat -> Prop) : Base J :=
 ⟨w, w0.n, fun w' h => w0.ok w' ((hb.below hl).trans h), R⟩
theorem HRel.rebase {M : Inj} {N N' : Nat -> Prop} {w0 : Base J} {w : World} {h : AHeap} (hh : HRel M N w0 h w) (R : Nat -> Prop) (h1 : ∀ k, N k -> N' k) (h2 : ∀ k, N' k -> k < w.heap.size)
  (h3 : ∀ b o i, h.objs.get b = some o -> M b = some i -> ¬ N i.blk -> ¬ N' i.blk) (h4 : ∀ b, R b -> M b = none /\ b < h.next) : HRel M N' (Base.at_ hh.lim hh.below R) h w :=
 ⟨hh.base, fun k hk => h1 k (hh.lim k hk), Keeps.refl _ _, h2, fun b o ho => (hh.live b o ho).limit (fun i hi hN => h3 b o i ho hi hN), fun b b' o o' i i' p q r s e hN => hh.apart b b' o o' i i' p q r s e (fun g => hN (h1 _ g)), hh.old, hh.fresh, h4⟩
theorem HRel.unbase {M M2 : Inj} {N N' : Nat -> Prop} {w0 : Base J} {w w2 : World} {h h2 : AHeap} (hh : HRel M N w0 h w) {R : Nat -> Prop} (h1 : ∀ k, N k -> N' k) (hR : ∀ b, w0.res b -> R b) (g : HRel M2 N' (Base.at_ hh.lim hh.below R) h2 w2) : HRel M2 N w0 h2 w2 :=
 ⟨g.base, hh.lim, hh.below.trans (g.below.mono h1), fun k hk => g.big k (h1 k hk), fun b o ho => (g.live b o ho).limit (fun i hi hN hN2 => hN (h1 _ hN2)), fun b b' o o' i i' p q r s e hN => g.apart b b' o o' i i' p q r s e (((g.live b o p).blk_lt r).2.resolve_right (fun hlt => hN (hh.lim _ hlt))), g.old, g.fresh, fun b hb => g.res b (hR b hb)⟩

theorem HRel.growMap {M : Inj} {N : Nat -> Prop} {w0 : Base J} {w w' : World} {h : AHeap} (hh : HRel M N w0 h w) (g : Grow w w' (.map #[] 0)) :
  M.le (M.upd h.next ⟨w.heap.size, 0, 0, 0, .map (some w.heap.size)⟩) /\ HRel (M.upd h.next ⟨w.heap.size, 0, 0, 0, .map (some w.heap.size)⟩) N w0 ⟨h.next + 1, h.objs.set h.next ⟨0, true, []⟩⟩ w' := by
 have hn := hh.fresh h.next (Nat.le_refl _)
 have hle := i8 hn ⟨w.heap.size, 0, 0, 0, .map (some w.heap.size)⟩
 have hM : ∀ b, b < h.next -> (M.upd h.next ⟨w.heap.size, 0, 0, 0, .map (some w.heap.size)⟩) b = M b := fun b hb => by unfold Inj.upd; rw [if_neg zy]
 have hself : (M.upd h.next ⟨w.heap.size, 0, 0, 0, .map (some w.heap.size)⟩) h.next = some ⟨w.heap.size, 0, 0, 0, .map (some w.heap.size)⟩ := by simp [Inj.upd]
 refine ⟨hle, Inj.le_trans hh.base hle, hh.lim, g.below hh.below hh.big, fun k hk => by have := hh.big k hk; have := g.size; omega, ?_, ?_, ?_, ?_, ?_⟩
 ·intro b ob hb
  rw [az] at hb
  split at hb
  ·rename_i he; subst he
   cases hb
   exact .inr (.inr ⟨_, #[], 0, hself, rfl, (fun hN => Nat.lt_irrefl _ (hh.big _ hN)), g.new, rfl, rfl, fun j e he => by simp at he⟩)
  ·have ho := hh.live b ob hb
   exact ho.mono hle (fun i hi => g.old _ (ho.blk_lt hi).1)
 ·intro b b' ob ob' i i' hb hb' hi hi' heq hNb
  rw [az] at hb hb'
  by_cases e1 : b = h.next
  ·by_cases e2 : b' = h.next
   ·rw [e1, e2]
   ·rw [if_neg e2] at hb'
    rw [hM b' (hh.old _ _ hb')] at hi'
    have := ((hh.live _ _ hb').blk_lt hi').1
    subst e1
    rw [hself] at hi
    cases hi
    simp at heq
    omega
  ·rw [if_neg e1] at hb
   rw [hM b (hh.old _ _ hb)] at hi
   by_cases e2 : b' = h.next
   ·have := ((hh.live _ _ hb).blk_lt hi).1
    subst e2
    rw [hself] at hi'
    cases hi'
    simp at heq
    omega
   ·rw [if_neg e2] at hb'
    rw [hM b' (hh.old _ _ hb')] at hi'
    exact hh.apart b b' ob ob' i i' hb hb' hi hi' heq hNb
 ·intro b ob hb
  rw [az] at hb
  split at hb
  ·rename_i he; simp only; omega
  ·have := hh.old b ob hb; simp only at this ⊢; omega
 ·intro b hb
  simp only at hb
  unfold Inj.upd
  rw [if_neg zy]
  exact hh.fresh b zy
 ·intro b hb
  obtain ⟨r1, r2⟩ := hh.res b hb
  exact ⟨by unfold Inj.upd; rw [if_neg zy]; exact r1, by simp only; omega⟩
theorem HRel.turnMap {M : Inj} {N : Nat -> Prop} {w0 : Base J} {w w' : World} {h : AHeap} (hh : HRel M N w0 h w) {b : Nat} {ob ob' : AObj} {i : BI} (hb : h.objs.get b = some ob) (hi : M b = some i) (hval : i.val = .map (some i.blk))
  {es : Array MapEntry} {ck : Nat} (g : Upd w w' i.blk (.map es ck)) (hm : MRel M ob' es ck) : HRel M N w0 ⟨h.next, h.objs.set b ob'⟩ w' := by
 have ho := hh.mapAt hb hi hval
 refine ⟨hh.base, hh.lim, g.below hh.below ho.1, fun k hk => by rw [g.size]; exact hh.big k hk, ?_, ?_, ?_, hh.fresh, hh.res⟩
 ·intro b' ob2 hb'
  rw [az] at hb'
  split at hb'
  ·rename_i he; subst he
   cases hb'
   exact .inr (.inr ⟨i, es, ck, hi, hval, ho.1, g.new, hm⟩)
  ·rename_i hne
   have ho' := hh.live b' ob2 hb'
   refine ho'.mono (Inj.le_refl M) (fun j hj => g.old _ ?_)
   intro heq
   exact hne (hh.apart b' b ob2 ob j i hb' hb hj hi heq (by rw [heq]; exact ho.1))
 ·intro b1 b2 o1 o2 i1 i2 h1 h2 m1 m2 heq hNb
  rw [az] at h1 h2
  have g1 : ∃ o, h.objs.get b1 = some o := by
   split at h1
   ·rename_i he; subst he; exact ⟨ob, hb⟩
   ·exact ⟨_, h1⟩
  have g2 : ∃ o, h.objs.get b2 = some o := by
   split at h2
   ·rename_i he; subst he; exact ⟨ob, hb⟩
   ·exact ⟨_, h2⟩
  obtain ⟨p1, q1⟩ := g1
  obtain ⟨p2, q2⟩ := g2
  exact hh.apart b1 b2 p1 p2 i1 i2 q1 q2 m1 m2 heq hNb
 ·intro b1 o1 h1
  rw [az] at h1
  split at h1
  ·rename_i he; subst he; exact hh.old _ _ hb
  ·exact hh.old _ _ h1

end Go.Proofs.YtfkbfnpjggkdmaaGreatDoor.Ev
