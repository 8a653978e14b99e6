/- An evaluator of closed calls, part 7: the loud operations. -/
import Derived.Test.YtfkbfnpjggkdmaaGreatDoorOEvF
namespace Go.Proofs.YtfkbfnpjggkdmaaGreatDoor.Ev
open Go.RowKit
variable {J : Ctx}

def Gives (P : Program) (M : Inj) (N : Nat → Prop) (w0 : Base J) (s : Sem Value) (w : World) (v : AV) (h' : AHeap) : Prop :=
 ∃ u M' w', s.run P w = .ok u w' ∧ M.le M' ∧ HRel M' N w0 h' w' ∧ VRel M' v u

section loud
variable {P : Program} {tb : Tab} (H : TabOK P tb J) {M : Inj} {N : Nat → Prop} {w0 : Base J} {tm : T AV} {h : AHeap} {a : Act} {w : World}

theorem varObj_cells (tb : Tab) (t : Nat) (l : List AV) : (varObj tb t l).cells = l ∧ (varObj tb t l).exact_ = true ∧ ∃ cap, l.length = cap * (varObj tb t l).sz := by
 unfold varObj
 split
 ·split
  ·split
   ·rename_i hb
    exact ⟨rfl, rfl, _, (Nat.eq_of_beq_eq_true hb).symm⟩
   ·exact ⟨rfl, rfl, 1, by simp⟩
  ·exact ⟨rfl, rfl, 1, by simp⟩
 ·exact ⟨rfl, rfl, 1, by simp⟩

theorem newVar_ok (hh : HRel M N w0 h w) (t : Nat) {v : AV} {u : Value} (hv : VRel M v u) (hc : ∀ x ∈ v.cells, x.isCell = true) :
  Gives P M N w0 (do pure (.pointer (some (← newVar t u)))) w (.ptr h.next 0) ⟨h.next + 1, h.objs.set h.next (varObj tb t v.cells)⟩ := by
 obtain ⟨e1, e2, cap, e3⟩ := varObj_cells tb t v.cells
 have hl := hv.cells
 have hs : u.cells.size = v.cells.length := by rw [← hl.1]; simp
 obtain ⟨q1, q2⟩ := hh.grow (Grow.alloc w (.cells u.cells t)) (fun k _ => by simp) (varObj tb t v.cells) cap (by rw [e1, e3]; exact Nat.le_refl _) (by rw [hs, ← e3]; exact Nat.le_refl _)
  (fun _ => by rw [e1]; exact e3) (by rw [e1]; exact hc) (fun k x hx => by rw [e1] at hx; obtain ⟨y, hy, hr⟩ := hl.get hx; exact ⟨y, by simpa using hy, hr⟩)
 refine ⟨.pointer (some ⟨w.heap.size, 0, none⟩), _, _, ?_, q1, q2, ?_⟩
 ·simp [newVar, newRow]
 ·exact .ptr h.next 0 ⟨w.heap.size, 0, cap, (varObj tb t v.cells).sz, undef⟩ (by simp [Inj.upd])

theorem evAlloc_ok (H : TabOK P tb J) (hh : HRel M N w0 h w) {t : Nat} {v : AV} {h' : AHeap} (hv : evAlloc tb h t = some (v, h')) :
  Gives P M N w0 (Instr.alloc t true (.tuple #[])) w v h' := by
 unfold evAlloc at hv
 split at hv
 ·rename_i z hz
  simp only [Option.some.injEq, Prod.mk.injEq] at hv
  obtain ⟨rfl, rfl⟩ := hv
  obtain ⟨zv, hzr, hzM, hzc⟩ := zero_ok H hz w
  obtain ⟨u, M', w', r1, r2, r3, r4⟩ := newVar_ok (P := P) (tb := tb) hh t (hzM M) hzc
  refine ⟨u, M', w', ?_, r2, r3, r4⟩
  simp only [Instr.alloc, Sem.run_bind, hzr, Result.andThen_ok]
  simpa using r1
 ·cases hv

theorem evBox_ok (hh : HRel M N w0 h w) (ht : TRel M tm a) {t : Nat} {x : Operand} {v : AV} {h' : AHeap} (hv : evBox tb tm h t x = some (v, h')) :
  Gives P M N w0 (Instr.box t (a.eval x)) w v h' := by
 unfold evBox at hv
 split at hv
 ·rename_i y hy
  split at hv
  ·rename_i hc
   simp only [Option.some.injEq, Prod.mk.injEq] at hv
   obtain ⟨rfl, rfl⟩ := hv
   exact newVar_ok hh t (opk ht hy) (by simpa using hc)
  ·cases hv
 ·cases hv

theorem repl_rel {n : Nat} {l : List AV} {cs : Array Value} (hl : LRel M l cs.toList) (hs : l.length = n) (hn : 0 < n) : ∀ k,
  LRel M (repl k l) (((Array.range (k * n)).map (cs[· % cs.size]!)).toList)
 | 0 => by simpa [repl] using LRel.nil M
 | k + 1 => by
  have ih := repl_rel hl hs hn k
  have hz : cs.size = n := by rw [← hs, ← hl.1]; simp
  refine ⟨by have := ih.1; simp at this ⊢; simp [repl, hs, ← this]; rw [Nat.add_mul]; omega, fun i v u hv hu => ?_⟩
  have hu' : i < (k + 1) * n ∧ u = cs[i % n]! := by
   simp only [Array.toList_map, Array.toList_range, List.getElem?_map, hz] at hu
   rcases Nat.lt_or_ge i ((k + 1) * n) with hi | hi
   ·rw [List.getElem?_range hi] at hu
    simp only [Option.map_some, Option.some.injEq] at hu
    exact ⟨hi, hu.symm⟩
   ·rw [List.getElem?_eq_none (by simpa using hi)] at hu
    simp at hu
  obtain ⟨hi, rfl⟩ := hu'
  unfold repl at hv
  by_cases hlt : i < n
  ·rw [List.getElem?_append_left (by omega)] at hv
   refine hl.2 i v _ hv ?_
   rw [Nat.mod_eq_of_lt hlt]
   have : i < cs.size := by omega
   simp [this]
  ·rw [List.getElem?_append_right (by omega), hs] at hv
   have hi2 : i - n < k * n := by rw [Nat.add_mul] at hi; omega
   refine ih.2 (i - n) v _ hv ?_
   have e : (i - n) % n = i % n := by
    conv => rhs; rw [show i = (i - n) + n by omega, Nat.add_mod_right]
   simp only [Array.toList_map, Array.toList_range, List.getElem?_map, hz, List.getElem?_range hi2, Option.map_some, e]
theorem range0 : Array.range 0 = #[] := rfl
theorem repl_length (l : List AV) : ∀ k, (repl k l).length = k * l.length
 | 0 => by simp [repl]
 | k + 1 => by simp [repl, repl_length l k, Nat.add_mul]; omega
theorem repl_mem {l : List AV} {v : AV} : ∀ {k : Nat}, v ∈ repl k l → v ∈ l
 | 0, h => by simp [repl] at h
 | k + 1, h => by
  simp only [repl, List.mem_append] at h
  rcases h with h | h
  ·exact h
  ·exact repl_mem h

theorem newRow_ok (hh : HRel M N w0 h w) (e len cap n : Nat) {l : List AV} {cs : Array Value} (hl : LRel M l cs.toList) (hc : ∀ x ∈ l, x.isCell = true) (hlen : l.length = cap * n) (hle : len ≤ cap) :
  Gives P M N w0 (do pure (.slice (some (← newRow e cs)) len cap)) w (.slice h.next 0 len n) ⟨h.next + 1, h.objs.set h.next ⟨n, true, l⟩⟩ := by
 have hs : cs.size = l.length := by rw [← hl.1]; simp
 obtain ⟨q1, q2⟩ := hh.grow (Grow.alloc w (.cells cs e)) (fun k _ => by simp) ⟨n, true, l⟩ cap (by simp only [hlen]; exact Nat.le_refl _) (by simp only; rw [hs, hlen]; exact Nat.le_refl _)
  (fun _ => hlen) hc (fun k x hx => by obtain ⟨y, hy, hr⟩ := hl.get hx; exact ⟨y, by simpa using hy, hr⟩)
 refine ⟨.slice (some ⟨w.heap.size, 0, none⟩) len cap, _, _, ?_, q1, q2, ?_⟩
 ·simp [newRow]
 ·exact .slice h.next 0 len cap ⟨w.heap.size, 0, none⟩ ⟨w.heap.size, 0, cap, n, undef⟩ (by simp [Inj.upd]) (by simp) hle (.inl (by simp))

theorem evBuildSlice_ok (H : TabOK P tb J) (hh : HRel M N w0 h w) (ht : TRel M tm a) {t len : Nat} {parts : Array (Nat × Operand)} {v : AV} {h' : AHeap}
  (hv : evBuildSlice tb tm h t len parts = some (v, h')) : Gives P M N w0 (Instr.buildSlice t len (parts.map fun (i, x) => (i, a.eval x))) w v h' := by
 unfold evBuildSlice at hv
 split at hv
 ·rename_i e hd
  split at hv
  ·rename_i n z ps hn hz hps
   split at hv
   ·rename_i hb
    simp only [Bool.and_eq_true, Nat.beq_eq, Nat.ble_eq, Nat.blt_eq] at hb
    obtain ⟨⟨b1, b2⟩, b3⟩ := hb
    unfold newSlice at hv
    split at hv
    ·rename_i l hl
     split at hv
     ·rename_i hcl
      simp only [Option.some.injEq, Prod.mk.injEq] at hv
      obtain ⟨rfl, rfl⟩ := hv
      obtain ⟨zv, hzr, hzM, hzc⟩ := zero_ok H hz w
      have hp := opndPairs_ok ht hps
      have hp' : (parts.map fun (i, x) => (i, a.eval x)).toList = parts.toList.map fun (i, x) => (i, a.eval x) := by simp
      have hzl := (hzM M).cells
      have hrel := repl_rel hzl b2 b3 len
      obtain ⟨cs', f1, f2⟩ := fillA_ok hp hrel hl
      have hll : l.length = len * n := by
       have := f2.1
       have g : ∀ {place : Nat → Option (Nat × Nat)} {ps : List (Nat × AV)} {c r : List AV}, fillA place c ps = some r → r.length = c.length := by
        intro place ps
        induction ps with
        | nil => intro c r hr; simp only [fillA, Option.some.injEq] at hr; rw [hr]
        | cons p ps ih =>
         intro c r hr
         obtain ⟨i, x⟩ := p
         unfold fillA at hr
         split at hr
         ·cases hr
         ·split at hr
          ·rw [ih hr, layL_length]
          ·cases hr
       rw [g hl, repl_length, b2]
      obtain ⟨u, M', w', r1, r2, r3, r4⟩ := newRow_ok (P := P) hh e len len n f2 (by simpa using hcl) hll (Nat.le_refl _)
      refine ⟨u, M', w', ?_, r2, r3, r4⟩
      have hgt : ¬ (len * n > 2 ^ 24) := by omega
      simp only [Instr.buildSlice, Sem.run_bind, run_und H hd, Result.andThen_ok, run_size H hn]
      rw [if_neg hgt]
      by_cases h0 : len * n = 0
      ·have hl0 : len = 0 := by
        rcases Nat.mul_eq_zero.1 h0 with h | h
        ·exact h
        ·omega
       subst hl0
       simp only [Nat.zero_mul, range0, Array.map_empty] at f1
       simp only [Nat.zero_mul, if_true, Sem.run_bind, Sem.run_pure, Result.andThen_ok, hp', range0, Array.map_empty, f1]
       exact r1
      ·simp only [h0, if_false, Sem.run_bind, hzr, Result.andThen_ok, Sem.run_pure, hp', f1]
       exact r1
     ·cases hv
    ·cases hv
   ·cases hv
  ·cases hv
 ·cases hv

theorem evMakeSlice_ok (H : TabOK P tb J) (hh : HRel M N w0 h w) (ht : TRel M tm a) {t : Nat} {l c : Operand} {v : AV} {h' : AHeap}
  (hv : evMakeSlice tb tm h t l c = some (v, h')) : Gives P M N w0 (Instr.makeSlice t (a.eval l) (a.eval c)) w v h' := by
 unfold evMakeSlice at hv
 split at hv
 ·rename_i e len cap hd hl hc
  split at hv
  ·rename_i ti z hti hz
   split at hv
   ·rename_i hb
    simp only [Bool.and_eq_true, Nat.beq_eq, Nat.ble_eq, Nat.blt_eq] at hb
    obtain ⟨⟨⟨⟨b1, b2⟩, b3⟩, b4⟩, b5⟩ := hb
    simp only [Option.some.injEq, Prod.mk.injEq] at hv
    obtain ⟨rfl, rfl⟩ := hv
    obtain ⟨k1, e1⟩ := nat_ok ht hl
    obtain ⟨k2, e2⟩ := nat_ok ht hc
    obtain ⟨zv, hzr, hzM, hzc⟩ := zero_ok H hz w
    have hrel := repl_rel (hzM M).cells b4 b5 cap
    obtain ⟨u, M', w', r1, r2, r3, r4⟩ := newRow_ok (P := P) hh e len cap ti.size hrel (fun x hx => hzc x (repl_mem hx)) (by rw [repl_length, b4]) b3
    refine ⟨u, M', w', ?_, r2, r3, r4⟩
    have hwl : IntKind.i64.wrap (len : Int) = len := IntWalk.i64_in _ (by omega)
    have hwc : IntKind.i64.wrap (cap : Int) = cap := IntWalk.i64_in _ (by omega)
    have hsz : (sizeOf e).run P w = .ok ti.size w := by simp [sizeOf, run_info H hti]
    have hbnd : ti.bytes * cap ≤ 4096 * 1073741824 := Nat.mul_le_mul b1 b2
    have hn1 : ¬ ((ti.bytes : Int) * (cap : Int) > 2 ^ 48) := by
     omega
    simp only [Instr.makeSlice, Sem.run_bind, run_und H hd, Result.andThen_ok, e1, e2, asInt, asIntOf, Sem.run_pure, run_info H hti, hwl, hwc]
    have ht1 : ((decide ((cap : Int) < 0) || decide ((ti.bytes : Int) * (cap : Int) > 2 ^ 48)) || decide ((len : Int) < 0) || decide ((len : Int) > (cap : Int))) = false := by
     simp only [Bool.or_eq_false_iff, decide_eq_false_iff_not]
     exact ⟨⟨⟨by omega, hn1⟩, by omega⟩, by omega⟩
    rw [if_neg (by rw [ht1]; simp)]
    simp only [Sem.run_bind, run_askRoom, Result.andThen_ok, hsz, Int.toNat_natCast]
    by_cases h0 : cap * ti.size = 0
    ·have hc0 : cap = 0 := by
      rcases Nat.mul_eq_zero.1 h0 with h | h
      ·exact h
      ·omega
     subst hc0
     have hl0 : len = 0 := by omega
     subst hl0
     simp only [Nat.zero_mul, range0, Array.map_empty] at r1
     simp only [Nat.zero_mul, if_true, Sem.run_bind, Sem.run_pure, Result.andThen_ok, range0, Array.map_empty]
     exact r1
    ·simp only [h0, if_false, Sem.run_bind, hzr, Result.andThen_ok, Sem.run_pure]
     exact r1
   ·cases hv
  ·cases hv
 ·cases hv

theorem evStore_ok (H : TabOK P tb J) (hh : HRel M N w0 h w) (ht : TRel M tm a) {t : Nat} {p x : Operand} {v : AV} {h' : AHeap} (hv : evStore tb tm h t p x = some (v, h')) :
  v = .tuple [] ∧ ∃ w', (Instr.storeAt t (a.eval p) (a.eval x)).run P w = .ok () w' ∧ HRel M N w0 h' w' := by
 unfold evStore at hv
 split at hv
 ·rename_i b o y hp hx
  obtain ⟨i, hi, hpv⟩ := ptr_iff (opk ht hp)
  have hval := ptr_val (opk ht hp) hi
  have hxv := (opk ht hx).cells
  unfold storeA at hv
  split at hv
  ·rename_i n ob hn hob
   split at hv
   ·rename_i hb hz1
    rw [Nat.blt_eq] at hz1
    simp only [Bool.and_eq_true, Nat.beq_eq, Nat.ble_eq, List.all_eq_true] at hb
    obtain ⟨⟨b1, b2⟩, b3⟩ := hb
    simp only [Option.some.injEq, Prod.mk.injEq] at hv
    obtain ⟨rfl, rfl⟩ := hv
    obtain ⟨w', r1, r2⟩ := hh.store (P := P) hob hi hval (by omega) hxv b3 o (by omega)
    refine ⟨rfl, w', ?_, r2⟩
    have hs : (a.eval x).cells.size = n := by rw [← b1, ← hxv.1]; simp
    rw [hpv]
    simp only [Instr.storeAt, Instr.sureAddr, storeVar, Sem.run_bind, Sem.run_pure, Result.andThen_ok, run_size H hn, hs, ne_eq, not_true_eq_false, if_false]
    exact r1
   ·cases hv
  ·cases hv
 ·cases hv

end loud
end Go.Proofs.YtfkbfnpjggkdmaaGreatDoor.Ev
