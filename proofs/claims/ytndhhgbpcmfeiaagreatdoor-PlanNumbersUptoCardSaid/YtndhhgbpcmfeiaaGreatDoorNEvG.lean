/- An evaluator of closed calls, part 7: the loud operations. -/
import Derived.Test.YtndhhgbpcmfeiaaGreatDoorNEvF
namespace Go.Proofs.YtndhhgbpcmfeiaaGreatDoor.Ev
open Go.RowKit
variable {J : Ctx}

def fR (P : Program) (M : Inj) (N : Nat -> Prop) (w0 : Base J) (s : Sem Value) (w : World) (v : AV) (h' : AHeap) : Prop :=
 ∃ u M' w', s.run P w = .ok u w' /\ M.le M' /\ HRel M' N w0 h' w' /\ VRel M' v u

section loud
variable {P : Program} {tb : Tab} (H : TabOK P tb J) {M : Inj} {N : Nat -> Prop} {w0 : Base J} {tm : T AV} {h : AHeap} {a : Act} {w : World}

theorem j3 (tb : Tab) (t : Nat) (l : List AV) : (bK tb t l).cells = l /\ (bK tb t l).exact_ = true /\ ∃ cap, l.length = cap * (bK tb t l).sz := by
 unfold bK
 split
 ·split
  ·split
   ·rename_i hb
    exact ⟨rfl, rfl, _, (Nat.eq_of_beq_eq_true hb).symm⟩
   ·exact ⟨rfl, rfl, 1, by simp⟩
  ·exact ⟨rfl, rfl, 1, by simp⟩
 ·exact ⟨rfl, rfl, 1, by simp⟩

theorem nV (hh : HRel M N w0 h w) (t : Nat) {v : AV} {u : Value} (hv : VRel M v u) (hc : ∀ x ∈ v.cells, x.isCell = true) :
  fR P M N w0 (do pure (.pointer (some (<- newVar t u)))) w (.ptr h.next 0) ⟨h.next + 1, h.objs.set h.next (bK tb t v.cells)⟩ := by
 obtain ⟨e1, e2, cap, e3⟩ := j3 tb t v.cells
 have hl := hv.cells
 have hs : u.cells.size = v.cells.length := by rw [<- hl.1]; simp
 obtain ⟨q1, q2⟩ := hh.grow (Grow.alloc w (.cells u.cells t)) (fun k _ => by simp) (bK tb t v.cells) cap (by rw [e1, e3]; exact Nat.le_refl _) (by rw [hs, <- e3]; exact Nat.le_refl _)
  (fun _ => by rw [e1]; exact e3) (by rw [e1]; exact hc) (fun k x hx => by rw [e1] at hx; obtain ⟨y, hy, hr⟩ := hl.get hx; exact ⟨y, by simpa using hy, hr⟩)
 refine ⟨.pointer (some ⟨w.heap.size, 0, none⟩), _, _, ?_, q1, q2, ?_⟩
 ·simp [newVar, newRow]
 ·exact .ptr h.next 0 ⟨w.heap.size, 0, cap, (bK tb t v.cells).sz, undef⟩ (by simp [Inj.upd])

theorem rx (H : TabOK P tb J) (hh : HRel M N w0 h w) {t : Nat} {v : AV} {h' : AHeap} (hv : jJ tb h t = some (v, h')) :
  fR P M N w0 (Instr.alloc t true (.tuple #[])) w v h' := by
 unfold jJ at hv
 split at hv
 ·rename_i z hz
  simp only [Option.some.injEq, Prod.mk.injEq] at hv
  obtain ⟨rfl, rfl⟩ := hv
  obtain ⟨zv, hzr, hzM, hzc⟩ := eI H hz w
  obtain ⟨u, M', w', r1, r2, r3, r4⟩ := nV (P := P) (tb := tb) hh t (hzM M) hzc
  refine ⟨u, M', w', ?_, r2, r3, r4⟩
  simp only [Instr.alloc, Sem.run_bind, hzr, Result.andThen_ok]
  simpa using r1
 ·cases hv

theorem vD (hh : HRel M N w0 h w) (ht : TRel M tm a) {t : Nat} {x : Operand} {v : AV} {h' : AHeap} (hv : jK tb tm h t x = some (v, h')) :
  fR P M N w0 (Instr.box t (a.eval x)) w v h' := by
 unfold jK at hv
 split at hv
 ·rename_i y hy
  split at hv
  ·rename_i hc
   simp only [Option.some.injEq, Prod.mk.injEq] at hv
   obtain ⟨rfl, rfl⟩ := hv
   exact nV hh t (dP ht hy) (by simpa using hc)
  ·cases hv
 ·cases hv

theorem jU {n : Nat} {l : List AV} {cs : Array Value} (hl : LRel M l cs.toList) (hs : l.length = n) (hn : 0 < n) : ∀ k,
  LRel M (gG k l) (((Array.range (k * n)).map (cs[· % cs.size]!)).toList)
 | 0 => by simpa [gG] using LRel.nil M
 | k + 1 => by
  have ih := jU hl hs hn k
  have hz : cs.size = n := by rw [<- hs, <- hl.1]; simp
  refine ⟨by have := ih.1; simp at this ⊢; simp [gG, hs, <- this]; rw [Nat.add_mul]; omega, fun i v u hv hu => ?_⟩
  have hu' : i < (k + 1) * n /\ u = cs[i % n]! := by
   simp only [Array.toList_map, Array.toList_range, List.getElem?_map, hz] at hu
   rcases Nat.lt_or_ge i ((k + 1) * n) with hi | hi
   ·rw [List.getElem?_range hi] at hu
    simp only [Option.map_some, Option.some.injEq] at hu
    exact ⟨hi, hu.symm⟩
   ·rw [List.getElem?_eq_none (by simpa using hi)] at hu
    simp at hu
  obtain ⟨hi, rfl⟩ := hu'
  unfold gG at hv
  by_cases hlt : i < n
  ·rw [List.getElem?_append_left zy] at hv
   refine hl.2 i v _ hv ?_
   rw [Nat.mod_eq_of_lt hlt]
   have : i < cs.size := by omega
   simp [this]
  ·rw [List.getElem?_append_right zy, hs] at hv
   have hi2 : i - n < k * n := by rw [Nat.add_mul] at hi; omega
   refine ih.2 (i - n) v _ hv ?_
   have e : (i - n) % n = i % n := by
    conv => rhs; rw [show i = (i - n) + n by omega, Nat.add_mod_right]
   simp only [Array.toList_map, Array.toList_range, List.getElem?_map, hz, List.getElem?_range hi2, Option.map_some, e]
theorem kz : Array.range 0 = #[] := rfl
theorem ge (l : List AV) : ∀ k, (gG k l).length = k * l.length
 | 0 => by simp [gG]
 | k + 1 => by simp [gG, ge l k, Nat.add_mul]; omega
theorem qI {l : List AV} {v : AV} : ∀ {k : Nat}, v ∈ gG k l -> v ∈ l
 | 0, h => by simp [gG] at h
 | k + 1, h => by
  simp only [gG, List.mem_append] at h
  rcases h with h | h
  ·exact h
  ·exact qI h

theorem nU (hh : HRel M N w0 h w) (e len cap n : Nat) {l : List AV} {cs : Array Value} (hl : LRel M l cs.toList) (hc : ∀ x ∈ l, x.isCell = true) (hlen : l.length = cap * n) (hle : len <= cap) :
  fR P M N w0 (do pure (.slice (some (<- newRow e cs)) len cap)) w (.slice h.next 0 len n) ⟨h.next + 1, h.objs.set h.next ⟨n, true, l⟩⟩ := by
 have hs : cs.size = l.length := by rw [<- hl.1]; simp
 obtain ⟨q1, q2⟩ := hh.grow (Grow.alloc w (.cells cs e)) (fun k _ => by simp) ⟨n, true, l⟩ cap (by simp only [hlen]; exact Nat.le_refl _) (by simp only; rw [hs, hlen]; exact Nat.le_refl _)
  (fun _ => hlen) hc (fun k x hx => by obtain ⟨y, hy, hr⟩ := hl.get hx; exact ⟨y, by simpa using hy, hr⟩)
 refine ⟨.slice (some ⟨w.heap.size, 0, none⟩) len cap, _, _, ?_, q1, q2, ?_⟩
 ·simp [newRow]
 ·exact .slice h.next 0 len cap ⟨w.heap.size, 0, none⟩ ⟨w.heap.size, 0, cap, n, undef⟩ (by simp [Inj.upd]) (by simp) hle (.inl (by simp))

theorem kZ (H : TabOK P tb J) (hh : HRel M N w0 h w) (ht : TRel M tm a) {t len : Nat} {parts : Array (Nat × Operand)} {v : AV} {h' : AHeap}
  (hv : bU tb tm h t len parts = some (v, h')) : fR P M N w0 (Instr.buildSlice t len (parts.map fun (i, x) => (i, a.eval x))) w v h' := by
 unfold bU at hv
 split at hv
 ·rename_i e hd
  split at hv
  ·rename_i n z ps hn hz hps
   split at hv
   ·rename_i hb
    simp only [Bool.and_eq_true, Nat.beq_eq, Nat.ble_eq, Nat.blt_eq] at hb
    obtain ⟨⟨b1, b2⟩, b3⟩ := hb
    unfold mw at hv
    split at hv
    ·rename_i l hl
     split at hv
     ·rename_i hcl
      simp only [Option.some.injEq, Prod.mk.injEq] at hv
      obtain ⟨rfl, rfl⟩ := hv
      obtain ⟨zv, hzr, hzM, hzc⟩ := eI H hz w
      have hp := ic ht hps
      have hp' : (parts.map fun (i, x) => (i, a.eval x)).toList = parts.toList.map fun (i, x) => (i, a.eval x) := by simp
      have hzl := (hzM M).cells
      have hrel := jU hzl b2 b3 len
      obtain ⟨cs', f1, f2⟩ := iD hp hrel hl
      have hll : l.length = len * n := by
       have := f2.1
       have g : ∀ {place : Nat -> Option (Nat × Nat)} {ps : List (Nat × AV)} {c r : List AV}, dn place c ps = some r -> r.length = c.length := by
        intro place ps
        induction ps with
        | nil => intro c r hr; simp only [dn, Option.some.injEq] at hr; rw [hr]
        | cons p ps ih =>
         intro c r hr
         obtain ⟨i, x⟩ := p
         unfold dn at hr
         split at hr
         ·cases hr
         ·split at hr
          ·rw [ih hr, cQ]
          ·cases hr
       rw [g hl, ge, b2]
      obtain ⟨u, M', w', r1, r2, r3, r4⟩ := nU (P := P) hh e len len n f2 (by simpa using hcl) hll (Nat.le_refl _)
      refine ⟨u, M', w', ?_, r2, r3, r4⟩
      have hgt : ¬ (len * n > 2 ^ 24) := by omega
      simp only [Instr.buildSlice, Sem.run_bind, aw H hd, Result.andThen_ok, bJ H hn]
      rw [if_neg hgt]
      by_cases h0 : len * n = 0
      ·have hl0 : len = 0 := by
        rcases Nat.mul_eq_zero.1 h0 with h | h
        ·exact h
        ·omega
       subst hl0
       simp only [Nat.zero_mul, kz, Array.map_empty] at f1
       simp only [Nat.zero_mul, if_true, Sem.run_bind, Sem.run_pure, Result.andThen_ok, hp', kz, Array.map_empty, f1]
       exact r1
      ·simp only [h0, if_false, Sem.run_bind, hzr, Result.andThen_ok, Sem.run_pure, hp', f1]
       exact r1
     ·cases hv
    ·cases hv
   ·cases hv
  ·cases hv
 ·cases hv

theorem lS (H : TabOK P tb J) (hh : HRel M N w0 h w) (ht : TRel M tm a) {t : Nat} {l c : Operand} {v : AV} {h' : AHeap}
  (hv : cw tb tm h t l c = some (v, h')) : fR P M N w0 (Instr.makeSlice t (a.eval l) (a.eval c)) w v h' := by
 unfold cw at hv
 split at hv
 ·rename_i e len cap hd hl hc
  split at hv
  ·rename_i ti z hti hz
   split at hv
   ·rename_i hb
    simp only [Bool.and_eq_true, Nat.beq_eq, Nat.ble_eq, Nat.blt_eq] at hb
    obtain ⟨⟨⟨⟨b1, b2⟩, b3⟩, b4⟩, b5⟩ := hb
    simp only [Option.some.injEq, Prod.mk.injEq] at hv
    obtain ⟨rfl, rfl⟩ := hv
    obtain ⟨k1, e1⟩ := ia ht hl
    obtain ⟨k2, e2⟩ := ia ht hc
    obtain ⟨zv, hzr, hzM, hzc⟩ := eI H hz w
    have hrel := jU (hzM M).cells b4 b5 cap
    obtain ⟨u, M', w', r1, r2, r3, r4⟩ := nU (P := P) hh e len cap ti.size hrel (fun x hx => hzc x (qI hx)) (by rw [ge, b4]) b3
    refine ⟨u, M', w', ?_, r2, r3, r4⟩
    have hwl : IntKind.i64.wrap (len : Int) = len := IntWalk.i64_in _ zy
    have hwc : IntKind.i64.wrap (cap : Int) = cap := IntWalk.i64_in _ zy
    have hsz : (sizeOf e).run P w = .ok ti.size w := by simp [sizeOf, fN H hti]
    have hbnd : ti.bytes * cap <= 4096 * 1073741824 := Nat.mul_le_mul b1 b2
    have hn1 : ¬ ((ti.bytes : Int) * (cap : Int) > 2 ^ 48) := by
     omega
    simp only [Instr.makeSlice, Sem.run_bind, aw H hd, Result.andThen_ok, e1, e2, asInt, asIntOf, Sem.run_pure, fN H hti, hwl, hwc]
    have ht1 : ((decide ((cap : Int) < 0) || decide ((ti.bytes : Int) * (cap : Int) > 2 ^ 48)) || decide ((len : Int) < 0) || decide ((len : Int) > (cap : Int))) = false := by
     simp only [Bool.or_eq_false_iff, decide_eq_false_iff_not]
     exact ⟨⟨⟨by omega, hn1⟩, by omega⟩, by omega⟩
    rw [if_neg (by rw [ht1]; simp)]
    simp only [Sem.run_bind, run_askRoom, Result.andThen_ok, hsz, Int.toNat_natCast]
    by_cases h0 : cap * ti.size = 0
    ·have hc0 : cap = 0 := by
      rcases Nat.mul_eq_zero.1 h0 with h | h
      ·exact h
      ·omega
     subst hc0
     have hl0 : len = 0 := by omega
     subst hl0
     simp only [Nat.zero_mul, kz, Array.map_empty] at r1
     simp only [Nat.zero_mul, if_true, Sem.run_bind, Sem.run_pure, Result.andThen_ok, kz, Array.map_empty]
     exact r1
    ·simp only [h0, if_false, Sem.run_bind, hzr, Result.andThen_ok, Sem.run_pure]
     exact r1
   ·cases hv
  ·cases hv
 ·cases hv

theorem rI (H : TabOK P tb J) (hh : HRel M N w0 h w) (ht : TRel M tm a) {t : Nat} {p x : Operand} {v : AV} {h' : AHeap} (hv : db tb tm h t p x = some (v, h')) :
  v = .tuple [] /\ ∃ w', (Instr.storeAt t (a.eval p) (a.eval x)).run P w = .ok () w' /\ HRel M N w0 h' w' := by
 unfold db at hv
 split at hv
 ·rename_i b o y hp hx
  obtain ⟨i, hi, hpv⟩ := ij (dP ht hp)
  have hval := iZ (dP ht hp) hi
  have hxv := (dP ht hx).cells
  unfold kC at hv
  split at hv
  ·rename_i n ob hn hob
   split at hv
   ·rename_i hb hz1
    rw [Nat.blt_eq] at hz1
    simp only [Bool.and_eq_true, Nat.beq_eq, Nat.ble_eq, List.all_eq_true] at hb
    obtain ⟨⟨b1, b2⟩, b3⟩ := hb
    simp only [Option.some.injEq, Prod.mk.injEq] at hv
    obtain ⟨rfl, rfl⟩ := hv
    obtain ⟨w', r1, r2⟩ := hh.store (P := P) hob hi hval zy hxv b3 o zy
    refine ⟨rfl, w', ?_, r2⟩
    have hs : (a.eval x).cells.size = n := by rw [<- b1, <- hxv.1]; simp
    rw [hpv]
    simp only [Instr.storeAt, Instr.sureAddr, storeVar, Sem.run_bind, Sem.run_pure, Result.andThen_ok, bJ H hn, hs, ne_eq, not_true_eq_false, if_false]
    exact r1
   ·cases hv
  ·cases hv
 ·cases hv

end loud
end Go.Proofs.YtndhhgbpcmfeiaaGreatDoor.Ev
