/- An evaluator of closed calls, part 7: the loud operations. -/
import Derived.Test.YtfkbfnpjggkdmaaGreatDoorCEvF
namespace Go.Proofs.YtfkbfnpjggkdmaaGreatDoor.Ev
open Go.RowKit
variable {J : Ctx}

def im (P : Program) (M : Inj) (N : Nat -> Prop) (w0 : Base J) (s : Sem Value) (w : World) (v : AV) (h' : AHeap) : Prop :=
 ∃ u M' w', s.run P w = .ok u w' /\ M.le M' /\ HRel M' N w0 h' w' /\ VRel M' v u

section loud
variable {P : Program} {tb : Tab} (H : TabOK P tb J) {M : Inj} {N : Nat -> Prop} {w0 : Base J} {tm : T AV} {h : AHeap} {a : Act} {w : World}

theorem lZ (tb : Tab) (t : Nat) (l : List AV) : (bk tb t l).cells = l /\ (bk tb t l).exact_ = true /\ ∃ cap, l.length = cap * (bk tb t l).sz := by
 unfold bk
 split
 ·split
  ·split
   ·rename_i hb
    exact ⟨rfl, rfl, _, (Nat.eq_of_beq_eq_true hb).symm⟩
   ·exact ⟨rfl, rfl, 1, by simp⟩
  ·exact ⟨rfl, rfl, 1, by simp⟩
 ·exact ⟨rfl, rfl, 1, by simp⟩

theorem qU (hh : HRel M N w0 h w) (t : Nat) {v : AV} {u : Value} (hv : VRel M v u) (hc : ∀ x ∈ v.cells, x.isCell = true) :
  im P M N w0 (do pure (.pointer (some (<- newVar t u)))) w (.ptr h.next 0) ⟨h.next + 1, h.objs.set h.next (bk tb t v.cells)⟩ := by
 obtain ⟨e1, e2, cap, e3⟩ := lZ tb t v.cells
 have hl := hv.cells
 have hs : u.cells.size = v.cells.length := by rw [<- hl.1]; simp
 obtain ⟨q1, q2⟩ := hh.grow (Grow.alloc w (.cells u.cells t)) (fun k _ => by simp) (bk tb t v.cells) cap (by rw [e1, e3]; exact Nat.le_refl _) (by rw [hs, <- e3]; exact Nat.le_refl _)
  (fun _ => by rw [e1]; exact e3) (by rw [e1]; exact hc) (fun k x hx => by rw [e1] at hx; obtain ⟨y, hy, hr⟩ := hl.get hx; exact ⟨y, by simpa using hy, hr⟩)
 refine ⟨.pointer (some ⟨w.heap.size, 0, none⟩), _, _, ?_, q1, q2, ?_⟩
 ·simp [newVar, newRow]
 ·exact .ptr h.next 0 ⟨w.heap.size, 0, cap, (bk tb t v.cells).sz, undef⟩ (by simp [Inj.upd])

theorem vh (H : TabOK P tb J) (hh : HRel M N w0 h w) {t : Nat} {v : AV} {h' : AHeap} (hv : lC tb h t = some (v, h')) :
  im P M N w0 (Instr.alloc t true (.tuple #[])) w v h' := by
 unfold lC at hv
 split at hv
 ·rename_i z hz
  simp only [Option.some.injEq, Prod.mk.injEq] at hv
  obtain ⟨rfl, rfl⟩ := hv
  obtain ⟨zv, hzr, hzM, hzc⟩ := gh H hz w
  obtain ⟨u, M', w', r1, r2, r3, r4⟩ := qU (P := P) (tb := tb) hh t (hzM M) hzc
  refine ⟨u, M', w', ?_, r2, r3, r4⟩
  simp only [Instr.alloc, Sem.run_bind, hzr, Result.andThen_ok]
  simpa using r1
 ·cases hv

theorem BA (hh : HRel M N w0 h w) (ht : TRel M tm a) {t : Nat} {x : Operand} {v : AV} {h' : AHeap} (hv : lD tb tm h t x = some (v, h')) :
  im P M N w0 (Instr.box t (a.eval x)) w v h' := by
 unfold lD at hv
 split at hv
 ·rename_i y hy
  split at hv
  ·rename_i hc
   simp only [Option.some.injEq, Prod.mk.injEq] at hv
   obtain ⟨rfl, rfl⟩ := hv
   exact qU hh t (eU ht hy) (by simpa using hc)
  ·cases hv
 ·cases hv

theorem lP {n : Nat} {l : List AV} {cs : Array Value} (hl : LRel M l cs.toList) (hs : l.length = n) (hn : 0 < n) : ∀ k,
  LRel M (iP k l) (((Array.range (k * n)).map (cs[· % cs.size]!)).toList)
 | 0 => by simpa [iP] using LRel.nil M
 | k + 1 => by
  have ih := lP hl hs hn k
  have hz : cs.size = n := by rw [<- hs, <- hl.1]; simp
  refine ⟨by have := ih.1; simp at this ⊢; simp [iP, hs, <- this]; rw [Nat.add_mul]; omega, fun i v u hv hu => ?_⟩
  have hu' : i < (k + 1) * n /\ u = cs[i % n]! := by
   simp only [Array.toList_map, Array.toList_range, List.getElem?_map, hz] at hu
   rcases Nat.lt_or_ge i ((k + 1) * n) with hi | hi
   ·rw [List.getElem?_range hi] at hu
    simp only [Option.map_some, Option.some.injEq] at hu
    exact ⟨hi, hu.symm⟩
   ·rw [List.getElem?_eq_none (by simpa using hi)] at hu
    simp at hu
  obtain ⟨hi, rfl⟩ := hu'
  unfold iP at hv
  by_cases hlt : i < n
  ·rw [List.getElem?_append_left zy] at hv
   refine hl.2 i v _ hv ?_
   rw [Nat.mod_eq_of_lt hlt]
   have : i < cs.size := by omega
   simp [this]
  ·rw [List.getElem?_append_right zy, hs] at hv
   have hi2 : i - n < k * n := by rw [Nat.add_mul] at hi; omega
   refine ih.2 (i - n) v _ hv ?_
   have e : (i - n) % n = i % n := by
    conv => rhs; rw [show i = (i - n) + n by omega, Nat.add_mod_right]
   simp only [Array.toList_map, Array.toList_range, List.getElem?_map, hz, List.getElem?_range hi2, Option.map_some, e]
theorem mQ : Array.range 0 = #[] := rfl
theorem iB (l : List AV) : ∀ k, (iP k l).length = k * l.length
 | 0 => by simp [iP]
 | k + 1 => by simp [iP, iB l k, Nat.add_mul]; omega
theorem ul {l : List AV} {v : AV} : ∀ {k : Nat}, v ∈ iP k l -> v ∈ l
 | 0, h => by simp [iP] at h
 | k + 1, h => by
  simp only [iP, List.mem_append] at h
  rcases h with h | h
  ·exact h
  ·exact ul h

theorem qT (hh : HRel M N w0 h w) (e len cap n : Nat) {l : List AV} {cs : Array Value} (hl : LRel M l cs.toList) (hc : ∀ x ∈ l, x.isCell = true) (hlen : l.length = cap * n) (hle : len <= cap) :
  im P M N w0 (do pure (.slice (some (<- newRow e cs)) len cap)) w (.slice h.next 0 len n) ⟨h.next + 1, h.objs.set h.next ⟨n, true, l⟩⟩ := by
 have hs : cs.size = l.length := by rw [<- hl.1]; simp
 obtain ⟨q1, q2⟩ := hh.grow (Grow.alloc w (.cells cs e)) (fun k _ => by simp) ⟨n, true, l⟩ cap (by simp only [hlen]; exact Nat.le_refl _) (by simp only; rw [hs, hlen]; exact Nat.le_refl _)
  (fun _ => hlen) hc (fun k x hx => by obtain ⟨y, hy, hr⟩ := hl.get hx; exact ⟨y, by simpa using hy, hr⟩)
 refine ⟨.slice (some ⟨w.heap.size, 0, none⟩) len cap, _, _, ?_, q1, q2, ?_⟩
 ·simp [newRow]
 ·exact .slice h.next 0 len cap ⟨w.heap.size, 0, none⟩ ⟨w.heap.size, 0, cap, n, undef⟩ (by simp [Inj.upd]) (by simp) hle (.inl (by simp))

theorem nF (H : TabOK P tb J) (hh : HRel M N w0 h w) (ht : TRel M tm a) {t len : Nat} {parts : Array (Nat × Operand)} {v : AV} {h' : AHeap}
  (hv : cQ tb tm h t len parts = some (v, h')) : im P M N w0 (Instr.buildSlice t len (parts.map fun (i, x) => (i, a.eval x))) w v h' := by
 unfold cQ at hv
 split at hv
 ·rename_i e hd
  split at hv
  ·rename_i n z ps hn hz hps
   split at hv
   ·rename_i hb
    simp only [Bool.and_eq_true, Nat.beq_eq, Nat.ble_eq, Nat.blt_eq] at hb
    obtain ⟨⟨b1, b2⟩, b3⟩ := hb
    unfold pw at hv
    split at hv
    ·rename_i l hl
     split at hv
     ·rename_i hcl
      simp only [Option.some.injEq, Prod.mk.injEq] at hv
      obtain ⟨rfl, rfl⟩ := hv
      obtain ⟨zv, hzr, hzM, hzc⟩ := gh H hz w
      have hp := jt ht hps
      have hp' : (parts.map fun (i, x) => (i, a.eval x)).toList = parts.toList.map fun (i, x) => (i, a.eval x) := by simp
      have hzl := (hzM M).cells
      have hrel := lP hzl b2 b3 len
      obtain ⟨cs', f1, f2⟩ := jK hp hrel hl
      have hll : l.length = len * n := by
       have := f2.1
       have g : ∀ {place : Nat -> Option (Nat × Nat)} {ps : List (Nat × AV)} {c r : List AV}, cJ place c ps = some r -> r.length = c.length := by
        intro place ps
        induction ps with
        | nil => intro c r hr; simp only [cJ, Option.some.injEq] at hr; rw [hr]
        | cons p ps ih =>
         intro c r hr
         obtain ⟨i, x⟩ := p
         unfold cJ at hr
         split at hr
         ·cases hr
         ·split at hr
          ·rw [ih hr, dP]
          ·cases hr
       rw [g hl, iB, b2]
      obtain ⟨u, M', w', r1, r2, r3, r4⟩ := qT (P := P) hh e len len n f2 (by simpa using hcl) hll (Nat.le_refl _)
      refine ⟨u, M', w', ?_, r2, r3, r4⟩
      have hgt : ¬ (len * n > 2 ^ 24) := by omega
      simp only [Instr.buildSlice, Sem.run_bind, aM H hd, Result.andThen_ok, bZ H hn]
      rw [if_neg hgt]
      by_cases h0 : len * n = 0
      ·have hl0 : len = 0 := by
        rcases Nat.mul_eq_zero.1 h0 with h | h
        ·exact h
        ·omega
       subst hl0
       simp only [Nat.zero_mul, mQ, Array.map_empty] at f1
       simp only [Nat.zero_mul, if_true, Sem.run_bind, Sem.run_pure, Result.andThen_ok, hp', mQ, Array.map_empty, f1]
       exact r1
      ·simp only [h0, if_false, Sem.run_bind, hzr, Result.andThen_ok, Sem.run_pure, hp', f1]
       exact r1
     ·cases hv
    ·cases hv
   ·cases hv
  ·cases hv
 ·cases hv

theorem oY (H : TabOK P tb J) (hh : HRel M N w0 h w) (ht : TRel M tm a) {t : Nat} {l c : Operand} {v : AV} {h' : AHeap}
  (hv : dt tb tm h t l c = some (v, h')) : im P M N w0 (Instr.makeSlice t (a.eval l) (a.eval c)) w v h' := by
 unfold dt at hv
 split at hv
 ·rename_i e len cap hd hl hc
  split at hv
  ·rename_i ti z hti hz
   split at hv
   ·rename_i hb
    simp only [Bool.and_eq_true, Nat.beq_eq, Nat.ble_eq, Nat.blt_eq] at hb
    obtain ⟨⟨⟨⟨b1, b2⟩, b3⟩, b4⟩, b5⟩ := hb
    simp only [Option.some.injEq, Prod.mk.injEq] at hv
    obtain ⟨rfl, rfl⟩ := hv
    obtain ⟨k1, e1⟩ := jr ht hl
    obtain ⟨k2, e2⟩ := jr ht hc
    obtain ⟨zv, hzr, hzM, hzc⟩ := gh H hz w
    have hrel := lP (hzM M).cells b4 b5 cap
    obtain ⟨u, M', w', r1, r2, r3, r4⟩ := qT (P := P) hh e len cap ti.size hrel (fun x hx => hzc x (ul hx)) (by rw [iB, b4]) b3
    refine ⟨u, M', w', ?_, r2, r3, r4⟩
    have hwl : IntKind.i64.wrap (len : Int) = len := IntWalk.i64_in _ zy
    have hwc : IntKind.i64.wrap (cap : Int) = cap := IntWalk.i64_in _ zy
    have hsz : (sizeOf e).run P w = .ok ti.size w := by simp [sizeOf, ig H hti]
    have hbnd : ti.bytes * cap <= 4096 * 1073741824 := Nat.mul_le_mul b1 b2
    have hn1 : ¬ ((ti.bytes : Int) * (cap : Int) > 2 ^ 48) := by
     omega
    simp only [Instr.makeSlice, Sem.run_bind, aM H hd, Result.andThen_ok, e1, e2, asInt, asIntOf, Sem.run_pure, ig H hti, hwl, hwc]
    have ht1 : ((decide ((cap : Int) < 0) || decide ((ti.bytes : Int) * (cap : Int) > 2 ^ 48)) || decide ((len : Int) < 0) || decide ((len : Int) > (cap : Int))) = false := by
     simp only [Bool.or_eq_false_iff, decide_eq_false_iff_not]
     exact ⟨⟨⟨by omega, hn1⟩, by omega⟩, by omega⟩
    rw [if_neg (by rw [ht1]; simp)]
    simp only [Sem.run_bind, run_askRoom, Result.andThen_ok, hsz, Int.toNat_natCast]
    by_cases h0 : cap * ti.size = 0
    ·have hc0 : cap = 0 := by
      rcases Nat.mul_eq_zero.1 h0 with h | h
      ·exact h
      ·omega
     subst hc0
     have hl0 : len = 0 := by omega
     subst hl0
     simp only [Nat.zero_mul, mQ, Array.map_empty] at r1
     simp only [Nat.zero_mul, if_true, Sem.run_bind, Sem.run_pure, Result.andThen_ok, mQ, Array.map_empty]
     exact r1
    ·simp only [h0, if_false, Sem.run_bind, hzr, Result.andThen_ok, Sem.run_pure]
     exact r1
   ·cases hv
  ·cases hv
 ·cases hv

theorem vA (H : TabOK P tb J) (hh : HRel M N w0 h w) (ht : TRel M tm a) {t : Nat} {p x : Operand} {v : AV} {h' : AHeap} (hv : dw tb tm h t p x = some (v, h')) :
  v = .tuple [] /\ ∃ w', (Instr.storeAt t (a.eval p) (a.eval x)).run P w = .ok () w' /\ HRel M N w0 h' w' := by
 unfold dw at hv
 split at hv
 ·rename_i b o y hp hx
  obtain ⟨i, hi, hpv⟩ := gf (eU ht hp)
  have hval := jv (eU ht hp) hi
  have hxv := (eU ht hx).cells
  unfold eJ at hv
  split at hv
  ·rename_i n ob hn hob
   split at hv
   ·rename_i hb hz1
    rw [Nat.blt_eq] at hz1
    simp only [Bool.and_eq_true, Nat.beq_eq, Nat.ble_eq, List.all_eq_true] at hb
    obtain ⟨⟨b1, b2⟩, b3⟩ := hb
    simp only [Option.some.injEq, Prod.mk.injEq] at hv
    obtain ⟨rfl, rfl⟩ := hv
    obtain ⟨w', r1, r2⟩ := hh.store (P := P) hob hi hval zy hxv b3 o zy
    refine ⟨rfl, w', ?_, r2⟩
    have hs : (a.eval x).cells.size = n := by rw [<- b1, <- hxv.1]; simp
    rw [hpv]
    simp only [Instr.storeAt, Instr.sureAddr, storeVar, Sem.run_bind, Sem.run_pure, Result.andThen_ok, bZ H hn, hs, ne_eq, not_true_eq_false, if_false]
    exact r1
   ·cases hv
  ·cases hv
 ·cases hv

end loud
variable {J : Ctx}

section loud
variable {P : Program} {tb : Tab} {M : Inj} {N : Nat -> Prop} {w0 : Base J} {tm : T AV} {h : AHeap} {a : Act} {w : World}

theorem qF (n : Nat) : ∀ (r c : Nat), Builtin.growBy n r c <= max c (n + (n + 768) / 4)
 | 0, c => by simp [Builtin.growBy]; omega
 | r + 1, c => by
  unfold Builtin.growBy
  split
  ·omega
  ·have := qF n r (c + (c + 768) / 4)
   omega
theorem vL (n c : Nat) (h : c < n) : Builtin.nextslicecap n c <= 2 * n + 768 := by
 unfold Builtin.nextslicecap
 split
 ·omega
 ·split
  ·omega
  ·have := qF n 4 c
   omega

theorem jd (hh : HRel M N w0 h w) {sz n : Nat} {x : AV} {xv : Value} {new : List AV} (hx : VRel M x xv) (hc : dH h.objs sz x = some (n, new)) :
  (Builtin.lenOf xv).run P w = .ok n w /\ new.length = n * sz /\ (∀ v ∈ new, v.isCell = true) /\
  ∀ k, k <= n -> ∃ us : List Value, (∀ w1 : World, w1.heap = w.heap -> (Builtin.firstCells sz k xv).run P w1 = .ok us.toArray w1) /\ LRel M (new.take (k * sz)) us := by
 unfold dH at hc
 split at hc
 ·simp only [Option.some.injEq, Prod.mk.injEq] at hc
  obtain ⟨rfl, rfl⟩ := hc
  rw [g8 hx]
  refine ⟨by simp [Builtin.lenOf], by simp, by simp, fun k hk => ⟨[], fun w1 _ => by simp [Builtin.firstCells], ?_⟩⟩
  simpa using LRel.nil M
 ·rename_i s
  split at hc
  ·rename_i hsz
   have hsz := Nat.eq_of_beq_eq_true hsz
   subst hsz
   simp only [Option.some.injEq, Prod.mk.injEq] at hc
   obtain ⟨rfl, rfl⟩ := hc
   obtain ⟨r, rfl, hr, hl⟩ := dW hx
   refine ⟨by simp [Builtin.lenOf, hl], by simp, by simp [AV.isCell], fun k hk => ⟨(r.data.toList.map fun b => .int .u8 b.toNat).take k, ?_, ?_⟩⟩
   ·intro w1 _
    simp only [Builtin.firstCells, Sem.run_pure]
    congr 1
    apply Array.ext'
    simp [List.map_take]
   ·rw [ByteArray.toList_eq] at hr
    subst hr
    refine ⟨by simp, fun i v u hv hu => ?_⟩
    simp only [Nat.mul_one, List.map_map, List.getElem?_take, List.getElem?_map] at hv hu
    split at hv
    ·rename_i hik
     rw [if_pos hik] at hu
     cases hg : r.data.toList[i]? with
     | none => rw [hg] at hv; simp at hv
     | some b =>
      rw [hg] at hv hu
      simp only [Option.map_some, Option.some.injEq, Function.comp] at hv hu
      subst hv hu
      exact .int _ _
    ·cases hv
  ·cases hc
 ·rename_i b o m z
  split at hc
  ·rename_i ob hob
   split at hc
   ·rename_i hz
    have hz := Nat.eq_of_beq_eq_true hz
    subst hz
    split at hc
    ·rename_i l hs
     simp only [Option.some.injEq, Prod.mk.injEq] at hc
     obtain ⟨rfl, rfl⟩ := hc
     obtain ⟨i, cap, p, hi, hz, hcap, hm, hp, hxe⟩ := fI hx
     have hval := f8 hx hi
     subst hxe
     obtain ⟨e1, e2, e3⟩ := lW hs
     have ho := hh.readAt hob hi hval
     refine ⟨by simp [Builtin.lenOf], e3, fun v hv => ho.isCells v ?_, fun k hk => ?_⟩
     ·rw [e1] at hv
      exact List.mem_of_mem_drop (List.mem_of_mem_take hv)
     ·obtain ⟨us, h1, h2, h3⟩ := ho.cells hi hs
      refine ⟨us.take (k * sz), ?_, h2.take _⟩
      have hle : k * sz <= m * sz := Nat.mul_le_mul_right _ hk
      intro w1 hw1
      have hcw : ∀ q, w1.cell? q = w.cell? q := fun q => by simp only [World.cell?, hw1]
      simp only [Builtin.firstCells]
      by_cases h0 : k * sz = 0
      ·rw [h0]; simp [loadCells, loadCellsFrom]
      ·have hp' : p = ⟨i.blk, i.off + o * i.sz, none⟩ := by
        rcases hp with hp | hp
        ·exact hp
        ·have : m = 0 := by omega
         subst this
         have : k = 0 := by omega
         subst this
         simp at h0
       rw [hp']
       refine mR (by simp; omega) (fun j u hu => ?_)
       rw [hz, hcw]
       refine h3 j u ?_
       rw [List.getElem?_take] at hu
       split at hu
       ·exact hu
       ·cases hu
    ·cases hc
   ·cases hc
  ·cases hc
 ·cases hc

theorem pS (z : Array Value) (n : Nat) : (Builtin.zeroCells z n).size = n * z.size := by simp [Builtin.zeroCells]

theorem oD (H : TabOK P tb J) (hh : HRel M N w0 h w) {e : Nat} {ti : TypeInfo} {z : AV} (hti : tb.tt.get e = some ti) (hz : tb.zero e = some z) (hzl : z.cells.length = ti.size) (hsz : 0 < ti.size)
  {l : List AV} {us : List Value} (hl : LRel M l us) (hc : ∀ v ∈ l, v.isCell = true) {need cap : Nat} (hlen : l.length = need * ti.size) (hcap : need <= cap) {zv : Value} (hzr : (zeroValue e).run P w = .ok zv w) (hzM : VRel M z zv)
  (objs : T AObj) (hh' : HRel M N w0 ⟨h.next, objs⟩ w) :
  im P M N w0 (do pure (.slice (some (<- newRow e (us.toArray ++ Builtin.zeroCells zv.cells (cap - need)))) need cap)) w (.slice h.next 0 need ti.size) ⟨h.next + 1, objs.set h.next ⟨ti.size, false, l⟩⟩ := by
 have hzs : zv.cells.size = ti.size := by
  have := hzM.cells.1
  rw [hzl] at this
  simpa using this
 have hul : us.length = need * ti.size := by rw [hl.1, hlen]
 have htot : (us.toArray ++ Builtin.zeroCells zv.cells (cap - need)).size = cap * ti.size := by
  simp only [Array.size_append, List.size_toArray, pS, hzs, hul]
  rw [<- Nat.add_mul]
  congr 1
  omega
 obtain ⟨q1, q2⟩ := hh'.grow (Grow.alloc w (.cells (us.toArray ++ Builtin.zeroCells zv.cells (cap - need)) e)) (fun k _ => by simp) ⟨ti.size, false, l⟩ cap
  (by simp only [hlen]; exact Nat.mul_le_mul_right _ hcap) (by simp only; rw [htot]; exact Nat.le_refl _) (fun hf => by cases hf) hc
  (fun k x hx => by
   obtain ⟨y, hy, hr⟩ := hl.get hx
   refine ⟨y, ?_, hr⟩
   have hk : k < us.length := (List.getElem?_eq_some_iff.1 hy).1
   rw [Array.getElem?_append_left (by simpa using hk)]
   simpa using hy)
 refine ⟨.slice (some ⟨w.heap.size, 0, none⟩) need cap, _, _, ?_, q1, q2, ?_⟩
 ·simp [newRow]
 ·exact .slice h.next 0 need cap ⟨w.heap.size, 0, none⟩ ⟨w.heap.size, 0, cap, ti.size, undef⟩ (by simp [Inj.upd]) (by simp) hcap (.inl (by simp))


theorem GZ {d : TypeDesc} (h : sk d = false) : Builtin.append_.match_1 (fun _ => Bool) d (fun _ => true) (fun _ => false) = false := by
 cases d <;> first | rfl | (simp [sk] at h)

theorem uW (H : TabOK P tb J) (hh : HRel M N w0 h w) {ts : Array TypeId} (ty : TypeId) {args : Array Value} {t t2 : Nat} {s x v : AV} {sv xv : Value} {h' : AHeap}
  (ht0 : ts[0]? = some t) (ht1 : ts[1]? = some t2) (ha0 : args[0]? = some sv) (ha1 : args[1]? = some xv) (hs : VRel M s sv) (hx : VRel M x xv)
  (hv : lq tb t t2 s x h = some (v, h')) : im P M N w0 (Builtin.append_ ts ty args) w v h' := by
 unfold lq at hv
 split at hv
 ·rename_i e d2 hd hd2
  split at hv
  ·rename_i ti z hint hti hz
   split at hv
   ·rename_i hb
    simp only [Bool.and_eq_true, Nat.beq_eq, Nat.ble_eq, Nat.blt_eq] at hb
    obtain ⟨⟨b1, b2⟩, b3⟩ := hb
    split at hv
    ·rename_i n new hc
     obtain ⟨c1, c2, c3, c4⟩ := jd (P := P) hh hx hc
     obtain ⟨us, u1, u2⟩ := c4 n (Nat.le_refl n)
     rw [List.take_of_length_le (by rw [c2]; exact Nat.le_refl _)] at u2
     obtain ⟨zv, hzr, hzM, hzc⟩ := gh H hz w
     obtain ⟨zv', hzr', _, _⟩ := gh H hz w.drew
     have hzz : zv' = zv := by
      have e1 := hzr
      have e2 := hzr'
      unfold Tab.zero at hz
      rw [hti] at hz
      simp only [zeroValue, Sem.run_bind, ig H hti, Result.andThen_ok] at e1 e2
      cases hq : ti.zero with
      | none => rw [hq] at e1; simp at e1
      | some q =>
       rw [hq] at e1 e2
       simp at e1 e2
       rw [<- e1, <- e2]
     subst hzz
     have hint' := GZ hint
     have hsize : ∀ w : World, (sizeOf e).run P w = .ok ti.size w := fun w => by simp [sizeOf, ig H hti]
     have hin : ∀ (base : Option Addr) (sLen sCap : Nat), sv = .slice base sLen sCap -> sLen + n <= sCap -> (Builtin.append_ ts ty args).run P w =
       ((match base with
        | some a => storeCells (a.add (sLen * ti.size)) us
        | none => pure () : Sem Unit).run P w).andThen fun _ w' => .ok (.slice base (sLen + n) sCap) w' := by
      intro base sLen sCap he hle
      subst he
      simp only [Builtin.append_, ht0, ht1, ha0, ha1, Sem.run_bind, aM H hd, aM H hd2, Result.andThen_ok, hsize, Sem.run_pure, hint', Bool.false_eq_true, if_false, c1, hle, if_true, u1 w rfl, Bool.not_false]
      cases base <;> simp
     have hout : ∀ (base : Option Addr) (sLen sCap : Nat) (old : List Value), sv = .slice base sLen sCap -> ¬ sLen + n <= sCap -> sLen + n <= 1073741824 ->
       (∀ w1 : World, w1.heap = w.heap -> (Builtin.firstCells ti.size sLen (.slice base sLen sCap)).run P w1 = .ok old.toArray w1) ->
       ∃ cap, sLen + n <= cap /\ (Builtin.append_ ts ty args).run P w = (do pure (.slice (some (<- newRow e ((old ++ us).toArray ++ Builtin.zeroCells zv'.cells (cap - (sLen + n))))) (sLen + n) cap) : Sem Value).run P w.drew := by
      intro base sLen sCap old he hle hbig hold
      subst he
      refine ⟨(Question.appendCap (sLen + n) sCap e).cut (w.tape w.drawn (.appendCap (sLen + n) sCap e)), by simp only [Question.cut]; omega, ?_⟩
      have n1 : ¬ (((sLen + n : Nat) : Int) > IntKind.i64.max /\ (False \/ ti.bytes = 0)) := by
       simp only [IntKind.max, IntKind.signed, IntKind.bits, if_true]
       omega
      have n2 : ¬ (Builtin.nextslicecap (sLen + n) sCap * ti.bytes > 2 ^ 48) := by
       have h1 := vL (sLen + n) sCap zy
       have h2 : Builtin.nextslicecap (sLen + n) sCap * ti.bytes <= (2 * 1073741824 + 768) * 4096 := Nat.mul_le_mul zy b2
       omega
      have hf : (Question.appendCap (sLen + n) sCap e).forced = false := rfl
      simp only [Builtin.append_, ht0, ht1, ha0, ha1, Sem.run_bind, aM H hd, aM H hd2, Result.andThen_ok, hsize, Sem.run_pure, hint', Bool.false_eq_true, if_false, c1, hle, ig H hti, n1, n2, run_choose, hf, run_askRoom, World.drew_eq]
      rw [hold w.drew rfl]
      simp only [Result.andThen_ok, Bool.not_false, if_true, u1 w.drew rfl, hzr']
      simp
     have hul : us.length = n * ti.size := by rw [u2.1, c2]
     unfold dp at hv
     split at hv
     ·rename_i hn0
      have hn0 := Nat.eq_of_beq_eq_true hn0
      subst hn0
      have hus : us = [] := List.eq_nil_of_length_eq_zero (by rw [hul]; simp)
      subst hus
      split at hv
      ·simp only [Option.some.injEq, Prod.mk.injEq] at hv
       obtain ⟨rfl, rfl⟩ := hv
       refine ⟨.slice none 0 0, M, w, ?_, Inj.le_refl M, hh, .nils⟩
       rw [hin none 0 0 (g8 hs) zy]
       simp
      ·rename_i b o len sz'
       split at hv
       ·rename_i hsz
        have hsz := Nat.eq_of_beq_eq_true hsz
        simp only [Option.some.injEq, Prod.mk.injEq] at hv
        obtain ⟨rfl, rfl⟩ := hv
        obtain ⟨i, cap, p, hi, hz1, hcap, hm, hp, he⟩ := fI hs
        have hval := f8 hs hi
        refine ⟨.slice (some p) len cap, M, w, ?_, Inj.le_refl M, hh, ?_⟩
        ·rw [hin _ len cap he zy]
         simp [storeCells]
        ·rw [<- hsz, <- hz1]
         exact .slice b o len cap p i hi hcap hm hp
       ·cases hv
      ·cases hv
     ·rename_i hn0
      have hn0 : n ≠ 0 := by intro e; subst e; simp at hn0
      split at hv
      ·split at hv
       ·rename_i hbig
        rw [Nat.ble_eq] at hbig
        simp only [Option.some.injEq, Prod.mk.injEq] at hv
        obtain ⟨rfl, rfl⟩ := hv
        obtain ⟨cap, hcap, hr⟩ := hout none 0 0 [] (g8 hs) zy zy (fun w1 _ => by simp [Builtin.firstCells])
        simp only [Nat.zero_add, List.nil_append] at hcap hr
        obtain ⟨u, M', w', r1, r2, r3, r4⟩ := oD (P := P) H hh.drew hti hz b3 b1 u2 c3 (need := n) (cap := cap) c2 hcap hzr' (hzM M) h.objs hh.drew
        exact ⟨u, M', w', by rw [hr]; exact r1, r2, r3, r4⟩
       ·cases hv
      ·rename_i b o len sz'
       split at hv
       ·rename_i hbb
        simp only [Bool.and_eq_true, Nat.beq_eq, Nat.ble_eq] at hbb
        obtain ⟨hsz, hbig⟩ := hbb
        obtain ⟨i, cap, p, hi, hz1, hcap, hm, hp, he⟩ := fI hs
        have hval := f8 hs hi
        rw [hz1] at hp
        unfold fL at hv
        split at hv
        ·rename_i ob hob
         split at hv
         ·-- inside what is seen
          rename_i g1 g2
          have g1 := Nat.eq_of_beq_eq_true g1
          have hz0 : ob.sz ≠ 0 := by omega
          have ho := hh.cellsAt hob hi hval hz0
          have ho2 := ho
          obtain ⟨j, c, el, fr, q1, q2, q3, q4, q5, q6, q7, q8, q9⟩ := ho2
          rw [hi] at q1; cases q1
          rw [Nat.ble_eq] at g2
          simp only [Option.some.injEq, Prod.mk.injEq] at hv
          obtain ⟨rfl, rfl⟩ := hv
          have hlt : (o + len + n) * ti.size <= i.cap * ti.size := by
           have e1 : i.sz = ti.size := by omega
           have e2 := q5
           rw [e1] at e2
           omega
          have hle : o + len + n <= i.cap := Nat.le_of_mul_le_mul_right hlt b1
          have hpp : p = ⟨i.blk, i.off + o * sz', none⟩ := by
           rcases hp with h | h
           ·exact h
           ·omega
          obtain ⟨w', r1, r2⟩ := hh.store (P := P) hob hi hval hz0 u2 c3 ((o + len) * ti.size) (by rw [c2, <- Nat.add_mul]; exact g2)
          refine ⟨.slice (some p) (len + n) cap, M, w', ?_, Inj.le_refl M, r2, ?_⟩
          ·rw [hin _ len cap he zy]
           have ea : p.add (len * ti.size) = ⟨i.blk, i.off + (o + len) * ti.size, none⟩ := by rw [hpp, fc, hsz, Nat.add_mul, Nat.add_assoc]
           simp only [ea]
           rw [r1]
           rfl
          ·have : i.sz = ti.size := by omega
           rw [<- this]
           exact .slice b o (len + n) cap p i hi hcap zy (by rw [hz1]; exact hp)
         ·rename_i g1 g2
          have g1 := Nat.eq_of_beq_eq_true g1
          have hz0 : ob.sz ≠ 0 := by omega
          have ho := hh.cellsAt hob hi hval hz0
          have ho2 := ho
          obtain ⟨j, c, el, fr, q1, q2, q3, q4, q5, q6, q7, q8, q9⟩ := ho2
          rw [hi] at q1; cases q1
          have g2 : ¬ (o + len + n) * ti.size <= ob.cells.length := by
           intro hle
           rw [<- Nat.ble_eq] at hle
           rw [hle] at g2
           cases g2
          split at hv
          ·rename_i old hold
           have hiz : i.sz = ti.size := by omega
           have hcs : dH h.objs ti.size (.slice b o len sz') = some (len, old) := by
            have : Nat.beq ti.size sz' = true := by rw [hsz]; exact Nat.beq_refl _
            simp only [dH, hob, this, hold]
           obtain ⟨d1, d2', d3, d4⟩ := jd (P := P) hh hs hcs
           obtain ⟨olds, o1, o2⟩ := d4 len (Nat.le_refl len)
           rw [List.take_of_length_le (by rw [d2']; exact Nat.le_refl _)] at o2
           have hall := o2.append u2
           have hallc : ∀ v ∈ old ++ new, v.isCell = true := by
            intro v hv
            rcases List.mem_append.1 hv with h | h
            ·exact d3 v h
            ·exact c3 v h
           have halll : (old ++ new).length = (len + n) * ti.size := by rw [List.length_append, d2', c2, Nat.add_mul]
           have tonew : ¬ len + n <= cap -> ∀ objs, HRel M N w0 ⟨h.next, objs⟩ w ->
             im P M N w0 (Builtin.append_ ts ty args) w (.slice h.next 0 (len + n) ti.size) ⟨h.next + 1, objs.set h.next ⟨ti.size, false, old ++ new⟩⟩ := by
            intro hnot objs hob'
            obtain ⟨cap', hcap', hr⟩ := hout _ len cap olds he hnot hbig (by intro w1 hw1; rw [<- he]; exact o1 w1 hw1)
            obtain ⟨u, M', w', r1, r2, r3, r4⟩ := oD (P := P) H hh.drew hti hz b3 b1 hall hallc (need := len + n) (cap := cap') halll hcap' hzr' (hzM M) objs hob'.drew
            exact ⟨u, M', w', by rw [hr]; exact r1, r2, r3, r4⟩
           split at hv
           ·rename_i hex
            simp only [Option.some.injEq, Prod.mk.injEq] at hv
            obtain ⟨rfl, rfl⟩ := hv
            refine tonew ?_ h.objs hh
            intro hle
            have h7 := q7 hex
            refine g2 ?_
            rw [h7, hiz]
            exact Nat.mul_le_mul_right _ zy
           ·simp only [Option.some.injEq, Prod.mk.injEq] at hv
            obtain ⟨rfl, rfl⟩ := hv
            by_cases hle : len + n <= cap
            ·have hpp : p = ⟨i.blk, i.off + o * sz', none⟩ := by
              rcases hp with h | h
              ·exact h
              ·omega
             have hroom : i.off + (o + len) * ti.size + 0 + us.length <= c.size := by
              rw [hul, Nat.add_zero, Nat.add_assoc, <- Nat.add_mul]
              have : (o + len + n) * ti.size <= i.cap * i.sz := by rw [hiz]; exact Nat.mul_le_mul_right _ zy
              omega
             obtain ⟨w', c', r1, r2, r3, r4⟩ := jZ P i.blk (i.off + (o + len) * ti.size) el fr us 0 c w q2 q8 hroom (wo u2 c3)
             obtain ⟨s1, s2⟩ := hh.move hob hi hval hz0 q2 r2 r3 (l := old ++ new) (o := o) (cap := cap) hcap (by rw [halll, hiz]; exact Nat.mul_le_mul_right _ hle) hallc
              (fun k v hv => by
               rw [r4]
               rw [hiz]
               obtain ⟨_, hs2, hs3⟩ := lW hold
               by_cases hk : k < old.length
               ·rw [List.getElem?_append_left hk] at hv
                have hk2 : k < len * ti.size := by rw [d2'] at hk; exact hk
                have hn1 : ¬ (i.off + (o + len) * ti.size + 0 <= i.off + o * ti.size + k /\ i.off + o * ti.size + k < i.off + (o + len) * ti.size + 0 + us.length) := by
                 rw [Nat.add_mul]; omega
                rw [if_neg hn1]
                have hv2 : ob.cells[o * ti.size + k]? = some v := by
                 rw [<- hv]
                 exact (yB hold hk2).symm
                obtain ⟨_, u, hu, hr⟩ := q9 _ _ hv2
                exact ⟨u, by rw [Nat.add_assoc]; exact hu, hr⟩
               ·rw [List.getElem?_append_right zy] at hv
                have hk3 : k - old.length < new.length := (List.getElem?_eq_some_iff.1 hv).1
                have hp1 : i.off + (o + len) * ti.size + 0 <= i.off + o * ti.size + k /\ i.off + o * ti.size + k < i.off + (o + len) * ti.size + 0 + us.length := by
                 rw [Nat.add_mul, hul]
                 rw [c2] at hk3
                 omega
                rw [if_pos hp1]
                have ek : i.off + o * ti.size + k - (i.off + (o + len) * ti.size + 0) = k - old.length := by
                 rw [Nat.add_mul]; omega
                rw [ek]
                exact u2.get hv)
             rw [hiz] at s1 s2
             refine ⟨.slice (some p) (len + n) cap, _, w', ?_, s1, s2, ?_⟩
             ·rw [hin _ len cap he hle]
              have ea : p.add (len * ti.size) = ⟨i.blk, i.off + (o + len) * ti.size, none⟩ := by rw [hpp, fc, hsz, Nat.add_mul, Nat.add_assoc]
              simp only [ea]
              rw [r1]
              rfl
             ·have := VRel.slice (M := M.upd h.next ⟨i.blk, i.off + o * ti.size, cap, ti.size, undef⟩) h.next 0 (len + n) cap p ⟨i.blk, i.off + o * ti.size, cap, ti.size, undef⟩ (by simp [Inj.upd]) (by simp) hle
               (.inl (by rw [hpp, hsz]; simp))
              simpa using this
            ·exact tonew hle (h.objs.del b) (hh.del b)
          ·cases hv
         ·cases hv
        ·cases hv
       ·cases hv
      ·cases hv
    ·cases hv
   ·cases hv
  ·cases hv
 ·cases hv

theorem Bp (H : TabOK P tb J) (hh : HRel M N w0 h w) {ts : Array TypeId} (ty : TypeId) {args : Array Value} {t : Nat} {d x v : AV} {dv xv : Value} {h' : AHeap}
  (ht0 : ts[0]? = some t) (ha0 : args[0]? = some dv) (ha1 : args[1]? = some xv) (hd : VRel M d dv) (hx : VRel M x xv)
  (hv : wO tb t d x h = some (v, h')) : im P M N w0 (Builtin.copy_ ts ty args) w v h' := by
 unfold wO at hv
 split at hv
 ·rename_i e hdt
  split at hv
  ·rename_i sz hsz
   split at hv
   ·split at hv
    ·rename_i r hc
     obtain ⟨n, new⟩ := r
     simp only [Option.some.injEq, Prod.mk.injEq] at hv
     obtain ⟨rfl, rfl⟩ := hv
     obtain ⟨c1, c2, c3, c4⟩ := jd (P := P) hh hx hc
     obtain ⟨us, u1, u2⟩ := c4 0 (Nat.zero_le _)
     rw [g8 hd] at ha0
     refine ⟨.int .i64 0, M, w, ?_, Inj.le_refl M, hh, .int _ _⟩
     have hmin : Nat.min n 0 = 0 := Nat.min_zero n
     simp only [Builtin.copy_, ht0, ha0, ha1, Sem.run_bind, aM H hdt, Result.andThen_ok, c1, bZ H hsz, hmin, u1 w rfl, Sem.run_pure, goInt]
     rfl
    ·cases hv
   ·rename_i b o len sz'
    split at hv
    ·rename_i hz
     have hz := Nat.eq_of_beq_eq_true hz
     obtain ⟨i, cap, p, hi, hz1, hcap, hm, hp, he⟩ := fI hd
     have hval := f8 hd hi
     rw [hz1] at hp
     unfold vd at hv
     split at hv
     ·rename_i ob n cs hob hc
      obtain ⟨c1, c2, c3, c4⟩ := jd (P := P) hh hx hc
      split at hv
      ·rename_i g1 g2
       simp only [Bool.and_eq_true, Nat.beq_eq, Nat.blt_eq] at g1
       obtain ⟨g1, g0⟩ := g1
       rw [Nat.ble_eq] at g2
       simp only [Option.some.injEq, Prod.mk.injEq] at hv
       obtain ⟨rfl, rfl⟩ := hv
       obtain ⟨us, u1, u2⟩ := c4 (min n len) (Nat.min_le_left _ _)
       have hlen : (cs.take (min n len * sz)).length = min n len * sz := by
        rw [List.length_take, c2]
        exact Nat.min_eq_left (Nat.mul_le_mul_right _ (Nat.min_le_left _ _))
       have hroom : o * sz + (cs.take (min n len * sz)).length <= ob.cells.length := by
        rw [hlen, <- Nat.add_mul]
        exact Nat.le_trans (Nat.mul_le_mul_right _ (by have := Nat.min_le_right n len; omega)) g2
       obtain ⟨w', r1, r2⟩ := hh.store (P := P) hob hi hval zy u2 (fun v hv => c3 v (List.mem_of_mem_take hv)) (o * sz) hroom
       refine ⟨.int .i64 (min n len : Nat), M, w', ?_, Inj.le_refl M, r2, .int _ _⟩
       have hst : (storeCells p us).run P w = .ok () w' := by
        rcases hp with hp | hp
        ·rw [hp, hz]; exact r1
        ·have h0 : min n len = 0 := by omega
         have hus : us = [] := List.eq_nil_of_length_eq_zero (by rw [u2.1, hlen, h0]; simp)
         subst hus
         simp only [storeCells, Sem.run_pure] at r1 ⊢
         exact r1
       rw [he] at ha0
       simp only [Builtin.copy_, ht0, ha0, ha1, Sem.run_bind, aM H hdt, Result.andThen_ok, c1, bZ H hsz]
       have hmin : Nat.min n len = min n len := rfl
       rw [hmin, u1 w rfl]
       simp only [Result.andThen_ok, Sem.run_bind, hst, Sem.run_pure, goInt]
      ·cases hv
     ·cases hv
    ·cases hv
   ·cases hv
  ·cases hv
 ·cases hv

theorem v5 (hh : HRel M N w0 h w) (e : Nat) {s : List Nat} {r : ByteArray} (hs : r.toList.map UInt8.toNat = s) :
  im P M N w0 (Conv.stringToBytes e r) w (.slice h.next 0 s.length 1) ⟨h.next + 1, h.objs.set h.next ⟨1, false, s.map fun c => .int .u8 (.ofNat c)⟩⟩ := by
 have hl : r.size = s.length := by rw [<- hs, ByteArray.toList_eq]; simp
 have hf : (Question.appendCap r.size 0 e).forced = false := rfl
 generalize hcap : (Question.appendCap r.size 0 e).cut (w.tape w.drawn (.appendCap r.size 0 e)) = cap
 have hle : r.size <= cap := by rw [<- hcap]; simp only [Question.cut]; omega
 generalize hc : (r.data.map fun b => Value.int .u8 b.toNat) ++ Array.replicate (cap - r.size) (.int .u8 0) = c
 have hcs : c.size = cap := by rw [<- hc]; simp; omega
 have g : Grow w.drew ((w.drew.alloc (.cells c e)).freeze ⟨w.drew.heap.size, c.size, none⟩ 1) (.cells c e (c.size, c.size + 1)) := by
  refine ⟨rfl, rfl, rfl, by simp [World.freeze], fun k hk => ?_, ?_⟩
  ·simp only [World.freeze, Nat.one_ne_zero, if_false, Array.getElem?_modify]
   rw [if_neg zy]
   exact Below.heap_alloc _ _ _ hk
  ·simp only [World.freeze, Nat.one_ne_zero, if_false, Array.getElem?_modify, if_true]
   rw [(Grow.alloc w.drew (.cells c e)).new]
   simp
 obtain ⟨q1, q2⟩ := hh.drew.grow g (fun k hk => by simp only; omega) ⟨1, false, s.map fun c => .int .u8 (.ofNat c)⟩ cap (by simp; omega) (by simp only [Nat.mul_one]; omega) (fun h => by cases h)
  (by simp [AV.isCell]) (fun k v hv => by
   simp only [List.getElem?_map] at hv
   cases hk : s[k]? with
   | none => rw [hk] at hv; simp at hv
   | some b =>
    rw [hk] at hv
    simp only [Option.map_some, Option.some.injEq] at hv
    subst hv
    rw [<- hs, ByteArray.toList_eq] at hk
    simp only [List.getElem?_map] at hk
    cases hq : r.data.toList[k]? with
    | none => rw [hq] at hk; simp at hk
    | some y =>
     rw [hq] at hk
     simp only [Option.map_some, Option.some.injEq] at hk
     subst hk
     refine ⟨.int .u8 y.toNat, ?_, .int _ _⟩
     have hlt : k < r.data.toList.length := (List.getElem?_eq_some_iff.1 hq).1
     rw [<- hc, Array.getElem?_append_left (by simpa using hlt)]
     have : r.data[k]? = some y := by simpa using hq
     simp [this])
 refine ⟨.slice (some ⟨w.heap.size, 0, none⟩) r.size cap, _, _, ?_, q1, q2, ?_⟩
 ·simp only [Conv.stringToBytes, Sem.run_bind, run_choose, hf, Bool.false_eq_true, if_false, hcap, Result.andThen_ok, World.drew_eq, hc, newRow, run_newObj, World.alloc_eq, Sem.run_pure, markStringish, run_shape]
  have hsh : (w.drew.alloc (.cells c e)).shape? w.drew.heap.size = some (e, c.size) := by
   simp only [World.shape?]
   rw [(Grow.alloc w.drew (.cells c e)).new]
  simp only [hsh, run_freeze, Result.andThen_ok]
  rfl
 ·rw [hl]
  have := VRel.slice (M := M.upd h.next ⟨w.drew.heap.size, 0, cap, 1, undef⟩) h.next 0 s.length cap ⟨w.drew.heap.size, 0, none⟩ ⟨w.drew.heap.size, 0, cap, 1, undef⟩ (by simp [Inj.upd]) (by simp) zy (.inl (by simp))
  exact this
end loud
end Go.Proofs.YtfkbfnpjggkdmaaGreatDoor.Ev
