/- An evaluator of closed calls, part 5: the quiet operations. -/
import Derived.Test.YtfkbfnpjggkdmaaGreatDoorCEvD
namespace Go.Proofs.YtfkbfnpjggkdmaaGreatDoor.Ev
open Go.RowKit
variable {J : Ctx}

theorem fc (b o n : Nat) : (⟨b, o, none⟩ : Addr).add n = ⟨b, o + n, none⟩ := by
 unfold Addr.add
 split
 ·rename_i h; subst h; rfl
 ·rfl
theorem LRd.cell {M : Inj} {o : AObj} {b : Nat} {w : World} (h : LRd M o b w) {i : BI} (hi : M b = some i) {k : Nat} {v : AV} (hv : o.cells[k]? = some v) :
  v.isCell = true /\ ∃ u, w.cell? ⟨i.blk, i.off + k, none⟩ = some u /\ VRel M v u := by
 obtain ⟨j, c, e, fr, hj, hh, hc⟩ := h
 rw [hi] at hj
 cases hj
 obtain ⟨h1, u, hu, hr⟩ := hc k v hv
 refine ⟨h1, u, ?_, hr⟩
 simp [World.cell?, hh, hu]
theorem lW {l m : List AV} {o n : Nat} (h : dy l o n = some m) : m = (l.drop o).take n /\ o + n <= l.length /\ m.length = n := by
 unfold dy at h
 split at h
 ·rename_i hb
  rw [Nat.ble_eq] at hb
  simp only [Option.some.injEq] at h
  subst h
  exact ⟨rfl, hb, by simp; omega⟩
 ·cases h
theorem yB {l m : List AV} {o n : Nat} (h : dy l o n = some m) {j : Nat} (hj : j < n) : m[j]? = l[o + j]? := by
 obtain ⟨rfl, _, _⟩ := lW h
 rw [List.getElem?_take_of_lt hj, List.getElem?_drop]
theorem LRd.cells {M : Inj} {o : AObj} {b : Nat} {w : World} (h : LRd M o b w) {i : BI} (hi : M b = some i) {p n : Nat} {m : List AV} (hm : dy o.cells p n = some m) :
  ∃ us : List Value, us.length = n /\ LRel M m us /\ (∀ j u, us[j]? = some u -> w.cell? ⟨i.blk, i.off + p + j, none⟩ = some u) := by
 obtain ⟨_, hb, hl⟩ := lW hm
 have key : ∀ j, j < n -> ∃ u, w.cell? ⟨i.blk, i.off + p + j, none⟩ = some u /\ ∀ v, m[j]? = some v -> VRel M v u := by
  intro j hj
  have hlt : p + j < o.cells.length := by omega
  obtain ⟨_, u, hu, hr⟩ := h.cell hi (List.getElem?_eq_getElem hlt)
  refine ⟨u, by rw [<- hu, Nat.add_assoc], fun v hv => ?_⟩
  rw [yB hm hj, List.getElem?_eq_getElem hlt] at hv
  cases hv
  exact hr
 refine ⟨(List.range n).map fun j => if hj : j < n then (key j hj).choose else undef, by simp, ⟨by simp [hl], fun j v u hv hu => ?_⟩, fun j u hu => ?_⟩
 ·have hj : j < n := by
   rw [<- hl]; exact (List.getElem?_eq_some_iff.1 hv).1
  simp only [List.getElem?_map, List.getElem?_range hj, Option.map_some, hj, dite_true, Option.some.injEq] at hu
  subst hu
  exact (key j hj).choose_spec.2 v hv
 ·have hj : j < n := by
   have := (List.getElem?_eq_some_iff.1 hu).1
   simpa using this
  simp only [List.getElem?_map, List.getElem?_range hj, Option.map_some, hj, dite_true, Option.some.injEq] at hu
  subst hu
  exact (key j hj).choose_spec.1
theorem mR {P : Program} {w : World} {b p n : Nat} {us : List Value} (hn : us.length = n) (h : ∀ j u, us[j]? = some u -> w.cell? ⟨b, p + j, none⟩ = some u) :
  (loadCells ⟨b, p, none⟩ n).run P w = .ok us.toArray w := by
 subst hn
 exact run_loadCells_list w _ us (fun j v hv => by rw [fc]; exact h j v hv)

theorem gf {M : Inj} {b o : Nat} {v : Value} (h : VRel M (.ptr b o) v) : ∃ i, M b = some i /\ v = .pointer (some ⟨i.blk, i.off + o, none⟩) := by
 cases h with
 | ptr b o i hi => exact ⟨i, hi, rfl⟩
theorem jv {M : Inj} {b o : Nat} {v : Value} (h : VRel M (.ptr b o) v) {i : BI} (hi : M b = some i) : i.val = undef := by
 cases h with
 | ptr _ _ j hj hv => rw [hi] at hj; cases hj; exact hv
theorem f8 {M : Inj} {b o n z : Nat} {v : Value} (h : VRel M (.slice b o n z) v) {i : BI} (hi : M b = some i) : i.val = undef := by
 cases h with
 | slice _ _ _ _ _ j hj _ _ _ hv => rw [hi] at hj; cases hj; exact hv
theorem fI {M : Inj} {b o n z : Nat} {v : Value} (h : VRel M (.slice b o n z) v) :
  ∃ i cap p, M b = some i /\ i.sz = z /\ o + cap = i.cap /\ n <= cap /\ (p = ⟨i.blk, i.off + o * i.sz, none⟩ \/ cap = 0) /\ v = .slice (some p) n cap := by
 cases h with
 | slice b o n cap p i hi hc hl hp => exact ⟨i, cap, p, hi, rfl, hc, hl, hp, rfl⟩
theorem dU {M : Inj} {k : IntKind} {n : Int} {v : Value} (h : VRel M (.int k n) v) : v = .int k n := by cases h; rfl
theorem gm {M : Inj} {b : Bool} {v : Value} (h : VRel M (.bool b) v) : v = .bool b := by cases h; rfl
theorem g8 {M : Inj} {v : Value} (h : VRel M .nils v) : v = .slice none 0 0 := by cases h; rfl
theorem j7 {M : Inj} {l : List AV} {v : Value} (h : VRel M (.agg l) v) : ∃ cs : Array Value, v = .agg cs /\ LRel M l cs.toList := by
 cases h with
 | agg l cs hs h => exact ⟨cs, rfl, by simpa using hs, fun i v u a b => h i v u a (by simpa using b)⟩
theorem mX {M : Inj} {l : List AV} {v : Value} (h : VRel M (.tuple l) v) : ∃ cs : Array Value, v = .tuple cs /\ LRel M l cs.toList := by
 cases h with
 | tuple l cs hs h => exact ⟨cs, rfl, by simpa using hs, fun i v u a b => h i v u a (by simpa using b)⟩
theorem tT {l : List AV} {x : AV} (h : fM l = some x) : l = [.tuple [], x] := by
 unfold fM at h
 split at h
 ·cases h; rfl
 ·cases h
theorem pc {M : Inj} {f : Nat} {l : List AV} {v : Value} (h : VRel M (.func f l) v) (hf : fM l = none) : ∃ cs : Array Value, v = .func (.func f) #[] cs /\ LRel M l cs.toList := by
 cases h with
 | func f l cs hs h _ => exact ⟨cs, rfl, by simpa using hs, fun i v u a b => h i v u a (by simpa using b)⟩
 | meth f x u h => cases hf
theorem t5 {M : Inj} {f : Nat} {l : List AV} {x : AV} {v : Value} (h : VRel M (.func f l) v) (hf : fM l = some x) : ∃ u, v = .func (.func f) #[u] #[] /\ VRel M x u := by
 have e := tT hf
 subst e
 cases h with
 | func f l cs hs h hl => simp [AV.isCell] at hl
 | meth f x u h => exact ⟨u, rfl, h⟩
theorem BU {M : Inj} {f : Nat} {l : List AV} {v : Value} (h : VRel M (.func f l) v) : ∃ (fn : Nat) (a b : Array Value), v = .func (.func fn) a b := by
 cases h with
 | func f l cs hs h _ => exact ⟨_, _, _, rfl⟩
 | meth f x u h => exact ⟨_, _, _, rfl⟩

theorem vK {x : Option AV} {n : Nat} (h : fj x = some n) : ∃ k, x = some (.int k (.ofNat n)) := by
 unfold fj at h
 split at h
 ·simp only [Option.some.injEq] at h; subst h; exact ⟨_, rfl⟩
 ·cases h

section quiet
variable {P : Program} {tb : Tab} (H : TabOK P tb J) {M : Inj} {N : Nat -> Prop} {w0 : Base J} {tm : T AV} {h : AHeap} {a : Act} {w : World} (ht : TRel M tm a)

theorem jr (ht : TRel M tm a) {x : Operand} {n : Nat} (hx : fj (aS tm x) = some n) : ∃ k, a.eval x = .int k (n : Int) := by
 obtain ⟨k, hk⟩ := vK hx
 exact ⟨k, dU (eU ht hk)⟩

theorem yf (H : TabOK P tb J) (hh : HRel M N w0 h w) {t b o : Nat} {v : AV} (hl : ns tb h.objs t b o = some v) {i : BI} (hi : M b = some i) (hval : i.val = undef) :
  ∃ u, (loadVar t ⟨i.blk, i.off + o, none⟩).run P w = .ok u w /\ VRel M v u := by
 unfold ns at hl
 split at hl
 ·rename_i ob hob
  have ho := hh.readAt hob hi hval
  split at hl
  ·rename_i hagg
   split at hl
   ·rename_i n hn
    split at hl
    ·rename_i l hs
     simp only [Option.some.injEq] at hl
     subst hl
     obtain ⟨us, h1, h2, h3⟩ := ho.cells hi hs
     refine ⟨.agg us.toArray, ?_, h2.agg⟩
     simp [loadVar, lS H hagg, bZ H hn, mR h1 h3]
    ·cases hl
   ·cases hl
  ·rename_i hagg
   obtain ⟨_, u, hu, hr⟩ := ho.cell hi hl
   exact ⟨u, by simp [loadVar, lS H hagg, hu], hr⟩
  ·cases hl
 ·cases hl

theorem j9 (ht : TRel M tm a) {len cap : Nat} {lo hi : Option Operand} {l hv : Nat} (hb : cH tm len lo hi = some (l, hv)) (hc : len <= cap) (s : Bool) :
  (Instr.sliceBounds s len cap (lo.map a.eval) (hi.map a.eval) none).run P w = .ok (l, hv, cap) w /\ l <= hv /\ hv <= len := by
 unfold cH at hb
 split at hb
 ·rename_i x hx
  split at hb
  ·rename_i y hy
   split at hb
   ·rename_i hb2
    simp only [Bool.and_eq_true, Nat.ble_eq] at hb2
    simp only [Option.some.injEq, Prod.mk.injEq] at hb
    obtain ⟨rfl, rfl⟩ := hb
    refine ⟨?_, hb2.2, hb2.1⟩
    have hcap : x <= cap := by omega
    have hlx : y <= x := by omega
    cases lo with
    | none =>
     simp only [Option.some.injEq] at hy
     subst hy
     cases hi with
     | none =>
      simp only [Option.some.injEq] at hx
      subst hx
      simp [Instr.sliceBounds]
     | some hiv =>
      obtain ⟨k, hk⟩ := jr ht hx
      simp [Instr.sliceBounds, hk, Instr.sliceBound, asIntOf, hcap]
    | some lov =>
     obtain ⟨k', hk'⟩ := jr ht hy
     cases hi with
     | none =>
      simp only [Option.some.injEq] at hx
      subst hx
      simp [Instr.sliceBounds, hk', Instr.sliceBound, asIntOf, hlx]
     | some hiv =>
      obtain ⟨k, hk⟩ := jr ht hx
      simp [Instr.sliceBounds, hk, hk', Instr.sliceBound, asIntOf, hcap, hlx]
   ·cases hb
  ·cases hb
 ·cases hb

theorem jX (xType : TypeId) (x : Value) (l h m : Option Value) {d : TypeDesc} (hu : P.underlying xType = some d) (hd : ∀ n e, d ≠ .array n e) :
  (Instr.sliceAt xType x l h m).run P w = (Instr.slice xType x l h m).run P w := by
 simp only [Instr.sliceAt, Sem.run_bind, run_underlying hu, Result.andThen_ok]

theorem vy (H : TabOK P tb J) (ht : TRel M tm a) (hh : HRel M N w0 h w) {t : Nat} {x : Operand} {lo hi mx : Option Operand} {v : AV} (hv : eR tb tm h.objs t x lo hi mx = some v) :
  ∃ u, (Instr.sliceAt t (a.eval x) (lo.map a.eval) (hi.map a.eval) (mx.map a.eval)).run P w = .ok u w /\ VRel M v u := by
 unfold eR at hv
 split at hv
 ·rename_i s hd hx
  have hu := jy H hd
  rw [jX _ _ _ _ _ hu (by simp)]
  obtain ⟨r, hr, hs, hl⟩ := dW (eU ht hx)
  unfold jW at hv
  split at hv
  ·rename_i l hi' hb
   simp only [Option.some.injEq] at hv
   subst hv
   obtain ⟨hb1, hb2, hb3⟩ := j9 (P := P) (w := w) ht hb (Nat.le_refl _) false
   refine ⟨.string (r.extract l hi'), ?_, ?_⟩
   ·rw [hr]
    simp only [Instr.slice, Sem.run_bind, run_underlying hu, Result.andThen_ok, Option.map_none, Option.isSome_none, Bool.false_eq_true, if_false, hl, hb1]
    rfl
   ·refine .str _ _ ?_
    rw [ByteArray.toList_eq] at hs
    rw [<- hs]
    simp [List.map_take, List.map_drop]
  ·cases hv
 ·rename_i e b o n z hd hx
  have hu := jy H hd
  rw [jX _ _ _ _ _ hu (by simp)]
  obtain ⟨i, cap, p, hi', hz, hc, hn, hp, hv'⟩ := fI (eU ht hx)
  have hval := f8 (eU ht hx) hi'
  unfold ii at hv
  split at hv
  ·rename_i m hm
   split at hv
   ·rename_i hmz
    have hmz := Nat.eq_of_beq_eq_true hmz
    split at hv
    ·rename_i l hi2 hb
     simp only [Option.some.injEq] at hv
     subst hv
     obtain ⟨hb1, hb2, hb3⟩ := j9 (P := P) (w := w) ht hb hn true
     rw [hv']
     simp only [Instr.slice, Sem.run_bind, run_underlying hu, Result.andThen_ok, Option.map_none, hb1, bZ H hm, Sem.run_pure]
     refine ⟨_, rfl, ?_⟩
     subst hz
     by_cases hcl : cap = l
     ·subst hcl
      simp only [if_true]
      exact .slice b (o + cap) (hi2 - cap) (cap - cap) p i hi' zy zy (.inr zy)
     ·simp only [hcl, if_false, Option.map_some]
      refine .slice b (o + l) (hi2 - l) (cap - l) _ i hi' zy zy (.inl ?_)
      rcases hp with hp | hp
      ·rw [hp, fc, hmz, Nat.add_mul, Nat.add_assoc]
      ·omega
    ·cases hv
   ·cases hv
  ·cases hv
 ·rename_i e hd hx
  have hu := jy H hd
  rw [jX _ _ _ _ _ hu (by simp)]
  have hn := g8 (eU ht hx)
  split at hv
  ·rename_i lh sz hb hsz
   obtain ⟨l, h2⟩ := lh
   simp only [Option.some.injEq] at hv
   subst hv
   obtain ⟨hb1, hb2, hb3⟩ := j9 (P := P) (w := w) ht hb (Nat.le_refl 0) true
   have e1 : h2 = 0 := by omega
   have e2 : l = 0 := by omega
   subst e1 e2
   refine ⟨.slice none 0 0, ?_, .nils⟩
   rw [hn]
   simp only [Instr.slice, Sem.run_bind, run_underlying hu, Result.andThen_ok, Option.map_none, hb1, bZ H hsz, Sem.run_pure, if_true, Nat.sub_self]
  ·cases hv
 ·rename_i len e b hd hx
  have hu := jy H hd
  obtain ⟨i, hi', hv'⟩ := gf (eU ht hx)
  have hval := jv (eU ht hx) hi'
  unfold jV at hv
  split at hv
  ·rename_i m ob hm hob
   split at hv
   ·rename_i hc
    simp only [Bool.and_eq_true, Nat.beq_eq, Nat.blt_eq] at hc
    obtain ⟨⟨⟨hc1, hc2⟩, hc3⟩, hc4⟩ := hc
    split at hv
    ·rename_i l hi2 hb
     simp only [Option.some.injEq] at hv
     subst hv
     obtain ⟨j, c, el, fr, hj, hh1, hh2, hh3, hh4, hh5, hh6, hh7, hh8⟩ := hh.cellsAt hob hi' hval zy
     rw [hi'] at hj
     cases hj
     have hcap : i.cap = len := by
      have h6 := hh6 hc2
      rw [hc3, hh3, hc1] at h6
      exact (Nat.eq_of_mul_eq_mul_right hc4 h6).symm
     obtain ⟨hb1, hb2, hb3⟩ := j9 (P := P) (w := w) ht hb (Nat.le_refl _) false
     rw [hv']
     simp only [Instr.sliceAt, Sem.run_bind, run_underlying hu, Result.andThen_ok, Option.map_none, Instr.sureAddr, Sem.run_pure, hb1, bZ H hm]
     refine ⟨_, rfl, ?_⟩
     rw [Nat.add_zero]
     have hsz : i.sz = m := by rw [hh3, hc1]
     subst hsz
     by_cases hcl : len = l
     ·subst hcl
      simp only [if_true]
      exact .slice b len (hi2 - len) (len - len) _ i hi' zy zy (.inr zy)
     ·simp only [hcl, if_false]
      rw [fc]
      exact .slice b l (hi2 - l) (len - l) _ i hi' zy zy (.inl rfl)
    ·cases hv
   ·cases hv
  ·cases hv
 ·cases hv
theorem oW (H : TabOK P tb J) (ht : TRel M tm a) {t : Nat} {x ix : Operand} {v : AV} (hv : dr tb tm t x ix = some v) :
  ∃ u, (Instr.indexAt t (a.eval x) (a.eval ix)).run P w = .ok u w /\ VRel M v u := by
 unfold dr at hv
 split at hv
 ·rename_i e b o n z i hd hx hi
  obtain ⟨k, hk⟩ := jr ht hi
  obtain ⟨j, cap, p, hj, hz, hc, hn, hp, hv'⟩ := fI (eU ht hx)
  have hval := f8 (eU ht hx) hj
  split at hv
  ·rename_i m hm
   split at hv
   ·rename_i hb
    simp only [Bool.and_eq_true, Nat.beq_eq, Nat.blt_eq] at hb
    obtain ⟨rfl, hlt⟩ := hb
    simp only [Option.some.injEq] at hv
    subst hv
    rw [hk, hv']
    have h1 : (0 : Int) <= (i : Int) /\ (i : Int) < (n : Int) := by omega
    simp only [Instr.indexAt, asIntOf, Sem.run_bind, Sem.run_pure, Result.andThen_ok, aM H hd, h1, and_self, if_true, bZ H hm, Int.toNat_natCast]
    refine ⟨_, rfl, ?_⟩
    have hp' : p = ⟨j.blk, j.off + o * j.sz, none⟩ := by
     rcases hp with hp | hp
     ·exact hp
     ·omega
    have e1 : p.add (i * m) = ⟨j.blk, j.off + (o + i) * m, none⟩ := by rw [hp', fc, hz, Nat.add_mul, Nat.add_assoc]
    rw [e1]
    exact .ptr b _ j hj
   ·cases hv
  ·cases hv
 ·rename_i len e b o i hd hx hi
  obtain ⟨k, hk⟩ := jr ht hi
  obtain ⟨j, hj, hv'⟩ := gf (eU ht hx)
  have hval := jv (eU ht hx) hj
  split at hv
  ·rename_i m hm
   split at hv
   ·rename_i hb
    rw [Nat.blt_eq] at hb
    simp only [Option.some.injEq] at hv
    subst hv
    rw [hk, hv']
    have h1 : (0 : Int) <= (i : Int) /\ (i : Int) < (len : Int) := by omega
    simp only [Instr.indexAt, asIntOf, Sem.run_bind, Sem.run_pure, Result.andThen_ok, aM H hd, Instr.sureAddr, h1, and_self, if_true, bZ H hm, fc, Int.toNat_natCast]
    refine ⟨_, rfl, ?_⟩
    rw [Nat.add_assoc]
    exact .ptr b _ j hj
   ·cases hv
  ·cases hv
 ·cases hv

theorem vt (H : TabOK P tb J) (ht : TRel M tm a) {t : Nat} {x ix : Operand} {v : AV} (hv : gI tb tm t x ix = some v) :
  ∃ u, (Instr.index t (a.eval x) (a.eval ix)).run P w = .ok u w /\ VRel M v u := by
 unfold gI at hv
 split at hv
 ·rename_i s i hd hx hi
  obtain ⟨k, hk⟩ := jr ht hi
  obtain ⟨r, hr, hs, hl⟩ := dW (eU ht hx)
  split at hv
  ·rename_i c hc
   simp only [Option.some.injEq] at hv
   subst hv
   have hlt : i < r.size := by rw [hl]; exact (List.getElem?_eq_some_iff.1 hc).1
   have hg : r[i]? = some r[i] := getElem?_pos r i hlt
   have hb : r[i].toNat = c := by
    rw [<- hs, ByteArray.toList_eq] at hc
    simp only [List.getElem?_map] at hc
    have hlt' : i < r.data.toList.length := by simpa using hlt
    rw [List.getElem?_eq_getElem hlt'] at hc
    simp only [Option.map_some, Option.some.injEq] at hc
    rw [<- hc]
    rfl
   rw [hk, hr]
   refine ⟨.int .u8 r[i].toNat, ?_, ?_⟩
   ·simp [Instr.index, asIntOf, aM H hd, hg]
   ·rw [hb]; exact .int _ _
  ·cases hv
 ·rename_i len e cs i hd hx hi
  obtain ⟨k, hk⟩ := jr ht hi
  obtain ⟨vs, hvs, hl⟩ := j7 (eU ht hx)
  split at hv
  ·rename_i m hm
   split at hv
   ·rename_i hb
    rw [Nat.blt_eq] at hb
    obtain ⟨u, hu, hr⟩ := kk H hl hv w
    rw [hk, hvs]
    refine ⟨u, ?_, hr⟩
    have h1 : (0 : Int) <= (i : Int) /\ (i : Int) < (len : Int) := by omega
    simp only [Instr.index, asIntOf, Sem.run_bind, Sem.run_pure, Result.andThen_ok, aM H hd, h1, and_self, if_true, bZ H hm, Int.toNat_natCast, hu]
   ·cases hv
  ·cases hv
 ·cases hv

theorem nn {d : Option TypeDesc} {fs : List Field} (h : dX d = some fs) : ∃ a : Array Field, d = some (.struct a) /\ a.toList = fs := by
 unfold dX at h
 split at h
 ·simp only [Option.some.injEq] at h; exact ⟨_, rfl, h⟩
 ·cases h
theorem se {tb : Tab} {fs : List Field} {i o n : Nat} (h : ga tb fs i = some (o, n)) : ∃ f, fs[i]? = some f /\ f.offset = o /\ tb.size f.type = some n := by
 unfold ga at h
 split at h
 ·rename_i f hf
  split at h
  ·rename_i n' hn
   simp only [Option.some.injEq, Prod.mk.injEq] at h
   obtain ⟨rfl, rfl⟩ := h
   exact ⟨f, hf, rfl, hn⟩
  ·cases h
 ·cases h

theorem oU (H : TabOK P tb J) (ht : TRel M tm a) {s : Nat} {x : Operand} {f : Nat} {v : AV} (hv : dq tb tm s x f = some v) :
  ∃ u, (Instr.fieldAt s (a.eval x) f).run P w = .ok u w /\ VRel M v u := by
 unfold dq at hv
 split at hv
 ·rename_i fs b o hfs hx
  obtain ⟨fa, hd, rfl⟩ := nn hfs
  obtain ⟨j, hj, hv'⟩ := gf (eU ht hx)
  have hval := jv (eU ht hx) hj
  split at hv
  ·rename_i off n hpl
   obtain ⟨fd, hf, rfl, hn⟩ := se hpl
   simp only [Option.some.injEq] at hv
   subst hv
   have hf' : fa[f]? = some fd := by simpa using hf
   rw [hv']
   refine ⟨.pointer (some ⟨j.blk, j.off + (o + fd.offset), none⟩), ?_, .ptr b _ j hj⟩
   simp only [Instr.fieldAt, Sem.run_bind, aM H hd, Result.andThen_ok, hf', Instr.sureAddr, Sem.run_pure, fieldPlace, bZ H hn, Nat.add_one_ne_zero, if_false, fc, Nat.add_assoc]
  ·cases hv
 ·cases hv

theorem vo (H : TabOK P tb J) (ht : TRel M tm a) {s : Nat} {x : Operand} {f : Nat} {v : AV} (hv : jj tb tm s x f = some v) :
  ∃ u, (Instr.field s (a.eval x) f).run P w = .ok u w /\ VRel M v u := by
 unfold jj at hv
 split at hv
 ·rename_i fs cs hfs hx
  obtain ⟨fa, hd, rfl⟩ := nn hfs
  obtain ⟨vs, hvs, hl⟩ := j7 (eU ht hx)
  split at hv
  ·rename_i fd hf
   have hf' : fa[f]? = some fd := by simpa using hf
   obtain ⟨u, hu, hr⟩ := kk H hl hv w
   rw [hvs]
   refine ⟨u, ?_, hr⟩
   simp only [Instr.field, Sem.run_bind, aM H hd, Result.andThen_ok, hf', asAgg, Sem.run_pure, hu]
  ·cases hv
 ·cases hv

theorem rT (ht : TRel M tm a) {x : Operand} {i : Nat} {v : AV} (hv : eP tm x i = some v) :
  ∃ u, (Instr.extract (a.eval x) i).run P w = .ok u w /\ VRel M v u := by
 unfold eP at hv
 split at hv
 ·rename_i l hx
  obtain ⟨vs, hvs, hl⟩ := mX (eU ht hx)
  obtain ⟨u, hu, hr⟩ := hl.get hv
  have hu' : vs[i]? = some u := by simpa using hu
  rw [hvs]
  exact ⟨u, by simp [Instr.extract, hu'], hr⟩
 ·cases hv

theorem qX (H : TabOK P tb J) : ∀ {fs : List Field} (hok : lU tb fs = true) (w : World),
  ∃ pl : List (Nat × Nat), (fs.mapM fun f => do pure (f.offset, <- sizeOf f.type) : Sem (List (Nat × Nat))).run P w = .ok pl w /\ (fun i => pl[i]?) = ga tb fs
 | [], _, w => ⟨[], by simp, by funext i; simp [ga]⟩
 | f :: fs, hok, w => by
  unfold lU at hok
  split at hok
  ·rename_i n hn
   obtain ⟨pl, h1, h2⟩ := qX H hok w
   refine ⟨(f.offset, n) :: pl, ?_, ?_⟩
   ·simp only [List.mapM_cons, Sem.run_bind, bZ H hn, Result.andThen_ok, Sem.run_pure, h1]
   ·funext i
    cases i with
    | zero => simp [ga, hn]
    | succ i =>
     have := congrFun h2 i
     simp only [List.getElem?_cons_succ]
     rw [this]
     simp [ga]
  ·cases hok

theorem vk (H : TabOK P tb J) (ht : TRel M tm a) {t : Nat} {parts : Array (Nat × Operand)} {v : AV} (hv : gH tb tm t parts = some v) :
  ∃ u, (Instr.build t (parts.map fun (i, x) => (i, a.eval x))).run P w = .ok u w /\ VRel M v u := by
 unfold gH at hv
 split at hv
 ·rename_i z ps hz hps
  obtain ⟨zv, hzr, hzM, hzc⟩ := gh H hz w
  have hp := jt ht hps
  have hp' : (parts.map fun (i, x) => (i, a.eval x)).toList = parts.toList.map fun (i, x) => (i, a.eval x) := by simp
  split at hv
  ·rename_i fs hd
   split at hv
   ·rename_i hok
    unfold wk at hv
    split at hv
    ·rename_i l hl
     simp only [Option.some.injEq] at hv
     subst hv
     obtain ⟨pl, hpl1, hpl2⟩ := qX H hok w
     obtain ⟨cs', h1, h2⟩ := jK hp (hzM M).cells hl
     rw [<- hpl2] at h1
     refine ⟨.agg cs', ?_, ?_⟩
     ·have hm : (fs.mapM fun f => do pure (f.offset, <- sizeOf f.type) : Sem (Array (Nat × Nat))).run P w = .ok pl.toArray w := by
       rw [Array.mapM_eq_mapM_toList]
       simp only [Sem.run_map, hpl1, Result.andThen_ok]
      simp only [Instr.build, Sem.run_bind, hzr, Result.andThen_ok, aM H hd, hm, hp', List.getElem?_toArray, h1, Sem.run_pure]
     ·have := h2.agg; simpa using this
    ·cases hv
   ·cases hv
  ·rename_i len e hd
   split at hv
   ·rename_i n hn
    unfold wk at hv
    split at hv
    ·rename_i l hl
     simp only [Option.some.injEq] at hv
     subst hv
     obtain ⟨cs', h1, h2⟩ := jK hp (hzM M).cells hl
     refine ⟨.agg cs', ?_, ?_⟩
     ·simp only [Instr.build, Sem.run_bind, hzr, Result.andThen_ok, aM H hd, bZ H hn, hp', h1, Sem.run_pure]
     ·have := h2.agg; simpa using this
    ·cases hv
   ·cases hv
  ·cases hv
 ·cases hv

theorem zH (ht : TRel M tm a) {op : UnOp} {x : Operand} {v : AV} (hv : gW tm op x = some v) :
  ∃ u, (Op.unary op (a.eval x)).run P w = .ok u w /\ VRel M v u := by
 unfold gW at hv
 split at hv
 ·rename_i k n hx
  simp only [Option.some.injEq] at hv
  subst hv
  rw [dU (eU ht hx)]
  exact ⟨.int k (k.wrap (0 - n)), by simp [Op.unary, Op.intArith], by rw [cv]; exact .int _ _⟩
 ·rename_i b hx
  simp only [Option.some.injEq] at hv
  subst hv
  rw [gm (eU ht hx)]
  exact ⟨.bool (!b), by simp [Op.unary], .bool _⟩
 ·rename_i k n hx
  simp only [Option.some.injEq] at hv
  subst hv
  rw [dU (eU ht hx)]
  exact ⟨.int k (k.wrap (BitVec.ofInt k.bits (if k.signed then -1 else k.max) ^^^ BitVec.ofInt k.bits n).toNat), by simp [Op.unary, Op.intBits], by unfold ku; rw [cv]; exact .int _ _⟩
 ·cases hv

theorem BC (H : TabOK P tb J) (ht : TRel M tm a) {args : Array Operand} {ts : Array Nat} (ty : Nat) {v : AV} (hv : lE tb tm args ts = some v) :
  ∃ u, (Builtin.len_ ts ty (args.map a.eval)).run P w = .ok u w /\ VRel M v u := by
 unfold lE at hv
 split at hv
 ·rename_i t _ x hts hargs
  split at hv
  ·rename_i d y hd hy
   split at hv
   ·rename_i n hn
    simp only [Option.some.injEq] at hv
    subst hv
    have h0 : ts[0]? = some t := by
     have : ts.toList[0]? = some t := by rw [hts]; rfl
     simpa using this
    have h1 : (args.map a.eval)[0]? = some (a.eval x) := by
     have : args.toList[0]? = some x := by rw [hargs]; rfl
     have : args[0]? = some x := by simpa using this
     simp [this]
    have hr := eU ht hy
    generalize a.eval x = xv at h1 hr
    refine ⟨.int .i64 (n : Int), ?_, .int _ _⟩
    unfold iN at hn
    split at hn <;> first | (cases hn; done) | skip
    ·simp only [Option.some.injEq] at hn; subst hn
     obtain ⟨s, rfl, hs, hl⟩ := dW hr
     simp [Builtin.len_, h0, h1, aM H hd, goInt, hl]
    ·simp only [Option.some.injEq] at hn; subst hn
     simp [Builtin.len_, h0, h1, aM H hd, goInt]
    ·simp only [Option.some.injEq] at hn; subst hn
     obtain ⟨j, cap, p, hj, hz, hc, hn, hp, rfl⟩ := fI hr
     simp [Builtin.len_, h0, h1, aM H hd, goInt]
    ·simp only [Option.some.injEq] at hn; subst hn
     rw [g8 hr] at h1
     simp [Builtin.len_, h0, h1, aM H hd, goInt]
   ·cases hv
  ·cases hv
 ·cases hv

theorem qR (mx : Bool) : ∀ {l : List AV} {vs : List Value} {x v : AV} {xv : Value}, LRel M l vs -> VRel M x xv -> dh mx x l = some v ->
  ∃ u, (vs.foldlM (if mx then Builtin.max2 else Builtin.min2) xv).run P w = .ok u w /\ VRel M v u
 | [], [], x, v, xv, hl, hx, hv => by simp only [dh, Option.some.injEq] at hv; subst hv; exact ⟨xv, by simp, hx⟩
 | y :: l, u :: vs, x, v, xv, hl, hx, hv => by
  have hy := hl.2 0 y u rfl rfl
  have hl' : LRel M l vs := ⟨by have := hl.1; simpa using this, fun i v u a b => hl.2 (i + 1) v u (by simpa using a) (by simpa using b)⟩
  unfold dh at hv
  split at hv
  ·rename_i hh; cases hh
  ·rename_i k p j q l' hh
   cases hh
   rw [dU hx, dU hy]
   simp only [List.foldlM_cons]
   have e1 : ∀ c : Value, ((if mx = true then Builtin.max2 else Builtin.min2) (.int k p) (.int j q)).run P w = .ok (.int k (match (if mx = true then qc p q else qc q p) with | true => q | false => p)) w := by
    intro _
    cases mx
    ·simp only [Bool.false_eq_true, if_false, Builtin.min2, Sem.run_pure, bS]
     by_cases h : q < p <;> simp [h]
    ·simp only [if_true, Builtin.max2, Sem.run_pure, bS]
     by_cases h : p < q <;> simp [h]
   rw [Sem.run_bind, e1 (.int k p), Result.andThen_ok]
   exact qR mx hl' (.int _ _) hv
  ·cases hv
 | [], _ :: _, _, _, _, hl, _, _ => by have := hl.1; simp at this
 | _ :: _, [], _, _, _, hl, _, _ => by have := hl.1; simp at this

theorem nh (ht : TRel M tm a) (mx : Bool) {args : Array Operand} (ts : Array Nat) (ty : Nat) {v : AV} (hv : dJ tm mx args = some v) :
  ∃ u, ((if mx then Builtin.max_ else Builtin.min_) ts ty (args.map a.eval)).run P w = .ok u w /\ VRel M v u := by
 unfold dJ at hv
 split at hv
 ·rename_i x l hx
  have hl := gy ht hx
  cases hargs : args.toList.map a.eval with
  | nil => rw [hargs] at hl; have := hl.1; simp at this
  | cons y vs =>
   rw [hargs] at hl
   have hy := hl.2 0 x y rfl rfl
   have hl' : LRel M l vs := ⟨by have := hl.1; simpa using this, fun i v u a b => hl.2 (i + 1) v u (by simpa using a) (by simpa using b)⟩
   obtain ⟨u, hu, hr⟩ := qR (P := P) (w := w) mx hl' hy hv
   refine ⟨u, ?_, hr⟩
   have he : (args.map a.eval).toList = y :: vs := by rw [<- hargs]; simp
   cases mx
   ·simp only [Bool.false_eq_true, if_false] at hu ⊢
    simp only [Builtin.min_, he]
    exact hu
   ·simp only [if_true] at hu ⊢
    simp only [Builtin.max_, he]
    exact hu
 ·cases hv

end quiet
end Go.Proofs.YtfkbfnpjggkdmaaGreatDoor.Ev
