/- An evaluator of closed calls, part 8: append, copy, bytes of a text. -/
import Derived.Test.YtfkbfnpjggkdmaaGreatDoorOEvG
namespace Go.Proofs.YtfkbfnpjggkdmaaGreatDoor.Ev
open Go.RowKit
variable {J : Ctx}

section loud
variable {P : Program} {tb : Tab} {M : Inj} {N : Nat → Prop} {w0 : Base J} {tm : T AV} {h : AHeap} {a : Act} {w : World}

theorem growBy_le (n : Nat) : ∀ (r c : Nat), Builtin.growBy n r c ≤ max c (n + (n + 768) / 4)
 | 0, c => by simp [Builtin.growBy]; omega
 | r + 1, c => by
  unfold Builtin.growBy
  split
  ·omega
  ·have := growBy_le n r (c + (c + 768) / 4)
   omega
theorem nextcap_le (n c : Nat) (h : c < n) : Builtin.nextslicecap n c ≤ 2 * n + 768 := by
 unfold Builtin.nextslicecap
 split
 ·omega
 ·split
  ·omega
  ·have := growBy_le n 4 c
   omega

theorem cellsOf_ok (hh : HRel M N w0 h w) {sz n : Nat} {x : AV} {xv : Value} {new : List AV} (hx : VRel M x xv) (hc : cellsOfA h.objs sz x = some (n, new)) :
  (Builtin.lenOf xv).run P w = .ok n w ∧ new.length = n * sz ∧ (∀ v ∈ new, v.isCell = true) ∧
  ∀ k, k ≤ n → ∃ us : List Value, (∀ w1 : World, w1.heap = w.heap → (Builtin.firstCells sz k xv).run P w1 = .ok us.toArray w1) ∧ LRel M (new.take (k * sz)) us := by
 unfold cellsOfA at hc
 split at hc
 ·simp only [Option.some.injEq, Prod.mk.injEq] at hc
  obtain ⟨rfl, rfl⟩ := hc
  rw [nils_iff hx]
  refine ⟨by simp [Builtin.lenOf], by simp, by simp, fun k hk => ⟨[], fun w1 _ => by simp [Builtin.firstCells], ?_⟩⟩
  simpa using LRel.nil M
 ·rename_i s
  split at hc
  ·rename_i hsz
   have hsz := Nat.eq_of_beq_eq_true hsz
   subst hsz
   simp only [Option.some.injEq, Prod.mk.injEq] at hc
   obtain ⟨rfl, rfl⟩ := hc
   obtain ⟨r, rfl, hr, hl⟩ := str_iff hx
   refine ⟨by simp [Builtin.lenOf, hl], by simp, by simp [AV.isCell], fun k hk => ⟨(r.data.toList.map fun b => .int .u8 b.toNat).take k, ?_, ?_⟩⟩
   ·intro w1 _
    simp only [Builtin.firstCells, Sem.run_pure]
    congr 1
    apply Array.ext'
    simp [List.map_take]
   ·rw [ByteArray.toList_eq] at hr
    subst hr
    refine ⟨by simp, fun i v u hv hu => ?_⟩
    simp only [Nat.mul_one, List.map_map, List.getElem?_take, List.getElem?_map] at hv hu
    split at hv
    ·rename_i hik
     rw [if_pos hik] at hu
     cases hg : r.data.toList[i]? with
     | none => rw [hg] at hv; simp at hv
     | some b =>
      rw [hg] at hv hu
      simp only [Option.map_some, Option.some.injEq, Function.comp] at hv hu
      subst hv hu
      exact .int _ _
    ·cases hv
  ·cases hc
 ·rename_i b o m z
  split at hc
  ·rename_i ob hob
   split at hc
   ·rename_i hz
    have hz := Nat.eq_of_beq_eq_true hz
    subst hz
    split at hc
    ·rename_i l hs
     simp only [Option.some.injEq, Prod.mk.injEq] at hc
     obtain ⟨rfl, rfl⟩ := hc
     obtain ⟨i, cap, p, hi, hz, hcap, hm, hp, hxe⟩ := slice_iff hx
     have hval := slice_val hx hi
     subst hxe
     obtain ⟨e1, e2, e3⟩ := sub_some hs
     have ho := hh.readAt hob hi hval
     refine ⟨by simp [Builtin.lenOf], e3, fun v hv => ho.isCells v ?_, fun k hk => ?_⟩
     ·rw [e1] at hv
      exact List.mem_of_mem_drop (List.mem_of_mem_take hv)
     ·obtain ⟨us, h1, h2, h3⟩ := ho.cells hi hs
      refine ⟨us.take (k * sz), ?_, h2.take _⟩
      have hle : k * sz ≤ m * sz := Nat.mul_le_mul_right _ hk
      intro w1 hw1
      have hcw : ∀ q, w1.cell? q = w.cell? q := fun q => by simp only [World.cell?, hw1]
      simp only [Builtin.firstCells]
      by_cases h0 : k * sz = 0
      ·rw [h0]; simp [loadCells, loadCellsFrom]
      ·have hp' : p = ⟨i.blk, i.off + o * i.sz, none⟩ := by
        rcases hp with hp | hp
        ·exact hp
        ·have : m = 0 := by omega
         subst this
         have : k = 0 := by omega
         subst this
         simp at h0
       rw [hp']
       refine run_cells (by simp; omega) (fun j u hu => ?_)
       rw [hz, hcw]
       refine h3 j u ?_
       rw [List.getElem?_take] at hu
       split at hu
       ·exact hu
       ·cases hu
    ·cases hc
   ·cases hc
  ·cases hc
 ·cases hc

theorem zeroCells_size (z : Array Value) (n : Nat) : (Builtin.zeroCells z n).size = n * z.size := by simp [Builtin.zeroCells]

theorem append_new (H : TabOK P tb J) (hh : HRel M N w0 h w) {e : Nat} {ti : TypeInfo} {z : AV} (hti : tb.tt.get e = some ti) (hz : tb.zero e = some z) (hzl : z.cells.length = ti.size) (hsz : 0 < ti.size)
  {l : List AV} {us : List Value} (hl : LRel M l us) (hc : ∀ v ∈ l, v.isCell = true) {need cap : Nat} (hlen : l.length = need * ti.size) (hcap : need ≤ cap) {zv : Value} (hzr : (zeroValue e).run P w = .ok zv w) (hzM : VRel M z zv)
  (objs : T AObj) (hh' : HRel M N w0 ⟨h.next, objs⟩ w) :
  Gives P M N w0 (do pure (.slice (some (← newRow e (us.toArray ++ Builtin.zeroCells zv.cells (cap - need)))) need cap)) w (.slice h.next 0 need ti.size) ⟨h.next + 1, objs.set h.next ⟨ti.size, false, l⟩⟩ := by
 have hzs : zv.cells.size = ti.size := by
  have := hzM.cells.1
  rw [hzl] at this
  simpa using this
 have hul : us.length = need * ti.size := by rw [hl.1, hlen]
 have htot : (us.toArray ++ Builtin.zeroCells zv.cells (cap - need)).size = cap * ti.size := by
  simp only [Array.size_append, List.size_toArray, zeroCells_size, hzs, hul]
  rw [← Nat.add_mul]
  congr 1
  omega
 obtain ⟨q1, q2⟩ := hh'.grow (Grow.alloc w (.cells (us.toArray ++ Builtin.zeroCells zv.cells (cap - need)) e)) (fun k _ => by simp) ⟨ti.size, false, l⟩ cap
  (by simp only [hlen]; exact Nat.mul_le_mul_right _ hcap) (by simp only; rw [htot]; exact Nat.le_refl _) (fun hf => by cases hf) hc
  (fun k x hx => by
   obtain ⟨y, hy, hr⟩ := hl.get hx
   refine ⟨y, ?_, hr⟩
   have hk : k < us.length := (List.getElem?_eq_some_iff.1 hy).1
   rw [Array.getElem?_append_left (by simpa using hk)]
   simpa using hy)
 refine ⟨.slice (some ⟨w.heap.size, 0, none⟩) need cap, _, _, ?_, q1, q2, ?_⟩
 ·simp [newRow]
 ·exact .slice h.next 0 need cap ⟨w.heap.size, 0, none⟩ ⟨w.heap.size, 0, cap, ti.size, undef⟩ (by simp [Inj.upd]) (by simp) hcap (.inl (by simp))


theorem notInt {d : TypeDesc} (h : isIntD d = false) : Builtin.append_.match_1 (fun _ => Bool) d (fun _ => true) (fun _ => false) = false := by
 cases d <;> first | rfl | (simp [isIntD] at h)

theorem appendA_ok (H : TabOK P tb J) (hh : HRel M N w0 h w) {ts : Array TypeId} (ty : TypeId) {args : Array Value} {t t2 : Nat} {s x v : AV} {sv xv : Value} {h' : AHeap}
  (ht0 : ts[0]? = some t) (ht1 : ts[1]? = some t2) (ha0 : args[0]? = some sv) (ha1 : args[1]? = some xv) (hs : VRel M s sv) (hx : VRel M x xv)
  (hv : appendA tb t t2 s x h = some (v, h')) : Gives P M N w0 (Builtin.append_ ts ty args) w v h' := by
 unfold appendA at hv
 split at hv
 ·rename_i e d2 hd hd2
  split at hv
  ·rename_i ti z hint hti hz
   split at hv
   ·rename_i hb
    simp only [Bool.and_eq_true, Nat.beq_eq, Nat.ble_eq, Nat.blt_eq] at hb
    obtain ⟨⟨b1, b2⟩, b3⟩ := hb
    split at hv
    ·rename_i n new hc
     obtain ⟨c1, c2, c3, c4⟩ := cellsOf_ok (P := P) hh hx hc
     obtain ⟨us, u1, u2⟩ := c4 n (Nat.le_refl n)
     rw [List.take_of_length_le (by rw [c2]; exact Nat.le_refl _)] at u2
     obtain ⟨zv, hzr, hzM, hzc⟩ := zero_ok H hz w
     obtain ⟨zv', hzr', _, _⟩ := zero_ok H hz w.drew
     have hzz : zv' = zv := by
      have e1 := hzr
      have e2 := hzr'
      unfold Tab.zero at hz
      rw [hti] at hz
      simp only [zeroValue, Sem.run_bind, run_info H hti, Result.andThen_ok] at e1 e2
      cases hq : ti.zero with
      | none => rw [hq] at e1; simp at e1
      | some q =>
       rw [hq] at e1 e2
       simp at e1 e2
       rw [← e1, ← e2]
     subst hzz
     have hint' := notInt hint
     have hsize : ∀ w : World, (sizeOf e).run P w = .ok ti.size w := fun w => by simp [sizeOf, run_info H hti]
     have hin : ∀ (base : Option Addr) (sLen sCap : Nat), sv = .slice base sLen sCap → sLen + n ≤ sCap → (Builtin.append_ ts ty args).run P w =
       ((match base with
        | some a => storeCells (a.add (sLen * ti.size)) us
        | none => pure () : Sem Unit).run P w).andThen fun _ w' => .ok (.slice base (sLen + n) sCap) w' := by
      intro base sLen sCap he hle
      subst he
      simp only [Builtin.append_, ht0, ht1, ha0, ha1, Sem.run_bind, run_und H hd, run_und H hd2, Result.andThen_ok, hsize, Sem.run_pure, hint', Bool.false_eq_true, if_false, c1, hle, if_true, u1 w rfl, Bool.not_false]
      cases base <;> simp
     have hout : ∀ (base : Option Addr) (sLen sCap : Nat) (old : List Value), sv = .slice base sLen sCap → ¬ sLen + n ≤ sCap → sLen + n ≤ 1073741824 →
       (∀ w1 : World, w1.heap = w.heap → (Builtin.firstCells ti.size sLen (.slice base sLen sCap)).run P w1 = .ok old.toArray w1) →
       ∃ cap, sLen + n ≤ cap ∧ (Builtin.append_ ts ty args).run P w = (do pure (.slice (some (← newRow e ((old ++ us).toArray ++ Builtin.zeroCells zv'.cells (cap - (sLen + n))))) (sLen + n) cap) : Sem Value).run P w.drew := by
      intro base sLen sCap old he hle hbig hold
      subst he
      refine ⟨(Question.appendCap (sLen + n) sCap e).cut (w.tape w.drawn (.appendCap (sLen + n) sCap e)), by simp only [Question.cut]; omega, ?_⟩
      have n1 : ¬ (((sLen + n : Nat) : Int) > IntKind.i64.max ∧ (False ∨ ti.bytes = 0)) := by
       simp only [IntKind.max, IntKind.signed, IntKind.bits, if_true]
       omega
      have n2 : ¬ (Builtin.nextslicecap (sLen + n) sCap * ti.bytes > 2 ^ 48) := by
       have h1 := nextcap_le (sLen + n) sCap (by omega)
       have h2 : Builtin.nextslicecap (sLen + n) sCap * ti.bytes ≤ (2 * 1073741824 + 768) * 4096 := Nat.mul_le_mul (by omega) b2
       omega
      have hf : (Question.appendCap (sLen + n) sCap e).forced = false := rfl
      simp only [Builtin.append_, ht0, ht1, ha0, ha1, Sem.run_bind, run_und H hd, run_und H hd2, Result.andThen_ok, hsize, Sem.run_pure, hint', Bool.false_eq_true, if_false, c1, hle, run_info H hti, n1, n2, run_choose, hf, run_askRoom, World.drew_eq]
      rw [hold w.drew rfl]
      simp only [Result.andThen_ok, Bool.not_false, if_true, u1 w.drew rfl, hzr']
      simp
     have hul : us.length = n * ti.size := by rw [u2.1, c2]
     unfold appendB at hv
     split at hv
     ·rename_i hn0
      have hn0 := Nat.eq_of_beq_eq_true hn0
      subst hn0
      have hus : us = [] := List.eq_nil_of_length_eq_zero (by rw [hul]; simp)
      subst hus
      split at hv
      ·simp only [Option.some.injEq, Prod.mk.injEq] at hv
       obtain ⟨rfl, rfl⟩ := hv
       refine ⟨.slice none 0 0, M, w, ?_, Inj.le_refl M, hh, .nils⟩
       rw [hin none 0 0 (nils_iff hs) (by omega)]
       simp
      ·rename_i b o len sz'
       split at hv
       ·rename_i hsz
        have hsz := Nat.eq_of_beq_eq_true hsz
        simp only [Option.some.injEq, Prod.mk.injEq] at hv
        obtain ⟨rfl, rfl⟩ := hv
        obtain ⟨i, cap, p, hi, hz1, hcap, hm, hp, he⟩ := slice_iff hs
        have hval := slice_val hs hi
        refine ⟨.slice (some p) len cap, M, w, ?_, Inj.le_refl M, hh, ?_⟩
        ·rw [hin _ len cap he (by omega)]
         simp [storeCells]
        ·rw [← hsz, ← hz1]
         exact .slice b o len cap p i hi hcap hm hp
       ·cases hv
      ·cases hv
     ·rename_i hn0
      have hn0 : n ≠ 0 := by intro e; subst e; simp at hn0
      split at hv
      ·split at hv
       ·rename_i hbig
        rw [Nat.ble_eq] at hbig
        simp only [Option.some.injEq, Prod.mk.injEq] at hv
        obtain ⟨rfl, rfl⟩ := hv
        obtain ⟨cap, hcap, hr⟩ := hout none 0 0 [] (nils_iff hs) (by omega) (by omega) (fun w1 _ => by simp [Builtin.firstCells])
        simp only [Nat.zero_add, List.nil_append] at hcap hr
        obtain ⟨u, M', w', r1, r2, r3, r4⟩ := append_new (P := P) H hh.drew hti hz b3 b1 u2 c3 (need := n) (cap := cap) c2 hcap hzr' (hzM M) h.objs hh.drew
        exact ⟨u, M', w', by rw [hr]; exact r1, r2, r3, r4⟩
       ·cases hv
      ·rename_i b o len sz'
       split at hv
       ·rename_i hbb
        simp only [Bool.and_eq_true, Nat.beq_eq, Nat.ble_eq] at hbb
        obtain ⟨hsz, hbig⟩ := hbb
        obtain ⟨i, cap, p, hi, hz1, hcap, hm, hp, he⟩ := slice_iff hs
        have hval := slice_val hs hi
        rw [hz1] at hp
        unfold appendTo at hv
        split at hv
        ·rename_i ob hob
         split at hv
         ·-- inside what is seen
          rename_i g1 g2
          have g1 := Nat.eq_of_beq_eq_true g1
          have hz0 : ob.sz ≠ 0 := by omega
          have ho := hh.cellsAt hob hi hval hz0
          have ho2 := ho
          obtain ⟨j, c, el, fr, q1, q2, q3, q4, q5, q6, q7, q8, q9⟩ := ho2
          rw [hi] at q1; cases q1
          rw [Nat.ble_eq] at g2
          simp only [Option.some.injEq, Prod.mk.injEq] at hv
          obtain ⟨rfl, rfl⟩ := hv
          have hlt : (o + len + n) * ti.size ≤ i.cap * ti.size := by
           have e1 : i.sz = ti.size := by omega
           have e2 := q5
           rw [e1] at e2
           omega
          have hle : o + len + n ≤ i.cap := Nat.le_of_mul_le_mul_right hlt b1
          have hpp : p = ⟨i.blk, i.off + o * sz', none⟩ := by
           rcases hp with h | h
           ·exact h
           ·omega
          obtain ⟨w', r1, r2⟩ := hh.store (P := P) hob hi hval hz0 u2 c3 ((o + len) * ti.size) (by rw [c2, ← Nat.add_mul]; exact g2)
          refine ⟨.slice (some p) (len + n) cap, M, w', ?_, Inj.le_refl M, r2, ?_⟩
          ·rw [hin _ len cap he (by omega)]
           have ea : p.add (len * ti.size) = ⟨i.blk, i.off + (o + len) * ti.size, none⟩ := by rw [hpp, add_none, hsz, Nat.add_mul, Nat.add_assoc]
           simp only [ea]
           rw [r1]
           rfl
          ·have : i.sz = ti.size := by omega
           rw [← this]
           exact .slice b o (len + n) cap p i hi hcap (by omega) (by rw [hz1]; exact hp)
         ·rename_i g1 g2
          have g1 := Nat.eq_of_beq_eq_true g1
          have hz0 : ob.sz ≠ 0 := by omega
          have ho := hh.cellsAt hob hi hval hz0
          have ho2 := ho
          obtain ⟨j, c, el, fr, q1, q2, q3, q4, q5, q6, q7, q8, q9⟩ := ho2
          rw [hi] at q1; cases q1
          have g2 : ¬ (o + len + n) * ti.size ≤ ob.cells.length := by
           intro hle
           rw [← Nat.ble_eq] at hle
           rw [hle] at g2
           cases g2
          split at hv
          ·rename_i old hold
           have hiz : i.sz = ti.size := by omega
           have hcs : cellsOfA h.objs ti.size (.slice b o len sz') = some (len, old) := by
            have : Nat.beq ti.size sz' = true := by rw [hsz]; exact Nat.beq_refl _
            simp only [cellsOfA, hob, this, hold]
           obtain ⟨d1, d2', d3, d4⟩ := cellsOf_ok (P := P) hh hs hcs
           obtain ⟨olds, o1, o2⟩ := d4 len (Nat.le_refl len)
           rw [List.take_of_length_le (by rw [d2']; exact Nat.le_refl _)] at o2
           have hall := o2.append u2
           have hallc : ∀ v ∈ old ++ new, v.isCell = true := by
            intro v hv
            rcases List.mem_append.1 hv with h | h
            ·exact d3 v h
            ·exact c3 v h
           have halll : (old ++ new).length = (len + n) * ti.size := by rw [List.length_append, d2', c2, Nat.add_mul]
           have tonew : ¬ len + n ≤ cap → ∀ objs, HRel M N w0 ⟨h.next, objs⟩ w →
             Gives P M N w0 (Builtin.append_ ts ty args) w (.slice h.next 0 (len + n) ti.size) ⟨h.next + 1, objs.set h.next ⟨ti.size, false, old ++ new⟩⟩ := by
            intro hnot objs hob'
            obtain ⟨cap', hcap', hr⟩ := hout _ len cap olds he hnot hbig (by intro w1 hw1; rw [← he]; exact o1 w1 hw1)
            obtain ⟨u, M', w', r1, r2, r3, r4⟩ := append_new (P := P) H hh.drew hti hz b3 b1 hall hallc (need := len + n) (cap := cap') halll hcap' hzr' (hzM M) objs hob'.drew
            exact ⟨u, M', w', by rw [hr]; exact r1, r2, r3, r4⟩
           split at hv
           ·rename_i hex
            simp only [Option.some.injEq, Prod.mk.injEq] at hv
            obtain ⟨rfl, rfl⟩ := hv
            refine tonew ?_ h.objs hh
            intro hle
            have h7 := q7 hex
            refine g2 ?_
            rw [h7, hiz]
            exact Nat.mul_le_mul_right _ (by omega)
           ·simp only [Option.some.injEq, Prod.mk.injEq] at hv
            obtain ⟨rfl, rfl⟩ := hv
            by_cases hle : len + n ≤ cap
            ·have hpp : p = ⟨i.blk, i.off + o * sz', none⟩ := by
              rcases hp with h | h
              ·exact h
              ·omega
             have hroom : i.off + (o + len) * ti.size + 0 + us.length ≤ c.size := by
              rw [hul, Nat.add_zero, Nat.add_assoc, ← Nat.add_mul]
              have : (o + len + n) * ti.size ≤ i.cap * i.sz := by rw [hiz]; exact Nat.mul_le_mul_right _ (by omega)
              omega
             obtain ⟨w', c', r1, r2, r3, r4⟩ := store_cells P i.blk (i.off + (o + len) * ti.size) el fr us 0 c w q2 q8 hroom (all_one u2 c3)
             obtain ⟨s1, s2⟩ := hh.move hob hi hval hz0 q2 r2 r3 (l := old ++ new) (o := o) (cap := cap) hcap (by rw [halll, hiz]; exact Nat.mul_le_mul_right _ hle) hallc
              (fun k v hv => by
               rw [r4]
               rw [hiz]
               obtain ⟨_, hs2, hs3⟩ := sub_some hold
               by_cases hk : k < old.length
               ·rw [List.getElem?_append_left hk] at hv
                have hk2 : k < len * ti.size := by rw [d2'] at hk; exact hk
                have hn1 : ¬ (i.off + (o + len) * ti.size + 0 ≤ i.off + o * ti.size + k ∧ i.off + o * ti.size + k < i.off + (o + len) * ti.size + 0 + us.length) := by
                 rw [Nat.add_mul]; omega
                rw [if_neg hn1]
                have hv2 : ob.cells[o * ti.size + k]? = some v := by
                 rw [← hv]
                 exact (sub_get hold hk2).symm
                obtain ⟨_, u, hu, hr⟩ := q9 _ _ hv2
                exact ⟨u, by rw [Nat.add_assoc]; exact hu, hr⟩
               ·rw [List.getElem?_append_right (by omega)] at hv
                have hk3 : k - old.length < new.length := (List.getElem?_eq_some_iff.1 hv).1
                have hp1 : i.off + (o + len) * ti.size + 0 ≤ i.off + o * ti.size + k ∧ i.off + o * ti.size + k < i.off + (o + len) * ti.size + 0 + us.length := by
                 rw [Nat.add_mul, hul]
                 rw [c2] at hk3
                 omega
                rw [if_pos hp1]
                have ek : i.off + o * ti.size + k - (i.off + (o + len) * ti.size + 0) = k - old.length := by
                 rw [Nat.add_mul]; omega
                rw [ek]
                exact u2.get hv)
             rw [hiz] at s1 s2
             refine ⟨.slice (some p) (len + n) cap, _, w', ?_, s1, s2, ?_⟩
             ·rw [hin _ len cap he hle]
              have ea : p.add (len * ti.size) = ⟨i.blk, i.off + (o + len) * ti.size, none⟩ := by rw [hpp, add_none, hsz, Nat.add_mul, Nat.add_assoc]
              simp only [ea]
              rw [r1]
              rfl
             ·have := VRel.slice (M := M.upd h.next ⟨i.blk, i.off + o * ti.size, cap, ti.size, undef⟩) h.next 0 (len + n) cap p ⟨i.blk, i.off + o * ti.size, cap, ti.size, undef⟩ (by simp [Inj.upd]) (by simp) hle
               (.inl (by rw [hpp, hsz]; simp))
              simpa using this
            ·exact tonew hle (h.objs.del b) (hh.del b)
          ·cases hv
         ·cases hv
        ·cases hv
       ·cases hv
      ·cases hv
    ·cases hv
   ·cases hv
  ·cases hv
 ·cases hv

theorem copyA_ok (H : TabOK P tb J) (hh : HRel M N w0 h w) {ts : Array TypeId} (ty : TypeId) {args : Array Value} {t : Nat} {d x v : AV} {dv xv : Value} {h' : AHeap}
  (ht0 : ts[0]? = some t) (ha0 : args[0]? = some dv) (ha1 : args[1]? = some xv) (hd : VRel M d dv) (hx : VRel M x xv)
  (hv : copyA tb t d x h = some (v, h')) : Gives P M N w0 (Builtin.copy_ ts ty args) w v h' := by
 unfold copyA at hv
 split at hv
 ·rename_i e hdt
  split at hv
  ·rename_i sz hsz
   split at hv
   ·split at hv
    ·rename_i r hc
     obtain ⟨n, new⟩ := r
     simp only [Option.some.injEq, Prod.mk.injEq] at hv
     obtain ⟨rfl, rfl⟩ := hv
     obtain ⟨c1, c2, c3, c4⟩ := cellsOf_ok (P := P) hh hx hc
     obtain ⟨us, u1, u2⟩ := c4 0 (Nat.zero_le _)
     rw [nils_iff hd] at ha0
     refine ⟨.int .i64 0, M, w, ?_, Inj.le_refl M, hh, .int _ _⟩
     have hmin : Nat.min n 0 = 0 := Nat.min_zero n
     simp only [Builtin.copy_, ht0, ha0, ha1, Sem.run_bind, run_und H hdt, Result.andThen_ok, c1, run_size H hsz, hmin, u1 w rfl, Sem.run_pure, goInt]
     rfl
    ·cases hv
   ·rename_i b o len sz'
    split at hv
    ·rename_i hz
     have hz := Nat.eq_of_beq_eq_true hz
     obtain ⟨i, cap, p, hi, hz1, hcap, hm, hp, he⟩ := slice_iff hd
     have hval := slice_val hd hi
     rw [hz1] at hp
     unfold copyTo at hv
     split at hv
     ·rename_i ob n cs hob hc
      obtain ⟨c1, c2, c3, c4⟩ := cellsOf_ok (P := P) hh hx hc
      split at hv
      ·rename_i g1 g2
       simp only [Bool.and_eq_true, Nat.beq_eq, Nat.blt_eq] at g1
       obtain ⟨g1, g0⟩ := g1
       rw [Nat.ble_eq] at g2
       simp only [Option.some.injEq, Prod.mk.injEq] at hv
       obtain ⟨rfl, rfl⟩ := hv
       obtain ⟨us, u1, u2⟩ := c4 (min n len) (Nat.min_le_left _ _)
       have hlen : (cs.take (min n len * sz)).length = min n len * sz := by
        rw [List.length_take, c2]
        exact Nat.min_eq_left (Nat.mul_le_mul_right _ (Nat.min_le_left _ _))
       have hroom : o * sz + (cs.take (min n len * sz)).length ≤ ob.cells.length := by
        rw [hlen, ← Nat.add_mul]
        exact Nat.le_trans (Nat.mul_le_mul_right _ (by have := Nat.min_le_right n len; omega)) g2
       obtain ⟨w', r1, r2⟩ := hh.store (P := P) hob hi hval (by omega) u2 (fun v hv => c3 v (List.mem_of_mem_take hv)) (o * sz) hroom
       refine ⟨.int .i64 (min n len : Nat), M, w', ?_, Inj.le_refl M, r2, .int _ _⟩
       have hst : (storeCells p us).run P w = .ok () w' := by
        rcases hp with hp | hp
        ·rw [hp, hz]; exact r1
        ·have h0 : min n len = 0 := by omega
         have hus : us = [] := List.eq_nil_of_length_eq_zero (by rw [u2.1, hlen, h0]; simp)
         subst hus
         simp only [storeCells, Sem.run_pure] at r1 ⊢
         exact r1
       rw [he] at ha0
       simp only [Builtin.copy_, ht0, ha0, ha1, Sem.run_bind, run_und H hdt, Result.andThen_ok, c1, run_size H hsz]
       have hmin : Nat.min n len = min n len := rfl
       rw [hmin, u1 w rfl]
       simp only [Result.andThen_ok, Sem.run_bind, hst, Sem.run_pure, goInt]
      ·cases hv
     ·cases hv
    ·cases hv
   ·cases hv
  ·cases hv
 ·cases hv

theorem toBytes_ok (hh : HRel M N w0 h w) (e : Nat) {s : List Nat} {r : ByteArray} (hs : r.toList.map UInt8.toNat = s) :
  Gives P M N w0 (Conv.stringToBytes e r) w (.slice h.next 0 s.length 1) ⟨h.next + 1, h.objs.set h.next ⟨1, false, s.map fun c => .int .u8 (.ofNat c)⟩⟩ := by
 have hl : r.size = s.length := by rw [← hs, ByteArray.toList_eq]; simp
 have hf : (Question.appendCap r.size 0 e).forced = false := rfl
 generalize hcap : (Question.appendCap r.size 0 e).cut (w.tape w.drawn (.appendCap r.size 0 e)) = cap
 have hle : r.size ≤ cap := by rw [← hcap]; simp only [Question.cut]; omega
 generalize hc : (r.data.map fun b => Value.int .u8 b.toNat) ++ Array.replicate (cap - r.size) (.int .u8 0) = c
 have hcs : c.size = cap := by rw [← hc]; simp; omega
 have g : Grow w.drew ((w.drew.alloc (.cells c e)).freeze ⟨w.drew.heap.size, c.size, none⟩ 1) (.cells c e (c.size, c.size + 1)) := by
  refine ⟨rfl, rfl, rfl, by simp [World.freeze], fun k hk => ?_, ?_⟩
  ·simp only [World.freeze, Nat.one_ne_zero, if_false, Array.getElem?_modify]
   rw [if_neg (by omega)]
   exact Below.heap_alloc _ _ _ hk
  ·simp only [World.freeze, Nat.one_ne_zero, if_false, Array.getElem?_modify, if_true]
   rw [(Grow.alloc w.drew (.cells c e)).new]
   simp
 obtain ⟨q1, q2⟩ := hh.drew.grow g (fun k hk => by simp only; omega) ⟨1, false, s.map fun c => .int .u8 (.ofNat c)⟩ cap (by simp; omega) (by simp only [Nat.mul_one]; omega) (fun h => by cases h)
  (by simp [AV.isCell]) (fun k v hv => by
   simp only [List.getElem?_map] at hv
   cases hk : s[k]? with
   | none => rw [hk] at hv; simp at hv
   | some b =>
    rw [hk] at hv
    simp only [Option.map_some, Option.some.injEq] at hv
    subst hv
    rw [← hs, ByteArray.toList_eq] at hk
    simp only [List.getElem?_map] at hk
    cases hq : r.data.toList[k]? with
    | none => rw [hq] at hk; simp at hk
    | some y =>
     rw [hq] at hk
     simp only [Option.map_some, Option.some.injEq] at hk
     subst hk
     refine ⟨.int .u8 y.toNat, ?_, .int _ _⟩
     have hlt : k < r.data.toList.length := (List.getElem?_eq_some_iff.1 hq).1
     rw [← hc, Array.getElem?_append_left (by simpa using hlt)]
     have : r.data[k]? = some y := by simpa using hq
     simp [this])
 refine ⟨.slice (some ⟨w.heap.size, 0, none⟩) r.size cap, _, _, ?_, q1, q2, ?_⟩
 ·simp only [Conv.stringToBytes, Sem.run_bind, run_choose, hf, Bool.false_eq_true, if_false, hcap, Result.andThen_ok, World.drew_eq, hc, newRow, run_newObj, World.alloc_eq, Sem.run_pure, markStringish, run_shape]
  have hsh : (w.drew.alloc (.cells c e)).shape? w.drew.heap.size = some (e, c.size) := by
   simp only [World.shape?]
   rw [(Grow.alloc w.drew (.cells c e)).new]
  simp only [hsh, run_freeze, Result.andThen_ok]
  rfl
 ·rw [hl]
  have := VRel.slice (M := M.upd h.next ⟨w.drew.heap.size, 0, cap, 1, undef⟩) h.next 0 s.length cap ⟨w.drew.heap.size, 0, none⟩ ⟨w.drew.heap.size, 0, cap, 1, undef⟩ (by simp [Inj.upd]) (by simp) (by omega) (.inl (by simp))
  exact this
end loud
end Go.Proofs.YtfkbfnpjggkdmaaGreatDoor.Ev
