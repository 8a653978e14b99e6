/- An evaluator of closed calls in which errors are thrown and caught, part 4: all code; closed calls. -/
import Derived.Test.YtfkbfnpjggkdmaaGreatDoorCExC
import Derived.Test.YtfkbfnpjggkdmaaGreatDoorCAwJ
namespace Go.Proofs.YtfkbfnpjggkdmaaGreatDoor.Ev
open Go.RowKit
variable {J : Ctx}
section runs
variable {P : Program} {tb : Tab} {tr : Au} {cfg : XCfg}
theorem uq (H : TabOK P tb J) (hcf : CfgOK P J tr cfg) (k : Nat) (IH : ∀ j, j <= k -> rm P J tr cfg tb j) : rm P J tr cfg tb (k + 1) := by
 intro n cd tm h d r M N w0 a w Q he ht hs hd hh hQ
 have hS := IH k (Nat.le_refl k)
 have hcall := tq H hcf hS
 have he0 := he
 simp only [eV] at he
 unfold cT at he
 split at he
 ·simp only [Option.some.injEq] at he
  subst he
  exact wp_skip (hQ M a w (Inj.le_refl M) ht hs hd hh)
 ·simp only [Option.some.injEq] at he
  subst he
  exact wp_label (hQ M a w (Inj.le_refl M) ht hs hd hh)
 ·simp only [Option.some.injEq] at he
  subst he
  exact wp_ret (hQ M a w (Inj.le_refl M) ht hs hd hh)
 ·simp only [Option.some.injEq] at he
  subst he
  exact wp_exit (hQ M a w (Inj.le_refl M) ht hs hd hh)
 ·-- a region
  rename_i id ops draw
  cases draw with
  | true =>
   simp only at he
   unfold rS at he
   split at he
   ·rename_i tm1 h1 hr
    simp only [Option.some.injEq] at he
    subst he
    exact qx H hcall.ret H.mo ht hs hh hr (fun M' a' w' g1 g2 g3 g4 g5 => hQ M' a' w' g1 g2 g3 (by rw [g4]; exact hd.mono g1) g5)
   ·split at he
    ·rename_i l tm1 h1 hr
     simp only [Option.some.injEq] at he
     subst he
     exact vw H hcall H.mo ht hs hh hr (fun M' a' w' ch g1 g2 g3 g4 g5 g6 => hQ M' a' w' ch g1 g2 g3 (by rw [g4]; exact hd.mono g1) g5 g6)
    ·cases he
  | false =>
   simp only at he
   refine wp_region ?_
   have := kg (Q := Q) (n := n) H hcall (ops := ops) (rest := ops.toList) (i := 0) (fun k o hk => by rw [Nat.zero_add]; simpa using hk) ht hs hd hh he hQ
   rw [List.range_eq_range']
   simpa using this
 ·-- one behind the other
  rename_i x y
  split at he
  ·rename_i tm1 h1 d1 h2
   refine wp_seq (hS n x tm h d _ M N w0 a w _ h2 ht hs hd hh (fun M' a' w' k1 k2 k3 k4 k5 => ?_))
   exact hS n y tm1 h1 d1 r M' N w0 a' w' Q he k2 k3 k4 k5 (hQ.mono k1)
  ·rename_i hne
   refine wp_seq (hS n x tm h d r M N w0 a w _ he ht hs hd hh ?_)
   cases r with
   | go ex tm1 h1 d1 =>
    cases ex with
    | normal => exact absurd he (hne _ _ _)
    | exit i => exact fun M' a' w' k1 k2 k3 k4 k5 => hQ M' a' w' k1 k2 k3 k4 k5
    | ret => exact fun M' a' w' k1 k2 k3 k4 k5 => hQ M' a' w' k1 k2 k3 k4 k5
   | boom l tm1 h1 d1 => exact fun M' a' w' ch k1 k2 k3 k4 k5 k6 => hQ M' a' w' ch k1 k2 k3 k4 k5 k6
 ·-- if
  rename_i x y z
  split at he
  ·rename_i hx
   exact wp_cond_true (gm (eU ht hx)) (hS n y tm h d r M N w0 a w Q he ht hs hd hh hQ)
  ·rename_i hx
   exact wp_cond_false (gm (eU ht hx)) (hS n z tm h d r M N w0 a w Q he ht hs hd hh hQ)
  ·cases he
 ·-- a block
  rename_i id b
  split at he
  ·rename_i j tm1 h1 d1 hb
   split at he
   ·rename_i hj
    have hj := Nat.eq_of_beq_eq_true hj
    subst hj
    simp only [Option.some.injEq] at he
    subst he
    refine wp_block (hS n b tm h d _ M N w0 a w _ hb ht hs hd hh (fun M' a' w' k1 k2 k3 k4 k5 => ?_))
    show if j = j then Q .normal a' w' else _
    rw [if_pos rfl]
    exact hQ M' a' w' k1 k2 k3 k4 k5
   ·rename_i hj
    simp only [Option.some.injEq] at he
    subst he
    refine wp_block (hS n b tm h d _ M N w0 a w _ hb ht hs hd hh (fun M' a' w' k1 k2 k3 k4 k5 => ?_))
    show if j = id then _ else Q (.exit j) a' w'
    rw [if_neg (by intro e; subst e; simp at hj)]
    exact hQ M' a' w' k1 k2 k3 k4 k5
  ·rename_i hne
   refine wp_block (hS n b tm h d r M N w0 a w _ he ht hs hd hh ?_)
   cases r with
   | go ex tm1 h1 d1 =>
    cases ex with
    | normal => exact fun M' a' w' k1 k2 k3 k4 k5 => hQ M' a' w' k1 k2 k3 k4 k5
    | exit i => exact absurd he (hne _ _ _ _)
    | ret => exact fun M' a' w' k1 k2 k3 k4 k5 => hQ M' a' w' k1 k2 k3 k4 k5
   | boom l tm1 h1 d1 => exact fun M' a' w' ch k1 k2 k3 k4 k5 k6 => hQ M' a' w' ch k1 k2 k3 k4 k5 k6
 ·-- a loop
  rename_i b
  let G : Act -> World -> Nat -> Prop := fun a1 w1 j => j <= k /\ ∃ M1 tm1 h1 d1, M.le M1 /\ TRel M1 tm1 a1 /\ a1.tmps.size = n /\ DRel cfg M1 d1 a1.defers /\ HRel M1 N w0 h1 w1 /\
   eV cfg tb (j + 1) n (.loop b) tm1 h1 d1 = some r
  refine wp_loop (fun a1 w1 => ∃ j, G a1 w1 j) (fun a1 w1 => mu (G a1 w1))
   ⟨k, Nat.le_refl k, M, tm, h, d, Inj.le_refl M, ht, hs, hd, hh, he0⟩ ?_
  intro a1 w1 hI
  have hle := n0 hI
  generalize hj : mu (G a1 w1) = j at hle
  obtain ⟨⟨hjk, M1, tm1, h1, d1, q1, q2, q3, q4, q5, q6⟩, hmin⟩ := hle
  simp only [eV] at q6
  unfold cT at q6
  simp only at q6
  split at q6
  ·rename_i tm2 h2 d2 hb
   refine IH j hjk n b tm1 h1 d1 _ M1 N w0 a1 w1 _ hb q2 q3 q4 q5 (fun M' a' w' k1 k2 k3 k4 k5 => ?_)
   cases j with
   | zero => simp [eV] at q6
   | succ j =>
    have hG : G a' w' j := ⟨by omega, M', tm2, h2, d2, Inj.le_trans q1 k1, k2, k3, k4, k5, q6⟩
    have hI' : ∃ j, G a' w' j := ⟨j, hG⟩
    refine ⟨hI', ?_⟩
    have := (n0 hI').2 j hG
    omega
  ·rename_i hne
   refine IH j hjk n b tm1 h1 d1 r M1 N w0 a1 w1 _ q6 q2 q3 q4 q5 ?_
   cases r with
   | go ex tm2 h2 d2 =>
    cases ex with
    | normal => exact absurd q6 (hne _ _ _)
    | exit i => exact fun M' a' w' k1 k2 k3 k4 k5 => hQ M' a' w' (Inj.le_trans q1 k1) k2 k3 k4 k5
    | ret => exact fun M' a' w' k1 k2 k3 k4 k5 => hQ M' a' w' (Inj.le_trans q1 k1) k2 k3 k4 k5
   | boom l tm2 h2 d2 => exact fun M' a' w' ch k1 k2 k3 k4 k5 k6 => hQ M' a' w' ch (Inj.le_trans q1 k1) k2 k3 k4 k5 k6
 ·cases he
theorem Hq (H : TabOK P tb J) (hcf : CfgOK P J tr cfg) : ∀ k, rm P J tr cfg tb k := by
 intro k
 induction k using Nat.strongRecOn with
 | _ k ih =>
  cases k with
  | zero =>
   intro n cd tm h d r M N w0 a w Q he
   simp [eV] at he
  | succ k => exact uq H hcf k (fun j hj => ih j zy)
theorem tu (H : TabOK P tb J) (hcf : CfgOK P J tr cfg) (k : Nat) : XOK P J tr (A7 cfg tb k) := tq H hcf (Hq H hcf k)
def vD (r : Option CRes) (v : AV) : Bool :=
 match r with
 | some (.ret x _) => x.beq v
 | _ => false
theorem tv {l : List Value} (H : TabOK P tb J) (hcf : CfgOK P J tr cfg) (hJ : J.inj = lI l) {k f : Nat} {args : List AV} {v : AV} {u : Value} (hu : D3 v = some u)
  (he : vD (A7 cfg tb k f args ⟨l.length, .leaf⟩) v = true) {vs : Array Value} (hl : LRel (lI l) args vs.toList) (w : World) (hg : ∀ w', Below w.heap.size w w' -> J.good w') :
  Calls P f vs w fun e w' => e = .returned u /\ Below w.heap.size w w' := by
 unfold vD at he
 split at he
 rotate_left
 ·cases he
 rename_i x h' hx
 have hxv := oE _ _ he
 subst hxv
 have hh : HRel (J := J) (lI l) (fun k => k < w.heap.size) ⟨w, w.heap.size, hg, fun _ => False⟩ ⟨l.length, .leaf⟩ w := ⟨by show J.inj.le _; rw [hJ]; exact Inj.le_refl _, fun k hk => hk, Keeps.refl _ _, fun k hk => hk, fun b o h => by simp [bG] at h, fun b b' o o' i i' h => by simp [bG] at h,
  fun b o h => by simp [bG] at h, fun b hb => by unfold lI; rw [List.getElem?_eq_none hb], fun b hb => hb.elim⟩
 obtain ⟨_, hc⟩ := (tu H hcf k _ _ _ _ w f args vs hl hh).1 _ _ hx
 exact hc.mono fun e w' ⟨M', y, h1, h2, h3, h4⟩ => ⟨by rw [h1, wN hu h4], h3.below.below fun k hk => hk⟩
end runs
noncomputable section
def vX (l : List Oper) (k : Nat) : Bool :=
 l.zipIdx.all fun (o, i) => !(bR o.op) || Nat.beq i k || (if Nat.blt i k then ((ay l []).getD k 0).testBit i else ((ay l []).getD i 0).testBit k)
theorem Fa {l : List Oper} {k i : Nat} {o : Oper} (h : vX l k = true) (ho : l[i]? = some o) (hl : bR o.op = true) (hik : i < k) : ((ay l []).getD k 0).testBit i = true := by
 have := List.all_eq_true.1 h (o, i) (by rw [List.mem_zipIdx_iff_getElem?]; simpa using ho)
 have hb : Nat.blt i k = true := by rw [Nat.blt_eq]; exact hik
 have hn : Nat.beq i k = false := by
  cases hx : Nat.beq i k with
  | false => rfl
  | true => have := Nat.eq_of_beq_eq_true hx; omega
 simpa [hl, hb, hn] using this
theorem E9 {l : List Oper} {k i : Nat} {o : Oper} (h : vX l k = true) (ho : l[i]? = some o) (hl : bR o.op = true) (hik : k < i) : ((ay l []).getD i 0).testBit k = true := by
 have := List.all_eq_true.1 h (o, i) (by rw [List.mem_zipIdx_iff_getElem?]; simpa using ho)
 have hb : Nat.blt i k = false := by
  cases hx : Nat.blt i k with
  | false => rfl
  | true => rw [Nat.blt_eq] at hx; omega
 have hn : Nat.beq i k = false := by
  cases hx : Nat.beq i k with
  | false => rfl
  | true => have := Nat.eq_of_beq_eq_true hx; omega
 simpa [hl, hb, hn] using this
def C0 (l : List Oper) : Bool :=
 gz l && (l.zipIdx.all fun (o, j) => !(bR o.op) || l.zipIdx.all fun (x, i) => !(bR x.op) || !(Nat.blt i j) || ((ay l []).getD j 0).testBit i)
def wf (tb : Tab) (l : List Oper) (es : List Ent) : Prop := ∀ e ∈ es, e.kind = 1 -> e.v.beq e.v = true /\ (vX l e.i = false -> ∀ H, kQ tb e.tm H e.o.op = some e.v)
theorem Bw {tb : Tab} {callq : iQ} {n : Nat} {l : List Oper} {tm tm' : T AV} {h h' : AHeap} {es : List Ent} {ms : List (Nat × AHeap)} (hst : C0 l = true)
  (ht : bh tb (aD callq) n l 0 l tm h = some (es, ms, tm', h')) (hG : wf tb l es) : c7 tb (aD callq) n l tm h = some (tm', h') := by
 unfold C0 at hst
 simp only [Bool.and_eq_true] at hst
 obtain ⟨h1, h2⟩ := hst
 unfold c7
 simp only [h1]
 cases hF : fh l with
 | true => exact ju ht
 | false =>
  simp only [ht, t9 h2]
  cases hms : ms with
  | nil => rfl
  | cons p0 ms0 =>
   rw [<- hms]
   have hall : (es.all (iq tb (ay l []) (es.filterMap fun e => if e.kind = 2 then some e.i else none) ((0, h) :: ms))) = true := by
    obtain ⟨S, Hp, V, K, Rc⟩ := gN ht
    obtain ⟨hinc, hmk⟩ := mW ht
    have hS0 := Rc.s0
    have hH0 := Rc.h0
    have rec_ : ∀ e ∈ es, ∃ k o, l[k]? = some o /\ e = ⟨k, o, S k, V k, K k⟩ /\ fT tb (aD callq) l (S k) (Hp k) o = some (V k, Hp (k + 1), K k) := by
     intro e he
     obtain ⟨k, o, a1, a2⟩ := Rc.of e he
     have a3 := (Rc.step k o a1).1
     simp only [Nat.zero_add] at a2 a3
     exact ⟨k, o, a1, a2, a3⟩
    have hsame : ∀ d p, p + d <= l.length -> (∀ i, p <= i -> i < p + d -> K i ≠ 2) -> Hp (p + d) = Hp p := by
     intro d
     induction d with
     | zero => intro p _ _; rfl
     | succ d ih =>
      intro p hp hn
      have hlt : p + d < l.length := by omega
      have s1 := (Rc.step (p + d) _ (List.getElem?_eq_getElem hlt)).1
      simp only [Nat.zero_add] at s1
      have h2 : Hp (p + d + 1) = Hp (p + d) := by
       rcases bX s1 with h | h | h
       ·exact h.2.2.2
       ·exact h.2.2.2
       ·exact absurd h.1 (hn (p + d) zy zy)
      rw [show p + (d + 1) = p + d + 1 by omega, h2]
      exact ih p zy (fun i h1 h2 => hn i h1 zy)
    have hlouds : ∀ k, k < l.length -> K k = 2 -> k ∈ es.filterMap fun e => if e.kind = 2 then some e.i else none := by
     intro k hk h2
     have := Rc.mem k _ (List.getElem?_eq_getElem hk)
     simp only [Nat.zero_add] at this
     exact List.mem_filterMap.2 ⟨_, this, by simp [h2]⟩
    have hloud_of : ∀ i, i ∈ (es.filterMap fun e => if e.kind = 2 then some e.i else none) -> i < l.length /\ K i = 2 /\ ∃ o, l[i]? = some o /\ bR o.op = true := by
     intro i hi
     obtain ⟨e, he, hi⟩ := List.mem_filterMap.1 hi
     obtain ⟨k, o, a1, rfl, a3⟩ := rec_ e he
     simp only at hi
     by_cases hk2 : K k = 2
     ·rw [if_pos hk2] at hi
      simp only [Option.some.injEq] at hi
      subst hi
      refine ⟨(List.getElem?_eq_some_iff.1 a1).1, hk2, o, a1, ?_⟩
      rcases bX a3 with h | h | h
      ·omega
      ·omega
      ·exact gJ h.2.2
     ·rw [if_neg hk2] at hi; cases hi
    rw [List.all_eq_true]
    intro e he
    obtain ⟨k, o, a1, rfl, a3⟩ := rec_ e he
    have hkl := (List.getElem?_eq_some_iff.1 a1).1
    unfold iq
    rcases bX a3 with g | g | g
    ·simp only [g.1]
    ·-- quiet
     have hgood := hG _ he g.1
     simp only [g.1]
     rw [List.all_eq_true]
     rintro ⟨q, H⟩ hq
     simp only [Bool.or_eq_true, Bool.not_eq_true']
     rcases Bool.eq_false_or_eq_true (List.all (es.filterMap fun e : Ent => if e.kind = 2 then some e.i else none) fun i => (!(((ay l []).getD k 0).testBit i) || Nat.blt i q) && (!(((ay l []).getD i 0).testBit k) || Nat.ble q i)) with hc | hc
     ·right
      have hc' : ∀ i, i < l.length -> K i = 2 -> (((ay l []).getD k 0).testBit i = true -> i < q) /\ (((ay l []).getD i 0).testBit k = true -> q <= i) := by
       intro i hi h2
       have := List.all_eq_true.1 hc i (hlouds i hi h2)
       simp only [Bool.and_eq_true, Bool.or_eq_true, Bool.not_eq_true', Nat.blt_eq] at this
       refine ⟨fun hb => ?_, fun hb => ?_⟩
       ·rcases this.1 with h | h
        ·rw [hb] at h; cases h
        ·exact h
       ·rcases this.2 with h | h
        ·rw [hb] at h; cases h
        ·exact Nat.ble_eq.mp h
      have hval : kQ tb (S k) H o.op = some (V k) := by
       have hmark : (q = 0 /\ H = Hp 0) \/ ∃ i, i < l.length /\ K i = 2 /\ q = i + 1 /\ H = Hp (i + 1) := by
        rcases List.mem_cons.1 hq with hq | hq
        ·simp only [Prod.mk.injEq] at hq
         exact .inl ⟨hq.1, by rw [hq.2, hH0]⟩
        ·obtain ⟨_, e2, b1, b2, b3⟩ := hmk _ hq
         obtain ⟨i, o2, c1, rfl, c3⟩ := rec_ e2 b1
         have hil := (List.getElem?_eq_some_iff.1 c1).1
         have hm2 := Rc.mark i hil (by simpa using b2)
         simp only [Nat.zero_add] at hm2
         have := pk hinc hq hm2 (by simpa using b3)
         simp only [Prod.mk.injEq] at this
         exact .inr ⟨i, hil, by simpa using b2, this.1, this.2⟩
       cases hsu : vX l k with
       | false => exact hgood.2 hsu H
       | true =>
        have lo : ∀ i, i < l.length -> K i = 2 -> i < k -> ((ay l []).getD k 0).testBit i = true := by
         intro i hil hi2 hik
         exact Fa hsu (List.getElem?_eq_getElem hil) (by
          have := (Rc.step i _ (List.getElem?_eq_getElem hil)).1
          simp only [Nat.zero_add] at this
          rcases bX this with h | h | h
          ·omega
          ·omega
          ·exact gJ h.2.2) hik
        have hi_ : ∀ i, i < l.length -> K i = 2 -> k < i -> ((ay l []).getD i 0).testBit k = true := by
         intro i hil hi2 hik
         exact E9 hsu (List.getElem?_eq_getElem hil) (by
          have := (Rc.step i _ (List.getElem?_eq_getElem hil)).1
          simp only [Nat.zero_add] at this
          rcases bX this with h | h | h
          ·omega
          ·omega
          ·exact gJ h.2.2) hik
        have hHk : H = Hp k := by
         rcases hmark with ⟨rfl, rfl⟩ | ⟨i, hil, hi2, rfl, rfl⟩
         ·have := hsame k 0 zy (fun i h1 h2 h3 => by
           have := (hc' i zy h3).1 (lo i zy h3 zy)
           omega)
          rw [Nat.zero_add] at this
          exact this.symm
         ·have hik : i < k := by
           rcases Nat.lt_trichotomy i k with h | h | h
           ·exact h
           ·subst h; omega
           ·have := (hc' i hil hi2).2 (hi_ i hil hi2 h)
            omega
          have := hsame (k - (i + 1)) (i + 1) zy (fun i' h1 h2 h3 => by
           have := (hc' i' zy h3).1 (lo i' zy h3 zy)
           omega)
          rw [show i + 1 + (k - (i + 1)) = k by omega] at this
          exact this.symm
        rw [hHk]
        unfold kQ
        rw [mq (SubT.refl _) g.2.2.1]
      simp only [hval]
      exact hgood.1
     ·left; exact hc
    ·-- loud
     simp only [g.1]
     rw [List.all_eq_true]
     intro i hi
     obtain ⟨hil, hi2, x, hx, hxl⟩ := hloud_of i hi
     have hol : bR o.op = true := gJ g.2.2
     have hmj : (o, k) ∈ l.zipIdx := by rw [List.mem_zipIdx_iff_getElem?]; simpa using a1
     have hmi : (x, i) ∈ l.zipIdx := by rw [List.mem_zipIdx_iff_getElem?]; simpa using hx
     have := List.all_eq_true.1 h2 _ hmj
     simp only [hol, Bool.not_true, Bool.false_or] at this
     have := List.all_eq_true.1 this _ hmi
     simp only [hxl, Bool.not_true, Bool.false_or] at this
     exact this
   rw [hall]
   cases ms with
   | nil => cases hms
   | cons a b => rfl

section
variable {tb : Tab} {n : Nat} {E : Env} {s : St} {hs : af} {R : T AV -> AHeap -> Prop} {ops rest : List Oper} {d : Nat} {ty : TypeId} {pos : String} {aft : Array Edge} {t : TypeId} {i : Nat}
def WX (tb : Tab) (n : Nat) (ops : List Oper) (i : Nat) (rest : List Oper) (E : Env) (s : St) (hs : af) (R : T AV -> AHeap -> Prop) : Prop :=
 ∀ tm h, Has tm s -> HS E hs h -> ∃ es ms tm' h', bh tb (aD (Ev.callE tb)) n ops i rest tm h = some (es, ms, tm', h') /\ wf tb ops es /\ ∀ TM, SubT tm' TM -> R TM h'
theorem FU {Q} {id : Nat} {l : List Oper} (hst : C0 l = true) (h : WX tb n l 0 l E s hs (Q .normal)) : W tb n (.region id l.toArray true) E s hs Q := by
 intro tm hp ht hh
 obtain ⟨es, ms, tm1, h1, he, hG, hR⟩ := h tm hp ht hh
 have hd := Bw hst he hG
 obtain ⟨TM, g1, g2⟩ := iu (gQ tb) (SubT.refl tm) hd
 refine ⟨.normal, TM, h1, g2.step fun K hK => ?_, hR TM g1⟩
 rw [cu]
 unfold cA
 simp only [hK]
theorem WX.nil (h : End E s hs R) : WX tb n ops i [] E s hs R :=
 fun tm hp ht hh => ⟨[], [], tm, hp, rfl, fun e he => by simp at he, fun TM hT => h TM hp (ht.mono hT) hh⟩
theorem sR {tm tm1 : T AV} {h h1 : AHeap} {o : Oper} {v : AV} {k : Nat} (he : fT tb (aD (Ev.callE tb)) ops tm h o = some (v, h1, k)) (hp : bE tm n o.dst v = some tm1)
  (hq : k = 1 -> v.beq v = true /\ (vX ops i = false -> ∀ H, kQ tb tm H o.op = some v))
  (hk : ∃ es ms tm' h', bh tb (aD (Ev.callE tb)) n ops (i + 1) rest tm1 h1 = some (es, ms, tm', h') /\ wf tb ops es /\ ∀ TM, SubT tm' TM -> R TM h') :
  ∃ es ms tm' h', bh tb (aD (Ev.callE tb)) n ops i (o :: rest) tm h = some (es, ms, tm', h') /\ wf tb ops es /\ ∀ TM, SubT tm' TM -> R TM h' := by
 obtain ⟨es, ms, tm2, h2, e, hG, hR⟩ := hk
 refine ⟨_, _, tm2, h2, by unfold bh; simp only [he, hp, e]; rfl, fun x hx hx1 => ?_, hR⟩
 rcases List.mem_cons.1 hx with rfl | hx
 ·exact hq hx1
 ·exact hG x hx hx1
theorem WX.q {op : Op} {v : AV} (hs_ : vX ops i = true) (hq : QV tb s hs op v) (hb : v.beq v = true) (hd : Nat.blt d n = true) (hk : WX tb n ops (i + 1) rest E ((d, v) :: s) hs R) :
  WX tb n ops i (⟨some d, op, ty, pos, aft, none⟩ :: rest) E s hs R := by
 intro tm h ht hh
 have hv : ∀ call, cO tb call tm h op = .q (some v) := hq tm h ht hh.keep
 refine sR (v := v) (k := 1) (h1 := h) (tm1 := tm.set d v) ?_ (aO hd) (fun _ => ⟨hb, fun g => by rw [hs_] at g; cases g⟩) (hk _ _ (ht.set d v) hh)
 unfold fT
 have : aK ops tm ⟨some d, op, ty, pos, aft, none⟩ = some true := rfl
 rw [this]
 simp only [hv]
theorem lf {op : Op} {v : AV} (hq : QV tb s [] op v) (hb : v.beq v = true) (hd : Nat.blt d n = true) (hk : WX tb n ops (i + 1) rest E ((d, v) :: s) hs R) :
  WX tb n ops i (⟨some d, op, ty, pos, aft, none⟩ :: rest) E s hs R := by
 intro tm h ht hh
 have hv : ∀ H call, cO tb call tm H op = .q (some v) := fun H => hq tm H ht fun e he => by simp at he
 refine sR (v := v) (k := 1) (h1 := h) (tm1 := tm.set d v) ?_ (aO hd) (fun _ => ⟨hb, fun _ H => by unfold kQ; rw [hv]⟩) (hk _ _ (ht.set d v) hh)
 unfold fT
 have : aK ops tm ⟨some d, op, ty, pos, aft, none⟩ = some true := rfl
 rw [this]
 simp only [hv]
theorem WX.store {ox oy : Operand} {j b o q : Nat} {ob : AObj} {v : AV} {cs : List AV} {hs' : af} (hz : tb.size t = some q) (hx : oL s ox = some (.ptr b o)) (hy : oL s oy = some v) (hm : hs[j]? = some ⟨b, ob, true⟩)
  (hb : (Nat.beq v.cells.length q && Nat.ble (o + q) ob.cells.length && v.cells.all AV.isCell) = true) (hc : ct ob.cells o v.cells = cs) (hs_ : hs.set j ⟨b, ⟨ob.sz, ob.exact_, cs⟩, true⟩ = hs')
  (hk : WX tb n ops (i + 1) rest E s hs' R) (hz0 : Nat.blt 0 ob.sz = true := by rfl) : WX tb n ops i (⟨none, .store t ox oy, ty, pos, aft, none⟩ :: rest) E s hs R := by
 intro tm h ht hh
 subst hs_
 have hH := hh.put (ob' := ⟨ob.sz, ob.exact_, cs⟩) hm
 refine sR (v := .tuple []) (k := 2) (h1 := ⟨h.next, h.objs.set b ⟨ob.sz, ob.exact_, cs⟩⟩) (tm1 := tm) ?_ rfl (fun h => by cases h) (hk tm _ ht hH)
 unfold fT
 have : aK ops tm ⟨none, .store t ox oy, ty, pos, aft, none⟩ = some true := rfl
 rw [this]
 have he : cO tb (aD (Ev.callE tb)) tm h (.store t ox oy) = .l (some (.tuple [], ⟨h.next, h.objs.set b ⟨ob.sz, ob.exact_, cs⟩⟩)) := by
  show Res.l (dw tb tm h t ox oy) = _
  unfold dw
  simp only [aR ht hx, aR ht hy]
  unfold eJ
  have h1 := (hh.at_ _ (dl hm)).1
  simp only at h1
  simp only [hz, h1, hb, hc, hz0]
 simp only [he]
end

end
theorem Spec.sub {tb : Tab} {f : Nat} {args : List AV} {S : List Nat} {hs hs' : af} {Post : AV -> af -> Prop} (h : Spec tb f args S hs Post) (g : SubH hs hs') : Spec tb f args S hs' Post := fun h0 hh => h h0 (hh.sub g)
noncomputable section
def l3 (c1 c2 : il) : Prop := ∀ f a h r, c1 f a h = some r -> c2 f a h = some r
section le
variable {tb : Tab} {n : Nat} {c1 c2 : il} (hc : l3 c1 c2) {ops : List Oper}
include hc
theorem rQ {tm : T AV} {h : AHeap} {f : Operand} {args : Array Operand} {r : AV × AHeap} (e : bT tm h c1 f args = some r) : bT tm h c2 f args = some r := by
 unfold bT at e ⊢
 split at e
 ·rename_i g caps l hg hl
  try simp only [hg, hl]
  split at e
  ·rename_i hm; try simp only [hm]
   exact hc _ _ _ _ e
  ·rename_i x hm; try simp only [hm]
   exact hc _ _ _ _ e
 ·cases e
theorem Ef {tm : T AV} {h : AHeap} {op : Op} {v : AV} {h' : AHeap} (e : cO tb c1 tm h op = .l (some (v, h'))) : cO tb c2 tm h op = .l (some (v, h')) := by
 cases op with
 | call c =>
  obtain ⟨callee, args, ts⟩ := c
  cases callee with
  | value f =>
   have e : Res.l (bT tm h c1 f args) = .l (some (v, h')) := e
   simp only [Res.l.injEq] at e
   exact congrArg Res.l (rQ hc e)
  | invoke r m => exact e
  | builtin b => cases b <;> exact e
 | _ => exact e
theorem rP {tm : T AV} {h : AHeap} {o : Oper} {v : AV} {h' : AHeap} {k : Nat} (e : fT tb c1 ops tm h o = some (v, h', k)) : fT tb c2 ops tm h o = some (v, h', k) := by
 unfold fT at e ⊢
 split at e
 ·rename_i hw
  try simp only [hw]
  split at e
  ·rename_i v1 h1 hq
   rw [Ef hc hq]; exact e
  ·rename_i v1 hq
   rw [mq (SubT.refl _) hq]; exact e
  ·cases e
 ·rename_i hw; try simp only [hw]
  exact e
 ·cases e
theorem tL : ∀ {rest : List Oper} {tm tm' : T AV} {h h' : AHeap}, db tb c1 n ops rest tm h = some (tm', h') -> db tb c2 n ops rest tm h = some (tm', h')
 | [], _, _, _, _, e => e
 | o :: rest, tm, tm', h, h', e => by
  unfold db at e ⊢
  split at e
  ·rename_i v h1 k he
   rw [rP hc he]
   try simp only
   split at e
   ·rename_i tm1 hp
    try rw [hp]
    exact tL e
   ·cases e
  ·cases e
theorem o5 : ∀ {rest : List Oper} {i : Nat} {tm : T AV} {h : AHeap} {r}, bh tb c1 n ops i rest tm h = some r -> bh tb c2 n ops i rest tm h = some r
 | [], _, _, _, _, e => e
 | o :: rest, i, tm, h, r, e => by
  unfold bh at e ⊢
  split at e
  ·rename_i v h1 k he
   rw [rP hc he]
   try simp only
   split at e
   ·rename_i tm1 hp
    try rw [hp]
    try simp only
    split at e
    ·rename_i es ms t2 h2 ht
     rw [o5 ht]
     exact e
    ·cases e
   ·cases e
  ·cases e
theorem Ee {num : Nat} {tm : T AV} {h : AHeap} {o : Oper} {v : AV} {h' : AHeap} {k : Nat} (e : gG tb c1 ops num tm h o = some (v, h', k)) : gG tb c2 ops num tm h o = some (v, h', k) := by
 unfold gG at e ⊢
 split at e
 ·rename_i hm; try simp only [hm]
  exact rP hc e
 ·rename_i hm; try simp only [hm]
  exact e
theorem nk {base : Nat} : ∀ {rest : List Oper} {i : Nat} {tm : T AV} {h : AHeap} {r}, bw tb c1 n ops base i rest tm h = some r -> bw tb c2 n ops base i rest tm h = some r
 | [], _, _, _, _, e => e
 | o :: rest, i, tm, h, r, e => by
  unfold bw at e ⊢
  split at e
  ·rename_i v h1 k he
   rw [Ee hc he]
   try simp only
   split at e
   ·rename_i tm1 hp
    try rw [hp]
    try simp only
    split at e
    ·rename_i es ms t2 h2 ht
     rw [nk ht]
     exact e
    ·cases e
   ·cases e
  ·cases e
theorem vq {tm tm' : T AV} {h h' : AHeap} (e : eQ tb c1 n ops tm h = some (tm', h')) : eQ tb c2 n ops tm h = some (tm', h') := by
 unfold eQ at e ⊢
 split at e
 ·rename_i ho
  try simp only [ho]
  split at e
  ·rename_i es ms t2 h2 ht
   rw [nk hc ht]
   exact e
  ·cases e
 ·cases e
theorem zx {tm tm' : T AV} {h h' : AHeap} (e : c7 tb c1 n ops tm h = some (tm', h')) : c7 tb c2 n ops tm h = some (tm', h') := by
 unfold c7 at e ⊢
 split at e
 ·rename_i hD
  try simp only [hD]
  split at e
  ·rename_i hF; try simp only [hF]
   exact tL hc e
  ·rename_i hF
   try simp only [hF]
   split at e
   ·rename_i hW; try simp only [hW]
    exact vq hc e
   ·rename_i hW
    try simp only [hW]
    split at e
    ·rename_i es ms t2 h2 ht
     rw [o5 hc ht]
     exact e
    ·cases e
 ·cases e
end le
theorem u3 {c : gk} {c1 : il} (hle : l3 c1 (ib c)) {tb : Tab} {ops : List Oper} {tm : T AV} {h : AHeap} {o : Oper} {v : AV} {h' : AHeap} {k : Nat} (e : fT tb c1 ops tm h o = some (v, h', k)) :
  f9 c ops tm h o = none \/ f9 c ops tm h o = some (some (.ret v h')) := by
 unfold f9
 split
 ·rename_i r hv
  split
  ·rename_i hw
   right
   unfold fT at e
   rw [hw] at e
   simp only at e
   obtain ⟨dst, op, ty, pos, aft, g⟩ := o
   simp only at e hv
   unfold iC at hv
   split at hv
   rotate_left
   ·cases hv
   rename_i cl
   obtain ⟨callee, args, ts⟩ := cl
   try simp only at hv
   split at hv
   rotate_left
   ·cases hv
   rename_i f
   have e : (match Res.l (bT tm h c1 f args) with
    | .l (some (v, h')) => some (v, h', 2)
    | .q (some v) => some (v, h, 1)
    | _ => none) = some (v, h', k) := e
   cases hcv : bT tm h c1 f args with
   | none => rw [hcv] at e; cases e
   | some p =>
    obtain ⟨v1, h1⟩ := p
    rw [hcv] at e
    simp only [Option.some.injEq, Prod.mk.injEq] at e
    obtain ⟨rfl, rfl, _⟩ := e
    split at hv
    ·rename_i g caps l hg hl
     rw [ji hg hl] at hcv
     have hr := hle _ _ _ _ hcv
     unfold ib sE at hr
     unfold dS at hr
     split at hv
     ·rename_i hm
      rw [hm] at hr
      cases hv
      split at hr
      ·rename_i v2 h2 hc2
       cases hr
       rw [hc2]
      ·cases hr
     ·rename_i x hm
      rw [hm] at hr
      cases hv
      split at hr
      ·rename_i v2 h2 hc2
       cases hr
       rw [hc2]
      ·cases hr
    ·cases hv
  ·exact .inl rfl
 ·exact .inl rfl
theorem Cv {cfg : XCfg} {c1 : il} {tb : Tab} {ops : List Oper} {tm : T AV} {h : AHeap} {o : Oper} {v : AV} {h' : AHeap} {k : Nat} (e : fT tb c1 ops tm h o = some (v, h', k)) : ke cfg tm o = none := by
 unfold ke
 split
 ·rename_i cl h1 h2 h3
  exfalso
  unfold fT aK at e
  rw [h1, h3] at e
  cases e
 ·rfl
theorem kP {cfg : XCfg} {tb : Tab} {c : gk} {c1 : il} (hle : l3 c1 (ib c)) {n : Nat} {ops : List Oper} {d : Option (Nat × List AV)} {post : List Oper} : ∀ {pre : List Oper} {tm tm' : T AV} {h h' : AHeap}, db tb c1 n ops pre tm h = some (tm', h') ->
  eH cfg tb c n ops (pre ++ post) tm h d = eH cfg tb c n ops post tm' h' d
 | [], tm, tm', h, h', e => by
  simp only [db, Option.some.injEq, Prod.mk.injEq] at e
  obtain ⟨rfl, rfl⟩ := e
  rfl
 | o :: pre, tm, tm', h, h', e => by
  unfold db at e
  split at e
  ·rename_i v h1 k he
   split at e
   ·rename_i tm1 hp
    have ih := kP hle (cfg := cfg) (d := d) (post := post) e
    rw [List.cons_append]
    conv => lhs; unfold eH
    rcases u3 hle he with hn | hn
    ·rw [hn, Cv he]
     simp only [rP hle he, hp]
     exact ih
    ·rw [hn]
     simp only [hp]
     exact ih
   ·cases e
  ·cases e
theorem zC {cfg : XCfg} {tb : Tab} {c : gk} {c1 : il} (hle : l3 c1 (ib c)) {n : Nat} {ops : List Oper} {d : Option (Nat × List AV)} {rest : List Oper} {tm tm' : T AV} {h h' : AHeap} (e : db tb c1 n ops rest tm h = some (tm', h')) :
  eH cfg tb c n ops rest tm h d = some (.go .normal tm' h' d) := by
 have := kP hle (cfg := cfg) (d := d) (post := []) e
 rw [List.append_nil] at this
 rw [this]
 rfl
class Shy (cfg : XCfg) (tb : Tab) : Prop where
 shy : ∀ f args l, cfg.thr f args = some l -> ∀ K h, bQ tb (run tb K) f args h = none
theorem dM (cfg : XCfg) (tb : Tab) (K n : Nat) (c : Code) (tm : T AV) (h : AHeap) (d : Option (Nat × List AV)) : eV cfg tb (K + 1) n c tm h d = cT cfg tb (cj cfg tb (eV cfg tb K)) n (eV cfg tb K n) c tm h d := rfl
section lift
variable {cfg : XCfg} {tb : Tab} [hS : Shy cfg tb]
theorem tG {K : Nat} (ih : ∀ n c tm h ex tm' h' d, run tb K n c tm h = some (ex, tm', h') -> eV cfg tb K n c tm h d = some (.go ex tm' h' d)) {f : Nat} {args : List AV} {h : AHeap} {v : AV} {h' : AHeap}
  (e : bQ tb (run tb K) f args h = some (v, h')) : cj cfg tb (eV cfg tb K) f args h = some (.ret v h') := by
 have e0 := e
 unfold bQ at e
 unfold cj
 split at e
 ·rename_i u hu
  simp only [Option.some.injEq, Prod.mk.injEq] at e
  obtain ⟨rfl, rfl⟩ := e
  rw [hu]
 ·rename_i hu
  rw [hu]
  simp only
  cases ht : cfg.thr f args with
  | some l => rw [hS.shy f args l ht K h] at e0; cases e0
  | none =>
   simp only
   split at e
   ·rename_i fn hf
    rw [hf]
    simp only
    split at e
    ·rename_i c hb hle
     rw [hb, hle]
     simp only
     split at e
     ·cases e
     ·rename_i ex tm1 h1 hex hr
      rw [ih _ _ _ _ _ _ _ none hr]
      split at e
      ·rename_i l hl
       simp only [Option.some.injEq, Prod.mk.injEq] at e
       obtain ⟨rfl, rfl⟩ := e
       cases ex with
       | exit i => exact absurd rfl (hex i)
       | normal => show ko tb _ _ _ = _; unfold ko; rw [hl]
       | ret => show ko tb _ _ _ = _; unfold ko; rw [hl]
      ·cases e
     ·cases e
    ·cases e
   ·cases e
theorem CN : ∀ (K n : Nat) (c : Code) (tm : T AV) (h : AHeap) (ex : Ex) (tm' : T AV) (h' : AHeap) (d : Option (Nat × List AV)), run tb K n c tm h = some (ex, tm', h') -> eV cfg tb K n c tm h d = some (.go ex tm' h' d)
 | 0, n, c, tm, h, ex, tm', h', d, e => by cases e
 | K + 1, n, c, tm, h, ex, tm', h', d, e => by
  have ih := CN K
  have hle : l3 (bQ tb (run tb K)) (ib (cj cfg tb (eV cfg tb K))) := by
   intro f a hp r hr
   obtain ⟨v, h1⟩ := r
   unfold ib
   rw [tG ih hr]
   rfl
  rw [cu] at e
  rw [dM]
  cases c with
  | skip => cases e; rfl
  | label i => cases e; rfl
  | ret => cases e; rfl
  | exit i => cases e; rfl
  | region id ops draw =>
   unfold cA at e
   unfold cT
   cases draw with
   | true =>
    simp only at e ⊢
    split at e
    ·rename_i tm1 h1 hd
     cases e
     unfold rS
     rw [zx hle hd]
    ·cases e
   | false =>
    simp only at e ⊢
    split at e
    ·rename_i tm1 h1 hd
     cases e
     exact zC hle hd
    ·cases e
  | seq a b =>
   unfold cA at e
   unfold cT
   simp only at e ⊢
   split at e
   ·rename_i tm1 h1 ha
    rw [ih _ _ _ _ _ _ _ d ha]
    exact ih _ _ _ _ _ _ _ d e
   ·rename_i hn
    rw [ih _ _ _ _ _ _ _ d e]
    cases ex with
    | normal => exact absurd e (hn _ _)
    | exit i => rfl
    | ret => rfl
  | cond x a b =>
   unfold cA at e
   unfold cT
   simp only at e ⊢
   split at e
   ·rename_i hx; rw [hx]; exact ih _ _ _ _ _ _ _ d e
   ·rename_i hx; rw [hx]; exact ih _ _ _ _ _ _ _ d e
   ·cases e
  | block id b =>
   unfold cA at e
   unfold cT
   simp only at e ⊢
   split at e
   ·rename_i j tm1 h1 hb
    rw [ih _ _ _ _ _ _ _ d hb]
    simp only
    split at e
    ·rename_i hj; cases e; rw [hj]
    ·rename_i hj; cases e; rw [hj]
   ·rename_i hn
    rw [ih _ _ _ _ _ _ _ d e]
    cases ex with
    | normal => rfl
    | exit i => exact absurd e (hn _ _ _)
    | ret => rfl
  | loop b =>
   unfold cA at e
   unfold cT
   simp only at e ⊢
   split at e
   ·rename_i tm1 h1 ha
    rw [ih _ _ _ _ _ _ _ d ha]
    exact ih _ _ _ _ _ _ _ d e
   ·rename_i hn
    rw [ih _ _ _ _ _ _ _ d e]
    cases ex with
    | normal => exact absurd e (hn _ _)
    | exit i => rfl
    | ret => rfl
  | _ => cases e
theorem A8 {K f : Nat} {args : List AV} {h : AHeap} {v : AV} {h' : AHeap} (e : bQ tb (run tb K) f args h = some (v, h')) : cj cfg tb (eV cfg tb K) f args h = some (.ret v h') := tG (CN K) e
theorem A6 (K : Nat) : l3 (bQ tb (run tb K)) (ib (cj cfg tb (eV cfg tb K))) := by
 intro f a hp r hr
 obtain ⟨v, h1⟩ := r
 unfold ib
 rw [A8 hr]
 rfl
end lift
end
end Go.Proofs.YtfkbfnpjggkdmaaGreatDoor.Ev
