/- Walks over the evaluator, part 4: small things. -/
import Derived.Test.YtfkbfnpjggkdmaaGreatDoorCAwC
namespace Go.Proofs.YtfkbfnpjggkdmaaGreatDoor.Ev
open Go.RowKit
noncomputable section
variable {tb : Tab} {n : Nat} {E : Env} {s : St} {hs : af} {R : T AV -> AHeap -> Prop} {ops rest : List Oper} {d : Nat} {ty : TypeId} {pos : String} {aft : Array Edge} {t : TypeId} {k : IntKind}
theorem oc {v : AV} {c : Value} (h : nw c = some v) : oL s (.const c) = some v := h
theorem aE {ox oi : Operand} {l : List Nat} {m : Nat} (hb : Bytes l) (hu : tb.und t = some .string) (hx : oL s ox = some (.str l)) (hi : oL s oi = some (.int k ((m : Nat) : Int))) (hm : m < l.length) (hd : Nat.blt d n = true)
  (hk : ∀ c : Nat, c = l.getD m 0 -> c < 256 -> WO tb n ops rest E ((d, .int .u8 (c : Int)) :: s) hs R) : WO tb n ops (⟨some d, .index t ox oi, ty, pos, aft, none⟩ :: rest) E s hs R :=
 WO.q (sW hu hx hi hm) hd (hk _ rfl (hb.at m))
theorem lw {a b : Bool} (h : a = b) : bW [AV.bool a] = AV.bool b := by rw [h]; rfl
end
set_option maxRecDepth 100000
noncomputable section
variable {tb : Tab} {n : Nat} {E : Env} {s : St} {hs : af} {R : T AV -> AHeap -> Prop} {ops rest : List Oper} {d : Nat} {ty : TypeId} {pos : String} {aft : Array Edge} {t : TypeId} {k : IntKind}
def Own (sz : Nat) (cells : List AV) (len : Nat) (v : AV) (hp : af) : Prop :=
 (len = 0 /\ cells = [] /\ v = .nils /\ hp = []) \/ (∃ b ex, v = .slice b 0 len sz /\ hp = [⟨b, ⟨sz, ex, cells⟩, true⟩] /\ cells.length = len * sz /\ 0 < len)
theorem Own.nil (sz : Nat) : Own sz [] 0 .nils [] := .inl ⟨rfl, rfl, rfl, rfl⟩
theorem Own.length {sz : Nat} {cells : List AV} {len : Nat} {v : AV} {hp : af} (h : Own sz cells len v hp) : cells.length = len * sz := by
 rcases h with ⟨rfl, rfl, _, _⟩ | ⟨b, _, _, _, h, _⟩
 ·simp
 ·exact h
theorem Own.w {sz : Nat} {cells : List AV} {len : Nat} {v : AV} {hp : af} (h : Own sz cells len v hp) : ∀ e ∈ hp, e.w = true := by
 rcases h with ⟨_, _, _, rfl⟩ | ⟨b, _, _, rfl, _, _⟩
 ·intro e he; simp at he
 ·intro e he; simp at he; subst he; rfl
theorem Own.len {sz : Nat} {cells : List AV} {len e : Nat} {v : AV} {hp : af} (h : Own sz cells len v hp) : iN (.slice e) v = some len := by
 rcases h with ⟨rfl, _, rfl, _⟩ | ⟨b, _, rfl, _, _, _⟩ <;> rfl
theorem Own.full {sz : Nat} {cells : List AV} {len : Nat} {v : AV} {hp : af} (h : Own sz cells len v hp) (hl : 0 < len) : ∃ b ex, v = .slice b 0 len sz /\ hp = [⟨b, ⟨sz, ex, cells⟩, true⟩] := by
 rcases h with ⟨h, _, _, _⟩ | ⟨b, ex, h1, h2, _, _⟩
 ·omega
 ·exact ⟨b, ex, h1, h2⟩
theorem lV {l : List AV} {m : Nat} (h : l.length = m) : dy l 0 m = some l := by
 unfold dy
 have : Nat.ble (0 + m) l.length = true := by simp [h]
 simp only [this]
 simp [<- h]
theorem DF {ox oy : Operand} {t2 sz i b0 len b o m : Nat} {tl : List Nat} {ob : AObj} {cells : List AV} {w ex : Bool} {l : List AV} {hs' : af} (ha : AP tb t t2 = some sz) (hx : oL s ox = some (.slice b0 0 len sz)) (hy : oL s oy = some (.slice b o m sz))
  (hi : hs[i]? = some ⟨b0, ⟨sz, ex, cells⟩, true⟩) (hlen : cells.length = len * sz) (hm : ⟨b, ob, w⟩ ∈ hs)
  (hl : dy ob.cells (o * sz) (m * sz) = some l) (hn : 0 < m /\ len + m <= 1073741824) (hz : 0 < sz) (he : hs.eraseIdx i = hs') (hd : Nat.blt d n = true)
  (hk : ∀ c, WO tb n ops rest E ((d, .slice c 0 (len + m) sz) :: s) (⟨c, ⟨sz, false, cells ++ l⟩, true⟩ :: hs') R) :
  WO tb n ops (⟨some d, .call ⟨.builtin .append, #[ox, oy], (t :: t2 :: tl).toArray⟩, ty, pos, aft, none⟩ :: rest) E s hs R := by
 cases ex with
 | false => exact WO.app ha hx hy hi hlen hm hl hn hz he hd hk
 | true =>
 refine WO.l (s' := s) fun tm h ht hh => ?_
 subst he
 refine ⟨.slice h.next 0 (len + m) sz, ⟨h.next + 1, h.objs.set h.next ⟨sz, false, cells ++ l⟩⟩, tm.set d (.slice h.next 0 (len + m) sz), ?_, aO hd, ?_⟩
 ·show Res.l (cq tb tm h #[ox, oy] (t :: t2 :: tl).toArray) = _
  unfold cq
  simp only [cC, aR ht hx, aR ht hy]
  rw [fU ha (d9 (hh.at_ _ hm).1 hl)]
  unfold dp
  have e0 : Nat.beq m 0 = false := by cases m with
   | zero => omega
   | succ m => rfl
  have e1 : (Nat.beq sz sz && Nat.ble (len + m) 1073741824) = true := by simp; omega
  simp only [e0, e1]
  unfold fL
  have h1 := (hh.at_ _ (dl hi)).1
  simp only at h1
  have e2 : Nat.beq sz sz = true := by simp
  have e3 : Nat.ble ((0 + len + m) * sz) cells.length = false := by
   rw [hlen]
   have : len * sz < (0 + len + m) * sz := Nat.mul_lt_mul_of_pos_right zy hz
   cases hb : Nat.ble ((0 + len + m) * sz) (len * sz) with
   | false => rfl
   | true => have := Nat.ble_eq.mp hb; omega
  have e4 : dy cells (0 * sz) (len * sz) = some cells := by
   unfold dy
   have : Nat.ble (0 * sz + len * sz) cells.length = true := by simp [hlen]
   simp only [this]
   simp [<- hlen]
  simp only [h1, e2, e3, e4]
 ·refine hk h.next _ _ (ht.set d _) ?_
  refine (hh.new ⟨sz, false, cells ++ l⟩).sub ⟨fun e he => ?_, fun hn => ?_⟩
  ·rcases List.mem_cons.1 he with rfl | he
   ·exact List.mem_cons_self ..
   ·exact List.mem_cons_of_mem _ ((SubH.erase i).1 _ he)
  ·simp only [List.map_cons, List.nodup_cons] at hn ⊢
   refine ⟨fun hm => hn.1 ?_, (SubH.erase i).2 hn.2⟩
   obtain ⟨x, hx, hb⟩ := List.mem_map.1 hm
   exact List.mem_map.2 ⟨x, (SubH.erase i).1 _ hx, hb⟩
theorem cw {ox oy : Operand} {t2 sz len m : Nat} {tl : List Nat} {e : HE} {A hp : af} {cells new : List AV} {v : AV} (ha : AP tb t t2 = some sz) (hO : Own sz cells len v hp) (hx : oL s ox = some v) (hy : oL s oy = some (.slice e.b 0 m sz)) (hsz : e.o.cells = new)
  (hl : new.length = m * sz) (hn : 0 < m /\ len + m <= 1073741824) (hz : 0 < sz) (hs_ : hs = e :: (A ++ hp)) (hd : Nat.blt d n = true)
  (hk : ∀ v' hp', Own sz (cells ++ new) (len + m) v' hp' -> WO tb n ops rest E ((d, v') :: s) (A ++ hp') R) :
  WO tb n ops (⟨some d, .call ⟨.builtin .append, #[ox, oy], (t :: t2 :: tl).toArray⟩, ty, pos, aft, none⟩ :: rest) E s hs R := by
 subst hs_
 have hsub : dy e.o.cells (0 * sz) (m * sz) = some new := by rw [hsz, Nat.zero_mul]; exact lV hl
 rcases hO with ⟨rfl, rfl, rfl, rfl⟩ | ⟨b, ex, rfl, rfl, hc, hp0⟩
 ·refine DE (w := e.w) (ob := e.o) ha hx hy (by obtain ⟨b, o, w⟩ := e; simp) hsub ⟨hn.1, by omega⟩ hd fun c => ?_
  refine WO.subH ?_ (hk (.slice c 0 m sz) [⟨c, ⟨sz, false, new⟩, true⟩] (.inr ⟨c, false, by simp, by simp, by simp [hl], by omega⟩))
  refine SubH.trans (SubH.op (List.perm_append_comm)) ?_
  refine SubH.of_sublist ?_
  simp only [List.append_nil, List.cons_append, List.nil_append]
  exact List.Sublist.cons_cons _ (List.sublist_cons_self _ _)
 ·have hidx : (e :: (A ++ [⟨b, ⟨sz, ex, cells⟩, true⟩] : af))[A.length + 1]? = some ⟨b, ⟨sz, ex, cells⟩, true⟩ := by simp
  have hne : (e :: (A ++ [⟨b, ⟨sz, ex, cells⟩, true⟩] : af)).eraseIdx (A.length + 1) = e :: A := by
   simp [List.eraseIdx_append_of_length_le]
  refine DF (w := e.w) (ob := e.o) (i := A.length + 1) ha hx hy hidx hc (by obtain ⟨b, o, w⟩ := e; simp) hsub hn hz hne hd fun c => ?_
  refine WO.subH ?_ (hk (.slice c 0 (len + m) sz) [⟨c, ⟨sz, false, cells ++ new⟩, true⟩] (.inr ⟨c, false, rfl, rfl, by simp [hc, hl, Nat.add_mul], by omega⟩))
  refine SubH.trans (SubH.op (List.perm_append_comm)) ?_
  refine SubH.of_sublist ?_
  simp only [List.cons_append, List.nil_append]
  exact List.Sublist.cons_cons _ (List.sublist_cons_self _ _)
end
noncomputable section
theorem mW {tb : Tab} {call : il} {n : Nat} {ops : List Oper} : ∀ {rest : List Oper} {i : Nat} {tm tm' : T AV} {h h' : AHeap} {es : List Ent} {ms : List (Nat × AHeap)},
  bh tb call n ops i rest tm h = some (es, ms, tm', h') -> (ms.Pairwise fun a b => a.1 < b.1) /\ ∀ p ∈ ms, i < p.1 /\ ∃ e ∈ es, e.kind = 2 /\ p.1 = e.i + 1
 | [], i, tm, tm', h, h', es, ms, he => by
  simp only [bh, Option.some.injEq, Prod.mk.injEq] at he
  obtain ⟨rfl, rfl, rfl, rfl⟩ := he
  exact ⟨List.Pairwise.nil, fun p hp => by simp at hp⟩
 | o :: rest, i, tm, tm', h, h', es, ms, he => by
  unfold bh at he
  split at he
  ·rename_i v h1 k he1
   split at he
   ·rename_i tm1 hp
    split at he
    ·rename_i es1 ms1 tm2 h2 ht
     simp only [Option.some.injEq, Prod.mk.injEq] at he
     obtain ⟨rfl, rfl, rfl, rfl⟩ := he
     obtain ⟨g1, g2⟩ := mW ht
     by_cases h2 : k = 2
     ·rw [if_pos h2]
      refine ⟨List.Pairwise.cons (fun p hp => (g2 p hp).1) g1, fun p hp => ?_⟩
      rcases List.mem_cons.1 hp with rfl | hp
      ·exact ⟨Nat.lt_succ_self i, _, List.mem_cons_self .., h2, rfl⟩
      ·obtain ⟨a1, e, a2, a3⟩ := g2 p hp
       exact ⟨by omega, e, List.mem_cons_of_mem _ a2, a3⟩
     ·rw [if_neg h2]
      refine ⟨g1, fun p hp => ?_⟩
      obtain ⟨a1, e, a2, a3⟩ := g2 p hp
      exact ⟨by omega, e, List.mem_cons_of_mem _ a2, a3⟩
    ·cases he
   ·cases he
  ·cases he
theorem pk : ∀ {ms : List (Nat × AHeap)}, (ms.Pairwise fun a b => a.1 < b.1) -> ∀ {p q : Nat × AHeap}, p ∈ ms -> q ∈ ms -> p.1 = q.1 -> p = q
 | [], _, p, q, hp, _, _ => by simp at hp
 | a :: ms, h, p, q, hp, hq, he => by
  have h1 := (List.pairwise_cons.1 h).1
  have h2 := (List.pairwise_cons.1 h).2
  rcases List.mem_cons.1 hp with hp | hp <;> rcases List.mem_cons.1 hq with hq | hq
  ·rw [hp, hq]
  ·have := h1 _ hq; rw [<- hp] at this; omega
  ·have := h1 _ hp; rw [<- hq] at this; omega
  ·exact pk h2 hp hq he
theorem ju {tb : Tab} {call : il} {n : Nat} {ops : List Oper} : ∀ {rest : List Oper} {i : Nat} {tm tm' : T AV} {h h' : AHeap} {es : List Ent} {ms : List (Nat × AHeap)},
  bh tb call n ops i rest tm h = some (es, ms, tm', h') -> db tb call n ops rest tm h = some (tm', h')
 | [], i, tm, tm', h, h', es, ms, he => by
  simp only [bh, Option.some.injEq, Prod.mk.injEq] at he
  obtain ⟨rfl, rfl, rfl, rfl⟩ := he
  rfl
 | o :: rest, i, tm, tm', h, h', es, ms, he => by
  unfold bh at he
  unfold db
  cases h1 : fT tb call ops tm h o with
  | none => rw [h1] at he; cases he
  | some p =>
   obtain ⟨v, h3, k⟩ := p
   rw [h1] at he
   simp only at he ⊢
   cases hp : bE tm n o.dst v with
   | none => rw [hp] at he; cases he
   | some tm1 =>
    rw [hp] at he
    simp only at he ⊢
    cases ht : bh tb call n ops (i + 1) rest tm1 h3 with
    | none => rw [ht] at he; cases he
    | some q =>
     obtain ⟨es1, ms1, tm2, h4⟩ := q
     rw [ht] at he
     simp only [Option.some.injEq, Prod.mk.injEq] at he
     obtain ⟨rfl, rfl, rfl, rfl⟩ := he
     exact ju ht
def Hs (l : List Oper) (m : Nat) : Bool :=
 gz l &&
 (l.zipIdx.all fun (o, j) => !(bR o.op) || l.zipIdx.all fun (x, i) => !(bR x.op) || !(Nat.blt i j) || ((ay l []).getD j 0).testBit i) &&
 ((List.range l.length).all fun j => Nat.blt j m || (List.range j).all fun i => ((ay l []).getD j 0).testBit i)
def Dr (tb : Tab) (keep : af) (m : Nat) (es : List Ent) (ms : List (Nat × AHeap)) : Prop :=
 (∀ e ∈ es, e.kind = 1 -> e.v.beq e.v = true /\ (e.i < m -> ∀ H, dj keep H -> kQ tb e.tm H e.o.op = some e.v)) /\ ∀ p ∈ ms, p.1 <= m -> dj keep p.2
theorem pu {o : Op} (h : df o = true) : bR o = true := by
 cases o <;> first | rfl | (simp [df] at h)
theorem t9 {l : List Oper} (h2 : (l.zipIdx.all fun (o, j) => !(bR o.op) || l.zipIdx.all fun (x, i) => !(bR x.op) || !(Nat.blt i j) || ((ay l []).getD j 0).testBit i) = true) : fA l = false := by
 cases hw : fA l with
 | false => rfl
 | true =>
  exfalso
  unfold fA at hw
  simp only [List.any_eq_true, Bool.and_eq_true, Bool.not_eq_true'] at hw
  obtain ⟨⟨o, j⟩, hoj, hm, ⟨x, i⟩, hxi, ⟨⟨hne, hl⟩, hb1⟩, hb2⟩ := hw
  simp only at hm hne hl hb1 hb2
  have key : ∀ (a b : Oper) (p q : Nat), (a, p) ∈ l.zipIdx -> (b, q) ∈ l.zipIdx -> bR a.op = true -> bR b.op = true -> q < p -> ((ay l []).getD p 0).testBit q = true := by
   intro a b p q ha hb la lb hlt
   have g := List.all_eq_true.1 h2 _ ha
   simp only [la, Bool.not_true, Bool.false_or] at g
   have g := List.all_eq_true.1 g _ hb
   simp only [lb, Bool.not_true, Bool.false_or] at g
   have hbl : Nat.blt q p = true := by rw [Nat.blt_eq]; exact hlt
   simpa [hbl] using g
  have hij : i ≠ j := by rintro rfl; simp at hne
  rcases Nat.lt_or_ge i j with h | h
  ·rw [key o x j i hoj hxi (pu hm) hl h] at hb1; cases hb1
  ·rw [key x o i j hxi hoj hl (pu hm) zy] at hb2; cases hb2
theorem Eb {tb : Tab} {callq : iQ} {n m : Nat} {l : List Oper} {keep : af} {tm tm' : T AV} {h h' : AHeap} {es : List Ent} {ms : List (Nat × AHeap)} (hst : Hs l m = true) (hkeep : dj keep h)
  (ht : bh tb (aD callq) n l 0 l tm h = some (es, ms, tm', h')) (hG : Dr tb keep m es ms) : c7 tb (aD callq) n l tm h = some (tm', h') := by
 unfold Hs at hst
 simp only [Bool.and_eq_true] at hst
 obtain ⟨⟨h1, h2⟩, h3⟩ := hst
 unfold c7
 simp only [h1]
 cases hF : fh l with
 | true => exact ju ht
 | false =>
  simp only [ht, t9 h2]
  cases hms : ms with
  | nil => rfl
  | cons p0 ms0 =>
   rw [<- hms]
   have hall : (es.all (iq tb (ay l []) (es.filterMap fun e => if e.kind = 2 then some e.i else none) ((0, h) :: ms))) = true := by
    obtain ⟨S, Hp, V, K, Rc⟩ := gN ht
    obtain ⟨hinc, hmk⟩ := mW ht
    have hS0 := Rc.s0
    have hH0 := Rc.h0
    have rec_ : ∀ e ∈ es, ∃ k o, l[k]? = some o /\ e = ⟨k, o, S k, V k, K k⟩ /\ fT tb (aD callq) l (S k) (Hp k) o = some (V k, Hp (k + 1), K k) := by
     intro e he
     obtain ⟨k, o, a1, a2⟩ := Rc.of e he
     have a3 := (Rc.step k o a1).1
     simp only [Nat.zero_add] at a2 a3
     exact ⟨k, o, a1, a2, a3⟩
    have hsame : ∀ d p, p + d <= l.length -> (∀ i, p <= i -> i < p + d -> K i ≠ 2) -> Hp (p + d) = Hp p := by
     intro d
     induction d with
     | zero => intro p _ _; rfl
     | succ d ih =>
      intro p hp hn
      have hlt : p + d < l.length := by omega
      have s1 := (Rc.step (p + d) _ (List.getElem?_eq_getElem hlt)).1
      simp only [Nat.zero_add] at s1
      have h2 : Hp (p + d + 1) = Hp (p + d) := by
       rcases bX s1 with h | h | h
       ·exact h.2.2.2
       ·exact h.2.2.2
       ·exact absurd h.1 (hn (p + d) zy zy)
      rw [show p + (d + 1) = p + d + 1 by omega, h2]
      exact ih p zy (fun i h1 h2 => hn i h1 zy)
    have hlouds : ∀ k, k < l.length -> K k = 2 -> k ∈ es.filterMap fun e => if e.kind = 2 then some e.i else none := by
     intro k hk h2
     have := Rc.mem k _ (List.getElem?_eq_getElem hk)
     simp only [Nat.zero_add] at this
     exact List.mem_filterMap.2 ⟨_, this, by simp [h2]⟩
    have hloud_of : ∀ i, i ∈ (es.filterMap fun e => if e.kind = 2 then some e.i else none) -> i < l.length /\ K i = 2 /\ ∃ o, l[i]? = some o /\ bR o.op = true := by
     intro i hi
     obtain ⟨e, he, hi⟩ := List.mem_filterMap.1 hi
     obtain ⟨k, o, a1, rfl, a3⟩ := rec_ e he
     simp only at hi
     by_cases hk2 : K k = 2
     ·rw [if_pos hk2] at hi
      simp only [Option.some.injEq] at hi
      subst hi
      refine ⟨(List.getElem?_eq_some_iff.1 a1).1, hk2, o, a1, ?_⟩
      rcases bX a3 with h | h | h
      ·omega
      ·omega
      ·exact gJ h.2.2
     ·rw [if_neg hk2] at hi; cases hi
    have tail : ∀ j i, m <= j -> j < l.length -> i < j -> ((ay l []).getD j 0).testBit i = true := by
     intro j i hj hjl hij
     have := List.all_eq_true.1 h3 j (List.mem_range.2 hjl)
     simp only [Bool.or_eq_true, Nat.blt_eq] at this
     rcases this with h | h
     ·omega
     ·exact List.all_eq_true.1 h i (List.mem_range.2 hij)
    rw [List.all_eq_true]
    intro e he
    obtain ⟨k, o, a1, rfl, a3⟩ := rec_ e he
    have hkl := (List.getElem?_eq_some_iff.1 a1).1
    unfold iq
    rcases bX a3 with g | g | g
    ·simp only [g.1]
    ·-- quiet
     have hgood := hG.1 _ he g.1
     simp only [g.1]
     rw [List.all_eq_true]
     rintro ⟨q, H⟩ hq
     simp only [Bool.or_eq_true, Bool.not_eq_true']
     rcases Bool.eq_false_or_eq_true (List.all (es.filterMap fun e : Ent => if e.kind = 2 then some e.i else none) fun i => (!(((ay l []).getD k 0).testBit i) || Nat.blt i q) && (!(((ay l []).getD i 0).testBit k) || Nat.ble q i)) with hc | hc
     ·right
      have hc' : ∀ i, i < l.length -> K i = 2 -> (((ay l []).getD k 0).testBit i = true -> i < q) /\ (((ay l []).getD i 0).testBit k = true -> q <= i) := by
       intro i hi h2
       have := List.all_eq_true.1 hc i (hlouds i hi h2)
       simp only [Bool.and_eq_true, Bool.or_eq_true, Bool.not_eq_true', Nat.blt_eq] at this
       refine ⟨fun hb => ?_, fun hb => ?_⟩
       ·rcases this.1 with h | h
        ·rw [hb] at h; cases h
        ·exact h
       ·rcases this.2 with h | h
        ·rw [hb] at h; cases h
        ·exact Nat.ble_eq.mp h
      have hval : kQ tb (S k) H o.op = some (V k) := by
       have hmark : (q = 0 /\ H = Hp 0) \/ ∃ i, i < l.length /\ K i = 2 /\ q = i + 1 /\ H = Hp (i + 1) := by
        rcases List.mem_cons.1 hq with hq | hq
        ·simp only [Prod.mk.injEq] at hq
         exact .inl ⟨hq.1, by rw [hq.2, hH0]⟩
        ·obtain ⟨_, e2, b1, b2, b3⟩ := hmk _ hq
         obtain ⟨i, o2, c1, rfl, c3⟩ := rec_ e2 b1
         have hil := (List.getElem?_eq_some_iff.1 c1).1
         have hm2 := Rc.mark i hil (by simpa using b2)
         simp only [Nat.zero_add] at hm2
         have := pk hinc hq hm2 (by simpa using b3)
         simp only [Prod.mk.injEq] at this
         exact .inr ⟨i, hil, by simpa using b2, this.1, this.2⟩
       by_cases hkm : k < m
       ·refine hgood.2 hkm H ?_
        rcases hmark with ⟨rfl, rfl⟩ | ⟨i, hil, hi2, rfl, rfl⟩
        ·rw [hH0]; exact hkeep
        ·by_cases him : i + 1 <= m
         ·have hm2 := Rc.mark i hil (by simpa using hi2)
          simp only [Nat.zero_add] at hm2
          exact hG.2 _ hm2 him
         ·have := (hc' i hil hi2).2 (tail i k zy hil zy)
          omega
       ·have hHk : H = Hp k := by
         rcases hmark with ⟨rfl, rfl⟩ | ⟨i, hil, hi2, rfl, rfl⟩
         ·have := hsame k 0 zy (fun i h1 h2 h3 => by
           have := (hc' i zy h3).1 (tail k i zy hkl zy)
           omega)
          rw [Nat.zero_add] at this
          exact this.symm
         ·have hik : i < k := by
           rcases Nat.lt_trichotomy i k with h | h | h
           ·exact h
           ·subst h; omega
           ·have := (hc' i hil hi2).2 (tail i k zy hil h)
            omega
          have := hsame (k - (i + 1)) (i + 1) zy (fun i' h1 h2 h3 => by
           have := (hc' i' zy h3).1 (tail k i' zy hkl zy)
           omega)
          rw [show i + 1 + (k - (i + 1)) = k by omega] at this
          exact this.symm
        rw [hHk]
        unfold kQ
        rw [mq (SubT.refl _) g.2.2.1]
      simp only [hval]
      exact hgood.1
     ·left; exact hc
    ·-- loud
     simp only [g.1]
     rw [List.all_eq_true]
     intro i hi
     obtain ⟨hil, hi2, x, hx, hxl⟩ := hloud_of i hi
     have hol : bR o.op = true := gJ g.2.2
     have hmj : (o, k) ∈ l.zipIdx := by rw [List.mem_zipIdx_iff_getElem?]; simpa using a1
     have hmi : (x, i) ∈ l.zipIdx := by rw [List.mem_zipIdx_iff_getElem?]; simpa using hx
     have := List.all_eq_true.1 h2 _ hmj
     simp only [hol, Bool.not_true, Bool.false_or] at this
     have := List.all_eq_true.1 this _ hmi
     simp only [hxl, Bool.not_true, Bool.false_or] at this
     exact this
   rw [hall]
   cases ms with
   | nil => cases hms
   | cons a b => rfl

section
variable {tb : Tab} {n : Nat} {E : Env} {s : St} {hs : af} {R : T AV -> AHeap -> Prop} {ops rest : List Oper} {d : Nat} {ty : TypeId} {pos : String} {aft : Array Edge} {t : TypeId} {keep : af} {m i : Nat}
def WD (tb : Tab) (n : Nat) (ops : List Oper) (keep : af) (m i : Nat) (rest : List Oper) (E : Env) (s : St) (hs : af) (R : T AV -> AHeap -> Prop) : Prop :=
 ∀ tm h, Has tm s -> HS E hs h -> (i <= m -> dj keep h) -> ∃ es ms tm' h', bh tb (aD (callE tb)) n ops i rest tm h = some (es, ms, tm', h') /\ Dr tb keep m es ms /\ ∀ TM, SubT tm' TM -> R TM h'
def rd (keep hs : af) (m i : Nat) : af := match Nat.blt i m with
 | true => keep
 | false => hs
def KIn (keep hs : af) : Prop := ∀ e ∈ keep, ∃ w, ⟨e.b, e.o, w⟩ ∈ hs
theorem KIn.nil : KIn [] hs := fun e h => by simp at h
theorem KIn.cons {e : HE} {w : Bool} (h : ⟨e.b, e.o, w⟩ ∈ hs) (g : KIn keep hs) : KIn (e :: keep) hs := by
 intro x hx
 rcases List.mem_cons.1 hx with rfl | hx
 ·exact ⟨w, h⟩
 ·exact g x hx
theorem KIn.refl (hs : af) : KIn hs hs := fun e h => ⟨e.w, by obtain ⟨b, o, w⟩ := e; exact h⟩
theorem KIn.tl {e : HE} (g : KIn keep hs) : KIn keep (e :: hs) := fun x hx => let ⟨w, hm⟩ := g x hx; ⟨w, List.mem_cons_of_mem _ hm⟩
theorem KIn.keepIn {h : AHeap} (g : KIn keep hs) (hh : HS E hs h) : dj keep h := fun e he => let ⟨w, hm⟩ := g e he; (hh.at_ _ hm).1
theorem ez {Q} {id : Nat} {l : List Oper} (m : Nat) (keep : af) (hst : Hs l m = true) (hk : KIn keep hs) (h : WD tb n l keep m 0 l E s hs (Q .normal)) : W tb n (.region id l.toArray true) E s hs Q := by
 intro tm hp ht hh
 obtain ⟨es, ms, tm1, h1, he, hG, hR⟩ := h tm hp ht hh (fun _ => hk.keepIn hh)
 have hd := Eb hst (hk.keepIn hh) he hG
 obtain ⟨TM, g1, g2⟩ := iu (gQ tb) (SubT.refl tm) hd
 refine ⟨.normal, TM, h1, g2.step fun K hK => ?_, hR TM g1⟩
 rw [cu]
 unfold cA
 simp only [hK]
theorem WD.nil (h : End E s hs R) : WD tb n ops keep m i [] E s hs R :=
 fun tm hp ht hh _ => ⟨[], [], tm, hp, rfl, ⟨fun e he => by simp at he, fun p hp => by simp at hp⟩, fun TM hT => h TM hp (ht.mono hT) hh⟩
theorem n9 {tm tm1 : T AV} {h h1 : AHeap} {o : Oper} {v : AV} {k : Nat} (he : fT tb (aD (callE tb)) ops tm h o = some (v, h1, k)) (hp : bE tm n o.dst v = some tm1)
  (hq : k = 1 -> v.beq v = true /\ (i < m -> ∀ H, dj keep H -> kQ tb tm H o.op = some v)) (hl : k = 2 -> i + 1 <= m -> dj keep h1)
  (hk : ∃ es ms tm' h', bh tb (aD (callE tb)) n ops (i + 1) rest tm1 h1 = some (es, ms, tm', h') /\ Dr tb keep m es ms /\ ∀ TM, SubT tm' TM -> R TM h') :
  ∃ es ms tm' h', bh tb (aD (callE tb)) n ops i (o :: rest) tm h = some (es, ms, tm', h') /\ Dr tb keep m es ms /\ ∀ TM, SubT tm' TM -> R TM h' := by
 obtain ⟨es, ms, tm2, h2, e, hG, hR⟩ := hk
 refine ⟨_, _, tm2, h2, by unfold bh; simp only [he, hp, e]; rfl, ⟨fun x hx hx1 => ?_, fun p hp hpm => ?_⟩, hR⟩
 ·rcases List.mem_cons.1 hx with rfl | hx
  ·exact hq hx1
  ·exact hG.1 x hx hx1
 ·by_cases h2 : k = 2
  ·rw [if_pos h2] at hp
   rcases List.mem_cons.1 hp with rfl | hp
   ·exact hl h2 hpm
   ·exact hG.2 p hp hpm
  ·rw [if_neg h2] at hp
   exact hG.2 p hp hpm
theorem WD.q {op : Op} {v : AV} (hq : QV tb s (rd keep hs m i) op v) (hb : v.beq v = true) (hd : Nat.blt d n = true) (hk : WD tb n ops keep m (i + 1) rest E ((d, v) :: s) hs R) :
  WD tb n ops keep m i (⟨some d, op, ty, pos, aft, none⟩ :: rest) E s hs R := by
 intro tm h ht hh hkp
 have hv : ∀ call, cO tb call tm h op = .q (some v) := by
  by_cases hm : i < m
  ·have : rd keep hs m i = keep := by unfold rd; rw [Nat.blt_eq.mpr hm]
   rw [this] at hq
   exact hq tm h ht (hkp zy)
  ·have : rd keep hs m i = hs := by
    unfold rd
    cases hb : Nat.blt i m with
    | true => exact absurd (Nat.blt_eq.mp hb) hm
    | false => rfl
   rw [this] at hq
   exact hq tm h ht hh.keep
 refine n9 (v := v) (k := 1) (h1 := h) (tm1 := tm.set d v) ?_ (aO hd) (fun _ => ⟨hb, fun hm H hH => ?_⟩) (fun h => by cases h) (hk _ _ (ht.set d v) hh (fun h => hkp zy))
 ·unfold fT
  have : aK ops tm ⟨some d, op, ty, pos, aft, none⟩ = some true := rfl
  rw [this]
  simp only [hv]
 ·have : rd keep hs m i = keep := by unfold rd; rw [Nat.blt_eq.mpr hm]
  rw [this] at hq
  unfold kQ
  rw [hq tm H ht hH]
theorem WD.split {d : Nat} {p : Bool} (hl : lk s d = some (.bool p)) (ha : p = true -> WD tb n ops keep m i rest E ((d, .bool true) :: s) hs R)
  (hb : p = false -> WD tb n ops keep m i rest E ((d, .bool false) :: s) hs R) : WD tb n ops keep m i rest E s hs R := by
 intro tm h ht hh hkp
 have hs' : Has tm ((d, .bool p) :: s) := by
  intro k x e
  unfold lk at e
  split at e
  ·rename_i hb
   have := Nat.eq_of_beq_eq_true hb
   subst this
   rw [<- e]
   exact ht _ _ hl
  ·exact ht _ _ e
 cases p with
 | true => exact ha rfl tm h hs' hh hkp
 | false => exact hb rfl tm h hs' hh hkp
theorem WD.l {op : Op} {C : AV -> af -> Prop} (hld : ∀ tm h r, cO tb (aD (callE tb)) tm h op ≠ .q r)
  (hw : ∀ R, (∀ v hs', C v hs' -> End E ((d, v) :: s) hs' R) -> WO tb n ops [⟨some d, op, ty, pos, aft, none⟩] E s hs R)
  (hkp : ∀ v hs', C v hs' -> i + 1 <= m -> KIn keep hs') (hk : ∀ v hs', C v hs' -> WD tb n ops keep m (i + 1) rest E ((d, v) :: s) hs' R) :
  WD tb n ops keep m i (⟨some d, op, ty, pos, aft, none⟩ :: rest) E s hs R := by
 intro tm h ht hh hkp0
 obtain ⟨tm1, h1, e, hR⟩ := hw (fun tm' h' => ∃ v hs', C v hs' /\ HS E hs' h' /\ lk ((d, v) :: s) d = some v /\ tm'.get d = some v) (fun v hs' hC tm' h' ht' hh' => ⟨v, hs', hC, hh', by simp [lk], ht' d v (by simp [lk])⟩) tm h ht hh
 unfold db at e
 cases hv : fT tb (aD (callE tb)) ops tm h ⟨some d, op, ty, pos, aft, none⟩ with
 | none => rw [hv] at e; cases e
 | some p =>
  obtain ⟨v, h3, k⟩ := p
  rw [hv] at e
  simp only at e
  cases hp : bE tm n (some d) v with
  | none => rw [hp] at e; cases e
  | some tm2 =>
   rw [hp] at e
   simp only [db, Option.some.injEq, Prod.mk.injEq] at e
   obtain ⟨rfl, rfl⟩ := e
   obtain ⟨v', hs', hC, hH, _, hg⟩ := hR _ (SubT.refl _)
   have hset : tm2 = tm.set d v := by
    have hp' : (match Nat.blt d n with
     | true => some (tm.set d v)
     | false => none) = some tm2 := hp
    cases hbd : Nat.blt d n with
    | false => rw [hbd] at hp'; cases hp'
    | true => rw [hbd] at hp'; exact (Option.some.inj hp').symm
   have hvv : v' = v := by
    rw [hset, az, if_pos rfl] at hg
    exact (Option.some.inj hg).symm
   subst hvv
   have hk2 : k = 2 := by
    rcases bX hv with g | g | g
    ·have : aK ops tm ⟨some d, op, ty, pos, aft, none⟩ = some true := rfl
     rw [this] at g
     cases g.2.1
    ·exact absurd g.2.2.1 (hld _ _ _)
    ·exact g.1
   refine n9 hv hp (fun h => by omega) (fun _ hm => (hkp _ _ hC hm).keepIn hH) ?_
   rw [hset]
   exact hk v' hs' hC _ _ (ht.set d v') hH (fun hm => (hkp _ _ hC hm).keepIn hH)
theorem WD.alloc {ob : AObj} (ho : AO tb t = some ob) (hd : Nat.blt d n = true) (hkp : KIn keep hs) (hk : ∀ b, WD tb n ops keep m (i + 1) rest E ((d, .ptr b 0) :: s) (⟨b, ob, true⟩ :: hs) R) :
  WD tb n ops keep m i (⟨some d, .alloc t, ty, pos, aft, none⟩ :: rest) E s hs R :=
 WD.l (C := fun v hs' => ∃ b, v = .ptr b 0 /\ hs' = ⟨b, ob, true⟩ :: hs) (fun tm h r e => by cases e) (fun R hR => WO.alloc ho hd fun b => WO.nil (hR _ _ ⟨b, rfl, rfl⟩))
  (fun v hs' ⟨b, _, h2⟩ _ => by subst h2; exact fun e he => let ⟨w, hm⟩ := hkp e he; ⟨w, List.mem_cons_of_mem _ hm⟩) (fun v hs' ⟨b, h1, h2⟩ => by subst h1 h2; exact hk b)
theorem d5 {of : Operand} {args : List Operand} {ts : Array TypeId} {g : Nat} {caps l l' : List AV} {hsc : af} {v : AV} (hf : oL s of = some (.func g caps)) (ha : sy s args = some l) (hl : dS l caps = l')
  (hsp : Spec tb g l' [] hsc (bN v)) (hsub : SubR hsc hs) (hkp : KIn keep hs) (hd : Nat.blt d n = true) (hk : WD tb n ops keep m (i + 1) rest E ((d, v) :: s) hs R) :
  WD tb n ops keep m i (⟨some d, .call ⟨.value of, args.toArray, ts⟩, ty, pos, aft, none⟩ :: rest) E s hs R :=
 WD.l (C := fun v' hs' => v' = v /\ hs' = hs) (fun tm h r e => by cases e) (fun R hR => ak hf ha hl hsp hsub hd (WO.nil (hR _ _ ⟨rfl, rfl⟩)))
  (fun v' hs' ⟨_, h2⟩ _ => by subst h2; exact hkp) (fun v' hs' ⟨h1, h2⟩ => by subst h1 h2; exact hk)
theorem WD.bslice {q sz e : Nat} {zc cs : List AV} {l : List (Nat × Operand)} {ps : List (Nat × AV)} (hu : tb.und t = some (.slice e)) (hz : tb.size e = some sz) {z : AV} (h0 : tb.zero e = some z) (hzc : z.cells = zc) (ho : Ak s l = some ps)
  (hb : (Nat.ble (q * sz) 16777216 && Nat.beq zc.length sz && Nat.blt 0 sz) = true) (hf : cJ (fun i => some (i * sz, sz)) (iP q zc) ps = some cs) (hc : cs.all AV.isCell = true) (hd : Nat.blt d n = true) (hkp : KIn keep hs)
  (hk : ∀ b, WD tb n ops keep m (i + 1) rest E ((d, .slice b 0 q sz) :: s) (⟨b, ⟨sz, true, cs⟩, true⟩ :: hs) R) :
  WD tb n ops keep m i (⟨some d, .buildSlice t q l.toArray, ty, pos, aft, none⟩ :: rest) E s hs R :=
 WD.l (C := fun v hs' => ∃ b, v = .slice b 0 q sz /\ hs' = ⟨b, ⟨sz, true, cs⟩, true⟩ :: hs) (fun tm h r e => by cases e) (fun R hR => WO.bslice hu hz h0 hzc ho hb hf hc hd fun b => WO.nil (hR _ _ ⟨b, rfl, rfl⟩))
  (fun v hs' ⟨b, _, h2⟩ _ => by subst h2; exact fun e he => let ⟨w, hm⟩ := hkp e he; ⟨w, List.mem_cons_of_mem _ hm⟩) (fun v hs' ⟨b, h1, h2⟩ => by subst h1 h2; exact hk b)
theorem WD.store {ox oy : Operand} {j b o q : Nat} {ob : AObj} {v : AV} {cs : List AV} {hs' : af} (hz : tb.size t = some q) (hx : oL s ox = some (.ptr b o)) (hy : oL s oy = some v) (hm : hs[j]? = some ⟨b, ob, true⟩)
  (hb : (Nat.beq v.cells.length q && Nat.ble (o + q) ob.cells.length && v.cells.all AV.isCell) = true) (hc : ct ob.cells o v.cells = cs) (hs_ : hs.set j ⟨b, ⟨ob.sz, ob.exact_, cs⟩, true⟩ = hs')
  (hkp : Nat.ble (i + 1) m = true -> KIn keep hs') (hk : WD tb n ops keep m (i + 1) rest E s hs' R) (hz0 : Nat.blt 0 ob.sz = true := by rfl) : WD tb n ops keep m i (⟨none, .store t ox oy, ty, pos, aft, none⟩ :: rest) E s hs R := by
 intro tm h ht hh hkp0
 subst hs_
 have hH := hh.put (ob' := ⟨ob.sz, ob.exact_, cs⟩) hm
 refine n9 (v := .tuple []) (k := 2) (h1 := ⟨h.next, h.objs.set b ⟨ob.sz, ob.exact_, cs⟩⟩) (tm1 := tm) ?_ rfl (fun h => by cases h) (fun _ hm => (hkp (Nat.ble_eq.mpr hm)).keepIn hH) (hk tm _ ht hH (fun hm => (hkp (Nat.ble_eq.mpr hm)).keepIn hH))
 unfold fT
 have : aK ops tm ⟨none, .store t ox oy, ty, pos, aft, none⟩ = some true := rfl
 rw [this]
 have he : cO tb (aD (callE tb)) tm h (.store t ox oy) = .l (some (.tuple [], ⟨h.next, h.objs.set b ⟨ob.sz, ob.exact_, cs⟩⟩)) := by
  show Res.l (dw tb tm h t ox oy) = _
  unfold dw
  simp only [aR ht hx, aR ht hy]
  unfold eJ
  have h1 := (hh.at_ _ (dl hm)).1
  simp only at h1
  simp only [hz, h1, hb, hc, hz0]
 simp only [he]
def GY : Option TypeDesc -> Bool
 | some (.array _ _) => false
 | _ => true
theorem aX {tb : Tab} {t q : Nat} {l : List AV} (h : GY (tb.und t) = true) (hl : l.length = q) : bk tb t l = ⟨q, true, l⟩ := by
 unfold bk
 subst hl
 split
 ·rename_i hu; rw [hu] at h; cases h
 ·rfl
theorem cZ {k : IntKind} {a : Int} : (AV.int k a).beq (.int k a) = true := by simp [AV.beq, dG, dF, d6]
theorem rG {a : List Nat} : (AV.str a).beq (.str a) = true := by simp [AV.beq, dG, dF, d6]
theorem eO {a b : Nat} : (AV.ptr a b).beq (.ptr a b) = true := by simp [AV.beq, dG, dF, d6]
theorem uY {a b c e : Nat} : (AV.slice a b c e).beq (.slice a b c e) = true := by simp [AV.beq, dG, dF, d6]
end
end
end Go.Proofs.YtfkbfnpjggkdmaaGreatDoor.Ev
