/- Walks over the evaluator, part 3: memory, calls, and what is said of a function. -/
import Derived.Test.YtfkbfnpjggkdmaaGreatDoorCAwB
namespace Go.Proofs.YtfkbfnpjggkdmaaGreatDoor.Ev
open Go.RowKit
noncomputable section
variable {tb : Tab} {n : Nat} {E : Env} {s : St} {hs : af} {R : T AV -> AHeap -> Prop} {ops rest : List Oper} {d : Nat} {ty : TypeId} {pos : String} {aft : Array Edge} {t : TypeId}

theorem dl {hs : af} {i : Nat} {e : HE} (h : hs[i]? = some e) : e ∈ hs := List.mem_of_getElem? h
theorem px {α : Type} {l : List α} (h : l.Nodup) {i j : Nat} {x : α} (hi : l[i]? = some x) (hj : l[j]? = some x) : i = j := by
 obtain ⟨hi', ei⟩ := List.getElem?_eq_some_iff.1 hi
 obtain ⟨hj', ej⟩ := List.getElem?_eq_some_iff.1 hj
 rcases Nat.lt_trichotomy i j with hlt | rfl | hlt
 ·exact absurd (ei.trans ej.symm) (List.pairwise_iff_getElem.1 h i j hi' hj' hlt)
 ·rfl
 ·exact absurd (ej.trans ei.symm) (List.pairwise_iff_getElem.1 h j i hj' hi' hlt)
theorem HS.key {h : AHeap} (hh : HS E hs h) {i j : Nat} {e e' : HE} (hi : hs[i]? = some e) (hj : hs[j]? = some e') (hb : e.b = e'.b) : i = j :=
 px hh.nd (x := e.b) (by simp [hi]) (by simp [hj, hb])

theorem qO {objs : T AObj} {b o : Nat} {ob : AObj} {v : AV} (hb : objs.get b = some ob) (ha : tb.isAgg t = some false) (hc : ob.cells[o]? = some v) : ns tb objs t b o = some v := by
 unfold ns; simp only [hb, ha, hc]
theorem qN {objs : T AObj} {b o m : Nat} {ob : AObj} {l : List AV} (hb : objs.get b = some ob) (ha : tb.isAgg t = some true) (hz : tb.size t = some m) (hc : dy ob.cells o m = some l) : ns tb objs t b o = some (.agg l) := by
 unfold ns; simp only [hb, ha, hz, hc]
theorem ag {ox : Operand} {b o : Nat} {ob : AObj} {w : Bool} {v : AV} (hx : oL s ox = some (.ptr b o)) (hm : ⟨b, ob, w⟩ ∈ hs) (ha : tb.isAgg t = some false) (hc : ob.cells[o]? = some v) : QV tb s hs (.load t ox) (v) := by
 intro tm h ht hh call
 show Res.q (iK tb tm h.objs t ox) = _
 unfold iK
 simp only [aR ht hx, qO (hh _ hm) ha hc]
theorem ax {ox : Operand} {b o m : Nat} {ob : AObj} {w : Bool} {l : List AV} (hx : oL s ox = some (.ptr b o)) (hm : ⟨b, ob, w⟩ ∈ hs) (ha : tb.isAgg t = some true) (hz : tb.size t = some m) (hc : dy ob.cells o m = some l) : QV tb s hs (.load t ox) (.agg l) := by
 intro tm h ht hh call
 show Res.q (iK tb tm h.objs t ox) = _
 unfold iK
 simp only [aR ht hx, qN (hh _ hm) ha hz hc]
theorem bj {ox oi : Operand} {b o len sz m e : Nat} {k : IntKind} (hu : tb.und t = some (.slice e)) (hz : tb.size e = some sz) (hx : oL s ox = some (.slice b o len sz)) (hi : oL s oi = some (.int k ((m : Nat) : Int))) (hm : m < len) : QV tb s hs (.indexAddr t ox oi) (.ptr b ((o + m) * sz)) := by
 intro tm h ht hh call
 show Res.q (dr tb tm t ox oi) = _
 unfold dr
 have : fj (aS tm oi) = some m := by rw [aR ht hi]; rfl
 have h1 : (Nat.beq sz sz && Nat.blt m len) = true := by simp [hm]
 simp only [hu, aR ht hx, this, hz, h1]
theorem ao {ox oi : Operand} {b o len sz m e o' : Nat} {k : IntKind} (hu : tb.und t = some (.slice e)) (hz : tb.size e = some sz) (hx : oL s ox = some (.slice b o len sz)) (hi : oL s oi = some (.int k ((m : Nat) : Int))) (hm : m < len) (ho : (o + m) * sz = o') :
  QV tb s hs (.indexAddr t ox oi) (.ptr b o') := by
 subst ho
 exact bj hu hz hx hi hm
theorem dZ {ox : Operand} {lo hi : Option Operand} {b o len sz m j e : Nat} (hu : tb.und t = some (.slice e)) (hz : tb.size e = some sz) (hx : oL s ox = some (.slice b o len sz)) (hb : bL s len lo hi = some (m, j)) (hm : m <= j /\ j <= len) : QV tb s hs (.slice t ox lo hi none) (.slice b (o + m) (j - m) sz) := by
 intro tm h ht hh call
 show Res.q (eR tb tm h.objs t ox lo hi none) = _
 unfold eR
 simp only [hu, aR ht hx]
 unfold ii
 rw [AM ht hb hm]
 have : Nat.beq sz sz = true := by simp
 simp only [hz, this]

theorem HS.put {h : AHeap} (hh : HS E hs h) {i b : Nat} {ob ob' : AObj} (hi : hs[i]? = some ⟨b, ob, true⟩) : HS E (hs.set i ⟨b, ob', true⟩) ⟨h.next, h.objs.set b ob'⟩ := by
 have hb := hh.at_ _ (dl hi)
 simp only at hb
 have hil := (List.getElem?_eq_some_iff.1 hi).1
 refine ⟨fun e he => ?_, ?_, hh.fr.1, fun c hc hcS => ?_⟩
 ·obtain ⟨j, hj⟩ := List.getElem?_of_mem he
  rw [List.getElem?_set] at hj
  by_cases hij : i = j
  ·subst hij
   rw [if_pos rfl, if_pos hil] at hj
   simp only [Option.some.injEq] at hj
   subst hj
   simp only [az, if_pos]
   exact ⟨trivial, hb.2.1, hb.2.2⟩
  ·rw [if_neg hij] at hj
   have := hh.at_ e (dl hj)
   rw [az]
   have hne : e.b ≠ b := fun hbb => hij (hh.key hi hj (by simpa using hbb.symm))
   rw [if_neg hne]
   exact this
 ·have : (hs.set i ⟨b, ob', true⟩).map (·.b) = hs.map (·.b) := by
   apply List.ext_getElem?
   intro j
   simp only [List.getElem?_map, List.getElem?_set]
   by_cases hij : i = j
   ·subst hij
    rw [if_pos rfl, if_pos hil, hi]
    rfl
   ·rw [if_neg hij]
  rw [this]
  exact hh.nd
 ·rw [az]
  have hne : c ≠ b := by
   rintro rfl
   rcases hb.2.2 trivial with g | g
   ·omega
   ·exact hcS g
  rw [if_neg hne]
  exact hh.fr.2 c hc hcS
theorem HS.new {h : AHeap} (hh : HS E hs h) (ob : AObj) : HS E (⟨h.next, ob, true⟩ :: hs) ⟨h.next + 1, h.objs.set h.next ob⟩ := by
 refine ⟨fun e he => ?_, ?_, ?_, fun c hc hcS => ?_⟩
 ·rcases List.mem_cons.1 he with rfl | he
  ·refine ⟨by simp [az], Nat.lt_succ_self _, fun _ => .inl hh.fr.1⟩
  ·obtain ⟨a1, a2, a3⟩ := hh.at_ e he
   refine ⟨?_, Nat.lt_succ_of_lt a2, a3⟩
   rw [az, if_neg zy]
   exact a1
 ·simp only [List.map_cons, List.nodup_cons]
  refine ⟨fun hm => ?_, hh.nd⟩
  obtain ⟨e, he, hb⟩ := List.mem_map.1 hm
  have := (hh.at_ e he).2.1
  omega
 ·have := hh.fr.1
  show E.h0.next <= h.next + 1
  omega
 ·have := hh.fr.1
  rw [az, if_neg zy]
  exact hh.fr.2 c hc hcS
theorem HS.del {h : AHeap} (hh : HS E hs h) {i b : Nat} {ob : AObj} (hi : hs[i]? = some ⟨b, ob, true⟩) : HS E (hs.eraseIdx i) ⟨h.next, h.objs.del b⟩ := by
 have hb := hh.at_ _ (dl hi)
 simp only at hb
 refine ⟨fun e he => ?_, (SubH.erase i).2 hh.nd, hh.fr.1, fun c hc hcS => ?_⟩
 ·obtain ⟨j, hj⟩ := List.getElem?_of_mem he
  rw [List.getElem?_eraseIdx] at hj
  have : ∃ j', j' ≠ i /\ hs[j']? = some e := by
   split at hj
   ·exact ⟨j, by omega, hj⟩
   ·exact ⟨j + 1, by omega, hj⟩
  obtain ⟨j', hne, hj'⟩ := this
  have a := hh.at_ e (dl hj')
  rw [iR]
  have : e.b ≠ b := fun hbb => hne (hh.key hj' hi (by simpa using hbb))
  rw [if_neg this]
  exact a
 ·rw [iR]
  have hne : c ≠ b := by
   rintro rfl
   rcases hb.2.2 trivial with g | g
   ·omega
   ·exact hcS g
  rw [if_neg hne]
  exact hh.fr.2 c hc hcS
theorem WO.store {ox oy : Operand} {i b o m : Nat} {ob : AObj} {v : AV} {cs : List AV} {hs' : af} (hz : tb.size t = some m) (hx : oL s ox = some (.ptr b o)) (hy : oL s oy = some v) (hm : hs[i]? = some ⟨b, ob, true⟩)
  (hb : (Nat.beq v.cells.length m && Nat.ble (o + m) ob.cells.length && v.cells.all AV.isCell) = true) (hc : ct ob.cells o v.cells = cs) (hs_ : hs.set i ⟨b, ⟨ob.sz, ob.exact_, cs⟩, true⟩ = hs')
  (hk : WO tb n ops rest E s hs' R) (hz0 : Nat.blt 0 ob.sz = true := by rfl) : WO tb n ops (⟨none, .store t ox oy, ty, pos, aft, none⟩ :: rest) E s hs R := by
 refine WO.l (s' := s) fun tm h ht hh => ?_
 refine ⟨.tuple [], ⟨h.next, h.objs.set b ⟨ob.sz, ob.exact_, cs⟩⟩, tm, ?_, rfl, ?_⟩
 ·show Res.l (dw tb tm h t ox oy) = _
  unfold dw
  simp only [aR ht hx, aR ht hy]
  unfold eJ
  have h1 := (hh.at_ _ (dl hm)).1
  simp only at h1
  simp only [hz, h1, hb, hc, hz0]
 ·subst hs_
  exact hk tm _ ht (hh.put hm)
def AO (tb : Tab) (t : Nat) : Option AObj :=
 match tb.zero t with
 | some z => some (bk tb t z.cells)
 | none => none
theorem WO.alloc {ob : AObj} (ho : AO tb t = some ob) (hd : Nat.blt d n = true) (hk : ∀ b, WO tb n ops rest E ((d, .ptr b 0) :: s) (⟨b, ob, true⟩ :: hs) R) :
  WO tb n ops (⟨some d, .alloc t, ty, pos, aft, none⟩ :: rest) E s hs R := by
 refine WO.l (s' := s) fun tm h ht hh => ?_
 refine ⟨.ptr h.next 0, ⟨h.next + 1, h.objs.set h.next ob⟩, tm.set d (.ptr h.next 0), ?_, aO hd, hk h.next _ _ (ht.set d _) (hh.new ob)⟩
 show Res.l (lC tb h t) = _
 unfold lC
 unfold AO at ho
 split at ho
 ·rename_i z hz
  simp only [Option.some.injEq] at ho
  simp only [hz, ho]
 ·cases ho
theorem WO.box {ox : Operand} {v : AV} {ob : AObj} (hx : oL s ox = some v) (hc : v.cells.all AV.isCell = true) (ho : bk tb t v.cells = ob) (hd : Nat.blt d n = true) (hk : ∀ b, WO tb n ops rest E ((d, .ptr b 0) :: s) (⟨b, ob, true⟩ :: hs) R) :
  WO tb n ops (⟨some d, .box t ox, ty, pos, aft, none⟩ :: rest) E s hs R := by
 refine WO.l (s' := s) fun tm h ht hh => ?_
 refine ⟨.ptr h.next 0, ⟨h.next + 1, h.objs.set h.next ob⟩, tm.set d (.ptr h.next 0), ?_, aO hd, hk h.next _ _ (ht.set d _) (hh.new ob)⟩
 show Res.l (lD tb tm h t ox) = _
 unfold lD
 simp only [aR ht hx, hc, ho]
theorem WO.bslice {m sz e : Nat} {zc cs : List AV} {l : List (Nat × Operand)} {ps : List (Nat × AV)} (hu : tb.und t = some (.slice e)) (hz : tb.size e = some sz) {z : AV} (h0 : tb.zero e = some z) (hzc : z.cells = zc) (ho : Ak s l = some ps)
  (hb : (Nat.ble (m * sz) 16777216 && Nat.beq zc.length sz && Nat.blt 0 sz) = true) (hf : cJ (fun i => some (i * sz, sz)) (iP m zc) ps = some cs) (hc : cs.all AV.isCell = true) (hd : Nat.blt d n = true)
  (hk : ∀ b, WO tb n ops rest E ((d, .slice b 0 m sz) :: s) (⟨b, ⟨sz, true, cs⟩, true⟩ :: hs) R) :
  WO tb n ops (⟨some d, .buildSlice t m l.toArray, ty, pos, aft, none⟩ :: rest) E s hs R := by
 refine WO.l (s' := s) fun tm h ht hh => ?_
 refine ⟨.slice h.next 0 m sz, ⟨h.next + 1, h.objs.set h.next ⟨sz, true, cs⟩⟩, tm.set d (.slice h.next 0 m sz), ?_, aO hd, hk h.next _ _ (ht.set d _) (hh.new _)⟩
 show Res.l (cQ tb tm h t m l.toArray) = _
 unfold cQ
 have hps : bK tm l.toArray.toList = some ps := sA ht ho
 subst hzc
 simp only [hu, hz, h0]
 rw [hps]
 simp only [hb, hf]
 unfold pw
 simp only [hc]
def AP (tb : Tab) (t t2 : Nat) : Option Nat :=
 match tb.und t, tb.und t2 with
 | some (.slice e), some d2 =>
  match sk d2, tb.tt.get e, tb.zero e with
  | false, some ti, some z =>
   match Nat.blt 0 ti.size && Nat.ble ti.bytes 4096 && Nat.beq z.cells.length ti.size with
   | true => some ti.size
   | false => none
  | _, _, _ => none
 | _, _ => none
theorem fU {t2 sz m : Nat} {sv x : AV} {h : AHeap} {new : List AV} (ha : AP tb t t2 = some sz) (hc : dH h.objs sz x = some (m, new)) : lq tb t t2 sv x h = dp h sz m sv new := by
 unfold AP at ha
 unfold lq
 split at ha
 ·rename_i e d2 h1 h2
  simp only [h1, h2]
  split at ha
  ·rename_i ti z h3 h4 h5
   split at ha
   ·rename_i h6
    simp only [Option.some.injEq] at ha
    subst ha
    simp only [h3, h4, h5, h6, hc]
   ·cases ha
  ·cases ha
 ·cases ha
theorem d9 {objs : T AObj} {b o m sz : Nat} {ob : AObj} {l : List AV} (hb : objs.get b = some ob) (hl : dy ob.cells (o * sz) (m * sz) = some l) : dH objs sz (.slice b o m sz) = some (m, l) := by
 unfold dH
 have : Nat.beq sz sz = true := by simp
 simp only [hb, this, hl]
theorem DE {ox oy : Operand} {t2 sz b o m : Nat} {tl : List Nat} {ob : AObj} {w : Bool} {l : List AV} (ha : AP tb t t2 = some sz) (hx : oL s ox = some .nils) (hy : oL s oy = some (.slice b o m sz)) (hm : ⟨b, ob, w⟩ ∈ hs)
  (hl : dy ob.cells (o * sz) (m * sz) = some l) (hn : 0 < m /\ m <= 1073741824) (hd : Nat.blt d n = true) (hk : ∀ c, WO tb n ops rest E ((d, .slice c 0 m sz) :: s) (⟨c, ⟨sz, false, l⟩, true⟩ :: hs) R) :
  WO tb n ops (⟨some d, .call ⟨.builtin .append, #[ox, oy], (t :: t2 :: tl).toArray⟩, ty, pos, aft, none⟩ :: rest) E s hs R := by
 refine WO.l (s' := s) fun tm h ht hh => ?_
 refine ⟨.slice h.next 0 m sz, ⟨h.next + 1, h.objs.set h.next ⟨sz, false, l⟩⟩, tm.set d (.slice h.next 0 m sz), ?_, aO hd, hk h.next _ _ (ht.set d _) (hh.new _)⟩
 show Res.l (cq tb tm h #[ox, oy] (t :: t2 :: tl).toArray) = _
 unfold cq
 simp only [cC, aR ht hx, aR ht hy]
 rw [fU ha (d9 (hh.at_ _ hm).1 hl)]
 unfold dp
 have e0 : Nat.beq m 0 = false := by cases m with
  | zero => omega
  | succ m => rfl
 have e1 : Nat.ble m 1073741824 = true := Nat.ble_eq.mpr hn.2
 simp only [e0, e1]
theorem WO.app {ox oy : Operand} {t2 sz i b0 len b o m : Nat} {tl : List Nat} {ob : AObj} {cells : List AV} {w : Bool} {l : List AV} {hs' : af} (ha : AP tb t t2 = some sz) (hx : oL s ox = some (.slice b0 0 len sz)) (hy : oL s oy = some (.slice b o m sz))
  (hi : hs[i]? = some ⟨b0, ⟨sz, false, cells⟩, true⟩) (hlen : cells.length = len * sz) (hm : ⟨b, ob, w⟩ ∈ hs)
  (hl : dy ob.cells (o * sz) (m * sz) = some l) (hn : 0 < m /\ len + m <= 1073741824) (hz : 0 < sz) (he : hs.eraseIdx i = hs') (hd : Nat.blt d n = true)
  (hk : ∀ c, WO tb n ops rest E ((d, .slice c 0 (len + m) sz) :: s) (⟨c, ⟨sz, false, cells ++ l⟩, true⟩ :: hs') R) :
  WO tb n ops (⟨some d, .call ⟨.builtin .append, #[ox, oy], (t :: t2 :: tl).toArray⟩, ty, pos, aft, none⟩ :: rest) E s hs R := by
 refine WO.l (s' := s) fun tm h ht hh => ?_
 subst he
 refine ⟨.slice h.next 0 (len + m) sz, ⟨h.next + 1, (h.objs.del b0).set h.next ⟨sz, false, cells ++ l⟩⟩, tm.set d (.slice h.next 0 (len + m) sz), ?_, aO hd, hk h.next _ _ (ht.set d _) ((hh.del hi).new _)⟩
 show Res.l (cq tb tm h #[ox, oy] (t :: t2 :: tl).toArray) = _
 unfold cq
 simp only [cC, aR ht hx, aR ht hy]
 rw [fU ha (d9 (hh.at_ _ hm).1 hl)]
 unfold dp
 have e0 : Nat.beq m 0 = false := by cases m with
  | zero => omega
  | succ m => rfl
 have e1 : (Nat.beq sz sz && Nat.ble (len + m) 1073741824) = true := by simp; omega
 simp only [e0, e1]
 unfold fL
 have h1 := (hh.at_ _ (dl hi)).1
 simp only at h1
 have e2 : Nat.beq sz sz = true := by simp
 have e3 : Nat.ble ((0 + len + m) * sz) cells.length = false := by
  rw [hlen]
  have : len * sz < (0 + len + m) * sz := Nat.mul_lt_mul_of_pos_right zy hz
  cases hb : Nat.ble ((0 + len + m) * sz) (len * sz) with
  | false => rfl
  | true => have := Nat.ble_eq.mp hb; omega
 have e4 : dy cells (0 * sz) (len * sz) = some cells := by
  unfold dy
  have : Nat.ble (0 * sz + len * sz) cells.length = true := by simp [hlen]
  simp only [this]
  simp [<- hlen]
 simp only [h1, e2, e3, e4]

def Spec (tb : Tab) (f : Nat) (args : List AV) (S : List Nat) (hs : af) (Post : AV -> af -> Prop) : Prop :=
 ∀ h, HS ⟨h, S⟩ hs h -> ∃ v h' hs', (Evt fun K => bQ tb (run tb K) f args h = some (v, h')) /\ Post v hs' /\ (∀ e ∈ hs', e.w = true) /\ HS ⟨h, S⟩ hs' h'
def bN (v0 : AV) : AV -> af -> Prop := fun v D => v = v0 /\ D = []
theorem Spec.mono {f : Nat} {args : List AV} {S : List Nat} {Post Post' : AV -> af -> Prop} (h : Spec tb f args S hs Post) (hp : ∀ v D, Post v D -> Post' v D) : Spec tb f args S hs Post' := by
 intro h0 hh
 obtain ⟨v, h', hs', a, b, c⟩ := h h0 hh
 exact ⟨v, h', hs', a, hp _ _ b, c⟩
def SubR (hsc hs : af) : Prop := (∀ e ∈ hsc, e.w = false /\ ∃ w, ⟨e.b, e.o, w⟩ ∈ hs) /\ ((hs.map (·.b)).Nodup -> (hsc.map (·.b)).Nodup)
theorem SubR.nil : SubR [] hs := ⟨fun e h => (by simp at h), fun _ => List.nodup_nil⟩
theorem SubR.one {b : Nat} {ob : AObj} {w : Bool} (hm : ⟨b, ob, w⟩ ∈ hs) : SubR [⟨b, ob, false⟩] hs := by
 refine ⟨fun e h => ?_, fun _ => by simp⟩
 simp only [List.mem_singleton] at h
 subst h
 exact ⟨rfl, w, hm⟩
def ro (hs : af) : af := hs.map fun e => ⟨e.b, e.o, false⟩
theorem SubR.ro {a : af} (h : SubH a hs) : SubR (ro a) hs := by
 refine ⟨fun e he => ?_, fun hn => ?_⟩
 ·obtain ⟨x, hx, rfl⟩ := List.mem_map.1 he
  exact ⟨rfl, x.w, h.1 x hx⟩
 ·have : (Ev.ro a).map (·.b) = a.map (·.b) := by simp [Ev.ro]
  rw [this]
  exact h.2 hn
theorem HS.enter {h : AHeap} (hh : HS E hs h) {hsc : af} (g : SubR hsc hs) : HS ⟨h, []⟩ hsc h := by
 refine ⟨fun e he => ?_, g.2 hh.nd, Fr.refl _ _⟩
 obtain ⟨hw, w, hm⟩ := g.1 e he
 obtain ⟨a1, a2, a3⟩ := hh.at_ _ hm
 exact ⟨a1, a2, fun h' => by rw [hw] at h'; cases h'⟩
theorem HS.back {h h' : AHeap} (hh : HS E hs h) {D : af} (hw : ∀ e ∈ D, e.w = true) (g : HS ⟨h, []⟩ D h') : HS E (D ++ hs) h' := by
 have hfr := g.fr
 refine ⟨fun e he => ?_, ?_, ?_, fun c hc hcS => ?_⟩
 ·rcases List.mem_append.1 he with he | he
  ·obtain ⟨a1, a2, a3⟩ := g.at_ e he
   refine ⟨a1, a2, fun hw' => .inl ?_⟩
   rcases a3 hw' with b1 | b1
   ·exact Nat.le_trans hh.fr.1 b1
   ·cases b1
  ·obtain ⟨a1, a2, a3⟩ := hh.at_ e he
   refine ⟨?_, Nat.lt_of_lt_of_le a2 hfr.1, a3⟩
   rw [hfr.2 e.b a2 (by simp)]
   exact a1
 ·rw [List.map_append]
  refine List.nodup_append.2 ⟨g.nd, hh.nd, ?_⟩
  intro a ha b hb hab
  obtain ⟨x, hx, rfl⟩ := List.mem_map.1 ha
  obtain ⟨y, hy, rfl⟩ := List.mem_map.1 hb
  have h1 := (hh.at_ y hy).2.1
  rcases (g.at_ x hx).2.2 (hw x hx) with b1 | b1
  ·have b1 : h.next <= x.b := b1
   have hab : x.b = y.b := hab
   omega
  ·cases b1
 ·exact Nat.le_trans hh.fr.1 hfr.1
 ·rw [hfr.2 c (Nat.lt_of_lt_of_le hc hh.fr.1) (by simp)]
  exact hh.fr.2 c hc hcS
theorem WO.call0 {of : Operand} {args : List Operand} {ts : Array TypeId} {g : Nat} {caps l l' : List AV} {hsc : af} {Post : AV -> af -> Prop} (hf : oL s of = some (.func g caps)) (ha : sy s args = some l) (hl : dS l caps = l')
  (hsp : Spec tb g l' [] hsc Post) (hsub : SubR hsc hs) (hd : Nat.blt d n = true) (hk : ∀ v D, Post v D -> WO tb n ops rest E ((d, v) :: s) (D ++ hs) R) :
  WO tb n ops (⟨some d, .call ⟨.value of, args.toArray, ts⟩, ty, pos, aft, none⟩ :: rest) E s hs R := by
 refine WO.l (s' := s) fun tm h ht hh => ?_
 obtain ⟨v, h', D, hE, hP, hw, hD⟩ := hsp h (hh.enter hsub)
 refine ⟨v, h', tm.set d v, ?_, aO hd, hk v D hP _ _ (ht.set d _) (hh.back hw hD)⟩
 show Res.l (bT tm h (aD (callE tb)) of args.toArray) = _
 rw [ji (aR ht hf) (by exact kW ht ha)]
 subst hl
 rw [qo hE]
theorem ak {of : Operand} {args : List Operand} {ts : Array TypeId} {g : Nat} {caps l l' : List AV} {hsc : af} {v : AV} (hf : oL s of = some (.func g caps)) (ha : sy s args = some l) (hl : dS l caps = l')
  (hsp : Spec tb g l' [] hsc (bN v)) (hsub : SubR hsc hs) (hd : Nat.blt d n = true) (hk : WO tb n ops rest E ((d, v) :: s) hs R) :
  WO tb n ops (⟨some d, .call ⟨.value of, args.toArray, ts⟩, ty, pos, aft, none⟩ :: rest) E s hs R :=
 WO.call0 hf ha hl hsp hsub hd fun v' D ⟨h1, h2⟩ => by subst h1 h2; exact hk
theorem WO.call1 {of : Operand} {args : List Operand} {ts : Array TypeId} {g i b : Nat} {caps l l' : List AV} {ob : AObj} {hsc hs' : af} {Post : AV -> af -> Prop} (hf : oL s of = some (.func g caps)) (ha : sy s args = some l) (hl : dS l caps = l')
  (hi : hs[i]? = some ⟨b, ob, true⟩) (hsp : Spec tb g l' [b] (⟨b, ob, true⟩ :: hsc) Post) (hsub : SubR hsc (hs.eraseIdx i)) (he : hs.eraseIdx i = hs') (hd : Nat.blt d n = true)
  (hk : ∀ v D, Post v D -> WO tb n ops rest E ((d, v) :: s) (D ++ hs') R) :
  WO tb n ops (⟨some d, .call ⟨.value of, args.toArray, ts⟩, ty, pos, aft, none⟩ :: rest) E s hs R := by
 refine WO.l (s' := s) fun tm h ht hh => ?_
 have hb := hh.at_ _ (dl hi)
 simp only at hb
 have hne : ∀ e ∈ hs.eraseIdx i, e.b ≠ b := by
  intro e he hbb
  obtain ⟨j, hj⟩ := List.getElem?_of_mem he
  rw [List.getElem?_eraseIdx] at hj
  split at hj
  ·have := hh.key hj hi (by simpa using hbb); omega
  ·have := hh.key hj hi (by simpa using hbb); omega
 have hin : HS ⟨h, [b]⟩ (⟨b, ob, true⟩ :: hsc) h := by
  refine ⟨fun e he => ?_, ?_, Fr.refl _ _⟩
  ·rcases List.mem_cons.1 he with rfl | he
   ·exact ⟨hb.1, hb.2.1, fun _ => .inr (by simp)⟩
   ·obtain ⟨hw, w, hm⟩ := hsub.1 e he
    obtain ⟨a1, a2, a3⟩ := hh.at_ _ ((SubH.erase i).1 _ hm)
    exact ⟨a1, a2, fun h' => by rw [hw] at h'; cases h'⟩
  ·simp only [List.map_cons, List.nodup_cons]
   refine ⟨fun hm => ?_, hsub.2 ((SubH.erase i).2 hh.nd)⟩
   obtain ⟨e, he, hbb⟩ := List.mem_map.1 hm
   obtain ⟨hw, w, hm⟩ := hsub.1 e he
   exact hne _ hm hbb
 obtain ⟨v, h', D, hE, hP, hw, hD⟩ := hsp h hin
 have hfr := hD.fr
 have hback : HS E (D ++ hs.eraseIdx i) h' := by
  refine ⟨fun e he => ?_, ?_, ?_, fun c hc hcS => ?_⟩
  ·rcases List.mem_append.1 he with he | he
   ·obtain ⟨a1, a2, a3⟩ := hD.at_ e he
    refine ⟨a1, a2, fun hw' => ?_⟩
    rcases a3 hw' with b1 | b1
    ·exact .inl (Nat.le_trans hh.fr.1 b1)
    ·have : e.b = b := by simpa using b1
     rw [this]
     exact hb.2.2 trivial
   ·obtain ⟨a1, a2, a3⟩ := hh.at_ e ((SubH.erase i).1 _ he)
    refine ⟨?_, Nat.lt_of_lt_of_le a2 hfr.1, a3⟩
    rw [hfr.2 e.b a2 (by simpa using hne e he)]
    exact a1
  ·rw [List.map_append]
   refine List.nodup_append.2 ⟨hD.nd, (SubH.erase i).2 hh.nd, ?_⟩
   intro a ha b' hb' hab
   obtain ⟨x, hx, rfl⟩ := List.mem_map.1 ha
   obtain ⟨y, hy, rfl⟩ := List.mem_map.1 hb'
   have h1 := (hh.at_ y ((SubH.erase i).1 _ hy)).2.1
   have hab : x.b = y.b := hab
   rcases (hD.at_ x hx).2.2 (hw x hx) with b1 | b1
   ·have b1 : h.next <= x.b := b1
    omega
   ·have : x.b = b := by simpa using b1
    exact hne y hy (by rw [<- hab, this])
  ·exact Nat.le_trans hh.fr.1 hfr.1
  ·have hcb : c ≠ b := by
    rintro rfl
    rcases hb.2.2 trivial with g | g
    ·omega
    ·exact hcS g
   rw [hfr.2 c (Nat.lt_of_lt_of_le hc hh.fr.1) (by simpa using hcb)]
   exact hh.fr.2 c hc hcS
 subst he
 refine ⟨v, h', tm.set d v, ?_, aO hd, hk v D hP _ _ (ht.set d _) hback⟩
 show Res.l (bT tm h (aD (callE tb)) of args.toArray) = _
 rw [ji (aR ht hf) (by exact kW ht ha)]
 subst hl
 rw [qo hE]

inductive ResL (tb : Tab) (s : St) (hs : af) : List ResultVar -> List AV -> Prop where
 | nil : ResL tb s hs [] []
 | tmp {t : Nat} {v : AV} {rs : List ResultVar} {l : List AV} (h : lk s t = some v) (g : ResL tb s hs rs l) : ResL tb s hs (.tmp t :: rs) (v :: l)
 | one {a t b o : Nat} {ob : AObj} {w : Bool} {v : AV} {rs : List ResultVar} {l : List AV} (h : lk s a = some (.ptr b o)) (hm : ⟨b, ob, w⟩ ∈ hs) (ha : tb.isAgg t = some false) (hc : ob.cells[o]? = some v) (g : ResL tb s hs rs l) : ResL tb s hs (.cell a t :: rs) (v :: l)
 | agg {a t b o m : Nat} {ob : AObj} {w : Bool} {c : List AV} {rs : List ResultVar} {l : List AV} (h : lk s a = some (.ptr b o)) (hm : ⟨b, ob, w⟩ ∈ hs) (ha : tb.isAgg t = some true) (hz : tb.size t = some m) (hc : dy ob.cells o m = some c) (g : ResL tb s hs rs l) : ResL tb s hs (.cell a t :: rs) (.agg c :: l)
theorem ResL.ok {rs : List ResultVar} {l : List AV} (g : ResL tb s hs rs l) {tm : T AV} {h : AHeap} (ht : Has tm s) (hh : HS E hs h) : cF tb tm h rs = some l := by
 induction g with
 | nil => rfl
 | tmp h0 g ih =>
  unfold cF
  have : jw tb tm h (.tmp _) = some _ := ht _ _ h0
  rw [this, ih]
 | @one a t b o ob w v rs l h1 hm ha hc g ih =>
  unfold cF
  have : jw tb tm h (.cell a t) = some v := by
   unfold jw
   simp only [ht _ _ h1]
   exact qO (hh.at_ _ hm).1 ha hc
  rw [this, ih]
 | @agg a t b o m ob w c rs l h1 hm ha hz hc g ih =>
  unfold cF
  have : jw tb tm h (.cell a t) = some (.agg c) := by
   unfold jw
   simp only [ht _ _ h1]
   exact qN (hh.at_ _ hm).1 ha hz hc
  rw [this, ih]
def l4 (tb : Tab) (rs : List ResultVar) (E : Env) (Post : AV -> af -> Prop) : Ex -> T AV -> AHeap -> Prop
 | .exit _, _, _ => False
 | .normal, tm, h => ∃ l hs', cF tb tm h rs = some l /\ Post (bW l) hs' /\ (∀ e ∈ hs', e.w = true) /\ HS E hs' h
 | .ret, tm, h => ∃ l hs', cF tb tm h rs = some l /\ Post (bW l) hs' /\ (∀ e ∈ hs', e.w = true) /\ HS E hs' h
theorem End.ret {rs : List ResultVar} {Post : AV -> af -> Prop} {l : List AV} {hs' : af} (hr : ResL tb s hs rs l) (hP : Post (bW l) hs') (hw : ∀ e ∈ hs', e.w = true) (hsub : SubH hs' hs) : End E s hs (l4 tb rs E Post .ret) :=
 fun tm h ht hh => ⟨l, hs', hr.ok ht hh, hP, hw, hh.sub hsub⟩
theorem End.fall {rs : List ResultVar} {Post : AV -> af -> Prop} {l : List AV} {hs' : af} (hr : ResL tb s hs rs l) (hP : Post (bW l) hs') (hw : ∀ e ∈ hs', e.w = true) (hsub : SubH hs' hs) : End E s hs (l4 tb rs E Post .normal) :=
 fun tm h ht hh => ⟨l, hs', hr.ok ht hh, hP, hw, hh.sub hsub⟩
theorem sx {e : HE} (h : e ∈ ([] : af)) : e.w = true := by simp at h
theorem ae {rs : List ResultVar} {v : AV} {l : List AV} (hr : ResL tb s hs rs l) (hP : bW l = v) : End E s hs (l4 tb rs E (bN v) .ret) :=
 End.ret hr (hs' := []) ⟨hP, rfl⟩ (fun e h => sx h) (SubH.nil _)
def lr : Nat -> List AV -> St
 | _, [] => []
 | i, v :: l => (i, v) :: lr (i + 1) l
theorem s8 : ∀ (l : List AV) (i k : Nat), lk (lr i l) k = if i <= k /\ k < i + l.length then l[k - i]? else none
 | [], i, k => by simp [lr, lk]
 | v :: l, i, k => by
  unfold lr lk
  cases hb : Nat.beq i k with
  | true =>
   have := Nat.eq_of_beq_eq_true hb
   subst this
   simp
  | false =>
   have hne : i ≠ k := by intro h; subst h; simp at hb
   simp only [s8 l (i + 1) k, List.length_cons]
   by_cases h : i + 1 <= k /\ k < i + 1 + l.length
   ·rw [if_pos h, if_pos zy]
    have : k - i = (k - (i + 1)) + 1 := by omega
    rw [this, List.getElem?_cons_succ]
   ·rw [if_neg h, if_neg zy]
theorem pf (l : List AV) : Has (er 0 l .leaf) (lr 0 l) := by
 intro k v h
 rw [s8] at h
 rw [ls]
 split at h
 ·rename_i hc
  rw [if_pos hc]
  exact h
 ·cases h
theorem Spec.enter {f : Nat} {args : List AV} {S : List Nat} {Post : AV -> af -> Prop} {fn : Func} {c : Code} (hf : tb.ft.get f = some fn) (hb : fn.body = some c) (hn : Nat.ble args.length fn.ntmps = true) (ho : ∀ h, tb.orc f args h = none)
  (hk : ∀ E, W tb fn.ntmps c E (lr 0 args) hs (l4 tb fn.results.toList E Post)) : Spec tb f args S hs Post := by
 intro h hh
 obtain ⟨ex, tm, h', hE, hQ⟩ := hk ⟨h, S⟩ (er 0 args .leaf) h (pf args) hh
 have main : ∀ (hex : ∀ i, ex ≠ .exit i), (∃ l hs', cF tb tm h' fn.results.toList = some l /\ Post (bW l) hs' /\ (∀ e ∈ hs', e.w = true) /\ HS ⟨h, S⟩ hs' h') ->
   ∃ v h' hs', (Evt fun K => bQ tb (run tb K) f args h = some (v, h')) /\ Post v hs' /\ (∀ e ∈ hs', e.w = true) /\ HS ⟨h, S⟩ hs' h' := by
  rintro hex ⟨l, hs', h1, h2, h3, h4⟩
  refine ⟨bW l, h', hs', hE.mono fun K hK => ?_, h2, h3, h4⟩
  unfold bQ
  simp only [ho h, hf, hb, hn, hK]
  cases ex with
  | exit i => exact absurd rfl (hex i)
  | normal => simp only [h1]
  | ret => simp only [h1]
 cases ex with
 | exit i => exact hQ.elim
 | normal => exact main (fun i => by simp) hQ
 | ret => exact main (fun i => by simp) hQ
theorem ac {f : Nat} {args : List AV} {S : List Nat} {Post : AV -> af -> Prop} {fn : Func} {c : Code} {m : Nat} {rs : List ResultVar} {st : St} (hf : tb.ft.get f = some fn) (hb : fn.body = some c) (hm : fn.ntmps = m) (hr : fn.results.toList = rs) (hst : lr 0 args = st)
  (hn : Nat.ble args.length m = true) (ho : ∀ h, tb.orc f args h = none)
  (hk : ∀ E, W tb m c E st hs (l4 tb rs E Post)) : Spec tb f args S hs Post := by
 subst hm hr hst
 exact Spec.enter hf hb hn ho hk
theorem aC {P : Prop} [Decidable P] (hl : lk s d = some (.bool (decide P))) (ha : P -> WO tb n ops rest E ((d, .bool true) :: s) hs R)
  (hb : ¬ P -> WO tb n ops rest E ((d, .bool false) :: s) hs R) : WO tb n ops rest E s hs R :=
 WO.split hl (fun h => ha (of_decide_eq_true h)) (fun h => hb (of_decide_eq_false h))
theorem Has.lit {tm : T AV} {d : Nat} {v : AV} (ht : Has tm s) (hl : lk s d = some v) : Has tm ((d, v) :: s) := by
 intro k x e
 unfold lk at e
 split at e
 ·rename_i hb
  have := Nat.eq_of_beq_eq_true hb
  subst this
  rw [<- e]
  exact ht _ _ hl
 ·exact ht _ _ e
theorem W.condS {c1 c2 : Code} {p : Bool} {Q} (hx : lk s d = some (.bool p)) (ha : p = true -> W tb n c1 E ((d, .bool true) :: s) hs Q) (hb : p = false -> W tb n c2 E ((d, .bool false) :: s) hs Q) : W tb n (.cond (.tmp d) c1 c2) E s hs Q :=
 W.cond (x := .tmp d) hx (fun h tm hp ht hh => ha h tm hp (ht.lit (by rw [hx, h])) hh) (fun h tm hp ht hh => hb h tm hp (ht.lit (by rw [hx, h])) hh)
theorem aB {c1 c2 : Code} {P : Prop} [Decidable P] {Q} (hx : lk s d = some (.bool (decide P))) (ha : P -> W tb n c1 E ((d, .bool true) :: s) hs Q) (hb : ¬ P -> W tb n c2 E ((d, .bool false) :: s) hs Q) : W tb n (.cond (.tmp d) c1 c2) E s hs Q :=
 W.condS hx (fun h => ha (of_decide_eq_true h)) (fun h => hb (of_decide_eq_false h))
theorem EQ {P : Prop} [Decidable P] : (!(decide P)) = decide (¬ P) := by simp
theorem W.loop_ind {α : Type} {b : Code} {Q} (st : α -> St) (hp : α -> af) (Inv : α -> Prop) (μ : α -> Nat) (a0 : α) (h0 : Inv a0) (hsub : SubS (st a0) s) (hsubH : SubH (hp a0) hs)
  (step : ∀ a, Inv a -> (∀ a', Inv a' -> μ a' < μ a -> W tb n (.loop b) E (st a') (hp a') Q) -> W tb n b E (st a) (hp a) (KL tb n b Q)) : W tb n (.loop b) E s hs Q := by
 have main : ∀ m a, Inv a -> μ a = m -> W tb n (.loop b) E (st a) (hp a) Q := by
  intro m
  induction m using Nat.strongRecOn with
  | _ m ih =>
   intro a ha hm
   exact W.loop (step a ha fun a' ha' hlt => ih (μ a') zy a' ha' rfl)
 exact W.sub hsub (cz hsubH (main _ a0 h0 rfl))
theorem W.loop_ind2 {α β : Type} {b : Code} {Q} (st : α -> β -> St) (hp : α -> β -> af) (Inv : α -> β -> Prop) (μ : α -> β -> Nat) (a0 : α) (b0 : β) (h0 : Inv a0 b0) (hsub : SubS (st a0 b0) s) (hsubH : SubH (hp a0 b0) hs)
  (step : ∀ a c, Inv a c -> (∀ a' c', Inv a' c' -> μ a' c' < μ a c -> W tb n (.loop b) E (st a' c') (hp a' c') Q) -> W tb n b E (st a c) (hp a c) (KL tb n b Q)) : W tb n (.loop b) E s hs Q :=
 W.loop_ind (α := α × β) (fun x => st x.1 x.2) (fun x => hp x.1 x.2) (fun x => Inv x.1 x.2) (fun x => μ x.1 x.2) (a0, b0) h0 hsub hsubH fun a ha ih => step a.1 a.2 ha fun a' c' => ih (a', c')
theorem bI {α β γ : Type} {b : Code} {Q} (st : α -> β -> γ -> St) (hp : α -> β -> γ -> af) (Inv : α -> β -> γ -> Prop) (μ : α -> β -> γ -> Nat) (a0 : α) (b0 : β) (c0 : γ) (h0 : Inv a0 b0 c0) (hsub : SubS (st a0 b0 c0) s) (hsubH : SubH (hp a0 b0 c0) hs)
  (step : ∀ a c e, Inv a c e -> (∀ a' c' e', Inv a' c' e' -> μ a' c' e' < μ a c e -> W tb n (.loop b) E (st a' c' e') (hp a' c' e') Q) -> W tb n b E (st a c e) (hp a c e) (KL tb n b Q)) : W tb n (.loop b) E s hs Q :=
 W.loop_ind (α := α × β × γ) (fun x => st x.1 x.2.1 x.2.2) (fun x => hp x.1 x.2.1 x.2.2) (fun x => Inv x.1 x.2.1 x.2.2) (fun x => μ x.1 x.2.1 x.2.2) (a0, b0, c0) h0 hsub hsubH fun a ha ih => step a.1 a.2.1 a.2.2 ha fun a' c' e' => ih (a', c', e')
theorem fD {α β γ δ : Type} {b : Code} {Q} (st : α -> β -> γ -> δ -> St) (hp : α -> β -> γ -> δ -> af) (Inv : α -> β -> γ -> δ -> Prop) (μ : α -> β -> γ -> δ -> Nat) (a0 : α) (b0 : β) (c0 : γ) (d0 : δ) (h0 : Inv a0 b0 c0 d0) (hsub : SubS (st a0 b0 c0 d0) s)
  (hsubH : SubH (hp a0 b0 c0 d0) hs)
  (step : ∀ a c e f, Inv a c e f -> (∀ a' c' e' f', Inv a' c' e' f' -> μ a' c' e' f' < μ a c e f -> W tb n (.loop b) E (st a' c' e' f') (hp a' c' e' f') Q) -> W tb n b E (st a c e f) (hp a c e f) (KL tb n b Q)) : W tb n (.loop b) E s hs Q :=
 W.loop_ind (α := α × β × γ × δ) (fun x => st x.1 x.2.1 x.2.2.1 x.2.2.2) (fun x => hp x.1 x.2.1 x.2.2.1 x.2.2.2) (fun x => Inv x.1 x.2.1 x.2.2.1 x.2.2.2) (fun x => μ x.1 x.2.1 x.2.2.1 x.2.2.2) (a0, b0, c0, d0) h0 hsub hsubH
  fun a ha ih => step a.1 a.2.1 a.2.2.1 a.2.2.2 ha fun a' c' e' f' => ih (a', c', e', f')
theorem W.loop_ind5 {α β γ δ ε : Type} {b : Code} {Q} (st : α -> β -> γ -> δ -> ε -> St) (hp : α -> β -> γ -> δ -> ε -> af) (Inv : α -> β -> γ -> δ -> ε -> Prop) (μ : α -> β -> γ -> δ -> ε -> Nat) (a0 : α) (b0 : β) (c0 : γ) (d0 : δ) (e0 : ε) (h0 : Inv a0 b0 c0 d0 e0)
  (hsub : SubS (st a0 b0 c0 d0 e0) s) (hsubH : SubH (hp a0 b0 c0 d0 e0) hs)
  (step : ∀ a c e f g, Inv a c e f g -> (∀ a' c' e' f' g', Inv a' c' e' f' g' -> μ a' c' e' f' g' < μ a c e f g -> W tb n (.loop b) E (st a' c' e' f' g') (hp a' c' e' f' g') Q) -> W tb n b E (st a c e f g) (hp a c e f g) (KL tb n b Q)) :
  W tb n (.loop b) E s hs Q :=
 W.loop_ind (α := α × β × γ × δ × ε) (fun x => st x.1 x.2.1 x.2.2.1 x.2.2.2.1 x.2.2.2.2) (fun x => hp x.1 x.2.1 x.2.2.1 x.2.2.2.1 x.2.2.2.2) (fun x => Inv x.1 x.2.1 x.2.2.1 x.2.2.2.1 x.2.2.2.2) (fun x => μ x.1 x.2.1 x.2.2.1 x.2.2.2.1 x.2.2.2.2)
  (a0, b0, c0, d0, e0) h0 hsub hsubH fun a ha ih => step a.1 a.2.1 a.2.2.1 a.2.2.2.1 a.2.2.2.2 ha fun a' c' e' f' g' => ih (a', c', e', f', g')
def Bytes (l : List Nat) : Prop := ∀ c ∈ l, c < 256
theorem Bytes.at {l : List Nat} (h : Bytes l) (i : Nat) : l.getD i 0 < 256 := by
 rw [List.getD_eq_getElem?_getD]
 cases hi : l[i]? with
 | none => simp
 | some x => exact h x (List.mem_of_getElem? hi)
theorem Bytes.drop {l : List Nat} (h : Bytes l) (i : Nat) : Bytes (l.drop i) := fun c hc => h c (List.mem_of_mem_drop hc)
theorem Bytes.take {l : List Nat} (h : Bytes l) (i : Nat) : Bytes (l.take i) := fun c hc => h c (List.mem_of_mem_take hc)
theorem Bytes.append {l m : List Nat} (h : Bytes l) (g : Bytes m) : Bytes (l ++ m) := fun c hc => (List.mem_append.1 hc).elim (h c) (g c)
theorem bz {P : Program} {ob oc orc} (f : Nat) {fn : Func} (h : P.funcs[f]? = some fn) : (Tab.knows (lX P) ob oc orc).ft.get f = some fn := by
 show (gj 0 P.funcs.toList .leaf).get f = some fn
 rw [fK]
 have hlt : f < P.funcs.toList.length := by
  have := (Array.getElem?_eq_some_iff.1 h).1
  simpa using this
 rw [if_pos ⟨Nat.zero_le _, by omega⟩]
 simpa using h
theorem kI {f : Nat} {args : List AV} {v : AV} (ho : ∀ h, tb.orc f args h = some v) : Spec tb f args [] hs (bN v) := by
 intro h hh
 exact ⟨v, h, [], Evt.of fun K => by unfold bQ; rw [ho h], ⟨rfl, rfl⟩, fun e he => sx he, hh.sub (SubH.nil _)⟩
end
end Go.Proofs.YtfkbfnpjggkdmaaGreatDoor.Ev
