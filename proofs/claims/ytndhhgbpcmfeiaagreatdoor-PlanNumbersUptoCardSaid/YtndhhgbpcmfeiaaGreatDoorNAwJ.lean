/- Walks over the evaluator: calls on memory that comes in, and is only looked at. -/
import Derived.Test.YtndhhgbpcmfeiaaGreatDoorNAwH
import Derived.Test.YtndhhgbpcmfeiaaGreatDoorRows
import Derived.Deep.SlicePairs
import Derived.Deep.Strs
namespace Go.Proofs.YtndhhgbpcmfeiaaGreatDoor.Ev
open Go.RowKit
structure InB where
 bi : BI
 live : Bool
 cells : List AV
def injIn (I : List InB) : Inj := fun b => (I[b]?).map (·.bi)
noncomputable def ib : Nat -> List InB -> T AObj
 | _, [] => .leaf
 | i, x :: l => match x.live with
  | true => (ib (i + 1) l).set i ⟨0, false, x.cells⟩
  | false => ib (i + 1) l
theorem fL : ∀ (l : List InB) (i k : Nat) (o : AObj), (ib i l).get k = some o -> ∃ x, i <= k /\ l[k - i]? = some x /\ x.live = true /\ o = ⟨0, false, x.cells⟩
 | [], i, k, o, h => by simp [ib, bg] at h
 | x :: l, i, k, o, h => by
  unfold ib at h
  cases hx : x.live with
  | true =>
   rw [hx] at h
   simp only [au] at h
   split at h
   ·rename_i e
    subst e
    simp only [Option.some.injEq] at h
    exact ⟨x, Nat.le_refl _, by simp, hx, h.symm⟩
   ·obtain ⟨y, h1, h2, h3, h4⟩ := fL l (i + 1) k o h
    refine ⟨y, by omega, ?_, h3, h4⟩
    have : k - i = (k - (i + 1)) + 1 := by omega
    rw [this, List.getElem?_cons_succ]; exact h2
  | false =>
   rw [hx] at h
   obtain ⟨y, h1, h2, h3, h4⟩ := fL l (i + 1) k o h
   refine ⟨y, by omega, ?_, h3, h4⟩
   have : k - i = (k - (i + 1)) + 1 := by omega
   rw [this, List.getElem?_cons_succ]; exact h2
theorem nY : ∀ (l : List InB) (i k : Nat) (x : InB), l[k]? = some x -> x.live = true -> (ib i l).get (i + k) = some ⟨0, false, x.cells⟩
 | [], i, k, x, h, _ => by simp at h
 | y :: l, i, 0, x, h, hl => by
  simp at h
  subst h
  unfold ib
  rw [hl]
  simp [au]
 | y :: l, i, k + 1, x, h, hl => by
  have h := nY l (i + 1) k x (by simpa using h) hl
  have e : i + 1 + k = i + (k + 1) := by omega
  rw [e] at h
  unfold ib
  cases y.live with
  | true => simp only [au]; rw [if_neg zy]; exact h
  | false => exact h
noncomputable def vX (I : List InB) : AHeap := ⟨I.length, ib 0 I⟩
def A5 (w : World) (I : List InB) : Prop := ∀ x ∈ I, x.live = true -> x.bi.val = undef /\ ∃ c e fr, w.heap[x.bi.blk]? = some (.cells c e fr) /\ ∀ k v, x.cells[k]? = some v -> v.isCell = true /\ ∃ u, c[x.bi.off + k]? = some u /\ VRel (injIn I) v u
def uF (I : List InB) (hs : af) : Prop := (hs.map (·.b)).Nodup /\ ∀ e ∈ hs, e.w = false /\ ∃ x, I[e.b]? = some x /\ x.live = true /\ e.o = ⟨0, false, x.cells⟩
open Go.RowKit Go.ChangeShapes Go.WideShapes
theorem kI {w : World} {b o : Nat} {v : Value} (h : w.cell? ⟨b, o, none⟩ = some v) : ∃ c e fr, w.heap[b]? = some (.cells c e fr) /\ c[o]? = some v := by
 unfold World.cell? at h
 cases hb : w.heap[b]? with
 | none => rw [hb] at h; cases h
 | some x =>
  rw [hb] at h
  cases x with
  | cells c e fr => exact ⟨c, e, fr, rfl, h⟩
  | _ => cases h
theorem Bj {H : Type} (d : DataW H) : 1 <= Rows.uptoBulk d := by
 cases d with
 | lit l => cases l <;> simp [Rows.uptoBulk]
 | nil => simp [Rows.uptoBulk]
 | ptr d => simp [Rows.uptoBulk]
 | slice elems spare => simp [Rows.uptoBulk]
 | agg parts => simp [Rows.uptoBulk]
 | iface t d => simp [Rows.uptoBulk]
 | map entries => simp [Rows.uptoBulk]
 | held h => simp [Rows.uptoBulk]
theorem sK {H : Type} {d : DataW H} {l : List (DataW H)} (h : d ∈ l) : Rows.uptoBulk d <= Rows.uptoBulkAll l := by
 induction l with
 | nil => cases h
 | cons x r ih =>
  simp only [Rows.uptoBulkAll]
  rcases List.mem_cons.1 h with e | e
  ·subst e; omega
  ·have := ih e; omega
theorem Bi {H : Type} (l : List (DataW H)) : l.length <= Rows.uptoBulkAll l := by
 induction l with
 | nil => simp [Rows.uptoBulkAll]
 | cons x r ih => have := Bj x; simp only [Rows.uptoBulkAll, List.length_cons]; omega
instance : Inhabited AV := ⟨.nils⟩
instance : Inhabited InB := ⟨⟨⟨0, 0, 0, 0, undef⟩, true, []⟩⟩
def CellsOK (w : World) (M : Inj) (x : InB) : Prop := x.live = true /\ x.bi.val = undef /\ ∃ c e fr, w.heap[x.bi.blk]? = some (.cells c e fr) /\ ∀ k v, x.cells[k]? = some v -> v.isCell = true /\ ∃ u, c[x.bi.off + k]? = some u /\ VRel M v u
section
variable {H : Type} {enc : TypeId × Value -> H} {P : Program} {w : World} {held : Bool}
def eX : Nat -> List InB -> af
 | _, [] => []
 | k, x :: l => ⟨k, ⟨0, false, x.cells⟩, false⟩ :: eX (k + 1) l
theorem hsIn_ro : ∀ (l : List InB) (k : Nat), ∀ e ∈ eX k l, e.w = false
 | [], k, e, h => by cases h
 | x :: l, k, e, h => by
  rcases List.mem_cons.1 h with rfl | h
  ·rfl
  ·exact hsIn_ro l _ e h
theorem mb : ∀ (l : List InB) (k : Nat) (e : HE), e ∈ eX k l -> ∃ j x, l[j]? = some x /\ e = ⟨k + j, ⟨0, false, x.cells⟩, false⟩
 | [], k, e, h => by cases h
 | y :: l, k, e, h => by
  rcases List.mem_cons.1 h with rfl | h
  ·exact ⟨0, y, rfl, rfl⟩
  ·obtain ⟨j, x, h1, h2⟩ := mb l _ e h
   exact ⟨j + 1, x, by simpa using h1, by rw [h2, show k + 1 + j = k + (j + 1) by omega]⟩
theorem s7 : ∀ (l : List InB) (k : Nat), ((eX k l).map (·.b)).Nodup
 | [], k => List.nodup_nil
 | x :: l, k => by
  show (k :: (eX (k + 1) l).map (·.b)).Nodup
  refine List.nodup_cons.2 ⟨fun h => ?_, s7 l _⟩
  obtain ⟨e, he, hb⟩ := List.mem_map.1 h
  obtain ⟨j, x, _, rfl⟩ := mb l _ e he
  simp only at hb
  omega
theorem iE : ∀ (l m : List InB) (k : Nat), eX k (l ++ m) = eX k l ++ eX (k + l.length) m
 | [], m, k => rfl
 | x :: l, m, k => by
  show _ :: eX (k + 1) (l ++ m) = _ :: _
  rw [iE l m (k + 1), List.length_cons, show k + 1 + l.length = k + (l.length + 1) by omega]; rfl
theorem hsIn_seen {I : List InB} (h : ∀ x ∈ I, x.live = true) : uF I (eX 0 I) := by
 refine ⟨s7 I 0, fun e he => ?_⟩
 obtain ⟨j, x, h1, rfl⟩ := mb I 0 e he
 exact ⟨rfl, x, by simpa using h1, h x (List.mem_of_getElem? h1), rfl⟩
theorem qL {base : Nat} {t e : TypeId} {v : Value} (hu : P.underlying t = some (.slice e)) (hv : Value.okWide P w .any base t v) : ∀ a len cap, v = .slice (some a) len cap -> a.spot = none /\ ∃ c e fr, w.heap[a.block]? = some (.cells c e fr) := by
 intro a len cap h
 subst h
 simp only [Value.okWide, hu, Cell.okWide, Cell.ok] at hv
 obtain ⟨_, _, h3⟩ := hv
 obtain ⟨_, h4, row, cells, h5, _⟩ := h3
 refine ⟨h4, ?_⟩
 unfold World.shape? at h5
 split at h5
 ·rename_i c e fr hc
  exact ⟨c, e, fr, hc⟩
 ·cases h5
end
def MemH (hs : af) (b : Nat) (o : AObj) : Prop := ∃ w, (⟨b, o, w⟩ : HE) ∈ hs
theorem MemH.tl {hs : af} {b : Nat} {o : AObj} {e : HE} (h : MemH hs b o) : MemH (e :: hs) b o := let ⟨w, g⟩ := h; ⟨w, List.mem_cons_of_mem _ g⟩
theorem MemH.app {A hs : af} {b : Nat} {o : AObj} (h : MemH hs b o) : MemH (A ++ hs) b o := let ⟨w, g⟩ := h; ⟨w, List.mem_append_right _ g⟩
theorem MemH.ro {hs : af} {b : Nat} {o : AObj} (h : MemH hs b o) : MemH (ro hs) b o := let ⟨w, g⟩ := h; ⟨false, List.mem_map.2 ⟨_, g, rfl⟩⟩
def b7 (k : Int) (op : List Nat) (n : Int) (ms : AV) (rg off md : Int) (nm : AV) (sd : Int) (bl : Bool) (kd : AV) : List AV :=
 [.int .i64 k, .str op, .int .i64 n, ms, .int .i64 rg, .int .i64 off, .int .i64 md, nm, .int .i64 sd, .bool bl, kd]
def NRep (hs : af) : Nat -> List AV -> Prop
 | 0, _ => False
 | d + 1, c => ∃ k op n ms rg off md nm sd bl kd, c = b7 k op n ms rg off md nm sd bl kd /\ Bytes op /\ op.length <= 281474976710656 /\ ms.isCell = true /\ nm.isCell = true /\
   (kd = .nils \/ ∃ b len ob, kd = .slice b 0 len 11 /\ MemH hs b ob /\ len <= 1048576 /\ ∀ i, i < len -> ∃ c', ch ob.cells ((0 + i) * 11) 11 = some c' /\ NRep hs d c')
theorem NRep.mono {hs hs' : af} (hm : ∀ b o, MemH hs b o -> MemH hs' b o) : ∀ {d : Nat} {c : List AV}, NRep hs d c -> NRep hs' d c
 | 0, _, h => h
 | d + 1, c, ⟨k, op, n, ms, rg, off, md, nm, sd, bl, kd, h1, h2, h3, h5, h6, h4⟩ => ⟨k, op, n, ms, rg, off, md, nm, sd, bl, kd, h1, h2, h3, h5, h6, h4.imp id fun ⟨b, len, ob, g1, g2, g3, g4⟩ =>
   ⟨b, len, ob, g1, hm _ _ g2, g3, fun i hi => let ⟨c', e1, e2⟩ := g4 i hi; ⟨c', e1, NRep.mono hm e2⟩⟩⟩
theorem NRep.succ {hs : af} : ∀ {d : Nat} {c : List AV}, NRep hs d c -> NRep hs (d + 1) c
 | 0, _, h => h.elim
 | d + 1, c, ⟨k, op, n, ms, rg, off, md, nm, sd, bl, kd, h1, h2, h3, h5, h6, h4⟩ => ⟨k, op, n, ms, rg, off, md, nm, sd, bl, kd, h1, h2, h3, h5, h6, h4.imp id fun ⟨b, len, ob, g1, g2, g3, g4⟩ =>
   ⟨b, len, ob, g1, g2, g3, fun i hi => let ⟨c', e1, e2⟩ := g4 i hi; ⟨c', e1, NRep.succ e2⟩⟩⟩
theorem NRep.le {hs : af} {d : Nat} {c : List AV} (h : NRep hs d c) : ∀ {d' : Nat}, d <= d' -> NRep hs d' c := by
 intro d' hd
 induction hd with
 | refl => exact h
 | step _ ih => exact ih.succ
theorem dF {hs : af} (h : ∀ e ∈ hs, e.w = false) : SubR hs hs := ⟨fun e he => ⟨h e he, e.w, by obtain ⟨b, o, w⟩ := e; exact he⟩, id⟩
theorem SubR.t {a hs : af} {e : HE} (g : SubR a hs) : SubR a (e :: hs) :=
 ⟨fun x hx => let ⟨h1, w, h2⟩ := g.1 x hx; ⟨h1, w, List.mem_cons_of_mem _ h2⟩, fun hn => g.2 (by rw [List.map_cons, List.nodup_cons] at hn; exact hn.2)⟩
theorem SubR.app {a A hs : af} (g : SubR a hs) : SubR a (A ++ hs) :=
 ⟨fun x hx => let ⟨h1, w, h2⟩ := g.1 x hx; ⟨h1, w, List.mem_append_right _ h2⟩, fun hn => g.2 (by rw [List.map_append] at hn; exact (List.nodup_append.1 hn).2.1)⟩
theorem aS {N G K X : af} : ((N ++ K) ++ (X ++ G)).Perm ((N ++ G) ++ (K ++ X)) := by
 rw [List.append_assoc, List.append_assoc]
 refine List.Perm.append_left N ?_
 rw [<- List.append_assoc]
 exact List.perm_append_comm
theorem nx {a A hs : af} (g : SubR a hs) : SubR a (A ++ hs) := g.app
theorem se {hs : af} : ∀ e ∈ ro hs, e.w = false := by
 intro e he
 obtain ⟨x, _, rfl⟩ := List.mem_map.1 he
 rfl
theorem SubR.appl {a A hs : af} (g : SubR a A) : SubR a (A ++ hs) :=
 ⟨fun x hx => let ⟨h1, w, h2⟩ := g.1 x hx; ⟨h1, w, List.mem_append_left _ h2⟩, fun hn => g.2 (by rw [List.map_append] at hn; exact (List.nodup_append.1 hn).1)⟩
theorem NRep.node {hs : af} : ∀ {d : Nat} {c : List AV}, NRep hs d c -> ∃ k op n ms rg off md nm sd bl kd, c = b7 k op n ms rg off md nm sd bl kd /\ Bytes op /\ ms.isCell = true /\ nm.isCell = true /\ kd.isCell = true
 | 0, _, h => h.elim
 | d + 1, c, ⟨k, op, n, ms, rg, off, md, nm, sd, bl, kd, h1, h2, h3, h5, h6, h4⟩ => ⟨k, op, n, ms, rg, off, md, nm, sd, bl, kd, h1, h2, h5, h6, by rcases h4 with rfl | ⟨b, len, ob, rfl, _⟩ <;> rfl⟩
set_option maxRecDepth 100000
set_option maxHeartbeats 1000000
section
variable {tb : Tab} {n : Nat} {E : Env} {s : St} {hs : af} {R : T AV -> AHeap -> Prop} {ops rest : List Oper} {d : Nat} {ty : TypeId} {pos : String} {aft : Array Edge} {t : TypeId}
def m6 (P : AV -> Prop) : AV -> af -> Prop := fun v D => P v /\ D = []
theorem b9 {rs : List ResultVar} {P : AV -> Prop} {l : List AV} (hr : ResL tb s hs rs l) (hP : P (ac l)) : End E s hs (qW tb rs E (m6 P) .ret) :=
 End.ret hr (hs' := []) ⟨hP, rfl⟩ (fun e h => wT h) (SubH.nil _)
theorem WO.callE {of : Operand} {args : List Operand} {ts : Array TypeId} {g : Nat} {caps l l' : List AV} {hsc : af} {P : AV -> Prop} (hf : oL s of = some (.func g caps)) (ha : mY s args = some l) (hl : l ++ caps = l')
  (hsp : Spec tb g l' [] hsc (m6 P)) (hsub : SubR hsc hs) (hd : Nat.blt d n = true) (hk : ∀ v, P v -> WO tb n ops rest E ((d, v) :: s) hs R) :
  WO tb n ops (⟨some d, .call ⟨.value of, args.toArray, ts⟩, ty, pos, aft, none⟩ :: rest) E s hs R :=
 WO.call0 hf ha hl hsp hsub hd fun v' D ⟨h1, h2⟩ => by subst h2; exact hk _ h1
end
section
variable {tb : Tab} {n : Nat} {E : Env} {s : St} {hs : af} {a b : Code} {Q : Ex -> T AV -> AHeap -> Prop}
theorem sw {α : Type} (st : α -> St) (I : α -> Prop) (hb : ∀ x, I x -> W tb n b E (st x) hs Q) (ha : (∀ x, I x -> W tb n b E (st x) hs Q) -> W tb n a E s hs (Ev.K tb n b Q)) : W tb n (.seq a b) E s hs Q := W.seq (ha hb)
theorem oB {α β : Type} (st : α -> β -> St) (I : α -> β -> Prop) (hb : ∀ x y, I x y -> W tb n b E (st x y) hs Q) (ha : (∀ x y, I x y -> W tb n b E (st x y) hs Q) -> W tb n a E s hs (Ev.K tb n b Q)) : W tb n (.seq a b) E s hs Q := W.seq (ha hb)
end
theorem WD.callE {tb : Tab} {n m i : Nat} {ops rest : List Oper} {keep : af} {E : Env} {s : St} {hs : af} {R : T AV -> AHeap -> Prop} {d : Nat} {ty : TypeId} {pos : String} {aft : Array Edge} {of : Operand} {args : List Operand} {ts : Array TypeId} {g : Nat} {caps l l' : List AV} {hsc : af} {P : AV -> Prop} (hf : oL s of = some (.func g caps)) (ha : mY s args = some l) (hl : l ++ caps = l')
  (hsp : Spec tb g l' [] hsc (m6 P)) (hsub : SubR hsc hs) (hkp : KIn keep hs) (hd : Nat.blt d n = true) (hk : ∀ v, P v -> WD tb n ops keep m (i + 1) rest E ((d, v) :: s) hs R) :
  WD tb n ops keep m i (⟨some d, .call ⟨.value of, args.toArray, ts⟩, ty, pos, aft, none⟩ :: rest) E s hs R :=
 WD.l (C := fun v' hs' => P v' /\ hs' = hs) (fun tm h r e => by cases e) (fun R hR => WO.callE hf ha hl hsp hsub hd fun v hv => WO.nil (hR _ _ ⟨hv, rfl⟩))
  (fun v' hs' ⟨_, h2⟩ _ => by subst h2; exact hkp) (fun v' hs' ⟨h1, h2⟩ => by subst h2; exact hk v' h1)
theorem SubR.two {bx bt : Nat} {ox ot : AObj} {w w' : Bool} {A : af} : SubR [⟨bx, ox, false⟩, ⟨bt, ot, false⟩] (⟨bx, ox, w⟩ :: ⟨bt, ot, w'⟩ :: A) := by
 refine ⟨fun e he => ?_, fun hn => ?_⟩
 ·rcases List.mem_cons.1 he with rfl | he
  ·exact ⟨rfl, w, List.mem_cons_self⟩
  ·rcases List.mem_cons.1 he with rfl | he
   ·exact ⟨rfl, w', List.mem_cons_of_mem _ List.mem_cons_self⟩
   ·simp at he
 ·simp only [List.map_cons, List.nodup_cons, List.mem_cons, not_or] at hn
  simp only [List.map_cons, List.map_nil, List.nodup_cons, List.mem_cons, List.not_mem_nil, or_false, not_false_eq_true, List.nodup_nil, and_true]
  exact hn.1.1
theorem bG {a b : Bool} (h : a = true) (g : b = true) : (a && b) = true := by rw [h, g]; rfl
theorem WD.call1 {tb : Tab} {n m i : Nat} {ops rest : List Oper} {keep : af} {E : Env} {s : St} {hs : af} {R : T AV -> AHeap -> Prop} {d : Nat} {ty : TypeId} {pos : String} {aft : Array Edge} {of : Operand} {args : List Operand} {ts : Array TypeId} {g j b : Nat} {caps l l' : List AV} {ob : AObj} {hsc hs' : af} {Post : AV -> af -> Prop} (hf : oL s of = some (.func g caps)) (ha : mY s args = some l) (hl : l ++ caps = l')
  (hi : hs[j]? = some ⟨b, ob, true⟩) (hsp : Spec tb g l' [b] (⟨b, ob, true⟩ :: hsc) Post) (hsub : SubR hsc (hs.eraseIdx j)) (he : hs.eraseIdx j = hs') (hkp : KIn keep hs') (hd : Nat.blt d n = true)
  (hk : ∀ v D, Post v D -> WD tb n ops keep m (i + 1) rest E ((d, v) :: s) (D ++ hs') R) :
  WD tb n ops keep m i (⟨some d, .call ⟨.value of, args.toArray, ts⟩, ty, pos, aft, none⟩ :: rest) E s hs R :=
 WD.l (C := fun v hq => ∃ D, Post v D /\ hq = D ++ hs') (fun tm h r e => by cases e) (fun R hR => WO.call1 hf ha hl hi hsp hsub he hd fun v D h => WO.nil (hR _ _ ⟨D, h, rfl⟩))
  (fun v hq ⟨D, _, h2⟩ _ => by subst h2; exact fun e he => let ⟨w, hm⟩ := hkp e he; ⟨w, List.mem_append_right _ hm⟩) (fun v hq ⟨D, h1, h2⟩ => by subst h2; exact hk v D h1)
noncomputable instance decHE : DecidableEq HE := fun a b => Classical.propDecidable (a = b)
theorem dj : ∀ {a c : af}, (∀ x, a.count x <= c.count x) -> SubH a c
 | [], c, _ => SubH.nil c
 | x :: a, c, h => by
  have hx : x ∈ c := by
   have h1 := h x
   rw [List.count_cons_self] at h1
   exact List.count_pos_iff.1 zy
  have hp := List.perm_cons_erase hx
  have ih : SubH a (c.erase x) := dj fun y => by
   have h1 := h y
   rw [hp.count_eq y] at h1
   simp only [List.count_cons] at h1
   omega
  refine SubH.trans ⟨fun e he => ?_, fun hn => ?_⟩ (SubH.op hp.symm)
  ·rcases List.mem_cons.1 he with rfl | he
   ·exact List.mem_cons_self
   ·exact List.mem_cons_of_mem _ (ih.1 e he)
  ·simp only [List.map_cons, List.nodup_cons, List.mem_map] at hn ⊢
   exact ⟨fun ⟨y, hy, hb⟩ => hn.1 ⟨y, ih.1 y hy, hb⟩, ih.2 hn.2⟩
section
variable {tb : Tab} {n : Nat} {E : Env} {s : St} {hs : af} {a b : Code} {Q : Ex -> T AV -> AHeap -> Prop}
theorem kH {α β γ δ ε ζ η : Type} {b : Code} {Q} (st : α -> β -> γ -> δ -> ε -> ζ -> η -> St) (hp : α -> β -> γ -> δ -> ε -> ζ -> η -> af) (Inv : α -> β -> γ -> δ -> ε -> ζ -> η -> Prop) (μ : α -> β -> γ -> δ -> ε -> ζ -> η -> Nat) (a0 : α) (b0 : β) (c0 : γ) (d0 : δ) (e0 : ε) (f0 : ζ) (g0 : η) (h0 : Inv a0 b0 c0 d0 e0 f0 g0)
  (hsub : SubS (st a0 b0 c0 d0 e0 f0 g0) s) (hsubH : SubH (hp a0 b0 c0 d0 e0 f0 g0) hs)
  (step : ∀ a c e f g h i, Inv a c e f g h i -> (∀ a' c' e' f' g' h' i', Inv a' c' e' f' g' h' i' -> μ a' c' e' f' g' h' i' < μ a c e f g h i -> W tb n (.loop b) E (st a' c' e' f' g' h' i') (hp a' c' e' f' g' h' i') Q) -> W tb n b E (st a c e f g h i) (hp a c e f g h i) (KL tb n b Q)) :
  W tb n (.loop b) E s hs Q :=
 bF (α := α × β × γ × δ × ε × ζ × η) (fun x => st x.1 x.2.1 x.2.2.1 x.2.2.2.1 x.2.2.2.2.1 x.2.2.2.2.2.1 x.2.2.2.2.2.2) (fun x => hp x.1 x.2.1 x.2.2.1 x.2.2.2.1 x.2.2.2.2.1 x.2.2.2.2.2.1 x.2.2.2.2.2.2)
  (fun x => Inv x.1 x.2.1 x.2.2.1 x.2.2.2.1 x.2.2.2.2.1 x.2.2.2.2.2.1 x.2.2.2.2.2.2) (fun x => μ x.1 x.2.1 x.2.2.1 x.2.2.2.1 x.2.2.2.2.1 x.2.2.2.2.2.1 x.2.2.2.2.2.2)
  (a0, b0, c0, d0, e0, f0, g0) h0 hsub hsubH fun a ha ih => step a.1 a.2.1 a.2.2.1 a.2.2.2.1 a.2.2.2.2.1 a.2.2.2.2.2.1 a.2.2.2.2.2.2 ha fun a' c' e' f' g' h' i' => ih (a', c', e', f', g', h', i')
end
theorem WD.subH {tb : Tab} {n m i : Nat} {ops rest : List Oper} {keep : af} {E : Env} {s : St} {hs hs' : af} {R : T AV -> AHeap -> Prop} (h : SubH hs' hs) (g : WD tb n ops keep m i rest E s hs' R) : WD tb n ops keep m i rest E s hs R :=
 fun tm hp ht hh hk => g tm hp ht (hh.sub h) hk
theorem WD.call0 {tb : Tab} {n m i : Nat} {ops rest : List Oper} {keep : af} {E : Env} {s : St} {hs : af} {R : T AV -> AHeap -> Prop} {d : Nat} {ty : TypeId} {pos : String} {aft : Array Edge} {of : Operand} {args : List Operand} {ts : Array TypeId} {g : Nat} {caps l l' : List AV} {hsc : af} {Post : AV -> af -> Prop}
  (hf : oL s of = some (.func g caps)) (ha : mY s args = some l) (hl : l ++ caps = l') (hsp : Spec tb g l' [] hsc Post) (hsub : SubR hsc hs) (hkp : KIn keep hs) (hd : Nat.blt d n = true) (hk : ∀ v D, Post v D -> WD tb n ops keep m (i + 1) rest E ((d, v) :: s) (D ++ hs) R) :
  WD tb n ops keep m i (⟨some d, .call ⟨.value of, args.toArray, ts⟩, ty, pos, aft, none⟩ :: rest) E s hs R :=
 WD.l (C := fun v hq => ∃ D, Post v D /\ hq = D ++ hs) (fun tm h r e => by cases e) (fun R hR => WO.call0 hf ha hl hsp hsub hd fun v D h => WO.nil (hR _ _ ⟨D, h, rfl⟩))
  (fun v hq ⟨D, _, h2⟩ _ => by subst h2; exact fun e he => let ⟨w, hm⟩ := hkp e he; ⟨w, List.mem_append_right _ hm⟩) (fun v hq ⟨D, h1, h2⟩ => by subst h2; exact hk v D h1)
theorem ig {N G K X O : af} (h : O.Perm (X ++ G)) : ((N ++ K) ++ O).Perm ((N ++ G) ++ (K ++ X)) := (List.Perm.append_left _ h).trans aS
section
variable {tb : Tab} {s : St} {hs : af} {t : TypeId} {k : IntKind} {x y : List Nat}
theorem aK {ox oi : Operand} {l : List Nat} {m c : Nat} (hu : tb.und t = some .string) (hx : oL s ox = some (.str l)) (hi : oL s oi = some (.int k ((m : Nat) : Int))) (hm : m < l.length) (hc : l.getD m 0 = c) : QV tb s hs (.index t ox oi) (.int .u8 ((c : Nat) : Int)) := by
 subst hc
 exact lz hu hx hi hm
theorem fx {p : Bool} (h : decide (x = y) = p) : bz tb .eql t (.str x) (.str y) = some (.bool p) := by rw [ap, h]
theorem fy {p : Bool} (h : (!(decide (x = y))) = p) : bz tb .neq t (.str x) (.str y) = some (.bool p) := by
 rw [sM]
 rw [<- h]
 by_cases e : x = y <;> simp [e]
theorem bv_saddP {r : List Nat} (h : x ++ y = r) (hl : x.length + y.length <= 4611686018427387904 := by decide) : bz tb .add t (.str x) (.str y) = some (.str r) := by rw [sL hl, h]
end
theorem gc {a c : af} (h : ∀ x, a.count x <= c.count x := by intro x; simp only [pB, List.append_eq, List.cons_append, List.nil_append, List.append_nil, List.append_assoc, List.count_append, List.count_cons, List.count_nil]; omega) : SubH a c := dj h
theorem iF : ∀ e ∈ ([] : af), e.w = true := fun e h => by simp at h
theorem ww {e : HE} {l : af} (h : ∀ x ∈ l, x.w = true) (he : e.w = true := by rfl) : ∀ x ∈ (e :: l), x.w = true := by intro x hx; rcases List.mem_cons.1 hx with rfl | hx; exact he; exact h x hx
theorem wa {a b : af} (h : ∀ x ∈ a, x.w = true) (g : ∀ x ∈ b, x.w = true) : ∀ x ∈ (a ++ b), x.w = true := by intro x hx; rcases List.mem_append.1 hx with hx | hx; exact h x hx; exact g x hx
theorem B0 (v : AV) : ac [v] = v := rfl
end Go.Proofs.YtndhhgbpcmfeiaaGreatDoor.Ev
