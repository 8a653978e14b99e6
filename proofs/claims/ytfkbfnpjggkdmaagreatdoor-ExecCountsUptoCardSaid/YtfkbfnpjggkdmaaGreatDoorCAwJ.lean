/- Walks over the evaluator: slices of arrays, copy. -/
import Derived.Test.YtfkbfnpjggkdmaaGreatDoorCAwF
namespace Go.Proofs.YtfkbfnpjggkdmaaGreatDoor.Ev
open Go.RowKit
section
variable {tb : Tab} {n : Nat} {E : Env} {s : St} {hs : af} {R : T AV -> AHeap -> Prop} {ops rest : List Oper} {d t : Nat} {ty : TypeId} {pos : String} {aft : Array Edge}
theorem oo {ox : Operand} {b len e m : Nat} {ob : AObj} {w : Bool} (hu : tb.und t = some (.array len e)) (hz : tb.size e = some m) (hx : oL s ox = some (.ptr b 0)) (hm : ⟨b, ob, w⟩ ∈ hs)
  (hok : (Nat.beq ob.sz m && ob.exact_ && Nat.beq ob.cells.length (len * m) && Nat.blt 0 m) = true) : QV tb s hs (.slice t ox none none none) (.slice b 0 len m) := by
 intro tm h ht hh call
 show Res.q (eR tb tm h.objs t ox none none none) = _
 have hb := hh _ hm
 simp only at hb
 unfold eR
 simp only [hu, aR ht hx]
 unfold jV
 rw [AM ht (l := 0) (h := len) rfl ⟨Nat.zero_le _, Nat.le_refl _⟩]
 simp only [hz, hb, hok, Nat.sub_zero]
theorem WO.copy {ox oy : Operand} {e sz i b o len q : Nat} {tl : List Nat} {ob : AObj} {x : AV} {cs cs' : List AV} {hs' : af} (hu : tb.und t = some (.slice e)) (hz : tb.size e = some sz) (hx : oL s ox = some (.slice b o len sz)) (hy : oL s oy = some x)
  (hc : ∀ h, dj hs h -> dH h.objs sz x = some (q, cs)) (hi : hs[i]? = some ⟨b, ob, true⟩) (hok : ((Nat.beq ob.sz sz && Nat.blt 0 sz) && Nat.ble ((o + len) * sz) ob.cells.length) = true) (hr : ct ob.cells (o * sz) (cs.take (min q len * sz)) = cs')
  (he : hs.set i ⟨b, ⟨ob.sz, ob.exact_, cs'⟩, true⟩ = hs') (hd : Nat.blt d n = true) (hk : WO tb n ops rest E ((d, .int .i64 ((min q len : Nat) : Int)) :: s) hs' R) :
  WO tb n ops (⟨some d, .call ⟨.builtin .copy, #[ox, oy], (t :: tl).toArray⟩, ty, pos, aft, none⟩ :: rest) E s hs R := by
 refine WO.l (s' := s) fun tm h ht hh => ?_
 have hb := hh.at_ _ (dl hi)
 simp only at hb
 rw [Bool.and_eq_true] at hok
 subst he
 refine ⟨.int .i64 ((min q len : Nat) : Int), ⟨h.next, h.objs.set b ⟨ob.sz, ob.exact_, cs'⟩⟩, tm.set d (.int .i64 ((min q len : Nat) : Int)), ?_, aO hd, hk _ _ (ht.set d _) (hh.put hi)⟩
 show Res.l (jI tb tm h #[ox, oy] (t :: tl).toArray) = _
 unfold jI
 simp only [cC, aR ht hx, aR ht hy]
 unfold wO
 have e1 : Nat.beq sz sz = true := by simp
 simp only [hu, hz, e1, hc h hh.keep]
 unfold vd
 simp only [hb.1, hok.1, hok.2, hr]
 rfl
end
section
variable {tb : Tab} {n : Nat} {E : Env} {s : St} {hs : af} {R : T AV -> AHeap -> Prop} {ops rest : List Oper} {d t : Nat} {ty : TypeId} {pos : String} {aft : Array Edge} {k : IntKind}
theorem zi (m : Nat) : oL s (.const (.int .i64 ((m : Nat) : Int))) = some (.int .i64 ((m : Nat) : Int)) := rfl
theorem zu (m : Nat) : oL s (.const (.int .u8 ((m : Nat) : Int))) = some (.int .u8 ((m : Nat) : Int)) := rfl
theorem aI {b : St} : SubS [] b := SubS.nil b
theorem zc {a b : St} (k : Nat) {v : AV} (h : lk b k = some v) (g : SubS a b) : SubS ((k, v) :: a) b := SubS.cons h g
theorem zd {a b : St} {k : Nat} {v : AV} (h : lk b k = some v) (g : SubS a b) : SubS ((k, v) :: a) b := SubS.cons h g
theorem zq {op : Op} {v : AV} (hq : QV tb s hs op v) (hk : WO tb n ops rest E ((d, v) :: s) hs R) (hd : Nat.blt d n = true := by rfl) : WO tb n ops (⟨some d, op, ty, pos, aft, none⟩ :: rest) E s hs R := WO.q hq hd hk
theorem zm {ox : Operand} {v : AV} (hx : oL s ox = some v) (hk : WO tb n ops rest E ((d, v) :: s) hs R) (hd : Nat.blt d n = true := by rfl) : WO tb n ops (⟨some d, .move ox, ty, pos, aft, none⟩ :: rest) E s hs R := WO.q (Q.move hx) hd hk
theorem za {ox : Operand} {v : AV} (hx : oL s ox = some v) (hk : WO tb n ops rest E ((d, v) :: s) hs R) (hd : Nat.blt d n = true := by rfl) : WO tb n ops (⟨some d, .assign ox, ty, pos, aft, none⟩ :: rest) E s hs R := WO.q (Q.assign hx) hd hk
theorem zg {d0 : Nat} {op : Op} {j d : Nat} {w : Bool} (hj : lG ops j = some d) (hl : lk s d = some (.bool (!w))) (hk : WO tb n ops rest E ((d0, .tuple []) :: s) hs R) (hd : Nat.blt d0 n = true := by rfl) :
  WO tb n ops (⟨some d0, op, ty, pos, aft, some (j, w)⟩ :: rest) E s hs R := aW hj hl (.inl rfl) hd hk
theorem z1 {t : Nat} {v : AV} (h : lk s t = some v) : ResL tb s hs [.tmp t] [v] := ResL.tmp h ResL.nil
theorem zw {b : Code} {Q : Ex -> T AV -> AHeap -> Prop} (h : W tb n b E s hs Q) : W tb n .skip E s hs (Ev.K tb n b Q) := W.skip (End.K h)
theorem zk {b : Code} {Q : Ex -> T AV -> AHeap -> Prop} (h : W tb n b E s hs Q) : WO tb n ops [] E s hs (Ev.K tb n b Q .normal) := WO.nil (End.K h)
theorem zr {id : Nat} {l : List Oper} {b : Code} {Q : Ex -> T AV -> AHeap -> Prop} (h : WO tb n l l E s hs (Ev.K tb n b Q .normal)) : W tb n (.seq (.region id l.toArray false) b) E s hs Q := W.seq (W.reg h)
theorem zt {hs : af} (i : Nat) {e : HE} (h : hs[i]? = some e) : e ∈ hs := dl h
theorem zf {ox : Operand} {f B o off sz : Nat} (hf : FA tb t f = some (off, sz + 1)) (hx : oL s ox = some (.ptr B o)) (o' : Nat) (hk : WO tb n ops rest E ((d, .ptr B o') :: s) hs R) (ho : o + off = o' := by rfl) (hd : Nat.blt d n = true := by rfl) :
  WO tb n ops (⟨some d, .fieldAddr t ox f, ty, pos, aft, none⟩ :: rest) E s hs R := WO.q (Q.fieldAddr hf hx ho) hd hk
theorem zp {m j : Nat} (h : m + j <= 9223372036854775807 := by first | omega | (simp at * <;> omega)) : bC tb .add t (.int .i64 ((m : Nat) : Int)) (.int .i64 ((j : Nat) : Int)) = some (.int .i64 ((m + j : Nat) : Int)) := bc (Kv h)
theorem z2 {d0 d1 : Nat} {op o2 : Op} {j d i e : Nat} {w v : Bool} {t2 : TypeId} {p2 : String} {a2 : Array Edge} (hk : WO tb n ops rest E ((d1, .tuple []) :: (d0, .tuple []) :: s) hs R) (hj : lG ops j = some d := by exact rfl) (hl : lk s d = some (.bool (!w)) := by exact rfl) (hi : lG ops i = some e := by exact rfl) (hm : lk ((d0, .tuple []) :: s) e = some (.bool (!v)) := by exact rfl) (hd : Nat.blt d0 n = true := by rfl) (he : Nat.blt d1 n = true := by rfl) : WO tb n ops (⟨some d0, op, ty, pos, aft, some (j, w)⟩ :: ⟨some d1, o2, t2, p2, a2, some (i, v)⟩ :: rest) E s hs R := zg hj hl (zg hi hm hk he) hd
abbrev pB (X tb n a : Nat) (d e f : Int) (w : Bool) : HE := ⟨X, ⟨5, true, [.slice tb 0 (n + 1) 4, .int .i64 ((a : Nat) : Int), .int .i64 d, .int .i64 e, .int .i64 f]⟩, w⟩
theorem zX {a b : af} (h : a.Sublist b := by first | (simp; done) | (repeat (first | exact List.Sublist.refl _ | refine List.Sublist.cons_cons _ ?_ | refine List.Sublist.cons _ ?_))) : SubH a b := SubH.of_sublist h
theorem zW {l : af} (h : ∀ e ∈ l, e.w = true := by intro e he; simp at he; subst he; rfl) : ∀ e ∈ l, e.w = true := h
theorem zG {d0 : Nat} {op : Op} {j d : Nat} {w : Bool} (hk : WO tb n ops rest E ((d0, .tuple []) :: s) hs R) (hj : lG ops j = some d := by exact rfl) (hl : lk s d = some (.bool (!w)) := by exact rfl) (hd : Nat.blt d0 n = true := by rfl) : WO tb n ops (⟨some d0, op, ty, pos, aft, some (j, w)⟩ :: rest) E s hs R := zg hj hl hk hd
theorem zT {dst : Option Nat} {op : Op} {j d : Nat} {w : Bool} (hk : WO tb n ops (⟨dst, op, ty, pos, aft, none⟩ :: rest) E s hs R) (hj : lG ops j = some d := by exact rfl) (hl : lk s d = some (.bool w) := by exact rfl) : WO tb n ops (⟨dst, op, ty, pos, aft, some (j, w)⟩ :: rest) E s hs R := qh hj hl hk
theorem zS {ox oy : Operand} {i b o m : Nat} {ob : AObj} {v : AV} {a0 a1 a2 a3 a4 a5 a6 a7 a8 a9 a10 : AV} {hs' : af} (hz : tb.size t = some m) (hx : oL s ox = some (.ptr b o)) (hy : oL s oy = some v) (hm : hs[i]? = some ⟨b, ob, true⟩) (hb : (Nat.beq v.cells.length m && Nat.ble (o + m) ob.cells.length && v.cells.all AV.isCell) = true) (hc : ct ob.cells o v.cells = [a0, a1, a2, a3, a4, a5, a6, a7, a8, a9, a10]) (hs_ : hs.set i ⟨b, ⟨ob.sz, ob.exact_, [a0, a1, a2, a3, a4, a5, a6, a7, a8, a9, a10]⟩, true⟩ = hs') (hk : WO tb n ops rest E s hs' R) (hz0 : Nat.blt 0 ob.sz = true := by rfl) : WO tb n ops (⟨none, .store t ox oy, ty, pos, aft, none⟩ :: rest) E s hs R := WO.store hz hx hy hm hb hc hs_ hk hz0
theorem Kw {ox oy : Operand} {i b o m : Nat} {ob : AObj} {v : AV} {a0 a1 a2 a3 a4 : AV} {hs' : af} (hz : tb.size t = some m) (hx : oL s ox = some (.ptr b o)) (hy : oL s oy = some v) (hm : hs[i]? = some ⟨b, ob, true⟩) (hb : (Nat.beq v.cells.length m && Nat.ble (o + m) ob.cells.length && v.cells.all AV.isCell) = true) (hc : ct ob.cells o v.cells = [a0, a1, a2, a3, a4]) (hs_ : hs.set i ⟨b, ⟨ob.sz, ob.exact_, [a0, a1, a2, a3, a4]⟩, true⟩ = hs') (hk : WO tb n ops rest E s hs' R) (hz0 : Nat.blt 0 ob.sz = true := by rfl) : WO tb n ops (⟨none, .store t ox oy, ty, pos, aft, none⟩ :: rest) E s hs R := WO.store hz hx hy hm hb hc hs_ hk hz0
theorem pR {ox oy : Operand} {i b o m : Nat} {ob : AObj} {v : AV} {a0 a1 a2 : AV} {hs' : af} (hz : tb.size t = some m) (hx : oL s ox = some (.ptr b o)) (hy : oL s oy = some v) (hm : hs[i]? = some ⟨b, ob, true⟩) (hb : (Nat.beq v.cells.length m && Nat.ble (o + m) ob.cells.length && v.cells.all AV.isCell) = true) (hc : ct ob.cells o v.cells = [a0, a1, a2]) (hs_ : hs.set i ⟨b, ⟨ob.sz, ob.exact_, [a0, a1, a2]⟩, true⟩ = hs') (hk : WO tb n ops rest E s hs' R) (hz0 : Nat.blt 0 ob.sz = true := by rfl) : WO tb n ops (⟨none, .store t ox oy, ty, pos, aft, none⟩ :: rest) E s hs R := WO.store hz hx hy hm hb hc hs_ hk hz0
theorem zA {a t b o m : Nat} {ob : AObj} {w : Bool} {a0 a1 a2 a3 a4 a5 a6 a7 a8 a9 a10 : AV} {rs : List ResultVar} {l : List AV} (h : lk s a = some (.ptr b o)) (hm : ⟨b, ob, w⟩ ∈ hs) (ha : tb.isAgg t = some true) (hz : tb.size t = some m) (hc : dy ob.cells o m = some [a0, a1, a2, a3, a4, a5, a6, a7, a8, a9, a10]) (g : ResL tb s hs rs l) : ResL tb s hs (.cell a t :: rs) (.agg [a0, a1, a2, a3, a4, a5, a6, a7, a8, a9, a10] :: l) := ResL.agg h hm ha hz hc g
theorem HV {a t b o m : Nat} {ob : AObj} {w : Bool} {a0 a1 a2 : AV} {rs : List ResultVar} {l : List AV} (h : lk s a = some (.ptr b o)) (hm : ⟨b, ob, w⟩ ∈ hs) (ha : tb.isAgg t = some true) (hz : tb.size t = some m) (hc : dy ob.cells o m = some [a0, a1, a2]) (g : ResL tb s hs rs l) : ResL tb s hs (.cell a t :: rs) (.agg [a0, a1, a2] :: l) := ResL.agg h hm ha hz hc g
theorem zL {ox : Operand} {b o m : Nat} {ob : AObj} {w : Bool} {a0 a1 a2 a3 a4 a5 a6 a7 a8 a9 a10 : AV} (hx : oL s ox = some (.ptr b o)) (hm : ⟨b, ob, w⟩ ∈ hs) (ha : tb.isAgg t = some true) (hz : tb.size t = some m) (hc : dy ob.cells o m = some [a0, a1, a2, a3, a4, a5, a6, a7, a8, a9, a10]) : QV tb s hs (.load t ox) (.agg [a0, a1, a2, a3, a4, a5, a6, a7, a8, a9, a10]) := ax hx hm ha hz hc
theorem zB {l : List (Nat × Operand)} {zs : List AV} {a0 a1 a2 a3 a4 a5 a6 a7 a8 a9 a10 : AV} {pl : List (Nat × Nat)} {ps : List (Nat × AV)} (hp : PL tb t zs pl = true) (ho : Ak s l = some ps) (hi : (ps.all fun p => Nat.blt p.1 pl.length) = true) (hf : cJ (fun i => pl[i]?) zs ps = some [a0, a1, a2, a3, a4, a5, a6, a7, a8, a9, a10]) : QV tb s hs (.build t l.toArray) (.agg [a0, a1, a2, a3, a4, a5, a6, a7, a8, a9, a10]) := Q.build hp ho hi hf
end
theorem zo {p : Prop} (h : p := by first | omega | (simp at * <;> omega)) : p := h
theorem zv {a b : St} (h : SubS a b := by repeat (first | exact SubS.nil _ | refine SubS.cons rfl ?_)) : SubS a b := h
def MemH (hs : af) (b : Nat) (o : AObj) : Prop := ∃ w, (⟨b, o, w⟩ : HE) ∈ hs
theorem MemH.tl {hs : af} {b : Nat} {o : AObj} {e : HE} (h : MemH hs b o) : MemH (e :: hs) b o := let ⟨w, g⟩ := h; ⟨w, List.mem_cons_of_mem _ g⟩
theorem MemH.app {A hs : af} {b : Nat} {o : AObj} (h : MemH hs b o) : MemH (A ++ hs) b o := let ⟨w, g⟩ := h; ⟨w, List.mem_append_right _ g⟩
theorem MemH.ro {hs : af} {b : Nat} {o : AObj} (h : MemH hs b o) : MemH (ro hs) b o := let ⟨w, g⟩ := h; ⟨false, List.mem_map.2 ⟨_, g, rfl⟩⟩
def FE (k : Int) (op : List Nat) (n : Int) (ms : AV) (rg off md : Int) (nm : AV) (sd : Int) (bl : Bool) (kd : AV) : List AV :=
 [.int .i64 k, .str op, .int .i64 n, ms, .int .i64 rg, .int .i64 off, .int .i64 md, nm, .int .i64 sd, .bool bl, kd]
def NRep (hs : af) : Nat -> List AV -> Prop
 | 0, _ => False
 | d + 1, c => ∃ k op n ms rg off md nm sd bl kd, c = FE k op n ms rg off md nm sd bl kd /\ Bytes op /\ op.length <= 281474976710656 /\ ms.isCell = true /\ nm.isCell = true /\
   (kd = .nils \/ ∃ b len ob, kd = .slice b 0 len 11 /\ MemH hs b ob /\ len <= 1048576 /\ ∀ i, i < len -> ∃ c', dy ob.cells ((0 + i) * 11) 11 = some c' /\ NRep hs d c')
theorem NRep.mono {hs hs' : af} (hm : ∀ b o, MemH hs b o -> MemH hs' b o) : ∀ {d : Nat} {c : List AV}, NRep hs d c -> NRep hs' d c
 | 0, _, h => h
 | d + 1, c, ⟨k, op, n, ms, rg, off, md, nm, sd, bl, kd, h1, h2, h3, h5, h6, h4⟩ => ⟨k, op, n, ms, rg, off, md, nm, sd, bl, kd, h1, h2, h3, h5, h6, h4.imp id fun ⟨b, len, ob, g1, g2, g3, g4⟩ =>
   ⟨b, len, ob, g1, hm _ _ g2, g3, fun i hi => let ⟨c', e1, e2⟩ := g4 i hi; ⟨c', e1, NRep.mono hm e2⟩⟩⟩
theorem NRep.succ {hs : af} : ∀ {d : Nat} {c : List AV}, NRep hs d c -> NRep hs (d + 1) c
 | 0, _, h => h.elim
 | d + 1, c, ⟨k, op, n, ms, rg, off, md, nm, sd, bl, kd, h1, h2, h3, h5, h6, h4⟩ => ⟨k, op, n, ms, rg, off, md, nm, sd, bl, kd, h1, h2, h3, h5, h6, h4.imp id fun ⟨b, len, ob, g1, g2, g3, g4⟩ =>
   ⟨b, len, ob, g1, g2, g3, fun i hi => let ⟨c', e1, e2⟩ := g4 i hi; ⟨c', e1, NRep.succ e2⟩⟩⟩
theorem NRep.le {hs : af} {d : Nat} {c : List AV} (h : NRep hs d c) : ∀ {d' : Nat}, d <= d' -> NRep hs d' c := by
 intro d' hd
 induction hd with
 | refl => exact h
 | step _ ih => exact ih.succ
theorem aN {hs : af} (h : ∀ e ∈ hs, e.w = false) : SubR hs hs := ⟨fun e he => ⟨h e he, e.w, by obtain ⟨b, o, w⟩ := e; exact he⟩, id⟩
theorem aQ {a hs : af} {e : HE} (g : SubR a hs) : SubR a (e :: hs) :=
 ⟨fun x hx => let ⟨h1, w, h2⟩ := g.1 x hx; ⟨h1, w, List.mem_cons_of_mem _ h2⟩, fun hn => g.2 (by rw [List.map_cons, List.nodup_cons] at hn; exact hn.2)⟩
theorem SubR.app {a A hs : af} (g : SubR a hs) : SubR a (A ++ hs) :=
 ⟨fun x hx => let ⟨h1, w, h2⟩ := g.1 x hx; ⟨h1, w, List.mem_append_right _ h2⟩, fun hn => g.2 (by rw [List.map_append] at hn; exact (List.nodup_append.1 hn).2.1)⟩
theorem aw {N G K X : af} : ((N ++ K) ++ (X ++ G)).Perm ((N ++ G) ++ (K ++ X)) := by
 rw [List.append_assoc, List.append_assoc]
 refine List.Perm.append_left N ?_
 rw [<- List.append_assoc]
 exact List.perm_append_comm
theorem SubR.appr {a A hs : af} (g : SubR a hs) : SubR a (A ++ hs) := SubR.app g
theorem ie {hs : af} : ∀ e ∈ ro hs, e.w = false := by
 intro e he
 obtain ⟨x, _, rfl⟩ := List.mem_map.1 he
 rfl
theorem SubR.appl {a A hs : af} (g : SubR a A) : SubR a (A ++ hs) :=
 ⟨fun x hx => let ⟨h1, w, h2⟩ := g.1 x hx; ⟨h1, w, List.mem_append_left _ h2⟩, fun hn => g.2 (by rw [List.map_append] at hn; exact (List.nodup_append.1 hn).1)⟩
theorem NRep.node {hs : af} : ∀ {d : Nat} {c : List AV}, NRep hs d c -> ∃ k op n ms rg off md nm sd bl kd, c = FE k op n ms rg off md nm sd bl kd /\ Bytes op /\ ms.isCell = true /\ nm.isCell = true /\ kd.isCell = true
 | 0, _, h => h.elim
 | d + 1, c, ⟨k, op, n, ms, rg, off, md, nm, sd, bl, kd, h1, h2, h3, h5, h6, h4⟩ => ⟨k, op, n, ms, rg, off, md, nm, sd, bl, kd, h1, h2, h5, h6, by rcases h4 with rfl | ⟨b, len, ob, rfl, _⟩ <;> rfl⟩
structure InB where
 bi : BI
 live : Bool
 cells : List AV
def injIn (I : List InB) : Inj := fun b => (I[b]?).map (·.bi)
noncomputable def js : Nat -> List InB -> T AObj
 | _, [] => .leaf
 | i, x :: l => match x.live with
  | true => (js (i + 1) l).set i ⟨0, false, x.cells⟩
  | false => js (i + 1) l
theorem g9 : ∀ (l : List InB) (i k : Nat) (o : AObj), (js i l).get k = some o -> ∃ x, i <= k /\ l[k - i]? = some x /\ x.live = true /\ o = ⟨0, false, x.cells⟩
 | [], i, k, o, h => by simp [js, bG] at h
 | x :: l, i, k, o, h => by
  unfold js at h
  cases hx : x.live with
  | true =>
   rw [hx] at h
   simp only [az] at h
   split at h
   ·rename_i e
    subst e
    simp only [Option.some.injEq] at h
    exact ⟨x, Nat.le_refl _, by simp, hx, h.symm⟩
   ·obtain ⟨y, h1, h2, h3, h4⟩ := g9 l (i + 1) k o h
    refine ⟨y, by omega, ?_, h3, h4⟩
    have : k - i = (k - (i + 1)) + 1 := by omega
    rw [this, List.getElem?_cons_succ]; exact h2
  | false =>
   rw [hx] at h
   obtain ⟨y, h1, h2, h3, h4⟩ := g9 l (i + 1) k o h
   refine ⟨y, by omega, ?_, h3, h4⟩
   have : k - i = (k - (i + 1)) + 1 := by omega
   rw [this, List.getElem?_cons_succ]; exact h2
theorem qV : ∀ (l : List InB) (i k : Nat) (x : InB), l[k]? = some x -> x.live = true -> (js i l).get (i + k) = some ⟨0, false, x.cells⟩
 | [], i, k, x, h, _ => by simp at h
 | y :: l, i, 0, x, h, hl => by
  simp at h
  subst h
  unfold js
  rw [hl]
  simp [az]
 | y :: l, i, k + 1, x, h, hl => by
  have h := qV l (i + 1) k x (by simpa using h) hl
  have e : i + 1 + k = i + (k + 1) := by omega
  rw [e] at h
  unfold js
  cases y.live with
  | true => simp only [az]; rw [if_neg zy]; exact h
  | false => exact h
noncomputable def BY (I : List InB) : AHeap := ⟨I.length, js 0 I⟩
def InOK (w : World) (I : List InB) : Prop := ∀ x ∈ I, x.live = true -> x.bi.val = undef /\ ∃ c e fr, w.heap[x.bi.blk]? = some (.cells c e fr) /\ ∀ k v, x.cells[k]? = some v -> v.isCell = true /\ ∃ u, c[x.bi.off + k]? = some u /\ VRel (injIn I) v u
def Ar (I : List InB) (hs : af) : Prop := (hs.map (·.b)).Nodup /\ ∀ e ∈ hs, e.w = false /\ ∃ x, I[e.b]? = some x /\ x.live = true /\ e.o = ⟨0, false, x.cells⟩
set_option maxRecDepth 100000
set_option maxHeartbeats 1000000
section
variable {tb : Tab} {n : Nat} {E : Env} {s : St} {hs : af} {R : T AV -> AHeap -> Prop} {ops rest : List Oper} {d : Nat} {ty : TypeId} {pos : String} {aft : Array Edge} {t : TypeId}
def ij (P : AV -> Prop) : AV -> af -> Prop := fun v D => P v /\ D = []
theorem ar {rs : List ResultVar} {P : AV -> Prop} {l : List AV} (hr : ResL tb s hs rs l) (hP : P (bW l)) : End E s hs (l4 tb rs E (ij P) .ret) :=
 End.ret hr (hs' := []) ⟨hP, rfl⟩ (fun e h => sx h) (SubH.nil _)
theorem WO.callE {of : Operand} {args : List Operand} {ts : Array TypeId} {g : Nat} {caps l l' : List AV} {hsc : af} {P : AV -> Prop} (hf : oL s of = some (.func g caps)) (ha : sy s args = some l) (hl : dS l caps = l')
  (hsp : Spec tb g l' [] hsc (ij P)) (hsub : SubR hsc hs) (hd : Nat.blt d n = true) (hk : ∀ v, P v -> WO tb n ops rest E ((d, v) :: s) hs R) :
  WO tb n ops (⟨some d, .call ⟨.value of, args.toArray, ts⟩, ty, pos, aft, none⟩ :: rest) E s hs R :=
 WO.call0 hf ha hl hsp hsub hd fun v' D ⟨h1, h2⟩ => by subst h2; exact hk _ h1
end
section
variable {tb : Tab} {n : Nat} {E : Env} {s : St} {hs : af} {a b : Code} {Q : Ex -> T AV -> AHeap -> Prop}
theorem wh {α : Type} (st : α -> St) (hp : α -> af) (I : α -> Prop) (hb : ∀ x, I x -> W tb n b E (st x) (hp x) Q) (ha : (∀ x, I x -> W tb n b E (st x) (hp x) Q) -> W tb n a E s hs (Ev.K tb n b Q)) : W tb n (.seq a b) E s hs Q := W.seq (ha hb)
theorem j5 {α : Type} (st : α -> St) (I : α -> Prop) (hb : ∀ x, I x -> W tb n b E (st x) hs Q) (ha : (∀ x, I x -> W tb n b E (st x) hs Q) -> W tb n a E s hs (Ev.K tb n b Q)) : W tb n (.seq a b) E s hs Q := W.seq (ha hb)
theorem wj {α β : Type} (st : α -> β -> St) (I : α -> β -> Prop) (hb : ∀ x y, I x y -> W tb n b E (st x y) hs Q) (ha : (∀ x y, I x y -> W tb n b E (st x y) hs Q) -> W tb n a E s hs (Ev.K tb n b Q)) : W tb n (.seq a b) E s hs Q := W.seq (ha hb)
theorem DD {α β γ : Type} (st : α -> β -> γ -> St) (I : α -> β -> γ -> Prop) (hb : ∀ x y z, I x y z -> W tb n b E (st x y z) hs Q) (ha : (∀ x y z, I x y z -> W tb n b E (st x y z) hs Q) -> W tb n a E s hs (Ev.K tb n b Q)) : W tb n (.seq a b) E s hs Q := W.seq (ha hb)
theorem DC {α β : Type} (st : α -> β -> St) (hp : α -> β -> af) (I : α -> β -> Prop) (hb : ∀ x y, I x y -> W tb n b E (st x y) (hp x y) Q) (ha : (∀ x y, I x y -> W tb n b E (st x y) (hp x y) Q) -> W tb n a E s hs (Ev.K tb n b Q)) : W tb n (.seq a b) E s hs Q := W.seq (ha hb)
end
theorem WD.callE {tb : Tab} {n m i : Nat} {ops rest : List Oper} {keep : af} {E : Env} {s : St} {hs : af} {R : T AV -> AHeap -> Prop} {d : Nat} {ty : TypeId} {pos : String} {aft : Array Edge} {of : Operand} {args : List Operand} {ts : Array TypeId} {g : Nat} {caps l l' : List AV} {hsc : af} {P : AV -> Prop} (hf : oL s of = some (.func g caps)) (ha : sy s args = some l) (hl : dS l caps = l')
  (hsp : Spec tb g l' [] hsc (ij P)) (hsub : SubR hsc hs) (hkp : KIn keep hs) (hd : Nat.blt d n = true) (hk : ∀ v, P v -> WD tb n ops keep m (i + 1) rest E ((d, v) :: s) hs R) :
  WD tb n ops keep m i (⟨some d, .call ⟨.value of, args.toArray, ts⟩, ty, pos, aft, none⟩ :: rest) E s hs R :=
 WD.l (C := fun v' hs' => P v' /\ hs' = hs) (fun tm h r e => by cases e) (fun R hR => WO.callE hf ha hl hsp hsub hd fun v hv => WO.nil (hR _ _ ⟨hv, rfl⟩))
  (fun v' hs' ⟨_, h2⟩ _ => by subst h2; exact hkp) (fun v' hs' ⟨h1, h2⟩ => by subst h2; exact hk v' h1)
theorem uZ {tb : Tab} {t : Nat} {a b : Bool} (hu : tb.und t = some .bool) : bC tb .neq t (.bool a) (.bool b) = some (.bool (!(a == b))) := by
 show (match ef tb 20 t (.bool a) (.bool b) with | some b => some (AV.bool (!b)) | none => none) = _
 unfold ef
 simp only [hu]
 rfl
theorem wD {tb : Tab} {t : Nat} {a b : Bool} (hu : tb.und t = some .bool) : bC tb .eql t (.bool a) (.bool b) = some (.bool (a == b)) := by
 show (match ef tb 20 t (.bool a) (.bool b) with | some b => some (AV.bool b) | none => none) = _
 unfold ef
 simp only [hu]
 rfl
theorem W.loop_ind6 {tb : Tab} {n : Nat} {E : Env} {s : St} {hs : af} {α β γ δ ε ζ : Type} {b : Code} {Q} (st : α -> β -> γ -> δ -> ε -> ζ -> St) (hp : α -> β -> γ -> δ -> ε -> ζ -> af) (Inv : α -> β -> γ -> δ -> ε -> ζ -> Prop) (μ : α -> β -> γ -> δ -> ε -> ζ -> Nat) (a0 : α) (b0 : β) (c0 : γ) (d0 : δ) (e0 : ε) (f0 : ζ)
  (h0 : Inv a0 b0 c0 d0 e0 f0) (hsub : SubS (st a0 b0 c0 d0 e0 f0) s) (hsubH : SubH (hp a0 b0 c0 d0 e0 f0) hs)
  (step : ∀ a c e f g h, Inv a c e f g h -> (∀ a' c' e' f' g' h', Inv a' c' e' f' g' h' -> μ a' c' e' f' g' h' < μ a c e f g h -> W tb n (.loop b) E (st a' c' e' f' g' h') (hp a' c' e' f' g' h') Q) -> W tb n b E (st a c e f g h) (hp a c e f g h) (KL tb n b Q)) : W tb n (.loop b) E s hs Q :=
 W.loop_ind (α := α × β × γ × δ × ε × ζ) (fun x => st x.1 x.2.1 x.2.2.1 x.2.2.2.1 x.2.2.2.2.1 x.2.2.2.2.2) (fun x => hp x.1 x.2.1 x.2.2.1 x.2.2.2.1 x.2.2.2.2.1 x.2.2.2.2.2) (fun x => Inv x.1 x.2.1 x.2.2.1 x.2.2.2.1 x.2.2.2.2.1 x.2.2.2.2.2) (fun x => μ x.1 x.2.1 x.2.2.1 x.2.2.2.1 x.2.2.2.2.1 x.2.2.2.2.2) (a0, b0, c0, d0, e0, f0) h0 hsub hsubH
  fun a ha ih => step a.1 a.2.1 a.2.2.1 a.2.2.2.1 a.2.2.2.2.1 a.2.2.2.2.2 ha fun a' c' e' f' g' h' => ih (a', c', e', f', g', h')
theorem j6 {tb : Tab} {n : Nat} {E : Env} {s : St} {hs : af} {R : T AV -> AHeap -> Prop} {ops rest : List Oper} {d : Nat} {ty : TypeId} {pos : String} {aft : Array Edge} {t : TypeId} {ox oy : Operand} {t2 sz m : Nat} {tl : List Nat} {e : HE} {A : af} {new : List AV} (ha : AP tb t t2 = some sz) (hx : oL s ox = some .nils) (hy : oL s oy = some (.slice e.b 0 m sz)) (hsz : e.o.cells = new)
  (hl : new.length = m * sz) (hn : 0 < m /\ 0 + m <= 1073741824) (hz : 0 < sz) (hs_ : hs = e :: A) (hd : Nat.blt d n = true)
  (hk : ∀ v' hp', Own sz ([] ++ new) (0 + m) v' hp' -> WO tb n ops rest E ((d, v') :: s) (A ++ hp') R) :
  WO tb n ops (⟨some d, .call ⟨.builtin .append, #[ox, oy], (t :: t2 :: tl).toArray⟩, ty, pos, aft, none⟩ :: rest) E s hs R :=
 cw (hp := []) ha (Own.nil sz) hx hy hsz hl hn hz (by rw [hs_, List.append_nil]) hd hk
theorem SubR.two {bx bt : Nat} {ox ot : AObj} {w w' : Bool} {A : af} : SubR [⟨bx, ox, false⟩, ⟨bt, ot, false⟩] (⟨bx, ox, w⟩ :: ⟨bt, ot, w'⟩ :: A) := by
 refine ⟨fun e he => ?_, fun hn => ?_⟩
 ·rcases List.mem_cons.1 he with rfl | he
  ·exact ⟨rfl, w, List.mem_cons_self⟩
  ·rcases List.mem_cons.1 he with rfl | he
   ·exact ⟨rfl, w', List.mem_cons_of_mem _ List.mem_cons_self⟩
   ·simp at he
 ·simp only [List.map_cons, List.nodup_cons, List.mem_cons, not_or] at hn
  simp only [List.map_cons, List.map_nil, List.nodup_cons, List.mem_cons, List.not_mem_nil, or_false, not_false_eq_true, List.nodup_nil, and_true]
  exact hn.1.1
theorem SubR.pair {bx bt i j : Nat} {ox ot : AObj} {w w' : Bool} {hs : af} (h1 : hs[i]? = some ⟨bx, ox, w⟩) (h2 : hs[j]? = some ⟨bt, ot, w'⟩) (hij : i ≠ j) : SubR [⟨bx, ox, false⟩, ⟨bt, ot, false⟩] hs := by
 refine ⟨fun e he => ?_, fun hn => ?_⟩
 ·rcases List.mem_cons.1 he with rfl | he
  ·exact ⟨rfl, w, List.mem_of_getElem? h1⟩
  ·rcases List.mem_cons.1 he with rfl | he
   ·exact ⟨rfl, w', List.mem_of_getElem? h2⟩
   ·simp at he
 ·have e1 : (hs.map (·.b))[i]? = some bx := by rw [List.getElem?_map, h1]; rfl
  have e2 : (hs.map (·.b))[j]? = some bt := by rw [List.getElem?_map, h2]; rfl
  have hne : bx ≠ bt := by
   intro e
   have hi : i < (hs.map (·.b)).length := (List.getElem?_eq_some_iff.1 e1).1
   exact hij ((List.getElem?_inj hi hn).1 (by rw [e1, e2, e]))
  simp only [List.map_cons, List.map_nil, List.nodup_cons, List.mem_cons, List.not_mem_nil, or_false, not_false_eq_true, List.nodup_nil, and_true]
  exact hne
theorem rC {a b : Bool} (h : a = true) (g : b = true) : (a && b) = true := by rw [h, g]; rfl
theorem WD.call1 {tb : Tab} {n m i : Nat} {ops rest : List Oper} {keep : af} {E : Env} {s : St} {hs : af} {R : T AV -> AHeap -> Prop} {d : Nat} {ty : TypeId} {pos : String} {aft : Array Edge} {of : Operand} {args : List Operand} {ts : Array TypeId} {g j b : Nat} {caps l l' : List AV} {ob : AObj} {hsc hs' : af} {Post : AV -> af -> Prop} (hf : oL s of = some (.func g caps)) (ha : sy s args = some l) (hl : dS l caps = l')
  (hi : hs[j]? = some ⟨b, ob, true⟩) (hsp : Spec tb g l' [b] (⟨b, ob, true⟩ :: hsc) Post) (hsub : SubR hsc (hs.eraseIdx j)) (he : hs.eraseIdx j = hs') (hkp : KIn keep hs') (hd : Nat.blt d n = true)
  (hk : ∀ v D, Post v D -> WD tb n ops keep m (i + 1) rest E ((d, v) :: s) (D ++ hs') R) :
  WD tb n ops keep m i (⟨some d, .call ⟨.value of, args.toArray, ts⟩, ty, pos, aft, none⟩ :: rest) E s hs R :=
 WD.l (C := fun v hq => ∃ D, Post v D /\ hq = D ++ hs') (fun tm h r e => by cases e) (fun R hR => WO.call1 hf ha hl hi hsp hsub he hd fun v D h => WO.nil (hR _ _ ⟨D, h, rfl⟩))
  (fun v hq ⟨D, _, h2⟩ _ => by subst h2; exact fun e he => let ⟨w, hm⟩ := hkp e he; ⟨w, List.mem_append_right _ hm⟩) (fun v hq ⟨D, h1, h2⟩ => by subst h2; exact hk v D h1)
noncomputable instance decHE : DecidableEq HE := fun a b => Classical.propDecidable (a = b)
theorem iD : ∀ {a c : af}, (∀ x, a.count x <= c.count x) -> SubH a c
 | [], c, _ => SubH.nil c
 | x :: a, c, h => by
  have hx : x ∈ c := by
   have h1 := h x
   rw [List.count_cons_self] at h1
   exact List.count_pos_iff.1 zy
  have hp := List.perm_cons_erase hx
  have ih : SubH a (c.erase x) := iD fun y => by
   have h1 := h y
   rw [hp.count_eq y] at h1
   simp only [List.count_cons] at h1
   omega
  refine SubH.trans ⟨fun e he => ?_, fun hn => ?_⟩ (SubH.op hp.symm)
  ·rcases List.mem_cons.1 he with rfl | he
   ·exact List.mem_cons_self
   ·exact List.mem_cons_of_mem _ (ih.1 e he)
  ·simp only [List.map_cons, List.nodup_cons, List.mem_map] at hn ⊢
   exact ⟨fun ⟨y, hy, hb⟩ => hn.1 ⟨y, ih.1 y hy, hb⟩, ih.2 hn.2⟩
section
variable {tb : Tab} {n : Nat} {E : Env} {s : St} {hs : af} {a b : Code} {Q : Ex -> T AV -> AHeap -> Prop}
theorem wi {α β γ δ ε : Type} (st : α -> β -> γ -> δ -> ε -> St) (hp : α -> β -> γ -> δ -> ε -> af) (I : α -> β -> γ -> δ -> ε -> Prop) (hb : ∀ x y z u v, I x y z u v -> W tb n b E (st x y z u v) (hp x y z u v) Q)
  (ha : (∀ x y z u v, I x y z u v -> W tb n b E (st x y z u v) (hp x y z u v) Q) -> W tb n a E s hs (Ev.K tb n b Q)) : W tb n (.seq a b) E s hs Q := W.seq (ha hb)
theorem m5 {α β γ δ ε ζ η : Type} {b : Code} {Q} (st : α -> β -> γ -> δ -> ε -> ζ -> η -> St) (hp : α -> β -> γ -> δ -> ε -> ζ -> η -> af) (Inv : α -> β -> γ -> δ -> ε -> ζ -> η -> Prop) (μ : α -> β -> γ -> δ -> ε -> ζ -> η -> Nat) (a0 : α) (b0 : β) (c0 : γ) (d0 : δ) (e0 : ε) (f0 : ζ) (g0 : η) (h0 : Inv a0 b0 c0 d0 e0 f0 g0)
  (hsub : SubS (st a0 b0 c0 d0 e0 f0 g0) s) (hsubH : SubH (hp a0 b0 c0 d0 e0 f0 g0) hs)
  (step : ∀ a c e f g h i, Inv a c e f g h i -> (∀ a' c' e' f' g' h' i', Inv a' c' e' f' g' h' i' -> μ a' c' e' f' g' h' i' < μ a c e f g h i -> W tb n (.loop b) E (st a' c' e' f' g' h' i') (hp a' c' e' f' g' h' i') Q) -> W tb n b E (st a c e f g h i) (hp a c e f g h i) (KL tb n b Q)) :
  W tb n (.loop b) E s hs Q :=
 W.loop_ind (α := α × β × γ × δ × ε × ζ × η) (fun x => st x.1 x.2.1 x.2.2.1 x.2.2.2.1 x.2.2.2.2.1 x.2.2.2.2.2.1 x.2.2.2.2.2.2) (fun x => hp x.1 x.2.1 x.2.2.1 x.2.2.2.1 x.2.2.2.2.1 x.2.2.2.2.2.1 x.2.2.2.2.2.2)
  (fun x => Inv x.1 x.2.1 x.2.2.1 x.2.2.2.1 x.2.2.2.2.1 x.2.2.2.2.2.1 x.2.2.2.2.2.2) (fun x => μ x.1 x.2.1 x.2.2.1 x.2.2.2.1 x.2.2.2.2.1 x.2.2.2.2.2.1 x.2.2.2.2.2.2)
  (a0, b0, c0, d0, e0, f0, g0) h0 hsub hsubH fun a ha ih => step a.1 a.2.1 a.2.2.1 a.2.2.2.1 a.2.2.2.2.1 a.2.2.2.2.2.1 a.2.2.2.2.2.2 ha fun a' c' e' f' g' h' i' => ih (a', c', e', f', g', h', i')
end
theorem WD.subH {tb : Tab} {n m i : Nat} {ops rest : List Oper} {keep : af} {E : Env} {s : St} {hs hs' : af} {R : T AV -> AHeap -> Prop} (h : SubH hs' hs) (g : WD tb n ops keep m i rest E s hs' R) : WD tb n ops keep m i rest E s hs R :=
 fun tm hp ht hh hk => g tm hp ht (hh.sub h) hk
theorem WD.call0 {tb : Tab} {n m i : Nat} {ops rest : List Oper} {keep : af} {E : Env} {s : St} {hs : af} {R : T AV -> AHeap -> Prop} {d : Nat} {ty : TypeId} {pos : String} {aft : Array Edge} {of : Operand} {args : List Operand} {ts : Array TypeId} {g : Nat} {caps l l' : List AV} {hsc : af} {Post : AV -> af -> Prop}
  (hf : oL s of = some (.func g caps)) (ha : sy s args = some l) (hl : dS l caps = l') (hsp : Spec tb g l' [] hsc Post) (hsub : SubR hsc hs) (hkp : KIn keep hs) (hd : Nat.blt d n = true) (hk : ∀ v D, Post v D -> WD tb n ops keep m (i + 1) rest E ((d, v) :: s) (D ++ hs) R) :
  WD tb n ops keep m i (⟨some d, .call ⟨.value of, args.toArray, ts⟩, ty, pos, aft, none⟩ :: rest) E s hs R :=
 WD.l (C := fun v hq => ∃ D, Post v D /\ hq = D ++ hs) (fun tm h r e => by cases e) (fun R hR => WO.call0 hf ha hl hsp hsub hd fun v D h => WO.nil (hR _ _ ⟨D, h, rfl⟩))
  (fun v hq ⟨D, _, h2⟩ _ => by subst h2; exact fun e he => let ⟨w, hm⟩ := hkp e he; ⟨w, List.mem_append_right _ hm⟩) (fun v hq ⟨D, h1, h2⟩ => by subst h2; exact hk v D h1)
theorem vP {N G K X O : af} (h : O.Perm (X ++ G)) : ((N ++ K) ++ O).Perm ((N ++ G) ++ (K ++ X)) := (List.Perm.append_left _ h).trans aw
section
variable {tb : Tab} {s : St} {hs : af} {t : TypeId} {k : IntKind} {x y : List Nat}
theorem dY {ox oi : Operand} {l : List Nat} {m c : Nat} (hu : tb.und t = some .string) (hx : oL s ox = some (.str l)) (hi : oL s oi = some (.int k ((m : Nat) : Int))) (hm : m < l.length) (hc : l.getD m 0 = c) : QV tb s hs (.index t ox oi) (.int .u8 ((c : Nat) : Int)) := by
 subst hc
 exact sW hu hx hi hm
theorem aH {p : Bool} (h : decide (x = y) = p) : bC tb .eql t (.str x) (.str y) = some (.bool p) := by rw [jb, h]
theorem AT {p : Bool} (h : (!(decide (x = y))) = p) : bC tb .neq t (.str x) (.str y) = some (.bool p) := by
 rw [lx]
 rw [<- h]
 by_cases e : x = y <;> simp [e]
theorem tg {r : List Nat} (h : x ++ y = r) (hl : x.length + y.length <= 4611686018427387904 := by decide) : bC tb .add t (.str x) (.str y) = some (.str r) := by rw [DR hl, h]
end
theorem gc {a c : af} (h : ∀ x, a.count x <= c.count x := by intro x; simp only [pB, List.append_eq, List.cons_append, List.nil_append, List.append_nil, List.append_assoc, List.count_append, List.count_cons, List.count_nil]; omega) : SubH a c := iD h
theorem dB : ∀ e ∈ ([] : af), e.w = true := fun e h => by simp at h
theorem wa {a b : af} (h : ∀ x ∈ a, x.w = true) (g : ∀ x ∈ b, x.w = true) : ∀ x ∈ (a ++ b), x.w = true := by intro x hx; rcases List.mem_append.1 hx with hx | hx; exact h x hx; exact g x hx
theorem fz (v : AV) : bW [v] = v := rfl
end Go.Proofs.YtfkbfnpjggkdmaaGreatDoor.Ev
