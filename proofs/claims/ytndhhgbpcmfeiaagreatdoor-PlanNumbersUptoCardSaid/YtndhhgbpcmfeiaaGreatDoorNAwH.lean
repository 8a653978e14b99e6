/- Walks over the evaluator: slices of arrays, copy. -/
import Derived.Test.YtndhhgbpcmfeiaaGreatDoorNAwF
namespace Go.Proofs.YtndhhgbpcmfeiaaGreatDoor.Ev
open Go.RowKit
section
variable {tb : Tab} {n : Nat} {E : Env} {s : St} {hs : af} {R : T AV -> AHeap -> Prop} {ops rest : List Oper} {d t : Nat} {ty : TypeId} {pos : String} {aft : Array Edge}
theorem uE {ox : Operand} {b len e m : Nat} {ob : AObj} {w : Bool} (hu : tb.und t = some (.array len e)) (hz : tb.size e = some m) (hx : oL s ox = some (.ptr b 0)) (hm : ⟨b, ob, w⟩ ∈ hs)
  (hok : (Nat.beq ob.sz m && ob.exact_ && Nat.beq ob.cells.length (len * m) && Nat.blt 0 m) = true) : QV tb s hs (.slice t ox none none none) (.slice b 0 len m) := by
 intro tm h ht hh call
 show Res.q (ep tb tm h.objs t ox none none none) = _
 have hb := hh _ hm
 simp only at hb
 unfold ep
 simp only [hu, aW ht hx]
 unfold iJ
 rw [AC ht (l := 0) (h := len) rfl ⟨Nat.zero_le _, Nat.le_refl _⟩]
 simp only [hz, hb, hok, Nat.sub_zero]
theorem WO.copy {ox oy : Operand} {e sz i b o len q : Nat} {tl : List Nat} {ob : AObj} {x : AV} {cs cs' : List AV} {hs' : af} (hu : tb.und t = some (.slice e)) (hz : tb.size e = some sz) (hx : oL s ox = some (.slice b o len sz)) (hy : oL s oy = some x)
  (hc : ∀ h, cT hs h -> cJ h.objs sz x = some (q, cs)) (hi : hs[i]? = some ⟨b, ob, true⟩) (hok : ((Nat.beq ob.sz sz && Nat.blt 0 sz) && Nat.ble ((o + len) * sz) ob.cells.length) = true) (hr : cn ob.cells (o * sz) (cs.take (min q len * sz)) = cs')
  (he : hs.set i ⟨b, ⟨ob.sz, ob.exact_, cs'⟩, true⟩ = hs') (hd : Nat.blt d n = true) (hk : WO tb n ops rest E ((d, .int .i64 ((min q len : Nat) : Int)) :: s) hs' R) :
  WO tb n ops (⟨some d, .call ⟨.builtin .copy, #[ox, oy], (t :: tl).toArray⟩, ty, pos, aft, none⟩ :: rest) E s hs R := by
 refine WO.l (s' := s) fun tm h ht hh => ?_
 have hb := hh.at_ _ (ey hi)
 simp only at hb
 rw [Bool.and_eq_true] at hok
 subst he
 refine ⟨.int .i64 ((min q len : Nat) : Int), ⟨h.next, h.objs.set b ⟨ob.sz, ob.exact_, cs'⟩⟩, tm.set d (.int .i64 ((min q len : Nat) : Int)), ?_, aT hd, hk _ _ (ht.set d _) (hh.put hi)⟩
 show Res.l (iB tb tm h #[ox, oy] (t :: tl).toArray) = _
 unfold iB
 simp only [cf, aW ht hx, aW ht hy]
 unfold sS
 have e1 : Nat.beq sz sz = true := by simp
 simp only [hu, hz, e1, hc h hh.keep]
 unfold rq
 simp only [hb.1, hok.1, hok.2, hr]
 rfl
end
section
variable {tb : Tab} {n : Nat} {E : Env} {s : St} {hs : af} {R : T AV -> AHeap -> Prop} {ops rest : List Oper} {d t : Nat} {ty : TypeId} {pos : String} {aft : Array Edge} {k : IntKind}
theorem zi (m : Nat) : oL s (.const (.int .i64 ((m : Nat) : Int))) = some (.int .i64 ((m : Nat) : Int)) := rfl
theorem zu (m : Nat) : oL s (.const (.int .u8 ((m : Nat) : Int))) = some (.int .u8 ((m : Nat) : Int)) := rfl
theorem aU {b : St} : SubS [] b := SubS.nil b
theorem zc {a b : St} (k : Nat) {v : AV} (h : lk b k = some v) (g : SubS a b) : SubS ((k, v) :: a) b := SubS.cons h g
theorem zd {a b : St} {k : Nat} {v : AV} (h : lk b k = some v) (g : SubS a b) : SubS ((k, v) :: a) b := SubS.cons h g
theorem zq {op : Op} {v : AV} (hq : QV tb s hs op v) (hk : WO tb n ops rest E ((d, v) :: s) hs R) (hd : Nat.blt d n = true := by rfl) : WO tb n ops (⟨some d, op, ty, pos, aft, none⟩ :: rest) E s hs R := WO.q hq hd hk
theorem zm {ox : Operand} {v : AV} (hx : oL s ox = some v) (hk : WO tb n ops rest E ((d, v) :: s) hs R) (hd : Nat.blt d n = true := by rfl) : WO tb n ops (⟨some d, .move ox, ty, pos, aft, none⟩ :: rest) E s hs R := WO.q (Q.move hx) hd hk
theorem za {ox : Operand} {v : AV} (hx : oL s ox = some v) (hk : WO tb n ops rest E ((d, v) :: s) hs R) (hd : Nat.blt d n = true := by rfl) : WO tb n ops (⟨some d, .assign ox, ty, pos, aft, none⟩ :: rest) E s hs R := WO.q (Q.assign hx) hd hk
theorem zg {d0 : Nat} {op : Op} {j d : Nat} {w : Bool} (hj : jQ ops j = some d) (hl : lk s d = some (.bool (!w))) (hk : WO tb n ops rest E ((d0, .tuple []) :: s) hs R) (hd : Nat.blt d0 n = true := by rfl) :
  WO tb n ops (⟨some d0, op, ty, pos, aft, some (j, w)⟩ :: rest) E s hs R := dD hj hl (.inl rfl) hd hk
theorem z1 {t : Nat} {v : AV} (h : lk s t = some v) : ResL tb s hs [.tmp t] [v] := ResL.tmp h ResL.nil
theorem zw {b : Code} {Q : Ex -> T AV -> AHeap -> Prop} (h : W tb n b E s hs Q) : W tb n .skip E s hs (Ev.K tb n b Q) := W.skip (End.K h)
theorem zk {b : Code} {Q : Ex -> T AV -> AHeap -> Prop} (h : W tb n b E s hs Q) : WO tb n ops [] E s hs (Ev.K tb n b Q .normal) := WO.nil (End.K h)
theorem zr {id : Nat} {l : List Oper} {b : Code} {Q : Ex -> T AV -> AHeap -> Prop} (h : WO tb n l l E s hs (Ev.K tb n b Q .normal)) : W tb n (.seq (.region id l.toArray false) b) E s hs Q := W.seq (aF h)
theorem zt {hs : af} (i : Nat) {e : HE} (h : hs[i]? = some e) : e ∈ hs := ey h
theorem zf {ox : Operand} {f B o off sz : Nat} (hf : FA tb t f = some (off, sz + 1)) (hx : oL s ox = some (.ptr B o)) (o' : Nat) (hk : WO tb n ops rest E ((d, .ptr B o') :: s) hs R) (ho : o + off = o' := by rfl) (hd : Nat.blt d n = true := by rfl) :
  WO tb n ops (⟨some d, .fieldAddr t ox f, ty, pos, aft, none⟩ :: rest) E s hs R := WO.q (Q.fieldAddr hf hx ho) hd hk
theorem zp {m j : Nat} (h : m + j <= 9223372036854775807 := by first | omega | (simp at * <;> omega)) : bz tb .add t (.int .i64 ((m : Nat) : Int)) (.int .i64 ((j : Nat) : Int)) = some (.int .i64 ((m + j : Nat) : Int)) := cW (El h)
theorem z2 {d0 d1 : Nat} {op o2 : Op} {j d i e : Nat} {w v : Bool} {t2 : TypeId} {p2 : String} {a2 : Array Edge} (hk : WO tb n ops rest E ((d1, .tuple []) :: (d0, .tuple []) :: s) hs R) (hj : jQ ops j = some d := by exact rfl) (hl : lk s d = some (.bool (!w)) := by exact rfl) (hi : jQ ops i = some e := by exact rfl) (hm : lk ((d0, .tuple []) :: s) e = some (.bool (!v)) := by exact rfl) (hd : Nat.blt d0 n = true := by rfl) (he : Nat.blt d1 n = true := by rfl) : WO tb n ops (⟨some d0, op, ty, pos, aft, some (j, w)⟩ :: ⟨some d1, o2, t2, p2, a2, some (i, v)⟩ :: rest) E s hs R := zg hj hl (zg hi hm hk he) hd
abbrev pB (X tb n a : Nat) (d e f : Int) (w : Bool) : HE := ⟨X, ⟨5, true, [.slice tb 0 (n + 1) 4, .int .i64 ((a : Nat) : Int), .int .i64 d, .int .i64 e, .int .i64 f]⟩, w⟩
theorem zX {a b : af} (h : a.Sublist b := by first | (simp; done) | (repeat (first | exact List.Sublist.refl _ | refine List.Sublist.cons_cons _ ?_ | refine List.Sublist.cons _ ?_))) : SubH a b := SubH.of_sublist h
theorem zW {l : af} (h : ∀ e ∈ l, e.w = true := by intro e he; simp at he; subst he; rfl) : ∀ e ∈ l, e.w = true := h
theorem zG {d0 : Nat} {op : Op} {j d : Nat} {w : Bool} (hk : WO tb n ops rest E ((d0, .tuple []) :: s) hs R) (hj : jQ ops j = some d := by exact rfl) (hl : lk s d = some (.bool (!w)) := by exact rfl) (hd : Nat.blt d0 n = true := by rfl) : WO tb n ops (⟨some d0, op, ty, pos, aft, some (j, w)⟩ :: rest) E s hs R := zg hj hl hk hd
theorem zT {dst : Option Nat} {op : Op} {j d : Nat} {w : Bool} (hk : WO tb n ops (⟨dst, op, ty, pos, aft, none⟩ :: rest) E s hs R) (hj : jQ ops j = some d := by exact rfl) (hl : lk s d = some (.bool w) := by exact rfl) : WO tb n ops (⟨dst, op, ty, pos, aft, some (j, w)⟩ :: rest) E s hs R := sx hj hl hk
theorem zS {ox oy : Operand} {i b o m : Nat} {ob : AObj} {v : AV} {a0 a1 a2 a3 a4 a5 a6 a7 a8 a9 a10 : AV} {hs' : af} (hz : tb.size t = some m) (hx : oL s ox = some (.ptr b o)) (hy : oL s oy = some v) (hm : hs[i]? = some ⟨b, ob, true⟩) (hb : (Nat.beq v.cells.length m && Nat.ble (o + m) ob.cells.length && v.cells.all AV.isCell) = true) (hc : cn ob.cells o v.cells = [a0, a1, a2, a3, a4, a5, a6, a7, a8, a9, a10]) (hs_ : hs.set i ⟨b, ⟨ob.sz, ob.exact_, [a0, a1, a2, a3, a4, a5, a6, a7, a8, a9, a10]⟩, true⟩ = hs') (hk : WO tb n ops rest E s hs' R) (hz0 : Nat.blt 0 ob.sz = true := by rfl) : WO tb n ops (⟨none, .store t ox oy, ty, pos, aft, none⟩ :: rest) E s hs R := WO.store hz hx hy hm hb hc hs_ hk hz0
theorem A3 {ox oy : Operand} {i b o m : Nat} {ob : AObj} {v : AV} {a0 a1 a2 a3 a4 : AV} {hs' : af} (hz : tb.size t = some m) (hx : oL s ox = some (.ptr b o)) (hy : oL s oy = some v) (hm : hs[i]? = some ⟨b, ob, true⟩) (hb : (Nat.beq v.cells.length m && Nat.ble (o + m) ob.cells.length && v.cells.all AV.isCell) = true) (hc : cn ob.cells o v.cells = [a0, a1, a2, a3, a4]) (hs_ : hs.set i ⟨b, ⟨ob.sz, ob.exact_, [a0, a1, a2, a3, a4]⟩, true⟩ = hs') (hk : WO tb n ops rest E s hs' R) (hz0 : Nat.blt 0 ob.sz = true := by rfl) : WO tb n ops (⟨none, .store t ox oy, ty, pos, aft, none⟩ :: rest) E s hs R := WO.store hz hx hy hm hb hc hs_ hk hz0
theorem ll {ox oy : Operand} {i b o m : Nat} {ob : AObj} {v : AV} {a0 a1 a2 : AV} {hs' : af} (hz : tb.size t = some m) (hx : oL s ox = some (.ptr b o)) (hy : oL s oy = some v) (hm : hs[i]? = some ⟨b, ob, true⟩) (hb : (Nat.beq v.cells.length m && Nat.ble (o + m) ob.cells.length && v.cells.all AV.isCell) = true) (hc : cn ob.cells o v.cells = [a0, a1, a2]) (hs_ : hs.set i ⟨b, ⟨ob.sz, ob.exact_, [a0, a1, a2]⟩, true⟩ = hs') (hk : WO tb n ops rest E s hs' R) (hz0 : Nat.blt 0 ob.sz = true := by rfl) : WO tb n ops (⟨none, .store t ox oy, ty, pos, aft, none⟩ :: rest) E s hs R := WO.store hz hx hy hm hb hc hs_ hk hz0
theorem zA {a t b o m : Nat} {ob : AObj} {w : Bool} {a0 a1 a2 a3 a4 a5 a6 a7 a8 a9 a10 : AV} {rs : List ResultVar} {l : List AV} (h : lk s a = some (.ptr b o)) (hm : ⟨b, ob, w⟩ ∈ hs) (ha : tb.isAgg t = some true) (hz : tb.size t = some m) (hc : ch ob.cells o m = some [a0, a1, a2, a3, a4, a5, a6, a7, a8, a9, a10]) (g : ResL tb s hs rs l) : ResL tb s hs (.cell a t :: rs) (.agg [a0, a1, a2, a3, a4, a5, a6, a7, a8, a9, a10] :: l) := ResL.agg h hm ha hz hc g
theorem pL {a t b o m : Nat} {ob : AObj} {w : Bool} {a0 a1 a2 : AV} {rs : List ResultVar} {l : List AV} (h : lk s a = some (.ptr b o)) (hm : ⟨b, ob, w⟩ ∈ hs) (ha : tb.isAgg t = some true) (hz : tb.size t = some m) (hc : ch ob.cells o m = some [a0, a1, a2]) (g : ResL tb s hs rs l) : ResL tb s hs (.cell a t :: rs) (.agg [a0, a1, a2] :: l) := ResL.agg h hm ha hz hc g
theorem zL {ox : Operand} {b o m : Nat} {ob : AObj} {w : Bool} {a0 a1 a2 a3 a4 a5 a6 a7 a8 a9 a10 : AV} (hx : oL s ox = some (.ptr b o)) (hm : ⟨b, ob, w⟩ ∈ hs) (ha : tb.isAgg t = some true) (hz : tb.size t = some m) (hc : ch ob.cells o m = some [a0, a1, a2, a3, a4, a5, a6, a7, a8, a9, a10]) : QV tb s hs (.load t ox) (.agg [a0, a1, a2, a3, a4, a5, a6, a7, a8, a9, a10]) := cj hx hm ha hz hc
theorem zB {l : List (Nat × Operand)} {zs : List AV} {a0 a1 a2 a3 a4 a5 a6 a7 a8 a9 a10 : AV} {pl : List (Nat × Nat)} {ps : List (Nat × AV)} (hp : PL tb t zs pl = true) (ho : w5 s l = some ps) (hi : (ps.all fun p => Nat.blt p.1 pl.length) = true) (hf : dn (fun i => pl[i]?) zs ps = some [a0, a1, a2, a3, a4, a5, a6, a7, a8, a9, a10]) : QV tb s hs (.build t l.toArray) (.agg [a0, a1, a2, a3, a4, a5, a6, a7, a8, a9, a10]) := Q.build hp ho hi hf
end
theorem zo {p : Prop} (h : p := by first | omega | (simp at * <;> omega)) : p := h
theorem zv {a b : St} (h : SubS a b := by repeat (first | exact SubS.nil _ | refine SubS.cons rfl ?_)) : SubS a b := h
end Go.Proofs.YtndhhgbpcmfeiaaGreatDoor.Ev
