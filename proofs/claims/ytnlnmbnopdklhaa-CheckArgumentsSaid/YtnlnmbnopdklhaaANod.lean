/- The tables of the program, with what is known of calls (chapter 17). -/
import Derived.Test.YtnlnmbnopdklhaaAAwF
import Derived.Test.YtnlnmbnopdklhaaProg
namespace Go.Proofs.Ytnlnmbnopdklhaa.Ev
open Go.RowKit
set_option linter.unusedVariables false
noncomputable def orc (f : Nat) (args : List AV) (h : AHeap) : Option AV :=
  match Nat.beq f 10 with
  | true => match args with
    | [] => some (.bool true)
    | _ => none
  | false => none
noncomputable def tab : Tab := (tabOf Try.prog).knows (fun _ _ _ _ => none) (fun _ _ => none) orc
end Go.Proofs.Ytnlnmbnopdklhaa.Ev

/- What the tables say of types. -/
namespace Go.Proofs.Ytnlnmbnopdklhaa.Ev
open Go.RowKit
theorem ag22 : tab.isAgg 22 = some false := by kernel_rfl
theorem ag24 : tab.isAgg 24 = some false := by kernel_rfl
theorem ag26 : tab.isAgg 26 = some true := by kernel_rfl
theorem ag3 : tab.isAgg 3 = some false := by kernel_rfl
theorem ag4 : tab.isAgg 4 = some false := by kernel_rfl
theorem ag48 : tab.isAgg 48 = some false := by kernel_rfl
theorem ag56 : tab.isAgg 56 = some true := by kernel_rfl
theorem ag60 : tab.isAgg 60 = some true := by kernel_rfl
theorem ag9 : tab.isAgg 9 = some false := by kernel_rfl
theorem ag94 : tab.isAgg 94 = some true := by kernel_rfl
theorem ao26 : AO tab 26 = some ⟨11, true, [.int .i64 0, .str [], .int .i64 0, .nils, .int .i64 0, .int .i64 0, .int .i64 0, .nils, .int .i64 0, .bool false, .nils]⟩ := by kernel_rfl
theorem ao56 : AO tab 56 = some ⟨4, true, [.int .i64 0, .str [], .int .i64 0, .int .i64 0]⟩ := by kernel_rfl
theorem ao60 : AO tab 60 = some ⟨1, true, [.int .i64 0, .int .i64 0, .int .i64 0]⟩ := by kernel_rfl
theorem ap24_24 : AP tab 24 24 = some 11 := by kernel_rfl
theorem ap43_43 : AP tab 43 43 = some 1 := by kernel_rfl
theorem ap48_48 : AP tab 48 48 = some 4 := by kernel_rfl
theorem bx26 : ∀ l : List AV, l.length = 11 → varObj tab 26 l = ⟨11, true, l⟩ := by intro l h; exact varObj_plain (by kernel_rfl) h
theorem bx53 : ∀ l : List AV, l.length = 5 → varObj tab 53 l = ⟨5, true, l⟩ := by intro l h; exact varObj_plain (by kernel_rfl) h
theorem bx94 : ∀ l : List AV, l.length = 3 → varObj tab 94 l = ⟨3, true, l⟩ := by intro l h; exact varObj_plain (by kernel_rfl) h
theorem fa26_0 : FA tab 26 0 = some (0, 0 + 1) := by kernel_rfl
theorem fa26_1 : FA tab 26 1 = some (1, 0 + 1) := by kernel_rfl
theorem fa26_10 : FA tab 26 10 = some (10, 0 + 1) := by kernel_rfl
theorem fa26_3 : FA tab 26 3 = some (3, 0 + 1) := by kernel_rfl
theorem fa26_4 : FA tab 26 4 = some (4, 0 + 1) := by kernel_rfl
theorem fa26_6 : FA tab 26 6 = some (6, 0 + 1) := by kernel_rfl
theorem fa26_8 : FA tab 26 8 = some (8, 0 + 1) := by kernel_rfl
theorem fa26_9 : FA tab 26 9 = some (9, 0 + 1) := by kernel_rfl
theorem fa53_0 : FA tab 53 0 = some (0, 0 + 1) := by kernel_rfl
theorem fa53_1 : FA tab 53 1 = some (1, 0 + 1) := by kernel_rfl
theorem fa53_2 : FA tab 53 2 = some (2, 0 + 1) := by kernel_rfl
theorem fa53_3 : FA tab 53 3 = some (3, 0 + 1) := by kernel_rfl
theorem fa56_0 : FA tab 56 0 = some (0, 0 + 1) := by kernel_rfl
theorem fa56_1 : FA tab 56 1 = some (1, 0 + 1) := by kernel_rfl
theorem fa56_2 : FA tab 56 2 = some (2, 0 + 1) := by kernel_rfl
theorem fa94_0 : FA tab 94 0 = some (0, 0 + 1) := by kernel_rfl
theorem fa94_1 : FA tab 94 1 = some (1, 0 + 1) := by kernel_rfl
theorem fa94_2 : FA tab 94 2 = some (2, 0 + 1) := by kernel_rfl
theorem ft56_0 : FT tab 56 0 = some (0, none) := by kernel_rfl
theorem ft56_1 : FT tab 56 1 = some (1, none) := by kernel_rfl
theorem ft56_2 : FT tab 56 2 = some (2, none) := by kernel_rfl
theorem ft56_3 : FT tab 56 3 = some (3, none) := by kernel_rfl
theorem pl26 : PL tab 26 [.int .i64 0, .str [], .int .i64 0, .nils, .int .i64 0, .int .i64 0, .int .i64 0, .nils, .int .i64 0, .bool false, .nils] [(0, 1), (1, 1), (2, 1), (3, 1), (4, 1), (5, 1), (6, 1), (7, 1), (8, 1), (9, 1), (10, 1)] = true := by kernel_rfl
theorem pl53 : PL tab 53 [.nils, .int .i64 0, .int .i64 0, .int .i64 0, .int .i64 0] [(0, 1), (1, 1), (2, 1), (3, 1), (4, 1)] = true := by kernel_rfl
theorem pl56 : PL tab 56 [.int .i64 0, .str [], .int .i64 0, .int .i64 0] [(0, 1), (1, 1), (2, 1), (3, 1)] = true := by kernel_rfl
theorem pl60 : PL tab 60 [.int .i64 0, .int .i64 0, .int .i64 0] [(0, 1), (1, 1), (2, 1)] = true := by kernel_rfl
theorem pl94 : PL tab 94 [.int .i64 0, .str [], .str []] [(0, 1), (1, 1), (2, 1)] = true := by kernel_rfl
theorem sz22 : tab.size 22 = some 1 := by kernel_rfl
theorem sz24 : tab.size 24 = some 1 := by kernel_rfl
theorem sz26 : tab.size 26 = some 11 := by kernel_rfl
theorem sz3 : tab.size 3 = some 1 := by kernel_rfl
theorem sz56 : tab.size 56 = some 4 := by kernel_rfl
theorem sz60 : tab.size 60 = some 3 := by kernel_rfl
theorem sz9 : tab.size 9 = some 1 := by kernel_rfl
theorem sz94 : tab.size 94 = some 3 := by kernel_rfl
theorem ud100 : tab.und 100 = some (.slice 109) := by kernel_rfl
theorem ud22 : tab.und 22 = some (.slice 94) := by kernel_rfl
theorem ud23 : tab.und 23 = some (.slice 9) := by kernel_rfl
theorem ud24 : tab.und 24 = some (.slice 26) := by kernel_rfl
theorem ud3 : tab.und 3 = some (.int .i64) := by kernel_rfl
theorem ud38 : tab.und 38 = some (.int .u64) := by kernel_rfl
theorem ud4 : tab.und 4 = some .bool := by kernel_rfl
theorem ud43 : tab.und 43 = some (.slice 3) := by kernel_rfl
theorem ud48 : tab.und 48 = some (.slice 56) := by kernel_rfl
theorem ud5 : tab.und 5 = some (.int .u8) := by kernel_rfl
theorem ud60 : tab.und 60 = some (.array 3 3) := by kernel_rfl
theorem ud9 : tab.und 9 = some .string := by kernel_rfl
theorem zr26 : tab.zero 26 = some (.agg [.int .i64 0, .str [], .int .i64 0, .nils, .int .i64 0, .int .i64 0, .int .i64 0, .nils, .int .i64 0, .bool false, .nils]) := by kernel_rfl
theorem zr3 : tab.zero 3 = some (.int .i64 0) := by kernel_rfl
theorem zr56 : tab.zero 56 = some (.agg [.int .i64 0, .str [], .int .i64 0, .int .i64 0]) := by kernel_rfl
theorem zr9 : tab.zero 9 = some (.str []) := by kernel_rfl
theorem zr94 : tab.zero 94 = some (.agg [.int .i64 0, .str [], .str []]) := by kernel_rfl
end Go.Proofs.Ytnlnmbnopdklhaa.Ev

/- Walks over the evaluator: slices of arrays, copy. -/
namespace Go.Proofs.Ytnlnmbnopdklhaa.Ev
open Go.RowKit
set_option linter.unusedVariables false
section
variable {tb : Tab} {n : Nat} {E : Env} {s : St} {hs : HSt} {R : T AV → AHeap → Prop} {ops rest : List Oper} {d t : Nat} {ty : TypeId} {pos : String} {aft : Array Edge}
theorem Q.sliceA {ox : Operand} {b len e m : Nat} {ob : AObj} {w : Bool} (hu : tb.und t = some (.array len e)) (hz : tb.size e = some m) (hx : oL s ox = some (.ptr b 0)) (hm : ⟨b, ob, w⟩ ∈ hs)
    (hok : (Nat.beq ob.sz m && ob.exact_ && Nat.beq ob.cells.length (len * m) && Nat.blt 0 m) = true) : QV tb s hs (.slice t ox none none none) (.slice b 0 len m) := by
  intro tm h ht hh call
  show Res.q (evSlice tb tm h.objs t ox none none none) = _
  have hb := hh _ hm
  simp only at hb
  unfold evSlice
  simp only [hu, oL_ok ht hx]
  unfold sliceArr
  rw [bL_ok ht (l := 0) (h := len) rfl ⟨Nat.zero_le _, Nat.le_refl _⟩]
  simp only [hz, hb, hok, Nat.sub_zero]
theorem WO.copy {ox oy : Operand} {e sz i b o len q : Nat} {tl : List Nat} {ob : AObj} {x : AV} {cs cs' : List AV} {hs' : HSt} (hu : tb.und t = some (.slice e)) (hz : tb.size e = some sz) (hx : oL s ox = some (.slice b o len sz)) (hy : oL s oy = some x)
    (hc : ∀ h, KeepIn hs h → cellsOfA h.objs sz x = some (q, cs)) (hi : hs[i]? = some ⟨b, ob, true⟩) (hok : ((Nat.beq ob.sz sz && Nat.blt 0 sz) && Nat.ble ((o + len) * sz) ob.cells.length) = true) (hr : layL ob.cells (o * sz) (cs.take (min q len * sz)) = cs')
    (he : hs.set i ⟨b, ⟨ob.sz, ob.exact_, cs'⟩, true⟩ = hs') (hd : Nat.blt d n = true) (hk : WO tb n ops rest E ((d, .int .i64 ((min q len : Nat) : Int)) :: s) hs' R) :
    WO tb n ops (⟨some d, .call ⟨.builtin .copy, #[ox, oy], (t :: tl).toArray⟩, ty, pos, aft, none⟩ :: rest) E s hs R := by
  refine WO.l (s' := s) fun tm h ht hh => ?_
  have hb := hh.at_ _ (mem_at hi)
  simp only at hb
  rw [Bool.and_eq_true] at hok
  subst he
  refine ⟨.int .i64 ((min q len : Nat) : Int), ⟨h.next, h.objs.set b ⟨ob.sz, ob.exact_, cs'⟩⟩, tm.set d (.int .i64 ((min q len : Nat) : Int)), ?_, putDst_at hd, hk _ _ (ht.set d _) (hh.put hi)⟩
  show Res.l (evCopy tb tm h #[ox, oy] (t :: tl).toArray) = _
  unfold evCopy
  simp only [opnds, oL_ok ht hx, oL_ok ht hy]
  unfold copyA
  have e1 : Nat.beq sz sz = true := by simp
  simp only [hu, hz, e1, hc h hh.keep]
  unfold copyTo
  simp only [hb.1, hok.1, hok.2, hr]
  rfl
end
end Go.Proofs.Ytnlnmbnopdklhaa.Ev

/- Walks over the evaluator: short names. -/
namespace Go.Proofs.Ytnlnmbnopdklhaa.Ev
open Go.RowKit
set_option linter.unusedVariables false
section
variable {tb : Tab} {n : Nat} {E : Env} {s : St} {hs : HSt} {R : T AV → AHeap → Prop} {ops rest : List Oper} {d t : Nat} {ty : TypeId} {pos : String} {aft : Array Edge} {k : IntKind}
theorem zi (m : Nat) : oL s (.const (.int .i64 ((m : Nat) : Int))) = some (.int .i64 ((m : Nat) : Int)) := rfl
theorem zu (m : Nat) : oL s (.const (.int .u8 ((m : Nat) : Int))) = some (.int .u8 ((m : Nat) : Int)) := rfl
theorem zzn {b : St} : SubS [] b := SubS.nil b
theorem zc {a b : St} (k : Nat) {v : AV} (h : lk b k = some v) (g : SubS a b) : SubS ((k, v) :: a) b := SubS.cons h g
theorem zd {a b : St} {k : Nat} {v : AV} (h : lk b k = some v) (g : SubS a b) : SubS ((k, v) :: a) b := SubS.cons h g
theorem zq {op : Op} {v : AV} (hq : QV tb s hs op v) (hk : WO tb n ops rest E ((d, v) :: s) hs R) (hd : Nat.blt d n = true := by rfl) : WO tb n ops (⟨some d, op, ty, pos, aft, none⟩ :: rest) E s hs R := WO.q hq hd hk
theorem zm {ox : Operand} {v : AV} (hx : oL s ox = some v) (hk : WO tb n ops rest E ((d, v) :: s) hs R) (hd : Nat.blt d n = true := by rfl) : WO tb n ops (⟨some d, .move ox, ty, pos, aft, none⟩ :: rest) E s hs R := WO.q (Q.move hx) hd hk
theorem za {ox : Operand} {v : AV} (hx : oL s ox = some v) (hk : WO tb n ops rest E ((d, v) :: s) hs R) (hd : Nat.blt d n = true := by rfl) : WO tb n ops (⟨some d, .assign ox, ty, pos, aft, none⟩ :: rest) E s hs R := WO.q (Q.assign hx) hd hk
theorem zg {d0 : Nat} {op : Op} {j d : Nat} {w : Bool} (hj : gSlot ops j = some d) (hl : lk s d = some (.bool (!w))) (hk : WO tb n ops rest E ((d0, .tuple []) :: s) hs R) (hd : Nat.blt d0 n = true := by rfl) :
    WO tb n ops (⟨some d0, op, ty, pos, aft, some (j, w)⟩ :: rest) E s hs R := WO.gF hj hl (.inl rfl) hd hk
theorem z1 {t : Nat} {v : AV} (h : lk s t = some v) : ResL tb s hs [.tmp t] [v] := ResL.tmp h ResL.nil
theorem zw {b : Code} {Q : Ex → T AV → AHeap → Prop} (h : W tb n b E s hs Q) : W tb n .skip E s hs (Ev.K tb n b Q) := W.skip (End.K h)
theorem zk {b : Code} {Q : Ex → T AV → AHeap → Prop} (h : W tb n b E s hs Q) : WO tb n ops [] E s hs (Ev.K tb n b Q .normal) := WO.nil (End.K h)
theorem zr {id : Nat} {l : List Oper} {b : Code} {Q : Ex → T AV → AHeap → Prop} (h : WO tb n l l E s hs (Ev.K tb n b Q .normal)) : W tb n (.seq (.region id l.toArray false) b) E s hs Q := W.seq (W.reg h)
theorem zt {hs : HSt} (i : Nat) {e : HE} (h : hs[i]? = some e) : e ∈ hs := mem_at h
theorem zf {ox : Operand} {f B o off sz : Nat} (hf : FA tb t f = some (off, sz + 1)) (hx : oL s ox = some (.ptr B o)) (o' : Nat) (hk : WO tb n ops rest E ((d, .ptr B o') :: s) hs R) (ho : o + off = o' := by rfl) (hd : Nat.blt d n = true := by rfl) :
    WO tb n ops (⟨some d, .fieldAddr t ox f, ty, pos, aft, none⟩ :: rest) E s hs R := WO.q (Q.fieldAddr hf hx ho) hd hk
theorem zp {m j : Nat} (h : m + j ≤ 9223372036854775807 := by first | omega | (simp at * <;> omega)) : evBin tb .add t (.int .i64 ((m : Nat) : Int)) (.int .i64 ((j : Nat) : Int)) = some (.int .i64 ((m + j : Nat) : Int)) := bv_add (wn_add h)
end
end Go.Proofs.Ytnlnmbnopdklhaa.Ev

/- Trees in memory, as far as their types hang on them. -/
namespace Go.Proofs.Ytnlnmbnopdklhaa.Ev
open Go.RowKit
set_option linter.unusedVariables false
/-- A block is there. -/
def MemH (hs : HSt) (b : Nat) (o : AObj) : Prop := ∃ w, (⟨b, o, w⟩ : HE) ∈ hs
theorem MemH.tl {hs : HSt} {b : Nat} {o : AObj} {e : HE} (h : MemH hs b o) : MemH (e :: hs) b o := let ⟨w, g⟩ := h; ⟨w, List.mem_cons_of_mem _ g⟩
theorem MemH.app {A hs : HSt} {b : Nat} {o : AObj} (h : MemH hs b o) : MemH (A ++ hs) b o := let ⟨w, g⟩ := h; ⟨w, List.mem_append_right _ g⟩
theorem MemH.ro {hs : HSt} {b : Nat} {o : AObj} (h : MemH hs b o) : MemH (ro hs) b o := let ⟨w, g⟩ := h; ⟨false, List.mem_map.2 ⟨_, g, rfl⟩⟩
def nodeC (k : Int) (op : List Nat) (n : Int) (ms : AV) (rg off md : Int) (nm : AV) (sd : Int) (bl : Bool) (kd : AV) : List AV :=
  [.int .i64 k, .str op, .int .i64 n, ms, .int .i64 rg, .int .i64 off, .int .i64 md, nm, .int .i64 sd, .bool bl, kd]
/-- Cells of a tree's node, at most so deep. -/
def NRep (hs : HSt) : Nat → List AV → Prop
  | 0, _ => False
  | d + 1, c => ∃ k op n ms rg off md nm sd bl kd, c = nodeC k op n ms rg off md nm sd bl kd ∧ Bytes op ∧ op.length ≤ 281474976710656 ∧ ms.isCell = true ∧ nm.isCell = true ∧
      (kd = .nils ∨ ∃ b len ob, kd = .slice b 0 len 11 ∧ MemH hs b ob ∧ len ≤ 1048576 ∧ ∀ i, i < len → ∃ c', sub? ob.cells ((0 + i) * 11) 11 = some c' ∧ NRep hs d c')
theorem NRep.mono {hs hs' : HSt} (hm : ∀ b o, MemH hs b o → MemH hs' b o) : ∀ {d : Nat} {c : List AV}, NRep hs d c → NRep hs' d c
  | 0, _, h => h
  | d + 1, c, ⟨k, op, n, ms, rg, off, md, nm, sd, bl, kd, h1, h2, h3, h5, h6, h4⟩ => ⟨k, op, n, ms, rg, off, md, nm, sd, bl, kd, h1, h2, h3, h5, h6, h4.imp id fun ⟨b, len, ob, g1, g2, g3, g4⟩ =>
      ⟨b, len, ob, g1, hm _ _ g2, g3, fun i hi => let ⟨c', e1, e2⟩ := g4 i hi; ⟨c', e1, NRep.mono hm e2⟩⟩⟩
theorem NRep.succ {hs : HSt} : ∀ {d : Nat} {c : List AV}, NRep hs d c → NRep hs (d + 1) c
  | 0, _, h => h.elim
  | d + 1, c, ⟨k, op, n, ms, rg, off, md, nm, sd, bl, kd, h1, h2, h3, h5, h6, h4⟩ => ⟨k, op, n, ms, rg, off, md, nm, sd, bl, kd, h1, h2, h3, h5, h6, h4.imp id fun ⟨b, len, ob, g1, g2, g3, g4⟩ =>
      ⟨b, len, ob, g1, g2, g3, fun i hi => let ⟨c', e1, e2⟩ := g4 i hi; ⟨c', e1, NRep.succ e2⟩⟩⟩
theorem NRep.le {hs : HSt} {d : Nat} {c : List AV} (h : NRep hs d c) : ∀ {d' : Nat}, d ≤ d' → NRep hs d' c := by
  intro d' hd
  induction hd with
  | refl => exact h
  | step _ ih => exact ih.succ
/-- Blocks that are only looked at: all those behind some. -/
theorem SubR.self {hs : HSt} (h : ∀ e ∈ hs, e.w = false) : SubR hs hs := ⟨fun e he => ⟨h e he, e.w, by obtain ⟨b, o, w⟩ := e; exact he⟩, id⟩
theorem SubR.tl {a hs : HSt} {e : HE} (g : SubR a hs) : SubR a (e :: hs) :=
  ⟨fun x hx => let ⟨h1, w, h2⟩ := g.1 x hx; ⟨h1, w, List.mem_cons_of_mem _ h2⟩, fun hn => g.2 (by rw [List.map_cons, List.nodup_cons] at hn; exact hn.2)⟩
theorem SubR.app {a A hs : HSt} (g : SubR a hs) : SubR a (A ++ hs) :=
  ⟨fun x hx => let ⟨h1, w, h2⟩ := g.1 x hx; ⟨h1, w, List.mem_append_right _ h2⟩, fun hn => g.2 (by rw [List.map_append] at hn; exact (List.nodup_append.1 hn).2.1)⟩
theorem perm_tail {N G K X : HSt} : ((N ++ K) ++ (X ++ G)).Perm ((N ++ G) ++ (K ++ X)) := by
  rw [List.append_assoc, List.append_assoc]
  refine List.Perm.append_left N ?_
  rw [← List.append_assoc]
  exact List.perm_append_comm
theorem SubR.appr {a A hs : HSt} (g : SubR a hs) : SubR a (A ++ hs) := g.app
theorem ro_w {hs : HSt} : ∀ e ∈ ro hs, e.w = false := by
  intro e he
  obtain ⟨x, _, rfl⟩ := List.mem_map.1 he
  rfl
theorem SubR.appl {a A hs : HSt} (g : SubR a A) : SubR a (A ++ hs) :=
  ⟨fun x hx => let ⟨h1, w, h2⟩ := g.1 x hx; ⟨h1, w, List.mem_append_left _ h2⟩, fun hn => g.2 (by rw [List.map_append] at hn; exact (List.nodup_append.1 hn).1)⟩
theorem NRep.node {hs : HSt} : ∀ {d : Nat} {c : List AV}, NRep hs d c → ∃ k op n ms rg off md nm sd bl kd, c = nodeC k op n ms rg off md nm sd bl kd ∧ Bytes op ∧ ms.isCell = true ∧ nm.isCell = true ∧ kd.isCell = true
  | 0, _, h => h.elim
  | d + 1, c, ⟨k, op, n, ms, rg, off, md, nm, sd, bl, kd, h1, h2, h3, h5, h6, h4⟩ => ⟨k, op, n, ms, rg, off, md, nm, sd, bl, kd, h1, h2, h5, h6, by rcases h4 with rfl | ⟨b, len, ob, rfl, _⟩ <;> rfl⟩
end Go.Proofs.Ytnlnmbnopdklhaa.Ev
