/- Walks over the evaluator: slices of arrays, copy. -/
import Derived.Test.YtmblgaehfjheeaaGreatGAwF
import Derived.Test.YtmblgaehfjheeaaGreatProg
import Derived.WalkKit
import Derived.ProofKit
import Derived.OpenShut
import Derived.Outline
import Derived.WalkSpells
import Derived.WalkLawsBesides
import Derived.Deep.QuietTactic
import Derived.BigQuiet
import Derived.Lib.Hide
import Derived.Deep.DeepFit
import Derived.Deep.DeepMust
import Derived.Shelf.Strings.Builder1
import Derived.Shelf.Strings.Builder2
import Derived.Shelf.Strings.OnBuilder
import Derived.Shelf.Small.Bits
import Derived.Shelf.Strconv.Itoa0
import Derived.Shelf.Bits.Mul64
import Derived.Shelf.Slices.Turned
import Derived.Lib.ItoaNum
import Derived.Lib.BitFns
import Derived.IntWalk
namespace Go.Proofs.YtmblgaehfjheeaaGreat.Ev
open Go.RowKit
set_option linter.unusedVariables false
section
variable {tb : Tab} {n : Nat} {E : Env} {s : St} {hs : HSt} {R : T AV → AHeap → Prop} {ops rest : List Oper} {d t : Nat} {ty : TypeId} {pos : String} {aft : Array Edge}
theorem WO.copy {ox oy : Operand} {e sz i b o len q : Nat} {tl : List Nat} {ob : AObj} {x : AV} {cs cs' : List AV} {hs' : HSt} (hu : tb.und t = some (.slice e)) (hz : tb.size e = some sz) (hx : oL s ox = some (.slice b o len sz)) (hy : oL s oy = some x)
  (hc : ∀ h, KeepIn hs h → cellsOfA h.objs sz x = some (q, cs)) (hi : hs[i]? = some ⟨b, ob, true⟩) (hok : ((Nat.beq ob.sz sz && Nat.blt 0 sz) && Nat.ble ((o + len) * sz) ob.cells.length) = true) (hr : layL ob.cells (o * sz) (cs.take (min q len * sz)) = cs')
  (he : hs.set i ⟨b, ⟨ob.sz, ob.exact_, cs'⟩, true⟩ = hs') (hd : Nat.blt d n = true) (hk : WO tb n ops rest E ((d, .int .i64 ((min q len : Nat) : Int)) :: s) hs' R) :
  WO tb n ops (⟨some d, .call ⟨.builtin .copy, #[ox, oy], (t :: tl).toArray⟩, ty, pos, aft, none⟩ :: rest) E s hs R := by
 refine WO.l (s' := s) fun tm h ht hh => ?_
 have hb := hh.at_ _ (mem_at hi)
 simp only at hb
 rw [Bool.and_eq_true] at hok
 subst he
 refine ⟨.int .i64 ((min q len : Nat) : Int), ⟨h.next, h.objs.set b ⟨ob.sz, ob.exact_, cs'⟩⟩, tm.set d (.int .i64 ((min q len : Nat) : Int)), ?_, putDst_at hd, hk _ _ (ht.set d _) (hh.put hi)⟩
 show Res.l (evCopy tb tm h #[ox, oy] (t :: tl).toArray) = _
 unfold evCopy
 simp only [opnds, oL_ok ht hx, oL_ok ht hy]
 unfold copyA
 have e1 : Nat.beq sz sz = true := by simp
 simp only [hu, hz, e1, hc h hh.keep]
 unfold copyTo
 simp only [hb.1, hok.1, hok.2, hr]
 rfl
end
section
variable {tb : Tab} {n : Nat} {E : Env} {s : St} {hs : HSt} {R : T AV → AHeap → Prop} {ops rest : List Oper} {d t : Nat} {ty : TypeId} {pos : String} {aft : Array Edge} {k : IntKind}
theorem zi (m : Nat) : oL s (.const (.int .i64 ((m : Nat) : Int))) = some (.int .i64 ((m : Nat) : Int)) := rfl
theorem zu (m : Nat) : oL s (.const (.int .u8 ((m : Nat) : Int))) = some (.int .u8 ((m : Nat) : Int)) := rfl
theorem zzn {b : St} : SubS [] b := SubS.nil b
theorem zc {a b : St} (k : Nat) {v : AV} (h : lk b k = some v) (g : SubS a b) : SubS ((k, v) :: a) b := SubS.cons h g
theorem zd {a b : St} {k : Nat} {v : AV} (h : lk b k = some v) (g : SubS a b) : SubS ((k, v) :: a) b := SubS.cons h g
theorem zq {op : Op} {v : AV} (hq : QV tb s hs op v) (hk : WO tb n ops rest E ((d, v) :: s) hs R) (hd : Nat.blt d n = true := by rfl) : WO tb n ops (⟨some d, op, ty, pos, aft, none⟩ :: rest) E s hs R := WO.q hq hd hk
theorem zm {ox : Operand} {v : AV} (hx : oL s ox = some v) (hk : WO tb n ops rest E ((d, v) :: s) hs R) (hd : Nat.blt d n = true := by rfl) : WO tb n ops (⟨some d, .move ox, ty, pos, aft, none⟩ :: rest) E s hs R := WO.q (Q.move hx) hd hk
theorem za {ox : Operand} {v : AV} (hx : oL s ox = some v) (hk : WO tb n ops rest E ((d, v) :: s) hs R) (hd : Nat.blt d n = true := by rfl) : WO tb n ops (⟨some d, .assign ox, ty, pos, aft, none⟩ :: rest) E s hs R := WO.q (Q.assign hx) hd hk
theorem zg {d0 : Nat} {op : Op} {j d : Nat} {w : Bool} (hj : gSlot ops j = some d) (hl : lk s d = some (.bool (!w))) (hk : WO tb n ops rest E ((d0, .tuple []) :: s) hs R) (hd : Nat.blt d0 n = true := by rfl) :
  WO tb n ops (⟨some d0, op, ty, pos, aft, some (j, w)⟩ :: rest) E s hs R := WO.gF hj hl (.inl rfl) hd hk
theorem z1 {t : Nat} {v : AV} (h : lk s t = some v) : ResL tb s hs [.tmp t] [v] := ResL.tmp h ResL.nil
theorem zw {b : Code} {Q : Ex → T AV → AHeap → Prop} (h : W tb n b E s hs Q) : W tb n .skip E s hs (Ev.K tb n b Q) := W.skip (End.K h)
theorem zk {b : Code} {Q : Ex → T AV → AHeap → Prop} (h : W tb n b E s hs Q) : WO tb n ops [] E s hs (Ev.K tb n b Q .normal) := WO.nil (End.K h)
theorem zr {id : Nat} {l : List Oper} {b : Code} {Q : Ex → T AV → AHeap → Prop} (h : WO tb n l l E s hs (Ev.K tb n b Q .normal)) : W tb n (.seq (.region id l.toArray false) b) E s hs Q := W.seq (W.reg h)
theorem zt {hs : HSt} (i : Nat) {e : HE} (h : hs[i]? = some e) : e ∈ hs := mem_at h
theorem zf {ox : Operand} {f B o off sz : Nat} (hf : FA tb t f = some (off, sz + 1)) (hx : oL s ox = some (.ptr B o)) (o' : Nat) (hk : WO tb n ops rest E ((d, .ptr B o') :: s) hs R) (ho : o + off = o' := by rfl) (hd : Nat.blt d n = true := by rfl) :
  WO tb n ops (⟨some d, .fieldAddr t ox f, ty, pos, aft, none⟩ :: rest) E s hs R := WO.q (Q.fieldAddr hf hx ho) hd hk
theorem zp {m j : Nat} (h : m + j ≤ 9223372036854775807 := by first | omega | (simp at * <;> omega)) : evBin tb .add t (.int .i64 ((m : Nat) : Int)) (.int .i64 ((j : Nat) : Int)) = some (.int .i64 ((m + j : Nat) : Int)) := bv_add (wna h)
end
theorem zy {p : Prop} (h : p := by omega) : p := h
theorem zo {p : Prop} (h : p := by first | omega | (simp at * <;> omega)) : p := h
theorem zv {a b : St} (h : SubS a b := by repeat (first | exact SubS.nil _ | refine SubS.cons rfl ?_)) : SubS a b := h
structure InB where
 bi : BI
 live : Bool
 cells : List AV
def injIn (I : List InB) : Inj := fun b => (I[b]?).map (·.bi)
noncomputable def objsIn : Nat → List InB → T AObj
 | _, [] => .leaf
 | i, x :: l => match x.live with
  | true => (objsIn (i + 1) l).set i ⟨0, false, x.cells⟩
  | false => objsIn (i + 1) l
theorem objsIn_get : ∀ (l : List InB) (i k : Nat) (o : AObj), (objsIn i l).get k = some o → ∃ x, i ≤ k ∧ l[k - i]? = some x ∧ x.live = true ∧ o = ⟨0, false, x.cells⟩
 | [], i, k, o, h => by simp [objsIn, T.get_leaf] at h
 | x :: l, i, k, o, h => by
  unfold objsIn at h
  cases hx : x.live with
  | true =>
   rw [hx] at h
   simp only [T.get_set] at h
   split at h
   ·rename_i e
    subst e
    simp only [Option.some.injEq] at h
    exact ⟨x, Nat.le_refl _, by simp, hx, h.symm⟩
   ·obtain ⟨y, h1, h2, h3, h4⟩ := objsIn_get l (i + 1) k o h
    refine ⟨y, by omega, ?_, h3, h4⟩
    have : k - i = (k - (i + 1)) + 1 := by omega
    rw [this, List.getElem?_cons_succ]; exact h2
  | false =>
   rw [hx] at h
   obtain ⟨y, h1, h2, h3, h4⟩ := objsIn_get l (i + 1) k o h
   refine ⟨y, by omega, ?_, h3, h4⟩
   have : k - i = (k - (i + 1)) + 1 := by omega
   rw [this, List.getElem?_cons_succ]; exact h2
theorem objsIn_at : ∀ (l : List InB) (i k : Nat) (x : InB), l[k]? = some x → x.live = true → (objsIn i l).get (i + k) = some ⟨0, false, x.cells⟩
 | [], i, k, x, h, _ => by simp at h
 | y :: l, i, 0, x, h, hl => by
  simp at h
  subst h
  unfold objsIn
  rw [hl]
  simp [T.get_set]
 | y :: l, i, k + 1, x, h, hl => by
  have h := objsIn_at l (i + 1) k x (by simpa using h) hl
  have e : i + 1 + k = i + (k + 1) := by omega
  rw [e] at h
  unfold objsIn
  cases y.live with
  | true => simp only [T.get_set]; rw [if_neg zy]; exact h
  | false => exact h
noncomputable def heapIn (I : List InB) : AHeap := ⟨I.length, objsIn 0 I⟩
def InOK (w : World) (I : List InB) : Prop := ∀ x ∈ I, x.live = true → x.bi.val = undef ∧ ∃ c e fr, w.heap[x.bi.blk]? = some (.cells c e fr) ∧ ∀ k v, x.cells[k]? = some v → v.isCell = true ∧ ∃ u, c[x.bi.off + k]? = some u ∧ VRel (injIn I) v u
theorem in_rel {w : World} {I : List InB} (h : InOK w I) : HRel (J := ctxOf []) (injIn I) (fun k => k < w.heap.size) ⟨w, w.heap.size, fun _ _ => trivial, fun _ => False⟩ (heapIn I) w := by
 refine ⟨?_, fun k hk => hk, Keeps.refl _ _, fun k hk => hk, ?_, ?_, ?_, ?_, fun b hb => hb.elim⟩
 ·intro b i hb
  have hb : injOf [] b = some i := hb
  simp [injOf] at hb
 ·intro b o hb
  obtain ⟨x, _, h2, h3, rfl⟩ := objsIn_get I 0 b o hb
  rw [Nat.sub_zero] at h2
  obtain ⟨h4, c, e, fr, h5, h6⟩ := h x (List.mem_of_getElem? h2) h3
  exact .inr (.inl ⟨x.bi, c, e, fr, by simp [injIn, h2], h4, h5, (Array.getElem?_eq_some_iff.1 h5).1, rfl, h6⟩)
 ·intro b b' o o' i i' hb hb' hi hi' heq hN
  obtain ⟨x, _, h2, h3, rfl⟩ := objsIn_get I 0 b o hb
  rw [Nat.sub_zero] at h2
  obtain ⟨h4, c, e, fr, h5, h6⟩ := h x (List.mem_of_getElem? h2) h3
  have : injIn I b = some x.bi := by simp [injIn, h2]
  rw [this] at hi
  cases hi
  exact absurd (Array.getElem?_eq_some_iff.1 h5).1 hN
 ·intro b o hb
  obtain ⟨x, _, h2, _⟩ := objsIn_get I 0 b o hb
  have := (List.getElem?_eq_some_iff.1 h2).1
  show b < I.length
  omega
 ·intro b hb
  unfold injIn
  rw [List.getElem?_eq_none hb]
  rfl
def SeenIn (I : List InB) (hs : HSt) : Prop := (hs.map (·.b)).Nodup ∧ ∀ e ∈ hs, e.w = false ∧ ∃ x, I[e.b]? = some x ∧ x.live = true ∧ e.o = ⟨0, false, x.cells⟩
theorem in_call {P : Program} {tb : Tab} (H : TabOK P tb (ctxOf [])) {f : Nat} {args : List AV} {hs : HSt} {v : AV} {u : Value} (h : Spec tb f args [] hs (Val v)) (hu : conT v = some u) {I : List InB} (hI : SeenIn I hs) {vs : Array Value} (hl : LRel (injIn I) args vs.toList) (w : World) (hw : InOK w I) :
  Calls P f vs w fun e w' => e = .returned u ∧ Below w.heap.size w w' := by
 obtain ⟨v', h', hs', ⟨K0, hE⟩, ⟨rfl, _⟩, _, _⟩ := h (heapIn I) ⟨fun e he => by
  obtain ⟨h1, x, h2, h3, h4⟩ := hI.2 e he
  refine ⟨?_, (List.getElem?_eq_some_iff.1 h2).1, fun g => by rw [h1] at g; cases g⟩
  have := objsIn_at I 0 e.b x h2 h3
  rw [Nat.zero_add] at this
  rw [h4]
  exact this, hI.1, Fr.refl _ _⟩
 have hE := hE K0 (Nat.le_refl _)
 obtain ⟨_, hc⟩ := callA_ok H K0 _ _ _ _ _ _ _ _ _ _ hE hl (in_rel hw)
 exact hc.mono fun e w' ⟨M', x, h1, h2, h3, h4⟩ => ⟨by rw [h1, conT_ok hu h4], h3.below.below fun k hk => hk⟩
end Go.Proofs.YtmblgaehfjheeaaGreat.Ev
/- Walks of package fixed, first part: each function computes its model. -/

namespace Go.Proofs.YtmblgaehfjheeaaGreat
open Go.ChangeShapes Go.WideShapes Go.ChangeAt Go.RowKit
set_option linter.unusedVariables false
set_option maxRecDepth 100000
def fitsB (n : Int) : Bool := decide (-1152921504606846976 ≤ n ∧ n ≤ 1152921504606846976)
theorem fitsB_t {n : Int} (h : fitsB n = true) : -1152921504606846976 ≤ n ∧ n ≤ 1152921504606846976 := by simpa [fitsB] using h
theorem quiet_mine {P : Program} {f : FuncId} {args : Array Value} {w : World} {n : Nat} {v : Value}
  (h : Calls P f args (w.drewN n) fun e w' => e = .returned v ∧ w.drewN n = w') : Calls P f args (w.drewN n) fun e w'' => e = .returned v ∧ ∃ m, w'' = w.drewN m :=
 h.mono fun _ _ ⟨he, hm⟩ => ⟨he, n, hm.symm⟩
theorem ret_int {k : IntKind} {a b : Int} (h : a = b) : Ending.returned (.int k a) = .returned (.int k b) := by rw [h]
theorem ret_two {k l : IntKind} {a b c d : Int} (h : a = b) (h' : c = d) : Ending.returned (.tuple #[.int k a, .int l c]) = .returned (.tuple #[.int k b, .int l d]) := by rw [h, h']
def fTold (n : Int) : Int × Int := if fitsB n then (n, 0) else (0, 11)
def fAdd (a b : Int) : Int × Int := if fitsB a && fitsB b then fTold (a + b) else (0, 2)
def fSub (a b : Int) : Int × Int := if fitsB a && fitsB b then fTold (a - b) else (0, 2)

theorem fits_any (n : Int) (w : World) :
  Calls Tryz.prog 30 #[.int .i64 n] w fun e w' => e = .returned (.bool (fitsB n)) ∧ w = w' := by
 go_enter Tryz.func30, Tryz.ntmps30
 go_wp2
 all_goals (go_ret; exact ⟨by simp [fitsB]; omega, rfl⟩)
theorem told_any (n : Int) (w : World) :
  Calls Tryz.prog 84 #[.int .i64 n] w fun e w' => e = .returned (.tuple #[.int .i64 (fTold n).1, .int .i64 (fTold n).2]) ∧ w = w' := by
 go_enter Tryz.func84, Tryz.ntmps84
 go_wp2_with (go_at_call 30; ((with_reducible refine (fits_any _ _).mono ?_); rintro e w' ⟨rfl, rfl⟩))
 all_goals (go_tidy; try simp only [Bool.not_eq_true', Bool.not_eq_false'] at *)
 all_goals (go_ret2; exact ⟨by simp [fTold, *], rfl⟩)
theorem add_any (a b : Int) (w : World) :
  Calls Tryz.prog 40 #[.int .i64 a, .int .i64 b] w fun e w' => e = .returned (.tuple #[.int .i64 (fAdd a b).1, .int .i64 (fAdd a b).2]) ∧ w = w' := by
 go_enter Tryz.func40, Tryz.ntmps40
 cases ha : fitsB a <;> cases hb : fitsB b
 case true.true =>
  have ha' := fitsB_t ha
  have hb' := fitsB_t hb
  go_wp2_with (first | (go_at_call 30; ((with_reducible refine (fits_any _ _).mono ?_); rintro e w' ⟨rfl, rfl⟩)) | (go_at_call 84; ((with_reducible refine (told_any _ _).mono ?_); rintro e w' ⟨rfl, rfl⟩)))
  all_goals (go_tidy; try simp only [Bool.not_eq_true', Bool.not_eq_false'] at *)
  all_goals (go_ret2; exact ⟨by simp [fAdd, *], rfl⟩)
 all_goals
  go_wp2_with (first | (go_at_call 30; ((with_reducible refine (fits_any _ _).mono ?_); rintro e w' ⟨rfl, rfl⟩)))
  all_goals (go_tidy; try simp only [Bool.not_eq_true', Bool.not_eq_false'] at *)
  all_goals (go_ret2; exact ⟨by simp [fAdd, *], rfl⟩)
theorem sub_any (a b : Int) (w : World) :
  Calls Tryz.prog 41 #[.int .i64 a, .int .i64 b] w fun e w' => e = .returned (.tuple #[.int .i64 (fSub a b).1, .int .i64 (fSub a b).2]) ∧ w = w' := by
 go_enter Tryz.func41, Tryz.ntmps41
 cases ha : fitsB a <;> cases hb : fitsB b
 case true.true =>
  have ha' := fitsB_t ha
  have hb' := fitsB_t hb
  go_wp2_with (first | (go_at_call 30; ((with_reducible refine (fits_any _ _).mono ?_); rintro e w' ⟨rfl, rfl⟩)) | (go_at_call 84; ((with_reducible refine (told_any _ _).mono ?_); rintro e w' ⟨rfl, rfl⟩)))
  all_goals (go_tidy; try simp only [Bool.not_eq_true', Bool.not_eq_false'] at *)
  all_goals (go_ret2; exact ⟨by simp [fSub, *], rfl⟩)
 all_goals
  go_wp2_with (first | (go_at_call 30; ((with_reducible refine (fits_any _ _).mono ?_); rintro e w' ⟨rfl, rfl⟩)))
  all_goals (go_tidy; try simp only [Bool.not_eq_true', Bool.not_eq_false'] at *)
  all_goals (go_ret2; exact ⟨by simp [fSub, *], rfl⟩)
theorem size_any (n : Int) (w : World) (h : -1152921504606846976 ≤ n ∧ n ≤ 1152921504606846976) :
  Calls Tryz.prog 122 #[.int .i64 n] w fun e w' => e = .returned (.int .u64 ((n.natAbs : Nat) : Int)) ∧ w = w' := by
 have h1 := h.1
 have h2 := h.2
 go_enter Tryz.func122, Tryz.ntmps122
 go_wp2
 all_goals (go_ret; exact ⟨ret_int (by omega), rfl⟩)
end Go.Proofs.YtmblgaehfjheeaaGreat
/-
 The contracts of Go's library that the walks use, laid by program at this translation: plain declarations, each one application of the shelf's own theorem. Conditions: none beyond those of each theorem.
-/
namespace Go.Proofs
open Go.Shelf
def Tryz.lays156_ren : Go.Shelf.Ren := ⟨fun | 156 => 98 | 165 => 128 | 166 => 129 | 169 => 130 | 240 => 150 | 241 => 151 | 276 => 158 | 277 => 159 | n => n, fun | 31 => 40 | 9 => 9 | 3 => 3 | 4 => 4 | 0 => 0 | 20 => 20 | 72 => 149 | 76 => 153 | 70 => 147 | 37 => 146 | 75 => 152 | 127 => 171 | 164 => 178 | 5 => 5 | 80 => 155 | n => n, fun | n => n⟩
theorem Tryz.lays156 : Go.Proofs.Lays.n156 Tryz.prog Tryz.lays156_ren := {
 mixed := by kernel_rfl
 f156 := Tryz.func98.trans (congrArg some (by kernel_rfl))
 f165 := Tryz.func128.trans (congrArg some (by kernel_rfl))
 f166 := Tryz.func129.trans (congrArg some (by kernel_rfl))
 f169 := Tryz.func130.trans (congrArg some (by kernel_rfl))
 f240 := Tryz.func150.trans (congrArg some (by kernel_rfl))
 f241 := Tryz.func151.trans (congrArg some (by kernel_rfl))
 f276 := Tryz.func158.trans (congrArg some (by kernel_rfl))
 f277 := Tryz.func159.trans (congrArg some (by kernel_rfl))
 t0 := Tryz.underlying0
 a0 := Tryz.isAgg0
 z0 := Tryz.sizeOf0
 v0 := Tryz.zeroValue0
 t3 := Tryz.underlying3
 a3 := Tryz.isAgg3
 z3 := Tryz.sizeOf3
 v3 := Tryz.zeroValue3
 t4 := Tryz.underlying4
 a4 := Tryz.isAgg4
 z4 := Tryz.sizeOf4
 v4 := Tryz.zeroValue4
 t9 := Tryz.underlying9
 a9 := Tryz.isAgg9
 z9 := Tryz.sizeOf9
 v9 := Tryz.zeroValue9
 t20 := Tryz.underlying20
 a20 := Tryz.isAgg20
 z20 := Tryz.sizeOf20
 v20 := Tryz.zeroValue20
 t31 := Tryz.underlying40
 a31 := Tryz.isAgg40
 z31 := Tryz.sizeOf40
 v31 := Tryz.zeroValue40
 t37 := Tryz.underlying146
 a37 := Tryz.isAgg146
 z37 := Tryz.sizeOf146
 v37 := Tryz.zeroValue146
 t70 := Tryz.underlying147
 a70 := Tryz.isAgg147
 z70 := Tryz.sizeOf147
 v70 := Tryz.zeroValue147
 t72 := Tryz.underlying149
 a72 := Tryz.isAgg149
 z72 := Tryz.sizeOf149
 v72 := Tryz.zeroValue149
 t75 := Tryz.underlying152
 a75 := Tryz.isAgg152
 z75 := Tryz.sizeOf152
 v75 := Tryz.zeroValue152
 t76 := Tryz.underlying153
 a76 := Tryz.isAgg153
 z76 := Tryz.sizeOf153
 v76 := Tryz.zeroValue153
 t127 := Tryz.underlying171
 a127 := Tryz.isAgg171
 z127 := Tryz.sizeOf171
 v127 := Tryz.zeroValue171
 t164 := Tryz.underlying178
 a164 := Tryz.isAgg178
 z164 := Tryz.sizeOf178
 v164 := Tryz.zeroValue178 }
theorem Tryz.Builder_Extra_156 : Builder.Extra Tryz.prog Tryz.lays156_ren := {
 sizeBuilder := by kernel_rfl
 liesBuilder := by kernel_rfl
 t5 := Tryz.underlying5
 a5 := Tryz.isAgg5
 z5 := Tryz.sizeOf5
 v5 := Tryz.zeroValue5
 infoByte := by kernel_rfl
 cellsByte := by kernel_rfl
 sizeByte := by kernel_rfl
 neB5 := by decide }
open Go.RowKit in
theorem Tryz.strings_Join (bk o c : Nat) (xs : List ByteArray) (sep : ByteArray) (w : World) (hcells : ∀ (j : Nat) x, xs[j]? = some x → w.cell? ⟨bk, o + j, none⟩ = some (.string x)) (hbk : bk < w.heap.size) (hN : xs.length ≤ 140737488355328) (hcap : xs.length ≤ c) (hlen : (Lib.join (xs.map (·.data.toList)) sep.data.toList).length ≤ 140737488355328) :
  Calls Tryz.prog 98 #[.slice (some ⟨bk, o, none⟩) xs.length c, .string sep] w fun e w' => e = .returned (.string ⟨(Lib.join (xs.map (·.data.toList)) sep.data.toList).toArray⟩) ∧ Below w.heap.size w w' := Any.strings_Join Tryz.lays156 Tryz.Builder_Extra_156 bk o c xs sep w hcells hbk hN hcap hlen
def Tryz.lays134_ren : Go.Shelf.Ren := ⟨fun | 134 => 149 | 129 => 140 | n => n, fun | 53 => 139 | 3 => 3 | 4 => 4 | 46 => 121 | 5 => 5 | 9 => 9 | n => n, fun | n => n⟩
theorem Tryz.lays134 : Go.Proofs.Lays.n134 Tryz.prog Tryz.lays134_ren := {
 mixed := by kernel_rfl
 f129 := Tryz.func140.trans (congrArg some (by kernel_rfl))
 f134 := Tryz.func149.trans (congrArg some (by kernel_rfl))
 t3 := Tryz.underlying3
 a3 := Tryz.isAgg3
 z3 := Tryz.sizeOf3
 v3 := Tryz.zeroValue3
 t4 := Tryz.underlying4
 a4 := Tryz.isAgg4
 z4 := Tryz.sizeOf4
 v4 := Tryz.zeroValue4
 t5 := Tryz.underlying5
 a5 := Tryz.isAgg5
 z5 := Tryz.sizeOf5
 v5 := Tryz.zeroValue5
 t9 := Tryz.underlying9
 a9 := Tryz.isAgg9
 z9 := Tryz.sizeOf9
 v9 := Tryz.zeroValue9
 t46 := Tryz.underlying121
 a46 := Tryz.isAgg121
 z46 := Tryz.sizeOf121
 v46 := Tryz.zeroValue121
 t53 := Tryz.underlying139
 a53 := Tryz.isAgg139
 z53 := Tryz.sizeOf139
 v53 := Tryz.zeroValue139 }
theorem Tryz.bits_LeadingZeros64 (x : Int) (w : World) (h0 : 0 ≤ x) (h1 : x ≤ 18446744073709551615) :
  Calls Tryz.prog 149 #[.int .u64 x] w fun e w' => e = .returned (.int .i64 (64 - (Lib.bitLen x.toNat : Int))) ∧ w' = w := Any.bits_LeadingZeros64 Tryz.lays134 x w h0 h1
def Tryz.lays264_ren : Go.Shelf.Ren := ⟨fun | 264 => 121 | n => n, fun | 53 => 139 | 46 => 121 | n => n, fun | n => n⟩
theorem Tryz.lays264 : Go.Proofs.Lays.n264 Tryz.prog Tryz.lays264_ren := {
 mixed := by kernel_rfl
 f264 := Tryz.func121.trans (congrArg some (by kernel_rfl))
 t46 := Tryz.underlying121
 a46 := Tryz.isAgg121
 z46 := Tryz.sizeOf121
 v46 := Tryz.zeroValue121
 t53 := Tryz.underlying139
 a53 := Tryz.isAgg139
 z53 := Tryz.sizeOf139
 v53 := Tryz.zeroValue139 }
open Go.RowKit Go.Lib in
theorem Tryz.bits_Mul64 (x y : Nat) (hx : x < 18446744073709551616) (hy : y < 18446744073709551616) (w : World) :
  Calls Tryz.prog 121 #[.int .u64 x, .int .u64 y] w fun e w' => e = .returned (.tuple #[.int .u64 ((x * y / 18446744073709551616 : Nat) : Int), .int .u64 ((x * y % 18446744073709551616 : Nat) : Int)]) ∧ w' = w := Any.bits_Mul64 Tryz.lays264 x y hx hy w
end Go.Proofs
/- Plain arithmetic for Div64 by halves. -/
namespace Go.Proofs.YtmblgaehfjheeaaGreat
open Go
theorem trial_le (u v Y n1 n0 q r Q : Nat) (hY : Y = n1 * 4294967296 + n0) (hu : u = q * n1 + r) (hQ1 : u * 4294967296 + v < (Q + 1) * Y)
  (h : q * n0 ≤ 4294967296 * r + v) : q ≤ Q := by
 rcases Nat.lt_or_ge Q q with hlt | hge
 ·exfalso
  have h1 : (Q + 1) * Y ≤ q * Y := Nat.mul_le_mul_right _ hlt
  have h2 : q * Y = q * n1 * 4294967296 + q * n0 := by rw [hY, Nat.mul_add, ← Nat.mul_assoc]
  omega
 ·exact hge
theorem trial_gt (u v Y n1 n0 q r Q : Nat) (hY : Y = n1 * 4294967296 + n0) (hu : u = q * n1 + r) (hQ0 : Q * Y ≤ u * 4294967296 + v)
  (h : 4294967296 * r + v < q * n0) : Q < q := by
 rcases Nat.lt_or_ge Q q with hlt | hge
 ·exact hlt
 ·exfalso
  have h1 : q * Y ≤ Q * Y := Nat.mul_le_mul_right _ hge
  have h2 : q * Y = q * n1 * 4294967296 + q * n0 := by rw [hY, Nat.mul_add, ← Nat.mul_assoc]
  omega
theorem trial_break (u v Y n1 n0 q r Q : Nat) (hY : Y = n1 * 4294967296 + n0) (h0 : n0 < 4294967296) (hu : u = q * n1 + r) (huY : u < Y) (_h1 : 0 < n1)
  (hQ1 : u * 4294967296 + v < (Q + 1) * Y) (hr : 4294967296 ≤ r) : q ≤ Q := by
 refine trial_le u v Y n1 n0 q r Q hY hu hQ1 ?_
 have hq : q < 4294967296 := by
  rcases Nat.lt_or_ge q 4294967296 with h | h
  ·exact h
  ·exfalso
   have : 4294967296 * n1 ≤ q * n1 := Nat.mul_le_mul_right _ h
   omega
 have h2 : q * n0 ≤ 4294967296 * 4294967296 := Nat.mul_le_mul (by omega) (by omega)
 omega
theorem trial_step (u n1 q r : Nat) (hu : u = (q + 1) * n1 + r) : u = q * n1 + (r + n1) := by
 rw [Nat.add_mul, Nat.one_mul] at hu; omega
theorem norm_shift (y : Nat) (h0 : y ≠ 0) (h : y < 18446744073709551616) :
  ∃ s : Nat, s ≤ 63 ∧ (64 : Int) - (Lib.bitLen y : Int) = (s : Int) ∧ 9223372036854775808 ≤ y * 2 ^ s ∧ y * 2 ^ s < 18446744073709551616 := by
 obtain ⟨b1, b2, b3⟩ := Lib.bitLenAux_bounds 64 y (by simpa using h) h0
 have hb : Lib.bitLen y = Lib.bitLenAux 64 y := rfl
 have hle : Lib.bitLenAux 64 y ≤ 64 := Lib.bitLenAux_le 64 y 64 (by simpa using h)
 rw [hb]
 generalize Lib.bitLenAux 64 y = k at *
 refine ⟨64 - k, by omega, by omega, ?_, ?_⟩
 ·have := Nat.mul_le_mul_right (2 ^ (64 - k)) b2
  rw [← Nat.pow_add, show k - 1 + (64 - k) = 63 by omega] at this
  exact this
 ·have := Nat.mul_lt_mul_of_pos_right b3 (Nat.two_pow_pos (64 - k))
  rw [← Nat.pow_add, show k + (64 - k) = 64 by omega] at this
  exact this
theorem half_facts (u v Y n1 n0 : Nat) (hY : Y = n1 * 4294967296 + n0) (h0 : n0 < 4294967296) (hn : 2147483648 ≤ n1) (hn' : n1 < 4294967296) (hu : u < Y) (hv : v < 4294967296) :
  (u * 4294967296 + v) / Y < 4294967296 ∧ (u * 4294967296 + v) / Y ≤ u / n1 ∧ u / n1 < 8589934592 ∧ (u * 4294967296 + v) % Y < Y ∧ u / n1 * n1 ≤ u ∧ u % n1 < 4294967296 ∧ u = u / n1 * n1 + u % n1 ∧
  (u * 4294967296 + v) / Y * Y ≤ u * 4294967296 + v ∧ u * 4294967296 + v < ((u * 4294967296 + v) / Y + 1) * Y := by
 have hYp : 0 < Y := by omega
 have hnp : 0 < n1 := by omega
 have e1 := Nat.div_add_mod (u * 4294967296 + v) Y
 have e2 := Nat.mod_lt (u * 4294967296 + v) hYp
 have e3 := Nat.div_add_mod u n1
 have e4 := Nat.mod_lt u hnp
 generalize (u * 4294967296 + v) / Y = Q at *
 generalize (u * 4294967296 + v) % Y = R at *
 generalize u / n1 = q at *
 generalize u % n1 = r at *
 have hQ : Q < 4294967296 := by
  rcases Nat.lt_or_ge Q 4294967296 with h | h
  ·exact h
  ·exfalso
   have := Nat.mul_le_mul_left Y h
   omega
 have m1 : Y * Q = Q * Y := Nat.mul_comm _ _
 have m2 : n1 * q = q * n1 := Nat.mul_comm _ _
 have m3 : (Q + 1) * Y = Q * Y + Y := by rw [Nat.add_mul, Nat.one_mul]
 have m4 : Q * Y = Q * n1 * 4294967296 + Q * n0 := by rw [hY, Nat.mul_add, ← Nat.mul_assoc]
 refine ⟨hQ, ?_, ?_, e2, by omega, by omega, by omega, by omega, by omega⟩
 ·rcases Nat.lt_or_ge q Q with h | h
  ·exfalso
   have := Nat.mul_le_mul_right n1 h
   rw [Nat.succ_mul] at this
   omega
  ·exact h
 ·rcases Nat.lt_or_ge q 8589934592 with h | h
  ·exact h
  ·exfalso
   have := Nat.mul_le_mul_right n1 h
   omega
theorem join_quot (hi lo y s u v Y Q R v1 v0 Q' : Nat) (hy : 0 < y) (hY : Y = y * 2 ^ s) (hU : (hi * 18446744073709551616 + lo) * 2 ^ s = u * 18446744073709551616 + v)
  (hv : v = v1 * 4294967296 + v0) (hQ : u * 4294967296 + v1 = Q * Y + R) (hQ' : R * 4294967296 + v0 < (Q' + 1) * Y) (hQ'' : Q' * Y ≤ R * 4294967296 + v0) :
  (hi * 18446744073709551616 + lo) / y = Q * 4294967296 + Q' := by
 have hYp : 0 < Y := by rw [hY]; exact Nat.mul_pos hy (Nat.two_pow_pos s)
 obtain ⟨U, hU'⟩ : ∃ U, U = u * 18446744073709551616 + v := ⟨_, rfl⟩
 obtain ⟨K, hK⟩ : ∃ K, K = Q * 4294967296 + Q' := ⟨_, rfl⟩
 rw [← Nat.mul_div_mul_right _ _ (Nat.two_pow_pos s), hU, ← hY, ← hU', ← hK]
 have m1 : K * Y = Q * Y * 4294967296 + Q' * Y := by rw [hK, Nat.add_mul, Nat.mul_right_comm]
 have m2 : (Q' + 1) * Y = Q' * Y + Y := by rw [Nat.add_mul, Nat.one_mul]
 have m3 : (K + 1) * Y = K * Y + Y := by rw [Nat.add_mul, Nat.one_mul]
 have g1 : K * Y ≤ U := by omega
 have g2 : U < (K + 1) * Y := by omega
 exact Nat.div_eq_of_lt_le g1 g2
end Go.Proofs.YtmblgaehfjheeaaGreat
