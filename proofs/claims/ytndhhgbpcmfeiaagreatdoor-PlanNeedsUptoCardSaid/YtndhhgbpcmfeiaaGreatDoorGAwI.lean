/- Walks over the evaluator: slices of arrays, copy. -/
import Derived.Test.YtndhhgbpcmfeiaaGreatDoorGAwF
namespace Go.Proofs.YtndhhgbpcmfeiaaGreatDoor.Ev
open Go.RowKit
set_option linter.unusedVariables false
section
variable {tb : Tab} {n : Nat} {E : Env} {s : St} {hs : HSt} {R : T AV → AHeap → Prop} {ops rest : List Oper} {d t : Nat} {ty : TypeId} {pos : String} {aft : Array Edge}
theorem WO.copy {ox oy : Operand} {e sz i b o len q : Nat} {tl : List Nat} {ob : AObj} {x : AV} {cs cs' : List AV} {hs' : HSt} (hu : tb.und t = some (.slice e)) (hz : tb.size e = some sz) (hx : oL s ox = some (.slice b o len sz)) (hy : oL s oy = some x)
    (hc : ∀ h, KeepIn hs h → cellsOfA h.objs sz x = some (q, cs)) (hi : hs[i]? = some ⟨b, ob, true⟩) (hok : ((Nat.beq ob.sz sz && Nat.blt 0 sz) && Nat.ble ((o + len) * sz) ob.cells.length) = true) (hr : layL ob.cells (o * sz) (cs.take (min q len * sz)) = cs')
    (he : hs.set i ⟨b, ⟨ob.sz, ob.exact_, cs'⟩, true⟩ = hs') (hd : Nat.blt d n = true) (hk : WO tb n ops rest E ((d, .int .i64 ((min q len : Nat) : Int)) :: s) hs' R) :
    WO tb n ops (⟨some d, .call ⟨.builtin .copy, #[ox, oy], (t :: tl).toArray⟩, ty, pos, aft, none⟩ :: rest) E s hs R := by
  refine WO.l (s' := s) fun tm h ht hh => ?_
  have hb := hh.at_ _ (mem_at hi)
  simp only at hb
  rw [Bool.and_eq_true] at hok
  subst he
  refine ⟨.int .i64 ((min q len : Nat) : Int), ⟨h.next, h.objs.set b ⟨ob.sz, ob.exact_, cs'⟩⟩, tm.set d (.int .i64 ((min q len : Nat) : Int)), ?_, putDst_at hd, hk _ _ (ht.set d _) (hh.put hi)⟩
  show Res.l (evCopy tb tm h #[ox, oy] (t :: tl).toArray) = _
  unfold evCopy
  simp only [opnds, oL_ok ht hx, oL_ok ht hy]
  unfold copyA
  have e1 : Nat.beq sz sz = true := by simp
  simp only [hu, hz, e1, hc h hh.keep]
  unfold copyTo
  simp only [hb.1, hok.1, hok.2, hr]
  rfl
end
end Go.Proofs.YtndhhgbpcmfeiaaGreatDoor.Ev

/- Walks over the evaluator: short names. -/
namespace Go.Proofs.YtndhhgbpcmfeiaaGreatDoor.Ev
open Go.RowKit
set_option linter.unusedVariables false
section
variable {tb : Tab} {n : Nat} {E : Env} {s : St} {hs : HSt} {R : T AV → AHeap → Prop} {ops rest : List Oper} {d t : Nat} {ty : TypeId} {pos : String} {aft : Array Edge} {k : IntKind}
theorem zc {a b : St} (k : Nat) {v : AV} (h : lk b k = some v) (g : SubS a b) : SubS ((k, v) :: a) b := SubS.cons h g
end
end Go.Proofs.YtndhhgbpcmfeiaaGreatDoor.Ev

/- Walks over the evaluator: calls on memory that comes in, and is only looked at. -/
namespace Go.Proofs.YtndhhgbpcmfeiaaGreatDoor.Ev
open Go.RowKit
set_option linter.unusedVariables false
/-- A block that comes in: what it is, whether it is there, what is seen of it. -/
structure InB where
  bi : BI
  live : Bool
  cells : List AV
def injIn (I : List InB) : Inj := fun b => (I[b]?).map (·.bi)
noncomputable def objsIn : Nat → List InB → T AObj
  | _, [] => .leaf
  | i, x :: l => match x.live with
    | true => (objsIn (i + 1) l).set i ⟨0, false, x.cells⟩
    | false => objsIn (i + 1) l
theorem objsIn_get : ∀ (l : List InB) (i k : Nat) (o : AObj), (objsIn i l).get k = some o → ∃ x, i ≤ k ∧ l[k - i]? = some x ∧ x.live = true ∧ o = ⟨0, false, x.cells⟩
  | [], i, k, o, h => by simp [objsIn, T.get_leaf] at h
  | x :: l, i, k, o, h => by
    unfold objsIn at h
    cases hx : x.live with
    | true =>
      rw [hx] at h
      simp only [T.get_set] at h
      split at h
      · rename_i e
        subst e
        simp only [Option.some.injEq] at h
        exact ⟨x, Nat.le_refl _, by simp, hx, h.symm⟩
      · obtain ⟨y, h1, h2, h3, h4⟩ := objsIn_get l (i + 1) k o h
        refine ⟨y, by omega, ?_, h3, h4⟩
        have : k - i = (k - (i + 1)) + 1 := by omega
        rw [this, List.getElem?_cons_succ]; exact h2
    | false =>
      rw [hx] at h
      obtain ⟨y, h1, h2, h3, h4⟩ := objsIn_get l (i + 1) k o h
      refine ⟨y, by omega, ?_, h3, h4⟩
      have : k - i = (k - (i + 1)) + 1 := by omega
      rw [this, List.getElem?_cons_succ]; exact h2
theorem objsIn_at : ∀ (l : List InB) (i k : Nat) (x : InB), l[k]? = some x → x.live = true → (objsIn i l).get (i + k) = some ⟨0, false, x.cells⟩
  | [], i, k, x, h, _ => by simp at h
  | y :: l, i, 0, x, h, hl => by
    simp at h
    subst h
    unfold objsIn
    rw [hl]
    simp [T.get_set]
  | y :: l, i, k + 1, x, h, hl => by
    have h := objsIn_at l (i + 1) k x (by simpa using h) hl
    have e : i + 1 + k = i + (k + 1) := by omega
    rw [e] at h
    unfold objsIn
    cases y.live with
    | true => simp only [T.get_set]; rw [if_neg (by omega)]; exact h
    | false => exact h
noncomputable def heapIn (I : List InB) : AHeap := ⟨I.length, objsIn 0 I⟩
/-- What stands in the world of what comes in. -/
def InOK (w : World) (I : List InB) : Prop := ∀ x ∈ I, x.live = true → x.bi.val = undef ∧ ∃ c e fr, w.heap[x.bi.blk]? = some (.cells c e fr) ∧ ∀ k v, x.cells[k]? = some v → v.isCell = true ∧ ∃ u, c[x.bi.off + k]? = some u ∧ VRel (injIn I) v u
theorem in_rel {w : World} {I : List InB} (h : InOK w I) : HRel (J := ctxOf []) (injIn I) (fun k => k < w.heap.size) ⟨w, w.heap.size, fun _ _ => trivial, fun _ => False⟩ (heapIn I) w := by
  refine ⟨?_, fun k hk => hk, Keeps.refl _ _, fun k hk => hk, ?_, ?_, ?_, ?_, fun b hb => hb.elim⟩
  · intro b i hb
    have hb : injOf [] b = some i := hb
    simp [injOf] at hb
  · intro b o hb
    obtain ⟨x, _, h2, h3, rfl⟩ := objsIn_get I 0 b o hb
    rw [Nat.sub_zero] at h2
    obtain ⟨h4, c, e, fr, h5, h6⟩ := h x (List.mem_of_getElem? h2) h3
    exact .inr (.inl ⟨x.bi, c, e, fr, by simp [injIn, h2], h4, h5, (Array.getElem?_eq_some_iff.1 h5).1, rfl, h6⟩)
  · intro b b' o o' i i' hb hb' hi hi' heq hN
    obtain ⟨x, _, h2, h3, rfl⟩ := objsIn_get I 0 b o hb
    rw [Nat.sub_zero] at h2
    obtain ⟨h4, c, e, fr, h5, h6⟩ := h x (List.mem_of_getElem? h2) h3
    have : injIn I b = some x.bi := by simp [injIn, h2]
    rw [this] at hi
    cases hi
    exact absurd (Array.getElem?_eq_some_iff.1 h5).1 hN
  · intro b o hb
    obtain ⟨x, _, h2, _⟩ := objsIn_get I 0 b o hb
    have := (List.getElem?_eq_some_iff.1 h2).1
    show b < I.length
    omega
  · intro b hb
    unfold injIn
    rw [List.getElem?_eq_none hb]
    rfl
/-- Some of the blocks that come in. -/
def SeenIn (I : List InB) (hs : HSt) : Prop := (hs.map (·.b)).Nodup ∧ ∀ e ∈ hs, e.w = false ∧ ∃ x, I[e.b]? = some x ∧ x.live = true ∧ e.o = ⟨0, false, x.cells⟩
theorem in_call {P : Program} {tb : Tab} (H : TabOK P tb (ctxOf [])) {f : Nat} {args : List AV} {hs : HSt} {v : AV} {u : Value} (h : Spec tb f args [] hs (Val v)) (hu : conT v = some u) {I : List InB} (hI : SeenIn I hs) {vs : Array Value} (hl : LRel (injIn I) args vs.toList) (w : World) (hw : InOK w I) :
    Calls P f vs w fun e w' => e = .returned u ∧ Below w.heap.size w w' := by
  obtain ⟨v', h', hs', ⟨K0, hE⟩, ⟨rfl, _⟩, _, _⟩ := h (heapIn I) ⟨fun e he => by
    obtain ⟨h1, x, h2, h3, h4⟩ := hI.2 e he
    refine ⟨?_, (List.getElem?_eq_some_iff.1 h2).1, fun g => by rw [h1] at g; cases g⟩
    have := objsIn_at I 0 e.b x h2 h3
    rw [Nat.zero_add] at this
    rw [h4]
    exact this, hI.1, Fr.refl _ _⟩
  have hE := hE K0 (Nat.le_refl _)
  obtain ⟨_, hc⟩ := callA_ok H K0 _ _ _ _ _ _ _ _ _ _ hE hl (in_rel hw)
  exact hc.mono fun e w' ⟨M', x, h1, h2, h3, h4⟩ => ⟨by rw [h1, conT_ok hu h4], h3.below.below fun k hk => hk⟩
end Go.Proofs.YtndhhgbpcmfeiaaGreatDoor.Ev
