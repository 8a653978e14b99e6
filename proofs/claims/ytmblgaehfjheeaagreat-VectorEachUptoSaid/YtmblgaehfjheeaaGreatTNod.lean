/- Walks over the evaluator: slices of arrays, copy. -/
import Derived.Test.YtmblgaehfjheeaaGreatTAwF
import Derived.Test.YtmblgaehfjheeaaGreatProg
namespace Go.Proofs.YtmblgaehfjheeaaGreat.Ev
open Go.RowKit
set_option linter.unusedVariables false
section
variable {tb : Tab} {n : Nat} {E : Env} {s : St} {hs : HSt} {R : T AV → AHeap → Prop} {ops rest : List Oper} {d t : Nat} {ty : TypeId} {pos : String} {aft : Array Edge}
theorem WO.copy {ox oy : Operand} {e sz i b o len q : Nat} {tl : List Nat} {ob : AObj} {x : AV} {cs cs' : List AV} {hs' : HSt} (hu : tb.und t = some (.slice e)) (hz : tb.size e = some sz) (hx : oL s ox = some (.slice b o len sz)) (hy : oL s oy = some x)
    (hc : ∀ h, KeepIn hs h → cellsOfA h.objs sz x = some (q, cs)) (hi : hs[i]? = some ⟨b, ob, true⟩) (hok : ((Nat.beq ob.sz sz && Nat.blt 0 sz) && Nat.ble ((o + len) * sz) ob.cells.length) = true) (hr : layL ob.cells (o * sz) (cs.take (min q len * sz)) = cs')
    (he : hs.set i ⟨b, ⟨ob.sz, ob.exact_, cs'⟩, true⟩ = hs') (hd : Nat.blt d n = true) (hk : WO tb n ops rest E ((d, .int .i64 ((min q len : Nat) : Int)) :: s) hs' R) :
    WO tb n ops (⟨some d, .call ⟨.builtin .copy, #[ox, oy], (t :: tl).toArray⟩, ty, pos, aft, none⟩ :: rest) E s hs R := by
  refine WO.l (s' := s) fun tm h ht hh => ?_
  have hb := hh.at_ _ (mem_at hi)
  simp only at hb
  rw [Bool.and_eq_true] at hok
  subst he
  refine ⟨.int .i64 ((min q len : Nat) : Int), ⟨h.next, h.objs.set b ⟨ob.sz, ob.exact_, cs'⟩⟩, tm.set d (.int .i64 ((min q len : Nat) : Int)), ?_, putDst_at hd, hk _ _ (ht.set d _) (hh.put hi)⟩
  show Res.l (evCopy tb tm h #[ox, oy] (t :: tl).toArray) = _
  unfold evCopy
  simp only [opnds, oL_ok ht hx, oL_ok ht hy]
  unfold copyA
  have e1 : Nat.beq sz sz = true := by simp
  simp only [hu, hz, e1, hc h hh.keep]
  unfold copyTo
  simp only [hb.1, hok.1, hok.2, hr]
  rfl
end
end Go.Proofs.YtmblgaehfjheeaaGreat.Ev

/- Walks over the evaluator: short names. -/
namespace Go.Proofs.YtmblgaehfjheeaaGreat.Ev
open Go.RowKit
set_option linter.unusedVariables false
section
variable {tb : Tab} {n : Nat} {E : Env} {s : St} {hs : HSt} {R : T AV → AHeap → Prop} {ops rest : List Oper} {d t : Nat} {ty : TypeId} {pos : String} {aft : Array Edge} {k : IntKind}
theorem zc {a b : St} (k : Nat) {v : AV} (h : lk b k = some v) (g : SubS a b) : SubS ((k, v) :: a) b := SubS.cons h g
end
end Go.Proofs.YtmblgaehfjheeaaGreat.Ev

/- Walks over the evaluator: calls on memory that comes in, and is only looked at. -/
namespace Go.Proofs.YtmblgaehfjheeaaGreat.Ev
open Go.RowKit
set_option linter.unusedVariables false
/-- A block that comes in: what it is, whether it is there, what is seen of it. -/
structure InB where
  bi : BI
  live : Bool
  cells : List AV
def injIn (I : List InB) : Inj := fun b => (I[b]?).map (·.bi)
noncomputable def objsIn : Nat → List InB → T AObj
  | _, [] => .leaf
  | i, x :: l => match x.live with
    | true => (objsIn (i + 1) l).set i ⟨0, false, x.cells⟩
    | false => objsIn (i + 1) l
theorem objsIn_get : ∀ (l : List InB) (i k : Nat) (o : AObj), (objsIn i l).get k = some o → ∃ x, i ≤ k ∧ l[k - i]? = some x ∧ x.live = true ∧ o = ⟨0, false, x.cells⟩
  | [], i, k, o, h => by simp [objsIn, T.get_leaf] at h
  | x :: l, i, k, o, h => by
    unfold objsIn at h
    cases hx : x.live with
    | true =>
      rw [hx] at h
      simp only [T.get_set] at h
      split at h
      · rename_i e
        subst e
        simp only [Option.some.injEq] at h
        exact ⟨x, Nat.le_refl _, by simp, hx, h.symm⟩
      · obtain ⟨y, h1, h2, h3, h4⟩ := objsIn_get l (i + 1) k o h
        refine ⟨y, by omega, ?_, h3, h4⟩
        have : k - i = (k - (i + 1)) + 1 := by omega
        rw [this, List.getElem?_cons_succ]; exact h2
    | false =>
      rw [hx] at h
      obtain ⟨y, h1, h2, h3, h4⟩ := objsIn_get l (i + 1) k o h
      refine ⟨y, by omega, ?_, h3, h4⟩
      have : k - i = (k - (i + 1)) + 1 := by omega
      rw [this, List.getElem?_cons_succ]; exact h2
theorem objsIn_at : ∀ (l : List InB) (i k : Nat) (x : InB), l[k]? = some x → x.live = true → (objsIn i l).get (i + k) = some ⟨0, false, x.cells⟩
  | [], i, k, x, h, _ => by simp at h
  | y :: l, i, 0, x, h, hl => by
    simp at h
    subst h
    unfold objsIn
    rw [hl]
    simp [T.get_set]
  | y :: l, i, k + 1, x, h, hl => by
    have h := objsIn_at l (i + 1) k x (by simpa using h) hl
    have e : i + 1 + k = i + (k + 1) := by omega
    rw [e] at h
    unfold objsIn
    cases y.live with
    | true => simp only [T.get_set]; rw [if_neg (by omega)]; exact h
    | false => exact h
noncomputable def heapIn (I : List InB) : AHeap := ⟨I.length, objsIn 0 I⟩
/-- What stands in the world of what comes in. -/
def InOK (w : World) (I : List InB) : Prop := ∀ x ∈ I, x.live = true → x.bi.val = undef ∧ ∃ c e fr, w.heap[x.bi.blk]? = some (.cells c e fr) ∧ ∀ k v, x.cells[k]? = some v → v.isCell = true ∧ ∃ u, c[x.bi.off + k]? = some u ∧ VRel (injIn I) v u
theorem in_rel {w : World} {I : List InB} (h : InOK w I) : HRel (J := ctxOf []) (injIn I) (fun k => k < w.heap.size) ⟨w, w.heap.size, fun _ _ => trivial, fun _ => False⟩ (heapIn I) w := by
  refine ⟨?_, fun k hk => hk, Keeps.refl _ _, fun k hk => hk, ?_, ?_, ?_, ?_, fun b hb => hb.elim⟩
  · intro b i hb
    have hb : injOf [] b = some i := hb
    simp [injOf] at hb
  · intro b o hb
    obtain ⟨x, _, h2, h3, rfl⟩ := objsIn_get I 0 b o hb
    rw [Nat.sub_zero] at h2
    obtain ⟨h4, c, e, fr, h5, h6⟩ := h x (List.mem_of_getElem? h2) h3
    exact .inr (.inl ⟨x.bi, c, e, fr, by simp [injIn, h2], h4, h5, (Array.getElem?_eq_some_iff.1 h5).1, rfl, h6⟩)
  · intro b b' o o' i i' hb hb' hi hi' heq hN
    obtain ⟨x, _, h2, h3, rfl⟩ := objsIn_get I 0 b o hb
    rw [Nat.sub_zero] at h2
    obtain ⟨h4, c, e, fr, h5, h6⟩ := h x (List.mem_of_getElem? h2) h3
    have : injIn I b = some x.bi := by simp [injIn, h2]
    rw [this] at hi
    cases hi
    exact absurd (Array.getElem?_eq_some_iff.1 h5).1 hN
  · intro b o hb
    obtain ⟨x, _, h2, _⟩ := objsIn_get I 0 b o hb
    have := (List.getElem?_eq_some_iff.1 h2).1
    show b < I.length
    omega
  · intro b hb
    unfold injIn
    rw [List.getElem?_eq_none hb]
    rfl
/-- Some of the blocks that come in. -/
def SeenIn (I : List InB) (hs : HSt) : Prop := (hs.map (·.b)).Nodup ∧ ∀ e ∈ hs, e.w = false ∧ ∃ x, I[e.b]? = some x ∧ x.live = true ∧ e.o = ⟨0, false, x.cells⟩
theorem in_call {P : Program} {tb : Tab} (H : TabOK P tb (ctxOf [])) {f : Nat} {args : List AV} {hs : HSt} {v : AV} {u : Value} (h : Spec tb f args [] hs (Val v)) (hu : conT v = some u) {I : List InB} (hI : SeenIn I hs) {vs : Array Value} (hl : LRel (injIn I) args vs.toList) (w : World) (hw : InOK w I) :
    Calls P f vs w fun e w' => e = .returned u ∧ Below w.heap.size w w' := by
  obtain ⟨v', h', hs', ⟨K0, hE⟩, ⟨rfl, _⟩, _, _⟩ := h (heapIn I) ⟨fun e he => by
    obtain ⟨h1, x, h2, h3, h4⟩ := hI.2 e he
    refine ⟨?_, (List.getElem?_eq_some_iff.1 h2).1, fun g => by rw [h1] at g; cases g⟩
    have := objsIn_at I 0 e.b x h2 h3
    rw [Nat.zero_add] at this
    rw [h4]
    exact this, hI.1, Fr.refl _ _⟩
  have hE := hE K0 (Nat.le_refl _)
  obtain ⟨_, hc⟩ := callA_ok H K0 _ _ _ _ _ _ _ _ _ _ hE hl (in_rel hw)
  exact hc.mono fun e w' ⟨M', x, h1, h2, h3, h4⟩ => ⟨by rw [h1, conT_ok hu h4], h3.below.below fun k hk => hk⟩
end Go.Proofs.YtmblgaehfjheeaaGreat.Ev

/- The tables of the program, with what is known of calls (chapter 19). -/
namespace Go.Proofs.YtmblgaehfjheeaaGreat.Ev
open Go.RowKit
set_option linter.unusedVariables false
noncomputable def orc (f : Nat) (args : List AV) (h : AHeap) : Option AV :=
  match Nat.beq f 18 with
  | true => match args with
    | [] => some (.bool true)
    | _ => none
  | false => none
noncomputable def tab : Tab := (tabOf Tryz.prog).knows (fun _ _ _ _ => none) (fun _ _ => none) orc
end Go.Proofs.YtmblgaehfjheeaaGreat.Ev

/- What the tables say of types. -/
namespace Go.Proofs.YtmblgaehfjheeaaGreat.Ev
open Go.RowKit
theorem ag128 : tab.isAgg 128 = some false := by kernel_rfl
theorem ag132 : tab.isAgg 132 = some true := by kernel_rfl
theorem ag3 : tab.isAgg 3 = some false := by kernel_rfl
theorem ag33 : tab.isAgg 33 = some false := by kernel_rfl
theorem ag35 : tab.isAgg 35 = some true := by kernel_rfl
theorem ag40 : tab.isAgg 40 = some false := by kernel_rfl
theorem ag68 : tab.isAgg 68 = some true := by kernel_rfl
theorem ag9 : tab.isAgg 9 = some false := by kernel_rfl
theorem ag90 : tab.isAgg 90 = some false := by kernel_rfl
theorem ao132 : AO tab 132 = some ⟨1, true, [.str [], .str []]⟩ := by kernel_rfl
theorem ao35 : AO tab 35 = some ⟨2, true, [.nils, .int .i64 0]⟩ := by kernel_rfl
theorem ao68 : AO tab 68 = some ⟨2, true, [.str [], .str []]⟩ := by kernel_rfl
theorem ap22_22 : AP tab 22 22 = some 2 := by kernel_rfl
theorem ap33_33 : AP tab 33 33 = some 2 := by kernel_rfl
theorem ap89_89 : AP tab 89 89 = some 1 := by kernel_rfl
theorem ap90_90 : AP tab 90 90 = some 1 := by kernel_rfl
theorem bx130 : ∀ l : List AV, l.length = 2 → varObj tab 130 l = ⟨2, true, l⟩ := by intro l h; exact varObj_plain (by kernel_rfl) h
theorem bx35 : ∀ l : List AV, l.length = 2 → varObj tab 35 l = ⟨2, true, l⟩ := by intro l h; exact varObj_plain (by kernel_rfl) h
theorem bx40 : ∀ l : List AV, l.length = 1 → varObj tab 40 l = ⟨1, true, l⟩ := by intro l h; exact varObj_plain (by kernel_rfl) h
theorem bx68 : ∀ l : List AV, l.length = 2 → varObj tab 68 l = ⟨2, true, l⟩ := by intro l h; exact varObj_plain (by kernel_rfl) h
theorem fa130_0 : FA tab 130 0 = some (0, 0 + 1) := by kernel_rfl
theorem fa130_1 : FA tab 130 1 = some (1, 0 + 1) := by kernel_rfl
theorem fa35_0 : FA tab 35 0 = some (0, 0 + 1) := by kernel_rfl
theorem fa35_1 : FA tab 35 1 = some (1, 0 + 1) := by kernel_rfl
theorem fa68_0 : FA tab 68 0 = some (0, 0 + 1) := by kernel_rfl
theorem fa68_1 : FA tab 68 1 = some (1, 0 + 1) := by kernel_rfl
theorem mt128 : mapTypes (tab.und 128) = some (132, 89) := by kernel_rfl
theorem pl130 : PL tab 130 [.nils, .nilm] [(0, 1), (1, 1)] = true := by kernel_rfl
theorem pl132 : PL tab 132 [.str [], .str []] [(0, 1), (1, 1)] = true := by kernel_rfl
theorem pl35 : PL tab 35 [.nils, .int .i64 0] [(0, 1), (1, 1)] = true := by kernel_rfl
theorem pl68 : PL tab 68 [.str [], .str []] [(0, 1), (1, 1)] = true := by kernel_rfl
theorem sz132 : tab.size 132 = some 2 := by kernel_rfl
theorem sz3 : tab.size 3 = some 1 := by kernel_rfl
theorem sz33 : tab.size 33 = some 1 := by kernel_rfl
theorem sz35 : tab.size 35 = some 2 := by kernel_rfl
theorem sz68 : tab.size 68 = some 2 := by kernel_rfl
theorem sz9 : tab.size 9 = some 1 := by kernel_rfl
theorem sz90 : tab.size 90 = some 1 := by kernel_rfl
theorem ud121 : tab.und 121 = some (.int .u64) := by kernel_rfl
theorem ud132 : tab.und 132 = some (.array 2 9) := by kernel_rfl
theorem ud22 : tab.und 22 = some (.slice 35) := by kernel_rfl
theorem ud3 : tab.und 3 = some (.int .i64) := by kernel_rfl
theorem ud33 : tab.und 33 = some (.slice 68) := by kernel_rfl
theorem ud4 : tab.und 4 = some .bool := by kernel_rfl
theorem ud40 : tab.und 40 = some (.slice 9) := by kernel_rfl
theorem ud89 : tab.und 89 = some (.slice 3) := by kernel_rfl
theorem ud9 : tab.und 9 = some .string := by kernel_rfl
theorem ud90 : tab.und 90 = some (.slice 33) := by kernel_rfl
theorem zr3 : tab.zero 3 = some (.int .i64 0) := by kernel_rfl
theorem zr33 : tab.zero 33 = some (.nils) := by kernel_rfl
theorem zr35 : tab.zero 35 = some (.agg [.nils, .int .i64 0]) := by kernel_rfl
theorem zr68 : tab.zero 68 = some (.agg [.str [], .str []]) := by kernel_rfl
theorem zr89 : tab.zero 89 = some (.nils) := by kernel_rfl
theorem zr9 : tab.zero 9 = some (.str []) := by kernel_rfl
end Go.Proofs.YtmblgaehfjheeaaGreat.Ev

/- Trees in memory, as far as their types hang on them. -/
namespace Go.Proofs.YtmblgaehfjheeaaGreat.Ev
open Go.RowKit
set_option linter.unusedVariables false
/-- A block is there. -/
def MemH (hs : HSt) (b : Nat) (o : AObj) : Prop := ∃ w, (⟨b, o, w⟩ : HE) ∈ hs
theorem MemH.tl {hs : HSt} {b : Nat} {o : AObj} {e : HE} (h : MemH hs b o) : MemH (e :: hs) b o := let ⟨w, g⟩ := h; ⟨w, List.mem_cons_of_mem _ g⟩
theorem MemH.app {A hs : HSt} {b : Nat} {o : AObj} (h : MemH hs b o) : MemH (A ++ hs) b o := let ⟨w, g⟩ := h; ⟨w, List.mem_append_right _ g⟩
theorem MemH.ro {hs : HSt} {b : Nat} {o : AObj} (h : MemH hs b o) : MemH (ro hs) b o := let ⟨w, g⟩ := h; ⟨false, List.mem_map.2 ⟨_, g, rfl⟩⟩
def nodeC (k : Int) (op : List Nat) (n : Int) (ms : AV) (rg off md : Int) (nm : AV) (sd : Int) (bl : Bool) (kd : AV) : List AV :=
  [.int .i64 k, .str op, .int .i64 n, ms, .int .i64 rg, .int .i64 off, .int .i64 md, nm, .int .i64 sd, .bool bl, kd]
/-- Cells of a tree's node, at most so deep. -/
def NRep (hs : HSt) : Nat → List AV → Prop
  | 0, _ => False
  | d + 1, c => ∃ k op n ms rg off md nm sd bl kd, c = nodeC k op n ms rg off md nm sd bl kd ∧ Bytes op ∧ op.length ≤ 281474976710656 ∧ ms.isCell = true ∧ nm.isCell = true ∧
      (kd = .nils ∨ ∃ b len ob, kd = .slice b 0 len 11 ∧ MemH hs b ob ∧ len ≤ 1048576 ∧ ∀ i, i < len → ∃ c', sub? ob.cells ((0 + i) * 11) 11 = some c' ∧ NRep hs d c')
theorem NRep.mono {hs hs' : HSt} (hm : ∀ b o, MemH hs b o → MemH hs' b o) : ∀ {d : Nat} {c : List AV}, NRep hs d c → NRep hs' d c
  | 0, _, h => h
  | d + 1, c, ⟨k, op, n, ms, rg, off, md, nm, sd, bl, kd, h1, h2, h3, h5, h6, h4⟩ => ⟨k, op, n, ms, rg, off, md, nm, sd, bl, kd, h1, h2, h3, h5, h6, h4.imp id fun ⟨b, len, ob, g1, g2, g3, g4⟩ =>
      ⟨b, len, ob, g1, hm _ _ g2, g3, fun i hi => let ⟨c', e1, e2⟩ := g4 i hi; ⟨c', e1, NRep.mono hm e2⟩⟩⟩
theorem NRep.succ {hs : HSt} : ∀ {d : Nat} {c : List AV}, NRep hs d c → NRep hs (d + 1) c
  | 0, _, h => h.elim
  | d + 1, c, ⟨k, op, n, ms, rg, off, md, nm, sd, bl, kd, h1, h2, h3, h5, h6, h4⟩ => ⟨k, op, n, ms, rg, off, md, nm, sd, bl, kd, h1, h2, h3, h5, h6, h4.imp id fun ⟨b, len, ob, g1, g2, g3, g4⟩ =>
      ⟨b, len, ob, g1, g2, g3, fun i hi => let ⟨c', e1, e2⟩ := g4 i hi; ⟨c', e1, NRep.succ e2⟩⟩⟩
theorem NRep.le {hs : HSt} {d : Nat} {c : List AV} (h : NRep hs d c) : ∀ {d' : Nat}, d ≤ d' → NRep hs d' c := by
  intro d' hd
  induction hd with
  | refl => exact h
  | step _ ih => exact ih.succ
/-- Blocks that are only looked at: all those behind some. -/
theorem SubR.self {hs : HSt} (h : ∀ e ∈ hs, e.w = false) : SubR hs hs := ⟨fun e he => ⟨h e he, e.w, by obtain ⟨b, o, w⟩ := e; exact he⟩, id⟩
theorem SubR.tl {a hs : HSt} {e : HE} (g : SubR a hs) : SubR a (e :: hs) :=
  ⟨fun x hx => let ⟨h1, w, h2⟩ := g.1 x hx; ⟨h1, w, List.mem_cons_of_mem _ h2⟩, fun hn => g.2 (by rw [List.map_cons, List.nodup_cons] at hn; exact hn.2)⟩
theorem SubR.app {a A hs : HSt} (g : SubR a hs) : SubR a (A ++ hs) :=
  ⟨fun x hx => let ⟨h1, w, h2⟩ := g.1 x hx; ⟨h1, w, List.mem_append_right _ h2⟩, fun hn => g.2 (by rw [List.map_append] at hn; exact (List.nodup_append.1 hn).2.1)⟩
theorem perm_tail {N G K X : HSt} : ((N ++ K) ++ (X ++ G)).Perm ((N ++ G) ++ (K ++ X)) := by
  rw [List.append_assoc, List.append_assoc]
  refine List.Perm.append_left N ?_
  rw [← List.append_assoc]
  exact List.perm_append_comm
theorem ro_w {hs : HSt} : ∀ e ∈ ro hs, e.w = false := by
  intro e he
  obtain ⟨x, _, rfl⟩ := List.mem_map.1 he
  rfl
theorem SubR.appl {a A hs : HSt} (g : SubR a A) : SubR a (A ++ hs) :=
  ⟨fun x hx => let ⟨h1, w, h2⟩ := g.1 x hx; ⟨h1, w, List.mem_append_left _ h2⟩, fun hn => g.2 (by rw [List.map_append] at hn; exact (List.nodup_append.1 hn).1)⟩
theorem NRep.node {hs : HSt} : ∀ {d : Nat} {c : List AV}, NRep hs d c → ∃ k op n ms rg off md nm sd bl kd, c = nodeC k op n ms rg off md nm sd bl kd ∧ Bytes op ∧ ms.isCell = true ∧ nm.isCell = true ∧ kd.isCell = true
  | 0, _, h => h.elim
  | d + 1, c, ⟨k, op, n, ms, rg, off, md, nm, sd, bl, kd, h1, h2, h3, h5, h6, h4⟩ => ⟨k, op, n, ms, rg, off, md, nm, sd, bl, kd, h1, h2, h5, h6, by rcases h4 with rfl | ⟨b, len, ob, rfl, _⟩ <;> rfl⟩
end Go.Proofs.YtmblgaehfjheeaaGreat.Ev
