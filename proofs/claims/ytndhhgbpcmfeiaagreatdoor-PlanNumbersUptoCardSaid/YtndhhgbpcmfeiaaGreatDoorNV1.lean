/- Chapter 20: what is known of calls holds; rows with a condition whose tables are laid. -/
import Derived.Test.YtndhhgbpcmfeiaaGreatDoorNInC
import Derived.Test.YtndhhgbpcmfeiaaGreatDoorNKey
import Derived.Test.YtndhhgbpcmfeiaaGreatDoorNGb
import Derived.Carry
import Derived.OpenShut
import Derived.JoinedCond
import Derived.LaidLaws
import Derived.Test.YtndhhgbpcmfeiaaGreatDoorNAwJ
namespace Go.Proofs.YtndhhgbpcmfeiaaGreatDoor.Ev
open Go.RowKit Go.ChangeShapes Go.WideShapes
set_option maxRecDepth 100000
theorem tj (n : Int) : 0 <= (gB n).2 := by unfold gB; split <;> simp
theorem wO (a b : Int) : 0 <= (nh a b).2 := by unfold nh; split; exact tj _; decide
theorem wS (a b : Int) : 0 <= (ni a b).2 := by unfold ni; split; exact tj _; decide
theorem nW (a b c : Int) : 0 <= (dc a b c).2 := by unfold dc; split <;> simp
theorem wR (a b : Int) : 0 <= (li a b).2 := by unfold li; split; exact nW _ _ _; decide
theorem wP (a b : Int) : 0 <= (jN a b).2 := by
 unfold jN; split
 ·split; decide; exact nW _ _ _
 ·decide
theorem wQ (a b : Int) : 0 <= (jO a b).2 := by
 unfold jO; split
 ·split <;> simp
 ·decide
def DG (f : Nat) : Prop := ∃ fn, Tryz.prog.funcs[f]? = some fn /\ fn.body.isSome = true /\ (fn.name == "runtime.NumGoroutine") = false
theorem jk {w w' : World} (h : w = w') : Below w.heap.size w w' := by subst h; exact Below.refl _ _
set_option maxHeartbeats 2000000 in
theorem Bg {f : Nat} {m : Int -> Int -> Int × Int} (h : DM f = some m) : DG f /\ ∀ a b (w : World), 0 <= (m a b).2 /\ Calls Tryz.prog f #[.int .i64 a, .int .i64 b] w fun e w' => e = .returned (.tuple #[.int .i64 (m a b).1, .int .i64 (m a b).2]) /\ Below w.heap.size w w' := by
 unfold DM at h
 split at h
 ·rename_i hf
  have hf := Nat.eq_of_beq_eq_true hf
  subst hf
  cases h
  exact ⟨⟨_, Tryz.func107, by kernel_rfl, by kernel_rfl⟩, fun a b w => ⟨wO a b, (yJ a b w).mono fun e w' ⟨h1, h2⟩ => ⟨h1, jk h2⟩⟩⟩
 split at h
 ·rename_i hf
  have hf := Nat.eq_of_beq_eq_true hf
  subst hf
  cases h
  exact ⟨⟨_, Tryz.func108, by kernel_rfl, by kernel_rfl⟩, fun a b w => ⟨wS a b, (Ag a b w).mono fun e w' ⟨h1, h2⟩ => ⟨h1, jk h2⟩⟩⟩
 split at h
 ·rename_i hf
  have hf := Nat.eq_of_beq_eq_true hf
  subst hf
  cases h
  exact ⟨⟨_, Tryz.func109, by kernel_rfl, by kernel_rfl⟩, fun a b w => ⟨wR a b, (zE a b w).mono fun e w' ⟨h1, h2⟩ => ⟨h1, h2⟩⟩⟩
 split at h
 ·rename_i hf
  have hf := Nat.eq_of_beq_eq_true hf
  subst hf
  cases h
  exact ⟨⟨_, Tryz.func110, by kernel_rfl, by kernel_rfl⟩, fun a b w => ⟨wP a b, (yV a b w).mono fun e w' ⟨h1, h2⟩ => ⟨h1, h2⟩⟩⟩
 split at h
 ·rename_i hf
  have hf := Nat.eq_of_beq_eq_true hf
  subst hf
  cases h
  exact ⟨⟨_, Tryz.func111, by kernel_rfl, by kernel_rfl⟩, fun a b w => ⟨wQ a b, (zD a b w).mono fun e w' ⟨h1, h2⟩ => ⟨h1, jk h2⟩⟩⟩
 cases h
theorem w6 {M : Inj} {p : Int × Int} (h : 0 <= p.2) : VRel M (aO p) (.tuple #[.int .i64 p.1, .int .i64 p.2]) := by
 unfold aO
 have e : ((p.2.toNat : Nat) : Int) = p.2 := Int.toNat_of_nonneg h
 rw [e]
 refine .tuple _ _ rfl fun i v u hv hu => ?_
 match i with
 | 0 => simp at hv hu; subst hv hu; exact .int _ _
 | 1 => simp at hv hu; subst hv hu; exact .int _ _
 | i + 2 => simp at hv
theorem CO {M : Inj} {a b : Int} {vs : Array Value} (h : LRel M [.int .i64 a, .int .i64 b] vs.toList) : vs = #[.int .i64 a, .int .i64 b] := by
 obtain ⟨l⟩ := vs
 obtain ⟨h1, h2⟩ := h
 match l, h1 with
 | [x, y], _ =>
  have hx := h2 0 _ _ rfl rfl
  have hy := h2 1 _ _ rfl rfl
  cases hx; cases hy; rfl
theorem yl {M : Inj} {l : List Nat} {v : Value} (h : VRel M (.str l) v) : ∃ s : ByteArray, v = .string s /\ s.data.toList.map UInt8.toNat = l := by
 cases h with
 | str s l h => exact ⟨s, rfl, h⟩
theorem si {M : Inj} {b o n z : Nat} {v : Value} (h : VRel M (.slice b o n z) v) :
  ∃ i cap p, M b = some i /\ i.sz = z /\ o + cap = i.cap /\ n <= cap /\ (p = ⟨i.blk, i.off + o * i.sz, none⟩ \/ cap = 0) /\ i.val = undef /\ v = .slice (some p) n cap := by
 cases h with
 | slice b o n cap p i hi hc hl hp hv => exact ⟨i, cap, p, hi, rfl, hc, hl, hp, hv, rfl⟩
theorem qq : ∀ {l : List AV} {A : List Int}, mf l = some A -> l = cA A /\ ∀ a ∈ A, -9223372036854775808 <= a /\ a <= 9223372036854775807
 | [], A, h => by unfold mf at h; cases h; exact ⟨rfl, fun a h => by simp at h⟩
 | x :: l, A, h => by
  unfold mf at h
  split at h
  ·rename_i h0; cases h0
  ·rename_i a l' h0
   cases h0
   split at h
   ·rename_i m hd hm
    cases h
    obtain ⟨h1, h2⟩ := qq hm
    refine ⟨by rw [h1]; rfl, fun b hb => ?_⟩
    rcases List.mem_cons.1 hb with rfl | hb
    ·exact of_decide_eq_true hd
    ·exact h2 b hb
   ·cases h
  ·cases h
theorem qp {M : Inj} {k : IntKind} {n : Int} {v : Value} (h : VRel M (.int k n) v) : v = .int k n := by cases h; rfl
theorem nM {k : Int} {s : ByteArray} {op : List Nat} {A : List Int} (h : s.data.toList.map UInt8.toNat = op) : (Go.Proofs.YtndhhgbpcmfeiaaGreatDoor.keyB k s A).map UInt8.toNat = wg k op A := by
 unfold Go.Proofs.YtndhhgbpcmfeiaaGreatDoor.keyB wg Go.Proofs.YtndhhgbpcmfeiaaGreatDoor.keyT DW
 rw [List.map_append, List.map_cons, List.map_append, h, List.map_flatMap]
 rfl
def Dy : Ctx := ⟨me [], fun w => Lib.TabIs Tryz.prog w "internal/strconv.uint64pow10" .u64 Lib.pow10Tab⟩
theorem BD {M : Inj} {N : Nat -> Prop} {w0 : Base Dy} {h : AHeap} {w : World} (hh : HRel M N w0 h w) {args : List AV} {vs : Array Value} (hr : LRel M args vs.toList) {v : AV} (ho : BC h args = some v) :
  Calls Tryz.prog 44 vs w fun e w' => ∃ u, e = .returned u /\ VRel M v u /\ Below w.heap.size w w' := by
 have hT : Lib.TabIs Tryz.prog w "internal/strconv.uint64pow10" .u64 Lib.pow10Tab := w0.ok w (hh.below.below hh.lim)
 unfold BC at ho
 split at ho
 rotate_left
 ·cases ho
 rename_i k op c2 c3 c4 c5 c6 c7 c8 c9 c10 va
 split at ho
 rotate_left
 ·cases ho
 rename_i hb
 rw [Bool.and_eq_true] at hb
 have hop := Nat.ble_eq.mp hb.1
 have hk := of_decide_eq_true hb.2
 obtain ⟨l⟩ := vs
 obtain ⟨h1, h2⟩ := hr
 match l, h1 with
 | [x], hq1 =>
 have hx := h2 0 _ _ rfl rfl
 cases hx with
 | agg _ cs hsz hx =>
 obtain ⟨cl⟩ := cs
 match cl, hsz with
 | [u0, u1, u2, u3, u4, u5, u6, u7, u8, u9, u10, u11], hq2 =>
 obtain rfl := qp (hx 0 _ _ rfl rfl)
 obtain ⟨s, rfl, hs⟩ := yl (hx 1 _ _ rfl rfl)
 have h11 := hx 11 _ _ rfl rfl
 have hsl : s.size <= 1048576 := by
  have := congrArg List.length hs
  rw [List.length_map] at this
  have e : s.data.toList.length = s.size := rfl
  omega
 unfold CP at ho
 split at ho
 ·cases ho
  cases h11
  refine (Go.Proofs.YtndhhgbpcmfeiaaGreatDoor.key_any w k hk.1 hk.2 s hsl u2 u3 u4 u5 u6 u7 u8 u9 u10 [] (fun a h => by simp at h) (by simp) none 0 (fun j a h => by simp at h) hT).mono ?_
  rintro e w' ⟨rfl, hB⟩
  exact ⟨_, rfl, .str _ _ (by show (List.toArray _).toList.map _ = _; exact nM hs), hB⟩
 ·rename_i b n
  split at ho
  rotate_left
  ·cases ho
  rename_i ob hn hob
  have hn := Nat.ble_eq.mp hn
  split at ho
  rotate_left
  ·cases ho
  rename_i l hl
  split at ho
  rotate_left
  ·cases ho
  rename_i A hA
  cases ho
  obtain ⟨hls, hAr⟩ := qq hA
  obtain ⟨i, cap, p, hi, hsz, hc, hlc, hp, hv, rfl⟩ := si h11
  have hl0 : l = ob.cells.take n /\ n <= ob.cells.length := by
   unfold ch at hl
   split at hl
   ·rename_i hb
    have := Nat.ble_eq.mp hb
    simp only [Option.some.injEq, List.drop_zero] at hl
    exact ⟨hl.symm, by omega⟩
   ·cases hl
  have hAl : A.length = n := by
   have := congrArg List.length hls
   rw [hl0.1] at this
   simp only [cA, List.length_map, List.length_take] at this
   omega
  have hcells : ∀ j a, A[j]? = some a -> ∃ g off, some p = some ⟨g, off, none⟩ /\ w.cell? ⟨g, off + j, none⟩ = some (.int .i64 a) := by
   intro j a hj
   have hjl : j < n := by have := (List.getElem?_eq_some_iff.1 hj).1; omega
   obtain ⟨j', c, e, fr, k1, k2, k3⟩ := hh.readAt hob hi hv
   rw [hi] at k1
   cases k1
   have hp : p = ⟨i.blk, i.off, none⟩ := by
    have := hp.resolve_right zy
    simpa using this
   have h3 : ob.cells[j]? = some (.int .i64 a) := by
    have h4 : l[j]? = some (.int .i64 a) := by rw [hls, cA, List.getElem?_map, hj]; rfl
    rw [hl0.1, List.getElem?_take, if_pos hjl] at h4
    exact h4
   obtain ⟨_, u, h5, h6⟩ := k3 j _ h3
   obtain rfl := qp h6
   refine ⟨i.blk, i.off, by rw [hp], ?_⟩
   unfold World.cell?
   rw [k2]
   exact h5
  have := Go.Proofs.YtndhhgbpcmfeiaaGreatDoor.key_any w k hk.1 hk.2 s hsl u2 u3 u4 u5 u6 u7 u8 u9 u10 A hAr zy (some p) cap hcells hT
  rw [hAl] at this
  refine this.mono ?_
  rintro e w' ⟨rfl, hB⟩
  exact ⟨_, rfl, .str _ _ (by show (List.toArray _).toList.map _ = _; exact nM hs), hB⟩
 ·cases ho
theorem B3 : ∀ f args h v, orc f args h = some v -> ∀ M N (w0 : Base Dy) (vs : Array Value) w, HRel M N w0 h w -> LRel M args vs.toList ->
  (∃ fn, Tryz.prog.funcs[f]? = some fn /\ fn.body.isSome = true /\ (fn.name == "runtime.NumGoroutine") = false) /\
  Calls Tryz.prog f vs w fun e w' => ∃ u, e = .returned u /\ VRel M v u /\ Below w.heap.size w w' := by
 intro f args h v ho M N w0 vs w hh hr
 unfold orc at ho
 split at ho
 ·rename_i hf
  have hf := Nat.eq_of_beq_eq_true hf
  subst hf
  split at ho
  rotate_left
  ·cases ho
  simp only [Option.some.injEq] at ho
  subst ho
  refine ⟨⟨_, Tryz.func10, by kernel_rfl, by kernel_rfl⟩, ?_⟩
  obtain ⟨cs⟩ := vs
  match cs, hr with
  | [], hr =>
   refine (ub w).mono ?_
   rintro e w' ⟨rfl, hB⟩
   exact ⟨_, rfl, .bool _, hB⟩
  | _ :: _, hr => have := hr.1; simp at this
 ·split at ho
  ·rename_i hf
   have hf := Nat.eq_of_beq_eq_true hf
   subst hf
   exact ⟨⟨_, Tryz.func44, by kernel_rfl, by kernel_rfl⟩, BD hh hr ho⟩
  ·split at ho
   ·rename_i m hm
    obtain ⟨h1, h2⟩ := Bg hm
    split at ho
    rotate_left
    ·cases ho
    rename_i a b
    simp only [Option.some.injEq] at ho
    subst ho
    obtain ⟨h3, h4⟩ := h2 a b w
    refine ⟨h1, ?_⟩
    rw [CO hr]
    exact h4.mono fun e w' ⟨g1, g2⟩ => ⟨_, g1, w6 h3, g2⟩
   ·cases ho
theorem Cd : TabOK Tryz.prog aA Dy := uu (yo (by kernel_rfl) (by kernel_rfl)) (fun _ _ _ _ _ h => by cases h) (fun _ _ _ h => by cases h) B3
theorem y6 {w : World} {I : List InB} (h : A5 w I) (hT : Lib.TabIs Tryz.prog w "internal/strconv.uint64pow10" .u64 Lib.pow10Tab) : HRel (J := Dy) (injIn I) (fun k => k < w.heap.size) ⟨w, w.heap.size, fun w' hb => Lib.tabBelow_of_tabIs hT w' hb, fun _ => False⟩ (vX I) w := by
 refine ⟨?_, fun k hk => hk, Keeps.refl _ _, fun k hk => hk, ?_, ?_, ?_, ?_, fun b hb => hb.elim⟩
 ·intro b i hb
  have hb : me [] b = some i := hb
  simp [me] at hb
 ·intro b o hb
  obtain ⟨x, _, h2, h3, rfl⟩ := fL I 0 b o hb
  rw [Nat.sub_zero] at h2
  obtain ⟨h4, c, e, fr, h5, h6⟩ := h x (List.mem_of_getElem? h2) h3
  exact .inr (.inl ⟨x.bi, c, e, fr, by simp [injIn, h2], h4, h5, (Array.getElem?_eq_some_iff.1 h5).1, rfl, h6⟩)
 ·intro b b' o o' i i' hb hb' hi hi' heq hN
  obtain ⟨x, _, h2, h3, rfl⟩ := fL I 0 b o hb
  rw [Nat.sub_zero] at h2
  obtain ⟨h4, c, e, fr, h5, h6⟩ := h x (List.mem_of_getElem? h2) h3
  have : injIn I b = some x.bi := by simp [injIn, h2]
  rw [this] at hi
  cases hi
  exact absurd (Array.getElem?_eq_some_iff.1 h5).1 hN
 ·intro b o hb
  obtain ⟨x, _, h2, _⟩ := fL I 0 b o hb
  have := (List.getElem?_eq_some_iff.1 h2).1
  show b < I.length
  omega
 ·intro b hb
  unfold injIn
  rw [List.getElem?_eq_none hb]
  rfl
theorem in_callT {f : Nat} {args : List AV} {hs : af} {v : AV} {u : Value} (h : Spec aA f args [] hs (eA v)) (hu : yQ v = some u) {I : List InB} (hI : uF I hs) {vs : Array Value} (hl : LRel (injIn I) args vs.toList) (w : World) (hw : A5 w I) (hT : Lib.TabIs Tryz.prog w "internal/strconv.uint64pow10" .u64 Lib.pow10Tab) :
  Calls Tryz.prog f vs w fun e w' => e = .returned u /\ Below w.heap.size w w' := by
 obtain ⟨v', h', hs', ⟨K0, hE⟩, ⟨rfl, _⟩, _, _⟩ := h (vX I) ⟨fun e he => by
  obtain ⟨h1, x, h2, h3, h4⟩ := hI.2 e he
  refine ⟨?_, (List.getElem?_eq_some_iff.1 h2).1, fun g => by rw [h1] at g; cases g⟩
  have := nY I 0 e.b x h2 h3
  rw [Nat.zero_add] at this
  rw [h4]
  exact this, hI.1, Fr.refl _ _⟩
 have hE := hE K0 (Nat.le_refl _)
 obtain ⟨_, hc⟩ := uX Cd K0 _ _ _ _ _ _ _ _ _ _ hE hl (y6 hw hT)
 exact hc.mono fun e w' ⟨M', x, h1, h2, h3, h4⟩ => ⟨by rw [h1, sR hu h4], h3.below.below fun k hk => hk⟩
theorem trodAll_below {H : Type} {enc : TypeId × Value -> H} {P : Program} (hl : laidOutB P = true) {W W' : World} (hb : Below W.heap.size W W') :
  ∀ {ts : List TypeId} {vs : List Value} {ds : List (DataW H)} {ps : List MemPlace}, (ts.all fun t => P.readableRec t && decide (t < P.types.size)) = true -> DataW.TrodAll enc P W 0 (fun _ => true) true ts vs ds ps -> (∀ x ∈ ps, x.block < W.heap.size) ->
  DataW.TrodAll enc P W' 0 (fun b => decide (b < W.heap.size)) true ts vs ds ps
 | [], vs, ds, ps, _, h, _ => by
  obtain ⟨rfl, rfl, rfl⟩ := trodAll_nil h
  exact trodAll_mk0
 | t :: ts, vs, ds, ps, hr, h, hlt => by
  obtain ⟨v0, vs0, d0, ds0, p0, q0, rfl, rfl, rfl, h0, r0⟩ := trodAll_cons h
  simp only [List.all_cons, Bool.and_eq_true, decide_eq_true_eq] at hr
  exact trodAll_cons_mk (Below.trod hl hr.1.1 hr.1.2 h0 hb fun x hx => hlt x (List.mem_append_left _ hx)) (trodAll_below hl hb (by simpa using hr.2) r0 fun x hx => hlt x (List.mem_append_right _ hx))
theorem bk_bound {H : Type} {l : List (DataW H)} (hk : Rows.uptoSmall H l = true) {d : DataW H} (hd : d ∈ l) : Rows.uptoBulk d <= 1048576 := by
 have := of_decide_eq_true hk
 exact Nat.le_trans (sK hd) this
theorem witness_cond_laid {H : Type} {enc : TypeId × Value -> H} {C : Checked} {os : Os} {f : FuncId} {fn : Func} {s : OpenSpec} {k : (H : Type) -> List (DataW H) -> Bool} (hk : s.cond = some k) {conds : List PathCond} {apart : Bool} {X : World -> Array Value -> Prop} (modest : Bool) (w0 : World) (args : Array Value) (fuel : Nat) (hos : w0.os = os)
  (hsh : (w0.forCall (fun _ _ => 0) ⟨#[], args, []⟩).Shaped C.prog)
  (hok : Input.okWideB C.prog (w0.forCall (fun _ _ => 0) ⟨#[], args, []⟩) f ⟨#[], args, []⟩ = true)
  {x : List (DataW H) × List (DataW H) × List MemPlace} (hx : DataW.whole enc C.prog (w0.forCall (fun _ _ => 0) ⟨#[], args, []⟩).memory fn.params.toList s.vars apart args.toList fuel = some x)
  (hconds : conds.all (PathCond.test C.prog ⟨fn.params.toList, x.1, s.bare.plain.varTypes C.prog, x.2.1⟩) = true) (hkk : k H (x.1 ++ x.2.1) = true)
  (hsz : s.bare.sizedB enc C.prog fn apart (w0.forCall (fun _ _ => 0) ⟨#[], args, []⟩).memory args fuel = true)
  (hX : X (w0.forCall (fun _ _ => 0) ⟨#[], args, []⟩).memory args) :
  ∃ (w : World) (tape : Tape) (i : Input), w.os = os /\ (w.forCall tape i).Shaped C.prog /\ i.vars = [] /\ Input.okWide C.prog (w.forCall tape i) .any w.heap.size f i /\
   ((s.pre enc C.prog fn conds apart (w.forCall tape i).memory i.args /\ X (w.forCall tape i).memory i.args) /\ sizedMet enc C.prog fn s apart (w.forCall tape i).memory i.args) /\ ({ modest := modest } : Assume).holds C.prog (lone (Frame.enter C.prog f i.args .normal) [] (w.forCall tape i)) :=
 ⟨w0, fun _ _ => 0, ⟨#[], args, []⟩, hos, hsh, (Input.okWide_of_okWideB (base := 0) hok).1, (Input.okWide_of_okWideB hok).2,
  ⟨⟨(OpenSpec.pre_some hk conds apart _ _).2 ⟨x.1, x.2.1, x.2.2, DataW.Whole_of_whole hx, hconds, hkk⟩, hX⟩, sizedMet_of_sizedB hsz⟩, by
  simp only [Assume.holds]
  exact ⟨by simp, by simp, fun _ => Modest.zero, by simp, by simp⟩⟩
theorem in_ok {W : World} {I : List InB} (h : ∀ x ∈ I, CellsOK W (injIn I) x) : A5 W I := fun x hx _ => let ⟨_, h2, h3⟩ := h x hx; ⟨h2, h3⟩
end Go.Proofs.YtndhhgbpcmfeiaaGreatDoor.Ev
/- What the tables say of types. -/
namespace Go.Proofs.YtndhhgbpcmfeiaaGreatDoor.Ev.P16
open Go.RowKit
theorem cz : aA.isAgg 112 = some true := by kernel_rfl
theorem Cv : aA.isAgg 22 = some false := by kernel_rfl
theorem uH : aA.isAgg 24 = some false := by kernel_rfl
theorem cG : aA.isAgg 26 = some true := by kernel_rfl
theorem d7 : aA.isAgg 3 = some false := by kernel_rfl
theorem uI : aA.isAgg 4 = some false := by kernel_rfl
theorem Cx : aA.isAgg 59 = some false := by kernel_rfl
theorem oD : aA.isAgg 67 = some true := by kernel_rfl
theorem uy : aA.isAgg 9 = some false := by kernel_rfl
theorem lD : AO aA 112 = some ⟨1, true, [.int .i64 0, .int .i64 0, .int .i64 0]⟩ := by kernel_rfl
theorem eU : AO aA 26 = some ⟨11, true, [.int .i64 0, .str [], .int .i64 0, .nils, .int .i64 0, .int .i64 0, .int .i64 0, .nils, .int .i64 0, .bool false, .nils]⟩ := by kernel_rfl
theorem oE : AO aA 67 = some ⟨4, true, [.int .i64 0, .str [], .int .i64 0, .int .i64 0]⟩ := by kernel_rfl
theorem sB : AP aA 22 22 = some 3 := by kernel_rfl
theorem sC : AP aA 23 23 = some 1 := by kernel_rfl
theorem iQ : AP aA 40 40 = some 1 := by kernel_rfl
theorem sE : AP aA 59 59 = some 4 := by kernel_rfl
theorem oP : ∀ l : List AV, l.length = 11 -> bK aA 26 l = ⟨11, true, l⟩ := by intro l h; exact fp (by kernel_rfl) h
theorem DP : ∀ l : List AV, l.length = 5 -> bK aA 64 l = ⟨5, true, l⟩ := by intro l h; exact fp (by kernel_rfl) h
theorem iC : FA aA 26 0 = some (0, 0 + 1) := by kernel_rfl
theorem jn : FA aA 26 1 = some (1, 0 + 1) := by kernel_rfl
theorem gV : FA aA 26 10 = some (10, 0 + 1) := by kernel_rfl
theorem rK : FA aA 26 3 = some (3, 0 + 1) := by kernel_rfl
theorem vJ : FA aA 26 4 = some (4, 0 + 1) := by kernel_rfl
theorem vK : FA aA 26 6 = some (6, 0 + 1) := by kernel_rfl
theorem rL : FA aA 26 7 = some (7, 0 + 1) := by kernel_rfl
theorem o4 : FA aA 26 8 = some (8, 0 + 1) := by kernel_rfl
theorem jo : FA aA 26 9 = some (9, 0 + 1) := by kernel_rfl
theorem vL : FA aA 64 0 = some (0, 0 + 1) := by kernel_rfl
theorem fF : FA aA 64 1 = some (1, 0 + 1) := by kernel_rfl
theorem jp : FA aA 64 2 = some (2, 0 + 1) := by kernel_rfl
theorem fG : FA aA 64 3 = some (3, 0 + 1) := by kernel_rfl
theorem o5 : FA aA 67 0 = some (0, 0 + 1) := by kernel_rfl
theorem vM : FA aA 67 1 = some (1, 0 + 1) := by kernel_rfl
theorem Bx : FA aA 67 2 = some (2, 0 + 1) := by kernel_rfl
theorem By : FA aA 67 3 = some (3, 0 + 1) := by kernel_rfl
theorem gX : FT aA 67 0 = some (0, none) := by kernel_rfl
theorem o8 : FT aA 67 1 = some (1, none) := by kernel_rfl
theorem BA : FT aA 67 3 = some (3, none) := by kernel_rfl
theorem dO : PL aA 112 [.int .i64 0, .int .i64 0, .int .i64 0] [(0, 1), (1, 1), (2, 1)] = true := by kernel_rfl
theorem w9 : PL aA 26 [.int .i64 0, .str [], .int .i64 0, .nils, .int .i64 0, .int .i64 0, .int .i64 0, .nils, .int .i64 0, .bool false, .nils] [(0, 1), (1, 1), (2, 1), (3, 1), (4, 1), (5, 1), (6, 1), (7, 1), (8, 1), (9, 1), (10, 1)] = true := by kernel_rfl
theorem D1 : PL aA 64 [.nils, .int .i64 0, .int .i64 0, .int .i64 0, .int .i64 0] [(0, 1), (1, 1), (2, 1), (3, 1), (4, 1)] = true := by kernel_rfl
theorem uj : PL aA 67 [.int .i64 0, .str [], .int .i64 0, .int .i64 0] [(0, 1), (1, 1), (2, 1), (3, 1)] = true := by kernel_rfl
theorem aR : aA.size 112 = some 3 := by kernel_rfl
theorem Do : aA.size 22 = some 1 := by kernel_rfl
theorem Dp : aA.size 23 = some 1 := by kernel_rfl
theorem Cc : aA.size 24 = some 1 := by kernel_rfl
theorem bb : aA.size 26 = some 11 := by kernel_rfl
theorem i8 : aA.size 3 = some 1 := by kernel_rfl
theorem ym : aA.size 4 = some 1 := by kernel_rfl
theorem fO : aA.size 67 = some 4 := by kernel_rfl
theorem uB : aA.size 9 = some 1 := by kernel_rfl
theorem Dq : aA.size 91 = some 3 := by kernel_rfl
theorem AY : aA.und 112 = some (.array 3 3) := by kernel_rfl
theorem Ar : aA.und 22 = some (.slice 91) := by kernel_rfl
theorem jd : aA.und 23 = some (.slice 9) := by kernel_rfl
theorem pG : aA.und 24 = some (.slice 26) := by kernel_rfl
theorem uC : aA.und 3 = some (.int .i64) := by kernel_rfl
theorem dh : aA.und 40 = some (.slice 3) := by kernel_rfl
theorem Cr : aA.und 5 = some (.int .u8) := by kernel_rfl
theorem At : aA.und 59 = some (.slice 67) := by kernel_rfl
theorem cy : aA.und 9 = some .string := by kernel_rfl
theorem Ck : aA.zero 26 = some (.agg [.int .i64 0, .str [], .int .i64 0, .nils, .int .i64 0, .int .i64 0, .int .i64 0, .nils, .int .i64 0, .bool false, .nils]) := by kernel_rfl
theorem Cs : aA.zero 3 = some (.int .i64 0) := by kernel_rfl
theorem Du : aA.zero 67 = some (.agg [.int .i64 0, .str [], .int .i64 0, .int .i64 0]) := by kernel_rfl
theorem Av : aA.zero 9 = some (.str []) := by kernel_rfl
theorem Dv : aA.zero 91 = some (.agg [.int .i64 0, .str [], .str []]) := by kernel_rfl
set_option maxRecDepth 100000
def dm (op : List Nat) : List Nat × Nat :=
 if op = [116, 105, 109, 101] then ([], 1) else
 if op = [115, 99, 97, 108, 97, 114] then ([2], 1) else
 if op = [118, 101, 99, 116, 111, 114] then ([1], 2) else
 if op = [97, 98, 115] \/ op = [99, 101, 105, 108] \/ op = [102, 108, 111, 111, 114] \/ op = [115, 103, 110] then ([2], 2) else
 if op = [99, 108, 97, 109, 112] then ([2, 1, 1], 2) else
 if op = [99, 111, 117, 110, 116, 95, 111, 118, 101, 114, 95, 116, 105, 109, 101] \/ op = [115, 117, 109, 95, 111, 118, 101, 114, 95, 116, 105, 109, 101] \/ op = [97, 118, 103, 95, 111, 118, 101, 114, 95, 116, 105, 109, 101] \/ op = [109, 105, 110, 95, 111, 118, 101, 114, 95, 116, 105, 109, 101] \/ op = [109, 97, 120, 95, 111, 118, 101, 114, 95, 116, 105, 109, 101] \/ op = [108, 97, 115, 116, 95, 111, 118, 101, 114, 95, 116, 105, 109, 101] \/ op = [100, 101, 108, 116, 97] \/ op = [105, 110, 99, 114, 101, 97, 115, 101] \/ op = [114, 97, 116, 101] then ([3], 2) else
 ([], 0)
def mG (l : List Nat) : List AV := [.int .i64 ((l.getD 0 0 : Nat) : Int), .int .i64 ((l.getD 1 0 : Nat) : Int), .int .i64 ((l.getD 2 0 : Nat) : Int)]
theorem tz {L : List (List Nat)} {i : Nat} (h : i < L.length) : (L.map AV.str)[(0 + i) * 1]? = some (.str (L.getD i [])) := by
 rw [Nat.zero_add, Nat.mul_one, List.getElem?_map, List.getD_eq_getElem?_getD, List.getElem?_eq_getElem h]; rfl
def jb (A : List Nat) : List AV := A.map fun n => .int .i64 ((n : Nat) : Int)
def ISl (hs : af) (A : List Nat) (v : AV) : Prop := (v = .nils /\ A = []) \/ ∃ b ex, v = .slice b 0 A.length 1 /\ MemH hs b ⟨1, ex, jb A⟩
theorem pi {hs : af} {A : List Nat} {v : AV} {e : Nat} (h : ISl hs A v) : mj (.slice e) v = some A.length := by
 rcases h with ⟨rfl, rfl⟩ | ⟨b, ex, rfl, _⟩ <;> rfl
theorem qr {hs : af} {A : List Nat} {v : AV} (h : ISl hs A v) (hl : 0 < A.length) : ∃ b ex, v = .slice b 0 A.length 1 /\ MemH hs b ⟨1, ex, jb A⟩ := by
 rcases h with ⟨_, rfl⟩ | h
 ·simp at hl
 ·exact h
theorem lu {A : List Nat} {i : Nat} (h : i < A.length) : (jb A)[(0 + i) * 1]? = some (.int .i64 ((A.getD i 0 : Nat) : Int)) := by
 unfold jb
 rw [Nat.zero_add, Nat.mul_one, List.getElem?_map, List.getD_eq_getElem?_getD, List.getElem?_eq_getElem h]; rfl
theorem nE (op : List Nat) (ho : Bytes op) : Spec aA 66 [.str op] [] [] (eA (.tuple [.agg (mG (dm op).1), .int .i64 (((dm op).2 : Nat) : Int)])) := by
 refine aj (dW 66 Tryz.func66) rfl (m := 35) rfl (rs := [.cell 2 112, .tmp 3]) rfl (st := [(0, .str op)]) rfl rfl (fun _ => rfl) (fun E => zr (WO.alloc lD rfl (fun b1 => za (zi 0) (zk (W.seq (zr (zm rfl (zk (W.block (zr (zq (Q.bin rfl (oc (v := .str [116, 105, 109, 101]) (by kernel_rfl)) rfl ap) (za rfl (zk (ax rfl (fun hc5 => ?_) (fun hc5 => ?_)))))))))))))))
 ·refine zr (zq (Q.build dO ak rfl (cs := [_, _, _]) rfl) (ll aR rfl rfl (i := 0) rfl rfl rfl (hs' := [_]) rfl (za (zi 1) (zk (W.ret (ae (aa (ab (pL rfl (zt 0 rfl) cz aR rfl (z1 rfl)) ?_))))))))
  first | (subst_vars; rfl) | (simp [dm, mG, *] <;> rfl)
 refine zr (zq (Q.bin rfl (oc (v := .str [115, 99, 97, 108, 97, 114]) (by kernel_rfl)) rfl ap) (za rfl (zk (ax rfl (fun hc8 => ?_) (fun hc8 => ?_)))))
 ·refine zr (zq (Q.build dO (b8 (zi 2) ak) rfl (cs := [_, _, _]) rfl) (ll aR rfl rfl (i := 0) rfl rfl rfl (hs' := [_]) rfl (za (zi 1) (zk (W.ret (ae (aa (ab (pL rfl (zt 0 rfl) cz aR rfl (z1 rfl)) ?_))))))))
  first | (subst_vars; rfl) | (simp [dm, mG, *] <;> rfl)
 refine zr (zq (Q.bin rfl (oc (v := .str [118, 101, 99, 116, 111, 114]) (by kernel_rfl)) rfl ap) (za rfl (zk (ax rfl (fun hc11 => ?_) (fun hc11 => ?_)))))
 ·refine zr (zq (Q.build dO (b8 (zi 1) ak) rfl (cs := [_, _, _]) rfl) (ll aR rfl rfl (i := 0) rfl rfl rfl (hs' := [_]) rfl (za (zi 2) (zk (W.ret (ae (aa (ab (pL rfl (zt 0 rfl) cz aR rfl (z1 rfl)) ?_))))))))
  first | (subst_vars; rfl) | (simp [dm, mG, *] <;> rfl)
 refine W.seq (zr (zq (Q.bin rfl (oc (v := .str [97, 98, 115]) (by kernel_rfl)) rfl ap) (za rfl (zk (ax rfl (fun hc14 => ?_) (fun hc14 => ?_))))))
 ·refine zw (ah rfl (zr (zq (Q.build dO (b8 (zi 2) ak) rfl (cs := [_, _, _]) rfl) (ll aR rfl rfl (i := 0) rfl rfl rfl (hs' := [_]) rfl (za (zi 2) (zk (W.ret (ae (aa (ab (pL rfl (zt 0 rfl) cz aR rfl (z1 rfl)) ?_))))))))))
  first | (subst_vars; rfl) | (simp [dm, mG, *] <;> rfl)
 refine zr (zq (Q.bin rfl (oc (v := .str [99, 101, 105, 108]) (by kernel_rfl)) rfl ap) (za rfl (zk (ax rfl (fun hc14 => ?_) (fun hc14 => ?_)))))
 ·refine zw (ah rfl (zr (zq (Q.build dO (b8 (zi 2) ak) rfl (cs := [_, _, _]) rfl) (ll aR rfl rfl (i := 0) rfl rfl rfl (hs' := [_]) rfl (za (zi 2) (zk (W.ret (ae (aa (ab (pL rfl (zt 0 rfl) cz aR rfl (z1 rfl)) ?_))))))))))
  first | (subst_vars; rfl) | (simp [dm, mG, *] <;> rfl)
 refine zr (zq (Q.bin rfl (oc (v := .str [102, 108, 111, 111, 114]) (by kernel_rfl)) rfl ap) (za rfl (zk (ax rfl (fun hc14 => ?_) (fun hc14 => ?_)))))
 ·refine zw (ah rfl (zr (zq (Q.build dO (b8 (zi 2) ak) rfl (cs := [_, _, _]) rfl) (ll aR rfl rfl (i := 0) rfl rfl rfl (hs' := [_]) rfl (za (zi 2) (zk (W.ret (ae (aa (ab (pL rfl (zt 0 rfl) cz aR rfl (z1 rfl)) ?_))))))))))
  first | (subst_vars; rfl) | (simp [dm, mG, *] <;> rfl)
 refine aF (zq (Q.bin rfl (oc (v := .str [115, 103, 110]) (by kernel_rfl)) rfl ap) (za rfl (zk (ax rfl (fun hc14 => ?_) (fun hc14 => ?_)))))
 ·refine zr (zq (Q.build dO (b8 (zi 2) ak) rfl (cs := [_, _, _]) rfl) (ll aR rfl rfl (i := 0) rfl rfl rfl (hs' := [_]) rfl (za (zi 2) (zk (W.sub (zc 3 rfl (zc 2 rfl aU)) (W.ret (ae (aa (ab (pL rfl (zt 0 rfl) cz aR rfl (z1 rfl)) ?_)))))))))
  first | (subst_vars; rfl) | (simp [dm, mG, *] <;> rfl)
 refine zr (zq (Q.bin rfl (oc (v := .str [99, 108, 97, 109, 112]) (by kernel_rfl)) rfl ap) (za rfl (zk (W.sub (zc 20 rfl (zc 4 rfl (zc 2 rfl aU))) (ax rfl (fun hc20 => ?_) (fun hc20 => ?_))))))
 ·refine zr (zq (Q.build dO (b8 (zi 2) (b8 (zi 1) (b8 (zi 1) ak))) rfl (cs := [_, _, _]) rfl) (ll aR rfl rfl (i := 0) rfl rfl rfl (hs' := [_]) rfl (za (zi 2) (zk (W.ret (ae (aa (ab (pL rfl (zt 0 rfl) cz aR rfl (z1 rfl)) ?_))))))))
  first | (subst_vars; rfl) | (simp [dm, mG, *] <;> rfl)
 refine W.seq (zr (zq (Q.bin rfl (oc (v := .str [99, 111, 117, 110, 116, 95, 111, 118, 101, 114, 95, 116, 105, 109, 101]) (by kernel_rfl)) rfl ap) (za rfl (zk (ax rfl (fun hc23 => ?_) (fun hc23 => ?_))))))
 ·refine zw (ah rfl (zr (zq (Q.build dO (b8 (zi 3) ak) rfl (cs := [_, _, _]) rfl) (ll aR rfl rfl (i := 0) rfl rfl rfl (hs' := [_]) rfl (za (zi 2) (zk (W.ret (ae (aa (ab (pL rfl (zt 0 rfl) cz aR rfl (z1 rfl)) ?_))))))))))
  first | (subst_vars; rfl) | (simp [dm, mG, *] <;> rfl)
 refine zr (zq (Q.bin rfl (oc (v := .str [115, 117, 109, 95, 111, 118, 101, 114, 95, 116, 105, 109, 101]) (by kernel_rfl)) rfl ap) (za rfl (zk (ax rfl (fun hc23 => ?_) (fun hc23 => ?_)))))
 ·refine zw (ah rfl (zr (zq (Q.build dO (b8 (zi 3) ak) rfl (cs := [_, _, _]) rfl) (ll aR rfl rfl (i := 0) rfl rfl rfl (hs' := [_]) rfl (za (zi 2) (zk (W.ret (ae (aa (ab (pL rfl (zt 0 rfl) cz aR rfl (z1 rfl)) ?_))))))))))
  first | (subst_vars; rfl) | (simp [dm, mG, *] <;> rfl)
 refine zr (zq (Q.bin rfl (oc (v := .str [97, 118, 103, 95, 111, 118, 101, 114, 95, 116, 105, 109, 101]) (by kernel_rfl)) rfl ap) (za rfl (zk (ax rfl (fun hc23 => ?_) (fun hc23 => ?_)))))
 ·refine zw (ah rfl (zr (zq (Q.build dO (b8 (zi 3) ak) rfl (cs := [_, _, _]) rfl) (ll aR rfl rfl (i := 0) rfl rfl rfl (hs' := [_]) rfl (za (zi 2) (zk (W.ret (ae (aa (ab (pL rfl (zt 0 rfl) cz aR rfl (z1 rfl)) ?_))))))))))
  first | (subst_vars; rfl) | (simp [dm, mG, *] <;> rfl)
 refine zr (zq (Q.bin rfl (oc (v := .str [109, 105, 110, 95, 111, 118, 101, 114, 95, 116, 105, 109, 101]) (by kernel_rfl)) rfl ap) (za rfl (zk (ax rfl (fun hc23 => ?_) (fun hc23 => ?_)))))
 ·refine zw (ah rfl (zr (zq (Q.build dO (b8 (zi 3) ak) rfl (cs := [_, _, _]) rfl) (ll aR rfl rfl (i := 0) rfl rfl rfl (hs' := [_]) rfl (za (zi 2) (zk (W.ret (ae (aa (ab (pL rfl (zt 0 rfl) cz aR rfl (z1 rfl)) ?_))))))))))
  first | (subst_vars; rfl) | (simp [dm, mG, *] <;> rfl)
 refine zr (zq (Q.bin rfl (oc (v := .str [109, 97, 120, 95, 111, 118, 101, 114, 95, 116, 105, 109, 101]) (by kernel_rfl)) rfl ap) (za rfl (zk (ax rfl (fun hc23 => ?_) (fun hc23 => ?_)))))
 ·refine zw (ah rfl (zr (zq (Q.build dO (b8 (zi 3) ak) rfl (cs := [_, _, _]) rfl) (ll aR rfl rfl (i := 0) rfl rfl rfl (hs' := [_]) rfl (za (zi 2) (zk (W.ret (ae (aa (ab (pL rfl (zt 0 rfl) cz aR rfl (z1 rfl)) ?_))))))))))
  first | (subst_vars; rfl) | (simp [dm, mG, *] <;> rfl)
 refine zr (zq (Q.bin rfl (oc (v := .str [108, 97, 115, 116, 95, 111, 118, 101, 114, 95, 116, 105, 109, 101]) (by kernel_rfl)) rfl ap) (za rfl (zk (ax rfl (fun hc23 => ?_) (fun hc23 => ?_)))))
 ·refine zw (ah rfl (zr (zq (Q.build dO (b8 (zi 3) ak) rfl (cs := [_, _, _]) rfl) (ll aR rfl rfl (i := 0) rfl rfl rfl (hs' := [_]) rfl (za (zi 2) (zk (W.ret (ae (aa (ab (pL rfl (zt 0 rfl) cz aR rfl (z1 rfl)) ?_))))))))))
  first | (subst_vars; rfl) | (simp [dm, mG, *] <;> rfl)
 refine zr (zq (Q.bin rfl (oc (v := .str [100, 101, 108, 116, 97]) (by kernel_rfl)) rfl ap) (za rfl (zk (ax rfl (fun hc23 => ?_) (fun hc23 => ?_)))))
 ·refine zw (ah rfl (zr (zq (Q.build dO (b8 (zi 3) ak) rfl (cs := [_, _, _]) rfl) (ll aR rfl rfl (i := 0) rfl rfl rfl (hs' := [_]) rfl (za (zi 2) (zk (W.ret (ae (aa (ab (pL rfl (zt 0 rfl) cz aR rfl (z1 rfl)) ?_))))))))))
  first | (subst_vars; rfl) | (simp [dm, mG, *] <;> rfl)
 refine zr (zq (Q.bin rfl (oc (v := .str [105, 110, 99, 114, 101, 97, 115, 101]) (by kernel_rfl)) rfl ap) (za rfl (zk (ax rfl (fun hc23 => ?_) (fun hc23 => ?_)))))
 ·refine zw (ah rfl (zr (zq (Q.build dO (b8 (zi 3) ak) rfl (cs := [_, _, _]) rfl) (ll aR rfl rfl (i := 0) rfl rfl rfl (hs' := [_]) rfl (za (zi 2) (zk (W.ret (ae (aa (ab (pL rfl (zt 0 rfl) cz aR rfl (z1 rfl)) ?_))))))))))
  first | (subst_vars; rfl) | (simp [dm, mG, *] <;> rfl)
 refine aF (zq (Q.bin rfl (oc (v := .str [114, 97, 116, 101]) (by kernel_rfl)) rfl ap) (za rfl (zk (ax rfl (fun hc23 => ?_) (fun hc23 => ?_)))))
 ·refine zr (zq (Q.build dO (b8 (zi 3) ak) rfl (cs := [_, _, _]) rfl) (ll aR rfl rfl (i := 0) rfl rfl rfl (hs' := [_]) rfl (za (zi 2) (zk (W.ret (ae (aa (ab (pL rfl (zt 0 rfl) cz aR rfl (z1 rfl)) ?_))))))))
  first | (subst_vars; rfl) | (simp [dm, mG, *] <;> rfl)
 refine W.skip (End.KB (End.K (zr (zq (Q.build dO ak rfl (cs := [_, _, _]) rfl) (ll aR rfl rfl (i := 0) rfl rfl rfl (hs' := [_]) rfl (za (zi 0) (zk (W.ret (ab (pL rfl (zt 0 rfl) cz aR rfl (z1 rfl)) ?_)))))))))
 first | (subst_vars; rfl) | (simp [dm, mG, *] <;> rfl)

end Go.Proofs.YtndhhgbpcmfeiaaGreatDoor.Ev.P16
