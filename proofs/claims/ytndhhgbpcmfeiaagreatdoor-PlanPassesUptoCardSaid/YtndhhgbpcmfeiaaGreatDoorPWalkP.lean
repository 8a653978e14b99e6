/- Chapter 20: what is known of calls holds; rows with a condition whose tables are laid. -/
import Derived.Test.YtndhhgbpcmfeiaaGreatDoorPInC
import Derived.Test.YtndhhgbpcmfeiaaGreatDoorPKey
import Derived.Test.YtndhhgbpcmfeiaaGreatDoorPGb
import Derived.Test.YtndhhgbpcmfeiaaGreatDoorPFxU
import Derived.Carry
import Derived.OpenShut
import Derived.JoinedCond
import Derived.LaidLaws
namespace Go.Proofs.YtndhhgbpcmfeiaaGreatDoor.Ev
open Go.RowKit Go.ChangeShapes Go.WideShapes
set_option maxRecDepth 100000
theorem tF (n : Int) : 0 <= (jZ n).2 := by unfold jZ; split <;> simp
theorem rY (a b : Int) : 0 <= (gI a b).2 := by unfold gI; split; exact tF _; decide
theorem sb (a b : Int) : 0 <= (js a b).2 := by unfold js; split; exact tF _; decide
theorem nV (a b c : Int) : 0 <= (eg a b c).2 := by unfold eg; split <;> simp
theorem r9 (a b : Int) : 0 <= (iL a b).2 := by unfold iL; split; exact nV _ _ _; decide
theorem rZ (a b : Int) : 0 <= (gv a b).2 := by
 unfold gv; split
 ·split; decide; exact nV _ _ _
 ·decide
theorem r8 (a b : Int) : 0 <= (fO a b).2 := by
 unfold fO; split
 ·split <;> simp
 ·decide
def Dc (f : Nat) : Prop := ∃ fn, Tryz.prog.funcs[f]? = some fn /\ fn.body.isSome = true /\ (fn.name == "runtime.NumGoroutine") = false
theorem ev {w w' : World} (h : w = w') : Below w.heap.size w w' := by subst h; exact Below.refl _ _
set_option maxHeartbeats 2000000 in
theorem Bi {f : Nat} {m : Int -> Int -> Int × Int} (h : Dg f = some m) : Dc f /\ ∀ a b (w : World), 0 <= (m a b).2 /\ Calls Tryz.prog f #[.int .i64 a, .int .i64 b] w fun e w' => e = .returned (.tuple #[.int .i64 (m a b).1, .int .i64 (m a b).2]) /\ Below w.heap.size w w' := by
 unfold Dg at h
 split at h
 ·rename_i hf
  have hf := Nat.eq_of_beq_eq_true hf
  subst hf
  cases h
  exact ⟨⟨_, Tryz.func107, by kernel_rfl, by kernel_rfl⟩, fun a b w => ⟨rY a b, (yU a b w).mono fun e w' ⟨h1, h2⟩ => ⟨h1, ev h2⟩⟩⟩
 split at h
 ·rename_i hf
  have hf := Nat.eq_of_beq_eq_true hf
  subst hf
  cases h
  exact ⟨⟨_, Tryz.func108, by kernel_rfl, by kernel_rfl⟩, fun a b w => ⟨sb a b, (AA a b w).mono fun e w' ⟨h1, h2⟩ => ⟨h1, ev h2⟩⟩⟩
 split at h
 ·rename_i hf
  have hf := Nat.eq_of_beq_eq_true hf
  subst hf
  cases h
  exact ⟨⟨_, Tryz.func109, by kernel_rfl, by kernel_rfl⟩, fun a b w => ⟨r9 a b, (Ab a b w).mono fun e w' ⟨h1, h2⟩ => ⟨h1, h2⟩⟩⟩
 split at h
 ·rename_i hf
  have hf := Nat.eq_of_beq_eq_true hf
  subst hf
  cases h
  exact ⟨⟨_, Tryz.func110, by kernel_rfl, by kernel_rfl⟩, fun a b w => ⟨rZ a b, (zE a b w).mono fun e w' ⟨h1, h2⟩ => ⟨h1, h2⟩⟩⟩
 split at h
 ·rename_i hf
  have hf := Nat.eq_of_beq_eq_true hf
  subst hf
  cases h
  exact ⟨⟨_, Tryz.func111, by kernel_rfl, by kernel_rfl⟩, fun a b w => ⟨r8 a b, (Aa a b w).mono fun e w' ⟨h1, h2⟩ => ⟨h1, ev h2⟩⟩⟩
 split at h
 ·rename_i hf
  have hf := Nat.eq_of_beq_eq_true hf
  subst hf
  cases h
  exact ⟨⟨_, Tryz.func115, by kernel_rfl, by kernel_rfl⟩, fun a b w => ⟨rY a b, (qP a b w).mono fun e w' ⟨h1, h2⟩ => ⟨h1, ev h2⟩⟩⟩
 split at h
 ·rename_i hf
  have hf := Nat.eq_of_beq_eq_true hf
  subst hf
  cases h
  exact ⟨⟨_, Tryz.func116, by kernel_rfl, by kernel_rfl⟩, fun a b w => ⟨sb a b, (yv a b w).mono fun e w' ⟨h1, h2⟩ => ⟨h1, ev h2⟩⟩⟩
 split at h
 ·rename_i hf
  have hf := Nat.eq_of_beq_eq_true hf
  subst hf
  cases h
  exact ⟨⟨_, Tryz.func117, by kernel_rfl, by kernel_rfl⟩, fun a b w => ⟨r9 a b, (yp a b w).mono fun e w' ⟨h1, h2⟩ => ⟨h1, h2⟩⟩⟩
 split at h
 ·rename_i hf
  have hf := Nat.eq_of_beq_eq_true hf
  subst hf
  cases h
  exact ⟨⟨_, Tryz.func118, by kernel_rfl, by kernel_rfl⟩, fun a b w => ⟨rZ a b, (yl a b w).mono fun e w' ⟨h1, h2⟩ => ⟨h1, h2⟩⟩⟩
 split at h
 ·rename_i hf
  have hf := Nat.eq_of_beq_eq_true hf
  subst hf
  cases h
  exact ⟨⟨_, Tryz.func119, by kernel_rfl, by kernel_rfl⟩, fun a b w => ⟨r8 a b, (yo a b w).mono fun e w' ⟨h1, h2⟩ => ⟨h1, ev h2⟩⟩⟩
 cases h
theorem yh {M : Inj} {p : Int × Int} (h : 0 <= p.2) : VRel M (ae p) (.tuple #[.int .i64 p.1, .int .i64 p.2]) := by
 unfold ae
 have e : ((p.2.toNat : Nat) : Int) = p.2 := Int.toNat_of_nonneg h
 rw [e]
 refine .tuple _ _ rfl fun i v u hv hu => ?_
 match i with
 | 0 => simp at hv hu; subst hv hu; exact .int _ _
 | 1 => simp at hv hu; subst hv hu; exact .int _ _
 | i + 2 => simp at hv
theorem CI {M : Inj} {a b : Int} {vs : Array Value} (h : LRel M [.int .i64 a, .int .i64 b] vs.toList) : vs = #[.int .i64 a, .int .i64 b] := by
 obtain ⟨l⟩ := vs
 obtain ⟨h1, h2⟩ := h
 match l, h1 with
 | [x, y], _ =>
  have hx := h2 0 _ _ rfl rfl
  have hy := h2 1 _ _ rfl rfl
  cases hx; cases hy; rfl
theorem yG {M : Inj} {l : List Nat} {v : Value} (h : VRel M (.str l) v) : ∃ s : ByteArray, v = .string s /\ s.data.toList.map UInt8.toNat = l := by
 cases h with
 | str s l h => exact ⟨s, rfl, h⟩
theorem sA {M : Inj} {b o n z : Nat} {v : Value} (h : VRel M (.slice b o n z) v) :
  ∃ i cap p, M b = some i /\ i.sz = z /\ o + cap = i.cap /\ n <= cap /\ (p = ⟨i.blk, i.off + o * i.sz, none⟩ \/ cap = 0) /\ i.val = undef /\ v = .slice (some p) n cap := by
 cases h with
 | slice b o n cap p i hi hc hl hp hv => exact ⟨i, cap, p, hi, rfl, hc, hl, hp, hv, rfl⟩
theorem qw : ∀ {l : List AV} {A : List Int}, jG l = some A -> l = cA A /\ ∀ a ∈ A, -9223372036854775808 <= a /\ a <= 9223372036854775807
 | [], A, h => by unfold jG at h; cases h; exact ⟨rfl, fun a h => by simp at h⟩
 | x :: l, A, h => by
  unfold jG at h
  split at h
  ·rename_i h0; cases h0
  ·rename_i a l' h0
   cases h0
   split at h
   ·rename_i m hd hm
    cases h
    obtain ⟨h1, h2⟩ := qw hm
    refine ⟨by rw [h1]; rfl, fun b hb => ?_⟩
    rcases List.mem_cons.1 hb with rfl | hb
    ·exact of_decide_eq_true hd
    ·exact h2 b hb
   ·cases h
  ·cases h
theorem qv {M : Inj} {k : IntKind} {n : Int} {v : Value} (h : VRel M (.int k n) v) : v = .int k n := by cases h; rfl
theorem nM {k : Int} {s : ByteArray} {op : List Nat} {A : List Int} (h : s.data.toList.map UInt8.toNat = op) : (Go.Proofs.YtndhhgbpcmfeiaaGreatDoor.keyB k s A).map UInt8.toNat = rS k op A := by
 unfold Go.Proofs.YtndhhgbpcmfeiaaGreatDoor.keyB rS Go.Proofs.YtndhhgbpcmfeiaaGreatDoor.keyT rR
 rw [List.map_append, List.map_cons, List.map_append, h, List.map_flatMap]
 rfl
def C5 : Ctx := ⟨mJ [], fun w => Lib.TabIs Tryz.prog w "internal/strconv.uint64pow10" .u64 Lib.pow10Tab⟩
theorem BD {M : Inj} {N : Nat -> Prop} {w0 : Base C5} {h : AHeap} {w : World} (hh : HRel M N w0 h w) {args : List AV} {vs : Array Value} (hr : LRel M args vs.toList) {v : AV} (ho : BC h args = some v) :
  Calls Tryz.prog 44 vs w fun e w' => ∃ u, e = .returned u /\ VRel M v u /\ Below w.heap.size w w' := by
 have hT : Lib.TabIs Tryz.prog w "internal/strconv.uint64pow10" .u64 Lib.pow10Tab := w0.ok w (hh.below.below hh.lim)
 unfold BC at ho
 split at ho
 rotate_left
 ·cases ho
 rename_i k op c2 c3 c4 c5 c6 c7 c8 c9 c10 va
 split at ho
 rotate_left
 ·cases ho
 rename_i hb
 rw [Bool.and_eq_true] at hb
 have hop := Nat.ble_eq.mp hb.1
 have hk := of_decide_eq_true hb.2
 obtain ⟨l⟩ := vs
 obtain ⟨h1, h2⟩ := hr
 match l, h1 with
 | [x], hq1 =>
 have hx := h2 0 _ _ rfl rfl
 cases hx with
 | agg _ cs hsz hx =>
 obtain ⟨cl⟩ := cs
 match cl, hsz with
 | [u0, u1, u2, u3, u4, u5, u6, u7, u8, u9, u10, u11], hq2 =>
 obtain rfl := qv (hx 0 _ _ rfl rfl)
 obtain ⟨s, rfl, hs⟩ := yG (hx 1 _ _ rfl rfl)
 have h11 := hx 11 _ _ rfl rfl
 have hsl : s.size <= 1048576 := by
  have := congrArg List.length hs
  rw [List.length_map] at this
  have e : s.data.toList.length = s.size := rfl
  omega
 unfold wI at ho
 split at ho
 ·cases ho
  cases h11
  refine (Go.Proofs.YtndhhgbpcmfeiaaGreatDoor.key_any w k hk.1 hk.2 s hsl u2 u3 u4 u5 u6 u7 u8 u9 u10 [] (fun a h => by simp at h) (by simp) none 0 (fun j a h => by simp at h) hT).mono ?_
  rintro e w' ⟨rfl, hB⟩
  exact ⟨_, rfl, .str _ _ (by show (List.toArray _).toList.map _ = _; exact nM hs), hB⟩
 ·rename_i b n
  split at ho
  rotate_left
  ·cases ho
  rename_i ob hn hob
  have hn := Nat.ble_eq.mp hn
  split at ho
  rotate_left
  ·cases ho
  rename_i l hl
  split at ho
  rotate_left
  ·cases ho
  rename_i A hA
  cases ho
  obtain ⟨hls, hAr⟩ := qw hA
  obtain ⟨i, cap, p, hi, hsz, hc, hlc, hp, hv, rfl⟩ := sA h11
  have hl0 : l = ob.cells.take n /\ n <= ob.cells.length := by
   unfold du at hl
   split at hl
   ·rename_i hb
    have := Nat.ble_eq.mp hb
    simp only [Option.some.injEq, List.drop_zero] at hl
    exact ⟨hl.symm, by omega⟩
   ·cases hl
  have hAl : A.length = n := by
   have := congrArg List.length hls
   rw [hl0.1] at this
   simp only [cA, List.length_map, List.length_take] at this
   omega
  have hcells : ∀ j a, A[j]? = some a -> ∃ g off, some p = some ⟨g, off, none⟩ /\ w.cell? ⟨g, off + j, none⟩ = some (.int .i64 a) := by
   intro j a hj
   have hjl : j < n := by have := (List.getElem?_eq_some_iff.1 hj).1; omega
   obtain ⟨j', c, e, fr, k1, k2, k3⟩ := hh.readAt hob hi hv
   rw [hi] at k1
   cases k1
   have hp : p = ⟨i.blk, i.off, none⟩ := by
    have := hp.resolve_right zy
    simpa using this
   have h3 : ob.cells[j]? = some (.int .i64 a) := by
    have h4 : l[j]? = some (.int .i64 a) := by rw [hls, cA, List.getElem?_map, hj]; rfl
    rw [hl0.1, List.getElem?_take, if_pos hjl] at h4
    exact h4
   obtain ⟨_, u, h5, h6⟩ := k3 j _ h3
   obtain rfl := qv h6
   refine ⟨i.blk, i.off, by rw [hp], ?_⟩
   unfold World.cell?
   rw [k2]
   exact h5
  have := Go.Proofs.YtndhhgbpcmfeiaaGreatDoor.key_any w k hk.1 hk.2 s hsl u2 u3 u4 u5 u6 u7 u8 u9 u10 A hAr zy (some p) cap hcells hT
  rw [hAl] at this
  refine this.mono ?_
  rintro e w' ⟨rfl, hB⟩
  exact ⟨_, rfl, .str _ _ (by show (List.toArray _).toList.map _ = _; exact nM hs), hB⟩
 ·cases ho
theorem BY : ∀ f args h v, orc f args h = some v -> ∀ M N (w0 : Base C5) (vs : Array Value) w, HRel M N w0 h w -> LRel M args vs.toList ->
  (∃ fn, Tryz.prog.funcs[f]? = some fn /\ fn.body.isSome = true /\ (fn.name == "runtime.NumGoroutine") = false) /\
  Calls Tryz.prog f vs w fun e w' => ∃ u, e = .returned u /\ VRel M v u /\ Below w.heap.size w w' := by
 intro f args h v ho M N w0 vs w hh hr
 unfold orc at ho
 split at ho
 ·rename_i hf
  have hf := Nat.eq_of_beq_eq_true hf
  subst hf
  split at ho
  rotate_left
  ·cases ho
  simp only [Option.some.injEq] at ho
  subst ho
  refine ⟨⟨_, Tryz.func10, by kernel_rfl, by kernel_rfl⟩, ?_⟩
  obtain ⟨cs⟩ := vs
  match cs, hr with
  | [], hr =>
   refine (up w).mono ?_
   rintro e w' ⟨rfl, hB⟩
   exact ⟨_, rfl, .bool _, hB⟩
  | _ :: _, hr => have := hr.1; simp at this
 ·split at ho
  ·rename_i hf
   have hf := Nat.eq_of_beq_eq_true hf
   subst hf
   exact ⟨⟨_, Tryz.func44, by kernel_rfl, by kernel_rfl⟩, BD hh hr ho⟩
  ·split at ho
   ·rename_i m hm
    obtain ⟨h1, h2⟩ := Bi hm
    split at ho
    rotate_left
    ·cases ho
    rename_i a b
    simp only [Option.some.injEq] at ho
    subst ho
    obtain ⟨h3, h4⟩ := h2 a b w
    refine ⟨h1, ?_⟩
    rw [CI hr]
    exact h4.mono fun e w' ⟨g1, g2⟩ => ⟨_, g1, yh h3, g2⟩
   ·cases ho
theorem Ch : TabOK Tryz.prog aW C5 := uM (yH (by kernel_rfl) (by kernel_rfl)) (fun _ _ _ _ _ h => by cases h) (fun _ _ _ h => by cases h) BY
theorem zO {w : World} {I : List InB} (h : A7 w I) (hT : Lib.TabIs Tryz.prog w "internal/strconv.uint64pow10" .u64 Lib.pow10Tab) : HRel (J := C5) (injIn I) (fun k => k < w.heap.size) ⟨w, w.heap.size, fun w' hb => Lib.tabBelow_of_tabIs hT w' hb, fun _ => False⟩ (wx I) w := by
 refine ⟨?_, fun k hk => hk, Keeps.refl _ _, fun k hk => hk, ?_, ?_, ?_, ?_, fun b hb => hb.elim⟩
 ·intro b i hb
  have hb : mJ [] b = some i := hb
  simp [mJ] at hb
 ·intro b o hb
  obtain ⟨x, _, h2, h3, rfl⟩ := fJ I 0 b o hb
  rw [Nat.sub_zero] at h2
  obtain ⟨h4, c, e, fr, h5, h6⟩ := h x (List.mem_of_getElem? h2) h3
  exact .inr (.inl ⟨x.bi, c, e, fr, by simp [injIn, h2], h4, h5, (Array.getElem?_eq_some_iff.1 h5).1, rfl, h6⟩)
 ·intro b b' o o' i i' hb hb' hi hi' heq hN
  obtain ⟨x, _, h2, h3, rfl⟩ := fJ I 0 b o hb
  rw [Nat.sub_zero] at h2
  obtain ⟨h4, c, e, fr, h5, h6⟩ := h x (List.mem_of_getElem? h2) h3
  have : injIn I b = some x.bi := by simp [injIn, h2]
  rw [this] at hi
  cases hi
  exact absurd (Array.getElem?_eq_some_iff.1 h5).1 hN
 ·intro b o hb
  obtain ⟨x, _, h2, _⟩ := fJ I 0 b o hb
  have := (List.getElem?_eq_some_iff.1 h2).1
  show b < I.length
  omega
 ·intro b hb
  unfold injIn
  rw [List.getElem?_eq_none hb]
  rfl
theorem in_callT {f : Nat} {args : List AV} {hs : ad} {v : AV} {u : Value} (h : Spec aW f args [] hs (eW v)) (hu : zu v = some u) {I : List InB} (hI : uT I hs) {vs : Array Value} (hl : LRel (injIn I) args vs.toList) (w : World) (hw : A7 w I) (hT : Lib.TabIs Tryz.prog w "internal/strconv.uint64pow10" .u64 Lib.pow10Tab) :
  Calls Tryz.prog f vs w fun e w' => e = .returned u /\ Below w.heap.size w w' := by
 obtain ⟨v', h', hs', ⟨K0, hE⟩, ⟨rfl, _⟩, _, _⟩ := h (wx I) ⟨fun e he => by
  obtain ⟨h1, x, h2, h3, h4⟩ := hI.2 e he
  refine ⟨?_, (List.getElem?_eq_some_iff.1 h2).1, fun g => by rw [h1] at g; cases g⟩
  have := nW I 0 e.b x h2 h3
  rw [Nat.zero_add] at this
  rw [h4]
  exact this, hI.1, Fr.refl _ _⟩
 have hE := hE K0 (Nat.le_refl _)
 obtain ⟨_, hc⟩ := vy Ch K0 _ _ _ _ _ _ _ _ _ _ hE hl (zO hw hT)
 exact hc.mono fun e w' ⟨M', x, h1, h2, h3, h4⟩ => ⟨by rw [h1, sY hu h4], h3.below.below fun k hk => hk⟩
theorem trodAll_below {H : Type} {enc : TypeId × Value -> H} {P : Program} (hl : laidOutB P = true) {W W' : World} (hb : Below W.heap.size W W') :
  ∀ {ts : List TypeId} {vs : List Value} {ds : List (DataW H)} {ps : List MemPlace}, (ts.all fun t => P.readableRec t && decide (t < P.types.size)) = true -> DataW.TrodAll enc P W 0 (fun _ => true) true ts vs ds ps -> (∀ x ∈ ps, x.block < W.heap.size) ->
  DataW.TrodAll enc P W' 0 (fun b => decide (b < W.heap.size)) true ts vs ds ps
 | [], vs, ds, ps, _, h, _ => by
  obtain ⟨rfl, rfl, rfl⟩ := trodAll_nil h
  exact trodAll_mk0
 | t :: ts, vs, ds, ps, hr, h, hlt => by
  obtain ⟨v0, vs0, d0, ds0, p0, q0, rfl, rfl, rfl, h0, r0⟩ := trodAll_cons h
  simp only [List.all_cons, Bool.and_eq_true, decide_eq_true_eq] at hr
  exact trodAll_cons_mk (Below.trod hl hr.1.1 hr.1.2 h0 hb fun x hx => hlt x (List.mem_append_left _ hx)) (trodAll_below hl hb (by simpa using hr.2) r0 fun x hx => hlt x (List.mem_append_right _ hx))
theorem bk_bound {H : Type} {l : List (DataW H)} (hk : Rows.uptoSmall H l = true) {d : DataW H} (hd : d ∈ l) : Rows.uptoBulk d <= 1048576 := by
 have := of_decide_eq_true hk
 exact Nat.le_trans (gS hd) this
theorem witness_cond_laid {H : Type} {enc : TypeId × Value -> H} {C : Checked} {os : Os} {f : FuncId} {fn : Func} {s : OpenSpec} {k : (H : Type) -> List (DataW H) -> Bool} (hk : s.cond = some k) {conds : List PathCond} {apart : Bool} {X : World -> Array Value -> Prop} (modest : Bool) (w0 : World) (args : Array Value) (fuel : Nat) (hos : w0.os = os)
  (hsh : (w0.forCall (fun _ _ => 0) ⟨#[], args, []⟩).Shaped C.prog)
  (hok : Input.okWideB C.prog (w0.forCall (fun _ _ => 0) ⟨#[], args, []⟩) f ⟨#[], args, []⟩ = true)
  {x : List (DataW H) × List (DataW H) × List MemPlace} (hx : DataW.whole enc C.prog (w0.forCall (fun _ _ => 0) ⟨#[], args, []⟩).memory fn.params.toList s.vars apart args.toList fuel = some x)
  (hconds : conds.all (PathCond.test C.prog ⟨fn.params.toList, x.1, s.bare.plain.varTypes C.prog, x.2.1⟩) = true) (hkk : k H (x.1 ++ x.2.1) = true)
  (hsz : s.bare.sizedB enc C.prog fn apart (w0.forCall (fun _ _ => 0) ⟨#[], args, []⟩).memory args fuel = true)
  (hX : X (w0.forCall (fun _ _ => 0) ⟨#[], args, []⟩).memory args) :
  ∃ (w : World) (tape : Tape) (i : Input), w.os = os /\ (w.forCall tape i).Shaped C.prog /\ i.vars = [] /\ Input.okWide C.prog (w.forCall tape i) .any w.heap.size f i /\
   ((s.pre enc C.prog fn conds apart (w.forCall tape i).memory i.args /\ X (w.forCall tape i).memory i.args) /\ sizedMet enc C.prog fn s apart (w.forCall tape i).memory i.args) /\ ({ modest := modest } : Assume).holds C.prog (lone (Frame.enter C.prog f i.args .normal) [] (w.forCall tape i)) :=
 ⟨w0, fun _ _ => 0, ⟨#[], args, []⟩, hos, hsh, (Input.okWide_of_okWideB (base := 0) hok).1, (Input.okWide_of_okWideB hok).2,
  ⟨⟨(OpenSpec.pre_some hk conds apart _ _).2 ⟨x.1, x.2.1, x.2.2, DataW.Whole_of_whole hx, hconds, hkk⟩, hX⟩, sizedMet_of_sizedB hsz⟩, by
  simp only [Assume.holds]
  exact ⟨by simp, by simp, fun _ => Modest.zero, by simp, by simp⟩⟩
theorem in_ok {W : World} {I : List InB} (h : ∀ x ∈ I, fQ W (injIn I) x) : A7 W I := fun x hx _ => let ⟨_, h2, h3⟩ := h x hx; ⟨h2, h3⟩
end Go.Proofs.YtndhhgbpcmfeiaaGreatDoor.Ev
