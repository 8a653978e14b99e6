/- Chapter 20: what is known of calls holds; rows with a condition whose tables are laid. -/
import Derived.Test.YtndhhgbpcmfeiaaGreatDoorEInC
import Derived.Test.YtndhhgbpcmfeiaaGreatDoorEKey
import Derived.Test.YtndhhgbpcmfeiaaGreatDoorEGc
import Derived.Carry
import Derived.OpenShut
import Derived.JoinedCond
import Derived.LaidLaws
import Derived.Test.YtndhhgbpcmfeiaaGreatDoorEAwJ
namespace Go.Proofs.YtndhhgbpcmfeiaaGreatDoor.Ev
open Go.RowKit Go.ChangeShapes Go.WideShapes
set_option maxRecDepth 100000
theorem str_iff2 {M : Inj} {l : List Nat} {v : Value} (h : VRel M (.str l) v) : ∃ s : ByteArray, v = .string s ∧ s.data.toList.map UInt8.toNat = l := by
 cases h with
 | str s l h => exact ⟨s, rfl, h⟩
theorem slice_iff2 {M : Inj} {b o n z : Nat} {v : Value} (h : VRel M (.slice b o n z) v) :
  ∃ i cap p, M b = some i ∧ i.sz = z ∧ o + cap = i.cap ∧ n ≤ cap ∧ (p = ⟨i.blk, i.off + o * i.sz, none⟩ ∨ cap = 0) ∧ i.val = undef ∧ v = .slice (some p) n cap := by
 cases h with
 | slice b o n cap p i hi hc hl hp hv => exact ⟨i, cap, p, hi, rfl, hc, hl, hp, hv, rfl⟩
theorem ints_get : ∀ {l : List AV} {A : List Int}, intsOf l = some A → l = cA A ∧ ∀ a ∈ A, -9223372036854775808 ≤ a ∧ a ≤ 9223372036854775807
 | [], A, h => by unfold intsOf at h; cases h; exact ⟨rfl, fun a h => by simp at h⟩
 | x :: l, A, h => by
  unfold intsOf at h
  split at h
  ·rename_i h0; cases h0
  ·rename_i a l' h0
   cases h0
   split at h
   ·rename_i m hd hm
    cases h
    obtain ⟨h1, h2⟩ := ints_get hm
    refine ⟨by rw [h1]; rfl, fun b hb => ?_⟩
    rcases List.mem_cons.1 hb with rfl | hb
    ·exact of_decide_eq_true hd
    ·exact h2 b hb
   ·cases h
  ·cases h
theorem int_iff2 {M : Inj} {k : IntKind} {n : Int} {v : Value} (h : VRel M (.int k n) v) : v = .int k n := by cases h; rfl
theorem key_bytes {k : Int} {s : ByteArray} {op : List Nat} {A : List Int} (h : s.data.toList.map UInt8.toNat = op) : (Go.Proofs.YtndhhgbpcmfeiaaGreatDoor.keyB k s A).map UInt8.toNat = keyN k op A := by
 unfold Go.Proofs.YtndhhgbpcmfeiaaGreatDoor.keyB keyN Go.Proofs.YtndhhgbpcmfeiaaGreatDoor.keyT itN
 rw [List.map_append, List.map_cons, List.map_append, h, List.map_flatMap]
 rfl
def ctx : Ctx := ⟨injOf [], fun w => Lib.TabIs Tryz.prog w "internal/strconv.uint64pow10" .u64 Lib.pow10Tab⟩
theorem key_ok {M : Inj} {N : Nat → Prop} {w0 : Base ctx} {h : AHeap} {w : World} (hh : HRel M N w0 h w) {args : List AV} {vs : Array Value} (hr : LRel M args vs.toList) {v : AV} (ho : keyA h args = some v) :
  Calls Tryz.prog 44 vs w fun e w' => ∃ u, e = .returned u ∧ VRel M v u ∧ Below w.heap.size w w' := by
 have hT : Lib.TabIs Tryz.prog w "internal/strconv.uint64pow10" .u64 Lib.pow10Tab := w0.ok w (hh.below.below hh.lim)
 unfold keyA at ho
 split at ho
 rotate_left
 ·cases ho
 rename_i k op c2 c3 c4 c5 c6 c7 c8 c9 c10 va
 split at ho
 rotate_left
 ·cases ho
 rename_i hb
 rw [Bool.and_eq_true] at hb
 have hop := Nat.ble_eq.mp hb.1
 have hk := of_decide_eq_true hb.2
 obtain ⟨l⟩ := vs
 obtain ⟨h1, h2⟩ := hr
 match l, h1 with
 | [x], hq1 =>
 have hx := h2 0 _ _ rfl rfl
 cases hx with
 | agg _ cs hsz hx =>
 obtain ⟨cl⟩ := cs
 match cl, hsz with
 | [u0, u1, u2, u3, u4, u5, u6, u7, u8, u9, u10, u11], hq2 =>
 obtain rfl := int_iff2 (hx 0 _ _ rfl rfl)
 obtain ⟨s, rfl, hs⟩ := str_iff2 (hx 1 _ _ rfl rfl)
 have h11 := hx 11 _ _ rfl rfl
 have hsl : s.size ≤ 1048576 := by
  have := congrArg List.length hs
  rw [List.length_map] at this
  have e : s.data.toList.length = s.size := rfl
  omega
 unfold keyR at ho
 split at ho
 ·cases ho
  cases h11
  refine (Go.Proofs.YtndhhgbpcmfeiaaGreatDoor.key_any w k hk.1 hk.2 s hsl u2 u3 u4 u5 u6 u7 u8 u9 u10 [] (fun a h => by simp at h) (by simp) none 0 (fun j a h => by simp at h) hT).mono ?_
  rintro e w' ⟨rfl, hB⟩
  exact ⟨_, rfl, .str _ _ (by show (List.toArray _).toList.map _ = _; exact key_bytes hs), hB⟩
 ·rename_i b n
  split at ho
  rotate_left
  ·cases ho
  rename_i ob hn hob
  have hn := Nat.ble_eq.mp hn
  split at ho
  rotate_left
  ·cases ho
  rename_i l hl
  split at ho
  rotate_left
  ·cases ho
  rename_i A hA
  cases ho
  obtain ⟨hls, hAr⟩ := ints_get hA
  obtain ⟨i, cap, p, hi, hsz, hc, hlc, hp, hv, rfl⟩ := slice_iff2 h11
  have hl0 : l = ob.cells.take n ∧ n ≤ ob.cells.length := by
   unfold sub? at hl
   split at hl
   ·rename_i hb
    have := Nat.ble_eq.mp hb
    simp only [Option.some.injEq, List.drop_zero] at hl
    exact ⟨hl.symm, by omega⟩
   ·cases hl
  have hAl : A.length = n := by
   have := congrArg List.length hls
   rw [hl0.1] at this
   simp only [cA, List.length_map, List.length_take] at this
   omega
  have hcells : ∀ j a, A[j]? = some a → ∃ g off, some p = some ⟨g, off, none⟩ ∧ w.cell? ⟨g, off + j, none⟩ = some (.int .i64 a) := by
   intro j a hj
   have hjl : j < n := by have := (List.getElem?_eq_some_iff.1 hj).1; omega
   obtain ⟨j', c, e, fr, k1, k2, k3⟩ := hh.readAt hob hi hv
   rw [hi] at k1
   cases k1
   have hp : p = ⟨i.blk, i.off, none⟩ := by
    have := hp.resolve_right zy
    simpa using this
   have h3 : ob.cells[j]? = some (.int .i64 a) := by
    have h4 : l[j]? = some (.int .i64 a) := by rw [hls, cA, List.getElem?_map, hj]; rfl
    rw [hl0.1, List.getElem?_take, if_pos hjl] at h4
    exact h4
   obtain ⟨_, u, h5, h6⟩ := k3 j _ h3
   obtain rfl := int_iff2 h6
   refine ⟨i.blk, i.off, by rw [hp], ?_⟩
   unfold World.cell?
   rw [k2]
   exact h5
  have := Go.Proofs.YtndhhgbpcmfeiaaGreatDoor.key_any w k hk.1 hk.2 s hsl u2 u3 u4 u5 u6 u7 u8 u9 u10 A hAr zy (some p) cap hcells hT
  rw [hAl] at this
  refine this.mono ?_
  rintro e w' ⟨rfl, hB⟩
  exact ⟨_, rfl, .str _ _ (by show (List.toArray _).toList.map _ = _; exact key_bytes hs), hB⟩
 ·cases ho
theorem orc_ok : ∀ f args h v, orc f args h = some v → ∀ M N (w0 : Base ctx) (vs : Array Value) w, HRel M N w0 h w → LRel M args vs.toList →
  (∃ fn, Tryz.prog.funcs[f]? = some fn ∧ fn.body.isSome = true ∧ (fn.name == "runtime.NumGoroutine") = false) ∧
  Calls Tryz.prog f vs w fun e w' => ∃ u, e = .returned u ∧ VRel M v u ∧ Below w.heap.size w w' := by
 intro f args h v ho M N w0 vs w hh hr
 unfold orc at ho
 split at ho
 ·rename_i hf
  have hf := Nat.eq_of_beq_eq_true hf
  subst hf
  split at ho
  rotate_left
  ·cases ho
  simp only [Option.some.injEq] at ho
  subst ho
  refine ⟨⟨_, Tryz.func10, by kernel_rfl, by kernel_rfl⟩, ?_⟩
  obtain ⟨cs⟩ := vs
  match cs, hr with
  | [], hr =>
   refine (lives_any w).mono ?_
   rintro e w' ⟨rfl, hB⟩
   exact ⟨_, rfl, .bool _, hB⟩
  | _ :: _, hr => have := hr.1; simp at this
 ·split at ho
  ·rename_i hf
   have hf := Nat.eq_of_beq_eq_true hf
   subst hf
   exact ⟨⟨_, Tryz.func44, by kernel_rfl, by kernel_rfl⟩, key_ok hh hr ho⟩
  ·cases ho
theorem tab_is : TabOK Tryz.prog tab ctx := tab_knows (tab_ok (by kernel_rfl) (by kernel_rfl)) (fun _ _ _ _ _ h => by cases h) (fun _ _ _ h => by cases h) orc_ok
theorem in_relT {w : World} {I : List InB} (h : InOK w I) (hT : Lib.TabIs Tryz.prog w "internal/strconv.uint64pow10" .u64 Lib.pow10Tab) : HRel (J := ctx) (injIn I) (fun k => k < w.heap.size) ⟨w, w.heap.size, fun w' hb => Lib.tabBelow_of_tabIs hT w' hb, fun _ => False⟩ (heapIn I) w := by
 refine ⟨?_, fun k hk => hk, Keeps.refl _ _, fun k hk => hk, ?_, ?_, ?_, ?_, fun b hb => hb.elim⟩
 ·intro b i hb
  have hb : injOf [] b = some i := hb
  simp [injOf] at hb
 ·intro b o hb
  obtain ⟨x, _, h2, h3, rfl⟩ := objsIn_get I 0 b o hb
  rw [Nat.sub_zero] at h2
  obtain ⟨h4, c, e, fr, h5, h6⟩ := h x (List.mem_of_getElem? h2) h3
  exact .inr (.inl ⟨x.bi, c, e, fr, by simp [injIn, h2], h4, h5, (Array.getElem?_eq_some_iff.1 h5).1, rfl, h6⟩)
 ·intro b b' o o' i i' hb hb' hi hi' heq hN
  obtain ⟨x, _, h2, h3, rfl⟩ := objsIn_get I 0 b o hb
  rw [Nat.sub_zero] at h2
  obtain ⟨h4, c, e, fr, h5, h6⟩ := h x (List.mem_of_getElem? h2) h3
  have : injIn I b = some x.bi := by simp [injIn, h2]
  rw [this] at hi
  cases hi
  exact absurd (Array.getElem?_eq_some_iff.1 h5).1 hN
 ·intro b o hb
  obtain ⟨x, _, h2, _⟩ := objsIn_get I 0 b o hb
  have := (List.getElem?_eq_some_iff.1 h2).1
  show b < I.length
  omega
 ·intro b hb
  unfold injIn
  rw [List.getElem?_eq_none hb]
  rfl
theorem in_callT {f : Nat} {args : List AV} {hs : HSt} {v : AV} {u : Value} (h : Spec tab f args [] hs (Val v)) (hu : conT v = some u) {I : List InB} (hI : SeenIn I hs) {vs : Array Value} (hl : LRel (injIn I) args vs.toList) (w : World) (hw : InOK w I) (hT : Lib.TabIs Tryz.prog w "internal/strconv.uint64pow10" .u64 Lib.pow10Tab) :
  Calls Tryz.prog f vs w fun e w' => e = .returned u ∧ Below w.heap.size w w' := by
 obtain ⟨v', h', hs', ⟨K0, hE⟩, ⟨rfl, _⟩, _, _⟩ := h (heapIn I) ⟨fun e he => by
  obtain ⟨h1, x, h2, h3, h4⟩ := hI.2 e he
  refine ⟨?_, (List.getElem?_eq_some_iff.1 h2).1, fun g => by rw [h1] at g; cases g⟩
  have := objsIn_at I 0 e.b x h2 h3
  rw [Nat.zero_add] at this
  rw [h4]
  exact this, hI.1, Fr.refl _ _⟩
 have hE := hE K0 (Nat.le_refl _)
 obtain ⟨_, hc⟩ := callA_ok tab_is K0 _ _ _ _ _ _ _ _ _ _ hE hl (in_relT hw hT)
 exact hc.mono fun e w' ⟨M', x, h1, h2, h3, h4⟩ => ⟨by rw [h1, conT_ok hu h4], h3.below.below fun k hk => hk⟩
end Go.Proofs.YtndhhgbpcmfeiaaGreatDoor.Ev
/- What the tables say of types. -/
namespace Go.Proofs.YtndhhgbpcmfeiaaGreatDoor.Ev.P16
open Go.RowKit
theorem ag112 : tab.isAgg 112 = some true := by kernel_rfl
theorem ag22 : tab.isAgg 22 = some false := by kernel_rfl
theorem ag24 : tab.isAgg 24 = some false := by kernel_rfl
theorem ag26 : tab.isAgg 26 = some true := by kernel_rfl
theorem ag3 : tab.isAgg 3 = some false := by kernel_rfl
theorem ag4 : tab.isAgg 4 = some false := by kernel_rfl
theorem ag59 : tab.isAgg 59 = some false := by kernel_rfl
theorem ag67 : tab.isAgg 67 = some true := by kernel_rfl
theorem ag9 : tab.isAgg 9 = some false := by kernel_rfl
theorem ag91 : tab.isAgg 91 = some true := by kernel_rfl
theorem ao112 : AO tab 112 = some ⟨1, true, [.int .i64 0, .int .i64 0, .int .i64 0]⟩ := by kernel_rfl
theorem ao26 : AO tab 26 = some ⟨11, true, [.int .i64 0, .str [], .int .i64 0, .nils, .int .i64 0, .int .i64 0, .int .i64 0, .nils, .int .i64 0, .bool false, .nils]⟩ := by kernel_rfl
theorem ao67 : AO tab 67 = some ⟨4, true, [.int .i64 0, .str [], .int .i64 0, .int .i64 0]⟩ := by kernel_rfl
theorem ao91 : AO tab 91 = some ⟨3, true, [.int .i64 0, .str [], .str []]⟩ := by kernel_rfl
theorem ap100_100 : AP tab 100 100 = some 1 := by kernel_rfl
theorem ap22_22 : AP tab 22 22 = some 3 := by kernel_rfl
theorem ap23_23 : AP tab 23 23 = some 1 := by kernel_rfl
theorem ap24_24 : AP tab 24 24 = some 11 := by kernel_rfl
theorem ap40_40 : AP tab 40 40 = some 1 := by kernel_rfl
theorem ap59_59 : AP tab 59 59 = some 4 := by kernel_rfl
theorem bx26 : ∀ l : List AV, l.length = 11 → varObj tab 26 l = ⟨11, true, l⟩ := by intro l h; exact varObj_plain (by kernel_rfl) h
theorem bx64 : ∀ l : List AV, l.length = 5 → varObj tab 64 l = ⟨5, true, l⟩ := by intro l h; exact varObj_plain (by kernel_rfl) h
theorem bx91 : ∀ l : List AV, l.length = 3 → varObj tab 91 l = ⟨3, true, l⟩ := by intro l h; exact varObj_plain (by kernel_rfl) h
theorem fa26_0 : FA tab 26 0 = some (0, 0 + 1) := by kernel_rfl
theorem fa26_1 : FA tab 26 1 = some (1, 0 + 1) := by kernel_rfl
theorem fa26_10 : FA tab 26 10 = some (10, 0 + 1) := by kernel_rfl
theorem fa26_3 : FA tab 26 3 = some (3, 0 + 1) := by kernel_rfl
theorem fa26_4 : FA tab 26 4 = some (4, 0 + 1) := by kernel_rfl
theorem fa26_5 : FA tab 26 5 = some (5, 0 + 1) := by kernel_rfl
theorem fa26_6 : FA tab 26 6 = some (6, 0 + 1) := by kernel_rfl
theorem fa26_7 : FA tab 26 7 = some (7, 0 + 1) := by kernel_rfl
theorem fa26_8 : FA tab 26 8 = some (8, 0 + 1) := by kernel_rfl
theorem fa26_9 : FA tab 26 9 = some (9, 0 + 1) := by kernel_rfl
theorem fa64_0 : FA tab 64 0 = some (0, 0 + 1) := by kernel_rfl
theorem fa64_1 : FA tab 64 1 = some (1, 0 + 1) := by kernel_rfl
theorem fa64_2 : FA tab 64 2 = some (2, 0 + 1) := by kernel_rfl
theorem fa64_3 : FA tab 64 3 = some (3, 0 + 1) := by kernel_rfl
theorem fa64_4 : FA tab 64 4 = some (4, 0 + 1) := by kernel_rfl
theorem fa67_0 : FA tab 67 0 = some (0, 0 + 1) := by kernel_rfl
theorem fa67_1 : FA tab 67 1 = some (1, 0 + 1) := by kernel_rfl
theorem fa67_2 : FA tab 67 2 = some (2, 0 + 1) := by kernel_rfl
theorem fa67_3 : FA tab 67 3 = some (3, 0 + 1) := by kernel_rfl
theorem fa91_0 : FA tab 91 0 = some (0, 0 + 1) := by kernel_rfl
theorem fa91_1 : FA tab 91 1 = some (1, 0 + 1) := by kernel_rfl
theorem fa91_2 : FA tab 91 2 = some (2, 0 + 1) := by kernel_rfl
theorem ft67_0 : FT tab 67 0 = some (0, none) := by kernel_rfl
theorem ft67_1 : FT tab 67 1 = some (1, none) := by kernel_rfl
theorem ft67_2 : FT tab 67 2 = some (2, none) := by kernel_rfl
theorem ft67_3 : FT tab 67 3 = some (3, none) := by kernel_rfl
theorem pl112 : PL tab 112 [.int .i64 0, .int .i64 0, .int .i64 0] [(0, 1), (1, 1), (2, 1)] = true := by kernel_rfl
theorem pl26 : PL tab 26 [.int .i64 0, .str [], .int .i64 0, .nils, .int .i64 0, .int .i64 0, .int .i64 0, .nils, .int .i64 0, .bool false, .nils] [(0, 1), (1, 1), (2, 1), (3, 1), (4, 1), (5, 1), (6, 1), (7, 1), (8, 1), (9, 1), (10, 1)] = true := by kernel_rfl
theorem pl64 : PL tab 64 [.nils, .int .i64 0, .int .i64 0, .int .i64 0, .int .i64 0] [(0, 1), (1, 1), (2, 1), (3, 1), (4, 1)] = true := by kernel_rfl
theorem pl67 : PL tab 67 [.int .i64 0, .str [], .int .i64 0, .int .i64 0] [(0, 1), (1, 1), (2, 1), (3, 1)] = true := by kernel_rfl
theorem pl91 : PL tab 91 [.int .i64 0, .str [], .str []] [(0, 1), (1, 1), (2, 1)] = true := by kernel_rfl
theorem sz112 : tab.size 112 = some 3 := by kernel_rfl
theorem sz22 : tab.size 22 = some 1 := by kernel_rfl
theorem sz23 : tab.size 23 = some 1 := by kernel_rfl
theorem sz24 : tab.size 24 = some 1 := by kernel_rfl
theorem sz26 : tab.size 26 = some 11 := by kernel_rfl
theorem sz3 : tab.size 3 = some 1 := by kernel_rfl
theorem sz4 : tab.size 4 = some 1 := by kernel_rfl
theorem sz5 : tab.size 5 = some 1 := by kernel_rfl
theorem sz67 : tab.size 67 = some 4 := by kernel_rfl
theorem sz9 : tab.size 9 = some 1 := by kernel_rfl
theorem sz91 : tab.size 91 = some 3 := by kernel_rfl
theorem ud100 : tab.und 100 = some (.slice 5) := by kernel_rfl
theorem ud112 : tab.und 112 = some (.array 3 3) := by kernel_rfl
theorem ud188 : tab.und 188 = some (.slice 187) := by kernel_rfl
theorem ud22 : tab.und 22 = some (.slice 91) := by kernel_rfl
theorem ud23 : tab.und 23 = some (.slice 9) := by kernel_rfl
theorem ud24 : tab.und 24 = some (.slice 26) := by kernel_rfl
theorem ud3 : tab.und 3 = some (.int .i64) := by kernel_rfl
theorem ud4 : tab.und 4 = some .bool := by kernel_rfl
theorem ud40 : tab.und 40 = some (.slice 3) := by kernel_rfl
theorem ud5 : tab.und 5 = some (.int .u8) := by kernel_rfl
theorem ud59 : tab.und 59 = some (.slice 67) := by kernel_rfl
theorem ud9 : tab.und 9 = some .string := by kernel_rfl
theorem zr26 : tab.zero 26 = some (.agg [.int .i64 0, .str [], .int .i64 0, .nils, .int .i64 0, .int .i64 0, .int .i64 0, .nils, .int .i64 0, .bool false, .nils]) := by kernel_rfl
theorem zr3 : tab.zero 3 = some (.int .i64 0) := by kernel_rfl
theorem zr5 : tab.zero 5 = some (.int .u8 0) := by kernel_rfl
theorem zr67 : tab.zero 67 = some (.agg [.int .i64 0, .str [], .int .i64 0, .int .i64 0]) := by kernel_rfl
theorem zr9 : tab.zero 9 = some (.str []) := by kernel_rfl
theorem zr91 : tab.zero 91 = some (.agg [.int .i64 0, .str [], .str []]) := by kernel_rfl
set_option maxRecDepth 100000
def callM (op : List Nat) : List Nat × Nat :=
 if op = [116, 105, 109, 101] then ([], 1) else
 if op = [115, 99, 97, 108, 97, 114] then ([2], 1) else
 if op = [118, 101, 99, 116, 111, 114] then ([1], 2) else
 if op = [97, 98, 115] ∨ op = [99, 101, 105, 108] ∨ op = [102, 108, 111, 111, 114] ∨ op = [115, 103, 110] then ([2], 2) else
 if op = [99, 108, 97, 109, 112] then ([2, 1, 1], 2) else
 if op = [99, 111, 117, 110, 116, 95, 111, 118, 101, 114, 95, 116, 105, 109, 101] ∨ op = [115, 117, 109, 95, 111, 118, 101, 114, 95, 116, 105, 109, 101] ∨ op = [97, 118, 103, 95, 111, 118, 101, 114, 95, 116, 105, 109, 101] ∨ op = [109, 105, 110, 95, 111, 118, 101, 114, 95, 116, 105, 109, 101] ∨ op = [109, 97, 120, 95, 111, 118, 101, 114, 95, 116, 105, 109, 101] ∨ op = [108, 97, 115, 116, 95, 111, 118, 101, 114, 95, 116, 105, 109, 101] ∨ op = [100, 101, 108, 116, 97] ∨ op = [105, 110, 99, 114, 101, 97, 115, 101] ∨ op = [114, 97, 116, 101] then ([3], 2) else
 ([], 0)
def pad (l : List Nat) : List AV := [.int .i64 ((l.getD 0 0 : Nat) : Int), .int .i64 ((l.getD 1 0 : Nat) : Int), .int .i64 ((l.getD 2 0 : Nat) : Int)]
theorem strs_at {L : List (List Nat)} {i : Nat} (h : i < L.length) : (L.map AV.str)[(0 + i) * 1]? = some (.str (L.getD i [])) := by
 rw [Nat.zero_add, Nat.mul_one, List.getElem?_map, List.getD_eq_getElem?_getD, List.getElem?_eq_getElem h]; rfl
def ints (A : List Nat) : List AV := A.map fun n => .int .i64 ((n : Nat) : Int)
def ISl (hs : HSt) (A : List Nat) (v : AV) : Prop := (v = .nils ∧ A = []) ∨ ∃ b ex, v = .slice b 0 A.length 1 ∧ MemH hs b ⟨1, ex, ints A⟩
theorem isl_len {hs : HSt} {A : List Nat} {v : AV} {e : Nat} (h : ISl hs A v) : lenA (.slice e) v = some A.length := by
 rcases h with ⟨rfl, rfl⟩ | ⟨b, ex, rfl, _⟩ <;> rfl
theorem isl_full {hs : HSt} {A : List Nat} {v : AV} (h : ISl hs A v) (hl : 0 < A.length) : ∃ b ex, v = .slice b 0 A.length 1 ∧ MemH hs b ⟨1, ex, ints A⟩ := by
 rcases h with ⟨_, rfl⟩ | h
 ·simp at hl
 ·exact h
theorem ints_at {A : List Nat} {i : Nat} (h : i < A.length) : (ints A)[(0 + i) * 1]? = some (.int .i64 ((A.getD i 0 : Nat) : Int)) := by
 unfold ints
 rw [Nat.zero_add, Nat.mul_one, List.getElem?_map, List.getD_eq_getElem?_getD, List.getElem?_eq_getElem h]; rfl
theorem call_spec (op : List Nat) (ho : Bytes op) : Spec tab 66 [.str op] [] [] (Val (.tuple [.agg (pad (callM op).1), .int .i64 (((callM op).2 : Nat) : Int)])) := by
 refine Spec.en (ftg 66 Tryz.func66) rfl (m := 35) rfl (rs := [.cell 2 112, .tmp 3]) rfl (st := [(0, .str op)]) rfl rfl (fun _ => rfl) (fun E => zr (WO.alloc ao112 rfl (fun b1 => za (zi 0) (zk (W.seq (zr (zm rfl (zk (W.block (zr (zq (Q.bin rfl (oc (v := .str [116, 105, 109, 101]) (by kernel_rfl)) rfl bv_seql) (za rfl (zk (W.cD rfl (fun hc5 => ?_) (fun hc5 => ?_)))))))))))))))
 ·refine zr (zq (Q.build pl112 oPs_nil rfl (cs := [_, _, _]) rfl) (zS3 sz112 rfl rfl (i := 0) rfl rfl rfl (hs' := [_]) rfl (za (zi 1) (zk (W.ret (End.Br (End.Kr (End.rV (zA3 rfl (zt 0 rfl) ag112 sz112 rfl (z1 rfl)) ?_))))))))
  first | (subst_vars; rfl) | (simp [callM, pad, *] <;> rfl)
 refine zr (zq (Q.bin rfl (oc (v := .str [115, 99, 97, 108, 97, 114]) (by kernel_rfl)) rfl bv_seql) (za rfl (zk (W.cD rfl (fun hc8 => ?_) (fun hc8 => ?_)))))
 ·refine zr (zq (Q.build pl112 (opc (zi 2) oPs_nil) rfl (cs := [_, _, _]) rfl) (zS3 sz112 rfl rfl (i := 0) rfl rfl rfl (hs' := [_]) rfl (za (zi 1) (zk (W.ret (End.Br (End.Kr (End.rV (zA3 rfl (zt 0 rfl) ag112 sz112 rfl (z1 rfl)) ?_))))))))
  first | (subst_vars; rfl) | (simp [callM, pad, *] <;> rfl)
 refine zr (zq (Q.bin rfl (oc (v := .str [118, 101, 99, 116, 111, 114]) (by kernel_rfl)) rfl bv_seql) (za rfl (zk (W.cD rfl (fun hc11 => ?_) (fun hc11 => ?_)))))
 ·refine zr (zq (Q.build pl112 (opc (zi 1) oPs_nil) rfl (cs := [_, _, _]) rfl) (zS3 sz112 rfl rfl (i := 0) rfl rfl rfl (hs' := [_]) rfl (za (zi 2) (zk (W.ret (End.Br (End.Kr (End.rV (zA3 rfl (zt 0 rfl) ag112 sz112 rfl (z1 rfl)) ?_))))))))
  first | (subst_vars; rfl) | (simp [callM, pad, *] <;> rfl)
 refine W.seq (zr (zq (Q.bin rfl (oc (v := .str [97, 98, 115]) (by kernel_rfl)) rfl bv_seql) (za rfl (zk (W.cD rfl (fun hc14 => ?_) (fun hc14 => ?_))))))
 ·refine zw (W.condT rfl (zr (zq (Q.build pl112 (opc (zi 2) oPs_nil) rfl (cs := [_, _, _]) rfl) (zS3 sz112 rfl rfl (i := 0) rfl rfl rfl (hs' := [_]) rfl (za (zi 2) (zk (W.ret (End.Br (End.Kr (End.rV (zA3 rfl (zt 0 rfl) ag112 sz112 rfl (z1 rfl)) ?_))))))))))
  first | (subst_vars; rfl) | (simp [callM, pad, *] <;> rfl)
 refine zr (zq (Q.bin rfl (oc (v := .str [99, 101, 105, 108]) (by kernel_rfl)) rfl bv_seql) (za rfl (zk (W.cD rfl (fun hc14 => ?_) (fun hc14 => ?_)))))
 ·refine zw (W.condT rfl (zr (zq (Q.build pl112 (opc (zi 2) oPs_nil) rfl (cs := [_, _, _]) rfl) (zS3 sz112 rfl rfl (i := 0) rfl rfl rfl (hs' := [_]) rfl (za (zi 2) (zk (W.ret (End.Br (End.Kr (End.rV (zA3 rfl (zt 0 rfl) ag112 sz112 rfl (z1 rfl)) ?_))))))))))
  first | (subst_vars; rfl) | (simp [callM, pad, *] <;> rfl)
 refine zr (zq (Q.bin rfl (oc (v := .str [102, 108, 111, 111, 114]) (by kernel_rfl)) rfl bv_seql) (za rfl (zk (W.cD rfl (fun hc14 => ?_) (fun hc14 => ?_)))))
 ·refine zw (W.condT rfl (zr (zq (Q.build pl112 (opc (zi 2) oPs_nil) rfl (cs := [_, _, _]) rfl) (zS3 sz112 rfl rfl (i := 0) rfl rfl rfl (hs' := [_]) rfl (za (zi 2) (zk (W.ret (End.Br (End.Kr (End.rV (zA3 rfl (zt 0 rfl) ag112 sz112 rfl (z1 rfl)) ?_))))))))))
  first | (subst_vars; rfl) | (simp [callM, pad, *] <;> rfl)
 refine W.reg (zq (Q.bin rfl (oc (v := .str [115, 103, 110]) (by kernel_rfl)) rfl bv_seql) (za rfl (zk (W.cD rfl (fun hc14 => ?_) (fun hc14 => ?_)))))
 ·refine zr (zq (Q.build pl112 (opc (zi 2) oPs_nil) rfl (cs := [_, _, _]) rfl) (zS3 sz112 rfl rfl (i := 0) rfl rfl rfl (hs' := [_]) rfl (za (zi 2) (zk (W.sub (zc 3 rfl (zc 2 rfl zzn)) (W.ret (End.Br (End.Kr (End.rV (zA3 rfl (zt 0 rfl) ag112 sz112 rfl (z1 rfl)) ?_)))))))))
  first | (subst_vars; rfl) | (simp [callM, pad, *] <;> rfl)
 refine zr (zq (Q.bin rfl (oc (v := .str [99, 108, 97, 109, 112]) (by kernel_rfl)) rfl bv_seql) (za rfl (zk (W.sub (zc 20 rfl (zc 4 rfl (zc 2 rfl zzn))) (W.cD rfl (fun hc20 => ?_) (fun hc20 => ?_))))))
 ·refine zr (zq (Q.build pl112 (opc (zi 2) (opc (zi 1) (opc (zi 1) oPs_nil))) rfl (cs := [_, _, _]) rfl) (zS3 sz112 rfl rfl (i := 0) rfl rfl rfl (hs' := [_]) rfl (za (zi 2) (zk (W.ret (End.Br (End.Kr (End.rV (zA3 rfl (zt 0 rfl) ag112 sz112 rfl (z1 rfl)) ?_))))))))
  first | (subst_vars; rfl) | (simp [callM, pad, *] <;> rfl)
 refine W.seq (zr (zq (Q.bin rfl (oc (v := .str [99, 111, 117, 110, 116, 95, 111, 118, 101, 114, 95, 116, 105, 109, 101]) (by kernel_rfl)) rfl bv_seql) (za rfl (zk (W.cD rfl (fun hc23 => ?_) (fun hc23 => ?_))))))
 ·refine zw (W.condT rfl (zr (zq (Q.build pl112 (opc (zi 3) oPs_nil) rfl (cs := [_, _, _]) rfl) (zS3 sz112 rfl rfl (i := 0) rfl rfl rfl (hs' := [_]) rfl (za (zi 2) (zk (W.ret (End.Br (End.Kr (End.rV (zA3 rfl (zt 0 rfl) ag112 sz112 rfl (z1 rfl)) ?_))))))))))
  first | (subst_vars; rfl) | (simp [callM, pad, *] <;> rfl)
 refine zr (zq (Q.bin rfl (oc (v := .str [115, 117, 109, 95, 111, 118, 101, 114, 95, 116, 105, 109, 101]) (by kernel_rfl)) rfl bv_seql) (za rfl (zk (W.cD rfl (fun hc23 => ?_) (fun hc23 => ?_)))))
 ·refine zw (W.condT rfl (zr (zq (Q.build pl112 (opc (zi 3) oPs_nil) rfl (cs := [_, _, _]) rfl) (zS3 sz112 rfl rfl (i := 0) rfl rfl rfl (hs' := [_]) rfl (za (zi 2) (zk (W.ret (End.Br (End.Kr (End.rV (zA3 rfl (zt 0 rfl) ag112 sz112 rfl (z1 rfl)) ?_))))))))))
  first | (subst_vars; rfl) | (simp [callM, pad, *] <;> rfl)
 refine zr (zq (Q.bin rfl (oc (v := .str [97, 118, 103, 95, 111, 118, 101, 114, 95, 116, 105, 109, 101]) (by kernel_rfl)) rfl bv_seql) (za rfl (zk (W.cD rfl (fun hc23 => ?_) (fun hc23 => ?_)))))
 ·refine zw (W.condT rfl (zr (zq (Q.build pl112 (opc (zi 3) oPs_nil) rfl (cs := [_, _, _]) rfl) (zS3 sz112 rfl rfl (i := 0) rfl rfl rfl (hs' := [_]) rfl (za (zi 2) (zk (W.ret (End.Br (End.Kr (End.rV (zA3 rfl (zt 0 rfl) ag112 sz112 rfl (z1 rfl)) ?_))))))))))
  first | (subst_vars; rfl) | (simp [callM, pad, *] <;> rfl)
 refine zr (zq (Q.bin rfl (oc (v := .str [109, 105, 110, 95, 111, 118, 101, 114, 95, 116, 105, 109, 101]) (by kernel_rfl)) rfl bv_seql) (za rfl (zk (W.cD rfl (fun hc23 => ?_) (fun hc23 => ?_)))))
 ·refine zw (W.condT rfl (zr (zq (Q.build pl112 (opc (zi 3) oPs_nil) rfl (cs := [_, _, _]) rfl) (zS3 sz112 rfl rfl (i := 0) rfl rfl rfl (hs' := [_]) rfl (za (zi 2) (zk (W.ret (End.Br (End.Kr (End.rV (zA3 rfl (zt 0 rfl) ag112 sz112 rfl (z1 rfl)) ?_))))))))))
  first | (subst_vars; rfl) | (simp [callM, pad, *] <;> rfl)
 refine zr (zq (Q.bin rfl (oc (v := .str [109, 97, 120, 95, 111, 118, 101, 114, 95, 116, 105, 109, 101]) (by kernel_rfl)) rfl bv_seql) (za rfl (zk (W.cD rfl (fun hc23 => ?_) (fun hc23 => ?_)))))
 ·refine zw (W.condT rfl (zr (zq (Q.build pl112 (opc (zi 3) oPs_nil) rfl (cs := [_, _, _]) rfl) (zS3 sz112 rfl rfl (i := 0) rfl rfl rfl (hs' := [_]) rfl (za (zi 2) (zk (W.ret (End.Br (End.Kr (End.rV (zA3 rfl (zt 0 rfl) ag112 sz112 rfl (z1 rfl)) ?_))))))))))
  first | (subst_vars; rfl) | (simp [callM, pad, *] <;> rfl)
 refine zr (zq (Q.bin rfl (oc (v := .str [108, 97, 115, 116, 95, 111, 118, 101, 114, 95, 116, 105, 109, 101]) (by kernel_rfl)) rfl bv_seql) (za rfl (zk (W.cD rfl (fun hc23 => ?_) (fun hc23 => ?_)))))
 ·refine zw (W.condT rfl (zr (zq (Q.build pl112 (opc (zi 3) oPs_nil) rfl (cs := [_, _, _]) rfl) (zS3 sz112 rfl rfl (i := 0) rfl rfl rfl (hs' := [_]) rfl (za (zi 2) (zk (W.ret (End.Br (End.Kr (End.rV (zA3 rfl (zt 0 rfl) ag112 sz112 rfl (z1 rfl)) ?_))))))))))
  first | (subst_vars; rfl) | (simp [callM, pad, *] <;> rfl)
 refine zr (zq (Q.bin rfl (oc (v := .str [100, 101, 108, 116, 97]) (by kernel_rfl)) rfl bv_seql) (za rfl (zk (W.cD rfl (fun hc23 => ?_) (fun hc23 => ?_)))))
 ·refine zw (W.condT rfl (zr (zq (Q.build pl112 (opc (zi 3) oPs_nil) rfl (cs := [_, _, _]) rfl) (zS3 sz112 rfl rfl (i := 0) rfl rfl rfl (hs' := [_]) rfl (za (zi 2) (zk (W.ret (End.Br (End.Kr (End.rV (zA3 rfl (zt 0 rfl) ag112 sz112 rfl (z1 rfl)) ?_))))))))))
  first | (subst_vars; rfl) | (simp [callM, pad, *] <;> rfl)
 refine zr (zq (Q.bin rfl (oc (v := .str [105, 110, 99, 114, 101, 97, 115, 101]) (by kernel_rfl)) rfl bv_seql) (za rfl (zk (W.cD rfl (fun hc23 => ?_) (fun hc23 => ?_)))))
 ·refine zw (W.condT rfl (zr (zq (Q.build pl112 (opc (zi 3) oPs_nil) rfl (cs := [_, _, _]) rfl) (zS3 sz112 rfl rfl (i := 0) rfl rfl rfl (hs' := [_]) rfl (za (zi 2) (zk (W.ret (End.Br (End.Kr (End.rV (zA3 rfl (zt 0 rfl) ag112 sz112 rfl (z1 rfl)) ?_))))))))))
  first | (subst_vars; rfl) | (simp [callM, pad, *] <;> rfl)
 refine W.reg (zq (Q.bin rfl (oc (v := .str [114, 97, 116, 101]) (by kernel_rfl)) rfl bv_seql) (za rfl (zk (W.cD rfl (fun hc23 => ?_) (fun hc23 => ?_)))))
 ·refine zr (zq (Q.build pl112 (opc (zi 3) oPs_nil) rfl (cs := [_, _, _]) rfl) (zS3 sz112 rfl rfl (i := 0) rfl rfl rfl (hs' := [_]) rfl (za (zi 2) (zk (W.ret (End.Br (End.Kr (End.rV (zA3 rfl (zt 0 rfl) ag112 sz112 rfl (z1 rfl)) ?_))))))))
  first | (subst_vars; rfl) | (simp [callM, pad, *] <;> rfl)
 refine W.skip (End.KB (End.K (zr (zq (Q.build pl112 oPs_nil rfl (cs := [_, _, _]) rfl) (zS3 sz112 rfl rfl (i := 0) rfl rfl rfl (hs' := [_]) rfl (za (zi 0) (zk (W.ret (End.rV (zA3 rfl (zt 0 rfl) ag112 sz112 rfl (z1 rfl)) ?_)))))))))
 first | (subst_vars; rfl) | (simp [callM, pad, *] <;> rfl)

end Go.Proofs.YtndhhgbpcmfeiaaGreatDoor.Ev.P16
