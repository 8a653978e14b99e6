/- An evaluator of closed calls, part 14: functions that write a text by a strings.Builder of their own. -/
import Derived.Test.YtndhhgbpcmfeiaaGreatDoorEEvR
import Derived.Shelf.Strings.Builder1
namespace Go.Proofs.YtndhhgbpcmfeiaaGreatDoor.Ev
open Go.RowKit
variable {J : Ctx}

structure BCfg where
 bt : Nat
 bu : Nat
 fs : Nat
 fb : Nat
 fr : Nat
abbrev Gh := Option (Nat × List Nat)

noncomputable section
def keepIn (h0 : T AObj) (t : T AObj) : Nat → T AObj
 | 0 => .leaf
 | k + 1 => match h0.get k, t.get k with
  | some _, some o => (keepIn h0 t k).set k o
  | _, _ => keepIn h0 t k
theorem keepIn_get {h0 t : T AObj} : ∀ {k b : Nat} {o : AObj}, (keepIn h0 t k).get b = some o → t.get b = some o ∧ ∃ o', h0.get b = some o'
 | 0, b, o, h => by rw [keepIn, T.get_leaf] at h; cases h
 | k + 1, b, o, h => by
  rw [keepIn] at h
  split at h
  ·rename_i x y h1 h2
   rw [T.get_set] at h
   split at h
   ·rename_i e
    subst e
    cases h
    exact ⟨h2, x, h1⟩
   ·exact keepIn_get h
  ·exact keepIn_get h

def ghIs (g : Gh) (k : Nat) : Option (List Nat) := match g with
 | some (k', l) => match Nat.beq k k' with
  | true => some l
  | false => none
 | none => none
theorem ghIs_some {g : Gh} {k : Nat} {l : List Nat} (h : ghIs g k = some l) : g = some (k, l) := by
 unfold ghIs at h
 split at h
 ·split at h
  ·rename_i hb
   cases h
   rw [Nat.eq_of_beq_eq_true hb]
  ·cases h
 ·cases h

def spWrite (tm : T AV) (h : AHeap) (g : Gh) (args : List Operand) : Option (AV × AHeap × Gh) :=
 match opnds tm args with
 | some [.opq k, .str s] => match ghIs g k with
  | some l => match Nat.ble (l.length + s.length) 1048576 with
   | true => some (.tuple [.int .i64 (s.length : Nat), .nili], h, some (k, l ++ s))
   | false => none
  | none => none
 | _ => none
def spByte (h0 : T AObj) (tm : T AV) (h : AHeap) (g : Gh) (args : List Operand) : Option (AV × AHeap × Gh) :=
 match opnds tm args with
 | some [.opq k, .int .u8 (.ofNat n)] => match ghIs g k with
  | some l => match Nat.ble (l.length + 1) 1048576 && Nat.blt n 256 with
   | true => some (.nili, ⟨h.next, keepIn h0 h.objs h.next⟩, some (k, l ++ [n]))
   | false => none
  | none => none
 | _ => none
def spTell (h0 : T AObj) (tm : T AV) (h : AHeap) (g : Gh) (args : List Operand) : Option (AV × AHeap × Gh) :=
 match opnds tm args with
 | some [.opq k] => match ghIs g k with
  | some (n :: l) => some (.str (n :: l), ⟨h.next, keepIn h0 h.objs h.next⟩, none)
  | _ => none
 | _ => none
def spOp (c : BCfg) (h0 : T AObj) (tm : T AV) (h : AHeap) (g : Gh) (o : Oper) : Option (Option (AV × AHeap × Gh)) :=
 match o.guard with
 | some _ => none
 | none => match o.op with
  | .alloc t => match Nat.beq t c.bt with
   | true => some (match g with
    | none => some (.opq h.next, ⟨h.next + 1, h.objs⟩, some (h.next, []))
    | some _ => none)
   | false => none
  | .call cl => match cl.callee with
   | .value (.func f) =>
    match Nat.beq f c.fs with
    | true => some (spWrite tm h g cl.args.toList)
    | false => match Nat.beq f c.fb with
     | true => some (spByte h0 tm h g cl.args.toList)
     | false => match Nat.beq f c.fr with
      | true => some (spTell h0 tm h g cl.args.toList)
      | false => none
   | _ => none
  | _ => none
def evOpsG (c : BCfg) (tb : Tab) (call : Nat → List AV → AHeap → Option (AV × AHeap)) (h0 : T AObj) (n : Nat) (ops : List Oper) : List Oper → T AV → AHeap → Gh → Option (T AV × AHeap × Gh)
 | [], tm, h, g => some (tm, h, g)
 | o :: rest, tm, h, g => match spOp c h0 tm h g o with
  | some (some (v, h', g')) => match putDst tm n o.dst v with
   | some tm' => evOpsG c tb call h0 n ops rest tm' h' g'
   | none => none
  | some none => none
  | none => match ev1 tb call ops tm h o with
   | some (v, h', _) => match putDst tm n o.dst v with
    | some tm' => evOpsG c tb call h0 n ops rest tm' h' g
    | none => none
   | none => none
def evCodeG (c : BCfg) (tb : Tab) (call : Nat → List AV → AHeap → Option (AV × AHeap)) (h0 : T AObj) (n : Nat)
  (ih : Code → T AV → AHeap → Gh → Option (Ex × T AV × AHeap × Gh)) (cd : Code) (tm : T AV) (h : AHeap) (g : Gh) : Option (Ex × T AV × AHeap × Gh) :=
 match cd with
 | .skip => some (.normal, tm, h, g)
 | .label _ => some (.normal, tm, h, g)
 | .ret => some (.ret, tm, h, g)
 | .exit id => some (.exit id, tm, h, g)
 | .region _ ops draw => match draw with
  | true => match evDraw tb call n ops.toList tm h with
   | some (tm', h') => some (.normal, tm', h', g)
   | none => none
  | false => match evOpsG c tb call h0 n ops.toList ops.toList tm h g with
   | some (tm', h', g') => some (.normal, tm', h', g')
   | none => none
 | .seq a b => match ih a tm h g with
  | some (.normal, tm', h', g') => ih b tm' h' g'
  | r => r
 | .cond x a b => match opnd tm x with
  | some (.bool true) => ih a tm h g
  | some (.bool false) => ih b tm h g
  | _ => none
 | .block id b => match ih b tm h g with
  | some (.exit j, tm', h', g') => match Nat.beq j id with
   | true => some (.normal, tm', h', g')
   | false => some (.exit j, tm', h', g')
  | r => r
 | .loop b => match ih b tm h g with
  | some (.normal, tm', h', g') => ih (.loop b) tm' h' g'
  | r => r
 | _ => none
def evCallG (tb : Tab) (run : T AObj → Nat → Code → T AV → AHeap → Gh → Option (Ex × T AV × AHeap × Gh)) (f : Nat) (args : List AV) (h : AHeap) : Option (AV × AHeap) :=
 match tb.orc f args h with
 | some v => some (v, h)
 | none =>
 match tb.ft.get f with
 | some fn =>
  match fn.body, Nat.ble args.length fn.ntmps with
  | some c, true =>
   match run h.objs fn.ntmps c (argTmps 0 args .leaf) h none with
   | some (.exit _, _, _, _) => none
   | some (_, tm, h', _) => match resultsA tb tm h' fn.results.toList with
    | some l => some (oneOf l, h')
    | none => none
   | none => none
  | _, _ => none
 | none => none
def runG (c : BCfg) (tb : Tab) : Nat → T AObj → Nat → Code → T AV → AHeap → Gh → Option (Ex × T AV × AHeap × Gh)
 | 0, _, _, _, _, _, _ => none
 | k + 1, h0, n, cd, tm, h, g => evCodeG c tb (evCallG tb (runG c tb k)) h0 n (runG c tb k h0 n) cd tm h g
def callG (c : BCfg) (tb : Tab) (k : Nat) (f : Nat) (args : List AV) (h : AHeap) : Option (AV × AHeap) := evCallG tb (runG c tb k) f args h
end

def ownB (w : World) (b : Nat) : Option Nat := match w.heap[b]? with
 | some (.cells c _ _) => (c.getD 1 undef).ownBlock
 | _ => none
structure Fine (b : Nat) (w w' : World) : Prop where
 os : w'.os = w.os
 tape : w'.tape = w.tape
 output : w'.output = w.output
 size : w.heap.size ≤ w'.heap.size
 block : ∀ k, k < w.heap.size → k ≠ b → ownB w b ≠ some k → w'.heap[k]? = w.heap[k]?
 own : ∀ x, ownB w' b = some x → ownB w b = some x ∨ w.heap.size ≤ x

def hasFn (P : Program) (f : Nat) : Prop := ∃ fn, P.funcs[f]? = some fn ∧ fn.body.isSome = true ∧ (fn.name == "runtime.NumGoroutine") = false
structure BOK (P : Program) (c : BCfg) : Prop where
 hz : ∀ w, (zeroValue c.bt).run P w = .ok (.agg #[.pointer none, .slice none 0 0]) w
 fs : hasFn P c.fs
 fb : hasFn P c.fb
 fr : hasFn P c.fr
 ws : ∀ (B b : Nat) (bs : List Value) (s : ByteArray) (w : World), Lib.IsBuilder c.bt c.bu B b bs w → bs.length + s.size ≤ 140737488355328 → B ≤ w.heap.size →
  Calls P c.fs #[.pointer (some ⟨b, 0, none⟩), .string s] w fun e w' => e = .returned (.tuple #[.int .i64 s.size, .nilIface]) ∧ Lib.IsBuilder c.bt c.bu B b (bs ++ Lib.strCells s) w' ∧ Fine b w w'
 wb : ∀ (B b : Nat) (bs : List Value) (n : Int) (w : World), Lib.IsBuilder c.bt c.bu B b bs w → bs.length + 1 ≤ 140737488355328 → B ≤ w.heap.size →
  Calls P c.fb #[.pointer (some ⟨b, 0, none⟩), .int .u8 n] w fun e w' => e = .returned .nilIface ∧ Lib.IsBuilder c.bt c.bu B b (bs ++ [.int .u8 n]) w' ∧ Below B w w'
 tl : ∀ (B b : Nat) (l : List UInt8) (w : World), Lib.IsBuilder c.bt c.bu B b (Lib.byteCells l) w → l ≠ [] →
  Calls P c.fr #[.pointer (some ⟨b, 0, none⟩)] w fun e w' => e = .returned (.string ⟨l.toArray⟩) ∧ Below B w w'

def Bld (c : BCfg) (M : Inj) (N : Nat → Prop) (B : Nat) (g : Gh) (w : World) : Prop :=
 ∀ k l, g = some (k, l) → ∃ (blk : Nat) (s : List UInt8), M k = some ⟨0, 0, 0, 0, .pointer (some ⟨blk, 0, none⟩)⟩ ∧ l = s.map UInt8.toNat ∧ Lib.IsBuilder c.bt c.bu B blk (Lib.byteCells s) w ∧ N blk ∧ ∀ x, ownB w blk = some x → N x
def GRel (c : BCfg) (N0 : Nat → Prop) (w0 : Base J) (B : Nat) (h0 : T AObj) (M : Inj) (h : AHeap) (g : Gh) (w : World) : Prop :=
 (∀ b o, h0.get b = some o → ∃ i, M b = some i ∧ i.blk < B) ∧ (∀ k, N0 k → k < B) ∧ (∀ k, k < w0.n → N0 k) ∧
 ∃ (N : Nat → Prop) (w1 : Base J), HRel M N w1 h w ∧ (∀ k, N0 k → N k) ∧ Keeps N0 w0.w w1.w ∧ w1.n = w0.n ∧ (∀ b, w0.res b → w1.res b) ∧ Bld c M N B g w1.w ∧ B ≤ w1.w.heap.size

section ghost
variable {P : Program} {tb : Tab} {c : BCfg} {N0 : Nat → Prop} {w0 : Base J} {B : Nat} {h0 : T AObj} {M : Inj} {h : AHeap} {g : Gh} {w : World}

theorem GRel.enter {N : Nat → Prop} (hh : HRel M N w0 h w) : GRel c N w0 w.heap.size h.objs M h none w := by
 refine ⟨fun b o ho => ?_, hh.big, hh.lim, N, Base.at_ hh.lim hh.below w0.res, hh.rebase w0.res (fun k hk => hk) hh.big (fun b o i _ _ hN => hN) hh.res, fun k hk => hk, hh.below, rfl, fun b hb => hb, fun k l e => (by cases e), Nat.le_refl _⟩
 have hl := hh.live b o ho
 have : ∃ i, M b = some i := by
  rcases hl with ⟨⟨i, hi, _⟩, _⟩ | ⟨i, _, _, _, hi, _⟩ | ⟨i, _, _, hi, _⟩ <;> exact ⟨i, hi⟩
 obtain ⟨i, hi⟩ := this
 exact ⟨i, hi, (hl.blk_lt hi).1⟩
theorem GRel.leave (hg : GRel c N0 w0 B h0 M h g w) : HRel M N0 w0 h w := by
 obtain ⟨_, h1, h2, N, w1, hh, h3, h4, h5, h6, _, _⟩ := hg
 exact ⟨hh.base, h2, h4.trans (hh.below.mono h3), fun k hk => hh.big k (h3 k hk), fun b o ho => by
   have := (hh.live b o ho).limit (N' := N0) (fun i hi hN hN2 => hN (h3 _ hN2))
   rwa [h5] at this,
  fun b b' o o' i i' p q r s e hN => hh.apart b b' o o' i i' p q r s e (((hh.live b o p).blk_lt r).2.resolve_right (fun hlt => hN (h2 _ (h5 ▸ hlt)))), hh.old, hh.fresh, fun b hb => hh.res b (h6 b hb)⟩
theorem GRel.step {N : Nat → Prop} {w1 : Base J} {M' : Inj} {h' : AHeap} {w' : World} (h1 : ∀ b o, h0.get b = some o → ∃ i, M b = some i ∧ i.blk < B) (h2 : ∀ k, N0 k → k < B) (h3 : ∀ k, k < w0.n → N0 k)
  (h4 : ∀ k, N0 k → N k) (h5 : Keeps N0 w0.w w1.w) (h6 : w1.n = w0.n) (h7 : ∀ b, w0.res b → w1.res b) (h8 : Bld c M N B g w1.w) (h9 : B ≤ w1.w.heap.size) (hM : M.le M') (hh : HRel M' N w1 h' w') : GRel c N0 w0 B h0 M' h' g w' :=
 ⟨fun b o ho => let ⟨i, hi, hl⟩ := h1 b o ho; ⟨i, hM _ _ hi, hl⟩, h2, h3, N, w1, hh, h4, h5, h6, h7, fun k l e => let ⟨blk, s, q1, q2⟩ := h8 k l e; ⟨blk, s, hM _ _ q1, q2⟩, h9⟩

theorem row_keeps {N : Nat → Prop} {e n : Nat} {v : Value} {xs : List Value} {w w' : World} (h : w.ownsRow B e 1 v n xs) (hN : ∀ x, v.ownBlock = some x → N x) (k : Keeps N w w') : w'.ownsRow B e 1 v n xs := by
 obtain ⟨h1, h2⟩ := h
 refine ⟨h1, ?_⟩
 rcases h2 with h2 | ⟨g, cap, cur, rfl, q1, q2, q3⟩
 ·exact .inl h2
 ·exact .inr ⟨g, cap, cur, rfl, q1, by rw [k.block g (hN g rfl)]; exact q2, q3⟩
theorem at_keeps {N : Nat → Prop} {blk : Nat} {p : Value} {bs : List Value} {w w' : World} (h : Lib.BuilderAt c.bt c.bu B blk p bs w) (hb : N blk) (hN : ∀ x, ownB w blk = some x → N x) (k : Keeps N w w') : Lib.BuilderAt c.bt c.bu B blk p bs w' := by
 obtain ⟨h1, v, h2, h3, h4⟩ := h
 refine ⟨h1, v, by rw [k.block blk hb]; exact h2, row_keeps h3 (fun x hx => hN x ?_) k, h4⟩
 unfold ownB
 rw [h2]
 exact hx
theorem is_keeps {N : Nat → Prop} {blk : Nat} {bs : List Value} {w w' : World} (h : Lib.IsBuilder c.bt c.bu B blk bs w) (hb : N blk) (hN : ∀ x, ownB w blk = some x → N x) (k : Keeps N w w') : Lib.IsBuilder c.bt c.bu B blk bs w' :=
 h.imp (fun h => at_keeps h hb hN k) (fun h => at_keeps h hb hN k)
theorem own_keeps {N : Nat → Prop} {blk : Nat} {w w' : World} (hb : N blk) (k : Keeps N w w') : ownB w' blk = ownB w blk := by
 unfold ownB
 rw [k.block blk hb]
theorem Bld.keeps {N : Nat → Prop} {w w' : World} (h : Bld c M N B g w) (k : Keeps N w w') : Bld c M N B g w' := by
 intro a l e
 obtain ⟨blk, s, q1, q2, q3, q4, q5⟩ := h a l e
 exact ⟨blk, s, q1, q2, is_keeps q3 q4 q5 k, q4, by rw [own_keeps q4 k]; exact q5⟩
theorem is_own {blk : Nat} {bs : List Value} {w : World} (h : Lib.IsBuilder c.bt c.bu B blk bs w) : B ≤ blk ∧ blk < w.heap.size ∧ ∀ x, ownB w blk = some x → B ≤ x ∧ x < w.heap.size := by
 have key : ∀ p, Lib.BuilderAt c.bt c.bu B blk p bs w → B ≤ blk ∧ blk < w.heap.size ∧ ∀ x, ownB w blk = some x → B ≤ x ∧ x < w.heap.size := by
  intro p h
  refine ⟨h.1, h.lt, fun x hx => ?_⟩
  obtain ⟨_, v, h2, h3, _⟩ := h
  unfold ownB at hx
  rw [h2] at hx
  rcases h3.2 with ⟨rfl, _⟩ | ⟨g, cap, cur, rfl, q1, q2, _⟩
  ·cases hx
  ·cases hx
   exact ⟨q1, (Array.getElem?_eq_some_iff.1 q2).1⟩
 exact h.elim (key _) (key _)

theorem HRel.newBase {N N' : Nat → Prop} {w1 : Base J} {M' : Inj} {h' : AHeap} {w' : World} (hh : HRel M N w1 h w) (hM : M.le M') (hk : Keeps N0 w w') (hlim : ∀ k, k < w1.n → N0 k) (h0N : ∀ k, N0 k → N k) (hN0 : ∀ k, N0 k → N' k) (hbig : ∀ k, N' k → k < w'.heap.size)
  (hsub : ∀ b o, h'.objs.get b = some o → h.objs.get b = some o) (hnext : h.next ≤ h'.next) (hfresh : ∀ b, h'.next ≤ b → M' b = none) (hsame : ∀ b, b < h.next → M' b = M b)
  (hblk : ∀ b o i, h'.objs.get b = some o → M b = some i → w'.heap[i.blk]? = w.heap[i.blk]? ∧ (¬ N i.blk → ¬ N' i.blk)) :
  ∃ w2 : Base J, w2.w = w' ∧ w2.n = w1.n ∧ (∀ b, w1.res b → w2.res b) ∧ HRel M' N' w2 h' w' := by
 have hb : Below w1.n w1.w w' := (hh.below.mono h0N |>.trans hk).below hlim
 refine ⟨⟨w', w1.n, fun w3 h3 => w1.ok w3 (hb.trans h3), w1.res⟩, rfl, rfl, fun b h => h, ⟨Inj.le_trans hh.base hM, fun k hk => hN0 k (hlim k hk), Keeps.refl _ _, hbig, ?_, ?_, ?_, hfresh, ?_⟩⟩
 ·intro b o hb
  have hl := hh.live b o (hsub b o hb)
  have hm := hl.mono hM (w' := w') (fun i hi => (hblk b o i hb hi).1)
  have hlt := hh.old b o (hsub b o hb)
  exact hm.limit (fun i hi hN => (hblk b o i hb (by rw [← hsame b hlt]; exact hi)).2 hN)
 ·intro b b' o o' i i' p q r s e hN
  have p' := hsub b o p
  have q' := hsub b' o' q
  rw [hsame b (hh.old b o p')] at r
  rw [hsame b' (hh.old b' o' q')] at s
  refine hh.apart b b' o o' i i' p' q' r s e (((hh.live b o p').blk_lt r).2.resolve_right (fun hlt => hN (hN0 _ (hlim _ hlt))))
 ·intro b o hb
  have := hh.old b o (hsub b o hb)
  omega
 ·intro b hb
  obtain ⟨r1, r2⟩ := hh.res b hb
  exact ⟨by rw [hsame b r2]; exact r1, Nat.lt_of_lt_of_le r2 hnext⟩

theorem gh_alloc (H : BOK P c) (hg : GRel c N0 w0 B h0 M h none w) : ∃ u M' w', (Instr.alloc c.bt true (.tuple #[])).run P w = .ok u w' ∧ M.le M' ∧ VRel M' (.opq h.next) u ∧ GRel c N0 w0 B h0 M' ⟨h.next + 1, h.objs⟩ (some (h.next, [])) w' := by
 obtain ⟨h1, h2, h3, N, w1, hh, h4, h5, h6, h7, _, h9⟩ := hg
 have hn := hh.fresh h.next (Nat.le_refl _)
 have hsz : w1.w.heap.size ≤ w.heap.size := hh.below.size
 let u : Value := .pointer (some ⟨w.heap.size, 0, none⟩)
 let w' := w.alloc (.cells #[.pointer none, .slice none 0 0] c.bt (0, 0))
 have hgr : Grow w w' (.cells #[.pointer none, .slice none 0 0] c.bt (0, 0)) := Grow.alloc w _
 let M' := M.upd h.next ⟨0, 0, 0, 0, u⟩
 have hle : M.le M' := Inj.le_upd hn _
 have hsame : ∀ b, b < h.next → M' b = M b := fun b hb => by show (if b = h.next then _ else _) = _; rw [if_neg zy]
 have hself : M' h.next = some ⟨0, 0, 0, 0, u⟩ := by show (if h.next = h.next then _ else _) = _; rw [if_pos rfl]
 have hk : Keeps N0 w w' := (hgr.below (Keeps.refl N0 w) (fun k hk => by have := h2 k hk; omega))
 obtain ⟨w2, e1, e2, e3, hh2⟩ := hh.newBase (N0 := N0) (N' := fun x => N x ∨ x = w.heap.size) (h' := ⟨h.next + 1, h.objs⟩) hle hk (fun k hk => h3 k (h6 ▸ hk)) h4 (fun k hk => .inl (h4 k hk))
  (fun k hk => by rw [hgr.size]; rcases hk with hk | rfl; have := hh.big k hk; omega; omega) (fun b o hb => hb) (Nat.le_succ _) (fun b hb => by show (if b = h.next then _ else _) = _; simp only at hb; rw [if_neg zy]; exact hh.fresh b zy) hsame
  (fun b o i hb hi => by
   have := ((hh.live b o hb).blk_lt hi).1
   exact ⟨hgr.old _ this, fun hN hN' => hN'.elim hN (fun e => by omega)⟩)
 refine ⟨u, M', w', ?_, hle, .opq h.next ⟨0, 0, 0, 0, u⟩ u hself rfl rfl, fun b o ho => let ⟨i, hi, hl⟩ := h1 b o ho; ⟨i, hle _ _ hi, hl⟩, h2, h3, _, w2, hh2, fun k hk => .inl (h4 k hk), by rw [e1]; exact (h5.trans (hh.below.mono h4)).trans hk, by rw [e2, h6], fun b hb => e3 b (h7 b hb), ?_, by rw [e1, hgr.size]; omega⟩
 ·simp only [Instr.alloc, Sem.run_bind, H.hz, Result.andThen_ok]
  simp [newVar, newRow, Value.cells, u, w']
 ·intro k l e
  cases e
  refine ⟨w.heap.size, [], hself, rfl, .inl ⟨by omega, .slice none 0 0, by rw [e1]; exact hgr.new, World.ownsRow_nil _ _ _ _, by simp [Value.ownBlock]⟩, .inr rfl, fun x hx => ?_⟩
  rw [e1] at hx
  unfold ownB at hx
  rw [hgr.new] at hx
  cases hx
end ghost
variable {J : Ctx}

section ghost
variable {P : Program} {tb : Tab} {c : BCfg} {N0 : Nat → Prop} {w0 : Base J} {B : Nat} {h0 : T AObj} {M : Inj} {h : AHeap} {g : Gh} {w : World}

theorem opq_ptr {k : Nat} {u v : Value} (hM : M k = some ⟨0, 0, 0, 0, v⟩) (hu : VRel M (.opq k) u) : u = v := by
 cases hu with
 | opq b i u hi he hc =>
  rw [hM] at hi
  cases hi
  exact he.symm
theorem gh_write (H : BOK P c) {k : Nat} {l t : List Nat} {u : Value} {q : ByteArray} (hg : GRel c N0 w0 B h0 M h (some (k, l)) w) (hu : VRel M (.opq k) u) (hq : q.data.toList.map UInt8.toNat = t) (hl : l.length + t.length ≤ 1048576) :
  Calls P c.fs #[u, .string q] w fun e w' => ∃ M' x, e = .returned x ∧ M.le M' ∧ GRel c N0 w0 B h0 M' h (some (k, l ++ t)) w' ∧ VRel M' (.tuple [.int .i64 (t.length : Nat), .nili]) x := by
 obtain ⟨h1, h2, h3, N, w1, hh, h4, h5, h6, h7, h8, h9⟩ := hg
 obtain ⟨blk, s, q1, q2, q3, q4, q5⟩ := (h8.keeps hh.below) k l rfl
 obtain rfl := opq_ptr q1 hu
 have hqs : q.size = t.length := by rw [← hq, List.length_map, Array.length_toList]; rfl
 obtain ⟨o1, o2, o3⟩ := is_own q3
 refine (H.ws B blk (Lib.byteCells s) q w q3 (by rw [Lib.byteCells_length]; rw [q2, List.length_map] at hl; omega) zy).mono ?_
 rintro e w' ⟨rfl, r1, r2⟩
 have hk : Keeps N0 w w' := ⟨r2.os, r2.tape, r2.output, r2.size, fun x hx => by
  have := h2 x hx
  exact r2.block x zy zy (fun e => by have := (o3 x e).1; omega)⟩
 obtain ⟨p1, p2, p3⟩ := is_own r1
 obtain ⟨w2, e1, e2, e3, hh2⟩ := hh.newBase (N0 := N0) (N' := fun x => N x ∨ ownB w' blk = some x) (h' := h) (Inj.le_refl M) hk (fun k hk => h3 k (h6 ▸ hk)) h4 (fun k hk => .inl (h4 k hk))
  (fun x hx => hx.elim (fun hx => Nat.lt_of_lt_of_le (hh.big x hx) r2.size) (fun hx => (p3 x hx).2)) (fun b o hb => hb) (Nat.le_refl _) hh.fresh (fun _ _ => rfl)
  (fun b o i hb hi => by
   obtain ⟨lt, nd⟩ := (hh.live b o hb).blk_lt hi
   refine ⟨?_, fun hN hN' => hN'.elim hN fun e => (r2.own _ e).elim (fun e => hN (q5 _ e)) (fun e => by omega)⟩
   rcases nd with nd | nd
   ·exact r2.block _ lt (fun e => nd (e ▸ q4)) (fun e => nd (q5 _ e))
   ·exact hk.block _ (h3 _ (h6 ▸ nd)))
 refine ⟨M, _, rfl, Inj.le_refl M, ⟨h1, h2, h3, _, w2, hh2, fun k hk => .inl (h4 k hk), by rw [e1]; exact (h5.trans (hh.below.mono h4)).trans hk, by rw [e2, h6], fun b hb => e3 b (h7 b hb), ?_, by rw [e1]; omega⟩, ?_⟩
 ·intro a m e
  cases e
  refine ⟨blk, s ++ q.data.toList, q1, by rw [List.map_append, ← q2, hq], ?_, .inl q4, fun x hx => .inr (e1 ▸ hx)⟩
  rw [e1, Lib.byteCells_append]
  exact r1
 ·refine .tuple _ _ rfl fun i v x hv hx => ?_
  match i, hv, hx with
  | 0, hv, hx => cases hv; cases hx; rw [← hqs]; exact .int _ _
  | 1, hv, hx => cases hv; cases hx; exact .nili
theorem gh_keep (hg : GRel c N0 w0 B h0 M h g w) {g' : Gh} {w' : World} (hb : Below B w w')
  (hB : ∀ k l, g' = some (k, l) → ∃ (blk : Nat) (s : List UInt8), M k = some ⟨0, 0, 0, 0, .pointer (some ⟨blk, 0, none⟩)⟩ ∧ l = s.map UInt8.toNat ∧ Lib.IsBuilder c.bt c.bu B blk (Lib.byteCells s) w') : GRel c N0 w0 B h0 M ⟨h.next, keepIn h0 h.objs h.next⟩ g' w' := by
 obtain ⟨h1, h2, h3, N, w1, hh, h4, h5, h6, h7, h8, h9⟩ := hg
 have hk : Keeps N0 w w' := Keeps.of hb h2
 have hsz : B ≤ w.heap.size := Nat.le_trans h9 hh.below.size
 obtain ⟨w2, e1, e2, e3, hh2⟩ := hh.newBase (N0 := N0) (N' := fun x => N0 x ∨ (B ≤ x ∧ x < w'.heap.size)) (h' := ⟨h.next, keepIn h0 h.objs h.next⟩) (Inj.le_refl M) hk (fun k hk => h3 k (h6 ▸ hk)) h4 (fun k hk => .inl hk)
  (fun x hx => hx.elim (fun hx => by have := h2 x hx; have := hb.size; omega) (fun hx => hx.2)) (fun b o hb => (keepIn_get hb).1) (Nat.le_refl _) hh.fresh (fun _ _ => rfl)
  (fun b o i ho hi => by
   obtain ⟨_, o', ho'⟩ := keepIn_get ho
   obtain ⟨j, hj, hlt⟩ := h1 b o' ho'
   rw [hi] at hj
   cases hj
   exact ⟨hb.block _ hlt, fun hN hN' => hN'.elim (fun e => hN (h4 _ e)) (fun e => by omega)⟩)
 refine ⟨h1, h2, h3, _, w2, hh2, fun k hk => .inl hk, by rw [e1]; exact (h5.trans (hh.below.mono h4)).trans hk, by rw [e2, h6], fun b hb => e3 b (h7 b hb), ?_, by rw [e1]; have := hb.size; omega⟩
 intro k l e
 obtain ⟨blk, s, q1, q2, q3⟩ := hB k l e
 obtain ⟨o1, o2, o3⟩ := is_own q3
 exact ⟨blk, s, q1, q2, e1 ▸ q3, .inr ⟨o1, o2⟩, fun x hx => .inr (o3 x (e1 ▸ hx))⟩
theorem gh_byte (H : BOK P c) {k n : Nat} {l : List Nat} {u : Value} (hg : GRel c N0 w0 B h0 M h (some (k, l)) w) (hu : VRel M (.opq k) u) (hn : n < 256) (hl : l.length + 1 ≤ 1048576) :
  Calls P c.fb #[u, .int .u8 (n : Int)] w fun e w' => ∃ M' x, e = .returned x ∧ M.le M' ∧ GRel c N0 w0 B h0 M' ⟨h.next, keepIn h0 h.objs h.next⟩ (some (k, l ++ [n])) w' ∧ VRel M' .nili x := by
 have hg0 := hg
 obtain ⟨h1, h2, h3, N, w1, hh, h4, h5, h6, h7, h8, h9⟩ := hg
 obtain ⟨blk, s, q1, q2, q3, q4, q5⟩ := (h8.keeps hh.below) k l rfl
 obtain rfl := opq_ptr q1 hu
 obtain ⟨o1, o2, o3⟩ := is_own q3
 refine (H.wb B blk (Lib.byteCells s) n w q3 (by rw [Lib.byteCells_length]; rw [q2, List.length_map] at hl; omega) zy).mono ?_
 rintro e w' ⟨rfl, r1, r2⟩
 refine ⟨M, _, rfl, Inj.le_refl M, gh_keep hg0 r2 ?_, .nili⟩
 intro a m e
 cases e
 refine ⟨blk, s ++ [UInt8.ofNat n], q1, by rw [List.map_append, ← q2]; simp [UInt8.toNat_ofNat', Nat.mod_eq_of_lt hn], ?_⟩
 rw [Lib.byteCells_append]
 have e2 : Lib.byteCells [UInt8.ofNat n] = [Value.int .u8 (n : Int)] := by simp [Lib.byteCells, UInt8.toNat_ofNat', Nat.mod_eq_of_lt hn]
 rw [e2]
 exact r1
theorem gh_tell (H : BOK P c) {k n : Nat} {l : List Nat} {u : Value} (hg : GRel c N0 w0 B h0 M h (some (k, n :: l)) w) (hu : VRel M (.opq k) u) :
  Calls P c.fr #[u] w fun e w' => ∃ M' x, e = .returned x ∧ M.le M' ∧ GRel c N0 w0 B h0 M' ⟨h.next, keepIn h0 h.objs h.next⟩ none w' ∧ VRel M' (.str (n :: l)) x := by
 have hg0 := hg
 obtain ⟨h1, h2, h3, N, w1, hh, h4, h5, h6, h7, h8, h9⟩ := hg
 obtain ⟨blk, s, q1, q2, q3, q4, q5⟩ := (h8.keeps hh.below) k _ rfl
 obtain rfl := opq_ptr q1 hu
 refine (H.tl B blk s w q3 (by rintro rfl; cases q2)).mono ?_
 rintro e w' ⟨rfl, r2⟩
 exact ⟨M, _, rfl, Inj.le_refl M, gh_keep hg0 r2 (fun a m e => by cases e), .str _ _ (by rw [q2])⟩

theorem call_op {a : Act} {f : Nat} {args : Array Operand} {tys : Array TypeId} {vs : Array Value} {o : Oper} {next : Act → World → Prop} {Q : Exit → Act → World → Prop} (ho : o.op = .call ⟨.value (.func f), args, tys⟩) (hf : hasFn P f)
  (hvs : args.map a.eval = vs) {R : Value → World → Prop} (hc : Calls P f vs w fun e w' => ∃ x, e = .returned x ∧ R x w') (hn : ∀ x w', R x w' → next (a.put o.dst x) w') : o.wp P a w next Q := by
 obtain ⟨fn, h1, h2, h3⟩ := hf
 obtain ⟨dst, op, type, pos, after, guard⟩ := o
 simp only at ho
 subst ho
 have hrun : (execOp a.eval { dst, op := .call { callee := .value (.func f), args, argTypes := tys }, type, pos, after, guard }).run P w = .ok (.enter f vs) w := by
  have hb2 : fn.body.isNone = false := by cases hbb : fn.body <;> simp_all
  have he : a.eval (.func f) = .func (.func f) #[] #[] := rfl
  simp only [execOp, resolve, Sem.run_bind, he, Deferred.ofValue, Sem.run_pure, Result.andThen_ok, invoke, callFunc, run_program, h1, h3, Bool.false_eq_true, if_false, hb2, Array.empty_append, hvs, Array.append_empty]
 unfold Oper.wp
 rw [hrun, Oper.upon_enter]
 refine hc.mono ?_
 rintro e w' ⟨x, rfl, hx⟩
 exact hn x w' hx
theorem args2 {tm : T AV} {a : Act} (ht : TRel M tm a) {args : Array Operand} {x y : AV} (h : opnds tm args.toList = some [x, y]) : ∃ u v, args.map a.eval = #[u, v] ∧ VRel M x u ∧ VRel M y v := by
 have hl := opnds_ok ht h
 obtain ⟨u, h1, h2⟩ := hl.get (i := 0) rfl
 obtain ⟨v, h3, h4⟩ := hl.get (i := 1) rfl
 refine ⟨u, v, ?_, h2, h4⟩
 apply Array.ext'
 rw [Array.toList_map]
 match hm : args.toList.map a.eval, hl.1, h1, h3 with
 | [p, q], _, h1, h3 => cases h1; cases h3; rfl
theorem args1 {tm : T AV} {a : Act} (ht : TRel M tm a) {args : Array Operand} {x : AV} (h : opnds tm args.toList = some [x]) : ∃ u, args.map a.eval = #[u] ∧ VRel M x u := by
 have hl := opnds_ok ht h
 obtain ⟨u, h1, h2⟩ := hl.get (i := 0) rfl
 refine ⟨u, ?_, h2⟩
 apply Array.ext'
 rw [Array.toList_map]
 match hm : args.toList.map a.eval, hl.1, h1 with
 | [p], _, h1 => cases h1; rfl

theorem sp_ok (H : BOK P c) {tm : T AV} {a : Act} (ht : TRel M tm a) (hg : GRel c N0 w0 B h0 M h g w) {o : Oper} {v : AV} {h' : AHeap} {g' : Gh} (he : spOp c h0 tm h g o = some (some (v, h', g'))) {next : Act → World → Prop} {Q : Exit → Act → World → Prop}
  (hn : ∀ M' u w', M.le M' → GRel c N0 w0 B h0 M' h' g' w' → VRel M' v u → next (a.put o.dst u) w') : o.guard = none ∧ o.wp P a w next Q := by
 unfold spOp at he
 split at he
 ·cases he
 rename_i hgd
 refine ⟨hgd, ?_⟩
 split at he
 ·-- a new one
  rename_i t hop
  split at he
  ·rename_i ht2
   have ht2 := Nat.eq_of_beq_eq_true ht2
   subst ht2
   split at he
   ·simp only [Option.some.injEq, Prod.mk.injEq] at he
    obtain ⟨rfl, rfl, rfl⟩ := he
    obtain ⟨u, M', w', r1, r2, r3, r4⟩ := gh_alloc H hg
    obtain ⟨dst, op, type, pos, after, guard⟩ := o
    simp only at hop
    subst hop
    unfold Oper.wp
    have e1 : (execOp a.eval { dst, op := .alloc c.bt, type, pos, after, guard }).run P w = .ok (.value u) w' := by
     have : (execOp a.eval { dst, op := .alloc c.bt, type, pos, after, guard }).run P w = (do pure (.value (← Instr.alloc c.bt true (.tuple #[]))) : Sem Next).run P w := rfl
     rw [this]
     simp only [Sem.run_bind, r1, Result.andThen_ok, Sem.run_pure]
    rw [e1, Oper.upon_value]
    exact hn M' u w' r2 r4 r3
   ·cases he
  ·cases he
 ·rename_i cl hop
  obtain ⟨callee, args, tys⟩ := cl
  simp only at he
  split at he
  ·rename_i f
   split at he
   ·rename_i hf
    have hf := Nat.eq_of_beq_eq_true hf
    subst hf
    simp only [Option.some.injEq] at he
    unfold spWrite at he
    split at he
    ·rename_i k s hargs
     split at he
     ·rename_i l hl
      obtain rfl := ghIs_some hl
      split at he
      ·rename_i hle
       simp only [Option.some.injEq, Prod.mk.injEq] at he
       obtain ⟨rfl, rfl, rfl⟩ := he
       obtain ⟨u, v, e1, e2, e3⟩ := args2 ht hargs
       cases e3 with
       | str q _ hq =>
        exact call_op (R := fun x w' => ∃ M', M.le M' ∧ GRel c N0 w0 B h0 M' h (some (k, l ++ s)) w' ∧ VRel M' (.tuple [.int .i64 (s.length : Nat), .nili]) x) hop H.fs e1
         ((gh_write H hg e2 hq (Nat.ble_eq.mp hle)).mono fun e w' ⟨M', x, r1, r2, r3, r4⟩ => ⟨x, r1, M', r2, r3, r4⟩) fun x w' ⟨M', r2, r3, r4⟩ => hn M' x w' r2 r3 r4
      ·cases he
     ·cases he
    ·cases he
   ·split at he
    ·rename_i hf
     have hf := Nat.eq_of_beq_eq_true hf
     subst hf
     simp only [Option.some.injEq] at he
     unfold spByte at he
     split at he
     ·rename_i k n hargs
      split at he
      ·rename_i l hl
       obtain rfl := ghIs_some hl
       split at he
       ·rename_i hle
        rw [Bool.and_eq_true] at hle
        simp only [Option.some.injEq, Prod.mk.injEq] at he
        obtain ⟨rfl, rfl, rfl⟩ := he
        obtain ⟨u, v, e1, e2, e3⟩ := args2 ht hargs
        obtain rfl := int_iff e3
        exact call_op (R := fun x w' => ∃ M', M.le M' ∧ GRel c N0 w0 B h0 M' ⟨h.next, keepIn h0 h.objs h.next⟩ (some (k, l ++ [n])) w' ∧ VRel M' .nili x) hop H.fb e1
         ((gh_byte H hg e2 (by simpa [Nat.blt_eq] using hle.2) (Nat.ble_eq.mp hle.1)).mono fun e w' ⟨M', x, r1, r2, r3, r4⟩ => ⟨x, r1, M', r2, r3, r4⟩) fun x w' ⟨M', r2, r3, r4⟩ => hn M' x w' r2 r3 r4
       ·cases he
      ·cases he
     ·cases he
    ·split at he
     ·rename_i hf
      have hf := Nat.eq_of_beq_eq_true hf
      subst hf
      simp only [Option.some.injEq] at he
      unfold spTell at he
      split at he
      ·rename_i k hargs
       split at he
       ·rename_i n l hl
        obtain rfl := ghIs_some hl
        simp only [Option.some.injEq, Prod.mk.injEq] at he
        obtain ⟨rfl, rfl, rfl⟩ := he
        obtain ⟨u, e1, e2⟩ := args1 ht hargs
        exact call_op (R := fun x w' => ∃ M', M.le M' ∧ GRel c N0 w0 B h0 M' ⟨h.next, keepIn h0 h.objs h.next⟩ none w' ∧ VRel M' (.str (n :: l)) x) hop H.fr e1
         ((gh_tell H hg e2).mono fun e w' ⟨M', x, r1, r2, r3, r4⟩ => ⟨x, r1, M', r2, r3, r4⟩) fun x w' ⟨M', r2, r3, r4⟩ => hn M' x w' r2 r3 r4
       ·cases he
      ·cases he
     ·cases he
  ·cases he
 ·cases he
end ghost
end Go.Proofs.YtndhhgbpcmfeiaaGreatDoor.Ev
