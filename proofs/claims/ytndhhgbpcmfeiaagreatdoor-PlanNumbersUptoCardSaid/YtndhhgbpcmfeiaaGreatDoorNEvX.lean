/- An evaluator of closed calls, part 14: functions that write a text by a strings.Builder of their own. -/
import Derived.Test.YtndhhgbpcmfeiaaGreatDoorNEvR
import Derived.Shelf.Strings.Builder1
namespace Go.Proofs.YtndhhgbpcmfeiaaGreatDoor.Ev
open Go.RowKit
variable {J : Ctx}

structure BCfg where
 bt : Nat
 bu : Nat
 fs : Nat
 fb : Nat
 fr : Nat
abbrev Gh := Option (Nat × List Nat)

noncomputable section
def keepIn (h0 : T AObj) (t : T AObj) : Nat -> T AObj
 | 0 => .leaf
 | k + 1 => match h0.get k, t.get k with
  | some _, some o => (keepIn h0 t k).set k o
  | _, _ => keepIn h0 t k
theorem gY {h0 t : T AObj} : ∀ {k b : Nat} {o : AObj}, (keepIn h0 t k).get b = some o -> t.get b = some o /\ ∃ o', h0.get b = some o'
 | 0, b, o, h => by rw [keepIn, bg] at h; cases h
 | k + 1, b, o, h => by
  rw [keepIn] at h
  split at h
  ·rename_i x y h1 h2
   rw [au] at h
   split at h
   ·rename_i e
    subst e
    cases h
    exact ⟨h2, x, h1⟩
   ·exact gY h
  ·exact gY h

def vS (g : Gh) (k : Nat) : Option (List Nat) := match g with
 | some (k', l) => match Nat.beq k k' with
  | true => some l
  | false => none
 | none => none
theorem kn {g : Gh} {k : Nat} {l : List Nat} (h : vS g k = some l) : g = some (k, l) := by
 unfold vS at h
 split at h
 ·split at h
  ·rename_i hb
   cases h
   rw [Nat.eq_of_beq_eq_true hb]
  ·cases h
 ·cases h

def tw (tm : T AV) (h : AHeap) (g : Gh) (args : List Operand) : Option (AV × AHeap × Gh) :=
 match cf tm args with
 | some [.opq k, .str s] => match vS g k with
  | some l => match Nat.ble (l.length + s.length) 1048576 with
   | true => some (.tuple [.int .i64 (s.length : Nat), .nili], h, some (k, l ++ s))
   | false => none
  | none => none
 | _ => none
def yi (h0 : T AObj) (tm : T AV) (h : AHeap) (g : Gh) (args : List Operand) : Option (AV × AHeap × Gh) :=
 match cf tm args with
 | some [.opq k, .int .u8 (.ofNat n)] => match vS g k with
  | some l => match Nat.ble (l.length + 1) 1048576 && Nat.blt n 256 with
   | true => some (.nili, ⟨h.next, keepIn h0 h.objs h.next⟩, some (k, l ++ [n]))
   | false => none
  | none => none
 | _ => none
def yj (h0 : T AObj) (tm : T AV) (h : AHeap) (g : Gh) (args : List Operand) : Option (AV × AHeap × Gh) :=
 match cf tm args with
 | some [.opq k] => match vS g k with
  | some (n :: l) => some (.str (n :: l), ⟨h.next, keepIn h0 h.objs h.next⟩, none)
  | _ => none
 | _ => none
def Ac (c : BCfg) (h0 : T AObj) (tm : T AV) (h : AHeap) (g : Gh) (o : Oper) : Option (Option (AV × AHeap × Gh)) :=
 match o.guard with
 | some _ => none
 | none => match o.op with
  | .alloc t => match Nat.beq t c.bt with
   | true => some (match g with
    | none => some (.opq h.next, ⟨h.next + 1, h.objs⟩, some (h.next, []))
    | some _ => none)
   | false => none
  | .call cl => match cl.callee with
   | .value (.func f) =>
    match Nat.beq f c.fs with
    | true => some (tw tm h g cl.args.toList)
    | false => match Nat.beq f c.fb with
     | true => some (yi h0 tm h g cl.args.toList)
     | false => match Nat.beq f c.fr with
      | true => some (yj h0 tm h g cl.args.toList)
      | false => none
   | _ => none
  | _ => none
def kh (c : BCfg) (tb : Tab) (call : Nat -> List AV -> AHeap -> Option (AV × AHeap)) (h0 : T AObj) (n : Nat) (ops : List Oper) : List Oper -> T AV -> AHeap -> Gh -> Option (T AV × AHeap × Gh)
 | [], tm, h, g => some (tm, h, g)
 | o :: rest, tm, h, g => match Ac c h0 tm h g o with
  | some (some (v, h', g')) => match bw tm n o.dst v with
   | some tm' => kh c tb call h0 n ops rest tm' h' g'
   | none => none
  | some none => none
  | none => match gJ tb call ops tm h o with
   | some (v, h', _) => match bw tm n o.dst v with
    | some tm' => kh c tb call h0 n ops rest tm' h' g
    | none => none
   | none => none
def oU (c : BCfg) (tb : Tab) (call : Nat -> List AV -> AHeap -> Option (AV × AHeap)) (h0 : T AObj) (n : Nat)
  (ih : Code -> T AV -> AHeap -> Gh -> Option (Ex × T AV × AHeap × Gh)) (cd : Code) (tm : T AV) (h : AHeap) (g : Gh) : Option (Ex × T AV × AHeap × Gh) :=
 match cd with
 | .skip => some (.normal, tm, h, g)
 | .label _ => some (.normal, tm, h, g)
 | .ret => some (.ret, tm, h, g)
 | .exit id => some (.exit id, tm, h, g)
 | .region _ ops draw => match draw with
  | true => match dG tb call n ops.toList tm h with
   | some (tm', h') => some (.normal, tm', h', g)
   | none => none
  | false => match kh c tb call h0 n ops.toList ops.toList tm h g with
   | some (tm', h', g') => some (.normal, tm', h', g')
   | none => none
 | .seq a b => match ih a tm h g with
  | some (.normal, tm', h', g') => ih b tm' h' g'
  | r => r
 | .cond x a b => match aE tm x with
  | some (.bool true) => ih a tm h g
  | some (.bool false) => ih b tm h g
  | _ => none
 | .block id b => match ih b tm h g with
  | some (.exit j, tm', h', g') => match Nat.beq j id with
   | true => some (.normal, tm', h', g')
   | false => some (.exit j, tm', h', g')
  | r => r
 | .loop b => match ih b tm h g with
  | some (.normal, tm', h', g') => ih (.loop b) tm' h' g'
  | r => r
 | _ => none
def ls (tb : Tab) (run : T AObj -> Nat -> Code -> T AV -> AHeap -> Gh -> Option (Ex × T AV × AHeap × Gh)) (f : Nat) (args : List AV) (h : AHeap) : Option (AV × AHeap) :=
 match tb.orc f args h with
 | some v => some (v, h)
 | none =>
 match tb.ft.get f with
 | some fn =>
  match fn.body, Nat.ble args.length fn.ntmps with
  | some c, true =>
   match run h.objs fn.ntmps c (fT 0 args .leaf) h none with
   | some (.exit _, _, _, _) => none
   | some (_, tm, h', _) => match cO tb tm h' fn.results.toList with
    | some l => some (ac l, h')
    | none => none
   | none => none
  | _, _ => none
 | none => none
def nn (c : BCfg) (tb : Tab) : Nat -> T AObj -> Nat -> Code -> T AV -> AHeap -> Gh -> Option (Ex × T AV × AHeap × Gh)
 | 0, _, _, _, _, _, _ => none
 | k + 1, h0, n, cd, tm, h, g => oU c tb (ls tb (nn c tb k)) h0 n (nn c tb k h0 n) cd tm h g
def uZ (c : BCfg) (tb : Tab) (k : Nat) (f : Nat) (args : List AV) (h : AHeap) : Option (AV × AHeap) := ls tb (nn c tb k) f args h
end

def ownB (w : World) (b : Nat) : Option Nat := match w.heap[b]? with
 | some (.cells c _ _) => (c.getD 1 undef).ownBlock
 | _ => none
structure Fine (b : Nat) (w w' : World) : Prop where
 os : w'.os = w.os
 tape : w'.tape = w.tape
 output : w'.output = w.output
 size : w.heap.size <= w'.heap.size
 block : ∀ k, k < w.heap.size -> k ≠ b -> ownB w b ≠ some k -> w'.heap[k]? = w.heap[k]?
 own : ∀ x, ownB w' b = some x -> ownB w b = some x \/ w.heap.size <= x

def s5 (P : Program) (f : Nat) : Prop := ∃ fn, P.funcs[f]? = some fn /\ fn.body.isSome = true /\ (fn.name == "runtime.NumGoroutine") = false
structure BOK (P : Program) (c : BCfg) : Prop where
 hz : ∀ w, (zeroValue c.bt).run P w = .ok (.agg #[.pointer none, .slice none 0 0]) w
 fs : s5 P c.fs
 fb : s5 P c.fb
 fr : s5 P c.fr
 ws : ∀ (B b : Nat) (bs : List Value) (s : ByteArray) (w : World), Lib.IsBuilder c.bt c.bu B b bs w -> bs.length + s.size <= 140737488355328 -> B <= w.heap.size ->
  Calls P c.fs #[.pointer (some ⟨b, 0, none⟩), .string s] w fun e w' => e = .returned (.tuple #[.int .i64 s.size, .nilIface]) /\ Lib.IsBuilder c.bt c.bu B b (bs ++ Lib.strCells s) w' /\ Fine b w w'
 wb : ∀ (B b : Nat) (bs : List Value) (n : Int) (w : World), Lib.IsBuilder c.bt c.bu B b bs w -> bs.length + 1 <= 140737488355328 -> B <= w.heap.size ->
  Calls P c.fb #[.pointer (some ⟨b, 0, none⟩), .int .u8 n] w fun e w' => e = .returned .nilIface /\ Lib.IsBuilder c.bt c.bu B b (bs ++ [.int .u8 n]) w' /\ Below B w w'
 tl : ∀ (B b : Nat) (l : List UInt8) (w : World), Lib.IsBuilder c.bt c.bu B b (Lib.byteCells l) w -> l ≠ [] ->
  Calls P c.fr #[.pointer (some ⟨b, 0, none⟩)] w fun e w' => e = .returned (.string ⟨l.toArray⟩) /\ Below B w w'

def Bld (c : BCfg) (M : Inj) (N : Nat -> Prop) (B : Nat) (g : Gh) (w : World) : Prop :=
 ∀ k l, g = some (k, l) -> ∃ (blk : Nat) (s : List UInt8), M k = some ⟨0, 0, 0, 0, .pointer (some ⟨blk, 0, none⟩)⟩ /\ l = s.map UInt8.toNat /\ Lib.IsBuilder c.bt c.bu B blk (Lib.byteCells s) w /\ N blk /\ ∀ x, ownB w blk = some x -> N x
def GRel (c : BCfg) (N0 : Nat -> Prop) (w0 : Base J) (B : Nat) (h0 : T AObj) (M : Inj) (h : AHeap) (g : Gh) (w : World) : Prop :=
 (∀ b o, h0.get b = some o -> ∃ i, M b = some i /\ i.blk < B) /\ (∀ k, N0 k -> k < B) /\ (∀ k, k < w0.n -> N0 k) /\
 ∃ (N : Nat -> Prop) (w1 : Base J), HRel M N w1 h w /\ (∀ k, N0 k -> N k) /\ Keeps N0 w0.w w1.w /\ w1.n = w0.n /\ (∀ b, w0.res b -> w1.res b) /\ Bld c M N B g w1.w /\ B <= w1.w.heap.size

section ghost
variable {P : Program} {tb : Tab} {c : BCfg} {N0 : Nat -> Prop} {w0 : Base J} {B : Nat} {h0 : T AObj} {M : Inj} {h : AHeap} {g : Gh} {w : World}

theorem GRel.enter {N : Nat -> Prop} (hh : HRel M N w0 h w) : GRel c N w0 w.heap.size h.objs M h none w := by
 refine ⟨fun b o ho => ?_, hh.big, hh.lim, N, Base.at_ hh.lim hh.below w0.res, hh.rebase w0.res (fun k hk => hk) hh.big (fun b o i _ _ hN => hN) hh.res, fun k hk => hk, hh.below, rfl, fun b hb => hb, fun k l e => (by cases e), Nat.le_refl _⟩
 have hl := hh.live b o ho
 have : ∃ i, M b = some i := by
  rcases hl with ⟨⟨i, hi, _⟩, _⟩ | ⟨i, _, _, _, hi, _⟩ | ⟨i, _, _, hi, _⟩ <;> exact ⟨i, hi⟩
 obtain ⟨i, hi⟩ := this
 exact ⟨i, hi, (hl.blk_lt hi).1⟩
theorem GRel.leave (hg : GRel c N0 w0 B h0 M h g w) : HRel M N0 w0 h w := by
 obtain ⟨_, h1, h2, N, w1, hh, h3, h4, h5, h6, _, _⟩ := hg
 exact ⟨hh.base, h2, h4.trans (hh.below.mono h3), fun k hk => hh.big k (h3 k hk), fun b o ho => by
   have := (hh.live b o ho).limit (N' := N0) (fun i hi hN hN2 => hN (h3 _ hN2))
   rwa [h5] at this,
  fun b b' o o' i i' p q r s e hN => hh.apart b b' o o' i i' p q r s e (((hh.live b o p).blk_lt r).2.resolve_right (fun hlt => hN (h2 _ (h5 ▸ hlt)))), hh.old, hh.fresh, fun b hb => hh.res b (h6 b hb)⟩
theorem GRel.step {N : Nat -> Prop} {w1 : Base J} {M' : Inj} {h' : AHeap} {w' : World} (h1 : ∀ b o, h0.get b = some o -> ∃ i, M b = some i /\ i.blk < B) (h2 : ∀ k, N0 k -> k < B) (h3 : ∀ k, k < w0.n -> N0 k)
  (h4 : ∀ k, N0 k -> N k) (h5 : Keeps N0 w0.w w1.w) (h6 : w1.n = w0.n) (h7 : ∀ b, w0.res b -> w1.res b) (h8 : Bld c M N B g w1.w) (h9 : B <= w1.w.heap.size) (hM : M.le M') (hh : HRel M' N w1 h' w') : GRel c N0 w0 B h0 M' h' g w' :=
 ⟨fun b o ho => let ⟨i, hi, hl⟩ := h1 b o ho; ⟨i, hM _ _ hi, hl⟩, h2, h3, N, w1, hh, h4, h5, h6, h7, fun k l e => let ⟨blk, s, q1, q2⟩ := h8 k l e; ⟨blk, s, hM _ _ q1, q2⟩, h9⟩

theorem ul {N : Nat -> Prop} {e n : Nat} {v : Value} {xs : List Value} {w w' : World} (h : w.ownsRow B e 1 v n xs) (hN : ∀ x, v.ownBlock = some x -> N x) (k : Keeps N w w') : w'.ownsRow B e 1 v n xs := by
 obtain ⟨h1, h2⟩ := h
 refine ⟨h1, ?_⟩
 rcases h2 with h2 | ⟨g, cap, cur, rfl, q1, q2, q3⟩
 ·exact .inl h2
 ·exact .inr ⟨g, cap, cur, rfl, q1, by rw [k.block g (hN g rfl)]; exact q2, q3⟩
theorem pU {N : Nat -> Prop} {blk : Nat} {p : Value} {bs : List Value} {w w' : World} (h : Lib.BuilderAt c.bt c.bu B blk p bs w) (hb : N blk) (hN : ∀ x, ownB w blk = some x -> N x) (k : Keeps N w w') : Lib.BuilderAt c.bt c.bu B blk p bs w' := by
 obtain ⟨h1, v, h2, h3, h4⟩ := h
 refine ⟨h1, v, by rw [k.block blk hb]; exact h2, ul h3 (fun x hx => hN x ?_) k, h4⟩
 unfold ownB
 rw [h2]
 exact hx
theorem wd {N : Nat -> Prop} {blk : Nat} {bs : List Value} {w w' : World} (h : Lib.IsBuilder c.bt c.bu B blk bs w) (hb : N blk) (hN : ∀ x, ownB w blk = some x -> N x) (k : Keeps N w w') : Lib.IsBuilder c.bt c.bu B blk bs w' :=
 h.imp (fun h => pU h hb hN k) (fun h => pU h hb hN k)
theorem ui {N : Nat -> Prop} {blk : Nat} {w w' : World} (hb : N blk) (k : Keeps N w w') : ownB w' blk = ownB w blk := by
 unfold ownB
 rw [k.block blk hb]
theorem Bld.keeps {N : Nat -> Prop} {w w' : World} (h : Bld c M N B g w) (k : Keeps N w w') : Bld c M N B g w' := by
 intro a l e
 obtain ⟨blk, s, q1, q2, q3, q4, q5⟩ := h a l e
 exact ⟨blk, s, q1, q2, wd q3 q4 q5 k, q4, by rw [ui q4 k]; exact q5⟩
theorem ph {blk : Nat} {bs : List Value} {w : World} (h : Lib.IsBuilder c.bt c.bu B blk bs w) : B <= blk /\ blk < w.heap.size /\ ∀ x, ownB w blk = some x -> B <= x /\ x < w.heap.size := by
 have key : ∀ p, Lib.BuilderAt c.bt c.bu B blk p bs w -> B <= blk /\ blk < w.heap.size /\ ∀ x, ownB w blk = some x -> B <= x /\ x < w.heap.size := by
  intro p h
  refine ⟨h.1, h.lt, fun x hx => ?_⟩
  obtain ⟨_, v, h2, h3, _⟩ := h
  unfold ownB at hx
  rw [h2] at hx
  rcases h3.2 with ⟨rfl, _⟩ | ⟨g, cap, cur, rfl, q1, q2, _⟩
  ·cases hx
  ·cases hx
   exact ⟨q1, (Array.getElem?_eq_some_iff.1 q2).1⟩
 exact h.elim (key _) (key _)

theorem HRel.newBase {N N' : Nat -> Prop} {w1 : Base J} {M' : Inj} {h' : AHeap} {w' : World} (hh : HRel M N w1 h w) (hM : M.le M') (hk : Keeps N0 w w') (hlim : ∀ k, k < w1.n -> N0 k) (h0N : ∀ k, N0 k -> N k) (hN0 : ∀ k, N0 k -> N' k) (hbig : ∀ k, N' k -> k < w'.heap.size)
  (hsub : ∀ b o, h'.objs.get b = some o -> h.objs.get b = some o) (hnext : h.next <= h'.next) (hfresh : ∀ b, h'.next <= b -> M' b = none) (hsame : ∀ b, b < h.next -> M' b = M b)
  (hblk : ∀ b o i, h'.objs.get b = some o -> M b = some i -> w'.heap[i.blk]? = w.heap[i.blk]? /\ (¬ N i.blk -> ¬ N' i.blk)) :
  ∃ w2 : Base J, w2.w = w' /\ w2.n = w1.n /\ (∀ b, w1.res b -> w2.res b) /\ HRel M' N' w2 h' w' := by
 have hb : Below w1.n w1.w w' := (hh.below.mono h0N |>.trans hk).below hlim
 refine ⟨⟨w', w1.n, fun w3 h3 => w1.ok w3 (hb.trans h3), w1.res⟩, rfl, rfl, fun b h => h, ⟨Inj.le_trans hh.base hM, fun k hk => hN0 k (hlim k hk), Keeps.refl _ _, hbig, ?_, ?_, ?_, hfresh, ?_⟩⟩
 ·intro b o hb
  have hl := hh.live b o (hsub b o hb)
  have hm := hl.mono hM (w' := w') (fun i hi => (hblk b o i hb hi).1)
  have hlt := hh.old b o (hsub b o hb)
  exact hm.limit (fun i hi hN => (hblk b o i hb (by rw [<- hsame b hlt]; exact hi)).2 hN)
 ·intro b b' o o' i i' p q r s e hN
  have p' := hsub b o p
  have q' := hsub b' o' q
  rw [hsame b (hh.old b o p')] at r
  rw [hsame b' (hh.old b' o' q')] at s
  refine hh.apart b b' o o' i i' p' q' r s e (((hh.live b o p').blk_lt r).2.resolve_right (fun hlt => hN (hN0 _ (hlim _ hlt))))
 ·intro b o hb
  have := hh.old b o (hsub b o hb)
  omega
 ·intro b hb
  obtain ⟨r1, r2⟩ := hh.res b hb
  exact ⟨by rw [hsame b r2]; exact r1, Nat.lt_of_lt_of_le r2 hnext⟩

theorem vT (H : BOK P c) (hg : GRel c N0 w0 B h0 M h none w) : ∃ u M' w', (Instr.alloc c.bt true (.tuple #[])).run P w = .ok u w' /\ M.le M' /\ VRel M' (.opq h.next) u /\ GRel c N0 w0 B h0 M' ⟨h.next + 1, h.objs⟩ (some (h.next, [])) w' := by
 obtain ⟨h1, h2, h3, N, w1, hh, h4, h5, h6, h7, _, h9⟩ := hg
 have hn := hh.fresh h.next (Nat.le_refl _)
 have hsz : w1.w.heap.size <= w.heap.size := hh.below.size
 let u : Value := .pointer (some ⟨w.heap.size, 0, none⟩)
 let w' := w.alloc (.cells #[.pointer none, .slice none 0 0] c.bt (0, 0))
 have hgr : Grow w w' (.cells #[.pointer none, .slice none 0 0] c.bt (0, 0)) := Grow.alloc w _
 let M' := M.upd h.next ⟨0, 0, 0, 0, u⟩
 have hle : M.le M' := fv hn _
 have hsame : ∀ b, b < h.next -> M' b = M b := fun b hb => by show (if b = h.next then _ else _) = _; rw [if_neg zy]
 have hself : M' h.next = some ⟨0, 0, 0, 0, u⟩ := by show (if h.next = h.next then _ else _) = _; rw [if_pos rfl]
 have hk : Keeps N0 w w' := (hgr.below (Keeps.refl N0 w) (fun k hk => by have := h2 k hk; omega))
 obtain ⟨w2, e1, e2, e3, hh2⟩ := hh.newBase (N0 := N0) (N' := fun x => N x \/ x = w.heap.size) (h' := ⟨h.next + 1, h.objs⟩) hle hk (fun k hk => h3 k (h6 ▸ hk)) h4 (fun k hk => .inl (h4 k hk))
  (fun k hk => by rw [hgr.size]; rcases hk with hk | rfl; have := hh.big k hk; omega; omega) (fun b o hb => hb) (Nat.le_succ _) (fun b hb => by show (if b = h.next then _ else _) = _; simp only at hb; rw [if_neg zy]; exact hh.fresh b zy) hsame
  (fun b o i hb hi => by
   have := ((hh.live b o hb).blk_lt hi).1
   exact ⟨hgr.old _ this, fun hN hN' => hN'.elim hN (fun e => by omega)⟩)
 refine ⟨u, M', w', ?_, hle, .opq h.next ⟨0, 0, 0, 0, u⟩ u hself rfl rfl, fun b o ho => let ⟨i, hi, hl⟩ := h1 b o ho; ⟨i, hle _ _ hi, hl⟩, h2, h3, _, w2, hh2, fun k hk => .inl (h4 k hk), by rw [e1]; exact (h5.trans (hh.below.mono h4)).trans hk, by rw [e2, h6], fun b hb => e3 b (h7 b hb), ?_, by rw [e1, hgr.size]; omega⟩
 ·simp only [Instr.alloc, Sem.run_bind, H.hz, Result.andThen_ok]
  simp [newVar, newRow, Value.cells, u, w']
 ·intro k l e
  cases e
  refine ⟨w.heap.size, [], hself, rfl, .inl ⟨by omega, .slice none 0 0, by rw [e1]; exact hgr.new, World.ownsRow_nil _ _ _ _, by simp [Value.ownBlock]⟩, .inr rfl, fun x hx => ?_⟩
  rw [e1] at hx
  unfold ownB at hx
  rw [hgr.new] at hx
  cases hx
end ghost
end Go.Proofs.YtndhhgbpcmfeiaaGreatDoor.Ev
