/- An evaluator of closed calls, part 4: numbers, texts, and what is alike. -/
import Derived.Test.YtndhhgbpcmfeiaaGreatDoorPEvC
import Derived.IntWalk
namespace Go.Proofs.YtndhhgbpcmfeiaaGreatDoor.Ev
open Go.RowKit
variable {J : Ctx}

theorem cn (k : IntKind) (n : Int) : i8 k n = k.wrap n := by
 unfold i8
 split
 ·rename_i h
  cases k <;> cases n <;> simp only [wz, Nat.ble_eq, Bool.false_eq_true] at h
  case i32.ofNat m => exact (IntWalk.i32_in _ (by simp only [Int.ofNat_eq_natCast]; omega)).symm
  case i32.negSucc m => exact (IntWalk.i32_in _ (by simp only [Int.negSucc_eq]; omega)).symm
  case i64.ofNat m => exact (IntWalk.i64_in _ (by simp only [Int.ofNat_eq_natCast]; omega)).symm
  case i64.negSucc m => exact (IntWalk.i64_in _ (by simp only [Int.negSucc_eq]; omega)).symm
  case u8.ofNat m => exact (IntWalk.u8_in _ (by simp only [Int.ofNat_eq_natCast]; omega)).symm
  case u32.ofNat m => exact (IntWalk.u32_in _ (by simp only [Int.ofNat_eq_natCast]; omega)).symm
  case u64.ofNat m => exact (IntWalk.u64_in _ (by simp only [Int.ofNat_eq_natCast]; omega)).symm
 ·rfl
theorem cL (a b : Int) : pH a b = decide (a < b) := by
 rw [Bool.eq_iff_iff]
 cases a <;> cases b <;> simp [pH, Nat.blt_eq, Int.negSucc_eq] <;> omega
theorem gt (a b : Int) : p9 a b = (a == b) := by
 rw [Bool.eq_iff_iff]
 cases a <;> cases b <;> simp [p9, Int.negSucc_eq] <;> omega
theorem mR (a b : Int) : (!(decide (b < a))) = decide (a <= b) := by
 rw [Bool.eq_iff_iff]; simp

section bins
variable {P : Program}
theorem fY (op : BinOp) (t : TypeId) (x y : Operand) (a b : Value) (w : World)
  (h : ∀ c d, ¬ (a = .agg c /\ b = .agg d)) (h' : a ≠ .nilIface) : (eqGuard op t x y a b).run P w = .ok () w := by
 unfold eqGuard
 cases op <;> simp <;> split <;> first | rfl | (exact absurd rfl h') | (exact absurd ⟨rfl, rfl⟩ (h _ _)) | simp_all

theorem ui (M : Inj) {op : BinOp} {k : IntKind} {a b : Int} {v : AV} (t : TypeId) (h : fh op k a b = some v) (w : World) :
  ∃ u, (binOp op t (.int k a) (.int k b)).run P w = .ok u w /\ VRel M v u := by
 unfold fh at h
 cases op <;> simp only at h
 case add => simp only [Option.some.injEq] at h; subst h; exact ⟨.int k (k.wrap (a + b)), by simp [binOp, Op.intArith], by rw [cn]; exact .int _ _⟩
 case sub => simp only [Option.some.injEq] at h; subst h; exact ⟨.int k (k.wrap (a - b)), by simp [binOp, Op.intArith], by rw [cn]; exact .int _ _⟩
 case mul => simp only [Option.some.injEq] at h; subst h; exact ⟨.int k (k.wrap (a * b)), by simp [binOp, Op.intArith], by rw [cn]; exact .int _ _⟩
 case quo =>
  split at h
  ·cases h
  ·rename_i he
   rw [gt] at he
   have hb : b ≠ 0 := by simpa using he
   simp only [Option.some.injEq] at h; subst h
   exact ⟨.int k (k.wrap (a.tdiv b)), by simp [binOp, Op.intDiv, hb], by rw [cn]; exact .int _ _⟩
 case rem =>
  split at h
  ·cases h
  ·rename_i he
   rw [gt] at he
   have hb : b ≠ 0 := by simpa using he
   simp only [Option.some.injEq] at h; subst h
   exact ⟨.int k (a.tmod b), by simp [binOp, Op.intDiv, hb], .int _ _⟩
 case and => simp only [Option.some.injEq] at h; subst h; exact ⟨.int k (k.wrap (BitVec.ofInt k.bits a &&& BitVec.ofInt k.bits b).toNat), by simp [binOp, Op.intBits], by unfold jv; rw [cn]; exact .int _ _⟩
 case or => simp only [Option.some.injEq] at h; subst h; exact ⟨.int k (k.wrap (BitVec.ofInt k.bits a ||| BitVec.ofInt k.bits b).toNat), by simp [binOp, Op.intBits], by unfold jv; rw [cn]; exact .int _ _⟩
 case xor => simp only [Option.some.injEq] at h; subst h; exact ⟨.int k (k.wrap (BitVec.ofInt k.bits a ^^^ BitVec.ofInt k.bits b).toNat), by simp [binOp, Op.intBits], by unfold jv; rw [cn]; exact .int _ _⟩
 case andNot => simp only [Option.some.injEq] at h; subst h; exact ⟨.int k (k.wrap (BitVec.ofInt k.bits a &&& ~~~(BitVec.ofInt k.bits b)).toNat), by simp [binOp, Op.intBits], by unfold jv; rw [cn]; exact .int _ _⟩
 case eql => simp only [Option.some.injEq] at h; subst h; exact ⟨.bool (a == b), by simp [binOp, Op.intCmp], by rw [gt]; exact .bool _⟩
 case neq => simp only [Option.some.injEq] at h; subst h; exact ⟨.bool (a != b), by simp [binOp, Op.intCmp], by rw [gt]; exact .bool _⟩
 case lss => simp only [Option.some.injEq] at h; subst h; exact ⟨.bool (a < b), by simp [binOp, Op.intCmp], by rw [cL]; exact .bool _⟩
 case leq => simp only [Option.some.injEq] at h; subst h; exact ⟨.bool (a <= b), by simp [binOp, Op.intCmp], by rw [cL, mR]; exact .bool _⟩
 case gtr => simp only [Option.some.injEq] at h; subst h; exact ⟨.bool (a > b), by simp [binOp, Op.intCmp], by rw [cL]; exact .bool _⟩
 case geq => simp only [Option.some.injEq] at h; subst h; exact ⟨.bool (a ≥ b), by simp [binOp, Op.intCmp], by rw [cL, mR]; exact .bool _⟩
 all_goals cases h
theorem qU (M : Inj) {op : BinOp} (hop : op = .shl \/ op = .shr) {k j : IntKind} {a b : Int} {v : AV} (t : TypeId) (h : py op k a b = some v) (w : World) :
  ∃ u, (binOp op t (.int k a) (.int j b)).run P w = .ok u w /\ VRel M v u := by
 unfold py at h
 split at h
 ·cases h
 ·rename_i hl
  rw [cL] at hl
  have hb : ¬ b < 0 := by simpa using hl
  rcases hop with rfl | rfl <;> simp only [Option.some.injEq] at h <;> subst h
  ·exact ⟨.int k (k.wrap (a * 2 ^ (min b.toNat k.bits))), by simp [binOp, Op.shift, hb], by rw [cn]; exact .int _ _⟩
  ·exact ⟨.int k (a.fdiv (2 ^ (min b.toNat k.bits))), by simp [binOp, Op.shift, hb], .int _ _⟩

theorem fF : ∀ l m : List Nat, bN l m = (l == m)
 | [], [] => by simp [bN]
 | a :: l, b :: m => by
  cases hb : Nat.beq a b
  ·have : a ≠ b := by intro e; subst e; simp at hb
   simp [bN, hb, this]
  ·have : a = b := Nat.eq_of_beq_eq_true hb
   subst this
   simp [bN, hb, fF l m]
 | [], _ :: _ => by simp [bN]
 | _ :: _, [] => by simp [bN]
theorem pg (l m : List UInt8) : (l.map UInt8.toNat == m.map UInt8.toNat) = (l == m) := by
 rw [Bool.eq_iff_iff]
 simp only [beq_iff_eq]
 constructor
 ·intro h
  exact (List.map_inj_right (fun a b h => UInt8.toNat_inj.1 h)).1 h
 ·rintro rfl; rfl
theorem lj : ∀ l m : List UInt8, dN (l.map UInt8.toNat) (m.map UInt8.toNat) = Op.bytesLess l m
 | l, [] => by cases l <;> simp [dN, Op.bytesLess]
 | [], _ :: _ => by simp [dN, Op.bytesLess]
 | a :: l, b :: m => by
  simp only [List.map_cons, dN, Op.bytesLess]
  cases hb : Nat.beq a.toNat b.toNat
  ·have hne : a ≠ b := by rintro rfl; simp at hb
   rw [Bool.eq_iff_iff]
   simp [hne, Nat.blt_eq, UInt8.lt_iff_toNat_lt]
  ·have : a = b := UInt8.toNat_inj.1 (Nat.eq_of_beq_eq_true hb)
   subst this
   simp [lj l m]
theorem di {M : Inj} {l : List Nat} {v : Value} (h : VRel M (.str l) v) : ∃ s, v = .string s /\ s.toList.map UInt8.toNat = l /\ s.size = l.length := by
 cases h with
 | str s l h =>
  refine ⟨s, rfl, by rw [ByteArray.toList_eq]; exact h, ?_⟩
  rw [<- h]; simp
theorem Cf {M : Inj} {l : List Nat} {s : ByteArray} (h : s.toList.map UInt8.toNat = l) : VRel M (.str l) (.string s) := .str s l (by rw [<- ByteArray.toList_eq]; exact h)
theorem uL {M : Inj} {op : BinOp} {x y : List Nat} {s r : ByteArray} {v : AV} (hs : s.toList.map UInt8.toNat = x) (hr : r.toList.map UInt8.toNat = y)
  (h : m8 op x y = some v) (t : TypeId) (w : World) : ∃ u, (binOp op t (.string s) (.string r)).run P w = .ok u w /\ VRel M v u := by
 have hx : s.size = x.length := by rw [<- hs, ByteArray.toList_eq]; simp
 have hy : r.size = y.length := by rw [<- hr, ByteArray.toList_eq]; simp
 have heq : bN x y = (s.toList == r.toList) := by rw [fF, <- hs, <- hr, pg]
 have hlt : dN x y = Op.bytesLess s.toList r.toList := by rw [<- hs, <- hr, lj]
 unfold m8 at h
 cases op <;> simp only at h
 case add =>
  split at h
  ·rename_i hb
   rw [Nat.ble_eq] at hb
   simp only [Option.some.injEq] at h
   subst h
   refine ⟨.string (s ++ r), ?_, ?_⟩
   ·have : ¬ (((s.size + r.size : Nat) : Int) > IntKind.i64.max) := by
     rw [hx, hy]; simp only [IntKind.max, IntKind.signed, IntKind.bits, if_true]; omega
    simp only [binOp, Op.stringOp]
    rw [if_neg this]; rfl
   ·refine .str _ _ ?_
    have : (s ++ r).data.toList = s.data.toList ++ r.data.toList := by simp
    rw [this, List.map_append, <- ByteArray.toList_eq, <- ByteArray.toList_eq, hs, hr]
  ·cases h
 all_goals first
  | (cases h; done)
  | (simp only [Option.some.injEq] at h; subst h; rw [heq]; exact ⟨_, by simp only [binOp, Op.stringOp]; rfl, .bool _⟩)
  | (simp only [Option.some.injEq] at h; subst h; rw [hlt]; exact ⟨_, by simp only [binOp, Op.stringOp]; rfl, .bool _⟩)
  | (simp only [Option.some.injEq] at h; subst h; rw [heq, hlt]; exact ⟨_, by simp only [binOp, Op.stringOp]; rfl, .bool _⟩)
end bins

section alike
variable {P : Program} {tb : Tab} (H : TabOK P tb J)
include H

theorem vR {M : Inj} {t : Nat} {D : TypeDesc} (hd : tb.und t = some D) {x y : AV} {a b : Value} (hx : VRel M x a) (hy : VRel M y b) {r : Bool}
  (h : qb D x y = some r) (d : Nat) (w : World) : (Op.equalIn (d + 1) t a b).run P w = .ok r w := by
 have hu := iv H hd
 unfold qb at h
 split at h <;> first | (cases h; done) | skip
 all_goals simp only [Option.some.injEq] at h; subst h
 all_goals cases hx <;> cases hy <;> simp [Op.equalIn, run_underlying hu]

theorem kZ {M : Inj} {d : Nat} {rec_ : Nat -> AV -> AV -> Option Bool}
  (ih : ∀ t x y a b r w, VRel M x a -> VRel M y b -> rec_ t x y = some r -> (Op.equalIn d t a b).run P w = .ok r w)
  {xs ys : List AV} {as bs : Array Value} (hx : LRel M xs as.toList) (hy : LRel M ys bs.toList) :
  ∀ {fs : List Field} {r : Bool} (w : World), gH tb rec_ xs ys fs = some r -> (Op.eqFields d as bs fs).run P w = .ok r w
 | [], r, w, h => by simp only [gH, Option.some.injEq] at h; subst h; simp [Op.eqFields]
 | f :: fs, r, w, h => by
  unfold gH at h
  split at h
  ·cases h
  ·rename_i hn
   have hn : f.name ≠ "_" := by simpa using hn
   split at h
   ·rename_i a b ha hb
    obtain ⟨u, hu, ru⟩ := jh H hx ha w
    obtain ⟨v, hv, rv⟩ := jh H hy hb w
    simp only [Op.eqFields, hn, ne_eq, not_false_eq_true, if_true, Sem.run_bind, hu, hv, Result.andThen_ok]
    split at h
    ·rename_i he
     rw [ih _ _ _ _ _ _ _ ru rv he]
     simp only [Result.andThen_ok, Bool.not_true, Bool.false_eq_true, if_false]
     exact kZ ih hx hy w h
    ·rename_i he
     simp only [Option.some.injEq] at h
     subst h
     rw [ih _ _ _ _ _ _ _ ru rv he]
     simp
    ·cases h
   ·cases h

theorem mc {M : Inj} {d e m : Nat} {rec_ : Nat -> AV -> AV -> Option Bool}
  (ih : ∀ t x y a b r w, VRel M x a -> VRel M y b -> rec_ t x y = some r -> (Op.equalIn d t a b).run P w = .ok r w)
  {xs ys : List AV} {as bs : Array Value} (hx : LRel M xs as.toList) (hy : LRel M ys bs.toList) 
  : ∀ {k i : Nat} {r : Bool} (w : World), iJ tb rec_ e m xs ys i k = some r ->
   ((forIn (List.range' i k) ((none, ()) : Option Bool × PUnit) fun i _ => do
    let __do_lift <- part e as (i * m)
    let __do_lift_1 <- part e bs (i * m)
    let __do_lift <- Op.equalIn d e __do_lift __do_lift_1
    if (!__do_lift) = true then pure (ForInStep.done (some false, ())) else pure (ForInStep.yield (none, ()))) : Sem (Option Bool × PUnit)).run P w =
    .ok (if r then (none, ()) else (some false, ())) w
 | 0, i, r, w, h => by simp only [iJ, Option.some.injEq] at h; subst h; simp
 | k + 1, i, r, w, h => by
  unfold iJ at h
  split at h
  ·rename_i a b ha hb
   obtain ⟨u, hu, ru⟩ := jh H hx ha w
   obtain ⟨v, hv, rv⟩ := jh H hy hb w
   simp only [List.range'_succ, List.forIn_cons, Sem.run_bind, hu, hv, Result.andThen_ok]
   split at h
   ·rename_i he
    rw [ih _ _ _ _ _ _ _ ru rv he]
    simp only [Result.andThen_ok, Bool.not_true, Bool.false_eq_true, if_false, Sem.run_pure]
    have := mc ih hx hy w h
    simpa using this
   ·rename_i he
    simp only [Option.some.injEq] at h
    subst h
    rw [ih _ _ _ _ _ _ _ ru rv he]
    simp
   ·cases h
  ·cases h

theorem jg {M : Inj} : ∀ {d D t : Nat} {x y : AV} {a b : Value} {r : Bool} (w : World), d <= D -> VRel M x a -> VRel M y b -> fc tb d t x y = some r ->
  (Op.equalIn D t a b).run P w = .ok r w
 | 0, D, t, x, y, a, b, r, w, hd, hx, hy, h => by simp [fc] at h
 | d + 1, 0, t, x, y, a, b, r, w, hd, hx, hy, h => by omega
 | d + 1, D + 1, t, x, y, a, b, r, w, hd, hx, hy, h => by
  unfold fc at h
  split at h
  ·rename_i K hK
   have hu := iv H hK
   split at h
   ·rename_i k' k a' j b'
    split at h
    ·rename_i hkj
     subst hkj
     simp only [Option.some.injEq] at h
     subst h
     cases hx; cases hy
     rw [gt]
     exact run_equalIn_int w D t _ _ _ _ hu
    ·cases h
   ·simp only [Option.some.injEq] at h
    subst h
    obtain ⟨s, rfl, hs, _⟩ := di hx
    obtain ⟨s', rfl, hs', _⟩ := di hy
    rw [fF, <- hs, <- hs', pg]
    exact run_equalIn_string w D t _ _ hu
   ·rename_i fs xs ys
    split at h
    ·rename_i het
     obtain ⟨_, hst⟩ := H.et _ het
     cases hx with
     | agg _ cs hs hx =>
      cases hy with
      | agg _ ds hs' hy =>
       have hf : P.fieldsOf t = fs := by simp [Program.fieldsOf, hu]
       rw [run_equalIn_struct w D t cs ds (by rw [hf]; exact hu) hst, hf]
       exact kZ H (fun t x y a b r w hx hy h => jg w zy hx hy h) ⟨by simpa using hs, fun i v u p q => hx i v u p (by simpa using q)⟩
        ⟨by simpa using hs', fun i v u p q => hy i v u p (by simpa using q)⟩ w h
    ·cases h
   ·rename_i n e xs ys
    split at h
    ·rename_i m hm
     cases hx with
     | agg _ cs hs hx =>
      cases hy with
      | agg _ ds hs' hy =>
       have := mc (P := P) H (d := D) (e := e) (m := m) (fun t x y a b r w hx hy h => jg w zy hx hy h) (as := cs) (bs := ds) ⟨by simpa using hs, fun i v u p q => hx i v u p (by simpa using q)⟩
        ⟨by simpa using hs', fun i v u p q => hy i v u p (by simpa using q)⟩ w h
       simp only [Op.equalIn, Sem.run_bind, run_underlying hu, Result.andThen_ok, bM H hm, Std.Legacy.Range.forIn_eq_forIn_range', Std.Legacy.Range.size]
       simp only [Nat.sub_zero, Nat.add_sub_cancel, Nat.div_one]
       rw [this]
       cases r <;> simp
    ·cases h
   ·exact vR H hK hx hy h D w
  ·cases h

theorem qa {M : Inj} {t : Nat} {x y : AV} {a b : Value} {r : Bool} (hx : VRel M x a) (hy : VRel M y b) (h : jy tb t x y = some r) (op : BinOp) (p q : Operand) (w : World) :
  (Op.equal t a b).run P w = .ok r w /\ (eqGuard op t p q a b).run P w = .ok () w := by
 unfold jy at h
 split at h
 ·split at h
  ·rename_i het
   refine ⟨jg H w (by decide) hx hy h, ?_⟩
   cases hx; cases hy
   exact run_eqGuard_agg w op t p q _ _ (H.et _ het).1
  ·cases h
 ·cases h
 ·cases h
 ·cases h
 ·cases h
 ·rename_i n1 n2 n3 n4 n5
  refine ⟨jg H w (by decide) hx hy h, fY op t p q a b w ?_ ?_⟩
  ·rintro c d ⟨rfl, rfl⟩
   cases hx with
   | agg l cs hs hx =>
    cases hy with
    | agg l cs hs hy => exact n5 _ _ rfl rfl
    | opq b i u hi hu hv => exact n4 _ rfl
   | opq b i u hi hu hv => exact n2 _ rfl
  ·rintro rfl
   cases hx with
   | nili => exact n1 rfl
   | opq b i u hi hu hv => exact n2 _ rfl

theorem vT {M : Inj} (hJ : J.le M) {op : BinOp} {t : Nat} {x y : AV} {a b : Value} {v : AV} (hx : VRel M x a) (hy : VRel M y b) (h : bO tb op t x y = some v) (p q : Operand) (w : World) :
  ∃ u, (do eqGuard op t p q a b; binOp op t a b : Sem Value).run P w = .ok u w /\ VRel M v u := by
 unfold bO at h
 split at h
 ·rename_i k m j n
  cases hx; cases hy
  have hg := fY (P := P) op t p q (.int k m) (.int j n) w (fun c d h => by cases h.1) (by simp)
  simp only [Sem.run_bind, hg, Result.andThen_ok]
  split at h
  ·exact qU M (.inl rfl) t h w
  ·exact qU M (.inr rfl) t h w
  ·split at h
   ·rename_i hkj
    subst hkj
    exact ui M t h w
   ·cases h
 ·obtain ⟨s, rfl, hs, _⟩ := di hx
  obtain ⟨s', rfl, hs', _⟩ := di hy
  have hg := fY (P := P) op t p q (.string s) (.string s') w (fun c d h => by cases h.1) (by simp)
  simp only [Sem.run_bind, hg, Result.andThen_ok]
  exact uL hs hs' h t w
 ·rename_i c k n
  obtain ⟨⟨j, m, rfl⟩, hb⟩ := H.ob _ _ _ _ _ h M a t w hJ hx
  cases hy
  have hg := fY (P := P) op t p q (.int j m) (.int k n) w (fun c d h => by cases h.1) (by simp)
  simp only [Sem.run_bind, hg, Result.andThen_ok]
  exact hb
 ·rename_i n1 n2 n3
  split at h
  ·split at h
   ·rename_i r hr
    simp only [Option.some.injEq] at h
    subst h
    obtain ⟨h1, h2⟩ := qa H hx hy hr .eql p q w
    refine ⟨.bool r, ?_, .bool r⟩
    simp only [Sem.run_bind, h2, Result.andThen_ok]
    have : (binOp .eql t a b) = (do pure (.bool (<- Op.equal t a b))) := by
     cases hx <;> cases hy <;> first | rfl | exact (n1 _ _ _ _ rfl rfl).elim | exact (n2 _ _ rfl rfl).elim | (simp [jy] at hr; done)
    rw [this]
    simp [h1]
   ·cases h
  ·split at h
   ·rename_i r hr
    simp only [Option.some.injEq] at h
    subst h
    obtain ⟨h1, h2⟩ := qa H hx hy hr .neq p q w
    refine ⟨.bool (!r), ?_, .bool _⟩
    simp only [Sem.run_bind, h2, Result.andThen_ok]
    have : (binOp .neq t a b) = (do pure (.bool (!(<- Op.equal t a b)))) := by
     cases hx <;> cases hy <;> first | rfl | exact (n1 _ _ _ _ rfl rfl).elim | exact (n2 _ _ rfl rfl).elim | (simp [jy] at hr; done)
    rw [this]
    simp [h1]
   ·cases h
  ·cases h
end alike
end Go.Proofs.YtndhhgbpcmfeiaaGreatDoor.Ev
