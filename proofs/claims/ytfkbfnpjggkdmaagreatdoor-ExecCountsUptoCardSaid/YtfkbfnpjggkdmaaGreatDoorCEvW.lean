/- An evaluator of closed calls, part 8b: maps. -/
import Derived.Test.YtfkbfnpjggkdmaaGreatDoorCEvH
import Derived.MapKept
namespace Go.Proofs.YtfkbfnpjggkdmaaGreatDoor.Ev
open Go.RowKit
variable {J : Ctx}

theorem tf (a b : AV) (h : d6 a b = true) : a = b := by
 unfold d6 at h
 split at h <;> simp_all
theorem lu {f : AV -> AV -> Bool} (hf : ∀ a b, f a b = true -> a = b) : ∀ (l m : List AV), dO f l m = true -> l = m
 | [], [], _ => rfl
 | [], _ :: _, h => by simp [dO] at h
 | _ :: _, [], h => by simp [dO] at h
 | a :: l, b :: m, h => by
  simp only [dO, Bool.and_eq_true] at h
  rw [hf a b h.1, lu hf l m h.2]
theorem td (a b : AV) (h : dF a b = true) : a = b := by
 unfold dF at h
 split at h
 ·simp only [Bool.and_eq_true, beq_iff_eq] at h
  rw [h.1, lu tf _ _ h.2]
 ·exact tf _ _ h
theorem te (a b : AV) (h : dG a b = true) : a = b := by
 unfold dG at h
 split at h
 ·rw [lu td _ _ h]
 ·exact td _ _ h
theorem wA (a b : AV) (h : AV.beq a b = true) : a = b := by
 unfold AV.beq at h
 split at h
 ·rw [lu te _ _ h]
 ·exact te _ _ h

section maps
variable {P : Program} {tb : Tab} (H : TabOK P tb J) {M : Inj} {N : Nat -> Prop} {w0 : Base J} {tm : T AV} {h : AHeap} {a : Act} {w : World}

theorem iy {d : Option TypeDesc} {k : AV} (hk : fi tb d k = true) :
  (∃ kd j n, d = some (.int kd) /\ k = .int j n) \/ (d = some .string /\ ∃ l, k = .str l) \/
  ∃ n e l, d = some (.array n e) /\ k = .agg l /\ l.length = n /\ tb.size e = some 1 /\ ((tb.und e = some .string /\ ∀ x ∈ l, ∃ s, x = .str s) \/ ∃ kd, tb.und e = some (.int kd) /\ ∀ x ∈ l, ∃ j n, x = .int j n) := by
 unfold fi at hk
 split at hk
 ·exact .inl ⟨_, _, _, rfl, rfl⟩
 ·exact .inr (.inl ⟨rfl, _, rfl⟩)
 ·rename_i n e l
  simp only [Bool.and_eq_true] at hk
  obtain ⟨⟨h1, h2⟩, h3⟩ := hk
  refine .inr (.inr ⟨n, e, l, rfl, rfl, Nat.eq_of_beq_eq_true h1, ?_, ?_⟩)
  ·split at h3
   ·rename_i m hm
    rw [Nat.eq_of_beq_eq_true h3] at hm
    exact hm
   ·cases h3
  ·split at h2
   ·rename_i hu
    refine .inl ⟨hu, fun x hx => ?_⟩
    have := (List.all_eq_true.1 h2) x hx
    split at this
    ·exact ⟨_, rfl⟩
    ·cases this
   ·rename_i kd hu
    refine .inr ⟨kd, hu, fun x hx => ?_⟩
    have := (List.all_eq_true.1 h2) x hx
    split at this
    ·exact ⟨_, _, rfl⟩
    ·cases this
   ·cases h2
 ·cases hk
theorem mG {x : AV} (hx : (∃ s, x = .str s) \/ ∃ j n, x = .int j n) {u v : Value} (hu : VRel M x u) (hv : VRel M x v) : u = v := by
 rcases hx with ⟨s, rfl⟩ | ⟨j, n, rfl⟩
 ·obtain ⟨r, rfl, hr, _⟩ := dW hu
  obtain ⟨q, rfl, hq, _⟩ := dW hv
  rw [ByteArray.toList_eq] at hr hq
  have : r.data.toList = q.data.toList := by
   have h := hr.trans hq.symm
   exact List.map_inj_right (fun a b => UInt8.toNat_inj.1) |>.1 h
  congr 1
  obtain ⟨r⟩ := r
  obtain ⟨q⟩ := q
  congr 1
  exact Array.toList_inj.1 this
 ·rw [dU hu, dU hv]
theorem mF {x : AV} (hx : (∃ s, x = .str s) \/ ∃ j n, x = .int j n) {u : Value} (hu : VRel M x u) (n : Nat) : Instr.sameBits n u u = true := by
 rcases hx with ⟨s, rfl⟩ | ⟨j, m, rfl⟩
 ·obtain ⟨r, rfl, hr, _⟩ := dW hu
  cases n <;> simp [Instr.sameBits, MapKept.bytes_beq]
 ·rw [dU hu]
  cases n <;> simp [Instr.sameBits]
theorem wZ {n e : Nat} {l : List AV} (h : (tb.und e = some .string /\ ∀ x ∈ l, ∃ s, x = .str s) \/ ∃ kd, tb.und e = some (.int kd) /\ ∀ x ∈ l, ∃ j n, x = .int j n) : ∀ x ∈ l, (∃ s, x = .str s) \/ ∃ j n, x = .int j n := by
 intro x hx
 rcases h with ⟨_, h⟩ | ⟨_, _, h⟩
 ·exact .inl (h x hx)
 ·exact .inr (h x hx)
theorem tV {d : Option TypeDesc} {k : AV} (hk : fi tb d k = true) {u v : Value} (hu : VRel M k u) (hv : VRel M k v) : u = v := by
 rcases iy hk with ⟨kd, j, n, rfl, rfl⟩ | ⟨rfl, l, rfl⟩ | ⟨n, e, l, rfl, rfl, h1, h2, h3⟩
 ·exact mG (.inr ⟨_, _, rfl⟩) hu hv
 ·exact mG (.inl ⟨_, rfl⟩) hu hv
 ·obtain ⟨cs, rfl, hc⟩ := j7 hu
  obtain ⟨ds, rfl, hd⟩ := j7 hv
  congr 1
  apply Array.toList_inj.1
  refine List.ext_getElem (by rw [hc.1, hd.1]) fun i g1 g2 => ?_
  have gl : i < l.length := by rw [<- hc.1]; exact g1
  exact mG (wZ (n := n) h3 _ (List.getElem_mem gl)) (hc.2 i _ _ (List.getElem?_eq_getElem gl) (List.getElem?_eq_getElem g1)) (hd.2 i _ _ (List.getElem?_eq_getElem gl) (List.getElem?_eq_getElem g2))
theorem B9 {d : Option TypeDesc} {k : AV} (hk : fi tb d k = true) {u : Value} (hu : VRel M k u) : Instr.sameBits 10000 u u = true := by
 rcases iy hk with ⟨kd, j, n, rfl, rfl⟩ | ⟨rfl, l, rfl⟩ | ⟨n, e, l, rfl, rfl, h1, h2, h3⟩
 ·exact mF (.inr ⟨_, _, rfl⟩) hu _
 ·exact mF (.inl ⟨_, rfl⟩) hu _
 ·obtain ⟨cs, rfl, hc⟩ := j7 hu
  show (cs.size == cs.size && (cs.toList.zip cs.toList).all fun (x, y) => Instr.sameBits 9999 x y) = true
  simp only [BEq.rfl, Bool.true_and, List.all_eq_true]
  rintro ⟨x, y⟩ hxy
  obtain ⟨i, hi, he⟩ := List.getElem_of_mem hxy
  simp only [List.getElem_zip, Prod.mk.injEq] at he
  have g1 : i < cs.toList.length := by simp at hi ⊢; exact hi
  have gl : i < l.length := by rw [<- hc.1]; exact g1
  obtain ⟨rfl, rfl⟩ := he
  exact mF (wZ (n := n) h3 _ (List.getElem_mem gl)) (hc.2 i _ _ (List.getElem?_eq_getElem gl) (List.getElem?_eq_getElem g1)) _
theorem ur {d : Option TypeDesc} {k : AV} (hk : fi tb d k = true) {u v : Value} (hu : VRel M k u) (hv : VRel M k v) : (Instr.keyThatStays u v).run P w = .ok v w := by
 have e := tV hk hu hv
 subst e
 simp [Instr.keyThatStays, B9 hk hu]
include H in
theorem iH (e : Bool) (n t : Nat) (x : Value) (ht : tb.und t = some .string \/ ∃ kd, tb.und t = some (.int kd)) : (Instr.checkKey e (n + 1) t x).run P w = .ok () w := by
 unfold Instr.checkKey
 rcases ht with ht | ⟨kd, ht⟩ <;> simp [aM H ht]
include H in
theorem ip {kt : Nat} {k : AV} (hk : fi tb (tb.und kt) k = true) {u : Value} (hu : VRel M k u) (e : Bool) : (Instr.checkKey e 10000 kt u).run P w = .ok () w := by
 rcases iy hk with ⟨kd, j, n, hd, rfl⟩ | ⟨hd, l, rfl⟩ | ⟨n, el, l, hd, rfl, h1, h2, h3⟩
 ·exact iH H e 9999 kt u (.inr ⟨_, hd⟩)
 ·exact iH H e 9999 kt u (.inl hd)
 ·obtain ⟨cs, rfl, hc⟩ := j7 hu
  have hflat : ∀ x, (Instr.checkKey e 9999 el x).run P w = .ok () w := fun x => iH H e 9998 el x (by
   rcases h3 with ⟨h, _⟩ | ⟨kd, h, _⟩
   ·exact .inl h
   ·exact .inr ⟨kd, h⟩)
  have hag : tb.isAgg el = some false := by
   unfold Tab.isAgg
   rcases h3 with ⟨h, _⟩ | ⟨kd, h, _⟩ <;> rw [h] <;> rfl
  have hpart : ∀ i, i < n -> ∃ v, (part el cs (i * 1)).run P w = .ok v w := by
   intro i hi
   have hg : ∃ v, cs[i * 1]? = some v := by
    have : i * 1 < cs.size := by rw [Nat.mul_one, <- Array.length_toList, hc.1, h1]; exact hi
    exact ⟨cs[i * 1], by simp [this]⟩
   obtain ⟨v, hv⟩ := hg
   exact ⟨v, by simp only [part, Sem.run_bind, lS H hag, Result.andThen_ok, Bool.false_eq_true, if_false, hv, Sem.run_pure]⟩
  show (Instr.checkKey e (9999 + 1) kt (.agg cs)).run P w = .ok () w
  unfold Instr.checkKey
  simp only [Sem.run_bind, aM H hd, Result.andThen_ok]
  have loop : ∀ (l : List Nat), (∀ i ∈ l, i < n) -> (forIn l PUnit.unit (fun i (_ : PUnit) => do
    let r <- (do let s <- sizeOf el; let v <- part el cs (i * s); Instr.checkKey e 9999 el v : Sem Unit)
    pure (ForInStep.yield PUnit.unit)) : Sem PUnit).run P w = .ok PUnit.unit w := by
   intro l
   induction l with
   | nil => intro _; simp
   | cons i l ih =>
    intro hl
    obtain ⟨v, hv⟩ := hpart i (hl i (List.mem_cons_self))
    simp only [List.forIn_cons, Sem.run_bind, bZ H h2, Result.andThen_ok, hv, hflat, Sem.run_pure]
    exact ih fun j hj => hl j (List.mem_cons_of_mem _ hj)
  have := loop (List.range' 0 n 1) (fun i hi => by simp [List.mem_range'] at hi; omega)
  simp only [Std.Legacy.Range.forIn_eq_forIn_range', Std.Legacy.Range.size, Nat.sub_zero, Nat.add_sub_cancel, Nat.div_one] at this ⊢
  simp at this ⊢
  rw [this]
  rfl
def LM (M : Inj) (cells : List AV) (es : List MapEntry) : Prop :=
 cells.length = 3 * es.length /\ ∀ (j : Nat) (e : MapEntry), es[j]? = some e -> ∃ a v, cells[3 * j]? = some a /\ cells[3 * j + 1]? = some v /\ cells[3 * j + 2]? = some (.int .i64 ((e.born : Nat) : Int)) /\ VRel M a e.key /\ VRel M v e.val
theorem MRel.lm {o : AObj} {es : Array MapEntry} {ck : Nat} (h : MRel M o es ck) : LM M o.cells es.toList := ⟨by rw [h.2.1]; simp, fun j e he => h.2.2 j e (by simpa using he)⟩
theorem LM.uncons {cells : List AV} {e : MapEntry} {es : List MapEntry} (h : LM M cells (e :: es)) : ∃ a v l, cells = a :: v :: .int .i64 ((e.born : Nat) : Int) :: l /\ VRel M a e.key /\ VRel M v e.val /\ LM M l es := by
 obtain ⟨a, v, h1, h2, h3, h4, h5⟩ := h.2 0 e rfl
 have hl := h.1
 match cells, hl with
 | x :: y :: z :: l, hl =>
  simp at h1 h2 h3
  subst h1 h2 h3
  refine ⟨x, y, l, rfl, h4, h5, by simp at hl; omega, fun j e' he => ?_⟩
  obtain ⟨a, v, g1, g2, g3, g4⟩ := h.2 (j + 1) e' (by simpa using he)
  have e1 : 3 * (j + 1) = 3 * j + 3 := by omega
  rw [e1] at g1
  have e2 : 3 * (j + 1) + 1 = (3 * j + 1) + 3 := by omega
  rw [e2] at g2
  have e3 : 3 * (j + 1) + 2 = (3 * j + 2) + 3 := by omega
  rw [e3] at g3
  exact ⟨a, v, by simpa using g1, by simpa using g2, by simpa using g3, g4⟩
 | [], hl => simp at hl
 | [_], hl => simp at hl; omega
 | [_, _], hl => simp at hl; omega
theorem LM.nil_of {cells : List AV} (h : LM M cells []) : cells = [] := List.eq_nil_of_length_eq_zero (by simpa using h.1)
def FR (es : List MapEntry) (i : Nat) (r : Option Nat) (rv : Option (Nat × Value)) : Prop :=
 match r with
 | none => rv = none
 | some j => ∃ e, i <= j /\ es[j - i]? = some e /\ rv = some (j, e.val)
theorem FR.step {es : List MapEntry} {e : MapEntry} {i : Nat} {r : Option Nat} {rv : Option (Nat × Value)} (h : FR es (i + 1) r rv) : FR (e :: es) i r rv := by
 unfold FR at *
 cases r with
 | none => exact h
 | some j =>
  obtain ⟨x, h1, h2, h3⟩ := h
  refine ⟨x, by omega, ?_, h3⟩
  have : j - i = (j - (i + 1)) + 1 := by omega
  rw [this, List.getElem?_cons_succ]
  exact h2
include H in
theorem qk {kt : Nat} {k : AV} {u : Value} (hu : VRel M k u) : ∀ {es : List MapEntry} {cells : List AV} {i : Nat} {r : Option Nat}, LM M cells es -> d7 (ef tb 20 kt) k cells i = some r ->
  ∃ rv, (Instr.findAsking kt u es i).run P w = .ok rv w /\ FR es i r rv
 | [], cells, i, r, hl, hf => by
  rw [hl.nil_of] at hf
  simp only [d7, Option.some.injEq] at hf
  subst hf
  exact ⟨none, by simp [Instr.findAsking], rfl⟩
 | e :: es, cells, i, r, hl, hf => by
  obtain ⟨a, v, l, rfl, h1, h2, h3⟩ := hl.uncons
  simp only [d7] at hf
  split at hf
  ·rename_i he
   simp only [Option.some.injEq] at hf
   subst hf
   have hq : (Op.equal kt u e.key).run P w = .ok true w := kf H w (by decide) hu h1 he
   exact ⟨some (i, e.val), by simp only [Instr.findAsking, Sem.run_bind, hq, Result.andThen_ok, if_true, Sem.run_pure], e, Nat.le_refl _, by simp, rfl⟩
  ·rename_i he
   have hq : (Op.equal kt u e.key).run P w = .ok false w := kf H w (by decide) hu h1 he
   obtain ⟨rv, g1, g2⟩ := qk hu h3 hf
   exact ⟨rv, by simp only [Instr.findAsking, Sem.run_bind, hq, Result.andThen_ok, Bool.false_eq_true, if_false, g1], g2.step⟩
  ·cases hf
theorem uc {kt : Nat} {k a : AV} {u x : Value} {D : TypeDesc} (hD : tb.und kt = some D) (hd : (∃ kd, D = .int kd) \/ D = .string) (hu : VRel M k u) (hx : VRel M a x) {r : Bool} (he : ef tb 20 kt k a = some r) : Instr.sameNow D u x = some r := by
 unfold ef at he
 rw [hD] at he
 simp only at he
 rcases hd with ⟨kd, rfl⟩ | rfl
 ·split at he
  ·rename_i heq _ _
   split at he
   ·rename_i hk
    simp only [Option.some.injEq] at he
    subst he
    rw [dU hu, dU hx]
    simp [Instr.sameNow, hk, gU]
   ·cases he
  ·rename_i heq; cases heq
  ·rename_i heq; cases heq
  ·rename_i heq; cases heq
  ·rename_i D x y _ _ _ _
   simp [tE] at he
 ·split at he
  ·rename_i heq; cases heq
  ·simp only [Option.some.injEq] at he
   subst he
   rename_i p q _
   obtain ⟨s1, rfl, e1, _⟩ := dW hu
   obtain ⟨s2, rfl, e2, _⟩ := dW hx
   rw [ByteArray.toList_eq] at e1 e2
   simp only [Instr.sameNow, g7, Option.some.injEq]
   rw [<- e1, <- e2, ss]
   rw [Bool.eq_iff_iff, MapKept.bytes_beq, beq_iff_eq]
   constructor
   ·rintro rfl; rfl
   ·intro h
    obtain ⟨s1⟩ := s1
    obtain ⟨s2⟩ := s2
    congr 1
    exact Array.toList_inj.1 h
  ·rename_i heq; cases heq
  ·rename_i heq; cases heq
  ·simp [tE] at he
theorem Cw {kt : Nat} {k : AV} {u : Value} {D : TypeDesc} (hD : tb.und kt = some D) (hd : (∃ kd, D = .int kd) \/ D = .string) (hu : VRel M k u) : ∀ {es : List MapEntry} {cells : List AV} {i : Nat} {r : Option Nat}, LM M cells es -> d7 (ef tb 20 kt) k cells i = some r ->
  ∃ rv, Instr.findNow D u es i = some rv /\ FR es i r rv
 | [], cells, i, r, hl, hf => by
  rw [hl.nil_of] at hf
  simp only [d7, Option.some.injEq] at hf
  subst hf
  exact ⟨none, rfl, rfl⟩
 | e :: es, cells, i, r, hl, hf => by
  obtain ⟨a, v, l, rfl, h1, h2, h3⟩ := hl.uncons
  simp only [d7] at hf
  split at hf
  ·rename_i he
   simp only [Option.some.injEq] at hf
   subst hf
   exact ⟨some (i, e.val), by simp only [Instr.findNow, uc hD hd hu h1 he], e, Nat.le_refl _, by simp, rfl⟩
  ·rename_i he
   obtain ⟨rv, g1, g2⟩ := Cw hD hd hu h3 hf
   exact ⟨rv, by simp only [Instr.findNow, uc hD hd hu h1 he, g1], g2.step⟩
  ·cases hf
include H in
theorem fx {kt : Nat} {k : AV} {u : Value} (hk : fi tb (tb.und kt) k = true) (hu : VRel M k u) {es : List MapEntry} {cells : List AV} {r : Option Nat} (hl : LM M cells es) (hf : d7 (ef tb 20 kt) k cells 0 = some r) :
  ∃ rv, (Instr.findKey kt u es).run P w = .ok rv w /\ FR es 0 r rv := by
 have flat : ∀ D, tb.und kt = some D -> ((∃ kd, D = .int kd) \/ D = .string) -> ∃ rv, (Instr.findKey kt u es).run P w = .ok rv w /\ FR es 0 r rv := by
  intro D hD hd
  obtain ⟨rv, h1, h2⟩ := Cw hD hd hu hl hf
  exact ⟨rv, by simp only [Instr.findKey, Sem.run_bind, aM H hD, Result.andThen_ok, h1, Sem.run_pure], h2⟩
 rcases iy hk with ⟨kd, j, n, hd, rfl⟩ | ⟨hd, l, rfl⟩ | ⟨n, el, l, hd, rfl, h1, h2, h3⟩
 ·exact flat _ hd (.inl ⟨_, rfl⟩)
 ·exact flat _ hd (.inr rfl)
 ·obtain ⟨rv, g1, g2⟩ := qk (P := P) (w := w) H hu hl hf
  refine ⟨rv, ?_, g2⟩
  cases es with
  | nil =>
   rw [hl.nil_of] at hf
   simp only [d7, Option.some.injEq] at hf
   subst hf
   have : rv = none := g2
   subst this
   simp only [Instr.findKey, Sem.run_bind, aM H hd, Result.andThen_ok, Instr.findNow, Sem.run_pure]
  | cons e es =>
   have hn : Instr.findNow (.array n el) u (e :: es) 0 = none := by simp [Instr.findNow, Instr.sameNow]
   simp only [Instr.findKey, Sem.run_bind, aM H hd, Result.andThen_ok, hn]
   exact g1
theorem ge {d : Option TypeDesc} {k e : Nat} (h : bO d = some (k, e)) : d = some (.map k e) := by
 unfold bO at h
 split at h
 ·simp only [Option.some.injEq, Prod.mk.injEq] at h
  rw [h.1, h.2]
 ·cases h
theorem nZ {b : Nat} {v : Value} (h : VRel M (.map b) v) : ∃ i, M b = some i /\ i.val = .map (some i.blk) /\ v = .map (some i.blk) := by
 cases h with
 | map _ i hi hv => exact ⟨i, hi, hv, rfl⟩
theorem Cu {v : Value} (h : VRel M .nilm v) : v = .map none := by cases h; rfl
theorem kU {v : AV} {u : Value} (hv : VRel M v u) (ok is : Bool) : VRel M (jq ok v is) (if ok then .tuple #[u, .bool is] else u) := by
 cases ok with
 | true => exact (LRel.cons hv (.cons (.bool is) (.nil M))).tuple
 | false => simpa [jq] using hv
include H in
theorem tI (ht : TRel M tm a) (hh : HRel M N w0 h w) {t : Nat} {x ix : Operand} {ok : Bool} {v : AV} (hv : eG tb tm h.objs t x ix ok = some v) :
  ∃ u, (Instr.lookup t (a.eval x) (a.eval ix) ok).run P w = .ok u w /\ VRel M v u := by
 unfold eG at hv
 split at hv
 rotate_left
 ·cases hv
 rename_i kt et m k hmt hx hix
 have hd := ge hmt
 have hxr := eU ht hx
 have hkr := eU ht hix
 unfold yg at hv
 split at hv
 rotate_left
 ·cases hv
 rename_i z hk hz
 obtain ⟨zv, hzr, hzM, _⟩ := gh H hz w
 split at hv
 ·-- no map
  simp only [Option.some.injEq] at hv
  subst hv
  rw [Cu hxr]
  refine ⟨_, ?_, kU (hzM M) ok false⟩
  have h0 : ∀ e, (Instr.checkKey e 10000 kt (a.eval ix)).run P w = .ok () w := ip H hk hkr
  have hf : (Instr.findKey kt (a.eval ix) []).run P w = .ok none w := by
   obtain ⟨rv, h1, h2⟩ := fx (P := P) (w := w) H hk hkr (es := []) (cells := []) (r := none) ⟨rfl, fun j e he => by simp at he⟩ rfl
   have : rv = none := h2
   rw [this] at h1
   exact h1
  simp only [Instr.lookup, Sem.run_bind, aM H hd, Result.andThen_ok, Sem.run_pure, h0]
  simp [hf, hzr]
 ·rename_i b
  split at hv
  rotate_left
  ·cases hv
  rename_i ob hob
  obtain ⟨i, hi, hval, he⟩ := nZ hxr
  obtain ⟨_, es, ck, hes, hm⟩ := hh.mapAt hob hi hval
  have hget := MapKept.run_getObj_map (P := P) hes
  have h0 : ∀ e, (Instr.checkKey e 10000 kt (a.eval ix)).run P w = .ok () w := ip H hk hkr
  unfold vF at hv
  split at hv
  ·rename_i j hf
   split at hv
   rotate_left
   ·cases hv
   rename_i y hy
   simp only [Option.some.injEq] at hv
   subst hv
   obtain ⟨rv, h1, e, _, h2, rfl⟩ := fx (P := P) (w := w) H hk hkr hm.lm hf
   obtain ⟨p, q, g1, g2, g3, g4, g5⟩ := hm.2.2 j e (by simpa using h2)
   rw [g2] at hy
   cases hy
   refine ⟨_, ?_, kU g5 ok true⟩
   rw [he]
   simp only [Instr.lookup, Sem.run_bind, aM H hd, Result.andThen_ok, Sem.run_pure, hget, h0, h1]
  ·rename_i hf
   simp only [Option.some.injEq] at hv
   subst hv
   obtain ⟨rv, h1, h2⟩ := fx (P := P) (w := w) H hk hkr hm.lm hf
   have : rv = none := h2
   subst this
   refine ⟨_, ?_, kU (hzM M) ok false⟩
   rw [he]
   simp only [Instr.lookup, Sem.run_bind, aM H hd, Result.andThen_ok, Sem.run_pure, hget, h0, h1, hzr]
  ·cases hv
 ·cases hv
theorem i9 {r : Nat} {o o' : Obj} (hb : w.heap[r]? = some o) : Upd w { w with heap := w.heap.setIfInBounds r o' } r o' := by
 have hlt : r < w.heap.size := (Array.getElem?_eq_some_iff.1 hb).1
 exact ⟨rfl, rfl, rfl, by simp, fun k hk => by simp [Ne.symm hk], by simp [hlt]⟩
theorem MRel.push {ob : AObj} {es : Array MapEntry} {ck : Nat} (h : MRel M ob es ck) {k v : AV} {kv vv : Value} (hk : VRel M k kv) (hv : VRel M v vv) :
  MRel M ⟨ob.sz + 1, ob.exact_, ob.cells ++ [k, v, .int .i64 (.ofNat ob.sz)]⟩ (es.push { key := kv, val := vv, born := ck }) (ck + 1) := by
 obtain ⟨h1, h2, h3⟩ := h
 refine ⟨by simp [h1], by simp [h2]; omega, fun j e he => ?_⟩
 rw [Array.getElem?_push] at he
 split at he
 ·rename_i hj
  simp only [Option.some.injEq] at he
  subst he
  refine ⟨k, v, ?_, ?_, ?_, hk, hv⟩
  ·simp only; rw [List.getElem?_append_right zy]
   have : 3 * j - ob.cells.length = 0 := by omega
   rw [this]; rfl
  ·simp only; rw [List.getElem?_append_right zy]
   have : 3 * j + 1 - ob.cells.length = 1 := by omega
   rw [this]; rfl
  ·simp only; rw [List.getElem?_append_right zy]
   have : 3 * j + 2 - ob.cells.length = 2 := by omega
   rw [this, <- h1]; rfl
 ·have hlt : j < es.size := (Array.getElem?_eq_some_iff.1 he).1
  obtain ⟨a, v, g1, g2, g3, g4, g5⟩ := h3 j e he
  exact ⟨a, v, by simp only; rw [List.getElem?_append_left zy]; exact g1, by simp only; rw [List.getElem?_append_left zy]; exact g2, by simp only; rw [List.getElem?_append_left zy]; exact g3, g4, g5⟩
theorem MRel.put {ob : AObj} {es : Array MapEntry} {ck i : Nat} (h : MRel M ob es ck) (hi : i < es.size) {k v : AV} {kv vv : Value} (hk : VRel M k kv) (hv : VRel M v vv) :
  MRel M ⟨ob.sz, ob.exact_, ct ob.cells (3 * i) [k, v]⟩ (es.modify i fun e => { e with key := kv, val := vv }) ck := by
 obtain ⟨h1, h2, h3⟩ := h
 refine ⟨h1, by simp [dP, h2], fun j e he => ?_⟩
 rw [Array.getElem?_modify] at he
 simp only [gZ, List.length_cons, List.length_nil]
 split at he
 ·rename_i hj
  subst hj
  cases hg : es[i]? with
  | none => rw [hg] at he; simp at he
  | some e0 =>
   rw [hg] at he
   simp only [Option.map_some, Option.some.injEq] at he
   subst he
   obtain ⟨a, v', g1, g2, g3, g4, g5⟩ := h3 i e0 hg
   refine ⟨k, v, ?_, ?_, ?_, hk, hv⟩
   ·rw [if_pos zy]; simp
   ·rw [if_pos zy]
    have : 3 * i + 1 - 3 * i = 1 := by omega
    rw [this]; rfl
   ·rw [if_neg zy]; exact g3
 ·rename_i hj
  obtain ⟨a, v', g1, g2, g3, g4, g5⟩ := h3 j e he
  exact ⟨a, v', by rw [if_neg zy]; exact g1, by rw [if_neg zy]; exact g2, by rw [if_neg zy]; exact g3, g4, g5⟩
theorem MRel.putV {ob : AObj} {es : Array MapEntry} {ck i : Nat} (h : MRel M ob es ck) (hi : i < es.size) {v : AV} {vv : Value} (hv : VRel M v vv) :
  MRel M ⟨ob.sz, ob.exact_, ct ob.cells (3 * i + 1) [v]⟩ (es.modify i fun e => { e with val := vv }) ck := by
 obtain ⟨h1, h2, h3⟩ := h
 refine ⟨h1, by simp [dP, h2], fun j e he => ?_⟩
 rw [Array.getElem?_modify] at he
 simp only [gZ, List.length_cons, List.length_nil]
 split at he
 ·rename_i hj
  subst hj
  cases hg : es[i]? with
  | none => rw [hg] at he; simp at he
  | some e0 =>
   rw [hg] at he
   simp only [Option.map_some, Option.some.injEq] at he
   subst he
   obtain ⟨a, v', g1, g2, g3, g4, g5⟩ := h3 i e0 hg
   refine ⟨a, v, ?_, ?_, ?_, g4, hv⟩
   ·rw [if_neg zy]; exact g1
   ·rw [if_pos zy]; simp
   ·rw [if_neg zy]; exact g3
 ·rename_i hj
  obtain ⟨a, v', g1, g2, g3, g4, g5⟩ := h3 j e he
  exact ⟨a, v', by rw [if_neg zy]; exact g1, by rw [if_neg zy]; exact g2, by rw [if_neg zy]; exact g3, g4, g5⟩
include H in
theorem rY (ht : TRel M tm a) (hh : HRel M N w0 h w) {t : Nat} {r : Option Operand} {v : AV} {h' : AHeap} (hv : dI tb tm h t r = some (v, h')) :
  im P M N w0 (Instr.makeMap t (r.map a.eval)) w v h' := by
 unfold dI at hv
 split at hv
 rotate_left
 ·cases hv
 rename_i p hmt hr
 obtain ⟨kt, et⟩ := p
 have hd := ge hmt
 simp only [Option.some.injEq, Prod.mk.injEq] at hv
 obtain ⟨rfl, rfl⟩ := hv
 obtain ⟨g1, g2⟩ := hh.growMap (Grow.alloc w (.map #[] 0))
 refine ⟨.map (some w.heap.size), _, _, ?_, g1, g2, ?_⟩
 ·have hnew : (do pure (Value.map (some (<- newObj (.map #[] 0)))) : Sem Value).run P w = .ok (.map (some w.heap.size)) (w.alloc (.map #[] 0)) := by simp
  cases r with
  | none => simp [Instr.makeMap]
  | some x =>
   simp only at hr
   split at hr
   ·rename_i kd n hx
    rw [Option.map_some, dU (eU ht hx)]
    simp [Instr.makeMap, aM H hd, asInt, asIntOf]
   ·cases hr
 ·exact VRel.map h.next ⟨w.heap.size, 0, 0, 0, .map (some w.heap.size)⟩ (by simp [Inj.upd]) rfl
include H in
theorem o3 (ht : TRel M tm a) (hh : HRel M N w0 h w) {t : Nat} {x ix y : Operand} {v : AV} {h' : AHeap} (hv : du tb tm h t x ix y = some (v, h')) :
  v = .tuple [] /\ ∃ w', (Instr.mapUpdate t (a.eval x) (a.eval ix) (a.eval y)).run P w = .ok () w' /\ HRel M N w0 h' w' := by
 unfold du at hv
 split at hv
 rotate_left
 ·cases hv
 rename_i kt et b k vv hmt hx hix hy
 have hd := ge hmt
 have hkr := eU ht hix
 have hyr := eU ht hy
 split at hv
 rotate_left
 ·cases hv
 rename_i ob hk hob
 obtain ⟨i, hi, hval, he⟩ := nZ (eU ht hx)
 obtain ⟨_, es, ck, hes, hm⟩ := hh.mapAt hob hi hval
 have hget := MapKept.run_getObj_map (P := P) hes
 have h0 : ∀ e, (Instr.checkKey e 10000 kt (a.eval ix)).run P w = .ok () w := ip H hk hkr
 unfold Jj at hv
 split at hv
 ·-- a new entry
  rename_i hf
  simp only [kl, Option.some.injEq, Prod.mk.injEq] at hv
  obtain ⟨rfl, rfl⟩ := hv
  refine ⟨rfl, ?_⟩
  obtain ⟨rv, h1, h2⟩ := fx (P := P) (w := w) H hk hkr hm.lm hf
  have : rv = none := h2
  subst this
  refine ⟨_, ?_, hh.turnMap hob hi hval (i9 hes) (hm.push hkr hyr)⟩
  rw [he]
  simp only [Instr.mapUpdate, Sem.run_bind, aM H hd, Result.andThen_ok, hget, h0, h1, MapKept.run_setObj_map _ hes]
 ·rename_i j hf
  split at hv
  rotate_left
  ·simp [kl] at hv
  rename_i p hp
  split at hv
  rotate_left
  ·simp [kl] at hv
  rename_i hpk
  have hpk := wA _ _ hpk
  subst hpk
  simp only [kl, Option.some.injEq, Prod.mk.injEq] at hv
  obtain ⟨rfl, rfl⟩ := hv
  refine ⟨rfl, ?_⟩
  obtain ⟨rv, h1, e, _, h2, rfl⟩ := fx (P := P) (w := w) H hk hkr hm.lm hf
  have h2 : es[j]? = some e := by simpa using h2
  have hj : j < es.size := (Array.getElem?_eq_some_iff.1 h2).1
  obtain ⟨p', q, g1, g2, g3, g4, g5⟩ := hm.2.2 j e h2
  rw [g1] at hp
  cases hp
  have hst := ur (P := P) (w := w) hk g4 hkr
  refine ⟨_, ?_, hh.turnMap hob hi hval (i9 hes) (hm.put hj hkr hyr)⟩
  rw [he]
  simp only [Instr.mapUpdate, Sem.run_bind, aM H hd, Result.andThen_ok, hget, h0, h1, h2, Option.map_some, Option.getD_some, hst, MapKept.run_setObj_map _ hes]
 ·simp [kl] at hv
theorem t6 {es : Array MapEntry} {j : Nat} {e : MapEntry} (h : es[j]? = some e) : (es.modify j fun x => { x with key := e.key }) = es := by
 apply Array.ext
 ·simp
 ·intro i h1 h2
  rw [Array.getElem_modify]
  split
  ·rename_i hij
   subst hij
   have : es[j] = e := by
    have := (Array.getElem?_eq_some_iff.1 h).2
    exact this
   rw [this]
  ·rfl
theorem si {r : Nat} {o : Obj} (hb : w.heap[r]? = some o) : ({ w with heap := w.heap.setIfInBounds r o } : World) = w := by
 have hlt : r < w.heap.size := (Array.getElem?_eq_some_iff.1 hb).1
 have : w.heap.setIfInBounds r o = w.heap := by
  apply Array.ext_getElem?
  intro i
  by_cases hir : r = i
  ·subst hir
   rw [hb]
   simp [hlt]
  ·simp [hir]
 rw [this]
include H in
theorem p7 (ht : TRel M tm a) (hh : HRel M N w0 h w) {t : Nat} {x ix : Operand} {v : AV} {h' : AHeap} (hv : da tb tm h t x ix = some (v, h')) :
  im P M N w0 (Instr.mapEntry t (a.eval x) (a.eval ix)) w v h' := by
 unfold da at hv
 split at hv
 rotate_left
 ·cases hv
 rename_i kt et b k hmt hx hix
 have hd := ge hmt
 have hkr := eU ht hix
 split at hv
 rotate_left
 ·cases hv
 rename_i ob z hk hob hz
 obtain ⟨i, hi, hval, he⟩ := nZ (eU ht hx)
 obtain ⟨_, es, ck, hes, hm⟩ := hh.mapAt hob hi hval
 have hget := MapKept.run_getObj_map (P := P) hes
 have h0 : ∀ e, (Instr.checkKey e 10000 kt (a.eval ix)).run P w = .ok () w := ip H hk hkr
 obtain ⟨zv, hzr, hzM, _⟩ := gh H hz w
 unfold vg at hv
 split at hv
 ·rename_i hf
  simp only [Option.some.injEq, Prod.mk.injEq] at hv
  obtain ⟨rfl, rfl⟩ := hv
  obtain ⟨rv, h1, h2⟩ := fx (P := P) (w := w) H hk hkr hm.lm hf
  have : rv = none := h2
  subst this
  refine ⟨_, M, _, ?_, Inj.le_refl M, hh.turnMap hob hi hval (i9 hes) (hm.push hkr (hzM M)), (LRel.cons (hzM M) (.cons (.int .i64 _) (.nil M))).tuple⟩
  rw [he, hm.1]
  simp only [Instr.mapEntry, Sem.run_bind, aM H hd, Result.andThen_ok, hget, h0, h1, hzr, MapKept.run_setObj_map _ hes, Sem.run_pure, goInt]
  rfl
 ·rename_i j hf
  split at hv
  rotate_left
  ·cases hv
  rename_i p q n hp hq hn
  split at hv
  rotate_left
  ·cases hv
  rename_i hpk
  have hpk := wA _ _ hpk
  subst hpk
  simp only [Option.some.injEq, Prod.mk.injEq] at hv
  obtain ⟨rfl, rfl⟩ := hv
  obtain ⟨rv, h1, e, _, h2, rfl⟩ := fx (P := P) (w := w) H hk hkr hm.lm hf
  have h2 : es[j]? = some e := by simpa using h2
  obtain ⟨p', q', g1, g2, g3, g4, g5⟩ := hm.2.2 j e h2
  rw [g1] at hp
  cases hp
  rw [g2] at hq
  cases hq
  rw [g3] at hn
  cases hn
  have hke := tV hk hkr g4
  have hst := ur (P := P) (w := w) hk g4 hkr
  refine ⟨_, M, w, ?_, Inj.le_refl M, hh, (LRel.cons g5 (.cons (.int .i64 _) (.nil M))).tuple⟩
  rw [he]
  simp only [Instr.mapEntry, Sem.run_bind, aM H hd, Result.andThen_ok, hget, h0, h1, h2, Option.map_some, Option.getD_some, hst]
  rw [hke, t6 h2]
  simp only [MapKept.run_setObj_map _ hes, Result.andThen_ok, si hes, Sem.run_pure, goInt]
 ·cases hv
theorem tN {n : Int} : ∀ {es : List MapEntry} {cells : List AV} {i j : Nat}, LM M cells es -> kB n cells i = some j -> i <= j /\ (es.findIdx? fun e => (e.born : Int) == n) = some (j - i)
 | [], cells, i, j, hl, hf => by rw [hl.nil_of] at hf; simp [kB] at hf
 | e :: es, cells, i, j, hl, hf => by
  obtain ⟨a, v, l, rfl, h1, h2, h3⟩ := hl.uncons
  simp only [kB] at hf
  split at hf
  ·rename_i he
   simp only [Option.some.injEq] at hf
   subst hf
   rw [gU] at he
   simp [List.findIdx?_cons, he]
  ·rename_i he
   rw [gU] at he
   obtain ⟨g1, g2⟩ := tN h3 hf
   refine ⟨by omega, ?_⟩
   simp only [List.findIdx?_cons, he, g2, Bool.false_eq_true, if_false, Option.map_some]
   congr 1
   omega
theorem nH (ht : TRel M tm a) (hh : HRel M N w0 h w) {t : Nat} {x s y : Operand} {v : AV} {h' : AHeap} (hv : cU tm h x s y = some (v, h')) :
  v = .tuple [] /\ ∃ w', (Instr.entryStore t (a.eval x) (a.eval s) (a.eval y)).run P w = .ok () w' /\ HRel M N w0 h' w' := by
 unfold cU at hv
 split at hv
 rotate_left
 ·cases hv
 rename_i b kd n vv hx hs hy
 split at hv
 rotate_left
 ·cases hv
 rename_i ob hob
 split at hv
 rotate_left
 ·cases hv
 rename_i j hf
 simp only [Option.some.injEq, Prod.mk.injEq] at hv
 obtain ⟨rfl, rfl⟩ := hv
 refine ⟨rfl, ?_⟩
 obtain ⟨i, hi, hval, he⟩ := nZ (eU ht hx)
 obtain ⟨_, es, ck, hes, hm⟩ := hh.mapAt hob hi hval
 have hget := MapKept.run_getObj_map (P := P) hes
 obtain ⟨_, h2⟩ := tN hm.lm hf
 have h2 : (es.findIdx? fun e => (e.born : Int) == n) = some j := by
  obtain ⟨l⟩ := es
  simpa using h2
 have hj : j < es.size := by
  have := Array.findIdx?_eq_some_iff_getElem.1 h2
  exact this.1
 refine ⟨_, ?_, hh.turnMap hob hi hval (i9 hes) (hm.putV hj (eU ht hy))⟩
 rw [he, dU (eU ht hs)]
 simp only [Instr.entryStore, Sem.run_bind, Result.andThen_ok, hget, asInt, asIntOf, Sem.run_pure, h2, MapKept.run_setObj_map _ hes]
end maps
end Go.Proofs.YtfkbfnpjggkdmaaGreatDoor.Ev
