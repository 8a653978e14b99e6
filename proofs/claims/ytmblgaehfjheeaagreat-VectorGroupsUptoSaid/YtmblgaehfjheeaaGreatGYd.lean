/- Elements in memory; lists of a function's own that may be empty without being nil; append of any slice. -/
import Derived.Test.YtmblgaehfjheeaaGreatGYb
namespace Go.Proofs.YtmblgaehfjheeaaGreat.Ev
open Go.RowKit
set_option linter.unusedVariables false
set_option linter.unusedSimpArgs false
def OwnE (sz : Nat) (cells : List AV) (len : Nat) (v : AV) (hp : HSt) : Prop :=
 (len = 0 ∧ cells = [] ∧ v = .nils ∧ hp = []) ∨ (∃ b ex, v = .slice b 0 len sz ∧ hp = [⟨b, ⟨sz, ex, cells⟩, true⟩] ∧ cells.length = len * sz)
theorem OwnE.nil (sz : Nat) : OwnE sz [] 0 .nils [] := .inl ⟨rfl, rfl, rfl, rfl⟩
theorem OwnE.of {sz : Nat} {cells : List AV} {len : Nat} {v : AV} {hp : HSt} (h : Own sz cells len v hp) : OwnE sz cells len v hp := h.imp id fun ⟨b, ex, h1, h2, h3, _⟩ => ⟨b, ex, h1, h2, h3⟩
theorem OwnE.cons {sz len b : Nat} {ex : Bool} {cells : List AV} (h : cells.length = len * sz) : OwnE sz cells len (.slice b 0 len sz) [⟨b, ⟨sz, ex, cells⟩, true⟩] := .inr ⟨b, ex, rfl, rfl, h⟩
theorem OwnE.length {sz : Nat} {cells : List AV} {len : Nat} {v : AV} {hp : HSt} (h : OwnE sz cells len v hp) : cells.length = len * sz := by
 rcases h with ⟨rfl, rfl, _, _⟩ | ⟨b, _, _, _, h⟩
 ·simp
 ·exact h
theorem OwnE.w {sz : Nat} {cells : List AV} {len : Nat} {v : AV} {hp : HSt} (h : OwnE sz cells len v hp) : ∀ e ∈ hp, e.w = true := by
 rcases h with ⟨_, _, _, rfl⟩ | ⟨b, _, _, rfl, _⟩
 ·intro e he; simp at he
 ·intro e he; simp at he; subst he; rfl
theorem OwnE.len {sz : Nat} {cells : List AV} {len e : Nat} {v : AV} {hp : HSt} (h : OwnE sz cells len v hp) : lenA (.slice e) v = some len := by
 rcases h with ⟨rfl, _, rfl, _⟩ | ⟨b, _, rfl, _, _⟩ <;> rfl
theorem OwnE.cell {sz : Nat} {cells : List AV} {len : Nat} {v : AV} {hp : HSt} (h : OwnE sz cells len v hp) : v.isCell = true := by
 rcases h with ⟨_, _, rfl, _⟩ | ⟨b, _, rfl, _, _⟩ <;> rfl
theorem OwnE.bq {sz : Nat} {cells : List AV} {len : Nat} {v : AV} {hp : HSt} (h : OwnE sz cells len v hp) : v.beq v = true := by
 rcases h with ⟨_, _, rfl, _⟩ | ⟨b, ex, rfl, _, _⟩
 ·rfl
 ·simp [AV.beq, beq1, beq0]
theorem OwnE.full {sz : Nat} {cells : List AV} {len : Nat} {v : AV} {hp : HSt} (h : OwnE sz cells len v hp) (hl : 0 < len) : ∃ b ex, v = .slice b 0 len sz ∧ hp = [⟨b, ⟨sz, ex, cells⟩, true⟩] := by
 rcases h with ⟨h, _, _, _⟩ | ⟨b, ex, h1, h2, _⟩
 ·omega
 ·exact ⟨b, ex, h1, h2⟩
def Src (hs : HSt) (sz : Nat) (x : AV) (m : Nat) (new : List AV) : Prop := ∀ h, KeepIn hs h → cellsOfA h.objs sz x = some (m, new)
theorem Src.nils {hs : HSt} {sz : Nat} : Src hs sz .nils 0 [] := fun h _ => rfl
theorem Src.slice {hs : HSt} {b o m sz : Nat} {ob : AObj} {w : Bool} {l : List AV} (hm : ⟨b, ob, w⟩ ∈ hs) (hl : sub? ob.cells (o * sz) (m * sz) = some l) : Src hs sz (.slice b o m sz) m l :=
 fun h hh => cellsOf_slice (hh _ hm) hl
theorem Src.all {hs : HSt} {b m sz : Nat} {ob : AObj} (hm : MemH hs b ob) (hl : ob.cells.length = m * sz) : Src hs sz (.slice b 0 m sz) m ob.cells := by
 obtain ⟨w, hm⟩ := hm
 exact Src.slice hm (by rw [Nat.zero_mul]; exact sub_all hl)
theorem Src.lin {hs : HSt} {l : List Lab} {v : AV} (h : LIn hs l v) : Src hs 2 v l.length (cL l) := by
 rcases h with ⟨rfl, rfl⟩ | ⟨b, sz, ex, rfl, hm⟩
 ·exact Src.nils
 ·exact Src.all hm (cL_len l)
theorem Src.mono {hs hs' : HSt} {sz m : Nat} {x : AV} {new : List AV} (hm : ∀ e ∈ hs, MemH hs' e.b e.o) (h : Src hs sz x m new) : Src hs' sz x m new :=
 fun hp hh => h hp fun e he => by obtain ⟨w, hw⟩ := hm e he; exact hh ⟨e.b, e.o, w⟩ hw
section
variable {tb : Tab} {n : Nat} {E : Env} {s : St} {hs : HSt} {R : T AV → AHeap → Prop} {ops rest : List Oper} {d : Nat} {t : TypeId} {ty : TypeId} {pos : String} {aft : Array Edge}
theorem WO.appAny {ox oy : Operand} {t2 sz len m : Nat} {tl : List Nat} {A hp : HSt} {cells new : List AV} {v x : AV} (ha : AP tb t t2 = some sz) (hO : OwnE sz cells len v hp) (hx : oL s ox = some v) (hy : oL s oy = some x) (hc : Src hs sz x m new)
  (hl : new.length = m * sz) (hn : len + m ≤ 1073741824) (hz : 0 < sz) (hs_ : SubH (A ++ hp) hs) (hd : Nat.blt d n = true)
  (hk : ∀ v' hp', OwnE sz (cells ++ new) (len + m) v' hp' → WO tb n ops rest E ((d, v') :: s) (A ++ hp') R) :
  WO tb n ops (⟨some d, .call ⟨.builtin .append, #[ox, oy], (t :: t2 :: tl).toArray⟩, ty, pos, aft, none⟩ :: rest) E s hs R := by
 refine WO.l (s' := s) fun tm h ht hh => ?_
 have hc := hc h hh.keep
 replace hh := hh.sub hs_
 have hev : ∀ r, appendB h sz m v new = r → evOp tb (callOf (Ev.callE tb)) tm h (.call ⟨.builtin .append, #[ox, oy], (t :: t2 :: tl).toArray⟩) = .l r := by
  intro r hr
  show Res.l (evAppend tb tm h #[ox, oy] (t :: t2 :: tl).toArray) = _
  unfold evAppend
  simp only [opnds, oL_ok ht hx, oL_ok ht hy]
  rw [appendA_of ha hc, hr]
 by_cases hm0 : m = 0
 ·have hnew : new = [] := List.eq_nil_of_length_eq_zero (by rw [hl, hm0]; simp)
  subst hm0 hnew
  have hk := hk v hp (by simpa using hO)
  refine ⟨v, h, tm.set d v, hev _ ?_, putDst_at hd, hk _ _ (ht.set d v) hh⟩
  rcases hO with ⟨_, _, rfl, _⟩ | ⟨b, ex, rfl, _, _⟩
  ·rfl
  ·unfold appendB
   have e1 : Nat.beq sz sz = true := by simp
   simp only [Nat.beq_eq_true_eq, e1]
 ·have e0 : Nat.beq m 0 = false := by cases m with
   | zero => omega
   | succ m => rfl
  rcases hO with ⟨rfl, rfl, rfl, rfl⟩ | ⟨b, ex, rfl, rfl, hcl⟩
  ·have e1 : Nat.ble m 1073741824 = true := Nat.ble_eq.mpr zy
   have hk := hk (.slice h.next 0 (0 + m) sz) [⟨h.next, ⟨sz, false, [] ++ new⟩, true⟩] (OwnE.cons (by rw [Nat.zero_add]; simpa using hl))
   rw [Nat.zero_add, List.nil_append] at hk
   refine ⟨.slice h.next 0 m sz, ⟨h.next + 1, h.objs.set h.next ⟨sz, false, new⟩⟩, tm.set d (.slice h.next 0 m sz), hev _ ?_, putDst_at hd, hk _ _ (ht.set d _) ?_⟩
   ·unfold appendB
    simp only [e0, e1]
   ·rw [List.append_nil] at hh
    exact (hh.new _).sub (SubH.op (List.perm_append_singleton _ _))
  ·have e1 : (Nat.beq sz sz && Nat.ble (len + m) 1073741824) = true := by simp; omega
   have hmem : (⟨b, ⟨sz, ex, cells⟩, true⟩ : HE) ∈ (A ++ [⟨b, ⟨sz, ex, cells⟩, true⟩] : HSt) := by simp
   have h1 := (hh.at_ _ hmem).1
   simp only at h1
   have e2 : Nat.beq sz sz = true := by simp
   have e3 : Nat.ble ((0 + len + m) * sz) cells.length = false := by
    rw [hcl]
    have : len * sz < (0 + len + m) * sz := Nat.mul_lt_mul_of_pos_right zy hz
    cases hb : Nat.ble ((0 + len + m) * sz) (len * sz) with
    | false => rfl
    | true => have := Nat.ble_eq.mp hb; omega
   have e4 : sub? cells (0 * sz) (len * sz) = some cells := by rw [Nat.zero_mul]; exact sub_all hcl
   have hidx : (A ++ [⟨b, ⟨sz, ex, cells⟩, true⟩] : HSt)[A.length]? = some ⟨b, ⟨sz, ex, cells⟩, true⟩ := by simp
   have hne : (A ++ [⟨b, ⟨sz, ex, cells⟩, true⟩] : HSt).eraseIdx A.length = A := by simp [List.eraseIdx_append_of_length_le]
   have hk := hk (.slice h.next 0 (len + m) sz) [⟨h.next, ⟨sz, false, cells ++ new⟩, true⟩] (OwnE.cons (by rw [List.length_append, hcl, hl, Nat.add_mul]))
   cases ex with
   | true =>
    refine ⟨.slice h.next 0 (len + m) sz, ⟨h.next + 1, h.objs.set h.next ⟨sz, false, cells ++ new⟩⟩, tm.set d (.slice h.next 0 (len + m) sz), hev _ ?_, putDst_at hd, hk _ _ (ht.set d _) ?_⟩
    ·unfold appendB
     simp only [e0, e1]
     unfold appendTo
     simp only [h1, e2, e3, e4]
    ·refine (hh.new ⟨sz, false, cells ++ new⟩).sub (SubH.trans (SubH.op (List.perm_append_singleton _ _)) (SubH.of_sublist ?_))
     exact List.Sublist.cons_cons _ (List.sublist_append_left _ _)
   | false =>
    refine ⟨.slice h.next 0 (len + m) sz, ⟨h.next + 1, (h.objs.del b).set h.next ⟨sz, false, cells ++ new⟩⟩, tm.set d (.slice h.next 0 (len + m) sz), hev _ ?_, putDst_at hd, hk _ _ (ht.set d _) ?_⟩
    ·unfold appendB
     simp only [e0, e1]
     unfold appendTo
     simp only [h1, e2, e3, e4]
    ·have := hh.del hidx
     rw [hne] at this
     exact (this.new ⟨sz, false, cells ++ new⟩).sub (SubH.op (List.perm_append_singleton _ _))
variable {keep : HSt} {q i : Nat}
theorem WD.appAny {ox oy : Operand} {t2 sz len m : Nat} {tl : List Nat} {A hp : HSt} {cells new : List AV} {v x : AV} (ha : AP tb t t2 = some sz) (hO : OwnE sz cells len v hp) (hx : oL s ox = some v) (hy : oL s oy = some x) (hc : Src hs sz x m new)
  (hl : new.length = m * sz) (hn : len + m ≤ 1073741824) (hz : 0 < sz) (hs_ : SubH (A ++ hp) hs) (hd : Nat.blt d n = true) (hkp : KIn keep A)
  (hk : ∀ v' hp', OwnE sz (cells ++ new) (len + m) v' hp' → WD tb n ops keep q (i + 1) rest E ((d, v') :: s) (A ++ hp') R) :
  WD tb n ops keep q i (⟨some d, .call ⟨.builtin .append, #[ox, oy], (t :: t2 :: tl).toArray⟩, ty, pos, aft, none⟩ :: rest) E s hs R :=
 WD.l (C := fun v' hs' => ∃ hp', OwnE sz (cells ++ new) (len + m) v' hp' ∧ hs' = A ++ hp') (fun tm h r e => by cases e) (fun R hR => WO.appAny ha hO hx hy hc hl hn hz hs_ hd fun v' hp' h => WO.nil (hR _ _ ⟨hp', h, rfl⟩))
  (fun v' hs' ⟨hp', _, h2⟩ _ => by subst h2; exact fun e he => let ⟨w, hm⟩ := hkp e he; ⟨w, List.mem_append_left _ hm⟩) (fun v' hs' ⟨hp', h1, h2⟩ => by subst h2; exact hk v' hp' h1)
end
abbrev El := AV × List Lab × Int
def cE (V : List El) : List AV := V.flatMap fun x => [x.1, .int .i64 x.2.2]
def eg (V : List El) (i : Nat) : El := V.getD i (.nils, [], 0)
theorem eg_mem {V : List El} {i : Nat} (h : i < V.length) : eg V i ∈ V := by
 unfold eg
 rw [List.getD_eq_getElem?_getD, List.getElem?_eq_getElem h]
 exact List.getElem_mem h
theorem cE_cons (x : El) (V : List El) : cE (x :: V) = x.1 :: .int .i64 x.2.2 :: cE V := rfl
theorem cE_len (V : List El) : (cE V).length = V.length * 2 := by
 induction V with
 | nil => rfl
 | cons x V ih => rw [cE_cons, List.length_cons, List.length_cons, ih, List.length_cons]; omega
theorem cE_append (V W : List El) : cE (V ++ W) = cE V ++ cE W := by unfold cE; rw [List.flatMap_append]
theorem cE_get : ∀ (V : List El) (i : Nat), i < V.length → (cE V)[i * 2]? = some (eg V i).1 ∧ (cE V)[i * 2 + 1]? = some (.int .i64 (eg V i).2.2)
 | x :: V, 0, _ => ⟨rfl, rfl⟩
 | x :: V, i + 1, h => by
  have := cE_get V i (by simpa using h)
  have e : (i + 1) * 2 = i * 2 + 1 + 1 := by omega
  rw [cE_cons, e]
  exact this
theorem cE_at {V : List El} {i : Nat} (h : i < V.length) : sub? (cE V) ((0 + i) * 2) 2 = some [(eg V i).1, .int .i64 (eg V i).2.2] := by
 obtain ⟨h1, h2⟩ := cE_get V i h
 rw [Nat.zero_add]
 exact sub2 h1 h2
theorem cE_f0 {V : List El} {i : Nat} (h : i < V.length) : (cE V)[(0 + i) * 2 + 0]? = some (eg V i).1 := by
 rw [Nat.zero_add]; exact (cE_get V i h).1
theorem cE_f1 {V : List El} {i : Nat} (h : i < V.length) : (cE V)[(0 + i) * 2 + 1]? = some (.int .i64 (eg V i).2.2) := by
 rw [Nat.zero_add]; exact (cE_get V i h).2
def EIn (hs : HSt) (V : List El) (v : AV) : Prop := ((v = .nils ∧ V = []) ∨ ∃ b sz ex, v = .slice b 0 V.length 2 ∧ MemH hs b ⟨sz, ex, cE V⟩) ∧ ∀ x ∈ V, LIn hs x.2.1 x.1
theorem EIn.mono {hs hs' : HSt} {V : List El} {v : AV} (hm : ∀ b o, MemH hs b o → MemH hs' b o) (h : EIn hs V v) : EIn hs' V v :=
 ⟨h.1.imp id fun ⟨b, sz, ex, h1, h2⟩ => ⟨b, sz, ex, h1, hm _ _ h2⟩, fun x hx => (h.2 x hx).mono hm⟩
theorem EIn.len {hs : HSt} {V : List El} {v : AV} {e : Nat} (h : EIn hs V v) : lenA (.slice e) v = some V.length := by
 rcases h.1 with ⟨rfl, rfl⟩ | ⟨b, sz, ex, rfl, _⟩ <;> rfl
theorem EIn.full {hs : HSt} {V : List El} {v : AV} (h : EIn hs V v) (hl : 0 < V.length) : ∃ b sz ex, v = .slice b 0 V.length 2 ∧ MemH hs b ⟨sz, ex, cE V⟩ := by
 rcases h.1 with ⟨_, rfl⟩ | h
 ·simp at hl
 ·exact h
theorem EIn.at {hs : HSt} {V : List El} {v : AV} (h : EIn hs V v) {i : Nat} (hi : i < V.length) : LIn hs (eg V i).2.1 (eg V i).1 := h.2 _ (eg_mem hi)
def I64 (n : Int) : Prop := -9223372036854775808 ≤ n ∧ n ≤ 9223372036854775807
def EBd (V : List El) : Prop := V.length ≤ 1048576 ∧ ∀ x ∈ V, LBd x.2.1 ∧ I64 x.2.2
theorem EBd.at {V : List El} (h : EBd V) {i : Nat} (hi : i < V.length) : LBd (eg V i).2.1 ∧ I64 (eg V i).2.2 := h.2 _ (eg_mem hi)
set_option maxRecDepth 100000
set_option maxHeartbeats 1000000
theorem app_nil_sub {hs : HSt} : SubH (hs ++ []) hs := by rw [List.append_nil]; exact SubH.refl _
theorem app_nil_sub1 {hs : HSt} {e : HE} : SubH (hs ++ []) (e :: hs) := by rw [List.append_nil]; exact SubH.of_sublist (List.sublist_cons_self _ _)
theorem LIn.bq {hs : HSt} {l : List Lab} {v : AV} (h : LIn hs l v) : v.beq v = true := by
 rcases h with ⟨rfl, _⟩ | ⟨b, sz, ex, rfl, _⟩
 ·rfl
 ·simp [AV.beq, beq1, beq0]
noncomputable def lchk1 (A : List Lab) (i : Nat) : Nat :=
 if nameB (lg A i).1 = false then 8 else if (lg A i).2 = [] then 2 else if 64 < (lg A i).2.length then 3 else if 0 < i ∧ listLess (lg A (i - 1)).1 (lg A i).1 = false then 13 else 0
noncomputable def lchkG (A : List Lab) : Nat → Nat → Nat
 | 0, _ => 0
 | n + 1, i => if lchk1 A i ≠ 0 then lchk1 A i else lchkG A n (i + 1)
noncomputable def lchk (A : List Lab) : Nat := if 8 < A.length then 3 else lchkG A A.length 0
theorem lchk_big {A : List Lab} (h : 8 < A.length) : lchk A = 3 := if_pos h
theorem lchk_go {A : List Lab} (h : ¬ 8 < A.length) : lchk A = lchkG A (A.length - 0) 0 := if_neg h
theorem lchk_hit {A : List Lab} {i e : Nat} (h : i < A.length) (h1 : lchk1 A i = e) (he : e ≠ 0) : lchkG A (A.length - i) i = e := by
 have : A.length - i = (A.length - (i + 1)) + 1 := by omega
 rw [this, lchkG, h1, if_pos he]
theorem lchk_next {A : List Lab} {i : Nat} (h : i < A.length) (h1 : lchk1 A i = 0) : lchkG A (A.length - i) i = lchkG A (A.length - (i + 1)) (i + 1) := by
 have : A.length - i = (A.length - (i + 1)) + 1 := by omega
 rw [this, lchkG, h1, if_neg (by simp)]
theorem lchk_done {A : List Lab} {i : Nat} (h : A.length ≤ i) : lchkG A (A.length - i) i = 0 := by
 have : A.length - i = 0 := by omega
 rw [this, lchkG]
def fitB (n : Int) : Bool := decide (-1152921504606846976 ≤ n) && decide (n ≤ 1152921504606846976)
def fitsE (V : List El) : Bool := decide (∀ i, i < V.length → fitB (eg V i).2.2 = true)
theorem fits_end {V : List El} {r : Int} (h : 0 ≤ r ↔ ∃ i, i < V.length ∧ fitB (eg V i).2.2 = false) : oneOf [AV.bool (decide (((0 : Nat) : Int) ≤ r))] = .bool (!(fitsE V)) := by
 show AV.bool _ = _
 unfold fitsE
 rw [← decide_not, AV.bool.injEq, decide_eq_decide]
 constructor
 ·intro g hall
  obtain ⟨i, hi, hf⟩ := h.1 (by simpa using g)
  rw [hall i hi] at hf
  cases hf
 ·intro g
  have : 0 ≤ r := h.2 (Classical.byContradiction fun hn => g fun i hi => by
   cases hb : fitB (eg V i).2.2 with
   | true => rfl
   | false => exact absurd ⟨i, hi, hb⟩ hn)
  simpa using this
def SIn (hs : HSt) (N : List (List Nat)) (v : AV) : Prop := (v = .nils ∧ N = []) ∨ ∃ b sz ex, v = .slice b 0 N.length 1 ∧ MemH hs b ⟨sz, ex, N.map AV.str⟩
theorem SIn.mono {hs hs' : HSt} {N : List (List Nat)} {v : AV} (hm : ∀ b o, MemH hs b o → MemH hs' b o) (h : SIn hs N v) : SIn hs' N v := h.imp id fun ⟨b, sz, ex, h1, h2⟩ => ⟨b, sz, ex, h1, hm _ _ h2⟩
theorem SIn.len {hs : HSt} {N : List (List Nat)} {v : AV} {e : Nat} (h : SIn hs N v) : lenA (.slice e) v = some N.length := by
 rcases h with ⟨rfl, rfl⟩ | ⟨b, sz, ex, rfl, _⟩ <;> rfl
theorem SIn.full {hs : HSt} {N : List (List Nat)} {v : AV} (h : SIn hs N v) (hl : 0 < N.length) : ∃ b sz ex, v = .slice b 0 N.length 1 ∧ MemH hs b ⟨sz, ex, N.map AV.str⟩ := by
 rcases h with ⟨_, rfl⟩ | h
 ·simp at hl
 ·exact h
def SBd (N : List (List Nat)) : Prop := N.length ≤ 1048576 ∧ ∀ x ∈ N, Bytes x
theorem SBd.at {N : List (List Nat)} (h : SBd N) {i : Nat} (hi : i < N.length) : Bytes (N.getD i []) := by
 refine h.2 _ ?_
 rw [List.getD_eq_getElem?_getD, List.getElem?_eq_getElem hi]
 exact List.getElem_mem hi
theorem strs_at {L : List (List Nat)} {i : Nat} (h : i < L.length) : (L.map AV.str)[(0 + i) * 1]? = some (.str (L.getD i [])) := by
 rw [Nat.zero_add, Nat.mul_one, List.getElem?_map, List.getD_eq_getElem?_getD, List.getElem?_eq_getElem h]; rfl
theorem sn_yes {N : List (List Nat)} {i : Nat} {x : List Nat} (hi : i < N.length) (h : N.getD i [] = x) : x ∈ N := by
 rw [List.getD_eq_getElem?_getD, List.getElem?_eq_getElem hi] at h
 have h : N[i] = x := h
 rw [← h]; exact List.getElem_mem hi
theorem sn_no {N : List (List Nat)} {x : List Nat} (h : ∀ j, j < N.length → N.getD j [] ≠ x) : ¬ x ∈ N := by
 intro hm
 obtain ⟨j, hj, e⟩ := List.getElem_of_mem hm
 refine h j hj ?_
 rw [List.getD_eq_getElem?_getD, List.getElem?_eq_getElem hj]; exact e
theorem take_lab {A : List Lab} {i : Nat} (h : i < A.length) : A.take (i + 1) = A.take i ++ [lg A i] := by
 rw [List.take_add_one, List.getElem?_eq_getElem h]
 unfold lg
 rw [List.getD_eq_getElem?_getD, List.getElem?_eq_getElem h]; rfl
theorem filt_yes {A : List Lab} {p : Lab → Bool} {i : Nat} (h : i < A.length) (hp : p (lg A i) = true) : (A.take (i + 1)).filter p = (A.take i).filter p ++ [lg A i] := by
 rw [take_lab h, List.filter_append]; simp [hp]
theorem filt_no {A : List Lab} {p : Lab → Bool} {i : Nat} (h : i < A.length) (hp : p (lg A i) = false) : (A.take (i + 1)).filter p = (A.take i).filter p := by
 rw [take_lab h, List.filter_append]; simp [hp]
theorem filt_len (A : List Lab) (p : Lab → Bool) (i : Nat) : ((A.take i).filter p).length ≤ A.length := Nat.le_trans (List.length_filter_le _ _) (by rw [List.length_take]; omega)
theorem lchk_spec (hs : HSt) (hro : ∀ e ∈ hs, e.w = false) (A : List Lab) (va : AV) (ha : LIn hs A va) (hA : LBd A) : Spec tab 109 [va] [] hs (Val (.int .i64 ((lchk A : Nat) : Int))) := by
 have hAl := hA.1
 refine Spec.en (ftg 109 Tryz.func109) rfl (m := 44) rfl (rs := [.tmp 2]) rfl (st := [(0, va)]) rfl rfl (fun _ => rfl) (fun E => zr (za (zi 0) (zk (W.seq (zr (zm rfl (zq (Q.len ud33 rfl (LIn.len ha)) (zq (Q.bin rfl (zi 8) rfl (bv_gtr ltn)) (zk (W.cD rfl (fun hc7 => ?_) (fun hc7 => ?_)))))))))))
 ·refine zr (za (zi 3) (zk (W.ret (End.Kr (End.rV (z1 rfl) ?_)))))
  show AV.int .i64 _ = _; rw [lchk_big zy]
 refine zw (W.seq (zr (zm rfl (zq (Q.len ud33 rfl (LIn.len ha)) (zq (Q.move (zi 0)) (zk (W.block (W.loop_ind (fun (i : Nat) => [(0, va), (8, va), (9, .int .i64 ((A.length : Nat) : Int)), (10, .int .i64 ((i : Nat) : Int))]) (fun _ => _) (fun (i : Nat) => i ≤ A.length ∧ lchk A = lchkG A (A.length - i) i) (fun (i : Nat) => A.length - i) (0) ⟨Nat.zero_le _, lchk_go zy⟩ zv (SubH.refl _) (fun i hI0 ih0 => ?_)))))))))
 obtain ⟨h1, h3⟩ := hI0
 refine zr (zq (Q.bin rfl rfl rfl (bvl ltn)) (zk (W.seq (W.cD rfl (fun hc11 => ?_) (fun hc11 => ?_)))))
 ·obtain ⟨ba, sza, exa, rfl, wa, ma⟩ := LIn.full ha zy
  refine zw (W.seq (W.block (zr (zm rfl (zq (Q.iS ud33 sz68 rfl rfl zo) (zq (Q.loadN rfl ma ag68 sz68 (cL_at zo)) (WO.alloc ao68 rfl (fun b1 => za rfl (WO.store sz68 rfl rfl (i := 0) rfl rfl (cs := [_, _]) rfl (hs' := _ :: _) rfl (zk (W.block (zr (zf fa68_0 rfl 0 (zq (Q.l1 rfl (zt 0 rfl) ag9 rfl) (WO.cV rfl (oLc rfl oz) rfl (name_spec _ (hA.at zo).1 (hA.at zo).2.2.1) SubR.nil rfl (zq (Q.not rfl rfl) (za rfl (zk (W.condS rfl (fun hc15 => ?_) (fun hc15 => ?_))))))))))))))))))))
  ·refine zr (za (zi 8) (zk (W.sub (zc 2 rfl zzn) (W.ret (End.Br (End.Br (End.Kr (End.Lr (End.Br (End.Kr (End.rV (z1 rfl) ?_)))))))))))
   show AV.int .i64 _ = _; rw [h3, lchk_hit (e := 8) zy (by unfold lchk1; simp_all <;> omega) (by decide)]
  refine zr (zf fa68_1 rfl 1 (zq (Q.l1 rfl (zt 0 rfl) ag9 rfl) (zq (Q.bin rfl (oc (v := .str []) (by kernel_rfl)) rfl bv_seql) (za rfl (zk (W.cD rfl (fun hc20 => ?_) (fun hc20 => ?_)))))))
  ·refine zr (za (zi 2) (zk (W.sub (zc 2 rfl zzn) (W.ret (End.Br (End.Br (End.Kr (End.Lr (End.Br (End.Kr (End.rV (z1 rfl) ?_)))))))))))
   show AV.int .i64 _ = _; rw [h3, lchk_hit (e := 2) zy (by unfold lchk1; simp_all <;> omega) (by decide)]
  refine zr (zf fa68_1 rfl 1 (zq (Q.l1 rfl (zt 0 rfl) ag9 rfl) (zq (Q.len ud9 rfl rfl) (zq (Q.bin rfl (zi 64) rfl (bv_gtr ltn)) (za rfl (zk (W.sub (zc 24 rfl (zc 3 rfl (zc 4 rfl (zc 0 rfl (zc 8 rfl (zc 9 rfl (zc 10 rfl zzn))))))) (W.cD rfl (fun hc24 => ?_) (fun hc24 => ?_)))))))))
  ·refine zr (za (zi 3) (zk (W.ret (End.Br (End.Br (End.Kr (End.Lr (End.Br (End.Kr (End.rV (z1 rfl) ?_))))))))))
   show AV.int .i64 _ = _; rw [h3, lchk_hit (e := 3) zy (by unfold lchk1; simp_all <;> omega) (by decide)]
  refine W.seq (W.regT (by kernel_rfl) (zm rfl (zq (Q.bin rfl (zi 0) rfl (bv_gtr ltn)) (zm rfl (WO.sD (d := 32) rfl (fun hc32 => ?_) (fun hc32 => ?_))))))
  ·refine WO.gT rfl rfl (zf fa68_0 rfl 0 (WO.gT rfl rfl (zq (Q.l1 rfl (zt 0 rfl) ag9 rfl) (WO.gT rfl rfl (zm rfl (WO.gT rfl rfl (zm rfl (WO.gT rfl rfl (zq (Q.bin rfl (zi 1) rfl (bv_sub (wns zo))) (WO.gT rfl rfl (zq (Q.iS ud33 sz68 rfl rfl zo) (WO.gT rfl rfl (zq (Q.fieldAddr fa68_0 rfl rfl) (WO.gT rfl rfl (zq (Q.l1 rfl (List.mem_cons_of_mem _ ma) ag9 (cL_f0 zo)) (WO.gT rfl rfl (zq (Q.bin rfl rfl rfl bv_sleqB) (zq (Q.pT rfl rfl) (za rfl (zk (W.sub (zc 29 rfl (zc 0 rfl (zc 8 rfl (zc 9 rfl (zc 10 rfl zzn))))) (W.condS rfl (fun hc29 => ?_) (fun hc29 => ?_)))))))))))))))))))))))
   ·refine zr (za (zi 13) (zk (W.ret (End.Br (End.Br (End.Kr (End.Lr (End.Br (End.Kr (End.rV (z1 rfl) ?_))))))))))
    show AV.int .i64 _ = _; rw [h3, lchk_hit (e := 13) zy (by unfold lchk1; simp_all <;> omega) (by decide)]
   refine W.skip (End.KB (End.KB (End.K (W.reg (zq (Q.bin rfl (zi 1) rfl zp) (zm rfl (WO.nil (End.KL (W.sub zv (W.sH (SubH.of_sublist (by simp)) (ih0 (i + 1) ?_ ?_)))))))))))
   ·exact ⟨by omega, by rw [h3, lchk_next zy (by unfold lchk1; simp_all <;> omega)]⟩
   exact zo
  refine zg rfl rfl (zg rfl rfl (zg rfl rfl (zg rfl rfl (zg rfl rfl (zg rfl rfl (zg rfl rfl (zg rfl rfl (zg rfl rfl (zq (Q.pF rfl rfl) (za rfl (zk (W.sub (zc 29 rfl (zc 0 rfl (zc 8 rfl (zc 9 rfl (zc 10 rfl zzn))))) (W.condF rfl (W.skip (End.KB (End.KB (End.K (W.reg (zq (Q.bin rfl (zi 1) rfl zp) (zm rfl (WO.nil (End.KL (W.sub zv (W.sH (SubH.of_sublist (by simp)) (ih0 (i + 1) ?_ ?_)))))))))))))))))))))))))
  ·exact ⟨by omega, by rw [h3, lchk_next zy (by unfold lchk1; simp_all <;> omega)]⟩
  exact zo
 refine W.exit (End.Kx (End.Lx (End.Bh (End.K (zr (za (zi 0) (zk (W.ret (End.rV (z1 rfl) ?_)))))))))
 show AV.int .i64 _ = _; rw [h3, lchk_done zy]

theorem rlchk_spec (hs : HSt) (hro : ∀ e ∈ hs, e.w = false) (A : List Lab) (va : AV) (ha : LIn hs A va) (hA : LBd A) : Spec tab 114 [va] [] hs (Val (.int .i64 ((lchk A : Nat) : Int))) := by
 have hAl := hA.1
 refine Spec.en (ftg 114 Tryz.func114) rfl (m := 49) rfl (rs := [.tmp 2]) rfl (st := [(0, va)]) rfl rfl (fun _ => rfl) (fun E => zr (za (zi 0) (zk (W.seq (zr (zm rfl (zq (Q.len ud33 rfl (LIn.len ha)) (zq (Q.bin rfl (zi 8) rfl (bv_gtr ltn)) (zk (W.cD rfl (fun hc6 => ?_) (fun hc6 => ?_)))))))))))
 ·refine zr (za (zi 3) (zk (W.ret (End.Kr (End.rV (z1 rfl) ?_)))))
  show AV.int .i64 _ = _; rw [lchk_big zy]
 refine zw (W.seq (zr (za (zi 0) (zk (W.block (W.loop_ind (fun (i : Nat) => [(0, va), (3, .int .i64 ((i : Nat) : Int))]) (fun _ => _) (fun (i : Nat) => i ≤ A.length ∧ lchk A = lchkG A (A.length - i) i) (fun (i : Nat) => A.length - i) (0) ⟨Nat.zero_le _, lchk_go zy⟩ zv (SubH.refl _) (fun i hI0 ih0 => ?_)))))))
 obtain ⟨h1, h3⟩ := hI0
 refine W.seq (zr (zm rfl (zm rfl (zq (Q.len ud33 rfl (LIn.len ha)) (zq (Q.bin rfl rfl rfl (bvl ltn)) (zk (W.cD rfl (fun hc10 => ?_) (fun hc10 => ?_))))))))
 ·obtain ⟨ba, sza, exa, rfl, wa, ma⟩ := LIn.full ha zy
  refine zw (W.seq (W.block (W.seq (zr (zm rfl (zm rfl (zq (Q.iS ud33 sz68 rfl rfl zo) (zq (Q.fieldAddr fa68_0 rfl rfl) (zq (Q.l1 rfl ma ag9 (cL_f0 zo)) (WO.cV rfl (oLc rfl oz) rfl (rname_spec _ (hA.at zo).1 (hA.at zo).2.2.1) SubR.nil rfl (zq (Q.not rfl rfl) (zk (W.condS rfl (fun hc19 => ?_) (fun hc19 => ?_))))))))))))))
  ·refine zr (za (zi 8) (zk (W.ret (End.Kr (End.Br (End.Kr (End.Lr (End.Br (End.Kr (End.rV (z1 rfl) ?_))))))))))
   show AV.int .i64 _ = _; rw [h3, lchk_hit (e := 8) zy (by unfold lchk1; simp_all <;> omega) (by decide)]
  refine zw (W.seq (zr (zm rfl (zm rfl (zq (Q.iS ud33 sz68 rfl rfl zo) (zq (Q.fieldAddr fa68_1 rfl rfl) (zq (Q.l1 rfl ma ag9 (cL_f1 zo)) (zq (Q.bin rfl (oc (v := .str []) (by kernel_rfl)) rfl bv_seql) (zk (W.sub (zc 25 rfl (zc 0 rfl (zc 3 rfl zzn))) (W.cD rfl (fun hc25 => ?_) (fun hc25 => ?_))))))))))))
  ·refine zr (za (zi 2) (zk (W.ret (End.Kr (End.Br (End.Kr (End.Lr (End.Br (End.Kr (End.rV (z1 rfl) ?_))))))))))
   show AV.int .i64 _ = _; rw [h3, lchk_hit (e := 2) zy (by unfold lchk1; simp_all <;> omega) (by decide)]
  refine zw (W.seq (zr (zm rfl (zm rfl (zq (Q.iS ud33 sz68 rfl rfl zo) (zq (Q.fieldAddr fa68_1 rfl rfl) (zq (Q.l1 rfl ma ag9 (cL_f1 zo)) (zq (Q.len ud9 rfl rfl) (zq (Q.bin rfl (zi 64) rfl (bv_gtr ltn)) (zk (W.cD rfl (fun hc32 => ?_) (fun hc32 => ?_))))))))))))
  ·refine zr (za (zi 3) (zk (W.ret (End.Kr (End.Br (End.Kr (End.Lr (End.Br (End.Kr (End.rV (z1 rfl) ?_))))))))))
   show AV.int .i64 _ = _; rw [h3, lchk_hit (e := 3) zy (by unfold lchk1; simp_all <;> omega) (by decide)]
  refine zw (W.seq (W.regT (by kernel_rfl) (zm rfl (zq (Q.bin rfl (zi 0) rfl (bv_gtr ltn)) (zm rfl (WO.sD (d := 35) rfl (fun hc35 => ?_) (fun hc35 => ?_)))))))
  ·refine WO.gT rfl rfl (zm rfl (WO.gT rfl rfl (zm rfl (WO.gT rfl rfl (zq (Q.iS ud33 sz68 rfl rfl zo) (WO.gT rfl rfl (zq (Q.fieldAddr fa68_0 rfl rfl) (WO.gT rfl rfl (zq (Q.l1 rfl ma ag9 (cL_f0 zo)) (WO.gT rfl rfl (zm rfl (WO.gT rfl rfl (zm rfl (WO.gT rfl rfl (zq (Q.bin rfl (zi 1) rfl (bv_sub (wns zo))) (WO.gT rfl rfl (zq (Q.iS ud33 sz68 rfl rfl zo) (WO.gT rfl rfl (zq (Q.fieldAddr fa68_0 rfl rfl) (WO.gT rfl rfl (zq (Q.l1 rfl ma ag9 (cL_f0 zo)) (WO.gT rfl rfl (zq (Q.bin rfl rfl rfl bv_sleqB) ?_)))))))))))))))))))))))
   refine zq (Q.pT rfl rfl) (zk (W.sub (zc 48 rfl (zc 0 rfl (zc 3 rfl zzn))) (W.condS rfl (fun hc48 => ?_) (fun hc48 => ?_))))
   ·refine zr (za (zi 13) (zk (W.ret (End.Br (End.Kr (End.Lr (End.Br (End.Kr (End.rV (z1 rfl) ?_)))))))))
    show AV.int .i64 _ = _; rw [h3, lchk_hit (e := 13) zy (by unfold lchk1; simp_all <;> omega) (by decide)]
   refine W.skip (End.KB (End.K (W.reg (zm rfl (zq (Q.bin rfl (zi 1) rfl zp) (za rfl (WO.nil (End.KL (W.sub zv (W.sH (SubH.of_sublist (by simp)) (ih0 (i + 1) ?_ ?_)))))))))))
   ·exact ⟨by omega, by rw [h3, lchk_next zy (by unfold lchk1; simp_all <;> omega)]⟩
   exact zo
  refine zg rfl rfl (zg rfl rfl (zg rfl rfl (zg rfl rfl (zg rfl rfl (zg rfl rfl (zg rfl rfl (zg rfl rfl (zg rfl rfl (zg rfl rfl (zg rfl rfl (zg rfl rfl (zq (Q.pF rfl rfl) (zk (W.sub (zc 48 rfl (zc 0 rfl (zc 3 rfl zzn))) (W.condF rfl (W.skip (End.KB (End.K (W.reg (zm rfl (zq (Q.bin rfl (zi 1) rfl zp) (za rfl (WO.nil (End.KL ?_))))))))))))))))))))))))
  refine W.sub zv (W.sH (SubH.of_sublist (by simp)) (ih0 (i + 1) ?_ ?_))
  ·exact ⟨by omega, by rw [h3, lchk_next zy (by unfold lchk1; simp_all <;> omega)]⟩
  exact zo
 refine W.exit (End.Kx (End.Lx (End.Bh (End.K (zr (za (zi 0) (zk (W.ret (End.rV (z1 rfl) ?_)))))))))
 show AV.int .i64 _ = _; rw [h3, lchk_done zy]

theorem fits_spec (n : Int) : Spec tab 30 [.int .i64 n] [] [] (Val (.bool (fitB n))) := by
 refine Spec.en (ftg 30 Tryz.func30) rfl (m := 9) rfl (rs := [.tmp 2]) rfl (st := [(0, .int .i64 n)]) rfl rfl (fun _ => rfl) (fun E => zr (za rfl (zk (zr (zm rfl (zq (Q.bin rfl rfl rfl (bv_leq le_int)) (zm rfl (WO.sD (d := 5) rfl (fun hc5 => ?_) (fun hc5 => ?_)))))))))
 ·refine WO.gT rfl rfl (zm rfl (WO.gT rfl rfl (zq (Q.bin rfl (zi 1152921504606846976) rfl (bv_leq le_int)) (zq (Q.pT rfl rfl) (za rfl (zk (W.ret (End.rV (z1 rfl) ?_))))))))
  first | (simp_all [one1, fitB]; done) | (simp_all [one1, fitB]; omega)
 refine zg rfl rfl (zg rfl rfl (zq (Q.pF rfl rfl) (za rfl (zk (W.ret (End.rV (z1 rfl) ?_))))))
 first | (simp_all [one1, fitB]; done) | (simp_all [one1, fitB]; omega)

theorem rfits_spec (n : Int) : Spec tab 36 [.int .i64 n] [] [] (Val (.bool (fitB n))) := by
 refine Spec.en (ftg 36 Tryz.func36) rfl (m := 9) rfl (rs := [.tmp 2]) rfl (st := [(0, .int .i64 n)]) rfl rfl (fun _ => rfl) (fun E => zr (za rfl (zk (zr (zm rfl (zq (Q.bin rfl rfl rfl (bv_geq le_int)) (zm rfl (WO.sD (d := 5) rfl (fun hc5 => ?_) (fun hc5 => ?_)))))))))
 ·refine WO.gT rfl rfl (zm rfl (WO.gT rfl rfl (zq (Q.bin rfl (zi 1152921504606846976) rfl (bv_leq le_int)) (zq (Q.pT rfl rfl) (za rfl (zk (W.ret (End.rV (z1 rfl) ?_))))))))
  first | (simp_all [one1, fitB]; done) | (simp_all [one1, fitB]; omega)
 refine zg rfl rfl (zg rfl rfl (zq (Q.pF rfl rfl) (za rfl (zk (W.ret (End.rV (z1 rfl) ?_))))))
 first | (simp_all [one1, fitB]; done) | (simp_all [one1, fitB]; omega)

theorem ck1_spec (lv : AV) (n : Int) (hlv : lv.isCell = true) : Spec tab 74 [.agg [lv, .int .i64 n]] [] [] (Val (.bool (!(fitB n)))) := by
 refine Spec.en (ftg 74 Tryz.func74) rfl (m := 7) rfl (rs := [.tmp 2]) rfl (st := [(0, .agg [lv, .int .i64 n])]) rfl rfl (fun _ => rfl) (fun E => zr (WO.box rfl (by simp [AV.cells, AV.isCell] at hlv ⊢; exact hlv) (bx35 _ rfl) rfl (fun b1 => za rfl (zk (zr (zf fa35_1 rfl 1 (zq (Q.l1 rfl (zt 0 rfl) ag3 rfl) (WO.cV rfl (oLc rfl oz) rfl (fits_spec _) SubR.nil rfl (zq (Q.not rfl rfl) (za rfl (zk (W.ret (End.rV (z1 rfl) ?_)))))))))))))
 rfl

theorem idxf_spec (hs : HSt) (hro : ∀ e ∈ hs, e.w = false) (V : List El) (v : AV) (hV : EIn hs V v) (hB : EBd V) : Spec tab 110 [v, .func 74 []] [] hs (ValE (fun u => ∃ r : Int, u = .int .i64 r ∧ (0 ≤ r ↔ ∃ i, i < V.length ∧ fitB (eg V i).2.2 = false))) := by
 have hBl := hB.1
 refine Spec.en (ftg 110 Tryz.func110) rfl (m := 19) rfl (rs := [.tmp 4]) rfl (st := [(0, v), (1, .func 74 [])]) rfl rfl (fun _ => rfl) (fun E => zr (za (zi 0) (zk (W.seq (zr (zm rfl (zq (Q.len ud22 rfl (EIn.len hV)) (zq (Q.move (zi 0)) (zk (W.block (W.loop_ind (fun (i : Nat) => [(0, v), (1, .func 74 []), (7, .int .i64 ((V.length : Nat) : Int)), (8, .int .i64 ((i : Nat) : Int))]) (fun _ => _) (fun (i : Nat) => i ≤ V.length ∧ ∀ j, j < i → fitB (eg V j).2.2 = true) (fun (i : Nat) => V.length - i) (0) ⟨Nat.zero_le _, fun j h => by omega⟩ zv (SubH.refl _) (fun i hI0 ih0 => ?_))))))))))))
 obtain ⟨hi, hno⟩ := hI0
 refine zr (zq (Q.bin rfl rfl rfl (bvl ltn)) (zk (W.seq (W.cD rfl (fun hc9 => ?_) (fun hc9 => ?_)))))
 ·obtain ⟨bv, szv, exv, rfl, wv, mv⟩ := EIn.full hV zy
  refine zw (W.seq (W.block (zr (zm rfl (za rfl (zk (zr (zm rfl (zm rfl (zm rfl (zq (Q.iS ud22 sz35 rfl rfl zo) (zq (Q.loadN rfl mv ag35 sz35 (cE_at zo)) (WO.cV rfl (oLc rfl oz) rfl (ck1_spec _ _ (LIn.cell (hV.at zo))) SubR.nil rfl (zk (W.condS rfl (fun hc16 => ?_) (fun hc16 => ?_))))))))))))))))
  ·refine zr (zm rfl (za rfl (zk (W.sub (zc 4 rfl zzn) (W.ret (End.Br (End.Kr (End.Lr (End.Br (End.Kr (End.retE (z1 rfl) ?_)))))))))))
   exact ⟨_, rfl, by constructor; intro _; exact ⟨i, by omega, by simpa using hc16⟩; intro _; omega⟩
  refine W.skip (End.KB (End.K (W.reg (zq (Q.bin rfl (zi 1) rfl zp) (zm rfl (WO.nil (End.KL (W.sub zv (ih0 (i + 1) ?_ ?_)))))))))
  ·exact ⟨by omega, fun j h => by rcases Nat.lt_or_ge j i with g | g; exact hno j g; have hji : j = i := zy; subst hji; simpa using hc16⟩
  exact zo
 refine W.exit (End.Kx (End.Lx (End.Bh (End.K (zr (za rfl (zk (W.ret (End.retE (z1 rfl) ?_)))))))))
 exact ⟨_, rfl, by constructor; intro h; omega; rintro ⟨j, hj, hf⟩; rw [hno j zy] at hf; cases hf⟩

theorem ctf_spec (hs : HSt) (hro : ∀ e ∈ hs, e.w = false) (V : List El) (v : AV) (hV : EIn hs V v) (hB : EBd V) : Spec tab 73 [v, .func 74 []] [] hs (Val (.bool (!(fitsE V)))) := by
 refine Spec.en (ftg 73 Tryz.func73) rfl (m := 9) rfl (rs := [.tmp 4]) rfl (st := [(0, v), (1, .func 74 [])]) rfl rfl (fun _ => rfl) (fun E => zr (za rfl (zk (zr (zm rfl (zm rfl (WO.callE rfl (oLc rfl (oLc rfl oz)) rfl (idxf_spec hs hro V _ hV hB) (SubR.s hro) rfl (fun v7 hP7 => ?_))))))))
 obtain ⟨r, rfl, hr⟩ := hP7
 refine zq (Q.bin rfl (zi 0) rfl (bv_geq le_int)) (za rfl (zk (W.ret (End.rV (z1 rfl) ?_))))
 exact fits_end hr

theorem idx_spec (hs : HSt) (hro : ∀ e ∈ hs, e.w = false) (N : List (List Nat)) (vn : AV) (hN : SIn hs N vn) (hNb : SBd N) (x : List Nat) (hx : Bytes x) : Spec tab 146 [vn, .str x] [] hs (ValE (fun u => ∃ r : Int, u = .int .i64 r ∧ (0 ≤ r ↔ x ∈ N))) := by
 have hNl := hNb.1
 refine Spec.en (ftg 146 Tryz.func146) rfl (m := 19) rfl (rs := [.tmp 4]) rfl (st := [(0, vn), (1, .str x)]) rfl rfl (fun _ => rfl) (fun E => zr (za (zi 0) (zk (W.seq (zr (zm rfl (zq (Q.len ud40 rfl (SIn.len hN)) (zq (Q.move (zi 0)) (zk (W.block (W.loop_ind (fun (i : Nat) => [(0, vn), (1, .str x), (7, .int .i64 ((N.length : Nat) : Int)), (8, .int .i64 ((i : Nat) : Int))]) (fun _ => _) (fun (i : Nat) => i ≤ N.length ∧ ∀ j, j < i → N.getD j [] ≠ x) (fun (i : Nat) => N.length - i) (0) ⟨Nat.zero_le _, fun j h => by omega⟩ zv (SubH.refl _) (fun i hI0 ih0 => ?_))))))))))))
 obtain ⟨hi, hno⟩ := hI0
 refine zr (zq (Q.bin rfl rfl rfl (bvl ltn)) (zk (W.seq (W.cD rfl (fun hc9 => ?_) (fun hc9 => ?_)))))
 ·obtain ⟨bn, szn, exn, rfl, wn, mn⟩ := SIn.full hN zy
  refine zw (W.seq (W.block (zr (zm rfl (za rfl (zk (zr (zm rfl (zm rfl (zm rfl (zq (Q.iS ud40 sz9 rfl rfl zo) (zq (Q.l1 rfl mn ag9 (strs_at zo)) (zq (Q.bin rfl rfl rfl bv_seql) (zk (W.cD rfl (fun hc16 => ?_) (fun hc16 => ?_))))))))))))))))
  ·refine zr (zm rfl (za rfl (zk (W.sub (zc 4 rfl zzn) (W.ret (End.Br (End.Kr (End.Lr (End.Br (End.Kr (End.retE (z1 rfl) ?_)))))))))))
   exact ⟨_, rfl, by constructor; intro _; exact sn_yes (i := i) zy (by simp_all); intro _; omega⟩
  refine W.skip (End.KB (End.K (W.reg (zq (Q.bin rfl (zi 1) rfl zp) (zm rfl (WO.nil (End.KL (W.sub zv (ih0 (i + 1) ?_ ?_)))))))))
  ·exact ⟨by omega, fun j h => by rcases Nat.lt_or_ge j i with g | g; exact hno j g; have hji : j = i := zy; subst hji; intro e; simp_all⟩
  exact zo
 refine W.exit (End.Kx (End.Lx (End.Bh (End.K (zr (za rfl (zk (W.ret (End.retE (z1 rfl) ?_)))))))))
 exact ⟨_, rfl, by constructor; intro h; omega; intro h; exact absurd h (sn_no (fun j hj => hno j zy))⟩

theorem ctn_spec (hs : HSt) (hro : ∀ e ∈ hs, e.w = false) (N : List (List Nat)) (vn : AV) (hN : SIn hs N vn) (hNb : SBd N) (x : List Nat) (hx : Bytes x) : Spec tab 117 [vn, .str x] [] hs (Val (.bool (decide (x ∈ N)))) := by
 refine Spec.en (ftg 117 Tryz.func117) rfl (m := 9) rfl (rs := [.tmp 4]) rfl (st := [(0, vn), (1, .str x)]) rfl rfl (fun _ => rfl) (fun E => zr (za rfl (zk (zr (zm rfl (zm rfl (WO.callE rfl (oLc rfl (oLc rfl oz)) rfl (idx_spec hs hro N _ hN hNb _ hx) (SubR.s hro) rfl (fun v7 hP7 => ?_))))))))
 obtain ⟨r, rfl, hr⟩ := hP7
 refine zq (Q.bin rfl (zi 0) rfl (bv_geq le_int)) (za rfl (zk (W.ret (End.rV (z1 rfl) ?_))))
 exact congrArg AV.bool (decide_eq_decide.2 hr)

theorem has_spec (hs : HSt) (hro : ∀ e ∈ hs, e.w = false) (N : List (List Nat)) (vn : AV) (hN : SIn hs N vn) (hNb : SBd N) (x : List Nat) (hx : Bytes x) : Spec tab 119 [vn, .str x] [] hs (Val (.bool (decide (x ∈ N)))) := by
 have hNl := hNb.1
 refine Spec.en (ftg 119 Tryz.func119) rfl (m := 18) rfl (rs := [.tmp 4]) rfl (st := [(0, vn), (1, .str x)]) rfl rfl (fun _ => rfl) (fun E => zr (za rfl (zk (W.seq (zr (za (zi 0) (zk (W.block (W.loop_ind (fun (i : Nat) => [(0, vn), (1, .str x), (5, .int .i64 ((i : Nat) : Int))]) (fun _ => _) (fun (i : Nat) => i ≤ N.length ∧ ∀ j, j < i → N.getD j [] ≠ x) (fun (i : Nat) => N.length - i) (0) ⟨Nat.zero_le _, fun j h => by omega⟩ zv (SubH.refl _) (fun i hI0 ih0 => ?_))))))))))
 obtain ⟨hi, hno⟩ := hI0
 refine W.seq (zr (zm rfl (zm rfl (zq (Q.len ud40 rfl (SIn.len hN)) (zq (Q.bin rfl rfl rfl (bvl ltn)) (zk (W.cD rfl (fun hc9 => ?_) (fun hc9 => ?_))))))))
 ·obtain ⟨bn, szn, exn, rfl, wn, mn⟩ := SIn.full hN zy
  refine zw (W.seq (W.block (zr (zm rfl (zm rfl (zq (Q.iS ud40 sz9 rfl rfl zo) (zq (Q.l1 rfl mn ag9 (strs_at zo)) (zm rfl (zq (Q.bin rfl rfl rfl bv_seql) (zk (W.cD rfl (fun hc17 => ?_) (fun hc17 => ?_))))))))))))
  ·refine zr (za rfl (zk (W.ret (End.Br (End.Kr (End.Lr (End.Br (End.Kr (End.rV (z1 rfl) ?_)))))))))
   exact congrArg AV.bool (decide_eq_true (sn_yes (i := i) zy (by simp_all))).symm
  refine W.skip (End.KB (End.K (W.reg (zm rfl (zq (Q.bin rfl (zi 1) rfl zp) (za rfl (WO.nil (End.KL (W.sub zv (ih0 (i + 1) ?_ ?_))))))))))
  ·exact ⟨by omega, fun j h => by rcases Nat.lt_or_ge j i with g | g; exact hno j g; have hji : j = i := zy; subst hji; intro e; simp_all⟩
  exact zo
 refine W.exit (End.Kx (End.Lx (End.Bh (End.K (zr (za rfl (zk (W.ret (End.rV (z1 rfl) ?_)))))))))
 exact congrArg AV.bool (decide_eq_false (sn_no (fun j hj => hno j zy))).symm

theorem drop1_spec (hs : HSt) (hro : ∀ e ∈ hs, e.w = false) (N : List (List Nat)) (vn : AV) (hN : SIn hs N vn) (hNb : SBd N) (b0 : Nat) (e0 : Bool) (m0 : MemH hs b0 ⟨1, e0, [vn]⟩) (a b : List Nat) (hx : Bytes a) (hy : Bytes b) : Spec tab 116 [.agg [.str a, .str b], .ptr b0 0] [] hs (Val (.bool (!(decide (a ∈ N))))) := by
 obtain ⟨w0, m0⟩ := m0
 refine Spec.en (ftg 116 Tryz.func116) rfl (m := 9) rfl (rs := [.tmp 3]) rfl (st := [(0, .agg [.str a, .str b]), (1, .ptr b0 0)]) rfl rfl (fun _ => rfl) (fun E => zr (WO.box rfl rfl (bx68 _ rfl) rfl (fun b1 => za rfl (zk (zr (zq (Q.l1 rfl (List.mem_cons_of_mem _ m0) ag40 rfl) (zf fa68_0 rfl 0 (zq (Q.l1 rfl (zt 0 rfl) ag9 rfl) (WO.cV rfl (oLc rfl (oLc rfl oz)) rfl (ctn_spec hs hro N _ hN hNb _ hx) (SubR.t (SubR.s hro)) rfl (zq (Q.not rfl not_dec) (za rfl (zk (W.ret (End.rV (z1 rfl) ?_))))))))))))))
 exact congrArg AV.bool decide_not

theorem those_spec (hs : HSt) (hro : ∀ e ∈ hs, e.w = false) (A : List Lab) (va : AV) (ha : LIn hs A va) (hA : LBd A) (p : Lab → Bool) (F : Nat) (caps : List AV) (hF : ∀ x : Lab, Bytes x.1 → Bytes x.2 → Spec tab F ([.agg [.str x.1, .str x.2]] ++ caps) [] hs (Val (.bool (p x)))) : Spec tab 115 [va, .func F caps] [] hs (fun v D => OwnE 2 (cL (A.filter p)) (A.filter p).length v D) := by
 have hAl := hA.1
 refine Spec.en (ftg 115 Tryz.func115) rfl (m := 23) rfl (rs := [.tmp 4]) rfl (st := [(0, va), (1, .func F caps)]) rfl rfl (fun _ => rfl) (fun E => zr (za rfl (zk (zr (za rfl (zk (W.seq (zr (zm rfl (zq (Q.len ud33 rfl (LIn.len ha)) (zq (Q.move (zi 0)) (zk (W.block (W.loop_ind3 (fun (i : Nat) (v : AV) (hp : HSt) => [(1, .func F caps), (5, v), (8, va), (9, .int .i64 ((A.length : Nat) : Int)), (10, .int .i64 ((i : Nat) : Int))]) (fun (i : Nat) (v : AV) (hp : HSt) => (hs ++ hp)) (fun (i : Nat) (v : AV) (hp : HSt) => i ≤ A.length ∧ OwnE 2 (cL ((A.take i).filter p)) ((A.take i).filter p).length v hp) (fun (i : Nat) (v : AV) (hp : HSt) => A.length - i) (0) (.nils) ([]) ⟨Nat.zero_le _, OwnE.nil 2⟩ zv app_nil_sub (fun i v hp hI0 ih0 => ?_)))))))))))))))
 obtain ⟨h1, hO⟩ := hI0
 refine zr (zq (Q.bin rfl rfl rfl (bvl ltn)) (zk (W.seq (W.cD rfl (fun hc11 => ?_) (fun hc11 => ?_)))))
 ·obtain ⟨ba, sza, exa, rfl, wa, ma⟩ := LIn.full ha zy
  refine zw (W.seq (W.block (zr (zq (Q.iS ud33 sz68 rfl rfl zo) (zq (Q.loadN rfl (List.mem_append_left _ ma) ag68 sz68 (cL_at zo)) (WO.alloc ao68 rfl (fun b1 => WO.store sz68 rfl rfl (i := 0) rfl rfl (cs := [_, _]) rfl (hs' := _ :: _) rfl (zk (zr (zm rfl (zq (Q.loadN rfl (zt 0 rfl) ag68 sz68 (l := [_, _]) rfl) (WO.cV rfl (oLc rfl oz) rfl (hF (lg A i) (hA.at zo).1 (hA.at zo).2.1) (SubR.t (SubR.appl (SubR.s hro))) rfl (zk (W.condS rfl (fun hc16 => ?_) (fun hc16 => ?_)))))))))))))))
  ·refine W.reg (zm rfl (zq (Q.loadN rfl (zt 0 rfl) ag68 sz68 (l := [_, _]) rfl) (WO.bslice ud33 sz68 zr68 rfl (opc rfl opn) rfl (cs := [_, _]) rfl rfl rfl (fun b2 => WO.appAny (A := ([_] ++ hs)) ap33_33 hO rfl rfl (Src.slice (zt 0 rfl) rfl) rfl (by have := filt_len A p i; omega) (by decide) (SubH.of_sublist (List.sublist_cons_self _ _)) rfl (fun v20 hp20 hO20 => za rfl (WO.nil (End.KB (End.K (W.reg (zq (Q.bin rfl (zi 1) rfl zp) (zm rfl (WO.nil (End.KL (W.sub zv (W.sH gc (ih0 (i + 1) (v20) (hp20) ?_ ?_))))))))))))))))
   ·exact ⟨by omega, by rw [filt_yes zy hc16, cL_append, List.length_append]; exact hO20⟩
   exact zo
  refine W.skip (End.KB (End.K (W.reg (zq (Q.bin rfl (zi 1) rfl zp) (zm rfl (WO.nil (End.KL (W.sub zv (W.sH gc (ih0 (i + 1) (v) (hp) ?_ ?_))))))))))
  ·exact ⟨by omega, by rw [filt_no zy hc16]; exact hO⟩
  exact zo
 refine W.exit (End.Kx (End.Lx (End.Bh (End.K (zr (zm rfl (za rfl (zk (W.ret ?_)))))))))
 refine End.ret (z1 rfl) (hs' := hp) (by rw [List.take_of_length_le zy] at hO; exact hO) (OwnE.w hO) gc
end Go.Proofs.YtmblgaehfjheeaaGreat.Ev
