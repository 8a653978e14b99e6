/- Labels and vectors in memory; which of two is ahead. -/
import Derived.Test.YtfkbfnpjggkdmaaGreatDoorOAwJ
import Derived.Test.YtfkbfnpjggkdmaaGreatDoorOFactsR
namespace Go.Proofs.YtfkbfnpjggkdmaaGreatDoor.Ev
open Go.RowKit
abbrev Lab := List Nat × List Nat
def cL (l : List Lab) : List AV := l.flatMap fun x => [.str x.1, .str x.2]
def lg (l : List Lab) (i : Nat) : Lab := l.getD i ([], [])
def LIn (hs : HSt) (l : List Lab) (v : AV) : Prop := (v = .nils ∧ l = []) ∨ ∃ b sz ex, v = .slice b 0 l.length 2 ∧ MemH hs b ⟨sz, ex, cL l⟩
theorem LIn.mono {hs hs' : HSt} {l : List Lab} {v : AV} (hm : ∀ b o, MemH hs b o → MemH hs' b o) (h : LIn hs l v) : LIn hs' l v := h.imp id fun ⟨b, sz, ex, h1, h2⟩ => ⟨b, sz, ex, h1, hm _ _ h2⟩
theorem LIn.len {hs : HSt} {l : List Lab} {v : AV} {e : Nat} (h : LIn hs l v) : lenA (.slice e) v = some l.length := by
 rcases h with ⟨rfl, rfl⟩ | ⟨b, sz, ex, rfl, _⟩ <;> rfl
theorem LIn.full {hs : HSt} {l : List Lab} {v : AV} (h : LIn hs l v) (hl : 0 < l.length) : ∃ b sz ex, v = .slice b 0 l.length 2 ∧ MemH hs b ⟨sz, ex, cL l⟩ := by
 rcases h with ⟨_, rfl⟩ | h
 ·simp at hl
 ·exact h
theorem LIn.cell {hs : HSt} {l : List Lab} {v : AV} (h : LIn hs l v) : v.isCell = true := by
 rcases h with ⟨rfl, _⟩ | ⟨b, sz, ex, rfl, _⟩ <;> rfl
def LBd (l : List Lab) : Prop := l.length ≤ 1048576 ∧ ∀ x ∈ l, Bytes x.1 ∧ Bytes x.2 ∧ x.1.length ≤ 1048576 ∧ x.2.length ≤ 1048576
theorem lg_mem {l : List Lab} {i : Nat} (h : i < l.length) : lg l i ∈ l := by
 unfold lg
 rw [List.getD_eq_getElem?_getD, List.getElem?_eq_getElem h]
 exact List.getElem_mem h
theorem LBd.at {l : List Lab} (h : LBd l) {i : Nat} (hi : i < l.length) : Bytes (lg l i).1 ∧ Bytes (lg l i).2 ∧ (lg l i).1.length ≤ 1048576 ∧ (lg l i).2.length ≤ 1048576 := h.2 _ (lg_mem hi)
theorem cL_cons (x : Lab) (l : List Lab) : cL (x :: l) = .str x.1 :: .str x.2 :: cL l := rfl
theorem cL_len (l : List Lab) : (cL l).length = l.length * 2 := by
 induction l with
 | nil => rfl
 | cons x l ih => rw [cL_cons, List.length_cons, List.length_cons, ih, List.length_cons]; omega
theorem cL_get : ∀ (l : List Lab) (i : Nat), i < l.length → (cL l)[i * 2]? = some (.str (lg l i).1) ∧ (cL l)[i * 2 + 1]? = some (.str (lg l i).2)
 | x :: l, 0, _ => ⟨rfl, rfl⟩
 | x :: l, i + 1, h => by
  have := cL_get l i (by simpa using h)
  have e : (i + 1) * 2 = i * 2 + 1 + 1 := by omega
  rw [cL_cons, e]
  exact this
theorem sub2 {cs : List AV} {o : Nat} {a b : AV} (h1 : cs[o]? = some a) (h2 : cs[o + 1]? = some b) : sub? cs o 2 = some [a, b] := by
 unfold sub?
 have hl := (List.getElem?_eq_some_iff.1 h2).1
 have e : Nat.ble (o + 2) cs.length = true := by rw [Nat.ble_eq]; omega
 simp only [e]
 congr 1
 apply List.ext_getElem?
 intro k
 rcases k with _ | _ | k
 ·simpa [List.getElem?_take, List.getElem?_drop] using h1
 ·simpa [List.getElem?_take, List.getElem?_drop] using h2
 ·simp [List.getElem?_take]; omega
theorem cL_at {l : List Lab} {i : Nat} (h : i < l.length) : sub? (cL l) ((0 + i) * 2) 2 = some [.str (lg l i).1, .str (lg l i).2] := by
 obtain ⟨h1, h2⟩ := cL_get l i h
 rw [Nat.zero_add]
 exact sub2 h1 h2
theorem cL_f0 {l : List Lab} {i : Nat} (h : i < l.length) : (cL l)[(0 + i) * 2 + 0]? = some (.str (lg l i).1) := by
 rw [Nat.zero_add]; exact (cL_get l i h).1
theorem cL_f1 {l : List Lab} {i : Nat} (h : i < l.length) : (cL l)[(0 + i) * 2 + 1]? = some (.str (lg l i).2) := by
 rw [Nat.zero_add]; exact (cL_get l i h).2
theorem ll_irrefl : ∀ x : List Nat, listLess x x = false
 | [] => rfl
 | a :: x => by unfold listLess; simp [ll_irrefl x]
theorem ll_cons (a b : Nat) (x y : List Nat) : listLess (a :: x) (b :: y) = (decide (a < b) || (decide (a = b) && listLess x y)) := by
 rw [listLess]
 by_cases e : a = b
 ·subst e; simp
 ·have h1 : Nat.beq a b = false := by
   cases hb : Nat.beq a b with
   | false => rfl
   | true => exact absurd (Nat.eq_of_beq_eq_true hb) e
  have h2 : Nat.blt a b = decide (a < b) := by
   cases hb : Nat.blt a b with
   | true => rw [Nat.blt_eq] at hb; simp [hb]
   | false =>
    have : ¬ a < b := fun h => by rw [← Nat.blt_eq, hb] at h; cases h
    simp [this]
  simp [h1, h2, e]
theorem ll_nil_r (x : List Nat) : listLess x [] = false := by cases x <;> rfl
theorem ll_trans : ∀ {x y z : List Nat}, listLess x y = true → listLess y z = true → listLess x z = true
 | x, [], z, h, _ => by rw [ll_nil_r] at h; cases h
 | x, _ :: _, [], _, h => by rw [ll_nil_r] at h; cases h
 | [], _ :: _, _ :: _, _, _ => rfl
 | a :: x, b :: y, c :: z, h, g => by
  rw [ll_cons] at h g ⊢
  simp only [Bool.or_eq_true, Bool.and_eq_true, decide_eq_true_eq] at h g ⊢
  rcases h with h | ⟨rfl, h⟩
  ·rcases g with g | ⟨rfl, g⟩
   ·exact .inl (by omega)
   ·exact .inl h
  ·rcases g with g | ⟨rfl, g⟩
   ·exact .inl g
   ·exact .inr ⟨rfl, ll_trans h g⟩
theorem ll_total : ∀ x y : List Nat, listLess x y = true ∨ x = y ∨ listLess y x = true
 | [], [] => .inr (.inl rfl)
 | [], _ :: _ => .inl rfl
 | _ :: _, [] => .inr (.inr rfl)
 | a :: x, b :: y => by
  rw [ll_cons, ll_cons]
  simp only [Bool.or_eq_true, Bool.and_eq_true, decide_eq_true_eq]
  rcases Nat.lt_trichotomy a b with h | rfl | h
  ·exact .inl (.inl h)
  ·rcases ll_total x y with h | rfl | h
   ·exact .inl (.inr ⟨rfl, h⟩)
   ·exact .inr (.inl rfl)
   ·exact .inr (.inr (.inr ⟨rfl, h⟩))
  ·exact .inr (.inr (.inl h))
theorem ll_asymm {x y : List Nat} (h : listLess x y = true) : listLess y x = false := by
 cases g : listLess y x with
 | false => rfl
 | true => have := ll_trans h g; rw [ll_irrefl] at this; cases this
def cmpT (x y : List Nat) : Int := if listLess x y = true then -1 else if listLess y x = true then 1 else 0
theorem cmpT_eq {x y : List Nat} : cmpT x y = 0 ↔ x = y := by
 unfold cmpT
 rcases ll_total x y with h | rfl | h
 ·have : x ≠ y := by rintro rfl; rw [ll_irrefl] at h; cases h
  simp [h, this]
 ·simp [ll_irrefl]
 ·have : x ≠ y := by rintro rfl; rw [ll_irrefl] at h; cases h
  simp [h, this, ll_asymm h]
theorem cmpT_three (x y : List Nat) : cmpT x y = -1 ∨ cmpT x y = 0 ∨ cmpT x y = 1 := by
 unfold cmpT
 cases listLess x y <;> cases listLess y x <;> simp
theorem gtr_ll (x y : List Nat) : (!(listLess x y || listBeq x y)) = listLess y x := by
 rw [eq_str]
 rcases ll_total x y with h | rfl | h
 ·simp [h, ll_asymm h]
 ·simp [ll_irrefl]
 ·have : x ≠ y := by rintro rfl; rw [ll_irrefl] at h; cases h
  simp [h, ll_asymm h, this]
theorem leq_ll (x y : List Nat) : (listLess x y || listBeq x y) = !(listLess y x) := by
 rw [← gtr_ll x y, Bool.not_not]
theorem bv_sgtr {tb : Tab} {t : TypeId} {x y : List Nat} : evBin tb .gtr t (.str x) (.str y) = some (.bool (listLess y x)) := by
 unfold evBin; simp only [strBin, gtr_ll]
theorem bv_sleqB {tb : Tab} {t : TypeId} {x y : List Nat} : evBin tb .leq t (.str x) (.str y) = some (.bool (!(listLess y x))) := by
 unfold evBin; simp only [strBin, leq_ll]
def cmp1 (x y : Lab) : Int := if cmpT x.1 y.1 ≠ 0 then cmpT x.1 y.1 else cmpT x.2 y.2
def cmpL : List Lab → List Lab → Int
 | [], [] => 0
 | [], _ :: _ => -1
 | _ :: _, [] => 1
 | x :: l, y :: m => if cmp1 x y ≠ 0 then cmp1 x y else cmpL l m
theorem cmp1_three (x y : Lab) : cmp1 x y = -1 ∨ cmp1 x y = 0 ∨ cmp1 x y = 1 := by
 unfold cmp1; split <;> exact cmpT_three _ _
theorem cmp1_eq {x y : Lab} : cmp1 x y = 0 ↔ x = y := by
 unfold cmp1
 split
 ·rename_i h
  constructor
  ·intro e; exact absurd e h
  ·rintro rfl; exact absurd (cmpT_eq.2 rfl) h
 ·rename_i h
  have h := cmpT_eq.1 (Classical.not_not.1 h)
  rw [cmpT_eq]
  obtain ⟨a, b⟩ := x
  obtain ⟨c, d⟩ := y
  simp at h ⊢
  simp [h]
theorem cmpL_three : ∀ x y : List Lab, cmpL x y = -1 ∨ cmpL x y = 0 ∨ cmpL x y = 1
 | [], [] => .inr (.inl rfl)
 | [], _ :: _ => .inl rfl
 | _ :: _, [] => .inr (.inr rfl)
 | x :: l, y :: m => by
  unfold cmpL
  split
  ·exact cmp1_three x y
  ·exact cmpL_three l m
theorem cmpL_eq : ∀ {x y : List Lab}, cmpL x y = 0 ↔ x = y
 | [], [] => by simp [cmpL]
 | [], _ :: _ => by simp [cmpL]
 | _ :: _, [] => by simp [cmpL]
 | x :: l, y :: m => by
  unfold cmpL
  split
  ·rename_i h
   constructor
   ·intro e; exact absurd e h
   ·intro e
    simp only [List.cons.injEq] at e
    exact absurd (cmp1_eq.2 e.1) h
  ·rename_i h
   have h := cmp1_eq.1 (Classical.not_not.1 h)
   rw [cmpL_eq (x := l) (y := m)]
   simp [h]
noncomputable section
variable {tb : Tab} {n : Nat} {E : Env} {s : St} {hs : HSt} {R : T AV → AHeap → Prop} {ops rest : List Oper} {d : Nat} {ty : TypeId} {pos : String} {aft : Array Edge} {t : TypeId}
def MS (tb : Tab) (t : Nat) : Option (Nat × List AV) :=
 match tb.und t with
 | some (.slice e) => match tb.tt.get e, tb.zero e with
  | some ti, some z => match Nat.ble ti.bytes 4096 && Nat.beq z.cells.length ti.size && Nat.blt 0 ti.size with
   | true => some (ti.size, z.cells)
   | false => none
  | _, _ => none
 | _ => none
theorem WO.mks {ol oc : Operand} {sz len cap : Nat} {zc : List AV} {k k' : IntKind} (hm : MS tb t = some (sz, zc)) (hl : oL s ol = some (.int k ((len : Nat) : Int))) (hc : oL s oc = some (.int k' ((cap : Nat) : Int))) (hle : len ≤ cap ∧ cap ≤ 1073741824) (hd : Nat.blt d n = true)
  (hk : ∀ b, WO tb n ops rest E ((d, .slice b 0 len sz) :: s) (⟨b, ⟨sz, true, repl cap zc⟩, true⟩ :: hs) R) : WO tb n ops (⟨some d, .makeSlice t ol oc, ty, pos, aft, none⟩ :: rest) E s hs R := by
 refine WO.l (s' := s) fun tm h ht hh => ?_
 refine ⟨.slice h.next 0 len sz, ⟨h.next + 1, h.objs.set h.next ⟨sz, true, repl cap zc⟩⟩, tm.set d (.slice h.next 0 len sz), ?_, putDst_at hd, hk h.next _ _ (ht.set d _) (hh.new _)⟩
 show Res.l (evMakeSlice tb tm h t ol oc) = _
 unfold MS at hm
 split at hm
 ·rename_i e hu
  split at hm
  ·rename_i ti z h1 h2
   split at hm
   ·rename_i hb
    simp only [Option.some.injEq, Prod.mk.injEq] at hm
    obtain ⟨rfl, rfl⟩ := hm
    unfold evMakeSlice
    have e1 : natOf (opnd tm ol) = some len := by rw [oL_ok ht hl]; rfl
    have e2 : natOf (opnd tm oc) = some cap := by rw [oL_ok ht hc]; rfl
    simp only [hu, e1, e2, h1, h2]
    simp only [Bool.and_eq_true, Nat.ble_eq, Nat.beq_eq, Nat.blt_eq] at hb
    have hb' : (Nat.ble ti.bytes 4096 && Nat.ble cap 1073741824 && Nat.ble len cap && Nat.beq z.cells.length ti.size && Nat.blt 0 ti.size) = true := by
     simp only [Bool.and_eq_true, Nat.ble_eq, Nat.beq_eq, Nat.blt_eq]
     exact ⟨⟨⟨⟨hb.1.1, hle.2⟩, hle.1⟩, hb.1.2⟩, hb.2⟩
    simp only [hb']
   ·cases hm
  ·cases hm
 ·cases hm
theorem WO.appIn {ox oy : Operand} {t2 sz i b0 len b o m : Nat} {tl : List Nat} {ob : AObj} {ex : Bool} {cells cs : List AV} {w : Bool} {l : List AV} {hs' : HSt} (ha : AP tb t t2 = some sz) (hx : oL s ox = some (.slice b0 0 len sz)) (hy : oL s oy = some (.slice b o m sz))
  (hi : hs[i]? = some ⟨b0, ⟨sz, ex, cells⟩, true⟩) (hm : ⟨b, ob, w⟩ ∈ hs) (hl : sub? ob.cells (o * sz) (m * sz) = some l) (hn : 0 < m ∧ len + m ≤ 1073741824) (hr : (0 + len + m) * sz ≤ cells.length) (hc : layL cells ((0 + len) * sz) l = cs)
  (hs_ : hs.set i ⟨b0, ⟨sz, ex, cs⟩, true⟩ = hs') (hd : Nat.blt d n = true) (hk : WO tb n ops rest E ((d, .slice b0 0 (len + m) sz) :: s) hs' R) :
  WO tb n ops (⟨some d, .call ⟨.builtin .append, #[ox, oy], (t :: t2 :: tl).toArray⟩, ty, pos, aft, none⟩ :: rest) E s hs R := by
 refine WO.l (s' := s) fun tm h ht hh => ?_
 subst hs_ hc
 refine ⟨.slice b0 0 (len + m) sz, ⟨h.next, h.objs.set b0 ⟨sz, ex, layL cells ((0 + len) * sz) l⟩⟩, tm.set d (.slice b0 0 (len + m) sz), ?_, putDst_at hd, hk _ _ (ht.set d _) (hh.put hi)⟩
 show Res.l (evAppend tb tm h #[ox, oy] (t :: t2 :: tl).toArray) = _
 unfold evAppend
 simp only [opnds, oL_ok ht hx, oL_ok ht hy]
 rw [appendA_of ha (cellsOf_slice (hh.at_ _ hm).1 hl)]
 unfold appendB
 have e0 : Nat.beq m 0 = false := by cases m with
  | zero => omega
  | succ m => rfl
 have e1 : (Nat.beq sz sz && Nat.ble (len + m) 1073741824) = true := by simp; omega
 simp only [e0, e1]
 unfold appendTo
 have h1 := (hh.at_ _ (mem_at hi)).1
 simp only at h1
 have e2 : Nat.beq sz sz = true := by simp
 have e3 : Nat.ble ((0 + len + m) * sz) cells.length = true := Nat.ble_eq.mpr hr
 simp only [h1, e2, e3]
theorem ww_all {l : HSt} (h : l.all (·.w) = true := by rfl) : ∀ e ∈ l, e.w = true := fun e he => List.all_eq_true.1 h e he
end
def OwnE (sz : Nat) (cells : List AV) (len : Nat) (v : AV) (hp : HSt) : Prop :=
 (len = 0 ∧ cells = [] ∧ v = .nils ∧ hp = []) ∨ (∃ b ex, v = .slice b 0 len sz ∧ hp = [⟨b, ⟨sz, ex, cells⟩, true⟩] ∧ cells.length = len * sz)
theorem OwnE.nil (sz : Nat) : OwnE sz [] 0 .nils [] := .inl ⟨rfl, rfl, rfl, rfl⟩
theorem OwnE.of {sz : Nat} {cells : List AV} {len : Nat} {v : AV} {hp : HSt} (h : Own sz cells len v hp) : OwnE sz cells len v hp := h.imp id fun ⟨b, ex, h1, h2, h3, _⟩ => ⟨b, ex, h1, h2, h3⟩
theorem OwnE.cons {sz len b : Nat} {ex : Bool} {cells : List AV} (h : cells.length = len * sz) : OwnE sz cells len (.slice b 0 len sz) [⟨b, ⟨sz, ex, cells⟩, true⟩] := .inr ⟨b, ex, rfl, rfl, h⟩
theorem OwnE.length {sz : Nat} {cells : List AV} {len : Nat} {v : AV} {hp : HSt} (h : OwnE sz cells len v hp) : cells.length = len * sz := by
 rcases h with ⟨rfl, rfl, _, _⟩ | ⟨b, _, _, _, h⟩
 ·simp
 ·exact h
theorem OwnE.w {sz : Nat} {cells : List AV} {len : Nat} {v : AV} {hp : HSt} (h : OwnE sz cells len v hp) : ∀ e ∈ hp, e.w = true := by
 rcases h with ⟨_, _, _, rfl⟩ | ⟨b, _, _, rfl, _⟩
 ·intro e he; simp at he
 ·intro e he; simp at he; subst he; rfl
theorem OwnE.len {sz : Nat} {cells : List AV} {len e : Nat} {v : AV} {hp : HSt} (h : OwnE sz cells len v hp) : lenA (.slice e) v = some len := by
 rcases h with ⟨rfl, _, rfl, _⟩ | ⟨b, _, rfl, _, _⟩ <;> rfl
theorem OwnE.cell {sz : Nat} {cells : List AV} {len : Nat} {v : AV} {hp : HSt} (h : OwnE sz cells len v hp) : v.isCell = true := by
 rcases h with ⟨_, _, rfl, _⟩ | ⟨b, _, rfl, _, _⟩ <;> rfl
theorem OwnE.bq {sz : Nat} {cells : List AV} {len : Nat} {v : AV} {hp : HSt} (h : OwnE sz cells len v hp) : v.beq v = true := by
 rcases h with ⟨_, _, rfl, _⟩ | ⟨b, ex, rfl, _, _⟩
 ·rfl
 ·simp [AV.beq, beq1, beq0, beqz]
theorem OwnE.full {sz : Nat} {cells : List AV} {len : Nat} {v : AV} {hp : HSt} (h : OwnE sz cells len v hp) (hl : 0 < len) : ∃ b ex, v = .slice b 0 len sz ∧ hp = [⟨b, ⟨sz, ex, cells⟩, true⟩] := by
 rcases h with ⟨h, _, _, _⟩ | ⟨b, ex, h1, h2, _⟩
 ·omega
 ·exact ⟨b, ex, h1, h2⟩
def Src (hs : HSt) (sz : Nat) (x : AV) (m : Nat) (new : List AV) : Prop := ∀ h, KeepIn hs h → cellsOfA h.objs sz x = some (m, new)
theorem Src.nils {hs : HSt} {sz : Nat} : Src hs sz .nils 0 [] := fun h _ => rfl
theorem Src.slice {hs : HSt} {b o m sz : Nat} {ob : AObj} {w : Bool} {l : List AV} (hm : ⟨b, ob, w⟩ ∈ hs) (hl : sub? ob.cells (o * sz) (m * sz) = some l) : Src hs sz (.slice b o m sz) m l :=
 fun h hh => cellsOf_slice (hh _ hm) hl
theorem Src.all {hs : HSt} {b m sz : Nat} {ob : AObj} (hm : MemH hs b ob) (hl : ob.cells.length = m * sz) : Src hs sz (.slice b 0 m sz) m ob.cells := by
 obtain ⟨w, hm⟩ := hm
 exact Src.slice hm (by rw [Nat.zero_mul]; exact sub_all hl)
theorem Src.lin {hs : HSt} {l : List Lab} {v : AV} (h : LIn hs l v) : Src hs 2 v l.length (cL l) := by
 rcases h with ⟨rfl, rfl⟩ | ⟨b, sz, ex, rfl, hm⟩
 ·exact Src.nils
 ·exact Src.all hm (cL_len l)
theorem Src.mono {hs hs' : HSt} {sz m : Nat} {x : AV} {new : List AV} (hm : ∀ e ∈ hs, MemH hs' e.b e.o) (h : Src hs sz x m new) : Src hs' sz x m new :=
 fun hp hh => h hp fun e he => by obtain ⟨w, hw⟩ := hm e he; exact hh ⟨e.b, e.o, w⟩ hw
section
variable {tb : Tab} {n : Nat} {E : Env} {s : St} {hs : HSt} {R : T AV → AHeap → Prop} {ops rest : List Oper} {d : Nat} {t : TypeId} {ty : TypeId} {pos : String} {aft : Array Edge}
theorem WO.appAny {ox oy : Operand} {t2 sz len m : Nat} {tl : List Nat} {A hp : HSt} {cells new : List AV} {v x : AV} (ha : AP tb t t2 = some sz) (hO : OwnE sz cells len v hp) (hx : oL s ox = some v) (hy : oL s oy = some x) (hc : Src hs sz x m new)
  (hl : new.length = m * sz) (hn : len + m ≤ 1073741824) (hz : 0 < sz) (hs_ : SubH (A ++ hp) hs) (hd : Nat.blt d n = true)
  (hk : ∀ v' hp', OwnE sz (cells ++ new) (len + m) v' hp' → WO tb n ops rest E ((d, v') :: s) (A ++ hp') R) :
  WO tb n ops (⟨some d, .call ⟨.builtin .append, #[ox, oy], (t :: t2 :: tl).toArray⟩, ty, pos, aft, none⟩ :: rest) E s hs R := by
 refine WO.l (s' := s) fun tm h ht hh => ?_
 have hc := hc h hh.keep
 replace hh := hh.sub hs_
 have hev : ∀ r, appendB h sz m v new = r → evOp tb (callOf (Ev.callE tb)) tm h (.call ⟨.builtin .append, #[ox, oy], (t :: t2 :: tl).toArray⟩) = .l r := by
  intro r hr
  show Res.l (evAppend tb tm h #[ox, oy] (t :: t2 :: tl).toArray) = _
  unfold evAppend
  simp only [opnds, oL_ok ht hx, oL_ok ht hy]
  rw [appendA_of ha hc, hr]
 by_cases hm0 : m = 0
 ·have hnew : new = [] := List.eq_nil_of_length_eq_zero (by rw [hl, hm0]; simp)
  subst hm0 hnew
  have hk := hk v hp (by simpa using hO)
  refine ⟨v, h, tm.set d v, hev _ ?_, putDst_at hd, hk _ _ (ht.set d v) hh⟩
  rcases hO with ⟨_, _, rfl, _⟩ | ⟨b, ex, rfl, _, _⟩
  ·rfl
  ·unfold appendB
   have e1 : Nat.beq sz sz = true := by simp
   simp only [Nat.beq_eq_true_eq, e1]
 ·have e0 : Nat.beq m 0 = false := by cases m with
   | zero => omega
   | succ m => rfl
  rcases hO with ⟨rfl, rfl, rfl, rfl⟩ | ⟨b, ex, rfl, rfl, hcl⟩
  ·have e1 : Nat.ble m 1073741824 = true := Nat.ble_eq.mpr (by omega)
   have hk := hk (.slice h.next 0 (0 + m) sz) [⟨h.next, ⟨sz, false, [] ++ new⟩, true⟩] (OwnE.cons (by rw [Nat.zero_add]; simpa using hl))
   rw [Nat.zero_add, List.nil_append] at hk
   refine ⟨.slice h.next 0 m sz, ⟨h.next + 1, h.objs.set h.next ⟨sz, false, new⟩⟩, tm.set d (.slice h.next 0 m sz), hev _ ?_, putDst_at hd, hk _ _ (ht.set d _) ?_⟩
   ·unfold appendB
    simp only [e0, e1]
   ·rw [List.append_nil] at hh
    exact (hh.new _).sub (SubH.op (List.perm_append_singleton _ _))
  ·have e1 : (Nat.beq sz sz && Nat.ble (len + m) 1073741824) = true := by simp; omega
   have hmem : (⟨b, ⟨sz, ex, cells⟩, true⟩ : HE) ∈ (A ++ [⟨b, ⟨sz, ex, cells⟩, true⟩] : HSt) := by simp
   have h1 := (hh.at_ _ hmem).1
   simp only at h1
   have e2 : Nat.beq sz sz = true := by simp
   have e3 : Nat.ble ((0 + len + m) * sz) cells.length = false := by
    rw [hcl]
    have : len * sz < (0 + len + m) * sz := Nat.mul_lt_mul_of_pos_right (by omega) hz
    cases hb : Nat.ble ((0 + len + m) * sz) (len * sz) with
    | false => rfl
    | true => have := Nat.ble_eq.mp hb; omega
   have e4 : sub? cells (0 * sz) (len * sz) = some cells := by rw [Nat.zero_mul]; exact sub_all hcl
   have hidx : (A ++ [⟨b, ⟨sz, ex, cells⟩, true⟩] : HSt)[A.length]? = some ⟨b, ⟨sz, ex, cells⟩, true⟩ := by simp
   have hne : (A ++ [⟨b, ⟨sz, ex, cells⟩, true⟩] : HSt).eraseIdx A.length = A := by simp [List.eraseIdx_append_of_length_le]
   have hk := hk (.slice h.next 0 (len + m) sz) [⟨h.next, ⟨sz, false, cells ++ new⟩, true⟩] (OwnE.cons (by rw [List.length_append, hcl, hl, Nat.add_mul]))
   cases ex with
   | true =>
    refine ⟨.slice h.next 0 (len + m) sz, ⟨h.next + 1, h.objs.set h.next ⟨sz, false, cells ++ new⟩⟩, tm.set d (.slice h.next 0 (len + m) sz), hev _ ?_, putDst_at hd, hk _ _ (ht.set d _) ?_⟩
    ·unfold appendB
     simp only [e0, e1]
     unfold appendTo
     simp only [h1, e2, e3, e4]
    ·refine (hh.new ⟨sz, false, cells ++ new⟩).sub (SubH.trans (SubH.op (List.perm_append_singleton _ _)) (SubH.of_sublist ?_))
     exact List.Sublist.cons_cons _ (List.sublist_append_left _ _)
   | false =>
    refine ⟨.slice h.next 0 (len + m) sz, ⟨h.next + 1, (h.objs.del b).set h.next ⟨sz, false, cells ++ new⟩⟩, tm.set d (.slice h.next 0 (len + m) sz), hev _ ?_, putDst_at hd, hk _ _ (ht.set d _) ?_⟩
    ·unfold appendB
     simp only [e0, e1]
     unfold appendTo
     simp only [h1, e2, e3, e4]
    ·have := hh.del hidx
     rw [hne] at this
     exact (this.new ⟨sz, false, cells ++ new⟩).sub (SubH.op (List.perm_append_singleton _ _))
variable {keep : HSt} {q i : Nat}
theorem WD.appAny {ox oy : Operand} {t2 sz len m : Nat} {tl : List Nat} {A hp : HSt} {cells new : List AV} {v x : AV} (ha : AP tb t t2 = some sz) (hO : OwnE sz cells len v hp) (hx : oL s ox = some v) (hy : oL s oy = some x) (hc : Src hs sz x m new)
  (hl : new.length = m * sz) (hn : len + m ≤ 1073741824) (hz : 0 < sz) (hs_ : SubH (A ++ hp) hs) (hd : Nat.blt d n = true) (hkp : KIn keep A)
  (hk : ∀ v' hp', OwnE sz (cells ++ new) (len + m) v' hp' → WD tb n ops keep q (i + 1) rest E ((d, v') :: s) (A ++ hp') R) :
  WD tb n ops keep q i (⟨some d, .call ⟨.builtin .append, #[ox, oy], (t :: t2 :: tl).toArray⟩, ty, pos, aft, none⟩ :: rest) E s hs R :=
 WD.l (C := fun v' hs' => ∃ hp', OwnE sz (cells ++ new) (len + m) v' hp' ∧ hs' = A ++ hp') (fun tm h r e => by cases e) (fun R hR => WO.appAny ha hO hx hy hc hl hn hz hs_ hd fun v' hp' h => WO.nil (hR _ _ ⟨hp', h, rfl⟩))
  (fun v' hs' ⟨hp', _, h2⟩ _ => by subst h2; exact fun e he => let ⟨w, hm⟩ := hkp e he; ⟨w, List.mem_append_left _ hm⟩) (fun v' hs' ⟨hp', h1, h2⟩ => by subst h2; exact hk v' hp' h1)
end
end Go.Proofs.YtfkbfnpjggkdmaaGreatDoor.Ev
