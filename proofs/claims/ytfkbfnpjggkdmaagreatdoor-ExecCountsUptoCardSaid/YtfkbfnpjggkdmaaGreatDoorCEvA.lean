/- An evaluator of closed calls, part 1: tries, abstract values, and how they lie in a world. -/
import Derived.WalkKit
import Derived.ProofKit
import Derived.Below
import Derived.KernelRfl
import Derived.Laws.Sem
namespace Go.Proofs.YtfkbfnpjggkdmaaGreatDoor.Ev
open Go.RowKit

inductive T (α : Type) where
 | leaf : T α
 | node (l : T α) (v : Option α) (r : T α) : T α

noncomputable def T.get {α : Type} (t : T α) (k : Nat) : Option α :=
 T.rec (motive := fun _ => Nat -> Option α) (fun _ => none)
  (fun _ v _ gl gr k => Nat.rec (motive := fun _ => Option α) v (fun k _ => Bool.rec (motive := fun _ => Option α) (gr (Nat.div k 2)) (gl (Nat.div k 2)) (Nat.beq (Nat.mod k 2) 0)) k) t k

noncomputable def iE {α : Type} (v : Option α) (n : Nat) (k : Nat) : T α :=
 Nat.rec (motive := fun _ => Nat -> T α) (fun _ => .leaf)
  (fun _ ih k => Nat.rec (motive := fun _ => T α) (.node .leaf v .leaf)
   (fun k _ => Bool.rec (motive := fun _ => T α) (.node .leaf none (ih (Nat.div k 2))) (.node (ih (Nat.div k 2)) none .leaf) (Nat.beq (Nat.mod k 2) 0)) k) n k
noncomputable def T.put {α : Type} (v : Option α) (t : T α) (k : Nat) : T α :=
 T.rec (motive := fun _ => Nat -> T α) (fun k => iE v (Nat.succ k) k)
  (fun l x r pl pr k => Nat.rec (motive := fun _ => T α) (.node l v r)
   (fun k _ => Bool.rec (motive := fun _ => T α) (.node l x (pr (Nat.div k 2))) (.node (pl (Nat.div k 2)) x r) (Nat.beq (Nat.mod k 2) 0)) k) t k

theorem bG {α : Type} (k : Nat) : (T.leaf : T α).get k = none := rfl
theorem fC {α : Type} (l r : T α) (v : Option α) : (T.node l v r).get 0 = v := rfl
theorem dR {α : Type} (l r : T α) (v : Option α) (k : Nat) (h : k % 2 = 0) : (T.node l v r).get (k + 1) = l.get (k / 2) := by
 show Bool.rec (motive := fun _ => Option α) (r.get (k / 2)) (l.get (k / 2)) (Nat.beq (k % 2) 0) = _
 rw [h]
 rfl
theorem eL {α : Type} (l r : T α) (v : Option α) (k : Nat) (h : k % 2 = 1) : (T.node l v r).get (k + 1) = r.get (k / 2) := by
 show Bool.rec (motive := fun _ => Option α) (r.get (k / 2)) (l.get (k / 2)) (Nat.beq (k % 2) 0) = _
 rw [h]
 rfl
theorem sZ {α : Type} (l r : T α) (x v : Option α) : T.put v (.node l x r) 0 = .node l v r := rfl
theorem uM {α : Type} (l r : T α) (x v : Option α) (k : Nat) (h : k % 2 = 0) : T.put v (.node l x r) (k + 1) = .node (T.put v l (k / 2)) x r := by
 show Bool.rec (motive := fun _ => T α) (.node l x (T.put v r (k / 2))) (.node (T.put v l (k / 2)) x r) (Nat.beq (k % 2) 0) = _
 rw [h]
 rfl
theorem yM {α : Type} (l r : T α) (x v : Option α) (k : Nat) (h : k % 2 = 1) : T.put v (.node l x r) (k + 1) = .node l x (T.put v r (k / 2)) := by
 show Bool.rec (motive := fun _ => T α) (.node l x (T.put v r (k / 2))) (.node (T.put v l (k / 2)) x r) (Nat.beq (k % 2) 0) = _
 rw [h]
 rfl
theorem sY {α : Type} (v : Option α) (n k : Nat) (h : k % 2 = 0) : iE v (n + 1) (k + 1) = .node (iE v n (k / 2)) none .leaf := by
 show Bool.rec (motive := fun _ => T α) (.node .leaf none (iE v n (k / 2))) (.node (iE v n (k / 2)) none .leaf) (Nat.beq (k % 2) 0) = _
 rw [h]
 rfl
theorem uL {α : Type} (v : Option α) (n k : Nat) (h : k % 2 = 1) : iE v (n + 1) (k + 1) = .node .leaf none (iE v n (k / 2)) := by
 show Bool.rec (motive := fun _ => T α) (.node .leaf none (iE v n (k / 2))) (.node (iE v n (k / 2)) none .leaf) (Nat.beq (k % 2) 0) = _
 rw [h]
 rfl
theorem uK {α : Type} (v : Option α) : ∀ (n k j : Nat), k < n -> (iE v n k).get j = if j = k then v else none := by
 intro n
 induction n with
 | zero => intro k j h; omega
 | succ n ih =>
  intro k j h
  cases k with
  | zero =>
   show (T.node .leaf v .leaf).get j = _
   cases j with
   | zero => rfl
   | succ j =>
    rw [if_neg (by omega)]
    rcases Nat.mod_two_eq_zero_or_one j with hj | hj
    ·rw [dR _ _ _ _ hj, bG]
    ·rw [eL _ _ _ _ hj, bG]
  | succ k =>
   have hb : k / 2 < n := by omega
   rcases Nat.mod_two_eq_zero_or_one k with hk | hk
   ·rw [sY _ _ _ hk]
    cases j with
    | zero => rw [fC, if_neg (by omega)]
    | succ j =>
     rcases Nat.mod_two_eq_zero_or_one j with hj | hj
     ·rw [dR _ _ _ _ hj, ih _ _ hb]
      by_cases e : j = k
      ·subst e; simp
      ·rw [if_neg (by omega), if_neg (by omega)]
     ·rw [eL _ _ _ _ hj, bG, if_neg (by omega)]
   ·rw [uL _ _ _ hk]
    cases j with
    | zero => rw [fC, if_neg (by omega)]
    | succ j =>
     rcases Nat.mod_two_eq_zero_or_one j with hj | hj
     ·rw [dR _ _ _ _ hj, bG, if_neg (by omega)]
     ·rw [eL _ _ _ _ hj, ih _ _ hb]
      by_cases e : j = k
      ·subst e; simp
      ·rw [if_neg (by omega), if_neg (by omega)]
theorem qg {α : Type} (v : Option α) : ∀ (t : T α) (k j : Nat), (T.put v t k).get j = if j = k then v else t.get j := by
 intro t
 induction t with
 | leaf => intro k j; exact uK v _ k j (Nat.lt_succ_self k)
 | node l x r ihl ihr =>
  intro k j
  cases k with
  | zero =>
   rw [sZ]
   cases j with
   | zero => rfl
   | succ j =>
    rw [if_neg (by omega)]
    rcases Nat.mod_two_eq_zero_or_one j with hj | hj
    ·rw [dR _ _ _ _ hj, dR _ _ _ _ hj]
    ·rw [eL _ _ _ _ hj, eL _ _ _ _ hj]
  | succ k =>
   rcases Nat.mod_two_eq_zero_or_one k with hk | hk
   ·rw [uM _ _ _ _ _ hk]
    cases j with
    | zero => rw [fC, fC, if_neg (by omega)]
    | succ j =>
     rcases Nat.mod_two_eq_zero_or_one j with hj | hj
     ·rw [dR _ _ _ _ hj, dR _ _ _ _ hj, ihl]
      by_cases e : j = k
      ·subst e; simp
      ·rw [if_neg (by omega), if_neg (by omega)]
     ·rw [eL _ _ _ _ hj, eL _ _ _ _ hj, if_neg (by omega)]
   ·rw [yM _ _ _ _ _ hk]
    cases j with
    | zero => rw [fC, fC, if_neg (by omega)]
    | succ j =>
     rcases Nat.mod_two_eq_zero_or_one j with hj | hj
     ·rw [dR _ _ _ _ hj, dR _ _ _ _ hj, if_neg (by omega)]
     ·rw [eL _ _ _ _ hj, eL _ _ _ _ hj, ihr]
      by_cases e : j = k
      ·subst e; simp
      ·rw [if_neg (by omega), if_neg (by omega)]

noncomputable def T.set {α : Type} (t : T α) (k : Nat) (v : α) : T α := T.put (some v) t k
noncomputable def T.del {α : Type} (t : T α) (k : Nat) : T α := T.put none t k
theorem az {α : Type} (t : T α) (k j : Nat) (v : α) : (t.set k v).get j = if j = k then some v else t.get j := qg _ _ _ _
theorem iR {α : Type} (t : T α) (k j : Nat) : (t.del k).get j = if j = k then none else t.get j := qg _ _ _ _

noncomputable def gj {α : Type} : Nat -> List α -> T α -> T α
 | _, [], t => t
 | i, x :: l, t => gj (i + 1) l (t.set i x)
theorem fK {α : Type} : ∀ (l : List α) (i : Nat) (t : T α) (k : Nat), (gj i l t).get k = if i <= k /\ k < i + l.length then l[k - i]? else t.get k := by
 intro l
 induction l with
 | nil => intro i t k; simp [gj]; omega
 | cons x l ih =>
  intro i t k
  simp only [gj, ih, az, List.length_cons]
  by_cases h : k = i
  ·subst h
   have a1 : ¬ (k + 1 <= k /\ k < k + 1 + l.length) := by omega
   have a2 : k <= k /\ k < k + (l.length + 1) := by omega
   simp only [a1, a2, and_self, if_true, if_false, Nat.sub_self, List.getElem?_cons_zero]
  ·by_cases h2 : i + 1 <= k /\ k < i + 1 + l.length
   ·have : i <= k /\ k < i + (l.length + 1) := by omega
    have e : k - i = (k - (i + 1)) + 1 := by omega
    simp only [h2, this, and_self, if_true, e, List.getElem?_cons_succ]
   ·have : ¬ (i <= k /\ k < i + (l.length + 1)) := by omega
    simp only [h2, this, if_false, h]

inductive AV where
 | bool (b : Bool)
 | int (k : IntKind) (n : Int)
 | str (s : List Nat)
 | nilp
 | ptr (b o : Nat)
 | nils
 | slice (b o len sz : Nat)
 | agg (l : List AV)
 | tuple (l : List AV)
 | nilf
 | func (f : Nat) (l : List AV)
 | nili
 | opq (b : Nat)
 | nilm
 | map (b : Nat)

structure AObj where
 sz : Nat
 exact_ : Bool
 cells : List AV

structure AHeap where
 next : Nat
 objs : T AObj

structure BI where
 blk : Nat
 off : Nat
 cap : Nat
 sz : Nat
 val : Value

abbrev Inj := Nat -> Option BI
def Inj.le (M M' : Inj) : Prop := ∀ b i, M b = some i -> M' b = some i
theorem Inj.le_refl (M : Inj) : M.le M := fun _ _ h => h
theorem Inj.le_trans {M M' M'' : Inj} (h : M.le M') (h' : M'.le M'') : M.le M'' := fun b i e => h' b i (h b i e)

def AV.isCell : AV -> Bool
 | .agg _ | .tuple _ => false
 | _ => true

inductive VRel (M : Inj) : AV -> Value -> Prop where
 | bool (b) : VRel M (.bool b) (.bool b)
 | int (k n) : VRel M (.int k n) (.int k n)
 | str (s : ByteArray) (l : List Nat) (h : s.data.toList.map UInt8.toNat = l) : VRel M (.str l) (.string s)
 | nilp : VRel M .nilp (.pointer none)
 | ptr (b o : Nat) (i : BI) (hi : M b = some i) (hv : i.val = undef := by first | rfl | assumption) : VRel M (.ptr b o) (.pointer (some ⟨i.blk, i.off + o, none⟩))
 | nils : VRel M .nils (.slice none 0 0)
 | slice (b o len cap : Nat) (p : Addr) (i : BI) (hi : M b = some i) (hc : o + cap = i.cap) (hl : len <= cap) (hp : p = ⟨i.blk, i.off + o * i.sz, none⟩ \/ cap = 0) (hv : i.val = undef := by first | rfl | assumption) :
   VRel M (.slice b o len i.sz) (.slice (some p) len cap)
 | agg (l : List AV) (cs : Array Value) (hs : cs.size = l.length) (h : ∀ (i : Nat) (v : AV) (u : Value), l[i]? = some v -> cs[i]? = some u -> VRel M v u) : VRel M (.agg l) (.agg cs)
 | tuple (l : List AV) (cs : Array Value) (hs : cs.size = l.length) (h : ∀ (i : Nat) (v : AV) (u : Value), l[i]? = some v -> cs[i]? = some u -> VRel M v u) : VRel M (.tuple l) (.tuple cs)
 | nilf : VRel M .nilf .nilFunc
 | func (f : Nat) (l : List AV) (cs : Array Value) (hs : cs.size = l.length) (h : ∀ (i : Nat) (v : AV) (u : Value), l[i]? = some v -> cs[i]? = some u -> VRel M v u) (hl : l.all AV.isCell = true := by first | assumption | rfl) : VRel M (.func f l) (.func (.func f) #[] cs)
 | meth (f : Nat) (x : AV) (u : Value) (h : VRel M x u) : VRel M (.func f [.tuple [], x]) (.func (.func f) #[u] #[])
 | nili : VRel M .nili .nilIface
 | opq (b : Nat) (i : BI) (u : Value) (hi : M b = some i) (hu : i.val = u) (hv : u.oneCell' = true) : VRel M (.opq b) u
 | nilm : VRel M .nilm (.map none)
 | map (b : Nat) (i : BI) (hi : M b = some i) (hv : i.val = .map (some i.blk)) : VRel M (.map b) (.map (some i.blk))

theorem VRel.mono {M M' : Inj} (hM : M.le M') {v : AV} {u : Value} (h : VRel M v u) : VRel M' v u := by
 induction h with
 | bool b => exact .bool b
 | int k n => exact .int k n
 | str s l h => exact .str s l h
 | nilp => exact .nilp
 | ptr b o i hi hv => exact .ptr b o i (hM _ _ hi) hv
 | nils => exact .nils
 | slice b o len cap p i hi hc hl hp hv => exact .slice b o len cap p i (hM _ _ hi) hc hl hp hv
 | agg l cs hs _ ih => exact .agg l cs hs ih
 | tuple l cs hs _ ih => exact .tuple l cs hs ih
 | nilf => exact .nilf
 | func f l cs hs _ hf ih => exact .func f l cs hs ih hf
 | meth f x u _ ih => exact .meth f x u ih
 | nili => exact .nili
 | opq b i u hi hu hv => exact .opq b i u (hM _ _ hi) hu hv
 | nilm => exact .nilm
 | map b i hi hv => exact .map b i (hM _ _ hi) hv

def LRel (M : Inj) (l : List AV) (cs : List Value) : Prop := cs.length = l.length /\ ∀ (i : Nat) (v : AV) (u : Value), l[i]? = some v -> cs[i]? = some u -> VRel M v u
theorem LRel.mono {M M' : Inj} (hM : M.le M') {l : List AV} {cs : List Value} (h : LRel M l cs) : LRel M' l cs := ⟨h.1, fun i v u a b => (h.2 i v u a b).mono hM⟩
theorem LRel.nil (M : Inj) : LRel M [] [] := ⟨rfl, fun i v u h => by simp at h⟩
theorem LRel.cons {M : Inj} {v : AV} {u : Value} {l : List AV} {cs : List Value} (h : VRel M v u) (hl : LRel M l cs) : LRel M (v :: l) (u :: cs) := by
 refine ⟨by simp [hl.1], fun i a b ha hb => ?_⟩
 cases i with
 | zero => simp at ha hb; subst ha hb; exact h
 | succ i => simp at ha hb; exact hl.2 i a b ha hb
theorem LRel.append {M : Inj} {l l' : List AV} {cs cs' : List Value} (h : LRel M l cs) (h' : LRel M l' cs') : LRel M (l ++ l') (cs ++ cs') := by
 refine ⟨by simp [h.1, h'.1], fun i a b ha hb => ?_⟩
 by_cases hi : i < l.length
 ·rw [List.getElem?_append_left hi] at ha
  rw [List.getElem?_append_left (by rw [h.1]; exact hi)] at hb
  exact h.2 i a b ha hb
 ·rw [List.getElem?_append_right (by omega)] at ha
  rw [List.getElem?_append_right (by rw [h.1]; omega), h.1] at hb
  exact h'.2 _ a b ha hb
theorem LRel.get {M : Inj} {l : List AV} {cs : List Value} (h : LRel M l cs) {i : Nat} {v : AV} (hv : l[i]? = some v) : ∃ u, cs[i]? = some u /\ VRel M v u := by
 have hi : i < cs.length := by rw [h.1]; exact (List.getElem?_eq_some_iff.1 hv).1
 exact ⟨cs[i], List.getElem?_eq_getElem hi, h.2 i v _ hv (List.getElem?_eq_getElem hi)⟩
theorem LRel.take {M : Inj} {l : List AV} {cs : List Value} (h : LRel M l cs) (n : Nat) : LRel M (l.take n) (cs.take n) := by
 refine ⟨by simp [h.1], fun i a b ha hb => ?_⟩
 rw [List.getElem?_take] at ha hb
 split at ha
 ·simp_all; exact h.2 i a b ha hb
 ·simp at ha
theorem LRel.drop {M : Inj} {l : List AV} {cs : List Value} (h : LRel M l cs) (n : Nat) : LRel M (l.drop n) (cs.drop n) := by
 refine ⟨by simp [h.1], fun i a b ha hb => ?_⟩
 rw [List.getElem?_drop] at ha hb
 exact h.2 _ a b ha hb
theorem LRel.agg {M : Inj} {l : List AV} {cs : List Value} (h : LRel M l cs) : VRel M (.agg l) (.agg cs.toArray) :=
 .agg l _ (by simp [h.1]) fun i v u a b => h.2 i v u a (by simpa using b)
theorem LRel.tuple {M : Inj} {l : List AV} {cs : List Value} (h : LRel M l cs) : VRel M (.tuple l) (.tuple cs.toArray) :=
 .tuple l _ (by simp [h.1]) fun i v u a b => h.2 i v u a (by simpa using b)

def AV.cells : AV -> List AV
 | .agg l => l
 | v => [v]
theorem VRel.cells {M : Inj} {v : AV} {u : Value} (h : VRel M v u) : LRel M v.cells u.cells.toList := by
 have one : ∀ (v : AV) (u : Value), VRel M v u -> LRel M [v] [u] := fun v u h => .cons h (.nil M)
 cases h with
 | agg l cs hs h => exact ⟨by simp [AV.cells, Value.cells, hs], fun i v u a b => h i v u a (by simpa [Value.cells] using b)⟩
 | bool b => exact one _ _ (.bool b)
 | int k n => exact one _ _ (.int k n)
 | str s l h => exact one _ _ (.str s l h)
 | nilp => exact one _ _ .nilp
 | ptr b o i hi hv => exact one _ _ (.ptr b o i hi hv)
 | nils => exact one _ _ .nils
 | slice b o len cap p i hi hc hl hp hv => exact one _ _ (.slice b o len cap p i hi hc hl hp hv)
 | tuple l cs hs h => exact one _ _ (.tuple l cs hs h)
 | nilf => exact one _ _ .nilf
 | func f l cs hs h hf => exact one _ _ (.func f l cs hs h hf)
 | meth f x u h => exact one _ _ (.meth f x u h)
 | nili => exact one _ _ .nili
 | opq b i u hi hu hv =>
  have e : u.cells.toList = [u] := by cases u <;> simp_all [Value.cells, Value.oneCell']
  rw [e]
  exact one _ _ (.opq b i u hi hu hv)
 | nilm => exact one _ _ .nilm
 | map b i hi hv => exact one _ _ (.map b i hi hv)
theorem VRel.oneCell {M : Inj} {v : AV} {u : Value} (h : VRel M v u) (hv : v.isCell = true) : u.oneCell' = true := by
 cases h <;> simp_all [AV.isCell, Value.oneCell']

structure Keeps (N : Nat -> Prop) (w w' : World) : Prop where
 os : w'.os = w.os
 tape : w'.tape = w.tape
 output : w'.output = w.output
 size : w.heap.size <= w'.heap.size
 block : ∀ k, N k -> w'.heap[k]? = w.heap[k]?
theorem Keeps.refl (N : Nat -> Prop) (w : World) : Keeps N w w := ⟨rfl, rfl, rfl, Nat.le_refl _, fun _ _ => rfl⟩
theorem Keeps.trans {N : Nat -> Prop} {a b c : World} (h : Keeps N a b) (k : Keeps N b c) : Keeps N a c :=
 ⟨k.os.trans h.os, k.tape.trans h.tape, k.output.trans h.output, Nat.le_trans h.size k.size, fun i hi => (k.block i hi).trans (h.block i hi)⟩
theorem Keeps.mono {N N' : Nat -> Prop} {w w' : World} (h : Keeps N w w') (hN : ∀ k, N' k -> N k) : Keeps N' w w' := ⟨h.os, h.tape, h.output, h.size, fun k hk => h.block k (hN k hk)⟩
theorem Keeps.drew {N : Nat -> Prop} {a w : World} (h : Keeps N a w) : Keeps N a w.drew := ⟨h.os, h.tape, h.output, h.size, h.block⟩
theorem Keeps.of {B : Nat} {N : Nat -> Prop} {w w' : World} (h : Below B w w') (hN : ∀ k, N k -> k < B) : Keeps N w w' := ⟨h.os, h.tape, h.output, h.size, fun k hk => h.block k (hN k hk)⟩
theorem Keeps.below {B : Nat} {N : Nat -> Prop} {w w' : World} (h : Keeps N w w') (hN : ∀ k, k < B -> N k) : Below B w w' := ⟨h.os, h.tape, h.output, h.size, fun k hk => h.block k (hN k hk)⟩

def ORel (M : Inj) (N : Nat -> Prop) (o : AObj) (b : Nat) (w : World) : Prop :=
 ∃ i c e fr, M b = some i /\ w.heap[i.blk]? = some (.cells c e fr) /\ ¬ N i.blk /\ i.sz = o.sz /\ o.cells.length <= i.cap * i.sz /\ i.off + i.cap * i.sz <= c.size /\
  (o.exact_ = true -> o.cells.length = i.cap * i.sz) /\ (∀ k, k < c.size -> ¬ (fr.1 <= k /\ k < fr.2)) /\
  (∀ k v, o.cells[k]? = some v -> v.isCell = true /\ ∃ u, c[i.off + k]? = some u /\ VRel M v u)

def MRel (M : Inj) (o : AObj) (es : Array MapEntry) (ck : Nat) : Prop :=
 o.sz = ck /\ o.cells.length = 3 * es.size /\ ∀ (j : Nat) (e : MapEntry), es[j]? = some e -> ∃ a v, o.cells[3 * j]? = some a /\ o.cells[3 * j + 1]? = some v /\ o.cells[3 * j + 2]? = some (.int .i64 ((e.born : Nat) : Int)) /\ VRel M a e.key /\ VRel M v e.val
def RRel (M : Inj) (n : Nat) (o : AObj) (b : Nat) (w : World) : Prop :=
 ∃ i c e fr, M b = some i /\ i.val = undef /\ w.heap[i.blk]? = some (.cells c e fr) /\ i.blk < n /\ o.sz = 0 /\
  (∀ k v, o.cells[k]? = some v -> v.isCell = true /\ ∃ u, c[i.off + k]? = some u /\ VRel M v u)
def LRd (M : Inj) (o : AObj) (b : Nat) (w : World) : Prop :=
 ∃ i c e fr, M b = some i /\ w.heap[i.blk]? = some (.cells c e fr) /\ (∀ k v, o.cells[k]? = some v -> v.isCell = true /\ ∃ u, c[i.off + k]? = some u /\ VRel M v u)
theorem ORel.rd {M : Inj} {N : Nat -> Prop} {o : AObj} {b : Nat} {w : World} (h : ORel M N o b w) : LRd M o b w := by
 obtain ⟨i, c, e, fr, h1, h2, h3, h4, h5, h6, h7, h8, h9⟩ := h
 exact ⟨i, c, e, fr, h1, h2, h9⟩
def BRel (M : Inj) (N : Nat -> Prop) (n : Nat) (o : AObj) (b : Nat) (w : World) : Prop :=
 ((∃ i, M b = some i /\ i.val = undef) /\ ORel M N o b w) \/ RRel M n o b w \/
 ∃ i es ck, M b = some i /\ i.val = .map (some i.blk) /\ ¬ N i.blk /\ w.heap[i.blk]? = some (.map es ck) /\ MRel M o es ck

structure Ctx where
 inj : Inj
 good : World -> Prop
def Ctx.le (J : Ctx) (M : Inj) : Prop := J.inj.le M

structure Base (J : Ctx) where
 w : World
 n : Nat
 ok : ∀ w', Below n w w' -> J.good w'
 res : Nat -> Prop

structure HRel {J : Ctx} (M : Inj) (N : Nat -> Prop) (w0 : Base J) (h : AHeap) (w : World) : Prop where
 base : J.le M
 lim : ∀ k, k < w0.n -> N k
 below : Keeps N w0.w w
 big : ∀ k, N k -> k < w.heap.size
 live : ∀ b o, h.objs.get b = some o -> BRel M N w0.n o b w
 apart : ∀ b b' o o' i i', h.objs.get b = some o -> h.objs.get b' = some o' -> M b = some i -> M b' = some i' -> i.blk = i'.blk -> ¬ N i.blk -> b = b'
 old : ∀ b o, h.objs.get b = some o -> b < h.next
 fresh : ∀ b, h.next <= b -> M b = none
 res : ∀ b, w0.res b -> M b = none /\ b < h.next

theorem HRel.cellsAt {J : Ctx} {M : Inj} {N : Nat -> Prop} {w0 : Base J} {h : AHeap} {w : World} (hh : HRel M N w0 h w) {b : Nat} {o : AObj} (ho : h.objs.get b = some o) {i : BI} (hi : M b = some i) (hv : i.val = undef) (hz : o.sz ≠ 0) : ORel M N o b w := by
 rcases hh.live b o ho with ⟨_, h1⟩ | ⟨_, _, _, _, _, _, _, _, h0, _⟩ | ⟨j, es, ck, hj, hjv, _⟩
 ·exact h1
 ·exact absurd h0 hz
 ·rw [hi] at hj
  cases hj
  rw [hv] at hjv
  cases hjv
theorem HRel.readAt {J : Ctx} {M : Inj} {N : Nat -> Prop} {w0 : Base J} {h : AHeap} {w : World} (hh : HRel M N w0 h w) {b : Nat} {o : AObj} (ho : h.objs.get b = some o) {i : BI} (hi : M b = some i) (hv : i.val = undef) : LRd M o b w := by
 rcases hh.live b o ho with ⟨_, h1⟩ | ⟨j, c, e, fr, h1, h2, h3, h4, h5, h6⟩ | ⟨j, es, ck, hj, hjv, _⟩
 ·exact h1.rd
 ·exact ⟨j, c, e, fr, h1, h3, h6⟩
 ·rw [hi] at hj
  cases hj
  rw [hv] at hjv
  cases hjv
theorem HRel.mapAt {J : Ctx} {M : Inj} {N : Nat -> Prop} {w0 : Base J} {h : AHeap} {w : World} (hh : HRel M N w0 h w) {b : Nat} {o : AObj} (ho : h.objs.get b = some o) {i : BI} (hi : M b = some i) (hv : i.val = .map (some i.blk)) :
  ¬ N i.blk /\ ∃ es ck, w.heap[i.blk]? = some (.map es ck) /\ MRel M o es ck := by
 rcases hh.live b o ho with ⟨⟨j, hj, hjv⟩, _⟩ | ⟨j, _, _, _, hj, hjv, _⟩ | ⟨j, es, ck, hj, hjv, h1, h2, h3⟩
 ·rw [hi] at hj
  cases hj
  rw [hv] at hjv
  cases hjv
 ·rw [hi] at hj
  cases hj
  rw [hv] at hjv
  cases hjv
 ·rw [hi] at hj
  cases hj
  exact ⟨h1, es, ck, h2, h3⟩
theorem zy {p : Prop} (h : p := by omega) : p := h
end Go.Proofs.YtfkbfnpjggkdmaaGreatDoor.Ev
