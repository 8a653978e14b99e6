/- Samples and series in memory. -/
import Derived.Test.YtfkbfnpjggkdmaaGreatDoorOOwE
import Derived.Test.YtfkbfnpjggkdmaaGreatDoorOInA
namespace Go.Proofs.YtfkbfnpjggkdmaaGreatDoor.Ev
open Go.RowKit
section
variable {α : Type} (f g : α → AV)
def c2 (L : List α) : List AV := L.flatMap fun x => [f x, g x]
theorem c2_cons (x : α) (L : List α) : c2 f g (x :: L) = f x :: g x :: c2 f g L := rfl
theorem c2_len (L : List α) : (c2 f g L).length = L.length * 2 := by
 induction L with
 | nil => rfl
 | cons x L ih => rw [c2_cons, List.length_cons, List.length_cons, ih, List.length_cons]; omega
theorem c2_append (L M : List α) : c2 f g (L ++ M) = c2 f g L ++ c2 f g M := by unfold c2; rw [List.flatMap_append]
theorem c2_get {d : α} : ∀ (L : List α) (i : Nat), i < L.length → (c2 f g L)[i * 2]? = some (f (L.getD i d)) ∧ (c2 f g L)[i * 2 + 1]? = some (g (L.getD i d))
 | x :: L, 0, _ => ⟨rfl, rfl⟩
 | x :: L, i + 1, h => by
  have := c2_get (d := d) L i (by simpa using h)
  have e : (i + 1) * 2 = i * 2 + 1 + 1 := by omega
  rw [c2_cons, e]
  exact this
theorem c2_drop (L : List α) (i : Nat) : c2 f g (L.drop i) = (c2 f g L).drop (i * 2) := by
 induction i generalizing L with
 | zero => simp
 | succ i ih =>
  cases L with
  | nil => simp [c2]
  | cons x L =>
   rw [List.drop_succ_cons, ih, c2_cons, show (i + 1) * 2 = i * 2 + 1 + 1 by omega]
   rfl
theorem c2_take (L : List α) (i : Nat) : c2 f g (L.take i) = (c2 f g L).take (i * 2) := by
 induction i generalizing L with
 | zero => simp [c2]
 | succ i ih =>
  cases L with
  | nil => simp [c2]
  | cons x L =>
   rw [List.take_succ_cons, c2_cons, c2_cons, ih, show (i + 1) * 2 = i * 2 + 1 + 1 by omega]
   rfl
end
abbrev Smp := Int × Int
abbrev cS (S : List Smp) : List AV := c2 (fun x : Smp => .int .i64 x.1) (fun x : Smp => .int .i64 x.2) S
def sg (S : List Smp) (i : Nat) : Smp := S.getD i (0, 0)
theorem cS_len (S : List Smp) : (cS S).length = S.length * 2 := c2_len _ _ S
theorem cS_at {S : List Smp} {a b : Nat} (h : a + b < S.length) : sub? (cS S) ((a + b) * 2) 2 = some [.int .i64 (sg S (a + b)).1, .int .i64 (sg S (a + b)).2] := by
 obtain ⟨h1, h2⟩ := c2_get (d := ((0, 0) : Smp)) (fun x : Smp => .int .i64 x.1) (fun x : Smp => .int .i64 x.2) S (a + b) h
 exact sub2 h1 h2
theorem cS_f0 {S : List Smp} {a b : Nat} (h : a + b < S.length) : (cS S)[(a + b) * 2 + 0]? = some (.int .i64 (sg S (a + b)).1) := (c2_get (d := ((0, 0) : Smp)) (fun x : Smp => .int .i64 x.1) (fun x : Smp => .int .i64 x.2) S (a + b) h).1
def SIn (hs : HSt) (S : List Smp) (v : AV) : Prop := (v = .nils ∧ S = []) ∨ ∃ b sz ex, v = .slice b 0 S.length 2 ∧ MemH hs b ⟨sz, ex, cS S⟩
theorem SIn.mono {hs hs' : HSt} {S : List Smp} {v : AV} (hm : ∀ b o, MemH hs b o → MemH hs' b o) (h : SIn hs S v) : SIn hs' S v := h.imp id fun ⟨b, sz, ex, h1, h2⟩ => ⟨b, sz, ex, h1, hm _ _ h2⟩
theorem SIn.len {hs : HSt} {S : List Smp} {v : AV} {e : Nat} (h : SIn hs S v) : lenA (.slice e) v = some S.length := by
 rcases h with ⟨rfl, rfl⟩ | ⟨b, sz, ex, rfl, _⟩ <;> rfl
theorem SIn.full {hs : HSt} {S : List Smp} {v : AV} (h : SIn hs S v) (hl : 0 < S.length) : ∃ b sz ex, v = .slice b 0 S.length 2 ∧ MemH hs b ⟨sz, ex, cS S⟩ := by
 rcases h with ⟨_, rfl⟩ | h
 ·simp at hl
 ·exact h
theorem SIn.cell {hs : HSt} {S : List Smp} {v : AV} (h : SIn hs S v) : v.isCell = true := by
 rcases h with ⟨rfl, _⟩ | ⟨b, sz, ex, rfl, _⟩ <;> rfl
theorem SIn.bq {hs : HSt} {S : List Smp} {v : AV} (h : SIn hs S v) : v.beq v = true := by
 rcases h with ⟨rfl, _⟩ | ⟨b, sz, ex, rfl, _⟩
 ·rfl
 ·simp [AV.beq, beq1, beq0, beqz]
theorem Src.sin {hs : HSt} {S : List Smp} {v : AV} (h : SIn hs S v) : Src hs 2 v S.length (cS S) := by
 rcases h with ⟨rfl, rfl⟩ | ⟨b, sz, ex, rfl, hm⟩
 ·exact Src.nils
 ·exact Src.all hm (cS_len S)
theorem SIn.own {S : List Smp} {v : AV} {hp : HSt} (h : OwnE 2 (cS S) S.length v hp) : SIn hp S v := by
 rcases h with ⟨h0, _, rfl, rfl⟩ | ⟨b, ex, rfl, rfl, _⟩
 ·exact .inl ⟨rfl, List.eq_nil_of_length_eq_zero h0⟩
 ·exact .inr ⟨b, 2, ex, rfl, true, List.mem_singleton.2 rfl⟩
theorem LIn.bq {hs : HSt} {l : List Lab} {v : AV} (h : LIn hs l v) : v.beq v = true := by
 rcases h with ⟨rfl, _⟩ | ⟨b, sz, ex, rfl, _⟩
 ·rfl
 ·simp [AV.beq, beq1, beq0, beqz]
theorem LIn.own {l : List Lab} {v : AV} {hp : HSt} (h : OwnE 2 (cL l) l.length v hp) : LIn hp l v := by
 rcases h with ⟨h0, _, rfl, rfl⟩ | ⟨b, ex, rfl, rfl, _⟩
 ·exact .inl ⟨rfl, List.eq_nil_of_length_eq_zero h0⟩
 ·exact .inr ⟨b, 2, ex, rfl, true, List.mem_singleton.2 rfl⟩
def SBd (S : List Smp) : Prop := S.length ≤ 1048576
abbrev Ser := AV × List Lab × AV × List Smp
abbrev cR (R : List Ser) : List AV := c2 (fun x : Ser => x.1) (fun x : Ser => x.2.2.1) R
def sd0 : Ser := (.nils, [], .nils, [])
def rg (R : List Ser) (i : Nat) : Ser := R.getD i sd0
theorem cR_len (R : List Ser) : (cR R).length = R.length * 2 := c2_len _ _ R
theorem cR_at {R : List Ser} {a b : Nat} (h : a + b < R.length) : sub? (cR R) ((a + b) * 2) 2 = some [(rg R (a + b)).1, (rg R (a + b)).2.2.1] := by
 obtain ⟨h1, h2⟩ := c2_get (d := sd0) (fun x : Ser => x.1) (fun x : Ser => x.2.2.1) R (a + b) h
 exact sub2 h1 h2
theorem cR_f0 {R : List Ser} {a b : Nat} (h : a + b < R.length) : (cR R)[(a + b) * 2 + 0]? = some (rg R (a + b)).1 := (c2_get (d := sd0) (fun x : Ser => x.1) (fun x : Ser => x.2.2.1) R (a + b) h).1
theorem cR_f1 {R : List Ser} {a b : Nat} (h : a + b < R.length) : (cR R)[(a + b) * 2 + 1]? = some (rg R (a + b)).2.2.1 := (c2_get (d := sd0) (fun x : Ser => x.1) (fun x : Ser => x.2.2.1) R (a + b) h).2
theorem rg_mem {R : List Ser} {i : Nat} (h : i < R.length) : rg R i ∈ R := by
 unfold rg
 rw [List.getD_eq_getElem?_getD, List.getElem?_eq_getElem h]
 exact List.getElem_mem h
def RSl (hs : HSt) (R : List Ser) (i : Nat) (v : AV) : Prop := (v = .nils ∧ R = []) ∨ ∃ b sz ex, v = .slice b i (R.length - i) 2 ∧ MemH hs b ⟨sz, ex, cR R⟩
def RAll (hs : HSt) (R : List Ser) : Prop := ∀ x ∈ R, LIn hs x.2.1 x.1 ∧ SIn hs x.2.2.2 x.2.2.1
def RBd (R : List Ser) : Prop := R.length ≤ 1048576 ∧ ∀ x ∈ R, LBd x.2.1 ∧ SBd x.2.2.2
theorem RSl.mono {hs hs' : HSt} {R : List Ser} {i : Nat} {v : AV} (hm : ∀ b o, MemH hs b o → MemH hs' b o) (h : RSl hs R i v) : RSl hs' R i v := h.imp id fun ⟨b, sz, ex, h1, h2⟩ => ⟨b, sz, ex, h1, hm _ _ h2⟩
theorem RAll.mono {hs hs' : HSt} {R : List Ser} (hm : ∀ b o, MemH hs b o → MemH hs' b o) (h : RAll hs R) : RAll hs' R := fun x hx => ⟨(h x hx).1.mono hm, (h x hx).2.mono hm⟩
theorem RSl.len {hs : HSt} {R : List Ser} {i : Nat} {v : AV} {e : Nat} (h : RSl hs R i v) : lenA (.slice e) v = some (R.length - i) := by
 rcases h with ⟨rfl, rfl⟩ | ⟨b, sz, ex, rfl, _⟩
 ·simp [lenA]
 ·rfl
theorem RSl.full {hs : HSt} {R : List Ser} {i : Nat} {v : AV} (h : RSl hs R i v) (hl : 0 < R.length - i) : ∃ b sz ex, v = .slice b i (R.length - i) 2 ∧ MemH hs b ⟨sz, ex, cR R⟩ := by
 rcases h with ⟨_, rfl⟩ | h
 ·simp at hl
 ·exact h
theorem RSl.next {hs : HSt} {R : List Ser} {i b sz : Nat} {ex : Bool} (w : Bool) (h : (⟨b, ⟨sz, ex, cR R⟩, w⟩ : HE) ∈ hs) : RSl hs R (i + 1) (.slice b (i + 1) (R.length - i - 1) 2) := .inr ⟨b, sz, ex, by rw [Nat.sub_sub], w, h⟩
theorem RSl.cell {hs : HSt} {R : List Ser} {i : Nat} {v : AV} (h : RSl hs R i v) : v.isCell = true := by
 rcases h with ⟨rfl, _⟩ | ⟨b, sz, ex, rfl, _⟩ <;> rfl
theorem RSl.own {R : List Ser} {v : AV} {hp : HSt} (h : OwnE 2 (cR R) R.length v hp) : RSl hp R 0 v := by
 rcases h with ⟨h0, _, rfl, rfl⟩ | ⟨b, ex, rfl, rfl, _⟩
 ·exact .inl ⟨rfl, List.eq_nil_of_length_eq_zero h0⟩
 ·exact .inr ⟨b, 2, ex, rfl, true, List.mem_singleton.2 rfl⟩
theorem MemH.ap1 {A B : HSt} {b : Nat} {o : AObj} (h : MemH A b o) : MemH (A ++ B) b o := let ⟨w, g⟩ := h; ⟨w, List.mem_append_left _ g⟩
def conR (R : List Ser) : List (List Lab × List Smp) := R.map fun x => (x.2.1, x.2.2.2)
def mCs (l : List MtT) : List AV := l.flatMap mC
def mg (M : List MtT) (i : Nat) : MtT := M.getD i (0, [], [])
theorem mC_len (t : MtT) : (mC t).length = 3 := rfl
theorem mCs_cons (t : MtT) (L : List MtT) : mCs (t :: L) = mC t ++ mCs L := by simp [mCs]
theorem mCs_len : ∀ L : List MtT, (mCs L).length = L.length * 3
 | [] => rfl
 | t :: L => by rw [mCs_cons, List.length_append, mC_len, mCs_len L, List.length_cons]; omega
theorem mCs_get : ∀ (L : List MtT) (i j : Nat), i < L.length → j < 3 → (mCs L)[i * 3 + j]? = (mC (mg L i))[j]?
 | [], i, j, h, _ => by simp at h
 | t :: L, 0, j, h, hj => by
  rw [mCs_cons, List.getElem?_append_left (by rw [mC_len]; omega)]
  simp [mg]
 | t :: L, i + 1, j, h, hj => by
  rw [mCs_cons, List.getElem?_append_right (by rw [mC_len]; omega), mC_len]
  have : (i + 1) * 3 + j - 3 = i * 3 + j := by omega
  rw [this, mCs_get L i j (by simpa using h) hj]
  rfl
theorem msub {L : List MtT} {i : Nat} (h : i < L.length) : sub? (mCs L) ((0 + i) * 3) 3 = some (mC (mg L i)) := by
 unfold sub?
 have hle : Nat.ble ((0 + i) * 3 + 3) (mCs L).length = true := by rw [mCs_len]; apply Nat.ble_eq.mpr; omega
 simp only [hle]
 congr 1
 apply List.ext_getElem?
 intro j
 rw [List.getElem?_take, List.getElem?_drop]
 split
 ·rename_i hj
  rw [Nat.zero_add, mCs_get L i j h hj]
 ·rw [List.getElem?_eq_none (by rw [mC_len]; omega)]
def ISm (hs : HSt) (M : List MtT) (v : AV) : Prop := (v = .nils ∧ M = []) ∨ ∃ b sz ex, v = .slice b 0 M.length 3 ∧ MemH hs b ⟨sz, ex, mCs M⟩
theorem ISm.mono {hs hs' : HSt} {M : List MtT} {v : AV} (hm : ∀ b o, MemH hs b o → MemH hs' b o) (h : ISm hs M v) : ISm hs' M v := h.imp id fun ⟨b, sz, ex, h1, h2⟩ => ⟨b, sz, ex, h1, hm _ _ h2⟩
theorem ism_len {hs : HSt} {M : List MtT} {v : AV} {e : Nat} (h : ISm hs M v) : lenA (.slice e) v = some M.length := by
 rcases h with ⟨rfl, rfl⟩ | ⟨b, sz, ex, rfl, _⟩ <;> rfl
theorem ism_full {hs : HSt} {M : List MtT} {v : AV} (h : ISm hs M v) (hl : 0 < M.length) : ∃ b sz ex, v = .slice b 0 M.length 3 ∧ MemH hs b ⟨sz, ex, mCs M⟩ := by
 rcases h with ⟨_, rfl⟩ | h
 ·simp at hl
 ·exact h
theorem ISm.cell {hs : HSt} {M : List MtT} {v : AV} (h : ISm hs M v) : v.isCell = true := by
 rcases h with ⟨rfl, _⟩ | ⟨b, sz, ex, rfl, _⟩ <;> rfl
theorem Src.ism {hs : HSt} {M : List MtT} {v : AV} (h : ISm hs M v) : Src hs 3 v M.length (mCs M) := by
 rcases h with ⟨rfl, rfl⟩ | ⟨b, sz, ex, rfl, hm⟩
 ·exact Src.nils
 ·exact Src.all hm (mCs_len M)
def MOk (M : List MtT) : Prop := M.length ≤ 1048576 ∧ ∀ x ∈ M, MtOk x
theorem mok_at {M : List MtT} (h : MOk M) {i : Nat} (hi : i < M.length) : MtOk (mg M i) := by
 refine h.2 _ ?_
 unfold mg
 rw [List.getD_eq_getElem?_getD, List.getElem?_eq_getElem hi]
 exact List.getElem_mem hi
def getL (l : List Lab) (n : List Nat) : List Nat := match l with
 | [] => []
 | x :: l => if x.1 = n then x.2 else getL l n
noncomputable def fitB (m : MtT) (l : List Lab) : Bool := if chkV m ≠ 0 then false else if m.1 < 3 then (decide (getL l m.2.1 = m.2.2)) == (decide (m.1 = 1)) else fitV m.2.2 (getL l m.2.1) == decide (m.1 = 3)
noncomputable def allB (M : List MtT) (l : List Lab) : Bool := M.all fun m => fitB m l
noncomputable def caF : List MtT → Int → Int
 | [], e => e
 | m :: M, e => if chkV m ≠ 0 then chkV m else caF M e
noncomputable def caV (M : List MtT) : Int := if 8 < M.length then 3 else caF M (if allB M [] = true then 2 else 0)
theorem mg_drop {M : List MtT} {i : Nat} (h : i < M.length) : M.drop i = mg M i :: M.drop (i + 1) := by
 rw [List.drop_eq_getElem_cons h]
 unfold mg
 rw [List.getD_eq_getElem?_getD, List.getElem?_eq_getElem h]; rfl
theorem getL_step {l : List Lab} {i : Nat} {n : List Nat} (h : i < l.length) : getL (l.drop i) n = if (lg l i).1 = n then (lg l i).2 else getL (l.drop (i + 1)) n := by
 rw [List.drop_eq_getElem_cons h]
 unfold lg
 rw [List.getD_eq_getElem?_getD, List.getElem?_eq_getElem h]; rfl
theorem getL_end {l : List Lab} {i : Nat} {n : List Nat} (h : l.length ≤ i) : getL (l.drop i) n = [] := by
 rw [List.drop_eq_nil_of_le h]; rfl
theorem getL_ok {l : List Lab} {n : List Nat} (h : LBd l) : Bytes (getL l n) ∧ (getL l n).length ≤ 1048576 := by
 have main : ∀ l : List Lab, (∀ x ∈ l, Bytes x.1 ∧ Bytes x.2 ∧ x.1.length ≤ 1048576 ∧ x.2.length ≤ 1048576) → Bytes (getL l n) ∧ (getL l n).length ≤ 1048576 := by
  intro l
  induction l with
  | nil => intro _; exact ⟨fun c hc => by simp [getL] at hc, by simp [getL]⟩
  | cons x l ih =>
   intro h
   unfold getL
   split
   ·have := h x List.mem_cons_self; exact ⟨this.2.1, this.2.2.2⟩
   ·exact ih fun y hy => h y (List.mem_cons_of_mem _ hy)
 exact main l h.2
theorem ag22 : tab.isAgg 22 = some false := by kernel_rfl
theorem ag3 : tab.isAgg 3 = some false := by kernel_rfl
theorem ag62 : tab.isAgg 62 = some true := by kernel_rfl
theorem ag63 : tab.isAgg 63 = some false := by kernel_rfl
theorem ag66 : tab.isAgg 66 = some false := by kernel_rfl
theorem ag68 : tab.isAgg 68 = some true := by kernel_rfl
theorem ag70 : tab.isAgg 70 = some true := by kernel_rfl
theorem ag72 : tab.isAgg 72 = some true := by kernel_rfl
theorem ag9 : tab.isAgg 9 = some false := by kernel_rfl
theorem ag93 : tab.isAgg 93 = some false := by kernel_rfl
theorem ag95 : tab.isAgg 95 = some true := by kernel_rfl
theorem ao68 : AO tab 68 = some ⟨2, true, [.nils, .nils]⟩ := by kernel_rfl
theorem ao70 : AO tab 70 = some ⟨2, true, [.str [], .str []]⟩ := by kernel_rfl
theorem ap22_22 : AP tab 22 22 = some 2 := by kernel_rfl
theorem ap63_63 : AP tab 63 63 = some 2 := by kernel_rfl
theorem ap66_66 : AP tab 66 66 = some 2 := by kernel_rfl
theorem bx62 : ∀ l : List AV, l.length = 3 → varObj tab 62 l = ⟨3, true, l⟩ := by intro l h; exact varObj_plain (by kernel_rfl) h
theorem bx70 : ∀ l : List AV, l.length = 2 → varObj tab 70 l = ⟨2, true, l⟩ := by intro l h; exact varObj_plain (by kernel_rfl) h
theorem bx95 : ∀ l : List AV, l.length = 2 → varObj tab 95 l = ⟨2, true, l⟩ := by intro l h; exact varObj_plain (by kernel_rfl) h
theorem fa62_0 : FA tab 62 0 = some (0, 0 + 1) := by kernel_rfl
theorem fa62_1 : FA tab 62 1 = some (1, 0 + 1) := by kernel_rfl
theorem fa62_2 : FA tab 62 2 = some (2, 0 + 1) := by kernel_rfl
theorem fa68_0 : FA tab 68 0 = some (0, 0 + 1) := by kernel_rfl
theorem fa68_1 : FA tab 68 1 = some (1, 0 + 1) := by kernel_rfl
theorem fa70_0 : FA tab 70 0 = some (0, 0 + 1) := by kernel_rfl
theorem fa70_1 : FA tab 70 1 = some (1, 0 + 1) := by kernel_rfl
theorem fa72_0 : FA tab 72 0 = some (0, 0 + 1) := by kernel_rfl
theorem fa95_0 : FA tab 95 0 = some (0, 0 + 1) := by kernel_rfl
theorem fa95_1 : FA tab 95 1 = some (1, 0 + 1) := by kernel_rfl
theorem pl68 : PL tab 68 [.nils, .nils] [(0, 1), (1, 1)] = true := by kernel_rfl
theorem pl95 : PL tab 95 [.nils, .nils] [(0, 1), (1, 1)] = true := by kernel_rfl
theorem sz22 : tab.size 22 = some 1 := by kernel_rfl
theorem sz3 : tab.size 3 = some 1 := by kernel_rfl
theorem sz62 : tab.size 62 = some 3 := by kernel_rfl
theorem sz68 : tab.size 68 = some 2 := by kernel_rfl
theorem sz70 : tab.size 70 = some 2 := by kernel_rfl
theorem sz72 : tab.size 72 = some 2 := by kernel_rfl
theorem sz95 : tab.size 95 = some 2 := by kernel_rfl
theorem ud22 : tab.und 22 = some (.slice 68) := by kernel_rfl
theorem ud25 : tab.und 25 = some (.slice 3) := by kernel_rfl
theorem ud4 : tab.und 4 = some .bool := by kernel_rfl
theorem ud49 : tab.und 49 = some (.slice 62) := by kernel_rfl
theorem ud63 : tab.und 63 = some (.slice 70) := by kernel_rfl
theorem ud66 : tab.und 66 = some (.slice 72) := by kernel_rfl
theorem ud9 : tab.und 9 = some .string := by kernel_rfl
theorem ud93 : tab.und 93 = some (.slice 22) := by kernel_rfl
theorem zr22 : tab.zero 22 = some (.nils) := by kernel_rfl
theorem zr3 : tab.zero 3 = some (.int .i64 0) := by kernel_rfl
theorem zr68 : tab.zero 68 = some (.agg [.nils, .nils]) := by kernel_rfl
theorem zr70 : tab.zero 70 = some (.agg [.str [], .str []]) := by kernel_rfl
theorem zr72 : tab.zero 72 = some (.agg [.int .i64 0, .int .i64 0]) := by kernel_rfl
end Go.Proofs.YtfkbfnpjggkdmaaGreatDoor.Ev
