/- Elements in memory; lists of a function's own that may be empty without being nil; append of any slice. -/
import Derived.Test.YtmblgaehfjheeaaGreatKYb
namespace Go.Proofs.YtmblgaehfjheeaaGreat.Ev
open Go.RowKit
set_option linter.unusedVariables false
set_option linter.unusedSimpArgs false
def OwnE (sz : Nat) (cells : List AV) (len : Nat) (v : AV) (hp : HSt) : Prop :=
  (len = 0 ∧ cells = [] ∧ v = .nils ∧ hp = []) ∨ (∃ b ex, v = .slice b 0 len sz ∧ hp = [⟨b, ⟨sz, ex, cells⟩, true⟩] ∧ cells.length = len * sz)
theorem OwnE.nil (sz : Nat) : OwnE sz [] 0 .nils [] := .inl ⟨rfl, rfl, rfl, rfl⟩
theorem OwnE.of {sz : Nat} {cells : List AV} {len : Nat} {v : AV} {hp : HSt} (h : Own sz cells len v hp) : OwnE sz cells len v hp := h.imp id fun ⟨b, ex, h1, h2, h3, _⟩ => ⟨b, ex, h1, h2, h3⟩
theorem OwnE.cons {sz len b : Nat} {ex : Bool} {cells : List AV} (h : cells.length = len * sz) : OwnE sz cells len (.slice b 0 len sz) [⟨b, ⟨sz, ex, cells⟩, true⟩] := .inr ⟨b, ex, rfl, rfl, h⟩
theorem OwnE.length {sz : Nat} {cells : List AV} {len : Nat} {v : AV} {hp : HSt} (h : OwnE sz cells len v hp) : cells.length = len * sz := by
  rcases h with ⟨rfl, rfl, _, _⟩ | ⟨b, _, _, _, h⟩
  · simp
  · exact h
theorem OwnE.w {sz : Nat} {cells : List AV} {len : Nat} {v : AV} {hp : HSt} (h : OwnE sz cells len v hp) : ∀ e ∈ hp, e.w = true := by
  rcases h with ⟨_, _, _, rfl⟩ | ⟨b, _, _, rfl, _⟩
  · intro e he; simp at he
  · intro e he; simp at he; subst he; rfl
theorem OwnE.len {sz : Nat} {cells : List AV} {len e : Nat} {v : AV} {hp : HSt} (h : OwnE sz cells len v hp) : lenA (.slice e) v = some len := by
  rcases h with ⟨rfl, _, rfl, _⟩ | ⟨b, _, rfl, _, _⟩ <;> rfl
theorem OwnE.cell {sz : Nat} {cells : List AV} {len : Nat} {v : AV} {hp : HSt} (h : OwnE sz cells len v hp) : v.isCell = true := by
  rcases h with ⟨_, _, rfl, _⟩ | ⟨b, _, rfl, _, _⟩ <;> rfl
theorem OwnE.bq {sz : Nat} {cells : List AV} {len : Nat} {v : AV} {hp : HSt} (h : OwnE sz cells len v hp) : v.beq v = true := by
  rcases h with ⟨_, _, rfl, _⟩ | ⟨b, ex, rfl, _, _⟩
  · rfl
  · simp [AV.beq, beq1, beq0]
theorem OwnE.full {sz : Nat} {cells : List AV} {len : Nat} {v : AV} {hp : HSt} (h : OwnE sz cells len v hp) (hl : 0 < len) : ∃ b ex, v = .slice b 0 len sz ∧ hp = [⟨b, ⟨sz, ex, cells⟩, true⟩] := by
  rcases h with ⟨h, _, _, _⟩ | ⟨b, ex, h1, h2, _⟩
  · omega
  · exact ⟨b, ex, h1, h2⟩
def Src (hs : HSt) (sz : Nat) (x : AV) (m : Nat) (new : List AV) : Prop := ∀ h, KeepIn hs h → cellsOfA h.objs sz x = some (m, new)
theorem Src.nils {hs : HSt} {sz : Nat} : Src hs sz .nils 0 [] := fun h _ => rfl
theorem Src.slice {hs : HSt} {b o m sz : Nat} {ob : AObj} {w : Bool} {l : List AV} (hm : ⟨b, ob, w⟩ ∈ hs) (hl : sub? ob.cells (o * sz) (m * sz) = some l) : Src hs sz (.slice b o m sz) m l :=
  fun h hh => cellsOf_slice (hh _ hm) hl
theorem Src.all {hs : HSt} {b m sz : Nat} {ob : AObj} (hm : MemH hs b ob) (hl : ob.cells.length = m * sz) : Src hs sz (.slice b 0 m sz) m ob.cells := by
  obtain ⟨w, hm⟩ := hm
  exact Src.slice hm (by rw [Nat.zero_mul]; exact sub_all hl)
theorem Src.lin {hs : HSt} {l : List Lab} {v : AV} (h : LIn hs l v) : Src hs 2 v l.length (cL l) := by
  rcases h with ⟨rfl, rfl⟩ | ⟨b, sz, ex, rfl, hm⟩
  · exact Src.nils
  · exact Src.all hm (cL_len l)
theorem Src.mono {hs hs' : HSt} {sz m : Nat} {x : AV} {new : List AV} (hm : ∀ e ∈ hs, MemH hs' e.b e.o) (h : Src hs sz x m new) : Src hs' sz x m new :=
  fun hp hh => h hp fun e he => by obtain ⟨w, hw⟩ := hm e he; exact hh ⟨e.b, e.o, w⟩ hw
section
variable {tb : Tab} {n : Nat} {E : Env} {s : St} {hs : HSt} {R : T AV → AHeap → Prop} {ops rest : List Oper} {d : Nat} {t : TypeId} {ty : TypeId} {pos : String} {aft : Array Edge}
theorem WO.appAny {ox oy : Operand} {t2 sz len m : Nat} {tl : List Nat} {A hp : HSt} {cells new : List AV} {v x : AV} (ha : AP tb t t2 = some sz) (hO : OwnE sz cells len v hp) (hx : oL s ox = some v) (hy : oL s oy = some x) (hc : Src hs sz x m new)
    (hl : new.length = m * sz) (hn : len + m ≤ 1073741824) (hz : 0 < sz) (hs_ : SubH (A ++ hp) hs) (hd : Nat.blt d n = true)
    (hk : ∀ v' hp', OwnE sz (cells ++ new) (len + m) v' hp' → WO tb n ops rest E ((d, v') :: s) (A ++ hp') R) :
    WO tb n ops (⟨some d, .call ⟨.builtin .append, #[ox, oy], (t :: t2 :: tl).toArray⟩, ty, pos, aft, none⟩ :: rest) E s hs R := by
  refine WO.l (s' := s) fun tm h ht hh => ?_
  have hc := hc h hh.keep
  replace hh := hh.sub hs_
  have hev : ∀ r, appendB h sz m v new = r → evOp tb (callOf (Ev.callE tb)) tm h (.call ⟨.builtin .append, #[ox, oy], (t :: t2 :: tl).toArray⟩) = .l r := by
    intro r hr
    show Res.l (evAppend tb tm h #[ox, oy] (t :: t2 :: tl).toArray) = _
    unfold evAppend
    simp only [opnds, oL_ok ht hx, oL_ok ht hy]
    rw [appendA_of ha hc, hr]
  by_cases hm0 : m = 0
  · have hnew : new = [] := List.eq_nil_of_length_eq_zero (by rw [hl, hm0]; simp)
    subst hm0 hnew
    have hk := hk v hp (by simpa using hO)
    refine ⟨v, h, tm.set d v, hev _ ?_, putDst_at hd, hk _ _ (ht.set d v) hh⟩
    rcases hO with ⟨_, _, rfl, _⟩ | ⟨b, ex, rfl, _, _⟩
    · rfl
    · unfold appendB
      have e1 : Nat.beq sz sz = true := by simp
      simp only [Nat.beq_eq_true_eq, e1]
  · have e0 : Nat.beq m 0 = false := by cases m with
      | zero => omega
      | succ m => rfl
    rcases hO with ⟨rfl, rfl, rfl, rfl⟩ | ⟨b, ex, rfl, rfl, hcl⟩
    · have e1 : Nat.ble m 1073741824 = true := Nat.ble_eq.mpr (by omega)
      have hk := hk (.slice h.next 0 (0 + m) sz) [⟨h.next, ⟨sz, false, [] ++ new⟩, true⟩] (OwnE.cons (by rw [Nat.zero_add]; simpa using hl))
      rw [Nat.zero_add, List.nil_append] at hk
      refine ⟨.slice h.next 0 m sz, ⟨h.next + 1, h.objs.set h.next ⟨sz, false, new⟩⟩, tm.set d (.slice h.next 0 m sz), hev _ ?_, putDst_at hd, hk _ _ (ht.set d _) ?_⟩
      · unfold appendB
        simp only [e0, e1]
      · rw [List.append_nil] at hh
        exact (hh.new _).sub (SubH.of_perm (List.perm_append_singleton _ _))
    · have e1 : (Nat.beq sz sz && Nat.ble (len + m) 1073741824) = true := by simp; omega
      have hmem : (⟨b, ⟨sz, ex, cells⟩, true⟩ : HE) ∈ (A ++ [⟨b, ⟨sz, ex, cells⟩, true⟩] : HSt) := by simp
      have h1 := (hh.at_ _ hmem).1
      simp only at h1
      have e2 : Nat.beq sz sz = true := by simp
      have e3 : Nat.ble ((0 + len + m) * sz) cells.length = false := by
        rw [hcl]
        have : len * sz < (0 + len + m) * sz := Nat.mul_lt_mul_of_pos_right (by omega) hz
        cases hb : Nat.ble ((0 + len + m) * sz) (len * sz) with
        | false => rfl
        | true => have := Nat.ble_eq.mp hb; omega
      have e4 : sub? cells (0 * sz) (len * sz) = some cells := by rw [Nat.zero_mul]; exact sub_all hcl
      have hidx : (A ++ [⟨b, ⟨sz, ex, cells⟩, true⟩] : HSt)[A.length]? = some ⟨b, ⟨sz, ex, cells⟩, true⟩ := by simp
      have hne : (A ++ [⟨b, ⟨sz, ex, cells⟩, true⟩] : HSt).eraseIdx A.length = A := by simp [List.eraseIdx_append_of_length_le]
      have hk := hk (.slice h.next 0 (len + m) sz) [⟨h.next, ⟨sz, false, cells ++ new⟩, true⟩] (OwnE.cons (by rw [List.length_append, hcl, hl, Nat.add_mul]))
      cases ex with
      | true =>
        refine ⟨.slice h.next 0 (len + m) sz, ⟨h.next + 1, h.objs.set h.next ⟨sz, false, cells ++ new⟩⟩, tm.set d (.slice h.next 0 (len + m) sz), hev _ ?_, putDst_at hd, hk _ _ (ht.set d _) ?_⟩
        · unfold appendB
          simp only [e0, e1]
          unfold appendTo
          simp only [h1, e2, e3, e4]
        · refine (hh.new ⟨sz, false, cells ++ new⟩).sub (SubH.trans (SubH.of_perm (List.perm_append_singleton _ _)) (SubH.of_sublist ?_))
          exact List.Sublist.cons_cons _ (List.sublist_append_left _ _)
      | false =>
        refine ⟨.slice h.next 0 (len + m) sz, ⟨h.next + 1, (h.objs.del b).set h.next ⟨sz, false, cells ++ new⟩⟩, tm.set d (.slice h.next 0 (len + m) sz), hev _ ?_, putDst_at hd, hk _ _ (ht.set d _) ?_⟩
        · unfold appendB
          simp only [e0, e1]
          unfold appendTo
          simp only [h1, e2, e3, e4]
        · have := hh.del hidx
          rw [hne] at this
          exact (this.new ⟨sz, false, cells ++ new⟩).sub (SubH.of_perm (List.perm_append_singleton _ _))
variable {keep : HSt} {q i : Nat}
theorem WD.appAny {ox oy : Operand} {t2 sz len m : Nat} {tl : List Nat} {A hp : HSt} {cells new : List AV} {v x : AV} (ha : AP tb t t2 = some sz) (hO : OwnE sz cells len v hp) (hx : oL s ox = some v) (hy : oL s oy = some x) (hc : Src hs sz x m new)
    (hl : new.length = m * sz) (hn : len + m ≤ 1073741824) (hz : 0 < sz) (hs_ : SubH (A ++ hp) hs) (hd : Nat.blt d n = true) (hkp : KIn keep A)
    (hk : ∀ v' hp', OwnE sz (cells ++ new) (len + m) v' hp' → WD tb n ops keep q (i + 1) rest E ((d, v') :: s) (A ++ hp') R) :
    WD tb n ops keep q i (⟨some d, .call ⟨.builtin .append, #[ox, oy], (t :: t2 :: tl).toArray⟩, ty, pos, aft, none⟩ :: rest) E s hs R :=
  WD.l (C := fun v' hs' => ∃ hp', OwnE sz (cells ++ new) (len + m) v' hp' ∧ hs' = A ++ hp') (fun tm h r e => by cases e) (fun R hR => WO.appAny ha hO hx hy hc hl hn hz hs_ hd fun v' hp' h => WO.nil (hR _ _ ⟨hp', h, rfl⟩))
    (fun v' hs' ⟨hp', _, h2⟩ _ => by subst h2; exact fun e he => let ⟨w, hm⟩ := hkp e he; ⟨w, List.mem_append_left _ hm⟩) (fun v' hs' ⟨hp', h1, h2⟩ => by subst h2; exact hk v' hp' h1)
end
abbrev El := AV × List Lab × Int
def cE (V : List El) : List AV := V.flatMap fun x => [x.1, .int .i64 x.2.2]
def eg (V : List El) (i : Nat) : El := V.getD i (.nils, [], 0)
theorem eg_mem {V : List El} {i : Nat} (h : i < V.length) : eg V i ∈ V := by
  unfold eg
  rw [List.getD_eq_getElem?_getD, List.getElem?_eq_getElem h]
  exact List.getElem_mem h
theorem cE_cons (x : El) (V : List El) : cE (x :: V) = x.1 :: .int .i64 x.2.2 :: cE V := rfl
theorem cE_len (V : List El) : (cE V).length = V.length * 2 := by
  induction V with
  | nil => rfl
  | cons x V ih => rw [cE_cons, List.length_cons, List.length_cons, ih, List.length_cons]; omega
theorem cE_append (V W : List El) : cE (V ++ W) = cE V ++ cE W := by unfold cE; rw [List.flatMap_append]
theorem cE_get : ∀ (V : List El) (i : Nat), i < V.length → (cE V)[i * 2]? = some (eg V i).1 ∧ (cE V)[i * 2 + 1]? = some (.int .i64 (eg V i).2.2)
  | x :: V, 0, _ => ⟨rfl, rfl⟩
  | x :: V, i + 1, h => by
    have := cE_get V i (by simpa using h)
    have e : (i + 1) * 2 = i * 2 + 1 + 1 := by omega
    rw [cE_cons, e]
    exact this
theorem cE_at {V : List El} {i : Nat} (h : i < V.length) : sub? (cE V) ((0 + i) * 2) 2 = some [(eg V i).1, .int .i64 (eg V i).2.2] := by
  obtain ⟨h1, h2⟩ := cE_get V i h
  rw [Nat.zero_add]
  exact sub2 h1 h2
theorem cE_f0 {V : List El} {i : Nat} (h : i < V.length) : (cE V)[(0 + i) * 2 + 0]? = some (eg V i).1 := by
  rw [Nat.zero_add]; exact (cE_get V i h).1
theorem cE_f1 {V : List El} {i : Nat} (h : i < V.length) : (cE V)[(0 + i) * 2 + 1]? = some (.int .i64 (eg V i).2.2) := by
  rw [Nat.zero_add]; exact (cE_get V i h).2
def EIn (hs : HSt) (V : List El) (v : AV) : Prop := ((v = .nils ∧ V = []) ∨ ∃ b sz ex, v = .slice b 0 V.length 2 ∧ MemH hs b ⟨sz, ex, cE V⟩) ∧ ∀ x ∈ V, LIn hs x.2.1 x.1
theorem EIn.mono {hs hs' : HSt} {V : List El} {v : AV} (hm : ∀ b o, MemH hs b o → MemH hs' b o) (h : EIn hs V v) : EIn hs' V v :=
  ⟨h.1.imp id fun ⟨b, sz, ex, h1, h2⟩ => ⟨b, sz, ex, h1, hm _ _ h2⟩, fun x hx => (h.2 x hx).mono hm⟩
theorem EIn.len {hs : HSt} {V : List El} {v : AV} {e : Nat} (h : EIn hs V v) : lenA (.slice e) v = some V.length := by
  rcases h.1 with ⟨rfl, rfl⟩ | ⟨b, sz, ex, rfl, _⟩ <;> rfl
theorem EIn.full {hs : HSt} {V : List El} {v : AV} (h : EIn hs V v) (hl : 0 < V.length) : ∃ b sz ex, v = .slice b 0 V.length 2 ∧ MemH hs b ⟨sz, ex, cE V⟩ := by
  rcases h.1 with ⟨_, rfl⟩ | h
  · simp at hl
  · exact h
theorem EIn.at {hs : HSt} {V : List El} {v : AV} (h : EIn hs V v) {i : Nat} (hi : i < V.length) : LIn hs (eg V i).2.1 (eg V i).1 := h.2 _ (eg_mem hi)
def I64 (n : Int) : Prop := -9223372036854775808 ≤ n ∧ n ≤ 9223372036854775807
def EBd (V : List El) : Prop := V.length ≤ 1048576 ∧ ∀ x ∈ V, LBd x.2.1 ∧ I64 x.2.2
theorem EBd.at {V : List El} (h : EBd V) {i : Nat} (hi : i < V.length) : LBd (eg V i).2.1 ∧ I64 (eg V i).2.2 := h.2 _ (eg_mem hi)
end Go.Proofs.YtmblgaehfjheeaaGreat.Ev
