/- Walks over the evaluator, part 4: small things. -/
import Derived.Test.YtndhhgbpcmfeiaaGreatDoorMAwC
namespace Go.Proofs.YtndhhgbpcmfeiaaGreatDoor.Ev
open Go.RowKit
set_option linter.unusedVariables false
set_option linter.unusedSimpArgs false
noncomputable section
variable {tb : Tab} {n : Nat} {E : Env} {s : St} {hs : HSt} {R : T AV → AHeap → Prop} {ops rest : List Oper} {d : Nat} {ty : TypeId} {pos : String} {aft : Array Edge} {t : TypeId} {k : IntKind}
theorem oc {v : AV} {c : Value} (h : ofVal c = some v) : oL s (.const c) = some v := h
theorem wn8_sub {m j : Nat} (h : j ≤ m ∧ m ≤ 255) : IntKind.u8.wrap ((m : Int) - (j : Int)) = ((m - j : Nat) : Int) := by
 rw [wr8 (by omega)]; omega
theorem WO.indexB {ox oi : Operand} {l : List Nat} {m : Nat} (hb : Bytes l) (hu : tb.und t = some .string) (hx : oL s ox = some (.str l)) (hi : oL s oi = some (.int k ((m : Nat) : Int))) (hm : m < l.length) (hd : Nat.blt d n = true)
  (hk : ∀ c : Nat, c = l.getD m 0 → c < 256 → WO tb n ops rest E ((d, .int .u8 (c : Int)) :: s) hs R) : WO tb n ops (⟨some d, .index t ox oi, ty, pos, aft, none⟩ :: rest) E s hs R :=
 WO.q (Q.indexS hu hx hi hm) hd (hk _ rfl (hb.at m))
theorem bool_eq {a b : Bool} (h : a = b) : oneOf [AV.bool a] = AV.bool b := by rw [h]; rfl
end
set_option maxRecDepth 100000
noncomputable section
variable {tb : Tab} {n : Nat} {E : Env} {s : St} {hs : HSt} {R : T AV → AHeap → Prop} {ops rest : List Oper} {d : Nat} {ty : TypeId} {pos : String} {aft : Array Edge} {t : TypeId} {k : IntKind}
def Own (sz : Nat) (cells : List AV) (len : Nat) (v : AV) (hp : HSt) : Prop :=
 (len = 0 ∧ cells = [] ∧ v = .nils ∧ hp = []) ∨ (∃ b ex, v = .slice b 0 len sz ∧ hp = [⟨b, ⟨sz, ex, cells⟩, true⟩] ∧ cells.length = len * sz ∧ 0 < len)
theorem Own.nil (sz : Nat) : Own sz [] 0 .nils [] := .inl ⟨rfl, rfl, rfl, rfl⟩
theorem Own.length {sz : Nat} {cells : List AV} {len : Nat} {v : AV} {hp : HSt} (h : Own sz cells len v hp) : cells.length = len * sz := by
 rcases h with ⟨rfl, rfl, _, _⟩ | ⟨b, _, _, _, h, _⟩
 ·simp
 ·exact h
theorem Own.w {sz : Nat} {cells : List AV} {len : Nat} {v : AV} {hp : HSt} (h : Own sz cells len v hp) : ∀ e ∈ hp, e.w = true := by
 rcases h with ⟨_, _, _, rfl⟩ | ⟨b, _, _, rfl, _, _⟩
 ·intro e he; simp at he
 ·intro e he; simp at he; subst he; rfl
theorem Own.len {sz : Nat} {cells : List AV} {len e : Nat} {v : AV} {hp : HSt} (h : Own sz cells len v hp) : lenA (.slice e) v = some len := by
 rcases h with ⟨rfl, _, rfl, _⟩ | ⟨b, _, rfl, _, _, _⟩ <;> rfl
theorem Own.full {sz : Nat} {cells : List AV} {len : Nat} {v : AV} {hp : HSt} (h : Own sz cells len v hp) (hl : 0 < len) : ∃ b ex, v = .slice b 0 len sz ∧ hp = [⟨b, ⟨sz, ex, cells⟩, true⟩] := by
 rcases h with ⟨h, _, _, _⟩ | ⟨b, ex, h1, h2, _, _⟩
 ·omega
 ·exact ⟨b, ex, h1, h2⟩
theorem sub_all {l : List AV} {m : Nat} (h : l.length = m) : sub? l 0 m = some l := by
 unfold sub?
 have : Nat.ble (0 + m) l.length = true := by simp [h]
 simp only [this]
 simp [← h]
theorem WO.appE {ox oy : Operand} {t2 sz i b0 len b o m : Nat} {tl : List Nat} {ob : AObj} {cells : List AV} {w ex : Bool} {l : List AV} {hs' : HSt} (ha : AP tb t t2 = some sz) (hx : oL s ox = some (.slice b0 0 len sz)) (hy : oL s oy = some (.slice b o m sz))
  (hi : hs[i]? = some ⟨b0, ⟨sz, ex, cells⟩, true⟩) (hlen : cells.length = len * sz) (hm : ⟨b, ob, w⟩ ∈ hs)
  (hl : sub? ob.cells (o * sz) (m * sz) = some l) (hn : 0 < m ∧ len + m ≤ 1073741824) (hz : 0 < sz) (he : hs.eraseIdx i = hs') (hd : Nat.blt d n = true)
  (hk : ∀ c, WO tb n ops rest E ((d, .slice c 0 (len + m) sz) :: s) (⟨c, ⟨sz, false, cells ++ l⟩, true⟩ :: hs') R) :
  WO tb n ops (⟨some d, .call ⟨.builtin .append, #[ox, oy], (t :: t2 :: tl).toArray⟩, ty, pos, aft, none⟩ :: rest) E s hs R := by
 cases ex with
 | false => exact WO.app ha hx hy hi hlen hm hl hn hz he hd hk
 | true =>
 refine WO.l (s' := s) fun tm h ht hh => ?_
 subst he
 refine ⟨.slice h.next 0 (len + m) sz, ⟨h.next + 1, h.objs.set h.next ⟨sz, false, cells ++ l⟩⟩, tm.set d (.slice h.next 0 (len + m) sz), ?_, putDst_at hd, ?_⟩
 ·show Res.l (evAppend tb tm h #[ox, oy] (t :: t2 :: tl).toArray) = _
  unfold evAppend
  simp only [opnds, oL_ok ht hx, oL_ok ht hy]
  rw [appendA_of ha (cellsOf_slice (hh.at_ _ hm).1 hl)]
  unfold appendB
  have e0 : Nat.beq m 0 = false := by cases m with
   | zero => omega
   | succ m => rfl
  have e1 : (Nat.beq sz sz && Nat.ble (len + m) 1073741824) = true := by simp; omega
  simp only [e0, e1]
  unfold appendTo
  have h1 := (hh.at_ _ (mem_at hi)).1
  simp only at h1
  have e2 : Nat.beq sz sz = true := by simp
  have e3 : Nat.ble ((0 + len + m) * sz) cells.length = false := by
   rw [hlen]
   have : len * sz < (0 + len + m) * sz := Nat.mul_lt_mul_of_pos_right (by omega) hz
   cases hb : Nat.ble ((0 + len + m) * sz) (len * sz) with
   | false => rfl
   | true => have := Nat.ble_eq.mp hb; omega
  have e4 : sub? cells (0 * sz) (len * sz) = some cells := by
   unfold sub?
   have : Nat.ble (0 * sz + len * sz) cells.length = true := by simp [hlen]
   simp only [this]
   simp [← hlen]
  simp only [h1, e2, e3, e4]
 ·refine hk h.next _ _ (ht.set d _) ?_
  refine (hh.new ⟨sz, false, cells ++ l⟩).sub ⟨fun e he => ?_, fun hn => ?_⟩
  ·rcases List.mem_cons.1 he with rfl | he
   ·exact List.mem_cons_self ..
   ·exact List.mem_cons_of_mem _ ((SubH.erase i).1 _ he)
  ·simp only [List.map_cons, List.nodup_cons] at hn ⊢
   refine ⟨fun hm => hn.1 ?_, (SubH.erase i).2 hn.2⟩
   obtain ⟨x, hx, hb⟩ := List.mem_map.1 hm
   exact List.mem_map.2 ⟨x, (SubH.erase i).1 _ hx, hb⟩
theorem WO.appOwn {ox oy : Operand} {t2 sz len m : Nat} {tl : List Nat} {e : HE} {A hp : HSt} {cells new : List AV} {v : AV} (ha : AP tb t t2 = some sz) (hO : Own sz cells len v hp) (hx : oL s ox = some v) (hy : oL s oy = some (.slice e.b 0 m sz)) (hsz : e.o.cells = new)
  (hl : new.length = m * sz) (hn : 0 < m ∧ len + m ≤ 1073741824) (hz : 0 < sz) (hs_ : hs = e :: (A ++ hp)) (hd : Nat.blt d n = true)
  (hk : ∀ v' hp', Own sz (cells ++ new) (len + m) v' hp' → WO tb n ops rest E ((d, v') :: s) (A ++ hp') R) :
  WO tb n ops (⟨some d, .call ⟨.builtin .append, #[ox, oy], (t :: t2 :: tl).toArray⟩, ty, pos, aft, none⟩ :: rest) E s hs R := by
 subst hs_
 have hsub : sub? e.o.cells (0 * sz) (m * sz) = some new := by rw [hsz, Nat.zero_mul]; exact sub_all hl
 rcases hO with ⟨rfl, rfl, rfl, rfl⟩ | ⟨b, ex, rfl, rfl, hc, hp0⟩
 ·refine WO.app0 (w := e.w) (ob := e.o) ha hx hy (by obtain ⟨b, o, w⟩ := e; simp) hsub ⟨hn.1, by omega⟩ hd fun c => ?_
  refine WO.subH ?_ (hk (.slice c 0 m sz) [⟨c, ⟨sz, false, new⟩, true⟩] (.inr ⟨c, false, by simp, by simp, by simp [hl], by omega⟩))
  refine SubH.trans (SubH.op (List.perm_append_comm)) ?_
  refine SubH.of_sublist ?_
  simp only [List.append_nil, List.cons_append, List.nil_append]
  exact List.Sublist.cons_cons _ (List.sublist_cons_self _ _)
 ·have hidx : (e :: (A ++ [⟨b, ⟨sz, ex, cells⟩, true⟩] : HSt))[A.length + 1]? = some ⟨b, ⟨sz, ex, cells⟩, true⟩ := by simp
  have hne : (e :: (A ++ [⟨b, ⟨sz, ex, cells⟩, true⟩] : HSt)).eraseIdx (A.length + 1) = e :: A := by
   simp [List.eraseIdx_append_of_length_le]
  refine WO.appE (w := e.w) (ob := e.o) (i := A.length + 1) ha hx hy hidx hc (by obtain ⟨b, o, w⟩ := e; simp) hsub hn hz hne hd fun c => ?_
  refine WO.subH ?_ (hk (.slice c 0 (len + m) sz) [⟨c, ⟨sz, false, cells ++ new⟩, true⟩] (.inr ⟨c, false, rfl, rfl, by simp [hc, hl, Nat.add_mul], by omega⟩))
  refine SubH.trans (SubH.op (List.perm_append_comm)) ?_
  refine SubH.of_sublist ?_
  simp only [List.cons_append, List.nil_append]
  exact List.Sublist.cons_cons _ (List.sublist_cons_self _ _)
def u8c (l : List Nat) : List AV := l.map fun c => .int .u8 ((c : Nat) : Int)
theorem bytesOf_u8c : ∀ {l : List Nat}, Bytes l → bytesOf (u8c l) = some l
 | [], _ => rfl
 | c :: l, h => by
  have h1 : c < 256 := h c (List.mem_cons_self ..)
  have h2 := bytesOf_u8c (l := l) fun x hx => h x (List.mem_cons_of_mem _ hx)
  show (match bytesOf (u8c l) with | some m => some (c % 256 :: m) | none => none) = _
  rw [h2, Nat.mod_eq_of_lt h1]
theorem Q.convOwn {sr : TypeId} {ox : Operand} {e : Nat} {l : List Nat} {len : Nat} {v : AV} {hp A : HSt} (hu : tb.und sr = some (.slice e)) (hv : tb.und t = some .string) (he : tb.und e = some (.int .u8)) (hb : Bytes l) (hO : Own 1 (u8c l) len v hp) (hx : oL s ox = some v)
  (hs_ : hs = A ++ hp) : QV tb s hs (.convert sr t ox) (.str l) := by
 intro tm h ht hh call
 show evConvert tb tm h sr t ox = _
 unfold evConvert
 rw [hu, hv, oL_ok ht hx]
 rcases hO with ⟨h1, h2, rfl, rfl⟩ | ⟨b, ex, rfl, rfl, hc, hp0⟩
 ·simp only [he, isU8]
  have : l = [] := by simpa [u8c] using h2
  rw [this]
 ·simp only [he, isU8]
  unfold strOfBytes
  have hm : (⟨b, ⟨1, ex, u8c l⟩, true⟩ : HE) ∈ hs := by rw [hs_]; simp
  have h1 := (hh _ hm)
  simp only at h1
  have e1 : Nat.beq 1 1 = true := rfl
  have e2 : sub? (u8c l) 0 len = some (u8c l) := sub_all (by simpa using hc)
  simp only [h1, e1, e2, bytesOf_u8c hb]
end
end Go.Proofs.YtndhhgbpcmfeiaaGreatDoor.Ev
