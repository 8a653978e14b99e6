/- Walks over the evaluator, part 4: small things. -/
import Derived.Test.YtndhhgbpcmfeiaaGreatDoorNAwC
namespace Go.Proofs.YtndhhgbpcmfeiaaGreatDoor.Ev
open Go.RowKit
noncomputable section
variable {tb : Tab} {n : Nat} {E : Env} {s : St} {hs : af} {R : T AV -> AHeap -> Prop} {ops rest : List Oper} {d : Nat} {ty : TypeId} {pos : String} {aft : Array Edge} {t : TypeId} {k : IntKind}
theorem oc {v : AV} {c : Value} (h : kW c = some v) : oL s (.const c) = some v := h
theorem aP {ox oi : Operand} {l : List Nat} {m : Nat} (hb : Bytes l) (hu : tb.und t = some .string) (hx : oL s ox = some (.str l)) (hi : oL s oi = some (.int k ((m : Nat) : Int))) (hm : m < l.length) (hd : Nat.blt d n = true)
  (hk : ∀ c : Nat, c = l.getD m 0 -> c < 256 -> WO tb n ops rest E ((d, .int .u8 (c : Int)) :: s) hs R) : WO tb n ops (⟨some d, .index t ox oi, ty, pos, aft, none⟩ :: rest) E s hs R :=
 WO.q (lz hu hx hi hm) hd (hk _ rfl (hb.at m))
theorem bT {a b : Bool} (h : a = b) : ac [AV.bool a] = AV.bool b := by rw [h]; rfl
end
set_option maxRecDepth 100000
noncomputable section
variable {tb : Tab} {n : Nat} {E : Env} {s : St} {hs : af} {R : T AV -> AHeap -> Prop} {ops rest : List Oper} {d : Nat} {ty : TypeId} {pos : String} {aft : Array Edge} {t : TypeId} {k : IntKind}
def Own (sz : Nat) (cells : List AV) (len : Nat) (v : AV) (hp : af) : Prop :=
 (len = 0 /\ cells = [] /\ v = .nils /\ hp = []) \/ (∃ b ex, v = .slice b 0 len sz /\ hp = [⟨b, ⟨sz, ex, cells⟩, true⟩] /\ cells.length = len * sz /\ 0 < len)
theorem Own.nil (sz : Nat) : Own sz [] 0 .nils [] := .inl ⟨rfl, rfl, rfl, rfl⟩
theorem Own.length {sz : Nat} {cells : List AV} {len : Nat} {v : AV} {hp : af} (h : Own sz cells len v hp) : cells.length = len * sz := by
 rcases h with ⟨rfl, rfl, _, _⟩ | ⟨b, _, _, _, h, _⟩
 ·simp
 ·exact h
theorem Own.w {sz : Nat} {cells : List AV} {len : Nat} {v : AV} {hp : af} (h : Own sz cells len v hp) : ∀ e ∈ hp, e.w = true := by
 rcases h with ⟨_, _, _, rfl⟩ | ⟨b, _, _, rfl, _, _⟩
 ·intro e he; simp at he
 ·intro e he; simp at he; subst he; rfl
theorem Own.len {sz : Nat} {cells : List AV} {len e : Nat} {v : AV} {hp : af} (h : Own sz cells len v hp) : mj (.slice e) v = some len := by
 rcases h with ⟨rfl, _, rfl, _⟩ | ⟨b, _, rfl, _, _, _⟩ <;> rfl
theorem Own.full {sz : Nat} {cells : List AV} {len : Nat} {v : AV} {hp : af} (h : Own sz cells len v hp) (hl : 0 < len) : ∃ b ex, v = .slice b 0 len sz /\ hp = [⟨b, ⟨sz, ex, cells⟩, true⟩] := by
 rcases h with ⟨h, _, _, _⟩ | ⟨b, ex, h1, h2, _, _⟩
 ·omega
 ·exact ⟨b, ex, h1, h2⟩
theorem ly {l : List AV} {m : Nat} (h : l.length = m) : ch l 0 m = some l := by
 unfold ch
 have : Nat.ble (0 + m) l.length = true := by simp [h]
 simp only [this]
 simp [<- h]
theorem yI {ox oy : Operand} {t2 sz i b0 len b o m : Nat} {tl : List Nat} {ob : AObj} {cells : List AV} {w ex : Bool} {l : List AV} {hs' : af} (ha : AP tb t t2 = some sz) (hx : oL s ox = some (.slice b0 0 len sz)) (hy : oL s oy = some (.slice b o m sz))
  (hi : hs[i]? = some ⟨b0, ⟨sz, ex, cells⟩, true⟩) (hlen : cells.length = len * sz) (hm : ⟨b, ob, w⟩ ∈ hs)
  (hl : ch ob.cells (o * sz) (m * sz) = some l) (hn : 0 < m /\ len + m <= 1073741824) (hz : 0 < sz) (he : hs.eraseIdx i = hs') (hd : Nat.blt d n = true)
  (hk : ∀ c, WO tb n ops rest E ((d, .slice c 0 (len + m) sz) :: s) (⟨c, ⟨sz, false, cells ++ l⟩, true⟩ :: hs') R) :
  WO tb n ops (⟨some d, .call ⟨.builtin .append, #[ox, oy], (t :: t2 :: tl).toArray⟩, ty, pos, aft, none⟩ :: rest) E s hs R := by
 cases ex with
 | false => exact WO.app ha hx hy hi hlen hm hl hn hz he hd hk
 | true =>
 refine WO.l (s' := s) fun tm h ht hh => ?_
 subst he
 refine ⟨.slice h.next 0 (len + m) sz, ⟨h.next + 1, h.objs.set h.next ⟨sz, false, cells ++ l⟩⟩, tm.set d (.slice h.next 0 (len + m) sz), ?_, aT hd, ?_⟩
 ·show Res.l (ct tb tm h #[ox, oy] (t :: t2 :: tl).toArray) = _
  unfold ct
  simp only [cf, aW ht hx, aW ht hy]
  rw [gN ha (dL (hh.at_ _ hm).1 hl)]
  unfold eg
  have e0 : Nat.beq m 0 = false := by cases m with
   | zero => omega
   | succ m => rfl
  have e1 : (Nat.beq sz sz && Nat.ble (len + m) 1073741824) = true := by simp; omega
  simp only [e0, e1]
  unfold gx
  have h1 := (hh.at_ _ (ey hi)).1
  simp only at h1
  have e2 : Nat.beq sz sz = true := by simp
  have e3 : Nat.ble ((0 + len + m) * sz) cells.length = false := by
   rw [hlen]
   have : len * sz < (0 + len + m) * sz := Nat.mul_lt_mul_of_pos_right zy hz
   cases hb : Nat.ble ((0 + len + m) * sz) (len * sz) with
   | false => rfl
   | true => have := Nat.ble_eq.mp hb; omega
  have e4 : ch cells (0 * sz) (len * sz) = some cells := by
   unfold ch
   have : Nat.ble (0 * sz + len * sz) cells.length = true := by simp [hlen]
   simp only [this]
   simp [<- hlen]
  simp only [h1, e2, e3, e4]
 ·refine hk h.next _ _ (ht.set d _) ?_
  refine (hh.new ⟨sz, false, cells ++ l⟩).sub ⟨fun e he => ?_, fun hn => ?_⟩
  ·rcases List.mem_cons.1 he with rfl | he
   ·exact List.mem_cons_self ..
   ·exact List.mem_cons_of_mem _ ((SubH.erase i).1 _ he)
  ·simp only [List.map_cons, List.nodup_cons] at hn ⊢
   refine ⟨fun hm => hn.1 ?_, (SubH.erase i).2 hn.2⟩
   obtain ⟨x, hx, hb⟩ := List.mem_map.1 hm
   exact List.mem_map.2 ⟨x, (SubH.erase i).1 _ hx, hb⟩
theorem j8 {ox oy : Operand} {t2 sz len m : Nat} {tl : List Nat} {e : HE} {A hp : af} {cells new : List AV} {v : AV} (ha : AP tb t t2 = some sz) (hO : Own sz cells len v hp) (hx : oL s ox = some v) (hy : oL s oy = some (.slice e.b 0 m sz)) (hsz : e.o.cells = new)
  (hl : new.length = m * sz) (hn : 0 < m /\ len + m <= 1073741824) (hz : 0 < sz) (hs_ : hs = e :: (A ++ hp)) (hd : Nat.blt d n = true)
  (hk : ∀ v' hp', Own sz (cells ++ new) (len + m) v' hp' -> WO tb n ops rest E ((d, v') :: s) (A ++ hp') R) :
  WO tb n ops (⟨some d, .call ⟨.builtin .append, #[ox, oy], (t :: t2 :: tl).toArray⟩, ty, pos, aft, none⟩ :: rest) E s hs R := by
 subst hs_
 have hsub : ch e.o.cells (0 * sz) (m * sz) = some new := by rw [hsz, Nat.zero_mul]; exact ly hl
 rcases hO with ⟨rfl, rfl, rfl, rfl⟩ | ⟨b, ex, rfl, rfl, hc, hp0⟩
 ·refine yH (w := e.w) (ob := e.o) ha hx hy (by obtain ⟨b, o, w⟩ := e; simp) hsub ⟨hn.1, by omega⟩ hd fun c => ?_
  refine WO.subH ?_ (hk (.slice c 0 m sz) [⟨c, ⟨sz, false, new⟩, true⟩] (.inr ⟨c, false, by simp, by simp, by simp [hl], by omega⟩))
  refine SubH.trans (SubH.op (List.perm_append_comm)) ?_
  refine SubH.of_sublist ?_
  simp only [List.append_nil, List.cons_append, List.nil_append]
  exact List.Sublist.cons_cons _ (List.sublist_cons_self _ _)
 ·have hidx : (e :: (A ++ [⟨b, ⟨sz, ex, cells⟩, true⟩] : af))[A.length + 1]? = some ⟨b, ⟨sz, ex, cells⟩, true⟩ := by simp
  have hne : (e :: (A ++ [⟨b, ⟨sz, ex, cells⟩, true⟩] : af)).eraseIdx (A.length + 1) = e :: A := by
   simp [List.eraseIdx_append_of_length_le]
  refine yI (w := e.w) (ob := e.o) (i := A.length + 1) ha hx hy hidx hc (by obtain ⟨b, o, w⟩ := e; simp) hsub hn hz hne hd fun c => ?_
  refine WO.subH ?_ (hk (.slice c 0 (len + m) sz) [⟨c, ⟨sz, false, cells ++ new⟩, true⟩] (.inr ⟨c, false, rfl, rfl, by simp [hc, hl, Nat.add_mul], by omega⟩))
  refine SubH.trans (SubH.op (List.perm_append_comm)) ?_
  refine SubH.of_sublist ?_
  simp only [List.cons_append, List.nil_append]
  exact List.Sublist.cons_cons _ (List.sublist_cons_self _ _)
end
end Go.Proofs.YtndhhgbpcmfeiaaGreatDoor.Ev
