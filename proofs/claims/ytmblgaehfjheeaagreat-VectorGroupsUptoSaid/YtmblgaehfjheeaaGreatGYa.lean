/- Walks over the evaluator: joins, calls of which a part is known, blocks by counting. -/
import Derived.Test.YtmblgaehfjheeaaGreatGFixN
import Derived.Test.YtmblgaehfjheeaaGreatGNod
namespace Go.Proofs.YtmblgaehfjheeaaGreat.Ev
open Go.RowKit
set_option linter.unusedVariables false
set_option linter.unusedSimpArgs false
set_option maxRecDepth 100000
set_option maxHeartbeats 1000000
section
variable {tb : Tab} {n : Nat} {E : Env} {s : St} {hs : HSt} {R : T AV → AHeap → Prop} {ops rest : List Oper} {d : Nat} {ty : TypeId} {pos : String} {aft : Array Edge} {t : TypeId}
def ValE (P : AV → Prop) : AV → HSt → Prop := fun v D => P v ∧ D = []
theorem End.retE {rs : List ResultVar} {P : AV → Prop} {l : List AV} (hr : ResL tb s hs rs l) (hP : P (oneOf l)) : End E s hs (RetQ tb rs E (ValE P) .ret) :=
 End.ret hr (hs' := []) ⟨hP, rfl⟩ (fun e h => no_w h) (SubH.nil _)
theorem WO.callE {of : Operand} {args : List Operand} {ts : Array TypeId} {g : Nat} {caps l l' : List AV} {hsc : HSt} {P : AV → Prop} (hf : oL s of = some (.func g caps)) (ha : oLs s args = some l) (hl : l ++ caps = l')
  (hsp : Spec tb g l' [] hsc (ValE P)) (hsub : SubR hsc hs) (hd : Nat.blt d n = true) (hk : ∀ v, P v → WO tb n ops rest E ((d, v) :: s) hs R) :
  WO tb n ops (⟨some d, .call ⟨.value of, args.toArray, ts⟩, ty, pos, aft, none⟩ :: rest) E s hs R :=
 WO.call0 hf ha hl hsp hsub hd fun v' D ⟨h1, h2⟩ => by subst h2; exact hk _ h1
end
section
variable {tb : Tab} {n : Nat} {E : Env} {s : St} {hs : HSt} {a b : Code} {Q : Ex → T AV → AHeap → Prop}
theorem W.seqJ1 {α : Type} (st : α → St) (hp : α → HSt) (I : α → Prop) (hb : ∀ x, I x → W tb n b E (st x) (hp x) Q) (ha : (∀ x, I x → W tb n b E (st x) (hp x) Q) → W tb n a E s hs (Ev.K tb n b Q)) : W tb n (.seq a b) E s hs Q := W.seq (ha hb)
theorem W.seqK1 {α : Type} (st : α → St) (I : α → Prop) (hb : ∀ x, I x → W tb n b E (st x) hs Q) (ha : (∀ x, I x → W tb n b E (st x) hs Q) → W tb n a E s hs (Ev.K tb n b Q)) : W tb n (.seq a b) E s hs Q := W.seq (ha hb)
theorem W.seqJ2 {α β : Type} (st : α → β → St) (hp : α → β → HSt) (I : α → β → Prop) (hb : ∀ x y, I x y → W tb n b E (st x y) (hp x y) Q) (ha : (∀ x y, I x y → W tb n b E (st x y) (hp x y) Q) → W tb n a E s hs (Ev.K tb n b Q)) : W tb n (.seq a b) E s hs Q := W.seq (ha hb)
theorem W.seqJ3 {α β γ : Type} (st : α → β → γ → St) (hp : α → β → γ → HSt) (I : α → β → γ → Prop) (hb : ∀ x y z, I x y z → W tb n b E (st x y z) (hp x y z) Q) (ha : (∀ x y z, I x y z → W tb n b E (st x y z) (hp x y z) Q) → W tb n a E s hs (Ev.K tb n b Q)) : W tb n (.seq a b) E s hs Q := W.seq (ha hb)
theorem W.seqJ4 {α β γ δ : Type} (st : α → β → γ → δ → St) (hp : α → β → γ → δ → HSt) (I : α → β → γ → δ → Prop) (hb : ∀ x y z u, I x y z u → W tb n b E (st x y z u) (hp x y z u) Q) (ha : (∀ x y z u, I x y z u → W tb n b E (st x y z u) (hp x y z u) Q) → W tb n a E s hs (Ev.K tb n b Q)) : W tb n (.seq a b) E s hs Q := W.seq (ha hb)
end
theorem WD.callE {tb : Tab} {n m i : Nat} {ops rest : List Oper} {keep : HSt} {E : Env} {s : St} {hs : HSt} {R : T AV → AHeap → Prop} {d : Nat} {ty : TypeId} {pos : String} {aft : Array Edge} {of : Operand} {args : List Operand} {ts : Array TypeId} {g : Nat} {caps l l' : List AV} {hsc : HSt} {P : AV → Prop} (hf : oL s of = some (.func g caps)) (ha : oLs s args = some l) (hl : l ++ caps = l')
  (hsp : Spec tb g l' [] hsc (ValE P)) (hsub : SubR hsc hs) (hkp : KIn keep hs) (hd : Nat.blt d n = true) (hk : ∀ v, P v → WD tb n ops keep m (i + 1) rest E ((d, v) :: s) hs R) :
  WD tb n ops keep m i (⟨some d, .call ⟨.value of, args.toArray, ts⟩, ty, pos, aft, none⟩ :: rest) E s hs R :=
 WD.l (C := fun v' hs' => P v' ∧ hs' = hs) (fun tm h r e => by cases e) (fun R hR => WO.callE hf ha hl hsp hsub hd fun v hv => WO.nil (hR _ _ ⟨hv, rfl⟩))
  (fun v' hs' ⟨_, h2⟩ _ => by subst h2; exact hkp) (fun v' hs' ⟨h1, h2⟩ => by subst h2; exact hk v' h1)
theorem bv_bne {tb : Tab} {t : Nat} {a b : Bool} (hu : tb.und t = some .bool) : evBin tb .neq t (.bool a) (.bool b) = some (.bool (!(a == b))) := by
 show (match eqIn tb 20 t (.bool a) (.bool b) with | some b => some (AV.bool (!b)) | none => none) = _
 unfold eqIn
 simp only [hu]
 rfl
theorem bv_beqB {tb : Tab} {t : Nat} {a b : Bool} (hu : tb.und t = some .bool) : evBin tb .eql t (.bool a) (.bool b) = some (.bool (a == b)) := by
 show (match eqIn tb 20 t (.bool a) (.bool b) with | some b => some (AV.bool b) | none => none) = _
 unfold eqIn
 simp only [hu]
 rfl
theorem W.loop_ind6 {tb : Tab} {n : Nat} {E : Env} {s : St} {hs : HSt} {α β γ δ ε ζ : Type} {b : Code} {Q} (st : α → β → γ → δ → ε → ζ → St) (hp : α → β → γ → δ → ε → ζ → HSt) (Inv : α → β → γ → δ → ε → ζ → Prop) (μ : α → β → γ → δ → ε → ζ → Nat) (a0 : α) (b0 : β) (c0 : γ) (d0 : δ) (e0 : ε) (f0 : ζ)
  (h0 : Inv a0 b0 c0 d0 e0 f0) (hsub : SubS (st a0 b0 c0 d0 e0 f0) s) (hsubH : SubH (hp a0 b0 c0 d0 e0 f0) hs)
  (step : ∀ a c e f g h, Inv a c e f g h → (∀ a' c' e' f' g' h', Inv a' c' e' f' g' h' → μ a' c' e' f' g' h' < μ a c e f g h → W tb n (.loop b) E (st a' c' e' f' g' h') (hp a' c' e' f' g' h') Q) → W tb n b E (st a c e f g h) (hp a c e f g h) (KL tb n b Q)) : W tb n (.loop b) E s hs Q :=
 W.loop_ind (α := α × β × γ × δ × ε × ζ) (fun x => st x.1 x.2.1 x.2.2.1 x.2.2.2.1 x.2.2.2.2.1 x.2.2.2.2.2) (fun x => hp x.1 x.2.1 x.2.2.1 x.2.2.2.1 x.2.2.2.2.1 x.2.2.2.2.2) (fun x => Inv x.1 x.2.1 x.2.2.1 x.2.2.2.1 x.2.2.2.2.1 x.2.2.2.2.2) (fun x => μ x.1 x.2.1 x.2.2.1 x.2.2.2.1 x.2.2.2.2.1 x.2.2.2.2.2) (a0, b0, c0, d0, e0, f0) h0 hsub hsubH
  fun a ha ih => step a.1 a.2.1 a.2.2.1 a.2.2.2.1 a.2.2.2.2.1 a.2.2.2.2.2 ha fun a' c' e' f' g' h' => ih (a', c', e', f', g', h')
theorem SubR.two {bx bt : Nat} {ox ot : AObj} {w w' : Bool} {A : HSt} : SubR [⟨bx, ox, false⟩, ⟨bt, ot, false⟩] (⟨bx, ox, w⟩ :: ⟨bt, ot, w'⟩ :: A) := by
 refine ⟨fun e he => ?_, fun hn => ?_⟩
 ·rcases List.mem_cons.1 he with rfl | he
  ·exact ⟨rfl, w, List.mem_cons_self⟩
  ·rcases List.mem_cons.1 he with rfl | he
   ·exact ⟨rfl, w', List.mem_cons_of_mem _ List.mem_cons_self⟩
   ·simp at he
 ·simp only [List.map_cons, List.nodup_cons, List.mem_cons, not_or] at hn
  simp only [List.map_cons, List.map_nil, List.nodup_cons, List.mem_cons, List.not_mem_nil, or_false, not_false_eq_true, List.nodup_nil, and_true]
  exact hn.1.1
theorem SubR.pair {bx bt i j : Nat} {ox ot : AObj} {w w' : Bool} {hs : HSt} (h1 : hs[i]? = some ⟨bx, ox, w⟩) (h2 : hs[j]? = some ⟨bt, ot, w'⟩) (hij : i ≠ j) : SubR [⟨bx, ox, false⟩, ⟨bt, ot, false⟩] hs := by
 refine ⟨fun e he => ?_, fun hn => ?_⟩
 ·rcases List.mem_cons.1 he with rfl | he
  ·exact ⟨rfl, w, List.mem_of_getElem? h1⟩
  ·rcases List.mem_cons.1 he with rfl | he
   ·exact ⟨rfl, w', List.mem_of_getElem? h2⟩
   ·simp at he
 ·have e1 : (hs.map (·.b))[i]? = some bx := by rw [List.getElem?_map, h1]; rfl
  have e2 : (hs.map (·.b))[j]? = some bt := by rw [List.getElem?_map, h2]; rfl
  have hne : bx ≠ bt := by
   intro e
   have hi : i < (hs.map (·.b)).length := (List.getElem?_eq_some_iff.1 e1).1
   exact hij ((List.getElem?_inj hi hn).1 (by rw [e1, e2, e]))
  simp only [List.map_cons, List.map_nil, List.nodup_cons, List.mem_cons, List.not_mem_nil, or_false, not_false_eq_true, List.nodup_nil, and_true]
  exact hne
theorem and_tt {a b : Bool} (h : a = true) (g : b = true) : (a && b) = true := by rw [h, g]; rfl
theorem WD.call1 {tb : Tab} {n m i : Nat} {ops rest : List Oper} {keep : HSt} {E : Env} {s : St} {hs : HSt} {R : T AV → AHeap → Prop} {d : Nat} {ty : TypeId} {pos : String} {aft : Array Edge} {of : Operand} {args : List Operand} {ts : Array TypeId} {g j b : Nat} {caps l l' : List AV} {ob : AObj} {hsc hs' : HSt} {Post : AV → HSt → Prop} (hf : oL s of = some (.func g caps)) (ha : oLs s args = some l) (hl : l ++ caps = l')
  (hi : hs[j]? = some ⟨b, ob, true⟩) (hsp : Spec tb g l' [b] (⟨b, ob, true⟩ :: hsc) Post) (hsub : SubR hsc (hs.eraseIdx j)) (he : hs.eraseIdx j = hs') (hkp : KIn keep hs') (hd : Nat.blt d n = true)
  (hk : ∀ v D, Post v D → WD tb n ops keep m (i + 1) rest E ((d, v) :: s) (D ++ hs') R) :
  WD tb n ops keep m i (⟨some d, .call ⟨.value of, args.toArray, ts⟩, ty, pos, aft, none⟩ :: rest) E s hs R :=
 WD.l (C := fun v hq => ∃ D, Post v D ∧ hq = D ++ hs') (fun tm h r e => by cases e) (fun R hR => WO.call1 hf ha hl hi hsp hsub he hd fun v D h => WO.nil (hR _ _ ⟨D, h, rfl⟩))
  (fun v hq ⟨D, _, h2⟩ _ => by subst h2; exact fun e he => let ⟨w, hm⟩ := hkp e he; ⟨w, List.mem_append_right _ hm⟩) (fun v hq ⟨D, h1, h2⟩ => by subst h2; exact hk v D h1)
noncomputable instance decHE : DecidableEq HE := fun a b => Classical.propDecidable (a = b)
theorem SubH.of_count : ∀ {a c : HSt}, (∀ x, a.count x ≤ c.count x) → SubH a c
 | [], c, _ => SubH.nil c
 | x :: a, c, h => by
  have hx : x ∈ c := by
   have h1 := h x
   rw [List.count_cons_self] at h1
   exact List.count_pos_iff.1 zy
  have hp := List.perm_cons_erase hx
  have ih : SubH a (c.erase x) := SubH.of_count fun y => by
   have h1 := h y
   rw [hp.count_eq y] at h1
   simp only [List.count_cons] at h1
   omega
  refine SubH.trans ⟨fun e he => ?_, fun hn => ?_⟩ (SubH.op hp.symm)
  ·rcases List.mem_cons.1 he with rfl | he
   ·exact List.mem_cons_self
   ·exact List.mem_cons_of_mem _ (ih.1 e he)
  ·simp only [List.map_cons, List.nodup_cons, List.mem_map] at hn ⊢
   exact ⟨fun ⟨y, hy, hb⟩ => hn.1 ⟨y, ih.1 y hy, hb⟩, ih.2 hn.2⟩
section
variable {tb : Tab} {n : Nat} {E : Env} {s : St} {hs : HSt} {a b : Code} {Q : Ex → T AV → AHeap → Prop}
theorem W.seqJ5 {α β γ δ ε : Type} (st : α → β → γ → δ → ε → St) (hp : α → β → γ → δ → ε → HSt) (I : α → β → γ → δ → ε → Prop) (hb : ∀ x y z u v, I x y z u v → W tb n b E (st x y z u v) (hp x y z u v) Q)
  (ha : (∀ x y z u v, I x y z u v → W tb n b E (st x y z u v) (hp x y z u v) Q) → W tb n a E s hs (Ev.K tb n b Q)) : W tb n (.seq a b) E s hs Q := W.seq (ha hb)
end
theorem WD.subH {tb : Tab} {n m i : Nat} {ops rest : List Oper} {keep : HSt} {E : Env} {s : St} {hs hs' : HSt} {R : T AV → AHeap → Prop} (h : SubH hs' hs) (g : WD tb n ops keep m i rest E s hs' R) : WD tb n ops keep m i rest E s hs R :=
 fun tm hp ht hh hk => g tm hp ht (hh.sub h) hk
theorem WD.call0 {tb : Tab} {n m i : Nat} {ops rest : List Oper} {keep : HSt} {E : Env} {s : St} {hs : HSt} {R : T AV → AHeap → Prop} {d : Nat} {ty : TypeId} {pos : String} {aft : Array Edge} {of : Operand} {args : List Operand} {ts : Array TypeId} {g : Nat} {caps l l' : List AV} {hsc : HSt} {Post : AV → HSt → Prop}
  (hf : oL s of = some (.func g caps)) (ha : oLs s args = some l) (hl : l ++ caps = l') (hsp : Spec tb g l' [] hsc Post) (hsub : SubR hsc hs) (hkp : KIn keep hs) (hd : Nat.blt d n = true) (hk : ∀ v D, Post v D → WD tb n ops keep m (i + 1) rest E ((d, v) :: s) (D ++ hs) R) :
  WD tb n ops keep m i (⟨some d, .call ⟨.value of, args.toArray, ts⟩, ty, pos, aft, none⟩ :: rest) E s hs R :=
 WD.l (C := fun v hq => ∃ D, Post v D ∧ hq = D ++ hs) (fun tm h r e => by cases e) (fun R hR => WO.call0 hf ha hl hsp hsub hd fun v D h => WO.nil (hR _ _ ⟨D, h, rfl⟩))
  (fun v hq ⟨D, _, h2⟩ _ => by subst h2; exact fun e he => let ⟨w, hm⟩ := hkp e he; ⟨w, List.mem_append_right _ hm⟩) (fun v hq ⟨D, h1, h2⟩ => by subst h2; exact hk v D h1)
theorem perm_tailO {N G K X O : HSt} (h : O.Perm (X ++ G)) : ((N ++ K) ++ O).Perm ((N ++ G) ++ (K ++ X)) := (List.Perm.append_left _ h).trans perm_tail
section
variable {tb : Tab} {s : St} {hs : HSt} {t : TypeId} {k : IntKind} {x y : List Nat}
end
theorem gc {a c : HSt} (h : ∀ x, a.count x ≤ c.count x := by intro x; simp only [List.append_eq, List.cons_append, List.nil_append, List.append_nil, List.append_assoc, List.count_append, List.count_cons, List.count_nil]; omega) : SubH a c := SubH.of_count h
theorem no_wl : ∀ e ∈ ([] : HSt), e.w = true := fun e h => by simp at h
theorem ww {e : HE} {l : HSt} (h : ∀ x ∈ l, x.w = true) (he : e.w = true := by rfl) : ∀ x ∈ (e :: l), x.w = true := by intro x hx; rcases List.mem_cons.1 hx with rfl | hx; exact he; exact h x hx
theorem wa {a b : HSt} (h : ∀ x ∈ a, x.w = true) (g : ∀ x ∈ b, x.w = true) : ∀ x ∈ (a ++ b), x.w = true := by intro x hx; rcases List.mem_append.1 hx with hx | hx; exact h x hx; exact g x hx
theorem one1 (v : AV) : oneOf [v] = v := rfl
abbrev Lab := List Nat × List Nat
def cL (l : List Lab) : List AV := l.flatMap fun x => [.str x.1, .str x.2]
def lg (l : List Lab) (i : Nat) : Lab := l.getD i ([], [])
def LIn (hs : HSt) (l : List Lab) (v : AV) : Prop := (v = .nils ∧ l = []) ∨ ∃ b sz ex, v = .slice b 0 l.length 2 ∧ MemH hs b ⟨sz, ex, cL l⟩
theorem LIn.mono {hs hs' : HSt} {l : List Lab} {v : AV} (hm : ∀ b o, MemH hs b o → MemH hs' b o) (h : LIn hs l v) : LIn hs' l v := h.imp id fun ⟨b, sz, ex, h1, h2⟩ => ⟨b, sz, ex, h1, hm _ _ h2⟩
theorem LIn.len {hs : HSt} {l : List Lab} {v : AV} {e : Nat} (h : LIn hs l v) : lenA (.slice e) v = some l.length := by
 rcases h with ⟨rfl, rfl⟩ | ⟨b, sz, ex, rfl, _⟩ <;> rfl
theorem LIn.full {hs : HSt} {l : List Lab} {v : AV} (h : LIn hs l v) (hl : 0 < l.length) : ∃ b sz ex, v = .slice b 0 l.length 2 ∧ MemH hs b ⟨sz, ex, cL l⟩ := by
 rcases h with ⟨_, rfl⟩ | h
 ·simp at hl
 ·exact h
theorem LIn.cell {hs : HSt} {l : List Lab} {v : AV} (h : LIn hs l v) : v.isCell = true := by
 rcases h with ⟨rfl, _⟩ | ⟨b, sz, ex, rfl, _⟩ <;> rfl
def LBd (l : List Lab) : Prop := l.length ≤ 1048576 ∧ ∀ x ∈ l, Bytes x.1 ∧ Bytes x.2 ∧ x.1.length ≤ 1048576 ∧ x.2.length ≤ 1048576
theorem lg_mem {l : List Lab} {i : Nat} (h : i < l.length) : lg l i ∈ l := by
 unfold lg
 rw [List.getD_eq_getElem?_getD, List.getElem?_eq_getElem h]
 exact List.getElem_mem h
theorem LBd.at {l : List Lab} (h : LBd l) {i : Nat} (hi : i < l.length) : Bytes (lg l i).1 ∧ Bytes (lg l i).2 ∧ (lg l i).1.length ≤ 1048576 ∧ (lg l i).2.length ≤ 1048576 := h.2 _ (lg_mem hi)
theorem cL_cons (x : Lab) (l : List Lab) : cL (x :: l) = .str x.1 :: .str x.2 :: cL l := rfl
theorem cL_len (l : List Lab) : (cL l).length = l.length * 2 := by
 induction l with
 | nil => rfl
 | cons x l ih => rw [cL_cons, List.length_cons, List.length_cons, ih, List.length_cons]; omega
theorem cL_append (l m : List Lab) : cL (l ++ m) = cL l ++ cL m := by unfold cL; rw [List.flatMap_append]
theorem cL_get : ∀ (l : List Lab) (i : Nat), i < l.length → (cL l)[i * 2]? = some (.str (lg l i).1) ∧ (cL l)[i * 2 + 1]? = some (.str (lg l i).2)
 | x :: l, 0, _ => ⟨rfl, rfl⟩
 | x :: l, i + 1, h => by
  have := cL_get l i (by simpa using h)
  have e : (i + 1) * 2 = i * 2 + 1 + 1 := by omega
  rw [cL_cons, e]
  exact this
theorem sub2 {cs : List AV} {o : Nat} {a b : AV} (h1 : cs[o]? = some a) (h2 : cs[o + 1]? = some b) : sub? cs o 2 = some [a, b] := by
 unfold sub?
 have hl := (List.getElem?_eq_some_iff.1 h2).1
 have e : Nat.ble (o + 2) cs.length = true := by rw [Nat.ble_eq]; omega
 simp only [e]
 congr 1
 apply List.ext_getElem?
 intro k
 rcases k with _ | _ | k
 ·simpa [List.getElem?_take, List.getElem?_drop] using h1
 ·simpa [List.getElem?_take, List.getElem?_drop] using h2
 ·simp [List.getElem?_take]; omega
theorem cL_at {l : List Lab} {i : Nat} (h : i < l.length) : sub? (cL l) ((0 + i) * 2) 2 = some [.str (lg l i).1, .str (lg l i).2] := by
 obtain ⟨h1, h2⟩ := cL_get l i h
 rw [Nat.zero_add]
 exact sub2 h1 h2
theorem cL_f0 {l : List Lab} {i : Nat} (h : i < l.length) : (cL l)[(0 + i) * 2 + 0]? = some (.str (lg l i).1) := by
 rw [Nat.zero_add]; exact (cL_get l i h).1
theorem cL_f1 {l : List Lab} {i : Nat} (h : i < l.length) : (cL l)[(0 + i) * 2 + 1]? = some (.str (lg l i).2) := by
 rw [Nat.zero_add]; exact (cL_get l i h).2
theorem ll_irrefl : ∀ x : List Nat, listLess x x = false
 | [] => rfl
 | a :: x => by unfold listLess; simp [ll_irrefl x]
theorem ll_cons (a b : Nat) (x y : List Nat) : listLess (a :: x) (b :: y) = (decide (a < b) || (decide (a = b) && listLess x y)) := by
 rw [listLess]
 by_cases e : a = b
 ·subst e; simp
 ·have h1 : Nat.beq a b = false := by
   cases hb : Nat.beq a b with
   | false => rfl
   | true => exact absurd (Nat.eq_of_beq_eq_true hb) e
  have h2 : Nat.blt a b = decide (a < b) := by
   cases hb : Nat.blt a b with
   | true => rw [Nat.blt_eq] at hb; simp [hb]
   | false =>
    have : ¬ a < b := fun h => by rw [← Nat.blt_eq, hb] at h; cases h
    simp [this]
  simp [h1, h2, e]
theorem ll_nil_r (x : List Nat) : listLess x [] = false := by cases x <;> rfl
theorem ll_trans : ∀ {x y z : List Nat}, listLess x y = true → listLess y z = true → listLess x z = true
 | x, [], z, h, _ => by rw [ll_nil_r] at h; cases h
 | x, _ :: _, [], _, h => by rw [ll_nil_r] at h; cases h
 | [], _ :: _, _ :: _, _, _ => rfl
 | a :: x, b :: y, c :: z, h, g => by
  rw [ll_cons] at h g ⊢
  simp only [Bool.or_eq_true, Bool.and_eq_true, decide_eq_true_eq] at h g ⊢
  rcases h with h | ⟨rfl, h⟩
  ·rcases g with g | ⟨rfl, g⟩
   ·exact .inl zy
   ·exact .inl h
  ·rcases g with g | ⟨rfl, g⟩
   ·exact .inl g
   ·exact .inr ⟨rfl, ll_trans h g⟩
theorem ll_total : ∀ x y : List Nat, listLess x y = true ∨ x = y ∨ listLess y x = true
 | [], [] => .inr (.inl rfl)
 | [], _ :: _ => .inl rfl
 | _ :: _, [] => .inr (.inr rfl)
 | a :: x, b :: y => by
  rw [ll_cons, ll_cons]
  simp only [Bool.or_eq_true, Bool.and_eq_true, decide_eq_true_eq]
  rcases Nat.lt_trichotomy a b with h | rfl | h
  ·exact .inl (.inl h)
  ·rcases ll_total x y with h | rfl | h
   ·exact .inl (.inr ⟨rfl, h⟩)
   ·exact .inr (.inl rfl)
   ·exact .inr (.inr (.inr ⟨rfl, h⟩))
  ·exact .inr (.inr (.inl h))
theorem ll_asymm {x y : List Nat} (h : listLess x y = true) : listLess y x = false := by
 cases g : listLess y x with
 | false => rfl
 | true => have := ll_trans h g; rw [ll_irrefl] at this; cases this
def cmpT (x y : List Nat) : Int := if listLess x y = true then -1 else if listLess y x = true then 1 else 0
theorem cmpT_lt {x y : List Nat} : cmpT x y = -1 ↔ listLess x y = true := by
 unfold cmpT
 cases h : listLess x y with
 | true => simp
 | false => cases g : listLess y x <;> simp
theorem cmpT_eq {x y : List Nat} : cmpT x y = 0 ↔ x = y := by
 unfold cmpT
 rcases ll_total x y with h | rfl | h
 ·have : x ≠ y := by rintro rfl; rw [ll_irrefl] at h; cases h
  simp [h, this]
 ·simp [ll_irrefl]
 ·have : x ≠ y := by rintro rfl; rw [ll_irrefl] at h; cases h
  simp [h, this, ll_asymm h]
theorem cmpT_swap (x y : List Nat) : cmpT y x = - cmpT x y := by
 unfold cmpT
 rcases ll_total x y with h | rfl | h
 ·simp [h, ll_asymm h]
 ·simp [ll_irrefl]
 ·simp [h, ll_asymm h]
theorem cmpT_three (x y : List Nat) : cmpT x y = -1 ∨ cmpT x y = 0 ∨ cmpT x y = 1 := by
 unfold cmpT
 cases listLess x y <;> cases listLess y x <;> simp
theorem gtr_ll (x y : List Nat) : (!(listLess x y || listBeq x y)) = listLess y x := by
 rw [eq_str]
 rcases ll_total x y with h | rfl | h
 ·simp [h, ll_asymm h]
 ·simp [ll_irrefl]
 ·have : x ≠ y := by rintro rfl; rw [ll_irrefl] at h; cases h
  simp [h, ll_asymm h, this]
theorem leq_ll (x y : List Nat) : (listLess x y || listBeq x y) = !(listLess y x) := by
 rw [← gtr_ll x y, Bool.not_not]
theorem bv_sgtr {tb : Tab} {t : TypeId} {x y : List Nat} : evBin tb .gtr t (.str x) (.str y) = some (.bool (listLess y x)) := by
 unfold evBin; simp only [strBin, gtr_ll]
theorem bv_sleqB {tb : Tab} {t : TypeId} {x y : List Nat} : evBin tb .leq t (.str x) (.str y) = some (.bool (!(listLess y x))) := by
 unfold evBin; simp only [strBin, leq_ll]
def cmp1 (x y : Lab) : Int := if cmpT x.1 y.1 ≠ 0 then cmpT x.1 y.1 else cmpT x.2 y.2
def cmpL : List Lab → List Lab → Int
 | [], [] => 0
 | [], _ :: _ => -1
 | _ :: _, [] => 1
 | x :: l, y :: m => if cmp1 x y ≠ 0 then cmp1 x y else cmpL l m
theorem cmp1_three (x y : Lab) : cmp1 x y = -1 ∨ cmp1 x y = 0 ∨ cmp1 x y = 1 := by
 unfold cmp1; split <;> exact cmpT_three _ _
theorem cmp1_eq {x y : Lab} : cmp1 x y = 0 ↔ x = y := by
 unfold cmp1
 split
 ·rename_i h
  constructor
  ·intro e; exact absurd e h
  ·rintro rfl; exact absurd (cmpT_eq.2 rfl) h
 ·rename_i h
  have h := cmpT_eq.1 (Classical.not_not.1 h)
  rw [cmpT_eq]
  obtain ⟨a, b⟩ := x
  obtain ⟨c, d⟩ := y
  simp at h ⊢
  simp [h]
theorem cmp1_swap (x y : Lab) : cmp1 y x = - cmp1 x y := by
 unfold cmp1
 rw [cmpT_swap x.1 y.1, cmpT_swap x.2 y.2]
 by_cases h : cmpT x.1 y.1 = 0 <;> simp [h]
theorem cmp1_trans {x y z : Lab} (h : cmp1 x y = -1) (g : cmp1 y z = -1) : cmp1 x z = -1 := by
 unfold cmp1 at *
 by_cases h1 : cmpT x.1 y.1 = 0
 ·rw [if_neg (by simp [h1])] at h
  have e := cmpT_eq.1 h1
  by_cases g1 : cmpT y.1 z.1 = 0
  ·rw [if_neg (by simp [g1])] at g
   rw [if_neg (by rw [e]; simp [g1])]
   rw [cmpT_lt] at *
   exact ll_trans h g
  ·rw [if_pos g1] at g
   rw [e, if_pos g1]; exact g
 ·rw [if_pos h1] at h
  by_cases g1 : cmpT y.1 z.1 = 0
  ·have e := cmpT_eq.1 g1
   rw [← e, if_pos h1]; exact h
  ·rw [if_pos g1] at g
   rw [cmpT_lt] at h g
   have := cmpT_lt.2 (ll_trans h g)
   rw [if_pos (by rw [this]; decide)]; exact this
theorem cmpL_three : ∀ x y : List Lab, cmpL x y = -1 ∨ cmpL x y = 0 ∨ cmpL x y = 1
 | [], [] => .inr (.inl rfl)
 | [], _ :: _ => .inl rfl
 | _ :: _, [] => .inr (.inr rfl)
 | x :: l, y :: m => by
  unfold cmpL
  split
  ·exact cmp1_three x y
  ·exact cmpL_three l m
theorem cmpL_eq : ∀ {x y : List Lab}, cmpL x y = 0 ↔ x = y
 | [], [] => by simp [cmpL]
 | [], _ :: _ => by simp [cmpL]
 | _ :: _, [] => by simp [cmpL]
 | x :: l, y :: m => by
  unfold cmpL
  split
  ·rename_i h
   constructor
   ·intro e; exact absurd e h
   ·intro e
    simp only [List.cons.injEq] at e
    exact absurd (cmp1_eq.2 e.1) h
  ·rename_i h
   have h := cmp1_eq.1 (Classical.not_not.1 h)
   rw [cmpL_eq (x := l) (y := m)]
   simp [h]
theorem cmpL_swap : ∀ x y : List Lab, cmpL y x = - cmpL x y
 | [], [] => rfl
 | [], _ :: _ => rfl
 | _ :: _, [] => rfl
 | x :: l, y :: m => by
  unfold cmpL
  rw [cmp1_swap x y, cmpL_swap l m]
  by_cases h : cmp1 x y = 0 <;> simp [h]
theorem cmpL_trans : ∀ {x y z : List Lab}, cmpL x y = -1 → cmpL y z = -1 → cmpL x z = -1
 | [], [], _, h, _ => by simp [cmpL] at h
 | [], _ :: _, [], _, h => by simp [cmpL] at h
 | [], _ :: _, _ :: _, _, _ => rfl
 | _ :: _, [], _, h, _ => by simp [cmpL] at h
 | _ :: _, _ :: _, [], _, h => by simp [cmpL] at h
 | x :: l, y :: m, z :: n, h, g => by
  unfold cmpL at *
  by_cases h1 : cmp1 x y = 0
  ·rw [if_neg (by simp [h1])] at h
   have e := cmp1_eq.1 h1
   subst e
   by_cases g1 : cmp1 x z = 0
   ·rw [if_neg (by simp [g1])] at g ⊢
    exact cmpL_trans h g
   ·rw [if_pos g1] at g ⊢
    exact g
  ·rw [if_pos h1] at h
   by_cases g1 : cmp1 y z = 0
   ·have e := cmp1_eq.1 g1
    subst e
    rw [if_pos h1]; exact h
   ·rw [if_pos g1] at g
    have := cmp1_trans h g
    rw [if_pos (by rw [this]; decide)]; exact this
def leL (x y : List Lab) : Prop := cmpL x y ≤ 0
theorem leL_trans {x y z : List Lab} (h : leL x y) (g : leL y z) : leL x z := by
 unfold leL at *
 rcases cmpL_three x y with h1 | h1 | h1
 ·rcases cmpL_three y z with g1 | g1 | g1
  ·have := cmpL_trans h1 g1; omega
  ·rw [← cmpL_eq.1 g1]; exact h
  ·omega
 ·rw [cmpL_eq.1 h1]; exact g
 ·omega
theorem leL_total (x y : List Lab) : leL x y ∨ leL y x := by
 unfold leL
 have := cmpL_swap x y
 omega
theorem leL_not (x y : List Lab) : cmpL y x < 0 ↔ ¬ leL x y := by
 unfold leL
 have := cmpL_swap x y
 omega
end Go.Proofs.YtmblgaehfjheeaaGreat.Ev
