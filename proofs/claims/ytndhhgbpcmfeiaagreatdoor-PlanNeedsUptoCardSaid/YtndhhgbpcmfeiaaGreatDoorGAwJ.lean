/- Walks over the evaluator: joins, calls of which a part is known, blocks by counting. -/
import Derived.Test.YtndhhgbpcmfeiaaGreatDoorGAwI
import Derived.Test.YtndhhgbpcmfeiaaGreatDoorGNod
namespace Go.Proofs.YtndhhgbpcmfeiaaGreatDoor.Ev
open Go.RowKit
set_option linter.unusedVariables false
set_option linter.unusedSimpArgs false
set_option maxRecDepth 100000
set_option maxHeartbeats 1000000
section
variable {tb : Tab} {n : Nat} {E : Env} {s : St} {hs : HSt} {R : T AV → AHeap → Prop} {ops rest : List Oper} {d : Nat} {ty : TypeId} {pos : String} {aft : Array Edge} {t : TypeId}
/-- A value alone, of which something is known. -/
def ValE (P : AV → Prop) : AV → HSt → Prop := fun v D => P v ∧ D = []
theorem End.retE {rs : List ResultVar} {P : AV → Prop} {l : List AV} (hr : ResL tb s hs rs l) (hP : P (oneOf l)) : End E s hs (RetQ tb rs E (ValE P) .ret) :=
  End.ret hr (hs' := []) ⟨hP, rfl⟩ (fun e h => no_w h) (SubH.nil _)
theorem WO.callE {of : Operand} {args : List Operand} {ts : Array TypeId} {g : Nat} {caps l l' : List AV} {hsc : HSt} {P : AV → Prop} (hf : oL s of = some (.func g caps)) (ha : oLs s args = some l) (hl : l ++ caps = l')
    (hsp : Spec tb g l' [] hsc (ValE P)) (hsub : SubR hsc hs) (hd : Nat.blt d n = true) (hk : ∀ v, P v → WO tb n ops rest E ((d, v) :: s) hs R) :
    WO tb n ops (⟨some d, .call ⟨.value of, args.toArray, ts⟩, ty, pos, aft, none⟩ :: rest) E s hs R :=
  WO.call0 hf ha hl hsp hsub hd fun v' D ⟨h1, h2⟩ => by subst h2; exact hk _ h1
end
section
variable {tb : Tab} {n : Nat} {E : Env} {s : St} {hs : HSt} {a b : Code} {Q : Ex → T AV → AHeap → Prop}
end
theorem WD.callE {tb : Tab} {n m i : Nat} {ops rest : List Oper} {keep : HSt} {E : Env} {s : St} {hs : HSt} {R : T AV → AHeap → Prop} {d : Nat} {ty : TypeId} {pos : String} {aft : Array Edge} {of : Operand} {args : List Operand} {ts : Array TypeId} {g : Nat} {caps l l' : List AV} {hsc : HSt} {P : AV → Prop} (hf : oL s of = some (.func g caps)) (ha : oLs s args = some l) (hl : l ++ caps = l')
    (hsp : Spec tb g l' [] hsc (ValE P)) (hsub : SubR hsc hs) (hkp : KIn keep hs) (hd : Nat.blt d n = true) (hk : ∀ v, P v → WD tb n ops keep m (i + 1) rest E ((d, v) :: s) hs R) :
    WD tb n ops keep m i (⟨some d, .call ⟨.value of, args.toArray, ts⟩, ty, pos, aft, none⟩ :: rest) E s hs R :=
  WD.l (C := fun v' hs' => P v' ∧ hs' = hs) (fun tm h r e => by cases e) (fun R hR => WO.callE hf ha hl hsp hsub hd fun v hv => WO.nil (hR _ _ ⟨hv, rfl⟩))
    (fun v' hs' ⟨_, h2⟩ _ => by subst h2; exact hkp) (fun v' hs' ⟨h1, h2⟩ => by subst h2; exact hk v' h1)
theorem bv_bne {tb : Tab} {t : Nat} {a b : Bool} (hu : tb.und t = some .bool) : evBin tb .neq t (.bool a) (.bool b) = some (.bool (!(a == b))) := by
  show (match eqIn tb 20 t (.bool a) (.bool b) with | some b => some (AV.bool (!b)) | none => none) = _
  unfold eqIn
  simp only [hu]
  rfl
theorem W.loop_ind6 {tb : Tab} {n : Nat} {E : Env} {s : St} {hs : HSt} {α β γ δ ε ζ : Type} {b : Code} {Q} (st : α → β → γ → δ → ε → ζ → St) (hp : α → β → γ → δ → ε → ζ → HSt) (Inv : α → β → γ → δ → ε → ζ → Prop) (μ : α → β → γ → δ → ε → ζ → Nat) (a0 : α) (b0 : β) (c0 : γ) (d0 : δ) (e0 : ε) (f0 : ζ)
    (h0 : Inv a0 b0 c0 d0 e0 f0) (hsub : SubS (st a0 b0 c0 d0 e0 f0) s) (hsubH : SubH (hp a0 b0 c0 d0 e0 f0) hs)
    (step : ∀ a c e f g h, Inv a c e f g h → (∀ a' c' e' f' g' h', Inv a' c' e' f' g' h' → μ a' c' e' f' g' h' < μ a c e f g h → W tb n (.loop b) E (st a' c' e' f' g' h') (hp a' c' e' f' g' h') Q) → W tb n b E (st a c e f g h) (hp a c e f g h) (KL tb n b Q)) : W tb n (.loop b) E s hs Q :=
  W.loop_ind (α := α × β × γ × δ × ε × ζ) (fun x => st x.1 x.2.1 x.2.2.1 x.2.2.2.1 x.2.2.2.2.1 x.2.2.2.2.2) (fun x => hp x.1 x.2.1 x.2.2.1 x.2.2.2.1 x.2.2.2.2.1 x.2.2.2.2.2) (fun x => Inv x.1 x.2.1 x.2.2.1 x.2.2.2.1 x.2.2.2.2.1 x.2.2.2.2.2) (fun x => μ x.1 x.2.1 x.2.2.1 x.2.2.2.1 x.2.2.2.2.1 x.2.2.2.2.2) (a0, b0, c0, d0, e0, f0) h0 hsub hsubH
    fun a ha ih => step a.1 a.2.1 a.2.2.1 a.2.2.2.1 a.2.2.2.2.1 a.2.2.2.2.2 ha fun a' c' e' f' g' h' => ih (a', c', e', f', g', h')
theorem SubR.two {bx bt : Nat} {ox ot : AObj} {w w' : Bool} {A : HSt} : SubR [⟨bx, ox, false⟩, ⟨bt, ot, false⟩] (⟨bx, ox, w⟩ :: ⟨bt, ot, w'⟩ :: A) := by
  refine ⟨fun e he => ?_, fun hn => ?_⟩
  · rcases List.mem_cons.1 he with rfl | he
    · exact ⟨rfl, w, List.mem_cons_self⟩
    · rcases List.mem_cons.1 he with rfl | he
      · exact ⟨rfl, w', List.mem_cons_of_mem _ List.mem_cons_self⟩
      · simp at he
  · simp only [List.map_cons, List.nodup_cons, List.mem_cons, not_or] at hn
    simp only [List.map_cons, List.map_nil, List.nodup_cons, List.mem_cons, List.not_mem_nil, or_false, not_false_eq_true, List.nodup_nil, and_true]
    exact hn.1.1
theorem SubR.pair {bx bt i j : Nat} {ox ot : AObj} {w w' : Bool} {hs : HSt} (h1 : hs[i]? = some ⟨bx, ox, w⟩) (h2 : hs[j]? = some ⟨bt, ot, w'⟩) (hij : i ≠ j) : SubR [⟨bx, ox, false⟩, ⟨bt, ot, false⟩] hs := by
  refine ⟨fun e he => ?_, fun hn => ?_⟩
  · rcases List.mem_cons.1 he with rfl | he
    · exact ⟨rfl, w, List.mem_of_getElem? h1⟩
    · rcases List.mem_cons.1 he with rfl | he
      · exact ⟨rfl, w', List.mem_of_getElem? h2⟩
      · simp at he
  · have e1 : (hs.map (·.b))[i]? = some bx := by rw [List.getElem?_map, h1]; rfl
    have e2 : (hs.map (·.b))[j]? = some bt := by rw [List.getElem?_map, h2]; rfl
    have hne : bx ≠ bt := by
      intro e
      have hi : i < (hs.map (·.b)).length := (List.getElem?_eq_some_iff.1 e1).1
      exact hij ((List.getElem?_inj hi hn).1 (by rw [e1, e2, e]))
    simp only [List.map_cons, List.map_nil, List.nodup_cons, List.mem_cons, List.not_mem_nil, or_false, not_false_eq_true, List.nodup_nil, and_true]
    exact hne
theorem and_tt {a b : Bool} (h : a = true) (g : b = true) : (a && b) = true := by rw [h, g]; rfl
noncomputable instance decHE : DecidableEq HE := fun a b => Classical.propDecidable (a = b)
theorem SubH.of_count : ∀ {a c : HSt}, (∀ x, a.count x ≤ c.count x) → SubH a c
  | [], c, _ => SubH.nil c
  | x :: a, c, h => by
    have hx : x ∈ c := by
      have h1 := h x
      rw [List.count_cons_self] at h1
      exact List.count_pos_iff.1 (by omega)
    have hp := List.perm_cons_erase hx
    have ih : SubH a (c.erase x) := SubH.of_count fun y => by
      have h1 := h y
      rw [hp.count_eq y] at h1
      simp only [List.count_cons] at h1
      omega
    refine SubH.trans ⟨fun e he => ?_, fun hn => ?_⟩ (SubH.of_perm hp.symm)
    · rcases List.mem_cons.1 he with rfl | he
      · exact List.mem_cons_self
      · exact List.mem_cons_of_mem _ (ih.1 e he)
    · simp only [List.map_cons, List.nodup_cons, List.mem_map] at hn ⊢
      exact ⟨fun ⟨y, hy, hb⟩ => hn.1 ⟨y, ih.1 y hy, hb⟩, ih.2 hn.2⟩
section
variable {tb : Tab} {n : Nat} {E : Env} {s : St} {hs : HSt} {a b : Code} {Q : Ex → T AV → AHeap → Prop}
end
theorem WD.subH {tb : Tab} {n m i : Nat} {ops rest : List Oper} {keep : HSt} {E : Env} {s : St} {hs hs' : HSt} {R : T AV → AHeap → Prop} (h : SubH hs' hs) (g : WD tb n ops keep m i rest E s hs' R) : WD tb n ops keep m i rest E s hs R :=
  fun tm hp ht hh hk => g tm hp ht (hh.sub h) hk
theorem WD.call0 {tb : Tab} {n m i : Nat} {ops rest : List Oper} {keep : HSt} {E : Env} {s : St} {hs : HSt} {R : T AV → AHeap → Prop} {d : Nat} {ty : TypeId} {pos : String} {aft : Array Edge} {of : Operand} {args : List Operand} {ts : Array TypeId} {g : Nat} {caps l l' : List AV} {hsc : HSt} {Post : AV → HSt → Prop}
    (hf : oL s of = some (.func g caps)) (ha : oLs s args = some l) (hl : l ++ caps = l') (hsp : Spec tb g l' [] hsc Post) (hsub : SubR hsc hs) (hkp : KIn keep hs) (hd : Nat.blt d n = true) (hk : ∀ v D, Post v D → WD tb n ops keep m (i + 1) rest E ((d, v) :: s) (D ++ hs) R) :
    WD tb n ops keep m i (⟨some d, .call ⟨.value of, args.toArray, ts⟩, ty, pos, aft, none⟩ :: rest) E s hs R :=
  WD.l (C := fun v hq => ∃ D, Post v D ∧ hq = D ++ hs) (fun tm h r e => by cases e) (fun R hR => WO.call0 hf ha hl hsp hsub hd fun v D h => WO.nil (hR _ _ ⟨D, h, rfl⟩))
    (fun v hq ⟨D, _, h2⟩ _ => by subst h2; exact fun e he => let ⟨w, hm⟩ := hkp e he; ⟨w, List.mem_append_right _ hm⟩) (fun v hq ⟨D, h1, h2⟩ => by subst h2; exact hk v D h1)
theorem perm_tailO {N G K X O : HSt} (h : O.Perm (X ++ G)) : ((N ++ K) ++ O).Perm ((N ++ G) ++ (K ++ X)) := (List.Perm.append_left _ h).trans perm_tail
section
variable {tb : Tab} {s : St} {hs : HSt} {t : TypeId} {k : IntKind} {x y : List Nat}
end
theorem gc {a c : HSt} (h : ∀ x, a.count x ≤ c.count x := by intro x; simp only [List.append_eq, List.cons_append, List.nil_append, List.append_nil, List.append_assoc, List.count_append, List.count_cons, List.count_nil]; omega) : SubH a c := SubH.of_count h
theorem no_wl : ∀ e ∈ ([] : HSt), e.w = true := fun e h => by simp at h
theorem ww {e : HE} {l : HSt} (h : ∀ x ∈ l, x.w = true) (he : e.w = true := by rfl) : ∀ x ∈ (e :: l), x.w = true := by intro x hx; rcases List.mem_cons.1 hx with rfl | hx; exact he; exact h x hx
theorem wa {a b : HSt} (h : ∀ x ∈ a, x.w = true) (g : ∀ x ∈ b, x.w = true) : ∀ x ∈ (a ++ b), x.w = true := by intro x hx; rcases List.mem_append.1 hx with hx | hx; exact h x hx; exact g x hx
theorem one1 (v : AV) : oneOf [v] = v := rfl
end Go.Proofs.YtndhhgbpcmfeiaaGreatDoor.Ev
