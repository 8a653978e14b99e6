/- Chapter 19: VectorEach, of any vector in memory. -/
import Derived.Test.YtmblgaehfjheeaaGreatUZa
import Derived.Test.YtmblgaehfjheeaaGreatUAwM
import Derived.Test.YtmblgaehfjheeaaGreatUAwN
import Derived.Test.YtmblgaehfjheeaaGreatUZj
namespace Go.Proofs.YtmblgaehfjheeaaGreat.Ev
open Go.RowKit
set_option linter.unusedVariables false
set_option linter.unusedSimpArgs false
set_option maxRecDepth 100000
set_option maxHeartbeats 1000000
theorem VOwn.ein {W : List El} {w : AV} {D : HSt} (h : VOwn W w D) : EIn (ro D) W w := by
  obtain ⟨hp, hl, rfl, hO, hL, _, _⟩ := h
  exact EIn.own hO hL
theorem VOwn.ebd {W : List El} {w : AV} {D : HSt} (h : VOwn W w D) : EBd W := by
  obtain ⟨hp, hl, rfl, hO, hL, _, h⟩ := h
  exact h
theorem VOwn.w {W : List El} {w : AV} {D : HSt} (h : VOwn W w D) : ∀ e ∈ D, e.w = true := by
  obtain ⟨hp, hl, rfl, hO, hL, h, _⟩ := h
  exact wa (OwnE.w hO) h.w
theorem MemH.ro_l {A hs : HSt} {b : Nat} {o : AObj} (h : MemH (Ev.ro hs) b o) : MemH (Ev.ro (hs ++ A)) b o := by
  obtain ⟨w, g⟩ := h
  obtain ⟨x, hx, e⟩ := List.mem_map.1 g
  exact ⟨w, List.mem_map.2 ⟨x, List.mem_append_left _ hx, e⟩⟩
theorem MemH.ro_r {A hs : HSt} {b : Nat} {o : AObj} (h : MemH (Ev.ro hs) b o) : MemH (Ev.ro (A ++ hs)) b o := by
  obtain ⟨w, g⟩ := h
  obtain ⟨x, hx, e⟩ := List.mem_map.1 g
  exact ⟨w, List.mem_map.2 ⟨x, List.mem_append_right _ hx, e⟩⟩
theorem ro_id : ∀ {b : HSt}, (∀ e ∈ b, e.w = false) → ro b = b
  | [], _ => rfl
  | ⟨c, o, w⟩ :: b, h => by
    have h1 : w = false := h _ List.mem_cons_self
    subst h1
    show _ :: ro b = _
    rw [ro_id fun e he => h e (List.mem_cons_of_mem _ he)]
theorem SubR.mix {a b hs : HSt} (g : SubH (a ++ b) hs) (hb : ∀ e ∈ b, e.w = false) : SubR (Ev.ro a ++ b) hs := by
  have := SubR.ro g
  have e : Ev.ro (a ++ b) = Ev.ro a ++ b := by
    unfold Ev.ro
    rw [List.map_append]
    congr 1
    exact ro_id hb
  rwa [e] at this
theorem VRes.ein {hs : HSt} {W : List El} {w : AV} {D : HSt} (h : VRes hs W w D) : EIn (ro D ++ hs) W w := by
  obtain ⟨hp, hl, rfl, hO, hL, _, _⟩ := h
  exact EIn.mixd hO hL
theorem VRes.ebd {hs : HSt} {W : List El} {w : AV} {D : HSt} (h : VRes hs W w D) : EBd W := by
  obtain ⟨hp, hl, rfl, hO, hL, _, h⟩ := h
  exact h
def mdN (md : Int) (N : List (List Nat)) : List (List Nat) := if md = 0 then [] else N
def mdV (md : Int) (v : AV) : AV := if md = 0 then .nils else v
def rkeyM (md : Int) (N : List (List Nat)) (A : List Lab) : List Lab := if md = 1 then A.filter (pickP N true) else (A.filter (dropP N)).filter (dropP [[95, 95, 110, 97, 109, 101, 95, 95]])
def hvL (md : Int) (N : List (List Nat)) (V : List El) (k : List Lab) : List El := V.filter fun y => decide (keyM md N y.2.1 = k)
section
variable {op : List Nat} {md : Int} {N : List (List Nat)} {V : List El} {k : List Lab} {i : Nat}
end

section
variable {op : List Nat} {bl : Bool} {md sd : Int} {N : List (List Nat)} {V U X Y : List El} {e e' : Nat} {W W' : List PE}
theorem coreR.fn (h : coreR op bl md sd N V U e W) (g : coreR op bl md sd N V U e' W') : e = e' ∧ W = W' := by
  rcases h with ⟨h1, h2, h3⟩ | ⟨h1, h2⟩ <;> rcases g with ⟨g1, g2, g3⟩ | ⟨g1, g2⟩
  · exact ⟨h1.symm.trans g1, h3.trans g3.symm⟩
  · exact absurd (h1.symm.trans g1) h2
  · exact absurd (g1.symm.trans h1) g2
  · exact h2.fn g2
theorem BinR.fn (h : BinR op bl md sd N V U e W) (g : BinR op bl md sd N V U e' W') : e = e' ∧ W = W' := by
  rcases h with ⟨h1, h2⟩ | ⟨h1, h2, h3⟩ | ⟨h1, h2, h3⟩ <;> rcases g with ⟨g1, g2⟩ | ⟨g1, g2, g3⟩ | ⟨g1, g2, g3⟩
  · rw [h1] at g1; cases g1; exact ⟨rfl, h2.trans g2.symm⟩
  · rw [h1] at g1; cases g1
  · rw [h1] at g1; cases g1
  · rw [h1] at g1; cases g1
  · exact h3.fn g3
  · rw [h2] at g2; cases g2
  · rw [h1] at g1; cases g1
  · rw [h2] at g2; cases g2
  · exact h3.fn g3
end

def Srt (L : List PE) : Prop := L.Pairwise fun x y => cmpL x.1 y.1 < 0
section
variable {md : Int} {N : List (List Nat)} {L M W W1 W2 : List PE} {e e1 e2 : Nat}
def hasB (md : Int) (N : List (List Nat)) (M : List PE) (x : PE) : Bool := decide (hvP md N M (keyM md N x.1) ≠ [])
def cntA (A R : List PE) (i : Nat) : Nat := ((R.take i).filter fun r => decide (r ∈ A)).length
end
theorem VOwn.lin {W : List El} {w : AV} {D : HSt} (h : VOwn W w D) : ∀ x ∈ W, LIn D x.2.1 x.1 := by
  obtain ⟨hp, hl, rfl, hO, hL, _, _⟩ := h
  exact fun x hx => (hL x hx).mono fun b o h => h.app
theorem VOwn.src {W : List El} {w : AV} {D hs : HSt} (h : VOwn W w D) (hm : ∀ e ∈ D, MemH hs e.b e.o) : Src hs 2 w W.length (cE W) := by
  obtain ⟨hp, hl, rfl, hO, hL, _, _⟩ := h
  rcases hO with ⟨h1, h2, rfl, _⟩ | ⟨b, ex, rfl, rfl, h3⟩
  · rw [h1, h2]; exact Src.nils
  · exact Src.all (hm ⟨b, ⟨2, ex, cE W⟩, true⟩ (by simp)) h3
def tnB (op : List Nat) : List Nat := if op = [60] then [62] else if op = [62] then [60] else if op = [60, 61] then [62, 61] else if op = [62, 61] then [60, 61] else op
def TnOK (op : List Nat) : Prop := op ≠ [45] ∧ op ≠ [47] ∧ op ≠ [37] ∧ setB op = false
theorem fAdd_comm (a b : Int) : fAdd b a = fAdd a b := by
  unfold fAdd
  rw [Bool.and_comm, Int.add_comm]
theorem fMul_comm (a b : Int) : fMul b a = fMul a b := by
  have h : fScaled b a 1000000 = fScaled a b 1000000 := by
    unfold fScaled
    rw [Nat.mul_comm b.natAbs a.natAbs]
    have : signB b a 1000000 = signB a b 1000000 := by
      unfold signB
      cases decide (a < 0) <;> cases decide (b < 0) <;> rfl
    rw [this]
  unfold fMul
  rw [Bool.and_comm, h]
theorem tn_cases (op : List Nat) : (op = [60] ∧ tnB op = [62]) ∨ (op = [62] ∧ tnB op = [60]) ∨ (op = [60, 61] ∧ tnB op = [62, 61]) ∨ (op = [62, 61] ∧ tnB op = [60, 61]) ∨ (op ≠ [60] ∧ op ≠ [62] ∧ op ≠ [60, 61] ∧ op ≠ [62, 61] ∧ tnB op = op) := by
  unfold tnB
  split
  · exact .inl ⟨‹_›, rfl⟩
  split
  · exact .inr (.inl ⟨‹_›, rfl⟩)
  split
  · exact .inr (.inr (.inl ⟨‹_›, rfl⟩))
  split
  · exact .inr (.inr (.inr (.inl ⟨‹_›, rfl⟩)))
  · exact .inr (.inr (.inr (.inr ⟨‹_›, ‹_›, ‹_›, ‹_›, rfl⟩)))
theorem tn_set {op : List Nat} : setB (tnB op) = setB op := by
  rcases tn_cases op with ⟨rfl, h⟩ | ⟨rfl, h⟩ | ⟨rfl, h⟩ | ⟨rfl, h⟩ | ⟨_, _, _, _, h⟩ <;> rw [h] <;> rfl
theorem tn_ari {op : List Nat} : ariB (tnB op) = ariB op := by
  rcases tn_cases op with ⟨rfl, h⟩ | ⟨rfl, h⟩ | ⟨rfl, h⟩ | ⟨rfl, h⟩ | ⟨_, _, _, _, h⟩ <;> rw [h] <;> rfl
theorem tn_cmp {op : List Nat} : cmpB (tnB op) = cmpB op := by
  rcases tn_cases op with ⟨rfl, h⟩ | ⟨rfl, h⟩ | ⟨rfl, h⟩ | ⟨rfl, h⟩ | ⟨_, _, _, _, h⟩ <;> rw [h] <;> rfl
theorem num_swap {op : List Nat} {a b : Int} (h : op ≠ [43]) (h2 : op ≠ [45]) (h3 : op ≠ [42]) (h4 : op ≠ [47]) (h5 : op ≠ [37]) : numM op a b = if ariB op = false ∧ cmpB op = false then (0, 9) else if ¬ (fitB a = true ∧ fitB b = true) then (0, 2) else if cmpP op a b = true then (1000000, 0) else (0, 0) := by
  unfold numM
  rw [if_neg h, if_neg h2, if_neg h3, if_neg h4, if_neg h5]
theorem num_turn {op : List Nat} (h : TnOK op) (a b : Int) : numM (tnB op) b a = numM op a b := by
  obtain ⟨h1, h2, h3, _⟩ := h
  have hf : (fitB b = true ∧ fitB a = true) = (fitB a = true ∧ fitB b = true) := propext And.comm
  by_cases k1 : op = [43]
  · subst k1
    show numM [43] b a = numM [43] a b
    unfold numM
    simp only [hf, if_true, fAdd_comm]
  by_cases k2 : op = [42]
  · subst k2
    show numM [42] b a = numM [42] a b
    unfold numM
    have e1 : (([42] : List Nat) = [43]) = False := by simp
    have e2 : (([42] : List Nat) = [45]) = False := by simp
    simp only [hf, e1, e2, if_false, if_true, fMul_comm]
  by_cases kc : cmpB op = true
  · have hc : op = [61, 61] ∨ op = [33, 61] ∨ op = [60, 61] ∨ op = [62, 61] ∨ op = [60] ∨ op = [62] := of_decide_eq_true kc
    rcases hc with rfl | rfl | rfl | rfl | rfl | rfl
    · rw [show tnB [61, 61] = [61, 61] from rfl, num_swap (by decide) (by decide) (by decide) (by decide) (by decide), num_swap (by decide) (by decide) (by decide) (by decide) (by decide), show cmpP [61, 61] b a = cmpP [61, 61] a b from decide_eq_decide.2 eq_comm]
      simp only [hf]
    · rw [show tnB [33, 61] = [33, 61] from rfl, num_swap (by decide) (by decide) (by decide) (by decide) (by decide), num_swap (by decide) (by decide) (by decide) (by decide) (by decide), show cmpP [33, 61] b a = cmpP [33, 61] a b from decide_eq_decide.2 ⟨Ne.symm, Ne.symm⟩]
      simp only [hf]
    all_goals
      rw [num_swap (by decide) (by decide) (by decide) (by decide) (by decide), num_swap (by decide) (by decide) (by decide) (by decide) (by decide)]
      simp only [hf]
      rfl
  · have ka : ariB op = false := by
      unfold ariB
      exact decide_eq_false (by rintro (q | q | q | q | q); exact k1 q; exact h1 q; exact k2 q; exact h2 q; exact h3 q)
    rw [numM_9 ka (by simpa using kc), numM_9 (tn_ari.trans ka) (tn_cmp.trans (by simpa using kc))]
section
variable {op : List Nat} {md : Int} {N : List (List Nat)} {V U : List El} {A B : List PE}
theorem fm_app {β γ : Type} (f g : β → List γ) : ∀ B : List β, (B.flatMap f ++ B.flatMap g).Perm (B.flatMap fun y => f y ++ g y)
  | [] => by simp
  | y :: B => by
    rw [List.flatMap_cons, List.flatMap_cons, List.flatMap_cons, List.append_assoc, List.append_assoc]
    refine List.Perm.append_left _ ?_
    refine List.Perm.trans ?_ (List.Perm.append_left _ (fm_app f g B))
    rw [← List.append_assoc, ← List.append_assoc]
    exact List.Perm.append_right _ List.perm_append_comm
theorem pairs_perm {α β γ : Type} (r : α → β → Bool) (f : α → β → γ) : ∀ (A : List α) (B : List β), (A.flatMap fun x => (B.filter (r x)).map (f x)).Perm (B.flatMap fun y => (A.filter fun x => r x y).map fun x => f x y)
  | [], B => by simp
  | x :: A, B => by
    rw [List.flatMap_cons]
    have e : (fun y => ((x :: A).filter fun x => r x y).map fun x => f x y) = fun y => (if r x y = true then [f x y] else []) ++ (A.filter fun x => r x y).map fun x => f x y := by
      funext y
      rw [List.filter_cons]
      split <;> simp
    rw [e]
    refine List.Perm.trans ?_ (fm_app _ _ B)
    refine List.Perm.append ?_ (pairs_perm r f A B)
    have : (B.filter (r x)).map (f x) = B.flatMap fun y => if r x y = true then [f x y] else [] := by
      induction B with
      | nil => rfl
      | cons y B ih =>
        rw [List.filter_cons, List.flatMap_cons, ← ih]
        split <;> simp
    rw [this]
theorem fst_zero {g : Nat → Nat} : ∀ (d i : Nat), fstE g d i = 0 ↔ ∀ j, i ≤ j → j < i + d → g j = 0
  | 0, i => ⟨fun _ j h1 h2 => by omega, fun _ => rfl⟩
  | d + 1, i => by
    rw [fstE]
    constructor
    · intro h j h1 h2
      split at h
      · rename_i q; exact absurd h q
      · rename_i q
        rcases Nat.lt_or_ge i j with k | k
        · exact (fst_zero d (i + 1)).1 h j (by omega) (by omega)
        · have : j = i := by omega
          subst this; exact Classical.not_not.1 q
    · intro h
      rw [if_neg (by simpa using h i (Nat.le_refl _) (by omega))]
      exact (fst_zero d (i + 1)).2 fun j h1 h2 => h j (by omega) (by omega)
theorem fst_p2 {op : List Nat} {md sd : Int} {N : List (List Nat)} {M L : List El} : fstE (binG op md sd N M L) M.length 0 = 0 ↔ ∀ x ∈ P2 M, binE op md sd N (P2 M) (P2 L) x = 0 := by
  rw [fst_zero]
  constructor
  · intro h x hx
    obtain ⟨i, hi⟩ := List.getElem?_of_mem hx
    have hl : i < M.length := by have := (List.getElem?_eq_some_iff.1 hi).1; rwa [p2_ln] at this
    rw [p2_eg hl] at hi
    cases hi
    exact h i (Nat.zero_le _) (by omega)
  · intro h i _ hi
    exact h _ (List.mem_of_getElem? (p2_eg (by omega)))
theorem hv_mem {L : List PE} {k : List Lab} {y : PE} : y ∈ hvP md N L k ↔ y ∈ L ∧ keyM md N y.1 = k := by
  unfold hvP
  rw [List.mem_filter, decide_eq_true_eq]
theorem one_of {α : Type} {l : List α} {x : α} (h : x ∈ l) (g : ¬ 1 < l.length) : l = [x] := by
  match l, h, g with
  | [y], h, _ => rw [List.mem_singleton.1 h]
  | _ :: _ :: _, _, g => exact absurd (by simp) g
theorem be_one {x y : PE} (hx : x ∈ A) (hy : y ∈ B) (hk : keyM md N y.1 = keyM md N x.1) (h : binE op md 0 N A B x = 0) : hvP md N B (keyM md N x.1) = [y] ∧ hvP md N A (keyM md N x.1) = [x] ∧ (prF op 0 x.2 y.2).2.toNat = 0 := by
  have my : y ∈ hvP md N B (keyM md N x.1) := hv_mem.2 ⟨hy, hk⟩
  have mx : x ∈ hvP md N A (keyM md N x.1) := hv_mem.2 ⟨hx, rfl⟩
  unfold binE at h
  rw [if_neg (List.ne_nil_of_mem my)] at h
  split at h
  · cases h
  · rename_i q
    have e1 := one_of my fun k => q (.inl k)
    have e2 := one_of mx fun k => q (.inr ⟨rfl, k⟩)
    rw [e1] at h
    exact ⟨e1, e2, h⟩
theorem be_sym {op2 : List Nat} (hn : ∀ a b : Int, prF op2 0 b a = prF op 0 a b) (h : ∀ x ∈ A, binE op md 0 N A B x = 0) : ∀ y ∈ B, binE op2 md 0 N B A y = 0 := by
  intro y hy
  by_cases q : hvP md N A (keyM md N y.1) = []
  · exact be_0 q
  · obtain ⟨x, hx⟩ := List.exists_mem_of_ne_nil _ q
    have mx := hv_mem.1 hx
    obtain ⟨e1, e2, e3⟩ := be_one mx.1 hy mx.2.symm (h x mx.1)
    rw [mx.2] at e1 e2
    unfold binE
    rw [if_neg q, e1, e2, if_neg (by rintro (k | ⟨_, k⟩) <;> simp at k)]
    show (prF op2 0 y.2 x.2).2.toNat = 0
    rw [hn, e3]
theorem bl_map {x : PE} (hx : x ∈ A) (h : binE op md 0 N A B x = 0) : binL op true md 0 N B x = (B.filter fun y => decide (keyM md N y.1 = keyM md N x.1)).map fun y => (keyM md N x.1, (prF op 0 x.2 y.2).1) := by
  show binL op true md 0 N B x = (hvP md N B (keyM md N x.1)).map _
  by_cases q : hvP md N B (keyM md N x.1) = []
  · rw [bl_0 q, q]; rfl
  · obtain ⟨y, hy⟩ := List.exists_mem_of_ne_nil _ q
    have my := hv_mem.1 hy
    obtain ⟨e1, _, _⟩ := be_one hx my.1 my.2 h
    unfold binL
    rw [if_neg q, e1]
    unfold binI
    rw [if_neg (by rintro ⟨_, k⟩; cases k), if_pos rfl]
    rfl
theorem bl_perm {op2 : List Nat} (hn : ∀ a b : Int, prF op2 0 b a = prF op 0 a b) (h : ∀ x ∈ A, binE op md 0 N A B x = 0) : (A.flatMap (binL op true md 0 N B)).Perm (B.flatMap (binL op2 true md 0 N A)) := by
  have h2 := be_sym hn h
  have e1 : A.flatMap (binL op true md 0 N B) = A.flatMap fun x => (B.filter fun y => decide (keyM md N y.1 = keyM md N x.1)).map fun y => (keyM md N x.1, (prF op 0 x.2 y.2).1) := by
    rw [List.flatMap_def, List.flatMap_def, List.map_congr_left fun x hx => bl_map hx (h x hx)]
  have e2 : B.flatMap (binL op2 true md 0 N A) = B.flatMap fun y => (A.filter fun x => decide (keyM md N y.1 = keyM md N x.1)).map fun x => (keyM md N x.1, (prF op 0 x.2 y.2).1) := by
    rw [List.flatMap_def, List.flatMap_def, List.map_congr_left fun y hy => ?_]
    rw [bl_map hy (h2 y hy), show (fun x : PE => decide (keyM md N x.1 = keyM md N y.1)) = fun x => decide (keyM md N y.1 = keyM md N x.1) from funext fun x => decide_eq_decide.2 eq_comm]
    refine List.map_congr_left fun x hx => ?_
    have := (List.mem_filter.1 hx).2
    rw [of_decide_eq_true this, hn]
  rw [e1, e2]
  exact pairs_perm (fun x y => decide (keyM md N y.1 = keyM md N x.1)) (fun x y => (keyM md N x.1, (prF op 0 x.2 y.2).1)) A B
theorem ord_pm {L M : List PE} {e : Nat} {W : List PE} (p : L.Perm M) (h : OrdR L e W) : OrdR M e W := by
  rcases h with ⟨h1, h2, h3⟩ | ⟨h1, h2, h3⟩
  · exact .inl ⟨h1, h2, fun k => h3 (((p.map _).nodup_iff).2 k)⟩
  · exact .inr ⟨h1, h2.trans p, h3⟩
theorem core_0 {op2 : List Nat} {e f : Nat} {W W' : List PE} (hn : ∀ a b : Int, prF op2 0 b a = prF op 0 a b) (h : coreR op true md 0 N V U e W) (g : coreR op2 true md 0 N U V f W') : (e = 0 ↔ f = 0) ∧ (e = 0 → W = W') := by
  have hs : fstE (binG op md 0 N V U) V.length 0 = 0 ↔ fstE (binG op2 md 0 N U V) U.length 0 = 0 := by
    rw [fst_p2, fst_p2]
    exact ⟨be_sym hn, be_sym fun a b => (hn b a).symm⟩
  rcases h with ⟨h1, h2, h3⟩ | ⟨h1, h2⟩ <;> rcases g with ⟨g1, g2, g3⟩ | ⟨g1, g2⟩
  · exact ⟨⟨fun k => absurd k h2, fun k => absurd k g2⟩, fun k => absurd k h2⟩
  · exact absurd (h1.symm.trans (hs.2 g1)) h2
  · exact absurd (g1.symm.trans (hs.1 h1)) g2
  · obtain ⟨q1, q2⟩ := (ord_pm (bl_perm hn (fst_p2.1 h1)) h2).fn g2
    exact ⟨by rw [q1], fun _ => q2⟩
theorem core_s {op2 : List Nat} {sd sd2 : Int} (h1 : sd ≠ 0) (h2 : sd2 ≠ 0) (hn : ∀ a b : Int, prF op2 sd2 a b = prF op sd a b) : coreR op2 true md sd2 N V U = coreR op true md sd N V U := by
  have e1 : binG op2 md sd2 N V U = binG op md sd N V U := by
    funext i
    unfold binG binE
    rw [hn]
    simp only [h1, h2, false_and, or_false]
  have e2 : binL op2 true md sd2 N (P2 U) = binL op true md sd N (P2 U) := by
    funext x
    unfold binL binI
    rw [hn]
    have q1 : (cmpB op2 = true ∧ true = false) = False := by simp
    have q2 : (cmpB op = true ∧ true = false) = False := by simp
    simp only [q1, q2, if_false, if_neg h1, if_neg h2]
  funext e W
  unfold coreR
  rw [e1, e2]
theorem pre_turn {sd sd2 : Int} (h1 : vchk V = 0) (h2 : vchk U = 0) (hs : (sd2 < 0 ∨ 2 < sd2) = (sd < 0 ∨ 2 < sd)) (hz : (sd2 ≠ 0) = (sd ≠ 0)) : binPre (tnB op) md sd2 U V = binPre op md sd V U := by
  unfold binPre
  simp only [h1, h2, tn_set, tn_ari, tn_cmp, hs, hz]
theorem bin_turn {sd sd2 : Int} {e f : Nat} {W W' : List PE} (ht : TnOK op) (h1 : vchk V = 0) (h2 : vchk U = 0) (hs : sd = 0 ∧ sd2 = 0 ∨ sd = 1 ∧ sd2 = 2 ∨ sd = 2 ∧ sd2 = 1) (h : BinR op true md sd N V U e W) (g : BinR (tnB op) true md sd2 N U V f W') : (e = 0 ↔ f = 0) ∧ (e = 0 → W = W') := by
  have hp : binPre (tnB op) md sd2 U V = binPre op md sd V U := by
    rcases hs with ⟨rfl, rfl⟩ | ⟨rfl, rfl⟩ | ⟨rfl, rfl⟩ <;> exact pre_turn h1 h2 (by simp) (by simp)
  have hset : setB (tnB op) = false := tn_set.trans ht.2.2.2
  rcases h with ⟨a1, a2⟩ | ⟨a1, a2, a3⟩ | ⟨a1, a2, a3⟩
  · rcases g with ⟨b1, b2⟩ | ⟨b1, b2, b3⟩ | ⟨b1, b2, b3⟩
    · rw [hp, a1] at b1; cases b1; exact ⟨Iff.rfl, fun _ => a2.trans b2.symm⟩
    · rw [hp, a1] at b1; cases b1
    · rw [hp, a1] at b1; cases b1
  · rw [ht.2.2.2] at a2; cases a2
  · rcases g with ⟨b1, b2⟩ | ⟨b1, b2, b3⟩ | ⟨b1, b2, b3⟩
    · rw [hp, a1] at b1; cases b1
    · rw [hset] at b2; cases b2
    · rcases hs with ⟨rfl, rfl⟩ | ⟨rfl, rfl⟩ | ⟨rfl, rfl⟩
      · rw [if_neg (by decide), if_neg (by decide)] at a3 b3
        exact core_0 (fun a b => num_turn ht a b) a3 b3
      · rw [if_neg (by decide), if_neg (by decide)] at a3
        rw [if_pos rfl, if_pos rfl, core_s (op := op) (op2 := tnB op) (sd := 1) (sd2 := 2) (by decide) (by decide) fun a b => num_turn ht a b] at b3
        obtain ⟨q1, q2⟩ := a3.fn b3
        exact ⟨by rw [q1], fun _ => q2⟩
      · rw [if_pos rfl, if_pos rfl] at a3
        rw [if_neg (by decide), if_neg (by decide), core_s (op := op) (op2 := tnB op) (sd := 2) (sd2 := 1) (by decide) (by decide) fun a b => num_turn ht b a] at b3
        obtain ⟨q1, q2⟩ := a3.fn b3
        exact ⟨by rw [q1], fun _ => q2⟩
theorem bin_bad {bl : Bool} {sd : Int} {e : Nat} {W : List PE} (hb : vchk V ≠ 0 ∨ vchk U ≠ 0) (h : BinR op bl md sd N V U e W) : W = [] := by
  have hp : ∃ k, binPre op md sd V U = some k := by
    by_cases q : vchk V = 0
    · exact ⟨_, pre_2 q (hb.resolve_left fun k => k q)⟩
    · exact ⟨_, pre_1 q⟩
  obtain ⟨k, hk⟩ := hp
  rcases h with ⟨_, a⟩ | ⟨a, _⟩ | ⟨a, _⟩
  · exact a
  · rw [hk] at a; cases a
  · rw [hk] at a; cases a
end
end Go.Proofs.YtmblgaehfjheeaaGreat.Ev
