/- Walks over the evaluator: maps from texts, as lists; calls that are known by what memory holds. -/
import Derived.Test.YtndhhgbpcmfeiaaGreatDoorOGa
import Derived.Test.YtndhhgbpcmfeiaaGreatDoorOJa
import Derived.Lib.ItoaNum
import Derived.Test.YtndhhgbpcmfeiaaGreatDoorOJb
import Derived.Test.YtndhhgbpcmfeiaaGreatDoorOEvX
import Derived.Test.YtndhhgbpcmfeiaaGreatDoorOAwJ
namespace Go.Proofs.YtndhhgbpcmfeiaaGreatDoor.Ev
open Go.RowKit
abbrev Te := List Nat × AV
def gB : Nat -> List Te -> List AV
 | _, [] => []
 | i, x :: M => .str x.1 :: x.2 :: .int .i64 ((i : Nat) : Int) :: gB (i + 1) M
def ni : List Te -> List Nat -> AV
 | [], _ => .nils
 | x :: M, k => if x.1 = k then x.2 else ni M k
def jx : List Te -> List Nat -> AV -> List Te
 | [], k, v => [(k, v)]
 | x :: M, k, v => if x.1 = k then (k, v) :: M else x :: jx M k v
theorem nV : ∀ (M N : List Te) (i : Nat), gB i (M ++ N) = gB i M ++ gB (i + M.length) N
 | [], N, i => rfl
 | x :: M, N, i => by
  simp only [List.cons_append, gB, nV M N, List.length_cons]
  rw [show i + 1 + M.length = i + (M.length + 1) by omega]
theorem Aa (M : List Te) (k : List Nat) (z : AV) : gB 0 M ++ [.str k, z, .int .i64 ((M.length : Nat) : Int)] = gB 0 (M ++ [(k, z)]) := by
 rw [nV, Nat.zero_add]; rfl
theorem pR : ∀ (M : List Te) (i j : Nat) (x : Te), M[j]? = some x -> (gB i M)[3 * j]? = some (.str x.1) /\ (gB i M)[3 * j + 1]? = some x.2
 | [], i, j, x, h => by simp at h
 | y :: M, i, 0, x, h => by simp at h; subst h; exact ⟨rfl, rfl⟩
 | y :: M, i, j + 1, x, h => by
  have := pR M (i + 1) j x (by simpa using h)
  have e1 : 3 * (j + 1) = 3 * j + 1 + 1 + 1 := by omega
  rw [e1]
  exact this
theorem uh : ∀ (M : List Te) (i j : Nat) (k : List Nat) (w v : AV), M[j]? = some (k, w) -> db (gB i M) (3 * j) [.str k, v] = gB i (M.set j (k, v))
 | [], i, j, k, w, v, h => by simp at h
 | y :: M, i, 0, k, w, v, h => by
  simp at h
  subst h
  simp [db, gB]
 | y :: M, i, j + 1, k, w, v, h => by
  have ih := uh M (i + 1) j k w v (by simpa using h)
  have e1 : 3 * (j + 1) = 3 * j + 1 + 1 + 1 := by omega
  rw [e1]
  simp only [gB, db, List.set_cons_succ, ih]
theorem yx {tb : Tab} {kt : Nat} (hu : tb.und kt = some .string) (k : List Nat) : j7 tb (tb.und kt) (.str k) = true := by
 unfold j7
 simp only [hu]
theorem yw {tb : Tab} {kt : Nat} (hu : tb.und kt = some .string) (x y : List Nat) : fk tb 20 kt (.str x) (.str y) = some (decide (x = y)) := by
 unfold fk
 simp only [hu, pg]
theorem lB {eq : AV -> AV -> Option Bool} (heq : ∀ x y : List Nat, eq (.str x) (.str y) = some (decide (x = y))) (k : List Nat) : ∀ (M : List Te) (i c : Nat),
  (gz eq (.str k) (gB i M) c = some none /\ ni M k = .nils /\ ∀ v, jx M k v = M ++ [(k, v)]) \/ ∃ j, M[j]? = some (k, ni M k) /\ (∀ v, jx M k v = M.set j (k, v)) /\ gz eq (.str k) (gB i M) c = some (some (c + j))
 | [], i, c => .inl ⟨rfl, rfl, fun _ => rfl⟩
 | y :: M, i, c => by
  by_cases e : k = y.1
  ·subst e
   have e1 : ni (y :: M) y.1 = y.2 := if_pos rfl
   refine .inr ⟨0, by rw [e1]; rfl, fun v => if_pos rfl, ?_⟩
   show (match eq (.str y.1) (.str y.1) with | some true => some (some c) | some false => _ | none => none) = _
   rw [heq, decide_eq_true rfl]; rfl
  ·have h0 : gz eq (.str k) (gB i (y :: M)) c = gz eq (.str k) (gB (i + 1) M) (c + 1) := by
    show (match eq (.str k) (.str y.1) with | some true => some (some c) | some false => gz eq (.str k) (gB (i + 1) M) (c + 1) | none => none) = _
    rw [heq, decide_eq_false e]
   have e1 : ni (y :: M) k = ni M k := if_neg fun q => e q.symm
   have e2 : ∀ v, jx (y :: M) k v = y :: jx M k v := fun v => if_neg fun q => e q.symm
   rw [h0]
   rcases lB heq k M (i + 1) (c + 1) with ⟨h1, h2, h3⟩ | ⟨j, h1, h2, h3⟩
   ·exact .inl ⟨h1, by rw [e1]; exact h2, fun v => by rw [e2, h3]; rfl⟩
   ·refine .inr ⟨j + 1, by rw [e1]; simpa using h1, fun v => by rw [e2, h2]; rfl, ?_⟩
    rw [h3]
    congr 2
    omega
section
variable {tb : Tab} {n : Nat} {E : Env} {s : St} {hs : ak} {R : T AV -> AHeap -> Prop} {ops rest : List Oper} {d : Nat} {t : TypeId} {ty : TypeId} {pos : String} {aft : Array Edge}
theorem tz {f : Nat} {args : List AV} {v : AV} (ho : ∀ h, du hs h -> tb.orc f args h = some v) : Spec tb f args [] hs (fJ v) := by
 intro h hh
 exact ⟨v, h, [], Evt.of fun K => by unfold dw; rw [ho h hh.keep], ⟨rfl, rfl⟩, fun e he => j9 he, hh.sub (SubH.nil _)⟩
theorem WO.makeMap {kt et : Nat} (hu : dx (tb.und t) = some (kt, et)) (hd : Nat.blt d n = true) (hk : ∀ b, WO tb n ops rest E ((d, .map b) :: s) (⟨b, ⟨0, true, []⟩, true⟩ :: hs) R) :
  WO tb n ops (⟨some d, .makeMap t none, ty, pos, aft, none⟩ :: rest) E s hs R := by
 refine WO.l (s' := s) fun tm h ht hh => ?_
 refine ⟨.map h.next, ⟨h.next + 1, h.objs.set h.next ⟨0, true, []⟩⟩, tm.set d (.map h.next), ?_, bJ hd, hk h.next _ _ (ht.set d _) (hh.new _)⟩
 show Res.l (eU tb tm h t none) = _
 unfold eU
 simp only [hu]
theorem rP {ox ok : Operand} {kt et b : Nat} {M : List Te} {ex w : Bool} {k : List Nat} (hu : dx (tb.und t) = some (kt, et)) (hs_ : tb.und kt = some .string) (hz : tb.zero et = some .nils) (hx : oL s ox = some (.map b)) (hy : oL s ok = some (.str k)) (hm : ⟨b, ⟨M.length, ex, gB 0 M⟩, w⟩ ∈ hs) :
  QV tb s hs (.lookup t ox ok false) (ni M k) := by
 intro tm h ht hh call
 have hob := hh _ hm
 simp only at hob
 show Res.q (fP tb tm h.objs t ox ok false) = _
 unfold fP
 simp only [hu, bD ht hx, bD ht hy]
 unfold Ch
 simp only [yx hs_, hob, hz]
 rcases lB (yw (tb := tb) hs_) k M 0 0 with ⟨h1, h2, _⟩ | ⟨j, h1, _, h3⟩
 ·rw [h1, h2]; rfl
 ·rw [h3, Nat.zero_add]
  unfold wd
  simp only [(pR M 0 j _ h1).2]
  rfl
theorem DK {ox ok : Operand} {kt et b : Nat} {M : List Te} {ex w : Bool} {k : List Nat} {v : AV} (hu : dx (tb.und t) = some (kt, et)) (hs_ : tb.und kt = some .string) (hz : tb.zero et = some .nils) (hx : oL s ox = some (.map b)) (hy : oL s ok = some (.str k)) (hm : ⟨b, ⟨M.length, ex, gB 0 M⟩, w⟩ ∈ hs) (he : ni M k = v) :
  QV tb s hs (.lookup t ox ok false) v := he ▸ rP hu hs_ hz hx hy hm
theorem y4 {ox ok oy : Operand} {kt et i b : Nat} {M : List Te} {ex : Bool} {k : List Nat} {v : AV} {hs' : ak} (hu : dx (tb.und t) = some (kt, et)) (hst : tb.und kt = some .string) (hx : oL s ox = some (.map b)) (hy : oL s ok = some (.str k)) (hv : oL s oy = some v) (hi : hs[i]? = some ⟨b, ⟨M.length, ex, gB 0 M⟩, true⟩)
  (hs_ : hs.set i ⟨b, ⟨(jx M k v).length, ex, gB 0 (jx M k v)⟩, true⟩ = hs') (hk : WO tb n ops rest E s hs' R) :
  WO tb n ops (⟨none, .mapUpdate t ox ok oy, ty, pos, aft, none⟩ :: rest) E s hs R := by
 refine WO.l (s' := s) fun tm h ht hh => ?_
 have hob := (hh.at_ _ (fD hi)).1
 simp only at hob
 subst hs_
 refine ⟨.tuple [], ⟨h.next, h.objs.set b ⟨(jx M k v).length, ex, gB 0 (jx M k v)⟩⟩, tm, ?_, rfl, hk _ _ ht (hh.put hi)⟩
 show Res.l (dK tb tm h t ox ok oy) = _
 unfold dK
 simp only [hu, bD ht hx, bD ht hy, bD ht hv, yx hst, hob]
 rcases lB (yw (tb := tb) hst) k M 0 0 with ⟨h1, _, h2⟩ | ⟨j, h1, h2, h3⟩
 ·rw [h1, h2 v]
  unfold ES
  simp only [List.length_append, List.length_cons, List.length_nil, Nat.zero_add]
  rw [<- Aa]
  rfl
 ·rw [h3, h2 v, Nat.zero_add]
  unfold ES
  have e : (AV.str k).beq (.str k) = true := by simp [AV.beq, fN, cW]
  simp only [(pR M 0 j _ h1).1, e, uh M 0 j k _ v h1, List.length_set]
  rfl
end
theorem tC {α0 α1 α2 α3 α4 α5 α6 α7 α8 : Type} {tb : Tab} {n : Nat} {E : Env} {s : St} {hs : ak} {b : Code} {Q} (st : α0 -> α1 -> α2 -> α3 -> α4 -> α5 -> α6 -> α7 -> α8 -> St) (hp : α0 -> α1 -> α2 -> α3 -> α4 -> α5 -> α6 -> α7 -> α8 -> ak) (Inv : α0 -> α1 -> α2 -> α3 -> α4 -> α5 -> α6 -> α7 -> α8 -> Prop) (μ : α0 -> α1 -> α2 -> α3 -> α4 -> α5 -> α6 -> α7 -> α8 -> Nat) (z0 : α0) (z1 : α1) (z2 : α2) (z3 : α3) (z4 : α4) (z5 : α5) (z6 : α6) (z7 : α7) (z8 : α8) (h0 : Inv z0 z1 z2 z3 z4 z5 z6 z7 z8)
  (hsub : SubS (st z0 z1 z2 z3 z4 z5 z6 z7 z8) s) (hsubH : SubH (hp z0 z1 z2 z3 z4 z5 z6 z7 z8) hs)
  (step : ∀ a0 a1 a2 a3 a4 a5 a6 a7 a8, Inv a0 a1 a2 a3 a4 a5 a6 a7 a8 -> (∀ b0 b1 b2 b3 b4 b5 b6 b7 b8, Inv b0 b1 b2 b3 b4 b5 b6 b7 b8 -> μ b0 b1 b2 b3 b4 b5 b6 b7 b8 < μ a0 a1 a2 a3 a4 a5 a6 a7 a8 -> W tb n (.loop b) E (st b0 b1 b2 b3 b4 b5 b6 b7 b8) (hp b0 b1 b2 b3 b4 b5 b6 b7 b8) Q) -> W tb n b E (st a0 a1 a2 a3 a4 a5 a6 a7 a8) (hp a0 a1 a2 a3 a4 a5 a6 a7 a8) (KL tb n b Q)) :
  W tb n (.loop b) E s hs Q :=
 aM (α := α0 × α1 × α2 × α3 × α4 × α5 × α6 × α7 × α8) (fun x => st x.1 x.2.1 x.2.2.1 x.2.2.2.1 x.2.2.2.2.1 x.2.2.2.2.2.1 x.2.2.2.2.2.2.1 x.2.2.2.2.2.2.2.1 x.2.2.2.2.2.2.2.2) (fun x => hp x.1 x.2.1 x.2.2.1 x.2.2.2.1 x.2.2.2.2.1 x.2.2.2.2.2.1 x.2.2.2.2.2.2.1 x.2.2.2.2.2.2.2.1 x.2.2.2.2.2.2.2.2) (fun x => Inv x.1 x.2.1 x.2.2.1 x.2.2.2.1 x.2.2.2.2.1 x.2.2.2.2.2.1 x.2.2.2.2.2.2.1 x.2.2.2.2.2.2.2.1 x.2.2.2.2.2.2.2.2) (fun x => μ x.1 x.2.1 x.2.2.1 x.2.2.2.1 x.2.2.2.2.1 x.2.2.2.2.2.1 x.2.2.2.2.2.2.1 x.2.2.2.2.2.2.2.1 x.2.2.2.2.2.2.2.2)
  (z0, z1, z2, z3, z4, z5, z6, z7, z8) h0 hsub hsubH fun a ha ih => step a.1 a.2.1 a.2.2.1 a.2.2.2.1 a.2.2.2.2.1 a.2.2.2.2.2.1 a.2.2.2.2.2.2.1 a.2.2.2.2.2.2.2.1 a.2.2.2.2.2.2.2.2 ha fun b0 b1 b2 b3 b4 b5 b6 b7 b8 => ih (b0, b1, b2, b3, b4, b5, b6, b7, b8)
theorem su : ∀ (u : Nat), ∀ c ∈ Lib.decDigits u, 48 <= c.toNat /\ c.toNat <= 57 := by
 intro u
 induction u using Nat.strongRecOn with
 | _ u ih =>
  intro c hc
  rw [Lib.decDigits] at hc
  have hd : ∀ q : Nat, q < 10 -> (UInt8.ofNat (48 + q)).toNat = 48 + q := fun q hq => by
   rw [UInt8.toNat_ofNat']; omega
  split at hc
  ·rw [List.mem_singleton.1 hc, hd u (by assumption)]; omega
  ·rcases List.mem_append.1 hc with hc | hc
   ·exact ih (u / 10) zy c hc
   ·rw [List.mem_singleton.1 hc, hd (u % 10) zy]; omega
def Dt (l : List UInt8) : Nat := l.foldl (fun n c => n * 10 + (c.toNat - 48)) 0
theorem oO (u : Nat) : Dt (Lib.decDigits u) = u := by
 induction u using Nat.strongRecOn with
 | _ u ih =>
  have hd : ∀ q : Nat, q < 10 -> (UInt8.ofNat (48 + q)).toNat = 48 + q := fun q hq => by
   rw [UInt8.toNat_ofNat']; omega
  rw [Lib.decDigits]
  split
  ·unfold Dt
   rw [List.foldl_cons, List.foldl_nil, hd u (by assumption)]; omega
  ·have h := ih (u / 10) zy
   unfold Dt at h ⊢
   rw [List.foldl_append, h, List.foldl_cons, List.foldl_nil, hd (u % 10) zy]; omega
theorem B2 {a b : Int} (h : Lib.itoa a = Lib.itoa b) : a = b := by
 unfold Lib.itoa at h
 have no45 : ∀ u r, Lib.decDigits u ≠ 45 :: r := fun u r q => by
  have := su u 45 (by rw [q]; exact List.mem_cons_self)
  have e : (45 : UInt8).toNat = 45 := rfl
  omega
 split at h <;> split at h
 ·have h1 := congrArg Dt (List.cons.inj h).2
  rw [oO, oO] at h1
  omega
 ·exact absurd h.symm (no45 _ _)
 ·exact absurd h (no45 _ _)
 ·have h1 := congrArg Dt h
  rw [oO, oO] at h1
  omega
theorem Ep {a : Int} : ∀ c ∈ Lib.itoa a, c.toNat ≠ 32 := fun c hc => by
 unfold Lib.itoa at hc
 split at hc
 ·rcases List.mem_cons.1 hc with rfl | hc
  ·decide
  ·have := su _ c hc; omega
 ·have := su _ c hc; omega
theorem F3 {a : Int} : ∀ c ∈ vX a, c ≠ 32 := fun c hc => by
 obtain ⟨x, hx, rfl⟩ := List.mem_map.1 hc
 exact Ep x hx
theorem Eo {a b : Int} (h : vX a = vX b) : a = b := B2 (by
 unfold vX at h
 exact List.map_inj_right (fun x y e => UInt8.toNat_inj.1 e) |>.1 h)
theorem rG (A : List Int) : (A.flatMap fun a => 32 :: vX a) = [] \/ ∃ r, (A.flatMap fun a => 32 :: vX a) = 32 :: r := by
 cases A with
 | nil => exact .inl rfl
 | cons a A => exact .inr ⟨vX a ++ A.flatMap fun a => 32 :: vX a, rfl⟩
theorem yR {a : Int} {r : List Nat} (h : r = [] \/ ∃ q, r = 32 :: q) : (vX a ++ r).takeWhile (fun c => decide (c ≠ 32)) = vX a := by
 rw [List.takeWhile_append_of_pos (fun c hc => decide_eq_true (F3 c hc))]
 rcases h with rfl | ⟨q, rfl⟩
 ·simp
 ·simp
theorem rz : ∀ {A B : List Int}, (A.flatMap fun a => 32 :: vX a) = (B.flatMap fun a => 32 :: vX a) -> A = B
 | [], [], _ => rfl
 | [], b :: B, h => by simp at h
 | a :: A, [], h => by simp at h
 | a :: A, b :: B, h => by
  rw [List.flatMap_cons, List.flatMap_cons, List.cons_append, List.cons_append] at h
  have h := (List.cons.inj h).2
  have e := congrArg (List.takeWhile fun c => decide (c ≠ 32)) h
  rw [yR (rG A), yR (rG B)] at e
  rw [e] at h
  rw [Eo e, rz (List.append_cancel_left h)]
def gA (y : PI) : List Nat := vY y.1.kd y.1.op y.2
theorem B5 {x y : PI} (h : x.1 = y.1) (g : gA x = gA y) : x = y := by
 obtain ⟨d, A⟩ := x
 obtain ⟨d', B⟩ := y
 simp only at h
 subst h
 unfold gA vY at g
 have g := List.append_cancel_left g
 have g := List.append_cancel_left (List.cons.inj g).2
 exact congrArg (Prod.mk d) (rz g)
def dQ (O : List PI) (k : List Nat) : List Int := ((List.range O.length).filter fun j => decide (gA (pd O j) = k)).map fun j => ((j : Nat) : Int)
section
variable {O P : List PI} {y : PI} {k : List Nat} {i j : Nat} {T : List Int}
theorem nB : dQ (O ++ [y]) k = dQ O k ++ if gA y = k then [((O.length : Nat) : Int)] else [] := by
 unfold dQ
 rw [List.length_append, List.length_cons, List.length_nil, Nat.zero_add, List.range_succ, List.filter_append, List.map_append]
 congr 1
 ·congr 1
  refine List.filter_congr fun j hj => ?_
  rw [nA (List.mem_range.1 hj)]
 ·rw [List.filter_cons, pZ]
  by_cases h : gA y = k <;> simp [h]
theorem EQ : (dQ O k).length <= O.length := by
 unfold dQ
 rw [List.length_map]
 exact Nat.le_trans (List.length_filter_le _ _) (by rw [List.length_range]; exact Nat.le_refl _)
theorem yL (h : j < (dQ O k).length) : ∃ a, ai (dQ O k) j = ((a : Nat) : Int) /\ a < O.length /\ gA (pd O a) = k := by
 have hm := i7 h
 unfold dQ at hm
 obtain ⟨a, ha, e⟩ := List.mem_map.1 hm
 have h1 := List.mem_filter.1 ha
 exact ⟨a, e.symm, List.mem_range.1 h1.1, of_decide_eq_true h1.2⟩
theorem yM (h : i < O.length) (g : gA (pd O i) = k) : ∃ j, j < (dQ O k).length /\ ai (dQ O k) j = ((i : Nat) : Int) := by
 have hm : ((i : Nat) : Int) ∈ dQ O k := List.mem_map.2 ⟨i, List.mem_filter.2 ⟨List.mem_range.2 h, decide_eq_true g⟩, rfl⟩
 obtain ⟨j, hj⟩ := List.getElem?_of_mem hm
 exact ⟨j, (List.getElem?_eq_some_iff.1 hj).1, qR hj⟩
theorem ER (h : i < j) (hj : j < (dQ O k).length) : ai (dQ O k) i < ai (dQ O k) j := by
 have hp : (dQ O k).Pairwise (· < ·) := by
  unfold dQ
  rw [List.pairwise_map]
  exact (List.Pairwise.filter _ List.pairwise_lt_range).imp fun h => by omega
 have h1 := List.pairwise_iff_getElem.1 hp i j zy hj h
 have e1 := qR (List.getElem?_eq_getElem (show i < (dQ O k).length by omega))
 have e2 := qR (List.getElem?_eq_getElem hj)
 rw [e1, e2]; exact h1
theorem Aj (hj : j < (dQ O (gA y)).length) (hp : (pd O (ai (dQ O (gA y)) j).toNat).1 = y.1) (hq : ∀ q, q < j -> (pd O (ai (dQ O (gA y)) q).toNat).1 ≠ y.1) :
  O.idxOf y < O.length /\ ai (dQ O (gA y)) j = ((O.idxOf y : Nat) : Int) := by
 obtain ⟨a, e, ha, hk⟩ := yL hj
 rw [e, Int.toNat_natCast] at hp
 have hy := B5 hp hk
 have hm : y ∈ O := by rw [<- hy]; exact CO ha
 have hlt := List.idxOf_lt_length_of_mem hm
 refine ⟨hlt, ?_⟩
 have hi : pd O (O.idxOf y) = y := nZ (by rw [List.getElem?_eq_getElem hlt, List.getElem_idxOf hlt])
 rw [e]
 congr 1
 rcases Nat.lt_trichotomy a (O.idxOf y) with g | g | g
 ·exfalso
  have := List.not_of_lt_findIdx (p := (· == y)) (xs := O) (i := a) (by simpa [List.idxOf] using g)
  have e2 : O[a] = y := by
   have := nY ha
   rw [List.getElem?_eq_getElem ha, hy] at this
   exact Option.some.inj this
  rw [e2] at this
  simp at this
 ·exact g
 ·exfalso
  obtain ⟨q, h1, h2⟩ := yM (k := gA y) hlt (by rw [hi])
  rcases Nat.lt_trichotomy q j with z | z | z
  ·exact hq q z (by rw [h2, Int.toNat_natCast, hi])
  ·subst z; rw [e] at h2; omega
  ·have := ER z h1
   rw [e, h2] at this; omega
theorem CT (hq : ∀ q, q < (dQ O (gA y)).length -> (pd O (ai (dQ O (gA y)) q).toNat).1 ≠ y.1) : y ∉ O := fun hm => by
 have hlt := List.idxOf_lt_length_of_mem hm
 have hi : pd O (O.idxOf y) = y := nZ (by rw [List.getElem?_eq_getElem hlt, List.getElem_idxOf hlt])
 obtain ⟨q, h1, h2⟩ := yM (k := gA y) hlt (by rw [hi])
 exact hq q h1 (by rw [h2, Int.toNat_natCast, hi])
theorem EZ (hT : (eO P i).2.length = i) (hl : i + 1 < P.length) (hf : (eO P i).1.idxOf (rC (eO P i).2 (pd P i)) < (eO P i).1.length) :
  eO P (i + 1) = ((eO P i).1, (eO P i).2 ++ [(((eO P i).1.idxOf (rC (eO P i).2 (pd P i)) : Nat) : Int)]) := by
 rw [eO]
 unfold EX kE GR
 have hb : decide ((eO P i).2.length + 1 = P.length) = false := decide_eq_false zy
 simp only [hb, Bool.false_eq_true, if_false, if_pos hf]
theorem Gy (hT : (eO P i).2.length = i) (h : i + 1 = P.length \/ rC (eO P i).2 (pd P i) ∉ (eO P i).1) :
  eO P (i + 1) = ((eO P i).1 ++ [rC (eO P i).2 (pd P i)], (eO P i).2 ++ [(((eO P i).1.length : Nat) : Int)]) := by
 have hk : kE (decide ((eO P i).2.length + 1 = P.length)) (eO P i).1 (rC (eO P i).2 (pd P i)) = (eO P i).1.length := by
  unfold kE
  split
  ·rfl
  ·rename_i hb
   rcases h with h | h
   ·exact absurd (decide_eq_true zy) hb
   ·exact List.idxOf_eq_length h
 rw [eO]
 unfold EX GR
 simp only [hk, Nat.lt_irrefl, if_false]
end
def MK (O : List PI) : List Te -> ak -> Prop
 | [], D => D = []
 | x :: M, D => (∀ y ∈ M, y.1 ≠ x.1) /\ ∃ hp D', OwnE 1 (cA (dQ O x.1)) (dQ O x.1).length x.2 hp /\ D = hp ++ D' /\ MK O M D'
theorem MK.w {O : List PI} : ∀ {M : List Te} {D : ak}, MK O M D -> ∀ e ∈ D, e.w = true
 | [], D, h => by subst h; exact dr
 | x :: M, D, ⟨_, hp, D', h1, h2, h3⟩ => by subst h2; exact wa h1.w (MK.w h3)
theorem MK.turn {O O' : List PI} : ∀ {M : List Te} {D : ak}, (∀ x ∈ M, dQ O' x.1 = dQ O x.1) -> MK O M D -> MK O' M D
 | [], D, _, h => h
 | x :: M, D, g, ⟨h0, hp, D', h1, h2, h3⟩ => ⟨h0, hp, D', by rw [g x List.mem_cons_self]; exact h1, h2, MK.turn (fun y hy => g y (List.mem_cons_of_mem _ hy)) h3⟩
theorem rB {k : List Nat} {v : AV} : ∀ {M : List Te}, ∀ y ∈ jx M k v, y.1 = k \/ ∃ x ∈ M, x.1 = y.1
 | [], y, h => by rw [List.mem_singleton.1 h]; exact .inl rfl
 | x :: M, y, h => by
  unfold jx at h
  split at h
  ·rcases List.mem_cons.1 h with rfl | h
   ·exact .inl rfl
   ·exact .inr ⟨y, List.mem_cons_of_mem _ h, rfl⟩
  ·rcases List.mem_cons.1 h with rfl | h
   ·exact .inr ⟨y, List.mem_cons_self, rfl⟩
   ·rcases rB y h with h | ⟨z, h1, h2⟩
    ·exact .inl h
    ·exact .inr ⟨z, List.mem_cons_of_mem _ h1, h2⟩
theorem uD {k k' : List Nat} {v : AV} : ∀ {M : List Te}, (∀ y ∈ jx M k v, y.1 ≠ k') -> k ≠ k' /\ ∀ x ∈ M, x.1 ≠ k'
 | [], h => ⟨h (k, v) (by simp [jx]), fun x hx => by simp at hx⟩
 | x :: M, h => by
  unfold jx at h
  split at h
  ·rename_i e
   refine ⟨h (k, v) List.mem_cons_self, fun y hy => ?_⟩
   rcases List.mem_cons.1 hy with rfl | hy
   ·rw [e]; exact h (k, v) List.mem_cons_self
   ·exact h y (List.mem_cons_of_mem _ hy)
  ·obtain ⟨h1, h2⟩ := uD fun y hy => h y (List.mem_cons_of_mem _ hy)
   refine ⟨h1, fun y hy => ?_⟩
   rcases List.mem_cons.1 hy with rfl | hy
   ·exact h y List.mem_cons_self
   ·exact h2 y hy
theorem MK.get {O : List PI} {k : List Nat} : ∀ {M : List Te} {D : ak}, MK O M D -> ((∀ x ∈ M, x.1 ≠ k) -> dQ O k = []) -> ∃ A hp B, D = A ++ (hp ++ B) /\ OwnE 1 (cA (dQ O k)) (dQ O k).length (ni M k) hp /\
  ∀ (O' : List PI) (v' : AV) (hp' : ak), (∀ y, y ≠ k -> dQ O' y = dQ O y) -> OwnE 1 (cA (dQ O' k)) (dQ O' k).length v' hp' -> MK O' (jx M k v') (A ++ (hp' ++ B))
 | [], D, h, g => by
  have h : D = [] := h
  subst h
  have e := g fun x hx => by simp at hx
  refine ⟨[], [], [], rfl, by rw [e]; exact OwnE.nil 1, fun O' v' hp' _ h2 => ?_⟩
  exact ⟨fun y hy => by simp at hy, hp', [], h2, by simp, rfl⟩
 | x :: M, D, ⟨h0, hp, D', h1, h2, h3⟩, g => by
  by_cases e : x.1 = k
  ·refine ⟨[], hp, D', h2, by rw [<- e]; have e2 : ni (x :: M) x.1 = x.2 := if_pos rfl; rw [e2]; exact h1, fun O' v' hp' k1 k2 => ?_⟩
   have e3 : jx (x :: M) k v' = (k, v') :: M := if_pos e
   rw [e3]
   exact ⟨fun y hy => by rw [<- e]; exact h0 y hy, hp', D', k2, rfl, MK.turn (fun y hy => k1 _ (by rw [<- e]; exact h0 y hy)) h3⟩
  ·obtain ⟨A, hq, B, g1, g2, g3⟩ := MK.get (k := k) h3 fun q => g fun y hy => by
    rcases List.mem_cons.1 hy with rfl | hy
    ·exact e
    ·exact q y hy
   have e2 : ni (x :: M) k = ni M k := if_neg e
   refine ⟨hp ++ A, hq, B, by rw [h2, g1, List.append_assoc], by rw [e2]; exact g2, fun O' v' hp' k1 k2 => ?_⟩
   have e3 : jx (x :: M) k v' = x :: jx M k v' := if_neg e
   rw [e3]
   refine ⟨fun y hy => ?_, hp, A ++ (hp' ++ B), by rw [k1 _ e]; exact h1, by rw [List.append_assoc], g3 O' v' hp' k1 k2⟩
   rcases rB y hy with q | ⟨z, z1, z2⟩
   ·rw [q]; exact fun q => e q.symm
   ·rw [<- z2]; exact h0 z z1
structure ShM (O : List PI) (M : List Te) (D : ak) : Prop where
 ents : MK O M D
 cov : ∀ k, (∀ x ∈ M, x.1 ≠ k) -> dQ O k = []
theorem ShM.zero : ShM [] [] [] := ⟨rfl, fun _ _ => rfl⟩
theorem ShM.get {O : List PI} {M : List Te} {D : ak} (h : ShM O M D) (k : List Nat) : ∃ A hp B, D = A ++ (hp ++ B) /\ OwnE 1 (cA (dQ O k)) (dQ O k).length (ni M k) hp /\
  ∀ (y : PI) (v' : AV) (hp' : ak), gA y = k -> OwnE 1 (cA (dQ O k) ++ [.int .i64 ((O.length : Nat) : Int)]) ((dQ O k).length + 1) v' hp' -> ShM (O ++ [y]) (jx M k v') (A ++ (hp' ++ B)) := by
 obtain ⟨A, hp, B, h1, h2, h3⟩ := MK.get h.ents (h.cov k)
 refine ⟨A, hp, B, h1, h2, fun y v' hp' hk hO => ⟨h3 (O ++ [y]) v' hp' (fun z hz => ?_) ?_, fun z hz => ?_⟩⟩
 ·rw [nB, if_neg (fun q => hz (by rw [<- q, hk])), List.append_nil]
 ·rw [nB, if_pos hk, cA, List.map_append, List.length_append]
  exact hO
 ·obtain ⟨g1, g2⟩ := uD hz
  rw [nB, h.cov z g2, if_neg (fun q => g1 (by rw [<- q, hk]))]; rfl
theorem yu : ∀ {A : List Int}, (∀ a ∈ A, DF a) -> lz (cA A) = some A
 | [], _ => rfl
 | a :: A, h => by
  show (match decide (-9223372036854775808 <= a /\ a <= 9223372036854775807), lz (cA A) with
   | true, some m => some (a :: m)
   | _, _ => none) = _
  rw [decide_eq_true (show -9223372036854775808 <= a /\ a <= 9223372036854775807 from h a List.mem_cons_self), yu fun b hb => h b (List.mem_cons_of_mem _ hb)]
theorem B9 {hs : ak} {d : ND} {A : List Int} {vm vn va : AV} (ha : RIn hs 1 A.length (cA A) va) (hl : A.length <= 1048576) (hi : ∀ n ∈ A, DF n) (hk : lN d) : Spec aN 44 [.agg (d.c vm vn .nils ++ [va])] [] hs (fJ (.str (gA (d, A)))) := by
 refine tz fun h hh => ?_
 have h0 : aN.orc 44 [.agg (d.c vm vn .nils ++ [va])] h = (match Nat.ble d.op.length 1048576 && decide (-9223372036854775808 <= d.kd /\ d.kd <= 9223372036854775807) with
  | true => B6 d.kd d.op h va
  | false => none) := rfl
 rw [h0, Nat.ble_eq.mpr hk.1, decide_eq_true (show -9223372036854775808 <= d.kd /\ d.kd <= 9223372036854775807 from hk.2)]
 show B6 d.kd d.op h va = some (.str (vY d.kd d.op A))
 rcases ha with ⟨h1, h2, h3⟩ | ⟨b, z, ex, h1, ⟨w, h2⟩, h3⟩
 ·subst h1
  rw [List.length_eq_zero_iff.1 h2]; rfl
 ·subst h1
  have e1 := hh _ h2
  simp only at e1
  have e2 : Nat.ble A.length 1048576 = true := Nat.ble_eq.mpr hl
  have e3 : cn (cA A) 0 A.length = some (cA A) := ld (by simpa using h3)
  unfold B6
  simp only [e1, e2, e3, yu hi]
set_option maxRecDepth 100000
set_option maxHeartbeats 1000000
theorem B4 (hs : ak) (hro : ∀ e ∈ hs, e.w = false) (A : List Int) (va : AV) (hA : RIn hs 1 A.length (cA A) va) (hAl : A.length <= 1048576) (F : Nat) (caps : List AV) (p : Nat -> Bool) (hC : ∀ j, j < A.length -> Spec aN F (.int .i64 (ai A j) :: caps) [] hs (fJ (.bool (p j)))) : Spec aN 45 [va, .func F caps] [] hs (eQ (fun u => ∃ r : Int, u = .int .i64 r /\ ((r = -1 /\ ∀ q, q < A.length -> p q = false) \/ ∃ j : Nat, r = ((j : Nat) : Int) /\ j < A.length /\ p j = true /\ ∀ q, q < j -> p q = false))) := by
 refine av (cX 45 Tryz.func45) rfl (m := 19) rfl (rs := [.tmp 4]) rfl (st := [(0, va), (1, .func F caps)]) rfl rfl (fun _ => rfl) (fun E => zr (za (zi 0) (zk (W.seq (zr (zm rfl (zq (Q.len bc rfl hA.len) (zq (Q.move (zi 0)) (zk (W.block (aM (fun (j : Nat) => [(0, va), (1, .func F caps), (7, .int .i64 ((A.length : Nat) : Int)), (8, .int .i64 ((j : Nat) : Int))]) (fun _ => _) (fun (j : Nat) => j <= A.length /\ ∀ q, q < j -> p q = false) (fun (j : Nat) => A.length - j) (0) ⟨Nat.zero_le _, fun j h => by omega⟩ zv (SubH.refl _) (fun j hI0 ih0 => ?_))))))))))))
 obtain ⟨hi, hno⟩ := hI0
 refine zr (zq (aa rfl rfl rfl (ec dM)) (zk (W.seq (aw rfl (fun hc9 => ?_) (fun hc9 => ?_)))))
 ·obtain ⟨ba, sza, exa, rfl, wa, ma⟩ := hA.full zy
  refine zw (W.seq (W.block (zr (zm rfl (za rfl (zk (zr (zm rfl (zm rfl (zm rfl (zq (ci bc di rfl rfl zo) (zq (ap rfl ma bU (o6 zo)) (aJ rfl (aD rfl oz) rfl (hC j zy) (cw hro) rfl (zk (aE rfl (fun hc16 => ?_) (fun hc16 => ?_))))))))))))))))
  ·refine zr (zm rfl (za rfl (zk (W.sub (zc 4 rfl aI) (W.ret (ad (ac (bE (ad (ac (af (z1 rfl) ?_)))))))))))
   exact ⟨_, rfl, .inr ⟨j, rfl, by omega, by simpa using hc16, hno⟩⟩
  refine W.skip (End.KB (End.K (am (zq (aa rfl (zi 1) rfl zp) (zm rfl (WO.nil (End.KL (W.sub zv (ih0 (j + 1) ?_ ?_)))))))))
  ·exact ⟨by omega, fun q h => by rcases Nat.lt_or_ge q j with g | g; exact hno q g; obtain rfl : q = j := zy; simpa using hc16⟩
  exact zo
 refine W.exit (aC (aK (aB (End.K (zr (za rfl (zk (W.ret (af (z1 rfl) ?_)))))))))
 exact ⟨_, rfl, .inl ⟨rfl, fun q h => hno q zy⟩⟩

theorem C3 (hs : ak) (hro : ∀ e ∈ hs, e.w = false) (X : List IE) (u : AV) (hX : IIn hs X u) (hXb : ILB X) (hXk : ∀ x ∈ X, x.nk = 0) (bo bx : Nat) (mo : MemH hs bo ⟨1, true, [u]⟩) (d : ND) (vm vn va : AV) (mx : MemH hs bx ⟨12, true, d.c vm vn .nils ++ [va]⟩)
 (hm : RIn hs 3 d.ms.length (cM d.ms) vm) (hn : RIn hs 1 d.nm.length (cS d.nm) vn) (hd : d.bd) (hva : va.isCell = true) (k : Nat) (hk : k < X.length) : Spec aN 46 [.int .i64 ((k : Nat) : Int), .ptr bo 0, .ptr bx 0] [] hs (fJ (.bool (decide ((ei X k).d = d)))) := by
 obtain ⟨bv, szv, exv, rfl, wv, mv⟩ := hX.1.full zy
 obtain ⟨wo_, mo⟩ := mo
 obtain ⟨wx_, mx⟩ := mx
 refine av (cX 46 Tryz.func46) rfl (m := 13) rfl (rs := [.tmp 4]) rfl (st := [(0, .int .i64 ((k : Nat) : Int)), (1, .ptr bo 0), (2, .ptr bx 0)]) rfl rfl (fun _ => rfl) (fun E => zr (za rfl (zk (W.seq (dz (by kernel_rfl) (zq (ap rfl mo tF rfl) (zm rfl (zq (ci dO eK rfl rfl zo) (zq (Q.fieldAddr fB rfl rfl) (zq (aU rfl mv bh aL (H1 hk)) (zf fB rfl 0 (zq (zL rfl mx bh aL rfl) (aJ rfl (aD rfl (aD rfl oz)) rfl (wF hs hro (ei X k).d d _ _ _ _ _ _ (hX.at hk).m (hX.at hk).n (hXk _ (jd hk) ▸ (hX.at hk).k) (hXb.at hk).d hm hn (.inl ⟨rfl, rfl⟩) hd) (cw hro) rfl (za rfl (zk (W.ret (ae (z1 rfl) ?_)))))))))))))))))
 rfl
noncomputable section
def GZ (ops : List Oper) (ord : List Nat) (p q : Nat) : Bool := ((aO ops []).getD (ord.getD p 0) 0).testBit (ord.getD q 0)
def yD (l : List Oper) (p : Nat) : Bool := match l[p]? with
 | some o => cO o.op
 | none => false
def yo (l : List Oper) (p : Nat) : Bool := match l[p]? with
 | some o => cO o.op && !(fq o.op)
 | none => false
def kC (ops : List Oper) (ord : List Nat) : List Oper := ord.filterMap fun i => ops[i]?
section
variable {tb : Tab} {n : Nat} {E : Env} {s : St} {hs : ak} {R : T AV -> AHeap -> Prop} {ops l rest : List Oper} {d : Nat} {ty : TypeId} {pos : String} {aft : Array Edge} {t : TypeId} {m i base : Nat} {h0 : AHeap}
theorem kS {o : Oper} (h : l.drop i = o :: rest) : l[i]? = some o /\ l.drop (i + 1) = rest := by
 refine ⟨?_, ?_⟩
 ·have : (l.drop i)[0]? = some o := by rw [h]; rfl
  rwa [List.getElem?_drop, Nat.add_zero] at this
 ·rw [<- List.drop_drop, h]; rfl
theorem Ez {tm : T AV} {h : AHeap} {op : Op} {r : Option AV} {call : qN} (e : d6 tb call tm h op = .q r) : fq op = false := by
 cases op <;> first | rfl | (simp [d6] at e)
end
end
end Go.Proofs.YtndhhgbpcmfeiaaGreatDoor.Ev
