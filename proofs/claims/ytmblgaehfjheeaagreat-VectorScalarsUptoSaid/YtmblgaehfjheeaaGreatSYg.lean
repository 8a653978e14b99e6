/- Walks over the evaluator: maps. -/
import Derived.Test.YtmblgaehfjheeaaGreatSYf
namespace Go.Proofs.YtmblgaehfjheeaaGreat.Ev
open Go.RowKit
set_option linter.unusedVariables false
set_option linter.unusedSimpArgs false
section
variable {tb : Tab} {n : Nat} {E : Env} {s : St} {hs : HSt} {R : T AV → AHeap → Prop} {ops rest : List Oper} {d : Nat} {t : TypeId} {ty : TypeId} {pos : String} {aft : Array Edge}
theorem WO.makeMap {kt et : Nat} (hu : mapTypes (tb.und t) = some (kt, et)) (hd : Nat.blt d n = true) (hk : ∀ b, WO tb n ops rest E ((d, .map b) :: s) (⟨b, ⟨0, true, []⟩, true⟩ :: hs) R) :
    WO tb n ops (⟨some d, .makeMap t none, ty, pos, aft, none⟩ :: rest) E s hs R := by
  refine WO.l (s' := s) fun tm h ht hh => ?_
  refine ⟨.map h.next, ⟨h.next + 1, h.objs.set h.next ⟨0, true, []⟩⟩, tm.set d (.map h.next), ?_, putDst_at hd, hk h.next _ _ (ht.set d _) (hh.new _)⟩
  show Res.l (evMakeMap tb tm h t none) = _
  unfold evMakeMap
  simp only [hu]
/-- An entry that is there. -/
theorem WO.entryS {ox ok : Operand} {kt et i b cnt j : Nat} {ex : Bool} {cells : List AV} {k z v m : AV} (hu : mapTypes (tb.und t) = some (kt, et)) (hx : oL s ox = some (.map b)) (hy : oL s ok = some k) (hi : hs[i]? = some ⟨b, ⟨cnt, ex, cells⟩, true⟩)
    (hkey : keyOk tb (tb.und kt) k = true) (hz : tb.zero et = some z) (hf : findM (eqIn tb 20 kt) k cells 0 = some (some j)) (h0 : cells[3 * j]? = some k) (hb : k.beq k = true) (h1 : cells[3 * j + 1]? = some v) (h2 : cells[3 * j + 2]? = some m) (hd : Nat.blt d n = true)
    (hk : WO tb n ops rest E ((d, .tuple [v, m]) :: s) hs R) : WO tb n ops (⟨some d, .mapEntry t ox ok, ty, pos, aft, none⟩ :: rest) E s hs R := by
  refine WO.l (s' := s) fun tm h ht hh => ?_
  have hob := (hh.at_ _ (mem_at hi)).1
  simp only at hob
  refine ⟨.tuple [v, m], h, tm.set d (.tuple [v, m]), ?_, putDst_at hd, hk _ _ (ht.set d _) hh⟩
  show Res.l (evMapEntry tb tm h t ox ok) = _
  unfold evMapEntry
  simp only [hu, oL_ok ht hx, oL_ok ht hy, hkey, hob, hz, hf]
  unfold entryA
  simp only [h0, h1, h2, hb]
/-- An entry that is new. -/
theorem WO.entryN {ox ok : Operand} {kt et i b cnt : Nat} {ex : Bool} {cells : List AV} {k z : AV} {hs' : HSt} (hu : mapTypes (tb.und t) = some (kt, et)) (hx : oL s ox = some (.map b)) (hy : oL s ok = some k) (hi : hs[i]? = some ⟨b, ⟨cnt, ex, cells⟩, true⟩)
    (hkey : keyOk tb (tb.und kt) k = true) (hz : tb.zero et = some z) (hf : findM (eqIn tb 20 kt) k cells 0 = some none) {cs : List AV} (hc : cells ++ [k, z, .int .i64 ((cnt : Nat) : Int)] = cs) (hs_ : hs.set i ⟨b, ⟨cnt + 1, ex, cs⟩, true⟩ = hs') (hd : Nat.blt d n = true)
    (hk : WO tb n ops rest E ((d, .tuple [z, .int .i64 ((cnt : Nat) : Int)]) :: s) hs' R) : WO tb n ops (⟨some d, .mapEntry t ox ok, ty, pos, aft, none⟩ :: rest) E s hs R := by
  refine WO.l (s' := s) fun tm h ht hh => ?_
  have hob := (hh.at_ _ (mem_at hi)).1
  simp only at hob
  subst hs_ hc
  refine ⟨.tuple [z, .int .i64 ((cnt : Nat) : Int)], ⟨h.next, h.objs.set b ⟨cnt + 1, ex, cells ++ [k, z, .int .i64 ((cnt : Nat) : Int)]⟩⟩, tm.set d (.tuple [z, .int .i64 ((cnt : Nat) : Int)]), ?_, putDst_at hd, hk _ _ (ht.set d _) (hh.put hi)⟩
  show Res.l (evMapEntry tb tm h t ox ok) = _
  unfold evMapEntry
  simp only [hu, oL_ok ht hx, oL_ok ht hy, hkey, hob, hz, hf]
  rfl
theorem WO.entryPut {om os oy : Operand} {i b cnt j : Nat} {ex : Bool} {kd : IntKind} {m : Int} {cells cs : List AV} {v : AV} {hs' : HSt} (hx : oL s om = some (.map b)) (hm : oL s os = some (.int kd m)) (hy : oL s oy = some v) (hi : hs[i]? = some ⟨b, ⟨cnt, ex, cells⟩, true⟩)
    (hf : findB m cells 0 = some j) (hl : layL cells (3 * j + 1) [v] = cs) (hs_ : hs.set i ⟨b, ⟨cnt, ex, cs⟩, true⟩ = hs') (hk : WO tb n ops rest E s hs' R) :
    WO tb n ops (⟨none, .entryStore t om os oy, ty, pos, aft, none⟩ :: rest) E s hs R := by
  refine WO.l (s' := s) fun tm h ht hh => ?_
  have hob := (hh.at_ _ (mem_at hi)).1
  simp only at hob
  subst hs_
  refine ⟨.tuple [], ⟨h.next, h.objs.set b ⟨cnt, ex, cs⟩⟩, tm, ?_, rfl, hk _ _ ht (hh.put hi)⟩
  show Res.l (evEntryStore tm h om os oy) = _
  unfold evEntryStore
  simp only [oL_ok ht hx, oL_ok ht hm, oL_ok ht hy, hob, hf, hl]
variable {keep : HSt} {q p : Nat}
theorem WD.entryS {ox ok : Operand} {kt et i b cnt j : Nat} {ex : Bool} {cells : List AV} {k z v m : AV} (hu : mapTypes (tb.und t) = some (kt, et)) (hx : oL s ox = some (.map b)) (hy : oL s ok = some k) (hi : hs[i]? = some ⟨b, ⟨cnt, ex, cells⟩, true⟩)
    (hkey : keyOk tb (tb.und kt) k = true) (hz : tb.zero et = some z) (hf : findM (eqIn tb 20 kt) k cells 0 = some (some j)) (h0 : cells[3 * j]? = some k) (hb : k.beq k = true) (h1 : cells[3 * j + 1]? = some v) (h2 : cells[3 * j + 2]? = some m) (hd : Nat.blt d n = true) (hkp : KIn keep hs)
    (hk : WD tb n ops keep q (p + 1) rest E ((d, .tuple [v, m]) :: s) hs R) : WD tb n ops keep q p (⟨some d, .mapEntry t ox ok, ty, pos, aft, none⟩ :: rest) E s hs R :=
  WD.l (C := fun v' hs' => v' = .tuple [v, m] ∧ hs' = hs) (fun tm h r e => by cases e) (fun R hR => WO.entryS hu hx hy hi hkey hz hf h0 hb h1 h2 hd (WO.nil (hR _ _ ⟨rfl, rfl⟩)))
    (fun v' hs' ⟨_, h2⟩ _ => by subst h2; exact hkp) (fun v' hs' ⟨h1, h2⟩ => by subst h1 h2; exact hk)
theorem WD.entryN {ox ok : Operand} {kt et i b cnt : Nat} {ex : Bool} {cells : List AV} {k z : AV} {hs' : HSt} (hu : mapTypes (tb.und t) = some (kt, et)) (hx : oL s ox = some (.map b)) (hy : oL s ok = some k) (hi : hs[i]? = some ⟨b, ⟨cnt, ex, cells⟩, true⟩)
    (hkey : keyOk tb (tb.und kt) k = true) (hz : tb.zero et = some z) (hf : findM (eqIn tb 20 kt) k cells 0 = some none) {cs : List AV} (hc : cells ++ [k, z, .int .i64 ((cnt : Nat) : Int)] = cs) (hs_ : hs.set i ⟨b, ⟨cnt + 1, ex, cs⟩, true⟩ = hs') (hd : Nat.blt d n = true) (hkp : KIn keep hs')
    (hk : WD tb n ops keep q (p + 1) rest E ((d, .tuple [z, .int .i64 ((cnt : Nat) : Int)]) :: s) hs' R) : WD tb n ops keep q p (⟨some d, .mapEntry t ox ok, ty, pos, aft, none⟩ :: rest) E s hs R :=
  WD.l (C := fun v' hs1 => v' = .tuple [z, .int .i64 ((cnt : Nat) : Int)] ∧ hs1 = hs') (fun tm h r e => by cases e) (fun R hR => WO.entryN hu hx hy hi hkey hz hf hc hs_ hd (WO.nil (hR _ _ ⟨rfl, rfl⟩)))
    (fun v' hs1 ⟨_, h2⟩ _ => by subst h2; exact hkp) (fun v' hs1 ⟨h1, h2⟩ => by subst h1 h2; exact hk)
theorem WD.entryPut {om os oy : Operand} {i b cnt j : Nat} {ex : Bool} {kd : IntKind} {m : Int} {cells cs : List AV} {v : AV} {hs' : HSt} (hx : oL s om = some (.map b)) (hm : oL s os = some (.int kd m)) (hy : oL s oy = some v) (hi : hs[i]? = some ⟨b, ⟨cnt, ex, cells⟩, true⟩)
    (hf : findB m cells 0 = some j) (hl : layL cells (3 * j + 1) [v] = cs) (hs_ : hs.set i ⟨b, ⟨cnt, ex, cs⟩, true⟩ = hs') (hkp : Nat.ble (p + 1) q = true → KIn keep hs') (hk : WD tb n ops keep q (p + 1) rest E s hs' R) :
    WD tb n ops keep q p (⟨none, .entryStore t om os oy, ty, pos, aft, none⟩ :: rest) E s hs R := by
  intro tm h ht hh hkp0
  subst hs_
  have hob := (hh.at_ _ (mem_at hi)).1
  simp only at hob
  have hH := hh.put (ob' := ⟨cnt, ex, cs⟩) hi
  refine wd_step (v := .tuple []) (k := 2) (h1 := ⟨h.next, h.objs.set b ⟨cnt, ex, cs⟩⟩) (tm1 := tm) ?_ rfl (fun h => by cases h) (fun _ hm => (hkp (Nat.ble_eq.mpr hm)).keepIn hH) (hk tm _ ht hH (fun hm => (hkp (Nat.ble_eq.mpr hm)).keepIn hH))
  unfold ev1
  have : wantedA ops tm ⟨none, .entryStore t om os oy, ty, pos, aft, none⟩ = some true := rfl
  rw [this]
  have he : evOp tb (callOf (Ev.callE tb)) tm h (.entryStore t om os oy) = .l (some (.tuple [], ⟨h.next, h.objs.set b ⟨cnt, ex, cs⟩⟩)) := by
    show Res.l (evEntryStore tm h om os oy) = _
    unfold evEntryStore
    simp only [oL_ok ht hx, oL_ok ht hm, oL_ok ht hy, hob, hf, hl]
  simp only [he]
end
/-- Entries: key (two texts) and value; each has its place for a number. -/
abbrev Me := Lab × AV
def kA (k : Lab) : AV := .agg [.str k.1, .str k.2]
def mapC : Nat → List Me → List AV
  | _, [] => []
  | i, x :: M => kA x.1 :: x.2 :: .int .i64 ((i : Nat) : Int) :: mapC (i + 1) M
theorem mapC_append : ∀ (M N : List Me) (i : Nat), mapC i (M ++ N) = mapC i M ++ mapC (i + M.length) N
  | [], N, i => rfl
  | x :: M, N, i => by
    simp only [List.cons_append, mapC, mapC_append M N, List.length_cons]
    rw [show i + 1 + M.length = i + (M.length + 1) by omega]
theorem mapC_push (M : List Me) (k : Lab) (z : AV) : mapC 0 M ++ [kA k, z, .int .i64 ((M.length : Nat) : Int)] = mapC 0 (M ++ [(k, z)]) := by
  rw [mapC_append, Nat.zero_add]; rfl
theorem mapC_get : ∀ (M : List Me) (i j : Nat) (x : Me), M[j]? = some x → (mapC i M)[3 * j]? = some (kA x.1) ∧ (mapC i M)[3 * j + 1]? = some x.2 ∧ (mapC i M)[3 * j + 2]? = some (.int .i64 ((i + j : Nat) : Int))
  | [], i, j, x, h => by simp at h
  | y :: M, i, 0, x, h => by simp at h; subst h; exact ⟨rfl, rfl, rfl⟩
  | y :: M, i, j + 1, x, h => by
    obtain ⟨h1, h2, h3⟩ := mapC_get M (i + 1) j x (by simpa using h)
    have e : i + 1 + j = i + (j + 1) := by omega
    rw [e] at h3
    have e1 : 3 * (j + 1) = 3 * j + 1 + 1 + 1 := by omega
    rw [e1]
    exact ⟨h1, h2, h3⟩
theorem mapC_set : ∀ (M : List Me) (i j : Nat) (x : Me) (v : AV), M[j]? = some x → layL (mapC i M) (3 * j + 1) [v] = mapC i (M.set j (x.1, v))
  | [], i, j, x, v, h => by simp at h
  | y :: M, i, 0, x, v, h => by
    simp at h
    subst h
    show kA y.1 :: layL (y.2 :: _) 0 [v] = _
    simp [layL, mapC]
  | y :: M, i, j + 1, x, v, h => by
    have ih := mapC_set M (i + 1) j x v (by simpa using h)
    have e1 : 3 * (j + 1) + 1 = (3 * j + 1) + 1 + 1 + 1 := by omega
    rw [e1]
    simp only [mapC, layL, List.set_cons_succ, ih]
theorem mapC_findB : ∀ (M : List Me) (i j c : Nat), j < M.length → findB ((i + j : Nat) : Int) (mapC i M) c = some (c + j)
  | [], i, j, c, h => by simp at h
  | y :: M, i, 0, c, h => by
    show (match eqA ((i : Nat) : Int) ((i + 0 : Nat) : Int) with | true => some c | false => _) = _
    rw [eq_nat]
    simp
  | y :: M, i, j + 1, c, h => by
    show (match eqA ((i : Nat) : Int) ((i + (j + 1) : Nat) : Int) with | true => some c | false => findB _ (mapC (i + 1) M) (c + 1)) = _
    rw [eq_nat]
    have h1 : decide (i = i + (j + 1)) = false := decide_eq_false (by omega)
    simp only [h1]
    have ih := mapC_findB M (i + 1) j (c + 1) (by simpa using h)
    have e : i + 1 + j = i + (j + 1) := by omega
    rw [e] at ih
    rw [ih]
    congr 1
    omega
theorem key_eq {tb : Tab} {kt e : Nat} (hu : tb.und kt = some (.array 2 e)) (hz : tb.size e = some 1) (hs : tb.und e = some .string) (ha : tb.isAgg e = some false) (x y : Lab) : eqIn tb 20 kt (kA x) (kA y) = some (decide (x = y)) := by
  obtain ⟨a, b⟩ := x
  obtain ⟨c, d⟩ := y
  unfold kA eqIn
  simp only [hu, hz]
  have h1 : ∀ u v : List Nat, eqIn tb 19 e (.str u) (.str v) = some (listBeq u v) := by
    intro u v
    unfold eqIn
    simp only [hs]
  unfold eqElemsA
  simp only [partA, ha, Nat.zero_mul, List.getElem?_cons_zero, h1, eq_str]
  by_cases e1 : a = c
  · subst e1
    simp only [decide_true]
    unfold eqElemsA
    simp only [partA, ha, Nat.zero_add, Nat.one_mul, List.getElem?_cons_succ, List.getElem?_cons_zero, h1, eq_str]
    by_cases e2 : b = d
    · subst e2; simp [eqElemsA]
    · simp [e2]
  · simp [e1]
/-- Where a key stands. -/
theorem map_find {eq : AV → AV → Option Bool} (heq : ∀ x y : Lab, eq (kA x) (kA y) = some (decide (x = y))) (k : Lab) : ∀ (M : List Me) (i c : Nat),
    (findM eq (kA k) (mapC i M) c = some none ∧ ∀ x ∈ M, x.1 ≠ k) ∨ ∃ j v, M[j]? = some (k, v) ∧ findM eq (kA k) (mapC i M) c = some (some (c + j))
  | [], i, c => .inl ⟨rfl, fun x h => by simp at h⟩
  | y :: M, i, c => by
    by_cases e : k = y.1
    · refine .inr ⟨0, y.2, by rw [e]; rfl, ?_⟩
      show (match eq (kA k) (kA y.1) with | some true => some (some c) | some false => _ | none => none) = _
      rw [heq, decide_eq_true e]; rfl
    · have h0 : findM eq (kA k) (mapC i (y :: M)) c = findM eq (kA k) (mapC (i + 1) M) (c + 1) := by
        show (match eq (kA k) (kA y.1) with | some true => some (some c) | some false => findM eq (kA k) (mapC (i + 1) M) (c + 1) | none => none) = _
        rw [heq, decide_eq_false e]
      rw [h0]
      rcases map_find heq k M (i + 1) (c + 1) with ⟨h1, h2⟩ | ⟨j, v, h1, h2⟩
      · refine .inl ⟨h1, fun x hx => ?_⟩
        rcases List.mem_cons.1 hx with rfl | hx
        · exact fun g => e g.symm
        · exact h2 x hx
      · refine .inr ⟨j + 1, v, by simpa using h1, ?_⟩
        rw [h2]
        congr 2
        omega
theorem map_new {M : List Me} {k : Lab} {z v : AV} : layL (mapC 0 (M ++ [(k, z)])) (3 * M.length + 1) [v] = mapC 0 (M ++ [(k, v)]) := by
  rw [mapC_set (M ++ [(k, z)]) 0 M.length (k, z) v (by simp)]
  congr 1
  simp
theorem map_newB {M : List Me} {k : Lab} {z : AV} : findB ((M.length : Nat) : Int) (mapC 0 (M ++ [(k, z)])) 0 = some M.length := by
  have := mapC_findB (M ++ [(k, z)]) 0 M.length 0 (by simp)
  simpa using this
theorem map_oldB {M : List Me} {j : Nat} {x : Me} (h : M[j]? = some x) : findB ((0 + j : Nat) : Int) (mapC 0 M) 0 = some j := by
  have := mapC_findB M 0 j 0 (List.getElem?_eq_some_iff.1 h).1
  simpa using this
/-- Entries whose values are lists of one's own. -/
def MB (c : Nat) : List Me → HSt → Prop
  | [], D => D = []
  | x :: M, D => ∃ cs len hp D', OwnE 1 cs len x.2 hp ∧ len ≤ c ∧ D = hp ++ D' ∧ MB c M D'
theorem MB.mono {c c' : Nat} (hc : c ≤ c') : ∀ {M : List Me} {D : HSt}, MB c M D → MB c' M D
  | [], D, h => h
  | x :: M, D, ⟨cs, len, hp, D', h1, h2, h3, h4⟩ => ⟨cs, len, hp, D', h1, by omega, h3, MB.mono hc h4⟩
theorem MB.at {c : Nat} : ∀ {M : List Me} {D : HSt} {j : Nat} {x : Me}, MB c M D → M[j]? = some x → ∃ A cs len hp B, D = A ++ (hp ++ B) ∧ OwnE 1 cs len x.2 hp ∧ len ≤ c ∧
    ∀ c' v' cs' len' hp', c ≤ c' → OwnE 1 cs' len' v' hp' → len' ≤ c' → MB c' (M.set j (x.1, v')) (A ++ (hp' ++ B))
  | [], D, j, x, _, h => by simp at h
  | y :: M, D, 0, x, ⟨cs, len, hp, D', h1, h2, h3, h4⟩, h => by
    simp at h
    subst h
    exact ⟨[], cs, len, hp, D', h3, h1, h2, fun c' v' cs' len' hp' g1 g2 g3 => ⟨cs', len', hp', D', g2, g3, rfl, h4.mono g1⟩⟩
  | y :: M, D, j + 1, x, ⟨cs, len, hp, D', h1, h2, h3, h4⟩, h => by
    obtain ⟨A, cs1, len1, hp1, B, g1, g2, g3, g4⟩ := MB.at h4 (by simpa using h)
    refine ⟨hp ++ A, cs1, len1, hp1, B, by rw [h3, g1, List.append_assoc], g2, g3, fun c' v' cs' len' hp' k1 k2 k3 => ?_⟩
    exact ⟨cs, len, hp, A ++ (hp' ++ B), h1, by omega, by rw [List.append_assoc], g4 c' v' cs' len' hp' k1 k2 k3⟩
theorem MB.push {c c' : Nat} {k : Lab} {v : AV} {cs : List AV} {len : Nat} {hp : HSt} (hc : c ≤ c') (hO : OwnE 1 cs len v hp) (hl : len ≤ c') : ∀ {M : List Me} {D : HSt}, MB c M D → MB c' (M ++ [(k, v)]) (D ++ hp)
  | [], D, h => by
    have h : D = [] := h
    subst h
    exact ⟨cs, len, hp, [], hO, hl, by simp, rfl⟩
  | x :: M, D, ⟨cs1, len1, hp1, D', h1, h2, h3, h4⟩ => ⟨cs1, len1, hp1, D' ++ hp, h1, by omega, by rw [h3, List.append_assoc], MB.push hc hO hl h4⟩
theorem kA_beq (k : Lab) : (kA k).beq (kA k) = true := by unfold kA; simp [AV.beq, beq1, beq0, beqL]
end Go.Proofs.YtmblgaehfjheeaaGreat.Ev
