/- Walks over the evaluator: maps. -/
import Derived.Test.YtmblgaehfjheeaaGreatGYf
namespace Go.Proofs.YtmblgaehfjheeaaGreat.Ev
open Go.RowKit
set_option linter.unusedVariables false
set_option linter.unusedSimpArgs false
section
variable {tb : Tab} {n : Nat} {E : Env} {s : St} {hs : HSt} {R : T AV → AHeap → Prop} {ops rest : List Oper} {d : Nat} {t : TypeId} {ty : TypeId} {pos : String} {aft : Array Edge}
theorem WO.makeMap {kt et : Nat} (hu : mapTypes (tb.und t) = some (kt, et)) (hd : Nat.blt d n = true) (hk : ∀ b, WO tb n ops rest E ((d, .map b) :: s) (⟨b, ⟨0, true, []⟩, true⟩ :: hs) R) :
  WO tb n ops (⟨some d, .makeMap t none, ty, pos, aft, none⟩ :: rest) E s hs R := by
 refine WO.l (s' := s) fun tm h ht hh => ?_
 refine ⟨.map h.next, ⟨h.next + 1, h.objs.set h.next ⟨0, true, []⟩⟩, tm.set d (.map h.next), ?_, putDst_at hd, hk h.next _ _ (ht.set d _) (hh.new _)⟩
 show Res.l (evMakeMap tb tm h t none) = _
 unfold evMakeMap
 simp only [hu]
theorem WO.entryS {ox ok : Operand} {kt et i b cnt j : Nat} {ex : Bool} {cells : List AV} {k z v m : AV} (hu : mapTypes (tb.und t) = some (kt, et)) (hx : oL s ox = some (.map b)) (hy : oL s ok = some k) (hi : hs[i]? = some ⟨b, ⟨cnt, ex, cells⟩, true⟩)
  (hkey : keyOk tb (tb.und kt) k = true) (hz : tb.zero et = some z) (hf : findM (eqIn tb 20 kt) k cells 0 = some (some j)) (h0 : cells[3 * j]? = some k) (hb : k.beq k = true) (h1 : cells[3 * j + 1]? = some v) (h2 : cells[3 * j + 2]? = some m) (hd : Nat.blt d n = true)
  (hk : WO tb n ops rest E ((d, .tuple [v, m]) :: s) hs R) : WO tb n ops (⟨some d, .mapEntry t ox ok, ty, pos, aft, none⟩ :: rest) E s hs R := by
 refine WO.l (s' := s) fun tm h ht hh => ?_
 have hob := (hh.at_ _ (mem_at hi)).1
 simp only at hob
 refine ⟨.tuple [v, m], h, tm.set d (.tuple [v, m]), ?_, putDst_at hd, hk _ _ (ht.set d _) hh⟩
 show Res.l (evMapEntry tb tm h t ox ok) = _
 unfold evMapEntry
 simp only [hu, oL_ok ht hx, oL_ok ht hy, hkey, hob, hz, hf]
 unfold entryA
 simp only [h0, h1, h2, hb]
theorem WO.entryN {ox ok : Operand} {kt et i b cnt : Nat} {ex : Bool} {cells : List AV} {k z : AV} {hs' : HSt} (hu : mapTypes (tb.und t) = some (kt, et)) (hx : oL s ox = some (.map b)) (hy : oL s ok = some k) (hi : hs[i]? = some ⟨b, ⟨cnt, ex, cells⟩, true⟩)
  (hkey : keyOk tb (tb.und kt) k = true) (hz : tb.zero et = some z) (hf : findM (eqIn tb 20 kt) k cells 0 = some none) {cs : List AV} (hc : cells ++ [k, z, .int .i64 ((cnt : Nat) : Int)] = cs) (hs_ : hs.set i ⟨b, ⟨cnt + 1, ex, cs⟩, true⟩ = hs') (hd : Nat.blt d n = true)
  (hk : WO tb n ops rest E ((d, .tuple [z, .int .i64 ((cnt : Nat) : Int)]) :: s) hs' R) : WO tb n ops (⟨some d, .mapEntry t ox ok, ty, pos, aft, none⟩ :: rest) E s hs R := by
 refine WO.l (s' := s) fun tm h ht hh => ?_
 have hob := (hh.at_ _ (mem_at hi)).1
 simp only at hob
 subst hs_ hc
 refine ⟨.tuple [z, .int .i64 ((cnt : Nat) : Int)], ⟨h.next, h.objs.set b ⟨cnt + 1, ex, cells ++ [k, z, .int .i64 ((cnt : Nat) : Int)]⟩⟩, tm.set d (.tuple [z, .int .i64 ((cnt : Nat) : Int)]), ?_, putDst_at hd, hk _ _ (ht.set d _) (hh.put hi)⟩
 show Res.l (evMapEntry tb tm h t ox ok) = _
 unfold evMapEntry
 simp only [hu, oL_ok ht hx, oL_ok ht hy, hkey, hob, hz, hf]
 rfl
variable {keep : HSt} {q p : Nat}
theorem WD.entryS {ox ok : Operand} {kt et i b cnt j : Nat} {ex : Bool} {cells : List AV} {k z v m : AV} (hu : mapTypes (tb.und t) = some (kt, et)) (hx : oL s ox = some (.map b)) (hy : oL s ok = some k) (hi : hs[i]? = some ⟨b, ⟨cnt, ex, cells⟩, true⟩)
  (hkey : keyOk tb (tb.und kt) k = true) (hz : tb.zero et = some z) (hf : findM (eqIn tb 20 kt) k cells 0 = some (some j)) (h0 : cells[3 * j]? = some k) (hb : k.beq k = true) (h1 : cells[3 * j + 1]? = some v) (h2 : cells[3 * j + 2]? = some m) (hd : Nat.blt d n = true) (hkp : KIn keep hs)
  (hk : WD tb n ops keep q (p + 1) rest E ((d, .tuple [v, m]) :: s) hs R) : WD tb n ops keep q p (⟨some d, .mapEntry t ox ok, ty, pos, aft, none⟩ :: rest) E s hs R :=
 WD.l (C := fun v' hs' => v' = .tuple [v, m] ∧ hs' = hs) (fun tm h r e => by cases e) (fun R hR => WO.entryS hu hx hy hi hkey hz hf h0 hb h1 h2 hd (WO.nil (hR _ _ ⟨rfl, rfl⟩)))
  (fun v' hs' ⟨_, h2⟩ _ => by subst h2; exact hkp) (fun v' hs' ⟨h1, h2⟩ => by subst h1 h2; exact hk)
theorem WD.entryN {ox ok : Operand} {kt et i b cnt : Nat} {ex : Bool} {cells : List AV} {k z : AV} {hs' : HSt} (hu : mapTypes (tb.und t) = some (kt, et)) (hx : oL s ox = some (.map b)) (hy : oL s ok = some k) (hi : hs[i]? = some ⟨b, ⟨cnt, ex, cells⟩, true⟩)
  (hkey : keyOk tb (tb.und kt) k = true) (hz : tb.zero et = some z) (hf : findM (eqIn tb 20 kt) k cells 0 = some none) {cs : List AV} (hc : cells ++ [k, z, .int .i64 ((cnt : Nat) : Int)] = cs) (hs_ : hs.set i ⟨b, ⟨cnt + 1, ex, cs⟩, true⟩ = hs') (hd : Nat.blt d n = true) (hkp : KIn keep hs')
  (hk : WD tb n ops keep q (p + 1) rest E ((d, .tuple [z, .int .i64 ((cnt : Nat) : Int)]) :: s) hs' R) : WD tb n ops keep q p (⟨some d, .mapEntry t ox ok, ty, pos, aft, none⟩ :: rest) E s hs R :=
 WD.l (C := fun v' hs1 => v' = .tuple [z, .int .i64 ((cnt : Nat) : Int)] ∧ hs1 = hs') (fun tm h r e => by cases e) (fun R hR => WO.entryN hu hx hy hi hkey hz hf hc hs_ hd (WO.nil (hR _ _ ⟨rfl, rfl⟩)))
  (fun v' hs1 ⟨_, h2⟩ _ => by subst h2; exact hkp) (fun v' hs1 ⟨h1, h2⟩ => by subst h1 h2; exact hk)
theorem WD.entryPut {om os oy : Operand} {i b cnt j : Nat} {ex : Bool} {kd : IntKind} {m : Int} {cells cs : List AV} {v : AV} {hs' : HSt} (hx : oL s om = some (.map b)) (hm : oL s os = some (.int kd m)) (hy : oL s oy = some v) (hi : hs[i]? = some ⟨b, ⟨cnt, ex, cells⟩, true⟩)
  (hf : findB m cells 0 = some j) (hl : layL cells (3 * j + 1) [v] = cs) (hs_ : hs.set i ⟨b, ⟨cnt, ex, cs⟩, true⟩ = hs') (hkp : Nat.ble (p + 1) q = true → KIn keep hs') (hk : WD tb n ops keep q (p + 1) rest E s hs' R) :
  WD tb n ops keep q p (⟨none, .entryStore t om os oy, ty, pos, aft, none⟩ :: rest) E s hs R := by
 intro tm h ht hh hkp0
 subst hs_
 have hob := (hh.at_ _ (mem_at hi)).1
 simp only at hob
 have hH := hh.put (ob' := ⟨cnt, ex, cs⟩) hi
 refine wd_step (v := .tuple []) (k := 2) (h1 := ⟨h.next, h.objs.set b ⟨cnt, ex, cs⟩⟩) (tm1 := tm) ?_ rfl (fun h => by cases h) (fun _ hm => (hkp (Nat.ble_eq.mpr hm)).keepIn hH) (hk tm _ ht hH (fun hm => (hkp (Nat.ble_eq.mpr hm)).keepIn hH))
 unfold ev1
 have : wantedA ops tm ⟨none, .entryStore t om os oy, ty, pos, aft, none⟩ = some true := rfl
 rw [this]
 have he : evOp tb (callOf (Ev.callE tb)) tm h (.entryStore t om os oy) = .l (some (.tuple [], ⟨h.next, h.objs.set b ⟨cnt, ex, cs⟩⟩)) := by
  show Res.l (evEntryStore tm h om os oy) = _
  unfold evEntryStore
  simp only [oL_ok ht hx, oL_ok ht hm, oL_ok ht hy, hob, hf, hl]
 simp only [he]
end
abbrev Me := Lab × AV
def kA (k : Lab) : AV := .agg [.str k.1, .str k.2]
def mapC : Nat → List Me → List AV
 | _, [] => []
 | i, x :: M => kA x.1 :: x.2 :: .int .i64 ((i : Nat) : Int) :: mapC (i + 1) M
theorem mapC_append : ∀ (M N : List Me) (i : Nat), mapC i (M ++ N) = mapC i M ++ mapC (i + M.length) N
 | [], N, i => rfl
 | x :: M, N, i => by
  simp only [List.cons_append, mapC, mapC_append M N, List.length_cons]
  rw [show i + 1 + M.length = i + (M.length + 1) by omega]
theorem mapC_push (M : List Me) (k : Lab) (z : AV) : mapC 0 M ++ [kA k, z, .int .i64 ((M.length : Nat) : Int)] = mapC 0 (M ++ [(k, z)]) := by
 rw [mapC_append, Nat.zero_add]; rfl
theorem mapC_get : ∀ (M : List Me) (i j : Nat) (x : Me), M[j]? = some x → (mapC i M)[3 * j]? = some (kA x.1) ∧ (mapC i M)[3 * j + 1]? = some x.2 ∧ (mapC i M)[3 * j + 2]? = some (.int .i64 ((i + j : Nat) : Int))
 | [], i, j, x, h => by simp at h
 | y :: M, i, 0, x, h => by simp at h; subst h; exact ⟨rfl, rfl, rfl⟩
 | y :: M, i, j + 1, x, h => by
  obtain ⟨h1, h2, h3⟩ := mapC_get M (i + 1) j x (by simpa using h)
  have e : i + 1 + j = i + (j + 1) := by omega
  rw [e] at h3
  have e1 : 3 * (j + 1) = 3 * j + 1 + 1 + 1 := by omega
  rw [e1]
  exact ⟨h1, h2, h3⟩
theorem mapC_set : ∀ (M : List Me) (i j : Nat) (x : Me) (v : AV), M[j]? = some x → layL (mapC i M) (3 * j + 1) [v] = mapC i (M.set j (x.1, v))
 | [], i, j, x, v, h => by simp at h
 | y :: M, i, 0, x, v, h => by
  simp at h
  subst h
  show kA y.1 :: layL (y.2 :: _) 0 [v] = _
  simp [layL, mapC]
 | y :: M, i, j + 1, x, v, h => by
  have ih := mapC_set M (i + 1) j x v (by simpa using h)
  have e1 : 3 * (j + 1) + 1 = (3 * j + 1) + 1 + 1 + 1 := by omega
  rw [e1]
  simp only [mapC, layL, List.set_cons_succ, ih]
theorem mapC_findB : ∀ (M : List Me) (i j c : Nat), j < M.length → findB ((i + j : Nat) : Int) (mapC i M) c = some (c + j)
 | [], i, j, c, h => by simp at h
 | y :: M, i, 0, c, h => by
  show (match eqA ((i : Nat) : Int) ((i + 0 : Nat) : Int) with | true => some c | false => _) = _
  rw [eq_nat]
  simp
 | y :: M, i, j + 1, c, h => by
  show (match eqA ((i : Nat) : Int) ((i + (j + 1) : Nat) : Int) with | true => some c | false => findB _ (mapC (i + 1) M) (c + 1)) = _
  rw [eq_nat]
  have h1 : decide (i = i + (j + 1)) = false := decide_eq_false zy
  simp only [h1]
  have ih := mapC_findB M (i + 1) j (c + 1) (by simpa using h)
  have e : i + 1 + j = i + (j + 1) := by omega
  rw [e] at ih
  rw [ih]
  congr 1
  omega
theorem key_eq {tb : Tab} {kt e : Nat} (hu : tb.und kt = some (.array 2 e)) (hz : tb.size e = some 1) (hs : tb.und e = some .string) (ha : tb.isAgg e = some false) (x y : Lab) : eqIn tb 20 kt (kA x) (kA y) = some (decide (x = y)) := by
 obtain ⟨a, b⟩ := x
 obtain ⟨c, d⟩ := y
 unfold kA eqIn
 simp only [hu, hz]
 have h1 : ∀ u v : List Nat, eqIn tb 19 e (.str u) (.str v) = some (listBeq u v) := by
  intro u v
  unfold eqIn
  simp only [hs]
 unfold eqElemsA
 simp only [partA, ha, Nat.zero_mul, List.getElem?_cons_zero, h1, eq_str]
 by_cases e1 : a = c
 ·subst e1
  simp only [decide_true]
  unfold eqElemsA
  simp only [partA, ha, Nat.zero_add, Nat.one_mul, List.getElem?_cons_succ, List.getElem?_cons_zero, h1, eq_str]
  by_cases e2 : b = d
  ·subst e2; simp [eqElemsA]
  ·simp [e2]
 ·simp [e1]
theorem map_find {eq : AV → AV → Option Bool} (heq : ∀ x y : Lab, eq (kA x) (kA y) = some (decide (x = y))) (k : Lab) : ∀ (M : List Me) (i c : Nat),
  (findM eq (kA k) (mapC i M) c = some none ∧ ∀ x ∈ M, x.1 ≠ k) ∨ ∃ j v, M[j]? = some (k, v) ∧ findM eq (kA k) (mapC i M) c = some (some (c + j))
 | [], i, c => .inl ⟨rfl, fun x h => by simp at h⟩
 | y :: M, i, c => by
  by_cases e : k = y.1
  ·refine .inr ⟨0, y.2, by rw [e]; rfl, ?_⟩
   show (match eq (kA k) (kA y.1) with | some true => some (some c) | some false => _ | none => none) = _
   rw [heq, decide_eq_true e]; rfl
  ·have h0 : findM eq (kA k) (mapC i (y :: M)) c = findM eq (kA k) (mapC (i + 1) M) (c + 1) := by
    show (match eq (kA k) (kA y.1) with | some true => some (some c) | some false => findM eq (kA k) (mapC (i + 1) M) (c + 1) | none => none) = _
    rw [heq, decide_eq_false e]
   rw [h0]
   rcases map_find heq k M (i + 1) (c + 1) with ⟨h1, h2⟩ | ⟨j, v, h1, h2⟩
   ·refine .inl ⟨h1, fun x hx => ?_⟩
    rcases List.mem_cons.1 hx with rfl | hx
    ·exact fun g => e g.symm
    ·exact h2 x hx
   ·refine .inr ⟨j + 1, v, by simpa using h1, ?_⟩
    rw [h2]
    congr 2
    omega
theorem map_new {M : List Me} {k : Lab} {z v : AV} : layL (mapC 0 (M ++ [(k, z)])) (3 * M.length + 1) [v] = mapC 0 (M ++ [(k, v)]) := by
 rw [mapC_set (M ++ [(k, z)]) 0 M.length (k, z) v (by simp)]
 congr 1
 simp
theorem map_newB {M : List Me} {k : Lab} {z : AV} : findB ((M.length : Nat) : Int) (mapC 0 (M ++ [(k, z)])) 0 = some M.length := by
 have := mapC_findB (M ++ [(k, z)]) 0 M.length 0 (by simp)
 simpa using this
theorem map_oldB {M : List Me} {j : Nat} {x : Me} (h : M[j]? = some x) : findB ((0 + j : Nat) : Int) (mapC 0 M) 0 = some j := by
 have := mapC_findB M 0 j 0 (List.getElem?_eq_some_iff.1 h).1
 simpa using this
def MB (c : Nat) : List Me → HSt → Prop
 | [], D => D = []
 | x :: M, D => ∃ cs len hp D', OwnE 1 cs len x.2 hp ∧ len ≤ c ∧ D = hp ++ D' ∧ MB c M D'
theorem MB.mono {c c' : Nat} (hc : c ≤ c') : ∀ {M : List Me} {D : HSt}, MB c M D → MB c' M D
 | [], D, h => h
 | x :: M, D, ⟨cs, len, hp, D', h1, h2, h3, h4⟩ => ⟨cs, len, hp, D', h1, by omega, h3, MB.mono hc h4⟩
theorem MB.at {c : Nat} : ∀ {M : List Me} {D : HSt} {j : Nat} {x : Me}, MB c M D → M[j]? = some x → ∃ A cs len hp B, D = A ++ (hp ++ B) ∧ OwnE 1 cs len x.2 hp ∧ len ≤ c ∧
  ∀ c' v' cs' len' hp', c ≤ c' → OwnE 1 cs' len' v' hp' → len' ≤ c' → MB c' (M.set j (x.1, v')) (A ++ (hp' ++ B))
 | [], D, j, x, _, h => by simp at h
 | y :: M, D, 0, x, ⟨cs, len, hp, D', h1, h2, h3, h4⟩, h => by
  simp at h
  subst h
  exact ⟨[], cs, len, hp, D', h3, h1, h2, fun c' v' cs' len' hp' g1 g2 g3 => ⟨cs', len', hp', D', g2, g3, rfl, h4.mono g1⟩⟩
 | y :: M, D, j + 1, x, ⟨cs, len, hp, D', h1, h2, h3, h4⟩, h => by
  obtain ⟨A, cs1, len1, hp1, B, g1, g2, g3, g4⟩ := MB.at h4 (by simpa using h)
  refine ⟨hp ++ A, cs1, len1, hp1, B, by rw [h3, g1, List.append_assoc], g2, g3, fun c' v' cs' len' hp' k1 k2 k3 => ?_⟩
  exact ⟨cs, len, hp, A ++ (hp' ++ B), h1, by omega, by rw [List.append_assoc], g4 c' v' cs' len' hp' k1 k2 k3⟩
theorem MB.push {c c' : Nat} {k : Lab} {v : AV} {cs : List AV} {len : Nat} {hp : HSt} (hc : c ≤ c') (hO : OwnE 1 cs len v hp) (hl : len ≤ c') : ∀ {M : List Me} {D : HSt}, MB c M D → MB c' (M ++ [(k, v)]) (D ++ hp)
 | [], D, h => by
  have h : D = [] := h
  subst h
  exact ⟨cs, len, hp, [], hO, hl, by simp, rfl⟩
 | x :: M, D, ⟨cs1, len1, hp1, D', h1, h2, h3, h4⟩ => ⟨cs1, len1, hp1, D' ++ hp, h1, by omega, by rw [h3, List.append_assoc], MB.push hc hO hl h4⟩
theorem kA_beq (k : Lab) : (kA k).beq (kA k) = true := by unfold kA; simp [AV.beq, beq1, beq0, beqL]
set_option maxRecDepth 100000
set_option maxHeartbeats 1000000
theorem key_ok {tb : Tab} {kt e : Nat} (hu : tb.und kt = some (.array 2 e)) (hs : tb.und e = some .string) (hz : tb.size e = some 1) (k : Lab) : keyOk tb (tb.und kt) (kA k) = true := by
 unfold keyOk kA
 simp only [hu, hs, hz]
 rfl
theorem ichk1_len {V : List El} {i : Nat} (h : ichk1 V i = 0) : (eg V i).2.1.length ≤ 8 := by
 unfold ichk1 at h
 split at h
 ·rename_i g; exact absurd h g
 ·rename_i g
  have g : lchk (eg V i).2.1 = 0 := Classical.not_not.1 g
  unfold lchk at g
  split at g
  ·cases g
  ·omega
theorem ck1 {v : AV} {o n : Nat} (h : v.isCell = true) (hle : Nat.ble (o + 1) n = true) : (Nat.beq v.cells.length 1 && Nat.ble (o + 1) n && v.cells.all AV.isCell) = true := by
 rw [cells_cell h, hle]; simp [h]
theorem lay1 {a v : AV} {b : List AV} (h : v.isCell = true) : layL (a :: b) 0 v.cells = v :: b := by
 rw [cells_cell h]; simp [layL]
theorem gcs {a c : HSt} (h : ∀ x, a.count x ≤ c.count x := by intro x; simp only [List.length_set, List.length_append, List.length_cons, List.length_nil, Nat.zero_add, List.append_eq, List.cons_append, List.nil_append, List.append_nil, List.append_assoc, List.count_append, List.count_cons, List.count_nil]; omega) : SubH a c := SubH.of_count h
theorem new_spec (hs : HSt) (hro : ∀ e ∈ hs, e.w = false) (V : List El) (v : AV) (hT : TIn hs V v) (hB : EBd V) : Spec tab 72 [v] [] hs (ValE (fun u => ∃ p, u = .tuple [p, .int .i64 ((ichk V : Nat) : Int)])) := by
 have hBl := hB.1
 refine Spec.en (ftg 72 Tryz.func72) rfl (m := 77) rfl (rs := [.tmp 2, .tmp 3]) rfl (st := [(0, v)]) rfl rfl (fun _ => rfl) (fun E => zr (za rfl (za (zi 0) (zk (W.seq (zr (zm rfl (zq (Q.len ud90 rfl (TIn.len hT)) (zq (Q.bin rfl (zi 256) rfl (bv_gtr ltn)) (zk (W.cD rfl (fun hc13 => ?_) (fun hc13 => ?_))))))))))))
 ·refine zr (za rfl (za (zi 3) (zk (W.ret (End.Kr (End.retE (ResL.tmp rfl (z1 rfl)) (⟨.nilp, ?_⟩)))))))
  show AV.tuple _ = _; rw [ichk_big zy]
 refine zw (zr (WO.makeMap mt128 rfl (fun mb => zq (Q.build pl130 (opc rfl opn) rfl (cs := [_, _]) rfl) (WO.box rfl rfl (bx130 _ rfl) rfl (fun xb => za rfl (zk (W.seq (zr (zm rfl (zq (Q.len ud90 rfl (TIn.len hT)) (zq (Q.move (zi 0)) (zk (W.block (W.loop_ind6 (fun (i : Nat) (cs : List AV) (sv : AV) (hp : HSt) (M : List Me) (PD : HSt) => [(0, v), (4, .ptr xb 0), (17, v), (18, .int .i64 ((V.length : Nat) : Int)), (19, .int .i64 ((i : Nat) : Int))]) (fun (i : Nat) (cs : List AV) (sv : AV) (hp : HSt) (M : List Me) (PD : HSt) => ⟨xb, ⟨2, true, [sv, .map mb]⟩, true⟩ :: ⟨mb, ⟨M.length, true, mapC 0 M⟩, true⟩ :: ((hs ++ hp) ++ PD)) (fun (i : Nat) (cs : List AV) (sv : AV) (hp : HSt) (M : List Me) (PD : HSt) => i ≤ V.length ∧ V.length ≤ 256 ∧ ichk V = fstE (ichk1 V) (V.length - i) i ∧ OwnE 1 cs cs.length sv hp ∧ cs.length = i ∧ MB (8 * i) M PD) (fun (i : Nat) (cs : List AV) (sv : AV) (hp : HSt) (M : List Me) (PD : HSt) => V.length - i) (0) ([]) (.nils) ([]) ([]) ([]) ⟨Nat.zero_le _, by omega, ichk_go zy, OwnE.nil 1, rfl, rfl⟩ zv (by rw [List.append_nil, List.append_nil]; exact SubH.refl _) (fun i cs sv hp M PD hI0 ih0 => ?_)))))))))))))))
 obtain ⟨h1, h256, h3, hO, hcs, hMB⟩ := hI0
 refine zr (zq (Q.bin rfl rfl rfl (bvl ltn)) (zk (W.seq (W.cD rfl (fun hc20 => ?_) (fun hc20 => ?_)))))
 ·obtain ⟨bt, szt, ext, rfl, wt, mt⟩ := TIn.full hT zy
  refine zw (W.seq (W.block (zr (zm rfl (zq (Q.iS ud90 sz33 rfl rfl zo) (zq (Q.l1 rfl (List.mem_cons_of_mem _ (List.mem_cons_of_mem _ (List.mem_append_left _ (List.mem_append_left _ mt)))) ag33 (cT_at zo)) (za rfl (za rfl (zk (W.seq (zr (zm rfl (WO.cV rfl (oLc rfl oz) rfl (lchk_spec hs hro _ _ (hT.at zo) (hB.at zo).1) (SubR.t (SubR.t (SubR.appl (SubR.appl (SubR.s hro))))) rfl (za rfl (zk (zr (zm rfl (zq (Q.bin rfl (zi 0) rfl (bv_neq ne_nat)) (zk (W.cD rfl (fun hc27 => ?_) (fun hc27 => ?_)))))))))))))))))))))
  ·refine zr (zm rfl (za rfl (za rfl (zk (W.sub (zc 3 rfl (zc 2 rfl zzn)) (W.ret (End.Kr (End.Br (End.Kr (End.Lr (End.Br (End.Kr (End.retE (ResL.tmp rfl (z1 rfl)) (⟨.nilp, ?_⟩))))))))))))))
   show AV.tuple _ = _; rw [h3, fst_hit (e := lchk (eg V i).2.1) zy (by unfold ichk1; simp_all <;> omega) zy]
  refine zw (W.seqK1 (fun (q : Unit) => [(0, .slice bt 0 V.length 1), (4, .ptr xb 0), (5, .int .i64 ((i : Nat) : Int)), (6, (eg V i).1), (17, .slice bt 0 V.length 1), (18, .int .i64 ((V.length : Nat) : Int)), (19, .int .i64 ((i : Nat) : Int))]) (fun (q : Unit) => ichk1 V i = 0) (fun q hI12 => ?_) (fun hJ12 => ?_))
  ·refine W.seq (W.regD 9 [⟨xb, _, false⟩] (by kernel_rfl) (KIn.cons (zt 0 rfl) KIn.nil) (WD.q (Q.move rfl) bqp rfl (WD.q (Q.move rfl) bqp rfl (WD.q (Q.nilP rfl) bqp rfl (WD.q (Q.fieldAddr fa130_0 rfl (o' := 0) rfl) bqp rfl (WD.q (Q.l1 rfl (zt 0 rfl) ag90 rfl) (OwnE.bq hO) rfl (WD.q (Q.move rfl) (LIn.bq (hT.at zo)) rfl (WD.call0 rfl (oLc rfl oz) rfl (clone_spec hs hro _ _ (hT.at zo) (hB.at zo).1) (SubR.t (SubR.t (SubR.appl (SubR.appl (SubR.s hro))))) (KIn.cons (zt 0 rfl) KIn.nil) rfl (fun v47 D47 hP47 => WD.subH (hs' := _ :: _ :: (hs ++ PD ++ D47 ++ hp)) (SubH.op (perm_tailO (N := []) (G := D47) (K := [_, _]) (X := hs ++ hp ++ PD) (by simp only [List.append_assoc, List.nil_append]; exact List.perm_iff_count.2 (by intro z; simp only [List.append_eq, List.count_append, List.count_nil]; omega)))) (WD.bslice ud90 sz33 zr33 rfl (opc rfl opn) rfl (cs := [_]) (fillE1 (OwnE.cell hP47)) (and_tt (OwnE.cell hP47) rfl) rfl (KIn.cons (zt 0 rfl) KIn.nil) (fun b2 => WD.appAny (A := ([_, _] ++ hs ++ PD ++ D47)) ap90_90 hO rfl rfl (Src.slice (zt 0 rfl) rfl) rfl zo (by decide) (SubH.of_sublist (List.sublist_cons_self _ _)) rfl (KIn.cons (zt 0 rfl) KIn.nil) (fun v49 hp49 hO49 => WD.q (Q.nilP rfl) bqp rfl (WD.q (Q.fieldAddr fa130_0 rfl (o' := 0) rfl) bqp rfl (WD.store sz90 rfl rfl (j := 0) rfl (ck1 (OwnE.cell hO49) rfl) (cs := [_, _]) (lay1 (OwnE.cell hO49)) (hs' := _ :: _ :: _) rfl (fun h => by cases h) (WD.nil (End.K (zr (zm rfl (zq (Q.len ud33 rfl (LIn.len (hT.at zo))) (zq (Q.move (zi 0)) (zk (W.block (W.loop_ind3 (fun (k : Nat) (M : List Me) (PD : HSt) => [(0, .slice bt 0 V.length 1), (4, .ptr xb 0), (5, .int .i64 ((i : Nat) : Int)), (17, .slice bt 0 V.length 1), (18, .int .i64 ((V.length : Nat) : Int)), (19, .int .i64 ((i : Nat) : Int)), (52, (eg V i).1), (53, .int .i64 (((eg V i).2.1.length : Nat) : Int)), (54, .int .i64 ((k : Nat) : Int))]) (fun (k : Nat) (M : List Me) (PD : HSt) => ⟨xb, ⟨2, true, [v49, .map mb]⟩, true⟩ :: ⟨mb, ⟨M.length, true, mapC 0 M⟩, true⟩ :: ((hs ++ hp49) ++ PD)) (fun (k : Nat) (M : List Me) (PD : HSt) => k ≤ (eg V i).2.1.length ∧ MB (8 * i + k) M PD) (fun (k : Nat) (M : List Me) (PD : HSt) => (eg V i).2.1.length - k) (0) (M) (PD) ⟨Nat.zero_le _, hMB.mono zy⟩ zv gcs (fun k M PD hI1 ih1 => ?_))))))))))))))))))))))))
   obtain ⟨hk, hMB⟩ := hI1
   refine zr (zq (Q.bin rfl rfl rfl (bvl ltn)) (zk (W.seq (W.cD rfl (fun hc55 => ?_) (fun hc55 => ?_)))))
   ·obtain ⟨ba, sza, exa, hva, wa, ma⟩ := LIn.full (hT.at (i := i) zy) zy
    rw [hva]
    have hAi := (hB.at (i := i) zy).1
    have hAil := hAi.1
    refine zw (W.seq (W.block (zr (zq (Q.iS ud33 sz68 rfl rfl zo) (zq (Q.loadN rfl (List.mem_cons_of_mem _ (List.mem_cons_of_mem _ (List.mem_append_left _ (List.mem_append_left _ ma)))) ag68 sz68 (cL_at zo)) (WO.alloc ao68 rfl (fun b3 => WO.store sz68 rfl rfl (i := 0) rfl rfl (cs := [_, _]) rfl (hs' := _ :: _ :: _ :: _) rfl (zk (zr (zf fa68_0 rfl 0 (zq (Q.l1 rfl (zt 0 rfl) ag9 rfl) (zf fa68_1 rfl 1 (zq (Q.l1 rfl (zt 0 rfl) ag9 rfl) (zq (Q.build pl132 (opc rfl (opc rfl opn)) rfl (cs := [_, _]) rfl) (WO.alloc ao132 rfl (fun b4 => WO.store sz132 rfl rfl (i := 0) rfl rfl (cs := [_, _]) rfl (hs' := _ :: _ :: _ :: _ :: _) rfl (zk (W.regD 11 [⟨b4, _, false⟩, ⟨xb, _, false⟩] (by kernel_rfl) (KIn.cons (zt 0 rfl) (KIn.cons (zt 2 rfl) KIn.nil)) (WD.q (Q.move rfl) bqp rfl (WD.q (Q.nilP rfl) bqp rfl (WD.q (Q.fieldAddr fa130_1 rfl (o' := 1) rfl) bqp rfl (WD.q (Q.l1 rfl (zt 1 rfl) ag128 rfl) (by simp [AV.beq, beq1, beq0, beqL]) rfl (WD.q (Q.loadN rfl (zt 0 rfl) ag132 sz132 (l := [_, _]) rfl) (by simp [AV.beq, beq1, beq0, beqL]) rfl ?_)))))))))))))))))))))))
    refine WD.q (Q.move rfl) bqi rfl (WD.bslice ud89 sz3 zr3 rfl (opc rfl opn) rfl (cs := [_]) rfl rfl rfl (KIn.cons (zt 0 rfl) (KIn.cons (zt 2 rfl) KIn.nil)) (fun b5 => ?_))
    rcases map_find (key_eq ud132 sz9 ud9 ag9) (lg (eg V i).2.1 k) M 0 0 with ⟨hfn, hnew⟩ | ⟨j, vj, hj, hfj⟩
    ·refine WD.entryN mt128 rfl rfl (i := 4) rfl (key_ok ud132 ud9 sz9 (lg (eg V i).2.1 k)) zr89 hfn (mapC_push M _ _) (hs' := _ :: _ :: _ :: _ :: _ :: _) rfl rfl (KIn.cons (zt 1 rfl) (KIn.cons (zt 3 rfl) KIn.nil)) (WD.q (Q.extract rfl rfl) (by simp [AV.beq, beq1, beq0, beqL]) rfl (WD.appAny (A := _) ap89_89 (OwnE.nil 1) rfl rfl (Src.slice (zt 0 rfl) rfl) rfl zo (by decide) app_nil_sub1 rfl (KIn.cons (zt 0 rfl) (KIn.cons (zt 2 rfl) KIn.nil)) (fun v72 hp72 hO72 => WD.q (Q.extract rfl rfl) bqi rfl (WD.entryPut rfl rfl rfl (i := 3) rfl map_newB map_new (hs' := _ :: _ :: _ :: _ :: _) rfl (fun h => by cases h) (WD.nil (End.KB (End.K (W.sub (zc 0 rfl (zc 4 rfl (zc 5 rfl (zc 17 rfl (zc 18 rfl (zc 19 rfl (zc 52 rfl (zc 53 rfl (zc 54 rfl zzn))))))))) (W.reg (zq (Q.bin rfl (zi 1) rfl zp) (zm rfl (WO.nil (End.KL (W.sub (zd rfl (zd rfl (zd rfl (zd rfl (zd rfl (zd rfl (SubS.cons (by rw [hva]; rfl) zv))))))) (W.sH gcs (ih1 (k + 1) (M ++ [(lg (eg V i).2.1 k, v72)]) (PD ++ hp72) ?_ ?_))))))))))))))))
     ·exact ⟨by omega, MB.push zy hO72 zy hMB⟩
     exact zy
    rw [Nat.zero_add] at hfj
    obtain ⟨h0j, h1j, h2j⟩ := mapC_get M 0 j _ hj
    obtain ⟨PA, csj, lj, hpj, PB, rfl, hOj, hlj, hset⟩ := MB.at hMB hj
    refine WD.subH (hs' := _ :: _ :: _ :: _ :: _ :: (hs ++ hp49 ++ PA ++ PB ++ hpj)) (SubH.op (List.Perm.append_left [_, _, _, _, _] (List.perm_iff_count.2 (by intro z; simp only [List.append_eq, List.count_append, List.count_nil]; omega)))) (WD.entryS mt128 rfl rfl (i := 4) rfl (key_ok ud132 ud9 sz9 (lg (eg V i).2.1 k)) zr89 hfj h0j (kA_beq _) h1j h2j rfl (KIn.cons (zt 1 rfl) (KIn.cons (zt 3 rfl) KIn.nil)) (WD.q (Q.extract rfl rfl) (OwnE.bq hOj) rfl (WD.appAny (A := ([_, _, _, _] ++ hs ++ hp49 ++ PA ++ PB)) ap89_89 hOj rfl rfl (Src.slice (zt 0 rfl) rfl) rfl zo (by decide) (SubH.of_sublist (List.sublist_cons_self _ _)) rfl (KIn.cons (zt 0 rfl) (KIn.cons (zt 2 rfl) KIn.nil)) (fun v72 hp72 hO72 => WD.q (Q.extract rfl rfl) bqi rfl (WD.entryPut rfl rfl rfl (i := 3) rfl (map_oldB hj) (mapC_set M 0 j _ _ hj) (hs' := _ :: _ :: _ :: _ :: _) rfl (fun h => by cases h) (WD.nil (End.KB (End.K (W.sub (zc 0 rfl (zc 4 rfl (zc 5 rfl (zc 17 rfl (zc 18 rfl (zc 19 rfl (zc 52 rfl (zc 53 rfl (zc 54 rfl zzn))))))))) (W.reg (zq (Q.bin rfl (zi 1) rfl zp) (zm rfl (WO.nil (End.KL (W.sub (zd rfl (zd rfl (zd rfl (zd rfl (zd rfl (zd rfl (SubS.cons (by rw [hva]; rfl) zv))))))) (W.sH gcs (ih1 (k + 1) (M.set j (lg (eg V i).2.1 k, v72)) (PA ++ (hp72 ++ PB)) ?_ ?_)))))))))))))))))
    ·exact ⟨by omega, hset _ v72 _ _ hp72 zy hO72 zy⟩
    exact zy
   refine W.exit (End.Kx (End.Lx (End.Bh (End.KB (End.K (W.reg (zq (Q.bin rfl (zi 1) rfl zp) (zm rfl (WO.nil (End.KL (W.sub zv (W.sH gcs (ih0 (i + 1) (cs ++ [v47]) (v49) (hp49) (M) (PD) ?_ ?_)))))))))))))
   ·exact ⟨by omega, h256, by rw [h3, fst_next zy hI12], by rw [List.length_append]; exact hO49, by rw [List.length_append, hcs]; rfl, hMB.mono (by have := ichk1_len hI12; omega)⟩
   exact zo
  refine zr (zm rfl (zq (Q.bin rfl (zi 0) rfl (bv_gtr ltn)) (zm rfl (WO.sD (d := 31) rfl (fun hc31 => ?_) (fun hc31 => ?_)))))
  ·refine WO.gT rfl rfl (zm rfl (WO.gT rfl rfl (zm rfl (WO.gT rfl rfl (zq (Q.bin rfl (zi 1) rfl (bv_sub (wns zo))) (WO.gT rfl rfl (zq (Q.iS ud90 sz33 rfl rfl zo) (WO.gT rfl rfl (zq (Q.l1 rfl (List.mem_cons_of_mem _ (List.mem_cons_of_mem _ (List.mem_append_left _ (List.mem_append_left _ mt)))) ag33 (cT_at zo)) (WO.gT rfl rfl (zm rfl (WO.gT rfl rfl (WO.cV rfl (oLc rfl (oLc rfl oz)) rfl (cmp_spec hs hro _ _ _ _ (hT.at zo) (hT.at zo) (hB.at zo).1 (hB.at zo).1) (SubR.t (SubR.t (SubR.appl (SubR.appl (SubR.s hro))))) rfl (WO.gT rfl rfl (zq (Q.bin rfl (zi 0) rfl (bv_geq le_int)) (zq (Q.pT rfl rfl) (zk (W.sub (zc 40 rfl (zc 6 rfl (zc 5 rfl (zc 0 rfl (zc 4 rfl (zc 17 rfl (zc 18 rfl (zc 19 rfl zzn)))))))) (W.cD rfl (fun hc40 => ?_) (fun hc40 => ?_))))))))))))))))))))
   ·refine zr (za rfl (za (zi 13) (zk (W.ret (End.Kr (End.Br (End.Kr (End.Lr (End.Br (End.Kr (End.retE (ResL.tmp rfl (z1 rfl)) (⟨.nilp, ?_⟩))))))))))))
    show AV.tuple _ = _; rw [h3, fst_hit (e := 13) zy (by unfold ichk1; simp_all <;> omega) (by decide)]
   refine W.skip (End.K (W.sub zv (hJ12 (()) ?_)))
   exact (by unfold ichk1; simp_all <;> omega)
  refine zg rfl rfl (zg rfl rfl (zg rfl rfl (zg rfl rfl (zg rfl rfl (zg rfl rfl (zg rfl rfl (zg rfl rfl (zq (Q.pF rfl rfl) (zk (W.sub (zc 40 rfl (zc 6 rfl (zc 5 rfl (zc 0 rfl (zc 4 rfl (zc 17 rfl (zc 18 rfl (zc 19 rfl zzn)))))))) (W.condF rfl (W.skip (End.K (W.sub zv (hJ12 (()) ?_)))))))))))))))
  exact (by unfold ichk1; simp_all <;> omega)
 refine W.exit (End.Kx (End.Lx (End.Bh (End.K (zr (zm rfl (za rfl (za (zi 0) (zk (W.ret (End.retE (ResL.tmp rfl (z1 rfl)) (⟨.ptr xb 0, ?_⟩))))))))))))
 show AV.tuple _ = _; rw [h3, fst_done zy]
end Go.Proofs.YtmblgaehfjheeaaGreat.Ev
