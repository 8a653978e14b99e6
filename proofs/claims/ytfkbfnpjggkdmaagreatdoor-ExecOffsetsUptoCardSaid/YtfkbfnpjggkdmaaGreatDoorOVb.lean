/- Chapter 7, by the document: classes and what is in parentheses. -/
import Derived.Test.YtfkbfnpjggkdmaaGreatDoorOFactsR
import Derived.Test.YtfkbfnpjggkdmaaGreatDoorOExE
namespace Go.Proofs.YtfkbfnpjggkdmaaGreatDoor.Ev.P7
open Go.RowKit
set_option maxRecDepth 100000
set_option maxHeartbeats 1000000
def plainB (c : Nat) : Bool := decide (¬ c ∈ ([92, 40, 41, 91, 93, 124, 42, 43, 63, 46] : List Nat))
theorem plain_no {c i : Nat} (h : i < 10) (e : ([92, 40, 41, 91, 93, 124, 42, 43, 63, 46] : List Nat).getD i 0 = c) : oneOf [AV.bool false] = .bool (plainB c) := by
 have hm : c ∈ ([92, 40, 41, 91, 93, 124, 42, 43, 63, 46] : List Nat) := by
  rw [← e, List.getD_eq_getElem?_getD, List.getElem?_eq_getElem (by exact h)]
  exact List.getElem_mem _
 unfold plainB
 rw [decide_eq_false (fun g => g hm)]
 rfl
theorem plain_yes {c : Nat} (h : ∀ j, j < 10 → ([92, 40, 41, 91, 93, 124, 42, 43, 63, 46] : List Nat).getD j 0 ≠ c) : oneOf [AV.bool true] = .bool (plainB c) := by
 have hm : ¬ c ∈ ([92, 40, 41, 91, 93, 124, 42, 43, 63, 46] : List Nat) := by
  intro g
  obtain ⟨j, hj, e⟩ := List.getElem_of_mem g
  refine h j hj ?_
  rw [List.getD_eq_getElem?_getD, List.getElem?_eq_getElem hj]
  exact e
 unfold plainB
 rw [decide_eq_true hm]
 rfl
def itemB (c : Nat) : Bool := !decide (c = 92) && !decide (c = 91) && !decide (c = 93) && !decide (c = 94) && !decide (c = 45)
def clsF : Nat → Bool → List Nat → Option Nat
 | 0, _, _ => none
 | k + 1, ne, l =>
  if l = [] then none
  else if l.getD 0 0 = 93 then (if ne = true then some 1 else none)
  else if itemB (l.getD 0 0) = false then none
  else if 1 < l.length ∧ l.getD 1 0 = 45 then
   (if 3 ≤ l.length ∧ itemB (l.getD 2 0) = true ∧ l.getD 0 0 ≤ l.getD 2 0 then (clsF k true (l.drop 3)).map (· + 3) else none)
  else (clsF k true (l.drop 1)).map (· + 1)
def clsE (i : Nat) : Option Nat → Nat
 | none => 0
 | some n => i + n
theorem clsE_map {i m : Nat} {o : Option Nat} : clsE i (o.map (· + m)) = clsE (i + m) o := by
 cases o with
 | none => rfl
 | some n => show i + (n + m) = i + m + n; omega
def classL (l : List Nat) : Option Nat := if l ≠ [] ∧ l.getD 0 0 = 94 then (clsF 100 false (l.drop 1)).map (· + 1) else clsF 100 false l
def clsEnd (p : List Nat) (i : Nat) : Nat := clsE (i + 1) (classL (p.drop (i + 1)))
theorem drop_getD {p : List Nat} {i j : Nat} : (p.drop i).getD j 0 = p.getD (i + j) 0 := by
 rw [List.getD_eq_getElem?_getD, List.getD_eq_getElem?_getD, List.getElem?_drop]
theorem clsF_at {p : List Nat} {i k : Nat} {ne : Bool} (h : i < p.length) : clsF (k + 1) ne (p.drop i) =
  if p.getD i 0 = 93 then (if ne = true then some 1 else none)
  else if itemB (p.getD i 0) = false then none
  else if i + 1 < p.length ∧ p.getD (i + 1) 0 = 45 then
   (if i + 3 ≤ p.length ∧ itemB (p.getD (i + 2) 0) = true ∧ p.getD i 0 ≤ p.getD (i + 2) 0 then (clsF k true (p.drop (i + 3))).map (· + 3) else none)
  else (clsF k true (p.drop (i + 1))).map (· + 1) := by
 have hne : ¬ p.drop i = [] := by
  intro e
  have := congrArg List.length e
  simp at this
  omega
 have e1 : (1 < (p.drop i).length) = (i + 1 < p.length) := by rw [List.length_drop]; exact propext ⟨fun h => by omega, fun h => by omega⟩
 have e3 : (3 ≤ (p.drop i).length) = (i + 3 ≤ p.length) := by rw [List.length_drop]; exact propext ⟨fun h => by omega, fun h => by omega⟩
 conv => lhs; unfold clsF
 rw [if_neg hne]
 simp only [drop_getD, List.drop_drop, Nat.add_zero, e1, e3]
theorem cls_ret {p : List Nat} {i a : Nat} {b : Bool} (h : clsEnd p i = a) : oneOf [AV.int .i64 ((a : Nat) : Int), .bool b] = .tuple [.int .i64 ((clsEnd p i : Nat) : Int), .bool b] := by rw [h]; rfl
theorem clsEnd_y {p : List Nat} {i : Nat} (h : i + 1 < p.length ∧ p.getD (i + 1) 0 = 94) : clsEnd p i = clsE (i + 1 + 1) (clsF 100 false (p.drop (i + 1 + 1))) ∧ i + 1 + 1 ≤ p.length := by
 refine ⟨?_, by omega⟩
 have hne : p.drop (i + 1) ≠ [] := by
  intro e
  have := congrArg List.length e
  simp at this
  omega
 unfold clsEnd classL
 rw [if_pos ⟨hne, by rw [drop_getD]; exact h.2⟩, clsE_map, List.drop_drop]
theorem clsEnd_n {p : List Nat} {i : Nat} (hi : i < p.length) (h : ¬ (i + 1 < p.length ∧ p.getD (i + 1) 0 = 94)) : clsEnd p i = clsE (i + 1) (clsF 100 false (p.drop (i + 1))) ∧ i + 1 ≤ p.length := by
 refine ⟨?_, by omega⟩
 unfold clsEnd classL
 rw [if_neg]
 intro ⟨g1, g2⟩
 refine h ⟨?_, by rw [drop_getD] at g2; exact g2⟩
 apply Classical.byContradiction
 intro g
 exact g1 (List.drop_eq_nil_of_le (by omega))
theorem bv_bne {tb : Tab} {t : Nat} {a b : Bool} (hu : tb.und t = some .bool) : evBin tb .neq t (.bool a) (.bool b) = some (.bool (!(a == b))) := by
 show (match eqIn tb 20 t (.bool a) (.bool b) with | some b => some (AV.bool (!b)) | none => none) = _
 unfold eqIn
 simp only [hu]
 rfl
theorem clsF_nil {p : List Nat} {i k : Nat} {ne : Bool} (h : p.length ≤ i) : clsF k ne (p.drop i) = none := by
 rw [List.drop_eq_nil_of_le h]
 cases k <;> rfl
theorem plain_spec (c : Nat) (hc : c < 256) : Spec tab 277 [.int .u8 ((c : Nat) : Int)] [] [] (Val (.bool (plainB c))) := by
 refine Spec.en (ftg 277 Tryz.func277) rfl (m := 16) rfl (rs := [.tmp 2]) rfl (st := [(0, .int .u8 ((c : Nat) : Int))]) rfl rfl (fun _ => rfl) (fun E => ?_)
 refine W.seq ?_
 refine W.reg ?_
 refine WO.q (Q.assign rfl) rfl ?_
 refine WO.nil ?_
 refine End.K ?_
 refine W.seq ?_
 refine W.reg ?_
 refine WO.q (Q.assign (oc (v := .str [92, 40, 41, 91, 93, 124, 42, 43, 63, 46]) (by kernel_rfl))) rfl ?_
 refine WO.nil ?_
 refine End.K ?_
 refine W.seq ?_
 refine W.seq ?_
 refine W.reg ?_
 refine WO.q (Q.assign (oc (v := .int .i64 ((0 : Nat) : Int)) rfl)) rfl ?_
 refine WO.nil ?_
 refine End.K ?_
 refine W.block ?_
 refine W.loop_ind (fun (i : Nat) => [(0, .int .u8 ((c : Nat) : Int)), (3, .str [92, 40, 41, 91, 93, 124, 42, 43, 63, 46]), (4, .int .i64 ((i : Nat) : Int))]) (fun _ => _) (fun (i : Nat) => i ≤ 10 ∧ ∀ j, j < i → ([92, 40, 41, 91, 93, 124, 42, 43, 63, 46] : List Nat).getD j 0 ≠ c) (fun (i : Nat) => 10 - i) (0) ⟨Nat.zero_le _, fun j h => by omega⟩ (SubS.cons rfl (SubS.cons rfl (SubS.cons rfl (SubS.nil _)))) (SubH.refl _) (fun i hI0 ih0 => ?_)
 obtain ⟨h1, h2⟩ := hI0
 refine W.seq ?_
 refine W.seq ?_
 refine W.reg ?_
 refine WO.q (Q.move rfl) rfl ?_
 refine WO.q (Q.move rfl) rfl ?_
 refine WO.q (Q.len ud9 rfl rfl) rfl ?_
 refine WO.q (Q.bin rfl rfl rfl (bvl ltn)) rfl ?_
 refine WO.nil ?_
 refine End.K ?_
 refine W.cD rfl (fun hc8 => ?_) (fun hc8 => ?_)
 ·skip -- L0T
  refine W.skip ?_
  refine End.K ?_
  refine W.seq ?_
  refine W.block ?_
  refine W.seq ?_
  refine W.reg ?_
  refine WO.q (Q.move rfl) rfl ?_
  refine WO.q (Q.move rfl) rfl ?_
  refine WO.indexB (by unfold Bytes; decide) ud9 rfl rfl zo rfl (fun c13 hd13 hb13 => ?_)
  refine WO.q (Q.move rfl) rfl ?_
  refine WO.q (Q.bin rfl rfl rfl (bv_eql eq_nat)) rfl ?_
  refine WO.nil ?_
  refine End.K ?_
  refine W.cD rfl (fun hc15 => ?_) (fun hc15 => ?_)
  ·skip -- L0TT
   refine W.seq ?_
   refine W.reg ?_
   refine WO.q (Q.assign rfl) rfl ?_
   refine WO.nil ?_
   refine End.K ?_
   refine W.ret ?_
   refine End.Br (End.Kr (End.Lr (End.Br (End.Kr (End.rV (ResL.tmp rfl ResL.nil) ?_)))))
   exact plain_no (i := i) (by simp at *; omega) (by rw [← hd13]; exact hc15)
  ·skip -- L0TF
   refine W.skip ?_
   refine End.KB (End.K ?_)
   refine W.reg ?_
   refine WO.q (Q.move rfl) rfl ?_
   refine WO.q (Q.bin rfl (oc (v := .int .i64 ((1 : Nat) : Int)) rfl) rfl (bv_add (wna zo))) rfl ?_
   refine WO.q (Q.assign rfl) rfl ?_
   refine WO.nil ?_
   refine End.KL ?_
   refine W.sub (SubS.cons rfl (SubS.cons rfl (SubS.cons rfl (SubS.nil _)))) (ih0 (i + 1) ?_ ?_)
   ·exact ⟨by simp at *; omega, fun j h => by rcases Nat.lt_or_ge j i with g | g; exact h2 j g; have hji : j = i := (by omega); rw [hji, ← hd13]; exact hc15⟩
   ·exact (by simp at *; omega)
 ·skip -- L0F
  refine W.exit ?_
  refine End.Kx (End.Lx (End.Bh (End.K ?_)))
  refine W.seq ?_
  refine W.reg ?_
  refine WO.q (Q.assign rfl) rfl ?_
  refine WO.nil ?_
  refine End.K ?_
  refine W.ret ?_
  refine End.rV (ResL.tmp rfl ResL.nil) ?_
  exact plain_yes (fun j h => h2 j (by simp at *; omega))

theorem item_spec (c : Nat) (hc : c < 256) : Spec tab 251 [.int .u8 ((c : Nat) : Int)] [] [] (Val (.bool (itemB c))) := by
 refine Spec.en (ftg 251 Tryz.func251) rfl (m := 21) rfl (rs := [.tmp 2]) rfl (st := [(0, .int .u8 ((c : Nat) : Int))]) rfl rfl (fun _ => rfl) (fun E => ?_)
 refine W.seq ?_
 refine W.reg ?_
 refine WO.q (Q.assign rfl) rfl ?_
 refine WO.nil ?_
 refine End.K ?_
 refine W.seq ?_
 refine W.reg ?_
 refine WO.q (Q.move rfl) rfl ?_
 refine WO.q (Q.bin rfl (oc (v := .int .u8 ((92 : Nat) : Int)) rfl) rfl (bv_neq ne_nat)) rfl ?_
 refine WO.q (Q.move rfl) rfl ?_
 refine WO.sD (d := 5) rfl (fun hc5 => ?_) (fun hc5 => ?_)
 ·skip -- t
  refine WO.gT rfl rfl ?_
  refine WO.q (Q.move rfl) rfl ?_
  refine WO.gT rfl rfl ?_
  refine WO.q (Q.bin rfl (oc (v := .int .u8 ((91 : Nat) : Int)) rfl) rfl (bv_neq ne_nat)) rfl ?_
  refine WO.q (Q.pT rfl rfl) rfl ?_
  refine WO.q (Q.move rfl) rfl ?_
  refine WO.sD (d := 9) rfl (fun hc9 => ?_) (fun hc9 => ?_)
  ·skip -- tt
   refine WO.gT rfl rfl ?_
   refine WO.q (Q.move rfl) rfl ?_
   refine WO.gT rfl rfl ?_
   refine WO.q (Q.bin rfl (oc (v := .int .u8 ((93 : Nat) : Int)) rfl) rfl (bv_neq ne_nat)) rfl ?_
   refine WO.q (Q.pT rfl rfl) rfl ?_
   refine WO.q (Q.move rfl) rfl ?_
   refine WO.sD (d := 13) rfl (fun hc13 => ?_) (fun hc13 => ?_)
   ·skip -- ttt
    refine WO.gT rfl rfl ?_
    refine WO.q (Q.move rfl) rfl ?_
    refine WO.gT rfl rfl ?_
    refine WO.q (Q.bin rfl (oc (v := .int .u8 ((94 : Nat) : Int)) rfl) rfl (bv_neq ne_nat)) rfl ?_
    refine WO.q (Q.pT rfl rfl) rfl ?_
    refine WO.q (Q.move rfl) rfl ?_
    refine WO.sD (d := 17) rfl (fun hc17 => ?_) (fun hc17 => ?_)
    ·skip -- tttt
     refine WO.gT rfl rfl ?_
     refine WO.q (Q.move rfl) rfl ?_
     refine WO.gT rfl rfl ?_
     refine WO.q (Q.bin rfl (oc (v := .int .u8 ((45 : Nat) : Int)) rfl) rfl (bv_neq ne_nat)) rfl ?_
     refine WO.q (Q.pT rfl rfl) rfl ?_
     refine WO.q (Q.assign rfl) rfl ?_
     refine WO.nil ?_
     refine End.K ?_
     refine W.sub (SubS.cons (k := 2) rfl (SubS.nil _)) ?_
     refine W.ret ?_
     refine End.rV (ResL.tmp rfl ResL.nil) ?_
     exact bool_eq (by simp_all [itemB])
    ·skip -- tttf
     refine WO.gF rfl rfl (.inl rfl) rfl ?_
     refine WO.gF rfl rfl (.inl rfl) rfl ?_
     refine WO.q (Q.pF rfl rfl) rfl ?_
     refine WO.q (Q.assign rfl) rfl ?_
     refine WO.nil ?_
     refine End.K ?_
     refine W.sub (SubS.cons (k := 2) rfl (SubS.nil _)) ?_
     refine W.ret ?_
     refine End.rV (ResL.tmp rfl ResL.nil) ?_
     exact bool_eq (by simp_all [itemB])
   ·skip -- ttf
    refine WO.gF rfl rfl (.inl rfl) rfl ?_
    refine WO.gF rfl rfl (.inl rfl) rfl ?_
    refine WO.q (Q.pF rfl rfl) rfl ?_
    refine WO.q (Q.move rfl) rfl ?_
    refine WO.gF rfl rfl (.inl rfl) rfl ?_
    refine WO.gF rfl rfl (.inl rfl) rfl ?_
    refine WO.q (Q.pF rfl rfl) rfl ?_
    refine WO.q (Q.assign rfl) rfl ?_
    refine WO.nil ?_
    refine End.K ?_
    refine W.sub (SubS.cons (k := 2) rfl (SubS.nil _)) ?_
    refine W.ret ?_
    refine End.rV (ResL.tmp rfl ResL.nil) ?_
    exact bool_eq (by simp_all [itemB])
  ·skip -- tf
   refine WO.gF rfl rfl (.inl rfl) rfl ?_
   refine WO.gF rfl rfl (.inl rfl) rfl ?_
   refine WO.q (Q.pF rfl rfl) rfl ?_
   refine WO.q (Q.move rfl) rfl ?_
   refine WO.gF rfl rfl (.inl rfl) rfl ?_
   refine WO.gF rfl rfl (.inl rfl) rfl ?_
   refine WO.q (Q.pF rfl rfl) rfl ?_
   refine WO.q (Q.move rfl) rfl ?_
   refine WO.gF rfl rfl (.inl rfl) rfl ?_
   refine WO.gF rfl rfl (.inl rfl) rfl ?_
   refine WO.q (Q.pF rfl rfl) rfl ?_
   refine WO.q (Q.assign rfl) rfl ?_
   refine WO.nil ?_
   refine End.K ?_
   refine W.sub (SubS.cons (k := 2) rfl (SubS.nil _)) ?_
   refine W.ret ?_
   refine End.rV (ResL.tmp rfl ResL.nil) ?_
   exact bool_eq (by simp_all [itemB])
 ·skip -- f
  refine WO.gF rfl rfl (.inl rfl) rfl ?_
  refine WO.gF rfl rfl (.inl rfl) rfl ?_
  refine WO.q (Q.pF rfl rfl) rfl ?_
  refine WO.q (Q.move rfl) rfl ?_
  refine WO.gF rfl rfl (.inl rfl) rfl ?_
  refine WO.gF rfl rfl (.inl rfl) rfl ?_
  refine WO.q (Q.pF rfl rfl) rfl ?_
  refine WO.q (Q.move rfl) rfl ?_
  refine WO.gF rfl rfl (.inl rfl) rfl ?_
  refine WO.gF rfl rfl (.inl rfl) rfl ?_
  refine WO.q (Q.pF rfl rfl) rfl ?_
  refine WO.q (Q.move rfl) rfl ?_
  refine WO.gF rfl rfl (.inl rfl) rfl ?_
  refine WO.gF rfl rfl (.inl rfl) rfl ?_
  refine WO.q (Q.pF rfl rfl) rfl ?_
  refine WO.q (Q.assign rfl) rfl ?_
  refine WO.nil ?_
  refine End.K ?_
  refine W.sub (SubS.cons (k := 2) rfl (SubS.nil _)) ?_
  refine W.ret ?_
  refine End.rV (ResL.tmp rfl ResL.nil) ?_
  exact bool_eq (by simp_all [itemB])

theorem class_spec (p : List Nat) (hs : Bytes p) (hl : p.length ≤ 64) (i : Nat) (hi : i < p.length) (c : Nat) (hc : c < 256) : Spec tab 210 [.str p, .int .i64 ((i : Nat) : Int), .int .u8 ((c : Nat) : Int)] [] [] (ValE (fun v => ∃ h : Bool, v = .tuple [.int .i64 ((clsEnd p i : Nat) : Int), .bool h])) := by
 refine Spec.en (ftg 210 Tryz.func210) rfl (m := 115) rfl (rs := [.tmp 6, .tmp 7]) rfl (st := [(0, .str p), (1, .int .i64 ((i : Nat) : Int)), (2, .int .u8 ((c : Nat) : Int))]) rfl rfl (fun _ => rfl) (fun E => ?_)
 refine W.seq ?_
 refine W.reg ?_
 refine WO.q (Q.assign (oc (v := .int .i64 ((0 : Nat) : Int)) rfl)) rfl ?_
 refine WO.q (Q.assign rfl) rfl ?_
 refine WO.nil ?_
 refine End.K ?_
 refine W.seq ?_
 refine W.reg ?_
 refine WO.q (Q.move rfl) rfl ?_
 refine WO.q (Q.bin rfl (oc (v := .int .i64 ((1 : Nat) : Int)) rfl) rfl (bv_add (wna zo))) rfl ?_
 refine WO.q (Q.assign rfl) rfl ?_
 refine WO.nil ?_
 refine End.K ?_
 refine W.seqK1 (fun (nt : Bool) => [(0, .str p), (2, .int .u8 ((c : Nat) : Int)), (8, .int .i64 ((i + 1 : Nat) : Int)), (9, .bool nt)]) (fun (nt : Bool) => nt = decide (i + 1 < p.length ∧ p.getD (i + 1) 0 = 94)) (fun nt hI3 => ?_) (fun hJ3 => ?_)
 ·skip -- J3
  have hnt := hI3
  refine W.seqK1 (fun (j : Nat) => [(0, .str p), (2, .int .u8 ((c : Nat) : Int)), (8, .int .i64 ((j : Nat) : Int)), (9, .bool nt)]) (fun (j : Nat) => clsEnd p i = clsE j (clsF 100 false (p.drop j)) ∧ j ≤ p.length) (fun j hI5 => ?_) (fun hJ5 => ?_)
  ·skip -- J3J5
   obtain ⟨hv, hj⟩ := hI5
   refine W.seq ?_
   refine W.reg ?_
   refine WO.q (Q.assign rfl) rfl ?_
   refine WO.q (Q.assign (oc (v := .int .i64 ((0 : Nat) : Int)) rfl)) rfl ?_
   refine WO.nil ?_
   refine End.K ?_
   refine W.seq ?_
   refine W.block ?_
   refine W.loop_ind4 (fun (j : Nat) (n : Nat) (k : Nat) (ha : Bool) => [(0, .str p), (2, .int .u8 ((c : Nat) : Int)), (8, .int .i64 ((j : Nat) : Int)), (9, .bool nt), (10, .bool ha), (11, .int .i64 ((n : Nat) : Int))]) (fun _ _ _ _ => _) (fun (j : Nat) (n : Nat) (k : Nat) (ha : Bool) => clsEnd p i = clsE j (clsF k (decide (0 < n)) (p.drop j)) ∧ j ≤ p.length ∧ p.length - j < k ∧ n ≤ j) (fun (j : Nat) (n : Nat) (k : Nat) (ha : Bool) => p.length - j) (j) (0) (100) (false) ⟨hv, hj, by omega, by omega⟩ (SubS.cons rfl (SubS.cons rfl (SubS.cons rfl (SubS.cons rfl (SubS.cons rfl (SubS.cons rfl (SubS.nil _))))))) (SubH.refl _) (fun j n k ha hI0 ih0 => ?_)
   obtain ⟨hv, hj, hk, hn⟩ := hI0
   obtain ⟨k, rfl⟩ : ∃ q, k = q + 1 := ⟨k - 1, by omega⟩
   refine W.seq ?_
   refine W.seq ?_
   refine W.reg ?_
   refine WO.q (Q.move rfl) rfl ?_
   refine WO.q (Q.move rfl) rfl ?_
   refine WO.q (Q.len ud9 rfl rfl) rfl ?_
   refine WO.q (Q.bin rfl rfl rfl (bvl ltn)) rfl ?_
   refine WO.q (Q.move rfl) rfl ?_
   refine WO.sD (d := 33) rfl (fun hc33 => ?_) (fun hc33 => ?_)
   ·skip -- J3J5L0t
    refine WO.gT rfl rfl ?_
    refine WO.q (Q.move rfl) rfl ?_
    refine WO.gT rfl rfl ?_
    refine WO.q (Q.move rfl) rfl ?_
    refine WO.gT rfl rfl ?_
    refine WO.indexB hs ud9 rfl rfl zo rfl (fun c36 hd36 hb36 => ?_)
    refine WO.gT rfl rfl ?_
    refine WO.q (Q.bin rfl (oc (v := .int .u8 ((93 : Nat) : Int)) rfl) rfl (bv_neq ne_nat)) rfl ?_
    refine WO.q (Q.pT rfl rfl) rfl ?_
    refine WO.nil ?_
    refine End.K ?_
    refine W.cD rfl (fun hc38 => ?_) (fun hc38 => ?_)
    ·skip -- J3J5L0tT
     refine W.skip ?_
     refine End.K ?_
     refine W.block ?_
     refine W.seq ?_
     refine W.seq ?_
     refine W.reg ?_
     refine WO.q (Q.move rfl) rfl ?_
     refine WO.q (Q.move rfl) rfl ?_
     refine WO.indexB hs ud9 rfl rfl zo rfl (fun c41 hd41 hb41 => ?_)
     refine WO.cV rfl (oLc rfl oz) rfl (item_spec _ (by assumption)) SubR.nil rfl ?_
     refine WO.q (Q.not rfl rfl) rfl ?_
     refine WO.nil ?_
     refine End.K ?_
     refine W.sub (SubS.cons (k := 43) rfl (SubS.cons (k := 0) rfl (SubS.cons (k := 2) rfl (SubS.cons (k := 8) rfl (SubS.cons (k := 9) rfl (SubS.cons (k := 10) rfl (SubS.cons (k := 11) rfl (SubS.nil _)))))))) ?_
     refine W.condS rfl (fun hc43 => ?_) (fun hc43 => ?_)
     ·skip -- J3J5L0tTT
      refine W.seq ?_
      refine W.reg ?_
      refine WO.q (Q.assign (oc (v := .int .i64 ((0 : Nat) : Int)) rfl)) rfl ?_
      refine WO.q (Q.assign rfl) rfl ?_
      refine WO.nil ?_
      refine End.K ?_
      refine W.ret ?_
      refine End.Kr (End.Br (End.Lr (End.Br (End.Kr (End.retE (ResL.tmp rfl (ResL.tmp rfl ResL.nil)) ?_)))))
      exact ⟨_, cls_ret (by rw [hv, clsF_at (by omega), if_neg (by omega), if_pos (by rw [← hd41]; simpa using hc43)]; rfl)⟩
     ·skip -- J3J5L0tTF
      refine W.skip ?_
      refine End.K ?_
      refine W.seq ?_
      refine W.regT (by kernel_rfl) ?_
      refine WO.q (Q.move rfl) rfl ?_
      refine WO.q (Q.move rfl) rfl ?_
      refine WO.indexB hs ud9 rfl rfl zo rfl (fun c46 hd46 hb46 => ?_)
      refine WO.q (Q.move rfl) rfl ?_
      refine WO.q (Q.move rfl) rfl ?_
      refine WO.indexB hs ud9 rfl rfl zo rfl (fun c49 hd49 hb49 => ?_)
      refine WO.q (Q.assign rfl) rfl ?_
      refine WO.q (Q.assign rfl) rfl ?_
      refine WO.nil ?_
      refine End.K ?_
      refine W.seq ?_
      refine W.reg ?_
      refine WO.q (Q.move rfl) rfl ?_
      refine WO.q (Q.bin rfl (oc (v := .int .i64 ((1 : Nat) : Int)) rfl) rfl (bv_add (wna zo))) rfl ?_
      refine WO.q (Q.assign rfl) rfl ?_
      refine WO.nil ?_
      refine End.K ?_
      refine W.seqK2 (fun (q : Nat) (d : Nat) => [(0, .str p), (2, .int .u8 ((c : Nat) : Int)), (8, .int .i64 ((q : Nat) : Int)), (9, .bool nt), (10, .bool ha), (11, .int .i64 ((n : Nat) : Int)), (12, .int .u8 ((c46 : Nat) : Int)), (13, .int .u8 ((d : Nat) : Int))]) (fun (q : Nat) (d : Nat) => clsEnd p i = clsE q (clsF k true (p.drop q)) ∧ q ≤ p.length ∧ p.length - q < k ∧ j < q) (fun q d hI16 => ?_) (fun hJ16 => ?_)
      ·skip -- J3J5L0tTFJ16
       obtain ⟨hv2, hq, hkq, hjq⟩ := hI16
       refine W.seq ?_
       refine W.reg ?_
       refine WO.q (Q.move rfl) rfl ?_
       refine WO.q (Q.move rfl) rfl ?_
       refine WO.split (d := 90) rfl (fun hc90 => ?_) (fun hc90 => ?_)
       ·skip -- J3J5L0tTFJ16t
        refine WO.gF rfl rfl (.inl rfl) rfl ?_
        refine WO.gF rfl rfl (.inl rfl) rfl ?_
        refine WO.gF rfl rfl (.inl rfl) rfl ?_
        refine WO.gF rfl rfl (.inl rfl) rfl ?_
        refine WO.gF rfl rfl (.inr rfl) rfl ?_
        refine WO.gF rfl rfl (.inr rfl) rfl ?_
        refine WO.gF rfl rfl (.inr rfl) rfl ?_
        refine WO.gF rfl rfl (.inl rfl) rfl ?_
        refine WO.q (Q.pT rfl rfl) rfl ?_
        refine WO.q (Q.assign rfl) rfl ?_
        refine WO.nil ?_
        refine End.K ?_
        refine W.reg ?_
        refine WO.q (Q.move rfl) rfl ?_
        refine WO.q (Q.bin rfl (oc (v := .int .i64 ((1 : Nat) : Int)) rfl) rfl (bv_add (wna zo))) rfl ?_
        refine WO.q (Q.assign rfl) rfl ?_
        refine WO.nil ?_
        refine End.KB (End.KL ?_)
        refine W.sub (SubS.cons rfl (SubS.cons rfl (SubS.cons rfl (SubS.cons rfl (SubS.cons rfl (SubS.cons rfl (SubS.nil _))))))) (ih0 (q) (n + 1) (k) (_) ?_ ?_)
        ·exact ⟨by rw [hv2, decide_eq_true (by omega)], hq, hkq, by omega⟩
        ·exact zo
       ·skip -- J3J5L0tTFJ16f
        refine WO.gT rfl rfl ?_
        refine WO.q (Q.move rfl) rfl ?_
        refine WO.gT rfl rfl ?_
        refine WO.q (Q.move rfl) rfl ?_
        refine WO.gT rfl rfl ?_
        refine WO.q (Q.bin rfl rfl rfl (bv_geq le_nat)) rfl ?_
        refine WO.gT rfl rfl ?_
        refine WO.q (Q.move rfl) rfl ?_
        refine WO.sD (d := 94) rfl (fun hc94 => ?_) (fun hc94 => ?_)
        ·skip -- J3J5L0tTFJ16ft
         refine WO.gT rfl rfl ?_
         refine WO.q (Q.move rfl) rfl ?_
         refine WO.gT rfl rfl ?_
         refine WO.q (Q.move rfl) rfl ?_
         refine WO.gT rfl rfl ?_
         refine WO.q (Q.bin rfl rfl rfl (bv_leq le_nat)) rfl ?_
         refine WO.gT rfl rfl ?_
         refine WO.q (Q.pT rfl rfl) rfl ?_
         refine WO.q (Q.pF rfl rfl) rfl ?_
         refine WO.q (Q.assign rfl) rfl ?_
         refine WO.nil ?_
         refine End.K ?_
         refine W.reg ?_
         refine WO.q (Q.move rfl) rfl ?_
         refine WO.q (Q.bin rfl (oc (v := .int .i64 ((1 : Nat) : Int)) rfl) rfl (bv_add (wna zo))) rfl ?_
         refine WO.q (Q.assign rfl) rfl ?_
         refine WO.nil ?_
         refine End.KB (End.KL ?_)
         refine W.sub (SubS.cons rfl (SubS.cons rfl (SubS.cons rfl (SubS.cons rfl (SubS.cons rfl (SubS.cons rfl (SubS.nil _))))))) (ih0 (q) (n + 1) (k) (_) ?_ ?_)
         ·exact ⟨by rw [hv2, decide_eq_true (by omega)], hq, hkq, by omega⟩
         ·exact zo
        ·skip -- J3J5L0tTFJ16ff
         refine WO.gF rfl rfl (.inl rfl) rfl ?_
         refine WO.gF rfl rfl (.inl rfl) rfl ?_
         refine WO.gF rfl rfl (.inl rfl) rfl ?_
         refine WO.gT rfl rfl ?_
         refine WO.q (Q.pF rfl rfl) rfl ?_
         refine WO.q (Q.pF rfl rfl) rfl ?_
         refine WO.q (Q.assign rfl) rfl ?_
         refine WO.nil ?_
         refine End.K ?_
         refine W.reg ?_
         refine WO.q (Q.move rfl) rfl ?_
         refine WO.q (Q.bin rfl (oc (v := .int .i64 ((1 : Nat) : Int)) rfl) rfl (bv_add (wna zo))) rfl ?_
         refine WO.q (Q.assign rfl) rfl ?_
         refine WO.nil ?_
         refine End.KB (End.KL ?_)
         refine W.sub (SubS.cons rfl (SubS.cons rfl (SubS.cons rfl (SubS.cons rfl (SubS.cons rfl (SubS.cons rfl (SubS.nil _))))))) (ih0 (q) (n + 1) (k) (_) ?_ ?_)
         ·exact ⟨by rw [hv2, decide_eq_true (by omega)], hq, hkq, by omega⟩
         ·exact zo
      ·skip
       refine W.seq ?_
       refine W.reg ?_
       refine WO.q (Q.move rfl) rfl ?_
       refine WO.q (Q.move rfl) rfl ?_
       refine WO.q (Q.len ud9 rfl rfl) rfl ?_
       refine WO.q (Q.bin rfl rfl rfl (bvl ltn)) rfl ?_
       refine WO.q (Q.move rfl) rfl ?_
       refine WO.sD (d := 56) rfl (fun hc56 => ?_) (fun hc56 => ?_)
       ·skip -- J3J5L0tTFt
        refine WO.gT rfl rfl ?_
        refine WO.q (Q.move rfl) rfl ?_
        refine WO.gT rfl rfl ?_
        refine WO.q (Q.move rfl) rfl ?_
        refine WO.gT rfl rfl ?_
        refine WO.indexB hs ud9 rfl rfl zo rfl (fun c59 hd59 hb59 => ?_)
        refine WO.gT rfl rfl ?_
        refine WO.q (Q.bin rfl (oc (v := .int .u8 ((45 : Nat) : Int)) rfl) rfl (bv_eql eq_nat)) rfl ?_
        refine WO.q (Q.pT rfl rfl) rfl ?_
        refine WO.nil ?_
        refine End.K ?_
        refine W.sub (SubS.cons (k := 61) rfl (SubS.cons (k := 8) rfl (SubS.cons (k := 13) rfl (SubS.cons (k := 12) rfl (SubS.cons (k := 0) rfl (SubS.cons (k := 2) rfl (SubS.cons (k := 9) rfl (SubS.cons (k := 10) rfl (SubS.cons (k := 11) rfl (SubS.nil _)))))))))) ?_
        refine W.cD rfl (fun hc61 => ?_) (fun hc61 => ?_)
        ·skip -- J3J5L0tTFtT
         refine W.seq ?_
         refine W.seq ?_
         refine W.reg ?_
         refine WO.q (Q.move rfl) rfl ?_
         refine WO.q (Q.bin rfl (oc (v := .int .i64 ((1 : Nat) : Int)) rfl) rfl (bv_add (wna zo))) rfl ?_
         refine WO.q (Q.move rfl) rfl ?_
         refine WO.q (Q.len ud9 rfl rfl) rfl ?_
         refine WO.q (Q.bin rfl rfl rfl (bv_geq le_nat)) rfl ?_
         refine WO.q (Q.move rfl) rfl ?_
         refine WO.sD (d := 67) rfl (fun hc67 => ?_) (fun hc67 => ?_)
         ·skip -- J3J5L0tTFtTt
          refine WO.gF rfl rfl (.inl rfl) rfl ?_
          refine WO.gF rfl rfl (.inl rfl) rfl ?_
          refine WO.gF rfl rfl (.inl rfl) rfl ?_
          refine WO.gF rfl rfl (.inl rfl) rfl ?_
          refine WO.gF rfl rfl (.inl rfl) rfl ?_
          refine WO.gF rfl rfl (.inl rfl) rfl ?_
          refine WO.q (Q.pT rfl rfl) rfl ?_
          refine WO.q (Q.move rfl) rfl ?_
          refine WO.gF rfl rfl (.inl rfl) rfl ?_
          refine WO.gF rfl rfl (.inl rfl) rfl ?_
          refine WO.gF rfl rfl (.inl rfl) rfl ?_
          refine WO.gF rfl rfl (.inl rfl) rfl ?_
          refine WO.gF rfl rfl (.inl rfl) rfl ?_
          refine WO.gF rfl rfl (.inl rfl) rfl ?_
          refine WO.q (Q.pT rfl rfl) rfl ?_
          refine WO.nil ?_
          refine End.K ?_
          refine W.sub (SubS.cons (k := 82) rfl (SubS.cons (k := 8) rfl (SubS.cons (k := 12) rfl (SubS.cons (k := 0) rfl (SubS.cons (k := 2) rfl (SubS.cons (k := 9) rfl (SubS.cons (k := 10) rfl (SubS.cons (k := 11) rfl (SubS.nil _))))))))) ?_
          refine W.condT rfl ?_
          refine W.seq ?_
          refine W.reg ?_
          refine WO.q (Q.assign (oc (v := .int .i64 ((0 : Nat) : Int)) rfl)) rfl ?_
          refine WO.q (Q.assign rfl) rfl ?_
          refine WO.nil ?_
          refine End.K ?_
          refine W.ret ?_
          refine End.Kr (End.Kr (End.Br (End.Lr (End.Br (End.Kr (End.retE (ResL.tmp rfl (ResL.tmp rfl ResL.nil)) ?_))))))
          exact ⟨_, cls_ret (by rw [hv, clsF_at (by omega), if_neg (by omega), if_neg (by rw [← hd41]; simpa using hc43), if_pos ⟨by omega, by omega⟩, if_neg (by omega)]; rfl)⟩
         ·skip -- J3J5L0tTFtTf
          refine WO.gT rfl rfl ?_
          refine WO.q (Q.move rfl) rfl ?_
          refine WO.gT rfl rfl ?_
          refine WO.q (Q.move rfl) rfl ?_
          refine WO.gT rfl rfl ?_
          refine WO.q (Q.bin rfl (oc (v := .int .i64 ((1 : Nat) : Int)) rfl) rfl (bv_add (wna zo))) rfl ?_
          refine WO.gT rfl rfl ?_
          refine WO.indexB hs ud9 rfl rfl zo rfl (fun c71 hd71 hb71 => ?_)
          refine WO.gT rfl rfl ?_
          refine WO.cV rfl (oLc rfl oz) rfl (item_spec _ (by assumption)) SubR.nil rfl ?_
          refine WO.gT rfl rfl ?_
          refine WO.q (Q.not rfl rfl) rfl ?_
          refine WO.q (Q.pF rfl rfl) rfl ?_
          refine WO.q (Q.move rfl) rfl ?_
          refine WO.split (d := 75) rfl (fun hc75 => ?_) (fun hc75 => ?_)
          ·skip -- J3J5L0tTFtTft
           refine WO.gF rfl rfl (.inl rfl) rfl ?_
           refine WO.gF rfl rfl (.inl rfl) rfl ?_
           refine WO.gF rfl rfl (.inl rfl) rfl ?_
           refine WO.gF rfl rfl (.inl rfl) rfl ?_
           refine WO.gF rfl rfl (.inl rfl) rfl ?_
           refine WO.gF rfl rfl (.inl rfl) rfl ?_
           refine WO.q (Q.pT rfl rfl) rfl ?_
           refine WO.nil ?_
           refine End.K ?_
           refine W.sub (SubS.cons (k := 82) rfl (SubS.cons (k := 8) rfl (SubS.cons (k := 12) rfl (SubS.cons (k := 0) rfl (SubS.cons (k := 2) rfl (SubS.cons (k := 9) rfl (SubS.cons (k := 10) rfl (SubS.cons (k := 11) rfl (SubS.nil _))))))))) ?_
           refine W.condT rfl ?_
           refine W.seq ?_
           refine W.reg ?_
           refine WO.q (Q.assign (oc (v := .int .i64 ((0 : Nat) : Int)) rfl)) rfl ?_
           refine WO.q (Q.assign rfl) rfl ?_
           refine WO.nil ?_
           refine End.K ?_
           refine W.ret ?_
           refine End.Kr (End.Kr (End.Br (End.Lr (End.Br (End.Kr (End.retE (ResL.tmp rfl (ResL.tmp rfl ResL.nil)) ?_))))))
           exact ⟨_, cls_ret (by rw [hv, clsF_at (by omega), if_neg (by omega), if_neg (by rw [← hd41]; simpa using hc43), if_pos ⟨by omega, by omega⟩, if_neg (fun g => absurd g.2.1 (by show ¬ itemB (p.getD (j + 1 + 1) 0) = true; rw [← hd71]; simpa using hc75))]; rfl)⟩
          ·skip -- J3J5L0tTFtTff
           refine WO.gT rfl rfl ?_
           refine WO.q (Q.move rfl) rfl ?_
           refine WO.gT rfl rfl ?_
           refine WO.q (Q.move rfl) rfl ?_
           refine WO.gT rfl rfl ?_
           refine WO.q (Q.bin rfl (oc (v := .int .i64 ((1 : Nat) : Int)) rfl) rfl (bv_add (wna zo))) rfl ?_
           refine WO.gT rfl rfl ?_
           refine WO.indexB hs ud9 rfl rfl zo rfl (fun c79 hd79 hb79 => ?_)
           refine WO.gT rfl rfl ?_
           refine WO.q (Q.move rfl) rfl ?_
           refine WO.gT rfl rfl ?_
           refine WO.q (Q.bin rfl rfl rfl (bvl ltn)) rfl ?_
           refine WO.q (Q.pF rfl rfl) rfl ?_
           refine WO.nil ?_
           refine End.K ?_
           refine W.sub (SubS.cons (k := 82) rfl (SubS.cons (k := 8) rfl (SubS.cons (k := 12) rfl (SubS.cons (k := 0) rfl (SubS.cons (k := 2) rfl (SubS.cons (k := 9) rfl (SubS.cons (k := 10) rfl (SubS.cons (k := 11) rfl (SubS.nil _))))))))) ?_
           refine W.cD rfl (fun hc82 => ?_) (fun hc82 => ?_)
           ·skip -- J3J5L0tTFtTffT
            refine W.seq ?_
            refine W.reg ?_
            refine WO.q (Q.assign (oc (v := .int .i64 ((0 : Nat) : Int)) rfl)) rfl ?_
            refine WO.q (Q.assign rfl) rfl ?_
            refine WO.nil ?_
            refine End.K ?_
            refine W.ret ?_
            refine End.Kr (End.Kr (End.Br (End.Lr (End.Br (End.Kr (End.retE (ResL.tmp rfl (ResL.tmp rfl ResL.nil)) ?_))))))
            exact ⟨_, cls_ret (by rw [hv, clsF_at (by omega), if_neg (by omega), if_neg (by rw [← hd41]; simpa using hc43), if_pos ⟨by omega, by omega⟩, if_neg (fun g => absurd (show p.getD j 0 ≤ p.getD (j + 1 + 1) 0 from g.2.2) (by omega))]; rfl)⟩
           ·skip -- J3J5L0tTFtTffF
            refine W.skip ?_
            refine End.K ?_
            refine W.seq ?_
            refine W.reg ?_
            refine WO.q (Q.move rfl) rfl ?_
            refine WO.q (Q.move rfl) rfl ?_
            refine WO.q (Q.bin rfl (oc (v := .int .i64 ((1 : Nat) : Int)) rfl) rfl (bv_add (wna zo))) rfl ?_
            refine WO.indexB hs ud9 rfl rfl zo rfl (fun c86 hd86 hb86 => ?_)
            refine WO.q (Q.assign rfl) rfl ?_
            refine WO.nil ?_
            refine End.K ?_
            refine W.reg ?_
            refine WO.q (Q.move rfl) rfl ?_
            refine WO.q (Q.bin rfl (oc (v := .int .i64 ((2 : Nat) : Int)) rfl) rfl (bv_add (wna zo))) rfl ?_
            refine WO.q (Q.assign rfl) rfl ?_
            refine WO.nil ?_
            refine End.K (W.sub (SubS.cons rfl (SubS.cons rfl (SubS.cons rfl (SubS.cons rfl (SubS.cons rfl (SubS.cons rfl (SubS.cons rfl (SubS.cons rfl (SubS.nil _))))))))) (hJ16 (_) (_) ?_))
            exact ⟨by rw [hv, clsF_at (by omega), if_neg (by omega), if_neg (by rw [← hd41]; simpa using hc43), if_pos ⟨by omega, by omega⟩, if_pos ⟨by omega, (by show itemB (p.getD (j + 1 + 1) 0) = true; rw [← hd71]; simpa using hc75), (by show p.getD j 0 ≤ p.getD (j + 1 + 1) 0; omega)⟩, clsE_map], by omega, by omega, by omega⟩
        ·skip -- J3J5L0tTFtF
         refine W.skip ?_
         refine End.K (W.sub (SubS.cons rfl (SubS.cons rfl (SubS.cons rfl (SubS.cons rfl (SubS.cons rfl (SubS.cons rfl (SubS.cons rfl (SubS.cons rfl (SubS.nil _))))))))) (hJ16 (_) (_) ?_))
         exact ⟨by rw [hv, clsF_at (by omega), if_neg (by omega), if_neg (by rw [← hd41]; simpa using hc43), if_neg (by omega), clsE_map], by omega, by omega, by omega⟩
       ·skip -- J3J5L0tTFf
        refine WO.gF rfl rfl (.inl rfl) rfl ?_
        refine WO.gF rfl rfl (.inl rfl) rfl ?_
        refine WO.gF rfl rfl (.inl rfl) rfl ?_
        refine WO.gF rfl rfl (.inl rfl) rfl ?_
        refine WO.q (Q.pF rfl rfl) rfl ?_
        refine WO.nil ?_
        refine End.K ?_
        refine W.sub (SubS.cons (k := 61) rfl (SubS.cons (k := 8) rfl (SubS.cons (k := 13) rfl (SubS.cons (k := 12) rfl (SubS.cons (k := 0) rfl (SubS.cons (k := 2) rfl (SubS.cons (k := 9) rfl (SubS.cons (k := 10) rfl (SubS.cons (k := 11) rfl (SubS.nil _)))))))))) ?_
        refine W.condF rfl ?_
        refine W.skip ?_
        refine End.K (W.sub (SubS.cons rfl (SubS.cons rfl (SubS.cons rfl (SubS.cons rfl (SubS.cons rfl (SubS.cons rfl (SubS.cons rfl (SubS.cons rfl (SubS.nil _))))))))) (hJ16 (_) (_) ?_))
        exact ⟨by rw [hv, clsF_at (by omega), if_neg (by omega), if_neg (by rw [← hd41]; simpa using hc43), if_neg (by omega), clsE_map], by omega, by omega, by omega⟩
    ·skip -- J3J5L0tF
     refine W.exit ?_
     refine End.Kx (End.Lx (End.Bh (End.K ?_)))
     refine W.seq ?_
     refine W.seq ?_
     refine W.reg ?_
     refine WO.q (Q.move rfl) rfl ?_
     refine WO.q (Q.move rfl) rfl ?_
     refine WO.q (Q.len ud9 rfl rfl) rfl ?_
     refine WO.q (Q.bin rfl rfl rfl (bv_geq le_nat)) rfl ?_
     refine WO.q (Q.move rfl) rfl ?_
     refine WO.sD (d := 106) rfl (fun hc106 => ?_) (fun hc106 => ?_)
     ·skip -- J3J5L0tFt
      refine WO.gF rfl rfl (.inl rfl) rfl ?_
      refine WO.gF rfl rfl (.inl rfl) rfl ?_
      refine WO.q (Q.pT rfl rfl) rfl ?_
      refine WO.nil ?_
      refine End.K ?_
      refine W.sub (SubS.cons (k := 109) rfl (SubS.cons (k := 8) rfl (SubS.cons (k := 9) rfl (SubS.cons (k := 10) rfl (SubS.nil _))))) ?_
      refine W.condT rfl ?_
      refine W.seq ?_
      refine W.reg ?_
      refine WO.q (Q.assign (oc (v := .int .i64 ((0 : Nat) : Int)) rfl)) rfl ?_
      refine WO.q (Q.assign rfl) rfl ?_
      refine WO.nil ?_
      refine End.K ?_
      refine W.ret ?_
      refine End.Kr (End.retE (ResL.tmp rfl (ResL.tmp rfl ResL.nil)) ?_)
      exfalso; omega
     ·skip -- J3J5L0tFf
      refine WO.gT rfl rfl ?_
      refine WO.q (Q.move rfl) rfl ?_
      refine WO.gT rfl rfl ?_
      refine WO.q (Q.bin rfl (oc (v := .int .i64 ((0 : Nat) : Int)) rfl) rfl (bv_eql eq_nat)) rfl ?_
      refine WO.q (Q.pF rfl rfl) rfl ?_
      refine WO.nil ?_
      refine End.K ?_
      refine W.sub (SubS.cons (k := 109) rfl (SubS.cons (k := 8) rfl (SubS.cons (k := 9) rfl (SubS.cons (k := 10) rfl (SubS.nil _))))) ?_
      refine W.cD rfl (fun hc109 => ?_) (fun hc109 => ?_)
      ·skip -- J3J5L0tFfT
       refine W.seq ?_
       refine W.reg ?_
       refine WO.q (Q.assign (oc (v := .int .i64 ((0 : Nat) : Int)) rfl)) rfl ?_
       refine WO.q (Q.assign rfl) rfl ?_
       refine WO.nil ?_
       refine End.K ?_
       refine W.ret ?_
       refine End.Kr (End.retE (ResL.tmp rfl (ResL.tmp rfl ResL.nil)) ?_)
       exact ⟨_, cls_ret (by rw [hv, clsF_at (by omega), if_pos (by omega), if_neg (by simp; omega)]; rfl)⟩
      ·skip -- J3J5L0tFfF
       refine W.skip ?_
       refine End.K ?_
       refine W.seq ?_
       refine W.reg ?_
       refine WO.q (Q.move rfl) rfl ?_
       refine WO.q (Q.bin rfl (oc (v := .int .i64 ((1 : Nat) : Int)) rfl) rfl (bv_add (wna zo))) rfl ?_
       refine WO.q (Q.move rfl) rfl ?_
       refine WO.q (Q.move rfl) rfl ?_
       refine WO.q (Q.bin rfl rfl rfl (bv_bne ud4)) rfl ?_
       refine WO.q (Q.assign rfl) rfl ?_
       refine WO.q (Q.assign rfl) rfl ?_
       refine WO.nil ?_
       refine End.K ?_
       refine W.ret ?_
       refine End.retE (ResL.tmp rfl (ResL.tmp rfl ResL.nil)) ?_
       exact ⟨_, cls_ret (by rw [hv, clsF_at (by omega), if_pos (by omega), if_pos (by simp; omega)]; rfl)⟩
   ·skip -- J3J5L0f
    refine WO.gF rfl rfl (.inl rfl) rfl ?_
    refine WO.gF rfl rfl (.inl rfl) rfl ?_
    refine WO.gF rfl rfl (.inl rfl) rfl ?_
    refine WO.gF rfl rfl (.inl rfl) rfl ?_
    refine WO.q (Q.pF rfl rfl) rfl ?_
    refine WO.nil ?_
    refine End.K ?_
    refine W.condF rfl ?_
    refine W.exit ?_
    refine End.Kx (End.Lx (End.Bh (End.K ?_)))
    refine W.seq ?_
    refine W.seq ?_
    refine W.reg ?_
    refine WO.q (Q.move rfl) rfl ?_
    refine WO.q (Q.move rfl) rfl ?_
    refine WO.q (Q.len ud9 rfl rfl) rfl ?_
    refine WO.q (Q.bin rfl rfl rfl (bv_geq le_nat)) rfl ?_
    refine WO.q (Q.move rfl) rfl ?_
    refine WO.sD (d := 106) rfl (fun hc106 => ?_) (fun hc106 => ?_)
    ·skip -- J3J5L0ft
     refine WO.gF rfl rfl (.inl rfl) rfl ?_
     refine WO.gF rfl rfl (.inl rfl) rfl ?_
     refine WO.q (Q.pT rfl rfl) rfl ?_
     refine WO.nil ?_
     refine End.K ?_
     refine W.sub (SubS.cons (k := 109) rfl (SubS.cons (k := 8) rfl (SubS.cons (k := 9) rfl (SubS.cons (k := 10) rfl (SubS.nil _))))) ?_
     refine W.condT rfl ?_
     refine W.seq ?_
     refine W.reg ?_
     refine WO.q (Q.assign (oc (v := .int .i64 ((0 : Nat) : Int)) rfl)) rfl ?_
     refine WO.q (Q.assign rfl) rfl ?_
     refine WO.nil ?_
     refine End.K ?_
     refine W.ret ?_
     refine End.Kr (End.retE (ResL.tmp rfl (ResL.tmp rfl ResL.nil)) ?_)
     exact ⟨_, cls_ret (by rw [hv, clsF_nil (by omega)]; rfl)⟩
    ·skip -- J3J5L0ff
     refine WO.gT rfl rfl ?_
     refine WO.q (Q.move rfl) rfl ?_
     refine WO.gT rfl rfl ?_
     refine WO.q (Q.bin rfl (oc (v := .int .i64 ((0 : Nat) : Int)) rfl) rfl (bv_eql eq_nat)) rfl ?_
     refine WO.q (Q.pF rfl rfl) rfl ?_
     refine WO.nil ?_
     refine End.K ?_
     refine W.sub (SubS.cons (k := 109) rfl (SubS.cons (k := 8) rfl (SubS.cons (k := 9) rfl (SubS.cons (k := 10) rfl (SubS.nil _))))) ?_
     refine W.cD rfl (fun hc109 => ?_) (fun hc109 => ?_)
     ·skip -- J3J5L0ffT
      refine W.seq ?_
      refine W.reg ?_
      refine WO.q (Q.assign (oc (v := .int .i64 ((0 : Nat) : Int)) rfl)) rfl ?_
      refine WO.q (Q.assign rfl) rfl ?_
      refine WO.nil ?_
      refine End.K ?_
      refine W.ret ?_
      refine End.Kr (End.retE (ResL.tmp rfl (ResL.tmp rfl ResL.nil)) ?_)
      exfalso; omega
     ·skip -- J3J5L0ffF
      refine W.skip ?_
      refine End.K ?_
      refine W.seq ?_
      refine W.reg ?_
      refine WO.q (Q.move rfl) rfl ?_
      refine WO.q (Q.bin rfl (oc (v := .int .i64 ((1 : Nat) : Int)) rfl) rfl (bv_add (wna zo))) rfl ?_
      refine WO.q (Q.move rfl) rfl ?_
      refine WO.q (Q.move rfl) rfl ?_
      refine WO.q (Q.bin rfl rfl rfl (bv_bne ud4)) rfl ?_
      refine WO.q (Q.assign rfl) rfl ?_
      refine WO.q (Q.assign rfl) rfl ?_
      refine WO.nil ?_
      refine End.K ?_
      refine W.ret ?_
      refine End.retE (ResL.tmp rfl (ResL.tmp rfl ResL.nil)) ?_
      exfalso; omega
  ·skip
   refine W.seq ?_
   refine W.reg ?_
   refine WO.q (Q.move rfl) rfl ?_
   refine WO.nil ?_
   refine End.K ?_
   refine W.condS rfl (fun hc26 => ?_) (fun hc26 => ?_)
   ·skip -- J3T
    refine W.reg ?_
    refine WO.q (Q.move rfl) rfl ?_
    refine WO.q (Q.bin rfl (oc (v := .int .i64 ((1 : Nat) : Int)) rfl) rfl (bv_add (wna zo))) rfl ?_
    refine WO.q (Q.assign rfl) rfl ?_
    refine WO.nil ?_
    refine End.K (W.sub (SubS.cons rfl (SubS.cons rfl (SubS.cons rfl (SubS.cons rfl (SubS.nil _))))) (hJ5 (_) ?_))
    exact (clsEnd_y (by rw [hc26] at hnt; exact of_decide_eq_true hnt.symm))
   ·skip -- J3F
    refine W.skip ?_
    refine End.K (W.sub (SubS.cons rfl (SubS.cons rfl (SubS.cons rfl (SubS.cons rfl (SubS.nil _))))) (hJ5 (_) ?_))
    exact (clsEnd_n hi (by rw [hc26] at hnt; exact of_decide_eq_false hnt.symm))
 ·skip
  refine W.reg ?_
  refine WO.q (Q.move rfl) rfl ?_
  refine WO.q (Q.move rfl) rfl ?_
  refine WO.q (Q.len ud9 rfl rfl) rfl ?_
  refine WO.q (Q.bin rfl rfl rfl (bvl ltn)) rfl ?_
  refine WO.q (Q.move rfl) rfl ?_
  refine WO.sD (d := 20) rfl (fun hc20 => ?_) (fun hc20 => ?_)
  ·skip -- t
   refine WO.gT rfl rfl ?_
   refine WO.q (Q.move rfl) rfl ?_
   refine WO.gT rfl rfl ?_
   refine WO.q (Q.move rfl) rfl ?_
   refine WO.gT rfl rfl ?_
   refine WO.indexB hs ud9 rfl rfl zo rfl (fun c23 hd23 hb23 => ?_)
   refine WO.gT rfl rfl ?_
   refine WO.q (Q.bin rfl (oc (v := .int .u8 ((94 : Nat) : Int)) rfl) rfl (bv_eql eq_nat)) rfl ?_
   refine WO.q (Q.pT rfl rfl) rfl ?_
   refine WO.q (Q.assign rfl) rfl ?_
   refine WO.nil ?_
   refine End.K (W.sub (SubS.cons rfl (SubS.cons rfl (SubS.cons rfl (SubS.cons rfl (SubS.nil _))))) (hJ3 (_) ?_))
   exact (by have h : i + 1 < p.length := (by omega); simp [h, hd23])
  ·skip -- f
   refine WO.gF rfl rfl (.inl rfl) rfl ?_
   refine WO.gF rfl rfl (.inl rfl) rfl ?_
   refine WO.gF rfl rfl (.inl rfl) rfl ?_
   refine WO.gF rfl rfl (.inl rfl) rfl ?_
   refine WO.q (Q.pF rfl rfl) rfl ?_
   refine WO.q (Q.assign rfl) rfl ?_
   refine WO.nil ?_
   refine End.K (W.sub (SubS.cons rfl (SubS.cons rfl (SubS.cons rfl (SubS.cons rfl (SubS.nil _))))) (hJ3 (_) ?_))
   exact (by have h : ¬ (i + 1 < p.length) := (by omega); simp [h])
end Go.Proofs.YtfkbfnpjggkdmaaGreatDoor.Ev.P7
