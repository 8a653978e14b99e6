/- Chapter 7, by the document: classes and what is in parentheses. -/
import Derived.Test.YtnlnmbnopdklhaaTVa
namespace Go.Proofs.Ytnlnmbnopdklhaa.Ev
open Go.RowKit
set_option linter.unusedVariables false
set_option linter.unusedSimpArgs false
set_option maxRecDepth 100000
set_option maxHeartbeats 1000000
def plainB (c : Nat) : Bool := decide (¬ c ∈ ([92, 40, 41, 91, 93, 124, 42, 43, 63, 46] : List Nat))
theorem plain_no {c i : Nat} (h : i < 10) (e : ([92, 40, 41, 91, 93, 124, 42, 43, 63, 46] : List Nat).getD i 0 = c) : oneOf [AV.bool false] = .bool (plainB c) := by
  have hm : c ∈ ([92, 40, 41, 91, 93, 124, 42, 43, 63, 46] : List Nat) := by
    rw [← e, List.getD_eq_getElem?_getD, List.getElem?_eq_getElem (by exact h)]
    exact List.getElem_mem _
  unfold plainB
  rw [decide_eq_false (fun g => g hm)]
  rfl
theorem plain_yes {c : Nat} (h : ∀ j, j < 10 → ([92, 40, 41, 91, 93, 124, 42, 43, 63, 46] : List Nat).getD j 0 ≠ c) : oneOf [AV.bool true] = .bool (plainB c) := by
  have hm : ¬ c ∈ ([92, 40, 41, 91, 93, 124, 42, 43, 63, 46] : List Nat) := by
    intro g
    obtain ⟨j, hj, e⟩ := List.getElem_of_mem g
    refine h j hj ?_
    rw [List.getD_eq_getElem?_getD, List.getElem?_eq_getElem hj]
    exact e
  unfold plainB
  rw [decide_eq_true hm]
  rfl
def itemB (c : Nat) : Bool := !decide (c = 92) && !decide (c = 91) && !decide (c = 93) && !decide (c = 94) && !decide (c = 45)
/-- How far a class's items and its mark go. -/
def clsF : Nat → Bool → List Nat → Option Nat
  | 0, _, _ => none
  | k + 1, ne, l =>
    if l = [] then none
    else if l.getD 0 0 = 93 then (if ne = true then some 1 else none)
    else if itemB (l.getD 0 0) = false then none
    else if 1 < l.length ∧ l.getD 1 0 = 45 then
      (if 3 ≤ l.length ∧ itemB (l.getD 2 0) = true ∧ l.getD 0 0 ≤ l.getD 2 0 then (clsF k true (l.drop 3)).map (· + 3) else none)
    else (clsF k true (l.drop 1)).map (· + 1)
def clsE (i : Nat) : Option Nat → Nat
  | none => 0
  | some n => i + n
theorem clsE_map {i m : Nat} {o : Option Nat} : clsE i (o.map (· + m)) = clsE (i + m) o := by
  cases o with
  | none => rfl
  | some n => show i + (n + m) = i + m + n; omega
/-- How far a class goes behind its first mark. -/
def classL (l : List Nat) : Option Nat := if l ≠ [] ∧ l.getD 0 0 = 94 then (clsF 100 false (l.drop 1)).map (· + 1) else clsF 100 false l
/-- Where a class ends; 0: there is none. -/
def clsEnd (p : List Nat) (i : Nat) : Nat := clsE (i + 1) (classL (p.drop (i + 1)))
theorem drop_getD {p : List Nat} {i j : Nat} : (p.drop i).getD j 0 = p.getD (i + j) 0 := by
  rw [List.getD_eq_getElem?_getD, List.getD_eq_getElem?_getD, List.getElem?_drop]
theorem clsF_at {p : List Nat} {i k : Nat} {ne : Bool} (h : i < p.length) : clsF (k + 1) ne (p.drop i) =
    if p.getD i 0 = 93 then (if ne = true then some 1 else none)
    else if itemB (p.getD i 0) = false then none
    else if i + 1 < p.length ∧ p.getD (i + 1) 0 = 45 then
      (if i + 3 ≤ p.length ∧ itemB (p.getD (i + 2) 0) = true ∧ p.getD i 0 ≤ p.getD (i + 2) 0 then (clsF k true (p.drop (i + 3))).map (· + 3) else none)
    else (clsF k true (p.drop (i + 1))).map (· + 1) := by
  have hne : ¬ p.drop i = [] := by
    intro e
    have := congrArg List.length e
    simp at this
    omega
  have e1 : (1 < (p.drop i).length) = (i + 1 < p.length) := by rw [List.length_drop]; exact propext ⟨fun h => by omega, fun h => by omega⟩
  have e3 : (3 ≤ (p.drop i).length) = (i + 3 ≤ p.length) := by rw [List.length_drop]; exact propext ⟨fun h => by omega, fun h => by omega⟩
  conv => lhs; unfold clsF
  rw [if_neg hne]
  simp only [drop_getD, List.drop_drop, Nat.add_zero, e1, e3]
theorem cls_ret {p : List Nat} {i a : Nat} {b : Bool} (h : clsEnd p i = a) : oneOf [AV.int .i64 ((a : Nat) : Int), .bool b] = .tuple [.int .i64 ((clsEnd p i : Nat) : Int), .bool b] := by rw [h]; rfl
theorem clsEnd_y {p : List Nat} {i : Nat} (h : i + 1 < p.length ∧ p.getD (i + 1) 0 = 94) : clsEnd p i = clsE (i + 1 + 1) (clsF 100 false (p.drop (i + 1 + 1))) ∧ i + 1 + 1 ≤ p.length := by
  refine ⟨?_, by omega⟩
  have hne : p.drop (i + 1) ≠ [] := by
    intro e
    have := congrArg List.length e
    simp at this
    omega
  unfold clsEnd classL
  rw [if_pos ⟨hne, by rw [drop_getD]; exact h.2⟩, clsE_map, List.drop_drop]
theorem clsEnd_n {p : List Nat} {i : Nat} (hi : i < p.length) (h : ¬ (i + 1 < p.length ∧ p.getD (i + 1) 0 = 94)) : clsEnd p i = clsE (i + 1) (clsF 100 false (p.drop (i + 1))) ∧ i + 1 ≤ p.length := by
  refine ⟨?_, by omega⟩
  unfold clsEnd classL
  rw [if_neg]
  intro ⟨g1, g2⟩
  refine h ⟨?_, by rw [drop_getD] at g2; exact g2⟩
  apply Classical.byContradiction
  intro g
  exact g1 (List.drop_eq_nil_of_le (by omega))
theorem bv_bne {tb : Tab} {t : Nat} {a b : Bool} (hu : tb.und t = some .bool) : evBin tb .neq t (.bool a) (.bool b) = some (.bool (!(a == b))) := by
  show (match eqIn tb 20 t (.bool a) (.bool b) with | some b => some (AV.bool (!b)) | none => none) = _
  unfold eqIn
  simp only [hu]
  rfl
theorem clsF_nil {p : List Nat} {i k : Nat} {ne : Bool} (h : p.length ≤ i) : clsF k ne (p.drop i) = none := by
  rw [List.drop_eq_nil_of_le h]
  cases k <;> rfl
theorem plain_spec (c : Nat) (hc : c < 256) : Spec tab 82 [.int .u8 ((c : Nat) : Int)] [] [] (Val (.bool (plainB c))) := by
 refine Spec.enter' (ft_get 82 Try.func82) rfl (m := 16) rfl (rs := [.tmp 2]) rfl (st := [(0, .int .u8 ((c : Nat) : Int))]) rfl rfl (fun _ => rfl) (fun E => zr (za rfl (zk (zr (zq (Q.assign (oc (v := .str [92, 40, 41, 91, 93, 124, 42, 43, 63, 46]) (by kernel_rfl))) (zk (W.seq (zr (za (zi 0) (zk (W.block (W.loop_ind (fun (i : Nat) => [(0, .int .u8 ((c : Nat) : Int)), (3, .str [92, 40, 41, 91, 93, 124, 42, 43, 63, 46]), (4, .int .i64 ((i : Nat) : Int))]) (fun _ => _) (fun (i : Nat) => i ≤ 10 ∧ ∀ j, j < i → ([92, 40, 41, 91, 93, 124, 42, 43, 63, 46] : List Nat).getD j 0 ≠ c) (fun (i : Nat) => 10 - i) (0) ⟨Nat.zero_le _, fun j h => by omega⟩ (zd rfl (zd rfl (zd rfl zzn))) (SubH.refl _) (fun i hI0 ih0 => ?_)))))))))))))
 obtain ⟨h1, h2⟩ := hI0
 refine W.seq (zr (zm rfl (zm rfl (zq (Q.len ud9 rfl rfl) (zq (Q.bin rfl rfl rfl (bv_lss lt_nat)) (zk (W.condDS rfl (fun hc8 => ?_) (fun hc8 => ?_))))))))
 · refine zw (W.seq (W.block (zr (zm rfl (zm rfl (WO.indexB (by unfold Bytes; decide) ud9 rfl rfl (by first | omega | (simp at * <;> omega)) rfl (fun c13 hd13 hb13 => zm rfl (zq (Q.bin rfl rfl rfl (bv_eql eq_nat)) (zk (W.condDS rfl (fun hc15 => ?_) (fun hc15 => ?_)))))))))))
   · refine zr (za rfl (zk (W.ret (End.KB_ret (End.K_ret (End.KL_ret (End.KB_ret (End.K_ret (End.retV (z1 rfl) ?_)))))))))
     exact plain_no (i := i) (by simp at *; omega) (by rw [← hd13]; exact hc15)
   refine W.skip (End.KB (End.K (W.reg (zm rfl (zq (Q.bin rfl (zi 1) rfl zp) (za rfl (WO.nil (End.KL (W.sub (zd rfl (zd rfl (zd rfl zzn))) (ih0 (i + 1) ?_ ?_))))))))))
   · exact ⟨by simp at *; omega, fun j h => by rcases Nat.lt_or_ge j i with g | g; exact h2 j g; have hji : j = i := (by omega); rw [hji, ← hd13]; exact hc15⟩
   exact (by simp at *; omega)
 refine W.exit (End.K_exit (End.KL_exit (End.KB_hit (End.K (zr (za rfl (zk (W.ret (End.retV (z1 rfl) ?_)))))))))
 exact plain_yes (fun j h => h2 j (by simp at *; omega))

theorem item_spec (c : Nat) (hc : c < 256) : Spec tab 79 [.int .u8 ((c : Nat) : Int)] [] [] (Val (.bool (itemB c))) := by
 refine Spec.enter' (ft_get 79 Try.func79) rfl (m := 21) rfl (rs := [.tmp 2]) rfl (st := [(0, .int .u8 ((c : Nat) : Int))]) rfl rfl (fun _ => rfl) (fun E => zr (za rfl (zk (zr (zm rfl (zq (Q.bin rfl (zu 92) rfl (bv_neq ne_nat)) (zm rfl (WO.splitD (d := 5) rfl (fun hc5 => ?_) (fun hc5 => ?_)))))))))
 · refine WO.gT rfl rfl (zm rfl (WO.gT rfl rfl (zq (Q.bin rfl (zu 91) rfl (bv_neq ne_nat)) (zq (Q.pickT rfl rfl) (zm rfl (WO.splitD (d := 9) rfl (fun hc9 => ?_) (fun hc9 => ?_)))))))
   · refine WO.gT rfl rfl (zm rfl (WO.gT rfl rfl (zq (Q.bin rfl (zu 93) rfl (bv_neq ne_nat)) (zq (Q.pickT rfl rfl) (zm rfl (WO.splitD (d := 13) rfl (fun hc13 => ?_) (fun hc13 => ?_)))))))
     · refine WO.gT rfl rfl (zm rfl (WO.gT rfl rfl (zq (Q.bin rfl (zu 94) rfl (bv_neq ne_nat)) (zq (Q.pickT rfl rfl) (zm rfl (WO.splitD (d := 17) rfl (fun hc17 => ?_) (fun hc17 => ?_)))))))
       · refine WO.gT rfl rfl (zm rfl (WO.gT rfl rfl (zq (Q.bin rfl (zu 45) rfl (bv_neq ne_nat)) (zq (Q.pickT rfl rfl) (za rfl (zk (W.sub (zc 2 rfl zzn) (W.ret (End.retV (z1 rfl) ?_)))))))))
         exact bool_eq (by simp_all [itemB])
       refine zg rfl rfl (zg rfl rfl (zq (Q.pickF rfl rfl) (za rfl (zk (W.sub (zc 2 rfl zzn) (W.ret (End.retV (z1 rfl) ?_)))))))
       exact bool_eq (by simp_all [itemB])
     refine zg rfl rfl (zg rfl rfl (zq (Q.pickF rfl rfl) (zm rfl (zg rfl rfl (zg rfl rfl (zq (Q.pickF rfl rfl) (za rfl (zk (W.sub (zc 2 rfl zzn) (W.ret (End.retV (z1 rfl) ?_)))))))))))
     exact bool_eq (by simp_all [itemB])
   refine zg rfl rfl (zg rfl rfl (zq (Q.pickF rfl rfl) (zm rfl (zg rfl rfl (zg rfl rfl (zq (Q.pickF rfl rfl) (zm rfl (zg rfl rfl (zg rfl rfl (zq (Q.pickF rfl rfl) (za rfl (zk (W.sub (zc 2 rfl zzn) (W.ret (End.retV (z1 rfl) ?_)))))))))))))))
   exact bool_eq (by simp_all [itemB])
 refine zg rfl rfl (zg rfl rfl (zq (Q.pickF rfl rfl) (zm rfl (zg rfl rfl (zg rfl rfl (zq (Q.pickF rfl rfl) (zm rfl (zg rfl rfl (zg rfl rfl (zq (Q.pickF rfl rfl) (zm rfl (zg rfl rfl (zg rfl rfl (zq (Q.pickF rfl rfl) (za rfl (zk (W.sub (zc 2 rfl zzn) (W.ret (End.retV (z1 rfl) ?_)))))))))))))))))))
 exact bool_eq (by simp_all [itemB])

theorem class_spec (p : List Nat) (hs : Bytes p) (hl : p.length ≤ 64) (i : Nat) (hi : i < p.length) (c : Nat) (hc : c < 256) : Spec tab 76 [.str p, .int .i64 ((i : Nat) : Int), .int .u8 ((c : Nat) : Int)] [] [] (ValE (fun v => ∃ h : Bool, v = .tuple [.int .i64 ((clsEnd p i : Nat) : Int), .bool h])) := by
 refine Spec.enter' (ft_get 76 Try.func76) rfl (m := 115) rfl (rs := [.tmp 6, .tmp 7]) rfl (st := [(0, .str p), (1, .int .i64 ((i : Nat) : Int)), (2, .int .u8 ((c : Nat) : Int))]) rfl rfl (fun _ => rfl) (fun E => zr (za (zi 0) (za rfl (zk (zr (zm rfl (zq (Q.bin rfl (zi 1) rfl zp) (za rfl (zk (W.seqK1 (fun (nt : Bool) => [(0, .str p), (2, .int .u8 ((c : Nat) : Int)), (8, .int .i64 ((i + 1 : Nat) : Int)), (9, .bool nt)]) (fun (nt : Bool) => nt = decide (i + 1 < p.length ∧ p.getD (i + 1) 0 = 94)) (fun nt hI3 => ?_) (fun hJ3 => ?_)))))))))))
 · have hnt := hI3
   refine W.seqK1 (fun (j : Nat) => [(0, .str p), (2, .int .u8 ((c : Nat) : Int)), (8, .int .i64 ((j : Nat) : Int)), (9, .bool nt)]) (fun (j : Nat) => clsEnd p i = clsE j (clsF 100 false (p.drop j)) ∧ j ≤ p.length) (fun j hI5 => ?_) (fun hJ5 => ?_)
   · obtain ⟨hv, hj⟩ := hI5
     refine zr (za rfl (za (zi 0) (zk (W.seq (W.block (W.loop_ind4 (fun (j : Nat) (n : Nat) (k : Nat) (ha : Bool) => [(0, .str p), (2, .int .u8 ((c : Nat) : Int)), (8, .int .i64 ((j : Nat) : Int)), (9, .bool nt), (10, .bool ha), (11, .int .i64 ((n : Nat) : Int))]) (fun _ _ _ _ => _) (fun (j : Nat) (n : Nat) (k : Nat) (ha : Bool) => clsEnd p i = clsE j (clsF k (decide (0 < n)) (p.drop j)) ∧ j ≤ p.length ∧ p.length - j < k ∧ n ≤ j) (fun (j : Nat) (n : Nat) (k : Nat) (ha : Bool) => p.length - j) (j) (0) (100) (false) ⟨hv, hj, by omega, by omega⟩ (zd rfl (zd rfl (zd rfl (zd rfl (zd rfl (zd rfl zzn)))))) (SubH.refl _) (fun j n k ha hI0 ih0 => ?_)))))))
     obtain ⟨hv, hj, hk, hn⟩ := hI0
     obtain ⟨k, rfl⟩ : ∃ q, k = q + 1 := ⟨k - 1, by omega⟩
     refine W.seq (zr (zm rfl (zm rfl (zq (Q.len ud9 rfl rfl) (zq (Q.bin rfl rfl rfl (bv_lss lt_nat)) (zm rfl (WO.splitD (d := 33) rfl (fun hc33 => ?_) (fun hc33 => ?_))))))))
     · refine WO.gT rfl rfl (zm rfl (WO.gT rfl rfl (zm rfl (WO.gT rfl rfl (WO.indexB hs ud9 rfl rfl (by first | omega | (simp at * <;> omega)) rfl (fun c36 hd36 hb36 => WO.gT rfl rfl (zq (Q.bin rfl (zu 93) rfl (bv_neq ne_nat)) (zq (Q.pickT rfl rfl) (zk (W.condDS rfl (fun hc38 => ?_) (fun hc38 => ?_)))))))))))
       · refine zw (W.block (W.seq (zr (zm rfl (zm rfl (WO.indexB hs ud9 rfl rfl (by first | omega | (simp at * <;> omega)) rfl (fun c41 hd41 hb41 => WO.callV rfl (oLs_cons rfl oLs_nil) rfl (item_spec _ (by assumption)) SubR.nil rfl (zq (Q.not rfl rfl) (zk (W.sub (zc 43 rfl (zc 0 rfl (zc 2 rfl (zc 8 rfl (zc 9 rfl (zc 10 rfl (zc 11 rfl zzn))))))) (W.condS rfl (fun hc43 => ?_) (fun hc43 => ?_))))))))))))
         · refine zr (za (zi 0) (za rfl (zk (W.ret (End.K_ret (End.KB_ret (End.KL_ret (End.KB_ret (End.K_ret (End.retE (ResL.tmp rfl (z1 rfl)) ?_))))))))))
           exact ⟨_, cls_ret (by rw [hv, clsF_at (by omega), if_neg (by omega), if_pos (by rw [← hd41]; simpa using hc43)]; rfl)⟩
         refine zw (W.seq (W.regT (by kernel_rfl) (zm rfl (zm rfl (WO.indexB hs ud9 rfl rfl (by first | omega | (simp at * <;> omega)) rfl (fun c46 hd46 hb46 => zm rfl (zm rfl (WO.indexB hs ud9 rfl rfl (by first | omega | (simp at * <;> omega)) rfl (fun c49 hd49 hb49 => za rfl (za rfl (zk (zr (zm rfl (zq (Q.bin rfl (zi 1) rfl zp) (za rfl (zk (W.seqK2 (fun (q : Nat) (d : Nat) => [(0, .str p), (2, .int .u8 ((c : Nat) : Int)), (8, .int .i64 ((q : Nat) : Int)), (9, .bool nt), (10, .bool ha), (11, .int .i64 ((n : Nat) : Int)), (12, .int .u8 ((c46 : Nat) : Int)), (13, .int .u8 ((d : Nat) : Int))]) (fun (q : Nat) (d : Nat) => clsEnd p i = clsE q (clsF k true (p.drop q)) ∧ q ≤ p.length ∧ p.length - q < k ∧ j < q) (fun q d hI16 => ?_) (fun hJ16 => ?_))))))))))))))))))
         · obtain ⟨hv2, hq, hkq, hjq⟩ := hI16
           refine zr (zm rfl (zm rfl (WO.split (d := 90) rfl (fun hc90 => ?_) (fun hc90 => ?_))))
           · refine zg rfl rfl (zg rfl rfl (zg rfl rfl (zg rfl rfl (WO.gF rfl rfl (.inr rfl) rfl (WO.gF rfl rfl (.inr rfl) rfl (WO.gF rfl rfl (.inr rfl) rfl (zg rfl rfl (zq (Q.pickT rfl rfl) (za rfl (zk (W.reg (zm rfl (zq (Q.bin rfl (zi 1) rfl zp) (za rfl (WO.nil (End.KB (End.KL (W.sub (zd rfl (zd rfl (zd rfl (zd rfl (zd rfl (zd rfl zzn)))))) (ih0 (q) (n + 1) (k) (_) ?_ ?_)))))))))))))))))))
             · exact ⟨by rw [hv2, decide_eq_true (by omega)], hq, hkq, by omega⟩
             exact (by first | omega | (simp at * <;> omega))
           refine WO.gT rfl rfl (zm rfl (WO.gT rfl rfl (zm rfl (WO.gT rfl rfl (zq (Q.bin rfl rfl rfl (bv_geq le_nat)) (WO.gT rfl rfl (zm rfl (WO.splitD (d := 94) rfl (fun hc94 => ?_) (fun hc94 => ?_)))))))))
           · refine WO.gT rfl rfl (zm rfl (WO.gT rfl rfl (zm rfl (WO.gT rfl rfl (zq (Q.bin rfl rfl rfl (bv_leq le_nat)) (WO.gT rfl rfl (zq (Q.pickT rfl rfl) (zq (Q.pickF rfl rfl) (za rfl (zk (W.reg (zm rfl (zq (Q.bin rfl (zi 1) rfl zp) (za rfl (WO.nil (End.KB (End.KL (W.sub (zd rfl (zd rfl (zd rfl (zd rfl (zd rfl (zd rfl zzn)))))) (ih0 (q) (n + 1) (k) (_) ?_ ?_)))))))))))))))))))
             · exact ⟨by rw [hv2, decide_eq_true (by omega)], hq, hkq, by omega⟩
             exact (by first | omega | (simp at * <;> omega))
           refine zg rfl rfl (zg rfl rfl (zg rfl rfl (WO.gT rfl rfl (zq (Q.pickF rfl rfl) (zq (Q.pickF rfl rfl) (za rfl (zk (W.reg (zm rfl (zq (Q.bin rfl (zi 1) rfl zp) (za rfl (WO.nil (End.KB (End.KL (W.sub (zd rfl (zd rfl (zd rfl (zd rfl (zd rfl (zd rfl zzn)))))) (ih0 (q) (n + 1) (k) (_) ?_ ?_))))))))))))))))
           · exact ⟨by rw [hv2, decide_eq_true (by omega)], hq, hkq, by omega⟩
           exact (by first | omega | (simp at * <;> omega))
         refine zr (zm rfl (zm rfl (zq (Q.len ud9 rfl rfl) (zq (Q.bin rfl rfl rfl (bv_lss lt_nat)) (zm rfl (WO.splitD (d := 56) rfl (fun hc56 => ?_) (fun hc56 => ?_)))))))
         · refine WO.gT rfl rfl (zm rfl (WO.gT rfl rfl (zm rfl (WO.gT rfl rfl (WO.indexB hs ud9 rfl rfl (by first | omega | (simp at * <;> omega)) rfl (fun c59 hd59 hb59 => WO.gT rfl rfl (zq (Q.bin rfl (zu 45) rfl (bv_eql eq_nat)) (zq (Q.pickT rfl rfl) (zk (W.sub (zc 61 rfl (zc 8 rfl (zc 13 rfl (zc 12 rfl (zc 0 rfl (zc 2 rfl (zc 9 rfl (zc 10 rfl (zc 11 rfl zzn))))))))) (W.condDS rfl (fun hc61 => ?_) (fun hc61 => ?_))))))))))))
           · refine W.seq (zr (zm rfl (zq (Q.bin rfl (zi 1) rfl zp) (zm rfl (zq (Q.len ud9 rfl rfl) (zq (Q.bin rfl rfl rfl (bv_geq le_nat)) (zm rfl (WO.splitD (d := 67) rfl (fun hc67 => ?_) (fun hc67 => ?_)))))))))
             · refine zg rfl rfl (zg rfl rfl (zg rfl rfl (zg rfl rfl (zg rfl rfl (zg rfl rfl (zq (Q.pickT rfl rfl) (zm rfl (zg rfl rfl (zg rfl rfl (zg rfl rfl (zg rfl rfl (zg rfl rfl (zg rfl rfl (zq (Q.pickT rfl rfl) (zk (W.sub (zc 82 rfl (zc 8 rfl (zc 12 rfl (zc 0 rfl (zc 2 rfl (zc 9 rfl (zc 10 rfl (zc 11 rfl zzn)))))))) (W.condT rfl (zr (za (zi 0) (za rfl (zk (W.ret (End.K_ret (End.K_ret (End.KB_ret (End.KL_ret (End.KB_ret (End.K_ret (End.retE (ResL.tmp rfl (z1 rfl)) ?_)))))))))))))))))))))))))))))
               exact ⟨_, cls_ret (by rw [hv, clsF_at (by omega), if_neg (by omega), if_neg (by rw [← hd41]; simpa using hc43), if_pos ⟨by omega, by omega⟩, if_neg (by omega)]; rfl)⟩
             refine WO.gT rfl rfl (zm rfl (WO.gT rfl rfl (zm rfl (WO.gT rfl rfl (zq (Q.bin rfl (zi 1) rfl zp) (WO.gT rfl rfl (WO.indexB hs ud9 rfl rfl (by first | omega | (simp at * <;> omega)) rfl (fun c71 hd71 hb71 => WO.gT rfl rfl (WO.callV rfl (oLs_cons rfl oLs_nil) rfl (item_spec _ (by assumption)) SubR.nil rfl (WO.gT rfl rfl (zq (Q.not rfl rfl) (zq (Q.pickF rfl rfl) (zm rfl (WO.split (d := 75) rfl (fun hc75 => ?_) (fun hc75 => ?_)))))))))))))))
             · refine zg rfl rfl (zg rfl rfl (zg rfl rfl (zg rfl rfl (zg rfl rfl (zg rfl rfl (zq (Q.pickT rfl rfl) (zk (W.sub (zc 82 rfl (zc 8 rfl (zc 12 rfl (zc 0 rfl (zc 2 rfl (zc 9 rfl (zc 10 rfl (zc 11 rfl zzn)))))))) (W.condT rfl (zr (za (zi 0) (za rfl (zk (W.ret (End.K_ret (End.K_ret (End.KB_ret (End.KL_ret (End.KB_ret (End.K_ret (End.retE (ResL.tmp rfl (z1 rfl)) ?_)))))))))))))))))))))
               exact ⟨_, cls_ret (by rw [hv, clsF_at (by omega), if_neg (by omega), if_neg (by rw [← hd41]; simpa using hc43), if_pos ⟨by omega, by omega⟩, if_neg (fun g => absurd g.2.1 (by show ¬ itemB (p.getD (j + 1 + 1) 0) = true; rw [← hd71]; simpa using hc75))]; rfl)⟩
             refine WO.gT rfl rfl (zm rfl (WO.gT rfl rfl (zm rfl (WO.gT rfl rfl (zq (Q.bin rfl (zi 1) rfl zp) (WO.gT rfl rfl (WO.indexB hs ud9 rfl rfl (by first | omega | (simp at * <;> omega)) rfl (fun c79 hd79 hb79 => WO.gT rfl rfl (zm rfl (WO.gT rfl rfl (zq (Q.bin rfl rfl rfl (bv_lss lt_nat)) (zq (Q.pickF rfl rfl) (zk (W.sub (zc 82 rfl (zc 8 rfl (zc 12 rfl (zc 0 rfl (zc 2 rfl (zc 9 rfl (zc 10 rfl (zc 11 rfl zzn)))))))) (W.condDS rfl (fun hc82 => ?_) (fun hc82 => ?_))))))))))))))))
             · refine zr (za (zi 0) (za rfl (zk (W.ret (End.K_ret (End.K_ret (End.KB_ret (End.KL_ret (End.KB_ret (End.K_ret (End.retE (ResL.tmp rfl (z1 rfl)) ?_)))))))))))
               exact ⟨_, cls_ret (by rw [hv, clsF_at (by omega), if_neg (by omega), if_neg (by rw [← hd41]; simpa using hc43), if_pos ⟨by omega, by omega⟩, if_neg (fun g => absurd (show p.getD j 0 ≤ p.getD (j + 1 + 1) 0 from g.2.2) (by omega))]; rfl)⟩
             refine zw (zr (zm rfl (zm rfl (zq (Q.bin rfl (zi 1) rfl zp) (WO.indexB hs ud9 rfl rfl (by first | omega | (simp at * <;> omega)) rfl (fun c86 hd86 hb86 => za rfl (zk (W.reg (zm rfl (zq (Q.bin rfl (zi 2) rfl zp) (za rfl (WO.nil (End.K (W.sub (zd rfl (zd rfl (zd rfl (zd rfl (zd rfl (zd rfl (zd rfl (zd rfl zzn)))))))) (hJ16 (_) (_) ?_)))))))))))))))
             exact ⟨by rw [hv, clsF_at (by omega), if_neg (by omega), if_neg (by rw [← hd41]; simpa using hc43), if_pos ⟨by omega, by omega⟩, if_pos ⟨by omega, (by show itemB (p.getD (j + 1 + 1) 0) = true; rw [← hd71]; simpa using hc75), (by show p.getD j 0 ≤ p.getD (j + 1 + 1) 0; omega)⟩, clsE_map], by omega, by omega, by omega⟩
           refine W.skip (End.K (W.sub (zd rfl (zd rfl (zd rfl (zd rfl (zd rfl (zd rfl (zd rfl (zd rfl zzn)))))))) (hJ16 (_) (_) ?_)))
           exact ⟨by rw [hv, clsF_at (by omega), if_neg (by omega), if_neg (by rw [← hd41]; simpa using hc43), if_neg (by omega), clsE_map], by omega, by omega, by omega⟩
         refine zg rfl rfl (zg rfl rfl (zg rfl rfl (zg rfl rfl (zq (Q.pickF rfl rfl) (zk (W.sub (zc 61 rfl (zc 8 rfl (zc 13 rfl (zc 12 rfl (zc 0 rfl (zc 2 rfl (zc 9 rfl (zc 10 rfl (zc 11 rfl zzn))))))))) (W.condF rfl (W.skip (End.K (W.sub (zd rfl (zd rfl (zd rfl (zd rfl (zd rfl (zd rfl (zd rfl (zd rfl zzn)))))))) (hJ16 (_) (_) ?_)))))))))))
         exact ⟨by rw [hv, clsF_at (by omega), if_neg (by omega), if_neg (by rw [← hd41]; simpa using hc43), if_neg (by omega), clsE_map], by omega, by omega, by omega⟩
       refine W.exit (End.K_exit (End.KL_exit (End.KB_hit (End.K (W.seq (zr (zm rfl (zm rfl (zq (Q.len ud9 rfl rfl) (zq (Q.bin rfl rfl rfl (bv_geq le_nat)) (zm rfl (WO.splitD (d := 106) rfl (fun hc106 => ?_) (fun hc106 => ?_)))))))))))))
       · refine zg rfl rfl (zg rfl rfl (zq (Q.pickT rfl rfl) (zk (W.sub (zc 109 rfl (zc 8 rfl (zc 9 rfl (zc 10 rfl zzn)))) (W.condT rfl (zr (za (zi 0) (za rfl (zk (W.ret (End.K_ret (End.retE (ResL.tmp rfl (z1 rfl)) ?_))))))))))))
         exfalso; omega
       refine WO.gT rfl rfl (zm rfl (WO.gT rfl rfl (zq (Q.bin rfl (zi 0) rfl (bv_eql eq_nat)) (zq (Q.pickF rfl rfl) (zk (W.sub (zc 109 rfl (zc 8 rfl (zc 9 rfl (zc 10 rfl zzn)))) (W.condDS rfl (fun hc109 => ?_) (fun hc109 => ?_))))))))
       · refine zr (za (zi 0) (za rfl (zk (W.ret (End.K_ret (End.retE (ResL.tmp rfl (z1 rfl)) ?_))))))
         exact ⟨_, cls_ret (by rw [hv, clsF_at (by omega), if_pos (by omega), if_neg (by simp; omega)]; rfl)⟩
       refine zw (zr (zm rfl (zq (Q.bin rfl (zi 1) rfl zp) (zm rfl (zm rfl (zq (Q.bin rfl rfl rfl (bv_bne ud4)) (za rfl (za rfl (zk (W.ret (End.retE (ResL.tmp rfl (z1 rfl)) ?_)))))))))))
       exact ⟨_, cls_ret (by rw [hv, clsF_at (by omega), if_pos (by omega), if_pos (by simp; omega)]; rfl)⟩
     refine zg rfl rfl (zg rfl rfl (zg rfl rfl (zg rfl rfl (zq (Q.pickF rfl rfl) (zk (W.condF rfl (W.exit (End.K_exit (End.KL_exit (End.KB_hit (End.K (W.seq (zr (zm rfl (zm rfl (zq (Q.len ud9 rfl rfl) (zq (Q.bin rfl rfl rfl (bv_geq le_nat)) (zm rfl (WO.splitD (d := 106) rfl (fun hc106 => ?_) (fun hc106 => ?_))))))))))))))))))))
     · refine zg rfl rfl (zg rfl rfl (zq (Q.pickT rfl rfl) (zk (W.sub (zc 109 rfl (zc 8 rfl (zc 9 rfl (zc 10 rfl zzn)))) (W.condT rfl (zr (za (zi 0) (za rfl (zk (W.ret (End.K_ret (End.retE (ResL.tmp rfl (z1 rfl)) ?_))))))))))))
       exact ⟨_, cls_ret (by rw [hv, clsF_nil (by omega)]; rfl)⟩
     refine WO.gT rfl rfl (zm rfl (WO.gT rfl rfl (zq (Q.bin rfl (zi 0) rfl (bv_eql eq_nat)) (zq (Q.pickF rfl rfl) (zk (W.sub (zc 109 rfl (zc 8 rfl (zc 9 rfl (zc 10 rfl zzn)))) (W.condDS rfl (fun hc109 => ?_) (fun hc109 => ?_))))))))
     · refine zr (za (zi 0) (za rfl (zk (W.ret (End.K_ret (End.retE (ResL.tmp rfl (z1 rfl)) ?_))))))
       exfalso; omega
     refine zw (zr (zm rfl (zq (Q.bin rfl (zi 1) rfl zp) (zm rfl (zm rfl (zq (Q.bin rfl rfl rfl (bv_bne ud4)) (za rfl (za rfl (zk (W.ret (End.retE (ResL.tmp rfl (z1 rfl)) ?_)))))))))))
     exfalso; omega
   refine zr (zm rfl (zk (W.condS rfl (fun hc26 => ?_) (fun hc26 => ?_))))
   · refine W.reg (zm rfl (zq (Q.bin rfl (zi 1) rfl zp) (za rfl (WO.nil (End.K (W.sub (zd rfl (zd rfl (zd rfl (zd rfl zzn)))) (hJ5 (_) ?_)))))))
     exact (clsEnd_y (by rw [hc26] at hnt; exact of_decide_eq_true hnt.symm))
   refine W.skip (End.K (W.sub (zd rfl (zd rfl (zd rfl (zd rfl zzn)))) (hJ5 (_) ?_)))
   exact (clsEnd_n hi (by rw [hc26] at hnt; exact of_decide_eq_false hnt.symm))
 refine W.reg (zm rfl (zm rfl (zq (Q.len ud9 rfl rfl) (zq (Q.bin rfl rfl rfl (bv_lss lt_nat)) (zm rfl (WO.splitD (d := 20) rfl (fun hc20 => ?_) (fun hc20 => ?_)))))))
 · refine WO.gT rfl rfl (zm rfl (WO.gT rfl rfl (zm rfl (WO.gT rfl rfl (WO.indexB hs ud9 rfl rfl (by first | omega | (simp at * <;> omega)) rfl (fun c23 hd23 hb23 => WO.gT rfl rfl (zq (Q.bin rfl (zu 94) rfl (bv_eql eq_nat)) (zq (Q.pickT rfl rfl) (za rfl (WO.nil (End.K (W.sub (zd rfl (zd rfl (zd rfl (zd rfl zzn)))) (hJ3 (_) ?_)))))))))))))
   exact (by have h : i + 1 < p.length := (by omega); simp [h, hd23])
 refine zg rfl rfl (zg rfl rfl (zg rfl rfl (zg rfl rfl (zq (Q.pickF rfl rfl) (za rfl (WO.nil (End.K (W.sub (zd rfl (zd rfl (zd rfl (zd rfl zzn)))) (hJ3 (_) ?_)))))))))
 exact (by have h : ¬ (i + 1 < p.length) := (by omega); simp [h])
end Go.Proofs.Ytnlnmbnopdklhaa.Ev
