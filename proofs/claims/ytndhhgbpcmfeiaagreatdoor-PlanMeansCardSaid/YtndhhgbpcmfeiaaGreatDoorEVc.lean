/- Chapter 7, by the document: classes and what is in parentheses. -/
import Derived.Test.YtndhhgbpcmfeiaaGreatDoorEVa
namespace Go.Proofs.YtndhhgbpcmfeiaaGreatDoor.Ev.P16
open Go.RowKit
set_option maxRecDepth 100000
set_option maxHeartbeats 1000000
def plainB (c : Nat) : Bool := decide (¬ c ∈ ([92, 40, 41, 91, 93, 124, 42, 43, 63, 46] : List Nat))
theorem plain_no {c i : Nat} (h : i < 10) (e : ([92, 40, 41, 91, 93, 124, 42, 43, 63, 46] : List Nat).getD i 0 = c) : oneOf [AV.bool false] = .bool (plainB c) := by
 have hm : c ∈ ([92, 40, 41, 91, 93, 124, 42, 43, 63, 46] : List Nat) := by
  rw [← e, List.getD_eq_getElem?_getD, List.getElem?_eq_getElem (by exact h)]
  exact List.getElem_mem _
 unfold plainB
 rw [decide_eq_false (fun g => g hm)]
 rfl
theorem plain_yes {c : Nat} (h : ∀ j, j < 10 → ([92, 40, 41, 91, 93, 124, 42, 43, 63, 46] : List Nat).getD j 0 ≠ c) : oneOf [AV.bool true] = .bool (plainB c) := by
 have hm : ¬ c ∈ ([92, 40, 41, 91, 93, 124, 42, 43, 63, 46] : List Nat) := by
  intro g
  obtain ⟨j, hj, e⟩ := List.getElem_of_mem g
  refine h j hj ?_
  rw [List.getD_eq_getElem?_getD, List.getElem?_eq_getElem hj]
  exact e
 unfold plainB
 rw [decide_eq_true hm]
 rfl
def itemB (c : Nat) : Bool := !decide (c = 92) && !decide (c = 91) && !decide (c = 93) && !decide (c = 94) && !decide (c = 45)
def clsF : Nat → Bool → List Nat → Option Nat
 | 0, _, _ => none
 | k + 1, ne, l =>
  if l = [] then none
  else if l.getD 0 0 = 93 then (if ne = true then some 1 else none)
  else if itemB (l.getD 0 0) = false then none
  else if 1 < l.length ∧ l.getD 1 0 = 45 then
   (if 3 ≤ l.length ∧ itemB (l.getD 2 0) = true ∧ l.getD 0 0 ≤ l.getD 2 0 then (clsF k true (l.drop 3)).map (· + 3) else none)
  else (clsF k true (l.drop 1)).map (· + 1)
def clsE (i : Nat) : Option Nat → Nat
 | none => 0
 | some n => i + n
theorem clsE_map {i m : Nat} {o : Option Nat} : clsE i (o.map (· + m)) = clsE (i + m) o := by
 cases o with
 | none => rfl
 | some n => show i + (n + m) = i + m + n; omega
def classL (l : List Nat) : Option Nat := if l ≠ [] ∧ l.getD 0 0 = 94 then (clsF 100 false (l.drop 1)).map (· + 1) else clsF 100 false l
def clsEnd (p : List Nat) (i : Nat) : Nat := clsE (i + 1) (classL (p.drop (i + 1)))
theorem drop_getD {p : List Nat} {i j : Nat} : (p.drop i).getD j 0 = p.getD (i + j) 0 := by
 rw [List.getD_eq_getElem?_getD, List.getD_eq_getElem?_getD, List.getElem?_drop]
theorem clsF_at {p : List Nat} {i k : Nat} {ne : Bool} (h : i < p.length) : clsF (k + 1) ne (p.drop i) =
  if p.getD i 0 = 93 then (if ne = true then some 1 else none)
  else if itemB (p.getD i 0) = false then none
  else if i + 1 < p.length ∧ p.getD (i + 1) 0 = 45 then
   (if i + 3 ≤ p.length ∧ itemB (p.getD (i + 2) 0) = true ∧ p.getD i 0 ≤ p.getD (i + 2) 0 then (clsF k true (p.drop (i + 3))).map (· + 3) else none)
  else (clsF k true (p.drop (i + 1))).map (· + 1) := by
 have hne : ¬ p.drop i = [] := by
  intro e
  have := congrArg List.length e
  simp at this
  omega
 have e1 : (1 < (p.drop i).length) = (i + 1 < p.length) := by rw [List.length_drop]; exact propext ⟨fun h => by omega, fun h => by omega⟩
 have e3 : (3 ≤ (p.drop i).length) = (i + 3 ≤ p.length) := by rw [List.length_drop]; exact propext ⟨fun h => by omega, fun h => by omega⟩
 conv => lhs; unfold clsF
 rw [if_neg hne]
 simp only [drop_getD, List.drop_drop, Nat.add_zero, e1, e3]
theorem cls_ret {p : List Nat} {i a : Nat} {b : Bool} (h : clsEnd p i = a) : oneOf [AV.int .i64 ((a : Nat) : Int), .bool b] = .tuple [.int .i64 ((clsEnd p i : Nat) : Int), .bool b] := by rw [h]; rfl
theorem clsEnd_y {p : List Nat} {i : Nat} (h : i + 1 < p.length ∧ p.getD (i + 1) 0 = 94) : clsEnd p i = clsE (i + 1 + 1) (clsF 100 false (p.drop (i + 1 + 1))) ∧ i + 1 + 1 ≤ p.length := by
 refine ⟨?_, by omega⟩
 have hne : p.drop (i + 1) ≠ [] := by
  intro e
  have := congrArg List.length e
  simp at this
  omega
 unfold clsEnd classL
 rw [if_pos ⟨hne, by rw [drop_getD]; exact h.2⟩, clsE_map, List.drop_drop]
theorem clsEnd_n {p : List Nat} {i : Nat} (hi : i < p.length) (h : ¬ (i + 1 < p.length ∧ p.getD (i + 1) 0 = 94)) : clsEnd p i = clsE (i + 1) (clsF 100 false (p.drop (i + 1))) ∧ i + 1 ≤ p.length := by
 refine ⟨?_, by omega⟩
 unfold clsEnd classL
 rw [if_neg]
 intro ⟨g1, g2⟩
 refine h ⟨?_, by rw [drop_getD] at g2; exact g2⟩
 apply Classical.byContradiction
 intro g
 exact g1 (List.drop_eq_nil_of_le zy)
theorem bv_bne {tb : Tab} {t : Nat} {a b : Bool} (hu : tb.und t = some .bool) : evBin tb .neq t (.bool a) (.bool b) = some (.bool (!(a == b))) := by
 show (match eqIn tb 20 t (.bool a) (.bool b) with | some b => some (AV.bool (!b)) | none => none) = _
 unfold eqIn
 simp only [hu]
 rfl
theorem clsF_nil {p : List Nat} {i k : Nat} {ne : Bool} (h : p.length ≤ i) : clsF k ne (p.drop i) = none := by
 rw [List.drop_eq_nil_of_le h]
 cases k <;> rfl
theorem plain_spec (c : Nat) (hc : c < 256) : Spec tab 210 [.int .u8 ((c : Nat) : Int)] [] [] (Val (.bool (plainB c))) := by
 refine Spec.en (ftg 210 Tryz.func210) rfl (m := 16) rfl (rs := [.tmp 2]) rfl (st := [(0, .int .u8 ((c : Nat) : Int))]) rfl rfl (fun _ => rfl) (fun E => zr (za rfl (zk (zr (zq (Q.assign (oc (v := .str [92, 40, 41, 91, 93, 124, 42, 43, 63, 46]) (by kernel_rfl))) (zk (W.seq (zr (za (zi 0) (zk (W.block (W.loop_ind (fun (i : Nat) => [(0, .int .u8 ((c : Nat) : Int)), (3, .str [92, 40, 41, 91, 93, 124, 42, 43, 63, 46]), (4, .int .i64 ((i : Nat) : Int))]) (fun _ => _) (fun (i : Nat) => i ≤ 10 ∧ ∀ j, j < i → ([92, 40, 41, 91, 93, 124, 42, 43, 63, 46] : List Nat).getD j 0 ≠ c) (fun (i : Nat) => 10 - i) (0) ⟨Nat.zero_le _, fun j h => by omega⟩ zv (SubH.refl _) (fun i hI0 ih0 => ?_)))))))))))))
 obtain ⟨h1, h2⟩ := hI0
 refine W.seq (zr (zm rfl (zm rfl (zq (Q.len ud9 rfl rfl) (zq (Q.bin rfl rfl rfl (bvl ltn)) (zk (W.cD rfl (fun hc8 => ?_) (fun hc8 => ?_))))))))
 ·refine zw (W.seq (W.block (zr (zm rfl (zm rfl (WO.indexB (by unfold Bytes; decide) ud9 rfl rfl zo rfl (fun c13 hd13 hb13 => zm rfl (zq (Q.bin rfl rfl rfl (bv_eql eq_nat)) (zk (W.cD rfl (fun hc15 => ?_) (fun hc15 => ?_)))))))))))
  ·refine zr (za rfl (zk (W.ret (End.Br (End.Kr (End.Lr (End.Br (End.Kr (End.rV (z1 rfl) ?_)))))))))
   exact plain_no (i := i) (by simp at *; omega) (by rw [← hd13]; exact hc15)
  refine W.skip (End.KB (End.K (W.reg (zm rfl (zq (Q.bin rfl (zi 1) rfl zp) (za rfl (WO.nil (End.KL (W.sub zv (ih0 (i + 1) ?_ ?_))))))))))
  ·exact ⟨by simp at *; omega, fun j h => by rcases Nat.lt_or_ge j i with g | g; exact h2 j g; have hji : j = i := zy; rw [hji, ← hd13]; exact hc15⟩
  exact (by simp at *; omega)
 refine W.exit (End.Kx (End.Lx (End.Bh (End.K (zr (za rfl (zk (W.ret (End.rV (z1 rfl) ?_)))))))))
 exact plain_yes (fun j h => h2 j (by simp at *; omega))

theorem item_spec (c : Nat) (hc : c < 256) : Spec tab 206 [.int .u8 ((c : Nat) : Int)] [] [] (Val (.bool (itemB c))) := by
 refine Spec.en (ftg 206 Tryz.func206) rfl (m := 21) rfl (rs := [.tmp 2]) rfl (st := [(0, .int .u8 ((c : Nat) : Int))]) rfl rfl (fun _ => rfl) (fun E => zr (za rfl (zk (zr (zm rfl (zq (Q.bin rfl (zu 92) rfl (bv_neq ne_nat)) (zm rfl (WO.sD (d := 5) rfl (fun hc5 => ?_) (fun hc5 => ?_)))))))))
 ·refine zT (zm rfl (zT (zq (Q.bin rfl (zu 91) rfl (bv_neq ne_nat)) (zq (Q.pT rfl rfl) (zm rfl (WO.sD (d := 9) rfl (fun hc9 => ?_) (fun hc9 => ?_)))))))
  ·refine zT (zm rfl (zT (zq (Q.bin rfl (zu 93) rfl (bv_neq ne_nat)) (zq (Q.pT rfl rfl) (zm rfl (WO.sD (d := 13) rfl (fun hc13 => ?_) (fun hc13 => ?_)))))))
   ·refine zT (zm rfl (zT (zq (Q.bin rfl (zu 94) rfl (bv_neq ne_nat)) (zq (Q.pT rfl rfl) (zm rfl (WO.sD (d := 17) rfl (fun hc17 => ?_) (fun hc17 => ?_)))))))
    ·refine zT (zm rfl (zT (zq (Q.bin rfl (zu 45) rfl (bv_neq ne_nat)) (zq (Q.pT rfl rfl) (za rfl (zk (W.sub (zc 2 rfl zzn) (W.ret (End.rV (z1 rfl) ?_)))))))))
     exact bool_eq (by simp_all [itemB])
    refine zG (zG (zq (Q.pF rfl rfl) (za rfl (zk (W.sub (zc 2 rfl zzn) (W.ret (End.rV (z1 rfl) ?_)))))))
    exact bool_eq (by simp_all [itemB])
   refine zG (zG (zq (Q.pF rfl rfl) (zm rfl (zG (zG (zq (Q.pF rfl rfl) (za rfl (zk (W.sub (zc 2 rfl zzn) (W.ret (End.rV (z1 rfl) ?_)))))))))))
   exact bool_eq (by simp_all [itemB])
  refine zG (zG (zq (Q.pF rfl rfl) (zm rfl (zG (zG (zq (Q.pF rfl rfl) (zm rfl (zG (zG (zq (Q.pF rfl rfl) (za rfl (zk (W.sub (zc 2 rfl zzn) (W.ret (End.rV (z1 rfl) ?_)))))))))))))))
  exact bool_eq (by simp_all [itemB])
 refine zG (zG (zq (Q.pF rfl rfl) (zm rfl (zG (zG (zq (Q.pF rfl rfl) (zm rfl (zG (zG (zq (Q.pF rfl rfl) (zm rfl (zG (zG (zq (Q.pF rfl rfl) (za rfl (zk (W.sub (zc 2 rfl zzn) (W.ret (End.rV (z1 rfl) ?_)))))))))))))))))))
 exact bool_eq (by simp_all [itemB])

theorem class_spec (p : List Nat) (hs : Bytes p) (hl : p.length ≤ 64) (i : Nat) (hi : i < p.length) (c : Nat) (hc : c < 256) : Spec tab 202 [.str p, .int .i64 ((i : Nat) : Int), .int .u8 ((c : Nat) : Int)] [] [] (ValE (fun v => ∃ h : Bool, v = .tuple [.int .i64 ((clsEnd p i : Nat) : Int), .bool h])) := by
 refine Spec.en (ftg 202 Tryz.func202) rfl (m := 115) rfl (rs := [.tmp 6, .tmp 7]) rfl (st := [(0, .str p), (1, .int .i64 ((i : Nat) : Int)), (2, .int .u8 ((c : Nat) : Int))]) rfl rfl (fun _ => rfl) (fun E => zr (za (zi 0) (za rfl (zk (zr (zm rfl (zq (Q.bin rfl (zi 1) rfl zp) (za rfl (zk (W.seqK1 (fun (nt : Bool) => [(0, .str p), (2, .int .u8 ((c : Nat) : Int)), (8, .int .i64 ((i + 1 : Nat) : Int)), (9, .bool nt)]) (fun (nt : Bool) => nt = decide (i + 1 < p.length ∧ p.getD (i + 1) 0 = 94)) (fun nt hI3 => ?_) (fun hJ3 => ?_)))))))))))
 ·have hnt := hI3
  refine W.seqK1 (fun (j : Nat) => [(0, .str p), (2, .int .u8 ((c : Nat) : Int)), (8, .int .i64 ((j : Nat) : Int)), (9, .bool nt)]) (fun (j : Nat) => clsEnd p i = clsE j (clsF 100 false (p.drop j)) ∧ j ≤ p.length) (fun j hI5 => ?_) (fun hJ5 => ?_)
  ·obtain ⟨hv, hj⟩ := hI5
   refine zr (za rfl (za (zi 0) (zk (W.seq (W.block (W.loop_ind4 (fun (j : Nat) (n : Nat) (k : Nat) (ha : Bool) => [(0, .str p), (2, .int .u8 ((c : Nat) : Int)), (8, .int .i64 ((j : Nat) : Int)), (9, .bool nt), (10, .bool ha), (11, .int .i64 ((n : Nat) : Int))]) (fun _ _ _ _ => _) (fun (j : Nat) (n : Nat) (k : Nat) (ha : Bool) => clsEnd p i = clsE j (clsF k (decide (0 < n)) (p.drop j)) ∧ j ≤ p.length ∧ p.length - j < k ∧ n ≤ j) (fun (j : Nat) (n : Nat) (k : Nat) (ha : Bool) => p.length - j) (j) (0) (100) (false) ⟨hv, hj, by omega, by omega⟩ zv (SubH.refl _) (fun j n k ha hI0 ih0 => ?_)))))))
   obtain ⟨hv, hj, hk, hn⟩ := hI0
   obtain ⟨k, rfl⟩ : ∃ q, k = q + 1 := ⟨k - 1, by omega⟩
   refine W.seq (zr (zm rfl (zm rfl (zq (Q.len ud9 rfl rfl) (zq (Q.bin rfl rfl rfl (bvl ltn)) (zm rfl (WO.sD (d := 33) rfl (fun hc33 => ?_) (fun hc33 => ?_))))))))
   ·refine zT (zm rfl (zT (zm rfl (zT (WO.indexB hs ud9 rfl rfl zo rfl (fun c36 hd36 hb36 => zT (zq (Q.bin rfl (zu 93) rfl (bv_neq ne_nat)) (zq (Q.pT rfl rfl) (zk (W.cD rfl (fun hc38 => ?_) (fun hc38 => ?_)))))))))))
    ·refine zw (W.block (W.seq (zr (zm rfl (zm rfl (WO.indexB hs ud9 rfl rfl zo rfl (fun c41 hd41 hb41 => WO.cV rfl (oLc rfl oz) rfl (item_spec _ (by assumption)) SubR.nil rfl (zq (Q.not rfl rfl) (zk (W.sub (zc 43 rfl (zc 0 rfl (zc 2 rfl (zc 8 rfl (zc 9 rfl (zc 10 rfl (zc 11 rfl zzn))))))) (W.condS rfl (fun hc43 => ?_) (fun hc43 => ?_))))))))))))
     ·refine zr (za (zi 0) (za rfl (zk (W.ret (End.Kr (End.Br (End.Lr (End.Br (End.Kr (End.retE (ResL.tmp rfl (z1 rfl)) ?_))))))))))
      exact ⟨_, cls_ret (by rw [hv, clsF_at zy, if_neg zy, if_pos (by rw [← hd41]; simpa using hc43)]; rfl)⟩
     refine zw (W.seq (W.regT (by kernel_rfl) (zm rfl (zm rfl (WO.indexB hs ud9 rfl rfl zo rfl (fun c46 hd46 hb46 => zm rfl (zm rfl (WO.indexB hs ud9 rfl rfl zo rfl (fun c49 hd49 hb49 => za rfl (za rfl (zk (zr (zm rfl (zq (Q.bin rfl (zi 1) rfl zp) (za rfl (zk (W.seqK2 (fun (q : Nat) (d : Nat) => [(0, .str p), (2, .int .u8 ((c : Nat) : Int)), (8, .int .i64 ((q : Nat) : Int)), (9, .bool nt), (10, .bool ha), (11, .int .i64 ((n : Nat) : Int)), (12, .int .u8 ((c46 : Nat) : Int)), (13, .int .u8 ((d : Nat) : Int))]) (fun (q : Nat) (d : Nat) => clsEnd p i = clsE q (clsF k true (p.drop q)) ∧ q ≤ p.length ∧ p.length - q < k ∧ j < q) (fun q d hI16 => ?_) (fun hJ16 => ?_))))))))))))))))))
     ·obtain ⟨hv2, hq, hkq, hjq⟩ := hI16
      refine zr (zm rfl (zm rfl (WO.split (d := 90) rfl (fun hc90 => ?_) (fun hc90 => ?_))))
      ·refine zG (zG (zG (zG (WO.gF rfl rfl (.inr rfl) rfl (WO.gF rfl rfl (.inr rfl) rfl (WO.gF rfl rfl (.inr rfl) rfl (zG (zq (Q.pT rfl rfl) (za rfl (zk (W.reg (zm rfl (zq (Q.bin rfl (zi 1) rfl zp) (za rfl (WO.nil (End.KB (End.KL (W.sub zv (ih0 (q) (n + 1) (k) (_) ?_ ?_)))))))))))))))))))
       ·exact ⟨by rw [hv2, decide_eq_true zy], hq, hkq, by omega⟩
       exact zo
      refine zT (zm rfl (zT (zm rfl (zT (zq (Q.bin rfl rfl rfl (bv_geq le_nat)) (zT (zm rfl (WO.sD (d := 94) rfl (fun hc94 => ?_) (fun hc94 => ?_)))))))))
      ·refine zT (zm rfl (zT (zm rfl (zT (zq (Q.bin rfl rfl rfl (bv_leq le_nat)) (zT (zq (Q.pT rfl rfl) (zq (Q.pF rfl rfl) (za rfl (zk (W.reg (zm rfl (zq (Q.bin rfl (zi 1) rfl zp) (za rfl (WO.nil (End.KB (End.KL (W.sub zv (ih0 (q) (n + 1) (k) (_) ?_ ?_)))))))))))))))))))
       ·exact ⟨by rw [hv2, decide_eq_true zy], hq, hkq, by omega⟩
       exact zo
      refine zG (zG (zG (zT (zq (Q.pF rfl rfl) (zq (Q.pF rfl rfl) (za rfl (zk (W.reg (zm rfl (zq (Q.bin rfl (zi 1) rfl zp) (za rfl (WO.nil (End.KB (End.KL (W.sub zv (ih0 (q) (n + 1) (k) (_) ?_ ?_))))))))))))))))
      ·exact ⟨by rw [hv2, decide_eq_true zy], hq, hkq, by omega⟩
      exact zo
     refine zr (zm rfl (zm rfl (zq (Q.len ud9 rfl rfl) (zq (Q.bin rfl rfl rfl (bvl ltn)) (zm rfl (WO.sD (d := 56) rfl (fun hc56 => ?_) (fun hc56 => ?_)))))))
     ·refine zT (zm rfl (zT (zm rfl (zT (WO.indexB hs ud9 rfl rfl zo rfl (fun c59 hd59 hb59 => zT (zq (Q.bin rfl (zu 45) rfl (bv_eql eq_nat)) (zq (Q.pT rfl rfl) (zk (W.sub (zc 61 rfl (zc 8 rfl (zc 13 rfl (zc 12 rfl (zc 0 rfl (zc 2 rfl (zc 9 rfl (zc 10 rfl (zc 11 rfl zzn))))))))) (W.cD rfl (fun hc61 => ?_) (fun hc61 => ?_))))))))))))
      ·refine W.seq (zr (zm rfl (zq (Q.bin rfl (zi 1) rfl zp) (zm rfl (zq (Q.len ud9 rfl rfl) (zq (Q.bin rfl rfl rfl (bv_geq le_nat)) (zm rfl (WO.sD (d := 67) rfl (fun hc67 => ?_) (fun hc67 => ?_)))))))))
       ·refine zG (zG (zG (zG (zG (zG (zq (Q.pT rfl rfl) (zm rfl (zG (zG (zG (zG (zG (zG (zq (Q.pT rfl rfl) (zk (W.sub (zc 82 rfl (zc 8 rfl (zc 12 rfl (zc 0 rfl (zc 2 rfl (zc 9 rfl (zc 10 rfl (zc 11 rfl zzn)))))))) (W.condT rfl (zr (za (zi 0) (za rfl (zk (W.ret (End.Kr (End.Kr (End.Br (End.Lr (End.Br (End.Kr (End.retE (ResL.tmp rfl (z1 rfl)) ?_)))))))))))))))))))))))))))))
        exact ⟨_, cls_ret (by rw [hv, clsF_at zy, if_neg zy, if_neg (by rw [← hd41]; simpa using hc43), if_pos ⟨by omega, by omega⟩, if_neg zy]; rfl)⟩
       refine zT (zm rfl (zT (zm rfl (zT (zq (Q.bin rfl (zi 1) rfl zp) (zT (WO.indexB hs ud9 rfl rfl zo rfl (fun c71 hd71 hb71 => zT (WO.cV rfl (oLc rfl oz) rfl (item_spec _ (by assumption)) SubR.nil rfl (zT (zq (Q.not rfl rfl) (zq (Q.pF rfl rfl) (zm rfl (WO.split (d := 75) rfl (fun hc75 => ?_) (fun hc75 => ?_)))))))))))))))
       ·refine zG (zG (zG (zG (zG (zG (zq (Q.pT rfl rfl) (zk (W.sub (zc 82 rfl (zc 8 rfl (zc 12 rfl (zc 0 rfl (zc 2 rfl (zc 9 rfl (zc 10 rfl (zc 11 rfl zzn)))))))) (W.condT rfl (zr (za (zi 0) (za rfl (zk (W.ret (End.Kr (End.Kr (End.Br (End.Lr (End.Br (End.Kr (End.retE (ResL.tmp rfl (z1 rfl)) ?_)))))))))))))))))))))
        exact ⟨_, cls_ret (by rw [hv, clsF_at zy, if_neg zy, if_neg (by rw [← hd41]; simpa using hc43), if_pos ⟨by omega, by omega⟩, if_neg (fun g => absurd g.2.1 (by show ¬ itemB (p.getD (j + 1 + 1) 0) = true; rw [← hd71]; simpa using hc75))]; rfl)⟩
       refine zT (zm rfl (zT (zm rfl (zT (zq (Q.bin rfl (zi 1) rfl zp) (zT (WO.indexB hs ud9 rfl rfl zo rfl (fun c79 hd79 hb79 => zT (zm rfl (zT (zq (Q.bin rfl rfl rfl (bvl ltn)) (zq (Q.pF rfl rfl) (zk (W.sub (zc 82 rfl (zc 8 rfl (zc 12 rfl (zc 0 rfl (zc 2 rfl (zc 9 rfl (zc 10 rfl (zc 11 rfl zzn)))))))) (W.cD rfl (fun hc82 => ?_) (fun hc82 => ?_))))))))))))))))
       ·refine zr (za (zi 0) (za rfl (zk (W.ret (End.Kr (End.Kr (End.Br (End.Lr (End.Br (End.Kr (End.retE (ResL.tmp rfl (z1 rfl)) ?_)))))))))))
        exact ⟨_, cls_ret (by rw [hv, clsF_at zy, if_neg zy, if_neg (by rw [← hd41]; simpa using hc43), if_pos ⟨by omega, by omega⟩, if_neg (fun g => absurd (show p.getD j 0 ≤ p.getD (j + 1 + 1) 0 from g.2.2) zy)]; rfl)⟩
       refine zw (zr (zm rfl (zm rfl (zq (Q.bin rfl (zi 1) rfl zp) (WO.indexB hs ud9 rfl rfl zo rfl (fun c86 hd86 hb86 => za rfl (zk (W.reg (zm rfl (zq (Q.bin rfl (zi 2) rfl zp) (za rfl (WO.nil (End.K (W.sub zv (hJ16 (_) (_) ?_)))))))))))))))
       exact ⟨by rw [hv, clsF_at zy, if_neg zy, if_neg (by rw [← hd41]; simpa using hc43), if_pos ⟨by omega, by omega⟩, if_pos ⟨by omega, (by show itemB (p.getD (j + 1 + 1) 0) = true; rw [← hd71]; simpa using hc75), (by show p.getD j 0 ≤ p.getD (j + 1 + 1) 0; omega)⟩, clsE_map], by omega, by omega, by omega⟩
      refine W.skip (End.K (W.sub zv (hJ16 (_) (_) ?_)))
      exact ⟨by rw [hv, clsF_at zy, if_neg zy, if_neg (by rw [← hd41]; simpa using hc43), if_neg zy, clsE_map], by omega, by omega, by omega⟩
     refine zG (zG (zG (zG (zq (Q.pF rfl rfl) (zk (W.sub (zc 61 rfl (zc 8 rfl (zc 13 rfl (zc 12 rfl (zc 0 rfl (zc 2 rfl (zc 9 rfl (zc 10 rfl (zc 11 rfl zzn))))))))) (W.condF rfl (W.skip (End.K (W.sub zv (hJ16 (_) (_) ?_)))))))))))
     exact ⟨by rw [hv, clsF_at zy, if_neg zy, if_neg (by rw [← hd41]; simpa using hc43), if_neg zy, clsE_map], by omega, by omega, by omega⟩
    refine W.exit (End.Kx (End.Lx (End.Bh (End.K (W.seq (zr (zm rfl (zm rfl (zq (Q.len ud9 rfl rfl) (zq (Q.bin rfl rfl rfl (bv_geq le_nat)) (zm rfl (WO.sD (d := 106) rfl (fun hc106 => ?_) (fun hc106 => ?_)))))))))))))
    ·refine zG (zG (zq (Q.pT rfl rfl) (zk (W.sub (zc 109 rfl (zc 8 rfl (zc 9 rfl (zc 10 rfl zzn)))) (W.condT rfl (zr (za (zi 0) (za rfl (zk (W.ret (End.Kr (End.retE (ResL.tmp rfl (z1 rfl)) ?_))))))))))))
     exfalso; omega
    refine zT (zm rfl (zT (zq (Q.bin rfl (zi 0) rfl (bv_eql eq_nat)) (zq (Q.pF rfl rfl) (zk (W.sub (zc 109 rfl (zc 8 rfl (zc 9 rfl (zc 10 rfl zzn)))) (W.cD rfl (fun hc109 => ?_) (fun hc109 => ?_))))))))
    ·refine zr (za (zi 0) (za rfl (zk (W.ret (End.Kr (End.retE (ResL.tmp rfl (z1 rfl)) ?_))))))
     exact ⟨_, cls_ret (by rw [hv, clsF_at zy, if_pos zy, if_neg (by simp; omega)]; rfl)⟩
    refine zw (zr (zm rfl (zq (Q.bin rfl (zi 1) rfl zp) (zm rfl (zm rfl (zq (Q.bin rfl rfl rfl (bv_bne ud4)) (za rfl (za rfl (zk (W.ret (End.retE (ResL.tmp rfl (z1 rfl)) ?_)))))))))))
    exact ⟨_, cls_ret (by rw [hv, clsF_at zy, if_pos zy, if_pos (by simp; omega)]; rfl)⟩
   refine zG (zG (zG (zG (zq (Q.pF rfl rfl) (zk (W.condF rfl (W.exit (End.Kx (End.Lx (End.Bh (End.K (W.seq (zr (zm rfl (zm rfl (zq (Q.len ud9 rfl rfl) (zq (Q.bin rfl rfl rfl (bv_geq le_nat)) (zm rfl (WO.sD (d := 106) rfl (fun hc106 => ?_) (fun hc106 => ?_))))))))))))))))))))
   ·refine zG (zG (zq (Q.pT rfl rfl) (zk (W.sub (zc 109 rfl (zc 8 rfl (zc 9 rfl (zc 10 rfl zzn)))) (W.condT rfl (zr (za (zi 0) (za rfl (zk (W.ret (End.Kr (End.retE (ResL.tmp rfl (z1 rfl)) ?_))))))))))))
    exact ⟨_, cls_ret (by rw [hv, clsF_nil zy]; rfl)⟩
   refine zT (zm rfl (zT (zq (Q.bin rfl (zi 0) rfl (bv_eql eq_nat)) (zq (Q.pF rfl rfl) (zk (W.sub (zc 109 rfl (zc 8 rfl (zc 9 rfl (zc 10 rfl zzn)))) (W.cD rfl (fun hc109 => ?_) (fun hc109 => ?_))))))))
   ·refine zr (za (zi 0) (za rfl (zk (W.ret (End.Kr (End.retE (ResL.tmp rfl (z1 rfl)) ?_))))))
    exfalso; omega
   refine zw (zr (zm rfl (zq (Q.bin rfl (zi 1) rfl zp) (zm rfl (zm rfl (zq (Q.bin rfl rfl rfl (bv_bne ud4)) (za rfl (za rfl (zk (W.ret (End.retE (ResL.tmp rfl (z1 rfl)) ?_)))))))))))
   exfalso; omega
  refine zr (zm rfl (zk (W.condS rfl (fun hc26 => ?_) (fun hc26 => ?_))))
  ·refine W.reg (zm rfl (zq (Q.bin rfl (zi 1) rfl zp) (za rfl (WO.nil (End.K (W.sub zv (hJ5 (_) ?_)))))))
   exact (clsEnd_y (by rw [hc26] at hnt; exact of_decide_eq_true hnt.symm))
  refine W.skip (End.K (W.sub zv (hJ5 (_) ?_)))
  exact (clsEnd_n hi (by rw [hc26] at hnt; exact of_decide_eq_false hnt.symm))
 refine W.reg (zm rfl (zm rfl (zq (Q.len ud9 rfl rfl) (zq (Q.bin rfl rfl rfl (bvl ltn)) (zm rfl (WO.sD (d := 20) rfl (fun hc20 => ?_) (fun hc20 => ?_)))))))
 ·refine zT (zm rfl (zT (zm rfl (zT (WO.indexB hs ud9 rfl rfl zo rfl (fun c23 hd23 hb23 => zT (zq (Q.bin rfl (zu 94) rfl (bv_eql eq_nat)) (zq (Q.pT rfl rfl) (za rfl (WO.nil (End.K (W.sub zv (hJ3 (_) ?_)))))))))))))
  exact (by have h : i + 1 < p.length := zy; simp [h, hd23])
 refine zG (zG (zG (zG (zq (Q.pF rfl rfl) (za rfl (WO.nil (End.K (W.sub zv (hJ3 (_) ?_)))))))))
 exact (by have h : ¬ (i + 1 < p.length) := zy; simp [h])
theorem clsF_len : ∀ {k : Nat} {ne : Bool} {l : List Nat} {n : Nat}, clsF k ne l = some n → 0 < n ∧ n ≤ l.length
 | 0, _, _, _, h => by simp [clsF] at h
 | k + 1, ne, l, n, h => by
  unfold clsF at h
  by_cases h0 : l = []
  ·rw [if_pos h0] at h; exact absurd h (by simp)
  rw [if_neg h0] at h
  have hp : 0 < l.length := List.length_pos_iff.2 h0
  by_cases h1 : l.getD 0 0 = 93
  ·rw [if_pos h1] at h
   split at h
   ·have := Option.some.inj h; omega
   ·exact absurd h (by simp)
  rw [if_neg h1] at h
  by_cases h2 : itemB (l.getD 0 0) = false
  ·rw [if_pos h2] at h; exact absurd h (by simp)
  rw [if_neg h2] at h
  by_cases h3 : 1 < l.length ∧ l.getD 1 0 = 45
  ·rw [if_pos h3] at h
   split at h
   ·rename_i g
    obtain ⟨m, hm, rfl⟩ := Option.map_eq_some_iff.1 h
    have := clsF_len hm
    rw [List.length_drop] at this
    omega
   ·exact absurd h (by simp)
  ·rw [if_neg h3] at h
   obtain ⟨m, hm, rfl⟩ := Option.map_eq_some_iff.1 h
   have := clsF_len hm
   rw [List.length_drop] at this
   omega
theorem classL_len {l : List Nat} {n : Nat} (h : classL l = some n) : 0 < n ∧ n ≤ l.length := by
 unfold classL at h
 split at h
 ·rename_i g
  obtain ⟨m, hm, rfl⟩ := Option.map_eq_some_iff.1 h
  have := clsF_len hm
  have hp : 0 < l.length := List.length_pos_iff.2 g.1
  rw [List.length_drop] at this
  omega
 ·exact clsF_len h
theorem cls_some {p : List Nat} {i : Nat} (h : ¬ clsEnd p i = 0) : ∃ n, classL (p.drop (i + 1)) = some n ∧ clsEnd p i = i + 1 + n := by
 unfold clsEnd at h ⊢
 cases e : classL (p.drop (i + 1)) with
 | none => rw [e] at h; exact absurd rfl h
 | some n => exact ⟨n, rfl, rfl⟩
def cloF : Nat → Nat → List Nat → Option Nat
 | 0, _, _ => none
 | k + 1, o, l =>
  if l = [] then none
  else if l.getD 0 0 = 92 then (cloF k o (l.drop 2)).map (· + 2)
  else if l.getD 0 0 = 91 then (match classL (l.drop 1) with
   | none => none
   | some n => (cloF k o (l.drop (1 + n))).map (· + (1 + n)))
  else if l.getD 0 0 = 40 then (cloF k (o + 1) (l.drop 1)).map (· + 1)
  else if l.getD 0 0 = 41 then (if o = 1 then some 0 else (cloF k (o - 1) (l.drop 1)).map (· + 1))
  else (cloF k o (l.drop 1)).map (· + 1)
def cloV (i : Nat) : Option Nat → Int
 | none => -1
 | some n => ((i + n : Nat) : Int)
theorem cloV_map {i m : Nat} {o : Option Nat} : cloV i (o.map (· + m)) = cloV (i + m) o := by
 cases o with
 | none => rfl
 | some n => show ((i + (n + m) : Nat) : Int) = ((i + m + n : Nat) : Int); congr 1; omega
theorem cloF_at {p : List Nat} {i k o : Nat} (h : i < p.length) : cloF (k + 1) o (p.drop i) =
  if p.getD i 0 = 92 then (cloF k o (p.drop (i + 2))).map (· + 2)
  else if p.getD i 0 = 91 then (match classL (p.drop (i + 1)) with
   | none => none
   | some n => (cloF k o (p.drop (i + (1 + n)))).map (· + (1 + n)))
  else if p.getD i 0 = 40 then (cloF k (o + 1) (p.drop (i + 1))).map (· + 1)
  else if p.getD i 0 = 41 then (if o = 1 then some 0 else (cloF k (o - 1) (p.drop (i + 1))).map (· + 1))
  else (cloF k o (p.drop (i + 1))).map (· + 1) := by
 have hne : ¬ p.drop i = [] := by
  intro e
  have := congrArg List.length e
  simp at this
  omega
 conv => lhs; unfold cloF
 rw [if_neg hne]
 simp only [drop_getD, List.drop_drop, Nat.add_zero]
theorem cloF_nil {p : List Nat} {i k o : Nat} (h : p.length ≤ i) : cloF k o (p.drop i) = none := by
 rw [List.drop_eq_nil_of_le h]
 cases k <;> rfl
theorem cls_none {p : List Nat} {i : Nat} (h : clsEnd p i = 0) : classL (p.drop (i + 1)) = none := by
 unfold clsEnd at h
 cases e : classL (p.drop (i + 1)) with
 | none => rfl
 | some n => rw [e] at h; exact absurd h (by simp [clsE])
theorem clo_ret {x y : Int} (h : y = x) : oneOf [AV.int .i64 x] = .int .i64 y := by rw [h]; rfl
theorem closing_spec (p : List Nat) (hs : Bytes p) (hl : p.length ≤ 64) (i : Nat) (hi : i < p.length) (h40 : p.getD i 0 = 40) : Spec tab 211 [.str p, .int .i64 ((i : Nat) : Int)] [] [] (Val (.int .i64 (cloV i (cloF 100 0 (p.drop i))))) := by
 refine Spec.en (ftg 211 Tryz.func211) rfl (m := 46) rfl (rs := [.tmp 4]) rfl (st := [(0, .str p), (1, .int .i64 ((i : Nat) : Int))]) rfl rfl (fun _ => rfl) (fun E => zr (za (zi 0) (zk (zr (za (zi 0) (zk (W.seq (zr (zm rfl (za rfl (zk (W.block (W.loop_ind3 (fun (j : Nat) (o : Nat) (k : Nat) => [(0, .str p), (5, .int .i64 ((o : Nat) : Int)), (6, .int .i64 ((j : Nat) : Int))]) (fun _ _ _ => _) (fun (j : Nat) (o : Nat) (k : Nat) => cloV i (cloF 100 0 (p.drop i)) = cloV j (cloF k o (p.drop j)) ∧ j ≤ p.length + 1 ∧ p.length + 1 - j < k ∧ (0 < o ∨ p.getD j 0 = 40) ∧ o ≤ j) (fun (j : Nat) (o : Nat) (k : Nat) => p.length + 1 - j) (i) (0) (100) ⟨rfl, by omega, by omega, .inr h40, Nat.zero_le _⟩ zv (SubH.refl _) (fun j o k hI0 ih0 => ?_))))))))))))))
 obtain ⟨hv, hj, hk, ho, hoj⟩ := hI0
 obtain ⟨k, rfl⟩ : ∃ q, k = q + 1 := ⟨k - 1, by omega⟩
 refine W.seq (zr (zm rfl (zm rfl (zq (Q.len ud9 rfl rfl) (zq (Q.bin rfl rfl rfl (bvl ltn)) (zk (W.cD rfl (fun hc13 => ?_) (fun hc13 => ?_))))))))
 ·refine zw (W.seqK2 (fun (q : Nat) (u : Nat) => [(0, .str p), (5, .int .i64 ((u : Nat) : Int)), (6, .int .i64 ((q : Nat) : Int))]) (fun (q : Nat) (u : Nat) => cloV i (cloF 100 0 (p.drop i)) = cloV (q + 1) (cloF k u (p.drop (q + 1))) ∧ q ≤ p.length ∧ j ≤ q ∧ 0 < u ∧ u ≤ q + 1) (fun q u hI4 => ?_) (fun hJ4 => ?_))
  ·obtain ⟨hv2, hq, hjq, hu, huq⟩ := hI4
   refine W.reg (zm rfl (zq (Q.bin rfl (zi 1) rfl zp) (za rfl (WO.nil (End.KL (W.sub zv (ih0 (q + 1) (u) (k) ?_ ?_)))))))
   ·exact ⟨hv2, by omega, by omega, .inl hu, by omega⟩
   exact zo
  refine W.block (zr (zm rfl (zm rfl (WO.indexB hs ud9 rfl rfl zo rfl (fun c18 hd18 hb18 => zk (W.block (zr (zq (Q.bin rfl (zu 92) rfl (bv_eql eq_nat)) (za rfl (zk (W.cD rfl (fun hc19 => ?_) (fun hc19 => ?_))))))))))))
  ·refine W.reg (zm rfl (zq (Q.bin rfl (zi 1) rfl zp) (za rfl (WO.nil (End.KB (End.KB (End.K (W.sub zv (hJ4 (_) (_) ?_)))))))))
   exact ⟨by rw [hv, cloF_at zy, if_pos zy, cloV_map], by omega, by omega, by omega, by omega⟩
  refine zr (zq (Q.bin rfl (zu 91) rfl (bv_eql eq_nat)) (za rfl (zk (W.cD rfl (fun hc23 => ?_) (fun hc23 => ?_)))))
  ·refine zr (zm rfl (zm rfl (WO.callE rfl (oLc rfl (oLc rfl (oLc (zu 0) oz))) rfl (class_spec _ hs zy _ zy _ zy) SubR.nil rfl (fun v28 hP28 => ?_))))
   obtain ⟨h28, rfl⟩ := hP28
   refine zm rfl (zq (Q.extract rfl rfl) (zq (Q.extract rfl rfl) (za rfl (za rfl (zk (W.sub (zc 7 rfl (zc 0 rfl (zc 5 rfl zzn))) (W.seq (zr (zm rfl (zq (Q.bin rfl (zi 0) rfl (bv_eql eq_nat)) (zk (W.cD rfl (fun hc32 => ?_) (fun hc32 => ?_)))))))))))))
   ·refine zr (za rfl (zk (W.ret (End.Kr (End.Br (End.Br (End.Kr (End.Lr (End.Br (End.Kr (End.rV (z1 rfl) ?_)))))))))))
    exact clo_ret (by rw [hv, cloF_at zy, if_neg zy, if_pos zy, cls_none zy]; rfl)
   obtain ⟨m, hm, hcm⟩ := cls_some (p := p) (i := j) zy
   have hml := classL_len hm
   simp only [List.length_drop] at hml
   refine zw (W.reg (zm rfl (zq (Q.bin rfl (zi 1) rfl (bv_sub (wns zo))) (za rfl (WO.nil (End.KB (End.KB (End.K (W.sub zv (hJ4 (_) (_) ?_))))))))))
   exact ⟨by rw [hv, cloF_at zy, if_neg zy, if_pos zy, hm]; show cloV j ((cloF k o (p.drop (j + (1 + m)))).map (· + (1 + m))) = _; rw [cloV_map, hcm, show j + (1 + m) = j + 1 + m - 1 + 1 from by omega], by omega, by omega, by omega, by omega⟩
  refine zr (zq (Q.bin rfl (zu 40) rfl (bv_eql eq_nat)) (za rfl (zk (W.cD rfl (fun hc35 => ?_) (fun hc35 => ?_)))))
  ·refine W.reg (zm rfl (zq (Q.bin rfl (zi 1) rfl zp) (za rfl (WO.nil (End.KB (End.KB (End.K (W.sub zv (hJ4 (_) (_) ?_)))))))))
   exact ⟨by rw [hv, cloF_at zy, if_neg zy, if_neg zy, if_pos zy, cloV_map], by omega, by omega, by omega, by omega⟩
  refine zr (zq (Q.bin rfl (zu 41) rfl (bv_eql eq_nat)) (za rfl (zk (W.sub (zc 39 rfl (zc 0 rfl (zc 5 rfl (zc 6 rfl zzn)))) (W.cD rfl (fun hc39 => ?_) (fun hc39 => ?_))))))
  ·refine zr (zm rfl (zq (Q.bin rfl (zi 1) rfl (bv_sub (wns zo))) (za rfl (zk (zr (zm rfl (zq (Q.bin rfl (zi 0) rfl (bv_eql eq_nat)) (zk (W.cD rfl (fun hc44 => ?_) (fun hc44 => ?_))))))))))
   ·refine zr (zm rfl (za rfl (zk (W.ret (End.Br (End.Br (End.Kr (End.Lr (End.Br (End.Kr (End.rV (z1 rfl) ?_)))))))))))
    exact clo_ret (by rw [hv, cloF_at zy, if_neg zy, if_neg zy, if_neg zy, if_pos zy, if_pos zy]; rfl)
   refine W.skip (End.KB (End.KB (End.K (W.sub zv (hJ4 (_) (_) ?_)))))
   exact ⟨by rw [hv, cloF_at zy, if_neg zy, if_neg zy, if_neg zy, if_pos zy, if_neg zy, cloV_map], by omega, by omega, by omega, by omega⟩
  refine W.skip (End.KB (End.KB (End.K (W.sub zv (hJ4 (_) (_) ?_)))))
  exact ⟨by rw [hv, cloF_at zy, if_neg zy, if_neg zy, if_neg zy, if_neg zy, cloV_map], by omega, by omega, by omega, by omega⟩
 refine W.exit (End.Kx (End.Lx (End.Bh (End.K (zr (za rfl (zk (W.ret (End.rV (z1 rfl) ?_)))))))))
 exact clo_ret (by rw [hv, cloF_nil zy]; rfl)
end Go.Proofs.YtndhhgbpcmfeiaaGreatDoor.Ev.P16
