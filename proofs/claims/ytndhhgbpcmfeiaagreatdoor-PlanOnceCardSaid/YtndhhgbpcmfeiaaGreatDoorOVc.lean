/- Chapter 7, by the document: classes and what is in parentheses. -/
import Derived.Test.YtndhhgbpcmfeiaaGreatDoorOVa
namespace Go.Proofs.YtndhhgbpcmfeiaaGreatDoor.Ev.P16
open Go.RowKit
set_option maxRecDepth 100000
set_option maxHeartbeats 1000000
def ep (c : Nat) : Bool := decide (¬ c ∈ ([92, 40, 41, 91, 93, 124, 42, 43, 63, 46] : List Nat))
theorem CS {c i : Nat} (h : i < 10) (e : ([92, 40, 41, 91, 93, 124, 42, 43, 63, 46] : List Nat).getD i 0 = c) : ah [AV.bool false] = .bool (ep c) := by
 have hm : c ∈ ([92, 40, 41, 91, 93, 124, 42, 43, 63, 46] : List Nat) := by
  rw [<- e, List.getD_eq_getElem?_getD, List.getElem?_eq_getElem (by exact h)]
  exact List.getElem_mem _
 unfold ep
 rw [decide_eq_false (fun g => g hm)]
 rfl
theorem Ai {c : Nat} (h : ∀ j, j < 10 -> ([92, 40, 41, 91, 93, 124, 42, 43, 63, 46] : List Nat).getD j 0 ≠ c) : ah [AV.bool true] = .bool (ep c) := by
 have hm : ¬ c ∈ ([92, 40, 41, 91, 93, 124, 42, 43, 63, 46] : List Nat) := by
  intro g
  obtain ⟨j, hj, e⟩ := List.getElem_of_mem g
  refine h j hj ?_
  rw [List.getD_eq_getElem?_getD, List.getElem?_eq_getElem hj]
  exact e
 unfold ep
 rw [decide_eq_true hm]
 rfl
def ip (c : Nat) : Bool := !decide (c = 92) && !decide (c = 91) && !decide (c = 93) && !decide (c = 94) && !decide (c = 45)
def jb : Nat -> Bool -> List Nat -> Option Nat
 | 0, _, _ => none
 | k + 1, ne, l =>
  if l = [] then none
  else if l.getD 0 0 = 93 then (if ne = true then some 1 else none)
  else if ip (l.getD 0 0) = false then none
  else if 1 < l.length /\ l.getD 1 0 = 45 then
   (if 3 <= l.length /\ ip (l.getD 2 0) = true /\ l.getD 0 0 <= l.getD 2 0 then (jb k true (l.drop 3)).map (· + 3) else none)
  else (jb k true (l.drop 1)).map (· + 1)
def ja (i : Nat) : Option Nat -> Nat
 | none => 0
 | some n => i + n
theorem ic {i m : Nat} {o : Option Nat} : ja i (o.map (· + m)) = ja (i + m) o := by
 cases o with
 | none => rfl
 | some n => show i + (n + m) = i + m + n; omega
def dP (l : List Nat) : Option Nat := if l ≠ [] /\ l.getD 0 0 = 94 then (jb 100 false (l.drop 1)).map (· + 1) else jb 100 false l
def eI (p : List Nat) (i : Nat) : Nat := ja (i + 1) (dP (p.drop (i + 1)))
theorem cL {p : List Nat} {i j : Nat} : (p.drop i).getD j 0 = p.getD (i + j) 0 := by
 rw [List.getD_eq_getElem?_getD, List.getD_eq_getElem?_getD, List.getElem?_drop]
theorem gP {p : List Nat} {i k : Nat} {ne : Bool} (h : i < p.length) : jb (k + 1) ne (p.drop i) =
  if p.getD i 0 = 93 then (if ne = true then some 1 else none)
  else if ip (p.getD i 0) = false then none
  else if i + 1 < p.length /\ p.getD (i + 1) 0 = 45 then
   (if i + 3 <= p.length /\ ip (p.getD (i + 2) 0) = true /\ p.getD i 0 <= p.getD (i + 2) 0 then (jb k true (p.drop (i + 3))).map (· + 3) else none)
  else (jb k true (p.drop (i + 1))).map (· + 1) := by
 have hne : ¬ p.drop i = [] := by
  intro e
  have := congrArg List.length e
  simp at this
  omega
 have e1 : (1 < (p.drop i).length) = (i + 1 < p.length) := by rw [List.length_drop]; exact propext ⟨fun h => by omega, fun h => by omega⟩
 have e3 : (3 <= (p.drop i).length) = (i + 3 <= p.length) := by rw [List.length_drop]; exact propext ⟨fun h => by omega, fun h => by omega⟩
 conv => lhs; unfold jb
 rw [if_neg hne]
 simp only [cL, List.drop_drop, Nat.add_zero, e1, e3]
theorem jM {p : List Nat} {i a : Nat} {b : Bool} (h : eI p i = a) : ah [AV.int .i64 ((a : Nat) : Int), .bool b] = .tuple [.int .i64 ((eI p i : Nat) : Int), .bool b] := by rw [h]; rfl
theorem Bg {p : List Nat} {i : Nat} (h : i + 1 < p.length /\ p.getD (i + 1) 0 = 94) : eI p i = ja (i + 1 + 1) (jb 100 false (p.drop (i + 1 + 1))) /\ i + 1 + 1 <= p.length := by
 refine ⟨?_, by omega⟩
 have hne : p.drop (i + 1) ≠ [] := by
  intro e
  have := congrArg List.length e
  simp at this
  omega
 unfold eI dP
 rw [if_pos ⟨hne, by rw [cL]; exact h.2⟩, ic, List.drop_drop]
theorem Bf {p : List Nat} {i : Nat} (hi : i < p.length) (h : ¬ (i + 1 < p.length /\ p.getD (i + 1) 0 = 94)) : eI p i = ja (i + 1) (jb 100 false (p.drop (i + 1))) /\ i + 1 <= p.length := by
 refine ⟨?_, by omega⟩
 unfold eI dP
 rw [if_neg]
 intro ⟨g1, g2⟩
 refine h ⟨?_, by rw [cL] at g2; exact g2⟩
 apply Classical.byContradiction
 intro g
 exact g1 (List.drop_eq_nil_of_le zy)
theorem sf {tb : Tab} {t : Nat} {a b : Bool} (hu : tb.und t = some .bool) : co tb .neq t (.bool a) (.bool b) = some (.bool (!(a == b))) := by
 show (match fk tb 20 t (.bool a) (.bool b) with | some b => some (AV.bool (!b)) | none => none) = _
 unfold fk
 simp only [hu]
 rfl
theorem Bi {p : List Nat} {i k : Nat} {ne : Bool} (h : p.length <= i) : jb k ne (p.drop i) = none := by
 rw [List.drop_eq_nil_of_le h]
 cases k <;> rfl
theorem p4 (c : Nat) (hc : c < 256) : Spec aN 210 [.int .u8 ((c : Nat) : Int)] [] [] (fJ (.bool (ep c))) := by
 refine av (cX 210 Tryz.func210) rfl (m := 16) rfl (rs := [.tmp 2]) rfl (st := [(0, .int .u8 ((c : Nat) : Int))]) rfl rfl (fun _ => rfl) (fun E => zr (za rfl (zk (zr (zq (Q.assign (oc (v := .str [92, 40, 41, 91, 93, 124, 42, 43, 63, 46]) (by kernel_rfl))) (zk (W.seq (zr (za (zi 0) (zk (W.block (aM (fun (i : Nat) => [(0, .int .u8 ((c : Nat) : Int)), (3, .str [92, 40, 41, 91, 93, 124, 42, 43, 63, 46]), (4, .int .i64 ((i : Nat) : Int))]) (fun _ => _) (fun (i : Nat) => i <= 10 /\ ∀ j, j < i -> ([92, 40, 41, 91, 93, 124, 42, 43, 63, 46] : List Nat).getD j 0 ≠ c) (fun (i : Nat) => 10 - i) (0) ⟨Nat.zero_le _, fun j h => by omega⟩ zv (SubH.refl _) (fun i hI0 ih0 => ?_)))))))))))))
 obtain ⟨h1, h2⟩ := hI0
 refine W.seq (zr (zm rfl (zm rfl (zq (Q.len bH rfl rfl) (zq (aa rfl rfl rfl (ec dM)) (zk (aw rfl (fun hc8 => ?_) (fun hc8 => ?_))))))))
 ·refine zw (W.seq (W.block (zr (zm rfl (zm rfl (WO.indexB (by unfold Bytes; decide) bH rfl rfl zo rfl (fun c13 hd13 hb13 => zm rfl (zq (aa rfl rfl rfl (ag aA)) (zk (aw rfl (fun hc15 => ?_) (fun hc15 => ?_)))))))))))
  ·refine zr (za rfl (zk (W.ret (ad (ac (bE (ad (ac (ae (z1 rfl) ?_)))))))))
   exact CS (i := i) (by simp at *; omega) (by rw [<- hd13]; exact hc15)
  refine W.skip (End.KB (End.K (am (zm rfl (zq (aa rfl (zi 1) rfl zp) (za rfl (WO.nil (End.KL (W.sub zv (ih0 (i + 1) ?_ ?_))))))))))
  ·exact ⟨by simp at *; omega, fun j h => by rcases Nat.lt_or_ge j i with g | g; exact h2 j g; have hji : j = i := zy; rw [hji, <- hd13]; exact hc15⟩
  exact (by simp at *; omega)
 refine W.exit (aC (aK (aB (End.K (zr (za rfl (zk (W.ret (ae (z1 rfl) ?_)))))))))
 exact Ai (fun j h => h2 j (by simp at *; omega))

theorem rc (c : Nat) (hc : c < 256) : Spec aN 206 [.int .u8 ((c : Nat) : Int)] [] [] (fJ (.bool (ip c))) := by
 refine av (cX 206 Tryz.func206) rfl (m := 21) rfl (rs := [.tmp 2]) rfl (st := [(0, .int .u8 ((c : Nat) : Int))]) rfl rfl (fun _ => rfl) (fun E => zr (za rfl (zk (zr (zm rfl (zq (aa rfl (zu 92) rfl (aR cf)) (zm rfl (ay (d := 5) rfl (fun hc5 => ?_) (fun hc5 => ?_)))))))))
 ·refine zT (zm rfl (zT (zq (aa rfl (zu 91) rfl (aR cf)) (zq (aj rfl rfl) (zm rfl (ay (d := 9) rfl (fun hc9 => ?_) (fun hc9 => ?_)))))))
  ·refine zT (zm rfl (zT (zq (aa rfl (zu 93) rfl (aR cf)) (zq (aj rfl rfl) (zm rfl (ay (d := 13) rfl (fun hc13 => ?_) (fun hc13 => ?_)))))))
   ·refine zT (zm rfl (zT (zq (aa rfl (zu 94) rfl (aR cf)) (zq (aj rfl rfl) (zm rfl (ay (d := 17) rfl (fun hc17 => ?_) (fun hc17 => ?_)))))))
    ·refine zT (zm rfl (zT (zq (aa rfl (zu 45) rfl (aR cf)) (zq (aj rfl rfl) (za rfl (zk (W.sub (zc 2 rfl aI) (W.ret (ae (z1 rfl) ?_)))))))))
     exact cF (by simp_all [ip])
    refine z2 (zq (ax rfl rfl) (za rfl (zk (W.sub (zc 2 rfl aI) (W.ret (ae (z1 rfl) ?_))))))
    exact cF (by simp_all [ip])
   refine z2 (zq (ax rfl rfl) (zm rfl (z2 (zq (ax rfl rfl) (za rfl (zk (W.sub (zc 2 rfl aI) (W.ret (ae (z1 rfl) ?_)))))))))
   exact cF (by simp_all [ip])
  refine z2 (zq (ax rfl rfl) (zm rfl (z2 (zq (ax rfl rfl) (zm rfl (z2 (zq (ax rfl rfl) (za rfl (zk (W.sub (zc 2 rfl aI) (W.ret (ae (z1 rfl) ?_))))))))))))
  exact cF (by simp_all [ip])
 refine z2 (zq (ax rfl rfl) (zm rfl (z2 (zq (ax rfl rfl) (zm rfl (z2 (zq (ax rfl rfl) (zm rfl (z2 (zq (ax rfl rfl) (za rfl (zk (W.sub (zc 2 rfl aI) (W.ret (ae (z1 rfl) ?_)))))))))))))))
 exact cF (by simp_all [ip])

theorem ib (p : List Nat) (hs : Bytes p) (hl : p.length <= 64) (i : Nat) (hi : i < p.length) (c : Nat) (hc : c < 256) : Spec aN 202 [.str p, .int .i64 ((i : Nat) : Int), .int .u8 ((c : Nat) : Int)] [] [] (eQ (fun v => ∃ h : Bool, v = .tuple [.int .i64 ((eI p i : Nat) : Int), .bool h])) := by
 refine av (cX 202 Tryz.func202) rfl (m := 115) rfl (rs := [.tmp 6, .tmp 7]) rfl (st := [(0, .str p), (1, .int .i64 ((i : Nat) : Int)), (2, .int .u8 ((c : Nat) : Int))]) rfl rfl (fun _ => rfl) (fun E => zr (za (zi 0) (za rfl (zk (zr (zm rfl (zq (aa rfl (zi 1) rfl zp) (za rfl (zk (de (fun (nt : Bool) => [(0, .str p), (2, .int .u8 ((c : Nat) : Int)), (8, .int .i64 ((i + 1 : Nat) : Int)), (9, .bool nt)]) (fun (nt : Bool) => nt = decide (i + 1 < p.length /\ p.getD (i + 1) 0 = 94)) (fun nt hI3 => ?_) (fun hJ3 => ?_)))))))))))
 ·have hnt := hI3
  refine de (fun (j : Nat) => [(0, .str p), (2, .int .u8 ((c : Nat) : Int)), (8, .int .i64 ((j : Nat) : Int)), (9, .bool nt)]) (fun (j : Nat) => eI p i = ja j (jb 100 false (p.drop j)) /\ j <= p.length) (fun j hI5 => ?_) (fun hJ5 => ?_)
  ·obtain ⟨hv, hj⟩ := hI5
   refine zr (za rfl (za (zi 0) (zk (W.seq (W.block (gt (fun (j : Nat) (n : Nat) (k : Nat) (ha : Bool) => [(0, .str p), (2, .int .u8 ((c : Nat) : Int)), (8, .int .i64 ((j : Nat) : Int)), (9, .bool nt), (10, .bool ha), (11, .int .i64 ((n : Nat) : Int))]) (fun _ _ _ _ => _) (fun (j : Nat) (n : Nat) (k : Nat) (ha : Bool) => eI p i = ja j (jb k (decide (0 < n)) (p.drop j)) /\ j <= p.length /\ p.length - j < k /\ n <= j) (fun (j : Nat) (n : Nat) (k : Nat) (ha : Bool) => p.length - j) (j) (0) (100) (false) ⟨hv, hj, by omega, by omega⟩ zv (SubH.refl _) (fun j n k ha hI0 ih0 => ?_)))))))
   obtain ⟨hv, hj, hk, hn⟩ := hI0
   obtain ⟨k, rfl⟩ : ∃ q, k = q + 1 := ⟨k - 1, by omega⟩
   refine W.seq (zr (zm rfl (zm rfl (zq (Q.len bH rfl rfl) (zq (aa rfl rfl rfl (ec dM)) (zm rfl (ay (d := 33) rfl (fun hc33 => ?_) (fun hc33 => ?_))))))))
   ·refine zT (zm rfl (zT (zm rfl (zT (WO.indexB hs bH rfl rfl zo rfl (fun c36 hd36 hb36 => zT (zq (aa rfl (zu 93) rfl (aR cf)) (zq (aj rfl rfl) (zk (aw rfl (fun hc38 => ?_) (fun hc38 => ?_)))))))))))
    ·refine zw (W.block (W.seq (zr (zm rfl (zm rfl (WO.indexB hs bH rfl rfl zo rfl (fun c41 hd41 hb41 => aJ rfl (aD rfl oz) rfl (rc _ (by assumption)) SubR.nil rfl (zq (Q.not rfl rfl) (zk (W.sub (zc 43 rfl (zc 0 rfl (zc 2 rfl (zc 8 rfl (zc 9 rfl (zc 10 rfl (zc 11 rfl aI))))))) (aE rfl (fun hc43 => ?_) (fun hc43 => ?_))))))))))))
     ·refine zr (za (zi 0) (za rfl (zk (W.ret (ac (ad (bE (ad (ac (af (ResL.tmp rfl (z1 rfl)) ?_))))))))))
      exact ⟨_, jM (by rw [hv, gP zy, if_neg zy, if_pos (by rw [<- hd41]; simpa using hc43)]; rfl)⟩
     refine zw (W.seq (dz (by kernel_rfl) (zm rfl (zm rfl (WO.indexB hs bH rfl rfl zo rfl (fun c46 hd46 hb46 => zm rfl (zm rfl (WO.indexB hs bH rfl rfl zo rfl (fun c49 hd49 hb49 => za rfl (za rfl (zk (zr (zm rfl (zq (aa rfl (zi 1) rfl zp) (za rfl (zk (lU (fun (q : Nat) (d : Nat) => [(0, .str p), (2, .int .u8 ((c : Nat) : Int)), (8, .int .i64 ((q : Nat) : Int)), (9, .bool nt), (10, .bool ha), (11, .int .i64 ((n : Nat) : Int)), (12, .int .u8 ((c46 : Nat) : Int)), (13, .int .u8 ((d : Nat) : Int))]) (fun (q : Nat) (d : Nat) => eI p i = ja q (jb k true (p.drop q)) /\ q <= p.length /\ p.length - q < k /\ j < q) (fun q d hI16 => ?_) (fun hJ16 => ?_))))))))))))))))))
     ·obtain ⟨hv2, hq, hkq, hjq⟩ := hI16
      refine zr (zm rfl (zm rfl (WO.split (d := 90) rfl (fun hc90 => ?_) (fun hc90 => ?_))))
      ·refine z2 (z2 (WO.gF rfl rfl (.inr rfl) rfl (WO.gF rfl rfl (.inr rfl) rfl (WO.gF rfl rfl (.inr rfl) rfl (zG (zq (aj rfl rfl) (za rfl (zk (am (zm rfl (zq (aa rfl (zi 1) rfl zp) (za rfl (WO.nil (End.KB (End.KL (W.sub zv (ih0 (q) (n + 1) (k) (_) ?_ ?_)))))))))))))))))
       ·exact ⟨by rw [hv2, decide_eq_true zy], hq, hkq, by omega⟩
       exact zo
      refine zT (zm rfl (zT (zm rfl (zT (zq (aa rfl rfl rfl (cy bZ)) (zT (zm rfl (ay (d := 94) rfl (fun hc94 => ?_) (fun hc94 => ?_)))))))))
      ·refine zT (zm rfl (zT (zm rfl (zT (zq (aa rfl rfl rfl (dT bZ)) (zT (zq (aj rfl rfl) (zq (ax rfl rfl) (za rfl (zk (am (zm rfl (zq (aa rfl (zi 1) rfl zp) (za rfl (WO.nil (End.KB (End.KL (W.sub zv (ih0 (q) (n + 1) (k) (_) ?_ ?_)))))))))))))))))))
       ·exact ⟨by rw [hv2, decide_eq_true zy], hq, hkq, by omega⟩
       exact zo
      refine z2 (zG (zT (zq (ax rfl rfl) (zq (ax rfl rfl) (za rfl (zk (am (zm rfl (zq (aa rfl (zi 1) rfl zp) (za rfl (WO.nil (End.KB (End.KL (W.sub zv (ih0 (q) (n + 1) (k) (_) ?_ ?_)))))))))))))))
      ·exact ⟨by rw [hv2, decide_eq_true zy], hq, hkq, by omega⟩
      exact zo
     refine zr (zm rfl (zm rfl (zq (Q.len bH rfl rfl) (zq (aa rfl rfl rfl (ec dM)) (zm rfl (ay (d := 56) rfl (fun hc56 => ?_) (fun hc56 => ?_)))))))
     ·refine zT (zm rfl (zT (zm rfl (zT (WO.indexB hs bH rfl rfl zo rfl (fun c59 hd59 hb59 => zT (zq (aa rfl (zu 45) rfl (ag aA)) (zq (aj rfl rfl) (zk (W.sub (zc 61 rfl (zc 8 rfl (zc 13 rfl (zc 12 rfl (zc 0 rfl (zc 2 rfl (zc 9 rfl (zc 10 rfl (zc 11 rfl aI))))))))) (aw rfl (fun hc61 => ?_) (fun hc61 => ?_))))))))))))
      ·refine W.seq (zr (zm rfl (zq (aa rfl (zi 1) rfl zp) (zm rfl (zq (Q.len bH rfl rfl) (zq (aa rfl rfl rfl (cy bZ)) (zm rfl (ay (d := 67) rfl (fun hc67 => ?_) (fun hc67 => ?_)))))))))
       ·refine z2 (z2 (z2 (zq (aj rfl rfl) (zm rfl (z2 (z2 (z2 (zq (aj rfl rfl) (zk (W.sub (zc 82 rfl (zc 8 rfl (zc 12 rfl (zc 0 rfl (zc 2 rfl (zc 9 rfl (zc 10 rfl (zc 11 rfl aI)))))))) (au rfl (zr (za (zi 0) (za rfl (zk (W.ret (ac (ac (ad (bE (ad (ac (af (ResL.tmp rfl (z1 rfl)) ?_)))))))))))))))))))))))
        exact ⟨_, jM (by rw [hv, gP zy, if_neg zy, if_neg (by rw [<- hd41]; simpa using hc43), if_pos ⟨by omega, by omega⟩, if_neg zy]; rfl)⟩
       refine zT (zm rfl (zT (zm rfl (zT (zq (aa rfl (zi 1) rfl zp) (zT (WO.indexB hs bH rfl rfl zo rfl (fun c71 hd71 hb71 => zT (aJ rfl (aD rfl oz) rfl (rc _ (by assumption)) SubR.nil rfl (zT (zq (Q.not rfl rfl) (zq (ax rfl rfl) (zm rfl (WO.split (d := 75) rfl (fun hc75 => ?_) (fun hc75 => ?_)))))))))))))))
       ·refine z2 (z2 (z2 (zq (aj rfl rfl) (zk (W.sub (zc 82 rfl (zc 8 rfl (zc 12 rfl (zc 0 rfl (zc 2 rfl (zc 9 rfl (zc 10 rfl (zc 11 rfl aI)))))))) (au rfl (zr (za (zi 0) (za rfl (zk (W.ret (ac (ac (ad (bE (ad (ac (af (ResL.tmp rfl (z1 rfl)) ?_))))))))))))))))))
        exact ⟨_, jM (by rw [hv, gP zy, if_neg zy, if_neg (by rw [<- hd41]; simpa using hc43), if_pos ⟨by omega, by omega⟩, if_neg (fun g => absurd g.2.1 (by show ¬ ip (p.getD (j + 1 + 1) 0) = true; rw [<- hd71]; simpa using hc75))]; rfl)⟩
       refine zT (zm rfl (zT (zm rfl (zT (zq (aa rfl (zi 1) rfl zp) (zT (WO.indexB hs bH rfl rfl zo rfl (fun c79 hd79 hb79 => zT (zm rfl (zT (zq (aa rfl rfl rfl (ec dM)) (zq (ax rfl rfl) (zk (W.sub (zc 82 rfl (zc 8 rfl (zc 12 rfl (zc 0 rfl (zc 2 rfl (zc 9 rfl (zc 10 rfl (zc 11 rfl aI)))))))) (aw rfl (fun hc82 => ?_) (fun hc82 => ?_))))))))))))))))
       ·refine zr (za (zi 0) (za rfl (zk (W.ret (ac (ac (ad (bE (ad (ac (af (ResL.tmp rfl (z1 rfl)) ?_)))))))))))
        exact ⟨_, jM (by rw [hv, gP zy, if_neg zy, if_neg (by rw [<- hd41]; simpa using hc43), if_pos ⟨by omega, by omega⟩, if_neg (fun g => absurd (show p.getD j 0 <= p.getD (j + 1 + 1) 0 from g.2.2) zy)]; rfl)⟩
       refine zw (zr (zm rfl (zm rfl (zq (aa rfl (zi 1) rfl zp) (WO.indexB hs bH rfl rfl zo rfl (fun c86 hd86 hb86 => za rfl (zk (am (zm rfl (zq (aa rfl (zi 2) rfl zp) (za rfl (WO.nil (End.K (W.sub zv (hJ16 (_) (_) ?_)))))))))))))))
       exact ⟨by rw [hv, gP zy, if_neg zy, if_neg (by rw [<- hd41]; simpa using hc43), if_pos ⟨by omega, by omega⟩, if_pos ⟨by omega, (by show ip (p.getD (j + 1 + 1) 0) = true; rw [<- hd71]; simpa using hc75), (by show p.getD j 0 <= p.getD (j + 1 + 1) 0; omega)⟩, ic], by omega, by omega, by omega⟩
      refine W.skip (End.K (W.sub zv (hJ16 (_) (_) ?_)))
      exact ⟨by rw [hv, gP zy, if_neg zy, if_neg (by rw [<- hd41]; simpa using hc43), if_neg zy, ic], by omega, by omega, by omega⟩
     refine z2 (z2 (zq (ax rfl rfl) (zk (W.sub (zc 61 rfl (zc 8 rfl (zc 13 rfl (zc 12 rfl (zc 0 rfl (zc 2 rfl (zc 9 rfl (zc 10 rfl (zc 11 rfl aI))))))))) (az rfl (W.skip (End.K (W.sub zv (hJ16 (_) (_) ?_)))))))))
     exact ⟨by rw [hv, gP zy, if_neg zy, if_neg (by rw [<- hd41]; simpa using hc43), if_neg zy, ic], by omega, by omega, by omega⟩
    refine W.exit (aC (aK (aB (End.K (W.seq (zr (zm rfl (zm rfl (zq (Q.len bH rfl rfl) (zq (aa rfl rfl rfl (cy bZ)) (zm rfl (ay (d := 106) rfl (fun hc106 => ?_) (fun hc106 => ?_)))))))))))))
    ·refine z2 (zq (aj rfl rfl) (zk (W.sub (zc 109 rfl (zc 8 rfl (zc 9 rfl (zc 10 rfl aI)))) (au rfl (zr (za (zi 0) (za rfl (zk (W.ret (ac (af (ResL.tmp rfl (z1 rfl)) ?_)))))))))))
     exfalso; omega
    refine zT (zm rfl (zT (zq (aa rfl (zi 0) rfl (ag aA)) (zq (ax rfl rfl) (zk (W.sub (zc 109 rfl (zc 8 rfl (zc 9 rfl (zc 10 rfl aI)))) (aw rfl (fun hc109 => ?_) (fun hc109 => ?_))))))))
    ·refine zr (za (zi 0) (za rfl (zk (W.ret (ac (af (ResL.tmp rfl (z1 rfl)) ?_))))))
     exact ⟨_, jM (by rw [hv, gP zy, if_pos zy, if_neg (by simp; omega)]; rfl)⟩
    refine zw (zr (zm rfl (zq (aa rfl (zi 1) rfl zp) (zm rfl (zm rfl (zq (aa rfl rfl rfl (sf GG)) (za rfl (za rfl (zk (W.ret (af (ResL.tmp rfl (z1 rfl)) ?_)))))))))))
    exact ⟨_, jM (by rw [hv, gP zy, if_pos zy, if_pos (by simp; omega)]; rfl)⟩
   refine z2 (z2 (zq (ax rfl rfl) (zk (az rfl (W.exit (aC (aK (aB (End.K (W.seq (zr (zm rfl (zm rfl (zq (Q.len bH rfl rfl) (zq (aa rfl rfl rfl (cy bZ)) (zm rfl (ay (d := 106) rfl (fun hc106 => ?_) (fun hc106 => ?_))))))))))))))))))
   ·refine z2 (zq (aj rfl rfl) (zk (W.sub (zc 109 rfl (zc 8 rfl (zc 9 rfl (zc 10 rfl aI)))) (au rfl (zr (za (zi 0) (za rfl (zk (W.ret (ac (af (ResL.tmp rfl (z1 rfl)) ?_)))))))))))
    exact ⟨_, jM (by rw [hv, Bi zy]; rfl)⟩
   refine zT (zm rfl (zT (zq (aa rfl (zi 0) rfl (ag aA)) (zq (ax rfl rfl) (zk (W.sub (zc 109 rfl (zc 8 rfl (zc 9 rfl (zc 10 rfl aI)))) (aw rfl (fun hc109 => ?_) (fun hc109 => ?_))))))))
   ·refine zr (za (zi 0) (za rfl (zk (W.ret (ac (af (ResL.tmp rfl (z1 rfl)) ?_))))))
    exfalso; omega
   refine zw (zr (zm rfl (zq (aa rfl (zi 1) rfl zp) (zm rfl (zm rfl (zq (aa rfl rfl rfl (sf GG)) (za rfl (za rfl (zk (W.ret (af (ResL.tmp rfl (z1 rfl)) ?_)))))))))))
   exfalso; omega
  refine zr (zm rfl (zk (aE rfl (fun hc26 => ?_) (fun hc26 => ?_))))
  ·refine am (zm rfl (zq (aa rfl (zi 1) rfl zp) (za rfl (WO.nil (End.K (W.sub zv (hJ5 (_) ?_)))))))
   exact (Bg (by rw [hc26] at hnt; exact of_decide_eq_true hnt.symm))
  refine W.skip (End.K (W.sub zv (hJ5 (_) ?_)))
  exact (Bf hi (by rw [hc26] at hnt; exact of_decide_eq_false hnt.symm))
 refine am (zm rfl (zm rfl (zq (Q.len bH rfl rfl) (zq (aa rfl rfl rfl (ec dM)) (zm rfl (ay (d := 20) rfl (fun hc20 => ?_) (fun hc20 => ?_)))))))
 ·refine zT (zm rfl (zT (zm rfl (zT (WO.indexB hs bH rfl rfl zo rfl (fun c23 hd23 hb23 => zT (zq (aa rfl (zu 94) rfl (ag aA)) (zq (aj rfl rfl) (za rfl (WO.nil (End.K (W.sub zv (hJ3 (_) ?_)))))))))))))
  exact (by have h : i + 1 < p.length := zy; simp [h, hd23])
 refine z2 (z2 (zq (ax rfl rfl) (za rfl (WO.nil (End.K (W.sub zv (hJ3 (_) ?_)))))))
 exact (by have h : ¬ (i + 1 < p.length) := zy; simp [h])
theorem jr : ∀ {k : Nat} {ne : Bool} {l : List Nat} {n : Nat}, jb k ne l = some n -> 0 < n /\ n <= l.length
 | 0, _, _, _, h => by simp [jb] at h
 | k + 1, ne, l, n, h => by
  unfold jb at h
  by_cases h0 : l = []
  ·rw [if_pos h0] at h; exact absurd h (by simp)
  rw [if_neg h0] at h
  have hp : 0 < l.length := List.length_pos_iff.2 h0
  by_cases h1 : l.getD 0 0 = 93
  ·rw [if_pos h1] at h
   split at h
   ·have := Option.some.inj h; omega
   ·exact absurd h (by simp)
  rw [if_neg h1] at h
  by_cases h2 : ip (l.getD 0 0) = false
  ·rw [if_pos h2] at h; exact absurd h (by simp)
  rw [if_neg h2] at h
  by_cases h3 : 1 < l.length /\ l.getD 1 0 = 45
  ·rw [if_pos h3] at h
   split at h
   ·rename_i g
    obtain ⟨m, hm, rfl⟩ := Option.map_eq_some_iff.1 h
    have := jr hm
    rw [List.length_drop] at this
    omega
   ·exact absurd h (by simp)
  ·rw [if_neg h3] at h
   obtain ⟨m, hm, rfl⟩ := Option.map_eq_some_iff.1 h
   have := jr hm
   rw [List.length_drop] at this
   omega
theorem jJ {l : List Nat} {n : Nat} (h : dP l = some n) : 0 < n /\ n <= l.length := by
 unfold dP at h
 split at h
 ·rename_i g
  obtain ⟨m, hm, rfl⟩ := Option.map_eq_some_iff.1 h
  have := jr hm
  have hp : 0 < l.length := List.length_pos_iff.2 g.1
  rw [List.length_drop] at this
  omega
 ·exact jr h
theorem pe {p : List Nat} {i : Nat} (h : ¬ eI p i = 0) : ∃ n, dP (p.drop (i + 1)) = some n /\ eI p i = i + 1 + n := by
 unfold eI at h ⊢
 cases e : dP (p.drop (i + 1)) with
 | none => rw [e] at h; exact absurd rfl h
 | some n => exact ⟨n, rfl, rfl⟩
def dA : Nat -> Nat -> List Nat -> Option Nat
 | 0, _, _ => none
 | k + 1, o, l =>
  if l = [] then none
  else if l.getD 0 0 = 92 then (dA k o (l.drop 2)).map (· + 2)
  else if l.getD 0 0 = 91 then (match dP (l.drop 1) with
   | none => none
   | some n => (dA k o (l.drop (1 + n))).map (· + (1 + n)))
  else if l.getD 0 0 = 40 then (dA k (o + 1) (l.drop 1)).map (· + 1)
  else if l.getD 0 0 = 41 then (if o = 1 then some 0 else (dA k (o - 1) (l.drop 1)).map (· + 1))
  else (dA k o (l.drop 1)).map (· + 1)
def tN (i : Nat) : Option Nat -> Int
 | none => -1
 | some n => ((i + n : Nat) : Int)
theorem km {i m : Nat} {o : Option Nat} : tN i (o.map (· + m)) = tN (i + m) o := by
 cases o with
 | none => rfl
 | some n => show ((i + (n + m) : Nat) : Int) = ((i + m + n : Nat) : Int); congr 1; omega
theorem jK {p : List Nat} {i k o : Nat} (h : i < p.length) : dA (k + 1) o (p.drop i) =
  if p.getD i 0 = 92 then (dA k o (p.drop (i + 2))).map (· + 2)
  else if p.getD i 0 = 91 then (match dP (p.drop (i + 1)) with
   | none => none
   | some n => (dA k o (p.drop (i + (1 + n)))).map (· + (1 + n)))
  else if p.getD i 0 = 40 then (dA k (o + 1) (p.drop (i + 1))).map (· + 1)
  else if p.getD i 0 = 41 then (if o = 1 then some 0 else (dA k (o - 1) (p.drop (i + 1))).map (· + 1))
  else (dA k o (p.drop (i + 1))).map (· + 1) := by
 have hne : ¬ p.drop i = [] := by
  intro e
  have := congrArg List.length e
  simp at this
  omega
 conv => lhs; unfold dA
 rw [if_neg hne]
 simp only [cL, List.drop_drop, Nat.add_zero]
theorem Be {p : List Nat} {i k o : Nat} (h : p.length <= i) : dA k o (p.drop i) = none := by
 rw [List.drop_eq_nil_of_le h]
 cases k <;> rfl
theorem Bj {p : List Nat} {i : Nat} (h : eI p i = 0) : dP (p.drop (i + 1)) = none := by
 unfold eI at h
 cases e : dP (p.drop (i + 1)) with
 | none => rfl
 | some n => rw [e] at h; exact absurd h (by simp [ja])
theorem so {x y : Int} (h : y = x) : ah [AV.int .i64 x] = .int .i64 y := by rw [h]; rfl
theorem sp (p : List Nat) (hs : Bytes p) (hl : p.length <= 64) (i : Nat) (hi : i < p.length) (h40 : p.getD i 0 = 40) : Spec aN 211 [.str p, .int .i64 ((i : Nat) : Int)] [] [] (fJ (.int .i64 (tN i (dA 100 0 (p.drop i))))) := by
 refine av (cX 211 Tryz.func211) rfl (m := 46) rfl (rs := [.tmp 4]) rfl (st := [(0, .str p), (1, .int .i64 ((i : Nat) : Int))]) rfl rfl (fun _ => rfl) (fun E => zr (za (zi 0) (zk (zr (za (zi 0) (zk (W.seq (zr (zm rfl (za rfl (zk (W.block (dE (fun (j : Nat) (o : Nat) (k : Nat) => [(0, .str p), (5, .int .i64 ((o : Nat) : Int)), (6, .int .i64 ((j : Nat) : Int))]) (fun _ _ _ => _) (fun (j : Nat) (o : Nat) (k : Nat) => tN i (dA 100 0 (p.drop i)) = tN j (dA k o (p.drop j)) /\ j <= p.length + 1 /\ p.length + 1 - j < k /\ (0 < o \/ p.getD j 0 = 40) /\ o <= j) (fun (j : Nat) (o : Nat) (k : Nat) => p.length + 1 - j) (i) (0) (100) ⟨rfl, by omega, by omega, .inr h40, Nat.zero_le _⟩ zv (SubH.refl _) (fun j o k hI0 ih0 => ?_))))))))))))))
 obtain ⟨hv, hj, hk, ho, hoj⟩ := hI0
 obtain ⟨k, rfl⟩ : ∃ q, k = q + 1 := ⟨k - 1, by omega⟩
 refine W.seq (zr (zm rfl (zm rfl (zq (Q.len bH rfl rfl) (zq (aa rfl rfl rfl (ec dM)) (zk (aw rfl (fun hc13 => ?_) (fun hc13 => ?_))))))))
 ·refine zw (lU (fun (q : Nat) (u : Nat) => [(0, .str p), (5, .int .i64 ((u : Nat) : Int)), (6, .int .i64 ((q : Nat) : Int))]) (fun (q : Nat) (u : Nat) => tN i (dA 100 0 (p.drop i)) = tN (q + 1) (dA k u (p.drop (q + 1))) /\ q <= p.length /\ j <= q /\ 0 < u /\ u <= q + 1) (fun q u hI4 => ?_) (fun hJ4 => ?_))
  ·obtain ⟨hv2, hq, hjq, hu, huq⟩ := hI4
   refine am (zm rfl (zq (aa rfl (zi 1) rfl zp) (za rfl (WO.nil (End.KL (W.sub zv (ih0 (q + 1) (u) (k) ?_ ?_)))))))
   ·exact ⟨hv2, by omega, by omega, .inl hu, by omega⟩
   exact zo
  refine W.block (zr (zm rfl (zm rfl (WO.indexB hs bH rfl rfl zo rfl (fun c18 hd18 hb18 => zk (W.block (zr (zq (aa rfl (zu 92) rfl (ag aA)) (za rfl (zk (aw rfl (fun hc19 => ?_) (fun hc19 => ?_))))))))))))
  ·refine am (zm rfl (zq (aa rfl (zi 1) rfl zp) (za rfl (WO.nil (End.KB (End.KB (End.K (W.sub zv (hJ4 (_) (_) ?_)))))))))
   exact ⟨by rw [hv, jK zy, if_pos zy, km], by omega, by omega, by omega, by omega⟩
  refine zr (zq (aa rfl (zu 91) rfl (ag aA)) (za rfl (zk (aw rfl (fun hc23 => ?_) (fun hc23 => ?_)))))
  ·refine zr (zm rfl (zm rfl (WO.callE rfl (aD rfl (aD rfl (aD (zu 0) oz))) rfl (ib _ hs zy _ zy _ zy) SubR.nil rfl (fun v28 hP28 => ?_))))
   obtain ⟨h28, rfl⟩ := hP28
   refine zm rfl (zq (Q.extract rfl rfl) (zq (Q.extract rfl rfl) (za rfl (za rfl (zk (W.sub (zc 7 rfl (zc 0 rfl (zc 5 rfl aI))) (W.seq (zr (zm rfl (zq (aa rfl (zi 0) rfl (ag aA)) (zk (aw rfl (fun hc32 => ?_) (fun hc32 => ?_)))))))))))))
   ·refine zr (za rfl (zk (W.ret (ac (ad (ad (ac (bE (ad (ac (ae (z1 rfl) ?_)))))))))))
    exact so (by rw [hv, jK zy, if_neg zy, if_pos zy, Bj zy]; rfl)
   obtain ⟨m, hm, hcm⟩ := pe (p := p) (i := j) zy
   have hml := jJ hm
   simp only [List.length_drop] at hml
   refine zw (am (zm rfl (zq (aa rfl (zi 1) rfl (cT (vf zo))) (za rfl (WO.nil (End.KB (End.KB (End.K (W.sub zv (hJ4 (_) (_) ?_))))))))))
   exact ⟨by rw [hv, jK zy, if_neg zy, if_pos zy, hm]; show tN j ((dA k o (p.drop (j + (1 + m)))).map (· + (1 + m))) = _; rw [km, hcm, show j + (1 + m) = j + 1 + m - 1 + 1 from by omega], by omega, by omega, by omega, by omega⟩
  refine zr (zq (aa rfl (zu 40) rfl (ag aA)) (za rfl (zk (aw rfl (fun hc35 => ?_) (fun hc35 => ?_)))))
  ·refine am (zm rfl (zq (aa rfl (zi 1) rfl zp) (za rfl (WO.nil (End.KB (End.KB (End.K (W.sub zv (hJ4 (_) (_) ?_)))))))))
   exact ⟨by rw [hv, jK zy, if_neg zy, if_neg zy, if_pos zy, km], by omega, by omega, by omega, by omega⟩
  refine zr (zq (aa rfl (zu 41) rfl (ag aA)) (za rfl (zk (W.sub (zc 39 rfl (zc 0 rfl (zc 5 rfl (zc 6 rfl aI)))) (aw rfl (fun hc39 => ?_) (fun hc39 => ?_))))))
  ·refine zr (zm rfl (zq (aa rfl (zi 1) rfl (cT (vf zo))) (za rfl (zk (zr (zm rfl (zq (aa rfl (zi 0) rfl (ag aA)) (zk (aw rfl (fun hc44 => ?_) (fun hc44 => ?_))))))))))
   ·refine zr (zm rfl (za rfl (zk (W.ret (ad (ad (ac (bE (ad (ac (ae (z1 rfl) ?_)))))))))))
    exact so (by rw [hv, jK zy, if_neg zy, if_neg zy, if_neg zy, if_pos zy, if_pos zy]; rfl)
   refine W.skip (End.KB (End.KB (End.K (W.sub zv (hJ4 (_) (_) ?_)))))
   exact ⟨by rw [hv, jK zy, if_neg zy, if_neg zy, if_neg zy, if_pos zy, if_neg zy, km], by omega, by omega, by omega, by omega⟩
  refine W.skip (End.KB (End.KB (End.K (W.sub zv (hJ4 (_) (_) ?_)))))
  exact ⟨by rw [hv, jK zy, if_neg zy, if_neg zy, if_neg zy, if_neg zy, km], by omega, by omega, by omega, by omega⟩
 refine W.exit (aC (aK (aB (End.K (zr (za rfl (zk (W.ret (ae (z1 rfl) ?_)))))))))
 exact so (by rw [hv, Be zy]; rfl)
end Go.Proofs.YtndhhgbpcmfeiaaGreatDoor.Ev.P16
