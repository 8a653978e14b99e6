/- Chapter 7, by the document: classes and what is in parentheses. -/
import Derived.Test.YtfkbfnpjggkdmaaGreatDoorCFactsR
import Derived.Test.YtfkbfnpjggkdmaaGreatDoorCExE
namespace Go.Proofs.YtfkbfnpjggkdmaaGreatDoor.Ev.P7
open Go.RowKit
set_option maxRecDepth 100000
set_option maxHeartbeats 1000000
def dL (c : Nat) : Bool := decide (¬ c ∈ ([92, 40, 41, 91, 93, 124, 42, 43, 63, 46] : List Nat))
theorem CG {c i : Nat} (h : i < 10) (e : ([92, 40, 41, 91, 93, 124, 42, 43, 63, 46] : List Nat).getD i 0 = c) : bW [AV.bool false] = .bool (dL c) := by
 have hm : c ∈ ([92, 40, 41, 91, 93, 124, 42, 43, 63, 46] : List Nat) := by
  rw [<- e, List.getD_eq_getElem?_getD, List.getElem?_eq_getElem (by exact h)]
  exact List.getElem_mem _
 unfold dL
 rw [decide_eq_false (fun g => g hm)]
 rfl
theorem z8 {c : Nat} (h : ∀ j, j < 10 -> ([92, 40, 41, 91, 93, 124, 42, 43, 63, 46] : List Nat).getD j 0 ≠ c) : bW [AV.bool true] = .bool (dL c) := by
 have hm : ¬ c ∈ ([92, 40, 41, 91, 93, 124, 42, 43, 63, 46] : List Nat) := by
  intro g
  obtain ⟨j, hj, e⟩ := List.getElem_of_mem g
  refine h j hj ?_
  rw [List.getD_eq_getElem?_getD, List.getElem?_eq_getElem hj]
  exact e
 unfold dL
 rw [decide_eq_true hm]
 rfl
def gY (c : Nat) : Bool := !decide (c = 92) && !decide (c = 91) && !decide (c = 93) && !decide (c = 94) && !decide (c = 45)
def iJ : Nat -> Bool -> List Nat -> Option Nat
 | 0, _, _ => none
 | k + 1, ne, l =>
  if l = [] then none
  else if l.getD 0 0 = 93 then (if ne = true then some 1 else none)
  else if gY (l.getD 0 0) = false then none
  else if 1 < l.length /\ l.getD 1 0 = 45 then
   (if 3 <= l.length /\ gY (l.getD 2 0) = true /\ l.getD 0 0 <= l.getD 2 0 then (iJ k true (l.drop 3)).map (· + 3) else none)
  else (iJ k true (l.drop 1)).map (· + 1)
def iI (i : Nat) : Option Nat -> Nat
 | none => 0
 | some n => i + n
theorem gR {i m : Nat} {o : Option Nat} : iI i (o.map (· + m)) = iI (i + m) o := by
 cases o with
 | none => rfl
 | some n => show i + (n + m) = i + m + n; omega
def dx (l : List Nat) : Option Nat := if l ≠ [] /\ l.getD 0 0 = 94 then (iJ 100 false (l.drop 1)).map (· + 1) else iJ 100 false l
def eE (p : List Nat) (i : Nat) : Nat := iI (i + 1) (dx (p.drop (i + 1)))
theorem cx {p : List Nat} {i j : Nat} : (p.drop i).getD j 0 = p.getD (i + j) 0 := by
 rw [List.getD_eq_getElem?_getD, List.getD_eq_getElem?_getD, List.getElem?_drop]
theorem gE {p : List Nat} {i k : Nat} {ne : Bool} (h : i < p.length) : iJ (k + 1) ne (p.drop i) =
  if p.getD i 0 = 93 then (if ne = true then some 1 else none)
  else if gY (p.getD i 0) = false then none
  else if i + 1 < p.length /\ p.getD (i + 1) 0 = 45 then
   (if i + 3 <= p.length /\ gY (p.getD (i + 2) 0) = true /\ p.getD i 0 <= p.getD (i + 2) 0 then (iJ k true (p.drop (i + 3))).map (· + 3) else none)
  else (iJ k true (p.drop (i + 1))).map (· + 1) := by
 have hne : ¬ p.drop i = [] := by
  intro e
  have := congrArg List.length e
  simp at this
  omega
 have e1 : (1 < (p.drop i).length) = (i + 1 < p.length) := by rw [List.length_drop]; exact propext ⟨fun h => by omega, fun h => by omega⟩
 have e3 : (3 <= (p.drop i).length) = (i + 3 <= p.length) := by rw [List.length_drop]; exact propext ⟨fun h => by omega, fun h => by omega⟩
 conv => lhs; unfold iJ
 rw [if_neg hne]
 simp only [cx, List.drop_drop, Nat.add_zero, e1, e3]
theorem jg {p : List Nat} {i a : Nat} {b : Bool} (h : eE p i = a) : bW [AV.int .i64 ((a : Nat) : Int), .bool b] = .tuple [.int .i64 ((eE p i : Nat) : Int), .bool b] := by rw [h]; rfl
theorem Bj {p : List Nat} {i : Nat} (h : i + 1 < p.length /\ p.getD (i + 1) 0 = 94) : eE p i = iI (i + 1 + 1) (iJ 100 false (p.drop (i + 1 + 1))) /\ i + 1 + 1 <= p.length := by
 refine ⟨?_, by omega⟩
 have hne : p.drop (i + 1) ≠ [] := by
  intro e
  have := congrArg List.length e
  simp at this
  omega
 unfold eE dx
 rw [if_pos ⟨hne, by rw [cx]; exact h.2⟩, gR, List.drop_drop]
theorem Bi {p : List Nat} {i : Nat} (hi : i < p.length) (h : ¬ (i + 1 < p.length /\ p.getD (i + 1) 0 = 94)) : eE p i = iI (i + 1) (iJ 100 false (p.drop (i + 1))) /\ i + 1 <= p.length := by
 refine ⟨?_, by omega⟩
 unfold eE dx
 rw [if_neg]
 intro ⟨g1, g2⟩
 refine h ⟨?_, by rw [cx] at g2; exact g2⟩
 apply Classical.byContradiction
 intro g
 exact g1 (List.drop_eq_nil_of_le zy)
theorem uZ {tb : Tab} {t : Nat} {a b : Bool} (hu : tb.und t = some .bool) : bC tb .neq t (.bool a) (.bool b) = some (.bool (!(a == b))) := by
 show (match ef tb 20 t (.bool a) (.bool b) with | some b => some (AV.bool (!b)) | none => none) = _
 unfold ef
 simp only [hu]
 rfl
theorem Bk {p : List Nat} {i k : Nat} {ne : Bool} (h : p.length <= i) : iJ k ne (p.drop i) = none := by
 rw [List.drop_eq_nil_of_le h]
 cases k <;> rfl
theorem pA (c : Nat) (hc : c < 256) : Spec tab 277 [.int .u8 ((c : Nat) : Int)] [] [] (bN (.bool (dL c))) := by
 refine ac (bz 277 Tryz.func277) rfl (m := 16) rfl (rs := [.tmp 2]) rfl (st := [(0, .int .u8 ((c : Nat) : Int))]) rfl rfl (fun _ => rfl) (fun E => zr (za rfl (zk (zr (zq (Q.assign (oc (v := .str [92, 40, 41, 91, 93, 124, 42, 43, 63, 46]) (by kernel_rfl))) (zk (W.seq (zr (za (zi 0) (zk (W.block (W.loop_ind (fun (i : Nat) => [(0, .int .u8 ((c : Nat) : Int)), (3, .str [92, 40, 41, 91, 93, 124, 42, 43, 63, 46]), (4, .int .i64 ((i : Nat) : Int))]) (fun _ => _) (fun (i : Nat) => i <= 10 /\ ∀ j, j < i -> ([92, 40, 41, 91, 93, 124, 42, 43, 63, 46] : List Nat).getD j 0 ≠ c) (fun (i : Nat) => 10 - i) (0) ⟨Nat.zero_le _, fun j h => by omega⟩ zv (SubH.refl _) (fun i hI0 ih0 => ?_)))))))))))))
 obtain ⟨h1, h2⟩ := hI0
 refine W.seq (zr (zm rfl (zm rfl (zq (Q.len cf rfl rfl) (zq (aa rfl rfl rfl (bu bY)) (zk (aB rfl (fun hc8 => ?_) (fun hc8 => ?_))))))))
 ·refine zw (W.seq (W.block (zr (zm rfl (zm rfl (aE (by unfold Bytes; decide) cf rfl rfl zo rfl (fun c13 hd13 hb13 => zm rfl (zq (aa rfl rfl rfl (ai aG)) (zk (aB rfl (fun hc15 => ?_) (fun hc15 => ?_)))))))))))
  ·refine zr (za rfl (zk (W.ret (ah (ad (aU (ah (ad (ae (z1 rfl) ?_)))))))))
   exact CG (i := i) (by simp at *; omega) (by rw [<- hd13]; exact hc15)
  refine W.skip (End.KB (End.K (W.reg (zm rfl (zq (aa rfl (zi 1) rfl zp) (za rfl (WO.nil (End.KL (W.sub zv (ih0 (i + 1) ?_ ?_))))))))))
  ·exact ⟨by simp at *; omega, fun j h => by rcases Nat.lt_or_ge j i with g | g; exact h2 j g; have hji : j = i := zy; rw [hji, <- hd13]; exact hc15⟩
  exact (by simp at *; omega)
 refine W.exit (am (aq (ap (End.K (zr (za rfl (zk (W.ret (ae (z1 rfl) ?_)))))))))
 exact z8 (fun j h => h2 j (by simp at *; omega))

theorem qH (c : Nat) (hc : c < 256) : Spec tab 251 [.int .u8 ((c : Nat) : Int)] [] [] (bN (.bool (gY c))) := by
 refine ac (bz 251 Tryz.func251) rfl (m := 21) rfl (rs := [.tmp 2]) rfl (st := [(0, .int .u8 ((c : Nat) : Int))]) rfl rfl (fun _ => rfl) (fun E => zr (za rfl (zk (zr (zm rfl (zq (aa rfl (zu 92) rfl (bd gB)) (zm rfl (aC (d := 5) rfl (fun hc5 => ?_) (fun hc5 => ?_)))))))))
 ·refine zT (zm rfl (zT (zq (aa rfl (zu 91) rfl (bd gB)) (zq (aA rfl rfl) (zm rfl (aC (d := 9) rfl (fun hc9 => ?_) (fun hc9 => ?_)))))))
  ·refine zT (zm rfl (zT (zq (aa rfl (zu 93) rfl (bd gB)) (zq (aA rfl rfl) (zm rfl (aC (d := 13) rfl (fun hc13 => ?_) (fun hc13 => ?_)))))))
   ·refine zT (zm rfl (zT (zq (aa rfl (zu 94) rfl (bd gB)) (zq (aA rfl rfl) (zm rfl (aC (d := 17) rfl (fun hc17 => ?_) (fun hc17 => ?_)))))))
    ·refine zT (zm rfl (zT (zq (aa rfl (zu 45) rfl (bd gB)) (zq (aA rfl rfl) (za rfl (zk (W.sub (zc 2 rfl aI) (W.ret (ae (z1 rfl) ?_)))))))))
     exact lw (by simp_all [gY])
    refine z2 (zq (aF rfl rfl) (za rfl (zk (W.sub (zc 2 rfl aI) (W.ret (ae (z1 rfl) ?_))))))
    exact lw (by simp_all [gY])
   refine z2 (zq (aF rfl rfl) (zm rfl (z2 (zq (aF rfl rfl) (za rfl (zk (W.sub (zc 2 rfl aI) (W.ret (ae (z1 rfl) ?_)))))))))
   exact lw (by simp_all [gY])
  refine z2 (zq (aF rfl rfl) (zm rfl (z2 (zq (aF rfl rfl) (zm rfl (z2 (zq (aF rfl rfl) (za rfl (zk (W.sub (zc 2 rfl aI) (W.ret (ae (z1 rfl) ?_))))))))))))
  exact lw (by simp_all [gY])
 refine z2 (zq (aF rfl rfl) (zm rfl (z2 (zq (aF rfl rfl) (zm rfl (z2 (zq (aF rfl rfl) (zm rfl (z2 (zq (aF rfl rfl) (za rfl (zk (W.sub (zc 2 rfl aI) (W.ret (ae (z1 rfl) ?_)))))))))))))))
 exact lw (by simp_all [gY])

theorem fV (p : List Nat) (hs : Bytes p) (hl : p.length <= 64) (i : Nat) (hi : i < p.length) (c : Nat) (hc : c < 256) : Spec tab 210 [.str p, .int .i64 ((i : Nat) : Int), .int .u8 ((c : Nat) : Int)] [] [] (ij (fun v => ∃ h : Bool, v = .tuple [.int .i64 ((eE p i : Nat) : Int), .bool h])) := by
 refine ac (bz 210 Tryz.func210) rfl (m := 115) rfl (rs := [.tmp 6, .tmp 7]) rfl (st := [(0, .str p), (1, .int .i64 ((i : Nat) : Int)), (2, .int .u8 ((c : Nat) : Int))]) rfl rfl (fun _ => rfl) (fun E => zr (za (zi 0) (za rfl (zk (zr (zm rfl (zq (aa rfl (zi 1) rfl zp) (za rfl (zk (j5 (fun (nt : Bool) => [(0, .str p), (2, .int .u8 ((c : Nat) : Int)), (8, .int .i64 ((i + 1 : Nat) : Int)), (9, .bool nt)]) (fun (nt : Bool) => nt = decide (i + 1 < p.length /\ p.getD (i + 1) 0 = 94)) (fun nt hI3 => ?_) (fun hJ3 => ?_)))))))))))
 ·have hnt := hI3
  refine j5 (fun (j : Nat) => [(0, .str p), (2, .int .u8 ((c : Nat) : Int)), (8, .int .i64 ((j : Nat) : Int)), (9, .bool nt)]) (fun (j : Nat) => eE p i = iI j (iJ 100 false (p.drop j)) /\ j <= p.length) (fun j hI5 => ?_) (fun hJ5 => ?_)
  ·obtain ⟨hv, hj⟩ := hI5
   refine zr (za rfl (za (zi 0) (zk (W.seq (W.block (fD (fun (j : Nat) (n : Nat) (k : Nat) (ha : Bool) => [(0, .str p), (2, .int .u8 ((c : Nat) : Int)), (8, .int .i64 ((j : Nat) : Int)), (9, .bool nt), (10, .bool ha), (11, .int .i64 ((n : Nat) : Int))]) (fun _ _ _ _ => _) (fun (j : Nat) (n : Nat) (k : Nat) (ha : Bool) => eE p i = iI j (iJ k (decide (0 < n)) (p.drop j)) /\ j <= p.length /\ p.length - j < k /\ n <= j) (fun (j : Nat) (n : Nat) (k : Nat) (ha : Bool) => p.length - j) (j) (0) (100) (false) ⟨hv, hj, by omega, by omega⟩ zv (SubH.refl _) (fun j n k ha hI0 ih0 => ?_)))))))
   obtain ⟨hv, hj, hk, hn⟩ := hI0
   obtain ⟨k, rfl⟩ : ∃ q, k = q + 1 := ⟨k - 1, by omega⟩
   refine W.seq (zr (zm rfl (zm rfl (zq (Q.len cf rfl rfl) (zq (aa rfl rfl rfl (bu bY)) (zm rfl (aC (d := 33) rfl (fun hc33 => ?_) (fun hc33 => ?_))))))))
   ·refine zT (zm rfl (zT (zm rfl (zT (aE hs cf rfl rfl zo rfl (fun c36 hd36 hb36 => zT (zq (aa rfl (zu 93) rfl (bd gB)) (zq (aA rfl rfl) (zk (aB rfl (fun hc38 => ?_) (fun hc38 => ?_)))))))))))
    ·refine zw (W.block (W.seq (zr (zm rfl (zm rfl (aE hs cf rfl rfl zo rfl (fun c41 hd41 hb41 => ak rfl (aj rfl oz) rfl (qH _ (by assumption)) SubR.nil rfl (zq (Q.not rfl rfl) (zk (W.sub (zc 43 rfl (zc 0 rfl (zc 2 rfl (zc 8 rfl (zc 9 rfl (zc 10 rfl (zc 11 rfl aI))))))) (W.condS rfl (fun hc43 => ?_) (fun hc43 => ?_))))))))))))
     ·refine zr (za (zi 0) (za rfl (zk (W.ret (ad (ah (aU (ah (ad (ar (ResL.tmp rfl (z1 rfl)) ?_))))))))))
      exact ⟨_, jg (by rw [hv, gE zy, if_neg zy, if_pos (by rw [<- hd41]; simpa using hc43)]; rfl)⟩
     refine zw (W.seq (cX (by kernel_rfl) (zm rfl (zm rfl (aE hs cf rfl rfl zo rfl (fun c46 hd46 hb46 => zm rfl (zm rfl (aE hs cf rfl rfl zo rfl (fun c49 hd49 hb49 => za rfl (za rfl (zk (zr (zm rfl (zq (aa rfl (zi 1) rfl zp) (za rfl (zk (wj (fun (q : Nat) (d : Nat) => [(0, .str p), (2, .int .u8 ((c : Nat) : Int)), (8, .int .i64 ((q : Nat) : Int)), (9, .bool nt), (10, .bool ha), (11, .int .i64 ((n : Nat) : Int)), (12, .int .u8 ((c46 : Nat) : Int)), (13, .int .u8 ((d : Nat) : Int))]) (fun (q : Nat) (d : Nat) => eE p i = iI q (iJ k true (p.drop q)) /\ q <= p.length /\ p.length - q < k /\ j < q) (fun q d hI16 => ?_) (fun hJ16 => ?_))))))))))))))))))
     ·obtain ⟨hv2, hq, hkq, hjq⟩ := hI16
      refine zr (zm rfl (zm rfl (WO.split (d := 90) rfl (fun hc90 => ?_) (fun hc90 => ?_))))
      ·refine z2 (z2 (aW rfl rfl (.inr rfl) rfl (aW rfl rfl (.inr rfl) rfl (aW rfl rfl (.inr rfl) rfl (zG (zq (aA rfl rfl) (za rfl (zk (W.reg (zm rfl (zq (aa rfl (zi 1) rfl zp) (za rfl (WO.nil (End.KB (End.KL (W.sub zv (ih0 (q) (n + 1) (k) (_) ?_ ?_)))))))))))))))))
       ·exact ⟨by rw [hv2, decide_eq_true zy], hq, hkq, by omega⟩
       exact zo
      refine zT (zm rfl (zT (zm rfl (zT (zq (aa rfl rfl rfl (bp bf)) (zT (zm rfl (aC (d := 94) rfl (fun hc94 => ?_) (fun hc94 => ?_)))))))))
      ·refine zT (zm rfl (zT (zm rfl (zT (zq (aa rfl rfl rfl (aZ bf)) (zT (zq (aA rfl rfl) (zq (aF rfl rfl) (za rfl (zk (W.reg (zm rfl (zq (aa rfl (zi 1) rfl zp) (za rfl (WO.nil (End.KB (End.KL (W.sub zv (ih0 (q) (n + 1) (k) (_) ?_ ?_)))))))))))))))))))
       ·exact ⟨by rw [hv2, decide_eq_true zy], hq, hkq, by omega⟩
       exact zo
      refine z2 (zG (zT (zq (aF rfl rfl) (zq (aF rfl rfl) (za rfl (zk (W.reg (zm rfl (zq (aa rfl (zi 1) rfl zp) (za rfl (WO.nil (End.KB (End.KL (W.sub zv (ih0 (q) (n + 1) (k) (_) ?_ ?_)))))))))))))))
      ·exact ⟨by rw [hv2, decide_eq_true zy], hq, hkq, by omega⟩
      exact zo
     refine zr (zm rfl (zm rfl (zq (Q.len cf rfl rfl) (zq (aa rfl rfl rfl (bu bY)) (zm rfl (aC (d := 56) rfl (fun hc56 => ?_) (fun hc56 => ?_)))))))
     ·refine zT (zm rfl (zT (zm rfl (zT (aE hs cf rfl rfl zo rfl (fun c59 hd59 hb59 => zT (zq (aa rfl (zu 45) rfl (ai aG)) (zq (aA rfl rfl) (zk (W.sub (zc 61 rfl (zc 8 rfl (zc 13 rfl (zc 12 rfl (zc 0 rfl (zc 2 rfl (zc 9 rfl (zc 10 rfl (zc 11 rfl aI))))))))) (aB rfl (fun hc61 => ?_) (fun hc61 => ?_))))))))))))
      ·refine W.seq (zr (zm rfl (zq (aa rfl (zi 1) rfl zp) (zm rfl (zq (Q.len cf rfl rfl) (zq (aa rfl rfl rfl (bp bf)) (zm rfl (aC (d := 67) rfl (fun hc67 => ?_) (fun hc67 => ?_)))))))))
       ·refine z2 (z2 (z2 (zq (aA rfl rfl) (zm rfl (z2 (z2 (z2 (zq (aA rfl rfl) (zk (W.sub (zc 82 rfl (zc 8 rfl (zc 12 rfl (zc 0 rfl (zc 2 rfl (zc 9 rfl (zc 10 rfl (zc 11 rfl aI)))))))) (W.condT rfl (zr (za (zi 0) (za rfl (zk (W.ret (ad (ad (ah (aU (ah (ad (ar (ResL.tmp rfl (z1 rfl)) ?_)))))))))))))))))))))))
        exact ⟨_, jg (by rw [hv, gE zy, if_neg zy, if_neg (by rw [<- hd41]; simpa using hc43), if_pos ⟨by omega, by omega⟩, if_neg zy]; rfl)⟩
       refine zT (zm rfl (zT (zm rfl (zT (zq (aa rfl (zi 1) rfl zp) (zT (aE hs cf rfl rfl zo rfl (fun c71 hd71 hb71 => zT (ak rfl (aj rfl oz) rfl (qH _ (by assumption)) SubR.nil rfl (zT (zq (Q.not rfl rfl) (zq (aF rfl rfl) (zm rfl (WO.split (d := 75) rfl (fun hc75 => ?_) (fun hc75 => ?_)))))))))))))))
       ·refine z2 (z2 (z2 (zq (aA rfl rfl) (zk (W.sub (zc 82 rfl (zc 8 rfl (zc 12 rfl (zc 0 rfl (zc 2 rfl (zc 9 rfl (zc 10 rfl (zc 11 rfl aI)))))))) (W.condT rfl (zr (za (zi 0) (za rfl (zk (W.ret (ad (ad (ah (aU (ah (ad (ar (ResL.tmp rfl (z1 rfl)) ?_))))))))))))))))))
        exact ⟨_, jg (by rw [hv, gE zy, if_neg zy, if_neg (by rw [<- hd41]; simpa using hc43), if_pos ⟨by omega, by omega⟩, if_neg (fun g => absurd g.2.1 (by show ¬ gY (p.getD (j + 1 + 1) 0) = true; rw [<- hd71]; simpa using hc75))]; rfl)⟩
       refine zT (zm rfl (zT (zm rfl (zT (zq (aa rfl (zi 1) rfl zp) (zT (aE hs cf rfl rfl zo rfl (fun c79 hd79 hb79 => zT (zm rfl (zT (zq (aa rfl rfl rfl (bu bY)) (zq (aF rfl rfl) (zk (W.sub (zc 82 rfl (zc 8 rfl (zc 12 rfl (zc 0 rfl (zc 2 rfl (zc 9 rfl (zc 10 rfl (zc 11 rfl aI)))))))) (aB rfl (fun hc82 => ?_) (fun hc82 => ?_))))))))))))))))
       ·refine zr (za (zi 0) (za rfl (zk (W.ret (ad (ad (ah (aU (ah (ad (ar (ResL.tmp rfl (z1 rfl)) ?_)))))))))))
        exact ⟨_, jg (by rw [hv, gE zy, if_neg zy, if_neg (by rw [<- hd41]; simpa using hc43), if_pos ⟨by omega, by omega⟩, if_neg (fun g => absurd (show p.getD j 0 <= p.getD (j + 1 + 1) 0 from g.2.2) zy)]; rfl)⟩
       refine zw (zr (zm rfl (zm rfl (zq (aa rfl (zi 1) rfl zp) (aE hs cf rfl rfl zo rfl (fun c86 hd86 hb86 => za rfl (zk (W.reg (zm rfl (zq (aa rfl (zi 2) rfl zp) (za rfl (WO.nil (End.K (W.sub zv (hJ16 (_) (_) ?_)))))))))))))))
       exact ⟨by rw [hv, gE zy, if_neg zy, if_neg (by rw [<- hd41]; simpa using hc43), if_pos ⟨by omega, by omega⟩, if_pos ⟨by omega, (by show gY (p.getD (j + 1 + 1) 0) = true; rw [<- hd71]; simpa using hc75), (by show p.getD j 0 <= p.getD (j + 1 + 1) 0; omega)⟩, gR], by omega, by omega, by omega⟩
      refine W.skip (End.K (W.sub zv (hJ16 (_) (_) ?_)))
      exact ⟨by rw [hv, gE zy, if_neg zy, if_neg (by rw [<- hd41]; simpa using hc43), if_neg zy, gR], by omega, by omega, by omega⟩
     refine z2 (z2 (zq (aF rfl rfl) (zk (W.sub (zc 61 rfl (zc 8 rfl (zc 13 rfl (zc 12 rfl (zc 0 rfl (zc 2 rfl (zc 9 rfl (zc 10 rfl (zc 11 rfl aI))))))))) (W.condF rfl (W.skip (End.K (W.sub zv (hJ16 (_) (_) ?_)))))))))
     exact ⟨by rw [hv, gE zy, if_neg zy, if_neg (by rw [<- hd41]; simpa using hc43), if_neg zy, gR], by omega, by omega, by omega⟩
    refine W.exit (am (aq (ap (End.K (W.seq (zr (zm rfl (zm rfl (zq (Q.len cf rfl rfl) (zq (aa rfl rfl rfl (bp bf)) (zm rfl (aC (d := 106) rfl (fun hc106 => ?_) (fun hc106 => ?_)))))))))))))
    ·refine z2 (zq (aA rfl rfl) (zk (W.sub (zc 109 rfl (zc 8 rfl (zc 9 rfl (zc 10 rfl aI)))) (W.condT rfl (zr (za (zi 0) (za rfl (zk (W.ret (ad (ar (ResL.tmp rfl (z1 rfl)) ?_)))))))))))
     exfalso; omega
    refine zT (zm rfl (zT (zq (aa rfl (zi 0) rfl (ai aG)) (zq (aF rfl rfl) (zk (W.sub (zc 109 rfl (zc 8 rfl (zc 9 rfl (zc 10 rfl aI)))) (aB rfl (fun hc109 => ?_) (fun hc109 => ?_))))))))
    ·refine zr (za (zi 0) (za rfl (zk (W.ret (ad (ar (ResL.tmp rfl (z1 rfl)) ?_))))))
     exact ⟨_, jg (by rw [hv, gE zy, if_pos zy, if_neg (by simp; omega)]; rfl)⟩
    refine zw (zr (zm rfl (zq (aa rfl (zi 1) rfl zp) (zm rfl (zm rfl (zq (aa rfl rfl rfl (uZ Jy)) (za rfl (za rfl (zk (W.ret (ar (ResL.tmp rfl (z1 rfl)) ?_)))))))))))
    exact ⟨_, jg (by rw [hv, gE zy, if_pos zy, if_pos (by simp; omega)]; rfl)⟩
   refine z2 (z2 (zq (aF rfl rfl) (zk (W.condF rfl (W.exit (am (aq (ap (End.K (W.seq (zr (zm rfl (zm rfl (zq (Q.len cf rfl rfl) (zq (aa rfl rfl rfl (bp bf)) (zm rfl (aC (d := 106) rfl (fun hc106 => ?_) (fun hc106 => ?_))))))))))))))))))
   ·refine z2 (zq (aA rfl rfl) (zk (W.sub (zc 109 rfl (zc 8 rfl (zc 9 rfl (zc 10 rfl aI)))) (W.condT rfl (zr (za (zi 0) (za rfl (zk (W.ret (ad (ar (ResL.tmp rfl (z1 rfl)) ?_)))))))))))
    exact ⟨_, jg (by rw [hv, Bk zy]; rfl)⟩
   refine zT (zm rfl (zT (zq (aa rfl (zi 0) rfl (ai aG)) (zq (aF rfl rfl) (zk (W.sub (zc 109 rfl (zc 8 rfl (zc 9 rfl (zc 10 rfl aI)))) (aB rfl (fun hc109 => ?_) (fun hc109 => ?_))))))))
   ·refine zr (za (zi 0) (za rfl (zk (W.ret (ad (ar (ResL.tmp rfl (z1 rfl)) ?_))))))
    exfalso; omega
   refine zw (zr (zm rfl (zq (aa rfl (zi 1) rfl zp) (zm rfl (zm rfl (zq (aa rfl rfl rfl (uZ Jy)) (za rfl (za rfl (zk (W.ret (ar (ResL.tmp rfl (z1 rfl)) ?_)))))))))))
   exfalso; omega
  refine zr (zm rfl (zk (W.condS rfl (fun hc26 => ?_) (fun hc26 => ?_))))
  ·refine W.reg (zm rfl (zq (aa rfl (zi 1) rfl zp) (za rfl (WO.nil (End.K (W.sub zv (hJ5 (_) ?_)))))))
   exact (Bj (by rw [hc26] at hnt; exact of_decide_eq_true hnt.symm))
  refine W.skip (End.K (W.sub zv (hJ5 (_) ?_)))
  exact (Bi hi (by rw [hc26] at hnt; exact of_decide_eq_false hnt.symm))
 refine W.reg (zm rfl (zm rfl (zq (Q.len cf rfl rfl) (zq (aa rfl rfl rfl (bu bY)) (zm rfl (aC (d := 20) rfl (fun hc20 => ?_) (fun hc20 => ?_)))))))
 ·refine zT (zm rfl (zT (zm rfl (zT (aE hs cf rfl rfl zo rfl (fun c23 hd23 hb23 => zT (zq (aa rfl (zu 94) rfl (ai aG)) (zq (aA rfl rfl) (za rfl (WO.nil (End.K (W.sub zv (hJ3 (_) ?_)))))))))))))
  exact (by have h : i + 1 < p.length := zy; simp [h, hd23])
 refine z2 (z2 (zq (aF rfl rfl) (za rfl (WO.nil (End.K (W.sub zv (hJ3 (_) ?_)))))))
 exact (by have h : ¬ (i + 1 < p.length) := zy; simp [h])
theorem iX : ∀ {k : Nat} {ne : Bool} {l : List Nat} {n : Nat}, iJ k ne l = some n -> 0 < n /\ n <= l.length
 | 0, _, _, _, h => by simp [iJ] at h
 | k + 1, ne, l, n, h => by
  unfold iJ at h
  by_cases h0 : l = []
  ·rw [if_pos h0] at h; exact absurd h (by simp)
  rw [if_neg h0] at h
  have hp : 0 < l.length := List.length_pos_iff.2 h0
  by_cases h1 : l.getD 0 0 = 93
  ·rw [if_pos h1] at h
   split at h
   ·have := Option.some.inj h; omega
   ·exact absurd h (by simp)
  rw [if_neg h1] at h
  by_cases h2 : gY (l.getD 0 0) = false
  ·rw [if_pos h2] at h; exact absurd h (by simp)
  rw [if_neg h2] at h
  by_cases h3 : 1 < l.length /\ l.getD 1 0 = 45
  ·rw [if_pos h3] at h
   split at h
   ·rename_i g
    obtain ⟨m, hm, rfl⟩ := Option.map_eq_some_iff.1 h
    have := iX hm
    rw [List.length_drop] at this
    omega
   ·exact absurd h (by simp)
  ·rw [if_neg h3] at h
   obtain ⟨m, hm, rfl⟩ := Option.map_eq_some_iff.1 h
   have := iX hm
   rw [List.length_drop] at this
   omega
theorem je {l : List Nat} {n : Nat} (h : dx l = some n) : 0 < n /\ n <= l.length := by
 unfold dx at h
 split at h
 ·rename_i g
  obtain ⟨m, hm, rfl⟩ := Option.map_eq_some_iff.1 h
  have := iX hm
  have hp : 0 < l.length := List.length_pos_iff.2 g.1
  rw [List.length_drop] at this
  omega
 ·exact iX h
theorem Bm {p : List Nat} {i : Nat} (h : ¬ eE p i = 0) : ∃ n, dx (p.drop (i + 1)) = some n /\ eE p i = i + 1 + n := by
 unfold eE at h ⊢
 cases e : dx (p.drop (i + 1)) with
 | none => rw [e] at h; exact absurd rfl h
 | some n => exact ⟨n, rfl, rfl⟩
def dk : Nat -> Nat -> List Nat -> Option Nat
 | 0, _, _ => none
 | k + 1, o, l =>
  if l = [] then none
  else if l.getD 0 0 = 92 then (dk k o (l.drop 2)).map (· + 2)
  else if l.getD 0 0 = 91 then (match dx (l.drop 1) with
   | none => none
   | some n => (dk k o (l.drop (1 + n))).map (· + (1 + n)))
  else if l.getD 0 0 = 40 then (dk k (o + 1) (l.drop 1)).map (· + 1)
  else if l.getD 0 0 = 41 then (if o = 1 then some 0 else (dk k (o - 1) (l.drop 1)).map (· + 1))
  else (dk k o (l.drop 1)).map (· + 1)
def tx (i : Nat) : Option Nat -> Int
 | none => -1
 | some n => ((i + n : Nat) : Int)
theorem jH {i m : Nat} {o : Option Nat} : tx i (o.map (· + m)) = tx (i + m) o := by
 cases o with
 | none => rfl
 | some n => show ((i + (n + m) : Nat) : Int) = ((i + m + n : Nat) : Int); congr 1; omega
theorem jf {p : List Nat} {i k o : Nat} (h : i < p.length) : dk (k + 1) o (p.drop i) =
  if p.getD i 0 = 92 then (dk k o (p.drop (i + 2))).map (· + 2)
  else if p.getD i 0 = 91 then (match dx (p.drop (i + 1)) with
   | none => none
   | some n => (dk k o (p.drop (i + (1 + n)))).map (· + (1 + n)))
  else if p.getD i 0 = 40 then (dk k (o + 1) (p.drop (i + 1))).map (· + 1)
  else if p.getD i 0 = 41 then (if o = 1 then some 0 else (dk k (o - 1) (p.drop (i + 1))).map (· + 1))
  else (dk k o (p.drop (i + 1))).map (· + 1) := by
 have hne : ¬ p.drop i = [] := by
  intro e
  have := congrArg List.length e
  simp at this
  omega
 conv => lhs; unfold dk
 rw [if_neg hne]
 simp only [cx, List.drop_drop, Nat.add_zero]
theorem Bg {p : List Nat} {i k o : Nat} (h : p.length <= i) : dk k o (p.drop i) = none := by
 rw [List.drop_eq_nil_of_le h]
 cases k <;> rfl
theorem Bl {p : List Nat} {i : Nat} (h : eE p i = 0) : dx (p.drop (i + 1)) = none := by
 unfold eE at h
 cases e : dx (p.drop (i + 1)) with
 | none => rfl
 | some n => rw [e] at h; exact absurd h (by simp [iI])
theorem rL {x y : Int} (h : y = x) : bW [AV.int .i64 x] = .int .i64 y := by rw [h]; rfl
theorem rM (p : List Nat) (hs : Bytes p) (hl : p.length <= 64) (i : Nat) (hi : i < p.length) (h40 : p.getD i 0 = 40) : Spec tab 278 [.str p, .int .i64 ((i : Nat) : Int)] [] [] (bN (.int .i64 (tx i (dk 100 0 (p.drop i))))) := by
 refine ac (bz 278 Tryz.func278) rfl (m := 46) rfl (rs := [.tmp 4]) rfl (st := [(0, .str p), (1, .int .i64 ((i : Nat) : Int))]) rfl rfl (fun _ => rfl) (fun E => zr (za (zi 0) (zk (zr (za (zi 0) (zk (W.seq (zr (zm rfl (za rfl (zk (W.block (bI (fun (j : Nat) (o : Nat) (k : Nat) => [(0, .str p), (5, .int .i64 ((o : Nat) : Int)), (6, .int .i64 ((j : Nat) : Int))]) (fun _ _ _ => _) (fun (j : Nat) (o : Nat) (k : Nat) => tx i (dk 100 0 (p.drop i)) = tx j (dk k o (p.drop j)) /\ j <= p.length + 1 /\ p.length + 1 - j < k /\ (0 < o \/ p.getD j 0 = 40) /\ o <= j) (fun (j : Nat) (o : Nat) (k : Nat) => p.length + 1 - j) (i) (0) (100) ⟨rfl, by omega, by omega, .inr h40, Nat.zero_le _⟩ zv (SubH.refl _) (fun j o k hI0 ih0 => ?_))))))))))))))
 obtain ⟨hv, hj, hk, ho, hoj⟩ := hI0
 obtain ⟨k, rfl⟩ : ∃ q, k = q + 1 := ⟨k - 1, by omega⟩
 refine W.seq (zr (zm rfl (zm rfl (zq (Q.len cf rfl rfl) (zq (aa rfl rfl rfl (bu bY)) (zk (aB rfl (fun hc13 => ?_) (fun hc13 => ?_))))))))
 ·refine zw (wj (fun (q : Nat) (u : Nat) => [(0, .str p), (5, .int .i64 ((u : Nat) : Int)), (6, .int .i64 ((q : Nat) : Int))]) (fun (q : Nat) (u : Nat) => tx i (dk 100 0 (p.drop i)) = tx (q + 1) (dk k u (p.drop (q + 1))) /\ q <= p.length /\ j <= q /\ 0 < u /\ u <= q + 1) (fun q u hI4 => ?_) (fun hJ4 => ?_))
  ·obtain ⟨hv2, hq, hjq, hu, huq⟩ := hI4
   refine W.reg (zm rfl (zq (aa rfl (zi 1) rfl zp) (za rfl (WO.nil (End.KL (W.sub zv (ih0 (q + 1) (u) (k) ?_ ?_)))))))
   ·exact ⟨hv2, by omega, by omega, .inl hu, by omega⟩
   exact zo
  refine W.block (zr (zm rfl (zm rfl (aE hs cf rfl rfl zo rfl (fun c18 hd18 hb18 => zk (W.block (zr (zq (aa rfl (zu 92) rfl (ai aG)) (za rfl (zk (aB rfl (fun hc19 => ?_) (fun hc19 => ?_))))))))))))
  ·refine W.reg (zm rfl (zq (aa rfl (zi 1) rfl zp) (za rfl (WO.nil (End.KB (End.KB (End.K (W.sub zv (hJ4 (_) (_) ?_)))))))))
   exact ⟨by rw [hv, jf zy, if_pos zy, jH], by omega, by omega, by omega, by omega⟩
  refine zr (zq (aa rfl (zu 91) rfl (ai aG)) (za rfl (zk (aB rfl (fun hc23 => ?_) (fun hc23 => ?_)))))
  ·refine zr (zm rfl (zm rfl (WO.callE rfl (aj rfl (aj rfl (aj (zu 0) oz))) rfl (fV _ hs zy _ zy _ zy) SubR.nil rfl (fun v28 hP28 => ?_))))
   obtain ⟨h28, rfl⟩ := hP28
   refine zm rfl (zq (Q.extract rfl rfl) (zq (Q.extract rfl rfl) (za rfl (za rfl (zk (W.sub (zc 7 rfl (zc 0 rfl (zc 5 rfl aI))) (W.seq (zr (zm rfl (zq (aa rfl (zi 0) rfl (ai aG)) (zk (aB rfl (fun hc32 => ?_) (fun hc32 => ?_)))))))))))))
   ·refine zr (za rfl (zk (W.ret (ad (ah (ah (ad (aU (ah (ad (ae (z1 rfl) ?_)))))))))))
    exact rL (by rw [hv, jf zy, if_neg zy, if_pos zy, Bl zy]; rfl)
   obtain ⟨m, hm, hcm⟩ := Bm (p := p) (i := j) zy
   have hml := je hm
   simp only [List.length_drop] at hml
   refine zw (W.reg (zm rfl (zq (aa rfl (zi 1) rfl (bM (oe zo))) (za rfl (WO.nil (End.KB (End.KB (End.K (W.sub zv (hJ4 (_) (_) ?_))))))))))
   exact ⟨by rw [hv, jf zy, if_neg zy, if_pos zy, hm]; show tx j ((dk k o (p.drop (j + (1 + m)))).map (· + (1 + m))) = _; rw [jH, hcm, show j + (1 + m) = j + 1 + m - 1 + 1 from by omega], by omega, by omega, by omega, by omega⟩
  refine zr (zq (aa rfl (zu 40) rfl (ai aG)) (za rfl (zk (aB rfl (fun hc35 => ?_) (fun hc35 => ?_)))))
  ·refine W.reg (zm rfl (zq (aa rfl (zi 1) rfl zp) (za rfl (WO.nil (End.KB (End.KB (End.K (W.sub zv (hJ4 (_) (_) ?_)))))))))
   exact ⟨by rw [hv, jf zy, if_neg zy, if_neg zy, if_pos zy, jH], by omega, by omega, by omega, by omega⟩
  refine zr (zq (aa rfl (zu 41) rfl (ai aG)) (za rfl (zk (W.sub (zc 39 rfl (zc 0 rfl (zc 5 rfl (zc 6 rfl aI)))) (aB rfl (fun hc39 => ?_) (fun hc39 => ?_))))))
  ·refine zr (zm rfl (zq (aa rfl (zi 1) rfl (bM (oe zo))) (za rfl (zk (zr (zm rfl (zq (aa rfl (zi 0) rfl (ai aG)) (zk (aB rfl (fun hc44 => ?_) (fun hc44 => ?_))))))))))
   ·refine zr (zm rfl (za rfl (zk (W.ret (ah (ah (ad (aU (ah (ad (ae (z1 rfl) ?_)))))))))))
    exact rL (by rw [hv, jf zy, if_neg zy, if_neg zy, if_neg zy, if_pos zy, if_pos zy]; rfl)
   refine W.skip (End.KB (End.KB (End.K (W.sub zv (hJ4 (_) (_) ?_)))))
   exact ⟨by rw [hv, jf zy, if_neg zy, if_neg zy, if_neg zy, if_pos zy, if_neg zy, jH], by omega, by omega, by omega, by omega⟩
  refine W.skip (End.KB (End.KB (End.K (W.sub zv (hJ4 (_) (_) ?_)))))
  exact ⟨by rw [hv, jf zy, if_neg zy, if_neg zy, if_neg zy, if_neg zy, jH], by omega, by omega, by omega, by omega⟩
 refine W.exit (am (aq (ap (End.K (zr (za rfl (zk (W.ret (ae (z1 rfl) ?_)))))))))
 exact rL (by rw [hv, Bg zy]; rfl)
end Go.Proofs.YtfkbfnpjggkdmaaGreatDoor.Ev.P7
