/- Chapters 6, 10 and 19, walks: labels checked, numbers that fit, labels without some names. -/
import Derived.Test.YtfkbfnpjggkdmaaGreatDoorCPYc
namespace Go.Proofs.YtfkbfnpjggkdmaaGreatDoor.Ev.P19
open Go.RowKit
set_option maxRecDepth 100000
set_option maxHeartbeats 1000000
theorem m8 {hs : af} : SubH (hs ++ []) hs := by rw [List.append_nil]; exact SubH.refl _
theorem eN {hs : af} {e : HE} : SubH (hs ++ []) (e :: hs) := by rw [List.append_nil]; exact SubH.of_sublist (List.sublist_cons_self _ _)
theorem LIn.bq {hs : af} {l : List bA} {v : AV} (h : LIn hs l v) : v.beq v = true := by
 rcases h with ⟨rfl, _⟩ | ⟨b, sz, ex, rfl, _⟩
 ·rfl
 ·simp [AV.beq, dG, dF, d6]
noncomputable def lchk1 (A : List bA) (i : Nat) : Nat :=
 if jQ (lg A i).1 = false then 8 else if (lg A i).2 = [] then 2 else if 64 < (lg A i).2.length then 3 else if 0 < i /\ aL (lg A (i - 1)).1 (lg A i).1 = false then 13 else 0
noncomputable def lchkG (A : List bA) : Nat -> Nat -> Nat
 | 0, _ => 0
 | n + 1, i => if lchk1 A i ≠ 0 then lchk1 A i else lchkG A n (i + 1)
noncomputable def lchk (A : List bA) : Nat := if 8 < A.length then 3 else lchkG A A.length 0
theorem tW {A : List bA} (h : 8 < A.length) : lchk A = 3 := if_pos h
theorem ye {A : List bA} (h : ¬ 8 < A.length) : lchk A = lchkG A (A.length - 0) 0 := if_neg h
theorem gu {A : List bA} {i e : Nat} (h : i < A.length) (h1 : lchk1 A i = e) (he : e ≠ 0) : lchkG A (A.length - i) i = e := by
 have : A.length - i = (A.length - (i + 1)) + 1 := by omega
 rw [this, lchkG, h1, if_pos he]
theorem kh {A : List bA} {i : Nat} (h : i < A.length) (h1 : lchk1 A i = 0) : lchkG A (A.length - i) i = lchkG A (A.length - (i + 1)) (i + 1) := by
 have : A.length - i = (A.length - (i + 1)) + 1 := by omega
 rw [this, lchkG, h1, if_neg (by simp)]
theorem qL {A : List bA} {i : Nat} (h : A.length <= i) : lchkG A (A.length - i) i = 0 := by
 have : A.length - i = 0 := by omega
 rw [this, lchkG]
def fitB (n : Int) : Bool := decide (-1152921504606846976 <= n) && decide (n <= 1152921504606846976)
def qz (V : List El) : Bool := decide (∀ i, i < V.length -> fitB (eg V i).2.2 = true)
theorem BP {V : List El} {r : Int} (h : 0 <= r ↔ ∃ i, i < V.length /\ fitB (eg V i).2.2 = false) : bW [AV.bool (decide (((0 : Nat) : Int) <= r))] = .bool (!(qz V)) := by
 show AV.bool _ = _
 unfold qz
 rw [<- decide_not, AV.bool.injEq, decide_eq_decide]
 constructor
 ·intro g hall
  obtain ⟨i, hi, hf⟩ := h.1 (by simpa using g)
  rw [hall i hi] at hf
  cases hf
 ·intro g
  have : 0 <= r := h.2 (Classical.byContradiction fun hn => g fun i hi => by
   cases hb : fitB (eg V i).2.2 with
   | true => rfl
   | false => exact absurd ⟨i, hi, hb⟩ hn)
  simpa using this
def SIn (hs : af) (N : List (List Nat)) (v : AV) : Prop := (v = .nils /\ N = []) \/ ∃ b sz ex, v = .slice b 0 N.length 1 /\ MemH hs b ⟨sz, ex, N.map AV.str⟩
theorem SIn.mono {hs hs' : af} {N : List (List Nat)} {v : AV} (hm : ∀ b o, MemH hs b o -> MemH hs' b o) (h : SIn hs N v) : SIn hs' N v := h.imp id fun ⟨b, sz, ex, h1, h2⟩ => ⟨b, sz, ex, h1, hm _ _ h2⟩
theorem SIn.len {hs : af} {N : List (List Nat)} {v : AV} {e : Nat} (h : SIn hs N v) : iN (.slice e) v = some N.length := by
 rcases h with ⟨rfl, rfl⟩ | ⟨b, sz, ex, rfl, _⟩ <;> rfl
theorem SIn.full {hs : af} {N : List (List Nat)} {v : AV} (h : SIn hs N v) (hl : 0 < N.length) : ∃ b sz ex, v = .slice b 0 N.length 1 /\ MemH hs b ⟨sz, ex, N.map AV.str⟩ := by
 rcases h with ⟨_, rfl⟩ | h
 ·simp at hl
 ·exact h
def SBd (N : List (List Nat)) : Prop := N.length <= 1048576 /\ ∀ x ∈ N, Bytes x
theorem SBd.at {N : List (List Nat)} (h : SBd N) {i : Nat} (hi : i < N.length) : Bytes (N.getD i []) := by
 refine h.2 _ ?_
 rw [List.getD_eq_getElem?_getD, List.getElem?_eq_getElem hi]
 exact List.getElem_mem hi
theorem sJ {L : List (List Nat)} {i : Nat} (h : i < L.length) : (L.map AV.str)[(0 + i) * 1]? = some (.str (L.getD i [])) := by
 rw [Nat.zero_add, Nat.mul_one, List.getElem?_map, List.getD_eq_getElem?_getD, List.getElem?_eq_getElem h]; rfl
theorem Ho {N : List (List Nat)} {i : Nat} {x : List Nat} (hi : i < N.length) (h : N.getD i [] = x) : x ∈ N := by
 rw [List.getD_eq_getElem?_getD, List.getElem?_eq_getElem hi] at h
 have h : N[i] = x := h
 rw [<- h]; exact List.getElem_mem hi
theorem Jo {N : List (List Nat)} {x : List Nat} (h : ∀ j, j < N.length -> N.getD j [] ≠ x) : ¬ x ∈ N := by
 intro hm
 obtain ⟨j, hj, e⟩ := List.getElem_of_mem hm
 refine h j hj ?_
 rw [List.getD_eq_getElem?_getD, List.getElem?_eq_getElem hj]; exact e
theorem uy {A : List bA} {i : Nat} (h : i < A.length) : A.take (i + 1) = A.take i ++ [lg A i] := by
 rw [List.take_add_one, List.getElem?_eq_getElem h]
 unfold lg
 rw [List.getD_eq_getElem?_getD, List.getElem?_eq_getElem h]; rfl
theorem BO {A : List bA} {p : bA -> Bool} {i : Nat} (h : i < A.length) (hp : p (lg A i) = true) : (A.take (i + 1)).filter p = (A.take i).filter p ++ [lg A i] := by
 rw [uy h, List.filter_append]; simp [hp]
theorem Ei {A : List bA} {p : bA -> Bool} {i : Nat} (h : i < A.length) (hp : p (lg A i) = false) : (A.take (i + 1)).filter p = (A.take i).filter p := by
 rw [uy h, List.filter_append]; simp [hp]
theorem BN (A : List bA) (p : bA -> Bool) (i : Nat) : ((A.take i).filter p).length <= A.length := Nat.le_trans (List.length_filter_le _ _) (by rw [List.length_take]; omega)
theorem zQ (hs : af) (hro : ∀ e ∈ hs, e.w = false) (A : List bA) (va : AV) (ha : LIn hs A va) (hA : LBd A) : Spec tab 256 [va] [] hs (bN (.int .i64 ((lchk A : Nat) : Int))) := by
 have hAl := hA.1
 refine ac (bz 256 Tryz.func256) rfl (m := 44) rfl (rs := [.tmp 2]) rfl (st := [(0, va)]) rfl rfl (fun _ => rfl) (fun E => zr (za (zi 0) (zk (W.seq (zr (zm rfl (zq (Q.len cW rfl (LIn.len ha)) (zq (aa rfl (zi 8) rfl (aJ bY)) (zk (aB rfl (fun hc7 => ?_) (fun hc7 => ?_)))))))))))
 ·refine zr (za (zi 3) (zk (W.ret (ad (ae (z1 rfl) ?_)))))
  show AV.int .i64 _ = _; rw [tW zy]
 refine zw (W.seq (zr (zm rfl (zq (Q.len cW rfl (LIn.len ha)) (zq (Q.move (zi 0)) (zk (W.block (W.loop_ind (fun (i : Nat) => [(0, va), (8, va), (9, .int .i64 ((A.length : Nat) : Int)), (10, .int .i64 ((i : Nat) : Int))]) (fun _ => _) (fun (i : Nat) => i <= A.length /\ lchk A = lchkG A (A.length - i) i) (fun (i : Nat) => A.length - i) (0) ⟨Nat.zero_le _, ye zy⟩ zv (SubH.refl _) (fun i hI0 ih0 => ?_)))))))))
 obtain ⟨h1, h3⟩ := hI0
 refine zr (zq (aa rfl rfl rfl (bu bY)) (zk (W.seq (aB rfl (fun hc11 => ?_) (fun hc11 => ?_)))))
 ·obtain ⟨ba, sza, exa, rfl, wa, ma⟩ := LIn.full ha zy
  refine zw (W.seq (W.block (zr (zm rfl (zq (bj cW eo rfl rfl zo) (zq (ax rfl ma p4 eo (tj zo)) (WO.alloc yS rfl (fun b1 => za rfl (WO.store eo rfl rfl (i := 0) rfl rfl (cs := [_, _]) rfl (hs' := _ :: _) rfl (zk (W.block (zr (zf fw rfl 0 (zq (ag rfl (zt 0 rfl) gP rfl) (ak rfl (aj rfl oz) rfl (z3 _ (hA.at zo).1 (hA.at zo).2.2.1) SubR.nil rfl (zq (Q.not rfl rfl) (za rfl (zk (W.condS rfl (fun hc15 => ?_) (fun hc15 => ?_))))))))))))))))))))
  ·refine zr (za (zi 8) (zk (W.sub (zc 2 rfl aI) (W.ret (ah (ah (ad (aU (ah (ad (ae (z1 rfl) ?_)))))))))))
   show AV.int .i64 _ = _; rw [h3, gu (e := 8) zy (by unfold lchk1; simp_all <;> omega) (by decide)]
  refine zr (zf gX rfl 1 (zq (ag rfl (zt 0 rfl) gP rfl) (zq (aa rfl (oc (v := .str []) (by kernel_rfl)) rfl jb) (za rfl (zk (aB rfl (fun hc20 => ?_) (fun hc20 => ?_)))))))
  ·refine zr (za (zi 2) (zk (W.sub (zc 2 rfl aI) (W.ret (ah (ah (ad (aU (ah (ad (ae (z1 rfl) ?_)))))))))))
   show AV.int .i64 _ = _; rw [h3, gu (e := 2) zy (by unfold lchk1; simp_all <;> omega) (by decide)]
  refine zr (zf gX rfl 1 (zq (ag rfl (zt 0 rfl) gP rfl) (zq (Q.len cf rfl rfl) (zq (aa rfl (zi 64) rfl (aJ bY)) (za rfl (zk (W.sub (zc 24 rfl (zc 3 rfl (zc 4 rfl (zc 0 rfl (zc 8 rfl (zc 9 rfl (zc 10 rfl aI))))))) (aB rfl (fun hc24 => ?_) (fun hc24 => ?_)))))))))
  ·refine zr (za (zi 3) (zk (W.ret (ah (ah (ad (aU (ah (ad (ae (z1 rfl) ?_))))))))))
   show AV.int .i64 _ = _; rw [h3, gu (e := 3) zy (by unfold lchk1; simp_all <;> omega) (by decide)]
  refine W.seq (cX (by kernel_rfl) (zm rfl (zq (aa rfl (zi 0) rfl (aJ bY)) (zm rfl (aC (d := 32) rfl (fun hc32 => ?_) (fun hc32 => ?_))))))
  ·refine zT (zf fw rfl 0 (zT (zq (ag rfl (zt 0 rfl) gP rfl) (zT (zm rfl (zT (zm rfl (zT (zq (aa rfl (zi 1) rfl (bM (oe zo))) (zT (zq (bj cW eo rfl rfl zo) (zT (zq (Q.fieldAddr fw rfl rfl) (zT (zq (ag rfl (List.mem_cons_of_mem _ ma) gP (m9 zo)) (zT (zq (aa rfl rfl rfl th) (zq (aA rfl rfl) (za rfl (zk (W.sub (zc 29 rfl (zc 0 rfl (zc 8 rfl (zc 9 rfl (zc 10 rfl aI))))) (W.condS rfl (fun hc29 => ?_) (fun hc29 => ?_)))))))))))))))))))))))
   ·refine zr (za (zi 13) (zk (W.ret (ah (ah (ad (aU (ah (ad (ae (z1 rfl) ?_))))))))))
    show AV.int .i64 _ = _; rw [h3, gu (e := 13) zy (by unfold lchk1; simp_all <;> omega) (by decide)]
   refine W.skip (End.KB (End.KB (End.K (W.reg (zq (aa rfl (zi 1) rfl zp) (zm rfl (WO.nil (End.KL (W.sub zv (cz (SubH.of_sublist (by simp)) (ih0 (i + 1) ?_ ?_)))))))))))
   ·exact ⟨by omega, by rw [h3, kh zy (by unfold lchk1; simp_all <;> omega)]⟩
   exact zo
  refine z2 (z2 (z2 (z2 (zG (zq (aF rfl rfl) (za rfl (zk (W.sub (zc 29 rfl (zc 0 rfl (zc 8 rfl (zc 9 rfl (zc 10 rfl aI))))) (W.condF rfl (W.skip (End.KB (End.KB (End.K (W.reg (zq (aa rfl (zi 1) rfl zp) (zm rfl (WO.nil (End.KL (W.sub zv (cz (SubH.of_sublist (by simp)) (ih0 (i + 1) ?_ ?_)))))))))))))))))))))
  ·exact ⟨by omega, by rw [h3, kh zy (by unfold lchk1; simp_all <;> omega)]⟩
  exact zo
 refine W.exit (am (aq (ap (End.K (zr (za (zi 0) (zk (W.ret (ae (z1 rfl) ?_)))))))))
 show AV.int .i64 _ = _; rw [h3, qL zy]

theorem rlchk_spec (hs : af) (hro : ∀ e ∈ hs, e.w = false) (A : List bA) (va : AV) (ha : LIn hs A va) (hA : LBd A) : Spec tab 43 [va] [] hs (bN (.int .i64 ((lchk A : Nat) : Int))) := by
 have hAl := hA.1
 refine ac (bz 43 Tryz.func43) rfl (m := 49) rfl (rs := [.tmp 2]) rfl (st := [(0, va)]) rfl rfl (fun _ => rfl) (fun E => zr (za (zi 0) (zk (W.seq (zr (zm rfl (zq (Q.len cW rfl (LIn.len ha)) (zq (aa rfl (zi 8) rfl (aJ bY)) (zk (aB rfl (fun hc6 => ?_) (fun hc6 => ?_)))))))))))
 ·refine zr (za (zi 3) (zk (W.ret (ad (ae (z1 rfl) ?_)))))
  show AV.int .i64 _ = _; rw [tW zy]
 refine zw (W.seq (zr (za (zi 0) (zk (W.block (W.loop_ind (fun (i : Nat) => [(0, va), (3, .int .i64 ((i : Nat) : Int))]) (fun _ => _) (fun (i : Nat) => i <= A.length /\ lchk A = lchkG A (A.length - i) i) (fun (i : Nat) => A.length - i) (0) ⟨Nat.zero_le _, ye zy⟩ zv (SubH.refl _) (fun i hI0 ih0 => ?_)))))))
 obtain ⟨h1, h3⟩ := hI0
 refine W.seq (zr (zm rfl (zm rfl (zq (Q.len cW rfl (LIn.len ha)) (zq (aa rfl rfl rfl (bu bY)) (zk (aB rfl (fun hc10 => ?_) (fun hc10 => ?_))))))))
 ·obtain ⟨ba, sza, exa, rfl, wa, ma⟩ := LIn.full ha zy
  refine zw (W.seq (W.block (W.seq (zr (zm rfl (zm rfl (zq (bj cW eo rfl rfl zo) (zq (Q.fieldAddr fw rfl rfl) (zq (ag rfl ma gP (m9 zo)) (ak rfl (aj rfl oz) rfl (vR _ (hA.at zo).1 (hA.at zo).2.2.1) SubR.nil rfl (zq (Q.not rfl rfl) (zk (W.condS rfl (fun hc19 => ?_) (fun hc19 => ?_))))))))))))))
  ·refine zr (za (zi 8) (zk (W.ret (ad (ah (ad (aU (ah (ad (ae (z1 rfl) ?_))))))))))
   show AV.int .i64 _ = _; rw [h3, gu (e := 8) zy (by unfold lchk1; simp_all <;> omega) (by decide)]
  refine zw (W.seq (zr (zm rfl (zm rfl (zq (bj cW eo rfl rfl zo) (zq (Q.fieldAddr gX rfl rfl) (zq (ag rfl ma gP (tk zo)) (zq (aa rfl (oc (v := .str []) (by kernel_rfl)) rfl jb) (zk (W.sub (zc 25 rfl (zc 0 rfl (zc 3 rfl aI))) (aB rfl (fun hc25 => ?_) (fun hc25 => ?_))))))))))))
  ·refine zr (za (zi 2) (zk (W.ret (ad (ah (ad (aU (ah (ad (ae (z1 rfl) ?_))))))))))
   show AV.int .i64 _ = _; rw [h3, gu (e := 2) zy (by unfold lchk1; simp_all <;> omega) (by decide)]
  refine zw (W.seq (zr (zm rfl (zm rfl (zq (bj cW eo rfl rfl zo) (zq (Q.fieldAddr gX rfl rfl) (zq (ag rfl ma gP (tk zo)) (zq (Q.len cf rfl rfl) (zq (aa rfl (zi 64) rfl (aJ bY)) (zk (aB rfl (fun hc32 => ?_) (fun hc32 => ?_))))))))))))
  ·refine zr (za (zi 3) (zk (W.ret (ad (ah (ad (aU (ah (ad (ae (z1 rfl) ?_))))))))))
   show AV.int .i64 _ = _; rw [h3, gu (e := 3) zy (by unfold lchk1; simp_all <;> omega) (by decide)]
  refine zw (W.seq (cX (by kernel_rfl) (zm rfl (zq (aa rfl (zi 0) rfl (aJ bY)) (zm rfl (aC (d := 35) rfl (fun hc35 => ?_) (fun hc35 => ?_)))))))
  ·refine zT (zm rfl (zT (zm rfl (zT (zq (bj cW eo rfl rfl zo) (zT (zq (Q.fieldAddr fw rfl rfl) (zT (zq (ag rfl ma gP (m9 zo)) (zT (zm rfl (zT (zm rfl (zT (zq (aa rfl (zi 1) rfl (bM (oe zo))) (zT (zq (bj cW eo rfl rfl zo) (zT (zq (Q.fieldAddr fw rfl rfl) (zT (zq (ag rfl ma gP (m9 zo)) (zT (zq (aa rfl rfl rfl th) ?_)))))))))))))))))))))))
   refine zq (aA rfl rfl) (zk (W.sub (zc 48 rfl (zc 0 rfl (zc 3 rfl aI))) (W.condS rfl (fun hc48 => ?_) (fun hc48 => ?_))))
   ·refine zr (za (zi 13) (zk (W.ret (ah (ad (aU (ah (ad (ae (z1 rfl) ?_)))))))))
    show AV.int .i64 _ = _; rw [h3, gu (e := 13) zy (by unfold lchk1; simp_all <;> omega) (by decide)]
   refine W.skip (End.KB (End.K (W.reg (zm rfl (zq (aa rfl (zi 1) rfl zp) (za rfl (WO.nil (End.KL (W.sub zv (cz (SubH.of_sublist (by simp)) (ih0 (i + 1) ?_ ?_)))))))))))
   ·exact ⟨by omega, by rw [h3, kh zy (by unfold lchk1; simp_all <;> omega)]⟩
   exact zo
  refine z2 (z2 (z2 (z2 (z2 (z2 (zq (aF rfl rfl) (zk (W.sub (zc 48 rfl (zc 0 rfl (zc 3 rfl aI))) (W.condF rfl (W.skip (End.KB (End.K (W.reg (zm rfl (zq (aa rfl (zi 1) rfl zp) (za rfl (WO.nil (End.KL ?_))))))))))))))))))
  refine W.sub zv (cz (SubH.of_sublist (by simp)) (ih0 (i + 1) ?_ ?_))
  ·exact ⟨by omega, by rw [h3, kh zy (by unfold lchk1; simp_all <;> omega)]⟩
  exact zo
 refine W.exit (am (aq (ap (End.K (zr (za (zi 0) (zk (W.ret (ae (z1 rfl) ?_)))))))))
 show AV.int .i64 _ = _; rw [h3, qL zy]

theorem mD (n : Int) : Spec tab 90 [.int .i64 n] [] [] (bN (.bool (fitB n))) := by
 refine ac (bz 90 Tryz.func90) rfl (m := 9) rfl (rs := [.tmp 2]) rfl (st := [(0, .int .i64 n)]) rfl rfl (fun _ => rfl) (fun E => zr (za rfl (zk (zr (zm rfl (zq (aa rfl rfl rfl (aZ dc)) (zm rfl (aC (d := 5) rfl (fun hc5 => ?_) (fun hc5 => ?_)))))))))
 ·refine zT (zm rfl (zT (zq (aa rfl (zi 1152921504606846976) rfl (aZ dc)) (zq (aA rfl rfl) (za rfl (zk (W.ret (ae (z1 rfl) ?_))))))))
  first | (simp_all [fz, fitB]; done) | (simp_all [fz, fitB]; omega)
 refine z2 (zq (aF rfl rfl) (za rfl (zk (W.ret (ae (z1 rfl) ?_)))))
 first | (simp_all [fz, fitB]; done) | (simp_all [fz, fitB]; omega)

theorem rfits_spec (n : Int) : Spec tab 47 [.int .i64 n] [] [] (bN (.bool (fitB n))) := by
 refine ac (bz 47 Tryz.func47) rfl (m := 9) rfl (rs := [.tmp 2]) rfl (st := [(0, .int .i64 n)]) rfl rfl (fun _ => rfl) (fun E => zr (za rfl (zk (zr (zm rfl (zq (aa rfl rfl rfl (bp dc)) (zm rfl (aC (d := 5) rfl (fun hc5 => ?_) (fun hc5 => ?_)))))))))
 ·refine zT (zm rfl (zT (zq (aa rfl (zi 1152921504606846976) rfl (aZ dc)) (zq (aA rfl rfl) (za rfl (zk (W.ret (ae (z1 rfl) ?_))))))))
  first | (simp_all [fz, fitB]; done) | (simp_all [fz, fitB]; omega)
 refine z2 (zq (aF rfl rfl) (za rfl (zk (W.ret (ae (z1 rfl) ?_)))))
 first | (simp_all [fz, fitB]; done) | (simp_all [fz, fitB]; omega)

theorem Bd (lv : AV) (n : Int) (hlv : lv.isCell = true) : Spec tab 228 [.agg [lv, .int .i64 n]] [] [] (bN (.bool (!(fitB n)))) := by
 refine ac (bz 228 Tryz.func228) rfl (m := 7) rfl (rs := [.tmp 2]) rfl (st := [(0, .agg [lv, .int .i64 n])]) rfl rfl (fun _ => rfl) (fun E => zr (WO.box rfl (by simp [AV.cells, AV.isCell] at hlv ⊢; exact hlv) (DV _ rfl) rfl (fun b1 => za rfl (zk (zr (zf o7 rfl 1 (zq (ag rfl (zt 0 rfl) bH rfl) (ak rfl (aj rfl oz) rfl (mD _) SubR.nil rfl (zq (Q.not rfl rfl) (za rfl (zk (W.ret (ae (z1 rfl) ?_)))))))))))))
 rfl

theorem zN (hs : af) (hro : ∀ e ∈ hs, e.w = false) (V : List El) (v : AV) (hV : EIn hs V v) (hB : EBd V) : Spec tab 257 [v, .func 228 []] [] hs (ij (fun u => ∃ r : Int, u = .int .i64 r /\ (0 <= r ↔ ∃ i, i < V.length /\ fitB (eg V i).2.2 = false))) := by
 have hBl := hB.1
 refine ac (bz 257 Tryz.func257) rfl (m := 19) rfl (rs := [.tmp 4]) rfl (st := [(0, v), (1, .func 228 [])]) rfl rfl (fun _ => rfl) (fun E => zr (za (zi 0) (zk (W.seq (zr (zm rfl (zq (Q.len eW rfl (EIn.len hV)) (zq (Q.move (zi 0)) (zk (W.block (W.loop_ind (fun (i : Nat) => [(0, v), (1, .func 228 []), (7, .int .i64 ((V.length : Nat) : Int)), (8, .int .i64 ((i : Nat) : Int))]) (fun _ => _) (fun (i : Nat) => i <= V.length /\ ∀ j, j < i -> fitB (eg V j).2.2 = true) (fun (i : Nat) => V.length - i) (0) ⟨Nat.zero_le _, fun j h => by omega⟩ zv (SubH.refl _) (fun i hI0 ih0 => ?_))))))))))))
 obtain ⟨hi, hno⟩ := hI0
 refine zr (zq (aa rfl rfl rfl (bu bY)) (zk (W.seq (aB rfl (fun hc9 => ?_) (fun hc9 => ?_)))))
 ·obtain ⟨bv, szv, exv, rfl, wv, mv⟩ := EIn.full hV zy
  refine zw (W.seq (W.block (zr (zm rfl (za rfl (zk (zr (zm rfl (zm rfl (zm rfl (zq (bj eW dN rfl rfl zo) (zq (ax rfl mv kK dN (lz zo)) (ak rfl (aj rfl oz) rfl (Bd _ _ (LIn.cell (hV.at zo))) SubR.nil rfl (zk (W.condS rfl (fun hc16 => ?_) (fun hc16 => ?_))))))))))))))))
  ·refine zr (zm rfl (za rfl (zk (W.sub (zc 4 rfl aI) (W.ret (ah (ad (aU (ah (ad (ar (z1 rfl) ?_)))))))))))
   exact ⟨_, rfl, by constructor; intro _; exact ⟨i, by omega, by simpa using hc16⟩; intro _; omega⟩
  refine W.skip (End.KB (End.K (W.reg (zq (aa rfl (zi 1) rfl zp) (zm rfl (WO.nil (End.KL (W.sub zv (ih0 (i + 1) ?_ ?_)))))))))
  ·exact ⟨by omega, fun j h => by rcases Nat.lt_or_ge j i with g | g; exact hno j g; have hji : j = i := zy; subst hji; simpa using hc16⟩
  exact zo
 refine W.exit (am (aq (ap (End.K (zr (za rfl (zk (W.ret (ar (z1 rfl) ?_)))))))))
 exact ⟨_, rfl, by constructor; intro h; omega; rintro ⟨j, hj, hf⟩; rw [hno j zy] at hf; cases hf⟩

theorem Bs (hs : af) (hro : ∀ e ∈ hs, e.w = false) (V : List El) (v : AV) (hV : EIn hs V v) (hB : EBd V) : Spec tab 227 [v, .func 228 []] [] hs (bN (.bool (!(qz V)))) := by
 refine ac (bz 227 Tryz.func227) rfl (m := 9) rfl (rs := [.tmp 4]) rfl (st := [(0, v), (1, .func 228 [])]) rfl rfl (fun _ => rfl) (fun E => zr (za rfl (zk (zr (zm rfl (zm rfl (WO.callE rfl (aj rfl (aj rfl oz)) rfl (zN hs hro V _ hV hB) (aN hro) rfl (fun v7 hP7 => ?_))))))))
 obtain ⟨r, rfl, hr⟩ := hP7
 refine zq (aa rfl (zi 0) rfl (bp dc)) (za rfl (zk (W.ret (ae (z1 rfl) ?_))))
 exact BP hr

theorem B0 (hs : af) (hro : ∀ e ∈ hs, e.w = false) (N : List (List Nat)) (vn : AV) (hN : SIn hs N vn) (hNb : SBd N) (x : List Nat) (hx : Bytes x) : Spec tab 221 [vn, .str x] [] hs (ij (fun u => ∃ r : Int, u = .int .i64 r /\ (0 <= r ↔ x ∈ N))) := by
 have hNl := hNb.1
 refine ac (bz 221 Tryz.func221) rfl (m := 19) rfl (rs := [.tmp 4]) rfl (st := [(0, vn), (1, .str x)]) rfl rfl (fun _ => rfl) (fun E => zr (za (zi 0) (zk (W.seq (zr (zm rfl (zq (Q.len mY rfl (SIn.len hN)) (zq (Q.move (zi 0)) (zk (W.block (W.loop_ind (fun (i : Nat) => [(0, vn), (1, .str x), (7, .int .i64 ((N.length : Nat) : Int)), (8, .int .i64 ((i : Nat) : Int))]) (fun _ => _) (fun (i : Nat) => i <= N.length /\ ∀ j, j < i -> N.getD j [] ≠ x) (fun (i : Nat) => N.length - i) (0) ⟨Nat.zero_le _, fun j h => by omega⟩ zv (SubH.refl _) (fun i hI0 ih0 => ?_))))))))))))
 obtain ⟨hi, hno⟩ := hI0
 refine zr (zq (aa rfl rfl rfl (bu bY)) (zk (W.seq (aB rfl (fun hc9 => ?_) (fun hc9 => ?_)))))
 ·obtain ⟨bn, szn, exn, rfl, wn, mn⟩ := SIn.full hN zy
  refine zw (W.seq (W.block (zr (zm rfl (za rfl (zk (zr (zm rfl (zm rfl (zm rfl (zq (bj mY C9 rfl rfl zo) (zq (ag rfl mn gP (sJ zo)) (zq (aa rfl rfl rfl jb) (zk (aB rfl (fun hc16 => ?_) (fun hc16 => ?_))))))))))))))))
  ·refine zr (zm rfl (za rfl (zk (W.sub (zc 4 rfl aI) (W.ret (ah (ad (aU (ah (ad (ar (z1 rfl) ?_)))))))))))
   exact ⟨_, rfl, by constructor; intro _; exact Ho (i := i) zy (by simp_all); intro _; omega⟩
  refine W.skip (End.KB (End.K (W.reg (zq (aa rfl (zi 1) rfl zp) (zm rfl (WO.nil (End.KL (W.sub zv (ih0 (i + 1) ?_ ?_)))))))))
  ·exact ⟨by omega, fun j h => by rcases Nat.lt_or_ge j i with g | g; exact hno j g; have hji : j = i := zy; subst hji; intro e; simp_all⟩
  exact zo
 refine W.exit (am (aq (ap (End.K (zr (za rfl (zk (W.ret (ar (z1 rfl) ?_)))))))))
 exact ⟨_, rfl, by constructor; intro h; omega; intro h; exact absurd h (Jo (fun j hj => hno j zy))⟩

theorem Bt (hs : af) (hro : ∀ e ∈ hs, e.w = false) (N : List (List Nat)) (vn : AV) (hN : SIn hs N vn) (hNb : SBd N) (x : List Nat) (hx : Bytes x) : Spec tab 182 [vn, .str x] [] hs (bN (.bool (decide (x ∈ N)))) := by
 refine ac (bz 182 Tryz.func182) rfl (m := 9) rfl (rs := [.tmp 4]) rfl (st := [(0, vn), (1, .str x)]) rfl rfl (fun _ => rfl) (fun E => zr (za rfl (zk (zr (zm rfl (zm rfl (WO.callE rfl (aj rfl (aj rfl oz)) rfl (B0 hs hro N _ hN hNb _ hx) (aN hro) rfl (fun v7 hP7 => ?_))))))))
 obtain ⟨r, rfl, hr⟩ := hP7
 refine zq (aa rfl (zi 0) rfl (bp dc)) (za rfl (zk (W.ret (ae (z1 rfl) ?_))))
 exact congrArg AV.bool (decide_eq_decide.2 hr)


theorem vf (hs : af) (hro : ∀ e ∈ hs, e.w = false) (N : List (List Nat)) (vn : AV) (hN : SIn hs N vn) (hNb : SBd N) (b0 : Nat) (e0 : Bool) (m0 : MemH hs b0 ⟨1, e0, [vn]⟩) (a b : List Nat) (hx : Bytes a) (hy : Bytes b) : Spec tab 181 [.agg [.str a, .str b], .ptr b0 0] [] hs (bN (.bool (!(decide (a ∈ N))))) := by
 obtain ⟨w0, m0⟩ := m0
 refine ac (bz 181 Tryz.func181) rfl (m := 9) rfl (rs := [.tmp 3]) rfl (st := [(0, .agg [.str a, .str b]), (1, .ptr b0 0)]) rfl rfl (fun _ => rfl) (fun E => zr (WO.box rfl rfl (DW _ rfl) rfl (fun b1 => za rfl (zk (zr (zq (ag rfl (List.mem_cons_of_mem _ m0) yQ rfl) (zf fw rfl 0 (zq (ag rfl (zt 0 rfl) gP rfl) (ak rfl (aj rfl (aj rfl oz)) rfl (Bt hs hro N _ hN hNb _ hx) (aQ (aN hro)) rfl (zq (Q.not rfl EQ) (za rfl (zk (W.ret (ae (z1 rfl) ?_))))))))))))))
 exact congrArg AV.bool decide_not

theorem vZ (hs : af) (hro : ∀ e ∈ hs, e.w = false) (A : List bA) (va : AV) (ha : LIn hs A va) (hA : LBd A) (p : bA -> Bool) (F : Nat) (caps : List AV) (hF : ∀ x : bA, Bytes x.1 -> Bytes x.2 -> Spec tab F (dS [.agg [.str x.1, .str x.2]] caps) [] hs (bN (.bool (p x)))) : Spec tab 180 [va, .func F caps] [] hs (fun v D => OwnE 2 (cL (A.filter p)) (A.filter p).length v D) := by
 have hAl := hA.1
 refine ac (bz 180 Tryz.func180) rfl (m := 23) rfl (rs := [.tmp 4]) rfl (st := [(0, va), (1, .func F caps)]) rfl rfl (fun _ => rfl) (fun E => zr (za rfl (zk (zr (za rfl (zk (W.seq (zr (zm rfl (zq (Q.len cW rfl (LIn.len ha)) (zq (Q.move (zi 0)) (zk (W.block (bI (fun (i : Nat) (v : AV) (hp : af) => [(1, .func F caps), (5, v), (8, va), (9, .int .i64 ((A.length : Nat) : Int)), (10, .int .i64 ((i : Nat) : Int))]) (fun (i : Nat) (v : AV) (hp : af) => (hs ++ hp)) (fun (i : Nat) (v : AV) (hp : af) => i <= A.length /\ OwnE 2 (cL ((A.take i).filter p)) ((A.take i).filter p).length v hp) (fun (i : Nat) (v : AV) (hp : af) => A.length - i) (0) (.nils) ([]) ⟨Nat.zero_le _, OwnE.nil 2⟩ zv m8 (fun i v hp hI0 ih0 => ?_)))))))))))))))
 obtain ⟨h1, hO⟩ := hI0
 refine zr (zq (aa rfl rfl rfl (bu bY)) (zk (W.seq (aB rfl (fun hc11 => ?_) (fun hc11 => ?_)))))
 ·obtain ⟨ba, sza, exa, rfl, wa, ma⟩ := LIn.full ha zy
  refine zw (W.seq (W.block (zr (zq (bj cW eo rfl rfl zo) (zq (ax rfl (List.mem_append_left _ ma) p4 eo (tj zo)) (WO.alloc yS rfl (fun b1 => WO.store eo rfl rfl (i := 0) rfl rfl (cs := [_, _]) rfl (hs' := _ :: _) rfl (zk (zr (zm rfl (zq (ax rfl (zt 0 rfl) p4 eo (l := [_, _]) rfl) (ak rfl (aj rfl oz) rfl (hF (lg A i) (hA.at zo).1 (hA.at zo).2.1) (aQ (SubR.appl (aN hro))) rfl (zk (W.condS rfl (fun hc16 => ?_) (fun hc16 => ?_)))))))))))))))
  ·refine W.reg (zm rfl (zq (ax rfl (zt 0 rfl) p4 eo (l := [_, _]) rfl) (WO.bslice cW eo Dm rfl (cy rfl dE) rfl (cs := [_, _]) rfl rfl rfl (fun b2 => WO.appAny (A := ([_] ++ hs)) lp hO rfl rfl (Src.slice (zt 0 rfl) rfl) rfl (by have := BN A p i; omega) (by decide) (SubH.of_sublist (List.sublist_cons_self _ _)) rfl (fun v20 hp20 hO20 => za rfl (WO.nil (End.KB (End.K (W.reg (zq (aa rfl (zi 1) rfl zp) (zm rfl (WO.nil (End.KL (W.sub zv (cz gc (ih0 (i + 1) (v20) (hp20) ?_ ?_))))))))))))))))
   ·exact ⟨by omega, by rw [BO zy hc16, y2, List.length_append]; exact hO20⟩
   exact zo
  refine W.skip (End.KB (End.K (W.reg (zq (aa rfl (zi 1) rfl zp) (zm rfl (WO.nil (End.KL (W.sub zv (cz gc (ih0 (i + 1) (v) (hp) ?_ ?_))))))))))
  ·exact ⟨by omega, by rw [Ei zy hc16]; exact hO⟩
  exact zo
 refine W.exit (am (aq (ap (End.K (zr (zm rfl (za rfl (zk (W.ret ?_)))))))))
 refine End.ret (z1 rfl) (hs' := hp) (by rw [List.take_of_length_le zy] at hO; exact hO) (OwnE.w hO) gc
end Go.Proofs.YtfkbfnpjggkdmaaGreatDoor.Ev.P19
