/- Chapter 16, by the document: what the parser looks at. -/
import Derived.Test.YtndhhgbpcmfeiaaGreatDoorEVj
namespace Go.Proofs.YtndhhgbpcmfeiaaGreatDoor.Ev.P16
open Go.RowKit
set_option maxRecDepth 100000
set_option maxHeartbeats 1000000
def tg (M : List TokT) (i : Nat) : TokT := M.getD i (0, [], 0, 0)
theorem tokC_len (t : TokT) : (tokC t).length = 4 := rfl
theorem tokCs_cons (t : TokT) (L : List TokT) : tokCs (t :: L) = tokC t ++ tokCs L := by simp [tokCs]
theorem tokCs_len : ∀ L : List TokT, (tokCs L).length = L.length * 4
 | [] => rfl
 | t :: L => by rw [tokCs_cons, List.length_append, tokC_len, tokCs_len L, List.length_cons]; omega
theorem tokCs_get : ∀ (L : List TokT) (i j : Nat), i < L.length → j < 4 → (tokCs L)[i * 4 + j]? = (tokC (tg L i))[j]?
 | [], i, j, h, _ => by simp at h
 | t :: L, 0, j, h, hj => by
  rw [tokCs_cons, List.getElem?_append_left (by rw [tokC_len]; omega)]
  simp [tg]
 | t :: L, i + 1, j, h, hj => by
  rw [tokCs_cons, List.getElem?_append_right (by rw [tokC_len]; omega), tokC_len]
  have : (i + 1) * 4 + j - 4 = i * 4 + j := by omega
  rw [this, tokCs_get L i j (by simpa using h) hj]
  rfl
theorem tsub {L : List TokT} {i : Nat} (h : i < L.length) : sub? (tokCs L) ((0 + i) * 4) 4 = some (tokC (tg L i)) := by
 unfold sub?
 have hle : Nat.ble ((0 + i) * 4 + 4) (tokCs L).length = true := by rw [tokCs_len]; apply Nat.ble_eq.mpr; omega
 simp only [hle]
 congr 1
 apply List.ext_getElem?
 intro j
 rw [List.getElem?_take, List.getElem?_drop]
 split
 ·rename_i hj
  rw [Nat.zero_add, tokCs_get L i j h hj]
 ·rw [List.getElem?_eq_none (by rw [tokC_len]; omega)]
theorem SubR.two {bx bt : Nat} {ox ot : AObj} {w w' : Bool} {A : HSt} : SubR [⟨bx, ox, false⟩, ⟨bt, ot, false⟩] (⟨bx, ox, w⟩ :: ⟨bt, ot, w'⟩ :: A) := by
 refine ⟨fun e he => ?_, fun hn => ?_⟩
 ·rcases List.mem_cons.1 he with rfl | he
  ·exact ⟨rfl, w, List.mem_cons_self⟩
  ·rcases List.mem_cons.1 he with rfl | he
   ·exact ⟨rfl, w', List.mem_cons_of_mem _ List.mem_cons_self⟩
   ·simp at he
 ·simp only [List.map_cons, List.nodup_cons, List.mem_cons, not_or] at hn
  simp only [List.map_cons, List.map_nil, List.nodup_cons, List.mem_cons, List.not_mem_nil, or_false, not_false_eq_true, List.nodup_nil, and_true]
  exact hn.1.1
theorem SubR.pair {bx bt i j : Nat} {ox ot : AObj} {w w' : Bool} {hs : HSt} (h1 : hs[i]? = some ⟨bx, ox, w⟩) (h2 : hs[j]? = some ⟨bt, ot, w'⟩) (hij : i ≠ j) : SubR [⟨bx, ox, false⟩, ⟨bt, ot, false⟩] hs := by
 refine ⟨fun e he => ?_, fun hn => ?_⟩
 ·rcases List.mem_cons.1 he with rfl | he
  ·exact ⟨rfl, w, List.mem_of_getElem? h1⟩
  ·rcases List.mem_cons.1 he with rfl | he
   ·exact ⟨rfl, w', List.mem_of_getElem? h2⟩
   ·simp at he
 ·have e1 : (hs.map (·.b))[i]? = some bx := by rw [List.getElem?_map, h1]; rfl
  have e2 : (hs.map (·.b))[j]? = some bt := by rw [List.getElem?_map, h2]; rfl
  have hne : bx ≠ bt := by
   intro e
   have hi : i < (hs.map (·.b)).length := (List.getElem?_eq_some_iff.1 e1).1
   exact hij ((List.getElem?_inj hi hn).1 (by rw [e1, e2, e]))
  simp only [List.map_cons, List.map_nil, List.nodup_cons, List.mem_cons, List.not_mem_nil, or_false, not_false_eq_true, List.nodup_nil, and_true]
  exact hne
def isV (e : Int) (t : TokT) (s : List Nat) : Bool := decide (e = 0) && (decide (t.1 = 1) || decide (t.1 = 5)) && decide (t.2.1 = s)
@[simp] theorem tok_beq {t : TokT} : beqL beq0 (tokC t) (tokC t) = true := by simp [tokC, beqL, beq0]
theorem isV_t {e : Int} {t : TokT} {s : List Nat} (h : isV e t s = true) : e = 0 ∧ (t.1 = 1 ∨ t.1 = 5) ∧ t.2.1 = s := by
 unfold isV at h
 simp only [Bool.and_eq_true, Bool.or_eq_true, decide_eq_true_eq] at h
 exact ⟨h.1.1, h.1.2, h.2⟩
theorem lt_last {toks : List TokT} {n a : Nat} (h : (tg toks n).1 = 6) (ha : a ≤ n) (g : (tg toks a).1 ≠ 6) : a < n := by
 rcases Nat.lt_or_ge a n with h1 | h1
 ·exact h1
 ·have e : a = n := by omega
  subst e
  exact absurd h g
def TokO (M : List TokT) : Prop := ∀ x ∈ M, Bytes x.2.1 ∧ x.2.1.length ≤ 1024
theorem tokO {M : List TokT} (h : TokO M) {i : Nat} (hi : i < M.length) : Bytes (tg M i).2.1 ∧ (tg M i).2.1.length ≤ 1024 := by
 refine h _ ?_
 unfold tg
 rw [List.getD_eq_getElem?_getD, List.getElem?_eq_getElem hi]
 exact List.getElem_mem hi
theorem now_spec (toks : List TokT) (n : Nat) (hn : toks.length = n + 1) (hnl : n ≤ 1048576) (hok : TokO toks) (tb : Nat) (ex : Bool) (X a : Nat) (ha : a ≤ n) (dp e bd : Int) : Spec tab 32 [.ptr X 0] [] [⟨X, ⟨5, true, [.slice tb 0 (n + 1) 4, .int .i64 ((a : Nat) : Int), .int .i64 dp, .int .i64 e, .int .i64 bd]⟩, false⟩, ⟨tb, ⟨4, ex, tokCs toks⟩, false⟩] (Val (.agg (tokC (tg toks a)))) := by
 refine Spec.en (ftg 32 Tryz.func32) rfl (m := 20) rfl (rs := [.cell 2 67]) rfl (st := [(0, .ptr X 0)]) rfl rfl (fun _ => rfl) (fun E => zr (WO.alloc ao67 rfl (fun b1 => zk (W.seq (W.regT (by kernel_rfl) (zm rfl (zq (Q.nilP rfl) (zf fa64_0 rfl 0 (zq (Q.l1 rfl (zt 1 rfl) ag59 rfl) (zm rfl (zq (Q.nilP rfl) (zf fa64_1 rfl 1 (zq (Q.l1 rfl (zt 1 rfl) ag3 rfl) (zm rfl (zq (Q.nilP rfl) (zf fa64_0 rfl 0 (zq (Q.l1 rfl (zt 1 rfl) ag59 rfl) (zq (Q.len ud59 rfl rfl) (zq (Q.bin rfl (zi 1) rfl (bv_sub (wns zo))) (zq (Q.minmax false (oLc rfl (oLc rfl oz)) mm_min) (zq (Q.iS ud59 sz67 rfl rfl zo) (zq (Q.loadN rfl (zt 2 rfl) ag67 sz67 (tsub zy)) (WO.store sz67 rfl rfl (i := 0) rfl rfl (cs := [_, _, _, _]) rfl (hs' := [_, _, _]) rfl ?_)))))))))))))))))))))))
 refine zk (W.sub (zc 2 rfl zzn) (W.ret (End.rV (ResL.agg (c := [_, _, _, _]) rfl (zt 0 rfl) ag67 sz67 rfl ResL.nil) ?_)))
 (have e : min a (n + 1 - 1) = a := zy; simp only [e]; rfl)

theorem is_spec (toks : List TokT) (n : Nat) (hn : toks.length = n + 1) (hnl : n ≤ 1048576) (hok : TokO toks) (tb : Nat) (ex : Bool) (X a : Nat) (ha : a ≤ n) (dp e bd : Int) (s : List Nat) (hs : Bytes s) : Spec tab 59 [.ptr X 0, .str s] [] [⟨X, ⟨5, true, [.slice tb 0 (n + 1) 4, .int .i64 ((a : Nat) : Int), .int .i64 dp, .int .i64 e, .int .i64 bd]⟩, false⟩, ⟨tb, ⟨4, ex, tokCs toks⟩, false⟩] (Val (.bool (isV e (tg toks a) s))) := by
 refine Spec.en (ftg 59 Tryz.func59) rfl (m := 29) rfl (rs := [.tmp 4]) rfl (st := [(0, .ptr X 0), (1, .str s)]) rfl rfl (fun _ => rfl) (fun E => zr (za rfl (zk (zr (zm rfl (WO.cV rfl (oLc rfl oz) rfl (now_spec toks n hn hnl hok tb ex X a ha dp e bd) SubR.two rfl (WO.alloc ao67 rfl (fun b1 => WO.store sz67 rfl rfl (i := 0) rfl rfl (cs := [_, _, _, _]) rfl (hs' := [_, _, _]) rfl (zk (zr (zm rfl (zq (Q.nilP rfl) (zf fa64_3 rfl 3 (zq (Q.l1 rfl (zt 1 rfl) ag3 rfl) (zq (Q.bin rfl (zi 0) rfl (bv_eql eq_int)) (zm rfl (WO.sD (d := 13) rfl (fun hc13 => ?_) (fun hc13 => ?_))))))))))))))))))
 ·refine zT (zf fa67_0 rfl 0 (zT (zq (Q.l1 rfl (zt 0 rfl) ag3 rfl) (zT (zq (Q.bin rfl (zi 1) rfl (bv_eql eq_nat)) (zT (zm rfl (WO.sD (d := 17) rfl (fun hc17 => ?_) (fun hc17 => ?_)))))))))
  ·refine zG (zG (zG (zT (zq (Q.pT rfl rfl) (zq (Q.pT rfl rfl) (zm rfl (zT (zf fa67_1 rfl 1 (zT (zq (Q.l1 rfl (zt 0 rfl) ag9 rfl) (zT (zm rfl (zT (zq (Q.bin rfl rfl rfl bv_seql) (zq (Q.pT rfl rfl) (za rfl (zk (W.sub (zc 4 rfl zzn) (W.ret (End.rV (z1 rfl) ?_))))))))))))))))))))
   exact bool_eq (by simp_all [isV])
  refine zT (zf fa67_0 rfl 0 (zT (zq (Q.l1 rfl (zt 0 rfl) ag3 rfl) (zT (zq (Q.bin rfl (zi 5) rfl (bv_eql eq_nat)) (zT (zq (Q.pF rfl rfl) (zq (Q.pT rfl rfl) (zm rfl (WO.sD (d := 23) rfl (fun hc23 => ?_) (fun hc23 => ?_)))))))))))
  ·refine zT (zf fa67_1 rfl 1 (zT (zq (Q.l1 rfl (zt 0 rfl) ag9 rfl) (zT (zm rfl (zT (zq (Q.bin rfl rfl rfl bv_seql) (zq (Q.pT rfl rfl) (za rfl (zk (W.sub (zc 4 rfl zzn) (W.ret (End.rV (z1 rfl) ?_)))))))))))))
   exact bool_eq (by simp_all [isV])
  refine zG (zG (zG (zG (zq (Q.pF rfl rfl) (za rfl (zk (W.sub (zc 4 rfl zzn) (W.ret (End.rV (z1 rfl) ?_)))))))))
  exact bool_eq (by simp_all [isV])
 refine zG (zG (zG (zG (WO.gF rfl rfl (.inr rfl) rfl (WO.gF rfl rfl (.inr rfl) rfl (WO.gF rfl rfl (.inr rfl) rfl (zG (zq (Q.pF rfl rfl) (zm rfl (zG (zG (zG (zG (zq (Q.pF rfl rfl) (za rfl (zk (W.sub (zc 4 rfl zzn) (W.ret (End.rV (z1 rfl) ?_)))))))))))))))))))
 exact bool_eq (by simp_all [isV])

theorem fail_spec (n tb X a : Nat) (dp e bd er pl : Int) : Spec tab 33 [.ptr X 0, .int .i64 er, .int .i64 pl] [X] [⟨X, ⟨5, true, [.slice tb 0 (n + 1) 4, .int .i64 ((a : Nat) : Int), .int .i64 dp, .int .i64 e, .int .i64 bd]⟩, true⟩] (fun v D => v = .tuple [] ∧ D = [⟨X, ⟨5, true, [.slice tb 0 (n + 1) 4, .int .i64 ((a : Nat) : Int), .int .i64 dp, .int .i64 (if e = 0 then er else e), .int .i64 (if e = 0 then pl else bd)]⟩, true⟩]) := by
 refine Spec.en (ftg 33 Tryz.func33) rfl (m := 19) rfl (rs := []) rfl (st := [(0, .ptr X 0), (1, .int .i64 er), (2, .int .i64 pl)]) rfl rfl (fun _ => rfl) (fun E => zr (zm rfl (zq (Q.nilP rfl) (zf fa64_3 rfl 3 (zq (Q.l1 rfl (zt 0 rfl) ag3 rfl) (zq (Q.bin rfl (zi 0) rfl (bv_eql eq_int)) (zk (W.cD rfl (fun hc10 => ?_) (fun hc10 => ?_)))))))))
 ·refine W.reg (zm rfl (zm rfl (zm rfl (zm rfl (zq (Q.nilP rfl) (zf fa64_3 rfl 3 (zS5 sz3 rfl rfl (i := 0) rfl rfl rfl (hs' := [_]) rfl (zq (Q.nilP rfl) (zf fa64_4 rfl 4 (zS5 sz3 rfl rfl (i := 0) rfl rfl rfl (hs' := [_]) rfl (WO.nil ?_)))))))))))
  refine End.fall ResL.nil (hs' := [⟨X, ⟨5, true, [.slice tb 0 (n + 1) 4, .int .i64 ((a : Nat) : Int), .int .i64 dp, .int .i64 er, .int .i64 pl]⟩, true⟩]) ⟨rfl, by rw [if_pos (by simpa using hc10), if_pos (by simpa using hc10)]⟩ (by intro e he; simp at he; subst he; rfl) (SubH.refl _)
 refine W.skip ?_
 refine End.fall ResL.nil (hs' := [⟨X, ⟨5, true, [.slice tb 0 (n + 1) 4, .int .i64 ((a : Nat) : Int), .int .i64 dp, .int .i64 e, .int .i64 bd]⟩, true⟩]) ⟨rfl, by rw [if_neg (by simpa using hc10), if_neg (by simpa using hc10)]⟩ (by intro e he; simp at he; subst he; rfl) (SubH.refl _)

theorem must_spec (toks : List TokT) (n : Nat) (hn : toks.length = n + 1) (hnl : n ≤ 1048576) (hok : TokO toks) (tb : Nat) (ex : Bool) (X a : Nat) (ha : a ≤ n) (dp e bd : Int) (hla : (tg toks n).1 = 6) (s : List Nat) (hs : Bytes s) : Spec tab 126 [.ptr X 0, .str s] [X] [⟨X, ⟨5, true, [.slice tb 0 (n + 1) 4, .int .i64 ((a : Nat) : Int), .int .i64 dp, .int .i64 e, .int .i64 bd]⟩, true⟩, ⟨tb, ⟨4, ex, tokCs toks⟩, false⟩] (fun v D => v = .tuple [] ∧ ∃ (a2 : Nat) (e2 bd2 : Int), a ≤ a2 ∧ a2 ≤ n ∧ (e ≠ 0 → e2 = e ∧ a2 = a) ∧ (e2 = 0 → e = 0 ∧ a < a2) ∧ D = [⟨X, ⟨5, true, [.slice tb 0 (n + 1) 4, .int .i64 ((a2 : Nat) : Int), .int .i64 dp, .int .i64 e2, .int .i64 bd2]⟩, true⟩]) := by
 refine Spec.en (ftg 126 Tryz.func126) rfl (m := 20) rfl (rs := []) rfl (st := [(0, .ptr X 0), (1, .str s)]) rfl rfl (fun _ => rfl) (fun E => W.seq (zr (zm rfl (zm rfl (WO.cV rfl (oLc rfl (oLc rfl oz)) rfl (is_spec toks n hn hnl hok tb ex X a ha dp e bd _ hs) SubR.two rfl (zq (Q.not rfl rfl) (zk (W.condS rfl (fun hc7 => ?_) (fun hc7 => ?_)))))))))
 ·refine zr (zm rfl (zm rfl (WO.cV rfl (oLc rfl oz) rfl (now_spec toks n hn hnl hok tb ex X a ha dp e bd) SubR.two rfl (zq (Q.field1 ft67_3 rfl rfl) (WO.call1 rfl (oLc rfl (oLc (zi 14) (oLc rfl oz))) rfl (i := 0) rfl (fail_spec n tb X a dp e bd _ _) SubR.nil (hs' := [_]) rfl rfl (fun v12 D12 hP12 => ?_))))))
  obtain ⟨rfl, rfl⟩ := hP12
  refine zk (W.ret ?_)
  refine End.Kr (End.ret ResL.nil (hs' := [⟨X, ⟨5, true, [.slice tb 0 (n + 1) 4, .int .i64 ((a : Nat) : Int), .int .i64 dp, .int .i64 (if e = 0 then (((14 : Nat) : Int)) else e), .int .i64 (if e = 0 then (tg toks a).2.2.2 else bd)]⟩, true⟩]) ⟨rfl, a, (if e = 0 then (((14 : Nat) : Int)) else e), (if e = 0 then (tg toks a).2.2.2 else bd), Nat.le_refl _, ha, fun h => ⟨if_neg h, rfl⟩, fun h => (by split at h <;> omega), rfl⟩ (by intro e he; simp at he; subst he; rfl) (SubH.of_sublist (by simp)))
 have hv := isV_t (by simpa using hc7)
 have hlt : a < n := lt_last hla ha zy
 refine zw (W.reg (zm rfl (zq (Q.nilP rfl) (zf fa64_1 rfl 1 (zq (Q.l1 rfl (zt 0 rfl) ag3 rfl) (zq (Q.bin rfl (zi 1) rfl zp) (zq (Q.nilP rfl) (zf fa64_1 rfl 1 (zS5 sz3 rfl rfl (i := 0) rfl rfl rfl (hs' := [_, _]) rfl (WO.nil ?_))))))))))
 refine End.fall ResL.nil (hs' := [⟨X, ⟨5, true, [.slice tb 0 (n + 1) 4, .int .i64 (((a + 1) : Nat) : Int), .int .i64 dp, .int .i64 e, .int .i64 bd]⟩, true⟩]) ⟨rfl, a + 1, e, bd, by omega, by omega, fun h => absurd hv.1 h, fun _ => ⟨hv.1, by omega⟩, rfl⟩ (by intro e he; simp at he; subst he; rfl) (SubH.of_sublist (by simp))

theorem take_spec (toks : List TokT) (n : Nat) (hn : toks.length = n + 1) (hnl : n ≤ 1048576) (hok : TokO toks) (tb : Nat) (ex : Bool) (X a : Nat) (ha : a ≤ n) (dp e bd : Int) (hla : (tg toks n).1 = 6) (kd : Nat) (hkd : kd ≠ 6) : Spec tab 133 [.ptr X 0, .int .i64 ((kd : Nat) : Int)] [X] [⟨X, ⟨5, true, [.slice tb 0 (n + 1) 4, .int .i64 ((a : Nat) : Int), .int .i64 dp, .int .i64 e, .int .i64 bd]⟩, true⟩, ⟨tb, ⟨4, ex, tokCs toks⟩, false⟩] (fun v D => v = .agg (tokC (tg toks a)) ∧ ∃ (a2 : Nat) (e2 bd2 : Int), a ≤ a2 ∧ a2 ≤ n ∧ (e ≠ 0 → e2 = e ∧ a2 = a) ∧ (e2 = 0 → e = 0 ∧ a < a2 ∧ (tg toks a).1 = kd) ∧ D = [⟨X, ⟨5, true, [.slice tb 0 (n + 1) 4, .int .i64 ((a2 : Nat) : Int), .int .i64 dp, .int .i64 e2, .int .i64 bd2]⟩, true⟩]) := by
 refine Spec.en (ftg 133 Tryz.func133) rfl (m := 29) rfl (rs := [.cell 4 67]) rfl (st := [(0, .ptr X 0), (1, .int .i64 ((kd : Nat) : Int))]) rfl rfl (fun _ => rfl) (fun E => zr (WO.alloc ao67 rfl (fun b1 => zk (zr (zm rfl (WO.cV rfl (oLc rfl oz) rfl (now_spec toks n hn hnl hok tb ex X a ha dp e bd) (SubR.t SubR.two) rfl (WO.alloc ao67 rfl (fun b2 => WO.store sz67 rfl rfl (i := 0) rfl rfl (cs := [_, _, _, _]) rfl (hs' := [_, _, _, _]) rfl (zk (W.seq (zr (zf fa67_0 rfl 0 (zq (Q.l1 rfl (zt 0 rfl) ag3 rfl) (zm rfl (zq (Q.bin rfl rfl rfl (bv_neq ne_nat)) (zk (W.cD rfl (fun hc11 => ?_) (fun hc11 => ?_))))))))))))))))))
 ·refine W.reg (zm rfl (zf fa67_3 rfl 3 (zq (Q.l1 rfl (zt 0 rfl) ag3 rfl) (WO.call1 rfl (oLc rfl (oLc (zi 14) (oLc rfl oz))) rfl (i := 2) rfl (fail_spec n tb X a dp e bd _ _) SubR.nil (hs' := [_, _, _]) rfl rfl (fun v15 D15 hP15 => ?_)))))
  obtain ⟨rfl, rfl⟩ := hP15
  refine zk (W.seq (zr (zm rfl (zq (Q.nilP rfl) (zf fa64_3 rfl 3 (zq (Q.l1 rfl (zt 0 rfl) ag3 rfl) (zq (Q.bin rfl (zi 0) rfl (bv_eql eq_int)) (zk (W.sub (zc 20 rfl (zc 5 rfl (zc 4 rfl (zc 0 rfl zzn)))) (W.cD rfl (fun hc20 => ?_) (fun hc20 => ?_)))))))))))
  ·exfalso; split at hc20 <;> omega
  refine zw (zr (zq (Q.loadN rfl (zt 1 rfl) ag67 sz67 (l := [_, _, _, _]) rfl) (WO.store sz67 rfl rfl (i := 2) rfl rfl (cs := [_, _, _, _]) rfl (hs' := [_, _, _, _]) rfl (zk (W.ret ?_)))))
  refine End.ret (ResL.agg (c := [_, _, _, _]) rfl (zt 2 rfl) ag67 sz67 rfl ResL.nil) (hs' := [⟨X, ⟨5, true, [.slice tb 0 (n + 1) 4, .int .i64 ((a : Nat) : Int), .int .i64 dp, .int .i64 (if e = 0 then (((14 : Nat) : Int)) else e), .int .i64 (if e = 0 then (tg toks a).2.2.2 else bd)]⟩, true⟩]) ⟨rfl, a, (if e = 0 then (((14 : Nat) : Int)) else e), (if e = 0 then (tg toks a).2.2.2 else bd), Nat.le_refl _, ha, fun h => ⟨if_neg h, rfl⟩, fun h => (by exfalso; split at h <;> omega), rfl⟩ (by intro e he; simp at he; subst he; rfl) (SubH.of_sublist (by simp))
 refine zw (W.seq (zr (zm rfl (zq (Q.nilP rfl) (zf fa64_3 rfl 3 (zq (Q.l1 rfl (zt 2 rfl) ag3 rfl) (zq (Q.bin rfl (zi 0) rfl (bv_eql eq_int)) (zk (W.cD rfl (fun hc20 => ?_) (fun hc20 => ?_))))))))))
 ·have hlt : a < n := lt_last hla ha zy
  refine W.reg (zm rfl (zq (Q.nilP rfl) (zf fa64_1 rfl 1 (zq (Q.l1 rfl (zt 2 rfl) ag3 rfl) (zq (Q.bin rfl (zi 1) rfl zp) (zq (Q.nilP rfl) (zf fa64_1 rfl 1 (zS5 sz3 rfl rfl (i := 2) rfl rfl rfl (hs' := [_, _, _, _]) rfl (zk (W.sub (zc 5 rfl (zc 4 rfl zzn)) (zr (zq (Q.loadN rfl (zt 0 rfl) ag67 sz67 (l := [_, _, _, _]) rfl) (WO.store sz67 rfl rfl (i := 1) rfl rfl (cs := [_, _, _, _]) rfl (hs' := [_, _, _, _]) rfl (zk (W.ret ?_)))))))))))))))
  refine End.ret (ResL.agg (c := [_, _, _, _]) rfl (zt 1 rfl) ag67 sz67 rfl ResL.nil) (hs' := [⟨X, ⟨5, true, [.slice tb 0 (n + 1) 4, .int .i64 (((a + 1) : Nat) : Int), .int .i64 dp, .int .i64 e, .int .i64 bd]⟩, true⟩]) ⟨rfl, a + 1, e, bd, by omega, by omega, fun h => absurd zy h, fun _ => ⟨by omega, by omega, by omega⟩, rfl⟩ (by intro e he; simp at he; subst he; rfl) (SubH.of_sublist (by simp))
 refine zw (zr (zq (Q.loadN rfl (zt 0 rfl) ag67 sz67 (l := [_, _, _, _]) rfl) (WO.store sz67 rfl rfl (i := 1) rfl rfl (cs := [_, _, _, _]) rfl (hs' := [_, _, _, _]) rfl (zk (W.sub (zc 4 rfl zzn) (W.ret ?_))))))
 refine End.ret (ResL.agg (c := [_, _, _, _]) rfl (zt 1 rfl) ag67 sz67 rfl ResL.nil) (hs' := [⟨X, ⟨5, true, [.slice tb 0 (n + 1) 4, .int .i64 ((a : Nat) : Int), .int .i64 dp, .int .i64 e, .int .i64 bd]⟩, true⟩]) ⟨rfl, a, e, bd, by omega, ha, fun h => ⟨rfl, rfl⟩, fun h => absurd h zy, rfl⟩ (by intro e he; simp at he; subst he; rfl) (SubH.of_sublist (by simp))

theorem enter_spec (n tb X a : Nat) (dp e bd pl : Int) : Spec tab 90 [.ptr X 0, .int .i64 pl] [X] [⟨X, ⟨5, true, [.slice tb 0 (n + 1) 4, .int .i64 ((a : Nat) : Int), .int .i64 dp, .int .i64 e, .int .i64 bd]⟩, true⟩] (fun v D => v = .tuple [] ∧ ∃ dp2 e2 bd2 : Int, (e ≠ 0 → e2 = e) ∧ (e2 = 0 → e = 0) ∧ D = [⟨X, ⟨5, true, [.slice tb 0 (n + 1) 4, .int .i64 ((a : Nat) : Int), .int .i64 dp2, .int .i64 e2, .int .i64 bd2]⟩, true⟩]) := by
 refine Spec.en (ftg 90 Tryz.func90) rfl (m := 19) rfl (rs := []) rfl (st := [(0, .ptr X 0), (1, .int .i64 pl)]) rfl rfl (fun _ => rfl) (fun E => zr (zm rfl (zq (Q.nilP rfl) (zf fa64_2 rfl 2 (zq (Q.l1 rfl (zt 0 rfl) ag3 rfl) (zq (Q.bin rfl (zi 1) rfl (bv_add rfl)) (zq (Q.nilP rfl) (zf fa64_2 rfl 2 (zS5 sz3 rfl rfl (i := 0) rfl rfl rfl (hs' := [_]) rfl (zk (zr (zm rfl (zq (Q.nilP rfl) (zf fa64_2 rfl 2 (zq (Q.l1 rfl (zt 0 rfl) ag3 rfl) (zq (Q.bin rfl (zi 12) rfl (bv_gtr (ltA_eq _ _))) (zk (W.cD rfl (fun hc15 => ?_) (fun hc15 => ?_)))))))))))))))))))
 ·refine W.reg (zm rfl (zm rfl (WO.call1 rfl (oLc rfl (oLc (zi 15) (oLc rfl oz))) rfl (i := 0) rfl (fail_spec n tb X a _ e bd _ _) SubR.nil (hs' := []) rfl rfl (fun v18 D18 hP18 => ?_))))
  obtain ⟨rfl, rfl⟩ := hP18
  refine WO.nil ?_
  refine End.fall ResL.nil ⟨rfl, _, _, _, (by intro h; exact if_neg h), (by intro h; split at h <;> omega), rfl⟩ (by intro e he; simp at he; subst he; rfl) (SubH.refl _)
 refine W.skip ?_
 refine End.fall ResL.nil ⟨rfl, _, _, _, (by intro h; rfl), (by intro h; exact h), rfl⟩ (by intro e he; simp at he; subst he; rfl) (SubH.refl _)

theorem behind_spec (toks : List TokT) (n : Nat) (hn : toks.length = n + 1) (hnl : n ≤ 1048576) (hok : TokO toks) (tb : Nat) (ex : Bool) (X a : Nat) (ha : a ≤ n) (dp e bd : Int) (s : List Nat) (hs : Bytes s) : Spec tab 130 [.ptr X 0, .str s] [] [⟨X, ⟨5, true, [.slice tb 0 (n + 1) 4, .int .i64 ((a : Nat) : Int), .int .i64 dp, .int .i64 e, .int .i64 bd]⟩, false⟩, ⟨tb, ⟨4, ex, tokCs toks⟩, false⟩] (ValE (fun v => ∃ b : Bool, v = .bool b)) := by
 refine Spec.en (ftg 130 Tryz.func130) rfl (m := 42) rfl (rs := [.tmp 4]) rfl (st := [(0, .ptr X 0), (1, .str s)]) rfl rfl (fun _ => rfl) (fun E => zr (za rfl (zk (W.seq (W.seq (W.regT (by kernel_rfl) (zm rfl (zq (Q.nilP rfl) (zf fa64_1 rfl 1 (zq (Q.l1 rfl (zt 0 rfl) ag3 rfl) (zq (Q.bin rfl (zi 1) rfl zp) (zm rfl (zq (Q.nilP rfl) (zf fa64_0 rfl 0 (zq (Q.l1 rfl (zt 0 rfl) ag59 rfl) (zq (Q.len ud59 rfl rfl) (zq (Q.bin rfl rfl rfl (bv_geq le_nat)) (zk (W.cD rfl (fun hc16 => ?_) (fun hc16 => ?_))))))))))))))))))))
 ·refine zr (za rfl (zk (W.ret (End.Kr (End.retE (z1 rfl) ?_)))))
  exact ⟨_, rfl⟩
 refine zw (W.seq (W.regD 12 _ (by kernel_rfl) (KIn.refl _) (WD.q (Q.move rfl) bqp rfl (WD.q (Q.nilP rfl) bqp rfl (WD.q (Q.fieldAddr fa64_0 rfl (o' := 0) rfl) bqp rfl (WD.q (Q.l1 rfl (zt 0 rfl) ag59 rfl) bqs rfl (WD.q (Q.move rfl) bqp rfl (WD.q (Q.nilP rfl) bqp rfl (WD.q (Q.fieldAddr fa64_1 rfl (o' := 1) rfl) bqp rfl (WD.q (Q.l1 rfl (zt 0 rfl) ag3 rfl) bqi rfl (WD.q (Q.bin rfl (zi 1) rfl zp) bqi rfl (WD.q (Q.iS ud59 sz67 rfl rfl zo) bqp rfl (WD.q (Q.loadN rfl (zt 1 rfl) ag67 sz67 (tsub zy)) (by simp [AV.beq, beq1, beq0, beqL]) rfl (WD.alloc ao67 rfl (KIn.refl _) (fun b1 => WD.store sz67 rfl rfl (j := 0) rfl rfl (cs := [_, _, _, _]) rfl (hs' := [_, _, _]) rfl (fun h => by cases h) (WD.nil (End.K (W.sub (zc 5 rfl (zc 1 rfl zzn)) (zr (zf fa67_0 rfl 0 (zq (Q.l1 rfl (zt 0 rfl) ag3 rfl) (zq (Q.bin rfl (zi 1) rfl (bv_eql eq_nat)) (zm rfl ?_)))))))))))))))))))))))
 refine WO.sD (d := 31) rfl (fun hc31 => ?_) (fun hc31 => ?_)
 ·refine zG (zG (zG (zq (Q.pT rfl rfl) (zm rfl (zT (zf fa67_1 rfl 1 (zT (zq (Q.l1 rfl (zt 0 rfl) ag9 rfl) (zT (zm rfl (zT (zq (Q.bin rfl rfl rfl bv_seql) (zq (Q.pT rfl rfl) (za rfl (zk (W.sub (zc 4 rfl zzn) (W.ret (End.retE (z1 rfl) ?_))))))))))))))))))
  exact ⟨_, rfl⟩
 refine zT (zf fa67_0 rfl 0 (zT (zq (Q.l1 rfl (zt 0 rfl) ag3 rfl) (zT (zq (Q.bin rfl (zi 5) rfl (bv_eql eq_nat)) (zq (Q.pF rfl rfl) (zm rfl (WO.sD (d := 36) rfl (fun hc36 => ?_) (fun hc36 => ?_)))))))))
 ·refine zT (zf fa67_1 rfl 1 (zT (zq (Q.l1 rfl (zt 0 rfl) ag9 rfl) (zT (zm rfl (zT (zq (Q.bin rfl rfl rfl bv_seql) (zq (Q.pT rfl rfl) (za rfl (zk (W.sub (zc 4 rfl zzn) (W.ret (End.retE (z1 rfl) ?_)))))))))))))
  exact ⟨_, rfl⟩
 refine zG (zG (zG (zG (zq (Q.pF rfl rfl) (za rfl (zk (W.sub (zc 4 rfl zzn) (W.ret (End.retE (z1 rfl) ?_)))))))))
 exact ⟨_, rfl⟩
end Go.Proofs.YtndhhgbpcmfeiaaGreatDoor.Ev.P16
