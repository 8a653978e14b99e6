/- Chapter 16, by the document: what the parser looks at. -/
import Derived.Test.YtnlnmbnopdklhaaAVj
namespace Go.Proofs.Ytnlnmbnopdklhaa.Ev
open Go.RowKit
set_option linter.unusedVariables false
set_option linter.unusedSimpArgs false
set_option maxRecDepth 100000
set_option maxHeartbeats 1000000
def tg (M : List TokT) (i : Nat) : TokT := M.getD i (0, [], 0, 0)
theorem tokC_len (t : TokT) : (tokC t).length = 4 := rfl
theorem tokCs_cons (t : TokT) (L : List TokT) : tokCs (t :: L) = tokC t ++ tokCs L := by simp [tokCs]
theorem tokCs_len : ∀ L : List TokT, (tokCs L).length = L.length * 4
  | [] => rfl
  | t :: L => by rw [tokCs_cons, List.length_append, tokC_len, tokCs_len L, List.length_cons]; omega
theorem tokCs_get : ∀ (L : List TokT) (i j : Nat), i < L.length → j < 4 → (tokCs L)[i * 4 + j]? = (tokC (tg L i))[j]?
  | [], i, j, h, _ => by simp at h
  | t :: L, 0, j, h, hj => by
    rw [tokCs_cons, List.getElem?_append_left (by rw [tokC_len]; omega)]
    simp [tg]
  | t :: L, i + 1, j, h, hj => by
    rw [tokCs_cons, List.getElem?_append_right (by rw [tokC_len]; omega), tokC_len]
    have : (i + 1) * 4 + j - 4 = i * 4 + j := by omega
    rw [this, tokCs_get L i j (by simpa using h) hj]
    rfl
theorem tsub {L : List TokT} {i : Nat} (h : i < L.length) : sub? (tokCs L) ((0 + i) * 4) 4 = some (tokC (tg L i)) := by
  unfold sub?
  have hle : Nat.ble ((0 + i) * 4 + 4) (tokCs L).length = true := by rw [tokCs_len]; apply Nat.ble_eq.mpr; omega
  simp only [hle]
  congr 1
  apply List.ext_getElem?
  intro j
  rw [List.getElem?_take, List.getElem?_drop]
  split
  · rename_i hj
    rw [Nat.zero_add, tokCs_get L i j h hj]
  · rw [List.getElem?_eq_none (by rw [tokC_len]; omega)]
theorem SubR.two {bx bt : Nat} {ox ot : AObj} {w w' : Bool} {A : HSt} : SubR [⟨bx, ox, false⟩, ⟨bt, ot, false⟩] (⟨bx, ox, w⟩ :: ⟨bt, ot, w'⟩ :: A) := by
  refine ⟨fun e he => ?_, fun hn => ?_⟩
  · rcases List.mem_cons.1 he with rfl | he
    · exact ⟨rfl, w, List.mem_cons_self⟩
    · rcases List.mem_cons.1 he with rfl | he
      · exact ⟨rfl, w', List.mem_cons_of_mem _ List.mem_cons_self⟩
      · simp at he
  · simp only [List.map_cons, List.nodup_cons, List.mem_cons, not_or] at hn
    simp only [List.map_cons, List.map_nil, List.nodup_cons, List.mem_cons, List.not_mem_nil, or_false, not_false_eq_true, List.nodup_nil, and_true]
    exact hn.1.1
theorem SubR.pair {bx bt i j : Nat} {ox ot : AObj} {w w' : Bool} {hs : HSt} (h1 : hs[i]? = some ⟨bx, ox, w⟩) (h2 : hs[j]? = some ⟨bt, ot, w'⟩) (hij : i ≠ j) : SubR [⟨bx, ox, false⟩, ⟨bt, ot, false⟩] hs := by
  refine ⟨fun e he => ?_, fun hn => ?_⟩
  · rcases List.mem_cons.1 he with rfl | he
    · exact ⟨rfl, w, List.mem_of_getElem? h1⟩
    · rcases List.mem_cons.1 he with rfl | he
      · exact ⟨rfl, w', List.mem_of_getElem? h2⟩
      · simp at he
  · have e1 : (hs.map (·.b))[i]? = some bx := by rw [List.getElem?_map, h1]; rfl
    have e2 : (hs.map (·.b))[j]? = some bt := by rw [List.getElem?_map, h2]; rfl
    have hne : bx ≠ bt := by
      intro e
      have hi : i < (hs.map (·.b)).length := (List.getElem?_eq_some_iff.1 e1).1
      exact hij ((List.getElem?_inj hi hn).1 (by rw [e1, e2, e]))
    simp only [List.map_cons, List.map_nil, List.nodup_cons, List.mem_cons, List.not_mem_nil, or_false, not_false_eq_true, List.nodup_nil, and_true]
    exact hne
/-- Is the token that word or mark? -/
def isV (e : Int) (t : TokT) (s : List Nat) : Bool := decide (e = 0) && (decide (t.1 = 1) || decide (t.1 = 5)) && decide (t.2.1 = s)
@[simp] theorem tok_beq {t : TokT} : beqL beq0 (tokC t) (tokC t) = true := by simp [tokC, beqL, beq0]
def TokO (M : List TokT) : Prop := ∀ x ∈ M, Bytes x.2.1 ∧ x.2.1.length ≤ 1024
theorem tokO {M : List TokT} (h : TokO M) {i : Nat} (hi : i < M.length) : Bytes (tg M i).2.1 ∧ (tg M i).2.1.length ≤ 1024 := by
  refine h _ ?_
  unfold tg
  rw [List.getD_eq_getElem?_getD, List.getElem?_eq_getElem hi]
  exact List.getElem_mem hi
theorem now_spec (toks : List TokT) (n : Nat) (hn : toks.length = n + 1) (hnl : n ≤ 1048576) (hok : TokO toks) (tb : Nat) (ex : Bool) (X a : Nat) (ha : a ≤ n) (dp e bd : Int) : Spec tab 20 [.ptr X 0] [] [⟨X, ⟨5, true, [.slice tb 0 (n + 1) 4, .int .i64 ((a : Nat) : Int), .int .i64 dp, .int .i64 e, .int .i64 bd]⟩, false⟩, ⟨tb, ⟨4, ex, tokCs toks⟩, false⟩] (Val (.agg (tokC (tg toks a)))) := by
 refine Spec.enter' (ft_get 20 Try.func20) rfl (m := 20) rfl (rs := [.cell 2 56]) rfl (st := [(0, .ptr X 0)]) rfl rfl (fun _ => rfl) (fun E => zr (WO.alloc ao56 rfl (fun b1 => zk (W.seq (W.regT (by kernel_rfl) (zm rfl (zq (Q.nilP rfl) (zf fa53_0 rfl 0 (zq (Q.load1 rfl (zt 1 rfl) ag48 rfl) (zm rfl (zq (Q.nilP rfl) (zf fa53_1 rfl 1 (zq (Q.load1 rfl (zt 1 rfl) ag3 rfl) (zm rfl (zq (Q.nilP rfl) (zf fa53_0 rfl 0 (zq (Q.load1 rfl (zt 1 rfl) ag48 rfl) (zq (Q.len ud48 rfl rfl) (zq (Q.bin rfl (zi 1) rfl (bv_sub (wn_sub (by first | omega | (simp at * <;> omega))))) (zq (Q.minmax false (oLs_cons rfl (oLs_cons rfl oLs_nil)) mm_min) (zq (Q.iaddrS ud48 sz56 rfl rfl (by first | omega | (simp at * <;> omega))) (zq (Q.loadN rfl (zt 2 rfl) ag56 sz56 (tsub (by omega))) (WO.store sz56 rfl rfl (i := 0) rfl rfl (cs := [_, _, _, _]) rfl (hs' := [_, _, _]) rfl ?_)))))))))))))))))))))))
 refine zk (W.sub (zc 2 rfl zzn) (W.ret (End.retV (ResL.agg (c := [_, _, _, _]) rfl (zt 0 rfl) ag56 sz56 rfl ResL.nil) ?_)))
 (have e : min a (n + 1 - 1) = a := (by omega); simp only [e]; rfl)

theorem is_spec (toks : List TokT) (n : Nat) (hn : toks.length = n + 1) (hnl : n ≤ 1048576) (hok : TokO toks) (tb : Nat) (ex : Bool) (X a : Nat) (ha : a ≤ n) (dp e bd : Int) (s : List Nat) (hs : Bytes s) : Spec tab 33 [.ptr X 0, .str s] [] [⟨X, ⟨5, true, [.slice tb 0 (n + 1) 4, .int .i64 ((a : Nat) : Int), .int .i64 dp, .int .i64 e, .int .i64 bd]⟩, false⟩, ⟨tb, ⟨4, ex, tokCs toks⟩, false⟩] (Val (.bool (isV e (tg toks a) s))) := by
 refine Spec.enter' (ft_get 33 Try.func33) rfl (m := 29) rfl (rs := [.tmp 4]) rfl (st := [(0, .ptr X 0), (1, .str s)]) rfl rfl (fun _ => rfl) (fun E => zr (za rfl (zk (zr (zm rfl (WO.callV rfl (oLs_cons rfl oLs_nil) rfl (now_spec toks n hn hnl hok tb ex X a ha dp e bd) SubR.two rfl (WO.alloc ao56 rfl (fun b1 => WO.store sz56 rfl rfl (i := 0) rfl rfl (cs := [_, _, _, _]) rfl (hs' := [_, _, _]) rfl (zk (zr (zm rfl (zq (Q.nilP rfl) (zf fa53_3 rfl 3 (zq (Q.load1 rfl (zt 1 rfl) ag3 rfl) (zq (Q.bin rfl (zi 0) rfl (bv_eql eq_int)) (zm rfl (WO.splitD (d := 13) rfl (fun hc13 => ?_) (fun hc13 => ?_))))))))))))))))))
 · refine WO.gT rfl rfl (zf fa56_0 rfl 0 (WO.gT rfl rfl (zq (Q.load1 rfl (zt 0 rfl) ag3 rfl) (WO.gT rfl rfl (zq (Q.bin rfl (zi 1) rfl (bv_eql eq_nat)) (WO.gT rfl rfl (zm rfl (WO.splitD (d := 17) rfl (fun hc17 => ?_) (fun hc17 => ?_)))))))))
   · refine zg rfl rfl (zg rfl rfl (zg rfl rfl (WO.gT rfl rfl (zq (Q.pickT rfl rfl) (zq (Q.pickT rfl rfl) (zm rfl (WO.gT rfl rfl (zf fa56_1 rfl 1 (WO.gT rfl rfl (zq (Q.load1 rfl (zt 0 rfl) ag9 rfl) (WO.gT rfl rfl (zm rfl (WO.gT rfl rfl (zq (Q.bin rfl rfl rfl bv_seql) (zq (Q.pickT rfl rfl) (za rfl (zk (W.sub (zc 4 rfl zzn) (W.ret (End.retV (z1 rfl) ?_))))))))))))))))))))
     exact bool_eq (by simp_all [isV])
   refine WO.gT rfl rfl (zf fa56_0 rfl 0 (WO.gT rfl rfl (zq (Q.load1 rfl (zt 0 rfl) ag3 rfl) (WO.gT rfl rfl (zq (Q.bin rfl (zi 5) rfl (bv_eql eq_nat)) (WO.gT rfl rfl (zq (Q.pickF rfl rfl) (zq (Q.pickT rfl rfl) (zm rfl (WO.splitD (d := 23) rfl (fun hc23 => ?_) (fun hc23 => ?_)))))))))))
   · refine WO.gT rfl rfl (zf fa56_1 rfl 1 (WO.gT rfl rfl (zq (Q.load1 rfl (zt 0 rfl) ag9 rfl) (WO.gT rfl rfl (zm rfl (WO.gT rfl rfl (zq (Q.bin rfl rfl rfl bv_seql) (zq (Q.pickT rfl rfl) (za rfl (zk (W.sub (zc 4 rfl zzn) (W.ret (End.retV (z1 rfl) ?_)))))))))))))
     exact bool_eq (by simp_all [isV])
   refine zg rfl rfl (zg rfl rfl (zg rfl rfl (zg rfl rfl (zq (Q.pickF rfl rfl) (za rfl (zk (W.sub (zc 4 rfl zzn) (W.ret (End.retV (z1 rfl) ?_)))))))))
   exact bool_eq (by simp_all [isV])
 refine zg rfl rfl (zg rfl rfl (zg rfl rfl (zg rfl rfl (WO.gF rfl rfl (.inr rfl) rfl (WO.gF rfl rfl (.inr rfl) rfl (WO.gF rfl rfl (.inr rfl) rfl (zg rfl rfl (zq (Q.pickF rfl rfl) (zm rfl (zg rfl rfl (zg rfl rfl (zg rfl rfl (zg rfl rfl (zq (Q.pickF rfl rfl) (za rfl (zk (W.sub (zc 4 rfl zzn) (W.ret (End.retV (z1 rfl) ?_)))))))))))))))))))
 exact bool_eq (by simp_all [isV])

end Go.Proofs.Ytnlnmbnopdklhaa.Ev

/- Chapter 16, by the document: words and levels. -/
namespace Go.Proofs.Ytnlnmbnopdklhaa.Ev
open Go.RowKit
set_option linter.unusedVariables false
set_option linter.unusedSimpArgs false
set_option maxRecDepth 100000
set_option maxHeartbeats 1000000
end Go.Proofs.Ytnlnmbnopdklhaa.Ev

/- Chapter 16, by the document: lists. -/
namespace Go.Proofs.Ytnlnmbnopdklhaa.Ev
open Go.RowKit
set_option linter.unusedVariables false
set_option linter.unusedSimpArgs false
set_option maxRecDepth 100000
set_option maxHeartbeats 1000000
/-- A list of names, or none. -/
def NLv (v : AV) : Prop := v = .nils ∨ ∃ b m, v = .slice b 0 m 1
end Go.Proofs.Ytnlnmbnopdklhaa.Ev

/- Chapter 16, by the document: groups and matches. -/
namespace Go.Proofs.Ytnlnmbnopdklhaa.Ev
open Go.RowKit
set_option linter.unusedVariables false
set_option linter.unusedSimpArgs false
set_option maxRecDepth 100000
set_option maxHeartbeats 1000000
theorem and_tt {a b : Bool} (h : a = true) (g : b = true) : (a && b) = true := by rw [h, g]; rfl
theorem st_one {v : AV} {b : Bool} (h : v.isCell = true) (hb : b = true) : (Nat.beq v.cells.length 1 && b && v.cells.all AV.isCell) = true := by
  have e : v.cells = [v] := by cases v <;> first | rfl | exact absurd h (by decide) | exact absurd h (by simp [AV.isCell])
  rw [e, hb]
  simp [h]
end Go.Proofs.Ytnlnmbnopdklhaa.Ev

/- Chapter 16, by the document: matchers. -/
namespace Go.Proofs.Ytnlnmbnopdklhaa.Ev
open Go.RowKit
set_option linter.unusedVariables false
set_option linter.unusedSimpArgs false
set_option maxRecDepth 100000
set_option maxHeartbeats 1000000
end Go.Proofs.Ytnlnmbnopdklhaa.Ev

/- A call that writes one block, where a drawn region looks at others ahead of it. -/
namespace Go.Proofs.Ytnlnmbnopdklhaa.Ev
open Go.RowKit
theorem WD.call1 {tb : Tab} {n m i : Nat} {ops rest : List Oper} {keep : HSt} {E : Env} {s : St} {hs : HSt} {R : T AV → AHeap → Prop} {d : Nat} {ty : TypeId} {pos : String} {aft : Array Edge} {of : Operand} {args : List Operand} {ts : Array TypeId} {g j b : Nat} {caps l l' : List AV} {ob : AObj} {hsc hs' : HSt} {Post : AV → HSt → Prop} (hf : oL s of = some (.func g caps)) (ha : oLs s args = some l) (hl : l ++ caps = l')
    (hi : hs[j]? = some ⟨b, ob, true⟩) (hsp : Spec tb g l' [b] (⟨b, ob, true⟩ :: hsc) Post) (hsub : SubR hsc (hs.eraseIdx j)) (he : hs.eraseIdx j = hs') (hkp : KIn keep hs') (hd : Nat.blt d n = true)
    (hk : ∀ v D, Post v D → WD tb n ops keep m (i + 1) rest E ((d, v) :: s) (D ++ hs') R) :
    WD tb n ops keep m i (⟨some d, .call ⟨.value of, args.toArray, ts⟩, ty, pos, aft, none⟩ :: rest) E s hs R :=
  WD.l (C := fun v hq => ∃ D, Post v D ∧ hq = D ++ hs') (fun tm h r e => by cases e) (fun R hR => WO.call1 hf ha hl hi hsp hsub he hd fun v D h => WO.nil (hR _ _ ⟨D, h, rfl⟩))
    (fun v hq ⟨D, _, h2⟩ _ => by subst h2; exact fun e he => let ⟨w, hm⟩ := hkp e he; ⟨w, List.mem_append_right _ hm⟩) (fun v hq ⟨D, h1, h2⟩ => by subst h2; exact hk v D h1)
end Go.Proofs.Ytnlnmbnopdklhaa.Ev

/- Chapter 16, by the document: the second comma. -/
namespace Go.Proofs.Ytnlnmbnopdklhaa.Ev
open Go.RowKit
set_option linter.unusedVariables false
set_option linter.unusedSimpArgs false
set_option maxRecDepth 100000
set_option maxHeartbeats 1000000
end Go.Proofs.Ytnlnmbnopdklhaa.Ev

/- Chapter 16, by the document: selectors. -/
namespace Go.Proofs.Ytnlnmbnopdklhaa.Ev
open Go.RowKit
set_option linter.unusedVariables false
set_option linter.unusedSimpArgs false
set_option maxRecDepth 100000
set_option maxHeartbeats 1000000
noncomputable instance decHE : DecidableEq HE := fun a b => Classical.propDecidable (a = b)
/-- Fewer blocks of each are a part. -/
theorem SubH.of_count : ∀ {a c : HSt}, (∀ x, a.count x ≤ c.count x) → SubH a c
  | [], c, _ => SubH.nil c
  | x :: a, c, h => by
    have hx : x ∈ c := by
      have h1 := h x
      rw [List.count_cons_self] at h1
      exact List.count_pos_iff.1 (by omega)
    have hp := List.perm_cons_erase hx
    have ih : SubH a (c.erase x) := SubH.of_count fun y => by
      have h1 := h y
      rw [hp.count_eq y] at h1
      simp only [List.count_cons] at h1
      omega
    refine SubH.trans ⟨fun e he => ?_, fun hn => ?_⟩ (SubH.of_perm hp.symm)
    · rcases List.mem_cons.1 he with rfl | he
      · exact List.mem_cons_self
      · exact List.mem_cons_of_mem _ (ih.1 e he)
    · simp only [List.map_cons, List.nodup_cons, List.mem_map] at hn ⊢
      exact ⟨fun ⟨y, hy, hb⟩ => hn.1 ⟨y, ih.1 y hy, hb⟩, ih.2 hn.2⟩
section
variable {tb : Tab} {n : Nat} {E : Env} {s : St} {hs : HSt} {a b : Code} {Q : Ex → T AV → AHeap → Prop}
end
theorem gs {a c : HSt} (h : ∀ x, a.count x ≤ c.count x := by intro x; simp only [nodeC, List.count_append, List.count_cons, List.count_nil]; omega) : SubH a c := SubH.of_count h
theorem nm_bytes : Bytes [95, 95, 110, 97, 109, 101, 95, 95] := by unfold Bytes; decide
theorem ISm.ro {hs : HSt} {M : List MtT} {v : AV} (h : ISm hs M v) : ISm (ro hs) M v := h.imp id fun ⟨b, ex, h1, h2⟩ => ⟨b, ex, h1, h2.ro⟩
end Go.Proofs.Ytnlnmbnopdklhaa.Ev
