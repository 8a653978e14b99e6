/- Chapter 15, by the document: what Scan makes of a text whose tokens are known. -/
import Derived.Test.YtnlnmbnopdklhaaAWalkT
namespace Go.Proofs.Ytnlnmbnopdklhaa.Ev
open Go.RowKit
set_option linter.unusedVariables false
set_option linter.unusedSimpArgs false
set_option maxRecDepth 100000
set_option maxHeartbeats 1000000
section
variable {tb : Tab} {s : St} {hs : HSt} {t : TypeId} {k : IntKind} {x y : List Nat}
theorem Q.indexL {ox oi : Operand} {l : List Nat} {m c : Nat} (hu : tb.und t = some .string) (hx : oL s ox = some (.str l)) (hi : oL s oi = some (.int k ((m : Nat) : Int))) (hm : m < l.length) (hc : l.getD m 0 = c) : QV tb s hs (.index t ox oi) (.int .u8 ((c : Nat) : Int)) := by
  subst hc
  exact Q.indexS hu hx hi hm
theorem bv_seqlP {p : Bool} (h : decide (x = y) = p) : evBin tb .eql t (.str x) (.str y) = some (.bool p) := by rw [bv_seql, h]
theorem bv_sneqP {p : Bool} (h : (!(decide (x = y))) = p) : evBin tb .neq t (.str x) (.str y) = some (.bool p) := by
  rw [bv_sneq]
  rw [← h]
  by_cases e : x = y <;> simp [e]
end
def nb (c : Nat) : Prop := c ≠ 35 ∧ c ≠ 32 ∧ c ≠ 9 ∧ c ≠ 10
theorem run_lt {s : List Nat} {k q : Nat} (hend : k = s.length ∨ (letB (s.getD k 0) = false ∧ digB (s.getD k 0) = false ∧ s.getD k 0 ≠ 46)) (hq : q < s.length) (h : q ≤ k) (g : letB (s.getD q 0) = true ∨ digB (s.getD q 0) = true) : q < k := by
  rcases Nat.lt_or_ge q k with h1 | h1
  · exact h1
  · have e : q = k := by omega
    subst e
    rcases hend with h2 | ⟨h2, h3, _⟩
    · omega
    · rw [h2, h3] at g; simp at g
theorem run_lt46 {s : List Nat} {k q : Nat} (hend : k = s.length ∨ (letB (s.getD k 0) = false ∧ digB (s.getD k 0) = false ∧ s.getD k 0 ≠ 46)) (hq : q < s.length) (h : q ≤ k) (g : s.getD q 0 = 46) : q < k := by
  rcases Nat.lt_or_ge q k with h1 | h1
  · exact h1
  · have e : q = k := by omega
    subst e
    rcases hend with h2 | ⟨_, _, h3⟩
    · omega
    · exact absurd g h3
theorem run_eq {s : List Nat} {i k q : Nat} (hrun : ∀ j, i ≤ j → j < k → letB (s.getD j 0) = true ∨ digB (s.getD j 0) = true) (h1 : i ≤ q) (h2 : q ≤ k) (g1 : letB (s.getD q 0) = false) (g2 : digB (s.getD q 0) = false) : q = k := by
  rcases Nat.lt_or_ge q k with h | h
  · have := hrun q h1 h
    rw [g1, g2] at this; simp at this
  · omega
theorem m8_facts {c : Nat} (h : c ∈ ([40, 41, 91, 93, 44, 43, 45, 42] : List Nat)) : letB c = false ∧ digB c = false ∧ c ≠ 34 := by
  simp only [List.mem_cons, List.not_mem_nil, or_false] at h
  rcases h with rfl | rfl | rfl | rfl | rfl | rfl | rfl | rfl <;> decide
theorem dig_let {c : Nat} (h : digB c = true) : letB c = false := by
  simp only [digB, Bool.and_eq_true, decide_eq_true_eq] at h
  simp [letB]; omega
theorem mk_no {s : List Nat} {i k : Nat} (h : s.getD i 0 ∈ ([40, 41, 91, 93, 44, 43, 45, 42] : List Nat)) (hk : k < 6) : ¬ (s.drop i).take 2 = ([[61, 126], [33, 126], [61, 61], [33, 61], [60, 61], [62, 61]] : List (List Nat)).getD k [] := by
  intro e
  have e0 : ((s.drop i).take 2).getD 0 0 = s.getD i 0 := by simp [List.getD_eq_getElem?_getD]
  rw [e] at e0
  have : ∀ w : Fin 6, ¬ (([[61, 126], [33, 126], [61, 61], [33, 61], [60, 61], [62, 61]] : List (List Nat)).getD w.val []).getD 0 0 ∈ ([40, 41, 91, 93, 44, 43, 45, 42] : List Nat) := by decide
  exact this ⟨k, hk⟩ (by rw [e0]; exact h)
theorem ms_all {c : Nat} (h : c ∈ ([40, 41, 91, 93, 44, 43, 45, 42] : List Nat)) (g : ∀ j, j < 15 → ([61, 60, 62, 43, 45, 42, 47, 37, 40, 41, 123, 125, 91, 93, 44] : List Nat).getD j 0 ≠ c) : False := by
  simp only [List.mem_cons, List.not_mem_nil, or_false] at h
  rcases h with rfl | rfl | rfl | rfl | rfl | rfl | rfl | rfl
  · exact g 8 (by decide) rfl
  · exact g 9 (by decide) rfl
  · exact g 12 (by decide) rfl
  · exact g 13 (by decide) rfl
  · exact g 14 (by decide) rfl
  · exact g 3 (by decide) rfl
  · exact g 4 (by decide) rfl
  · exact g 5 (by decide) rfl
/-- At a place a token stands that ends at another one. -/
def TokAt (s : List Nat) (i : Nat) (t : TokT) (k : Nat) : Prop := Spec tab 29 [.str s, .int .i64 ((i : Nat) : Int)] [] [] (Val (.tuple [.agg (tokC t), .int .i64 ((k : Nat) : Int), .int .i64 ((0 : Nat) : Int)]))
def BlAt (s : List Nat) (i j : Nat) : Prop := Spec tab 28 [.str s, .int .i64 ((i : Nat) : Int)] [] [] (Val (.int .i64 ((j : Nat) : Int)))
/-- A text's tokens from a place on. -/
inductive Toks (s : List Nat) : Nat → List TokT → Prop where
  | done : Toks s s.length []
  | step {i k j : Nat} {t : TokT} {L : List TokT} (h : i < s.length) (ht : TokAt s i t k) (hb : BlAt s k j) (g : Toks s j L) : Toks s i (t :: L)
theorem toks_step {s : List Nat} {i : Nat} {L : List TokT} (h : Toks s i L) (hi : i < s.length) : ∃ t k j R, L = t :: R ∧ TokAt s i t k ∧ BlAt s k j ∧ Toks s j R := by
  cases h with
  | done => exact absurd hi (Nat.lt_irrefl _)
  | step h ht hb g => exact ⟨_, _, _, _, rfl, ht, hb, g⟩
theorem toks_end {s : List Nat} {i : Nat} {L : List TokT} (h : Toks s i L) (hi : ¬ i < s.length) : L = [] ∧ i = s.length := by
  cases h with
  | done => exact ⟨rfl, rfl⟩
  | step h ht hb g => exact absurd h hi
theorem blank0 (s : List Nat) (hs : Bytes s) (hl : s.length ≤ 1048576) (i : Nat) (h : i = s.length ∨ (i < s.length ∧ nb (s.getD i 0))) : Spec tab 28 [.str s, .int .i64 ((i : Nat) : Int)] [] [] (Val (.int .i64 ((i : Nat) : Int))) := by
 refine Spec.enter' (ft_get 28 Try.func28) rfl (m := 44) rfl (rs := [.tmp 4]) rfl (st := [(0, .str s), (1, .int .i64 ((i : Nat) : Int))]) rfl rfl (fun _ => rfl) (fun E => zr (za (zi 0) (zk (W.seq (W.block (W.loop (W.seq (zr (zm rfl (zm rfl (zq (Q.len ud9 rfl rfl) (zq (Q.bin rfl rfl rfl (bv_lss lt_nat)) (zk (W.condDS rfl (fun hc8 => ?_) (fun hc8 => ?_)))))))))))))))
 · obtain ⟨hlt, n1, n2, n3, n4⟩ := h.resolve_left (by omega)
   refine zw (W.block (W.seq (zr (zm rfl (zm rfl (WO.indexB hs ud9 rfl rfl (by first | omega | (simp at * <;> omega)) rfl (fun c11 hd11 hb11 => zq (Q.bin rfl (zu 35) rfl (bv_eql eq_nat)) (zk (W.condDS rfl (fun hc12 => ?_) (fun hc12 => ?_))))))))))
   · (exfalso; omega)
   refine zw (W.seq (zr (zm rfl (zm rfl (WO.indexB hs ud9 rfl rfl (by first | omega | (simp at * <;> omega)) rfl (fun c27 hd27 hb27 => zq (Q.bin rfl (zu 32) rfl (bv_neq ne_nat)) (zm rfl (WO.splitD (d := 29) rfl (fun hc29 => ?_) (fun hc29 => ?_)))))))))
   · refine WO.gT rfl rfl (zm rfl (WO.gT rfl rfl (zm rfl (WO.gT rfl rfl (WO.indexB hs ud9 rfl rfl (by first | omega | (simp at * <;> omega)) rfl (fun c32 hd32 hb32 => WO.gT rfl rfl (zq (Q.bin rfl (zu 9) rfl (bv_neq ne_nat)) (zq (Q.pickT rfl rfl) (zm rfl (WO.splitD (d := 35) rfl (fun hc35 => ?_) (fun hc35 => ?_)))))))))))
     · refine WO.gT rfl rfl (zm rfl (WO.gT rfl rfl (zm rfl (WO.gT rfl rfl (WO.indexB hs ud9 rfl rfl (by first | omega | (simp at * <;> omega)) rfl (fun c38 hd38 hb38 => WO.gT rfl rfl (zq (Q.bin rfl (zu 10) rfl (bv_neq ne_nat)) (zq (Q.pickT rfl rfl) (zk (W.sub (zc 40 rfl (zc 0 rfl (zc 1 rfl zzn))) (W.condDS rfl (fun hc40 => ?_) (fun hc40 => ?_))))))))))))
       · refine W.exit (End.K_exit (End.KB_miss rfl (End.KL_exit (End.KB_hit (End.K (zr (zm rfl (za rfl (zk (W.ret (End.retV (z1 rfl) ?_)))))))))))
         rfl
       (exfalso; omega)
     (exfalso; omega)
   (exfalso; omega)
 refine W.exit (End.K_exit (End.KL_exit (End.KB_hit (End.K (zr (zm rfl (za rfl (zk (W.ret (End.retV (z1 rfl) ?_))))))))))
 rfl

theorem blank1 (s : List Nat) (hs : Bytes s) (hl : s.length ≤ 1048576) (i : Nat) (hi : i < s.length) (h32 : s.getD i 0 = 32) (h : i + 1 = s.length ∨ (i + 1 < s.length ∧ nb (s.getD (i + 1) 0))) : Spec tab 28 [.str s, .int .i64 ((i : Nat) : Int)] [] [] (Val (.int .i64 ((i + 1 : Nat) : Int))) := by
 refine Spec.enter' (ft_get 28 Try.func28) rfl (m := 44) rfl (rs := [.tmp 4]) rfl (st := [(0, .str s), (1, .int .i64 ((i : Nat) : Int))]) rfl rfl (fun _ => rfl) (fun E => zr (za (zi 0) (zk (W.seq (W.block (W.loop (W.seq (zr (zm rfl (zm rfl (zq (Q.len ud9 rfl rfl) (zq (Q.bin rfl rfl rfl (bv_lss lt_nat)) (zk (W.condDS rfl (fun hc8 => ?_) (fun hc8 => ?_)))))))))))))))
 · refine zw (W.block (W.seq (zr (zm rfl (zm rfl (WO.indexB hs ud9 rfl rfl (by first | omega | (simp at * <;> omega)) rfl (fun c11 hd11 hb11 => zq (Q.bin rfl (zu 35) rfl (bv_eql eq_nat)) (zk (W.condDS rfl (fun hc12 => ?_) (fun hc12 => ?_))))))))))
   · (exfalso; omega)
   refine zw (W.seq (zr (zm rfl (zm rfl (WO.indexB hs ud9 rfl rfl (by first | omega | (simp at * <;> omega)) rfl (fun c27 hd27 hb27 => zq (Q.bin rfl (zu 32) rfl (bv_neq ne_nat)) (zm rfl (WO.splitD (d := 29) rfl (fun hc29 => ?_) (fun hc29 => ?_)))))))))
   · (exfalso; omega)
   refine zg rfl rfl (zg rfl rfl (zg rfl rfl (zg rfl rfl (zq (Q.pickF rfl rfl) (zm rfl (zg rfl rfl (zg rfl rfl (zg rfl rfl (zg rfl rfl (zq (Q.pickF rfl rfl) (zk (W.sub (zc 40 rfl (zc 0 rfl (zc 1 rfl zzn))) (W.condF rfl (zw (W.reg (zm rfl (zq (Q.bin rfl (zi 1) rfl zp) (za rfl (WO.nil (End.KB (End.KL (W.loop (W.seq (zr ?_))))))))))))))))))))))))
   refine zm rfl (zm rfl (zq (Q.len ud9 rfl rfl) (zq (Q.bin rfl rfl rfl (bv_lss lt_nat)) (zk (W.condDS rfl (fun hc8 => ?_) (fun hc8 => ?_))))))
   · obtain ⟨hlt, n1, n2, n3, n4⟩ := h.resolve_left (by omega)
     refine zw (W.block (W.seq (zr (zm rfl (zm rfl (WO.indexB hs ud9 rfl rfl (by first | omega | (simp at * <;> omega)) rfl (fun c11 hd11 hb11 => zq (Q.bin rfl (zu 35) rfl (bv_eql eq_nat)) (zk (W.condDS rfl (fun hc12 => ?_) (fun hc12 => ?_))))))))))
     · (exfalso; omega)
     refine zw (W.seq (zr (zm rfl (zm rfl (WO.indexB hs ud9 rfl rfl (by first | omega | (simp at * <;> omega)) rfl (fun c27 hd27 hb27 => zq (Q.bin rfl (zu 32) rfl (bv_neq ne_nat)) (zm rfl (WO.splitD (d := 29) rfl (fun hc29 => ?_) (fun hc29 => ?_)))))))))
     · refine WO.gT rfl rfl (zm rfl (WO.gT rfl rfl (zm rfl (WO.gT rfl rfl (WO.indexB hs ud9 rfl rfl (by first | omega | (simp at * <;> omega)) rfl (fun c32 hd32 hb32 => WO.gT rfl rfl (zq (Q.bin rfl (zu 9) rfl (bv_neq ne_nat)) (zq (Q.pickT rfl rfl) (zm rfl (WO.splitD (d := 35) rfl (fun hc35 => ?_) (fun hc35 => ?_)))))))))))
       · refine WO.gT rfl rfl (zm rfl (WO.gT rfl rfl (zm rfl (WO.gT rfl rfl (WO.indexB hs ud9 rfl rfl (by first | omega | (simp at * <;> omega)) rfl (fun c38 hd38 hb38 => WO.gT rfl rfl (zq (Q.bin rfl (zu 10) rfl (bv_neq ne_nat)) (zq (Q.pickT rfl rfl) (zk (W.sub (zc 40 rfl (zc 1 rfl (zc 0 rfl zzn))) (W.condDS rfl (fun hc40 => ?_) (fun hc40 => ?_))))))))))))
         · refine W.exit (End.K_exit (End.KB_miss rfl (End.KL_exit (End.KB_hit (End.K (zr (zm rfl (za rfl (zk (W.ret (End.retV (z1 rfl) ?_)))))))))))
           rfl
         (exfalso; omega)
       (exfalso; omega)
     (exfalso; omega)
   refine W.exit (End.K_exit (End.KL_exit (End.KB_hit (End.K (zr (zm rfl (za rfl (zk (W.ret (End.retV (z1 rfl) ?_))))))))))
   rfl
 (exfalso; omega)

theorem tok_name (s : List Nat) (hs : Bytes s) (hl : s.length ≤ 1048576) (i : Nat) (k : Nat) (hik : i < k) (hk : k ≤ s.length) (hrun : ∀ j, i ≤ j → j < k → letB (s.getD j 0) = true ∨ digB (s.getD j 0) = true) (hend : k = s.length ∨ (letB (s.getD k 0) = false ∧ digB (s.getD k 0) = false ∧ s.getD k 0 ≠ 46)) (hle : letB (s.getD i 0) = true) : Spec tab 29 [.str s, .int .i64 ((i : Nat) : Int)] [] [] (Val (.tuple [.agg [.int .i64 ((1 : Nat) : Int), .str ((s.drop i).take (k - i)), .int .i64 0, .int .i64 ((i : Nat) : Int)], .int .i64 ((k : Nat) : Int), .int .i64 ((0 : Nat) : Int)])) := by
 refine Spec.enter' (ft_get 29 Try.func29) rfl (m := 96) rfl (rs := [.cell 4 56, .tmp 5, .tmp 6]) rfl (st := [(0, .str s), (1, .int .i64 ((i : Nat) : Int))]) rfl rfl (fun _ => rfl) (fun E => zr (WO.alloc ao56 rfl (fun b1 => za (zi 0) (za (zi 0) (zk (W.seq (W.block (zr (zm rfl (zm rfl (WO.indexB hs ud9 rfl rfl (by first | omega | (simp at * <;> omega)) rfl (fun c14 hd14 hb14 => WO.callV rfl (oLs_cons rfl oLs_nil) rfl (letter_spec _ (by assumption)) SubR.nil rfl (za rfl (zk (W.condS rfl (fun hc11 => ?_) (fun hc11 => ?_))))))))))))))))
 · refine zr (zm rfl (za rfl (zk (W.seq (W.block (W.loop_ind (fun (q : Nat) => [(0, .str s), (1, .int .i64 ((i : Nat) : Int)), (4, .ptr b1 0), (7, .int .i64 ((q : Nat) : Int))]) (fun _ => _) (fun (q : Nat) => i ≤ q ∧ q ≤ k) (fun (q : Nat) => k - q) (i) ⟨Nat.le_refl _, by omega⟩ (zd rfl (zd rfl (zd rfl (zd rfl zzn)))) (SubH.refl _) (fun q hI0 ih0 => ?_)))))))
   obtain ⟨h1, h2⟩ := hI0
   refine W.seq (zr (zm rfl (zm rfl (zq (Q.len ud9 rfl rfl) (zq (Q.bin rfl rfl rfl (bv_lss lt_nat)) (zm rfl (WO.splitD (d := 21) rfl (fun hc21 => ?_) (fun hc21 => ?_))))))))
   · refine WO.gT rfl rfl (zm rfl (WO.gT rfl rfl (zm rfl (WO.gT rfl rfl (WO.indexB hs ud9 rfl rfl (by first | omega | (simp at * <;> omega)) rfl (fun c24 hd24 hb24 => WO.gT rfl rfl (WO.callV rfl (oLs_cons rfl oLs_nil) rfl (letter_spec _ (by assumption)) SubR.nil rfl (WO.gT rfl rfl (zm rfl (WO.split (d := 26) rfl (fun hc26 => ?_) (fun hc26 => ?_)))))))))))
     · have hqk : q < k := run_lt hend (by omega) h2 (by simp_all)
       refine zg rfl rfl (zg rfl rfl (zg rfl rfl (zg rfl rfl (WO.gT rfl rfl (zq (Q.pickT rfl rfl) (zq (Q.pickT rfl rfl) (zk (W.sub (zc 32 rfl (zc 0 rfl (zc 1 rfl (zc 4 rfl (zc 7 rfl zzn))))) (W.condT rfl (zw (W.block (W.reg (zm rfl (zq (Q.bin rfl (zi 1) rfl zp) (za rfl (WO.nil (End.KB (End.KL (W.sub (zd rfl (zd rfl (zd rfl (zd rfl zzn)))) (ih0 (q + 1) ?_ ?_))))))))))))))))))))
       · exact ⟨by omega, by omega⟩
       exact (by first | omega | (simp at * <;> omega))
     refine WO.gT rfl rfl (zm rfl (WO.gT rfl rfl (zm rfl (WO.gT rfl rfl (WO.indexB hs ud9 rfl rfl (by first | omega | (simp at * <;> omega)) rfl (fun c29 hd29 hb29 => WO.gT rfl rfl (WO.callV rfl (oLs_cons rfl oLs_nil) rfl (digit_spec _ (by assumption)) SubR.nil rfl (WO.gT rfl rfl (zq (Q.pickF rfl rfl) (zq (Q.pickT rfl rfl) (zk (W.sub (zc 32 rfl (zc 0 rfl (zc 1 rfl (zc 4 rfl (zc 7 rfl zzn))))) (W.condS rfl (fun hc32 => ?_) (fun hc32 => ?_))))))))))))))
     · have hqk : q < k := run_lt hend (by omega) h2 (by simp_all)
       refine zw (W.block (W.reg (zm rfl (zq (Q.bin rfl (zi 1) rfl zp) (za rfl (WO.nil (End.KB (End.KL (W.sub (zd rfl (zd rfl (zd rfl (zd rfl zzn)))) (ih0 (q + 1) ?_ ?_))))))))))
       · exact ⟨by omega, by omega⟩
       exact (by first | omega | (simp at * <;> omega))
     have hqk : q = k := run_eq hrun h1 h2 (by simp_all) (by simp_all)
     subst hqk
     refine W.exit (End.K_exit (End.KL_exit (End.KB_hit (End.K (zr (zm rfl (zm rfl (zm rfl (zq (Q.sliceS ud9 rfl rfl (by first | omega | (simp at * <;> omega)) rfl) (zm rfl (zq (Q.build pl56 (oPs_cons (zi 1) (oPs_cons rfl (oPs_cons rfl oPs_nil))) rfl (cs := [_, _, _, _]) rfl) (zm rfl (WO.store sz56 rfl rfl (i := 0) rfl rfl (cs := [_, _, _, _]) rfl (hs' := [_]) rfl (za rfl (za (zi 0) (zk (W.ret (End.KB_ret (End.K_ret (End.retV (ResL.agg (c := [_, _, _, _]) rfl (zt 0 rfl) ag56 sz56 rfl (ResL.tmp rfl (z1 rfl))) ?_))))))))))))))))))))
     rfl
   have hqk : q = k := (by omega)
   subst hqk
   refine zg rfl rfl (zg rfl rfl (zg rfl rfl (zg rfl rfl (zg rfl rfl (WO.gF rfl rfl (.inr rfl) rfl (WO.gF rfl rfl (.inr rfl) rfl (WO.gF rfl rfl (.inr rfl) rfl (WO.gF rfl rfl (.inr rfl) rfl (zg rfl rfl (zq (Q.pickF rfl rfl) (zk (W.sub (zc 32 rfl (zc 0 rfl (zc 1 rfl (zc 4 rfl (zc 7 rfl zzn))))) (W.condF rfl (W.exit (End.K_exit (End.KL_exit (End.KB_hit (End.K (zr (zm rfl (zm rfl (zm rfl (zq (Q.sliceS ud9 rfl rfl (by first | omega | (simp at * <;> omega)) rfl) (zm rfl (zq (Q.build pl56 (oPs_cons (zi 1) (oPs_cons rfl (oPs_cons rfl oPs_nil))) rfl (cs := [_, _, _, _]) rfl) (zm rfl ?_))))))))))))))))))))))))))
   refine WO.store sz56 rfl rfl (i := 0) rfl rfl (cs := [_, _, _, _]) rfl (hs' := [_]) rfl (za rfl (za (zi 0) (zk (W.ret (End.KB_ret (End.K_ret (End.retV (ResL.agg (c := [_, _, _, _]) rfl (zt 0 rfl) ag56 sz56 rfl (ResL.tmp rfl (z1 rfl))) ?_)))))))
   rfl
 (exfalso; rw [hd14, hle] at hc11; cases hc11)

theorem mark_one (s : List Nat) (hs : Bytes s) (hl : s.length ≤ 1048576) (i : Nat) (hi : i < s.length) (hM : s.getD i 0 ∈ ([40, 41, 91, 93, 44, 43, 45, 42] : List Nat)) : Spec tab 43 [.str s, .int .i64 ((i : Nat) : Int)] [] [] (Val (.int .i64 ((1 : Nat) : Int))) := by
 refine Spec.enter' (ft_get 43 Try.func43) rfl (m := 46) rfl (rs := [.tmp 4]) rfl (st := [(0, .str s), (1, .int .i64 ((i : Nat) : Int))]) rfl rfl (fun _ => rfl) (fun E => zr (za (zi 0) (zk (zr (WO.bslice ud23 sz9 zr9 rfl (oPs_cons (oc (v := .str [61, 126]) (by kernel_rfl)) (oPs_cons (oc (v := .str [33, 126]) (by kernel_rfl)) (oPs_cons (oc (v := .str [61, 61]) (by kernel_rfl)) (oPs_cons (oc (v := .str [33, 61]) (by kernel_rfl)) (oPs_cons (oc (v := .str [60, 61]) (by kernel_rfl)) (oPs_cons (oc (v := .str [62, 61]) (by kernel_rfl)) oPs_nil)))))) rfl (cs := [_, _, _, _, _, _]) rfl rfl rfl (fun b1 => za rfl (zk (W.seq (zr (za (zi 0) (zk (W.block (W.loop_ind (fun (k : Nat) => [(0, .str s), (1, .int .i64 ((i : Nat) : Int)), (5, .slice b1 0 6 1), (6, .int .i64 ((k : Nat) : Int))]) (fun (k : Nat) => [⟨b1, ⟨1, true, ([[61, 126], [33, 126], [61, 61], [33, 61], [60, 61], [62, 61]] : List (List Nat)).map AV.str⟩, true⟩]) (fun (k : Nat) => k ≤ 6) (fun (k : Nat) => 6 - k) (0) (Nat.zero_le _) (zd rfl (zd rfl (zd rfl (zd rfl zzn)))) (SubH.refl _) (fun k hI0 ih0 => W.seq (zr (zm rfl (zm rfl (zq (Q.len ud23 rfl rfl) (zq (Q.bin rfl rfl rfl (bv_lss lt_nat)) (zk (W.condDS rfl (fun hc13 => ?_) (fun hc13 => ?_))))))))))))))))))))))
 · refine zw (W.seq (W.block (W.seq (W.regT (by kernel_rfl) (zm rfl (zq (Q.len ud9 rfl rfl) (zm rfl (zq (Q.bin rfl rfl rfl (bv_sub (wn_sub (by first | omega | (simp at * <;> omega))))) (zq (Q.bin rfl (zi 2) rfl (bv_geq le_nat)) (zm rfl (WO.splitD (d := 21) rfl (fun hc21 => ?_) (fun hc21 => ?_))))))))))))
   · refine WO.gT rfl rfl (zm rfl (WO.gT rfl rfl (zm rfl (WO.gT rfl rfl (zm rfl (WO.gT rfl rfl (zq (Q.bin rfl (zi 2) rfl zp) (WO.gT rfl rfl (zq (Q.sliceS ud9 rfl rfl (by first | omega | (simp at * <;> omega)) sl_add) (WO.gT rfl rfl (zm rfl (WO.gT rfl rfl (zm rfl (WO.gT rfl rfl (zq (Q.iaddrS ud23 sz9 rfl rfl (by first | omega | (simp at * <;> omega))) (WO.gT rfl rfl (zq (Q.load1 rfl (zt 0 rfl) ag9 (strs_at (L := [[61, 126], [33, 126], [61, 61], [33, 61], [60, 61], [62, 61]]) (by simp; omega))) (WO.gT rfl rfl (zq (Q.bin rfl rfl rfl bv_seql) (zq (Q.pickT rfl rfl) (zk (W.sub (zc 32 rfl (zc 0 rfl (zc 1 rfl (zc 5 rfl (zc 6 rfl zzn))))) (W.condDS rfl (fun hc32 => ?_) (fun hc32 => ?_))))))))))))))))))))))))
     · exact absurd hc32 (mk_no hM (by simp at *; omega))
     refine W.skip (End.KB (End.K (W.reg (zm rfl (zq (Q.bin rfl (zi 1) rfl zp) (za rfl (WO.nil (End.KL (W.sub (zd rfl (zd rfl (zd rfl (zd rfl zzn)))) (ih0 (k + 1) ?_ ?_))))))))))
     · exact (by omega)
     exact (by first | omega | (simp at * <;> omega))
   refine zg rfl rfl (zg rfl rfl (zg rfl rfl (zg rfl rfl (zg rfl rfl (zg rfl rfl (zg rfl rfl (zg rfl rfl (zg rfl rfl (zg rfl rfl (zq (Q.pickF rfl rfl) (zk (W.sub (zc 32 rfl (zc 0 rfl (zc 1 rfl (zc 5 rfl (zc 6 rfl zzn))))) (W.condF rfl (W.skip (End.KB (End.K (W.reg (zm rfl (zq (Q.bin rfl (zi 1) rfl zp) (za rfl (WO.nil (End.KL (W.sub (zd rfl (zd rfl (zd rfl (zd rfl zzn)))) (ih0 (k + 1) ?_ ?_))))))))))))))))))))))))
   · exact (by omega)
   exact (by first | omega | (simp at * <;> omega))
 refine W.exit (End.K_exit (End.KL_exit (End.KB_hit (End.K (zr (zq (Q.assign (oc (v := .str [61, 60, 62, 43, 45, 42, 47, 37, 40, 41, 123, 125, 91, 93, 44]) (by kernel_rfl))) (zk (W.seq (zr (za (zi 0) (zk (W.block (W.loop_ind (fun (k : Nat) => [(0, .str s), (1, .int .i64 ((i : Nat) : Int)), (7, .str [61, 60, 62, 43, 45, 42, 47, 37, 40, 41, 123, 125, 91, 93, 44]), (8, .int .i64 ((k : Nat) : Int))]) (fun _ => _) (fun (k : Nat) => k ≤ 15 ∧ ∀ j, j < k → ([61, 60, 62, 43, 45, 42, 47, 37, 40, 41, 123, 125, 91, 93, 44] : List Nat).getD j 0 ≠ s.getD i 0) (fun (k : Nat) => 15 - k) (0) ⟨Nat.zero_le _, fun j h => by omega⟩ (zd rfl (zd rfl (zd rfl (zd rfl zzn)))) (SubH.refl _) (fun k hI1 ih1 => ?_))))))))))))))
 obtain ⟨h1, h2⟩ := hI1
 refine W.seq (zr (zm rfl (zm rfl (zq (Q.len ud9 rfl rfl) (zq (Q.bin rfl rfl rfl (bv_lss lt_nat)) (zk (W.condDS rfl (fun hc36 => ?_) (fun hc36 => ?_))))))))
 · refine zw (W.seq (W.block (W.seq (W.regT (by kernel_rfl) (zm rfl (zm rfl (WO.indexB hs ud9 rfl rfl (by first | omega | (simp at * <;> omega)) rfl (fun c41 hd41 hb41 => zm rfl (zm rfl (WO.indexB (by unfold Bytes; decide) ud9 rfl rfl (by first | omega | (simp at * <;> omega)) rfl (fun c44 hd44 hb44 => zq (Q.bin rfl rfl rfl (bv_eql eq_nat)) (zk (W.condDS rfl (fun hc45 => ?_) (fun hc45 => ?_))))))))))))))
   · refine zr (za (zi 1) (zk (W.sub (zc 4 rfl zzn) (W.ret (End.KB_ret (End.K_ret (End.KL_ret (End.KB_ret (End.K_ret (End.retV (z1 rfl) ?_))))))))))
     rfl
   refine W.skip (End.KB (End.K (W.reg (zm rfl (zq (Q.bin rfl (zi 1) rfl zp) (za rfl (WO.nil (End.KL (W.sub (zd rfl (zd rfl (zd rfl (zd rfl zzn)))) (ih1 (k + 1) ?_ ?_))))))))))
   · exact ⟨by simp at *; omega, fun j h => by rcases Nat.lt_or_ge j k with g | g; exact h2 j g; have hjk : j = k := (by omega); subst hjk; omega⟩
   exact (by simp at *; omega)
 exact (ms_all hM (fun j hj => h2 j (by simp at *; omega))).elim

theorem tok_mark (s : List Nat) (hs : Bytes s) (hl : s.length ≤ 1048576) (i : Nat) (hi : i < s.length) (hM : s.getD i 0 ∈ ([40, 41, 91, 93, 44, 43, 45, 42] : List Nat)) : Spec tab 29 [.str s, .int .i64 ((i : Nat) : Int)] [] [] (Val (.tuple [.agg [.int .i64 ((5 : Nat) : Int), .str ((s.drop i).take 1), .int .i64 0, .int .i64 ((i : Nat) : Int)], .int .i64 ((i + 1 : Nat) : Int), .int .i64 ((0 : Nat) : Int)])) := by
 obtain ⟨f1, f2, f3⟩ := m8_facts hM
 refine Spec.enter' (ft_get 29 Try.func29) rfl (m := 96) rfl (rs := [.cell 4 56, .tmp 5, .tmp 6]) rfl (st := [(0, .str s), (1, .int .i64 ((i : Nat) : Int))]) rfl rfl (fun _ => rfl) (fun E => zr (WO.alloc ao56 rfl (fun b1 => za (zi 0) (za (zi 0) (zk (W.seq (W.block (zr (zm rfl (zm rfl (WO.indexB hs ud9 rfl rfl (by first | omega | (simp at * <;> omega)) rfl (fun c14 hd14 hb14 => WO.callV rfl (oLs_cons rfl oLs_nil) rfl (letter_spec _ (by assumption)) SubR.nil rfl (za rfl (zk (W.condS rfl (fun hc11 => ?_) (fun hc11 => ?_))))))))))))))))
 · (exfalso; rw [hd14, f1] at hc11; cases hc11)
 refine zr (zm rfl (zm rfl (WO.indexB hs ud9 rfl rfl (by first | omega | (simp at * <;> omega)) rfl (fun c45 hd45 hb45 => WO.callV rfl (oLs_cons rfl oLs_nil) rfl (digit_spec _ (by assumption)) SubR.nil rfl (za rfl (zk (W.condS rfl (fun hc42 => ?_) (fun hc42 => ?_))))))))
 · (exfalso; rw [hd45, f2] at hc42; cases hc42)
 refine zr (zm rfl (zm rfl (WO.indexB hs ud9 rfl rfl (by first | omega | (simp at * <;> omega)) rfl (fun c56 hd56 hb56 => zq (Q.bin rfl (zu 34) rfl (bv_eql eq_nat)) (za rfl (zk (W.sub (zc 53 rfl (zc 4 rfl (zc 0 rfl (zc 1 rfl zzn)))) (W.condDS rfl (fun hc53 => ?_) (fun hc53 => ?_)))))))))
 · (exfalso; omega)
 refine W.skip (End.KB (End.K (zr (zm rfl (zm rfl (WO.callV rfl (oLs_cons rfl (oLs_cons rfl oLs_nil)) rfl (mark_one s hs hl i hi hM) SubR.nil rfl (za rfl (zk (W.seq (zr (zm rfl (zq (Q.bin rfl (zi 0) rfl (bv_eql (p := false) rfl)) (zk (W.condF rfl (zw (zr (zm rfl (zm rfl (zm rfl (zm rfl (zq (Q.bin rfl rfl rfl zp) (zq (Q.sliceS ud9 rfl rfl (by first | omega | (simp at * <;> omega)) sl_add) (zm rfl (zq (Q.build pl56 (oPs_cons (zi 5) (oPs_cons rfl (oPs_cons rfl oPs_nil))) rfl (cs := [_, _, _, _]) rfl) ?_))))))))))))))))))))))))
 refine zm rfl (zm rfl (zq (Q.bin rfl rfl rfl zp) (WO.store sz56 rfl rfl (i := 0) rfl rfl (cs := [_, _, _, _]) rfl (hs' := [_]) rfl (za rfl (za (zi 0) (zk (W.sub (zc 6 rfl (zc 5 rfl (zc 4 rfl zzn))) (W.ret (End.retV (ResL.agg (c := [_, _, _, _]) rfl (zt 0 rfl) ag56 sz56 rfl (ResL.tmp rfl (z1 rfl))) ?_)))))))))
 rfl

theorem num_num (s : List Nat) (hs : Bytes s) (hl : s.length ≤ 1048576) (i : Nat) (k : Nat) (hik : i < k) (hk : k ≤ s.length) (hrun : ∀ j, i ≤ j → j < k → letB (s.getD j 0) = true ∨ digB (s.getD j 0) = true) (hend : k = s.length ∨ (letB (s.getD k 0) = false ∧ digB (s.getD k 0) = false ∧ s.getD k 0 ≠ 46)) (v : Int) (hp1 : Spec tab 47 [.str ((s.drop i).take (k - i))] [] [] (Val (.tuple [.int .i64 v, .int .i64 ((0 : Nat) : Int)]))) : Spec tab 41 [.str s, .int .i64 ((i : Nat) : Int)] [] [] (Val (.tuple [.agg [.int .i64 ((2 : Nat) : Int), .str ((s.drop i).take (k - i)), .int .i64 v, .int .i64 ((i : Nat) : Int)], .int .i64 ((k : Nat) : Int), .int .i64 ((0 : Nat) : Int)])) := by
 refine Spec.enter' (ft_get 41 Try.func41) rfl (m := 68) rfl (rs := [.cell 4 56, .tmp 5, .tmp 6]) rfl (st := [(0, .str s), (1, .int .i64 ((i : Nat) : Int))]) rfl rfl (fun _ => rfl) (fun E => zr (WO.alloc ao56 rfl (fun b1 => za (zi 0) (za (zi 0) (zk (zr (zm rfl (za rfl (zk (W.seq (W.block (W.loop_ind (fun (q : Nat) => [(0, .str s), (1, .int .i64 ((i : Nat) : Int)), (4, .ptr b1 0), (7, .int .i64 ((q : Nat) : Int))]) (fun _ => _) (fun (q : Nat) => i ≤ q ∧ q ≤ k) (fun (q : Nat) => k - q) (i) ⟨Nat.le_refl _, by omega⟩ (zd rfl (zd rfl (zd rfl (zd rfl zzn)))) (SubH.refl _) (fun q hI0 ih0 => ?_)))))))))))))
 obtain ⟨h1, h2⟩ := hI0
 refine W.seq (zr (zm rfl (zm rfl (zq (Q.len ud9 rfl rfl) (zq (Q.bin rfl rfl rfl (bv_lss lt_nat)) (zm rfl (WO.splitD (d := 16) rfl (fun hc16 => ?_) (fun hc16 => ?_))))))))
 · refine WO.gT rfl rfl (zm rfl (WO.gT rfl rfl (zm rfl (WO.gT rfl rfl (WO.indexB hs ud9 rfl rfl (by first | omega | (simp at * <;> omega)) rfl (fun c19 hd19 hb19 => WO.gT rfl rfl (WO.callV rfl (oLs_cons rfl oLs_nil) rfl (digit_spec _ (by assumption)) SubR.nil rfl (WO.gT rfl rfl (zm rfl (WO.split (d := 21) rfl (fun hc21 => ?_) (fun hc21 => ?_)))))))))))
   · have hqk : q < k := run_lt hend (by omega) h2 (by simp_all)
     refine zg rfl rfl (zg rfl rfl (zg rfl rfl (zg rfl rfl (WO.gT rfl rfl (zq (Q.pickT rfl rfl) (WO.gT rfl rfl (zm rfl (zg rfl rfl (zg rfl rfl (zg rfl rfl (zg rfl rfl (WO.gT rfl rfl (zq (Q.pickT rfl rfl) (zq (Q.pickT rfl rfl) (zk (W.sub (zc 33 rfl (zc 0 rfl (zc 1 rfl (zc 4 rfl (zc 7 rfl zzn))))) (W.condT rfl (zw (W.block (W.reg (zm rfl (zq (Q.bin rfl (zi 1) rfl zp) (za rfl ?_)))))))))))))))))))))))
     refine WO.nil (End.KB (End.KL (W.sub (zd rfl (zd rfl (zd rfl (zd rfl zzn)))) (ih0 (q + 1) ?_ ?_))))
     · exact ⟨by omega, by omega⟩
     exact (by first | omega | (simp at * <;> omega))
   refine WO.gT rfl rfl (zm rfl (WO.gT rfl rfl (zm rfl (WO.gT rfl rfl (WO.indexB hs ud9 rfl rfl (by first | omega | (simp at * <;> omega)) rfl (fun c24 hd24 hb24 => WO.gT rfl rfl (WO.callV rfl (oLs_cons rfl oLs_nil) rfl (letter_spec _ (by assumption)) SubR.nil rfl (WO.gT rfl rfl (zq (Q.pickF rfl rfl) (WO.gT rfl rfl (zm rfl (WO.split (d := 27) rfl (fun hc27 => ?_) (fun hc27 => ?_)))))))))))))
   · have hqk : q < k := run_lt hend (by omega) h2 (by simp_all)
     refine zg rfl rfl (zg rfl rfl (zg rfl rfl (zg rfl rfl (WO.gT rfl rfl (zq (Q.pickT rfl rfl) (zq (Q.pickT rfl rfl) (zk (W.sub (zc 33 rfl (zc 0 rfl (zc 1 rfl (zc 4 rfl (zc 7 rfl zzn))))) (W.condT rfl (zw (W.block (W.reg (zm rfl (zq (Q.bin rfl (zi 1) rfl zp) (za rfl (WO.nil (End.KB (End.KL (W.sub (zd rfl (zd rfl (zd rfl (zd rfl zzn)))) (ih0 (q + 1) ?_ ?_))))))))))))))))))))
     · exact ⟨by omega, by omega⟩
     exact (by first | omega | (simp at * <;> omega))
   refine WO.gT rfl rfl (zm rfl (WO.gT rfl rfl (zm rfl (WO.gT rfl rfl (WO.indexB hs ud9 rfl rfl (by first | omega | (simp at * <;> omega)) rfl (fun c30 hd30 hb30 => WO.gT rfl rfl (zq (Q.bin rfl (zu 46) rfl (bv_eql eq_nat)) (WO.gT rfl rfl (zq (Q.pickF rfl rfl) (zq (Q.pickT rfl rfl) (zk (W.sub (zc 33 rfl (zc 0 rfl (zc 1 rfl (zc 4 rfl (zc 7 rfl zzn))))) (W.condDS rfl (fun hc33 => ?_) (fun hc33 => ?_))))))))))))))
   · have hqk : q < k := run_lt46 hend (by omega) h2 (by omega)
     refine zw (W.block (W.reg (zm rfl (zq (Q.bin rfl (zi 1) rfl zp) (za rfl (WO.nil (End.KB (End.KL (W.sub (zd rfl (zd rfl (zd rfl (zd rfl zzn)))) (ih0 (q + 1) ?_ ?_))))))))))
     · exact ⟨by omega, by omega⟩
     exact (by first | omega | (simp at * <;> omega))
   have hqk : q = k := run_eq hrun h1 h2 (by simp_all) (by simp_all)
   subst hqk
   refine W.exit (End.K_exit (End.KL_exit (End.KB_hit (End.K (zr (zm rfl (zm rfl (zm rfl (zq (Q.sliceS ud9 rfl rfl (by first | omega | (simp at * <;> omega)) rfl) (za rfl (zk (zr (zm rfl (WO.callV rfl (oLs_cons rfl oLs_nil) rfl hp1 SubR.nil rfl (zm rfl (zq (Q.extract rfl rfl) (zq (Q.extract rfl rfl) (za rfl (za rfl (zk (W.seq (zr (zm rfl (zq (Q.bin rfl (zi 0) rfl (bv_eql (p := true) rfl)) (zm rfl (zg rfl rfl ?_))))))))))))))))))))))))))
   refine zg rfl rfl (zq (Q.pickT rfl rfl) (zk (W.sub (zc 50 rfl (zc 10 rfl (zc 9 rfl (zc 8 rfl (zc 1 rfl (zc 4 rfl (zc 7 rfl zzn))))))) (W.condT rfl (zr (zm rfl (zm rfl (zm rfl (zq (Q.build pl56 (oPs_cons (zi 2) (oPs_cons rfl (oPs_cons rfl (oPs_cons rfl oPs_nil)))) rfl (cs := [_, _, _, _]) rfl) (zm rfl (zm rfl (WO.store sz56 rfl rfl (i := 0) rfl rfl (cs := [_, _, _, _]) rfl (hs' := [_]) rfl (za rfl (za rfl (zk (W.ret (End.K_ret (End.retV (ResL.agg (c := [_, _, _, _]) rfl (zt 0 rfl) ag56 sz56 rfl (ResL.tmp rfl (z1 rfl))) ?_))))))))))))))))))
   rfl
 have hqk : q = k := (by omega)
 subst hqk
 refine zg rfl rfl (zg rfl rfl (zg rfl rfl (zg rfl rfl (zg rfl rfl (WO.gF rfl rfl (.inr rfl) rfl (WO.gF rfl rfl (.inr rfl) rfl (WO.gF rfl rfl (.inr rfl) rfl (WO.gF rfl rfl (.inr rfl) rfl (zg rfl rfl (zg rfl rfl (WO.gF rfl rfl (.inr rfl) rfl (WO.gF rfl rfl (.inr rfl) rfl (WO.gF rfl rfl (.inr rfl) rfl (WO.gF rfl rfl (.inr rfl) rfl (zg rfl rfl (zq (Q.pickF rfl rfl) (zk (W.sub (zc 33 rfl (zc 0 rfl (zc 1 rfl (zc 4 rfl (zc 7 rfl zzn))))) (W.condF rfl (W.exit (End.K_exit (End.KL_exit (End.KB_hit (End.K (zr (zm rfl ?_))))))))))))))))))))))))))
 refine zm rfl (zm rfl (zq (Q.sliceS ud9 rfl rfl (by first | omega | (simp at * <;> omega)) rfl) (za rfl (zk (zr (zm rfl (WO.callV rfl (oLs_cons rfl oLs_nil) rfl hp1 SubR.nil rfl (zm rfl (zq (Q.extract rfl rfl) (zq (Q.extract rfl rfl) (za rfl (za rfl (zk (W.seq (zr (zm rfl (zq (Q.bin rfl (zi 0) rfl (bv_eql (p := true) rfl)) (zm rfl (zg rfl rfl (zg rfl rfl (zq (Q.pickT rfl rfl) (zk (W.sub (zc 50 rfl (zc 10 rfl (zc 9 rfl (zc 8 rfl (zc 1 rfl (zc 4 rfl (zc 7 rfl zzn))))))) ?_)))))))))))))))))))))))
 refine W.condT rfl (zr (zm rfl (zm rfl (zm rfl (zq (Q.build pl56 (oPs_cons (zi 2) (oPs_cons rfl (oPs_cons rfl (oPs_cons rfl oPs_nil)))) rfl (cs := [_, _, _, _]) rfl) (zm rfl (zm rfl (WO.store sz56 rfl rfl (i := 0) rfl rfl (cs := [_, _, _, _]) rfl (hs' := [_]) rfl (za rfl (za rfl (zk (W.ret (End.K_ret (End.retV (ResL.agg (c := [_, _, _, _]) rfl (zt 0 rfl) ag56 sz56 rfl (ResL.tmp rfl (z1 rfl))) ?_))))))))))))))
 rfl

theorem num_dur (s : List Nat) (hs : Bytes s) (hl : s.length ≤ 1048576) (i : Nat) (k : Nat) (hik : i < k) (hk : k ≤ s.length) (hrun : ∀ j, i ≤ j → j < k → letB (s.getD j 0) = true ∨ digB (s.getD j 0) = true) (hend : k = s.length ∨ (letB (s.getD k 0) = false ∧ digB (s.getD k 0) = false ∧ s.getD k 0 ≠ 46)) (v : Int) (hp1 : Spec tab 47 [.str ((s.drop i).take (k - i))] [] [] (Val (.tuple [.int .i64 v, .int .i64 ((14 : Nat) : Int)]))) (u : Int) (hp2 : Spec tab 48 [.str ((s.drop i).take (k - i))] [] [] (Val (.tuple [.int .i64 u, .int .i64 ((0 : Nat) : Int)]))) : Spec tab 41 [.str s, .int .i64 ((i : Nat) : Int)] [] [] (Val (.tuple [.agg [.int .i64 ((3 : Nat) : Int), .str ((s.drop i).take (k - i)), .int .i64 u, .int .i64 ((i : Nat) : Int)], .int .i64 ((k : Nat) : Int), .int .i64 ((0 : Nat) : Int)])) := by
 refine Spec.enter' (ft_get 41 Try.func41) rfl (m := 68) rfl (rs := [.cell 4 56, .tmp 5, .tmp 6]) rfl (st := [(0, .str s), (1, .int .i64 ((i : Nat) : Int))]) rfl rfl (fun _ => rfl) (fun E => zr (WO.alloc ao56 rfl (fun b1 => za (zi 0) (za (zi 0) (zk (zr (zm rfl (za rfl (zk (W.seq (W.block (W.loop_ind (fun (q : Nat) => [(0, .str s), (1, .int .i64 ((i : Nat) : Int)), (4, .ptr b1 0), (7, .int .i64 ((q : Nat) : Int))]) (fun _ => _) (fun (q : Nat) => i ≤ q ∧ q ≤ k) (fun (q : Nat) => k - q) (i) ⟨Nat.le_refl _, by omega⟩ (zd rfl (zd rfl (zd rfl (zd rfl zzn)))) (SubH.refl _) (fun q hI0 ih0 => ?_)))))))))))))
 obtain ⟨h1, h2⟩ := hI0
 refine W.seq (zr (zm rfl (zm rfl (zq (Q.len ud9 rfl rfl) (zq (Q.bin rfl rfl rfl (bv_lss lt_nat)) (zm rfl (WO.splitD (d := 16) rfl (fun hc16 => ?_) (fun hc16 => ?_))))))))
 · refine WO.gT rfl rfl (zm rfl (WO.gT rfl rfl (zm rfl (WO.gT rfl rfl (WO.indexB hs ud9 rfl rfl (by first | omega | (simp at * <;> omega)) rfl (fun c19 hd19 hb19 => WO.gT rfl rfl (WO.callV rfl (oLs_cons rfl oLs_nil) rfl (digit_spec _ (by assumption)) SubR.nil rfl (WO.gT rfl rfl (zm rfl (WO.split (d := 21) rfl (fun hc21 => ?_) (fun hc21 => ?_)))))))))))
   · have hqk : q < k := run_lt hend (by omega) h2 (by simp_all)
     refine zg rfl rfl (zg rfl rfl (zg rfl rfl (zg rfl rfl (WO.gT rfl rfl (zq (Q.pickT rfl rfl) (WO.gT rfl rfl (zm rfl (zg rfl rfl (zg rfl rfl (zg rfl rfl (zg rfl rfl (WO.gT rfl rfl (zq (Q.pickT rfl rfl) (zq (Q.pickT rfl rfl) (zk (W.sub (zc 33 rfl (zc 0 rfl (zc 1 rfl (zc 4 rfl (zc 7 rfl zzn))))) (W.condT rfl (zw (W.block (W.reg (zm rfl (zq (Q.bin rfl (zi 1) rfl zp) (za rfl ?_)))))))))))))))))))))))
     refine WO.nil (End.KB (End.KL (W.sub (zd rfl (zd rfl (zd rfl (zd rfl zzn)))) (ih0 (q + 1) ?_ ?_))))
     · exact ⟨by omega, by omega⟩
     exact (by first | omega | (simp at * <;> omega))
   refine WO.gT rfl rfl (zm rfl (WO.gT rfl rfl (zm rfl (WO.gT rfl rfl (WO.indexB hs ud9 rfl rfl (by first | omega | (simp at * <;> omega)) rfl (fun c24 hd24 hb24 => WO.gT rfl rfl (WO.callV rfl (oLs_cons rfl oLs_nil) rfl (letter_spec _ (by assumption)) SubR.nil rfl (WO.gT rfl rfl (zq (Q.pickF rfl rfl) (WO.gT rfl rfl (zm rfl (WO.split (d := 27) rfl (fun hc27 => ?_) (fun hc27 => ?_)))))))))))))
   · have hqk : q < k := run_lt hend (by omega) h2 (by simp_all)
     refine zg rfl rfl (zg rfl rfl (zg rfl rfl (zg rfl rfl (WO.gT rfl rfl (zq (Q.pickT rfl rfl) (zq (Q.pickT rfl rfl) (zk (W.sub (zc 33 rfl (zc 0 rfl (zc 1 rfl (zc 4 rfl (zc 7 rfl zzn))))) (W.condT rfl (zw (W.block (W.reg (zm rfl (zq (Q.bin rfl (zi 1) rfl zp) (za rfl (WO.nil (End.KB (End.KL (W.sub (zd rfl (zd rfl (zd rfl (zd rfl zzn)))) (ih0 (q + 1) ?_ ?_))))))))))))))))))))
     · exact ⟨by omega, by omega⟩
     exact (by first | omega | (simp at * <;> omega))
   refine WO.gT rfl rfl (zm rfl (WO.gT rfl rfl (zm rfl (WO.gT rfl rfl (WO.indexB hs ud9 rfl rfl (by first | omega | (simp at * <;> omega)) rfl (fun c30 hd30 hb30 => WO.gT rfl rfl (zq (Q.bin rfl (zu 46) rfl (bv_eql eq_nat)) (WO.gT rfl rfl (zq (Q.pickF rfl rfl) (zq (Q.pickT rfl rfl) (zk (W.sub (zc 33 rfl (zc 0 rfl (zc 1 rfl (zc 4 rfl (zc 7 rfl zzn))))) (W.condDS rfl (fun hc33 => ?_) (fun hc33 => ?_))))))))))))))
   · have hqk : q < k := run_lt46 hend (by omega) h2 (by omega)
     refine zw (W.block (W.reg (zm rfl (zq (Q.bin rfl (zi 1) rfl zp) (za rfl (WO.nil (End.KB (End.KL (W.sub (zd rfl (zd rfl (zd rfl (zd rfl zzn)))) (ih0 (q + 1) ?_ ?_))))))))))
     · exact ⟨by omega, by omega⟩
     exact (by first | omega | (simp at * <;> omega))
   have hqk : q = k := run_eq hrun h1 h2 (by simp_all) (by simp_all)
   subst hqk
   refine W.exit (End.K_exit (End.KL_exit (End.KB_hit (End.K (zr (zm rfl (zm rfl (zm rfl (zq (Q.sliceS ud9 rfl rfl (by first | omega | (simp at * <;> omega)) rfl) (za rfl (zk (zr (zm rfl (WO.callV rfl (oLs_cons rfl oLs_nil) rfl hp1 SubR.nil rfl (zm rfl (zq (Q.extract rfl rfl) (zq (Q.extract rfl rfl) (za rfl (za rfl (zk (W.seq (zr (zm rfl (zq (Q.bin rfl (zi 0) rfl (bv_eql (p := false) rfl)) (zm rfl (WO.gT rfl rfl ?_))))))))))))))))))))))))))
   refine zm rfl (WO.gT rfl rfl (zq (Q.bin rfl (zi 11) rfl (bv_eql (p := false) rfl)) (zq (Q.pickF rfl rfl) (zk (W.sub (zc 50 rfl (zc 10 rfl (zc 9 rfl (zc 8 rfl (zc 1 rfl (zc 4 rfl (zc 7 rfl zzn))))))) (W.condF rfl (zw (zr (zm rfl (WO.callV rfl (oLs_cons rfl oLs_nil) rfl hp2 SubR.nil rfl (zm rfl (zq (Q.extract rfl rfl) (zq (Q.extract rfl rfl) (za rfl (za rfl (zk (zr (zm rfl (zm rfl (zm rfl (zq (Q.build pl56 (oPs_cons (zi 3) (oPs_cons rfl (oPs_cons rfl (oPs_cons rfl oPs_nil)))) rfl (cs := [_, _, _, _]) rfl) (zm rfl (zm rfl ?_)))))))))))))))))))))))
   refine WO.store sz56 rfl rfl (i := 0) rfl rfl (cs := [_, _, _, _]) rfl (hs' := [_]) rfl (za rfl (za rfl (zk (W.sub (zc 6 rfl (zc 5 rfl (zc 4 rfl zzn))) (W.ret (End.retV (ResL.agg (c := [_, _, _, _]) rfl (zt 0 rfl) ag56 sz56 rfl (ResL.tmp rfl (z1 rfl))) ?_))))))
   rfl
 have hqk : q = k := (by omega)
 subst hqk
 refine zg rfl rfl (zg rfl rfl (zg rfl rfl (zg rfl rfl (zg rfl rfl (WO.gF rfl rfl (.inr rfl) rfl (WO.gF rfl rfl (.inr rfl) rfl (WO.gF rfl rfl (.inr rfl) rfl (WO.gF rfl rfl (.inr rfl) rfl (zg rfl rfl (zg rfl rfl (WO.gF rfl rfl (.inr rfl) rfl (WO.gF rfl rfl (.inr rfl) rfl (WO.gF rfl rfl (.inr rfl) rfl (WO.gF rfl rfl (.inr rfl) rfl (zg rfl rfl (zq (Q.pickF rfl rfl) (zk (W.sub (zc 33 rfl (zc 0 rfl (zc 1 rfl (zc 4 rfl (zc 7 rfl zzn))))) (W.condF rfl (W.exit (End.K_exit (End.KL_exit (End.KB_hit (End.K (zr (zm rfl ?_))))))))))))))))))))))))))
 refine zm rfl (zm rfl (zq (Q.sliceS ud9 rfl rfl (by first | omega | (simp at * <;> omega)) rfl) (za rfl (zk (zr (zm rfl (WO.callV rfl (oLs_cons rfl oLs_nil) rfl hp1 SubR.nil rfl (zm rfl (zq (Q.extract rfl rfl) (zq (Q.extract rfl rfl) (za rfl (za rfl (zk (W.seq (zr (zm rfl (zq (Q.bin rfl (zi 0) rfl (bv_eql (p := false) rfl)) (zm rfl (WO.gT rfl rfl (zm rfl (WO.gT rfl rfl (zq (Q.bin rfl (zi 11) rfl (bv_eql (p := false) rfl)) (zq (Q.pickF rfl rfl) ?_)))))))))))))))))))))))
 refine zk (W.sub (zc 50 rfl (zc 10 rfl (zc 9 rfl (zc 8 rfl (zc 1 rfl (zc 4 rfl (zc 7 rfl zzn))))))) (W.condF rfl (zw (zr (zm rfl (WO.callV rfl (oLs_cons rfl oLs_nil) rfl hp2 SubR.nil rfl (zm rfl (zq (Q.extract rfl rfl) (zq (Q.extract rfl rfl) (za rfl (za rfl (zk (zr (zm rfl (zm rfl (zm rfl (zq (Q.build pl56 (oPs_cons (zi 3) (oPs_cons rfl (oPs_cons rfl (oPs_cons rfl oPs_nil)))) rfl (cs := [_, _, _, _]) rfl) (zm rfl (zm rfl (WO.store sz56 rfl rfl (i := 0) rfl rfl (cs := [_, _, _, _]) rfl (hs' := [_]) rfl (za rfl (za rfl (zk ?_)))))))))))))))))))))))
 refine W.sub (zc 6 rfl (zc 5 rfl (zc 4 rfl zzn))) (W.ret (End.retV (ResL.agg (c := [_, _, _, _]) rfl (zt 0 rfl) ag56 sz56 rfl (ResL.tmp rfl (z1 rfl))) ?_))
 rfl

theorem tok_num (s : List Nat) (hs : Bytes s) (hl : s.length ≤ 1048576) (i : Nat) (k : Nat) (hik : i < k) (hk : k ≤ s.length) (hrun : ∀ j, i ≤ j → j < k → letB (s.getD j 0) = true ∨ digB (s.getD j 0) = true) (hend : k = s.length ∨ (letB (s.getD k 0) = false ∧ digB (s.getD k 0) = false ∧ s.getD k 0 ≠ 46)) (hdg : digB (s.getD i 0) = true) (v : Int) (hp1 : Spec tab 47 [.str ((s.drop i).take (k - i))] [] [] (Val (.tuple [.int .i64 v, .int .i64 ((0 : Nat) : Int)]))) : Spec tab 29 [.str s, .int .i64 ((i : Nat) : Int)] [] [] (Val (.tuple [.agg [.int .i64 ((2 : Nat) : Int), .str ((s.drop i).take (k - i)), .int .i64 v, .int .i64 ((i : Nat) : Int)], .int .i64 ((k : Nat) : Int), .int .i64 ((0 : Nat) : Int)])) := by
 have hnl := dig_let hdg
 refine Spec.enter' (ft_get 29 Try.func29) rfl (m := 96) rfl (rs := [.cell 4 56, .tmp 5, .tmp 6]) rfl (st := [(0, .str s), (1, .int .i64 ((i : Nat) : Int))]) rfl rfl (fun _ => rfl) (fun E => zr (WO.alloc ao56 rfl (fun b1 => za (zi 0) (za (zi 0) (zk (W.seq (W.block (zr (zm rfl (zm rfl (WO.indexB hs ud9 rfl rfl (by first | omega | (simp at * <;> omega)) rfl (fun c14 hd14 hb14 => WO.callV rfl (oLs_cons rfl oLs_nil) rfl (letter_spec _ (by assumption)) SubR.nil rfl (za rfl (zk (W.condS rfl (fun hc11 => ?_) (fun hc11 => ?_))))))))))))))))
 · (exfalso; rw [hd14, hnl] at hc11; cases hc11)
 refine zr (zm rfl (zm rfl (WO.indexB hs ud9 rfl rfl (by first | omega | (simp at * <;> omega)) rfl (fun c45 hd45 hb45 => WO.callV rfl (oLs_cons rfl oLs_nil) rfl (digit_spec _ (by assumption)) SubR.nil rfl (za rfl (zk (W.condS rfl (fun hc42 => ?_) (fun hc42 => ?_))))))))
 · refine zr (zm rfl (zm rfl (WO.callV rfl (oLs_cons rfl (oLs_cons rfl oLs_nil)) rfl (num_num s hs hl i k hik hk hrun hend v hp1) SubR.nil rfl (zq (Q.extract rfl rfl) (zq (Q.extract rfl rfl) (zq (Q.extract rfl rfl) (WO.store sz56 rfl rfl (i := 0) rfl rfl (cs := [_, _, _, _]) rfl (hs' := [_]) rfl (za rfl (za rfl (zk (W.sub (zc 6 rfl (zc 5 rfl (zc 4 rfl zzn))) (W.ret (End.KB_ret (End.K_ret (End.retV (ResL.agg (c := [_, _, _, _]) rfl (zt 0 rfl) ag56 sz56 rfl (ResL.tmp rfl (z1 rfl))) ?_)))))))))))))))
   rfl
 (exfalso; rw [hd45, hdg] at hc42; cases hc42)

theorem tok_dur (s : List Nat) (hs : Bytes s) (hl : s.length ≤ 1048576) (i : Nat) (k : Nat) (hik : i < k) (hk : k ≤ s.length) (hrun : ∀ j, i ≤ j → j < k → letB (s.getD j 0) = true ∨ digB (s.getD j 0) = true) (hend : k = s.length ∨ (letB (s.getD k 0) = false ∧ digB (s.getD k 0) = false ∧ s.getD k 0 ≠ 46)) (hdg : digB (s.getD i 0) = true) (v : Int) (hp1 : Spec tab 47 [.str ((s.drop i).take (k - i))] [] [] (Val (.tuple [.int .i64 v, .int .i64 ((14 : Nat) : Int)]))) (u : Int) (hp2 : Spec tab 48 [.str ((s.drop i).take (k - i))] [] [] (Val (.tuple [.int .i64 u, .int .i64 ((0 : Nat) : Int)]))) : Spec tab 29 [.str s, .int .i64 ((i : Nat) : Int)] [] [] (Val (.tuple [.agg [.int .i64 ((3 : Nat) : Int), .str ((s.drop i).take (k - i)), .int .i64 u, .int .i64 ((i : Nat) : Int)], .int .i64 ((k : Nat) : Int), .int .i64 ((0 : Nat) : Int)])) := by
 have hnl := dig_let hdg
 refine Spec.enter' (ft_get 29 Try.func29) rfl (m := 96) rfl (rs := [.cell 4 56, .tmp 5, .tmp 6]) rfl (st := [(0, .str s), (1, .int .i64 ((i : Nat) : Int))]) rfl rfl (fun _ => rfl) (fun E => zr (WO.alloc ao56 rfl (fun b1 => za (zi 0) (za (zi 0) (zk (W.seq (W.block (zr (zm rfl (zm rfl (WO.indexB hs ud9 rfl rfl (by first | omega | (simp at * <;> omega)) rfl (fun c14 hd14 hb14 => WO.callV rfl (oLs_cons rfl oLs_nil) rfl (letter_spec _ (by assumption)) SubR.nil rfl (za rfl (zk (W.condS rfl (fun hc11 => ?_) (fun hc11 => ?_))))))))))))))))
 · (exfalso; rw [hd14, hnl] at hc11; cases hc11)
 refine zr (zm rfl (zm rfl (WO.indexB hs ud9 rfl rfl (by first | omega | (simp at * <;> omega)) rfl (fun c45 hd45 hb45 => WO.callV rfl (oLs_cons rfl oLs_nil) rfl (digit_spec _ (by assumption)) SubR.nil rfl (za rfl (zk (W.condS rfl (fun hc42 => ?_) (fun hc42 => ?_))))))))
 · refine zr (zm rfl (zm rfl (WO.callV rfl (oLs_cons rfl (oLs_cons rfl oLs_nil)) rfl (num_dur s hs hl i k hik hk hrun hend v hp1 u hp2) SubR.nil rfl (zq (Q.extract rfl rfl) (zq (Q.extract rfl rfl) (zq (Q.extract rfl rfl) (WO.store sz56 rfl rfl (i := 0) rfl rfl (cs := [_, _, _, _]) rfl (hs' := [_]) rfl (za rfl (za rfl (zk (W.sub (zc 6 rfl (zc 5 rfl (zc 4 rfl zzn))) (W.ret (End.KB_ret (End.K_ret (End.retV (ResL.agg (c := [_, _, _, _]) rfl (zt 0 rfl) ag56 sz56 rfl (ResL.tmp rfl (z1 rfl))) ?_)))))))))))))))
   rfl
 (exfalso; rw [hd45, hdg] at hc42; cases hc42)

theorem scan_exact (s : List Nat) (hs : Bytes s) (hl : s.length ≤ 1024) (j0 : Nat) (hb0 : BlAt s 0 j0) (L : List TokT) (hT : Toks s j0 L) (hL : L.length ≤ 1024) : Spec tab 18 [.str s] [] [] (fun v D => ∃ (b : Nat) (ex : Bool), v = .tuple [.slice b 0 (L.length + 1) 4, .int .i64 ((0 : Nat) : Int), .int .i64 ((0 : Nat) : Int)] ∧ D = [⟨b, ⟨4, ex, tokCs (L ++ [(6, [], 0, ((s.length : Nat) : Int))])⟩, true⟩]) := by
 refine Spec.enter' (ft_get 18 Try.func18) rfl (m := 42) rfl (rs := [.tmp 2, .tmp 3, .tmp 4]) rfl (st := [(0, .str s)]) rfl rfl (fun _ => rfl) (fun E => zr (za rfl (za (zi 0) (za (zi 0) (zk (W.seq (zr (zm rfl (zq (Q.len ud9 rfl rfl) (zq (Q.bin rfl (zi 1024) rfl (bv_gtr lt_nat)) (zk (W.condDS rfl (fun hc12 => ?_) (fun hc12 => ?_)))))))))))))
 · (exfalso; omega)
 refine zw (zr (za rfl (zk (zr (zm rfl (WO.callV rfl (oLs_cons rfl (oLs_cons (zi 0) oLs_nil)) rfl hb0 SubR.nil rfl (za rfl (zk (W.seq (W.block (W.loop_ind5 (fun (i : Nat) (acc : List TokT) (rest : List TokT) (v : AV) (hp : HSt) => [(0, .str s), (5, v), (6, .int .i64 ((i : Nat) : Int))]) (fun (i : Nat) (acc : List TokT) (rest : List TokT) (v : AV) (hp : HSt) => hp) (fun (i : Nat) (acc : List TokT) (rest : List TokT) (v : AV) (hp : HSt) => Toks s i rest ∧ acc ++ rest = L ∧ Own 4 (tokCs acc) acc.length v hp) (fun (i : Nat) (acc : List TokT) (rest : List TokT) (v : AV) (hp : HSt) => rest.length) (j0) ([]) (L) (.nils) ([]) ⟨hT, rfl, Own.nil 4⟩ (zd rfl (zd rfl (zd rfl zzn))) (SubH.refl _) (fun i acc rest v hp hI0 ih0 => ?_))))))))))))
 obtain ⟨h1, h2, hO⟩ := hI0
 have hal : acc.length + rest.length = L.length := (by rw [← h2, List.length_append])
 refine W.seq (zr (zm rfl (zm rfl (zq (Q.len ud9 rfl rfl) (zq (Q.bin rfl rfl rfl (bv_lss lt_nat)) (zk (W.condDS rfl (fun hc18 => ?_) (fun hc18 => ?_))))))))
 · obtain ⟨t1, k1, j1, r1, rfl, ht1, hb1, hr1⟩ := toks_step h1 (by omega)
   rw [List.length_cons] at hal
   refine zw (W.block (zr (zm rfl (zm rfl (WO.callV rfl (oLs_cons rfl (oLs_cons rfl oLs_nil)) rfl ht1 SubR.nil rfl (zm rfl (zq (Q.extract rfl rfl) (zq (Q.extract rfl rfl) (zq (Q.extract rfl rfl) (WO.alloc ao56 rfl (fun b1 => WO.store sz56 rfl rfl (i := 0) rfl rfl (cs := [_, _, _, _]) rfl (hs' := _ :: _) rfl (za rfl (za rfl (zk (W.seq (zr (zm rfl (zq (Q.bin rfl (zi 0) rfl (bv_neq (p := false) rfl)) (zk (W.condF rfl (zw (W.sub (zc 8 rfl (zc 7 rfl (zc 0 rfl (zc 5 rfl zzn)))) (zr ?_)))))))))))))))))))))))
   refine zm rfl (zq (Q.loadN rfl (zt 0 rfl) ag56 sz56 (l := [_, _, _, _]) rfl) (WO.bslice ud48 sz56 zr56 rfl (oPs_cons rfl oPs_nil) rfl (cs := [_, _, _, _]) rfl rfl rfl (fun b2 => WO.appOwn (e := ⟨b2, _, true⟩) (A := [_]) ap48_48 hO rfl rfl rfl rfl ⟨by first | omega | (simp at * <;> omega), by first | omega | (simp at * <;> omega)⟩ (by decide) rfl rfl (fun v33 hp33 hO33 => za rfl (zk (W.reg (zm rfl (zm rfl (WO.callV rfl (oLs_cons rfl (oLs_cons rfl oLs_nil)) rfl hb1 SubR.nil rfl (za rfl (WO.nil (End.KB (End.KL (W.sub (zd rfl (zd rfl (zd rfl zzn))) (W.subH (SubH.of_sublist (by simp)) (ih0 (j1) (acc ++ [t1]) (r1) (v33) (hp33) ?_ ?_))))))))))))))))
   · exact ⟨hr1, (by rw [← h2, List.append_assoc]; rfl), (by simpa [tokCs, tokC] using hO33)⟩
   exact (by simp)
 obtain ⟨rfl, hie⟩ := toks_end h1 (by omega)
 rw [List.append_nil] at h2
 subst h2
 rw [List.length_nil] at hal
 refine W.exit (End.K_exit (End.KL_exit (End.KB_hit (End.K (zr (zm rfl (zm rfl (zq (Q.build pl56 (oPs_cons (zi 6) (oPs_cons rfl oPs_nil)) rfl (cs := [_, _, _, _]) rfl) (WO.bslice ud48 sz56 zr56 rfl (oPs_cons rfl oPs_nil) rfl (cs := [_, _, _, _]) rfl rfl rfl (fun b4 => WO.appOwn (e := ⟨b4, _, true⟩) (A := []) ap48_48 hO rfl rfl rfl rfl ⟨by first | omega | (simp at * <;> omega), by first | omega | (simp at * <;> omega)⟩ (by decide) rfl rfl (fun v41 hp41 hO41 => ?_)))))))))))
 obtain ⟨b41, ex41, rfl, rfl⟩ := hO41.full (by omega)
 refine za rfl (za (zi 0) (za (zi 0) (zk (W.ret ?_))))
 refine End.ret (ResL.tmp rfl (ResL.tmp rfl (z1 rfl))) (hs' := [⟨b41, ⟨4, ex41, tokCs acc ++ [.int .i64 ((6 : Nat) : Int), .str [], .int .i64 0, .int .i64 ((i : Nat) : Int)]⟩, true⟩]) ⟨b41, ex41, rfl, by rw [hie]; simp [tokCs, tokC]⟩ (by intro e he; simp at he; subst he; rfl) (SubH.of_sublist (by simp))
end Go.Proofs.Ytnlnmbnopdklhaa.Ev
