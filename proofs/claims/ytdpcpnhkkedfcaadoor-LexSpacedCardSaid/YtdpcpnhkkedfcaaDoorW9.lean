/- Layer 15, walks: Scan. -/
import Derived.Test.YtdpcpnhkkedfcaaDoorPa
namespace Go.Proofs.YtdpcpnhkkedfcaaDoor.Ev
open Go.RowKit
set_option linter.unusedVariables false
set_option linter.unusedSimpArgs false
set_option maxRecDepth 100000
theorem scan_spec (s : List Nat) (hs : Bytes s) (hl : s.length ≤ 281474976710656) : Spec tab 7 [.str s] [] [] (scanP s) := by
  refine Spec.enter' (ft_get 7 Tryd.func7) rfl (m := 50) rfl (rs := [.tmp 2, .tmp 3, .tmp 4]) rfl (st := [(0, .str s)]) rfl rfl (fun _ => rfl) (fun E => ?_)
  refine W.seq ?_
  refine W.reg ?_
  refine WO.q (Q.assign rfl) rfl ?_
  refine WO.q (Q.assign (oc (v := .int .i64 ((0 : Nat) : Int)) rfl)) rfl ?_
  refine WO.q (Q.assign (oc (v := .int .i64 ((0 : Nat) : Int)) rfl)) rfl ?_
  refine WO.nil ?_
  refine End.K ?_
  refine W.seq ?_
  refine W.seq ?_
  refine W.reg ?_
  refine WO.q (Q.move rfl) rfl ?_
  refine WO.q (Q.len ud9 rfl rfl) rfl ?_
  refine WO.q (Q.bin rfl (oc (v := .int .i64 ((1024 : Nat) : Int)) rfl) rfl (bv_gtr lt_nat)) rfl ?_
  refine WO.nil ?_
  refine End.K ?_
  refine W.condDS rfl (fun hc11 => ?_) (fun hc11 => ?_)
  · skip -- T
    refine W.seq ?_
    refine W.reg ?_
    refine WO.q (Q.assign rfl) rfl ?_
    refine WO.q (Q.assign (oc (v := .int .i64 ((0 : Nat) : Int)) rfl)) rfl ?_
    refine WO.q (Q.assign (oc (v := .int .i64 ((3 : Nat) : Int)) rfl)) rfl ?_
    refine WO.nil ?_
    refine End.K ?_
    refine W.ret ?_
    refine End.K_ret (End.ret (ResL.tmp rfl (ResL.tmp rfl (ResL.tmp rfl ResL.nil))) (scanP_big (by omega) (by decide)) (fun e h => no_w h) (SubH.nil _))
  · skip -- F
    refine W.skip ?_
    refine End.K ?_
    refine W.sub (SubS.cons (k := 0) rfl (SubS.nil _)) ?_
    refine W.seq ?_
    refine W.reg ?_
    refine WO.q (Q.move rfl) rfl ?_
    refine WO.q (Q.build pl44 (oPs_cons rfl oPs_nil) rfl (cs := [_, _]) rfl) rfl ?_
    refine WO.box rfl rfl (bx44 _ rfl) rfl (fun b1 => ?_)
    refine WO.q (Q.assign rfl) rfl ?_
    refine WO.nil ?_
    refine End.K ?_
    refine W.seq ?_
    refine W.reg ?_
    refine WO.q (Q.assign rfl) rfl ?_
    refine WO.nil ?_
    refine End.K ?_
    refine W.seq ?_
    refine W.seq ?_
    refine W.reg ?_
    refine WO.q (Q.move rfl) rfl ?_
    refine WO.call1 rfl (oLs_cons rfl oLs_nil) rfl (i := 0) rfl (blanks_spec s hs (by omega) b1 0 (Nat.zero_le _)) SubR.nil (hs' := []) rfl rfl (fun v16 D16 hP16 => ?_)
    obtain ⟨rfl, rfl⟩ := hP16
    refine WO.nil ?_
    refine End.K ?_
    refine W.block ?_
    refine W.loop_ind5 (fun (k : Nat) (a : Nat) (acc : List Tok) (v : AV) (hp : HSt) => [(0, .str s), (5, .ptr b1 0), (6, v)]) (fun (k : Nat) (a : Nat) (acc : List Tok) (v : AV) (hp : HSt) => ⟨b1, ⟨2, true, [.str s, .int .i64 ((a : Nat) : Int)]⟩, true⟩ :: hp) (fun (k : Nat) (a : Nat) (acc : List Tok) (v : AV) (hp : HSt) => a ≤ s.length ∧ s.length - a < k ∧ Own 4 (tokCs acc) acc.length v hp ∧ scanM s = scF k s a acc ∧ acc.length ≤ a) (fun (k : Nat) (a : Nat) (acc : List Tok) (v : AV) (hp : HSt) => k) (s.length + 1) (bl s 0) ([]) (.nils) ([]) ⟨bl_le (by omega), by omega, Own.nil 4, scanM_eq (by omega), by simp⟩ (SubS.cons rfl (SubS.cons rfl (SubS.cons rfl (SubS.nil _)))) (SubH.refl _) (fun k a acc v hp hI0 ih0 => ?_)
    obtain ⟨h1, hk, hO, hv, hla⟩ := hI0
    obtain ⟨k, rfl⟩ : ∃ q, k = q + 1 := ⟨k - 1, by omega⟩
    refine W.seq ?_
    refine W.seq ?_
    refine W.reg ?_
    refine WO.q (Q.move rfl) rfl ?_
    refine WO.q (Q.nilP rfl) rfl ?_
    refine WO.q (Q.fieldAddr fa44_1 rfl (o' := 1) rfl) rfl ?_
    refine WO.q (Q.load1 rfl (mem_at (i := 0) rfl) ag3 rfl) rfl ?_
    refine WO.q (Q.move rfl) rfl ?_
    refine WO.q (Q.len ud9 rfl rfl) rfl ?_
    refine WO.q (Q.bin rfl rfl rfl (bv_lss lt_nat)) rfl ?_
    refine WO.nil ?_
    refine End.K ?_
    refine W.sub (SubS.cons (k := 23) rfl (SubS.cons (k := 0) rfl (SubS.cons (k := 5) rfl (SubS.cons (k := 6) rfl (SubS.nil _))))) ?_
    refine W.condDS rfl (fun hc23 => ?_) (fun hc23 => ?_)
    · skip -- FL0T
      refine W.skip ?_
      refine End.K ?_
      refine W.seq ?_
      refine W.block ?_
      refine W.seq ?_
      refine W.reg ?_
      refine WO.q (Q.move rfl) rfl ?_
      rcases htk : tokM s a with _ | tk
      · skip -- FL0Tn
        refine WO.call1 rfl (oLs_cons rfl oLs_nil) rfl (i := 0) rfl (tok_err s hs (by omega) b1 a (by omega) htk) SubR.nil (hs' := _) rfl rfl (fun v28 D28 hP28 => ?_)
        obtain ⟨⟨c0, c1, c2, c3, e, rfl, he⟩, rfl⟩ := hP28
        refine WO.q (Q.move rfl) rfl ?_
        refine WO.q (Q.extract rfl rfl) rfl ?_
        refine WO.q (Q.extract rfl rfl) rfl ?_
        refine WO.alloc ao28 rfl (fun b2 => ?_)
        refine WO.store sz28 rfl rfl (i := 0) rfl rfl (cs := [_, _, _, _]) rfl (hs' := _ :: _ :: _) rfl ?_
        refine WO.q (Q.assign rfl) rfl ?_
        refine WO.nil ?_
        refine End.K ?_
        refine W.sub (SubS.cons (k := 8) rfl (SubS.cons (k := 7) rfl (SubS.cons (k := 0) rfl (SubS.cons (k := 5) rfl (SubS.cons (k := 6) rfl (SubS.nil _)))))) ?_
        refine W.seq ?_
        refine W.seq ?_
        refine W.reg ?_
        refine WO.q (Q.move rfl) rfl ?_
        refine WO.q (Q.bin rfl (oc (v := .int .i64 ((0 : Nat) : Int)) rfl) rfl (bv_neq ne_int)) rfl ?_
        refine WO.nil ?_
        refine End.K ?_
        refine W.condDS rfl (fun hc32 => ?_) (fun hc32 => ?_)
        · skip -- FL0TnT
          refine W.seq ?_
          refine W.regT (by kernel_rfl) ?_
          refine WO.q (Q.move rfl) rfl ?_
          refine WO.q (Q.nilP rfl) rfl ?_
          refine WO.q (Q.fieldAddr fa44_1 rfl (o' := 1) rfl) rfl ?_
          refine WO.q (Q.load1 rfl (mem_at (i := 1) rfl) ag3 rfl) rfl ?_
          refine WO.q (Q.move rfl) rfl ?_
          refine WO.q (Q.assign rfl) rfl ?_
          refine WO.q (Q.assign rfl) rfl ?_
          refine WO.q (Q.assign rfl) rfl ?_
          refine WO.nil ?_
          refine End.K ?_
          refine W.sub (SubS.cons (k := 4) rfl (SubS.cons (k := 3) rfl (SubS.cons (k := 2) rfl (SubS.nil _)))) ?_
          refine W.ret ?_
          refine End.K_ret (End.KB_ret (End.K_ret (End.KL_ret (End.KB_ret (End.K_ret (End.ret (ResL.tmp rfl (ResL.tmp rfl (ResL.tmp rfl ResL.nil))) (scanP_err (by rw [hv, scF_none (by omega) htk]) he) (fun e h => no_w h) (SubH.nil _)))))))
        · exact absurd he hc32
      · skip -- FL0Ts
        have hw := tok_w (by omega) htk
        have hbg := bl_ge s (a + tk.w)
        have htb := tok_bytes hs htk
        refine WO.call1 rfl (oLs_cons rfl oLs_nil) rfl (i := 0) rfl (tok_some s hs (by omega) b1 a (by omega) htk) SubR.nil (hs' := _) rfl rfl (fun v28 D28 hP28 => ?_)
        obtain ⟨rfl, rfl⟩ := hP28
        refine WO.q (Q.move rfl) rfl ?_
        refine WO.q (Q.extract rfl rfl) rfl ?_
        refine WO.q (Q.extract rfl rfl) rfl ?_
        refine WO.alloc ao28 rfl (fun b3 => ?_)
        refine WO.store sz28 rfl rfl (i := 0) rfl rfl (cs := [_, _, _, _]) rfl (hs' := _ :: _ :: _) rfl ?_
        refine WO.q (Q.assign rfl) rfl ?_
        refine WO.nil ?_
        refine End.K ?_
        refine W.sub (SubS.cons (k := 8) rfl (SubS.cons (k := 7) rfl (SubS.cons (k := 0) rfl (SubS.cons (k := 5) rfl (SubS.cons (k := 6) rfl (SubS.nil _)))))) ?_
        refine W.seq ?_
        refine W.seq ?_
        refine W.reg ?_
        refine WO.q (Q.move rfl) rfl ?_
        refine WO.q (Q.bin rfl (oc (v := .int .i64 ((0 : Nat) : Int)) rfl) rfl (bv_neq (p := false) rfl)) rfl ?_
        refine WO.nil ?_
        refine End.K ?_
        refine W.condF rfl ?_
        refine W.skip ?_
        refine End.K ?_
        refine W.reg ?_
        refine WO.q (Q.move rfl) rfl ?_
        refine WO.q (Q.loadN rfl (mem_at (i := 0) rfl) ag28 sz28 (l := [_, _, _, _]) rfl) rfl ?_
        refine WO.bslice ud22 sz28 zr28 rfl (oPs_cons rfl oPs_nil) rfl (cs := [_, _, _, _]) rfl rfl rfl (fun b4 => ?_)
        refine WO.appOwn (e := ⟨b4, _, true⟩) (A := [_, _]) ap22_22 hO rfl rfl rfl rfl ⟨by first | omega | (simp only [List.length_drop, List.length_take, List.length_append, List.length_cons, List.length_nil] at *; omega), by first | omega | (simp only [List.length_drop, List.length_take, List.length_append, List.length_cons, List.length_nil] at *; omega)⟩ (by decide) rfl rfl (fun v41 hp41 hO41 => ?_)
        refine WO.q (Q.assign rfl) rfl ?_
        refine WO.nil ?_
        refine End.KB (End.K ?_)
        refine W.sub (SubS.cons (k := 6) rfl (SubS.cons (k := 0) rfl (SubS.cons (k := 5) rfl (SubS.nil _)))) ?_
        refine W.reg ?_
        refine WO.q (Q.move rfl) rfl ?_
        refine WO.call1 rfl (oLs_cons rfl oLs_nil) rfl (i := 1) rfl (blanks_spec s hs (by omega) b1 (a + tk.w) (by omega)) SubR.nil (hs' := _ :: _) rfl rfl (fun v25 D25 hP25 => ?_)
        obtain ⟨rfl, rfl⟩ := hP25
        refine WO.nil ?_
        refine End.KL ?_
        refine W.sub (SubS.cons rfl (SubS.cons rfl (SubS.cons rfl (SubS.nil _)))) (W.subH (SubH.of_sublist (by simp)) (ih0 (k) (bl s (a + tk.w)) (acc ++ [tk]) (v41) (hp41) ?_ ?_))
        · exact ⟨bl_le (by omega), by omega, by simpa [tokCs_snoc, tokC] using hO41, by rw [hv, scF_some (by omega) htk], by simp; omega⟩
        · exact (by first | omega | (simp only [List.length_drop, List.length_take, List.length_append, List.length_cons, List.length_nil] at *; omega))
    · skip -- FL0F
      refine W.exit ?_
      refine End.K_exit (End.KL_exit (End.KB_hit (End.K ?_)))
      refine W.seq ?_
      refine W.reg ?_
      refine WO.q (Q.move rfl) rfl ?_
      refine WO.q (Q.move rfl) rfl ?_
      refine WO.q (Q.nilP rfl) rfl ?_
      refine WO.q (Q.fieldAddr fa44_1 rfl (o' := 1) rfl) rfl ?_
      refine WO.q (Q.load1 rfl (mem_at (i := 0) rfl) ag3 rfl) rfl ?_
      refine WO.q (Q.build pl28 (oPs_cons (oc (v := .int .i64 ((6 : Nat) : Int)) rfl) (oPs_cons rfl oPs_nil)) rfl (cs := [_, _, _, _]) rfl) rfl ?_
      refine WO.bslice ud22 sz28 zr28 rfl (oPs_cons rfl oPs_nil) rfl (cs := [_, _, _, _]) rfl rfl rfl (fun b6 => ?_)
      refine WO.appOwn (e := ⟨b6, _, true⟩) (A := [_]) ap22_22 hO rfl rfl rfl rfl ⟨by first | omega | (simp only [List.length_drop, List.length_take, List.length_append, List.length_cons, List.length_nil] at *; omega), by first | omega | (simp only [List.length_drop, List.length_take, List.length_append, List.length_cons, List.length_nil] at *; omega)⟩ (by decide) rfl rfl (fun v49 hp49 hO49 => ?_)
      obtain ⟨b49, ex49, rfl, rfl⟩ := hO49.full (by omega)
      refine WO.q (Q.assign rfl) rfl ?_
      refine WO.q (Q.assign (oc (v := .int .i64 ((0 : Nat) : Int)) rfl)) rfl ?_
      refine WO.q (Q.assign (oc (v := .int .i64 ((0 : Nat) : Int)) rfl)) rfl ?_
      refine WO.nil ?_
      refine End.K ?_
      refine W.sub (SubS.cons (k := 4) rfl (SubS.cons (k := 3) rfl (SubS.cons (k := 2) rfl (SubS.nil _)))) ?_
      refine W.ret ?_
      refine End.ret (ResL.tmp rfl (ResL.tmp rfl (ResL.tmp rfl ResL.nil))) (hs' := [⟨b49, ⟨4, ex49, tokCs acc ++ [.int .i64 ((6 : Nat) : Int), .str [], .int .i64 0, .int .i64 ((a : Nat) : Int)]⟩, true⟩]) (scanP_ok (by rw [hv, scF_end (by omega)]) (by omega)) (by intro e he; simp at he; subst he; rfl) (SubH.of_sublist (by simp))
end Go.Proofs.YtdpcpnhkkedfcaaDoor.Ev
