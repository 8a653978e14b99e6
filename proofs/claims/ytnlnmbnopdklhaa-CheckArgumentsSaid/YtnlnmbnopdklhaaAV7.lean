/- Chapter 17, walks: a node's type. -/
import Derived.Test.YtnlnmbnopdklhaaAV4
namespace Go.Proofs.Ytnlnmbnopdklhaa.Ev
open Go.RowKit
set_option linter.unusedVariables false
set_option linter.unusedSimpArgs false
set_option maxRecDepth 100000
set_option maxHeartbeats 1000000
theorem ISl.ro {hs : HSt} {A : List Nat} {v : AV} (h : ISl hs A v) : ISl (ro hs) A v := h.imp id fun ⟨b, ex, h1, h2⟩ => ⟨b, ex, h1, h2.ro⟩
theorem kl_ty {len : Nat} {ty er : Nat → Nat} (hty : ∀ i, i < len → er i = 0 → 1 ≤ ty i ∧ ty i ≤ 3) (he : errM er len = 0) : ∀ x ∈ kl ty len, 1 ≤ x ∧ x ≤ 3 := by
  intro x hx
  obtain ⟨j, hj, rfl⟩ := kl_mem hx
  exact hty j hj (errM_all he j hj)
/-- A node's type, or 0, and why. -/
def typeM (k : Int) (op : List Nat) (rg md sd : Int) (bl : Bool) (len : Nat) (ty er : Nat → Nat) : Nat × Nat :=
  if k = 3 ∧ (callM op).2 = 0 then (0, 9)
  else if errM er len ≠ 0 then (0, errM er len)
  else if wholeM k op rg md sd bl (kl ty len) = 0 then (0, 16)
  else (wholeM k op rg md sd bl (kl ty len), 0)
theorem type_spec (k : Int) (op : List Nat) (ho : Bytes op) (n : Int) (ms : AV) (rg off md : Int) (nm : AV) (sd : Int) (bl : Bool) (hms : ms.isCell = true) (hnm : nm.isCell = true) (hs : HSt) (hro : ∀ e ∈ hs, e.w = false) (d : Nat) (kd : AV) (len : Nat) (hkd : kd.isCell = true) (hlen : lenA (.slice 26) kd = some len) (hl : len ≤ 1048576) (kc : Nat → List AV) (hK : ∀ i, i < len → ∃ b ob, kd = .slice b 0 len 11 ∧ MemH hs b ob ∧ sub? ob.cells ((0 + i) * 11) 11 = some (kc i) ∧ NRep hs d (kc i)) (ty er : Nat → Nat) (HT : ∀ i, i < len → Spec tab 11 [.agg (kc i)] [] hs (Val (.tuple [.int .i64 ((ty i : Nat) : Int), .int .i64 ((er i : Nat) : Int)]))) (hty : ∀ i, i < len → er i = 0 → 1 ≤ ty i ∧ ty i ≤ 3) : Spec tab 11 [.agg (nodeC k op n ms rg off md nm sd bl kd)] [] hs (Val (.tuple [.int .i64 (((typeM k op rg md sd bl len ty er).1 : Nat) : Int), .int .i64 (((typeM k op rg md sd bl len ty er).2 : Nat) : Int)])) := by
 refine Spec.enter' (ft_get 11 Try.func11) rfl (m := 36) rfl (rs := [.tmp 2, .tmp 3]) rfl (st := [(0, .agg (nodeC k op n ms rg off md nm sd bl kd))]) rfl rfl (fun _ => rfl) (fun E => zr (WO.box rfl (node_cells hms hnm hkd) (bx26 _ rfl) rfl (fun b1 => za (zi 0) (za (zi 0) (zk (W.seq (zr (zf fa26_1 rfl 1 (zq (Q.load1 rfl (zt 0 rfl) ag9 rfl) (WO.callV rfl (oLs_cons rfl oLs_nil) rfl (call_spec _ ho) SubR.nil rfl (zm rfl (zq (Q.extract rfl rfl) (zq (Q.extract rfl rfl) (WO.alloc ao60 rfl (fun b2 => WO.store sz60 rfl rfl (i := 0) rfl rfl (cs := [_, _, _]) rfl (hs' := _ :: _ :: _) rfl (za rfl (zk (zr (zf fa26_0 rfl 0 (zq (Q.load1 rfl (zt 1 rfl) ag3 rfl) (zq (Q.bin rfl (zi 3) rfl (bv_eql eq_int)) (zm rfl (WO.splitD (d := 18) rfl (fun hc18 => ?_) (fun hc18 => ?_))))))))))))))))))))))))
 · refine WO.gT rfl rfl (zm rfl (WO.gT rfl rfl (zq (Q.bin rfl (zi 0) rfl (bv_eql eq_nat)) (zq (Q.pickT rfl rfl) (zk (W.sub (zc 21 rfl (zc 1 rfl zzn)) (W.condDS rfl (fun hc21 => ?_) (fun hc21 => ?_))))))))
   · refine zr (za (zi 0) (za (zi 9) (zk (W.ret (End.K_ret (End.retV (ResL.tmp rfl (z1 rfl)) ?_))))))
     (simp only [oneOf]; unfold typeM; (repeat' split) <;> first | rfl | (exfalso; omega) | (simp_all; done) | grind)
   refine zw (zr (zq (Q.loadN rfl (zt 1 rfl) ag26 sz26 (l := [_, _, _, _, _, _, _, _, _, _, _]) rfl) (WO.call0 rfl (oLs_cons rfl oLs_nil) rfl (kinds_spec k op ho n ms rg off md nm sd bl hms hnm hs hro d kd len hkd hlen hl kc hK ty er HT) (SubR.tl (SubR.tl (SubR.self hro))) rfl (fun v24 D24 hP24 => ?_))))
   obtain ⟨va, rfl, hva, hA⟩ := hP24
   refine WO.subH (hs' := _ :: _ :: (hs ++ D24)) (SubH.of_perm (perm_tail (N := []) (G := D24) (K := [_, _]) (X := hs))) (zm rfl (zq (Q.extract rfl rfl) (zq (Q.extract rfl rfl) (za rfl (za rfl (zk (W.seq (zr (zm rfl (zq (Q.bin rfl (zi 0) rfl (bv_neq ne_nat)) (zk (W.condDS rfl (fun hc28 => ?_) (fun hc28 => ?_)))))))))))))
   · refine zr (zm rfl (za (zi 0) (za rfl (zk (W.ret (End.K_ret (End.retV (ResL.tmp rfl (z1 rfl)) ?_)))))))
     (simp only [oneOf]; unfold typeM; (repeat' split) <;> first | rfl | (exfalso; omega) | (simp_all; done) | grind)
   refine zw (zr (zq (Q.loadN rfl (zt 1 rfl) ag26 sz26 (l := [_, _, _, _, _, _, _, _, _, _, _]) rfl) (zm rfl (WO.callV rfl (oLs_cons rfl (oLs_cons rfl oLs_nil)) rfl (whole_spec k op ho n ms rg off md nm sd bl kd hms hnm hkd (ro D24) (kl ty len) va ((hA (by omega)).ro) (by rw [kl_len]; omega) ro_w (kl_ty hty (by omega))) (SubR.tl (SubR.tl (SubR.appr (SubR.ro (SubH.refl _))))) rfl (za rfl (zk (W.sub (zc 8 rfl zzn) (W.seq (zr (zm rfl (zq (Q.bin rfl (zi 0) rfl (bv_eql eq_nat)) (zk (W.condDS rfl (fun hc34 => ?_) (fun hc34 => ?_))))))))))))))
   · refine zr (za (zi 0) (za (zi 16) (zk (W.ret (End.K_ret (End.retV (ResL.tmp rfl (z1 rfl)) ?_))))))
     (simp only [oneOf]; unfold typeM; (repeat' split) <;> first | rfl | (exfalso; omega) | (simp_all; done) | grind)
   refine zw (zr (zm rfl (za rfl (za (zi 0) (zk (W.ret (End.retV (ResL.tmp rfl (z1 rfl)) ?_)))))))
   (simp only [oneOf]; unfold typeM; (repeat' split) <;> first | rfl | (exfalso; omega) | (simp_all; done) | grind)
 refine zg rfl rfl (zg rfl rfl (zq (Q.pickF rfl rfl) (zk (W.sub (zc 21 rfl (zc 1 rfl zzn)) (W.condF rfl (zw (zr (zq (Q.loadN rfl (zt 1 rfl) ag26 sz26 (l := [_, _, _, _, _, _, _, _, _, _, _]) rfl) (WO.call0 rfl (oLs_cons rfl oLs_nil) rfl (kinds_spec k op ho n ms rg off md nm sd bl hms hnm hs hro d kd len hkd hlen hl kc hK ty er HT) (SubR.tl (SubR.tl (SubR.self hro))) rfl (fun v24 D24 hP24 => ?_))))))))))
 obtain ⟨va, rfl, hva, hA⟩ := hP24
 refine WO.subH (hs' := _ :: _ :: (hs ++ D24)) (SubH.of_perm (perm_tail (N := []) (G := D24) (K := [_, _]) (X := hs))) (zm rfl (zq (Q.extract rfl rfl) (zq (Q.extract rfl rfl) (za rfl (za rfl (zk (W.seq (zr (zm rfl (zq (Q.bin rfl (zi 0) rfl (bv_neq ne_nat)) (zk (W.condDS rfl (fun hc28 => ?_) (fun hc28 => ?_)))))))))))))
 · refine zr (zm rfl (za (zi 0) (za rfl (zk (W.ret (End.K_ret (End.retV (ResL.tmp rfl (z1 rfl)) ?_)))))))
   (simp only [oneOf]; unfold typeM; (repeat' split) <;> first | rfl | (exfalso; omega) | (simp_all; done) | grind)
 refine zw (zr (zq (Q.loadN rfl (zt 1 rfl) ag26 sz26 (l := [_, _, _, _, _, _, _, _, _, _, _]) rfl) (zm rfl (WO.callV rfl (oLs_cons rfl (oLs_cons rfl oLs_nil)) rfl (whole_spec k op ho n ms rg off md nm sd bl kd hms hnm hkd (ro D24) (kl ty len) va ((hA (by omega)).ro) (by rw [kl_len]; omega) ro_w (kl_ty hty (by omega))) (SubR.tl (SubR.tl (SubR.appr (SubR.ro (SubH.refl _))))) rfl (za rfl (zk (W.sub (zc 8 rfl zzn) (W.seq (zr (zm rfl (zq (Q.bin rfl (zi 0) rfl (bv_eql eq_nat)) (zk (W.condDS rfl (fun hc34 => ?_) (fun hc34 => ?_))))))))))))))
 · refine zr (za (zi 0) (za (zi 16) (zk (W.ret (End.K_ret (End.retV (ResL.tmp rfl (z1 rfl)) ?_))))))
   (simp only [oneOf]; unfold typeM; (repeat' split) <;> first | rfl | (exfalso; omega) | (simp_all; done) | grind)
 refine zw (zr (zm rfl (za rfl (za (zi 0) (zk (W.ret (End.retV (ResL.tmp rfl (z1 rfl)) ?_)))))))
 (simp only [oneOf]; unfold typeM; (repeat' split) <;> first | rfl | (exfalso; omega) | (simp_all; done) | grind)
end Go.Proofs.Ytnlnmbnopdklhaa.Ev

/- Chapter 17, walks: the document's type of a node. -/
namespace Go.Proofs.Ytnlnmbnopdklhaa.Ev
open Go.RowKit
set_option linter.unusedVariables false
set_option linter.unusedSimpArgs false
set_option maxRecDepth 100000
set_option maxHeartbeats 1000000
theorem ISl.mono {hs hs' : HSt} (hm : ∀ e ∈ hs, e ∈ hs') {A : List Nat} {v : AV} (h : ISl hs A v) : ISl hs' A v := h.imp id fun ⟨b, ex, h1, w, h2⟩ => ⟨b, ex, h1, w, hm _ h2⟩
theorem ISl.app {hs hs' : HSt} {A : List Nat} {v : AV} (h : ISl hs A v) : ISl (hs' ++ hs) A v := h.mono fun _ => List.mem_append_right _
theorem ISl.appl {hs hs' : HSt} {A : List Nat} {v : AV} (h : ISl hs A v) : ISl (hs ++ hs') A v := h.mono fun _ => List.mem_append_left _
theorem ISl.tl {hs : HSt} {e : HE} {A : List Nat} {v : AV} (h : ISl hs A v) : ISl (e :: hs) A v := h.mono fun _ => List.mem_cons_of_mem _
theorem ISl.at_ {hs : HSt} {b n : Nat} {ex : Bool} {A : List Nat} (hn : A.length = n := by rfl) : ISl (⟨b, ⟨1, ex, ints A⟩, true⟩ :: hs) A (.slice b 0 n 1) := .inr ⟨b, ex, by rw [hn], true, by simp⟩
theorem call_take (op : List Nat) : (callM op).1.length ≤ 3 ∧ ∀ x ∈ (callM op).1, 1 ≤ x := by
  unfold callM
  (repeat' split) <;> exact ⟨by decide, by decide⟩
def fin (w : Nat) : Nat × Nat := if w = 0 then (0, 16) else (w, 0)
/-- A node's type as the document has it. -/
def wholeR (k : Int) (op : List Nat) (rg md sd : Int) (bl : Bool) (A : List Nat) : Nat :=
  if k = 1 then 1 else if k = 2 then (if 0 < rg then 3 else 2)
  else if k = 3 then (if A = (callM op).1 then (callM op).2 else 0)
  else if k = 4 then (if op = [116, 111, 112, 107] ∨ op = [98, 111, 116, 116, 111, 109, 107] then (if A = [1, 2] then 2 else 0) else (if A = [2] then 2 else 0))
  else if k = 5 then (if A.length = 2 then (if (rightM op md sd bl (A.getD 0 0) (A.getD 1 0)).2 = true then (rightM op md sd bl (A.getD 0 0) (A.getD 1 0)).1 else 0) else 0)
  else if k = 6 then (if A.length = 1 ∧ ¬ A.getD 0 0 = 3 then A.getD 0 0 else 0)
  else 0
end Go.Proofs.Ytnlnmbnopdklhaa.Ev

/- Chapter 17: a tree's type, by the house and by the document, is one. -/
namespace Go.Proofs.Ytnlnmbnopdklhaa.Ev
open Go.RowKit
set_option linter.unusedVariables false
def tpair (t e : Nat) : AV := .tuple [.int .i64 ((t : Nat) : Int), .int .i64 ((e : Nat) : Int)]
end Go.Proofs.Ytnlnmbnopdklhaa.Ev
