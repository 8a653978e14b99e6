/- Chapter 17, walks: the document's type of a node. -/
import Derived.Test.YtndhhgbpcmfeiaaGreatDoorMV5
namespace Go.Proofs.YtndhhgbpcmfeiaaGreatDoor.Ev.P16
open Go.RowKit
set_option linter.unusedVariables false
set_option linter.unusedSimpArgs false
set_option maxRecDepth 100000
set_option maxHeartbeats 1000000
theorem ISl.mono {hs hs' : HSt} (hm : ∀ e ∈ hs, e ∈ hs') {A : List Nat} {v : AV} (h : ISl hs A v) : ISl hs' A v := h.imp id fun ⟨b, ex, h1, w, h2⟩ => ⟨b, ex, h1, w, hm _ h2⟩
theorem ISl.app {hs hs' : HSt} {A : List Nat} {v : AV} (h : ISl hs A v) : ISl (hs' ++ hs) A v := h.mono fun _ => List.mem_append_right _
theorem ISl.appl {hs hs' : HSt} {A : List Nat} {v : AV} (h : ISl hs A v) : ISl (hs ++ hs') A v := h.mono fun _ => List.mem_append_left _
theorem ISl.tl {hs : HSt} {e : HE} {A : List Nat} {v : AV} (h : ISl hs A v) : ISl (e :: hs) A v := h.mono fun _ => List.mem_cons_of_mem _
theorem ISl.at_ {hs : HSt} {b n : Nat} {ex : Bool} {A : List Nat} (hn : A.length = n := by rfl) : ISl (⟨b, ⟨1, ex, ints A⟩, true⟩ :: hs) A (.slice b 0 n 1) := .inr ⟨b, ex, by rw [hn], true, by simp⟩
theorem call_take (op : List Nat) : (callM op).1.length ≤ 3 ∧ ∀ x ∈ (callM op).1, 1 ≤ x := by
 unfold callM
 (repeat' split) <;> exact ⟨by decide, by decide⟩
theorem call_len {op : List Nat} : (callM op).1.length ≤ 1048576 := by have := (call_take op).1; omega
theorem kl_at {len i j : Nat} {ty er : Nat → Nat} (hty : ∀ i, i < len → er i = 0 → 1 ≤ ty i ∧ ty i ≤ 3) (hz : i = len ∧ ∀ j, j < i → er j = 0) (hj : j < i) : 1 ≤ (kl ty i).getD j 0 ∧ (kl ty i).getD j 0 ≤ 3 := by
 have hl : j < (kl ty i).length := by rw [kl_len]; exact hj
 rw [List.getD_eq_getElem?_getD, List.getElem?_eq_getElem hl]
 obtain ⟨q, hq, e⟩ := kl_mem (List.getElem_mem hl)
 have := hty q (by omega) (hz.2 q hq)
 simp only [Option.getD_some]
 rw [e]
 exact this
theorem tyres {p q : Nat × Nat} (h : p = q) : oneOf [.int .i64 ((p.1 : Nat) : Int), .int .i64 ((p.2 : Nat) : Int)] = .tuple [.int .i64 ((q.1 : Nat) : Int), .int .i64 ((q.2 : Nat) : Int)] := by rw [h]; rfl
theorem typeM_none {k : Int} {op : List Nat} {rg md sd : Int} {bl : Bool} {len : Nat} {ty er : Nat → Nat} (h : k = 3) (g : (callM op).2 = 0) : typeM k op rg md sd bl len ty er = (0, 9) := by unfold typeM; rw [if_pos ⟨h, g⟩]
theorem typeM_err {k : Int} {op : List Nat} {rg md sd : Int} {bl : Bool} {len i : Nat} {ty er : Nat → Nat} (h : ¬ (k = 3 ∧ (callM op).2 = 0)) (hi : i < len) (hz : ∀ j, j < i → er j = 0) (he : er i ≠ 0) : typeM k op rg md sd bl len ty er = (0, er i) := by
 unfold typeM; rw [if_neg h, errM_le he hz hi, if_pos he]
theorem right_pos {op : List Nat} {md sd : Int} {bl : Bool} {a b : Nat} (h : (rightM op md sd bl a b).2 = true) (ha : 1 ≤ a) (hb : 1 ≤ b) : (rightM op md sd bl a b).1 ≠ 0 := by
 unfold rightM at h ⊢
 (repeat' split at h) <;> (repeat' split) <;> simp_all <;> omega
def fin (w : Nat) : Nat × Nat := if w = 0 then (0, 16) else (w, 0)
def wholeR (k : Int) (op : List Nat) (rg md sd : Int) (bl : Bool) (A : List Nat) : Nat :=
 if k = 1 then 1 else if k = 2 then (if 0 < rg then 3 else 2)
 else if k = 3 then (if A = (callM op).1 then (callM op).2 else 0)
 else if k = 4 then (if op = [116, 111, 112, 107] ∨ op = [98, 111, 116, 116, 111, 109, 107] then (if A = [1, 2] then 2 else 0) else (if A = [2] then 2 else 0))
 else if k = 5 then (if A.length = 2 then (if (rightM op md sd bl (A.getD 0 0) (A.getD 1 0)).2 = true then (rightM op md sd bl (A.getD 0 0) (A.getD 1 0)).1 else 0) else 0)
 else if k = 6 then (if A.length = 1 ∧ ¬ A.getD 0 0 = 3 then A.getD 0 0 else 0)
 else 0
theorem wr5 {op : List Nat} {rg md sd : Int} {bl : Bool} {A : List Nat} : wholeR 5 op rg md sd bl A = if A.length = 2 then (if (rightM op md sd bl (A.getD 0 0) (A.getD 1 0)).2 = true then (rightM op md sd bl (A.getD 0 0) (A.getD 1 0)).1 else 0) else 0 := by
 unfold wholeR
 rfl
theorem wr6 {op : List Nat} {rg md sd : Int} {bl : Bool} {A : List Nat} : wholeR 6 op rg md sd bl A = if A.length = 1 ∧ ¬ A.getD 0 0 = 3 then A.getD 0 0 else 0 := by
 unfold wholeR
 rfl
theorem fin5T {op : List Nat} {rg md sd : Int} {bl : Bool} {A : List Nat} (h : A.length = 2) (g : (rightM op md sd bl (A.getD 0 0) (A.getD 1 0)).2 = false) : (0, 16) = fin (wholeR 5 op rg md sd bl A) := by
 rw [wr5, if_pos h, g]
 rfl
theorem fin5F {op : List Nat} {rg md sd : Int} {bl : Bool} {A : List Nat} (h : A.length = 2) (g : (rightM op md sd bl (A.getD 0 0) (A.getD 1 0)).2 = true) (g2 : (rightM op md sd bl (A.getD 0 0) (A.getD 1 0)).1 ≠ 0) : ((rightM op md sd bl (A.getD 0 0) (A.getD 1 0)).1, 0) = fin (wholeR 5 op rg md sd bl A) := by
 rw [wr5, if_pos h, g, if_pos rfl]
 unfold fin
 rw [if_neg g2]
theorem fin6T {op : List Nat} {rg md sd : Int} {bl : Bool} {A : List Nat} (g : A.getD 0 0 = 3) : (0, 16) = fin (wholeR 6 op rg md sd bl A) := by
 rw [wr6, if_neg (fun h => h.2 g)]
 rfl
theorem fin6F {op : List Nat} {rg md sd : Int} {bl : Bool} {A : List Nat} (h : A.length = 1) (g : A.getD 0 0 ≠ 3) (g2 : A.getD 0 0 ≠ 0) : (A.getD 0 0, 0) = fin (wholeR 6 op rg md sd bl A) := by
 rw [wr6, if_pos ⟨h, g⟩]
 unfold fin
 rw [if_neg g2]
theorem oper_right {op : List Nat} {md sd : Int} {bl : Bool} {a b : Nat} : operM op md sd bl a b = if (rightM op md sd bl a b).2 = true then (rightM op md sd bl a b).1 else 0 := by
 unfold operM rightM
 split
 ·rfl
 ·split
  ·simp
  ·split
   ·cases bl <;> simp
   ·rfl
theorem P3_iff {X A : List Nat} (hX : ∀ x ∈ X, 1 ≤ x) (h3 : X.length ≤ 3) (hA : ∀ x ∈ A, 1 ≤ x) : (A.length ≤ 3 ∧ P3 X A) ↔ A = X := by
 constructor
 ·rintro ⟨h1, h2⟩
  exact ((pad_inj hX hA h3 h1).1 h2).symm
 ·rintro rfl
  exact ⟨h3, rfl, rfl, rfl⟩
theorem whole_right {k : Int} {op : List Nat} {rg md sd : Int} {bl : Bool} {A : List Nat} (hA : ∀ x ∈ A, 1 ≤ x) : wholeM k op rg md sd bl A = wholeR k op rg md sd bl A := by
 have h3 := P3_iff (call_take op).2 (call_take op).1 hA
 have h12 := P3_iff (X := [1, 2]) (by decide) (by decide) hA
 have h2 := P3_iff (X := [2]) (by decide) (by decide) hA
 unfold wholeM wholeR
 simp only [h3, oper_right]
 split
 ·rfl
 split
 ·rfl
 split
 ·rfl
 split
 ·split
  ·simp only [h12]
  ·simp only [h2]
 ·rfl
theorem typeM_fin {k : Int} {op : List Nat} {rg md sd : Int} {bl : Bool} {len i : Nat} {ty er : Nat → Nat} (h : ¬ (k = 3 ∧ (callM op).2 = 0)) (hz : i = len ∧ ∀ j, j < i → er j = 0) (hty : ∀ i, i < len → er i = 0 → 1 ≤ ty i ∧ ty i ≤ 3) :
  typeM k op rg md sd bl len ty er = fin (wholeR k op rg md sd bl (kl ty i)) := by
 obtain ⟨rfl, hz⟩ := hz
 have he := errM_zero hz
 unfold typeM fin
 rw [if_neg h, he, if_neg (by simp), whole_right (fun x hx => (kl_ty hty he x hx).1)]
theorem rtype_spec (k : Int) (op : List Nat) (ho : Bytes op) (n : Int) (ms : AV) (rg off md : Int) (nm : AV) (sd : Int) (bl : Bool) (hms : ms.isCell = true) (hnm : nm.isCell = true) (hs : HSt) (hro : ∀ e ∈ hs, e.w = false) (d : Nat) (kd : AV) (len : Nat) (hkd : kd.isCell = true) (hlen : lenA (.slice 26) kd = some len) (hl : len ≤ 1048576) (kc : Nat → List AV) (hK : ∀ i, i < len → ∃ b ob, kd = .slice b 0 len 11 ∧ MemH hs b ob ∧ sub? ob.cells ((0 + i) * 11) 11 = some (kc i) ∧ NRep hs d (kc i)) (ty er : Nat → Nat) (HT : ∀ i, i < len → Spec tab 38 [.agg (kc i)] [] hs (Val (.tuple [.int .i64 ((ty i : Nat) : Int), .int .i64 ((er i : Nat) : Int)]))) (hty : ∀ i, i < len → er i = 0 → 1 ≤ ty i ∧ ty i ≤ 3) : Spec tab 38 [.agg (nodeC k op n ms rg off md nm sd bl kd)] [] hs (Val (.tuple [.int .i64 (((typeM k op rg md sd bl len ty er).1 : Nat) : Int), .int .i64 (((typeM k op rg md sd bl len ty er).2 : Nat) : Int)])) := by
 refine Spec.en (ftg 38 Tryz.func38) rfl (m := 108) rfl (rs := [.tmp 2, .tmp 3]) rfl (st := [(0, .agg (nodeC k op n ms rg off md nm sd bl kd))]) rfl rfl (fun _ => rfl) (fun E => zr (WO.box rfl (node_cells hms hnm hkd) (bx26 _ rfl) rfl (fun b1 => za (zi 0) (za (zi 0) (zk (zr (zf fa26_1 rfl 1 (zq (Q.l1 rfl (zt 0 rfl) ag9 rfl) (WO.call0 rfl (oLc rfl oz) rfl (rcall_spec _ ho) SubR.nil rfl (fun v16 D16 hP16 => ?_))))))))))
 obtain ⟨vt, rfl, hTk⟩ := hP16
 refine WO.subH (hs' := _ :: (hs ++ D16)) (SubH.op (perm_tail (N := []) (G := D16) (K := [_]) (X := hs))) (zm rfl (zq (Q.extract rfl rfl) (zq (Q.extract rfl rfl) (zq (Q.extract rfl rfl) (za rfl (za rfl (za rfl (zk (W.seq (zr (zf fa26_0 rfl 0 (zq (Q.l1 rfl (zt 0 rfl) ag3 rfl) (zq (Q.bin rfl (zi 3) rfl (bv_eql eq_int)) (zm rfl (WO.sD (d := 23) rfl (fun hc23 => ?_) (fun hc23 => ?_))))))))))))))))
 ·refine WO.gT rfl rfl (zm rfl (WO.gT rfl rfl (zq (Q.not rfl rfl) (zq (Q.pT rfl rfl) (zk (W.sub (zc 26 rfl (zc 5 rfl (zc 4 rfl (zc 1 rfl zzn)))) (W.condS rfl (fun hc26 => ?_) (fun hc26 => ?_))))))))
  ·refine zr (za (zi 0) (za (zi 9) (zk (W.ret (End.Kr (End.rV (ResL.tmp rfl (z1 rfl)) ?_))))))
   exact tyres (p := (0, 9)) (typeM_none (by omega) (Nat.eq_of_beq_eq_true (by simpa using hc26))).symm
  refine zw (zr (za rfl (zk (W.seq (zr (za (zi 0) (zk (W.block (W.loop_ind3 (fun (i : Nat) (v : AV) (hp : HSt) => [(1, .ptr b1 0), (4, vt), (5, .int .i64 (((callM op).2 : Nat) : Int)), (7, v), (8, .int .i64 ((i : Nat) : Int))]) (fun (i : Nat) (v : AV) (hp : HSt) => ⟨b1, ⟨11, true, nodeC k op n ms rg off md nm sd bl kd⟩, true⟩ :: ((hs ++ D16) ++ hp)) (fun (i : Nat) (v : AV) (hp : HSt) => i ≤ len ∧ (∀ j, j < i → er j = 0) ∧ Own 1 (ints (kl ty i)) i v hp) (fun (i : Nat) (v : AV) (hp : HSt) => len - i) (0) (.nils) ([]) ⟨Nat.zero_le _, fun j h => by omega, Own.nil 1⟩ zv (SubH.of_sublist (by simp [AV.cells])) (fun i v hp hI0 ih0 => ?_))))))))))
  obtain ⟨hi, hz, hO⟩ := hI0
  refine W.seq (zr (zm rfl (zf fa26_10 rfl 10 (zq (Q.l1 rfl (zt 0 rfl) ag24 rfl) (zq (Q.len ud24 rfl hlen) (zq (Q.bin rfl rfl rfl (bvl ltn)) (zk (W.cD rfl (fun hc31 => ?_) (fun hc31 => ?_)))))))))
  ·have hkn : ¬ (k = 3 ∧ (callM op).2 = 0) := by rintro ⟨h1, h2⟩; first | omega | (rw [h2] at hc26; exact absurd hc26 (by decide))
   obtain ⟨bk, ob, rfl, ⟨wk, mk⟩, hs2, hN⟩ := hK i (by omega)
   obtain ⟨k1, op1, n1, ms1, rg1, off1, md1, nm1, sd1, bl1, kd1, hc1, ho1, hms1, hnm1, hkd1⟩ := hN.node
   have hT1 := HT i (by omega)
   rw [hc1] at hs2 hT1
   refine zw (W.seq (W.block (zr (zf fa26_10 rfl 10 (zq (Q.l1 rfl (zt 0 rfl) ag24 rfl) (zm rfl (zq (Q.iS ud24 sz26 rfl rfl zo) (zq (Q.loadN rfl (List.mem_cons_of_mem _ (List.mem_append_left _ (List.mem_append_left _ mk))) ag26 sz26 hs2) (WO.cV rfl (oLc rfl oz) rfl hT1 (SubR.t (SubR.appl (SubR.appl (SubR.s hro)))) rfl (zm rfl (zq (Q.extract rfl rfl) (zq (Q.extract rfl rfl) (za rfl (za rfl (zk (W.sub (zc 10 rfl (zc 9 rfl (zc 1 rfl (zc 4 rfl (zc 5 rfl (zc 7 rfl (zc 8 rfl zzn))))))) (W.seq (zr (zm rfl (zq (Q.bin rfl (zi 0) rfl (bv_neq ne_nat)) (zk (W.cD rfl (fun hc44 => ?_) (fun hc44 => ?_)))))))))))))))))))))))
   ·refine zr (zm rfl (za (zi 0) (za rfl (zk (W.ret (End.Kr (End.Br (End.Kr (End.Lr (End.Br (End.Kr (End.rV (ResL.tmp rfl (z1 rfl)) ?_))))))))))))
    exact tyres (p := (0, er i)) (typeM_err hkn (by omega) hz (by omega)).symm
   refine zw (W.reg (zm rfl (zm rfl (WO.bslice ud40 sz3 zr3 rfl (opc rfl oPs_nil) rfl (cs := [_]) rfl rfl rfl (fun b2 => WO.appOwn (e := ⟨b2, _, true⟩) (A := ([_] ++ hs ++ D16)) ap40_40 hO rfl rfl rfl rfl ⟨by first | omega | (simp at * <;> omega), by first | omega | (simp at * <;> omega)⟩ (by decide) rfl rfl (fun v49 hp49 hO49 => za rfl (WO.nil (End.KB (End.K (W.reg (zm rfl (zq (Q.bin rfl (zi 1) rfl zp) (za rfl (WO.nil (End.KL (W.sub zv (W.sH (SubH.of_sublist (by simp)) (ih0 (i + 1) (v49) (hp49) ?_ ?_))))))))))))))))))
   ·exact ⟨by omega, fun j h => by rcases Nat.lt_or_ge j i with g | g; exact hz j g; have hji : j = i := (by omega); rw [hji]; omega, by simpa [kl_succ, ints_snoc] using hO49⟩
   exact zo
  have hkn : ¬ (k = 3 ∧ (callM op).2 = 0) := by rintro ⟨h1, h2⟩; first | omega | (rw [h2] at hc26; exact absurd hc26 (by decide))
  have hz2 : i = len ∧ ∀ j, j < i → er j = 0 := ⟨by omega, hz⟩
  refine W.exit (End.Kx (End.Lx (End.Bh (End.K (zr (za (zi 0) (za rfl (zk (W.seq (zr (zf fa26_0 rfl 0 (zq (Q.l1 rfl (zt 0 rfl) ag3 rfl) (zk (W.block (zr (zq (Q.bin rfl (zi 1) rfl (bv_eql eq_int)) (za rfl (zk (W.cD rfl (fun hc52 => ?_) (fun hc52 => ?_))))))))))))))))))))
  ·refine W.reg (za (zi 1) (za rfl (WO.nil (End.KB (End.K (W.sub (zc 12 rfl (zc 11 rfl zzn)) (W.seq (zr (zm rfl (zq (Q.not rfl rfl) (zk (W.condF rfl (zw (zr (zm rfl (za rfl (za (zi 0) (zk (W.ret (End.rV (ResL.tmp rfl (z1 rfl)) ?_))))))))))))))))))))
   (first | (exfalso; omega; done) | (refine tyres (p := (_, _)) (Eq.trans ?_ (typeM_fin hkn hz2 hty).symm); have e : k = 1 := (by omega); subst e; rfl))
  refine zr (zq (Q.bin rfl (zi 2) rfl (bv_eql eq_int)) (za rfl (zk (W.cD rfl (fun hc54 => ?_) (fun hc54 => ?_)))))
  ·refine zr (za (zi 2) (za rfl (zk (W.sub (zc 12 rfl (zc 11 rfl (zc 1 rfl zzn))) (zr (zf fa26_4 rfl 4 (zq (Q.l1 rfl (zt 0 rfl) ag3 rfl) (zq (Q.bin rfl (zi 0) rfl (bv_gtr (ltA_eq _ _))) (zk (W.cD rfl (fun hc58 => ?_) (fun hc58 => ?_)))))))))))
   ·refine W.reg (za (zi 3) (WO.nil (End.KB (End.K (W.seq (zr (zm rfl (zq (Q.not rfl rfl) (zk (W.condF rfl (zw (zr (zm rfl (za rfl (za (zi 0) (zk (W.ret (End.rV (ResL.tmp rfl (z1 rfl)) ?_))))))))))))))))))
    (first | (exfalso; omega; done) | (refine tyres (p := (_, _)) (Eq.trans ?_ (typeM_fin hkn hz2 hty).symm); have e : k = 2 := (by omega); subst e; have hr : (0:Int) < rg := (by omega); simp [fin, wholeR, hr]))
   refine W.skip (End.KB (End.K (W.seq (zr (zm rfl (zq (Q.not rfl rfl) (zk (W.condF rfl (zw (zr (zm rfl (za rfl (za (zi 0) (zk (W.ret (End.rV (ResL.tmp rfl (z1 rfl)) ?_))))))))))))))))
   (first | (exfalso; omega; done) | (refine tyres (p := (_, _)) (Eq.trans ?_ (typeM_fin hkn hz2 hty).symm); have e : k = 2 := (by omega); subst e; have hr : ¬ (0:Int) < rg := (by omega); simp [fin, wholeR, hr]))
  refine zr (zq (Q.bin rfl (zi 3) rfl (bv_eql eq_int)) (za rfl (zk (W.cD rfl (fun hc59 => ?_) (fun hc59 => ?_)))))
  ·refine W.reg (zm rfl (zm rfl (zm rfl (WO.cV rfl (oLc rfl (oLc rfl oz)) rfl (nsame_spec (ro (D16 ++ hp)) (kl ty i) (callM op).1 v vt ((own_isl hO).app.ro) (hTk.appl.ro) (by rw [kl_len]; omega) call_len) (SubR.t (SubR.ro (SubH.of_sublist (by rw [List.append_assoc]; exact List.sublist_append_right _ _)))) rfl (za rfl (za rfl (WO.nil (End.KB (End.K (W.sub (zc 12 rfl (zc 11 rfl zzn)) (W.seq (zr (zm rfl (zq (Q.not rfl not_dec) (zk (W.cD rfl (fun hc106 => ?_) (fun hc106 => ?_)))))))))))))))))
   ·refine zr (za (zi 0) (za (zi 16) (zk (W.ret (End.Kr (End.rV (ResL.tmp rfl (z1 rfl)) ?_))))))
    (first | (exfalso; omega; done) | (refine tyres (p := (_, _)) (Eq.trans ?_ (typeM_fin hkn hz2 hty).symm); have e : k = 3 := (by omega); subst e; simp [fin, wholeR, hc106]))
   refine zw (zr (zm rfl (za rfl (za (zi 0) (zk (W.ret (End.rV (ResL.tmp rfl (z1 rfl)) ?_)))))))
   (first | (exfalso; omega; done) | (refine tyres (p := (_, _)) (Eq.trans ?_ (typeM_fin hkn hz2 hty).symm); have e : k = 3 := (by omega); subst e; have g := Decidable.not_not.1 hc106; have g2 : (callM op).2 ≠ 0 := fun h => hkn ⟨rfl, h⟩; simp [fin, wholeR, g, g2]))
  refine zr (zq (Q.bin rfl (zi 4) rfl (bv_eql eq_int)) (za rfl (zk (W.sub (zc 65 rfl (zc 51 rfl (zc 12 rfl (zc 11 rfl (zc 1 rfl (zc 7 rfl zzn)))))) (W.cD rfl (fun hc65 => ?_) (fun hc65 => ?_))))))
  ·refine zr (zm rfl (WO.bslice ud40 sz3 zr3 rfl (opc (zi 2) oPs_nil) rfl (cs := [_]) rfl rfl rfl (fun b4 => WO.cV rfl (oLc rfl (oLc rfl oz)) rfl (nsame_spec (ro (⟨b4, ⟨1, true, ints [2]⟩, true⟩ :: hp)) (kl ty i) [2] v (.slice b4 0 1 1) ((own_isl hO).tl.ro) (ISl.at_ (ex := true)).ro (by rw [kl_len]; omega) (by decide)) (SubR.ro (SubH.of_sublist (List.Sublist.cons_cons _ (by (repeat apply List.Sublist.cons); exact List.sublist_append_right _ _)))) rfl (za (zi 2) (za rfl (zk (zr (zf fa26_1 rfl 1 (zq (Q.l1 rfl (zt 1 rfl) ag9 rfl) (WO.bslice ud23 sz9 zr9 rfl (opc (oc (v := .str [116, 111, 112, 107]) (by kernel_rfl)) (opc (oc (v := .str [98, 111, 116, 116, 111, 109, 107]) (by kernel_rfl)) oPs_nil)) rfl (cs := [_, _]) rfl rfl rfl (fun b5 => WO.cV rfl (oLc rfl (oLc rfl oz)) rfl (in_spec _ ho [[116, 111, 112, 107], [98, 111, 116, 116, 111, 109, 107]] _ _ _ rfl (by decide)) (SubR.one (zt 0 rfl)) rfl (zk (W.cD rfl (fun hc73 => ?_) (fun hc73 => ?_))))))))))))))
   ·refine W.reg (zm rfl (WO.bslice ud40 sz3 zr3 rfl (opc (zi 1) (opc (zi 2) oPs_nil)) rfl (cs := [_, _]) rfl rfl rfl (fun b6 => WO.cV rfl (oLc rfl (oLc rfl oz)) rfl (nsame_spec (ro (⟨b6, ⟨1, true, ints [1, 2]⟩, true⟩ :: hp)) (kl ty i) [1, 2] v (.slice b6 0 2 1) ((own_isl hO).tl.ro) (ISl.at_ (ex := true)).ro (by rw [kl_len]; omega) (by decide)) (SubR.ro (SubH.of_sublist (List.Sublist.cons_cons _ (by (repeat apply List.Sublist.cons); exact List.sublist_append_right _ _)))) rfl (za rfl (WO.nil (End.KB (End.K (W.sub (zc 12 rfl (zc 11 rfl zzn)) (W.seq (zr (zm rfl (zq (Q.not rfl not_dec) (zk (W.cD rfl (fun hc106 => ?_) (fun hc106 => ?_)))))))))))))))
    ·refine zr (za (zi 0) (za (zi 16) (zk (W.ret (End.Kr (End.rV (ResL.tmp rfl (z1 rfl)) ?_))))))
     (first | (exfalso; omega; done) | (refine tyres (p := (_, _)) (Eq.trans ?_ (typeM_fin hkn hz2 hty).symm); have e : k = 4 := (by omega); subst e; simp only [List.mem_cons, List.not_mem_nil, or_false] at hc73; simp [fin, wholeR, hc73, hc106]))
    refine zw (zr (zm rfl (za rfl (za (zi 0) (zk (W.ret (End.rV (ResL.tmp rfl (z1 rfl)) ?_)))))))
    (first | (exfalso; omega; done) | (refine tyres (p := (_, _)) (Eq.trans ?_ (typeM_fin hkn hz2 hty).symm); have e : k = 4 := (by omega); subst e; simp only [List.mem_cons, List.not_mem_nil, or_false] at hc73; have g := Decidable.not_not.1 hc106; simp [fin, wholeR, hc73, g]))
   refine W.skip (End.KB (End.K (W.seq (zr (zm rfl (zq (Q.not rfl not_dec) (zk (W.cD rfl (fun hc106 => ?_) (fun hc106 => ?_)))))))))
   ·refine zr (za (zi 0) (za (zi 16) (zk (W.sub (zc 3 rfl (zc 2 rfl zzn)) (W.ret (End.Kr (End.rV (ResL.tmp rfl (z1 rfl)) ?_)))))))
    (first | (exfalso; omega; done) | (refine tyres (p := (_, _)) (Eq.trans ?_ (typeM_fin hkn hz2 hty).symm); have e : k = 4 := (by omega); subst e; simp only [List.mem_cons, List.not_mem_nil, or_false] at hc73; simp [fin, wholeR, hc73, hc106]))
   refine zw (W.sub (zc 11 rfl zzn) (zr (zm rfl (za rfl (za (zi 0) (zk (W.ret (End.rV (ResL.tmp rfl (z1 rfl)) ?_))))))))
   (first | (exfalso; omega; done) | (refine tyres (p := (_, _)) (Eq.trans ?_ (typeM_fin hkn hz2 hty).symm); have e : k = 4 := (by omega); subst e; simp only [List.mem_cons, List.not_mem_nil, or_false] at hc73; have g := Decidable.not_not.1 hc106; simp [fin, wholeR, hc73, g]))
  refine zr (zq (Q.bin rfl (zi 5) rfl (bv_eql eq_int)) (za rfl (zk (W.cD rfl (fun hc77 => ?_) (fun hc77 => ?_)))))
  ·refine zr (zm rfl (zq (Q.len ud40 rfl hO.len) (zq (Q.bin rfl (zi 2) rfl (bv_eql eq_nat)) (zk (W.cD rfl (fun hc81 => ?_) (fun hc81 => ?_))))))
   ·obtain ⟨bo, exo, rfl, rfl⟩ := hO.full (by omega)
    refine W.regT (by kernel_rfl) (zq (Q.loadN rfl (zt 0 rfl) ag26 sz26 (l := [_, _, _, _, _, _, _, _, _, _, _]) rfl) (zm rfl (zq (Q.iaddrL ud40 sz3 rfl (zi 0) zo (o' := 0) rfl) (zq (Q.l1 rfl (List.mem_cons_of_mem _ (List.mem_append_right _ List.mem_cons_self)) ag3 (ints_at (i := 0) (by rw [kl_len]; omega))) (zm rfl (zq (Q.iaddrL ud40 sz3 rfl (zi 1) zo (o' := 1) rfl) (zq (Q.l1 rfl (List.mem_cons_of_mem _ (List.mem_append_right _ List.mem_cons_self)) ag3 (ints_at (i := 1) (by rw [kl_len]; omega))) (WO.cV rfl (oLc rfl (oLc rfl (oLc rfl oz))) rfl (right_spec _ _ ho _ _ _ _ _ _ _ _ _ hms hnm hkd _ _ (kl_at hty hz2 zo) (kl_at hty hz2 zo)) SubR.nil rfl (zm rfl (zq (Q.extract rfl rfl) (zq (Q.extract rfl rfl) (za rfl (za rfl (WO.nil (End.KB (End.K (W.sub (zc 12 rfl (zc 11 rfl zzn)) (W.seq (zr (zm rfl (zq (Q.not rfl rfl) (zk (W.condS rfl (fun hc106 => ?_) (fun hc106 => ?_))))))))))))))))))))))))
    ·refine zr (za (zi 0) (za (zi 16) (zk (W.ret (End.Kr (End.rV (ResL.tmp rfl (z1 rfl)) ?_))))))
     (first | (exfalso; omega; done) | (refine tyres (p := (_, _)) (Eq.trans ?_ (typeM_fin hkn hz2 hty).symm); have e : k = 5 := (by omega); subst e; have g : (rightM op md sd bl ((kl ty i).getD 0 0) ((kl ty i).getD 1 0)).2 = false := (by simpa using hc106); have hl2 : (kl ty i).length = 2 := (by rw [kl_len]; exact hc81); exact fin5T hl2 g))
    refine zw (zr (zm rfl (za rfl (za (zi 0) (zk (W.ret (End.rV (ResL.tmp rfl (z1 rfl)) ?_)))))))
    (first | (exfalso; omega; done) | (refine tyres (p := (_, _)) (Eq.trans ?_ (typeM_fin hkn hz2 hty).symm); have e : k = 5 := (by omega); subst e; have g : (rightM op md sd bl ((kl ty i).getD 0 0) ((kl ty i).getD 1 0)).2 = true := (by simpa using hc106); have hl2 : (kl ty i).length = 2 := (by rw [kl_len]; exact hc81); have g2 : (rightM op md sd bl ((kl ty i).getD 0 0) ((kl ty i).getD 1 0)).1 ≠ 0 := right_pos g (kl_at hty hz2 (by omega)).1 (kl_at hty hz2 (by omega)).1; exact fin5F hl2 g g2))
   refine W.skip (End.KB (End.K (W.seq (zr (zm rfl (zq (Q.not rfl rfl) (zk (W.condT rfl (zr (za (zi 0) (za (zi 16) (zk (W.ret (End.Kr (End.rV (ResL.tmp rfl (z1 rfl)) ?_)))))))))))))))
   (first | (exfalso; omega; done) | (refine tyres (p := (_, _)) (Eq.trans ?_ (typeM_fin hkn hz2 hty).symm); have e : k = 5 := (by omega); subst e; have hl2 : ¬ (kl ty i).length = 2 := (by rw [kl_len]; exact hc81); simp [fin, wholeR, hl2]))
  refine zr (zq (Q.bin rfl (zi 6) rfl (bv_eql eq_int)) (za rfl (zk (W.cD rfl (fun hc93 => ?_) (fun hc93 => ?_)))))
  ·refine zr (zm rfl (zq (Q.len ud40 rfl hO.len) (zq (Q.bin rfl (zi 1) rfl (bv_eql eq_nat)) (zk (W.cD rfl (fun hc97 => ?_) (fun hc97 => ?_))))))
   ·obtain ⟨bo, exo, rfl, rfl⟩ := hO.full (by omega)
    refine W.regT (by kernel_rfl) (zm rfl (zq (Q.iaddrL ud40 sz3 rfl (zi 0) zo (o' := 0) rfl) (zq (Q.l1 rfl (List.mem_cons_of_mem _ (List.mem_append_right _ List.mem_cons_self)) ag3 (ints_at (i := 0) (by rw [kl_len]; omega))) (zm rfl (zq (Q.iaddrL ud40 sz3 rfl (zi 0) zo (o' := 0) rfl) (zq (Q.l1 rfl (List.mem_cons_of_mem _ (List.mem_append_right _ List.mem_cons_self)) ag3 (ints_at (i := 0) (by rw [kl_len]; omega))) (zq (Q.bin rfl (zi 3) rfl (bv_neq ne_nat)) (za rfl (za rfl (WO.nil (End.KB (End.K (W.sub (zc 12 rfl (zc 11 rfl zzn)) (W.seq (zr (zm rfl (zq (Q.not rfl not_dec) (zk (W.cD rfl (fun hc106 => ?_) (fun hc106 => ?_))))))))))))))))))))
    ·refine zr (za (zi 0) (za (zi 16) (zk (W.ret (End.Kr (End.rV (ResL.tmp rfl (z1 rfl)) ?_))))))
     (first | (exfalso; omega; done) | (refine tyres (p := (_, _)) (Eq.trans ?_ (typeM_fin hkn hz2 hty).symm); have e : k = 6 := (by omega); subst e; exact fin6T (Decidable.not_not.1 hc106)))
    refine zw (zr (zm rfl (za rfl (za (zi 0) (zk (W.ret (End.rV (ResL.tmp rfl (z1 rfl)) ?_)))))))
    (first | (exfalso; omega; done) | (refine tyres (p := (_, _)) (Eq.trans ?_ (typeM_fin hkn hz2 hty).symm); have e : k = 6 := (by omega); subst e; have g := Decidable.not_not.1 hc106; have hl2 : (kl ty i).length = 1 := (by rw [kl_len]; exact hc97); have g2 : (kl ty i).getD 0 0 ≠ 0 := (by have := (kl_at hty hz2 (j := 0) (by omega)).1; omega); exact fin6F hl2 g g2))
   refine W.skip (End.KB (End.K (W.seq (zr (zm rfl (zq (Q.not rfl rfl) (zk (W.condT rfl (zr (za (zi 0) (za (zi 16) (zk (W.sub (zc 3 rfl (zc 2 rfl zzn)) (W.ret (End.Kr (End.rV (ResL.tmp rfl (z1 rfl)) ?_))))))))))))))))
   (first | (exfalso; omega; done) | (refine tyres (p := (_, _)) (Eq.trans ?_ (typeM_fin hkn hz2 hty).symm); have e : k = 6 := (by omega); subst e; have hl2 : ¬ (kl ty i).length = 1 := (by rw [kl_len]; exact hc97); simp [fin, wholeR, hl2]))
  refine W.skip (End.KB (End.K (W.seq (zr (zm rfl (zq (Q.not rfl rfl) (zk (W.condT rfl (zr (za (zi 0) (za (zi 16) (zk (W.ret (End.Kr (End.rV (ResL.tmp rfl (z1 rfl)) ?_)))))))))))))))
  (first | (exfalso; omega; done) | (refine tyres (p := (_, _)) (Eq.trans ?_ (typeM_fin hkn hz2 hty).symm); have e1 : ¬ k = 1 := (by omega); have e2 : ¬ k = 2 := (by omega); have e3 : ¬ k = 3 := (by omega); have e4 : ¬ k = 4 := (by omega); have e5 : ¬ k = 5 := (by omega); have e6 : ¬ k = 6 := (by omega); simp [fin, wholeR, e1, e2, e3, e4, e5, e6]))
 refine zg rfl rfl (zg rfl rfl (zq (Q.pF rfl rfl) (zk (W.sub (zc 26 rfl (zc 5 rfl (zc 4 rfl (zc 1 rfl zzn)))) (W.condF rfl (zw (zr (za rfl (zk (W.seq (zr (za (zi 0) (zk (W.block (W.loop_ind3 (fun (i : Nat) (v : AV) (hp : HSt) => [(1, .ptr b1 0), (4, vt), (5, .int .i64 (((callM op).2 : Nat) : Int)), (7, v), (8, .int .i64 ((i : Nat) : Int))]) (fun (i : Nat) (v : AV) (hp : HSt) => ⟨b1, ⟨11, true, nodeC k op n ms rg off md nm sd bl kd⟩, true⟩ :: ((hs ++ D16) ++ hp)) (fun (i : Nat) (v : AV) (hp : HSt) => i ≤ len ∧ (∀ j, j < i → er j = 0) ∧ Own 1 (ints (kl ty i)) i v hp) (fun (i : Nat) (v : AV) (hp : HSt) => len - i) (0) (.nils) ([]) ⟨Nat.zero_le _, fun j h => by omega, Own.nil 1⟩ zv (SubH.of_sublist (by simp [AV.cells])) (fun i v hp hI0 ih0 => ?_))))))))))))))))
 obtain ⟨hi, hz, hO⟩ := hI0
 refine W.seq (zr (zm rfl (zf fa26_10 rfl 10 (zq (Q.l1 rfl (zt 0 rfl) ag24 rfl) (zq (Q.len ud24 rfl hlen) (zq (Q.bin rfl rfl rfl (bvl ltn)) (zk (W.cD rfl (fun hc31 => ?_) (fun hc31 => ?_)))))))))
 ·have hkn : ¬ (k = 3 ∧ (callM op).2 = 0) := by rintro ⟨h1, h2⟩; first | omega | (rw [h2] at hc26; exact absurd hc26 (by decide))
  obtain ⟨bk, ob, rfl, ⟨wk, mk⟩, hs2, hN⟩ := hK i (by omega)
  obtain ⟨k1, op1, n1, ms1, rg1, off1, md1, nm1, sd1, bl1, kd1, hc1, ho1, hms1, hnm1, hkd1⟩ := hN.node
  have hT1 := HT i (by omega)
  rw [hc1] at hs2 hT1
  refine zw (W.seq (W.block (zr (zf fa26_10 rfl 10 (zq (Q.l1 rfl (zt 0 rfl) ag24 rfl) (zm rfl (zq (Q.iS ud24 sz26 rfl rfl zo) (zq (Q.loadN rfl (List.mem_cons_of_mem _ (List.mem_append_left _ (List.mem_append_left _ mk))) ag26 sz26 hs2) (WO.cV rfl (oLc rfl oz) rfl hT1 (SubR.t (SubR.appl (SubR.appl (SubR.s hro)))) rfl (zm rfl (zq (Q.extract rfl rfl) (zq (Q.extract rfl rfl) (za rfl (za rfl (zk (W.sub (zc 10 rfl (zc 9 rfl (zc 1 rfl (zc 4 rfl (zc 5 rfl (zc 7 rfl (zc 8 rfl zzn))))))) (W.seq (zr (zm rfl (zq (Q.bin rfl (zi 0) rfl (bv_neq ne_nat)) (zk (W.cD rfl (fun hc44 => ?_) (fun hc44 => ?_)))))))))))))))))))))))
  ·refine zr (zm rfl (za (zi 0) (za rfl (zk (W.ret (End.Kr (End.Br (End.Kr (End.Lr (End.Br (End.Kr (End.rV (ResL.tmp rfl (z1 rfl)) ?_))))))))))))
   exact tyres (p := (0, er i)) (typeM_err hkn (by omega) hz (by omega)).symm
  refine zw (W.reg (zm rfl (zm rfl (WO.bslice ud40 sz3 zr3 rfl (opc rfl oPs_nil) rfl (cs := [_]) rfl rfl rfl (fun b7 => WO.appOwn (e := ⟨b7, _, true⟩) (A := ([_] ++ hs ++ D16)) ap40_40 hO rfl rfl rfl rfl ⟨by first | omega | (simp at * <;> omega), by first | omega | (simp at * <;> omega)⟩ (by decide) rfl rfl (fun v49 hp49 hO49 => za rfl (WO.nil (End.KB (End.K (W.reg (zm rfl (zq (Q.bin rfl (zi 1) rfl zp) (za rfl (WO.nil (End.KL (W.sub zv (W.sH (SubH.of_sublist (by simp)) (ih0 (i + 1) (v49) (hp49) ?_ ?_))))))))))))))))))
  ·exact ⟨by omega, fun j h => by rcases Nat.lt_or_ge j i with g | g; exact hz j g; have hji : j = i := (by omega); rw [hji]; omega, by simpa [kl_succ, ints_snoc] using hO49⟩
  exact zo
 have hkn : ¬ (k = 3 ∧ (callM op).2 = 0) := by rintro ⟨h1, h2⟩; first | omega | (rw [h2] at hc26; exact absurd hc26 (by decide))
 have hz2 : i = len ∧ ∀ j, j < i → er j = 0 := ⟨by omega, hz⟩
 refine W.exit (End.Kx (End.Lx (End.Bh (End.K (zr (za (zi 0) (za rfl (zk (W.seq (zr (zf fa26_0 rfl 0 (zq (Q.l1 rfl (zt 0 rfl) ag3 rfl) (zk (W.block (zr (zq (Q.bin rfl (zi 1) rfl (bv_eql eq_int)) (za rfl (zk (W.cD rfl (fun hc52 => ?_) (fun hc52 => ?_))))))))))))))))))))
 ·refine W.reg (za (zi 1) (za rfl (WO.nil (End.KB (End.K (W.sub (zc 12 rfl (zc 11 rfl zzn)) (W.seq (zr (zm rfl (zq (Q.not rfl rfl) (zk (W.condF rfl (zw (zr (zm rfl (za rfl (za (zi 0) (zk (W.ret (End.rV (ResL.tmp rfl (z1 rfl)) ?_))))))))))))))))))))
  (first | (exfalso; omega; done) | (refine tyres (p := (_, _)) (Eq.trans ?_ (typeM_fin hkn hz2 hty).symm); have e : k = 1 := (by omega); subst e; rfl))
 refine zr (zq (Q.bin rfl (zi 2) rfl (bv_eql eq_int)) (za rfl (zk (W.cD rfl (fun hc54 => ?_) (fun hc54 => ?_)))))
 ·refine zr (za (zi 2) (za rfl (zk (W.sub (zc 12 rfl (zc 11 rfl (zc 1 rfl zzn))) (zr (zf fa26_4 rfl 4 (zq (Q.l1 rfl (zt 0 rfl) ag3 rfl) (zq (Q.bin rfl (zi 0) rfl (bv_gtr (ltA_eq _ _))) (zk (W.cD rfl (fun hc58 => ?_) (fun hc58 => ?_)))))))))))
  ·refine W.reg (za (zi 3) (WO.nil (End.KB (End.K (W.seq (zr (zm rfl (zq (Q.not rfl rfl) (zk (W.condF rfl (zw (zr (zm rfl (za rfl (za (zi 0) (zk (W.ret (End.rV (ResL.tmp rfl (z1 rfl)) ?_))))))))))))))))))
   (first | (exfalso; omega; done) | (refine tyres (p := (_, _)) (Eq.trans ?_ (typeM_fin hkn hz2 hty).symm); have e : k = 2 := (by omega); subst e; have hr : (0:Int) < rg := (by omega); simp [fin, wholeR, hr]))
  refine W.skip (End.KB (End.K (W.seq (zr (zm rfl (zq (Q.not rfl rfl) (zk (W.condF rfl (zw (zr (zm rfl (za rfl (za (zi 0) (zk (W.ret (End.rV (ResL.tmp rfl (z1 rfl)) ?_))))))))))))))))
  (first | (exfalso; omega; done) | (refine tyres (p := (_, _)) (Eq.trans ?_ (typeM_fin hkn hz2 hty).symm); have e : k = 2 := (by omega); subst e; have hr : ¬ (0:Int) < rg := (by omega); simp [fin, wholeR, hr]))
 refine zr (zq (Q.bin rfl (zi 3) rfl (bv_eql eq_int)) (za rfl (zk (W.cD rfl (fun hc59 => ?_) (fun hc59 => ?_)))))
 ·refine W.reg (zm rfl (zm rfl (zm rfl (WO.cV rfl (oLc rfl (oLc rfl oz)) rfl (nsame_spec (ro (D16 ++ hp)) (kl ty i) (callM op).1 v vt ((own_isl hO).app.ro) (hTk.appl.ro) (by rw [kl_len]; omega) call_len) (SubR.t (SubR.ro (SubH.of_sublist (by rw [List.append_assoc]; exact List.sublist_append_right _ _)))) rfl (za rfl (za rfl (WO.nil (End.KB (End.K (W.sub (zc 12 rfl (zc 11 rfl zzn)) (W.seq (zr (zm rfl (zq (Q.not rfl not_dec) (zk (W.cD rfl (fun hc106 => ?_) (fun hc106 => ?_)))))))))))))))))
  ·refine zr (za (zi 0) (za (zi 16) (zk (W.ret (End.Kr (End.rV (ResL.tmp rfl (z1 rfl)) ?_))))))
   (first | (exfalso; omega; done) | (refine tyres (p := (_, _)) (Eq.trans ?_ (typeM_fin hkn hz2 hty).symm); have e : k = 3 := (by omega); subst e; simp [fin, wholeR, hc106]))
  refine zw (zr (zm rfl (za rfl (za (zi 0) (zk (W.ret (End.rV (ResL.tmp rfl (z1 rfl)) ?_)))))))
  (first | (exfalso; omega; done) | (refine tyres (p := (_, _)) (Eq.trans ?_ (typeM_fin hkn hz2 hty).symm); have e : k = 3 := (by omega); subst e; have g := Decidable.not_not.1 hc106; have g2 : (callM op).2 ≠ 0 := fun h => hkn ⟨rfl, h⟩; simp [fin, wholeR, g, g2]))
 refine zr (zq (Q.bin rfl (zi 4) rfl (bv_eql eq_int)) (za rfl (zk (W.sub (zc 65 rfl (zc 51 rfl (zc 12 rfl (zc 11 rfl (zc 1 rfl (zc 7 rfl zzn)))))) (W.cD rfl (fun hc65 => ?_) (fun hc65 => ?_))))))
 ·refine zr (zm rfl (WO.bslice ud40 sz3 zr3 rfl (opc (zi 2) oPs_nil) rfl (cs := [_]) rfl rfl rfl (fun b9 => WO.cV rfl (oLc rfl (oLc rfl oz)) rfl (nsame_spec (ro (⟨b9, ⟨1, true, ints [2]⟩, true⟩ :: hp)) (kl ty i) [2] v (.slice b9 0 1 1) ((own_isl hO).tl.ro) (ISl.at_ (ex := true)).ro (by rw [kl_len]; omega) (by decide)) (SubR.ro (SubH.of_sublist (List.Sublist.cons_cons _ (by (repeat apply List.Sublist.cons); exact List.sublist_append_right _ _)))) rfl (za (zi 2) (za rfl (zk (zr (zf fa26_1 rfl 1 (zq (Q.l1 rfl (zt 1 rfl) ag9 rfl) (WO.bslice ud23 sz9 zr9 rfl (opc (oc (v := .str [116, 111, 112, 107]) (by kernel_rfl)) (opc (oc (v := .str [98, 111, 116, 116, 111, 109, 107]) (by kernel_rfl)) oPs_nil)) rfl (cs := [_, _]) rfl rfl rfl (fun b10 => WO.cV rfl (oLc rfl (oLc rfl oz)) rfl (in_spec _ ho [[116, 111, 112, 107], [98, 111, 116, 116, 111, 109, 107]] _ _ _ rfl (by decide)) (SubR.one (zt 0 rfl)) rfl (zk (W.cD rfl (fun hc73 => ?_) (fun hc73 => ?_))))))))))))))
  ·refine W.reg (zm rfl (WO.bslice ud40 sz3 zr3 rfl (opc (zi 1) (opc (zi 2) oPs_nil)) rfl (cs := [_, _]) rfl rfl rfl (fun b11 => WO.cV rfl (oLc rfl (oLc rfl oz)) rfl (nsame_spec (ro (⟨b11, ⟨1, true, ints [1, 2]⟩, true⟩ :: hp)) (kl ty i) [1, 2] v (.slice b11 0 2 1) ((own_isl hO).tl.ro) (ISl.at_ (ex := true)).ro (by rw [kl_len]; omega) (by decide)) (SubR.ro (SubH.of_sublist (List.Sublist.cons_cons _ (by (repeat apply List.Sublist.cons); exact List.sublist_append_right _ _)))) rfl (za rfl (WO.nil (End.KB (End.K (W.sub (zc 12 rfl (zc 11 rfl zzn)) (W.seq (zr (zm rfl (zq (Q.not rfl not_dec) (zk (W.cD rfl (fun hc106 => ?_) (fun hc106 => ?_)))))))))))))))
   ·refine zr (za (zi 0) (za (zi 16) (zk (W.ret (End.Kr (End.rV (ResL.tmp rfl (z1 rfl)) ?_))))))
    (first | (exfalso; omega; done) | (refine tyres (p := (_, _)) (Eq.trans ?_ (typeM_fin hkn hz2 hty).symm); have e : k = 4 := (by omega); subst e; simp only [List.mem_cons, List.not_mem_nil, or_false] at hc73; simp [fin, wholeR, hc73, hc106]))
   refine zw (zr (zm rfl (za rfl (za (zi 0) (zk (W.ret (End.rV (ResL.tmp rfl (z1 rfl)) ?_)))))))
   (first | (exfalso; omega; done) | (refine tyres (p := (_, _)) (Eq.trans ?_ (typeM_fin hkn hz2 hty).symm); have e : k = 4 := (by omega); subst e; simp only [List.mem_cons, List.not_mem_nil, or_false] at hc73; have g := Decidable.not_not.1 hc106; simp [fin, wholeR, hc73, g]))
  refine W.skip (End.KB (End.K (W.seq (zr (zm rfl (zq (Q.not rfl not_dec) (zk (W.cD rfl (fun hc106 => ?_) (fun hc106 => ?_)))))))))
  ·refine zr (za (zi 0) (za (zi 16) (zk (W.sub (zc 3 rfl (zc 2 rfl zzn)) (W.ret (End.Kr (End.rV (ResL.tmp rfl (z1 rfl)) ?_)))))))
   (first | (exfalso; omega; done) | (refine tyres (p := (_, _)) (Eq.trans ?_ (typeM_fin hkn hz2 hty).symm); have e : k = 4 := (by omega); subst e; simp only [List.mem_cons, List.not_mem_nil, or_false] at hc73; simp [fin, wholeR, hc73, hc106]))
  refine zw (W.sub (zc 11 rfl zzn) (zr (zm rfl (za rfl (za (zi 0) (zk (W.ret (End.rV (ResL.tmp rfl (z1 rfl)) ?_))))))))
  (first | (exfalso; omega; done) | (refine tyres (p := (_, _)) (Eq.trans ?_ (typeM_fin hkn hz2 hty).symm); have e : k = 4 := (by omega); subst e; simp only [List.mem_cons, List.not_mem_nil, or_false] at hc73; have g := Decidable.not_not.1 hc106; simp [fin, wholeR, hc73, g]))
 refine zr (zq (Q.bin rfl (zi 5) rfl (bv_eql eq_int)) (za rfl (zk (W.cD rfl (fun hc77 => ?_) (fun hc77 => ?_)))))
 ·refine zr (zm rfl (zq (Q.len ud40 rfl hO.len) (zq (Q.bin rfl (zi 2) rfl (bv_eql eq_nat)) (zk (W.cD rfl (fun hc81 => ?_) (fun hc81 => ?_))))))
  ·obtain ⟨bo, exo, rfl, rfl⟩ := hO.full (by omega)
   refine W.regT (by kernel_rfl) (zq (Q.loadN rfl (zt 0 rfl) ag26 sz26 (l := [_, _, _, _, _, _, _, _, _, _, _]) rfl) (zm rfl (zq (Q.iaddrL ud40 sz3 rfl (zi 0) zo (o' := 0) rfl) (zq (Q.l1 rfl (List.mem_cons_of_mem _ (List.mem_append_right _ List.mem_cons_self)) ag3 (ints_at (i := 0) (by rw [kl_len]; omega))) (zm rfl (zq (Q.iaddrL ud40 sz3 rfl (zi 1) zo (o' := 1) rfl) (zq (Q.l1 rfl (List.mem_cons_of_mem _ (List.mem_append_right _ List.mem_cons_self)) ag3 (ints_at (i := 1) (by rw [kl_len]; omega))) (WO.cV rfl (oLc rfl (oLc rfl (oLc rfl oz))) rfl (right_spec _ _ ho _ _ _ _ _ _ _ _ _ hms hnm hkd _ _ (kl_at hty hz2 zo) (kl_at hty hz2 zo)) SubR.nil rfl (zm rfl (zq (Q.extract rfl rfl) (zq (Q.extract rfl rfl) (za rfl (za rfl (WO.nil (End.KB (End.K (W.sub (zc 12 rfl (zc 11 rfl zzn)) (W.seq (zr (zm rfl (zq (Q.not rfl rfl) (zk (W.condS rfl (fun hc106 => ?_) (fun hc106 => ?_))))))))))))))))))))))))
   ·refine zr (za (zi 0) (za (zi 16) (zk (W.ret (End.Kr (End.rV (ResL.tmp rfl (z1 rfl)) ?_))))))
    (first | (exfalso; omega; done) | (refine tyres (p := (_, _)) (Eq.trans ?_ (typeM_fin hkn hz2 hty).symm); have e : k = 5 := (by omega); subst e; have g : (rightM op md sd bl ((kl ty i).getD 0 0) ((kl ty i).getD 1 0)).2 = false := (by simpa using hc106); have hl2 : (kl ty i).length = 2 := (by rw [kl_len]; exact hc81); exact fin5T hl2 g))
   refine zw (zr (zm rfl (za rfl (za (zi 0) (zk (W.ret (End.rV (ResL.tmp rfl (z1 rfl)) ?_)))))))
   (first | (exfalso; omega; done) | (refine tyres (p := (_, _)) (Eq.trans ?_ (typeM_fin hkn hz2 hty).symm); have e : k = 5 := (by omega); subst e; have g : (rightM op md sd bl ((kl ty i).getD 0 0) ((kl ty i).getD 1 0)).2 = true := (by simpa using hc106); have hl2 : (kl ty i).length = 2 := (by rw [kl_len]; exact hc81); have g2 : (rightM op md sd bl ((kl ty i).getD 0 0) ((kl ty i).getD 1 0)).1 ≠ 0 := right_pos g (kl_at hty hz2 (by omega)).1 (kl_at hty hz2 (by omega)).1; exact fin5F hl2 g g2))
  refine W.skip (End.KB (End.K (W.seq (zr (zm rfl (zq (Q.not rfl rfl) (zk (W.condT rfl (zr (za (zi 0) (za (zi 16) (zk (W.ret (End.Kr (End.rV (ResL.tmp rfl (z1 rfl)) ?_)))))))))))))))
  (first | (exfalso; omega; done) | (refine tyres (p := (_, _)) (Eq.trans ?_ (typeM_fin hkn hz2 hty).symm); have e : k = 5 := (by omega); subst e; have hl2 : ¬ (kl ty i).length = 2 := (by rw [kl_len]; exact hc81); simp [fin, wholeR, hl2]))
 refine zr (zq (Q.bin rfl (zi 6) rfl (bv_eql eq_int)) (za rfl (zk (W.cD rfl (fun hc93 => ?_) (fun hc93 => ?_)))))
 ·refine zr (zm rfl (zq (Q.len ud40 rfl hO.len) (zq (Q.bin rfl (zi 1) rfl (bv_eql eq_nat)) (zk (W.cD rfl (fun hc97 => ?_) (fun hc97 => ?_))))))
  ·obtain ⟨bo, exo, rfl, rfl⟩ := hO.full (by omega)
   refine W.regT (by kernel_rfl) (zm rfl (zq (Q.iaddrL ud40 sz3 rfl (zi 0) zo (o' := 0) rfl) (zq (Q.l1 rfl (List.mem_cons_of_mem _ (List.mem_append_right _ List.mem_cons_self)) ag3 (ints_at (i := 0) (by rw [kl_len]; omega))) (zm rfl (zq (Q.iaddrL ud40 sz3 rfl (zi 0) zo (o' := 0) rfl) (zq (Q.l1 rfl (List.mem_cons_of_mem _ (List.mem_append_right _ List.mem_cons_self)) ag3 (ints_at (i := 0) (by rw [kl_len]; omega))) (zq (Q.bin rfl (zi 3) rfl (bv_neq ne_nat)) (za rfl (za rfl (WO.nil (End.KB (End.K (W.sub (zc 12 rfl (zc 11 rfl zzn)) (W.seq (zr (zm rfl (zq (Q.not rfl not_dec) (zk (W.cD rfl (fun hc106 => ?_) (fun hc106 => ?_))))))))))))))))))))
   ·refine zr (za (zi 0) (za (zi 16) (zk (W.ret (End.Kr (End.rV (ResL.tmp rfl (z1 rfl)) ?_))))))
    (first | (exfalso; omega; done) | (refine tyres (p := (_, _)) (Eq.trans ?_ (typeM_fin hkn hz2 hty).symm); have e : k = 6 := (by omega); subst e; exact fin6T (Decidable.not_not.1 hc106)))
   refine zw (zr (zm rfl (za rfl (za (zi 0) (zk (W.ret (End.rV (ResL.tmp rfl (z1 rfl)) ?_)))))))
   (first | (exfalso; omega; done) | (refine tyres (p := (_, _)) (Eq.trans ?_ (typeM_fin hkn hz2 hty).symm); have e : k = 6 := (by omega); subst e; have g := Decidable.not_not.1 hc106; have hl2 : (kl ty i).length = 1 := (by rw [kl_len]; exact hc97); have g2 : (kl ty i).getD 0 0 ≠ 0 := (by have := (kl_at hty hz2 (j := 0) (by omega)).1; omega); exact fin6F hl2 g g2))
  refine W.skip (End.KB (End.K (W.seq (zr (zm rfl (zq (Q.not rfl rfl) (zk (W.condT rfl (zr (za (zi 0) (za (zi 16) (zk (W.sub (zc 3 rfl (zc 2 rfl zzn)) (W.ret (End.Kr (End.rV (ResL.tmp rfl (z1 rfl)) ?_))))))))))))))))
  (first | (exfalso; omega; done) | (refine tyres (p := (_, _)) (Eq.trans ?_ (typeM_fin hkn hz2 hty).symm); have e : k = 6 := (by omega); subst e; have hl2 : ¬ (kl ty i).length = 1 := (by rw [kl_len]; exact hc97); simp [fin, wholeR, hl2]))
 refine W.skip (End.KB (End.K (W.seq (zr (zm rfl (zq (Q.not rfl rfl) (zk (W.condT rfl (zr (za (zi 0) (za (zi 16) (zk (W.ret (End.Kr (End.rV (ResL.tmp rfl (z1 rfl)) ?_)))))))))))))))
 (first | (exfalso; omega; done) | (refine tyres (p := (_, _)) (Eq.trans ?_ (typeM_fin hkn hz2 hty).symm); have e1 : ¬ k = 1 := (by omega); have e2 : ¬ k = 2 := (by omega); have e3 : ¬ k = 3 := (by omega); have e4 : ¬ k = 4 := (by omega); have e5 : ¬ k = 5 := (by omega); have e6 : ¬ k = 6 := (by omega); simp [fin, wholeR, e1, e2, e3, e4, e5, e6]))
end Go.Proofs.YtndhhgbpcmfeiaaGreatDoor.Ev.P16
