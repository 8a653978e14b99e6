/- Chapter 17, walks: the document's tokens, as far as their shapes. -/
import Derived.Test.YtndhhgbpcmfeiaaGreatDoorEV7
namespace Go.Proofs.YtndhhgbpcmfeiaaGreatDoor.Ev.P16
open Go.RowKit
set_option maxRecDepth 100000
set_option maxHeartbeats 1000000
section
variable {tb : Tab} {n : Nat} {E : Env} {s : St} {hs : HSt} {R : T AV → AHeap → Prop} {ops rest : List Oper} {d : Nat} {ty : TypeId} {pos : String} {aft : Array Edge} {t : TypeId}
def ValE (P : AV → Prop) : AV → HSt → Prop := fun v D => P v ∧ D = []
theorem End.retE {rs : List ResultVar} {P : AV → Prop} {l : List AV} (hr : ResL tb s hs rs l) (hP : P (oneOf l)) : End E s hs (RetQ tb rs E (ValE P) .ret) :=
 End.ret hr (hs' := []) ⟨hP, rfl⟩ (fun e h => no_w h) (SubH.nil _)
theorem WO.callE {of : Operand} {args : List Operand} {ts : Array TypeId} {g : Nat} {caps l l' : List AV} {hsc : HSt} {P : AV → Prop} (hf : oL s of = some (.func g caps)) (ha : oLs s args = some l) (hl : l ++ caps = l')
  (hsp : Spec tb g l' [] hsc (ValE P)) (hsub : SubR hsc hs) (hd : Nat.blt d n = true) (hk : ∀ v, P v → WO tb n ops rest E ((d, v) :: s) hs R) :
  WO tb n ops (⟨some d, .call ⟨.value of, args.toArray, ts⟩, ty, pos, aft, none⟩ :: rest) E s hs R :=
 WO.call0 hf ha hl hsp hsub hd fun v' D ⟨h1, h2⟩ => by subst h2; exact hk _ h1
end
def unL (u : Nat) : Nat := if u = 5 then 2 else 1
def digB (c : Nat) : Bool := decide (48 ≤ c) && decide (c ≤ 57)
theorem digB_ge {c : Nat} (h : digB c = true) : 48 ≤ c ∧ c ≤ 57 := by simpa [digB] using h
theorem un_len {w : Nat} (h : w < 6) : (([[119], [100], [104], [109], [115], [109, 115]] : List (List Nat)).getD w []).length = unL w := by
 have : ∀ w : Fin 6, (([[119], [100], [104], [109], [115], [109, 115]] : List (List Nat)).getD w.val []).length = unL w.val := by decide
 exact this ⟨w, h⟩
theorem sz_pos {w : Nat} (h : w < 6) : 0 < ([604800000, 86400000, 3600000, 60000, 1000, 1] : List Nat).getD w 0 := by
 have : ∀ w : Fin 6, 0 < ([604800000, 86400000, 3600000, 60000, 1000, 1] : List Nat).getD w.val 0 := by decide
 exact this ⟨w, h⟩
def hexV (c : Nat) : Int := if 48 ≤ c ∧ c ≤ 57 then (c : Int) - 48 else if 97 ≤ c ∧ c ≤ 102 then (c : Int) - 97 + 10 else -1
def letB (c : Nat) : Bool := (decide (97 ≤ c) && decide (c ≤ 122)) || (decide (65 ≤ c) && decide (c ≤ 90)) || decide (c = 95) || decide (c = 58)
theorem digit_spec (c : Nat) (hc : c < 256) : Spec tab 85 [.int .u8 ((c : Nat) : Int)] [] [] (Val (.bool (digB c))) := by
 refine Spec.en (ftg 85 Tryz.func85) rfl (m := 9) rfl (rs := [.tmp 2]) rfl (st := [(0, .int .u8 ((c : Nat) : Int))]) rfl rfl (fun _ => rfl) (fun E => zr (za rfl (zk (zr (zm rfl (zq (Q.bin rfl (zu 48) rfl (bv_geq le_nat)) (zm rfl (WO.sD (d := 5) rfl (fun hc5 => ?_) (fun hc5 => ?_)))))))))
 ·refine zT (zm rfl (zT (zq (Q.bin rfl (zu 57) rfl (bv_leq le_nat)) (zq (Q.pT rfl rfl) (za rfl (zk (W.ret (End.rV (z1 rfl) ?_))))))))
  exact bool_eq (by simp_all [digB] <;> omega)
 refine zG (zG (zq (Q.pF rfl rfl) (za rfl (zk (W.ret (End.rV (z1 rfl) ?_))))))
 exact bool_eq (by simp_all [digB] <;> omega)

theorem letter_spec (c : Nat) (hc : c < 256) : Spec tab 84 [.int .u8 ((c : Nat) : Int)] [] [] (Val (.bool (letB c))) := by
 refine Spec.en (ftg 84 Tryz.func84) rfl (m := 25) rfl (rs := [.tmp 2]) rfl (st := [(0, .int .u8 ((c : Nat) : Int))]) rfl rfl (fun _ => rfl) (fun E => zr (za rfl (zk (zr (zm rfl (zq (Q.bin rfl (zu 97) rfl (bv_geq le_nat)) (zm rfl (WO.sD (d := 5) rfl (fun hc5 => ?_) (fun hc5 => ?_)))))))))
 ·refine zT (zm rfl (zT (zq (Q.bin rfl (zu 122) rfl (bv_leq le_nat)) (zq (Q.pT rfl rfl) (zm rfl (WO.sD (d := 9) rfl (fun hc9 => ?_) (fun hc9 => ?_)))))))
  ·refine zG (zG (zG (WO.gF rfl rfl (.inr rfl) rfl (WO.gF rfl rfl (.inr rfl) rfl (zG (zq (Q.pT rfl rfl) (zm rfl (zG (zG (zq (Q.pT rfl rfl) (zm rfl (zG (zG (zq (Q.pT rfl rfl) (za rfl (zk (W.sub (zc 2 rfl zzn) (W.ret (End.rV (z1 rfl) ?_)))))))))))))))))))
   exact bool_eq (by simp_all [letB] <;> omega)
  refine zT (zm rfl (zT (zq (Q.bin rfl (zu 65) rfl (bv_geq le_nat)) (zT (zm rfl (WO.sD (d := 12) rfl (fun hc12 => ?_) (fun hc12 => ?_)))))))
  ·refine zT (zm rfl (zT (zq (Q.bin rfl (zu 90) rfl (bv_leq le_nat)) (zT (zq (Q.pT rfl rfl) (zq (Q.pF rfl rfl) (zm rfl (WO.sD (d := 17) rfl (fun hc17 => ?_) (fun hc17 => ?_)))))))))
   ·refine zG (zG (zq (Q.pT rfl rfl) (zm rfl (zG (zG (zq (Q.pT rfl rfl) (za rfl (zk (W.sub (zc 2 rfl zzn) (W.ret (End.rV (z1 rfl) ?_)))))))))))
    exact bool_eq (by simp_all [letB] <;> omega)
   refine zT (zm rfl (zT (zq (Q.bin rfl (zu 95) rfl (bv_eql eq_nat)) (zq (Q.pF rfl rfl) (zm rfl (WO.sD (d := 21) rfl (fun hc21 => ?_) (fun hc21 => ?_)))))))
   ·refine zG (zG (zq (Q.pT rfl rfl) (za rfl (zk (W.sub (zc 2 rfl zzn) (W.ret (End.rV (z1 rfl) ?_)))))))
    exact bool_eq (by simp_all [letB] <;> omega)
   refine zT (zm rfl (zT (zq (Q.bin rfl (zu 58) rfl (bv_eql eq_nat)) (zq (Q.pF rfl rfl) (za rfl (zk (W.sub (zc 2 rfl zzn) (W.ret (End.rV (z1 rfl) ?_)))))))))
   exact bool_eq (by simp_all [letB] <;> omega)
  refine zG (zG (zT (zq (Q.pF rfl rfl) (zq (Q.pF rfl rfl) (zm rfl (zT (zm rfl (zT (zq (Q.bin rfl (zu 95) rfl (bv_eql eq_nat)) (zq (Q.pF rfl rfl) (zm rfl (WO.sD (d := 21) rfl (fun hc21 => ?_) (fun hc21 => ?_)))))))))))))
  ·refine zG (zG (zq (Q.pT rfl rfl) (za rfl (zk (W.sub (zc 2 rfl zzn) (W.ret (End.rV (z1 rfl) ?_)))))))
   exact bool_eq (by simp_all [letB] <;> omega)
  refine zT (zm rfl (zT (zq (Q.bin rfl (zu 58) rfl (bv_eql eq_nat)) (zq (Q.pF rfl rfl) (za rfl (zk (W.sub (zc 2 rfl zzn) (W.ret (End.rV (z1 rfl) ?_)))))))))
  exact bool_eq (by simp_all [letB] <;> omega)
 refine zG (zG (zq (Q.pF rfl rfl) (zm rfl (zT (zm rfl (zT (zq (Q.bin rfl (zu 65) rfl (bv_geq le_nat)) (zT (zm rfl (WO.sD (d := 12) rfl (fun hc12 => ?_) (fun hc12 => ?_)))))))))))
 ·refine zT (zm rfl (zT (zq (Q.bin rfl (zu 90) rfl (bv_leq le_nat)) (zT (zq (Q.pT rfl rfl) (zq (Q.pF rfl rfl) (zm rfl (WO.sD (d := 17) rfl (fun hc17 => ?_) (fun hc17 => ?_)))))))))
  ·refine zG (zG (zq (Q.pT rfl rfl) (zm rfl (zG (zG (zq (Q.pT rfl rfl) (za rfl (zk (W.sub (zc 2 rfl zzn) (W.ret (End.rV (z1 rfl) ?_)))))))))))
   exact bool_eq (by simp_all [letB] <;> omega)
  refine zT (zm rfl (zT (zq (Q.bin rfl (zu 95) rfl (bv_eql eq_nat)) (zq (Q.pF rfl rfl) (zm rfl (WO.sD (d := 21) rfl (fun hc21 => ?_) (fun hc21 => ?_)))))))
  ·refine zG (zG (zq (Q.pT rfl rfl) (za rfl (zk (W.sub (zc 2 rfl zzn) (W.ret (End.rV (z1 rfl) ?_)))))))
   exact bool_eq (by simp_all [letB] <;> omega)
  refine zT (zm rfl (zT (zq (Q.bin rfl (zu 58) rfl (bv_eql eq_nat)) (zq (Q.pF rfl rfl) (za rfl (zk (W.sub (zc 2 rfl zzn) (W.ret (End.rV (z1 rfl) ?_)))))))))
  exact bool_eq (by simp_all [letB] <;> omega)
 refine zG (zG (zT (zq (Q.pF rfl rfl) (zq (Q.pF rfl rfl) (zm rfl (zT (zm rfl (zT (zq (Q.bin rfl (zu 95) rfl (bv_eql eq_nat)) (zq (Q.pF rfl rfl) (zm rfl (WO.sD (d := 21) rfl (fun hc21 => ?_) (fun hc21 => ?_)))))))))))))
 ·refine zG (zG (zq (Q.pT rfl rfl) (za rfl (zk (W.sub (zc 2 rfl zzn) (W.ret (End.rV (z1 rfl) ?_)))))))
  exact bool_eq (by simp_all [letB] <;> omega)
 refine zT (zm rfl (zT (zq (Q.bin rfl (zu 58) rfl (bv_eql eq_nat)) (zq (Q.pF rfl rfl) (za rfl (zk (W.sub (zc 2 rfl zzn) (W.ret (End.rV (z1 rfl) ?_)))))))))
 exact bool_eq (by simp_all [letB] <;> omega)

theorem blank_spec (s : List Nat) (hs : Bytes s) (hl : s.length ≤ 1024) (i : Nat) (hi : i ≤ s.length) : Spec tab 54 [.str s, .int .i64 ((i : Nat) : Int)] [] [] (ValE (fun v => ∃ n : Nat, v = .int .i64 (n : Int) ∧ i ≤ n ∧ n ≤ s.length)) := by
 refine Spec.en (ftg 54 Tryz.func54) rfl (m := 44) rfl (rs := [.tmp 4]) rfl (st := [(0, .str s), (1, .int .i64 ((i : Nat) : Int))]) rfl rfl (fun _ => rfl) (fun E => zr (za (zi 0) (zk (W.seq (W.block (W.loop_ind (fun (k : Nat) => [(0, .str s), (1, .int .i64 ((k : Nat) : Int))]) (fun _ => _) (fun (k : Nat) => i ≤ k ∧ k ≤ s.length) (fun (k : Nat) => s.length - k) (i) ⟨Nat.le_refl _, hi⟩ zv (SubH.refl _) (fun k hI0 ih0 => ?_)))))))
 obtain ⟨h1, h2⟩ := hI0
 refine W.seq (zr (zm rfl (zm rfl (zq (Q.len ud9 rfl rfl) (zq (Q.bin rfl rfl rfl (bvl ltn)) (zk (W.cD rfl (fun hc8 => ?_) (fun hc8 => ?_))))))))
 ·refine zw (W.block (W.seq (zr (zm rfl (zm rfl (WO.indexB hs ud9 rfl rfl zo rfl (fun c11 hd11 hb11 => zq (Q.bin rfl (zu 35) rfl (bv_eql eq_nat)) (zk (W.cD rfl (fun hc12 => ?_) (fun hc12 => ?_))))))))))
  ·refine W.seq (W.block (W.loop_ind (fun (j : Nat) => [(0, .str s), (1, .int .i64 ((j : Nat) : Int))]) (fun _ => _) (fun (j : Nat) => k ≤ j ∧ j ≤ s.length ∧ (j = k → s.getD k 0 = 35)) (fun (j : Nat) => s.length - j) (k) ⟨Nat.le_refl _, h2, fun _ => by omega⟩ zv (SubH.refl _) (fun j hI1 ih1 => ?_)))
   obtain ⟨g1, g2, g3⟩ := hI1
   refine W.seq (zr (zm rfl (zm rfl (zq (Q.len ud9 rfl rfl) (zq (Q.bin rfl rfl rfl (bvl ltn)) (zm rfl (WO.sD (d := 17) rfl (fun hc17 => ?_) (fun hc17 => ?_))))))))
   ·refine zT (zm rfl (zT (zm rfl (zT (WO.indexB hs ud9 rfl rfl zo rfl (fun c20 hd20 hb20 => zT (zq (Q.bin rfl (zu 10) rfl (bv_neq ne_nat)) (zq (Q.pT rfl rfl) (zk (W.cD rfl (fun hc22 => ?_) (fun hc22 => ?_)))))))))))
    ·refine zw (W.block (W.reg (zm rfl (zq (Q.bin rfl (zi 1) rfl zp) (za rfl (WO.nil (End.KB (End.KL (W.sub zv (ih1 (j + 1) ?_ ?_))))))))))
     ·exact ⟨by omega, by omega, by omega⟩
     exact zo
    have hkj : k < j := Nat.lt_of_le_of_ne g1 fun e => by subst e; have := g3 rfl; omega
    refine W.exit (End.Kx (End.Lx (End.Bh (End.K (W.exit (End.Kx (End.Bh (End.KL (W.sub zv (ih0 (j) ?_ ?_))))))))))
    ·exact ⟨by omega, by omega⟩
    exact zo
   refine zG (zG (zG (zG (zq (Q.pF rfl rfl) (zk (W.condF rfl (W.exit (End.Kx (End.Lx (End.Bh (End.K (W.exit (End.Kx (End.Bh (End.KL (W.sub zv (ih0 (j) ?_ ?_)))))))))))))))))
   ·exact ⟨by omega, by omega⟩
   exact zo
  refine zw (W.seq (zr (zm rfl (zm rfl (WO.indexB hs ud9 rfl rfl zo rfl (fun c27 hd27 hb27 => zq (Q.bin rfl (zu 32) rfl (bv_neq ne_nat)) (zm rfl (WO.sD (d := 29) rfl (fun hc29 => ?_) (fun hc29 => ?_)))))))))
  ·refine zT (zm rfl (zT (zm rfl (zT (WO.indexB hs ud9 rfl rfl zo rfl (fun c32 hd32 hb32 => zT (zq (Q.bin rfl (zu 9) rfl (bv_neq ne_nat)) (zq (Q.pT rfl rfl) (zm rfl (WO.sD (d := 35) rfl (fun hc35 => ?_) (fun hc35 => ?_)))))))))))
   ·refine zT (zm rfl (zT (zm rfl (zT (WO.indexB hs ud9 rfl rfl zo rfl (fun c38 hd38 hb38 => zT (zq (Q.bin rfl (zu 10) rfl (bv_neq ne_nat)) (zq (Q.pT rfl rfl) (zk (W.sub (zc 40 rfl (zc 0 rfl (zc 1 rfl zzn))) (W.cD rfl (fun hc40 => ?_) (fun hc40 => ?_))))))))))))
    ·refine W.exit (End.Kx (End.KB_miss rfl (End.Lx (End.Bh (End.K (zr (zm rfl (za rfl (zk (W.ret (End.retE (z1 rfl) ?_)))))))))))
     exact ⟨k, rfl, h1, h2⟩
    refine zw (W.reg (zm rfl (zq (Q.bin rfl (zi 1) rfl zp) (za rfl (WO.nil (End.KB (End.KL (W.sub zv (ih0 (k + 1) ?_ ?_)))))))))
    ·exact ⟨by omega, by omega⟩
    exact zo
   refine zG (zG (zG (zG (zq (Q.pF rfl rfl) (zk (W.sub (zc 40 rfl (zc 0 rfl (zc 1 rfl zzn))) (W.condF rfl (zw (W.reg (zm rfl (zq (Q.bin rfl (zi 1) rfl zp) (za rfl (WO.nil (End.KB (End.KL (W.sub zv (ih0 (k + 1) ?_ ?_)))))))))))))))))
   ·exact ⟨by omega, by omega⟩
   exact zo
  refine zG (zG (zG (zG (zq (Q.pF rfl rfl) (zm rfl (zG (zG (zG (zG (zq (Q.pF rfl rfl) (zk (W.sub (zc 40 rfl (zc 0 rfl (zc 1 rfl zzn))) (W.condF rfl (zw (W.reg (zm rfl (zq (Q.bin rfl (zi 1) rfl zp) (za rfl (WO.nil (End.KB (End.KL (W.sub zv (ih0 (k + 1) ?_ ?_)))))))))))))))))))))))
  ·exact ⟨by omega, by omega⟩
  exact zo
 refine W.exit (End.Kx (End.Lx (End.Bh (End.K (zr (zm rfl (za rfl (zk (W.ret (End.retE (z1 rfl) ?_))))))))))
 exact ⟨k, rfl, h1, h2⟩

theorem mark_spec (s : List Nat) (hs : Bytes s) (hl : s.length ≤ 1024) (i : Nat) (hi : i < s.length) : Spec tab 88 [.str s, .int .i64 ((i : Nat) : Int)] [] [] (ValE (fun v => ∃ n : Nat, v = .int .i64 (n : Int) ∧ i + n ≤ s.length ∧ n ≤ 2)) := by
 refine Spec.en (ftg 88 Tryz.func88) rfl (m := 46) rfl (rs := [.tmp 4]) rfl (st := [(0, .str s), (1, .int .i64 ((i : Nat) : Int))]) rfl rfl (fun _ => rfl) (fun E => zr (za (zi 0) (zk (zr (WO.bslice ud23 sz9 zr9 rfl (opc (oc (v := .str [61, 126]) (by kernel_rfl)) (opc (oc (v := .str [33, 126]) (by kernel_rfl)) (opc (oc (v := .str [61, 61]) (by kernel_rfl)) (opc (oc (v := .str [33, 61]) (by kernel_rfl)) (opc (oc (v := .str [60, 61]) (by kernel_rfl)) (opc (oc (v := .str [62, 61]) (by kernel_rfl)) oPs_nil)))))) rfl (cs := [_, _, _, _, _, _]) rfl rfl rfl (fun b1 => za rfl (zk (W.seq (zr (za (zi 0) (zk (W.block (W.loop_ind (fun (k : Nat) => [(0, .str s), (1, .int .i64 ((i : Nat) : Int)), (5, .slice b1 0 6 1), (6, .int .i64 ((k : Nat) : Int))]) (fun (k : Nat) => [⟨b1, ⟨1, true, ([[61, 126], [33, 126], [61, 61], [33, 61], [60, 61], [62, 61]] : List (List Nat)).map AV.str⟩, true⟩]) (fun (k : Nat) => k ≤ 6) (fun (k : Nat) => 6 - k) (0) (Nat.zero_le _) zv (SubH.refl _) (fun k hI0 ih0 => W.seq (zr (zm rfl (zm rfl (zq (Q.len ud23 rfl rfl) (zq (Q.bin rfl rfl rfl (bvl ltn)) (zk (W.cD rfl (fun hc13 => ?_) (fun hc13 => ?_))))))))))))))))))))))
 ·refine zw (W.seq (W.block (W.seq (W.regT (by kernel_rfl) (zm rfl (zq (Q.len ud9 rfl rfl) (zm rfl (zq (Q.bin rfl rfl rfl (bv_sub (wns zo))) (zq (Q.bin rfl (zi 2) rfl (bv_geq le_nat)) (zm rfl (WO.sD (d := 21) rfl (fun hc21 => ?_) (fun hc21 => ?_))))))))))))
  ·refine zT (zm rfl (zT (zm rfl (zT (zm rfl (zT (zq (Q.bin rfl (zi 2) rfl zp) (zT (zq (Q.sliceS ud9 rfl rfl zo rfl) (zT (zm rfl (zT (zm rfl (zT (zq (Q.iS ud23 sz9 rfl rfl zo) (zT (zq (Q.l1 rfl (zt 0 rfl) ag9 (strs_at (L := [[61, 126], [33, 126], [61, 61], [33, 61], [60, 61], [62, 61]]) (by simp; omega))) (zT (zq (Q.bin rfl rfl rfl bv_seql) (zq (Q.pT rfl rfl) (zk (W.sub (zc 32 rfl (zc 0 rfl (zc 1 rfl (zc 5 rfl (zc 6 rfl zzn))))) (W.cD rfl (fun hc32 => ?_) (fun hc32 => ?_))))))))))))))))))))))))
   ·refine zr (za (zi 2) (zk (W.ret (End.Br (End.Kr (End.Lr (End.Br (End.Kr (End.retE (z1 rfl) ?_)))))))))
    exact ⟨2, rfl, by omega, by omega⟩
   refine W.skip (End.KB (End.K (W.reg (zm rfl (zq (Q.bin rfl (zi 1) rfl zp) (za rfl (WO.nil (End.KL (W.sub zv (ih0 (k + 1) ?_ ?_))))))))))
   ·exact zy
   exact zo
  refine zG (zG (zG (zG (zG (zG (zG (zG (zG (zG (zq (Q.pF rfl rfl) (zk (W.sub (zc 32 rfl (zc 0 rfl (zc 1 rfl (zc 5 rfl (zc 6 rfl zzn))))) (W.condF rfl (W.skip (End.KB (End.K (W.reg (zm rfl (zq (Q.bin rfl (zi 1) rfl zp) (za rfl (WO.nil (End.KL (W.sub zv (ih0 (k + 1) ?_ ?_))))))))))))))))))))))))
  ·exact zy
  exact zo
 refine W.exit (End.Kx (End.Lx (End.Bh (End.K (zr (zq (Q.assign (oc (v := .str [61, 60, 62, 43, 45, 42, 47, 37, 40, 41, 123, 125, 91, 93, 44]) (by kernel_rfl))) (zk (W.seq (zr (za (zi 0) (zk (W.block (W.loop_ind (fun (k : Nat) => [(0, .str s), (1, .int .i64 ((i : Nat) : Int)), (7, .str [61, 60, 62, 43, 45, 42, 47, 37, 40, 41, 123, 125, 91, 93, 44]), (8, .int .i64 ((k : Nat) : Int))]) (fun _ => _) (fun (k : Nat) => k ≤ 15) (fun (k : Nat) => 15 - k) (0) (Nat.zero_le _) zv (SubH.refl _) (fun k hI1 ih1 => W.seq (zr (zm rfl (zm rfl (zq (Q.len ud9 rfl rfl) (zq (Q.bin rfl rfl rfl (bvl ltn)) (zk (W.cD rfl (fun hc36 => ?_) (fun hc36 => ?_))))))))))))))))))))))
 ·refine zw (W.seq (W.block (W.seq (W.regT (by kernel_rfl) (zm rfl (zm rfl (WO.indexB hs ud9 rfl rfl zo rfl (fun c41 hd41 hb41 => zm rfl (zm rfl (WO.indexB (by unfold Bytes; decide) ud9 rfl rfl zo rfl (fun c44 hd44 hb44 => zq (Q.bin rfl rfl rfl (bv_eql eq_nat)) (zk (W.cD rfl (fun hc45 => ?_) (fun hc45 => ?_))))))))))))))
  ·refine zr (za (zi 1) (zk (W.sub (zc 4 rfl zzn) (W.ret (End.Br (End.Kr (End.Lr (End.Br (End.Kr (End.retE (z1 rfl) ?_))))))))))
   exact ⟨1, rfl, by omega, by omega⟩
  refine W.skip (End.KB (End.K (W.reg (zm rfl (zq (Q.bin rfl (zi 1) rfl zp) (za rfl (WO.nil (End.KL (W.sub zv (ih1 (k + 1) ?_ ?_))))))))))
  ·exact (by simp at *; omega)
  exact (by simp at *; omega)
 refine W.exit (End.Kx (End.Lx (End.Bh (End.K (zr (za (zi 0) (zk (W.ret (End.retE (z1 rfl) ?_)))))))))
 exact ⟨0, rfl, by omega, by omega⟩

theorem units_spec  : Spec tab 148 [] [] [] (fun v D => ∃ b1 b2, v = .tuple [.slice b1 0 6 1, .slice b2 0 6 1] ∧ D = [⟨b2, ⟨1, true, ints [604800000, 86400000, 3600000, 60000, 1000, 1]⟩, true⟩, ⟨b1, ⟨1, true, ([[119], [100], [104], [109], [115], [109, 115]] : List (List Nat)).map AV.str⟩, true⟩]) := by
 refine Spec.en (ftg 148 Tryz.func148) rfl (m := 4) rfl (rs := [.tmp 0, .tmp 1]) rfl (st := []) rfl rfl (fun _ => rfl) (fun E => zr (za rfl (za rfl (zk (zr (WO.bslice ud23 sz9 zr9 rfl (opc (oc (v := .str [119]) (by kernel_rfl)) (opc (oc (v := .str [100]) (by kernel_rfl)) (opc (oc (v := .str [104]) (by kernel_rfl)) (opc (oc (v := .str [109]) (by kernel_rfl)) (opc (oc (v := .str [115]) (by kernel_rfl)) (opc (oc (v := .str [109, 115]) (by kernel_rfl)) oPs_nil)))))) rfl (cs := [_, _, _, _, _, _]) rfl rfl rfl (fun b1 => WO.bslice ud40 sz3 zr3 rfl (opc (zi 604800000) (opc (zi 86400000) (opc (zi 3600000) (opc (zi 60000) (opc (zi 1000) (opc (zi 1) oPs_nil)))))) rfl (cs := [_, _, _, _, _, _]) rfl rfl rfl (fun b2 => za rfl (za rfl (zk (W.ret ?_)))))))))))
 refine End.ret (ResL.tmp rfl (z1 rfl)) ⟨_, _, rfl, rfl⟩ (by intro e he; simp at he; rcases he with rfl | rfl <;> rfl) (SubH.refl _)

theorem unit_spec (s : List Nat) (hs : Bytes s) (hl : s.length ≤ 1024) : Spec tab 149 [.str s] [] [] (ValE (fun v => ∃ u : Int, v = .int .i64 u ∧ -1 ≤ u ∧ (0 ≤ u → u < 6 ∧ unL u.toNat ≤ s.length))) := by
 refine Spec.en (ftg 149 Tryz.func149) rfl (m := 35) rfl (rs := [.tmp 2]) rfl (st := [(0, .str s)]) rfl rfl (fun _ => rfl) (fun E => zr (za (zi 0) (zk (zr (WO.call0 rfl oz rfl units_spec SubR.nil rfl (fun v7 D7 hP7 => ?_))))))
 obtain ⟨bn7, bs7, rfl, rfl⟩ := hP7
 refine zm rfl (zq (Q.extract rfl rfl) (zq (Q.extract rfl rfl) (za rfl (za rfl (zk (W.seq (zr (zm rfl (zq (Q.len ud9 rfl rfl) (zq (Q.bin rfl (zi 2) rfl (bv_geq le_nat)) (zm rfl (WO.sD (d := 13) rfl (fun hc13 => ?_) (fun hc13 => ?_)))))))))))))
 ·refine zT (zm rfl (zT (zq (Q.sliceS ud9 rfl rfl zo sl_hi) (zT (zq (Q.bin rfl (oc (v := .str [109, 115]) (by kernel_rfl)) rfl bv_seql) (zq (Q.pT rfl rfl) (zk (W.cD rfl (fun hc17 => ?_) (fun hc17 => ?_)))))))))
  ·refine zr (za (zi 5) (zk (W.sub (zc 2 rfl zzn) (W.ret (End.Kr (End.retE (z1 rfl) ?_))))))
   exact ⟨5, rfl, by omega, fun _ => ⟨by omega, by show 2 ≤ s.length; omega⟩⟩
  refine zw (W.sub (zc 3 rfl (zc 0 rfl zzn)) (W.seq (zr (za (zi 0) (zk (W.block (W.loop_ind (fun (k : Nat) => [(0, .str s), (3, .slice bn7 0 6 1), (5, .int .i64 ((k : Nat) : Int))]) (fun (k : Nat) => [⟨bs7, ⟨1, true, ints [604800000, 86400000, 3600000, 60000, 1000, 1]⟩, true⟩, ⟨bn7, ⟨1, true, ([[119], [100], [104], [109], [115], [109, 115]] : List (List Nat)).map AV.str⟩, true⟩]) (fun (k : Nat) => k ≤ 5) (fun (k : Nat) => 5 - k) (0) (Nat.zero_le _) zv (SubH.refl _) (fun k hI0 ih0 => W.seq (zr (zm rfl (zq (Q.bin rfl (zi 5) rfl (bvl ltn)) (zk (W.cD rfl (fun hc19 => ?_) (fun hc19 => ?_))))))))))))))
  ·refine zw (W.seq (W.block (W.seq (W.regT (by kernel_rfl) (zm rfl (zq (Q.len ud9 rfl rfl) (zq (Q.bin rfl (zi 0) rfl (bv_gtr ltn)) (zm rfl (WO.sD (d := 25) rfl (fun hc25 => ?_) (fun hc25 => ?_))))))))))
   ·refine zT (zm rfl (zT (zq (Q.sliceS ud9 rfl rfl zo sl_hi) (zT (zm rfl (zT (zm rfl (zT (zq (Q.iS ud23 sz9 rfl rfl zo) (zT (zq (Q.l1 rfl (zt 1 rfl) ag9 (strs_at (L := [[119], [100], [104], [109], [115], [109, 115]]) (by simp; omega))) (zT (zq (Q.bin rfl rfl rfl bv_seql) (zq (Q.pT rfl rfl) (zk (W.cD rfl (fun hc33 => ?_) (fun hc33 => ?_)))))))))))))))))
    ·refine zr (zm rfl (za rfl (zk (W.sub (zc 2 rfl zzn) (W.ret (End.Br (End.Kr (End.Lr (End.Br (End.Kr (End.retE (z1 rfl) ?_)))))))))))
     exact ⟨(k : Int), rfl, by omega, fun _ => ⟨by omega, by unfold unL; split <;> omega⟩⟩
    refine W.skip (End.KB (End.K (W.sub (zc 0 rfl (zc 3 rfl (zc 5 rfl zzn))) (W.reg (zm rfl (zq (Q.bin rfl (zi 1) rfl zp) (za rfl (WO.nil (End.KL (W.sub zv (ih0 (k + 1) ?_ ?_)))))))))))
    ·exact zy
    exact zo
   refine zG (zG (zG (zG (zG (zG (zG (zq (Q.pF rfl rfl) (zk (W.condF rfl (W.skip (End.KB (End.K (W.sub (zc 0 rfl (zc 3 rfl (zc 5 rfl zzn))) (W.reg (zm rfl (zq (Q.bin rfl (zi 1) rfl zp) (za rfl (WO.nil (End.KL (W.sub zv (ih0 (k + 1) ?_ ?_)))))))))))))))))))))
   ·exact zy
   exact zo
  refine W.exit (End.Kx (End.Lx (End.Bh (End.K (zr (za rfl (zk (W.ret (End.retE (z1 rfl) ?_)))))))))
  exact ⟨-1, rfl, by omega, fun h => by omega⟩
 refine zG (zG (zG (zq (Q.pF rfl rfl) (zk (W.condF rfl (zw (W.sub (zc 3 rfl (zc 0 rfl zzn)) (W.seq (zr (za (zi 0) (zk (W.block (W.loop_ind (fun (k : Nat) => [(0, .str s), (3, .slice bn7 0 6 1), (5, .int .i64 ((k : Nat) : Int))]) (fun (k : Nat) => [⟨bs7, ⟨1, true, ints [604800000, 86400000, 3600000, 60000, 1000, 1]⟩, true⟩, ⟨bn7, ⟨1, true, ([[119], [100], [104], [109], [115], [109, 115]] : List (List Nat)).map AV.str⟩, true⟩]) (fun (k : Nat) => k ≤ 5) (fun (k : Nat) => 5 - k) (0) (Nat.zero_le _) zv (SubH.refl _) (fun k hI0 ih0 => W.seq (zr (zm rfl (zq (Q.bin rfl (zi 5) rfl (bvl ltn)) (zk (W.cD rfl (fun hc19 => ?_) (fun hc19 => ?_))))))))))))))))))))
 ·refine zw (W.seq (W.block (W.seq (W.regT (by kernel_rfl) (zm rfl (zq (Q.len ud9 rfl rfl) (zq (Q.bin rfl (zi 0) rfl (bv_gtr ltn)) (zm rfl (WO.sD (d := 25) rfl (fun hc25 => ?_) (fun hc25 => ?_))))))))))
  ·refine zT (zm rfl (zT (zq (Q.sliceS ud9 rfl rfl zo sl_hi) (zT (zm rfl (zT (zm rfl (zT (zq (Q.iS ud23 sz9 rfl rfl zo) (zT (zq (Q.l1 rfl (zt 1 rfl) ag9 (strs_at (L := [[119], [100], [104], [109], [115], [109, 115]]) (by simp; omega))) (zT (zq (Q.bin rfl rfl rfl bv_seql) (zq (Q.pT rfl rfl) (zk (W.cD rfl (fun hc33 => ?_) (fun hc33 => ?_)))))))))))))))))
   ·refine zr (zm rfl (za rfl (zk (W.sub (zc 2 rfl zzn) (W.ret (End.Br (End.Kr (End.Lr (End.Br (End.Kr (End.retE (z1 rfl) ?_)))))))))))
    exact ⟨(k : Int), rfl, by omega, fun _ => ⟨by omega, by unfold unL; split <;> omega⟩⟩
   refine W.skip (End.KB (End.K (W.sub (zc 0 rfl (zc 3 rfl (zc 5 rfl zzn))) (W.reg (zm rfl (zq (Q.bin rfl (zi 1) rfl zp) (za rfl (WO.nil (End.KL (W.sub zv (ih0 (k + 1) ?_ ?_)))))))))))
   ·exact zy
   exact zo
  refine zG (zG (zG (zG (zG (zG (zG (zq (Q.pF rfl rfl) (zk (W.condF rfl (W.skip (End.KB (End.K (W.sub (zc 0 rfl (zc 3 rfl (zc 5 rfl zzn))) (W.reg (zm rfl (zq (Q.bin rfl (zi 1) rfl zp) (za rfl (WO.nil (End.KL (W.sub zv (ih0 (k + 1) ?_ ?_)))))))))))))))))))))
  ·exact zy
  exact zo
 refine W.exit (End.Kx (End.Lx (End.Bh (End.K (zr (za rfl (zk (W.ret (End.retE (z1 rfl) ?_)))))))))
 exact ⟨-1, rfl, by omega, fun h => by omega⟩

theorem dur_spec (s : List Nat) (hs : Bytes s) (hl : s.length ≤ 1024) : Spec tab 123 [.str s] [] [] (ValE (fun v => ∃ a b : Int, v = .tuple [.int .i64 a, .int .i64 b])) := by
 refine Spec.en (ftg 123 Tryz.func123) rfl (m := 100) rfl (rs := [.tmp 2, .tmp 3]) rfl (st := [(0, .str s)]) rfl rfl (fun _ => rfl) (fun E => zr (za (zi 0) (za (zi 0) (zk (W.seq (zr (zm rfl (zq (Q.bin rfl (oc (v := .str [48, 115]) (by kernel_rfl)) rfl bv_seql) (zk (W.cD rfl (fun hc13 => ?_) (fun hc13 => ?_)))))))))))
 ·refine zr (za (zi 0) (za (zi 0) (zk (W.ret (End.Kr (End.retE (ResL.tmp rfl (z1 rfl)) ?_))))))
  exact ⟨_, _, rfl⟩
 refine zw (zr (WO.call0 rfl oz rfl units_spec SubR.nil rfl (fun v15 D15 hP15 => ?_)))
 obtain ⟨bn15, bs15, rfl, rfl⟩ := hP15
 refine zm rfl (zq (Q.extract rfl rfl) (zq (Q.extract rfl rfl) (za rfl (za rfl (zk (zr (za (zi 0) (za rfl (za rfl (zk (W.seq (zr (zm rfl (zq (Q.bin rfl (oc (v := .str []) (by kernel_rfl)) rfl bv_seql) (zk (W.cD rfl (fun hc19 => ?_) (fun hc19 => ?_)))))))))))))))))
 ·refine zr (za (zi 0) (za (zi 14) (zk (W.sub (zc 3 rfl (zc 2 rfl zzn)) (W.ret (End.Kr (End.retE (ResL.tmp rfl (z1 rfl)) ?_)))))))
  exact ⟨_, _, rfl⟩
 refine zw (W.seq (W.block (W.loop_ind4 (fun (r : List Nat) (sum : Int) (last : Int) (ov : Bool) => [(0, .str r), (4, .slice bn15 0 6 1), (5, .slice bs15 0 6 1), (6, .int .i64 sum), (7, .int .i64 last), (8, .bool ov)]) (fun (r : List Nat) (sum : Int) (last : Int) (ov : Bool) => [⟨bs15, ⟨1, true, ints [604800000, 86400000, 3600000, 60000, 1000, 1]⟩, true⟩, ⟨bn15, ⟨1, true, ([[119], [100], [104], [109], [115], [109, 115]] : List (List Nat)).map AV.str⟩, true⟩]) (fun (r : List Nat) (sum : Int) (last : Int) (ov : Bool) => Bytes r ∧ r.length ≤ 1024 ∧ -1 ≤ last) (fun (r : List Nat) (sum : Int) (last : Int) (ov : Bool) => r.length) (s) (0) (-1) (false) ⟨hs, hl, by omega⟩ zv (SubH.refl _) (fun r sum last ov hI0 ih0 => ?_))))
 obtain ⟨hr, hrl, hla⟩ := hI0
 refine W.seq (zr (zm rfl (zq (Q.bin rfl (oc (v := .str []) (by kernel_rfl)) rfl bv_sneq) (zk (W.cD rfl (fun hc21 => ?_) (fun hc21 => ?_))))))
 ·refine zw (W.block (zr (za (zi 0) (zk (zr (za (zi 0) (zk (W.seq (W.block (W.loop_ind2 (fun (k : Nat) (n : Nat) => [(0, .str r), (4, .slice bn15 0 6 1), (5, .slice bs15 0 6 1), (6, .int .i64 sum), (7, .int .i64 last), (8, .bool ov), (9, .int .i64 ((k : Nat) : Int)), (10, .int .i64 ((n : Nat) : Int))]) (fun (k : Nat) (n : Nat) => [⟨bs15, ⟨1, true, ints [604800000, 86400000, 3600000, 60000, 1000, 1]⟩, true⟩, ⟨bn15, ⟨1, true, ([[119], [100], [104], [109], [115], [109, 115]] : List (List Nat)).map AV.str⟩, true⟩]) (fun (k : Nat) (n : Nat) => k ≤ r.length ∧ n ≤ 2147483649) (fun (k : Nat) (n : Nat) => r.length - k) (0) (0) ⟨Nat.zero_le _, by omega⟩ zv (SubH.refl _) (fun k n hI1 ih1 => ?_)))))))))))
  obtain ⟨h1, h2⟩ := hI1
  refine W.seq (zr (zm rfl (zm rfl (zq (Q.len ud9 rfl rfl) (zq (Q.bin rfl rfl rfl (bvl ltn)) (zm rfl (WO.sD (d := 26) rfl (fun hc26 => ?_) (fun hc26 => ?_))))))))
  ·refine zT (zm rfl (zT (zm rfl (zT (WO.indexB hr ud9 rfl rfl zo rfl (fun c29 hd29 hb29 => zT (WO.cV rfl (oLc rfl oz) rfl (digit_spec _ (by assumption)) SubR.nil rfl (zq (Q.pT rfl rfl) (zk (W.condS rfl (fun hc31 => ?_) (fun hc31 => ?_)))))))))))
   ·have hdg := digB_ge (by first | exact hc30 | exact hc31)
    refine zw (W.block (zr (zm rfl (zq (Q.bin (zi 10) rfl rfl (bv_mul (wn_mul zo))) (zm rfl (zm rfl (WO.indexB hr ud9 rfl rfl zo rfl (fun c36 hd36 hb36 => zq (Q.bin rfl (zu 48) rfl (bv_sub (wn8_sub zo))) (zq (Q.convI ud5 ud3 rfl (wr64 zo)) (zq (Q.bin rfl rfl rfl zp) (zq (Q.minmax false (oLc rfl (oLc (zi 2147483649) oz)) mm_min) (za rfl (zk (W.sub (zc 10 rfl (zc 0 rfl (zc 4 rfl (zc 5 rfl (zc 6 rfl (zc 7 rfl (zc 8 rfl (zc 9 rfl zzn)))))))) (W.reg (zm rfl (zq (Q.bin rfl (zi 1) rfl zp) (za rfl (WO.nil (End.KB (End.KL (W.sub zv (ih1 (k + 1) (_) ?_ ?_)))))))))))))))))))))))
    ·exact ⟨by omega, Nat.min_le_right _ _⟩
    exact zo
   refine W.exit (End.Kx (End.Lx (End.Bh (End.K (W.seq (zr (zm rfl (zq (Q.bin rfl (zi 0) rfl (bv_eql eq_nat)) (zm rfl (WO.sD (d := 45) rfl (fun hc45 => ?_) (fun hc45 => ?_)))))))))))
   ·refine zG (zG (zG (zq (Q.pT rfl rfl) (zk (W.sub (zc 49 rfl (zc 0 rfl (zc 4 rfl (zc 5 rfl (zc 6 rfl (zc 7 rfl (zc 8 rfl (zc 9 rfl (zc 10 rfl zzn))))))))) (W.condT rfl (zr (za (zi 0) (za (zi 14) (zk (W.ret (End.Kr (End.Br (End.Lr (End.Br (End.Kr (End.retE (ResL.tmp rfl (z1 rfl)) ?_)))))))))))))))))
    exact ⟨_, _, rfl⟩
   refine zT (zm rfl (zT (WO.indexB hr ud9 rfl (zi 0) zo rfl (fun c47 hd47 hb47 => zT (zq (Q.bin rfl (zu 48) rfl (bv_eql eq_nat)) (zq (Q.pF rfl rfl) (zk (W.sub (zc 49 rfl (zc 0 rfl (zc 4 rfl (zc 5 rfl (zc 6 rfl (zc 7 rfl (zc 8 rfl (zc 9 rfl (zc 10 rfl zzn))))))))) (W.cD rfl (fun hc49 => ?_) (fun hc49 => ?_))))))))))
   ·refine zr (za (zi 0) (za (zi 14) (zk (W.ret (End.Kr (End.Br (End.Lr (End.Br (End.Kr (End.retE (ResL.tmp rfl (z1 rfl)) ?_))))))))))
    exact ⟨_, _, rfl⟩
   refine zw (zr (zm rfl (zm rfl (zq (Q.sliceS ud9 rfl rfl zo sl_lo) (WO.callE rfl (oLc rfl oz) rfl (unit_spec _ (Bytes.drop hr _) zo) SubR.nil rfl (fun v53 hP53 => ?_))))))
   obtain ⟨u53, rfl, hu53, hv53⟩ := hP53
   refine za rfl (zk (W.seq (zr (zm rfl (zm rfl (zq (Q.bin rfl rfl rfl (bv_leq le_int)) (zk (W.cD rfl (fun hc56 => ?_) (fun hc56 => ?_)))))))))
   ·refine zr (za (zi 0) (za (zi 14) (zk (W.sub (zc 3 rfl (zc 2 rfl zzn)) (W.ret (End.Kr (End.Br (End.Lr (End.Br (End.Kr (End.retE (ResL.tmp rfl (z1 rfl)) ?_)))))))))))
    exact ⟨_, _, rfl⟩
   obtain ⟨w, rfl⟩ : ∃ w : Nat, u53 = (w : Int) := ⟨u53.toNat, by omega⟩
   have hw := hv53 zy
   have hw6 : w < 6 := zy
   have hul : unL w ≤ r.length - k := (by have := hw.2; simpa using this)
   have hnl := un_len hw6
   have hzp := sz_pos hw6
   refine zw (zr (zm rfl (zm rfl (WO.split (d := 58) rfl (fun hc58 => ?_) (fun hc58 => ?_)))))
   ·refine zG (zG (zG (zG (zG (zG (zG (zq (Q.pT rfl rfl) (zm rfl (zG (zG (zG (zG (zG (zG (zG (zG (zG (zq (Q.pT rfl rfl) (za rfl (zk (W.sub (zc 8 rfl (zc 11 rfl (zc 0 rfl (zc 4 rfl (zc 5 rfl (zc 6 rfl (zc 9 rfl (zc 10 rfl zzn)))))))) (W.seq (zr ?_)))))))))))))))))))))))
    refine zm rfl (zq (Q.not rfl rfl) (zk (W.condF rfl (zw (zr (zm rfl (za rfl (zk (W.reg (zm rfl (zm rfl (zm rfl (zm rfl (zq (Q.iS ud23 sz9 rfl rfl zo) (zq (Q.l1 rfl (zt 1 rfl) ag9 (strs_at (L := [[119], [100], [104], [109], [115], [109, 115]]) (by simp; omega))) (zq (Q.len ud9 rfl rfl) (zq (Q.bin rfl rfl rfl zp) (zq (Q.sliceS ud9 rfl rfl zo sl_lo) (za rfl (WO.nil (End.KB (End.KL (W.sub zv (ih0 (_) (_) (_) (_) ?_ ?_))))))))))))))))))))))))
    ·exact ⟨Bytes.drop hr _, by simp; omega, by omega⟩
    exact (by simp; omega)
   refine zT (zm rfl (zT (zm rfl (zT (zm rfl (zT (zq (Q.iS ud40 sz3 rfl rfl zo) (zT (zq (Q.l1 rfl (zt 0 rfl) ag3 (ints_at (A := [604800000, 86400000, 3600000, 60000, 1000, 1]) (by simp; omega))) (zT (zq (Q.bin (zi 2147483648) rfl rfl (bv_quo zo rfl)) (zT (zq (Q.bin rfl rfl rfl (bv_gtr (ltA_eq _ _))) (zq (Q.pF rfl rfl) (zm rfl (WO.sD (d := 67) rfl (fun hc67 => ?_) (fun hc67 => ?_)))))))))))))))))
   ·refine zG (zG (zG (zG (zG (zG (zG (zG (zG (zq (Q.pT rfl rfl) (za rfl (zk (W.sub (zc 8 rfl (zc 11 rfl (zc 0 rfl (zc 4 rfl (zc 5 rfl (zc 6 rfl (zc 9 rfl (zc 10 rfl zzn)))))))) (W.seq (zr (zm rfl (zq (Q.not rfl rfl) (zk (W.condF rfl (zw (zr (zm rfl (za rfl (zk ?_)))))))))))))))))))))))
    refine W.reg (zm rfl (zm rfl (zm rfl (zm rfl (zq (Q.iS ud23 sz9 rfl rfl zo) (zq (Q.l1 rfl (zt 1 rfl) ag9 (strs_at (L := [[119], [100], [104], [109], [115], [109, 115]]) (by simp; omega))) (zq (Q.len ud9 rfl rfl) (zq (Q.bin rfl rfl rfl zp) (zq (Q.sliceS ud9 rfl rfl zo sl_lo) (za rfl (WO.nil (End.KB (End.KL (W.sub zv (ih0 (_) (_) (_) (_) ?_ ?_)))))))))))))))
    ·exact ⟨Bytes.drop hr _, by simp; omega, by omega⟩
    exact (by simp; omega)
   refine zT (zm rfl (zT (zm rfl (zT (zm rfl (zT (zm rfl (zT (zq (Q.iS ud40 sz3 rfl rfl zo) (zT (zq (Q.l1 rfl (zt 0 rfl) ag3 (ints_at (A := [604800000, 86400000, 3600000, 60000, 1000, 1]) (by simp; omega))) (zT (zq (Q.bin rfl rfl rfl (bv_mul rfl)) (zT (zq (Q.bin rfl rfl rfl (bv_add rfl)) (zT (zq (Q.bin rfl (zi 2147483648) rfl (bv_gtr (ltA_eq _ _))) (zq (Q.pF rfl rfl) (za rfl (zk (W.sub (zc 8 rfl (zc 11 rfl (zc 0 rfl (zc 4 rfl (zc 5 rfl (zc 6 rfl (zc 9 rfl (zc 10 rfl zzn)))))))) (W.seq (zr ?_)))))))))))))))))))))))
   refine zm rfl (zq (Q.not rfl not_dec) (zk (W.cD rfl (fun hc79 => ?_) (fun hc79 => ?_))))
   ·refine W.reg (zm rfl (zm rfl (zm rfl (zm rfl (zq (Q.iS ud40 sz3 rfl rfl zo) (zq (Q.l1 rfl (zt 0 rfl) ag3 (ints_at (A := [604800000, 86400000, 3600000, 60000, 1000, 1]) (by simp; omega))) (zq (Q.bin rfl rfl rfl (bv_mul rfl)) (zq (Q.bin rfl rfl rfl (bv_add rfl)) (za rfl (zk (zr (zm rfl (za rfl (zk (W.reg (zm rfl (zm rfl (zm rfl (zm rfl (zq (Q.iS ud23 sz9 rfl rfl zo) (zq (Q.l1 rfl (zt 1 rfl) ag9 (strs_at (L := [[119], [100], [104], [109], [115], [109, 115]]) (by simp; omega))) (zq (Q.len ud9 rfl rfl) (zq (Q.bin rfl rfl rfl zp) ?_)))))))))))))))))))))))
    refine zq (Q.sliceS ud9 rfl rfl zo sl_lo) (za rfl (WO.nil (End.KB (End.KL (W.sub zv (ih0 (_) (_) (_) (_) ?_ ?_))))))
    ·exact ⟨Bytes.drop hr _, by simp; omega, by omega⟩
    exact (by simp; omega)
   refine zw (zr (zm rfl (za rfl (zk (W.reg (zm rfl (zm rfl (zm rfl (zm rfl (zq (Q.iS ud23 sz9 rfl rfl zo) (zq (Q.l1 rfl (zt 1 rfl) ag9 (strs_at (L := [[119], [100], [104], [109], [115], [109, 115]]) (by simp; omega))) (zq (Q.len ud9 rfl rfl) (zq (Q.bin rfl rfl rfl zp) (zq (Q.sliceS ud9 rfl rfl zo sl_lo) (za rfl (WO.nil (End.KB (End.KL (W.sub zv (ih0 (_) (_) (_) (_) ?_ ?_))))))))))))))))))))
   ·exact ⟨Bytes.drop hr _, by simp; omega, by omega⟩
   exact (by simp; omega)
  refine zG (zG (zG (zG (zq (Q.pF rfl rfl) (zk (W.condF rfl (W.exit (End.Kx (End.Lx (End.Bh (End.K (W.seq (zr (zm rfl (zq (Q.bin rfl (zi 0) rfl (bv_eql eq_nat)) (zm rfl (WO.sD (d := 45) rfl (fun hc45 => ?_) (fun hc45 => ?_))))))))))))))))))
  ·refine zG (zG (zG (zq (Q.pT rfl rfl) (zk (W.sub (zc 49 rfl (zc 0 rfl (zc 4 rfl (zc 5 rfl (zc 6 rfl (zc 7 rfl (zc 8 rfl (zc 9 rfl (zc 10 rfl zzn))))))))) (W.condT rfl (zr (za (zi 0) (za (zi 14) (zk (W.ret (End.Kr (End.Br (End.Lr (End.Br (End.Kr (End.retE (ResL.tmp rfl (z1 rfl)) ?_)))))))))))))))))
   exact ⟨_, _, rfl⟩
  refine zT (zm rfl (zT (WO.indexB hr ud9 rfl (zi 0) zo rfl (fun c47 hd47 hb47 => zT (zq (Q.bin rfl (zu 48) rfl (bv_eql eq_nat)) (zq (Q.pF rfl rfl) (zk (W.sub (zc 49 rfl (zc 0 rfl (zc 4 rfl (zc 5 rfl (zc 6 rfl (zc 7 rfl (zc 8 rfl (zc 9 rfl (zc 10 rfl zzn))))))))) (W.cD rfl (fun hc49 => ?_) (fun hc49 => ?_))))))))))
  ·refine zr (za (zi 0) (za (zi 14) (zk (W.ret (End.Kr (End.Br (End.Lr (End.Br (End.Kr (End.retE (ResL.tmp rfl (z1 rfl)) ?_))))))))))
   exact ⟨_, _, rfl⟩
  refine zw (zr (zm rfl (zm rfl (zq (Q.sliceS ud9 rfl rfl zo sl_lo) (WO.callE rfl (oLc rfl oz) rfl (unit_spec _ (Bytes.drop hr _) zo) SubR.nil rfl (fun v53 hP53 => ?_))))))
  obtain ⟨u53, rfl, hu53, hv53⟩ := hP53
  refine za rfl (zk (W.seq (zr (zm rfl (zm rfl (zq (Q.bin rfl rfl rfl (bv_leq le_int)) (zk (W.cD rfl (fun hc56 => ?_) (fun hc56 => ?_)))))))))
  ·refine zr (za (zi 0) (za (zi 14) (zk (W.sub (zc 3 rfl (zc 2 rfl zzn)) (W.ret (End.Kr (End.Br (End.Lr (End.Br (End.Kr (End.retE (ResL.tmp rfl (z1 rfl)) ?_)))))))))))
   exact ⟨_, _, rfl⟩
  obtain ⟨w, rfl⟩ : ∃ w : Nat, u53 = (w : Int) := ⟨u53.toNat, by omega⟩
  have hw := hv53 zy
  have hw6 : w < 6 := zy
  have hul : unL w ≤ r.length - k := (by have := hw.2; simpa using this)
  have hnl := un_len hw6
  have hzp := sz_pos hw6
  refine zw (zr (zm rfl (zm rfl (WO.split (d := 58) rfl (fun hc58 => ?_) (fun hc58 => ?_)))))
  ·refine zG (zG (zG (zG (zG (zG (zG (zq (Q.pT rfl rfl) (zm rfl (zG (zG (zG (zG (zG (zG (zG (zG (zG (zq (Q.pT rfl rfl) (za rfl (zk (W.sub (zc 8 rfl (zc 11 rfl (zc 0 rfl (zc 4 rfl (zc 5 rfl (zc 6 rfl (zc 9 rfl (zc 10 rfl zzn)))))))) (W.seq (zr ?_)))))))))))))))))))))))
   refine zm rfl (zq (Q.not rfl rfl) (zk (W.condF rfl (zw (zr (zm rfl (za rfl (zk (W.reg (zm rfl (zm rfl (zm rfl (zm rfl (zq (Q.iS ud23 sz9 rfl rfl zo) (zq (Q.l1 rfl (zt 1 rfl) ag9 (strs_at (L := [[119], [100], [104], [109], [115], [109, 115]]) (by simp; omega))) (zq (Q.len ud9 rfl rfl) (zq (Q.bin rfl rfl rfl zp) (zq (Q.sliceS ud9 rfl rfl zo sl_lo) (za rfl (WO.nil (End.KB (End.KL (W.sub zv (ih0 (_) (_) (_) (_) ?_ ?_))))))))))))))))))))))))
   ·exact ⟨Bytes.drop hr _, by simp; omega, by omega⟩
   exact (by simp; omega)
  refine zT (zm rfl (zT (zm rfl (zT (zm rfl (zT (zq (Q.iS ud40 sz3 rfl rfl zo) (zT (zq (Q.l1 rfl (zt 0 rfl) ag3 (ints_at (A := [604800000, 86400000, 3600000, 60000, 1000, 1]) (by simp; omega))) (zT (zq (Q.bin (zi 2147483648) rfl rfl (bv_quo zo rfl)) (zT (zq (Q.bin rfl rfl rfl (bv_gtr (ltA_eq _ _))) (zq (Q.pF rfl rfl) (zm rfl (WO.sD (d := 67) rfl (fun hc67 => ?_) (fun hc67 => ?_)))))))))))))))))
  ·refine zG (zG (zG (zG (zG (zG (zG (zG (zG (zq (Q.pT rfl rfl) (za rfl (zk (W.sub (zc 8 rfl (zc 11 rfl (zc 0 rfl (zc 4 rfl (zc 5 rfl (zc 6 rfl (zc 9 rfl (zc 10 rfl zzn)))))))) (W.seq (zr (zm rfl (zq (Q.not rfl rfl) (zk (W.condF rfl (zw (zr (zm rfl (za rfl (zk ?_)))))))))))))))))))))))
   refine W.reg (zm rfl (zm rfl (zm rfl (zm rfl (zq (Q.iS ud23 sz9 rfl rfl zo) (zq (Q.l1 rfl (zt 1 rfl) ag9 (strs_at (L := [[119], [100], [104], [109], [115], [109, 115]]) (by simp; omega))) (zq (Q.len ud9 rfl rfl) (zq (Q.bin rfl rfl rfl zp) (zq (Q.sliceS ud9 rfl rfl zo sl_lo) (za rfl (WO.nil (End.KB (End.KL (W.sub zv (ih0 (_) (_) (_) (_) ?_ ?_)))))))))))))))
   ·exact ⟨Bytes.drop hr _, by simp; omega, by omega⟩
   exact (by simp; omega)
  refine zT (zm rfl (zT (zm rfl (zT (zm rfl (zT (zm rfl (zT (zq (Q.iS ud40 sz3 rfl rfl zo) (zT (zq (Q.l1 rfl (zt 0 rfl) ag3 (ints_at (A := [604800000, 86400000, 3600000, 60000, 1000, 1]) (by simp; omega))) (zT (zq (Q.bin rfl rfl rfl (bv_mul rfl)) (zT (zq (Q.bin rfl rfl rfl (bv_add rfl)) (zT (zq (Q.bin rfl (zi 2147483648) rfl (bv_gtr (ltA_eq _ _))) (zq (Q.pF rfl rfl) (za rfl (zk (W.sub (zc 8 rfl (zc 11 rfl (zc 0 rfl (zc 4 rfl (zc 5 rfl (zc 6 rfl (zc 9 rfl (zc 10 rfl zzn)))))))) (W.seq (zr ?_)))))))))))))))))))))))
  refine zm rfl (zq (Q.not rfl not_dec) (zk (W.cD rfl (fun hc79 => ?_) (fun hc79 => ?_))))
  ·refine W.reg (zm rfl (zm rfl (zm rfl (zm rfl (zq (Q.iS ud40 sz3 rfl rfl zo) (zq (Q.l1 rfl (zt 0 rfl) ag3 (ints_at (A := [604800000, 86400000, 3600000, 60000, 1000, 1]) (by simp; omega))) (zq (Q.bin rfl rfl rfl (bv_mul rfl)) (zq (Q.bin rfl rfl rfl (bv_add rfl)) (za rfl (zk (zr (zm rfl (za rfl (zk (W.reg (zm rfl (zm rfl (zm rfl (zm rfl (zq (Q.iS ud23 sz9 rfl rfl zo) (zq (Q.l1 rfl (zt 1 rfl) ag9 (strs_at (L := [[119], [100], [104], [109], [115], [109, 115]]) (by simp; omega))) (zq (Q.len ud9 rfl rfl) (zq (Q.bin rfl rfl rfl zp) ?_)))))))))))))))))))))))
   refine zq (Q.sliceS ud9 rfl rfl zo sl_lo) (za rfl (WO.nil (End.KB (End.KL (W.sub zv (ih0 (_) (_) (_) (_) ?_ ?_))))))
   ·exact ⟨Bytes.drop hr _, by simp; omega, by omega⟩
   exact (by simp; omega)
  refine zw (zr (zm rfl (za rfl (zk (W.reg (zm rfl (zm rfl (zm rfl (zm rfl (zq (Q.iS ud23 sz9 rfl rfl zo) (zq (Q.l1 rfl (zt 1 rfl) ag9 (strs_at (L := [[119], [100], [104], [109], [115], [109, 115]]) (by simp; omega))) (zq (Q.len ud9 rfl rfl) (zq (Q.bin rfl rfl rfl zp) (zq (Q.sliceS ud9 rfl rfl zo sl_lo) (za rfl (WO.nil (End.KB (End.KL (W.sub zv (ih0 (_) (_) (_) (_) ?_ ?_))))))))))))))))))))
  ·exact ⟨Bytes.drop hr _, by simp; omega, by omega⟩
  exact (by simp; omega)
 refine W.exit (End.Kx (End.Lx (End.Bh (End.K (W.seq (zr (zm rfl (zk (W.condS rfl (fun hc98 => ?_) (fun hc98 => ?_))))))))))
 ·refine zr (za (zi 0) (za (zi 11) (zk (W.ret (End.Kr (End.retE (ResL.tmp rfl (z1 rfl)) ?_))))))
  exact ⟨_, _, rfl⟩
 refine zw (zr (zm rfl (za rfl (za (zi 0) (zk (W.ret (End.retE (ResL.tmp rfl (z1 rfl)) ?_)))))))
 exact ⟨_, _, rfl⟩

theorem hex_spec (c : Nat) (hc : c < 256) : Spec tab 124 [.int .u8 ((c : Nat) : Int)] [] [] (Val (.int .i64 (hexV c))) := by
 refine Spec.en (ftg 124 Tryz.func124) rfl (m := 22) rfl (rs := [.tmp 2]) rfl (st := [(0, .int .u8 ((c : Nat) : Int))]) rfl rfl (fun _ => rfl) (fun E => zr (za (zi 0) (zk (W.seq (zr (zm rfl (zq (Q.bin rfl (zu 48) rfl (bv_geq le_nat)) (zm rfl (WO.sD (d := 5) rfl (fun hc5 => ?_) (fun hc5 => ?_))))))))))
 ·refine zT (zm rfl (zT (zq (Q.bin rfl (zu 57) rfl (bv_leq le_nat)) (zq (Q.pT rfl rfl) (zk (W.cD rfl (fun hc8 => ?_) (fun hc8 => ?_)))))))
  ·refine zr (zm rfl (zq (Q.convI ud5 ud3 rfl (wr64 zo)) (zq (Q.bin rfl (zi 48) rfl (bv_sub (wns zo))) (za rfl (zk (W.ret (End.Kr (End.rV (z1 rfl) ?_))))))))
   exact congrArg (AV.int .i64) (by simp only [hexV]; (repeat' split) <;> omega)
  refine zw (W.seq (zr (zm rfl (zq (Q.bin rfl (zu 97) rfl (bv_geq le_nat)) (zm rfl (WO.sD (d := 14) rfl (fun hc14 => ?_) (fun hc14 => ?_)))))))
  ·refine zT (zm rfl (zT (zq (Q.bin rfl (zu 102) rfl (bv_leq le_nat)) (zq (Q.pT rfl rfl) (zk (W.cD rfl (fun hc17 => ?_) (fun hc17 => ?_)))))))
   ·refine zr (zm rfl (zq (Q.convI ud5 ud3 rfl (wr64 zo)) (zq (Q.bin rfl (zi 97) rfl (bv_sub (wns zo))) (zq (Q.bin rfl (zi 10) rfl zp) (za rfl (zk (W.sub (zc 2 rfl zzn) (W.ret (End.Kr (End.rV (z1 rfl) ?_))))))))))
    exact congrArg (AV.int .i64) (by simp only [hexV]; (repeat' split) <;> omega)
   refine zw (W.sub zzn (zr (za rfl (zk (W.ret (End.rV (z1 rfl) ?_))))))
   exact congrArg (AV.int .i64) (by simp only [hexV]; (repeat' split) <;> omega)
  refine zG (zG (zq (Q.pF rfl rfl) (zk (W.condF rfl (zw (W.sub zzn (zr (za rfl (zk (W.ret (End.rV (z1 rfl) ?_)))))))))))
  exact congrArg (AV.int .i64) (by simp only [hexV]; (repeat' split) <;> omega)
 refine zG (zG (zq (Q.pF rfl rfl) (zk (W.condF rfl (zw (W.seq (zr (zm rfl (zq (Q.bin rfl (zu 97) rfl (bv_geq le_nat)) (zm rfl (WO.sD (d := 14) rfl (fun hc14 => ?_) (fun hc14 => ?_))))))))))))
 ·refine zT (zm rfl (zT (zq (Q.bin rfl (zu 102) rfl (bv_leq le_nat)) (zq (Q.pT rfl rfl) (zk (W.cD rfl (fun hc17 => ?_) (fun hc17 => ?_)))))))
  ·refine zr (zm rfl (zq (Q.convI ud5 ud3 rfl (wr64 zo)) (zq (Q.bin rfl (zi 97) rfl (bv_sub (wns zo))) (zq (Q.bin rfl (zi 10) rfl zp) (za rfl (zk (W.sub (zc 2 rfl zzn) (W.ret (End.Kr (End.rV (z1 rfl) ?_))))))))))
   exact congrArg (AV.int .i64) (by simp only [hexV]; (repeat' split) <;> omega)
  refine zw (W.sub zzn (zr (za rfl (zk (W.ret (End.rV (z1 rfl) ?_))))))
  exact congrArg (AV.int .i64) (by simp only [hexV]; (repeat' split) <;> omega)
 refine zG (zG (zq (Q.pF rfl rfl) (zk (W.condF rfl (zw (W.sub zzn (zr (za rfl (zk (W.ret (End.rV (z1 rfl) ?_)))))))))))
 exact congrArg (AV.int .i64) (by simp only [hexV]; (repeat' split) <;> omega)
end Go.Proofs.YtndhhgbpcmfeiaaGreatDoor.Ev.P16
