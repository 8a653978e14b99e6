/- Chapter 19, walks: what a call makes of each element, by the document; vectors alike. -/
import Derived.Test.YtmblgaehfjheeaaGreatGYt
namespace Go.Proofs.YtmblgaehfjheeaaGreat.Ev
open Go.RowKit
set_option linter.unusedVariables false
set_option linter.unusedSimpArgs false
set_option maxRecDepth 100000
set_option maxHeartbeats 1000000
theorem OwnE.bq0 {sz : Nat} {cells : List AV} {len : Nat} {v : AV} {hp : HSt} (h : OwnE sz cells len v hp) : beq0 v v = true := by
 rcases h with ⟨_, _, rfl, _⟩ | ⟨b, ex, rfl, _, _⟩
 ·rfl
 ·simp [beq0]
theorem p2_len {X Y : List El} (h : X.length ≠ Y.length) : oneOf [AV.bool false] = .bool (decide (P2 X = P2 Y)) := by
 rw [decide_eq_false (fun e => h (by have := congrArg List.length e; simpa [P2] using this))]; rfl
theorem p2_ne {X Y : List El} {i : Nat} (hx : i < X.length) (hy : i < Y.length) (h : (eg X i).2 ≠ (eg Y i).2) : oneOf [AV.bool false] = .bool (decide (P2 X = P2 Y)) := by
 rw [decide_eq_false (fun e => h (by have h1 := p2_eg hx; rw [e, p2_eg hy] at h1; exact (Option.some.inj h1).symm))]; rfl
theorem p2_eq {X Y : List El} (h : X.length = Y.length) (g : ∀ k, k < X.length → (eg X k).2 = (eg Y k).2) : oneOf [AV.bool true] = .bool (decide (P2 X = P2 Y)) := by
 have : P2 X = P2 Y := by
  apply List.ext_getElem?
  intro k
  rcases Nat.lt_or_ge k X.length with q | q
  ·rw [p2_eg q, p2_eg zy, g k q]
  ·rw [List.getElem?_eq_none (by simpa [P2] using q), List.getElem?_eq_none (by simp [P2]; omega)]
 rw [decide_eq_true this]; rfl
theorem p2_ebd {X V : List El} (h : P2 X = P2 V) (hB : EBd V) : EBd X := by
 have hl := congrArg List.length h
 simp only [P2, List.length_map] at hl
 refine ⟨by rw [hl]; exact hB.1, fun x hx => ?_⟩
 have : x.2 ∈ P2 V := by rw [← h]; exact List.mem_map.2 ⟨x, hx, rfl⟩
 obtain ⟨y, hy, e⟩ := List.mem_map.1 this
 rw [← e]; exact hB.2 y hy
theorem own_next {V X : List El} {i : Nat} {v : AV} (h : P2 X = (P2 V).take i) (hi : i < V.length) : P2 (X ++ [(v, (eg V i).2)]) = (P2 V).take (i + 1) := by
 unfold P2 at *
 have := p2_eg hi
 unfold P2 at this
 rw [List.map_append, h, List.take_add_one, this]
 rfl
theorem reach_spec (hs : HSt) (hro : ∀ e ∈ hs, e.w = false) (V : List El) (v : AV) (hV : EIn hs V v) (hB : EBd V) (op : List Nat) (ho : Bytes op) (low high : Int) : Spec tab 28 [.str op, v, .int .i64 low, .int .i64 high] [] hs (fun u D => ∃ (e : Nat) (W : List El) (w : AV), EachR op low high V e (P2 W) ∧ VOwn W w D ∧ u = .tuple [w, .int .i64 (e : Nat)]) := by
 have hBl := hB.1
 refine Spec.en (ftg 28 Tryz.func28) rfl (m := 79) rfl (rs := [.tmp 8, .tmp 9]) rfl (st := [(0, .str op), (1, v), (2, .int .i64 low), (3, .int .i64 high)]) rfl rfl (fun _ => rfl) (fun E => zr (za rfl (za (zi 0) (zk (W.seq (zr (zm rfl (WO.cV rfl (oLc rfl oz) rfl (rvck_spec hs hro V _ hV hB) (SubR.s hro) rfl (za rfl (zk (zr (zm rfl (zq (Q.bin rfl (zi 0) rfl (bv_neq ne_nat)) (zk (W.cD rfl (fun hc17 => ?_) (fun hc17 => ?_))))))))))))))))
 ·refine zr (zm rfl (za rfl (za rfl (zk (W.ret ?_)))))
  refine End.Kr (End.ret (ResL.tmp rfl (z1 rfl)) (hs' := []) ⟨_, [], .nils, each_pre (eachPre_1 (by simpa using hc17)), VOwn.nil, rfl⟩ no_wl (SubH.nil _))
 have hck : vchk V = 0 := (by have := Classical.not_not.1 hc17; omega)
 refine zw (W.seqJ1 (fun (q : Unit) => [(0, .str op), (1, v), (2, .int .i64 low), (3, .int .i64 high)]) (fun (q : Unit) => hs) (fun (q : Unit) => (op = [99, 108, 97, 109, 112] → fitB low = true ∧ fitB high = true)) (fun q hI6 => ?_) (fun hJ6 => ?_))
 ·have hcf := hI6
  refine W.seqJ1 (fun (q : Unit) => [(0, .str op), (1, v), (2, .int .i64 low), (3, .int .i64 high)]) (fun (q : Unit) => hs) (fun (q : Unit) => opK op) (fun q hI14 => ?_) (fun hJ14 => ?_)
  ·have hk := hI14
   refine W.seqJ1 (fun (q : Unit) => [(0, .str op), (1, v), (2, .int .i64 low), (3, .int .i64 high)]) (fun (q : Unit) => hs) (fun (q : Unit) => (op = [99, 108, 97, 109, 112] → fitB low = true ∧ fitB high = true ∧ low ≤ high)) (fun q hI16 => ?_) (fun hJ16 => ?_)
   ·have hcl := hI16
    refine zr (za rfl (zk (W.seq (zr (za (zi 0) (zk (W.block (W.loop_ind5 (fun (i : Nat) (X : List El) (u : AV) (hp : HSt) (hl : HSt) => [(0, .str op), (1, v), (2, .int .i64 low), (3, .int .i64 high), (11, u), (12, .int .i64 ((i : Nat) : Int))]) (fun (i : Nat) (X : List El) (u : AV) (hp : HSt) (hl : HSt) => ((hs ++ hp) ++ hl)) (fun (i : Nat) (X : List El) (u : AV) (hp : HSt) (hl : HSt) => i ≤ V.length ∧ P2 X = (eachL op low high V).take i ∧ X.length = i ∧ OwnE 2 (cE X) X.length u hp ∧ (∀ x ∈ X, LIn hl x.2.1 x.1) ∧ WZ hl ∧ EBd X ∧ ∀ k, k < i → fitB (oneM op (eg V k).2.2 low high) = true) (fun (i : Nat) (X : List El) (u : AV) (hp : HSt) (hl : HSt) => V.length - i) (0) ([]) (.nils) ([]) ([]) ⟨Nat.zero_le _, rfl, rfl, OwnE.nil 2, fun x hx => by simp at hx, WZ.nil, ebd_nil, fun k q => by omega⟩ zv gc (fun i X u hp hl hI0 ih0 => ?_)))))))))
    obtain ⟨h1, h2, h3, hO, hL, hwz, hXB, hfit⟩ := hI0
    have hw := hwz.w
    refine W.seq (zr (zm rfl (zm rfl (zq (Q.len ud22 rfl (EIn.len hV)) (zq (Q.bin rfl rfl rfl (bvl ltn)) (zk (W.cD rfl (fun hc49 => ?_) (fun hc49 => ?_))))))))
    ·obtain ⟨bv, szv, exv, rfl, wv, mv⟩ := EIn.full hV zy
     refine zw (W.seq (W.block (zr (zm rfl (zm rfl (zm rfl (zq (Q.iS ud22 sz35 rfl rfl zo) (zq (Q.fieldAddr fa35_1 rfl rfl) (zq (Q.l1 rfl (List.mem_append_left _ (List.mem_append_left _ mv)) ag3 (cE_f1 zo)) (zm rfl (zm rfl (WO.cV rfl (oLc rfl (oLc rfl (oLc rfl (oLc rfl oz)))) rfl (rone_spec op ho _ _ _ (vchk_fit hck zy) hk) SubR.nil rfl (za rfl (zk (W.seq (zr (zm rfl (WO.cV rfl (oLc rfl oz) rfl (rfits_spec _) SubR.nil rfl (zq (Q.not rfl rfl) (zk (W.sub (zc 63 rfl (zc 13 rfl (zc 0 rfl (zc 1 rfl (zc 2 rfl (zc 3 rfl (zc 11 rfl (zc 12 rfl zzn)))))))) (W.condS rfl (fun hc63 => ?_) (fun hc63 => ?_)))))))))))))))))))))))
     ·refine zr (za rfl (za (zi 11) (zk (W.ret ?_))))
      refine End.Kr (End.Br (End.Kr (End.Lr (End.Br (End.Kr (End.ret (ResL.tmp rfl (z1 rfl)) (hs' := []) ⟨_, [], .nils, each_pre (eachPre_11 hck hk hcl (i := i) zy (by simpa using hc63)), VOwn.nil, rfl⟩ no_wl (SubH.nil _)))))))
     have hf1 : fitB (oneM op (eg V i).2.2 low high) = true := (by simpa using hc63)
     refine zw (W.reg (zm rfl (zm rfl (zm rfl (zq (Q.iS ud22 sz35 rfl rfl zo) (zq (Q.fieldAddr fa35_0 rfl rfl) (zq (Q.l1 rfl (List.mem_append_left _ (List.mem_append_left _ mv)) ag33 (cE_f0 zo)) (WO.call0 rfl (oLc rfl oz) rfl (rnless_spec hs hro _ _ (hV.at zy) (hB.at zy).1) (SubR.appl (SubR.appl (SubR.s hro))) rfl (fun v70 D70 hP70 => WO.subH (hs' := (hs ++ hl ++ D70 ++ hp)) (SubH.op (perm_tailO (N := []) (G := D70) (K := []) (X := hs ++ hp ++ hl) (by simp only [List.append_assoc, List.nil_append]; exact List.perm_iff_count.2 (by intro z; simp only [List.append_eq, List.count_append, List.count_nil]; omega)))) (zm rfl (zq (Q.build pl35 (opc rfl (opc rfl opn)) rfl (cs := [_, _]) (fillE2 (OwnE.cell hP70))) (WO.bslice ud22 sz35 zr35 rfl (opc rfl opn) rfl (cs := [_, _]) rfl (and_tt (OwnE.cell hP70) rfl) rfl (fun b1 => WO.appAny (A := ([] ++ hs ++ hl ++ D70)) ap22_22 hO rfl rfl (Src.slice (zt 0 rfl) rfl) rfl zy (by decide) (SubH.of_sublist (List.sublist_cons_self _ _)) rfl (fun v74 hp74 hO74 => za rfl (WO.nil (End.KB (End.K (W.reg (zm rfl (zq (Q.bin rfl (zi 1) rfl zp) (za rfl (WO.nil (End.KL (W.sub zv (W.sH gc (ih0 (i + 1) (X ++ [(v70, (eg V i).2.1.filter (dropP [[95, 95, 110, 97, 109, 101, 95, 95]]), oneM op (eg V i).2.2 low high)]) (v74) (hp74) (hl ++ D70) ?_ ?_))))))))))))))))))))))))))
     ·exact ⟨by omega, each_next h2 zy, by simp [h3], own_snoc hO74, lin_snoc hL (LIn.own hP70), WZ.app hwz (OwnE.wz hP70), ebd_snoc hXB zy (hB.at zy).1 hf1, fun k q => by rcases Nat.lt_or_ge k i with q1 | q1; exact hfit k q1; obtain rfl : k = i := zy; exact hf1⟩
     exact zo
    have hXe : P2 X = eachL op low high V := (by rw [h2]; exact List.take_of_length_le (by rw [eachL_len]; omega))
    refine W.exit (End.Kx (End.Lx (End.Bh (End.K (zr (zm rfl (WO.call0 rfl (oLc rfl oz) rfl (rord_spec (ro (hp ++ hl)) ro_w X u (EIn.own hO hL) hXB) (SubR.ro gc) rfl (fun v76 D76 hP76 => ?_))))))))
    obtain ⟨e76, W76, w76, hR76, hM76, hO76, rfl⟩ := hP76
    refine WO.subH (hs' := (hs ++ hp ++ hl ++ D76)) (SubH.op (perm_tail (N := []) (G := D76) (K := []) (X := hs ++ hp ++ hl))) (zq (Q.extract rfl rfl) (zq (Q.extract rfl rfl) (za rfl (za rfl (zk (W.sub (zc 9 rfl (zc 8 rfl zzn)) (W.ret ?_)))))))
    refine End.ret (ResL.tmp rfl (z1 rfl)) (hs' := D76 ++ hl) ⟨e76, W76, w76, each_go (eachPre_no hck hk hcl fun k q => hfit k zy) (hXe ▸ hR76), ⟨D76, hl, rfl, hO76, fun x hx => hL x (hM76 x hx), hwz, ord_ebd hR76 hM76 hXB⟩, rfl⟩ (wa (OwnE.w hO76) hw) gc
   refine zr (zm rfl (zq (Q.bin rfl (oc (v := .str [99, 108, 97, 109, 112]) (by kernel_rfl)) rfl bv_seql) (zm rfl (WO.sD (d := 41) rfl (fun hc41 => ?_) (fun hc41 => ?_)))))
   ·refine WO.gT rfl rfl (zm rfl (WO.gT rfl rfl (zm rfl (WO.gT rfl rfl (zq (Q.bin rfl rfl rfl (bv_gtr (ltA_eq _ _))) (zq (Q.pT rfl rfl) (zk (W.cD rfl (fun hc45 => ?_) (fun hc45 => ?_)))))))))
    ·refine zr (za rfl (za (zi 0) (zk (W.ret ?_))))
     refine End.Kr (End.ret (ResL.tmp rfl (z1 rfl)) (hs' := []) ⟨_, [], .nils, each_pre (eachPre_0 hck hc41 (hcf hc41).1 (hcf hc41).2 (by simpa using hc45)), VOwn.nil, rfl⟩ no_wl (SubH.nil _))
    refine W.skip (End.K (W.sub zv (W.sH (SubH.refl _) (hJ16 (()) ?_))))
    exact fun h => ⟨(hcf h).1, (hcf h).2, by omega⟩
   refine zg rfl rfl (zg rfl rfl (zg rfl rfl (zq (Q.pF rfl rfl) (zk (W.condF rfl (W.skip (End.K (W.sub zv (W.sH (SubH.refl _) (hJ16 (()) ?_))))))))))
   exact fun h => absurd h hc41
  refine zr (zm rfl (zk (W.block (W.seq (zr (zq (Q.bin rfl (oc (v := .str [110, 101, 103]) (by kernel_rfl)) rfl bv_seql) (za rfl (zk (W.cD rfl (fun hc32 => ?_) (fun hc32 => ?_))))))))))
  ·refine zw (W.condT rfl (W.skip (End.KB (End.K (W.sub zv (W.sH (SubH.refl _) (hJ14 (()) ?_)))))))
   exact (by unfold opK; simp_all)
  refine zr (zq (Q.bin rfl (oc (v := .str [97, 98, 115]) (by kernel_rfl)) rfl bv_seql) (za rfl (zk (W.cD rfl (fun hc32 => ?_) (fun hc32 => ?_)))))
  ·refine zw (W.condT rfl (W.skip (End.KB (End.K (W.sub zv (W.sH (SubH.refl _) (hJ14 (()) ?_)))))))
   exact (by unfold opK; simp_all)
  refine zr (zq (Q.bin rfl (oc (v := .str [99, 101, 105, 108]) (by kernel_rfl)) rfl bv_seql) (za rfl (zk (W.cD rfl (fun hc32 => ?_) (fun hc32 => ?_)))))
  ·refine zw (W.condT rfl (W.skip (End.KB (End.K (W.sub zv (W.sH (SubH.refl _) (hJ14 (()) ?_)))))))
   exact (by unfold opK; simp_all)
  refine zr (zq (Q.bin rfl (oc (v := .str [102, 108, 111, 111, 114]) (by kernel_rfl)) rfl bv_seql) (za rfl (zk (W.cD rfl (fun hc32 => ?_) (fun hc32 => ?_)))))
  ·refine zw (W.condT rfl (W.skip (End.KB (End.K (W.sub zv (W.sH (SubH.refl _) (hJ14 (()) ?_)))))))
   exact (by unfold opK; simp_all)
  refine zr (zq (Q.bin rfl (oc (v := .str [115, 103, 110]) (by kernel_rfl)) rfl bv_seql) (za rfl (zk (W.cD rfl (fun hc32 => ?_) (fun hc32 => ?_)))))
  ·refine zw (W.condT rfl (W.skip (End.KB (End.K (W.sub zv (W.sH (SubH.refl _) (hJ14 (()) ?_)))))))
   exact (by unfold opK; simp_all)
  refine W.reg (zq (Q.bin rfl (oc (v := .str [99, 108, 97, 109, 112]) (by kernel_rfl)) rfl bv_seql) (za rfl (zk (W.cD rfl (fun hc32 => ?_) (fun hc32 => ?_)))))
  ·refine W.skip (End.KB (End.K (W.sub zv (W.sH (SubH.refl _) (hJ14 (()) ?_)))))
   exact (by unfold opK; simp_all)
  refine zr (za rfl (za (zi 9) (zk (W.ret ?_))))
  refine End.Br (End.Kr (End.ret (ResL.tmp rfl (z1 rfl)) (hs' := []) ⟨_, [], .nils, each_pre (eachPre_9 hck (by unfold opK; simp_all)), VOwn.nil, rfl⟩ no_wl (SubH.nil _)))
 refine zr (zm rfl (zq (Q.bin rfl (oc (v := .str [99, 108, 97, 109, 112]) (by kernel_rfl)) rfl bv_seql) (zm rfl (WO.sD (d := 21) rfl (fun hc21 => ?_) (fun hc21 => ?_)))))
 ·refine WO.gT rfl rfl (zm rfl (WO.gT rfl rfl (WO.cV rfl (oLc rfl oz) rfl (rfits_spec _) SubR.nil rfl (WO.gT rfl rfl (zq (Q.not rfl rfl) (WO.gT rfl rfl (zm rfl (WO.split (d := 25) rfl (fun hc25 => ?_) (fun hc25 => ?_)))))))))
  ·refine zg rfl rfl (zg rfl rfl (zg rfl rfl (WO.gT rfl rfl (zq (Q.pT rfl rfl) (zq (Q.pT rfl rfl) (zk (W.sub (zc 30 rfl (zc 0 rfl (zc 1 rfl (zc 2 rfl (zc 3 rfl zzn))))) (W.condT rfl (zr (za rfl (za (zi 2) (zk (W.ret ?_)))))))))))))
   refine End.Kr (End.ret (ResL.tmp rfl (z1 rfl)) (hs' := []) ⟨_, [], .nils, each_pre (eachPre_2 hck hc21 (.inl (by simpa using hc25))), VOwn.nil, rfl⟩ no_wl (SubH.nil _))
  refine WO.gT rfl rfl (zm rfl (WO.gT rfl rfl (WO.cV rfl (oLc rfl oz) rfl (rfits_spec _) SubR.nil rfl (WO.gT rfl rfl (zq (Q.not rfl rfl) (WO.gT rfl rfl (zq (Q.pF rfl rfl) (zq (Q.pT rfl rfl) (zk (W.sub (zc 30 rfl (zc 0 rfl (zc 1 rfl (zc 2 rfl (zc 3 rfl zzn))))) (W.condS rfl (fun hc30 => ?_) (fun hc30 => ?_))))))))))))
  ·refine zr (za rfl (za (zi 2) (zk (W.ret ?_))))
   refine End.Kr (End.ret (ResL.tmp rfl (z1 rfl)) (hs' := []) ⟨_, [], .nils, each_pre (eachPre_2 hck hc21 (.inr (by simpa using hc30))), VOwn.nil, rfl⟩ no_wl (SubH.nil _))
  refine W.skip (End.K (W.sub zv (W.sH (SubH.refl _) (hJ6 (()) ?_))))
  exact fun _ => ⟨by simpa using hc25, by simpa using hc30⟩
 refine zg rfl rfl (zg rfl rfl (zg rfl rfl (zg rfl rfl (WO.gF rfl rfl (.inr rfl) rfl (WO.gF rfl rfl (.inr rfl) rfl (WO.gF rfl rfl (.inr rfl) rfl (zg rfl rfl (zq (Q.pF rfl rfl) (zk (W.sub (zc 30 rfl (zc 0 rfl (zc 1 rfl (zc 2 rfl (zc 3 rfl zzn))))) (W.condF rfl (W.skip (End.K (W.sub zv (W.sH (SubH.refl _) (hJ6 (()) ?_))))))))))))))))
 exact fun h => absurd h hc21

theorem vsame_spec (hs : HSt) (hro : ∀ e ∈ hs, e.w = false) (X Y : List El) (vx vy : AV) (hX : EIn hs X vx) (hY : EIn hs Y vy) (hbX : EBd X) (hbY : EBd Y) : Spec tab 14 [vx, vy] [] hs (Val (.bool (decide (P2 X = P2 Y)))) := by
 have h1 := hbX.1
 have h2 := hbY.1
 refine Spec.en (ftg 14 Tryz.func14) rfl (m := 42) rfl (rs := [.tmp 4]) rfl (st := [(0, vx), (1, vy)]) rfl rfl (fun _ => rfl) (fun E => zr (za rfl (zk (W.seq (zr (zm rfl (zq (Q.len ud22 rfl (EIn.len hX)) (zm rfl (zq (Q.len ud22 rfl (EIn.len hY)) (zq (Q.bin rfl rfl rfl (bv_neq ne_nat)) (zk (W.cD rfl (fun hc10 => ?_) (fun hc10 => ?_)))))))))))))
 ·refine zr (za rfl (zk (W.ret (End.Kr (End.rV (z1 rfl) ?_)))))
  exact p2_len (by simpa using hc10)
 refine zw (W.seq (zr (za (zi 0) (zk (W.block (W.loop_ind (fun (i : Nat) => [(0, vx), (1, vy), (5, .int .i64 ((i : Nat) : Int))]) (fun _ => _) (fun (i : Nat) => i ≤ X.length ∧ X.length = Y.length ∧ ∀ k, k < i → (eg X k).2 = (eg Y k).2) (fun (i : Nat) => X.length - i) (0) ⟨Nat.zero_le _, by simpa using hc10, fun k q => by omega⟩ zv (SubH.refl _) (fun i hI0 ih0 => ?_)))))))
 obtain ⟨g1, g2, g3⟩ := hI0
 refine W.seq (zr (zm rfl (zm rfl (zq (Q.len ud22 rfl (EIn.len hX)) (zq (Q.bin rfl rfl rfl (bvl ltn)) (zk (W.cD rfl (fun hc14 => ?_) (fun hc14 => ?_))))))))
 ·obtain ⟨bx, szx, exx, rfl, wx, mx⟩ := EIn.full hX zy
  obtain ⟨by_, szy, exy, rfl, wy, my⟩ := EIn.full hY zy
  refine zw (W.seq (W.block (W.seq (W.regT (by kernel_rfl) (zm rfl (zm rfl (zq (Q.iS ud22 sz35 rfl rfl zo) (zq (Q.fieldAddr fa35_0 rfl rfl) (zq (Q.l1 rfl mx ag33 (cE_f0 zo)) (zm rfl (zm rfl (zq (Q.iS ud22 sz35 rfl rfl zo) (zq (Q.fieldAddr fa35_0 rfl rfl) (zq (Q.l1 rfl my ag33 (cE_f0 zo)) (WO.cV rfl (oLc rfl (oLc rfl oz)) rfl (rsame_spec hs hro _ _ _ _ (hX.at zy) (hY.at zy) (hbX.at zy).1 (hbY.at zy).1) (SubR.s hro) rfl (zq (Q.not rfl not_dec) (zm rfl (WO.sD (d := 29) rfl (fun hc29 => ?_) (fun hc29 => ?_)))))))))))))))))))
  ·refine zg rfl rfl (zg rfl rfl (zg rfl rfl (zg rfl rfl (zg rfl rfl (zg rfl rfl (zg rfl rfl (zg rfl rfl (zg rfl rfl (zg rfl rfl (zg rfl rfl (zq (Q.pT rfl rfl) (zk (W.sub (zc 41 rfl (zc 0 rfl (zc 1 rfl (zc 5 rfl zzn)))) (W.condT rfl (zr (za rfl (zk (W.ret (End.Br (End.Kr (End.Lr (End.Br (End.Kr (End.rV (z1 rfl) ?_))))))))))))))))))))))))
   exact p2_ne (i := i) zy zy (fun e => by have e1 := congrArg Prod.fst e; have e2 := congrArg Prod.snd e; simp_all)
  refine WO.gT rfl rfl (zm rfl (WO.gT rfl rfl (zm rfl (WO.gT rfl rfl (zq (Q.iS ud22 sz35 rfl rfl zo) (WO.gT rfl rfl (zq (Q.fieldAddr fa35_1 rfl rfl) (WO.gT rfl rfl (zq (Q.l1 rfl mx ag3 (cE_f1 zo)) (WO.gT rfl rfl (zm rfl (WO.gT rfl rfl (zm rfl (WO.gT rfl rfl (zq (Q.iS ud22 sz35 rfl rfl zo) (WO.gT rfl rfl (zq (Q.fieldAddr fa35_1 rfl rfl) (WO.gT rfl rfl (zq (Q.l1 rfl my ag3 (cE_f1 zo)) (WO.gT rfl rfl (zq (Q.bin rfl rfl rfl (bv_neq ne_int)) (zq (Q.pF rfl rfl) (zk ?_)))))))))))))))))))))))
  refine W.sub (zc 41 rfl (zc 0 rfl (zc 1 rfl (zc 5 rfl zzn)))) (W.cD rfl (fun hc41 => ?_) (fun hc41 => ?_))
  ·refine zr (za rfl (zk (W.ret (End.Br (End.Kr (End.Lr (End.Br (End.Kr (End.rV (z1 rfl) ?_)))))))))
   exact p2_ne (i := i) zy zy (fun e => by have e1 := congrArg Prod.fst e; have e2 := congrArg Prod.snd e; simp_all)
  refine W.skip (End.KB (End.K (W.reg (zm rfl (zq (Q.bin rfl (zi 1) rfl zp) (za rfl (WO.nil (End.KL (W.sub zv (W.sH (SubH.of_sublist (by simp)) (ih0 (i + 1) ?_ ?_)))))))))))
  ·exact ⟨by omega, g2, fun k q => by rcases Nat.lt_or_ge k i with q1 | q1; exact g3 k q1; obtain rfl : k = i := zy; exact Prod.ext (by simpa using hc29) (by simpa using hc41)⟩
  exact zo
 refine W.exit (End.Kx (End.Lx (End.Bh (End.K (zr (za rfl (zk (W.ret (End.rV (z1 rfl) ?_)))))))))
 exact p2_eq g2 (fun k q => g3 k zy)

theorem own_spec (hs : HSt) (hro : ∀ e ∈ hs, e.w = false) (V : List El) (v : AV) (hV : EIn hs V v) (hB : EBd V) : Spec tab 11 [v] [] hs (fun u D => ∃ X, P2 X = P2 V ∧ VOwn X u D) := by
 have hBl := hB.1
 refine Spec.en (ftg 11 Tryz.func11) rfl (m := 28) rfl (rs := [.tmp 2]) rfl (st := [(0, v)]) rfl rfl (fun _ => rfl) (fun E => zr (za rfl (zk (zr (za rfl (zk (W.seq (zr (za (zi 0) (zk (W.block (W.loop_ind5 (fun (i : Nat) (X : List El) (u : AV) (hp : HSt) (hl : HSt) => [(0, v), (3, u), (4, .int .i64 ((i : Nat) : Int))]) (fun (i : Nat) (X : List El) (u : AV) (hp : HSt) (hl : HSt) => ((hs ++ hp) ++ hl)) (fun (i : Nat) (X : List El) (u : AV) (hp : HSt) (hl : HSt) => i ≤ V.length ∧ P2 X = (P2 V).take i ∧ X.length = i ∧ OwnE 2 (cE X) X.length u hp ∧ (∀ x ∈ X, LIn hl x.2.1 x.1) ∧ WZ hl) (fun (i : Nat) (X : List El) (u : AV) (hp : HSt) (hl : HSt) => V.length - i) (0) ([]) (.nils) ([]) ([]) ⟨Nat.zero_le _, rfl, rfl, OwnE.nil 2, fun x hx => by simp at hx, WZ.nil⟩ zv gc (fun i X u hp hl hI0 ih0 => ?_)))))))))))))
 obtain ⟨h1, h2, h3, hO, hL, hwz⟩ := hI0
 have hw := hwz.w
 refine W.seq (zr (zm rfl (zm rfl (zq (Q.len ud22 rfl (EIn.len hV)) (zq (Q.bin rfl rfl rfl (bvl ltn)) (zk (W.cD rfl (fun hc8 => ?_) (fun hc8 => ?_))))))))
 ·obtain ⟨bv, szv, exv, rfl, wv, mv⟩ := EIn.full hV zy
  refine zw (W.seq (W.block (W.regD 15 (hs) (by kernel_rfl) (fun e he => ⟨e.w, by obtain ⟨b, o, w⟩ := e; simp [he]⟩) (WD.q (Q.move rfl) (OwnE.bq hO) rfl (WD.bslice ud33 sz68 zr68 rfl opn rfl (cs := []) rfl rfl rfl (fun e he => ⟨e.w, by obtain ⟨b, o, w⟩ := e; simp [he]⟩) (fun b1 => WD.q (Q.move rfl) bqs rfl (WD.q (Q.move rfl) bqi rfl (WD.q (Q.iS ud22 sz35 rfl rfl zo) bqp rfl (WD.q (Q.fieldAddr fa35_0 rfl rfl) bqp rfl (WD.q (Q.l1 rfl mv ag33 (cE_f0 zo)) (LIn.bq (hV.at zo)) rfl (WD.appAny (A := _) ap33_33 (OwnE.cons rfl) rfl rfl (Src.mono (fun e he => ⟨e.w, by obtain ⟨b, o, w⟩ := e; simp [he]⟩) (Src.lin (hV.at zy))) (cL_len _) (by have := (hB.at (i := i) zy).1.1; omega) (by decide) (SubH.op (List.perm_append_singleton _ _)) rfl (fun e he => ⟨e.w, by obtain ⟨b, o, w⟩ := e; simp [he]⟩) (fun v18 hp18 hO18 => WD.q (Q.move rfl) bqs rfl (WD.q (Q.move rfl) bqi rfl (WD.q (Q.iS ud22 sz35 rfl rfl zo) bqp rfl (WD.q (Q.fieldAddr fa35_1 rfl rfl) bqp rfl (WD.q (Q.l1 rfl mv ag3 (cE_f1 zo)) bqi rfl (WD.q (Q.build pl35 (opc rfl (opc rfl opn)) rfl (cs := [_, _]) (fillE2 (OwnE.cell hO18))) (bq_agg2 (OwnE.bq0 hO18)) rfl (WD.bslice ud22 sz35 zr35 rfl (opc rfl opn) rfl (cs := [_, _]) rfl (and_tt (OwnE.cell hO18) rfl) rfl (fun e he => ⟨e.w, by obtain ⟨b, o, w⟩ := e; simp [he]⟩) (fun b2 => WD.appAny (A := ([] ++ hs ++ hl ++ hp18)) ap22_22 hO rfl rfl (Src.slice (zt 0 rfl) rfl) rfl zy (by decide) gc rfl (fun e he => ⟨e.w, by obtain ⟨b, o, w⟩ := e; simp [he]⟩) (fun v26 hp26 hO26 => WD.q (Q.assign rfl) (OwnE.bq hO26) rfl (WD.nil (End.KB (End.K (W.sub (zc 3 rfl (zc 0 rfl (zc 4 rfl zzn))) ?_))))))))))))))))))))))))
  refine W.reg (zm rfl (zq (Q.bin rfl (zi 1) rfl zp) (za rfl (WO.nil (End.KL (W.sub zv (W.sH gc (ih0 (i + 1) (X ++ [(v18, (eg V i).2)]) (v26) (hp26) (hl ++ hp18) ?_ ?_))))))))
  ·exact ⟨by omega, own_next h2 zy, by simp [h3], own_snoc hO26, lin_snoc hL (LIn.own (by simpa using hO18)), WZ.app hwz (OwnE.wz hO18)⟩
  exact zo
 refine W.exit (End.Kx (End.Lx (End.Bh (End.K (zr (zm rfl (za rfl (zk (W.ret ?_)))))))))
 refine End.ret (z1 rfl) (hs' := hp ++ hl) ⟨X, by rw [h2]; exact List.take_of_length_le (by simp [P2]; omega), hp, hl, rfl, hO, hL, hwz, p2_ebd (by rw [h2]; exact List.take_of_length_le (by simp [P2]; omega)) hB⟩ (wa (OwnE.w hO) hw) gc
end Go.Proofs.YtmblgaehfjheeaaGreat.Ev
