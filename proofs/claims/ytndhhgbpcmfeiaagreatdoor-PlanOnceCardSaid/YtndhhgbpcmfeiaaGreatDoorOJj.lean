/- Chapter 20, walks: how many nodes a tree has; the plan of a text's tree. -/
import Derived.Test.YtndhhgbpcmfeiaaGreatDoorOHh
import Derived.Test.YtndhhgbpcmfeiaaGreatDoorOJg
import Derived.Test.YtndhhgbpcmfeiaaGreatDoorOEvX
import Derived.Test.YtndhhgbpcmfeiaaGreatDoorOJa
namespace Go.Proofs.YtndhhgbpcmfeiaaGreatDoor.Ev
open Go.RowKit
set_option maxRecDepth 100000
set_option maxHeartbeats 1000000
def Ie (v : AV) (D : ak) : Prop := ∃ (t : TD) (c : List AV) (b : Bool) (w : AV) (Z : List IE), v = .tuple [w, .agg c, .bool b] /\ TRep D t c /\ mP t <= 1024 /\ AB t /\ (b = false -> Z = []) /\ IIn D Z w /\ ILB Z /\ (b = true -> D2 Z = fI t []) /\ (∀ x ∈ Z, x.vk = .nils) /\ ∀ e ∈ D, e.w = true
theorem yZ {hs : ak} {b : Nat} {o : AObj} (h : MemH (Ev.ro hs) b o) : MemH hs b o := by
 obtain ⟨w, h⟩ := h
 obtain ⟨e, he, e2⟩ := List.mem_map.1 h
 cases e2
 exact ⟨e.w, he⟩
theorem Gp {Z : List IE} {w : AV} {hp hl D D0 : ak} (hO : OwnE 12 (cI Z) Z.length w hp) (hX : ∀ x ∈ Z, IOK (ro D0 ++ hl) x /\ x.vk = .nils /\ IBd x) (hD : D = hp ++ hl) : IIn (D0 ++ D) Z w := by
 subst hD
 refine ⟨(RIn.own hO).mono fun b o ⟨w, q⟩ => ⟨w, by simp [q]⟩, fun x hx => (hX x hx).1.mono fun b o ⟨w, q⟩ => ?_⟩
 rcases List.mem_append.1 q with q | q
 ·exact (yZ ⟨w, q⟩).appl'
 ·exact ⟨w, by simp [q]⟩
theorem Hm {e : Nat} {Z : List IE} (hE : e ≠ 0 -> Z = []) : decide (e = 0) = false -> Z = [] := fun h => hE (of_decide_eq_false h)
theorem Hl {hs : ak} {t : TD} {c : List AV} (h : TRep hs t c) : (AV.agg c).beq (AV.agg c) = true := by
 obtain ⟨d, vm, vn, vk, rfl, h1, h2, h3, _⟩ := lP h
 exact Cy h1 h2 h3
theorem rM {hs : ak} (hro : ∀ e ∈ hs, e.w = false) : ∀ (d : Nat) (c : List AV), NRep hs d c ->
  ∃ t e : Nat, Spec aN 35 [.agg c] [] hs (fJ (P16.tpair t e)) /\ (e = 0 -> 1 <= t /\ t <= 3)
 | 0, _, h => h.elim
 | d + 1, c, ⟨k, op, n, ms, rg, off, md, nm, sd, bl, kd, h1, h2, h3, h5, h6, h4⟩ => by
  subst h1
  rcases h4 with rfl | ⟨b, len, ob, rfl, hm, hl, hk⟩
  ·have hty : ∀ i, i < 0 -> (fun _ : Nat => (0 : Nat)) i = 0 -> 1 <= (fun _ : Nat => (1 : Nat)) i /\ (fun _ : Nat => (1 : Nat)) i <= 3 := fun i hi => absurd hi (Nat.not_lt_zero _)
   exact ⟨_, _, P16.type_spec k op h2 n ms rg off md nm sd bl h5 h6 hs hro d .nils 0 rfl rfl zy (fun _ => []) (fun i hi => absurd hi (Nat.not_lt_zero _)) _ _ (fun i hi => absurd hi (Nat.not_lt_zero _)) hty, P16.typeM_ok hty⟩
  ·have hk2 : ∀ i, ∃ c' : List AV, ∃ t e : Nat, i < len -> (cn ob.cells ((0 + i) * 11) 11 = some c' /\ NRep hs d c' /\ Spec aN 35 [.agg c'] [] hs (fJ (P16.tpair t e)) /\ (e = 0 -> 1 <= t /\ t <= 3)) := by
    intro i
    by_cases hi : i < len
    ·obtain ⟨c', g1, g2⟩ := hk i hi
     obtain ⟨t, e, g3, g5⟩ := rM hro d c' g2
     exact ⟨c', t, e, fun _ => ⟨g1, g2, g3, g5⟩⟩
    ·exact ⟨[], 0, 0, fun h => absurd h hi⟩
   refine Exists.elim (Classical.skolem.1 hk2) fun kc hk3 => ?_
   refine Exists.elim (Classical.skolem.1 hk3) fun ty hk4 => ?_
   refine Exists.elim (Classical.skolem.1 hk4) fun er hk5 => ?_
   have hty : ∀ i, i < len -> er i = 0 -> 1 <= ty i /\ ty i <= 3 := fun i hi => (hk5 i hi).2.2.2
   have hK : ∀ i, i < len -> ∃ b' ob', AV.slice b 0 len 11 = .slice b' 0 len 11 /\ MemH hs b' ob' /\ cn ob'.cells ((0 + i) * 11) 11 = some (kc i) /\ NRep hs d (kc i) :=
    fun i hi => ⟨b, ob, rfl, hm, (hk5 i hi).1, (hk5 i hi).2.1⟩
   exact ⟨_, _, P16.type_spec k op h2 n ms rg off md nm sd bl h5 h6 hs hro d (.slice b 0 len 11) len rfl rfl hl kc hK ty er (fun i hi => (hk5 i hi).2.2.1) hty, P16.typeM_ok hty⟩

theorem s7 (s : List Nat) (hs0 : Bytes s) : Spec aN 25 [.str s] [] [] (Ie) := by
 refine av (cX 25 Tryz.func25) rfl (m := 28) rfl (rs := [.tmp 2, .cell 3 26, .tmp 4]) rfl (st := [(0, .str s)]) rfl rfl (fun _ => rfl) (fun E => zr (za rfl (WO.alloc ia rfl (fun b1 => za rfl (zk (zr (zm rfl (WO.call0 rfl (aD rfl oz) rfl (P16.parse_spec s hs0) SubR.nil rfl (fun v12 D12 hP12 => ?_)))))))))
 obtain ⟨x, hq, m, at_, e0, rfl, nk, nw, hm, rfl⟩ := hP12
 obtain ⟨dd, hdd⟩ := nk.nr
 obtain ⟨t, ht, hz, hky⟩ := CW hdd
 obtain ⟨tt, er, hT1, _⟩ := rM (hs := ro D12) iH dd _ (hdd.mono (fun b o h => h.ro)).nrep
 refine WO.subH (hs' := _ :: (D12)) (SubH.op (aG (N := []) (G := D12) (K := [_]) (X := []))) (zm rfl (zq (Q.extract rfl rfl) (zq (Q.extract rfl rfl) (zq (Q.extract rfl rfl) (WO.alloc ia rfl (fun b2 => zS aL rfl rfl (i := 0) rfl (aQ rfl (P16.ckA nk.ms nk.nm nk.kd)) rfl (hs' := _ :: _ :: _) rfl (za rfl (za rfl (zk (W.seq (zr (zm rfl (zq (aa rfl (zi 0) rfl (aR cP)) (zk (aw rfl (fun hc17 => ?_) (fun hc17 => ?_))))))))))))))))
 ·refine W.seq (dz (by kernel_rfl) (zq (zL rfl (zt 0 rfl) bh aL rfl) (za rfl (zS aL rfl rfl (i := 1) rfl (aQ rfl (P16.ckA nk.ms nk.nm nk.kd)) rfl (hs' := _ :: _ :: _) rfl (za rfl (zk (W.ret ?_)))))))
  refine ac (End.ret (ResL.tmp rfl (zA rfl (zt 1 rfl) bh aL rfl (z1 rfl))) (hs' := D12) ⟨t, _, false, .nils, [], rfl, ht, by omega, hky, fun _ => rfl, ⟨RIn.nil, fun x hx => by simp at hx⟩, ⟨by simp, fun x hx => by simp at hx⟩, fun h => by (cases h), fun x hx => by simp at hx, nw⟩ nw gc)
 refine zw (zr (zq (zL rfl (zt 0 rfl) bh aL rfl) (WO.call0 rfl (aD rfl oz) rfl (F8 (ro D12) iH t _ (TRep.mono (fun b o h => h.ro) ht) zy tt er hT1) (SubR.ro gc) rfl (fun v21 D21 hP21 => ?_))))
 obtain ⟨ee1, he1, Z1, w1, hp1, hl1, rfl, hO1, hX1, hD1, hE1, hw1, hDD1⟩ := hP21
 have hl1' : Z1.length <= 1048576 := (by by_cases q : GQ tt er = 0 <;> first | (rw [<- bP, hD1 (he1.trans q), fT]; simp; omega) | (rw [hE1 zy]; simp))
 refine WO.subH (hs' := _ :: _ :: (D12 ++ D21)) (SubH.op (aG (N := []) (G := D21) (K := [_, _]) (X := D12))) (zm rfl (zq (Q.extract rfl rfl) (zq (Q.extract rfl rfl) (za rfl (za rfl (zk (W.sub (zc 9 rfl (zc 8 rfl (zc 5 rfl (zc 3 rfl aI)))) (W.seq (FK (by kernel_rfl) (WX.f (Q.move rfl) (OwnE.bq hO1) rfl (WX.q (by kernel_rfl) (zL rfl (zt 0 rfl) bh aL rfl) (Hl ht) rfl (WX.f (Q.move rfl) kg rfl (WX.f (aa rfl (zi 0) rfl (ag aA)) bw rfl (WX.f (Q.assign rfl) (OwnE.bq hO1) rfl (WX.store aL rfl rfl (j := 1) rfl (aQ rfl (P16.ckA nk.ms nk.nm nk.kd)) (cs := [_, _, _, _, _, _, _, _, _, _, _]) rfl (hs' := _ :: _ :: _) rfl (WX.f (Q.assign rfl) bw rfl (WX.nil (End.K (W.ret ?_)))))))))))))))))))
 refine End.ret (ResL.tmp rfl (zA rfl (zt 1 rfl) bh aL rfl (z1 rfl))) (hs' := D12 ++ D21) ⟨t, _, decide (ee1 = 0), w1, Z1, rfl, TRep.mono (fun b o q => q.appl') ht, by omega, hky, Hm hE1, Gp hO1 hX1 hDD1, Ga hX1 hl1', fun h => hD1 (of_decide_eq_true h), fun x hx => (hX1 x hx).2.1, wa nw (by rw [hDD1]; exact wa (OwnE.w hO1) hw1)⟩ (wa nw (by rw [hDD1]; exact wa (OwnE.w hO1) hw1)) gc
mutual
theorem yA : ∀ (t : TD) (P : List PI), AB t -> (∀ p ∈ P, lN p.1) -> ∀ p ∈ fI t P, lN p.1
 | .node d ks, P, h, hP, p, hp => by
  rw [AB] at h
  rw [fI] at hp
  rcases List.mem_append.1 hp with hp | hp
  ·exact yz ks P [] h.2 hP p hp
  ·rw [List.mem_singleton.1 hp]; exact h.1
theorem yz : ∀ (ks : List TD) (P : List PI) (A : List Int), lq ks -> (∀ p ∈ P, lN p.1) -> ∀ p ∈ (cv ks P A).1, lN p.1
 | [], P, A, _, hP, p, hp => by rw [cv] at hp; exact hP p hp
 | k :: ks, P, A, h, hP, p, hp => by
  rw [lq] at h
  rw [cv] at hp
  exact yz ks _ _ h.2 (yA k P h.1 hP) p hp
end
theorem Gn {D : ak} {Z : List IE} {w : AV} {t : TD} (hZ : IIn D Z w) (hvk : ∀ x ∈ Z, x.vk = .nils) (hD : D2 Z = fI t []) (hz : mP t <= 1024) (hky : AB t) :
  Z.length = mP t /\ d5 Z = 0 /\ OKP (D2 Z) /\ qL (D2 Z) ((D2 Z).length - 1) = t /\ iC Z (Z.length - 1) = t /\ ∀ x ∈ Z, lN x.d := by
 obtain ⟨hOK, _, _, hTr⟩ := nv t [] OKP.nil fun j hj => absurd hj (Nat.not_lt_zero _)
 rw [<- hD] at hOK hTr
 have hl : Z.length = mP t := by rw [<- bP, hD, fT]; simp
 have hp := mL (t := t)
 have hnk : ∀ x ∈ Z, x.nk = 0 := fun x hx => by
  have h1 := (hZ.2 x hx).k
  rw [hvk x hx] at h1
  rcases h1 with ⟨_, h⟩ | ⟨b, o, z, h⟩
  ·exact h
  ·cases h
 refine ⟨hl, sm hOK hnk zy zy, hOK, hTr, ?_, fun x hx => ?_⟩
 ·rw [Dp]
  rw [bP] at hTr
  exact hTr
 ·have : (x.d, x.ars) ∈ D2 Z := List.mem_map.2 ⟨x, hx, rfl⟩
  rw [hD] at this
  exact yA t [] hky (fun p hp => by simp at hp) _ this
theorem uK {L : List IE} {e : Nat} {Q : List PI} (hc : d5 L = 0) (h : AG L e Q) : e = 0 /\ Q = cr (D2 L) := by
 rcases h with ⟨g, _⟩ | ⟨_, h1, h2⟩
 ·exact absurd hc g
 ·exact ⟨h1, h2⟩
theorem Aq {Z Y : List IE} {t : TD} (hOK : OKP (D2 Z)) (hc : d5 Z = 0) (hn : ∀ x ∈ Y, x.nk = 0) (hY : D2 Y = cr (D2 Z)) (hT : qL (D2 Z) ((D2 Z).length - 1) = t) : d5 Y = 0 /\ iC Y (Y.length - 1) = t /\ Y.length <= Z.length := by
 obtain ⟨h0, h1, _⟩ := gH hc
 have hle := C6 hOK
 have hpos := rD hOK (by rw [bP]; exact h0)
 have hla := qe hOK (by rw [bP]; exact h0)
 rw [<- hY] at hle hpos hla
 rw [bP, bP] at hle
 rw [bP] at hpos
 refine ⟨sm (by rw [hY]; exact mI hOK) hn hpos zy, ?_, hle⟩
 rw [Dp, <- hT, <- hla, bP]
def jS (n : Int) : Bool := decide (-1152921504606846976 <= n) && decide (n <= 1152921504606846976)
def fc (op : List Nat) : Bool := decide (op = [43] \/ op = [45] \/ op = [42] \/ op = [47] \/ op = [37])
def fi (op : List Nat) : Bool := decide (op = [61, 61] \/ op = [33, 61] \/ op = [60, 61] \/ op = [62, 61] \/ op = [60] \/ op = [62])
def eJ (op : List Nat) (a b : Int) : Bool := if op = [61, 61] then decide (a = b) else if op = [33, 61] then decide (a ≠ b) else if op = [60, 61] then decide (a <= b) else if op = [62, 61] then decide (b <= a) else if op = [60] then decide (a < b) else decide (b < a)
def jv (op : List Nat) (a b : Int) : Int × Int :=
 if fc op = false /\ fi op = false then (0, 9) else if ¬ (jS a = true /\ jS b = true) then (0, 2) else if op = [43] then sJ a b else if op = [45] then sK a b else if op = [42] then py a b else if op = [47] then m6 a b else if op = [37] then m7 a b
 else if eJ op a b = true then (1000000, 0) else (0, 0)
section
variable {op : List Nat} {a b : Int}
theorem Gl (h1 : fc op = false) (h2 : fi op = false) : jv op a b = (0, 9) := if_pos ⟨h1, h2⟩
theorem s4 (h : fc op = true \/ fi op = true) (hf : jS a = false \/ jS b = false) : jv op a b = (0, 2) := by
 unfold jv
 rw [if_neg (by rcases h with h | h <;> simp [h]), if_pos (by rcases hf with h | h <;> simp [h])]
theorem EJ (h : fc op = true \/ fi op = true) (ha : jS a = true) (hb : jS b = true) : jv op a b = if op = [43] then sJ a b else if op = [45] then sK a b else if op = [42] then py a b else if op = [47] then m6 a b else if op = [37] then m7 a b
 else if eJ op a b = true then (1000000, 0) else (0, 0) := by
 unfold jv
 rw [if_neg (by rcases h with h | h <;> simp [h]), if_neg (by simp [ha, hb])]
end

theorem jt (n : Int) : Spec aN 75 [.int .i64 n] [] [] (fJ (.bool (jS n))) := by
 refine av (cX 75 Tryz.func75) rfl (m := 9) rfl (rs := [.tmp 2]) rfl (st := [(0, .int .i64 n)]) rfl rfl (fun _ => rfl) (fun E => zr (za rfl (zk (zr (zm rfl (zq (aa rfl rfl rfl (dT ir)) (zm rfl (ay (d := 5) rfl (fun hc5 => ?_) (fun hc5 => ?_)))))))))
 ·refine zT (zm rfl (zT (zq (aa rfl (zi 1152921504606846976) rfl (dT ir)) (zq (aj rfl rfl) (za rfl (zk (W.ret (ae (z1 rfl) ?_))))))))
  first | (simp_all [ah, jS]; done) | (simp_all [ah, jS]; omega)
 refine z2 (zq (ax rfl rfl) (za rfl (zk (W.ret (ae (z1 rfl) ?_)))))
 first | (simp_all [ah, jS]; done) | (simp_all [ah, jS]; omega)

theorem AR (op : List Nat) (ho : Bytes op) : Spec aN 105 [.str op] [] [] (fJ (.bool (fc op))) := by
 refine av (cX 105 Tryz.func105) rfl (m := 10) rfl (rs := [.tmp 2]) rfl (st := [(0, .str op)]) rfl rfl (fun _ => rfl) (fun E => zr (za rfl (zk (W.seq (zr (zm rfl (zk (W.block (W.seq (zr (zq (aa rfl (oc (v := .str [43]) (by kernel_rfl)) rfl aH) (za rfl (zk (aw rfl (fun hc4 => ?_) (fun hc4 => ?_)))))))))))))))
 ·refine zw (au rfl (zr (za rfl (zk (W.ret (ad (ac (ae (z1 rfl) ?_))))))))
  first | rfl | (refine congrArg AV.bool ?_; simp_all [fc, fi]; done) | (show AV.bool _ = AV.bool _; simp_all [fc, fi])
 refine zr (zq (aa rfl (oc (v := .str [45]) (by kernel_rfl)) rfl aH) (za rfl (zk (aw rfl (fun hc4 => ?_) (fun hc4 => ?_)))))
 ·refine zw (au rfl (zr (za rfl (zk (W.ret (ad (ac (ae (z1 rfl) ?_))))))))
  first | rfl | (refine congrArg AV.bool ?_; simp_all [fc, fi]; done) | (show AV.bool _ = AV.bool _; simp_all [fc, fi])
 refine zr (zq (aa rfl (oc (v := .str [42]) (by kernel_rfl)) rfl aH) (za rfl (zk (aw rfl (fun hc4 => ?_) (fun hc4 => ?_)))))
 ·refine zw (au rfl (zr (za rfl (zk (W.ret (ad (ac (ae (z1 rfl) ?_))))))))
  first | rfl | (refine congrArg AV.bool ?_; simp_all [fc, fi]; done) | (show AV.bool _ = AV.bool _; simp_all [fc, fi])
 refine zr (zq (aa rfl (oc (v := .str [47]) (by kernel_rfl)) rfl aH) (za rfl (zk (aw rfl (fun hc4 => ?_) (fun hc4 => ?_)))))
 ·refine zw (au rfl (zr (za rfl (zk (W.ret (ad (ac (ae (z1 rfl) ?_))))))))
  first | rfl | (refine congrArg AV.bool ?_; simp_all [fc, fi]; done) | (show AV.bool _ = AV.bool _; simp_all [fc, fi])
 refine am (zq (aa rfl (oc (v := .str [37]) (by kernel_rfl)) rfl aH) (za rfl (zk (aw rfl (fun hc4 => ?_) (fun hc4 => ?_)))))
 ·refine zr (za rfl (zk (W.ret (ad (ac (ae (z1 rfl) ?_))))))
  first | rfl | (refine congrArg AV.bool ?_; simp_all [fc, fi]; done) | (show AV.bool _ = AV.bool _; simp_all [fc, fi])
 refine W.skip (End.KB (End.K (zr (za rfl (zk (W.ret (ae (z1 rfl) ?_)))))))
 first | rfl | (refine congrArg AV.bool ?_; simp_all [fc, fi]; done) | (show AV.bool _ = AV.bool _; simp_all [fc, fi])

theorem Bo (op : List Nat) (ho : Bytes op) : Spec aN 106 [.str op] [] [] (fJ (.bool (fi op))) := by
 refine av (cX 106 Tryz.func106) rfl (m := 11) rfl (rs := [.tmp 2]) rfl (st := [(0, .str op)]) rfl rfl (fun _ => rfl) (fun E => zr (za rfl (zk (W.seq (zr (zm rfl (zk (W.block (W.seq (zr (zq (aa rfl (oc (v := .str [61, 61]) (by kernel_rfl)) rfl aH) (za rfl (zk (aw rfl (fun hc4 => ?_) (fun hc4 => ?_)))))))))))))))
 ·refine zw (au rfl (zr (za rfl (zk (W.ret (ad (ac (ae (z1 rfl) ?_))))))))
  first | rfl | (refine congrArg AV.bool ?_; simp_all [fc, fi]; done) | (show AV.bool _ = AV.bool _; simp_all [fc, fi])
 refine zr (zq (aa rfl (oc (v := .str [33, 61]) (by kernel_rfl)) rfl aH) (za rfl (zk (aw rfl (fun hc4 => ?_) (fun hc4 => ?_)))))
 ·refine zw (au rfl (zr (za rfl (zk (W.ret (ad (ac (ae (z1 rfl) ?_))))))))
  first | rfl | (refine congrArg AV.bool ?_; simp_all [fc, fi]; done) | (show AV.bool _ = AV.bool _; simp_all [fc, fi])
 refine zr (zq (aa rfl (oc (v := .str [60, 61]) (by kernel_rfl)) rfl aH) (za rfl (zk (aw rfl (fun hc4 => ?_) (fun hc4 => ?_)))))
 ·refine zw (au rfl (zr (za rfl (zk (W.ret (ad (ac (ae (z1 rfl) ?_))))))))
  first | rfl | (refine congrArg AV.bool ?_; simp_all [fc, fi]; done) | (show AV.bool _ = AV.bool _; simp_all [fc, fi])
 refine zr (zq (aa rfl (oc (v := .str [62, 61]) (by kernel_rfl)) rfl aH) (za rfl (zk (aw rfl (fun hc4 => ?_) (fun hc4 => ?_)))))
 ·refine zw (au rfl (zr (za rfl (zk (W.ret (ad (ac (ae (z1 rfl) ?_))))))))
  first | rfl | (refine congrArg AV.bool ?_; simp_all [fc, fi]; done) | (show AV.bool _ = AV.bool _; simp_all [fc, fi])
 refine zr (zq (aa rfl (oc (v := .str [60]) (by kernel_rfl)) rfl aH) (za rfl (zk (aw rfl (fun hc4 => ?_) (fun hc4 => ?_)))))
 ·refine zw (au rfl (zr (za rfl (zk (W.ret (ad (ac (ae (z1 rfl) ?_))))))))
  first | rfl | (refine congrArg AV.bool ?_; simp_all [fc, fi]; done) | (show AV.bool _ = AV.bool _; simp_all [fc, fi])
 refine am (zq (aa rfl (oc (v := .str [62]) (by kernel_rfl)) rfl aH) (za rfl (zk (aw rfl (fun hc4 => ?_) (fun hc4 => ?_)))))
 ·refine zr (za rfl (zk (W.ret (ad (ac (ae (z1 rfl) ?_))))))
  first | rfl | (refine congrArg AV.bool ?_; simp_all [fc, fi]; done) | (show AV.bool _ = AV.bool _; simp_all [fc, fi])
 refine W.skip (End.KB (End.K (zr (za rfl (zk (W.ret (ae (z1 rfl) ?_)))))))
 first | rfl | (refine congrArg AV.bool ?_; simp_all [fc, fi]; done) | (show AV.bool _ = AV.bool _; simp_all [fc, fi])

theorem ge (p : Bool) : Spec aN 112 [.bool p] [] [] (fJ (.tuple [.int .i64 (if p = true then 1000000 else 0), .int .i64 ((0 : Nat) : Int)])) := by
 refine av (cX 112 Tryz.func112) rfl (m := 5) rfl (rs := [.tmp 2, .tmp 3]) rfl (st := [(0, .bool p)]) rfl rfl (fun _ => rfl) (fun E => zr (za (zi 0) (za (zi 0) (zk (W.seq (zr (zm rfl (zk (aE rfl (fun hc4 => ?_) (fun hc4 => ?_))))))))))
 ·refine zr (za (zi 1000000) (za (zi 0) (zk (W.ret (ac (ae (ResL.tmp rfl (z1 rfl)) ?_))))))
  simp_all [ah]
 refine zw (zr (za (zi 0) (za (zi 0) (zk (W.ret (ae (ResL.tmp rfl (z1 rfl)) ?_))))))
 simp_all [ah]

theorem CJ (op : List Nat) (ho : Bytes op) (a b : Int) : Spec aN 76 [.str op, .int .i64 a, .int .i64 b] [] [] (fJ (bG (jv op a b))) := by
 refine av (cX 76 Tryz.func76) rfl (m := 108) rfl (rs := [.tmp 6, .tmp 7]) rfl (st := [(0, .str op), (1, .int .i64 a), (2, .int .i64 b)]) rfl rfl (fun _ => rfl) (fun E => zr (za (zi 0) (za (zi 0) (zk (de (fun (q : Unit) => [(0, .str op), (1, .int .i64 a), (2, .int .i64 b)]) (fun (q : Unit) => (fc op = true \/ fi op = true) /\ jS a = true /\ jS b = true) (fun q hI5 => ?_) (fun hJ5 => ?_))))))
 ·obtain ⟨hg1, hg2, hg3⟩ := hI5
  have hg := EJ hg1 hg2 hg3
  refine W.seq (zr (zm rfl (zk (W.block (zr (zq (aa rfl (oc (v := .str [43]) (by kernel_rfl)) rfl aH) (za rfl (zk (aw rfl (fun hc27 => ?_) (fun hc27 => ?_))))))))))
  ·refine zr (zm rfl (zm rfl (aJ rfl (aD rfl (aD rfl oz)) rfl (fx (fun _ => rfl)) SubR.nil rfl (zq (Q.extract rfl rfl) (zq (Q.extract rfl rfl) (za rfl (za rfl (zk (W.ret (ad (ac (ae (ResL.tmp rfl (z1 rfl)) ?_))))))))))))
   first | (refine congrArg bG (Eq.symm ?_); rw [hg]; simp_all; done) | (rw [hg]; unfold bG ah; simp_all; done) | (rw [hg]; unfold bG ah; simp_all [eJ]; done) | (rw [hg]; unfold bG ah; simp_all [eJ]; split <;> simp_all; done) | (rw [hg]; unfold bG ah; simp_all [eJ]; split <;> simp_all <;> omega)
  refine zr (zq (aa rfl (oc (v := .str [45]) (by kernel_rfl)) rfl aH) (za rfl (zk (aw rfl (fun hc34 => ?_) (fun hc34 => ?_)))))
  ·refine zr (zm rfl (zm rfl (aJ rfl (aD rfl (aD rfl oz)) rfl (fx (fun _ => rfl)) SubR.nil rfl (zq (Q.extract rfl rfl) (zq (Q.extract rfl rfl) (za rfl (za rfl (zk (W.ret (ad (ac (ae (ResL.tmp rfl (z1 rfl)) ?_))))))))))))
   first | (refine congrArg bG (Eq.symm ?_); rw [hg]; simp_all; done) | (rw [hg]; unfold bG ah; simp_all; done) | (rw [hg]; unfold bG ah; simp_all [eJ]; done) | (rw [hg]; unfold bG ah; simp_all [eJ]; split <;> simp_all; done) | (rw [hg]; unfold bG ah; simp_all [eJ]; split <;> simp_all <;> omega)
  refine zr (zq (aa rfl (oc (v := .str [42]) (by kernel_rfl)) rfl aH) (za rfl (zk (aw rfl (fun hc41 => ?_) (fun hc41 => ?_)))))
  ·refine zr (zm rfl (zm rfl (aJ rfl (aD rfl (aD rfl oz)) rfl (fx (fun _ => rfl)) SubR.nil rfl (zq (Q.extract rfl rfl) (zq (Q.extract rfl rfl) (za rfl (za rfl (zk (W.sub (zc 7 rfl (zc 6 rfl aI)) (W.ret (ad (ac (ae (ResL.tmp rfl (z1 rfl)) ?_)))))))))))))
   first | (refine congrArg bG (Eq.symm ?_); rw [hg]; simp_all; done) | (rw [hg]; unfold bG ah; simp_all; done) | (rw [hg]; unfold bG ah; simp_all [eJ]; done) | (rw [hg]; unfold bG ah; simp_all [eJ]; split <;> simp_all; done) | (rw [hg]; unfold bG ah; simp_all [eJ]; split <;> simp_all <;> omega)
  refine zr (zq (aa rfl (oc (v := .str [47]) (by kernel_rfl)) rfl aH) (za rfl (zk (aw rfl (fun hc48 => ?_) (fun hc48 => ?_)))))
  ·refine zr (zm rfl (zm rfl (aJ rfl (aD rfl (aD rfl oz)) rfl (fx (fun _ => rfl)) SubR.nil rfl (zq (Q.extract rfl rfl) (zq (Q.extract rfl rfl) (za rfl (za rfl (zk (W.sub (zc 7 rfl (zc 6 rfl aI)) (W.ret (ad (ac (ae (ResL.tmp rfl (z1 rfl)) ?_)))))))))))))
   first | (refine congrArg bG (Eq.symm ?_); rw [hg]; simp_all; done) | (rw [hg]; unfold bG ah; simp_all; done) | (rw [hg]; unfold bG ah; simp_all [eJ]; done) | (rw [hg]; unfold bG ah; simp_all [eJ]; split <;> simp_all; done) | (rw [hg]; unfold bG ah; simp_all [eJ]; split <;> simp_all <;> omega)
  refine zr (zq (aa rfl (oc (v := .str [37]) (by kernel_rfl)) rfl aH) (za rfl (zk (aw rfl (fun hc55 => ?_) (fun hc55 => ?_)))))
  ·refine zr (zm rfl (zm rfl (aJ rfl (aD rfl (aD rfl oz)) rfl (fx (fun _ => rfl)) SubR.nil rfl (zq (Q.extract rfl rfl) (zq (Q.extract rfl rfl) (za rfl (za rfl (zk (W.sub (zc 7 rfl (zc 6 rfl aI)) (W.ret (ad (ac (ae (ResL.tmp rfl (z1 rfl)) ?_)))))))))))))
   first | (refine congrArg bG (Eq.symm ?_); rw [hg]; simp_all; done) | (rw [hg]; unfold bG ah; simp_all; done) | (rw [hg]; unfold bG ah; simp_all [eJ]; done) | (rw [hg]; unfold bG ah; simp_all [eJ]; split <;> simp_all; done) | (rw [hg]; unfold bG ah; simp_all [eJ]; split <;> simp_all <;> omega)
  refine zr (zq (aa rfl (oc (v := .str [61, 61]) (by kernel_rfl)) rfl aH) (za rfl (zk (aw rfl (fun hc62 => ?_) (fun hc62 => ?_)))))
  ·refine zr (zm rfl (zm rfl (zq (aa rfl rfl rfl (ag bj)) (aJ rfl (aD rfl oz) rfl (ge _) SubR.nil rfl (zq (Q.extract rfl rfl) (zq (Q.extract rfl rfl) (za rfl (za rfl (zk (W.sub (zc 7 rfl (zc 6 rfl aI)) (W.ret (ad (ac (ae (ResL.tmp rfl (z1 rfl)) ?_))))))))))))))
   first | (refine congrArg bG (Eq.symm ?_); rw [hg]; simp_all; done) | (rw [hg]; unfold bG ah; simp_all; done) | (rw [hg]; unfold bG ah; simp_all [eJ]; done) | (rw [hg]; unfold bG ah; simp_all [eJ]; split <;> simp_all; done) | (rw [hg]; unfold bG ah; simp_all [eJ]; split <;> simp_all <;> omega)
  refine zr (zq (aa rfl (oc (v := .str [33, 61]) (by kernel_rfl)) rfl aH) (za rfl (zk (W.sub (zc 70 rfl (zc 26 rfl (zc 1 rfl (zc 2 rfl aI)))) (aw rfl (fun hc70 => ?_) (fun hc70 => ?_))))))
  ·refine zr (zm rfl (zm rfl (zq (aa rfl rfl rfl (aR cP)) (aJ rfl (aD rfl oz) rfl (ge _) SubR.nil rfl (zq (Q.extract rfl rfl) (zq (Q.extract rfl rfl) (za rfl (za rfl (zk (W.ret (ad (ac (ae (ResL.tmp rfl (z1 rfl)) ?_)))))))))))))
   first | (refine congrArg bG (Eq.symm ?_); rw [hg]; simp_all; done) | (rw [hg]; unfold bG ah; simp_all; done) | (rw [hg]; unfold bG ah; simp_all [eJ]; done) | (rw [hg]; unfold bG ah; simp_all [eJ]; split <;> simp_all; done) | (rw [hg]; unfold bG ah; simp_all [eJ]; split <;> simp_all <;> omega)
  refine zr (zq (aa rfl (oc (v := .str [60, 61]) (by kernel_rfl)) rfl aH) (za rfl (zk (aw rfl (fun hc78 => ?_) (fun hc78 => ?_)))))
  ·refine zr (zm rfl (zm rfl (zq (aa rfl rfl rfl (dT ir)) (aJ rfl (aD rfl oz) rfl (ge _) SubR.nil rfl (zq (Q.extract rfl rfl) (zq (Q.extract rfl rfl) (za rfl (za rfl (zk (W.ret (ad (ac (ae (ResL.tmp rfl (z1 rfl)) ?_)))))))))))))
   first | (refine congrArg bG (Eq.symm ?_); rw [hg]; simp_all; done) | (rw [hg]; unfold bG ah; simp_all; done) | (rw [hg]; unfold bG ah; simp_all [eJ]; done) | (rw [hg]; unfold bG ah; simp_all [eJ]; split <;> simp_all; done) | (rw [hg]; unfold bG ah; simp_all [eJ]; split <;> simp_all <;> omega)
  refine zr (zq (aa rfl (oc (v := .str [62, 61]) (by kernel_rfl)) rfl aH) (za rfl (zk (aw rfl (fun hc86 => ?_) (fun hc86 => ?_)))))
  ·refine zr (zm rfl (zm rfl (zq (aa rfl rfl rfl (cy ir)) (aJ rfl (aD rfl oz) rfl (ge _) SubR.nil rfl (zq (Q.extract rfl rfl) (zq (Q.extract rfl rfl) (za rfl (za rfl (zk (W.sub (zc 7 rfl (zc 6 rfl aI)) (W.ret (ad (ac (ae (ResL.tmp rfl (z1 rfl)) ?_))))))))))))))
   first | (refine congrArg bG (Eq.symm ?_); rw [hg]; simp_all; done) | (rw [hg]; unfold bG ah; simp_all; done) | (rw [hg]; unfold bG ah; simp_all [eJ]; done) | (rw [hg]; unfold bG ah; simp_all [eJ]; split <;> simp_all; done) | (rw [hg]; unfold bG ah; simp_all [eJ]; split <;> simp_all <;> omega)
  refine zr (zq (aa rfl (oc (v := .str [60]) (by kernel_rfl)) rfl aH) (za rfl (zk (aw rfl (fun hc94 => ?_) (fun hc94 => ?_)))))
  ·refine zr (zm rfl (zm rfl (zq (aa rfl rfl rfl (ec (cp _ _))) (aJ rfl (aD rfl oz) rfl (ge _) SubR.nil rfl (zq (Q.extract rfl rfl) (zq (Q.extract rfl rfl) (za rfl (za rfl (zk (W.sub (zc 7 rfl (zc 6 rfl aI)) (W.ret (ad (ac (ae (ResL.tmp rfl (z1 rfl)) ?_))))))))))))))
   first | (refine congrArg bG (Eq.symm ?_); rw [hg]; simp_all; done) | (rw [hg]; unfold bG ah; simp_all; done) | (rw [hg]; unfold bG ah; simp_all [eJ]; done) | (rw [hg]; unfold bG ah; simp_all [eJ]; split <;> simp_all; done) | (rw [hg]; unfold bG ah; simp_all [eJ]; split <;> simp_all <;> omega)
  refine W.skip (End.KB (End.K (zr (zm rfl (zm rfl (zq (aa rfl rfl rfl (aV (cp _ _))) (aJ rfl (aD rfl oz) rfl (ge _) SubR.nil rfl (zq (Q.extract rfl rfl) (zq (Q.extract rfl rfl) (za rfl (za rfl (zk (W.sub (zc 7 rfl (zc 6 rfl aI)) (W.ret (ae (ResL.tmp rfl (z1 rfl)) ?_)))))))))))))))
  first | (refine congrArg bG (Eq.symm ?_); rw [hg]; simp_all; done) | (rw [hg]; unfold bG ah; simp_all; done) | (rw [hg]; unfold bG ah; simp_all [eJ]; done) | (rw [hg]; unfold bG ah; simp_all [eJ]; split <;> simp_all; done) | (rw [hg]; unfold bG ah; simp_all [eJ]; split <;> simp_all <;> omega)
 refine W.block (zr (zm rfl (aJ rfl (aD rfl oz) rfl (AR _ ho) SubR.nil rfl (zq (Q.not rfl rfl) (zm rfl (WO.split (d := 12) rfl (fun hc12 => ?_) (fun hc12 => ?_)))))))
 ·refine zT (zm rfl (zT (aJ rfl (aD rfl oz) rfl (Bo _ ho) SubR.nil rfl (zT (zq (Q.not rfl rfl) (zq (aj rfl rfl) (za rfl (zk (aE rfl (fun hc8 => ?_) (fun hc8 => ?_))))))))))
  ·refine zr (za (zi 0) (za (zi 9) (zk (W.ret (ad (ac (ae (ResL.tmp rfl (z1 rfl)) ?_)))))))
   rw [Gl (by simp_all) (by simp_all)]; rfl
  refine zr (zm rfl (aJ rfl (aD rfl oz) rfl (jt _) SubR.nil rfl (zq (Q.not rfl rfl) (zm rfl (WO.split (d := 21) rfl (fun hc21 => ?_) (fun hc21 => ?_))))))
  ·refine z2 (zG (zq (aj rfl rfl) (za rfl (zk (W.sub (zc 17 rfl (zc 0 rfl (zc 1 rfl (zc 2 rfl aI)))) (au rfl (zr (za (zi 0) (za (zi 2) (zk (W.ret (ad (ac (ae (ResL.tmp rfl (z1 rfl)) ?_))))))))))))))
   rw [s4 (by simp_all) (by simp_all)]; rfl
  refine zT (zm rfl (zT (aJ rfl (aD rfl oz) rfl (jt _) SubR.nil rfl (zT (zq (Q.not rfl rfl) (zq (ax rfl rfl) (za rfl (zk (W.sub (zc 17 rfl (zc 0 rfl (zc 1 rfl (zc 2 rfl aI)))) (aE rfl (fun hc17 => ?_) (fun hc17 => ?_)))))))))))
  ·refine zr (za (zi 0) (za (zi 2) (zk (W.ret (ad (ac (ae (ResL.tmp rfl (z1 rfl)) ?_)))))))
   rw [s4 (by simp_all) (by simp_all)]; rfl
  refine W.skip (End.KB (End.K (W.sub zv (hJ5 (()) ?_))))
  exact ⟨by simp_all, by simp_all, by simp_all⟩
 refine z2 (zG (zq (ax rfl rfl) (za rfl (zk (az rfl (zr (zm rfl (aJ rfl (aD rfl oz) rfl (jt _) SubR.nil rfl (zq (Q.not rfl rfl) (zm rfl (WO.split (d := 21) rfl (fun hc21 => ?_) (fun hc21 => ?_))))))))))))
 ·refine z2 (zG (zq (aj rfl rfl) (za rfl (zk (W.sub (zc 17 rfl (zc 0 rfl (zc 1 rfl (zc 2 rfl aI)))) (au rfl (zr (za (zi 0) (za (zi 2) (zk (W.ret (ad (ac (ae (ResL.tmp rfl (z1 rfl)) ?_))))))))))))))
  rw [s4 (by simp_all) (by simp_all)]; rfl
 refine zT (zm rfl (zT (aJ rfl (aD rfl oz) rfl (jt _) SubR.nil rfl (zT (zq (Q.not rfl rfl) (zq (ax rfl rfl) (za rfl (zk (W.sub (zc 17 rfl (zc 0 rfl (zc 1 rfl (zc 2 rfl aI)))) (aE rfl (fun hc17 => ?_) (fun hc17 => ?_)))))))))))
 ·refine zr (za (zi 0) (za (zi 2) (zk (W.ret (ad (ac (ae (ResL.tmp rfl (z1 rfl)) ?_)))))))
  rw [s4 (by simp_all) (by simp_all)]; rfl
 refine W.skip (End.KB (End.K (W.sub zv (hJ5 (()) ?_))))
 exact ⟨by simp_all, by simp_all, by simp_all⟩

end Go.Proofs.YtndhhgbpcmfeiaaGreatDoor.Ev
