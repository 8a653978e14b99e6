/- Walks over the evaluator: a call that may write some blocks that were there. -/
import Derived.Test.YtndhhgbpcmfeiaaGreatDoorNAwK
import Derived.Test.YtndhhgbpcmfeiaaGreatDoorNInC
namespace Go.Proofs.YtndhhgbpcmfeiaaGreatDoor.Ev
open Go.RowKit
theorem pR {tb : Tab} {n : Nat} {E : Env} {s : St} {hs : af} {R : T AV -> AHeap -> Prop} {ops rest : List Oper} {d : Nat} {ty : TypeId} {pos : String} {aft : Array Edge} {of : Operand} {args : List Operand} {ts : Array TypeId} {g : Nat} {caps l l' : List AV} {M A hsc : af} {Post : AV -> af -> Prop} (hf : oL s of = some (.func g caps)) (ha : mY s args = some l) (hl : l ++ caps = l')
  (hM : ∀ e ∈ M, e.w = true) (hs_ : SubH (M ++ A) hs) (hsp : Spec tb g l' (M.map (·.b)) (M ++ hsc) Post) (hsub : SubR hsc A) (hd : Nat.blt d n = true)
  (hk : ∀ v D, Post v D -> WO tb n ops rest E ((d, v) :: s) (D ++ A) R) :
  WO tb n ops (⟨some d, .call ⟨.value of, args.toArray, ts⟩, ty, pos, aft, none⟩ :: rest) E s hs R := by
 refine WO.l (s' := s) fun tm h ht hh0 => ?_
 have hh := hh0.sub hs_
 have hnd := hh.nd
 rw [List.map_append] at hnd
 obtain ⟨n1, n2, n3⟩ := List.nodup_append.1 hnd
 have hne : ∀ e ∈ A, e.b ∉ M.map (·.b) := fun e he hm => n3 e.b hm e.b (List.mem_map.2 ⟨e, he, rfl⟩) rfl
 have hA : ∀ e ∈ A, _ := fun e he => hh.at_ e (List.mem_append_right _ he)
 have hMa : ∀ e ∈ M, _ := fun e he => hh.at_ e (List.mem_append_left _ he)
 have hin : HS ⟨h, M.map (·.b)⟩ (M ++ hsc) h := by
  refine ⟨fun e he => ?_, ?_, Fr.refl _ _⟩
  ·rcases List.mem_append.1 he with he | he
   ·exact ⟨(hMa e he).1, (hMa e he).2.1, fun _ => .inr (List.mem_map.2 ⟨e, he, rfl⟩)⟩
   ·obtain ⟨hw, w, hm⟩ := hsub.1 e he
    obtain ⟨a1, a2, a3⟩ := hA _ hm
    exact ⟨a1, a2, fun h' => by rw [hw] at h'; cases h'⟩
  ·rw [List.map_append]
   refine List.nodup_append.2 ⟨n1, hsub.2 n2, ?_⟩
   intro a ha' b hb hab
   obtain ⟨y, hy, rfl⟩ := List.mem_map.1 hb
   obtain ⟨hw, w, hm⟩ := hsub.1 y hy
   exact hne _ hm (hab ▸ ha')
 obtain ⟨v, h', D, hE, hP, hw, hD⟩ := hsp h hin
 have hfr := hD.fr
 have hback : HS E (D ++ A) h' := by
  refine ⟨fun e he => ?_, ?_, ?_, fun c hc hcS => ?_⟩
  ·rcases List.mem_append.1 he with he | he
   ·obtain ⟨a1, a2, a3⟩ := hD.at_ e he
    refine ⟨a1, a2, fun hw' => ?_⟩
    rcases a3 hw' with b1 | b1
    ·exact .inl (Nat.le_trans hh.fr.1 b1)
    ·obtain ⟨x, hx, hxe⟩ := List.mem_map.1 b1
     rw [<- hxe]
     exact (hMa x hx).2.2 (hM x hx)
   ·obtain ⟨a1, a2, a3⟩ := hA e he
    refine ⟨?_, Nat.lt_of_lt_of_le a2 hfr.1, a3⟩
    rw [hfr.2 e.b a2 (hne e he)]
    exact a1
  ·rw [List.map_append]
   refine List.nodup_append.2 ⟨hD.nd, n2, ?_⟩
   intro a ha' b hb' hab
   obtain ⟨x, hx, rfl⟩ := List.mem_map.1 ha'
   obtain ⟨y, hy, rfl⟩ := List.mem_map.1 hb'
   have h1 := (hA y hy).2.1
   have hab : x.b = y.b := hab
   rcases (hD.at_ x hx).2.2 (hw x hx) with b1 | b1
   ·have b1 : h.next <= x.b := b1
    omega
   ·exact hne y hy (hab ▸ b1)
  ·exact Nat.le_trans hh.fr.1 hfr.1
  ·have hcb : c ∉ M.map (·.b) := by
    intro hm
    obtain ⟨x, hx, rfl⟩ := List.mem_map.1 hm
    rcases (hMa x hx).2.2 (hM x hx) with g | g
    ·omega
    ·exact hcS g
   rw [hfr.2 c (Nat.lt_of_lt_of_le hc hh.fr.1) hcb]
   exact hh.fr.2 c hc hcS
 refine ⟨v, h', tm.set d v, ?_, aT hd, hk v D hP _ _ (ht.set d _) hback⟩
 show Res.l (co tm h (ay (Ev.callE tb)) of args.toArray) = _
 unfold co
 simp only [aW ht hf, jt ht ha]
 subst hl
 rw [ka hE]
theorem Spec.sub {tb : Tab} {f : Nat} {args : List AV} {S : List Nat} {hs hs' : af} {Post : AV -> af -> Prop} (h : Spec tb f args S hs Post) (g : SubH hs hs') : Spec tb f args S hs' Post := fun h0 hh => h h0 (hh.sub g)
set_option maxRecDepth 100000
set_option maxHeartbeats 1000000
section
variable {hs hl hl3 ha hp : af} {W W2 W3 : List IE} {ks : List TD} {i : Nat} {L : List (ND × List Int)} {d : ND} {vm vn ar v : AV} {A : List Int}
theorem yn (h : i < ks.length) : iu (ks.take i) + jx (kd ks i) <= iu ks := by
 have h1 := mR (ks := ks) (i := i + 1)
 rw [List.take_add_one, s8 h, tB] at h1
 show _ <= _
 have e : iu (Option.toList (some (kd ks i))) = jx (kd ks i) := by show iu [kd ks i] = _; rw [iu, iu]; rfl
 omega
theorem tC (h : i < ks.length) : ks.take (i + 1) = ks.take i ++ [kd ks i] := by rw [List.take_add_one, s8 h]; rfl
theorem wz (h : i < ks.length) : aI (kd ks i) (bh (ks.take i) L []).1 = (bh (ks.take (i + 1)) L []).1 := by rw [tC h, kp]
theorem ua (h : i < ks.length) : (bh (ks.take (i + 1)) L []).2 = (bh (ks.take i) L []).2 ++ [(((aI (kd ks i) (bh (ks.take i) L []).1).length - 1 : Nat) : Int)] := by rw [tC h, kp]
theorem wy (h : ∀ x ∈ W2, IOK (hs ++ hl) x /\ x.vk = .nils /\ IBd x) (g : ∀ x ∈ W3, IOK (hs ++ hl3) x /\ x.vk = .nils /\ IBd x) : ∀ x ∈ W2 ++ W3, IOK (hs ++ (hl ++ hl3)) x /\ x.vk = .nils /\ IBd x := fun x hx => by
 rcases List.mem_append.1 hx with hx | hx
 ·exact ⟨(h x hx).1.mono fun b o ⟨w, q⟩ => ⟨w, by simp only [List.mem_append] at q ⊢; exact q.elim .inl fun r => .inr (.inl r)⟩, (h x hx).2⟩
 ·exact ⟨(g x hx).1.mono fun b o ⟨w, q⟩ => ⟨w, by simp only [List.mem_append] at q ⊢; exact q.elim .inl fun r => .inr (.inr r)⟩, (g x hx).2⟩
theorem s9 : ∀ {ks : List TD} {L : List (ND × List Int)} {A : List Int}, ∀ n ∈ (bh ks L A).2, n ∈ A \/ (0 <= n /\ n < ((L.length + iu ks : Nat) : Int))
 | [], L, A, n, h => by rw [bh] at h; exact .inl h
 | k :: ks, L, A, n, h => by
  rw [bh] at h
  rcases s9 n h with h1 | h1
  ·rcases List.mem_append.1 h1 with h1 | h1
   ·exact .inl h1
   ·rw [List.mem_singleton] at h1
    have e := ew (t := k) (L := L)
    have p := jY (t := k)
    refine .inr ?_
    rw [h1, e, iu]
    omega
  ·rw [ew] at h1
   refine .inr ?_
   rw [iu]
   omega
theorem ze (h : ∀ x ∈ W2, IOK (hs ++ hl) x /\ x.vk = .nils /\ IBd x) (hm : RIn hs 3 d.ms.length (cM d.ms) vm) (hn : RIn hs 1 d.nm.length (cS d.nm) vn) (hA : OwnE 1 (cA (bh ks L []).2) ks.length ar ha) (hd : d.bd) (hks : ks.length <= 1048576) (hb : L.length + iu ks <= 2097152) :
  ∀ x ∈ W2 ++ [⟨d, (bh ks L []).2, 0, vm, vn, .nils, ar⟩], IOK (hs ++ (hl ++ ha)) x /\ x.vk = .nils /\ IBd x := fun x hx => by
 have hl2 : (bh ks L []).2.length = ks.length := by rw [nN]; simp
 rcases List.mem_append.1 hx with hx | hx
 ·exact ⟨(h x hx).1.mono fun b o ⟨w, q⟩ => ⟨w, by simp only [List.mem_append] at q ⊢; exact q.elim .inl fun r => .inr (.inl r)⟩, (h x hx).2⟩
 ·rw [List.mem_singleton.1 hx]
  refine ⟨⟨hm.appl, hn.appl, .inl ⟨rfl, rfl⟩, ?_⟩, rfl, hd, by show (bh ks L []).2.length <= _; omega, fun n hn => ?_⟩
  ·show RIn _ 1 (bh ks L []).2.length _ _
   rw [hl2]
   exact (RIn.own hA).app.app
  ·rcases s9 n hn with h1 | h1
   ·simp at h1
   ·exact ⟨by omega, by omega⟩
theorem zh {k : Nat} (h : OwnE 1 (cA A ++ [.int .i64 ((k : Nat) : Int)]) (i + 1) v hp) : OwnE 1 (cA (A ++ [((k : Nat) : Int)])) (i + 1) v hp := by
 rw [cA, List.map_append]; exact h
end

def Co (tt er : Nat) : Nat := if er = 0 /\ tt = 3 then 16 else er
def Ax (hs : af) (k : TD) (e0 : Nat) (v : AV) (D : af) : Prop := ∃ (e : Nat) (_ : e = e0) (Z : List IE) (w : AV) (hp hl : af), v = .tuple [w, .int .i64 ((e : Nat) : Int)] /\ OwnE 12 (cI Z) Z.length w hp /\ (∀ x ∈ Z, IOK (hs ++ hl) x /\ x.vk = .nils /\ IBd x) /\ (e = 0 -> D2 Z = aI k []) /\ (e ≠ 0 -> Z = []) /\ (∀ y ∈ hl, y.w = true) /\ D = hp ++ hl

def Dw (hs : af) (t : TD) (Z : List IE) (bo : Nat) (v : AV) (D : af) : Prop := ∃ (W2 : List IE) (w2 : AV) (hp2 hl2 : af), v = .int .i64 (((Z ++ W2).length - 1 : Nat) : Int) /\ OwnE 12 (cI (Z ++ W2)) (Z ++ W2).length w2 hp2 /\ (∀ x ∈ W2, IOK ([] ++ hl2) x /\ x.vk = .nils /\ IBd x) /\ D2 (Z ++ W2) = aI t (D2 Z) /\ (∀ y ∈ hl2, y.w = true) /\ D = ⟨bo, ⟨1, true, [w2]⟩, true⟩ :: (hp2 ++ hl2)
theorem Aa {hs : af} {n : Nat} {cells : List AV} {v : AV} (h : RIn hs 11 n cells v) : KLn v n := h.imp (fun ⟨a, b, _⟩ => ⟨a, b⟩) fun ⟨b, z, ex, e, _⟩ => ⟨b, 0, 11, e⟩
theorem CR {u v : AV} (h : v.isCell = true) : cn [u] 0 v.cells = [v] := by rw [dT h]; rfl
theorem BF {hl ha Dm Dn D : af} {W2 : List IE} {ks : List TD} {L : List (ND × List Int)} {d : ND} {vm vn ar : AV} (h : ∀ x ∈ W2, IOK ([] ++ hl) x /\ x.vk = .nils /\ IBd x) (hm : OwnE 3 (cM d.ms) d.ms.length vm Dm) (hn : OwnE 1 (cS d.nm) d.nm.length vn Dn) (hD : D = Dm ++ Dn) (hA : OwnE 1 (cA (bh ks L []).2) ks.length ar ha) (hd : d.bd) (hks : ks.length <= 1048576) (hb : L.length + iu ks <= 2097152) :
  ∀ x ∈ W2 ++ [⟨d, (bh ks L []).2, 0, vm, vn, .nils, ar⟩], IOK ([] ++ ((hl ++ ha) ++ D)) x /\ x.vk = .nils /\ IBd x := fun x hx => by
 have h2 := ze (hs := Dm ++ Dn) (W2 := []) (hl := hl) (d := d) (vm := vm) (vn := vn) (ar := ar) (ha := ha) (fun x hx => by simp at hx) (RIn.own hm).appl (RIn.own hn).app hA hd hks hb
 rcases List.mem_append.1 hx with hx | hx
 ·exact ⟨(h x hx).1.mono fun b o ⟨w, q⟩ => ⟨w, by simp only [List.mem_append] at q ⊢; exact q.elim .inl fun r => .inr (.inl (.inl r))⟩, (h x hx).2⟩
 ·obtain ⟨g1, g2⟩ := h2 x (by simpa using hx)
  rw [hD]
  exact ⟨g1.mono fun b o ⟨w, q⟩ => ⟨w, by simp only [List.mem_append] at q ⊢; exact q.elim (fun r => .inr (.inr r)) fun r => .inr (.inl r)⟩, g2⟩
theorem Cw : aA.isAgg 57 = some false := by kernel_rfl
theorem D4 : aA.size 30 = some 1 := by kernel_rfl
theorem zC (hs : af) (hro : ∀ e ∈ hs, e.w = false) (bl bo : Nat) (ml : MemH hs bl ⟨1, true, [.func 36 [.ptr bl 0, .ptr bo 0]]⟩) (d : ND) (ks : List TD) (vm vn vk : AV) (cs : List (List AV))
 (hm : RIn hs 3 d.ms.length (cM d.ms) vm) (hn : RIn hs 1 d.nm.length (cS d.nm) vn) (hk : RIn hs 11 ks.length (cs.flatMap id) vk) (hd : d.bd) (hks : ks.length <= 1048576) (hR : TReps hs ks cs)
 (Z : List IE) (w : AV) (hp : af) (hO : OwnE 12 (cI Z) Z.length w hp) (hsz : Z.length + jx (.node d ks) <= 2097152)
 (ih : ∀ k ∈ ks, ∀ (c : List AV) (Z : List IE) (w : AV) (hp : af), TRep hs k c -> OwnE 12 (cI Z) Z.length w hp -> Z.length + jx k <= 2097152 -> Spec aA 36 [.agg c, .ptr bl 0, .ptr bo 0] (bo :: hp.map (·.b)) (⟨bo, ⟨1, true, [w]⟩, true⟩ :: (hp ++ hs)) (Dw hs k Z bo)) : Spec aA 36 [.agg (d.c vm vn vk), .ptr bl 0, .ptr bo 0] (bo :: hp.map (·.b)) (⟨bo, ⟨1, true, [w]⟩, true⟩ :: (hp ++ hs)) (Dw hs (.node d ks) Z bo) := by
 obtain ⟨wl_, ml⟩ := ml
 refine aj (dW 36 Tryz.func36) rfl (m := 32) rfl (rs := [.tmp 4]) rfl (st := [(0, .agg (d.c vm vn vk)), (1, .ptr bl 0), (2, .ptr bo 0)]) rfl rfl (fun _ => rfl) (fun E => zr (WO.box rfl (jT hm.cell hn.cell hk.cell) (oP _ rfl) rfl (fun b1 => za (zi 0) (zk (zr (za rfl (zk (W.seq (zr (zf gV rfl 10 (zq (aG rfl (zt 0 rfl) uH rfl) (zq (Q.len pG rfl hk.len) (zq (Q.move (zi 0)) (zk (W.block (kH (fun (i : Nat) (W2 : List IE) (u : AV) (hq : af) (hl : af) (ar : AV) (ha : af) => [(1, .ptr bl 0), (2, .ptr bo 0), (3, .ptr b1 0), (5, ar), (9, vk), (10, .int .i64 ((ks.length : Nat) : Int)), (11, .int .i64 ((i : Nat) : Int))]) (fun (i : Nat) (W2 : List IE) (u : AV) (hq : af) (hl : af) (ar : AV) (ha : af) => (⟨b1, ⟨11, true, d.c vm vn (vk)⟩, true⟩ :: ⟨bo, ⟨1, true, [u]⟩, true⟩ :: (hs ++ hl ++ ha ++ hq))) (fun (i : Nat) (W2 : List IE) (u : AV) (hq : af) (hl : af) (ar : AV) (ha : af) => i <= ks.length /\ OwnE 12 (cI (Z ++ W2)) (Z ++ W2).length u hq /\ (∀ x ∈ W2, IOK ([] ++ hl) x /\ x.vk = .nils /\ IBd x) /\ D2 (Z ++ W2) = (bh (ks.take i) (D2 Z) []).1 /\ (∀ y ∈ hl, y.w = true) /\ OwnE 1 (cA (bh (ks.take i) (D2 Z) []).2) i ar ha) (fun (i : Nat) (W2 : List IE) (u : AV) (hq : af) (hl : af) (ar : AV) (ha : af) => ks.length - i) (0) ([]) (w) (hp) ([]) (.nils) ([]) ⟨Nat.zero_le _, by rw [List.append_nil]; exact hO, fun x hx => by simp at hx, by rw [List.append_nil, List.take_zero, bh], iF, by rw [List.take_zero, bh]; exact OwnE.nil 1⟩ zv (show SubH _ (⟨b1, ⟨11, true, d.c vm vn vk⟩, true⟩ :: ⟨bo, ⟨1, true, [w]⟩, true⟩ :: (hp ++ hs)) from gc) (fun i W2 u hq hl ar ha hI0 ih0 => ?_)))))))))))))))))
 obtain ⟨h1, hO1, hX1, hD1, hw1, hA1⟩ := hI0
 have hlen1 : (Z ++ W2).length = Z.length + iu (ks.take i) := (by rw [<- dr, hD1, jR, dr])
 have hszn : jx (.node d ks) = iu ks + 1 := (by rw [jx])
 have hzt := mR (ks := ks) (i := i)
 refine zr (zq (Q.bin rfl rfl rfl (ec jr)) (zk (W.seq (ax rfl (fun hc12 => ?_) (fun hc12 => ?_)))))
 ·have hzk := yn (ks := ks) (i := i) zy
  obtain ⟨bk, szk, exk, rfl, wk, mk⟩ := hk.full zy
  obtain ⟨c1, hc1, hT1⟩ := hR.at (s8 (i := i) zy)
  obtain ⟨d1, um, un, uk, rfl, qm, qn, qk, qo⟩ := jz hT1
  refine zw (W.seq (W.block (zr (zq (ee pG bb rfl rfl zo) (zq (cj rfl (List.mem_cons_of_mem _ (List.mem_cons_of_mem _ (List.mem_append_left _ (List.mem_append_left _ (List.mem_append_left _ mk))))) cG bb (by rw [Nat.zero_add]; exact kQ hR.lens hc1)) (WO.alloc eU rfl (fun b2 => zS bb rfl rfl (i := 0) rfl (bG rfl (rT qm.cell qn.cell qk.cell)) rfl (hs' := _ :: _ :: _ :: _) rfl (zk (aF (zm rfl (zq (aG rfl (List.mem_cons_of_mem _ (List.mem_cons_of_mem _ (List.mem_cons_of_mem _ (List.mem_append_left _ (List.mem_append_left _ (List.mem_append_left _ ml)))))) Cw rfl) (zq (zL rfl (zt 0 rfl) cG bb rfl) (pR (M := ⟨bo, ⟨1, true, [u]⟩, true⟩ :: hq) (A := (⟨b1, ⟨11, true, d.c vm vn (.slice bk 0 ks.length 11)⟩, true⟩ :: (hs ++ hl ++ ha))) rfl (aX rfl oz) rfl (ww (OwnE.w hO1)) gc (ih _ (BB zy) _ (Z ++ W2) u hq hT1 hO1 zy) (SubR.t (SubR.appl (SubR.appl (dF hro)))) rfl (fun v18 D18 hP18 => ?_))))))))))))))
  obtain ⟨W3, u3, hp3, hl3, rfl, hO3, hX3, hD3, hw3, rfl⟩ := hP18; have hl3' : (Z ++ W2 ++ W3).length = (Z ++ W2).length + jx (kd ks i) := (by rw [<- dr, hD3, ew, dr]); have hz3 := jY (t := kd ks i); refine WO.subH (hs' := ⟨b1, ⟨11, true, d.c vm vn (.slice bk 0 ks.length 11)⟩, true⟩ :: ⟨bo, ⟨1, true, [u3]⟩, true⟩ :: (hs ++ hl ++ hl3 ++ hp3 ++ ha)) gc ?_
  refine WO.bslice dh i8 Cs rfl (b8 rfl ak) rfl (cs := [_]) rfl rfl rfl (fun b3 => WO.appAny (A := ([_, _] ++ hs ++ hl ++ hl3 ++ hp3)) iQ hA1 rfl rfl (Src.slice (zt 0 rfl) rfl) rfl zy (by decide) (SubH.of_sublist (List.sublist_cons_self _ _)) rfl (fun v20 hp20 hO20 => za rfl (WO.nil (End.KB (End.K (aF (zq (Q.bin rfl (zi 1) rfl zp) (zm rfl (WO.nil (End.KL (W.sub zv (gM gc (ih0 (i + 1) (W2 ++ W3) (u3) (hp3) (hl ++ hl3) (v20) (hp20) ?_ ?_)))))))))))))
  ·exact ⟨by omega, by rw [<- List.append_assoc]; exact hO3, wy hX1 hX3, by rw [<- List.append_assoc, hD3, hD1, wz zy], wa hw1 hw3, by rw [ua zy, <- hD1, <- hD3, dr]; exact zh hO20⟩
  exact zo
 obtain rfl : i = ks.length := zy
 rw [List.take_length] at hD1 hA1 hlen1
 refine W.exit (av (aL (aq (End.K (W.seq (lB 6 (⟨b1, _, false⟩ :: ⟨bo, _, false⟩ :: hs) (by kernel_rfl) (KIn.cons (zt 0 rfl) (KIn.cons (zt 1 rfl) (fun e he => ⟨e.w, by obtain ⟨b, o, w⟩ := e; simp [he]⟩))) (WD.q (aG rfl (zt 1 rfl) Ba rfl) (OwnE.bq hO1) rfl (WD.q (zL rfl (zt 0 rfl) cG bb rfl) (wL hm.cq hn.cq hk.cq) rfl (WD.call0 rfl (aX rfl oz) rfl (j9 hs hro d _ _ _ hm hn _ (Aa hk) hd) (SubR.t (SubR.t (SubR.appl (SubR.appl (SubR.appl (dF hro)))))) (KIn.cons (zt 0 rfl) (KIn.cons (zt 1 rfl) (fun e he => ⟨e.w, by obtain ⟨b, o, w⟩ := e; simp [he]⟩))) rfl (fun v24 D24 hP24 => ?_))))))))))
 obtain ⟨vm2, vn2, Dm, Dn, rfl, hOm, hOn, hDD⟩ := hP24
 have hwD : ∀ e ∈ D24, e.w = true := (by rw [hDD]; exact wa (OwnE.w hOm) (OwnE.w hOn))
 refine WD.subH (hs' := _ :: _ :: (hs ++ hl ++ ha ++ D24 ++ hq)) (SubH.op (ig (N := []) (G := D24) (K := [_, _]) (X := hs ++ hl ++ ha ++ hq) (by simp only [List.append_assoc, List.nil_append]; exact List.perm_iff_count.2 (by intro z; simp only [List.append_eq, List.count_append, List.count_nil]; omega)))) (WD.q (Q.move rfl) (OwnE.bq hA1) rfl (WD.q (Q.build z8 (b8 rfl (b8 rfl ak)) rfl (cs := [_, _, _, _, _, _, _, _, _, _, _, _]) (rN (OwnE.cell hA1))) (uR (OwnE.bq0 hOm) (OwnE.bq0 hOn) (OwnE.bq0 hA1)) rfl (WD.bslice ez gp Au rfl (b8 rfl ak) rfl (cs := [_, _, _, _, _, _, _, _, _, _, _, _]) rfl (uJ (OwnE.cell hOm) (OwnE.cell hOn) (OwnE.cell hA1)) rfl (KIn.cons (zt 0 rfl) (KIn.cons (zt 1 rfl) (fun e he => ⟨e.w, by obtain ⟨b, o, w⟩ := e; simp [he]⟩))) (fun b4 => WD.appAny (A := ([_, _] ++ hs ++ hl ++ ha ++ D24)) ln hO1 rfl rfl (Src.slice (zt 0 rfl) rfl) rfl zy (by decide) (SubH.of_sublist (List.sublist_cons_self _ _)) rfl (KIn.cons (zt 0 rfl) (KIn.cons (zt 1 rfl) (fun e he => ⟨e.w, by obtain ⟨b, o, w⟩ := e; simp [he]⟩))) (fun v28 hp28 hO28 => WD.store D4 rfl rfl (j := 1) rfl (Bt (OwnE.cell hO28) rfl) (cs := [_]) (CR (OwnE.cell hO28)) (hs' := _ :: _ :: _) rfl (fun h => by cases h) (WD.nil (End.K (W.sub (zc 2 rfl aU) (zr (zq (aG rfl (zt 1 rfl) Ba rfl) (zq (Q.len ez rfl hO28.len) (zq (Q.bin rfl (zi 1) rfl (eo (AZ zo))) (za rfl (zk (W.ret ?_)))))))))))))))
 refine End.ret (z1 rfl) (hs' := ⟨bo, ⟨1, true, [v28]⟩, true⟩ :: (hp28 ++ ((hl ++ ha) ++ D24))) ⟨W2 ++ [⟨d, (bh ks (D2 Z) []).2, 0, vm2, vn2, .nils, ar⟩], v28, hp28, (hl ++ ha) ++ D24, by (show AV.int .i64 _ = AV.int .i64 _; congr 1; simp only [List.length_append, List.length_cons, List.length_nil]; omega), by rw [<- List.append_assoc, lq, List.length_append]; exact hO28, BF hX1 hOm hOn hDD hA1 hd hks (by rw [dr]; omega), by rw [<- List.append_assoc, lr, hD1, aI], wa (wa hw1 (OwnE.w hA1)) hwD, rfl⟩ (ww (wa (OwnE.w hO28) (wa (wa hw1 (OwnE.w hA1)) hwD))) gc
mutual
theorem tf (hs : af) (hro : ∀ e ∈ hs, e.w = false) (bl bo : Nat) (ml : MemH hs bl ⟨1, true, [.func 36 [.ptr bl 0, .ptr bo 0]]⟩) : ∀ (k : TD) (c : List AV) (Z : List IE) (w : AV) (hp : af), TRep hs k c -> OwnE 12 (cI Z) Z.length w hp -> Z.length + jx k <= 2097152 -> Spec aA 36 [.agg c, .ptr bl 0, .ptr bo 0] (bo :: hp.map (·.b)) (⟨bo, ⟨1, true, [w]⟩, true⟩ :: (hp ++ hs)) (Dw hs k Z bo)
 | .node d ks, c, Z, w, hp, h, hO, hz => by
  rw [TRep] at h
  obtain ⟨vm, vn, vk, cs, rfl, h1, h2, h3, h4, h5, h6⟩ := h
  exact zC hs hro bl bo ml d ks vm vn vk cs h1 h2 h3 h4 h5 h6 Z w hp hO hz (qv hs hro bl bo ml ks)
theorem qv (hs : af) (hro : ∀ e ∈ hs, e.w = false) (bl bo : Nat) (ml : MemH hs bl ⟨1, true, [.func 36 [.ptr bl 0, .ptr bo 0]]⟩) : ∀ (ks : List TD), ∀ k ∈ ks, ∀ (c : List AV) (Z : List IE) (w : AV) (hp : af), TRep hs k c -> OwnE 12 (cI Z) Z.length w hp -> Z.length + jx k <= 2097152 -> Spec aA 36 [.agg c, .ptr bl 0, .ptr bo 0] (bo :: hp.map (·.b)) (⟨bo, ⟨1, true, [w]⟩, true⟩ :: (hp ++ hs)) (Dw hs k Z bo)
 | [], k, h, _, _, _, _, _, _, _ => by cases h
 | x :: ks, k, h, c, Z, w, hp, h1, h2, h3 => by
  rcases List.mem_cons.1 h with e | h
  ·exact e ▸ tf hs hro bl bo ml x c Z w hp (e ▸ h1) h2 (e ▸ h3)
  ·exact qv hs hro bl bo ml ks k h c Z w hp h1 h2 h3
end
end Go.Proofs.YtndhhgbpcmfeiaaGreatDoor.Ev
