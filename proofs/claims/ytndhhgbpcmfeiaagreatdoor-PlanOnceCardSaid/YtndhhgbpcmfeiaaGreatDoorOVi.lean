/- Chapter 7, by the document: where the empty text ends. -/
import Derived.Test.YtndhhgbpcmfeiaaGreatDoorOVf
namespace Go.Proofs.YtndhhgbpcmfeiaaGreatDoor.Ev.P16
open Go.RowKit
set_option maxRecDepth 100000
set_option maxHeartbeats 1000000
theorem mU {tb : Tab} {n : Nat} {E : Env} {s : St} {hs : ak} {R : T AV -> AHeap -> Prop} {ops rest : List Oper} {d : Nat} {ty : TypeId} {pos : String} {aft : Array Edge} {t : TypeId} {ox oy : Operand} {t2 sz m : Nat} {tl : List Nat} {e : HE} {A : ak} {new : List AV} (ha : AP tb t t2 = some sz) (hx : oL s ox = some .nils) (hy : oL s oy = some (.slice e.b 0 m sz)) (hsz : e.o.cells = new)
  (hl : new.length = m * sz) (hn : 0 < m /\ 0 + m <= 1073741824) (hz : 0 < sz) (hs_ : hs = e :: A) (hd : Nat.blt d n = true)
  (hk : ∀ v' hp', Own sz ([] ++ new) (0 + m) v' hp' -> WO tb n ops rest E ((d, v') :: s) (A ++ hp') R) :
  WO tb n ops (⟨some d, .call ⟨.builtin .append, #[ox, oy], (t :: t2 :: tl).toArray⟩, ty, pos, aft, none⟩ :: rest) E s hs R :=
 WO.appOwn (hp := []) ha (Own.nil sz) hx hy hsz hl hn hz (by rw [hs_, List.append_nil]) hd hk
def ZV (hs : ak) (v : AV) : Prop := v = .nils \/ ∃ b ex, v = .slice b 0 1 1 /\ MemH hs b ⟨1, ex, [.int .i64 ((0 : Nat) : Int)]⟩
def ZQ (v : AV) (D : ak) : Prop := ZV D v /\ ∀ e ∈ D, e.w = true
theorem ZV.ro {hs : ak} {v : AV} (h : ZV hs v) : ZV (Ev.ro hs) v := h.imp id fun ⟨b, ex, h1, h2⟩ => ⟨b, ex, h1, h2.ro⟩
theorem ZV.appr {A hs : ak} {v : AV} (h : ZV hs v) : ZV (A ++ hs) v := h.imp id fun ⟨b, ex, h1, w, h2⟩ => ⟨b, ex, h1, w, List.mem_append_right _ h2⟩
theorem ZV.appl {A hs : ak} {v : AV} (h : ZV hs v) : ZV (hs ++ A) v := h.imp id fun ⟨b, ex, h1, w, h2⟩ => ⟨b, ex, h1, w, List.mem_append_left _ h2⟩
theorem Cl (hs : ak) (hro : ∀ e ∈ hs, e.w = false) : Spec aN 207 [.nils, .nils] [] hs (ZQ) := by
 refine av (cX 207 Tryz.func207) rfl (m := 60) rfl (rs := [.tmp 4]) rfl (st := [(0, .nils), (1, .nils)]) rfl rfl (fun _ => rfl) (fun E => zr (za rfl (zk (zr (za rfl (zk (W.seq (W.block (W.loop (W.seq (zr (zm rfl (zq (Q.len bc rfl rfl) (zq (aa rfl (zi 0) rfl (aV (p := false) rfl)) (zm rfl (zT (zm rfl (zT (zq (Q.len bc rfl rfl) (zT (zq (aa rfl (zi 0) rfl (aV (p := false) rfl)) (zq (ax rfl rfl) (zk ?_)))))))))))))))))))))))
 refine az rfl (W.exit (aC (aK (aB (End.K (zr (zm rfl (za rfl (zk (W.ret ?_))))))))))
 refine End.ret (z1 rfl) (hs' := []) ⟨.inl rfl, fun e h => j9 h⟩ (fun e h => j9 h) (SubH.nil _)

theorem Cm (hs : ak) (hro : ∀ e ∈ hs, e.w = false) (bb : Nat) (exb : Bool) (mb : MemH hs bb ⟨1, exb, [.int .i64 ((0 : Nat) : Int)]⟩) : Spec aN 207 [.nils, .slice bb 0 1 1] [] hs (ZQ) := by
 obtain ⟨wb, mb⟩ := mb
 refine av (cX 207 Tryz.func207) rfl (m := 60) rfl (rs := [.tmp 4]) rfl (st := [(0, .nils), (1, .slice bb 0 1 1)]) rfl rfl (fun _ => rfl) (fun E => zr (za rfl (zk (zr (za rfl (zk (W.seq (W.block (W.loop (W.seq (zr (zm rfl (zq (Q.len bc rfl rfl) (zq (aa rfl (zi 0) rfl (aV (p := false) rfl)) (zm rfl (zT (zm rfl (zT (zq (Q.len bc rfl rfl) (zT (zq (aa rfl (zi 0) rfl (aV (p := true) rfl)) (zq (ax rfl rfl) (zk ?_)))))))))))))))))))))))
 refine au rfl (zw (W.block (zr (za (zi 0) (zk (W.seq (W.seq (dz (by kernel_rfl) (zm rfl (zq (Q.len bc rfl rfl) (zq (aa rfl (zi 0) rfl (ag (p := false) rfl)) (zm rfl (zT (zm rfl (zT (zq (Q.len bc rfl rfl) (zT (zq (aa rfl (zi 0) rfl (aV (p := false) rfl)) (zT (zm rfl (z2 (zg rfl rfl ?_))))))))))))))))))))))
 refine z2 (z2 (zT (zq (ax rfl rfl) (zq (ax rfl rfl) (zk (W.sub (zc 31 rfl (zc 5 rfl (zc 0 rfl (zc 1 rfl aI)))) (az rfl (zr (zm rfl (zq (cR bc di rfl (zi 0) zo (o' := 0) rfl) (zq (ap rfl mb bU (rfl : (⟨1, _, [.int .i64 ((0 : Nat) : Int)]⟩ : AObj).cells[0]? = some (.int .i64 ((0 : Nat) : Int)))) (za rfl (zk (am (zm rfl (zq (lO bc di rfl rfl zo) (za rfl (zk (zr (zm rfl (zq (Q.len bc rfl rfl) ?_)))))))))))))))))))))
 refine zq (aa rfl (zi 0) rfl (ag (p := true) rfl)) (zm rfl (z2 (z2 (z2 (z2 (zq (aj rfl rfl) (zk (W.sub (zc 54 rfl (zc 1 rfl (zc 6 rfl (zc 5 rfl (zc 0 rfl aI))))) (au rfl (am (zm rfl (zm rfl (WO.bslice bc di yY rfl (bz rfl aq) rfl (cs := [_]) rfl rfl rfl (fun b1 => mU (e := ⟨b1, _, true⟩) (A := ([] ++ hs)) fp rfl rfl rfl rfl ⟨by first | omega | (simp at * <;> omega), by first | omega | (simp at * <;> omega)⟩ (by decide) rfl rfl (fun v58 hp58 hO58 => ?_)))))))))))))))
 obtain ⟨b58, ex58, rfl, rfl⟩ := hO58.full zy
 refine WO.subH (hs' := _ :: (([] ++ hs))) (SubH.op (List.perm_append_singleton _ _).symm) (za rfl (WO.nil (End.KB (End.KL (W.loop (W.seq (zr (zm rfl (zq (Q.len bc rfl rfl) (zq (aa rfl (zi 0) rfl (aV (p := false) rfl)) (zm rfl (zT (zm rfl (zT (zq (Q.len bc rfl rfl) (zT (zq (aa rfl (zi 0) rfl (aV (p := false) rfl)) (zq (ax rfl rfl) (zk (az rfl (W.exit (aC (aK (aB (End.K (W.sub (zc 5 rfl aI) (zr ?_)))))))))))))))))))))))))))
 refine zm rfl (za rfl (zk (W.ret ?_)))
 refine End.ret (z1 rfl) (hs' := [⟨b58, ⟨1, ex58, [.int .i64 ((0 : Nat) : Int)]⟩, true⟩]) ⟨.inr ⟨b58, ex58, rfl, true, by simp⟩, zW⟩ zW (SubH.of_sublist (by simp))

theorem Cn (hs : ak) (hro : ∀ e ∈ hs, e.w = false) (ba : Nat) (exa : Bool) (ma : MemH hs ba ⟨1, exa, [.int .i64 ((0 : Nat) : Int)]⟩) : Spec aN 207 [.slice ba 0 1 1, .nils] [] hs (ZQ) := by
 obtain ⟨wa, ma⟩ := ma
 refine av (cX 207 Tryz.func207) rfl (m := 60) rfl (rs := [.tmp 4]) rfl (st := [(0, .slice ba 0 1 1), (1, .nils)]) rfl rfl (fun _ => rfl) (fun E => zr (za rfl (zk (zr (za rfl (zk (W.seq (W.block (W.loop (W.seq (zr (zm rfl (zq (Q.len bc rfl rfl) (zq (aa rfl (zi 0) rfl (aV (p := true) rfl)) (zm rfl (z2 (zG (zq (aj rfl rfl) (zk (au rfl (zw (W.block ?_))))))))))))))))))))))
 refine zr (za (zi 0) (zk (W.seq (W.seq (dz (by kernel_rfl) (zm rfl (zq (Q.len bc rfl rfl) (zq (aa rfl (zi 0) rfl (ag (p := true) rfl)) (zm rfl (z2 (z2 (WO.gF rfl rfl (.inr rfl) rfl (WO.gF rfl rfl (.inr rfl) rfl (WO.gF rfl rfl (.inr rfl) rfl (WO.gF rfl rfl (.inr rfl) rfl (WO.gF rfl rfl (.inr rfl) rfl (WO.gF rfl rfl (.inr rfl) rfl (WO.gF rfl rfl (.inr rfl) rfl (zG (zq (aj rfl rfl) (zk ?_)))))))))))))))))))))
 refine W.sub (zc 31 rfl (zc 5 rfl (zc 0 rfl (zc 1 rfl aI)))) (au rfl (zr (zm rfl (zq (cR bc di rfl (zi 0) zo (o' := 0) rfl) (zq (ap rfl ma bU (rfl : (⟨1, _, [.int .i64 ((0 : Nat) : Int)]⟩ : AObj).cells[0]? = some (.int .i64 ((0 : Nat) : Int)))) (za rfl (zk (am (zm rfl (zq (lO bc di rfl rfl zo) (za rfl (zk (zr (zm rfl (zq (Q.len bc rfl rfl) (zq (aa rfl (zi 0) rfl (ag (p := true) rfl)) (zm rfl (z2 (z2 (zG (zg rfl rfl ?_)))))))))))))))))))))
 refine z2 (zq (aj rfl rfl) (zk (W.sub (zc 54 rfl (zc 0 rfl (zc 6 rfl (zc 5 rfl (zc 1 rfl aI))))) (au rfl (am (zm rfl (zm rfl (WO.bslice bc di yY rfl (bz rfl aq) rfl (cs := [_]) rfl rfl rfl (fun b1 => mU (e := ⟨b1, _, true⟩) (A := ([] ++ hs)) fp rfl rfl rfl rfl ⟨by first | omega | (simp at * <;> omega), by first | omega | (simp at * <;> omega)⟩ (by decide) rfl rfl (fun v58 hp58 hO58 => ?_))))))))))
 obtain ⟨b58, ex58, rfl, rfl⟩ := hO58.full zy
 refine WO.subH (hs' := _ :: (([] ++ hs))) (SubH.op (List.perm_append_singleton _ _).symm) (za rfl (WO.nil (End.KB (End.KL (W.loop (W.seq (zr (zm rfl (zq (Q.len bc rfl rfl) (zq (aa rfl (zi 0) rfl (aV (p := false) rfl)) (zm rfl (zT (zm rfl (zT (zq (Q.len bc rfl rfl) (zT (zq (aa rfl (zi 0) rfl (aV (p := false) rfl)) (zq (ax rfl rfl) (zk (az rfl (W.exit (aC (aK (aB (End.K (W.sub (zc 5 rfl aI) (zr ?_)))))))))))))))))))))))))))
 refine zm rfl (za rfl (zk (W.ret ?_)))
 refine End.ret (z1 rfl) (hs' := [⟨b58, ⟨1, ex58, [.int .i64 ((0 : Nat) : Int)]⟩, true⟩]) ⟨.inr ⟨b58, ex58, rfl, true, by simp⟩, zW⟩ zW (SubH.of_sublist (by simp))

theorem Co (hs : ak) (hro : ∀ e ∈ hs, e.w = false) (ba : Nat) (exa : Bool) (ma : MemH hs ba ⟨1, exa, [.int .i64 ((0 : Nat) : Int)]⟩) (bb : Nat) (exb : Bool) (mb : MemH hs bb ⟨1, exb, [.int .i64 ((0 : Nat) : Int)]⟩) : Spec aN 207 [.slice ba 0 1 1, .slice bb 0 1 1] [] hs (ZQ) := by
 obtain ⟨wa, ma⟩ := ma
 obtain ⟨wb, mb⟩ := mb
 refine av (cX 207 Tryz.func207) rfl (m := 60) rfl (rs := [.tmp 4]) rfl (st := [(0, .slice ba 0 1 1), (1, .slice bb 0 1 1)]) rfl rfl (fun _ => rfl) (fun E => zr (za rfl (zk (zr (za rfl (zk (W.seq (W.block (W.loop (W.seq (zr (zm rfl (zq (Q.len bc rfl rfl) (zq (aa rfl (zi 0) rfl (aV (p := true) rfl)) (zm rfl (z2 (zG (zq (aj rfl rfl) (zk (au rfl (zw (W.block ?_))))))))))))))))))))))
 refine zr (za (zi 0) (zk (W.seq (W.seq (dz (by kernel_rfl) (zm rfl (zq (Q.len bc rfl rfl) (zq (aa rfl (zi 0) rfl (ag (p := false) rfl)) (zm rfl (zT (zm rfl (zT (zq (Q.len bc rfl rfl) (zT (zq (aa rfl (zi 0) rfl (aV (p := true) rfl)) (zT (zm rfl (zT (zm rfl (zT (zq (cR bc di rfl (zi 0) zo (o' := 0) rfl) (zT (zq (ap rfl ma bU (rfl : (⟨1, _, [.int .i64 ((0 : Nat) : Int)]⟩ : AObj).cells[0]? = some (.int .i64 ((0 : Nat) : Int)))) ?_)))))))))))))))))))))))
 refine zT (zm rfl (zT (zq (cR bc di rfl (zi 0) zo (o' := 0) rfl) (zT (zq (ap rfl mb bU (rfl : (⟨1, _, [.int .i64 ((0 : Nat) : Int)]⟩ : AObj).cells[0]? = some (.int .i64 ((0 : Nat) : Int)))) (zT (zq (aa rfl rfl rfl (dT (p := true) rfl)) (zT (zq (aj rfl rfl) (zq (ax rfl rfl) (zk (W.sub (zc 31 rfl (zc 5 rfl (zc 0 rfl (zc 1 rfl aI)))) (au rfl (zr (zm rfl (zq (cR bc di rfl (zi 0) zo (o' := 0) rfl) (zq (ap rfl ma bU (rfl : (⟨1, _, [.int .i64 ((0 : Nat) : Int)]⟩ : AObj).cells[0]? = some (.int .i64 ((0 : Nat) : Int)))) (za rfl (zk (am (zm rfl (zq (lO bc di rfl rfl zo) (za rfl ?_)))))))))))))))))))))))
 refine zk (zr (zm rfl (zq (Q.len bc rfl rfl) (zq (aa rfl (zi 0) rfl (ag (p := true) rfl)) (zm rfl (z2 (z2 (z2 (z2 (zq (aj rfl rfl) (zk (W.sub (zc 54 rfl (zc 0 rfl (zc 6 rfl (zc 5 rfl (zc 1 rfl aI))))) (au rfl (am (zm rfl (zm rfl (WO.bslice bc di yY rfl (bz rfl aq) rfl (cs := [_]) rfl rfl rfl (fun b1 => mU (e := ⟨b1, _, true⟩) (A := ([] ++ hs)) fp rfl rfl rfl rfl ⟨by first | omega | (simp at * <;> omega), by first | omega | (simp at * <;> omega)⟩ (by decide) rfl rfl (fun v58 hp58 hO58 => ?_)))))))))))))))))))
 obtain ⟨b58, ex58, rfl, rfl⟩ := hO58.full zy
 refine WO.subH (hs' := _ :: (([] ++ hs))) (SubH.op (List.perm_append_singleton _ _).symm) (za rfl (WO.nil (End.KB (End.KL (W.loop (W.seq (zr (zm rfl (zq (Q.len bc rfl rfl) (zq (aa rfl (zi 0) rfl (aV (p := false) rfl)) (zm rfl (zT (zm rfl (zT (zq (Q.len bc rfl rfl) (zT (zq (aa rfl (zi 0) rfl (aV (p := true) rfl)) (zq (ax rfl rfl) (zk (au rfl (zw (W.sub (zc 5 rfl (zc 0 rfl (zc 1 rfl aI))) (W.block (zr ?_))))))))))))))))))))))))
 refine za (zi 0) (zk (W.seq (W.seq (dz (by kernel_rfl) (zm rfl (zq (Q.len bc rfl rfl) (zq (aa rfl (zi 0) rfl (ag (p := false) rfl)) (zm rfl (zT (zm rfl (zT (zq (Q.len bc rfl rfl) (zT (zq (aa rfl (zi 0) rfl (aV (p := false) rfl)) (zT (zm rfl (z2 (z2 (z2 (zg rfl rfl ?_))))))))))))))))))))
 refine zT (zq (ax rfl rfl) (zq (ax rfl rfl) (zk (W.sub (zc 31 rfl (zc 5 rfl (zc 0 rfl (zc 1 rfl aI)))) (az rfl (zr (zm rfl (zq (cR bc di rfl (zi 0) zo (o' := 0) rfl) (zq (ap rfl (List.mem_cons_of_mem _ mb) bU (rfl : (⟨1, _, [.int .i64 ((0 : Nat) : Int)]⟩ : AObj).cells[0]? = some (.int .i64 ((0 : Nat) : Int)))) (za rfl (zk (am (zm rfl (zq (lO bc di rfl rfl zo) (za rfl (zk (zr (zm rfl (zq (Q.len bc rfl rfl) (zq (aa rfl (zi 0) rfl (ag (p := false) rfl)) (zm rfl (zT (zm rfl ?_)))))))))))))))))))))))
 refine zT (zm rfl (zT (zq (Q.len bc rfl rfl) (zT (zq (aa rfl (zi 1) rfl (cT (vf zo))) (zT (zq (cR bc di rfl rfl zo (o' := 0) rfl) (zT (zq (ap rfl (zt 0 rfl) bU rfl) (zT (zm rfl (zT (zq (aa rfl rfl rfl (aR (p := false) rfl)) (zq (ax rfl rfl) (zk (W.sub (zc 54 rfl (zc 1 rfl (zc 6 rfl (zc 5 rfl (zc 0 rfl aI))))) (az rfl (W.skip (End.KB (End.KL (W.loop (W.seq (zr (zm rfl ?_))))))))))))))))))))))))
 refine zq (Q.len bc rfl rfl) (zq (aa rfl (zi 0) rfl (aV (p := false) rfl)) (zm rfl (zT (zm rfl (zT (zq (Q.len bc rfl rfl) (zT (zq (aa rfl (zi 0) rfl (aV (p := false) rfl)) (zq (ax rfl rfl) (zk (az rfl (W.exit (aC (aK (aB (End.K (zr (zm rfl (za rfl (zk (W.sub (zc 4 rfl aI) (W.ret ?_))))))))))))))))))))))
 refine End.ret (z1 rfl) (hs' := [⟨b58, ⟨1, ex58, [.int .i64 ((0 : Nat) : Int)]⟩, true⟩]) ⟨.inr ⟨b58, ex58, rfl, true, by simp⟩, zW⟩ zW (SubH.of_sublist (by simp))
theorem lC (hs : ak) (hro : ∀ e ∈ hs, e.w = false) (va vb : AV) (ha : ZV hs va) (hb : ZV hs vb) : Spec aN 207 [va, vb] [] hs ZQ := by
 rcases ha with rfl | ⟨ba, exa, rfl, ma⟩
 ·rcases hb with rfl | ⟨bb, exb, rfl, mb⟩
  ·exact Cl hs hro
  ·exact Cm hs hro bb exb mb
 ·rcases hb with rfl | ⟨bb, exb, rfl, mb⟩
  ·exact Cn hs hro ba exa ma
  ·exact Co hs hro ba exa ma bb exb mb
theorem CL (r : List Nat -> Bool) (d : Nat) (HE : ∀ q : List Nat, Bytes q -> q.length <= 64 -> q.length < d -> r q = true -> ∀ (hs : ak) (v : AV), (∀ e ∈ hs, e.w = false) -> ZV hs v -> Spec aN 203 [.str q, .str [], v] [] hs ZQ) (a : List Nat) (ha : Bytes a) (ha0 : 0 < a.length) (hal : a.length <= 64) (had : a.length <= d) (hin : a.getD 0 0 = 40 -> 2 <= a.length /\ r ((a.drop 1).take (a.length - 1 - 1)) = true) (hs : ak) (hro : ∀ e ∈ hs, e.w = false) (v : AV) (hz : ZV hs v) : Spec aN 213 [.str a, .str [], v] [] hs (ZQ) := by
 refine av (cX 213 Tryz.func213) rfl (m := 52) rfl (rs := [.tmp 6]) rfl (st := [(0, .str a), (1, .str []), (2, v)]) rfl rfl (fun _ => rfl) (fun E => zr (za rfl (zk (W.seq (zr (zm rfl (WO.indexB ha bH rfl (zi 0) zo rfl (fun c10 hd10 hb10 => zq (aa rfl (zu 40) rfl (ag aA)) (zk (aw rfl (fun hc11 => ?_) (fun hc11 => ?_)))))))))))
 ·have hin2 := hin zy
  refine zr (zm rfl (zm rfl (zq (Q.len bH rfl rfl) (zq (aa rfl (zi 1) rfl (cT (vf zo))) (zq (bK bH rfl rfl zo rfl) (zm rfl (zm rfl (WO.call0 rfl (aD rfl (aD rfl (aD rfl oz))) rfl (HE _ (Bytes.take (Bytes.drop ha _) _) zo zo hin2.2 hs v hro hz) (cw hro) rfl (fun v19 D19 hP19 => WO.subH (hs' := (hs ++ D19)) (SubH.op (aG (N := []) (G := D19) (K := []) (X := hs))) (za rfl (zk (W.sub (zc 6 rfl aI) (W.ret ?_)))))))))))))
  refine ac (End.ret (z1 rfl) (hs' := D19) ⟨hP19.1, hP19.2⟩ hP19.2 (SubH.of_sublist (by simp)))
 refine zw (zr ?_)
 rcases hz with rfl | ⟨b0, ex0, rfl, w0, m0⟩
 ·refine za rfl (zk (W.seq (zr (za (zi 0) (zk (W.block (W.loop (W.seq (zr (zm rfl (zm rfl (zq (Q.len bc rfl rfl) (zq (aa rfl rfl rfl (ec (p := false) rfl)) (zk (az rfl (W.exit (aC (aK (aB (End.K (zr (zm rfl (za rfl (zk (W.ret ?_)))))))))))))))))))))))))
  refine End.ret (z1 rfl) (hs' := []) ⟨.inl rfl, fun e h => j9 h⟩ (fun e h => j9 h) (SubH.nil _)
 refine za rfl (zk (W.seq (zr (za (zi 0) (zk (W.block (W.loop (W.seq (zr (zm rfl (zm rfl (zq (Q.len bc rfl rfl) (zq (aa rfl rfl rfl (ec (p := true) rfl)) (zk (au rfl (zw (W.seq (W.block (zr (zm rfl (zm rfl (zq (cR bc di rfl rfl zo (o' := 0) rfl) (zq (ap rfl m0 bU (rfl : (⟨1, _, [.int .i64 ((0 : Nat) : Int)]⟩ : AObj).cells[0]? = some (.int .i64 ((0 : Nat) : Int)))) ?_)))))))))))))))))))))))
 refine zm rfl (zq (Q.len bH rfl rfl) (zq (aa rfl rfl rfl (ec (p := false) rfl)) (zm rfl (z2 (z2 (z2 (z2 (zq (ax rfl rfl) (zk (W.sub (zc 42 rfl (zc 8 rfl (zc 7 rfl (zc 0 rfl (zc 1 rfl (zc 2 rfl aI)))))) (az rfl (W.skip (End.KB (End.K (am (zm rfl (zq (aa rfl (zi 1) rfl zp) (za rfl (WO.nil (End.KL ?_))))))))))))))))))))
 refine W.loop (W.seq (zr (zm rfl (zm rfl (zq (Q.len bc rfl rfl) (zq (aa rfl rfl rfl (ec (p := false) rfl)) (zk (az rfl (W.exit (aC (aK (aB (End.K (zr (zm rfl (za rfl (zk (W.ret ?_))))))))))))))))))
 refine End.ret (z1 rfl) (hs' := []) ⟨.inl rfl, fun e h => j9 h⟩ (fun e h => j9 h) (SubH.nil _)

theorem wC (r : List Nat -> Bool) (d : Nat) (HE : ∀ q : List Nat, Bytes q -> q.length <= 64 -> q.length < d -> r q = true -> ∀ (hs : ak) (v : AV), (∀ e ∈ hs, e.w = false) -> ZV hs v -> Spec aN 203 [.str q, .str [], v] [] hs ZQ) (a : List Nat) (ha : Bytes a) (ha0 : 0 < a.length) (hal : a.length <= 64) (had : a.length <= d) (hin : a.getD 0 0 = 40 -> 2 <= a.length /\ r ((a.drop 1).take (a.length - 1 - 1)) = true) (c : Nat) (hc : c < 256) (hs : ak) (hro : ∀ e ∈ hs, e.w = false) (v : AV) (hz : ZV hs v) : Spec aN 212 [.str a, .int .u8 ((c : Nat) : Int), .str [], v] [] hs (ZQ) := by
 refine av (cX 212 Tryz.func212) rfl (m := 50) rfl (rs := [.tmp 8]) rfl (st := [(0, .str a), (1, .int .u8 ((c : Nat) : Int)), (2, .str []), (3, v)]) rfl rfl (fun _ => rfl) (fun E => zr (za rfl (zk (zr (zm rfl (zm rfl (zm rfl (WO.call0 rfl (aD rfl (aD rfl (aD rfl oz))) rfl (CL r d HE a ha ha0 hal had hin hs hro v hz) (cw hro) rfl (fun v15 D15 hP15 => WO.subH (hs' := (hs ++ D15)) (SubH.op (aG (N := []) (G := D15) (K := []) (X := hs))) (za rfl (zk (de (fun (z : Unit) => [(1, .int .u8 ((c : Nat) : Int)), (3, v), (9, v15)]) (fun (z : Unit) => True) (fun z hI9 => ?_) (fun hJ9 => ?_)))))))))))))
 ·refine W.seq (zr (zm rfl (zq (aa rfl (zu 42) rfl (ag aA)) (zm rfl (ay (d := 42) rfl (fun hc42 => ?_) (fun hc42 => ?_))))))
  ·refine z2 (zq (aj rfl rfl) (zk (au rfl (am (zm rfl (zm rfl (WO.call0 rfl (aD rfl (aD rfl oz)) rfl (lC (ro (hs ++ D15)) iH _ _ (ZV.ro (hP15.1.appr)) (ZV.ro (hz.appl))) (SubR.ro (SubH.refl _)) rfl (fun v48 D48 hP48 => WO.subH (hs' := (hs ++ D15 ++ D48)) (SubH.op (aG (N := []) (G := D48) (K := []) (X := hs ++ D15))) (za rfl (zk (zr (zm rfl (za rfl (zk (W.ret ?_)))))))))))))))
   refine End.ret (z1 rfl) (hs' := D48) hP48 hP48.2 (SubH.of_sublist (by simp))
  refine zT (zm rfl (zT (zq (aa rfl (zu 63) rfl (ag aA)) (zq (ax rfl rfl) (zk (aw rfl (fun hc45 => ?_) (fun hc45 => ?_)))))))
  ·refine am (zm rfl (zm rfl (WO.call0 rfl (aD rfl (aD rfl oz)) rfl (lC (ro (hs ++ D15)) iH _ _ (ZV.ro (hP15.1.appr)) (ZV.ro (hz.appl))) (SubR.ro (SubH.refl _)) rfl (fun v48 D48 hP48 => WO.subH (hs' := (hs ++ D15 ++ D48)) (SubH.op (aG (N := []) (G := D48) (K := []) (X := hs ++ D15))) (za rfl (zk (zr (zm rfl (za rfl (zk (W.ret ?_)))))))))))
   refine End.ret (z1 rfl) (hs' := D48) hP48 hP48.2 (SubH.of_sublist (by simp))
  refine zw (zr (zm rfl (za rfl (zk (W.ret ?_)))))
  refine End.ret (z1 rfl) (hs' := D15) hP15 hP15.2 (SubH.of_sublist (by simp))
 refine zr (zm rfl (zq (aa rfl (zu 42) rfl (ag aA)) (zm rfl (ay (d := 18) rfl (fun hc18 => ?_) (fun hc18 => ?_)))))
 ·refine z2 (zq (aj rfl rfl) (zk (au rfl (zr (za (zi 0) (zk (W.block (W.loop (W.seq (zr (zm rfl (zm rfl (zq (Q.len bH rfl rfl) (zq (aa rfl rfl rfl (ec (p := false) rfl)) (zk (W.sub (zc 25 rfl (zc 10 rfl (zc 9 rfl (zc 0 rfl (zc 1 rfl (zc 2 rfl (zc 3 rfl aI))))))) (az rfl (W.exit (aC (aK (aB (End.K (W.sub zv (hJ9 (()) ?_))))))))))))))))))))))))
  exact trivial
 refine zT (zm rfl (zT (zq (aa rfl (zu 43) rfl (ag aA)) (zq (ax rfl rfl) (zk (aw rfl (fun hc21 => ?_) (fun hc21 => ?_)))))))
 ·refine zr (za (zi 0) (zk (W.block (W.loop (W.seq (zr (zm rfl (zm rfl (zq (Q.len bH rfl rfl) (zq (aa rfl rfl rfl (ec (p := false) rfl)) (zk (W.sub (zc 25 rfl (zc 10 rfl (zc 9 rfl (zc 0 rfl (zc 1 rfl (zc 2 rfl (zc 3 rfl aI))))))) (az rfl (W.exit (aC (aK (aB (End.K (W.sub zv (hJ9 (()) ?_))))))))))))))))))))
  exact trivial
 refine W.skip (End.K (W.sub zv (hJ9 (()) ?_)))
 exact trivial
theorem Alt.at_ {r : List Nat -> Bool} {p : List Nat} {i : Nat} (h : Alt r (p.drop i)) (hi : i < p.length) : ∃ n, dm r (p.drop i) = some n /\ 0 < n /\ i + n <= p.length /\
  (i + n < p.length -> Em (p.getD (i + n) 0) -> Alt r (p.drop (i + n + 1))) /\ (¬ (i + n < p.length /\ Em (p.getD (i + n) 0)) -> Alt r (p.drop (i + n))) := by
 have hne := oF hi
 have e1 : ∀ n, (p.drop i).getD n 0 = p.getD (i + n) 0 := fun n => cL
 have e2 : ∀ n, (p.drop i).drop n = p.drop (i + n) := fun n => List.drop_drop ..
 have e3 : (p.drop i).length = p.length - i := List.length_drop ..
 generalize hq : p.drop i = l at h hne e1 e2 e3
 cases h with
 | nil => exact absurd rfl hne
 | @mark _ n h1 h2 h3 h4 =>
  have := fX h1
  exact ⟨n, h1, this.1, by omega, fun _ _ => by rw [e2] at h4; exact h4, fun g => absurd (And.intro zy (by rw [<- e1]; exact h3)) g⟩
 | @bare _ n h1 h2 h3 =>
  have := fX h1
  exact ⟨n, h1, this.1, by omega, fun g1 g2 => absurd (And.intro zy (by rw [e1]; exact g2)) h2, fun _ => by rw [e2] at h3; exact h3⟩
theorem DR (p : List Nat) (hs : Bytes p) (hl : p.length <= 64) (i : Nat) (r : List Nat -> Bool) (d : Nat) (HR : ∀ q : List Nat, Bytes q -> q.length <= 64 -> q.length < d -> Spec aN 192 [.str q] [] [] (fJ (.bool (r q)))) (hd : p.length <= d) {n : Nat} (hn : dm r (p.drop i) = some n) :
  Spec aN 205 [.str p, .int .i64 ((i : Nat) : Int)] [] [] (fJ (.int .i64 ((i + n : Nat) : Int))) := by
 have := qT p hs hl i r d HR hd
 rw [hn] at this
 exact this
theorem CP {r : List Nat -> Bool} {l : List Nat} {n m : Nat} (h : dm r l = some n) (hm : m = n) : (l.take m).getD 0 0 = 40 -> 2 <= (l.take m).length /\ r (((l.take m).drop 1).take ((l.take m).length - 1 - 1)) = true := by
 subst hm
 intro h40
 have hn := fX h
 rw [dt zy] at h40
 unfold dm at h
 by_cases h0 : l = []
 ·rw [if_pos h0] at h; exact absurd h (by simp)
 have hp : ¬ (l.getD 0 0 = 46 \/ ep (l.getD 0 0) = true) := by
  rw [h40]
  decide
 rw [if_neg h0, if_neg hp, if_neg zy, if_neg zy, if_pos h40] at h
 cases e : dA 100 0 l with
 | none => rw [e] at h; exact absurd h (by simp)
 | some q =>
  rw [e] at h
  simp only at h
  by_cases h5 : r ((l.drop 1).take (q - 1)) = true
  ·rw [if_pos h5] at h
   have hq := Option.some.inj h
   have hq0 := oB e h40
   have hl : (l.take m).length = m := by rw [List.length_take]; omega
   refine ⟨by omega, ?_⟩
   rw [hl, List.drop_take, List.take_take, show min (m - 1 - 1) (m - 1) = q - 1 from by omega]
   exact h5
  ·rw [if_neg h5] at h; exact absurd h (by simp)
theorem AN (p : List Nat) (hs : Bytes p) (hl : p.length <= 64) (r : List Nat -> Bool) (d : Nat) (HE : ∀ q : List Nat, Bytes q -> q.length <= 64 -> q.length < d -> r q = true -> ∀ (hs : ak) (v : AV), (∀ e ∈ hs, e.w = false) -> ZV hs v -> Spec aN 203 [.str q, .str [], v] [] hs ZQ) (HR : ∀ q : List Nat, Bytes q -> q.length <= 64 -> q.length < d -> Spec aN 192 [.str q] [] [] (fJ (.bool (r q)))) (hd : p.length <= d) (hA : Alt r p) (gs : ak) (hro : ∀ e ∈ gs, e.w = false) (v : AV) (hz : ZV gs v) : Spec aN 208 [.str p, .str [], v] [] gs (fun v D => ZV (gs ++ D) v /\ ∀ e ∈ D, e.w = true) := by
 refine av (cX 208 Tryz.func208) rfl (m := 56) rfl (rs := [.tmp 6]) rfl (st := [(0, .str p), (1, .str []), (2, v)]) rfl rfl (fun _ => rfl) (fun E => zr (za rfl (zk (zr (za (zi 0) (zk (W.seq (W.block (dE (fun (i : Nat) (v : AV) (G : ak) => [(0, .str p), (1, .str []), (2, v), (7, .int .i64 ((i : Nat) : Int))]) (fun (i : Nat) (v : AV) (G : ak) => gs ++ G) (fun (i : Nat) (v : AV) (G : ak) => Alt r (p.drop i) /\ i <= p.length /\ ZV (gs ++ G) v /\ ∀ e ∈ G, e.w = true) (fun (i : Nat) (v : AV) (G : ak) => p.length - i) (0) (v) ([]) ⟨hA, by omega, by simpa using hz, fun e h => j9 h⟩ zv (SubH.of_sublist (by simp)) (fun i v G hI0 ih0 => ?_))))))))))
 obtain ⟨hA, hi, hz, hG⟩ := hI0
 refine W.seq (zr (zm rfl (zm rfl (zq (Q.len bH rfl rfl) (zq (aa rfl rfl rfl (ec dM)) (zk (aw rfl (fun hc13 => ?_) (fun hc13 => ?_))))))))
 ·obtain ⟨n, hn, hn0, hnl, hm1, hm2⟩ := hA.at_ zy
  refine zw (W.block (zr (zm rfl (zm rfl (aJ rfl (aD rfl (aD rfl oz)) rfl (DR p hs hl i r d HR hd hn) SubR.nil rfl (za rfl (zk (zr (za (zu 0) (zk (de (fun (c : Nat) => [(0, .str p), (1, .str []), (2, v), (7, .int .i64 ((i : Nat) : Int)), (8, .int .i64 ((i + n : Nat) : Int)), (9, .int .u8 ((c : Nat) : Int))]) (fun (c : Nat) => c < 256 /\ ((c ≠ 0 /\ Alt r (p.drop (i + n + 1)) /\ i + n < p.length) \/ (c = 0 /\ Alt r (p.drop (i + n))))) (fun c hI7 => ?_) (fun hJ7 => ?_))))))))))))
  ·obtain ⟨hcb, hc⟩ := hI7
   refine zr (zm rfl (zm rfl (zm rfl (zq (bK bH rfl rfl zo rfl) (zm rfl (zm rfl (zm rfl (WO.call0 rfl (aD rfl (aD rfl (aD rfl (aD rfl oz)))) rfl (wC r d HE _ (Bytes.take (Bytes.drop hs _) _) zo zo zo (CP hn zy) c hcb (ro (gs ++ G)) iH v hz.ro) (SubR.ro (SubH.refl _)) rfl (fun v49 D49 hP49 => WO.subH (hs' := (gs ++ G ++ D49)) (SubH.op (aG (N := []) (G := D49) (K := []) (X := gs ++ G))) (za rfl (zk (zr (zm rfl (za rfl (zk (zr (zm rfl (zq (aa rfl (zu 0) rfl (aR cf)) (zk (aw rfl (fun hc52 => ?_) (fun hc52 => ?_)))))))))))))))))))))
   ·refine am (zm rfl (zq (aa rfl (zi 1) rfl zp) (za rfl (WO.nil (End.KB (End.KL (W.sub zv (bX (SubH.of_sublist (by simp)) (ih0 (i + n + 1) (v49) (D49) ?_ ?_)))))))))
    ·exact ⟨by rcases hc with ⟨_, g, _⟩ | ⟨g, _⟩; exact g; omega, by omega, (hP49.1).appr, hP49.2⟩
    exact zo
   refine W.skip (End.KB (End.KL (W.sub zv (bX (SubH.of_sublist (by simp)) (ih0 (i + n) (v49) (D49) ?_ ?_)))))
   ·exact ⟨by rcases hc with ⟨g, _⟩ | ⟨_, g⟩; omega; exact g, by omega, (hP49.1).appr, hP49.2⟩
   exact zo
  refine zr (zm rfl (zm rfl (zq (Q.len bH rfl rfl) (zq (aa rfl rfl rfl (ec dM)) (zm rfl (ay (d := 21) rfl (fun hc21 => ?_) (fun hc21 => ?_)))))))
  ·refine zT (zm rfl (zT (zm rfl (zT (WO.indexB hs bH rfl rfl zo rfl (fun c24 hd24 hb24 => zT (zq (aa rfl (zu 42) rfl (ag aA)) (zT (zm rfl (ay (d := 26) rfl (fun hc26 => ?_) (fun hc26 => ?_)))))))))))
   ·refine z2 (z2 (zT (zq (aj rfl rfl) (zT (zm rfl (z2 (z2 (zT (zq (aj rfl rfl) (zq (aj rfl rfl) (zk (W.sub (zc 38 rfl (zc 9 rfl (zc 8 rfl (zc 0 rfl (zc 1 rfl (zc 2 rfl (zc 7 rfl aI))))))) (au rfl (am (zm rfl (zm rfl (WO.indexB hs bH rfl rfl zo rfl (fun c41 hd41 hb41 => za rfl (WO.nil ?_)))))))))))))))))))
    refine End.K (W.sub zv (hJ7 (_) ?_))
    exact ⟨hb41, .inl ⟨by omega, hm1 zy (by unfold Em; omega), by omega⟩⟩
   refine zT (zm rfl (zT (zm rfl (zT (WO.indexB hs bH rfl rfl zo rfl (fun c29 hd29 hb29 => zT (zq (aa rfl (zu 43) rfl (ag aA)) (zT (zq (ax rfl rfl) (zT (zm rfl (ay (d := 32) rfl (fun hc32 => ?_) (fun hc32 => ?_)))))))))))))
   ·refine z2 (z2 (zT (zq (aj rfl rfl) (zq (aj rfl rfl) (zk (W.sub (zc 38 rfl (zc 9 rfl (zc 8 rfl (zc 0 rfl (zc 1 rfl (zc 2 rfl (zc 7 rfl aI))))))) (au rfl (am (zm rfl (zm rfl (WO.indexB hs bH rfl rfl zo rfl (fun c41 hd41 hb41 => za rfl (WO.nil (End.K (W.sub zv (hJ7 (_) ?_))))))))))))))))
    exact ⟨hb41, .inl ⟨by omega, hm1 zy (by unfold Em; omega), by omega⟩⟩
   refine zT (zm rfl (zT (zm rfl (zT (WO.indexB hs bH rfl rfl zo rfl (fun c35 hd35 hb35 => zT (zq (aa rfl (zu 63) rfl (ag aA)) (zT (zq (ax rfl rfl) (zq (aj rfl rfl) (zk (W.sub (zc 38 rfl (zc 9 rfl (zc 8 rfl (zc 0 rfl (zc 1 rfl (zc 2 rfl (zc 7 rfl aI))))))) (aw rfl (fun hc38 => ?_) (fun hc38 => ?_))))))))))))))
   ·refine am (zm rfl (zm rfl (WO.indexB hs bH rfl rfl zo rfl (fun c41 hd41 hb41 => za rfl (WO.nil (End.K (W.sub zv (hJ7 (_) ?_))))))))
    exact ⟨hb41, .inl ⟨by omega, hm1 zy (by unfold Em; omega), by omega⟩⟩
   refine W.skip (End.K (W.sub zv (hJ7 (_) ?_)))
   exact ⟨by omega, .inr ⟨rfl, hm2 (by unfold Em; omega)⟩⟩
  refine z2 (z2 (zG (WO.gF rfl rfl (.inr rfl) rfl (WO.gF rfl rfl (.inr rfl) rfl (WO.gF rfl rfl (.inr rfl) rfl (WO.gF rfl rfl (.inr rfl) rfl (z2 (WO.gF rfl rfl (.inr rfl) rfl (WO.gF rfl rfl (.inr rfl) rfl (WO.gF rfl rfl (.inr rfl) rfl (WO.gF rfl rfl (.inr rfl) rfl (zG (zq (ax rfl rfl) (zk (W.sub (zc 38 rfl (zc 9 rfl (zc 8 rfl (zc 0 rfl (zc 1 rfl (zc 2 rfl (zc 7 rfl aI))))))) (az rfl (W.skip (End.K (W.sub zv (hJ7 (_) ?_))))))))))))))))))))
  exact ⟨by omega, .inr ⟨rfl, hm2 (by unfold Em; omega)⟩⟩
 refine W.exit (aC (aK (aB (End.K (zr (zm rfl (za rfl (zk (W.ret ?_)))))))))
 refine End.ret (z1 rfl) (hs' := G) ⟨hz, hG⟩ hG (SubH.of_sublist (by simp))
theorem ZV.tl {hs : ak} {e : HE} {v : AV} (h : ZV hs v) : ZV (e :: hs) v := h.imp id fun ⟨b, ex, h1, w, h2⟩ => ⟨b, ex, h1, w, List.mem_cons_of_mem _ h2⟩
theorem GL {e : HE} {A D : ak} {v : AV} (h : ZV (Ev.ro (e :: A) ++ D) v) : ZV (Ev.ro (e :: (A ++ D))) v := by
 refine h.imp id fun ⟨b, ex, h1, w, h2⟩ => ⟨b, ex, h1, ?_⟩
 rcases List.mem_append.1 h2 with g | g
 ·obtain ⟨x, hx, ex⟩ := List.mem_map.1 g
  have hw : false = w := congrArg HE.w ex
  subst hw
  refine ⟨false, List.mem_map.2 ⟨x, ?_, ex⟩⟩
  rcases List.mem_cons.1 hx with rfl | hx
  ·exact List.mem_cons_self
  ·exact List.mem_cons_of_mem _ (List.mem_append_left _ hx)
 ·exact ⟨false, List.mem_map.2 ⟨_, List.mem_cons_of_mem _ (List.mem_append_right _ g), rfl⟩⟩
theorem Bt {d : Nat} {p : List Nat} {v : AV} {D : ak} (hR : eF (d + 1) p = true) (h : Bs (eF d) p v D) :
  ∃ L b ex, fj (eF d) 100 [] p = some L /\ v = .tuple [.slice b 0 L.length 1, .bool true] /\ D = [⟨b, ⟨1, ex, L.map AV.str⟩, true⟩] := by
 rcases h with ⟨h1, _⟩ | h
 ·unfold eF at hR
  rw [h1] at hR
  exact absurd hR (by simp)
 ·exact h
theorem oE {r : List Nat -> Bool} : ∀ {k : Nat} {cur l : List Nat} {L : List (List Nat)}, fj r k cur l = some L -> L.length <= k
 | 0, _, _, _, h => by simp [fj] at h
 | k + 1, cur, l, L, h => by
  unfold fj at h
  by_cases h0 : l = []
  ·rw [if_pos h0] at h
   have := Option.some.inj h
   subst this
   simp
  rw [if_neg h0] at h
  by_cases h1 : l.getD 0 0 = 124
  ·rw [if_pos h1] at h
   obtain ⟨M, hM, rfl⟩ := Option.map_eq_some_iff.1 h
   have := oE hM
   simp
   omega
  rw [if_neg h1] at h
  cases e : dm r l with
  | none => rw [e] at h; exact absurd h (by simp)
  | some n =>
   rw [e] at h
   simp only at h
   split at h
   ·have := oE h; omega
   ·have := oE h; omega
theorem sq {r : List Nat -> Bool} : ∀ {k : Nat} {cur l : List Nat} {L : List (List Nat)}, fj r k cur l = some L -> ∀ x ∈ L, x.length <= cur.length + l.length /\ ∀ c ∈ x, c ∈ cur \/ c ∈ l
 | 0, _, _, _, h => by simp [fj] at h
 | k + 1, cur, l, L, h => by
  unfold fj at h
  by_cases h0 : l = []
  ·rw [if_pos h0] at h
   have := Option.some.inj h
   subst this
   intro x hx
   simp at hx
   subst hx
   exact ⟨by omega, fun c hc => .inl hc⟩
  rw [if_neg h0] at h
  by_cases h1 : l.getD 0 0 = 124
  ·rw [if_pos h1] at h
   obtain ⟨M, hM, rfl⟩ := Option.map_eq_some_iff.1 h
   intro x hx
   rcases List.mem_cons.1 hx with rfl | hx
   ·exact ⟨by omega, fun c hc => .inl hc⟩
   ·have := sq hM x hx
    simp only [List.length_drop, List.length_nil] at this
    refine ⟨by omega, fun c hc => ?_⟩
    rcases this.2 c hc with g | g
    ·simp at g
    ·exact .inr (List.mem_of_mem_drop g)
  rw [if_neg h1] at h
  cases e : dm r l with
  | none => rw [e] at h; exact absurd h (by simp)
  | some n =>
   rw [e] at h
   have st : ∀ m, fj r k (cur ++ l.take m) (l.drop m) = some L -> ∀ x ∈ L, x.length <= cur.length + l.length /\ ∀ c ∈ x, c ∈ cur \/ c ∈ l := by
    intro m hm x hx
    have := sq hm x hx
    simp only [List.length_append, List.length_take, List.length_drop] at this
    refine ⟨by omega, fun c hc => ?_⟩
    rcases this.2 c hc with g | g
    ·rcases List.mem_append.1 g with g | g
     ·exact .inl g
     ·exact .inr (List.mem_of_mem_take g)
    ·exact .inr (List.mem_of_mem_drop g)
   simp only at h
   split at h
   ·exact st _ h
   ·exact st _ h
theorem FZ {r : List Nat -> Bool} {p : List Nat} {L : List (List Nat)} {i : Nat} (h : fj r 100 [] p = some L) (hs : Bytes p) (hl : p.length <= 64) (hi : i < L.length) :
  Bytes (L.getD i []) /\ (L.getD i []).length <= 64 /\ (L.getD i []).length <= p.length /\ Alt r (L.getD i []) := by
 have hm : L.getD i [] ∈ L := by
  rw [List.getD_eq_getElem?_getD, List.getElem?_eq_getElem hi]
  exact List.getElem_mem hi
 have hx := sq h _ hm
 obtain ⟨m, tail, h1, h2, h3⟩ := oC h
 simp only [List.length_nil] at hx
 refine ⟨fun c hc => ?_, by omega, by omega, ?_⟩
 ·rcases hx.2 c hc with g | g
  ·simp at g
  ·exact hs c g
 ·rw [h1] at hm ⊢
  rcases List.mem_cons.1 hm with g | g
  ·rw [g]
   simpa using h2
  ·exact h3 _ g
theorem zj (p : List Nat) (hs : Bytes p) (hl : p.length <= 64) (d : Nat) (HE : ∀ q : List Nat, Bytes q -> q.length <= 64 -> q.length < d -> eF d q = true -> ∀ (hs : ak) (v : AV), (∀ e ∈ hs, e.w = false) -> ZV hs v -> Spec aN 203 [.str q, .str [], v] [] hs ZQ) (hd : p.length <= d) (hR : eF (d + 1) p = true) (gs : ak) (hro : ∀ e ∈ gs, e.w = false) (v : AV) (hz : ZV gs v) : Spec aN 203 [.str p, .str [], v] [] gs (ZQ) := by
 refine av (cX 203 Tryz.func203) rfl (m := 32) rfl (rs := [.tmp 6]) rfl (st := [(0, .str p), (1, .str []), (2, v)]) rfl rfl (fun _ => rfl) (fun E => zr (za rfl (zk (zr (zm rfl (WO.call0 rfl (aD rfl oz) rfl (tO p hs hl (eF d) d (mF d) hd) SubR.nil rfl (fun v13 D13 hP13 => ?_)))))))
 obtain ⟨L, bL, exL, hL, rfl, rfl⟩ := Bt hR hP13
 have hLl := oE hL
 refine zm rfl (zq (Q.extract rfl rfl) (zq (Q.extract rfl rfl) (za rfl (za rfl (zk (zr (za rfl (zk (W.seq (zr (za (zi 0) (zk (W.block (dE (fun (i : Nat) (o : AV) (G : ak) => [(1, .str []), (2, v), (7, .slice bL 0 L.length 1), (9, o), (10, .int .i64 ((i : Nat) : Int))]) (fun (i : Nat) (o : AV) (G : ak) => ⟨bL, ⟨1, exL, L.map AV.str⟩, true⟩ :: (gs ++ G)) (fun (i : Nat) (o : AV) (G : ak) => i <= L.length /\ ZV G o /\ ∀ e ∈ G, e.w = true) (fun (i : Nat) (o : AV) (G : ak) => L.length - i) (0) (.nils) ([]) ⟨by omega, .inl rfl, fun e h => j9 h⟩ zv (SubH.of_sublist (by simp)) (fun i o G hI0 ih0 => ?_)))))))))))))))
 obtain ⟨hi, hG, hGw⟩ := hI0
 refine W.seq (zr (zm rfl (zm rfl (zq (Q.len dk rfl rfl) (zq (aa rfl rfl rfl (ec dM)) (zk (aw rfl (fun hc19 => ?_) (fun hc19 => ?_))))))))
 ·have hx := FZ hL hs hl (i := i) zy
  refine zw (W.seq (W.block (am (zm rfl (zm rfl (zm rfl (zq (ci dk kb rfl rfl zo) (zq (ap rfl (zt 0 rfl) fW (eH zy)) (zm rfl (zm rfl (WO.call0 rfl (aD rfl (aD rfl (aD rfl oz))) rfl (AN (L.getD i []) hx.1 hx.2.1 (eF d) d HE (mF d) zy hx.2.2.2 (ro (⟨bL, ⟨1, exL, L.map AV.str⟩, true⟩ :: (gs ++ G))) iH v (hz.appl.tl.ro)) (SubR.ro (SubH.refl _)) rfl (fun v29 D29 hP29 => WO.subH (hs' := _ :: (gs ++ G ++ D29)) (SubH.op (aG (N := []) (G := D29) (K := [_]) (X := gs ++ G))) (WO.call0 rfl (aD rfl (aD rfl oz)) rfl (lC (ro (⟨bL, ⟨1, exL, L.map AV.str⟩, true⟩ :: ((gs ++ G) ++ D29))) iH _ _ (((hG.appr).appl).tl.ro) (GL hP29.1)) (SubR.ro (SubH.refl _)) rfl (fun v30 D30 hP30 => WO.subH (hs' := _ :: (gs ++ G ++ D29 ++ D30)) (SubH.op (aG (N := []) (G := D30) (K := [_]) (X := gs ++ G ++ D29))) (za rfl (WO.nil (End.KB (End.K (am (zm rfl (zq (aa rfl (zi 1) rfl zp) (za rfl (WO.nil (End.KL ?_))))))))))))))))))))))))
  refine W.sub zv (bX (SubH.of_sublist (by simp)) (ih0 (i + 1) (v30) (D30) ?_ ?_))
  ·exact ⟨by omega, hP30.1, hP30.2⟩
  exact zo
 refine W.exit (aC (aK (aB (End.K (zr (zm rfl (za rfl (zk (W.ret ?_)))))))))
 refine End.ret (z1 rfl) (hs' := G) ⟨hG, hGw⟩ hGw (SubH.of_sublist (by simp))
theorem yh : ∀ (d : Nat) (p : List Nat), Bytes p -> p.length <= 64 -> p.length < d -> eF d p = true -> ∀ (hs : ak) (v : AV), (∀ e ∈ hs, e.w = false) -> ZV hs v -> Spec aN 203 [.str p, .str [], v] [] hs ZQ
 | 0, _, _, _, h, _, _, _, _, _ => absurd h (Nat.not_lt_zero _)
 | d + 1, p, hs, hl, h, hR, gs, v, hro, hz => zj p hs hl d (yh d) zy hR gs hro v hz
theorem wG (p : List Nat) (hs : Bytes p) (hl : p.length <= 1048576) : Spec aN 195 [.str p, .str []] [] [] (eQ (fun v => ∃ (b : Bool) (e : Int), v = .tuple [.bool b, .int .i64 e])) := by
 refine av (cX 195 Tryz.func195) rfl (m := 34) rfl (rs := [.tmp 4, .tmp 5]) rfl (st := [(0, .str p), (1, .str [])]) rfl rfl (fun _ => rfl) (fun E => zr (za rfl (za (zi 0) (zk (W.seq (zr (zm rfl (WO.callE rfl (aD rfl oz) rfl (n6 _ hs zy) SubR.nil rfl (fun v9 hP9 => ?_)))))))))
 obtain ⟨x9, rfl, hx9⟩ := hP9
 refine za rfl (zk (zr (zm rfl (zq (aa rfl (zi 0) rfl (aR cP)) (zk (aw rfl (fun hc11 => ?_) (fun hc11 => ?_)))))))
 ·refine zr (zm rfl (za rfl (za rfl (zk (W.ret (ac (af (ResL.tmp rfl (z1 rfl)) ?_)))))))
  exact ⟨_, _, rfl⟩
 refine zw (W.seq (zr (zm rfl (zq (Q.len bH rfl rfl) (zq (aa rfl (zi 64) rfl (aV (p := false) rfl)) (zk (az rfl (zw (zr (zm rfl (zm rfl (WO.bslice bc di yY rfl (bz (zi 0) aq) rfl (cs := [_]) rfl rfl rfl (fun b1 => WO.call0 rfl (aD rfl (aD rfl (aD rfl oz))) rfl (yh 100 p hs (hx9 zy).1 (by have := (hx9 zy).1; omega) (hx9 zy).2 [⟨b1, ⟨1, true, [.int .i64 ((0 : Nat) : Int)]⟩, false⟩] (.slice b1 0 1 1) (by simp) (.inr ⟨b1, true, rfl, false, by simp⟩)) (SubR.one (zt 0 rfl)) rfl (fun v19 D19 hP19 => WO.subH (hs' := _ :: (D19)) (SubH.op (aG (N := []) (G := D19) (K := [_]) (X := []))) (za rfl (zk (W.sub (zc 7 rfl (zc 1 rfl aI)) (zr ?_))))))))))))))))))
 rcases hP19 with ⟨rfl | ⟨b0, ex0, rfl, w0, m0⟩, hw⟩
 ·refine zm rfl (zq (Q.len bc rfl rfl) (zq (aa rfl (zi 0) rfl (aV (p := false) rfl)) (zm rfl (z2 (z2 (z2 (z2 (zG (zq (ax rfl rfl) (za rfl (za (zi 0) (zk (W.sub (zc 5 rfl (zc 4 rfl aI)) (W.ret (af (ResL.tmp rfl (z1 rfl)) ?_)))))))))))))))
  exact ⟨_, _, rfl⟩
 refine zm rfl (zq (Q.len bc rfl rfl) (zq (aa rfl (zi 0) rfl (aV (p := true) rfl)) (zm rfl (zT (zm rfl (zT (zm rfl (zT (zq (Q.len bc rfl rfl) (zT (zq (aa rfl (zi 1) rfl (cT (vf zo))) (zT (zq (cR bc di rfl rfl zo (o' := 0) rfl) (zT (zq (ap rfl (List.mem_cons_of_mem _ m0) bU (rfl : (⟨1, _, [.int .i64 ((0 : Nat) : Int)]⟩ : AObj).cells[0]? = some (.int .i64 ((0 : Nat) : Int)))) (zT (zm rfl (zT (zq (Q.len bH rfl rfl) (zT (zq (aa rfl rfl rfl (ag (p := true) rfl)) (zq (aj rfl rfl) (za rfl ?_)))))))))))))))))))))))
 refine za (zi 0) (zk (W.sub (zc 5 rfl (zc 4 rfl aI)) (W.ret (af (ResL.tmp rfl (z1 rfl)) ?_))))
 exact ⟨_, _, rfl⟩
end Go.Proofs.YtndhhgbpcmfeiaaGreatDoor.Ev.P16
