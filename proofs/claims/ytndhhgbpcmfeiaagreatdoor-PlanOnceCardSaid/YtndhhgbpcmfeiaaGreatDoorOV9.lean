/- Chapter 17, walks: the document's numbers and quoted texts, as far as their shapes. -/
import Derived.Test.YtndhhgbpcmfeiaaGreatDoorOV8
namespace Go.Proofs.YtndhhgbpcmfeiaaGreatDoor.Ev.P16
open Go.RowKit
set_option maxRecDepth 100000
set_option maxHeartbeats 1000000
section
variable {tb : Tab} {n : Nat} {E : Env} {s : St} {hs : ak} {a b : Code} {Q : Ex -> T AV -> AHeap -> Prop}
theorem ou {α : Type} (st : α -> St) (hp : α -> ak) (I : α -> Prop) (hb : ∀ x, I x -> W tb n b E (st x) (hp x) Q) (ha : (∀ x, I x -> W tb n b E (st x) (hp x) Q) -> W tb n a E s hs (Ev.K tb n b Q)) : W tb n (.seq a b) E s hs Q := W.seq (ha hb)
theorem de {α : Type} (st : α -> St) (I : α -> Prop) (hb : ∀ x, I x -> W tb n b E (st x) hs Q) (ha : (∀ x, I x -> W tb n b E (st x) hs Q) -> W tb n a E s hs (Ev.K tb n b Q)) : W tb n (.seq a b) E s hs Q := W.seq (ha hb)
theorem lU {α β : Type} (st : α -> β -> St) (I : α -> β -> Prop) (hb : ∀ x y, I x y -> W tb n b E (st x y) hs Q) (ha : (∀ x y, I x y -> W tb n b E (st x y) hs Q) -> W tb n a E s hs (Ev.K tb n b Q)) : W tb n (.seq a b) E s hs Q := W.seq (ha hb)
theorem wU {α β γ : Type} (st : α -> β -> γ -> St) (I : α -> β -> γ -> Prop) (hb : ∀ x y z, I x y z -> W tb n b E (st x y z) hs Q) (ha : (∀ x y z, I x y z -> W tb n b E (st x y z) hs Q) -> W tb n a E s hs (Ev.K tb n b Q)) : W tb n (.seq a b) E s hs Q := W.seq (ha hb)
theorem lS {α β : Type} (st : α -> β -> St) (hp : α -> β -> ak) (I : α -> β -> Prop) (hb : ∀ x y, I x y -> W tb n b E (st x y) (hp x y) Q) (ha : (∀ x y, I x y -> W tb n b E (st x y) (hp x y) Q) -> W tb n a E s hs (Ev.K tb n b Q)) : W tb n (.seq a b) E s hs Q := W.seq (ha hb)
theorem lT {α β γ : Type} (st : α -> β -> γ -> St) (hp : α -> β -> γ -> ak) (I : α -> β -> γ -> Prop) (hb : ∀ x y z, I x y z -> W tb n b E (st x y z) (hp x y z) Q) (ha : (∀ x y z, I x y z -> W tb n b E (st x y z) (hp x y z) Q) -> W tb n a E s hs (Ev.K tb n b Q)) : W tb n (.seq a b) E s hs Q := W.seq (ha hb)
theorem wT {α β γ δ : Type} (st : α -> β -> γ -> δ -> St) (hp : α -> β -> γ -> δ -> ak) (I : α -> β -> γ -> δ -> Prop) (hb : ∀ x y z u, I x y z u -> W tb n b E (st x y z u) (hp x y z u) Q) (ha : (∀ x y z u, I x y z u -> W tb n b E (st x y z u) (hp x y z u) Q) -> W tb n a E s hs (Ev.K tb n b Q)) : W tb n (.seq a b) E s hs Q := W.seq (ha hb)
end
theorem WD.callE {tb : Tab} {n m i : Nat} {ops rest : List Oper} {keep : ak} {E : Env} {s : St} {hs : ak} {R : T AV -> AHeap -> Prop} {d : Nat} {ty : TypeId} {pos : String} {aft : Array Edge} {of : Operand} {args : List Operand} {ts : Array TypeId} {g : Nat} {caps l l' : List AV} {hsc : ak} {P : AV -> Prop} (hf : oL s of = some (.func g caps)) (ha : pW s args = some l) (hl : l ++ caps = l')
  (hsp : Spec tb g l' [] hsc (eQ P)) (hsub : SubR hsc hs) (hkp : KIn keep hs) (hd : Nat.blt d n = true) (hk : ∀ v, P v -> WD tb n ops keep m (i + 1) rest E ((d, v) :: s) hs R) :
  WD tb n ops keep m i (⟨some d, .call ⟨.value of, args.toArray, ts⟩, ty, pos, aft, none⟩ :: rest) E s hs R :=
 WD.l (C := fun v' hs' => P v' /\ hs' = hs) (fun tm h r e => by cases e) (fun R hR => WO.callE hf ha hl hsp hsub hd fun v hv => WO.nil (hR _ _ ⟨hv, rfl⟩))
  (fun v' hs' ⟨_, h2⟩ _ => by subst h2; exact hkp) (fun v' hs' ⟨h1, h2⟩ => by subst h2; exact hk v' h1)
theorem Bytes.one {c : Nat} (h : c < 256) : Bytes [c] := by intro x hx; simp at hx; subst hx; exact h
theorem Bytes.cons {c : Nat} {l : List Nat} (h : c < 256) (g : Bytes l) : Bytes (c :: l) := by
 intro x hx
 rcases List.mem_cons.1 hx with rfl | hx
 ·exact h
 ·exact g x hx
theorem yr {c : Nat} (hc : c < 256) (h : ((0 : Nat) : Int) <= np c) : Spec aN 124 [.int .u8 ((c : Nat) : Int)] [] [] (eQ fun v => ∃ x : Nat, v = .int .i64 (x : Int) /\ x < 16) := by
 refine (pI c hc).mono fun v D ⟨h1, h2⟩ => ⟨⟨(np c).toNat, ?_, ?_⟩, h2⟩
 ·rw [Int.toNat_of_nonneg (by simpa using h)]
  exact h1
 ·unfold np
  split
  ·omega
  ·split <;> omega
theorem Ho {a b : Nat} (h : a < 256) : IntKind.u8.wrap (((a : Nat) : Int).tdiv ((b : Nat) : Int)) = ((a / b : Nat) : Int) := by
 have := Nat.div_le_self a b
 rw [<- Int.ofNat_tdiv]
 generalize a / b = q at this ⊢
 exact Ic zy
theorem Hq {a b : Nat} (h : a < 256) : ((a : Nat) : Int).tmod ((b : Nat) : Int) = ((a % b : Nat) : Int) := (Int.ofNat_tmod a b).symm
theorem BP (s : List Nat) (hs : Bytes s) (hl : s.length <= 1024) : Spec aN 122 [.str s] [] [] (eQ (fun v => ∃ a b : Int, v = .tuple [.int .i64 a, .int .i64 b])) := by
 refine av (cX 122 Tryz.func122) rfl (m := 141) rfl (rs := [.tmp 2, .tmp 3]) rfl (st := [(0, .str s)]) rfl rfl (fun _ => rfl) (fun E => zr (za (zi 0) (za (zi 0) (zk (zr (zm rfl (za rfl (zk (de (fun (t : List Nat) => [(0, .str s), (4, .str t)]) (fun (t : List Nat) => Bytes t /\ t.length <= 1024 /\ t.length <= s.length) (fun t hI4 => ?_) (fun hJ4 => ?_))))))))))
 ·obtain ⟨ht, htl, hts⟩ := hI4
  refine zr (za (zi 0) (za (zi 0) (zk (de (fun (w : Nat) => [(0, .str s), (4, .str t), (5, .int .i64 ((w : Nat) : Int)), (6, .int .i64 ((0 : Nat) : Int))]) (fun (w : Nat) => w <= t.length) (fun w hI7 => ?_) (fun hJ7 => ?_)))))
  ·have hw := hI7
   refine de (fun (w : Nat) => [(0, .str s), (4, .str t), (5, .int .i64 ((w : Nat) : Int)), (6, .int .i64 ((0 : Nat) : Int))]) (fun (w : Nat) => 0 < w /\ w <= t.length) (fun w hI9 => ?_) (fun hJ9 => ?_)
   ·obtain ⟨hw0, hw⟩ := hI9
    refine de (fun (p : Nat) => [(0, .str s), (4, .str t), (5, .int .i64 ((w : Nat) : Int)), (6, .int .i64 ((p : Nat) : Int))]) (fun (p : Nat) => p = 0 \/ w + 1 + p <= t.length) (fun p hI20 => ?_) (fun hJ20 => ?_)
    ·have hp := hI20
     refine W.seq (zr (zm rfl (zq (aa rfl (oc (v := .str [45, 48]) (by kernel_rfl)) rfl aH) (zk (aw rfl (fun hc94 => ?_) (fun hc94 => ?_))))))
     ·refine zr (za (zi 0) (za (zi 14) (zk (W.ret (ac (af (ResL.tmp rfl (z1 rfl)) ?_))))))
      exact ⟨_, _, rfl⟩
     refine zw (zr (za (zi 0) (zk (W.seq (zr (za (zi 0) (zk (W.block (gq (fun (n : Int) (i : Nat) => [(0, .str s), (4, .str t), (5, .int .i64 ((w : Nat) : Int)), (6, .int .i64 ((p : Nat) : Int)), (8, .int .i64 n), (9, .int .i64 ((i : Nat) : Int))]) (fun _ _ => _) (fun (n : Int) (i : Nat) => i <= w) (fun (n : Int) (i : Nat) => w - i) (0) (0) (Nat.zero_le _) zv (SubH.refl _) (fun n i hI2 ih2 => ?_))))))))))
     have hiw := hI2
     refine W.seq (zr (zm rfl (zm rfl (zq (aa rfl rfl rfl (ec dM)) (zk (aw rfl (fun hc97 => ?_) (fun hc97 => ?_)))))))
     ·refine zw (W.seq (W.block (W.seq (zr (zm rfl (zq (aa rfl (zi 115292150460684697) rfl (aV (cp _ _))) (zk (aw rfl (fun hc101 => ?_) (fun hc101 => ?_)))))))))
      ·refine zr (za (zi 0) (za (zi 11) (zk (W.ret (ac (ad (ac (bE (ad (ac (af (ResL.tmp rfl (z1 rfl)) ?_)))))))))))
       exact ⟨_, _, rfl⟩
      refine zw (am (zm rfl (zq (aa (zi 10) rfl rfl (jH rfl)) (zm rfl (zm rfl (WO.indexB ht bH rfl rfl zo rfl (fun c106 hd106 hb106 => zq (jC AE DB rfl (qM zo)) (zq (aa rfl rfl rfl (fY rfl)) (zq (aa rfl (zi 48) rfl (cT rfl)) (za rfl (WO.nil (End.KB (End.K (am (zm rfl (zq (aa rfl (zi 1) rfl zp) (za rfl (WO.nil (End.KL (W.sub zv (ih2 (_) (i + 1) ?_ ?_)))))))))))))))))))))
      ·exact zy
      exact zo
     refine W.exit (aC (aK (aB (End.K (W.seq (zr (zm rfl (zq (aa rfl (zi 1152921504606) rfl (aV (cp _ _))) (zk (aw rfl (fun hc111 => ?_) (fun hc111 => ?_)))))))))))
     ·refine zr (za (zi 0) (za (zi 11) (zk (W.ret (ac (af (ResL.tmp rfl (z1 rfl)) ?_))))))
      exact ⟨_, _, rfl⟩
     refine zw (zr (zm rfl (zq (aa rfl (zi 1000000) rfl (jH rfl)) (za rfl (zk (zr (za (zi 1000000) (zk (W.seq (zr (za (zi 0) (zk (W.block (dE (fun (n : Int) (q : Int) (i : Nat) => [(0, .str s), (4, .str t), (5, .int .i64 ((w : Nat) : Int)), (6, .int .i64 ((p : Nat) : Int)), (8, .int .i64 n), (10, .int .i64 q), (11, .int .i64 ((i : Nat) : Int))]) (fun _ _ _ => _) (fun (n : Int) (q : Int) (i : Nat) => i <= p) (fun (n : Int) (q : Int) (i : Nat) => p - i) (_) (1000000) (0) (Nat.zero_le _) zv (SubH.refl _) (fun n q i hI3 ih3 => ?_)))))))))))))))
     have hip3 := hI3
     refine W.seq (zr (zm rfl (zm rfl (zq (aa rfl rfl rfl (ec dM)) (zk (aw rfl (fun hc116 => ?_) (fun hc116 => ?_)))))))
     ·refine zw (W.seq (W.block (zr (zm rfl (zq (aa rfl (zi 10) rfl (o4 (by decide) rfl)) (za rfl (zk (am (zm rfl (zm rfl (zm rfl (zm rfl (zq (aa rfl (zi 1) rfl zp) (zm rfl (zq (aa rfl rfl rfl zp) (WO.indexB ht bH rfl rfl zo rfl (fun c128 hd128 hb128 => zq (jC AE DB rfl (qM zo)) (zq (aa rfl (zi 48) rfl (cT rfl)) (zq (aa rfl rfl rfl (jH rfl)) (zq (aa rfl rfl rfl (fY rfl)) (za rfl (WO.nil (End.KB (End.K ?_))))))))))))))))))))))))
      refine W.sub (zc 8 rfl (zc 10 rfl (zc 0 rfl (zc 4 rfl (zc 5 rfl (zc 6 rfl (zc 11 rfl aI))))))) (am (zm rfl (zq (aa rfl (zi 1) rfl zp) (za rfl (WO.nil (End.KL (W.sub zv (ih3 (_) (_) (i + 1) ?_ ?_))))))))
      ·exact zy
      exact zo
     refine W.exit (aC (aK (aB (End.K (W.seq (zr (zm rfl (zq (aa rfl (zi 1152921504606846976) rfl (aV (cp _ _))) (zk (aw rfl (fun hc134 => ?_) (fun hc134 => ?_)))))))))))
     ·refine zr (za (zi 0) (za (zi 11) (zk (W.ret (ac (af (ResL.tmp rfl (z1 rfl)) ?_))))))
      exact ⟨_, _, rfl⟩
     refine zw (W.seq (zr (zm rfl (WO.indexB hs bH rfl (zi 0) zo rfl (fun c136 hd136 hb136 => zq (aa rfl (zu 45) rfl (ag aA)) (zk (aw rfl (fun hc137 => ?_) (fun hc137 => ?_))))))))
     ·refine zr (zm rfl (zq (Q.neg rfl rfl) (za rfl (za (zi 0) (zk (W.sub (zc 3 rfl (zc 2 rfl aI)) (W.ret (ac (af (ResL.tmp rfl (z1 rfl)) ?_)))))))))
      exact ⟨_, _, rfl⟩
     refine zw (W.sub (zc 8 rfl aI) (zr (zm rfl (za rfl (za (zi 0) (zk (W.ret (af (ResL.tmp rfl (z1 rfl)) ?_))))))))
     exact ⟨_, _, rfl⟩
    refine zr (zm rfl (zm rfl (zq (Q.len bH rfl rfl) (zq (aa rfl rfl rfl (ec dM)) (zk (aw rfl (fun hc54 => ?_) (fun hc54 => ?_)))))))
    ·refine W.seq (zr (zm rfl (zm rfl (WO.indexB ht bH rfl rfl zo rfl (fun c57 hd57 hb57 => zq (aa rfl (zu 46) rfl (aR cf)) (zk (aw rfl (fun hc58 => ?_) (fun hc58 => ?_))))))))
     ·refine zr (za (zi 0) (za (zi 14) (zk (W.ret (ac (ac (af (ResL.tmp rfl (z1 rfl)) ?_)))))))
      exact ⟨_, _, rfl⟩
     refine zw (W.seq (zr (zm rfl (zq (aa rfl (zi 1) rfl zp) (za rfl (zk (W.block (gq (fun (p : Nat) (i : Nat) => [(0, .str s), (4, .str t), (5, .int .i64 ((w : Nat) : Int)), (6, .int .i64 ((p : Nat) : Int)), (7, .int .i64 ((i : Nat) : Int))]) (fun _ _ => _) (fun (p : Nat) (i : Nat) => i = w + 1 + p /\ i <= t.length) (fun (p : Nat) (i : Nat) => t.length - i) (0) (w + 1) ⟨rfl, by omega⟩ zv (SubH.refl _) (fun p i hI1 ih1 => ?_)))))))))
     obtain ⟨hip, hit⟩ := hI1
     refine W.seq (zr (zm rfl (zm rfl (zq (Q.len bH rfl rfl) (zq (aa rfl rfl rfl (ec dM)) (zk (aw rfl (fun hc64 => ?_) (fun hc64 => ?_))))))))
     ·refine zw (W.seq (W.block (W.seq (zr (zm rfl (zm rfl (WO.indexB ht bH rfl rfl zo rfl (fun c69 hd69 hb69 => zq (aa rfl (zu 48) rfl (ec dM)) (zm rfl (ay (d := 71) rfl (fun hc71 => ?_) (fun hc71 => ?_)))))))))))
      ·refine z2 (z2 (zq (aj rfl rfl) (zk (au rfl (zr (za (zi 0) (za (zi 14) (zk (W.sub (zc 3 rfl (zc 2 rfl aI)) (W.ret (ac (ad (ac (bE (ad (ac (ac (af (ResL.tmp rfl (z1 rfl)) ?_))))))))))))))))))
       exact ⟨_, _, rfl⟩
      refine zT (zm rfl (zT (zm rfl (zT (WO.indexB ht bH rfl rfl zo rfl (fun c74 hd74 hb74 => zT (zq (aa rfl (zu 57) rfl (aV dM)) (zq (ax rfl rfl) (zk (aw rfl (fun hc76 => ?_) (fun hc76 => ?_)))))))))))
      ·refine zr (za (zi 0) (za (zi 14) (zk (W.sub (zc 3 rfl (zc 2 rfl aI)) (W.ret (ac (ad (ac (bE (ad (ac (ac (af (ResL.tmp rfl (z1 rfl)) ?_)))))))))))))
       exact ⟨_, _, rfl⟩
      refine zw (W.sub (zc 0 rfl (zc 4 rfl (zc 5 rfl (zc 6 rfl (zc 7 rfl aI))))) (am (zm rfl (zq (aa rfl (zi 1) rfl zp) (za rfl (WO.nil (End.KB (End.K (am (zm rfl (zq (aa rfl (zi 1) rfl zp) (za rfl (WO.nil (End.KL (W.sub zv (ih1 (p + 1) (i + 1) ?_ ?_))))))))))))))))
      ·exact ⟨by omega, by omega⟩
      exact zo
     refine W.exit (aC (aK (aB (End.K (zr (zm rfl (zq (aa rfl (zi 0) rfl (ag aA)) (zm rfl (ay (d := 81) rfl (fun hc81 => ?_) (fun hc81 => ?_))))))))))
     ·refine z2 (zq (aj rfl rfl) (zm rfl (z2 (z2 (z2 (zq (aj rfl rfl) (zk (W.sub (zc 92 rfl (zc 0 rfl (zc 4 rfl (zc 5 rfl (zc 6 rfl aI))))) (au rfl (zr (za (zi 0) (za (zi 14) (zk (W.ret (ac (af (ResL.tmp rfl (z1 rfl)) ?_))))))))))))))))
      exact ⟨_, _, rfl⟩
     refine zT (zm rfl (zT (zq (aa rfl (zi 6) rfl (aV dM)) (zq (ax rfl rfl) (zm rfl (ay (d := 85) rfl (fun hc85 => ?_) (fun hc85 => ?_)))))))
     ·refine z2 (z2 (z2 (zq (aj rfl rfl) (zk (W.sub (zc 92 rfl (zc 0 rfl (zc 4 rfl (zc 5 rfl (zc 6 rfl aI))))) (au rfl (zr (za (zi 0) (za (zi 14) (zk (W.ret (ac (af (ResL.tmp rfl (z1 rfl)) ?_)))))))))))))
      exact ⟨_, _, rfl⟩
     refine zT (zm rfl (zT (zm rfl (zT (zq (Q.len bH rfl rfl) (zT (zq (aa rfl (zi 1) rfl (cT (vf zo))) (zT (WO.indexB ht bH rfl rfl zo rfl (fun c90 hd90 hb90 => zT (zq (aa rfl (zu 48) rfl (ag aA)) (zq (ax rfl rfl) (zk (W.sub (zc 92 rfl (zc 0 rfl (zc 4 rfl (zc 5 rfl (zc 6 rfl aI))))) (aw rfl (fun hc92 => ?_) (fun hc92 => ?_))))))))))))))))
     ·refine zr (za (zi 0) (za (zi 14) (zk (W.ret (ac (af (ResL.tmp rfl (z1 rfl)) ?_))))))
      exact ⟨_, _, rfl⟩
     refine W.skip (End.K (W.sub zv (hJ20 (_) ?_)))
     exact zy
    refine W.skip (End.K (W.sub zv (hJ20 (_) ?_)))
    exact zy
   refine zr (zm rfl (zq (aa rfl (zi 0) rfl (ag aA)) (zm rfl (ay (d := 42) rfl (fun hc42 => ?_) (fun hc42 => ?_)))))
   ·refine z2 (zG (WO.gF rfl rfl (.inr rfl) rfl (WO.gF rfl rfl (.inr rfl) rfl (WO.gF rfl rfl (.inr rfl) rfl (zG (zq (aj rfl rfl) (zk (au rfl (zr (za (zi 0) (za (zi 14) (zk (W.sub (zc 3 rfl (zc 2 rfl aI)) (W.ret (ac (af (ResL.tmp rfl (z1 rfl)) ?_))))))))))))))))
    exact ⟨_, _, rfl⟩
   refine zT (zm rfl (zT (zq (aa rfl (zi 1) rfl (aV dM)) (zT (zm rfl (ay (d := 45) rfl (fun hc45 => ?_) (fun hc45 => ?_)))))))
   ·refine zT (zm rfl (zT (WO.indexB ht bH rfl (zi 0) zo rfl (fun c47 hd47 hb47 => zT (zq (aa rfl (zu 48) rfl (ag aA)) (zT (zq (aj rfl rfl) (zq (ax rfl rfl) (zk (aw rfl (fun hc50 => ?_) (fun hc50 => ?_)))))))))))
    ·refine zr (za (zi 0) (za (zi 14) (zk (W.sub (zc 3 rfl (zc 2 rfl aI)) (W.ret (ac (af (ResL.tmp rfl (z1 rfl)) ?_)))))))
     exact ⟨_, _, rfl⟩
    refine W.skip (End.K (W.sub zv (hJ9 (_) ?_)))
    exact zy
   refine z2 (zG (zT (zq (ax rfl rfl) (zq (ax rfl rfl) (zk (az rfl (W.skip (End.K (W.sub zv (hJ9 (_) ?_))))))))))
   exact zy
  refine W.block (aM (fun (w : Nat) => [(0, .str s), (4, .str t), (5, .int .i64 ((w : Nat) : Int)), (6, .int .i64 ((0 : Nat) : Int))]) (fun _ => _) (fun (w : Nat) => w <= t.length) (fun (w : Nat) => t.length - w) (0) (Nat.zero_le _) zv (SubH.refl _) (fun w hI0 ih0 => ?_))
  have hw := hI0
  refine W.seq (zr (zm rfl (zm rfl (zq (Q.len bH rfl rfl) (zq (aa rfl rfl rfl (ec dM)) (zm rfl (ay (d := 26) rfl (fun hc26 => ?_) (fun hc26 => ?_))))))))
  ·refine zT (zm rfl (zT (zm rfl (zT (WO.indexB ht bH rfl rfl zo rfl (fun c29 hd29 hb29 => zT (zq (aa rfl (zu 48) rfl (cy bZ)) (zq (aj rfl rfl) (zm rfl (ay (d := 32) rfl (fun hc32 => ?_) (fun hc32 => ?_)))))))))))
   ·refine zT (zm rfl (zT (zm rfl (zT (WO.indexB ht bH rfl rfl zo rfl (fun c35 hd35 hb35 => zT (zq (aa rfl (zu 57) rfl (dT bZ)) (zq (aj rfl rfl) (zk (W.sub (zc 37 rfl (zc 0 rfl (zc 4 rfl (zc 5 rfl (zc 6 rfl aI))))) (aw rfl (fun hc37 => ?_) (fun hc37 => ?_))))))))))))
    ·refine zw (W.block (am (zm rfl (zq (aa rfl (zi 1) rfl zp) (za rfl (WO.nil (End.KB (End.KL (W.sub zv (ih0 (w + 1) ?_ ?_))))))))))
     ·exact zy
     exact zo
    refine W.exit (aC (aK (aB (End.K (W.sub zv (hJ7 (_) ?_))))))
    exact zy
   refine z2 (z2 (zq (ax rfl rfl) (zk (W.sub (zc 37 rfl (zc 0 rfl (zc 4 rfl (zc 5 rfl (zc 6 rfl aI))))) (az rfl (W.exit (aC (aK (aB (End.K (W.sub zv (hJ7 (_) ?_))))))))))))
   exact zy
  refine z2 (z2 (zq (ax rfl rfl) (zm rfl (z2 (z2 (zq (ax rfl rfl) (zk (W.sub (zc 37 rfl (zc 0 rfl (zc 4 rfl (zc 5 rfl (zc 6 rfl aI))))) (az rfl (W.exit (aC (aK (aB (End.K (W.sub zv (hJ7 (_) ?_))))))))))))))))
  exact zy
 refine zr (zm rfl (zq (aa rfl (oc (v := .str []) (by kernel_rfl)) rfl iK) (zm rfl (ay (d := 15) rfl (fun hc15 => ?_) (fun hc15 => ?_)))))
 ·have hpos : 0 < s.length := List.length_pos_iff.2 hc15
  refine zT (zm rfl (zT (WO.indexB hs bH rfl (zi 0) zo rfl (fun c17 hd17 hb17 => zT (zq (aa rfl (zu 45) rfl (ag aA)) (zq (aj rfl rfl) (zk (aw rfl (fun hc19 => ?_) (fun hc19 => ?_)))))))))
  ·refine am (zm rfl (zq (bK bH rfl rfl zo jA) (za rfl (WO.nil (End.K (W.sub zv (hJ4 (_) ?_)))))))
   exact ⟨Bytes.drop hs 1, by simp; omega, by simp⟩
  refine W.skip (End.K (W.sub zv (hJ4 (_) ?_)))
  exact ⟨hs, hl, Nat.le_refl _⟩
 refine z2 (zG (zq (ax rfl rfl) (zk (az rfl (W.skip (End.K (W.sub zv (hJ4 (_) ?_))))))))
 exact ⟨hs, hl, Nat.le_refl _⟩

theorem uE (s : List Nat) (hs : Bytes s) (hl : s.length <= 4096) : Spec aN 125 [.str s] [] [] (eQ (fun v => ∃ t : List Nat, v = .str t /\ Bytes t /\ t.length <= 4 * s.length + 2)) := by
 refine av (cX 125 Tryz.func125) rfl (m := 52) rfl (rs := [.tmp 2]) rfl (st := [(0, .str s)]) rfl rfl (fun _ => rfl) (fun E => zr (zq (Q.assign (oc (v := .str []) (by kernel_rfl))) (zk (zr (zq (Q.assign (oc (v := .str [48, 49, 50, 51, 52, 53, 54, 55, 56, 57, 97, 98, 99, 100, 101, 102]) (by kernel_rfl))) (zk (zr (WO.bslice iD DA DC rfl (bz (zu 34) aq) rfl (cs := [_]) rfl rfl rfl (fun b1 => za rfl (zk (W.seq (zr (za (zi 0) (zk (W.block (gt (fun (i : Nat) (acc : List Nat) (v : AV) (hp : ak) => [(0, .str s), (3, .str [48, 49, 50, 51, 52, 53, 54, 55, 56, 57, 97, 98, 99, 100, 101, 102]), (4, v), (5, .int .i64 ((i : Nat) : Int))]) (fun (i : Nat) (acc : List Nat) (v : AV) (hp : ak) => hp) (fun (i : Nat) (acc : List Nat) (v : AV) (hp : ak) => i <= s.length /\ acc.length <= 1 + 4 * i /\ Bytes acc /\ Own 1 (tp acc) acc.length v hp) (fun (i : Nat) (acc : List Nat) (v : AV) (hp : ak) => s.length - i) (0) ([34]) (.slice b1 0 1 1) ([⟨b1, ⟨1, true, [.int .u8 ((34 : Nat) : Int)]⟩, true⟩]) ⟨by omega, by decide, by unfold Bytes; decide, .inr ⟨b1, true, rfl, rfl, rfl, by decide⟩⟩ zv (SubH.refl _) (fun i acc v hp hI0 ih0 => ?_)))))))))))))))))
 obtain ⟨h1, hle, ha, hO⟩ := hI0
 refine W.seq (zr (zm rfl (zm rfl (zq (Q.len bH rfl rfl) (zq (aa rfl rfl rfl (ec dM)) (zk (aw rfl (fun hc11 => ?_) (fun hc11 => ?_))))))))
 ·refine zw (W.seq (W.block (zr (zm rfl (zm rfl (WO.indexB hs bH rfl rfl zo rfl (fun c16 hd16 hb16 => za rfl (zk (zr (zm rfl (zq (aa rfl (zu 34) rfl (ag aA)) (zm rfl (ay (d := 19) rfl (fun hc19 => ?_) (fun hc19 => ?_))))))))))))))
  ·refine z2 (zq (aj rfl rfl) (zk (au rfl (am (zm rfl (zm rfl (WO.bslice iD DA DC rfl (bz (zu 92) (bz rfl aq)) rfl (cs := [_, _]) rfl rfl rfl (fun b2 => WO.appOwn (e := ⟨b2, _, true⟩) (A := []) eS hO rfl rfl rfl rfl ⟨by first | omega | (simp at * <;> omega), by first | omega | (simp at * <;> omega)⟩ (by decide) rfl rfl (fun v26 hp26 hO26 => za rfl (WO.nil (End.KB (End.K (W.sub (zc 4 rfl (zc 0 rfl (zc 3 rfl (zc 5 rfl aI)))) (am (zm rfl (zq (aa rfl (zi 1) rfl zp) (za rfl (WO.nil (End.KL (W.sub zv (ih0 (i + 1) (acc ++ [92, c16]) (v26) (hp26) ?_ ?_)))))))))))))))))))))
   ·exact ⟨by omega, by simp; omega, Bytes.append ha (Bytes.cons (by decide) (Bytes.one hb16)), by simpa [tp] using hO26⟩
   exact zo
  refine zT (zm rfl (zT (zq (aa rfl (zu 92) rfl (ag aA)) (zq (ax rfl rfl) (zk (aw rfl (fun hc22 => ?_) (fun hc22 => ?_)))))))
  ·refine am (zm rfl (zm rfl (WO.bslice iD DA DC rfl (bz (zu 92) (bz rfl aq)) rfl (cs := [_, _]) rfl rfl rfl (fun b4 => WO.appOwn (e := ⟨b4, _, true⟩) (A := []) eS hO rfl rfl rfl rfl ⟨by first | omega | (simp at * <;> omega), by first | omega | (simp at * <;> omega)⟩ (by decide) rfl rfl (fun v26 hp26 hO26 => za rfl (WO.nil (End.KB (End.K (W.sub (zc 4 rfl (zc 0 rfl (zc 3 rfl (zc 5 rfl aI)))) (am (zm rfl (zq (aa rfl (zi 1) rfl zp) (za rfl (WO.nil (End.KL (W.sub zv (ih0 (i + 1) (acc ++ [92, c16]) (v26) (hp26) ?_ ?_)))))))))))))))))
   ·exact ⟨by omega, by simp; omega, Bytes.append ha (Bytes.cons (by decide) (Bytes.one hb16)), by simpa [tp] using hO26⟩
   exact zo
  refine zr (zm rfl (zq (aa rfl (zu 32) rfl (ec dM)) (zm rfl (ay (d := 29) rfl (fun hc29 => ?_) (fun hc29 => ?_)))))
  ·refine z2 (zq (aj rfl rfl) (zk (W.sub (zc 32 rfl (zc 6 rfl (zc 0 rfl (zc 3 rfl (zc 4 rfl (zc 5 rfl aI)))))) (au rfl (eC 10 [] (by kernel_rfl) KIn.nil (WD.q (Q.move rfl) (Own.bq hO) rfl (WD.q (Q.move rfl) eD rfl (WD.q (Q.move rfl) kg rfl (WD.q (aa rfl (zu 16) rfl (o4 zo (Ho zo))) kg rfl (WD.indexB (by unfold Bytes; decide) bH rfl rfl zo rfl (fun c37 hd37 hb37 => WD.q (Q.move rfl) eD rfl (WD.q (Q.move rfl) kg rfl (WD.q (aa rfl (zu 16) rfl (AW zo (Hq zo))) kg rfl (WD.indexB (by unfold Bytes; decide) bH rfl rfl zo rfl (fun c41 hd41 hb41 => WD.bslice iD DA DC rfl (bz (zu 92) (bz (zu 120) (bz rfl (bz rfl aq)))) rfl (cs := [_, _, _, _]) rfl rfl rfl KIn.nil (fun b6 => WD.appOwn (e := ⟨b6, _, true⟩) (A := []) eS hO rfl rfl rfl rfl ⟨by first | omega | (simp at * <;> omega), by first | omega | (simp at * <;> omega)⟩ (by decide) rfl rfl KIn.nil (fun v43 hp43 hO43 => WD.q (Q.assign rfl) (Own.bq hO43) rfl (WD.nil (End.KB (End.K (am (zm rfl (zq (aa rfl (zi 1) rfl zp) ?_)))))))))))))))))))))))
   refine za rfl (WO.nil (End.KL (W.sub zv (ih0 (i + 1) (acc ++ [92, 120, c37, c41]) (v43) (hp43) ?_ ?_))))
   ·exact ⟨by omega, by simp; omega, Bytes.append ha (Bytes.cons (by decide) (Bytes.cons (by decide) (Bytes.cons hb37 (Bytes.one hb41)))), by simpa [tp] using hO43⟩
   exact zo
  refine zT (zm rfl (zT (zq (aa rfl (zu 126) rfl (aV dM)) (zq (ax rfl rfl) (zk (W.sub (zc 32 rfl (zc 6 rfl (zc 0 rfl (zc 3 rfl (zc 4 rfl (zc 5 rfl aI)))))) (aw rfl (fun hc32 => ?_) (fun hc32 => ?_))))))))
  ·refine eC 10 [] (by kernel_rfl) KIn.nil (WD.q (Q.move rfl) (Own.bq hO) rfl (WD.q (Q.move rfl) eD rfl (WD.q (Q.move rfl) kg rfl (WD.q (aa rfl (zu 16) rfl (o4 zo (Ho zo))) kg rfl (WD.indexB (by unfold Bytes; decide) bH rfl rfl zo rfl (fun c37 hd37 hb37 => WD.q (Q.move rfl) eD rfl (WD.q (Q.move rfl) kg rfl (WD.q (aa rfl (zu 16) rfl (AW zo (Hq zo))) kg rfl (WD.indexB (by unfold Bytes; decide) bH rfl rfl zo rfl (fun c41 hd41 hb41 => WD.bslice iD DA DC rfl (bz (zu 92) (bz (zu 120) (bz rfl (bz rfl aq)))) rfl (cs := [_, _, _, _]) rfl rfl rfl KIn.nil (fun b8 => WD.appOwn (e := ⟨b8, _, true⟩) (A := []) eS hO rfl rfl rfl rfl ⟨by first | omega | (simp at * <;> omega), by first | omega | (simp at * <;> omega)⟩ (by decide) rfl rfl KIn.nil (fun v43 hp43 hO43 => WD.q (Q.assign rfl) (Own.bq hO43) rfl (WD.nil (End.KB (End.K (am (zm rfl (zq (aa rfl (zi 1) rfl zp) (za rfl (WO.nil (End.KL (W.sub zv (ih0 (i + 1) (acc ++ [92, 120, c37, c41]) (v43) (hp43) ?_ ?_)))))))))))))))))))))))
   ·exact ⟨by omega, by simp; omega, Bytes.append ha (Bytes.cons (by decide) (Bytes.cons (by decide) (Bytes.cons hb37 (Bytes.one hb41)))), by simpa [tp] using hO43⟩
   exact zo
  refine am (zm rfl (zm rfl (WO.bslice iD DA DC rfl (bz rfl aq) rfl (cs := [_]) rfl rfl rfl (fun b10 => WO.appOwn (e := ⟨b10, _, true⟩) (A := []) eS hO rfl rfl rfl rfl ⟨by first | omega | (simp at * <;> omega), by first | omega | (simp at * <;> omega)⟩ (by decide) rfl rfl (fun v47 hp47 hO47 => za rfl (WO.nil (End.KB (End.K (am (zm rfl (zq (aa rfl (zi 1) rfl zp) (za rfl (WO.nil (End.KL (W.sub zv (ih0 (i + 1) (acc ++ [c16]) (v47) (hp47) ?_ ?_))))))))))))))))
  ·exact ⟨by omega, by simp; omega, Bytes.append ha (Bytes.one hb16), by simpa [tp] using hO47⟩
  exact zo
 refine W.exit (aC (aK (aB (End.K (zr (zm rfl (WO.bslice iD DA DC rfl (bz (zu 34) aq) rfl (cs := [_]) rfl rfl rfl (fun b12 => WO.appOwn (e := ⟨b12, _, true⟩) (A := []) eS hO rfl rfl rfl rfl ⟨by first | omega | (simp at * <;> omega), by first | omega | (simp at * <;> omega)⟩ (by decide) rfl rfl (fun v50 hp50 hO50 => zq (jk (A := []) iD bH AE (Bytes.append ha (by unfold Bytes; decide)) (by simpa [tp] using hO50 : Own 1 (tp (acc ++ [34])) _ _ _) rfl rfl) (za rfl (zk (W.ret (af (z1 rfl) ?_)))))))))))))
 exact ⟨acc ++ [34], rfl, Bytes.append ha (by unfold Bytes; decide), by simp; omega⟩

theorem Ds (s : List Nat) (hs : Bytes s) (hl : s.length <= 1024) : Spec aN 87 [.str s] [] [] (eQ (fun v => ∃ (t : List Nat) (n : Nat), v = .tuple [.str t, .int .i64 (n : Int)] /\ Bytes t /\ t.length <= s.length /\ n <= s.length)) := by
 refine av (cX 87 Tryz.func87) rfl (m := 135) rfl (rs := [.tmp 2, .tmp 3]) rfl (st := [(0, .str s)]) rfl rfl (fun _ => rfl) (fun E => zr (zq (Q.assign (oc (v := .str []) (by kernel_rfl))) (za (zi 0) (zk (W.seq (zr (zm rfl (zq (aa rfl (oc (v := .str []) (by kernel_rfl)) rfl aH) (zm rfl (ay (d := 9) rfl (fun hc9 => ?_) (fun hc9 => ?_)))))))))))
 ·refine z2 (zG (zq (aj rfl rfl) (zk (au rfl (zr (zq (Q.assign (oc (v := .str []) (by kernel_rfl))) (za (zi 0) (zk (W.ret (ac (af (ResL.tmp rfl (z1 rfl)) ?_)))))))))))
  exact ⟨[], 0, rfl, by intro c h; simp at h, by simp, by omega⟩
 have hpos : 0 < s.length := List.length_pos_iff.2 hc9
 refine zT (zm rfl (zT (WO.indexB hs bH rfl (zi 0) zo rfl (fun c11 hd11 hb11 => zT (zq (aa rfl (zu 34) rfl (aR cf)) (zq (ax rfl rfl) (zk (aw rfl (fun hc13 => ?_) (fun hc13 => ?_)))))))))
 ·refine zr (zq (Q.assign (oc (v := .str []) (by kernel_rfl))) (za (zi 0) (zk (W.ret (ac (af (ResL.tmp rfl (z1 rfl)) ?_))))))
  exact ⟨[], 0, rfl, by intro c h; simp at h, by simp, by omega⟩
 refine zw (zr (za rfl (zk (zr (za (zi 1) (zk (W.seq (W.block (gt (fun (i : Nat) (acc : List Nat) (v : AV) (hp : ak) => [(0, .str s), (4, v), (5, .int .i64 ((i : Nat) : Int))]) (fun (i : Nat) (acc : List Nat) (v : AV) (hp : ak) => hp) (fun (i : Nat) (acc : List Nat) (v : AV) (hp : ak) => 1 <= i /\ i <= s.length /\ acc.length <= i /\ Bytes acc /\ Own 1 (tp acc) acc.length v hp) (fun (i : Nat) (acc : List Nat) (v : AV) (hp : ak) => s.length - i) (1) ([]) (.nils) ([]) ⟨by omega, by omega, by simp, by intro c h; simp at h, Own.nil 1⟩ zv (SubH.refl _) (fun i acc v hp hI0 ih0 => ?_))))))))))
 obtain ⟨h1, h2, hle, ha, hO⟩ := hI0
 refine W.seq (zr (zm rfl (zm rfl (zq (Q.len bH rfl rfl) (zq (aa rfl rfl rfl (ec dM)) (zm rfl (ay (d := 18) rfl (fun hc18 => ?_) (fun hc18 => ?_))))))))
 ·refine zT (zm rfl (zT (zm rfl (zT (WO.indexB hs bH rfl rfl zo rfl (fun c21 hd21 hb21 => zT (zq (aa rfl (zu 34) rfl (aR cf)) (zq (aj rfl rfl) (zk (aw rfl (fun hc23 => ?_) (fun hc23 => ?_)))))))))))
  ·refine zw (W.block (zr (zm rfl (zm rfl (WO.indexB hs bH rfl rfl zo rfl (fun c26 hd26 hb26 => za rfl (zk (de (fun (b : Bool) => [(0, .str s), (4, v), (5, .int .i64 ((i : Nat) : Int)), (6, .int .u8 ((c26 : Nat) : Int)), (49, .bool b)]) (fun (b : Bool) => (b = true -> i + 1 < s.length)) (fun b hIc49 => ?_) (fun hJc49 => ?_)))))))))
   ·have hb49 := hIc49
    refine aE rfl (fun hc49 => ?_) (fun hc49 => ?_)
    ·have hi1 := hb49 hc49
     refine zr (zm rfl (zm rfl (zm rfl (zq (aa rfl (zi 1) rfl zp) (WO.indexB hs bH rfl rfl zo rfl (fun c54 hd54 hb54 => WO.bslice iD DA DC rfl (bz rfl aq) rfl (cs := [_]) rfl rfl rfl (fun b1 => WO.appOwn (e := ⟨b1, _, true⟩) (A := []) eS hO rfl rfl rfl rfl ⟨by first | omega | (simp at * <;> omega), by first | omega | (simp at * <;> omega)⟩ (by decide) rfl rfl (fun v56 hp56 hO56 => za rfl (zk (am (zm rfl (zq (aa rfl (zi 2) rfl zp) (za rfl (WO.nil (End.KB (End.KL (W.sub zv (ih0 (i + 2) (acc ++ [c54]) (v56) (hp56) ?_ ?_))))))))))))))))))
     ·exact ⟨by omega, by omega, by simp; omega, Bytes.append ha (Bytes.one hb54), by simpa [tp] using hO56⟩
     exact zo
    refine de (fun (b9 : Bool) => [(0, .str s), (4, v), (5, .int .i64 ((i : Nat) : Int)), (6, .int .u8 ((c26 : Nat) : Int)), (90, .bool b9)]) (fun (b9 : Bool) => (b9 = true -> i + 3 < s.length /\ 0 <= np (s.getD (i + 2) 0) /\ 0 <= np (s.getD (i + 3) 0))) (fun b9 hIc90 => ?_) (fun hJc90 => ?_)
    ·have hb90 := hIc90
     refine aE rfl (fun hc90 => ?_) (fun hc90 => ?_)
     ·obtain ⟨hi3, hx2, hx3⟩ := hb90 hc90
      refine W.seq (eC 15 [] (by kernel_rfl) KIn.nil (WD.q (Q.move rfl) (Own.bq hO) rfl (WD.q (Q.move rfl) eD rfl (WD.q (Q.move rfl) kg rfl (WD.q (aa rfl (zi 2) rfl zp) kg rfl (WD.indexB hs bH rfl rfl zo rfl (fun c95 hd95 hb95 => WD.callE rfl (aD rfl oz) rfl (yr (by assumption) (by rw [hd95]; exact hx2)) SubR.nil KIn.nil rfl (fun v96 hP96 => ?_))))))))
      obtain ⟨x96, rfl, hx96⟩ := hP96
      refine WD.q (aa (zi 16) rfl rfl (jH (Du zo))) kg rfl (WD.q (Q.move rfl) eD rfl (WD.q (Q.move rfl) kg rfl (WD.q (aa rfl (zi 3) rfl zp) kg rfl (WD.indexB hs bH rfl rfl zo rfl (fun c101 hd101 hb101 => WD.callE rfl (aD rfl oz) rfl (yr (by assumption) (by rw [hd101]; exact hx3)) SubR.nil KIn.nil rfl (fun v102 hP102 => ?_))))))
      obtain ⟨x102, rfl, hx102⟩ := hP102
      refine WD.q (aa rfl rfl rfl zp) kg rfl (WD.q (jC DB AE rfl (Ic zo)) kg rfl (WD.bslice iD DA DC rfl (bz rfl aq) rfl (cs := [_]) rfl rfl rfl KIn.nil (fun b3 => WD.appOwn (e := ⟨b3, _, true⟩) (A := []) eS hO rfl rfl rfl rfl ⟨by first | omega | (simp at * <;> omega), by first | omega | (simp at * <;> omega)⟩ (by decide) rfl rfl KIn.nil (fun v106 hp106 hO106 => WD.q (Q.assign rfl) (Own.bq hO106) rfl (WD.nil (End.K (W.sub (zc 4 rfl (zc 0 rfl (zc 5 rfl aI))) (am (zm rfl (zq (aa rfl (zi 4) rfl zp) (za rfl (WO.nil (End.KB (End.KL (W.sub zv (ih0 (i + 4) (acc ++ [16 * x96 + x102]) (v106) (hp106) ?_ ?_))))))))))))))))
      ·exact ⟨by omega, by omega, by simp; omega, Bytes.append ha (Bytes.one zy), by simpa [tp] using hO106⟩
      exact zo
     refine zr (zm rfl (zq (aa rfl (zu 92) rfl (ag aA)) (zk (aw rfl (fun hc110 => ?_) (fun hc110 => ?_)))))
     ·refine zr (zq (Q.assign (oc (v := .str []) (by kernel_rfl))) (za (zi 0) (zk (W.ret (ad (bE (ad (ac (af (ResL.tmp rfl (z1 rfl)) ?_)))))))))
      exact ⟨[], 0, rfl, by intro c h; simp at h, by simp, by omega⟩
     refine zr (zm rfl (zm rfl (WO.bslice iD DA DC rfl (bz rfl aq) rfl (cs := [_]) rfl rfl rfl (fun b5 => WO.appOwn (e := ⟨b5, _, true⟩) (A := []) eS hO rfl rfl rfl rfl ⟨by first | omega | (simp at * <;> omega), by first | omega | (simp at * <;> omega)⟩ (by decide) rfl rfl (fun v114 hp114 hO114 => za rfl (zk (am (zm rfl (zq (aa rfl (zi 1) rfl zp) (za rfl (WO.nil (End.KB (End.KL (W.sub zv (ih0 (i + 1) (acc ++ [c26]) (v114) (hp114) ?_ ?_)))))))))))))))
     ·exact ⟨by omega, by omega, by simp; omega, Bytes.append ha (Bytes.one hb26), by simpa [tp] using hO114⟩
     exact zo
    refine am (zm rfl (zq (aa rfl (zu 92) rfl (ag aA)) (zm rfl (ay (d := 61) rfl (fun hc61 => ?_) (fun hc61 => ?_)))))
    ·refine zT (zm rfl (zT (zq (aa rfl (zi 3) rfl zp) (zT (zm rfl (zT (zq (Q.len bH rfl rfl) (zT (zq (aa rfl rfl rfl (ec dM)) (zq (aj rfl rfl) (zm rfl (ay (d := 68) rfl (fun hc68 => ?_) (fun hc68 => ?_)))))))))))))
     ·refine zT (zm rfl (zT (zm rfl (zT (zq (aa rfl (zi 1) rfl zp) (zT (WO.indexB hs bH rfl rfl zo rfl (fun c72 hd72 hb72 => zT (zq (aa rfl (zu 120) rfl (ag aA)) (zq (aj rfl rfl) (zm rfl (ay (d := 75) rfl (fun hc75 => ?_) (fun hc75 => ?_)))))))))))))
      ·refine zT (zm rfl (zT (zm rfl (zT (zq (aa rfl (zi 2) rfl zp) (zT (WO.indexB hs bH rfl rfl zo rfl (fun c79 hd79 hb79 => zT (aJ rfl (aD rfl oz) rfl (pI _ (by assumption)) SubR.nil rfl (zT (zq (aa rfl (zi 0) rfl (cy ir)) (zq (aj rfl rfl) (zm rfl (ay (d := 83) rfl (fun hc83 => ?_) (fun hc83 => ?_)))))))))))))))
       ·refine zT (zm rfl (zT (zm rfl (zT (zq (aa rfl (zi 3) rfl zp) (zT (WO.indexB hs bH rfl rfl zo rfl (fun c87 hd87 hb87 => zT (aJ rfl (aD rfl oz) rfl (pI _ (by assumption)) SubR.nil rfl (zT (zq (aa rfl (zi 0) rfl (cy ir)) (zq (aj rfl rfl) (WO.nil (End.K (W.sub zv (hJc90 (_) ?_))))))))))))))))
        exact (by first | (intro h; cases h; done) | (intro h; have h := of_decide_eq_true h; exact ⟨by omega, by rw [<- hd79]; omega, by rw [<- hd87]; omega⟩))
       refine z2 (z2 (z2 (zq (ax rfl rfl) (WO.nil (End.K (W.sub zv (hJc90 (_) ?_)))))))
       exact (by first | (intro h; cases h; done) | (intro h; have h := of_decide_eq_true h; exact ⟨by omega, by rw [<- hd79]; omega, by rw [<- hd87]; omega⟩))
      refine z2 (z2 (z2 (zq (ax rfl rfl) (zm rfl (z2 (z2 (z2 (zq (ax rfl rfl) (WO.nil (End.K (W.sub zv (hJc90 (_) ?_))))))))))))
      exact (by first | (intro h; cases h; done) | (intro h; have h := of_decide_eq_true h; exact ⟨by omega, by rw [<- hd79]; omega, by rw [<- hd87]; omega⟩))
     refine z2 (z2 (zG (zq (ax rfl rfl) (zm rfl (z2 (z2 (z2 (zq (ax rfl rfl) (zm rfl (z2 (z2 (z2 (zq (ax rfl rfl) (WO.nil (End.K (W.sub zv (hJc90 (_) ?_)))))))))))))))))
     exact (by first | (intro h; cases h; done) | (intro h; have h := of_decide_eq_true h; exact ⟨by omega, by rw [<- hd79]; omega, by rw [<- hd87]; omega⟩))
    refine z2 (z2 (zG (zq (ax rfl rfl) (zm rfl (z2 (z2 (zG (zq (ax rfl rfl) (zm rfl (z2 (z2 (z2 (zq (ax rfl rfl) (zm rfl (zG (zg rfl rfl ?_))))))))))))))))
    refine z2 (z2 (zq (ax rfl rfl) (WO.nil (End.K (W.sub zv (hJc90 (_) ?_))))))
    exact (by first | (intro h; cases h; done) | (intro h; have h := of_decide_eq_true h; exact ⟨by omega, by rw [<- hd79]; omega, by rw [<- hd87]; omega⟩))
   refine am (zm rfl (zq (aa rfl (zu 92) rfl (ag aA)) (zm rfl (ay (d := 29) rfl (fun hc29 => ?_) (fun hc29 => ?_)))))
   ·refine zT (zm rfl (zT (zq (aa rfl (zi 1) rfl zp) (zT (zm rfl (zT (zq (Q.len bH rfl rfl) (zT (zq (aa rfl rfl rfl (ec dM)) (zq (aj rfl rfl) (zm rfl (ay (d := 36) rfl (fun hc36 => ?_) (fun hc36 => ?_)))))))))))))
    ·refine zT (zm rfl (zT (zm rfl (zT (zq (aa rfl (zi 1) rfl zp) (zT (WO.indexB hs bH rfl rfl zo rfl (fun c40 hd40 hb40 => zT (zq (aa rfl (zu 92) rfl (ag aA)) (zT (zm rfl (ay (d := 42) rfl (fun hc42 => ?_) (fun hc42 => ?_)))))))))))))
     ·refine z2 (z2 (zG (zT (zq (aj rfl rfl) (zq (aj rfl rfl) (WO.nil (End.K (W.sub zv (hJc49 (_) ?_)))))))))
      exact (by first | (intro h; cases h; done) | (intro _; omega))
     refine zT (zm rfl (zT (zm rfl (zT (zq (aa rfl (zi 1) rfl zp) (zT (WO.indexB hs bH rfl rfl zo rfl (fun c46 hd46 hb46 => zT (zq (aa rfl (zu 34) rfl (ag aA)) (zT (zq (ax rfl rfl) (zq (aj rfl rfl) (WO.nil (End.K (W.sub zv (hJc49 (_) ?_))))))))))))))))
     exact (by first | (intro h; cases h; done) | (intro _; omega))
    refine z2 (z2 (z2 (WO.gF rfl rfl (.inr rfl) rfl (WO.gF rfl rfl (.inr rfl) rfl (WO.gF rfl rfl (.inr rfl) rfl (WO.gF rfl rfl (.inr rfl) rfl (WO.gF rfl rfl (.inr rfl) rfl (zG (zq (ax rfl rfl) (WO.nil (End.K (W.sub zv (hJc49 (_) ?_)))))))))))))
    exact (by first | (intro h; cases h; done) | (intro _; omega))
   refine z2 (z2 (zG (zq (ax rfl rfl) (zm rfl (z2 (z2 (z2 (WO.gF rfl rfl (.inr rfl) rfl (WO.gF rfl rfl (.inr rfl) rfl (WO.gF rfl rfl (.inr rfl) rfl (WO.gF rfl rfl (.inr rfl) rfl (WO.gF rfl rfl (.inr rfl) rfl (zG (zq (ax rfl rfl) (WO.nil (End.K (W.sub zv (hJc49 (_) ?_))))))))))))))))))
   exact (by first | (intro h; cases h; done) | (intro _; omega))
  refine W.exit (aC (aK (aB (End.K (W.seq (W.seq (eC 12 _ (by kernel_rfl) (KIn.refl _) (WD.q (Q.move rfl) kg rfl (WD.q (Q.move rfl) eD rfl (WD.q (Q.len bH rfl rfl) kg rfl (WD.q (aa rfl rfl rfl (cy bZ)) bw rfl (WD.q (Q.move rfl) bw rfl (mT (d := 121) rfl (fun hc121 => ?_) (fun hc121 => ?_))))))))))))))
  ·refine WD.gF rfl rfl (.inl rfl) rfl (WD.gF rfl rfl (.inl rfl) rfl (WD.gF rfl rfl (.inl rfl) rfl (WD.gF rfl rfl (.inl rfl) rfl (WD.gF rfl rfl (.inl rfl) rfl (WD.gF rfl rfl (.inl rfl) rfl (WD.gF rfl rfl (.inl rfl) rfl (WD.gF rfl rfl (.inl rfl) rfl (WD.q (aj rfl rfl) bw rfl (WD.nil (End.K (W.sub (zc 130 rfl (zc 4 rfl (zc 5 rfl aI))) (au rfl (zr (zq (Q.assign (oc (v := .str []) (by kernel_rfl))) (za (zi 0) (zk (W.ret (ac (af (ResL.tmp rfl (z1 rfl)) ?_)))))))))))))))))))
   exact ⟨[], 0, rfl, by intro c h; simp at h, by simp, by omega⟩
  refine WD.gT rfl rfl (WD.q (Q.move rfl) (Own.bq hO) rfl (WD.gT rfl rfl (WD.q (jk (A := []) iD bH AE ha hO rfl rfl) eD rfl (WD.gT rfl rfl (WD.callE rfl (aD rfl oz) rfl (uE _ ha zo) SubR.nil (KIn.refl _) rfl (fun v124 hP124 => ?_))))))
  obtain ⟨qt, rfl, hqb, hql⟩ := hP124
  refine WD.gT rfl rfl (WD.q (Q.move rfl) eD rfl (WD.gT rfl rfl (WD.q (Q.move rfl) kg rfl (WD.gT rfl rfl (WD.q (aa rfl (zi 1) rfl zp) kg rfl (WD.gT rfl rfl (WD.q (bK bH rfl rfl zo uP) eD rfl (WD.gT rfl rfl (WD.q (aa rfl rfl rfl iK) bw rfl (WD.q (ax rfl rfl) bw rfl (WD.nil (End.K (W.sub (zc 130 rfl (zc 4 rfl (zc 5 rfl aI))) (aw rfl (fun hc130 => ?_) (fun hc130 => ?_)))))))))))))))
  ·refine zr (zq (Q.assign (oc (v := .str []) (by kernel_rfl))) (za (zi 0) (zk (W.ret (ac (af (ResL.tmp rfl (z1 rfl)) ?_))))))
   exact ⟨[], 0, rfl, by intro c h; simp at h, by simp, by omega⟩
  refine zw (zr (zm rfl (zq (jk (A := []) iD bH AE ha hO rfl rfl) (zm rfl (zq (aa rfl (zi 1) rfl zp) (za rfl (za rfl (zk (W.ret (af (ResL.tmp rfl (z1 rfl)) ?_))))))))))
  exact ⟨acc, i + 1, rfl, ha, by omega, by omega⟩
 refine z2 (z2 (zq (ax rfl rfl) (zk (az rfl (W.exit (aC (aK (aB (End.K (W.seq (W.seq (eC 12 _ (by kernel_rfl) (KIn.refl _) (WD.q (Q.move rfl) kg rfl (WD.q (Q.move rfl) eD rfl (WD.q (Q.len bH rfl rfl) kg rfl (WD.q (aa rfl rfl rfl (cy bZ)) bw rfl (WD.q (Q.move rfl) bw rfl (mT (d := 121) rfl (fun hc121 => ?_) (fun hc121 => ?_)))))))))))))))))))
 ·refine WD.gF rfl rfl (.inl rfl) rfl (WD.gF rfl rfl (.inl rfl) rfl (WD.gF rfl rfl (.inl rfl) rfl (WD.gF rfl rfl (.inl rfl) rfl (WD.gF rfl rfl (.inl rfl) rfl (WD.gF rfl rfl (.inl rfl) rfl (WD.gF rfl rfl (.inl rfl) rfl (WD.gF rfl rfl (.inl rfl) rfl (WD.q (aj rfl rfl) bw rfl (WD.nil (End.K (W.sub (zc 130 rfl (zc 4 rfl (zc 5 rfl aI))) (au rfl (zr (zq (Q.assign (oc (v := .str []) (by kernel_rfl))) (za (zi 0) (zk (W.ret (ac (af (ResL.tmp rfl (z1 rfl)) ?_)))))))))))))))))))
  exact ⟨[], 0, rfl, by intro c h; simp at h, by simp, by omega⟩
 refine WD.gT rfl rfl (WD.q (Q.move rfl) (Own.bq hO) rfl (WD.gT rfl rfl (WD.q (jk (A := []) iD bH AE ha hO rfl rfl) eD rfl (WD.gT rfl rfl (WD.callE rfl (aD rfl oz) rfl (uE _ ha zo) SubR.nil (KIn.refl _) rfl (fun v124 hP124 => ?_))))))
 obtain ⟨qt, rfl, hqb, hql⟩ := hP124
 refine WD.gT rfl rfl (WD.q (Q.move rfl) eD rfl (WD.gT rfl rfl (WD.q (Q.move rfl) kg rfl (WD.gT rfl rfl (WD.q (aa rfl (zi 1) rfl zp) kg rfl (WD.gT rfl rfl (WD.q (bK bH rfl rfl zo uP) eD rfl (WD.gT rfl rfl (WD.q (aa rfl rfl rfl iK) bw rfl (WD.q (ax rfl rfl) bw rfl (WD.nil (End.K (W.sub (zc 130 rfl (zc 4 rfl (zc 5 rfl aI))) (aw rfl (fun hc130 => ?_) (fun hc130 => ?_)))))))))))))))
 ·refine zr (zq (Q.assign (oc (v := .str []) (by kernel_rfl))) (za (zi 0) (zk (W.ret (ac (af (ResL.tmp rfl (z1 rfl)) ?_))))))
  exact ⟨[], 0, rfl, by intro c h; simp at h, by simp, by omega⟩
 refine zw (zr (zm rfl (zq (jk (A := []) iD bH AE ha hO rfl rfl) (zm rfl (zq (aa rfl (zi 1) rfl zp) (za rfl (za rfl (zk (W.ret (af (ResL.tmp rfl (z1 rfl)) ?_))))))))))
 exact ⟨acc, i + 1, rfl, ha, by omega, by omega⟩
end Go.Proofs.YtndhhgbpcmfeiaaGreatDoor.Ev.P16
