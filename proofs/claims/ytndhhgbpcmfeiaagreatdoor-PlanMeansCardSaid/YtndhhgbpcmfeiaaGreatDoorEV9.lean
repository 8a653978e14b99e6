/- Chapter 17, walks: the document's numbers and quoted texts, as far as their shapes. -/
import Derived.Test.YtndhhgbpcmfeiaaGreatDoorEV8
namespace Go.Proofs.YtndhhgbpcmfeiaaGreatDoor.Ev.P16
open Go.RowKit
set_option maxRecDepth 100000
set_option maxHeartbeats 1000000
section
variable {tb : Tab} {n : Nat} {E : Env} {s : St} {hs : HSt} {a b : Code} {Q : Ex → T AV → AHeap → Prop}
theorem W.seqJ1 {α : Type} (st : α → St) (hp : α → HSt) (I : α → Prop) (hb : ∀ x, I x → W tb n b E (st x) (hp x) Q) (ha : (∀ x, I x → W tb n b E (st x) (hp x) Q) → W tb n a E s hs (Ev.K tb n b Q)) : W tb n (.seq a b) E s hs Q := W.seq (ha hb)
theorem W.seqK1 {α : Type} (st : α → St) (I : α → Prop) (hb : ∀ x, I x → W tb n b E (st x) hs Q) (ha : (∀ x, I x → W tb n b E (st x) hs Q) → W tb n a E s hs (Ev.K tb n b Q)) : W tb n (.seq a b) E s hs Q := W.seq (ha hb)
theorem W.seqK2 {α β : Type} (st : α → β → St) (I : α → β → Prop) (hb : ∀ x y, I x y → W tb n b E (st x y) hs Q) (ha : (∀ x y, I x y → W tb n b E (st x y) hs Q) → W tb n a E s hs (Ev.K tb n b Q)) : W tb n (.seq a b) E s hs Q := W.seq (ha hb)
theorem W.seqK3 {α β γ : Type} (st : α → β → γ → St) (I : α → β → γ → Prop) (hb : ∀ x y z, I x y z → W tb n b E (st x y z) hs Q) (ha : (∀ x y z, I x y z → W tb n b E (st x y z) hs Q) → W tb n a E s hs (Ev.K tb n b Q)) : W tb n (.seq a b) E s hs Q := W.seq (ha hb)
theorem W.seqJ2 {α β : Type} (st : α → β → St) (hp : α → β → HSt) (I : α → β → Prop) (hb : ∀ x y, I x y → W tb n b E (st x y) (hp x y) Q) (ha : (∀ x y, I x y → W tb n b E (st x y) (hp x y) Q) → W tb n a E s hs (Ev.K tb n b Q)) : W tb n (.seq a b) E s hs Q := W.seq (ha hb)
theorem W.seqJ3 {α β γ : Type} (st : α → β → γ → St) (hp : α → β → γ → HSt) (I : α → β → γ → Prop) (hb : ∀ x y z, I x y z → W tb n b E (st x y z) (hp x y z) Q) (ha : (∀ x y z, I x y z → W tb n b E (st x y z) (hp x y z) Q) → W tb n a E s hs (Ev.K tb n b Q)) : W tb n (.seq a b) E s hs Q := W.seq (ha hb)
theorem W.seqJ4 {α β γ δ : Type} (st : α → β → γ → δ → St) (hp : α → β → γ → δ → HSt) (I : α → β → γ → δ → Prop) (hb : ∀ x y z u, I x y z u → W tb n b E (st x y z u) (hp x y z u) Q) (ha : (∀ x y z u, I x y z u → W tb n b E (st x y z u) (hp x y z u) Q) → W tb n a E s hs (Ev.K tb n b Q)) : W tb n (.seq a b) E s hs Q := W.seq (ha hb)
end
theorem WD.callE {tb : Tab} {n m i : Nat} {ops rest : List Oper} {keep : HSt} {E : Env} {s : St} {hs : HSt} {R : T AV → AHeap → Prop} {d : Nat} {ty : TypeId} {pos : String} {aft : Array Edge} {of : Operand} {args : List Operand} {ts : Array TypeId} {g : Nat} {caps l l' : List AV} {hsc : HSt} {P : AV → Prop} (hf : oL s of = some (.func g caps)) (ha : oLs s args = some l) (hl : l ++ caps = l')
  (hsp : Spec tb g l' [] hsc (ValE P)) (hsub : SubR hsc hs) (hkp : KIn keep hs) (hd : Nat.blt d n = true) (hk : ∀ v, P v → WD tb n ops keep m (i + 1) rest E ((d, v) :: s) hs R) :
  WD tb n ops keep m i (⟨some d, .call ⟨.value of, args.toArray, ts⟩, ty, pos, aft, none⟩ :: rest) E s hs R :=
 WD.l (C := fun v' hs' => P v' ∧ hs' = hs) (fun tm h r e => by cases e) (fun R hR => WO.callE hf ha hl hsp hsub hd fun v hv => WO.nil (hR _ _ ⟨hv, rfl⟩))
  (fun v' hs' ⟨_, h2⟩ _ => by subst h2; exact hkp) (fun v' hs' ⟨h1, h2⟩ => by subst h2; exact hk v' h1)
theorem Bytes.one {c : Nat} (h : c < 256) : Bytes [c] := by intro x hx; simp at hx; subst hx; exact h
theorem Bytes.cons {c : Nat} {l : List Nat} (h : c < 256) (g : Bytes l) : Bytes (c :: l) := by
 intro x hx
 rcases List.mem_cons.1 hx with rfl | hx
 ·exact h
 ·exact g x hx
theorem hex_nat {c : Nat} (hc : c < 256) (h : ((0 : Nat) : Int) ≤ hexV c) : Spec tab 124 [.int .u8 ((c : Nat) : Int)] [] [] (ValE fun v => ∃ x : Nat, v = .int .i64 (x : Int) ∧ x < 16) := by
 refine (hex_spec c hc).mono fun v D ⟨h1, h2⟩ => ⟨⟨(hexV c).toNat, ?_, ?_⟩, h2⟩
 ·rw [Int.toNat_of_nonneg (by simpa using h)]
  exact h1
 ·unfold hexV
  split
  ·omega
  ·split <;> omega
theorem quo8 {a b : Nat} (h : a < 256) : IntKind.u8.wrap (((a : Nat) : Int).tdiv ((b : Nat) : Int)) = ((a / b : Nat) : Int) := by
 have := Nat.div_le_self a b
 rw [← Int.ofNat_tdiv]
 generalize a / b = q at this ⊢
 exact wr8 zy
theorem rem8 {a b : Nat} (h : a < 256) : ((a : Nat) : Int).tmod ((b : Nat) : Int) = ((a % b : Nat) : Int) := (Int.ofNat_tmod a b).symm
theorem fix_spec (s : List Nat) (hs : Bytes s) (hl : s.length ≤ 1024) : Spec tab 122 [.str s] [] [] (ValE (fun v => ∃ a b : Int, v = .tuple [.int .i64 a, .int .i64 b])) := by
 refine Spec.en (ftg 122 Tryz.func122) rfl (m := 141) rfl (rs := [.tmp 2, .tmp 3]) rfl (st := [(0, .str s)]) rfl rfl (fun _ => rfl) (fun E => zr (za (zi 0) (za (zi 0) (zk (zr (zm rfl (za rfl (zk (W.seqK1 (fun (t : List Nat) => [(0, .str s), (4, .str t)]) (fun (t : List Nat) => Bytes t ∧ t.length ≤ 1024 ∧ t.length ≤ s.length) (fun t hI4 => ?_) (fun hJ4 => ?_))))))))))
 ·obtain ⟨ht, htl, hts⟩ := hI4
  refine zr (za (zi 0) (za (zi 0) (zk (W.seqK1 (fun (w : Nat) => [(0, .str s), (4, .str t), (5, .int .i64 ((w : Nat) : Int)), (6, .int .i64 ((0 : Nat) : Int))]) (fun (w : Nat) => w ≤ t.length) (fun w hI7 => ?_) (fun hJ7 => ?_)))))
  ·have hw := hI7
   refine W.seqK1 (fun (w : Nat) => [(0, .str s), (4, .str t), (5, .int .i64 ((w : Nat) : Int)), (6, .int .i64 ((0 : Nat) : Int))]) (fun (w : Nat) => 0 < w ∧ w ≤ t.length) (fun w hI9 => ?_) (fun hJ9 => ?_)
   ·obtain ⟨hw0, hw⟩ := hI9
    refine W.seqK1 (fun (p : Nat) => [(0, .str s), (4, .str t), (5, .int .i64 ((w : Nat) : Int)), (6, .int .i64 ((p : Nat) : Int))]) (fun (p : Nat) => p = 0 ∨ w + 1 + p ≤ t.length) (fun p hI20 => ?_) (fun hJ20 => ?_)
    ·have hp := hI20
     refine W.seq (zr (zm rfl (zq (Q.bin rfl (oc (v := .str [45, 48]) (by kernel_rfl)) rfl bv_seql) (zk (W.cD rfl (fun hc94 => ?_) (fun hc94 => ?_))))))
     ·refine zr (za (zi 0) (za (zi 14) (zk (W.ret (End.Kr (End.retE (ResL.tmp rfl (z1 rfl)) ?_))))))
      exact ⟨_, _, rfl⟩
     refine zw (zr (za (zi 0) (zk (W.seq (zr (za (zi 0) (zk (W.block (W.loop_ind2 (fun (n : Int) (i : Nat) => [(0, .str s), (4, .str t), (5, .int .i64 ((w : Nat) : Int)), (6, .int .i64 ((p : Nat) : Int)), (8, .int .i64 n), (9, .int .i64 ((i : Nat) : Int))]) (fun _ _ => _) (fun (n : Int) (i : Nat) => i ≤ w) (fun (n : Int) (i : Nat) => w - i) (0) (0) (Nat.zero_le _) zv (SubH.refl _) (fun n i hI2 ih2 => ?_))))))))))
     have hiw := hI2
     refine W.seq (zr (zm rfl (zm rfl (zq (Q.bin rfl rfl rfl (bvl ltn)) (zk (W.cD rfl (fun hc97 => ?_) (fun hc97 => ?_)))))))
     ·refine zw (W.seq (W.block (W.seq (zr (zm rfl (zq (Q.bin rfl (zi 115292150460684697) rfl (bv_gtr (ltA_eq _ _))) (zk (W.cD rfl (fun hc101 => ?_) (fun hc101 => ?_)))))))))
      ·refine zr (za (zi 0) (za (zi 11) (zk (W.ret (End.Kr (End.Br (End.Kr (End.Lr (End.Br (End.Kr (End.retE (ResL.tmp rfl (z1 rfl)) ?_)))))))))))
       exact ⟨_, _, rfl⟩
      refine zw (W.reg (zm rfl (zq (Q.bin (zi 10) rfl rfl (bv_mul rfl)) (zm rfl (zm rfl (WO.indexB ht ud9 rfl rfl zo rfl (fun c106 hd106 hb106 => zq (Q.convI ud5 ud3 rfl (wr64 zo)) (zq (Q.bin rfl rfl rfl (bv_add rfl)) (zq (Q.bin rfl (zi 48) rfl (bv_sub rfl)) (za rfl (WO.nil (End.KB (End.K (W.reg (zm rfl (zq (Q.bin rfl (zi 1) rfl zp) (za rfl (WO.nil (End.KL (W.sub zv (ih2 (_) (i + 1) ?_ ?_)))))))))))))))))))))
      ·exact zy
      exact zo
     refine W.exit (End.Kx (End.Lx (End.Bh (End.K (W.seq (zr (zm rfl (zq (Q.bin rfl (zi 1152921504606) rfl (bv_gtr (ltA_eq _ _))) (zk (W.cD rfl (fun hc111 => ?_) (fun hc111 => ?_)))))))))))
     ·refine zr (za (zi 0) (za (zi 11) (zk (W.ret (End.Kr (End.retE (ResL.tmp rfl (z1 rfl)) ?_))))))
      exact ⟨_, _, rfl⟩
     refine zw (zr (zm rfl (zq (Q.bin rfl (zi 1000000) rfl (bv_mul rfl)) (za rfl (zk (zr (za (zi 1000000) (zk (W.seq (zr (za (zi 0) (zk (W.block (W.loop_ind3 (fun (n : Int) (q : Int) (i : Nat) => [(0, .str s), (4, .str t), (5, .int .i64 ((w : Nat) : Int)), (6, .int .i64 ((p : Nat) : Int)), (8, .int .i64 n), (10, .int .i64 q), (11, .int .i64 ((i : Nat) : Int))]) (fun _ _ _ => _) (fun (n : Int) (q : Int) (i : Nat) => i ≤ p) (fun (n : Int) (q : Int) (i : Nat) => p - i) (_) (1000000) (0) (Nat.zero_le _) zv (SubH.refl _) (fun n q i hI3 ih3 => ?_)))))))))))))))
     have hip3 := hI3
     refine W.seq (zr (zm rfl (zm rfl (zq (Q.bin rfl rfl rfl (bvl ltn)) (zk (W.cD rfl (fun hc116 => ?_) (fun hc116 => ?_)))))))
     ·refine zw (W.seq (W.block (zr (zm rfl (zq (Q.bin rfl (zi 10) rfl (bv_quo (by decide) rfl)) (za rfl (zk (W.reg (zm rfl (zm rfl (zm rfl (zm rfl (zq (Q.bin rfl (zi 1) rfl zp) (zm rfl (zq (Q.bin rfl rfl rfl zp) (WO.indexB ht ud9 rfl rfl zo rfl (fun c128 hd128 hb128 => zq (Q.convI ud5 ud3 rfl (wr64 zo)) (zq (Q.bin rfl (zi 48) rfl (bv_sub rfl)) (zq (Q.bin rfl rfl rfl (bv_mul rfl)) (zq (Q.bin rfl rfl rfl (bv_add rfl)) (za rfl (WO.nil (End.KB (End.K ?_))))))))))))))))))))))))
      refine W.sub (zc 8 rfl (zc 10 rfl (zc 0 rfl (zc 4 rfl (zc 5 rfl (zc 6 rfl (zc 11 rfl zzn))))))) (W.reg (zm rfl (zq (Q.bin rfl (zi 1) rfl zp) (za rfl (WO.nil (End.KL (W.sub zv (ih3 (_) (_) (i + 1) ?_ ?_))))))))
      ·exact zy
      exact zo
     refine W.exit (End.Kx (End.Lx (End.Bh (End.K (W.seq (zr (zm rfl (zq (Q.bin rfl (zi 1152921504606846976) rfl (bv_gtr (ltA_eq _ _))) (zk (W.cD rfl (fun hc134 => ?_) (fun hc134 => ?_)))))))))))
     ·refine zr (za (zi 0) (za (zi 11) (zk (W.ret (End.Kr (End.retE (ResL.tmp rfl (z1 rfl)) ?_))))))
      exact ⟨_, _, rfl⟩
     refine zw (W.seq (zr (zm rfl (WO.indexB hs ud9 rfl (zi 0) zo rfl (fun c136 hd136 hb136 => zq (Q.bin rfl (zu 45) rfl (bv_eql eq_nat)) (zk (W.cD rfl (fun hc137 => ?_) (fun hc137 => ?_))))))))
     ·refine zr (zm rfl (zq (Q.neg rfl rfl) (za rfl (za (zi 0) (zk (W.sub (zc 3 rfl (zc 2 rfl zzn)) (W.ret (End.Kr (End.retE (ResL.tmp rfl (z1 rfl)) ?_)))))))))
      exact ⟨_, _, rfl⟩
     refine zw (W.sub (zc 8 rfl zzn) (zr (zm rfl (za rfl (za (zi 0) (zk (W.ret (End.retE (ResL.tmp rfl (z1 rfl)) ?_))))))))
     exact ⟨_, _, rfl⟩
    refine zr (zm rfl (zm rfl (zq (Q.len ud9 rfl rfl) (zq (Q.bin rfl rfl rfl (bvl ltn)) (zk (W.cD rfl (fun hc54 => ?_) (fun hc54 => ?_)))))))
    ·refine W.seq (zr (zm rfl (zm rfl (WO.indexB ht ud9 rfl rfl zo rfl (fun c57 hd57 hb57 => zq (Q.bin rfl (zu 46) rfl (bv_neq ne_nat)) (zk (W.cD rfl (fun hc58 => ?_) (fun hc58 => ?_))))))))
     ·refine zr (za (zi 0) (za (zi 14) (zk (W.ret (End.Kr (End.Kr (End.retE (ResL.tmp rfl (z1 rfl)) ?_)))))))
      exact ⟨_, _, rfl⟩
     refine zw (W.seq (zr (zm rfl (zq (Q.bin rfl (zi 1) rfl zp) (za rfl (zk (W.block (W.loop_ind2 (fun (p : Nat) (i : Nat) => [(0, .str s), (4, .str t), (5, .int .i64 ((w : Nat) : Int)), (6, .int .i64 ((p : Nat) : Int)), (7, .int .i64 ((i : Nat) : Int))]) (fun _ _ => _) (fun (p : Nat) (i : Nat) => i = w + 1 + p ∧ i ≤ t.length) (fun (p : Nat) (i : Nat) => t.length - i) (0) (w + 1) ⟨rfl, by omega⟩ zv (SubH.refl _) (fun p i hI1 ih1 => ?_)))))))))
     obtain ⟨hip, hit⟩ := hI1
     refine W.seq (zr (zm rfl (zm rfl (zq (Q.len ud9 rfl rfl) (zq (Q.bin rfl rfl rfl (bvl ltn)) (zk (W.cD rfl (fun hc64 => ?_) (fun hc64 => ?_))))))))
     ·refine zw (W.seq (W.block (W.seq (zr (zm rfl (zm rfl (WO.indexB ht ud9 rfl rfl zo rfl (fun c69 hd69 hb69 => zq (Q.bin rfl (zu 48) rfl (bvl ltn)) (zm rfl (WO.sD (d := 71) rfl (fun hc71 => ?_) (fun hc71 => ?_)))))))))))
      ·refine zG (zG (zG (zG (zq (Q.pT rfl rfl) (zk (W.condT rfl (zr (za (zi 0) (za (zi 14) (zk (W.sub (zc 3 rfl (zc 2 rfl zzn)) (W.ret (End.Kr (End.Br (End.Kr (End.Lr (End.Br (End.Kr (End.Kr (End.retE (ResL.tmp rfl (z1 rfl)) ?_))))))))))))))))))))
       exact ⟨_, _, rfl⟩
      refine zT (zm rfl (zT (zm rfl (zT (WO.indexB ht ud9 rfl rfl zo rfl (fun c74 hd74 hb74 => zT (zq (Q.bin rfl (zu 57) rfl (bv_gtr ltn)) (zq (Q.pF rfl rfl) (zk (W.cD rfl (fun hc76 => ?_) (fun hc76 => ?_)))))))))))
      ·refine zr (za (zi 0) (za (zi 14) (zk (W.sub (zc 3 rfl (zc 2 rfl zzn)) (W.ret (End.Kr (End.Br (End.Kr (End.Lr (End.Br (End.Kr (End.Kr (End.retE (ResL.tmp rfl (z1 rfl)) ?_)))))))))))))
       exact ⟨_, _, rfl⟩
      refine zw (W.sub (zc 0 rfl (zc 4 rfl (zc 5 rfl (zc 6 rfl (zc 7 rfl zzn))))) (W.reg (zm rfl (zq (Q.bin rfl (zi 1) rfl zp) (za rfl (WO.nil (End.KB (End.K (W.reg (zm rfl (zq (Q.bin rfl (zi 1) rfl zp) (za rfl (WO.nil (End.KL (W.sub zv (ih1 (p + 1) (i + 1) ?_ ?_))))))))))))))))
      ·exact ⟨by omega, by omega⟩
      exact zo
     refine W.exit (End.Kx (End.Lx (End.Bh (End.K (zr (zm rfl (zq (Q.bin rfl (zi 0) rfl (bv_eql eq_nat)) (zm rfl (WO.sD (d := 81) rfl (fun hc81 => ?_) (fun hc81 => ?_))))))))))
     ·refine zG (zG (zq (Q.pT rfl rfl) (zm rfl (zG (zG (zG (zG (zG (zG (zq (Q.pT rfl rfl) (zk (W.sub (zc 92 rfl (zc 0 rfl (zc 4 rfl (zc 5 rfl (zc 6 rfl zzn))))) (W.condT rfl (zr (za (zi 0) (za (zi 14) (zk (W.ret (End.Kr (End.retE (ResL.tmp rfl (z1 rfl)) ?_))))))))))))))))))))
      exact ⟨_, _, rfl⟩
     refine zT (zm rfl (zT (zq (Q.bin rfl (zi 6) rfl (bv_gtr ltn)) (zq (Q.pF rfl rfl) (zm rfl (WO.sD (d := 85) rfl (fun hc85 => ?_) (fun hc85 => ?_)))))))
     ·refine zG (zG (zG (zG (zG (zG (zq (Q.pT rfl rfl) (zk (W.sub (zc 92 rfl (zc 0 rfl (zc 4 rfl (zc 5 rfl (zc 6 rfl zzn))))) (W.condT rfl (zr (za (zi 0) (za (zi 14) (zk (W.ret (End.Kr (End.retE (ResL.tmp rfl (z1 rfl)) ?_))))))))))))))))
      exact ⟨_, _, rfl⟩
     refine zT (zm rfl (zT (zm rfl (zT (zq (Q.len ud9 rfl rfl) (zT (zq (Q.bin rfl (zi 1) rfl (bv_sub (wns zo))) (zT (WO.indexB ht ud9 rfl rfl zo rfl (fun c90 hd90 hb90 => zT (zq (Q.bin rfl (zu 48) rfl (bv_eql eq_nat)) (zq (Q.pF rfl rfl) (zk (W.sub (zc 92 rfl (zc 0 rfl (zc 4 rfl (zc 5 rfl (zc 6 rfl zzn))))) (W.cD rfl (fun hc92 => ?_) (fun hc92 => ?_))))))))))))))))
     ·refine zr (za (zi 0) (za (zi 14) (zk (W.ret (End.Kr (End.retE (ResL.tmp rfl (z1 rfl)) ?_))))))
      exact ⟨_, _, rfl⟩
     refine W.skip (End.K (W.sub zv (hJ20 (_) ?_)))
     exact zy
    refine W.skip (End.K (W.sub zv (hJ20 (_) ?_)))
    exact zy
   refine zr (zm rfl (zq (Q.bin rfl (zi 0) rfl (bv_eql eq_nat)) (zm rfl (WO.sD (d := 42) rfl (fun hc42 => ?_) (fun hc42 => ?_)))))
   ·refine zG (zG (zG (WO.gF rfl rfl (.inr rfl) rfl (WO.gF rfl rfl (.inr rfl) rfl (WO.gF rfl rfl (.inr rfl) rfl (zG (zq (Q.pT rfl rfl) (zk (W.condT rfl (zr (za (zi 0) (za (zi 14) (zk (W.sub (zc 3 rfl (zc 2 rfl zzn)) (W.ret (End.Kr (End.retE (ResL.tmp rfl (z1 rfl)) ?_)))))))))))))))))
    exact ⟨_, _, rfl⟩
   refine zT (zm rfl (zT (zq (Q.bin rfl (zi 1) rfl (bv_gtr ltn)) (zT (zm rfl (WO.sD (d := 45) rfl (fun hc45 => ?_) (fun hc45 => ?_)))))))
   ·refine zT (zm rfl (zT (WO.indexB ht ud9 rfl (zi 0) zo rfl (fun c47 hd47 hb47 => zT (zq (Q.bin rfl (zu 48) rfl (bv_eql eq_nat)) (zT (zq (Q.pT rfl rfl) (zq (Q.pF rfl rfl) (zk (W.cD rfl (fun hc50 => ?_) (fun hc50 => ?_)))))))))))
    ·refine zr (za (zi 0) (za (zi 14) (zk (W.sub (zc 3 rfl (zc 2 rfl zzn)) (W.ret (End.Kr (End.retE (ResL.tmp rfl (z1 rfl)) ?_)))))))
     exact ⟨_, _, rfl⟩
    refine W.skip (End.K (W.sub zv (hJ9 (_) ?_)))
    exact zy
   refine zG (zG (zG (zT (zq (Q.pF rfl rfl) (zq (Q.pF rfl rfl) (zk (W.condF rfl (W.skip (End.K (W.sub zv (hJ9 (_) ?_)))))))))))
   exact zy
  refine W.block (W.loop_ind (fun (w : Nat) => [(0, .str s), (4, .str t), (5, .int .i64 ((w : Nat) : Int)), (6, .int .i64 ((0 : Nat) : Int))]) (fun _ => _) (fun (w : Nat) => w ≤ t.length) (fun (w : Nat) => t.length - w) (0) (Nat.zero_le _) zv (SubH.refl _) (fun w hI0 ih0 => ?_))
  have hw := hI0
  refine W.seq (zr (zm rfl (zm rfl (zq (Q.len ud9 rfl rfl) (zq (Q.bin rfl rfl rfl (bvl ltn)) (zm rfl (WO.sD (d := 26) rfl (fun hc26 => ?_) (fun hc26 => ?_))))))))
  ·refine zT (zm rfl (zT (zm rfl (zT (WO.indexB ht ud9 rfl rfl zo rfl (fun c29 hd29 hb29 => zT (zq (Q.bin rfl (zu 48) rfl (bv_geq le_nat)) (zq (Q.pT rfl rfl) (zm rfl (WO.sD (d := 32) rfl (fun hc32 => ?_) (fun hc32 => ?_)))))))))))
   ·refine zT (zm rfl (zT (zm rfl (zT (WO.indexB ht ud9 rfl rfl zo rfl (fun c35 hd35 hb35 => zT (zq (Q.bin rfl (zu 57) rfl (bv_leq le_nat)) (zq (Q.pT rfl rfl) (zk (W.sub (zc 37 rfl (zc 0 rfl (zc 4 rfl (zc 5 rfl (zc 6 rfl zzn))))) (W.cD rfl (fun hc37 => ?_) (fun hc37 => ?_))))))))))))
    ·refine zw (W.block (W.reg (zm rfl (zq (Q.bin rfl (zi 1) rfl zp) (za rfl (WO.nil (End.KB (End.KL (W.sub zv (ih0 (w + 1) ?_ ?_))))))))))
     ·exact zy
     exact zo
    refine W.exit (End.Kx (End.Lx (End.Bh (End.K (W.sub zv (hJ7 (_) ?_))))))
    exact zy
   refine zG (zG (zG (zG (zq (Q.pF rfl rfl) (zk (W.sub (zc 37 rfl (zc 0 rfl (zc 4 rfl (zc 5 rfl (zc 6 rfl zzn))))) (W.condF rfl (W.exit (End.Kx (End.Lx (End.Bh (End.K (W.sub zv (hJ7 (_) ?_))))))))))))))
   exact zy
  refine zG (zG (zG (zG (zq (Q.pF rfl rfl) (zm rfl (zG (zG (zG (zG (zq (Q.pF rfl rfl) (zk (W.sub (zc 37 rfl (zc 0 rfl (zc 4 rfl (zc 5 rfl (zc 6 rfl zzn))))) (W.condF rfl (W.exit (End.Kx (End.Lx (End.Bh (End.K (W.sub zv (hJ7 (_) ?_))))))))))))))))))))
  exact zy
 refine zr (zm rfl (zq (Q.bin rfl (oc (v := .str []) (by kernel_rfl)) rfl bv_sneq) (zm rfl (WO.sD (d := 15) rfl (fun hc15 => ?_) (fun hc15 => ?_)))))
 ·have hpos : 0 < s.length := List.length_pos_iff.2 hc15
  refine zT (zm rfl (zT (WO.indexB hs ud9 rfl (zi 0) zo rfl (fun c17 hd17 hb17 => zT (zq (Q.bin rfl (zu 45) rfl (bv_eql eq_nat)) (zq (Q.pT rfl rfl) (zk (W.cD rfl (fun hc19 => ?_) (fun hc19 => ?_)))))))))
  ·refine W.reg (zm rfl (zq (Q.sliceS ud9 rfl rfl zo sl_lo) (za rfl (WO.nil (End.K (W.sub zv (hJ4 (_) ?_)))))))
   exact ⟨Bytes.drop hs 1, by simp; omega, by simp⟩
  refine W.skip (End.K (W.sub zv (hJ4 (_) ?_)))
  exact ⟨hs, hl, Nat.le_refl _⟩
 refine zG (zG (zG (zq (Q.pF rfl rfl) (zk (W.condF rfl (W.skip (End.K (W.sub zv (hJ4 (_) ?_)))))))))
 exact ⟨hs, hl, Nat.le_refl _⟩

theorem quo_spec (s : List Nat) (hs : Bytes s) (hl : s.length ≤ 4096) : Spec tab 125 [.str s] [] [] (ValE (fun v => ∃ t : List Nat, v = .str t ∧ Bytes t ∧ t.length ≤ 4 * s.length + 2)) := by
 refine Spec.en (ftg 125 Tryz.func125) rfl (m := 52) rfl (rs := [.tmp 2]) rfl (st := [(0, .str s)]) rfl rfl (fun _ => rfl) (fun E => zr (zq (Q.assign (oc (v := .str []) (by kernel_rfl))) (zk (zr (zq (Q.assign (oc (v := .str [48, 49, 50, 51, 52, 53, 54, 55, 56, 57, 97, 98, 99, 100, 101, 102]) (by kernel_rfl))) (zk (zr (WO.bslice ud100 sz5 zr5 rfl (opc (zu 34) oPs_nil) rfl (cs := [_]) rfl rfl rfl (fun b1 => za rfl (zk (W.seq (zr (za (zi 0) (zk (W.block (W.loop_ind4 (fun (i : Nat) (acc : List Nat) (v : AV) (hp : HSt) => [(0, .str s), (3, .str [48, 49, 50, 51, 52, 53, 54, 55, 56, 57, 97, 98, 99, 100, 101, 102]), (4, v), (5, .int .i64 ((i : Nat) : Int))]) (fun (i : Nat) (acc : List Nat) (v : AV) (hp : HSt) => hp) (fun (i : Nat) (acc : List Nat) (v : AV) (hp : HSt) => i ≤ s.length ∧ acc.length ≤ 1 + 4 * i ∧ Bytes acc ∧ Own 1 (u8c acc) acc.length v hp) (fun (i : Nat) (acc : List Nat) (v : AV) (hp : HSt) => s.length - i) (0) ([34]) (.slice b1 0 1 1) ([⟨b1, ⟨1, true, [.int .u8 ((34 : Nat) : Int)]⟩, true⟩]) ⟨by omega, by decide, by unfold Bytes; decide, .inr ⟨b1, true, rfl, rfl, rfl, by decide⟩⟩ zv (SubH.refl _) (fun i acc v hp hI0 ih0 => ?_)))))))))))))))))
 obtain ⟨h1, hle, ha, hO⟩ := hI0
 refine W.seq (zr (zm rfl (zm rfl (zq (Q.len ud9 rfl rfl) (zq (Q.bin rfl rfl rfl (bvl ltn)) (zk (W.cD rfl (fun hc11 => ?_) (fun hc11 => ?_))))))))
 ·refine zw (W.seq (W.block (zr (zm rfl (zm rfl (WO.indexB hs ud9 rfl rfl zo rfl (fun c16 hd16 hb16 => za rfl (zk (zr (zm rfl (zq (Q.bin rfl (zu 34) rfl (bv_eql eq_nat)) (zm rfl (WO.sD (d := 19) rfl (fun hc19 => ?_) (fun hc19 => ?_))))))))))))))
  ·refine zG (zG (zq (Q.pT rfl rfl) (zk (W.condT rfl (W.reg (zm rfl (zm rfl (WO.bslice ud100 sz5 zr5 rfl (opc (zu 92) (opc rfl oPs_nil)) rfl (cs := [_, _]) rfl rfl rfl (fun b2 => WO.appOwn (e := ⟨b2, _, true⟩) (A := []) ap100_100 hO rfl rfl rfl rfl ⟨by first | omega | (simp at * <;> omega), by first | omega | (simp at * <;> omega)⟩ (by decide) rfl rfl (fun v26 hp26 hO26 => za rfl (WO.nil (End.KB (End.K (W.sub (zc 4 rfl (zc 0 rfl (zc 3 rfl (zc 5 rfl zzn)))) (W.reg (zm rfl (zq (Q.bin rfl (zi 1) rfl zp) (za rfl (WO.nil (End.KL (W.sub zv (ih0 (i + 1) (acc ++ [92, c16]) (v26) (hp26) ?_ ?_))))))))))))))))))))))
   ·exact ⟨by omega, by simp; omega, Bytes.append ha (Bytes.cons (by decide) (Bytes.one hb16)), by simpa [u8c] using hO26⟩
   exact zo
  refine zT (zm rfl (zT (zq (Q.bin rfl (zu 92) rfl (bv_eql eq_nat)) (zq (Q.pF rfl rfl) (zk (W.cD rfl (fun hc22 => ?_) (fun hc22 => ?_)))))))
  ·refine W.reg (zm rfl (zm rfl (WO.bslice ud100 sz5 zr5 rfl (opc (zu 92) (opc rfl oPs_nil)) rfl (cs := [_, _]) rfl rfl rfl (fun b4 => WO.appOwn (e := ⟨b4, _, true⟩) (A := []) ap100_100 hO rfl rfl rfl rfl ⟨by first | omega | (simp at * <;> omega), by first | omega | (simp at * <;> omega)⟩ (by decide) rfl rfl (fun v26 hp26 hO26 => za rfl (WO.nil (End.KB (End.K (W.sub (zc 4 rfl (zc 0 rfl (zc 3 rfl (zc 5 rfl zzn)))) (W.reg (zm rfl (zq (Q.bin rfl (zi 1) rfl zp) (za rfl (WO.nil (End.KL (W.sub zv (ih0 (i + 1) (acc ++ [92, c16]) (v26) (hp26) ?_ ?_)))))))))))))))))
   ·exact ⟨by omega, by simp; omega, Bytes.append ha (Bytes.cons (by decide) (Bytes.one hb16)), by simpa [u8c] using hO26⟩
   exact zo
  refine zr (zm rfl (zq (Q.bin rfl (zu 32) rfl (bvl ltn)) (zm rfl (WO.sD (d := 29) rfl (fun hc29 => ?_) (fun hc29 => ?_)))))
  ·refine zG (zG (zq (Q.pT rfl rfl) (zk (W.sub (zc 32 rfl (zc 6 rfl (zc 0 rfl (zc 3 rfl (zc 4 rfl (zc 5 rfl zzn)))))) (W.condT rfl (W.regD 10 [] (by kernel_rfl) KIn.nil (WD.q (Q.move rfl) (Own.bq hO) rfl (WD.q (Q.move rfl) bq_str rfl (WD.q (Q.move rfl) bqi rfl (WD.q (Q.bin rfl (zu 16) rfl (bv_quo zo (quo8 zo))) bqi rfl (WD.indexB (by unfold Bytes; decide) ud9 rfl rfl zo rfl (fun c37 hd37 hb37 => WD.q (Q.move rfl) bq_str rfl (WD.q (Q.move rfl) bqi rfl (WD.q (Q.bin rfl (zu 16) rfl (bv_rem zo (rem8 zo))) bqi rfl (WD.indexB (by unfold Bytes; decide) ud9 rfl rfl zo rfl (fun c41 hd41 hb41 => WD.bslice ud100 sz5 zr5 rfl (opc (zu 92) (opc (zu 120) (opc rfl (opc rfl oPs_nil)))) rfl (cs := [_, _, _, _]) rfl rfl rfl KIn.nil (fun b6 => WD.appOwn (e := ⟨b6, _, true⟩) (A := []) ap100_100 hO rfl rfl rfl rfl ⟨by first | omega | (simp at * <;> omega), by first | omega | (simp at * <;> omega)⟩ (by decide) rfl rfl KIn.nil (fun v43 hp43 hO43 => WD.q (Q.assign rfl) (Own.bq hO43) rfl (WD.nil (End.KB (End.K (W.reg (zm rfl (zq (Q.bin rfl (zi 1) rfl zp) ?_))))))))))))))))))))))))
   refine za rfl (WO.nil (End.KL (W.sub zv (ih0 (i + 1) (acc ++ [92, 120, c37, c41]) (v43) (hp43) ?_ ?_))))
   ·exact ⟨by omega, by simp; omega, Bytes.append ha (Bytes.cons (by decide) (Bytes.cons (by decide) (Bytes.cons hb37 (Bytes.one hb41)))), by simpa [u8c] using hO43⟩
   exact zo
  refine zT (zm rfl (zT (zq (Q.bin rfl (zu 126) rfl (bv_gtr ltn)) (zq (Q.pF rfl rfl) (zk (W.sub (zc 32 rfl (zc 6 rfl (zc 0 rfl (zc 3 rfl (zc 4 rfl (zc 5 rfl zzn)))))) (W.cD rfl (fun hc32 => ?_) (fun hc32 => ?_))))))))
  ·refine W.regD 10 [] (by kernel_rfl) KIn.nil (WD.q (Q.move rfl) (Own.bq hO) rfl (WD.q (Q.move rfl) bq_str rfl (WD.q (Q.move rfl) bqi rfl (WD.q (Q.bin rfl (zu 16) rfl (bv_quo zo (quo8 zo))) bqi rfl (WD.indexB (by unfold Bytes; decide) ud9 rfl rfl zo rfl (fun c37 hd37 hb37 => WD.q (Q.move rfl) bq_str rfl (WD.q (Q.move rfl) bqi rfl (WD.q (Q.bin rfl (zu 16) rfl (bv_rem zo (rem8 zo))) bqi rfl (WD.indexB (by unfold Bytes; decide) ud9 rfl rfl zo rfl (fun c41 hd41 hb41 => WD.bslice ud100 sz5 zr5 rfl (opc (zu 92) (opc (zu 120) (opc rfl (opc rfl oPs_nil)))) rfl (cs := [_, _, _, _]) rfl rfl rfl KIn.nil (fun b8 => WD.appOwn (e := ⟨b8, _, true⟩) (A := []) ap100_100 hO rfl rfl rfl rfl ⟨by first | omega | (simp at * <;> omega), by first | omega | (simp at * <;> omega)⟩ (by decide) rfl rfl KIn.nil (fun v43 hp43 hO43 => WD.q (Q.assign rfl) (Own.bq hO43) rfl (WD.nil (End.KB (End.K (W.reg (zm rfl (zq (Q.bin rfl (zi 1) rfl zp) (za rfl (WO.nil (End.KL (W.sub zv (ih0 (i + 1) (acc ++ [92, 120, c37, c41]) (v43) (hp43) ?_ ?_)))))))))))))))))))))))
   ·exact ⟨by omega, by simp; omega, Bytes.append ha (Bytes.cons (by decide) (Bytes.cons (by decide) (Bytes.cons hb37 (Bytes.one hb41)))), by simpa [u8c] using hO43⟩
   exact zo
  refine W.reg (zm rfl (zm rfl (WO.bslice ud100 sz5 zr5 rfl (opc rfl oPs_nil) rfl (cs := [_]) rfl rfl rfl (fun b10 => WO.appOwn (e := ⟨b10, _, true⟩) (A := []) ap100_100 hO rfl rfl rfl rfl ⟨by first | omega | (simp at * <;> omega), by first | omega | (simp at * <;> omega)⟩ (by decide) rfl rfl (fun v47 hp47 hO47 => za rfl (WO.nil (End.KB (End.K (W.reg (zm rfl (zq (Q.bin rfl (zi 1) rfl zp) (za rfl (WO.nil (End.KL (W.sub zv (ih0 (i + 1) (acc ++ [c16]) (v47) (hp47) ?_ ?_))))))))))))))))
  ·exact ⟨by omega, by simp; omega, Bytes.append ha (Bytes.one hb16), by simpa [u8c] using hO47⟩
  exact zo
 refine W.exit (End.Kx (End.Lx (End.Bh (End.K (zr (zm rfl (WO.bslice ud100 sz5 zr5 rfl (opc (zu 34) oPs_nil) rfl (cs := [_]) rfl rfl rfl (fun b12 => WO.appOwn (e := ⟨b12, _, true⟩) (A := []) ap100_100 hO rfl rfl rfl rfl ⟨by first | omega | (simp at * <;> omega), by first | omega | (simp at * <;> omega)⟩ (by decide) rfl rfl (fun v50 hp50 hO50 => zq (Q.convOwn (A := []) ud100 ud9 ud5 (Bytes.append ha (by unfold Bytes; decide)) (by simpa [u8c] using hO50 : Own 1 (u8c (acc ++ [34])) _ _ _) rfl rfl) (za rfl (zk (W.ret (End.retE (z1 rfl) ?_)))))))))))))
 exact ⟨acc ++ [34], rfl, Bytes.append ha (by unfold Bytes; decide), by simp; omega⟩

theorem unq_spec (s : List Nat) (hs : Bytes s) (hl : s.length ≤ 1024) : Spec tab 87 [.str s] [] [] (ValE (fun v => ∃ (t : List Nat) (n : Nat), v = .tuple [.str t, .int .i64 (n : Int)] ∧ Bytes t ∧ t.length ≤ s.length ∧ n ≤ s.length)) := by
 refine Spec.en (ftg 87 Tryz.func87) rfl (m := 135) rfl (rs := [.tmp 2, .tmp 3]) rfl (st := [(0, .str s)]) rfl rfl (fun _ => rfl) (fun E => zr (zq (Q.assign (oc (v := .str []) (by kernel_rfl))) (za (zi 0) (zk (W.seq (zr (zm rfl (zq (Q.bin rfl (oc (v := .str []) (by kernel_rfl)) rfl bv_seql) (zm rfl (WO.sD (d := 9) rfl (fun hc9 => ?_) (fun hc9 => ?_)))))))))))
 ·refine zG (zG (zG (zq (Q.pT rfl rfl) (zk (W.condT rfl (zr (zq (Q.assign (oc (v := .str []) (by kernel_rfl))) (za (zi 0) (zk (W.ret (End.Kr (End.retE (ResL.tmp rfl (z1 rfl)) ?_))))))))))))
  exact ⟨[], 0, rfl, by intro c h; simp at h, by simp, by omega⟩
 have hpos : 0 < s.length := List.length_pos_iff.2 hc9
 refine zT (zm rfl (zT (WO.indexB hs ud9 rfl (zi 0) zo rfl (fun c11 hd11 hb11 => zT (zq (Q.bin rfl (zu 34) rfl (bv_neq ne_nat)) (zq (Q.pF rfl rfl) (zk (W.cD rfl (fun hc13 => ?_) (fun hc13 => ?_)))))))))
 ·refine zr (zq (Q.assign (oc (v := .str []) (by kernel_rfl))) (za (zi 0) (zk (W.ret (End.Kr (End.retE (ResL.tmp rfl (z1 rfl)) ?_))))))
  exact ⟨[], 0, rfl, by intro c h; simp at h, by simp, by omega⟩
 refine zw (zr (za rfl (zk (zr (za (zi 1) (zk (W.seq (W.block (W.loop_ind4 (fun (i : Nat) (acc : List Nat) (v : AV) (hp : HSt) => [(0, .str s), (4, v), (5, .int .i64 ((i : Nat) : Int))]) (fun (i : Nat) (acc : List Nat) (v : AV) (hp : HSt) => hp) (fun (i : Nat) (acc : List Nat) (v : AV) (hp : HSt) => 1 ≤ i ∧ i ≤ s.length ∧ acc.length ≤ i ∧ Bytes acc ∧ Own 1 (u8c acc) acc.length v hp) (fun (i : Nat) (acc : List Nat) (v : AV) (hp : HSt) => s.length - i) (1) ([]) (.nils) ([]) ⟨by omega, by omega, by simp, by intro c h; simp at h, Own.nil 1⟩ zv (SubH.refl _) (fun i acc v hp hI0 ih0 => ?_))))))))))
 obtain ⟨h1, h2, hle, ha, hO⟩ := hI0
 refine W.seq (zr (zm rfl (zm rfl (zq (Q.len ud9 rfl rfl) (zq (Q.bin rfl rfl rfl (bvl ltn)) (zm rfl (WO.sD (d := 18) rfl (fun hc18 => ?_) (fun hc18 => ?_))))))))
 ·refine zT (zm rfl (zT (zm rfl (zT (WO.indexB hs ud9 rfl rfl zo rfl (fun c21 hd21 hb21 => zT (zq (Q.bin rfl (zu 34) rfl (bv_neq ne_nat)) (zq (Q.pT rfl rfl) (zk (W.cD rfl (fun hc23 => ?_) (fun hc23 => ?_)))))))))))
  ·refine zw (W.block (zr (zm rfl (zm rfl (WO.indexB hs ud9 rfl rfl zo rfl (fun c26 hd26 hb26 => za rfl (zk (W.seqK1 (fun (b : Bool) => [(0, .str s), (4, v), (5, .int .i64 ((i : Nat) : Int)), (6, .int .u8 ((c26 : Nat) : Int)), (49, .bool b)]) (fun (b : Bool) => (b = true → i + 1 < s.length)) (fun b hIc49 => ?_) (fun hJc49 => ?_)))))))))
   ·have hb49 := hIc49
    refine W.condS rfl (fun hc49 => ?_) (fun hc49 => ?_)
    ·have hi1 := hb49 hc49
     refine zr (zm rfl (zm rfl (zm rfl (zq (Q.bin rfl (zi 1) rfl zp) (WO.indexB hs ud9 rfl rfl zo rfl (fun c54 hd54 hb54 => WO.bslice ud100 sz5 zr5 rfl (opc rfl oPs_nil) rfl (cs := [_]) rfl rfl rfl (fun b1 => WO.appOwn (e := ⟨b1, _, true⟩) (A := []) ap100_100 hO rfl rfl rfl rfl ⟨by first | omega | (simp at * <;> omega), by first | omega | (simp at * <;> omega)⟩ (by decide) rfl rfl (fun v56 hp56 hO56 => za rfl (zk (W.reg (zm rfl (zq (Q.bin rfl (zi 2) rfl zp) (za rfl (WO.nil (End.KB (End.KL (W.sub zv (ih0 (i + 2) (acc ++ [c54]) (v56) (hp56) ?_ ?_))))))))))))))))))
     ·exact ⟨by omega, by omega, by simp; omega, Bytes.append ha (Bytes.one hb54), by simpa [u8c] using hO56⟩
     exact zo
    refine W.seqK1 (fun (b9 : Bool) => [(0, .str s), (4, v), (5, .int .i64 ((i : Nat) : Int)), (6, .int .u8 ((c26 : Nat) : Int)), (90, .bool b9)]) (fun (b9 : Bool) => (b9 = true → i + 3 < s.length ∧ 0 ≤ hexV (s.getD (i + 2) 0) ∧ 0 ≤ hexV (s.getD (i + 3) 0))) (fun b9 hIc90 => ?_) (fun hJc90 => ?_)
    ·have hb90 := hIc90
     refine W.condS rfl (fun hc90 => ?_) (fun hc90 => ?_)
     ·obtain ⟨hi3, hx2, hx3⟩ := hb90 hc90
      refine W.seq (W.regD 15 [] (by kernel_rfl) KIn.nil (WD.q (Q.move rfl) (Own.bq hO) rfl (WD.q (Q.move rfl) bq_str rfl (WD.q (Q.move rfl) bqi rfl (WD.q (Q.bin rfl (zi 2) rfl zp) bqi rfl (WD.indexB hs ud9 rfl rfl zo rfl (fun c95 hd95 hb95 => WD.callE rfl (oLc rfl oz) rfl (hex_nat (by assumption) (by rw [hd95]; exact hx2)) SubR.nil KIn.nil rfl (fun v96 hP96 => ?_))))))))
      obtain ⟨x96, rfl, hx96⟩ := hP96
      refine WD.q (Q.bin (zi 16) rfl rfl (bv_mul (wn_mul zo))) bqi rfl (WD.q (Q.move rfl) bq_str rfl (WD.q (Q.move rfl) bqi rfl (WD.q (Q.bin rfl (zi 3) rfl zp) bqi rfl (WD.indexB hs ud9 rfl rfl zo rfl (fun c101 hd101 hb101 => WD.callE rfl (oLc rfl oz) rfl (hex_nat (by assumption) (by rw [hd101]; exact hx3)) SubR.nil KIn.nil rfl (fun v102 hP102 => ?_))))))
      obtain ⟨x102, rfl, hx102⟩ := hP102
      refine WD.q (Q.bin rfl rfl rfl zp) bqi rfl (WD.q (Q.convI ud3 ud5 rfl (wr8 zo)) bqi rfl (WD.bslice ud100 sz5 zr5 rfl (opc rfl oPs_nil) rfl (cs := [_]) rfl rfl rfl KIn.nil (fun b3 => WD.appOwn (e := ⟨b3, _, true⟩) (A := []) ap100_100 hO rfl rfl rfl rfl ⟨by first | omega | (simp at * <;> omega), by first | omega | (simp at * <;> omega)⟩ (by decide) rfl rfl KIn.nil (fun v106 hp106 hO106 => WD.q (Q.assign rfl) (Own.bq hO106) rfl (WD.nil (End.K (W.sub (zc 4 rfl (zc 0 rfl (zc 5 rfl zzn))) (W.reg (zm rfl (zq (Q.bin rfl (zi 4) rfl zp) (za rfl (WO.nil (End.KB (End.KL (W.sub zv (ih0 (i + 4) (acc ++ [16 * x96 + x102]) (v106) (hp106) ?_ ?_))))))))))))))))
      ·exact ⟨by omega, by omega, by simp; omega, Bytes.append ha (Bytes.one zy), by simpa [u8c] using hO106⟩
      exact zo
     refine zr (zm rfl (zq (Q.bin rfl (zu 92) rfl (bv_eql eq_nat)) (zk (W.cD rfl (fun hc110 => ?_) (fun hc110 => ?_)))))
     ·refine zr (zq (Q.assign (oc (v := .str []) (by kernel_rfl))) (za (zi 0) (zk (W.ret (End.Br (End.Lr (End.Br (End.Kr (End.retE (ResL.tmp rfl (z1 rfl)) ?_)))))))))
      exact ⟨[], 0, rfl, by intro c h; simp at h, by simp, by omega⟩
     refine zr (zm rfl (zm rfl (WO.bslice ud100 sz5 zr5 rfl (opc rfl oPs_nil) rfl (cs := [_]) rfl rfl rfl (fun b5 => WO.appOwn (e := ⟨b5, _, true⟩) (A := []) ap100_100 hO rfl rfl rfl rfl ⟨by first | omega | (simp at * <;> omega), by first | omega | (simp at * <;> omega)⟩ (by decide) rfl rfl (fun v114 hp114 hO114 => za rfl (zk (W.reg (zm rfl (zq (Q.bin rfl (zi 1) rfl zp) (za rfl (WO.nil (End.KB (End.KL (W.sub zv (ih0 (i + 1) (acc ++ [c26]) (v114) (hp114) ?_ ?_)))))))))))))))
     ·exact ⟨by omega, by omega, by simp; omega, Bytes.append ha (Bytes.one hb26), by simpa [u8c] using hO114⟩
     exact zo
    refine W.reg (zm rfl (zq (Q.bin rfl (zu 92) rfl (bv_eql eq_nat)) (zm rfl (WO.sD (d := 61) rfl (fun hc61 => ?_) (fun hc61 => ?_)))))
    ·refine zT (zm rfl (zT (zq (Q.bin rfl (zi 3) rfl zp) (zT (zm rfl (zT (zq (Q.len ud9 rfl rfl) (zT (zq (Q.bin rfl rfl rfl (bvl ltn)) (zq (Q.pT rfl rfl) (zm rfl (WO.sD (d := 68) rfl (fun hc68 => ?_) (fun hc68 => ?_)))))))))))))
     ·refine zT (zm rfl (zT (zm rfl (zT (zq (Q.bin rfl (zi 1) rfl zp) (zT (WO.indexB hs ud9 rfl rfl zo rfl (fun c72 hd72 hb72 => zT (zq (Q.bin rfl (zu 120) rfl (bv_eql eq_nat)) (zq (Q.pT rfl rfl) (zm rfl (WO.sD (d := 75) rfl (fun hc75 => ?_) (fun hc75 => ?_)))))))))))))
      ·refine zT (zm rfl (zT (zm rfl (zT (zq (Q.bin rfl (zi 2) rfl zp) (zT (WO.indexB hs ud9 rfl rfl zo rfl (fun c79 hd79 hb79 => zT (WO.cV rfl (oLc rfl oz) rfl (hex_spec _ (by assumption)) SubR.nil rfl (zT (zq (Q.bin rfl (zi 0) rfl (bv_geq le_int)) (zq (Q.pT rfl rfl) (zm rfl (WO.sD (d := 83) rfl (fun hc83 => ?_) (fun hc83 => ?_)))))))))))))))
       ·refine zT (zm rfl (zT (zm rfl (zT (zq (Q.bin rfl (zi 3) rfl zp) (zT (WO.indexB hs ud9 rfl rfl zo rfl (fun c87 hd87 hb87 => zT (WO.cV rfl (oLc rfl oz) rfl (hex_spec _ (by assumption)) SubR.nil rfl (zT (zq (Q.bin rfl (zi 0) rfl (bv_geq le_int)) (zq (Q.pT rfl rfl) (WO.nil (End.K (W.sub zv (hJc90 (_) ?_))))))))))))))))
        exact (by first | (intro h; cases h; done) | (intro h; have h := of_decide_eq_true h; exact ⟨by omega, by rw [← hd79]; omega, by rw [← hd87]; omega⟩))
       refine zG (zG (zG (zG (zG (zG (zq (Q.pF rfl rfl) (WO.nil (End.K (W.sub zv (hJc90 (_) ?_))))))))))
       exact (by first | (intro h; cases h; done) | (intro h; have h := of_decide_eq_true h; exact ⟨by omega, by rw [← hd79]; omega, by rw [← hd87]; omega⟩))
      refine zG (zG (zG (zG (zG (zG (zq (Q.pF rfl rfl) (zm rfl (zG (zG (zG (zG (zG (zG (zq (Q.pF rfl rfl) (WO.nil (End.K (W.sub zv (hJc90 (_) ?_))))))))))))))))))
      exact (by first | (intro h; cases h; done) | (intro h; have h := of_decide_eq_true h; exact ⟨by omega, by rw [← hd79]; omega, by rw [← hd87]; omega⟩))
     refine zG (zG (zG (zG (zG (zq (Q.pF rfl rfl) (zm rfl (zG (zG (zG (zG (zG (zG (zq (Q.pF rfl rfl) (zm rfl (zG (zG (zG (zG (zG (zG (zq (Q.pF rfl rfl) (WO.nil (End.K (W.sub zv (hJc90 (_) ?_)))))))))))))))))))))))))
     exact (by first | (intro h; cases h; done) | (intro h; have h := of_decide_eq_true h; exact ⟨by omega, by rw [← hd79]; omega, by rw [← hd87]; omega⟩))
    refine zG (zG (zG (zG (zG (zq (Q.pF rfl rfl) (zm rfl (zG (zG (zG (zG (zG (zq (Q.pF rfl rfl) (zm rfl (zG (zG (zG (zG (zG (zG (zq (Q.pF rfl rfl) (zm rfl (zG (zg rfl rfl ?_)))))))))))))))))))))))
    refine zG (zG (zG (zG (zq (Q.pF rfl rfl) (WO.nil (End.K (W.sub zv (hJc90 (_) ?_))))))))
    exact (by first | (intro h; cases h; done) | (intro h; have h := of_decide_eq_true h; exact ⟨by omega, by rw [← hd79]; omega, by rw [← hd87]; omega⟩))
   refine W.reg (zm rfl (zq (Q.bin rfl (zu 92) rfl (bv_eql eq_nat)) (zm rfl (WO.sD (d := 29) rfl (fun hc29 => ?_) (fun hc29 => ?_)))))
   ·refine zT (zm rfl (zT (zq (Q.bin rfl (zi 1) rfl zp) (zT (zm rfl (zT (zq (Q.len ud9 rfl rfl) (zT (zq (Q.bin rfl rfl rfl (bvl ltn)) (zq (Q.pT rfl rfl) (zm rfl (WO.sD (d := 36) rfl (fun hc36 => ?_) (fun hc36 => ?_)))))))))))))
    ·refine zT (zm rfl (zT (zm rfl (zT (zq (Q.bin rfl (zi 1) rfl zp) (zT (WO.indexB hs ud9 rfl rfl zo rfl (fun c40 hd40 hb40 => zT (zq (Q.bin rfl (zu 92) rfl (bv_eql eq_nat)) (zT (zm rfl (WO.sD (d := 42) rfl (fun hc42 => ?_) (fun hc42 => ?_)))))))))))))
     ·refine zG (zG (zG (zG (zG (zT (zq (Q.pT rfl rfl) (zq (Q.pT rfl rfl) (WO.nil (End.K (W.sub zv (hJc49 (_) ?_)))))))))))
      exact (by first | (intro h; cases h; done) | (intro _; omega))
     refine zT (zm rfl (zT (zm rfl (zT (zq (Q.bin rfl (zi 1) rfl zp) (zT (WO.indexB hs ud9 rfl rfl zo rfl (fun c46 hd46 hb46 => zT (zq (Q.bin rfl (zu 34) rfl (bv_eql eq_nat)) (zT (zq (Q.pF rfl rfl) (zq (Q.pT rfl rfl) (WO.nil (End.K (W.sub zv (hJc49 (_) ?_))))))))))))))))
     exact (by first | (intro h; cases h; done) | (intro _; omega))
    refine zG (zG (zG (zG (zG (zG (WO.gF rfl rfl (.inr rfl) rfl (WO.gF rfl rfl (.inr rfl) rfl (WO.gF rfl rfl (.inr rfl) rfl (WO.gF rfl rfl (.inr rfl) rfl (WO.gF rfl rfl (.inr rfl) rfl (zG (zq (Q.pF rfl rfl) (WO.nil (End.K (W.sub zv (hJc49 (_) ?_))))))))))))))))
    exact (by first | (intro h; cases h; done) | (intro _; omega))
   refine zG (zG (zG (zG (zG (zq (Q.pF rfl rfl) (zm rfl (zG (zG (zG (zG (zG (zG (WO.gF rfl rfl (.inr rfl) rfl (WO.gF rfl rfl (.inr rfl) rfl (WO.gF rfl rfl (.inr rfl) rfl (WO.gF rfl rfl (.inr rfl) rfl (WO.gF rfl rfl (.inr rfl) rfl (zG (zq (Q.pF rfl rfl) (WO.nil (End.K (W.sub zv (hJc49 (_) ?_)))))))))))))))))))))))
   exact (by first | (intro h; cases h; done) | (intro _; omega))
  refine W.exit (End.Kx (End.Lx (End.Bh (End.K (W.seq (W.seq (W.regD 12 _ (by kernel_rfl) (KIn.refl _) (WD.q (Q.move rfl) bqi rfl (WD.q (Q.move rfl) bq_str rfl (WD.q (Q.len ud9 rfl rfl) bqi rfl (WD.q (Q.bin rfl rfl rfl (bv_geq le_nat)) bq_bool rfl (WD.q (Q.move rfl) bq_bool rfl (WD.splitD (d := 121) rfl (fun hc121 => ?_) (fun hc121 => ?_))))))))))))))
  ·refine WD.gF rfl rfl (.inl rfl) rfl (WD.gF rfl rfl (.inl rfl) rfl (WD.gF rfl rfl (.inl rfl) rfl (WD.gF rfl rfl (.inl rfl) rfl (WD.gF rfl rfl (.inl rfl) rfl (WD.gF rfl rfl (.inl rfl) rfl (WD.gF rfl rfl (.inl rfl) rfl (WD.gF rfl rfl (.inl rfl) rfl (WD.q (Q.pT rfl rfl) bq_bool rfl (WD.nil (End.K (W.sub (zc 130 rfl (zc 4 rfl (zc 5 rfl zzn))) (W.condT rfl (zr (zq (Q.assign (oc (v := .str []) (by kernel_rfl))) (za (zi 0) (zk (W.ret (End.Kr (End.retE (ResL.tmp rfl (z1 rfl)) ?_)))))))))))))))))))
   exact ⟨[], 0, rfl, by intro c h; simp at h, by simp, by omega⟩
  refine WD.gT rfl rfl (WD.q (Q.move rfl) (Own.bq hO) rfl (WD.gT rfl rfl (WD.q (Q.convOwn (A := []) ud100 ud9 ud5 ha hO rfl rfl) bq_str rfl (WD.gT rfl rfl (WD.callE rfl (oLc rfl oz) rfl (quo_spec _ ha zo) SubR.nil (KIn.refl _) rfl (fun v124 hP124 => ?_))))))
  obtain ⟨qt, rfl, hqb, hql⟩ := hP124
  refine WD.gT rfl rfl (WD.q (Q.move rfl) bq_str rfl (WD.gT rfl rfl (WD.q (Q.move rfl) bqi rfl (WD.gT rfl rfl (WD.q (Q.bin rfl (zi 1) rfl zp) bqi rfl (WD.gT rfl rfl (WD.q (Q.sliceS ud9 rfl rfl zo sl_hi) bq_str rfl (WD.gT rfl rfl (WD.q (Q.bin rfl rfl rfl bv_sneq) bq_bool rfl (WD.q (Q.pF rfl rfl) bq_bool rfl (WD.nil (End.K (W.sub (zc 130 rfl (zc 4 rfl (zc 5 rfl zzn))) (W.cD rfl (fun hc130 => ?_) (fun hc130 => ?_)))))))))))))))
  ·refine zr (zq (Q.assign (oc (v := .str []) (by kernel_rfl))) (za (zi 0) (zk (W.ret (End.Kr (End.retE (ResL.tmp rfl (z1 rfl)) ?_))))))
   exact ⟨[], 0, rfl, by intro c h; simp at h, by simp, by omega⟩
  refine zw (zr (zm rfl (zq (Q.convOwn (A := []) ud100 ud9 ud5 ha hO rfl rfl) (zm rfl (zq (Q.bin rfl (zi 1) rfl zp) (za rfl (za rfl (zk (W.ret (End.retE (ResL.tmp rfl (z1 rfl)) ?_))))))))))
  exact ⟨acc, i + 1, rfl, ha, by omega, by omega⟩
 refine zG (zG (zG (zG (zq (Q.pF rfl rfl) (zk (W.condF rfl (W.exit (End.Kx (End.Lx (End.Bh (End.K (W.seq (W.seq (W.regD 12 _ (by kernel_rfl) (KIn.refl _) (WD.q (Q.move rfl) bqi rfl (WD.q (Q.move rfl) bq_str rfl (WD.q (Q.len ud9 rfl rfl) bqi rfl (WD.q (Q.bin rfl rfl rfl (bv_geq le_nat)) bq_bool rfl (WD.q (Q.move rfl) bq_bool rfl (WD.splitD (d := 121) rfl (fun hc121 => ?_) (fun hc121 => ?_)))))))))))))))))))))
 ·refine WD.gF rfl rfl (.inl rfl) rfl (WD.gF rfl rfl (.inl rfl) rfl (WD.gF rfl rfl (.inl rfl) rfl (WD.gF rfl rfl (.inl rfl) rfl (WD.gF rfl rfl (.inl rfl) rfl (WD.gF rfl rfl (.inl rfl) rfl (WD.gF rfl rfl (.inl rfl) rfl (WD.gF rfl rfl (.inl rfl) rfl (WD.q (Q.pT rfl rfl) bq_bool rfl (WD.nil (End.K (W.sub (zc 130 rfl (zc 4 rfl (zc 5 rfl zzn))) (W.condT rfl (zr (zq (Q.assign (oc (v := .str []) (by kernel_rfl))) (za (zi 0) (zk (W.ret (End.Kr (End.retE (ResL.tmp rfl (z1 rfl)) ?_)))))))))))))))))))
  exact ⟨[], 0, rfl, by intro c h; simp at h, by simp, by omega⟩
 refine WD.gT rfl rfl (WD.q (Q.move rfl) (Own.bq hO) rfl (WD.gT rfl rfl (WD.q (Q.convOwn (A := []) ud100 ud9 ud5 ha hO rfl rfl) bq_str rfl (WD.gT rfl rfl (WD.callE rfl (oLc rfl oz) rfl (quo_spec _ ha zo) SubR.nil (KIn.refl _) rfl (fun v124 hP124 => ?_))))))
 obtain ⟨qt, rfl, hqb, hql⟩ := hP124
 refine WD.gT rfl rfl (WD.q (Q.move rfl) bq_str rfl (WD.gT rfl rfl (WD.q (Q.move rfl) bqi rfl (WD.gT rfl rfl (WD.q (Q.bin rfl (zi 1) rfl zp) bqi rfl (WD.gT rfl rfl (WD.q (Q.sliceS ud9 rfl rfl zo sl_hi) bq_str rfl (WD.gT rfl rfl (WD.q (Q.bin rfl rfl rfl bv_sneq) bq_bool rfl (WD.q (Q.pF rfl rfl) bq_bool rfl (WD.nil (End.K (W.sub (zc 130 rfl (zc 4 rfl (zc 5 rfl zzn))) (W.cD rfl (fun hc130 => ?_) (fun hc130 => ?_)))))))))))))))
 ·refine zr (zq (Q.assign (oc (v := .str []) (by kernel_rfl))) (za (zi 0) (zk (W.ret (End.Kr (End.retE (ResL.tmp rfl (z1 rfl)) ?_))))))
  exact ⟨[], 0, rfl, by intro c h; simp at h, by simp, by omega⟩
 refine zw (zr (zm rfl (zq (Q.convOwn (A := []) ud100 ud9 ud5 ha hO rfl rfl) (zm rfl (zq (Q.bin rfl (zi 1) rfl zp) (za rfl (za rfl (zk (W.ret (End.retE (ResL.tmp rfl (z1 rfl)) ?_))))))))))
 exact ⟨acc, i + 1, rfl, ha, by omega, by omega⟩
end Go.Proofs.YtndhhgbpcmfeiaaGreatDoor.Ev.P16
