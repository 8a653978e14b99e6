/- Chapter 17, walks: the document's tokens, as far as their shapes. -/
import Derived.Test.YtndhhgbpcmfeiaaGreatDoorOV7
namespace Go.Proofs.YtndhhgbpcmfeiaaGreatDoor.Ev.P16
open Go.RowKit
set_option maxRecDepth 100000
set_option maxHeartbeats 1000000
section
variable {tb : Tab} {n : Nat} {E : Env} {s : St} {hs : ak} {R : T AV -> AHeap -> Prop} {ops rest : List Oper} {d : Nat} {ty : TypeId} {pos : String} {aft : Array Edge} {t : TypeId}
def eQ (P : AV -> Prop) : AV -> ak -> Prop := fun v D => P v /\ D = []
theorem af {rs : List ResultVar} {P : AV -> Prop} {l : List AV} (hr : ResL tb s hs rs l) (hP : P (ah l)) : End E s hs (vi tb rs E (eQ P) .ret) :=
 End.ret hr (hs' := []) ⟨hP, rfl⟩ (fun e h => j9 h) (SubH.nil _)
theorem WO.callE {of : Operand} {args : List Operand} {ts : Array TypeId} {g : Nat} {caps l l' : List AV} {hsc : ak} {P : AV -> Prop} (hf : oL s of = some (.func g caps)) (ha : pW s args = some l) (hl : l ++ caps = l')
  (hsp : Spec tb g l' [] hsc (eQ P)) (hsub : SubR hsc hs) (hd : Nat.blt d n = true) (hk : ∀ v, P v -> WO tb n ops rest E ((d, v) :: s) hs R) :
  WO tb n ops (⟨some d, .call ⟨.value of, args.toArray, ts⟩, ty, pos, aft, none⟩ :: rest) E s hs R :=
 WO.call0 hf ha hl hsp hsub hd fun v' D ⟨h1, h2⟩ => by subst h2; exact hk _ h1
end
def GH (u : Nat) : Nat := if u = 5 then 2 else 1
def zh (c : Nat) : Bool := decide (48 <= c) && decide (c <= 57)
theorem D4 {c : Nat} (h : zh c = true) : 48 <= c /\ c <= 57 := by simpa [zh] using h
theorem Dr {w : Nat} (h : w < 6) : (([[119], [100], [104], [109], [115], [109, 115]] : List (List Nat)).getD w []).length = GH w := by
 have : ∀ w : Fin 6, (([[119], [100], [104], [109], [115], [109, 115]] : List (List Nat)).getD w.val []).length = GH w.val := by decide
 exact this ⟨w, h⟩
theorem Di {w : Nat} (h : w < 6) : 0 < ([604800000, 86400000, 3600000, 60000, 1000, 1] : List Nat).getD w 0 := by
 have : ∀ w : Fin 6, 0 < ([604800000, 86400000, 3600000, 60000, 1000, 1] : List Nat).getD w.val 0 := by decide
 exact this ⟨w, h⟩
def np (c : Nat) : Int := if 48 <= c /\ c <= 57 then (c : Int) - 48 else if 97 <= c /\ c <= 102 then (c : Int) - 97 + 10 else -1
def om (c : Nat) : Bool := (decide (97 <= c) && decide (c <= 122)) || (decide (65 <= c) && decide (c <= 90)) || decide (c = 95) || decide (c = 58)
theorem jO (c : Nat) (hc : c < 256) : Spec aN 85 [.int .u8 ((c : Nat) : Int)] [] [] (fJ (.bool (zh c))) := by
 refine av (cX 85 Tryz.func85) rfl (m := 9) rfl (rs := [.tmp 2]) rfl (st := [(0, .int .u8 ((c : Nat) : Int))]) rfl rfl (fun _ => rfl) (fun E => zr (za rfl (zk (zr (zm rfl (zq (aa rfl (zu 48) rfl (cy bZ)) (zm rfl (ay (d := 5) rfl (fun hc5 => ?_) (fun hc5 => ?_)))))))))
 ·refine zT (zm rfl (zT (zq (aa rfl (zu 57) rfl (dT bZ)) (zq (aj rfl rfl) (za rfl (zk (W.ret (ae (z1 rfl) ?_))))))))
  exact cF (by simp_all [zh] <;> omega)
 refine z2 (zq (ax rfl rfl) (za rfl (zk (W.ret (ae (z1 rfl) ?_)))))
 exact cF (by simp_all [zh] <;> omega)

theorem ky (c : Nat) (hc : c < 256) : Spec aN 84 [.int .u8 ((c : Nat) : Int)] [] [] (fJ (.bool (om c))) := by
 refine av (cX 84 Tryz.func84) rfl (m := 25) rfl (rs := [.tmp 2]) rfl (st := [(0, .int .u8 ((c : Nat) : Int))]) rfl rfl (fun _ => rfl) (fun E => zr (za rfl (zk (zr (zm rfl (zq (aa rfl (zu 97) rfl (cy bZ)) (zm rfl (ay (d := 5) rfl (fun hc5 => ?_) (fun hc5 => ?_)))))))))
 ·refine zT (zm rfl (zT (zq (aa rfl (zu 122) rfl (dT bZ)) (zq (aj rfl rfl) (zm rfl (ay (d := 9) rfl (fun hc9 => ?_) (fun hc9 => ?_)))))))
  ·refine z2 (zG (WO.gF rfl rfl (.inr rfl) rfl (WO.gF rfl rfl (.inr rfl) rfl (zG (zq (aj rfl rfl) (zm rfl (z2 (zq (aj rfl rfl) (zm rfl (z2 (zq (aj rfl rfl) (za rfl (zk (W.sub (zc 2 rfl aI) (W.ret (ae (z1 rfl) ?_))))))))))))))))
   exact cF (by simp_all [om] <;> omega)
  refine zT (zm rfl (zT (zq (aa rfl (zu 65) rfl (cy bZ)) (zT (zm rfl (ay (d := 12) rfl (fun hc12 => ?_) (fun hc12 => ?_)))))))
  ·refine zT (zm rfl (zT (zq (aa rfl (zu 90) rfl (dT bZ)) (zT (zq (aj rfl rfl) (zq (ax rfl rfl) (zm rfl (ay (d := 17) rfl (fun hc17 => ?_) (fun hc17 => ?_)))))))))
   ·refine z2 (zq (aj rfl rfl) (zm rfl (z2 (zq (aj rfl rfl) (za rfl (zk (W.sub (zc 2 rfl aI) (W.ret (ae (z1 rfl) ?_)))))))))
    exact cF (by simp_all [om] <;> omega)
   refine zT (zm rfl (zT (zq (aa rfl (zu 95) rfl (ag aA)) (zq (ax rfl rfl) (zm rfl (ay (d := 21) rfl (fun hc21 => ?_) (fun hc21 => ?_)))))))
   ·refine z2 (zq (aj rfl rfl) (za rfl (zk (W.sub (zc 2 rfl aI) (W.ret (ae (z1 rfl) ?_))))))
    exact cF (by simp_all [om] <;> omega)
   refine zT (zm rfl (zT (zq (aa rfl (zu 58) rfl (ag aA)) (zq (ax rfl rfl) (za rfl (zk (W.sub (zc 2 rfl aI) (W.ret (ae (z1 rfl) ?_)))))))))
   exact cF (by simp_all [om] <;> omega)
  refine z2 (zT (zq (ax rfl rfl) (zq (ax rfl rfl) (zm rfl (zT (zm rfl (zT (zq (aa rfl (zu 95) rfl (ag aA)) (zq (ax rfl rfl) (zm rfl (ay (d := 21) rfl (fun hc21 => ?_) (fun hc21 => ?_))))))))))))
  ·refine z2 (zq (aj rfl rfl) (za rfl (zk (W.sub (zc 2 rfl aI) (W.ret (ae (z1 rfl) ?_))))))
   exact cF (by simp_all [om] <;> omega)
  refine zT (zm rfl (zT (zq (aa rfl (zu 58) rfl (ag aA)) (zq (ax rfl rfl) (za rfl (zk (W.sub (zc 2 rfl aI) (W.ret (ae (z1 rfl) ?_)))))))))
  exact cF (by simp_all [om] <;> omega)
 refine z2 (zq (ax rfl rfl) (zm rfl (zT (zm rfl (zT (zq (aa rfl (zu 65) rfl (cy bZ)) (zT (zm rfl (ay (d := 12) rfl (fun hc12 => ?_) (fun hc12 => ?_))))))))))
 ·refine zT (zm rfl (zT (zq (aa rfl (zu 90) rfl (dT bZ)) (zT (zq (aj rfl rfl) (zq (ax rfl rfl) (zm rfl (ay (d := 17) rfl (fun hc17 => ?_) (fun hc17 => ?_)))))))))
  ·refine z2 (zq (aj rfl rfl) (zm rfl (z2 (zq (aj rfl rfl) (za rfl (zk (W.sub (zc 2 rfl aI) (W.ret (ae (z1 rfl) ?_)))))))))
   exact cF (by simp_all [om] <;> omega)
  refine zT (zm rfl (zT (zq (aa rfl (zu 95) rfl (ag aA)) (zq (ax rfl rfl) (zm rfl (ay (d := 21) rfl (fun hc21 => ?_) (fun hc21 => ?_)))))))
  ·refine z2 (zq (aj rfl rfl) (za rfl (zk (W.sub (zc 2 rfl aI) (W.ret (ae (z1 rfl) ?_))))))
   exact cF (by simp_all [om] <;> omega)
  refine zT (zm rfl (zT (zq (aa rfl (zu 58) rfl (ag aA)) (zq (ax rfl rfl) (za rfl (zk (W.sub (zc 2 rfl aI) (W.ret (ae (z1 rfl) ?_)))))))))
  exact cF (by simp_all [om] <;> omega)
 refine z2 (zT (zq (ax rfl rfl) (zq (ax rfl rfl) (zm rfl (zT (zm rfl (zT (zq (aa rfl (zu 95) rfl (ag aA)) (zq (ax rfl rfl) (zm rfl (ay (d := 21) rfl (fun hc21 => ?_) (fun hc21 => ?_))))))))))))
 ·refine z2 (zq (aj rfl rfl) (za rfl (zk (W.sub (zc 2 rfl aI) (W.ret (ae (z1 rfl) ?_))))))
  exact cF (by simp_all [om] <;> omega)
 refine zT (zm rfl (zT (zq (aa rfl (zu 58) rfl (ag aA)) (zq (ax rfl rfl) (za rfl (zk (W.sub (zc 2 rfl aI) (W.ret (ae (z1 rfl) ?_)))))))))
 exact cF (by simp_all [om] <;> omega)

theorem oZ (s : List Nat) (hs : Bytes s) (hl : s.length <= 1024) (i : Nat) (hi : i <= s.length) : Spec aN 54 [.str s, .int .i64 ((i : Nat) : Int)] [] [] (eQ (fun v => ∃ n : Nat, v = .int .i64 (n : Int) /\ i <= n /\ n <= s.length)) := by
 refine av (cX 54 Tryz.func54) rfl (m := 44) rfl (rs := [.tmp 4]) rfl (st := [(0, .str s), (1, .int .i64 ((i : Nat) : Int))]) rfl rfl (fun _ => rfl) (fun E => zr (za (zi 0) (zk (W.seq (W.block (aM (fun (k : Nat) => [(0, .str s), (1, .int .i64 ((k : Nat) : Int))]) (fun _ => _) (fun (k : Nat) => i <= k /\ k <= s.length) (fun (k : Nat) => s.length - k) (i) ⟨Nat.le_refl _, hi⟩ zv (SubH.refl _) (fun k hI0 ih0 => ?_)))))))
 obtain ⟨h1, h2⟩ := hI0
 refine W.seq (zr (zm rfl (zm rfl (zq (Q.len bH rfl rfl) (zq (aa rfl rfl rfl (ec dM)) (zk (aw rfl (fun hc8 => ?_) (fun hc8 => ?_))))))))
 ·refine zw (W.block (W.seq (zr (zm rfl (zm rfl (WO.indexB hs bH rfl rfl zo rfl (fun c11 hd11 hb11 => zq (aa rfl (zu 35) rfl (ag aA)) (zk (aw rfl (fun hc12 => ?_) (fun hc12 => ?_))))))))))
  ·refine W.seq (W.block (aM (fun (j : Nat) => [(0, .str s), (1, .int .i64 ((j : Nat) : Int))]) (fun _ => _) (fun (j : Nat) => k <= j /\ j <= s.length /\ (j = k -> s.getD k 0 = 35)) (fun (j : Nat) => s.length - j) (k) ⟨Nat.le_refl _, h2, fun _ => by omega⟩ zv (SubH.refl _) (fun j hI1 ih1 => ?_)))
   obtain ⟨g1, g2, g3⟩ := hI1
   refine W.seq (zr (zm rfl (zm rfl (zq (Q.len bH rfl rfl) (zq (aa rfl rfl rfl (ec dM)) (zm rfl (ay (d := 17) rfl (fun hc17 => ?_) (fun hc17 => ?_))))))))
   ·refine zT (zm rfl (zT (zm rfl (zT (WO.indexB hs bH rfl rfl zo rfl (fun c20 hd20 hb20 => zT (zq (aa rfl (zu 10) rfl (aR cf)) (zq (aj rfl rfl) (zk (aw rfl (fun hc22 => ?_) (fun hc22 => ?_)))))))))))
    ·refine zw (W.block (am (zm rfl (zq (aa rfl (zi 1) rfl zp) (za rfl (WO.nil (End.KB (End.KL (W.sub zv (ih1 (j + 1) ?_ ?_))))))))))
     ·exact ⟨by omega, by omega, by omega⟩
     exact zo
    have hkj : k < j := Nat.lt_of_le_of_ne g1 fun e => by subst e; have := g3 rfl; omega
    refine W.exit (aC (aK (aB (End.K (W.exit (aC (aB (End.KL (W.sub zv (ih0 (j) ?_ ?_))))))))))
    ·exact ⟨by omega, by omega⟩
    exact zo
   refine z2 (z2 (zq (ax rfl rfl) (zk (az rfl (W.exit (aC (aK (aB (End.K (W.exit (aC (aB (End.KL (W.sub zv (ih0 (j) ?_ ?_)))))))))))))))
   ·exact ⟨by omega, by omega⟩
   exact zo
  refine zw (W.seq (zr (zm rfl (zm rfl (WO.indexB hs bH rfl rfl zo rfl (fun c27 hd27 hb27 => zq (aa rfl (zu 32) rfl (aR cf)) (zm rfl (ay (d := 29) rfl (fun hc29 => ?_) (fun hc29 => ?_)))))))))
  ·refine zT (zm rfl (zT (zm rfl (zT (WO.indexB hs bH rfl rfl zo rfl (fun c32 hd32 hb32 => zT (zq (aa rfl (zu 9) rfl (aR cf)) (zq (aj rfl rfl) (zm rfl (ay (d := 35) rfl (fun hc35 => ?_) (fun hc35 => ?_)))))))))))
   ·refine zT (zm rfl (zT (zm rfl (zT (WO.indexB hs bH rfl rfl zo rfl (fun c38 hd38 hb38 => zT (zq (aa rfl (zu 10) rfl (aR cf)) (zq (aj rfl rfl) (zk (W.sub (zc 40 rfl (zc 0 rfl (zc 1 rfl aI))) (aw rfl (fun hc40 => ?_) (fun hc40 => ?_))))))))))))
    ·refine W.exit (aC (dl rfl (aK (aB (End.K (zr (zm rfl (za rfl (zk (W.ret (af (z1 rfl) ?_)))))))))))
     exact ⟨k, rfl, h1, h2⟩
    refine zw (am (zm rfl (zq (aa rfl (zi 1) rfl zp) (za rfl (WO.nil (End.KB (End.KL (W.sub zv (ih0 (k + 1) ?_ ?_)))))))))
    ·exact ⟨by omega, by omega⟩
    exact zo
   refine z2 (z2 (zq (ax rfl rfl) (zk (W.sub (zc 40 rfl (zc 0 rfl (zc 1 rfl aI))) (az rfl (zw (am (zm rfl (zq (aa rfl (zi 1) rfl zp) (za rfl (WO.nil (End.KB (End.KL (W.sub zv (ih0 (k + 1) ?_ ?_)))))))))))))))
   ·exact ⟨by omega, by omega⟩
   exact zo
  refine z2 (z2 (zq (ax rfl rfl) (zm rfl (z2 (z2 (zq (ax rfl rfl) (zk (W.sub (zc 40 rfl (zc 0 rfl (zc 1 rfl aI))) (az rfl (zw (am (zm rfl (zq (aa rfl (zi 1) rfl zp) (za rfl (WO.nil (End.KB (End.KL (W.sub zv (ih0 (k + 1) ?_ ?_)))))))))))))))))))
  ·exact ⟨by omega, by omega⟩
  exact zo
 refine W.exit (aC (aK (aB (End.K (zr (zm rfl (za rfl (zk (W.ret (af (z1 rfl) ?_))))))))))
 exact ⟨k, rfl, h1, h2⟩

theorem Ab (s : List Nat) (hs : Bytes s) (hl : s.length <= 1024) (i : Nat) (hi : i < s.length) : Spec aN 88 [.str s, .int .i64 ((i : Nat) : Int)] [] [] (eQ (fun v => ∃ n : Nat, v = .int .i64 (n : Int) /\ i + n <= s.length /\ n <= 2)) := by
 refine av (cX 88 Tryz.func88) rfl (m := 46) rfl (rs := [.tmp 4]) rfl (st := [(0, .str s), (1, .int .i64 ((i : Nat) : Int))]) rfl rfl (fun _ => rfl) (fun E => zr (za (zi 0) (zk (zr (WO.bslice dk kb ve rfl (bz (oc (v := .str [61, 126]) (by kernel_rfl)) (bz (oc (v := .str [33, 126]) (by kernel_rfl)) (bz (oc (v := .str [61, 61]) (by kernel_rfl)) (bz (oc (v := .str [33, 61]) (by kernel_rfl)) (bz (oc (v := .str [60, 61]) (by kernel_rfl)) (bz (oc (v := .str [62, 61]) (by kernel_rfl)) aq)))))) rfl (cs := [_, _, _, _, _, _]) rfl rfl rfl (fun b1 => za rfl (zk (W.seq (zr (za (zi 0) (zk (W.block (aM (fun (k : Nat) => [(0, .str s), (1, .int .i64 ((i : Nat) : Int)), (5, .slice b1 0 6 1), (6, .int .i64 ((k : Nat) : Int))]) (fun (k : Nat) => [⟨b1, ⟨1, true, ([[61, 126], [33, 126], [61, 61], [33, 61], [60, 61], [62, 61]] : List (List Nat)).map AV.str⟩, true⟩]) (fun (k : Nat) => k <= 6) (fun (k : Nat) => 6 - k) (0) (Nat.zero_le _) zv (SubH.refl _) (fun k hI0 ih0 => W.seq (zr (zm rfl (zm rfl (zq (Q.len dk rfl rfl) (zq (aa rfl rfl rfl (ec dM)) (zk (aw rfl (fun hc13 => ?_) (fun hc13 => ?_))))))))))))))))))))))
 ·refine zw (W.seq (W.block (W.seq (dz (by kernel_rfl) (zm rfl (zq (Q.len bH rfl rfl) (zm rfl (zq (aa rfl rfl rfl (cT (vf zo))) (zq (aa rfl (zi 2) rfl (cy bZ)) (zm rfl (ay (d := 21) rfl (fun hc21 => ?_) (fun hc21 => ?_))))))))))))
  ·refine zT (zm rfl (zT (zm rfl (zT (zm rfl (zT (zq (aa rfl (zi 2) rfl zp) (zT (zq (bK bH rfl rfl zo rfl) (zT (zm rfl (zT (zm rfl (zT (zq (ci dk kb rfl rfl zo) (zT (zq (ap rfl (zt 0 rfl) fW (eH (L := [[61, 126], [33, 126], [61, 61], [33, 61], [60, 61], [62, 61]]) (by simp; omega))) (zT (zq (aa rfl rfl rfl aH) (zq (aj rfl rfl) (zk (W.sub (zc 32 rfl (zc 0 rfl (zc 1 rfl (zc 5 rfl (zc 6 rfl aI))))) (aw rfl (fun hc32 => ?_) (fun hc32 => ?_))))))))))))))))))))))))
   ·refine zr (za (zi 2) (zk (W.ret (ad (ac (bE (ad (ac (af (z1 rfl) ?_)))))))))
    exact ⟨2, rfl, by omega, by omega⟩
   refine W.skip (End.KB (End.K (am (zm rfl (zq (aa rfl (zi 1) rfl zp) (za rfl (WO.nil (End.KL (W.sub zv (ih0 (k + 1) ?_ ?_))))))))))
   ·exact zy
   exact zo
  refine z2 (z2 (z2 (z2 (z2 (zq (ax rfl rfl) (zk (W.sub (zc 32 rfl (zc 0 rfl (zc 1 rfl (zc 5 rfl (zc 6 rfl aI))))) (az rfl (W.skip (End.KB (End.K (am (zm rfl (zq (aa rfl (zi 1) rfl zp) (za rfl (WO.nil (End.KL (W.sub zv (ih0 (k + 1) ?_ ?_)))))))))))))))))))
  ·exact zy
  exact zo
 refine W.exit (aC (aK (aB (End.K (zr (zq (Q.assign (oc (v := .str [61, 60, 62, 43, 45, 42, 47, 37, 40, 41, 123, 125, 91, 93, 44]) (by kernel_rfl))) (zk (W.seq (zr (za (zi 0) (zk (W.block (aM (fun (k : Nat) => [(0, .str s), (1, .int .i64 ((i : Nat) : Int)), (7, .str [61, 60, 62, 43, 45, 42, 47, 37, 40, 41, 123, 125, 91, 93, 44]), (8, .int .i64 ((k : Nat) : Int))]) (fun _ => _) (fun (k : Nat) => k <= 15) (fun (k : Nat) => 15 - k) (0) (Nat.zero_le _) zv (SubH.refl _) (fun k hI1 ih1 => W.seq (zr (zm rfl (zm rfl (zq (Q.len bH rfl rfl) (zq (aa rfl rfl rfl (ec dM)) (zk (aw rfl (fun hc36 => ?_) (fun hc36 => ?_))))))))))))))))))))))
 ·refine zw (W.seq (W.block (W.seq (dz (by kernel_rfl) (zm rfl (zm rfl (WO.indexB hs bH rfl rfl zo rfl (fun c41 hd41 hb41 => zm rfl (zm rfl (WO.indexB (by unfold Bytes; decide) bH rfl rfl zo rfl (fun c44 hd44 hb44 => zq (aa rfl rfl rfl (ag aA)) (zk (aw rfl (fun hc45 => ?_) (fun hc45 => ?_))))))))))))))
  ·refine zr (za (zi 1) (zk (W.sub (zc 4 rfl aI) (W.ret (ad (ac (bE (ad (ac (af (z1 rfl) ?_))))))))))
   exact ⟨1, rfl, by omega, by omega⟩
  refine W.skip (End.KB (End.K (am (zm rfl (zq (aa rfl (zi 1) rfl zp) (za rfl (WO.nil (End.KL (W.sub zv (ih1 (k + 1) ?_ ?_))))))))))
  ·exact (by simp at *; omega)
  exact (by simp at *; omega)
 refine W.exit (aC (aK (aB (End.K (zr (za (zi 0) (zk (W.ret (af (z1 rfl) ?_)))))))))
 exact ⟨0, rfl, by omega, by omega⟩

theorem qv  : Spec aN 148 [] [] [] (fun v D => ∃ b1 b2, v = .tuple [.slice b1 0 6 1, .slice b2 0 6 1] /\ D = [⟨b2, ⟨1, true, jg [604800000, 86400000, 3600000, 60000, 1000, 1]⟩, true⟩, ⟨b1, ⟨1, true, ([[119], [100], [104], [109], [115], [109, 115]] : List (List Nat)).map AV.str⟩, true⟩]) := by
 refine av (cX 148 Tryz.func148) rfl (m := 4) rfl (rs := [.tmp 0, .tmp 1]) rfl (st := []) rfl rfl (fun _ => rfl) (fun E => zr (za rfl (za rfl (zk (zr (WO.bslice dk kb ve rfl (bz (oc (v := .str [119]) (by kernel_rfl)) (bz (oc (v := .str [100]) (by kernel_rfl)) (bz (oc (v := .str [104]) (by kernel_rfl)) (bz (oc (v := .str [109]) (by kernel_rfl)) (bz (oc (v := .str [115]) (by kernel_rfl)) (bz (oc (v := .str [109, 115]) (by kernel_rfl)) aq)))))) rfl (cs := [_, _, _, _, _, _]) rfl rfl rfl (fun b1 => WO.bslice bc di yY rfl (bz (zi 604800000) (bz (zi 86400000) (bz (zi 3600000) (bz (zi 60000) (bz (zi 1000) (bz (zi 1) aq)))))) rfl (cs := [_, _, _, _, _, _]) rfl rfl rfl (fun b2 => za rfl (za rfl (zk (W.ret ?_)))))))))))
 refine End.ret (ResL.tmp rfl (z1 rfl)) ⟨_, _, rfl, rfl⟩ (by intro e he; simp at he; rcases he with rfl | rfl <;> rfl) (SubH.refl _)

theorem rN (s : List Nat) (hs : Bytes s) (hl : s.length <= 1024) : Spec aN 149 [.str s] [] [] (eQ (fun v => ∃ u : Int, v = .int .i64 u /\ -1 <= u /\ (0 <= u -> u < 6 /\ GH u.toNat <= s.length))) := by
 refine av (cX 149 Tryz.func149) rfl (m := 35) rfl (rs := [.tmp 2]) rfl (st := [(0, .str s)]) rfl rfl (fun _ => rfl) (fun E => zr (za (zi 0) (zk (zr (WO.call0 rfl oz rfl qv SubR.nil rfl (fun v7 D7 hP7 => ?_))))))
 obtain ⟨bn7, bs7, rfl, rfl⟩ := hP7
 refine zm rfl (zq (Q.extract rfl rfl) (zq (Q.extract rfl rfl) (za rfl (za rfl (zk (W.seq (zr (zm rfl (zq (Q.len bH rfl rfl) (zq (aa rfl (zi 2) rfl (cy bZ)) (zm rfl (ay (d := 13) rfl (fun hc13 => ?_) (fun hc13 => ?_)))))))))))))
 ·refine zT (zm rfl (zT (zq (bK bH rfl rfl zo uP) (zT (zq (aa rfl (oc (v := .str [109, 115]) (by kernel_rfl)) rfl aH) (zq (aj rfl rfl) (zk (aw rfl (fun hc17 => ?_) (fun hc17 => ?_)))))))))
  ·refine zr (za (zi 5) (zk (W.sub (zc 2 rfl aI) (W.ret (ac (af (z1 rfl) ?_))))))
   exact ⟨5, rfl, by omega, fun _ => ⟨by omega, by show 2 <= s.length; omega⟩⟩
  refine zw (W.sub (zc 3 rfl (zc 0 rfl aI)) (W.seq (zr (za (zi 0) (zk (W.block (aM (fun (k : Nat) => [(0, .str s), (3, .slice bn7 0 6 1), (5, .int .i64 ((k : Nat) : Int))]) (fun (k : Nat) => [⟨bs7, ⟨1, true, jg [604800000, 86400000, 3600000, 60000, 1000, 1]⟩, true⟩, ⟨bn7, ⟨1, true, ([[119], [100], [104], [109], [115], [109, 115]] : List (List Nat)).map AV.str⟩, true⟩]) (fun (k : Nat) => k <= 5) (fun (k : Nat) => 5 - k) (0) (Nat.zero_le _) zv (SubH.refl _) (fun k hI0 ih0 => W.seq (zr (zm rfl (zq (aa rfl (zi 5) rfl (ec dM)) (zk (aw rfl (fun hc19 => ?_) (fun hc19 => ?_))))))))))))))
  ·refine zw (W.seq (W.block (W.seq (dz (by kernel_rfl) (zm rfl (zq (Q.len bH rfl rfl) (zq (aa rfl (zi 0) rfl (aV dM)) (zm rfl (ay (d := 25) rfl (fun hc25 => ?_) (fun hc25 => ?_))))))))))
   ·refine zT (zm rfl (zT (zq (bK bH rfl rfl zo uP) (zT (zm rfl (zT (zm rfl (zT (zq (ci dk kb rfl rfl zo) (zT (zq (ap rfl (zt 1 rfl) fW (eH (L := [[119], [100], [104], [109], [115], [109, 115]]) (by simp; omega))) (zT (zq (aa rfl rfl rfl aH) (zq (aj rfl rfl) (zk (aw rfl (fun hc33 => ?_) (fun hc33 => ?_)))))))))))))))))
    ·refine zr (zm rfl (za rfl (zk (W.sub (zc 2 rfl aI) (W.ret (ad (ac (bE (ad (ac (af (z1 rfl) ?_)))))))))))
     exact ⟨(k : Int), rfl, by omega, fun _ => ⟨by omega, by unfold GH; split <;> omega⟩⟩
    refine W.skip (End.KB (End.K (W.sub (zc 0 rfl (zc 3 rfl (zc 5 rfl aI))) (am (zm rfl (zq (aa rfl (zi 1) rfl zp) (za rfl (WO.nil (End.KL (W.sub zv (ih0 (k + 1) ?_ ?_)))))))))))
    ·exact zy
    exact zo
   refine z2 (z2 (z2 (zG (zq (ax rfl rfl) (zk (az rfl (W.skip (End.KB (End.K (W.sub (zc 0 rfl (zc 3 rfl (zc 5 rfl aI))) (am (zm rfl (zq (aa rfl (zi 1) rfl zp) (za rfl (WO.nil (End.KL (W.sub zv (ih0 (k + 1) ?_ ?_))))))))))))))))))
   ·exact zy
   exact zo
  refine W.exit (aC (aK (aB (End.K (zr (za rfl (zk (W.ret (af (z1 rfl) ?_)))))))))
  exact ⟨-1, rfl, by omega, fun h => by omega⟩
 refine z2 (zG (zq (ax rfl rfl) (zk (az rfl (zw (W.sub (zc 3 rfl (zc 0 rfl aI)) (W.seq (zr (za (zi 0) (zk (W.block (aM (fun (k : Nat) => [(0, .str s), (3, .slice bn7 0 6 1), (5, .int .i64 ((k : Nat) : Int))]) (fun (k : Nat) => [⟨bs7, ⟨1, true, jg [604800000, 86400000, 3600000, 60000, 1000, 1]⟩, true⟩, ⟨bn7, ⟨1, true, ([[119], [100], [104], [109], [115], [109, 115]] : List (List Nat)).map AV.str⟩, true⟩]) (fun (k : Nat) => k <= 5) (fun (k : Nat) => 5 - k) (0) (Nat.zero_le _) zv (SubH.refl _) (fun k hI0 ih0 => W.seq (zr (zm rfl (zq (aa rfl (zi 5) rfl (ec dM)) (zk (aw rfl (fun hc19 => ?_) (fun hc19 => ?_)))))))))))))))))))
 ·refine zw (W.seq (W.block (W.seq (dz (by kernel_rfl) (zm rfl (zq (Q.len bH rfl rfl) (zq (aa rfl (zi 0) rfl (aV dM)) (zm rfl (ay (d := 25) rfl (fun hc25 => ?_) (fun hc25 => ?_))))))))))
  ·refine zT (zm rfl (zT (zq (bK bH rfl rfl zo uP) (zT (zm rfl (zT (zm rfl (zT (zq (ci dk kb rfl rfl zo) (zT (zq (ap rfl (zt 1 rfl) fW (eH (L := [[119], [100], [104], [109], [115], [109, 115]]) (by simp; omega))) (zT (zq (aa rfl rfl rfl aH) (zq (aj rfl rfl) (zk (aw rfl (fun hc33 => ?_) (fun hc33 => ?_)))))))))))))))))
   ·refine zr (zm rfl (za rfl (zk (W.sub (zc 2 rfl aI) (W.ret (ad (ac (bE (ad (ac (af (z1 rfl) ?_)))))))))))
    exact ⟨(k : Int), rfl, by omega, fun _ => ⟨by omega, by unfold GH; split <;> omega⟩⟩
   refine W.skip (End.KB (End.K (W.sub (zc 0 rfl (zc 3 rfl (zc 5 rfl aI))) (am (zm rfl (zq (aa rfl (zi 1) rfl zp) (za rfl (WO.nil (End.KL (W.sub zv (ih0 (k + 1) ?_ ?_)))))))))))
   ·exact zy
   exact zo
  refine z2 (z2 (z2 (zG (zq (ax rfl rfl) (zk (az rfl (W.skip (End.KB (End.K (W.sub (zc 0 rfl (zc 3 rfl (zc 5 rfl aI))) (am (zm rfl (zq (aa rfl (zi 1) rfl zp) (za rfl (WO.nil (End.KL (W.sub zv (ih0 (k + 1) ?_ ?_))))))))))))))))))
  ·exact zy
  exact zo
 refine W.exit (aC (aK (aB (End.K (zr (za rfl (zk (W.ret (af (z1 rfl) ?_)))))))))
 exact ⟨-1, rfl, by omega, fun h => by omega⟩

theorem Bx (s : List Nat) (hs : Bytes s) (hl : s.length <= 1024) : Spec aN 123 [.str s] [] [] (eQ (fun v => ∃ a b : Int, v = .tuple [.int .i64 a, .int .i64 b])) := by
 refine av (cX 123 Tryz.func123) rfl (m := 100) rfl (rs := [.tmp 2, .tmp 3]) rfl (st := [(0, .str s)]) rfl rfl (fun _ => rfl) (fun E => zr (za (zi 0) (za (zi 0) (zk (W.seq (zr (zm rfl (zq (aa rfl (oc (v := .str [48, 115]) (by kernel_rfl)) rfl aH) (zk (aw rfl (fun hc13 => ?_) (fun hc13 => ?_)))))))))))
 ·refine zr (za (zi 0) (za (zi 0) (zk (W.ret (ac (af (ResL.tmp rfl (z1 rfl)) ?_))))))
  exact ⟨_, _, rfl⟩
 refine zw (zr (WO.call0 rfl oz rfl qv SubR.nil rfl (fun v15 D15 hP15 => ?_)))
 obtain ⟨bn15, bs15, rfl, rfl⟩ := hP15
 refine zm rfl (zq (Q.extract rfl rfl) (zq (Q.extract rfl rfl) (za rfl (za rfl (zk (zr (za (zi 0) (za rfl (za rfl (zk (W.seq (zr (zm rfl (zq (aa rfl (oc (v := .str []) (by kernel_rfl)) rfl aH) (zk (aw rfl (fun hc19 => ?_) (fun hc19 => ?_)))))))))))))))))
 ·refine zr (za (zi 0) (za (zi 14) (zk (W.sub (zc 3 rfl (zc 2 rfl aI)) (W.ret (ac (af (ResL.tmp rfl (z1 rfl)) ?_)))))))
  exact ⟨_, _, rfl⟩
 refine zw (W.seq (W.block (gt (fun (r : List Nat) (sum : Int) (last : Int) (ov : Bool) => [(0, .str r), (4, .slice bn15 0 6 1), (5, .slice bs15 0 6 1), (6, .int .i64 sum), (7, .int .i64 last), (8, .bool ov)]) (fun (r : List Nat) (sum : Int) (last : Int) (ov : Bool) => [⟨bs15, ⟨1, true, jg [604800000, 86400000, 3600000, 60000, 1000, 1]⟩, true⟩, ⟨bn15, ⟨1, true, ([[119], [100], [104], [109], [115], [109, 115]] : List (List Nat)).map AV.str⟩, true⟩]) (fun (r : List Nat) (sum : Int) (last : Int) (ov : Bool) => Bytes r /\ r.length <= 1024 /\ -1 <= last) (fun (r : List Nat) (sum : Int) (last : Int) (ov : Bool) => r.length) (s) (0) (-1) (false) ⟨hs, hl, by omega⟩ zv (SubH.refl _) (fun r sum last ov hI0 ih0 => ?_))))
 obtain ⟨hr, hrl, hla⟩ := hI0
 refine W.seq (zr (zm rfl (zq (aa rfl (oc (v := .str []) (by kernel_rfl)) rfl iK) (zk (aw rfl (fun hc21 => ?_) (fun hc21 => ?_))))))
 ·refine zw (W.block (zr (za (zi 0) (zk (zr (za (zi 0) (zk (W.seq (W.block (gq (fun (k : Nat) (n : Nat) => [(0, .str r), (4, .slice bn15 0 6 1), (5, .slice bs15 0 6 1), (6, .int .i64 sum), (7, .int .i64 last), (8, .bool ov), (9, .int .i64 ((k : Nat) : Int)), (10, .int .i64 ((n : Nat) : Int))]) (fun (k : Nat) (n : Nat) => [⟨bs15, ⟨1, true, jg [604800000, 86400000, 3600000, 60000, 1000, 1]⟩, true⟩, ⟨bn15, ⟨1, true, ([[119], [100], [104], [109], [115], [109, 115]] : List (List Nat)).map AV.str⟩, true⟩]) (fun (k : Nat) (n : Nat) => k <= r.length /\ n <= 2147483649) (fun (k : Nat) (n : Nat) => r.length - k) (0) (0) ⟨Nat.zero_le _, by omega⟩ zv (SubH.refl _) (fun k n hI1 ih1 => ?_)))))))))))
  obtain ⟨h1, h2⟩ := hI1
  refine W.seq (zr (zm rfl (zm rfl (zq (Q.len bH rfl rfl) (zq (aa rfl rfl rfl (ec dM)) (zm rfl (ay (d := 26) rfl (fun hc26 => ?_) (fun hc26 => ?_))))))))
  ·refine zT (zm rfl (zT (zm rfl (zT (WO.indexB hr bH rfl rfl zo rfl (fun c29 hd29 hb29 => zT (aJ rfl (aD rfl oz) rfl (jO _ (by assumption)) SubR.nil rfl (zq (aj rfl rfl) (zk (aE rfl (fun hc31 => ?_) (fun hc31 => ?_)))))))))))
   ·have hdg := D4 (by first | exact hc30 | exact hc31)
    refine zw (W.block (zr (zm rfl (zq (aa (zi 10) rfl rfl (jH (Du zo))) (zm rfl (zm rfl (WO.indexB hr bH rfl rfl zo rfl (fun c36 hd36 hb36 => zq (aa rfl (zu 48) rfl (cT (Fa zo))) (zq (jC AE DB rfl (qM zo)) (zq (aa rfl rfl rfl zp) (zq (oQ false (aD rfl (aD (zi 2147483649) oz)) Cq) (za rfl (zk (W.sub (zc 10 rfl (zc 0 rfl (zc 4 rfl (zc 5 rfl (zc 6 rfl (zc 7 rfl (zc 8 rfl (zc 9 rfl aI)))))))) (am (zm rfl (zq (aa rfl (zi 1) rfl zp) (za rfl (WO.nil (End.KB (End.KL (W.sub zv (ih1 (k + 1) (_) ?_ ?_)))))))))))))))))))))))
    ·exact ⟨by omega, Nat.min_le_right _ _⟩
    exact zo
   refine W.exit (aC (aK (aB (End.K (W.seq (zr (zm rfl (zq (aa rfl (zi 0) rfl (ag aA)) (zm rfl (ay (d := 45) rfl (fun hc45 => ?_) (fun hc45 => ?_)))))))))))
   ·refine z2 (zG (zq (aj rfl rfl) (zk (W.sub (zc 49 rfl (zc 0 rfl (zc 4 rfl (zc 5 rfl (zc 6 rfl (zc 7 rfl (zc 8 rfl (zc 9 rfl (zc 10 rfl aI))))))))) (au rfl (zr (za (zi 0) (za (zi 14) (zk (W.ret (ac (ad (bE (ad (ac (af (ResL.tmp rfl (z1 rfl)) ?_))))))))))))))))
    exact ⟨_, _, rfl⟩
   refine zT (zm rfl (zT (WO.indexB hr bH rfl (zi 0) zo rfl (fun c47 hd47 hb47 => zT (zq (aa rfl (zu 48) rfl (ag aA)) (zq (ax rfl rfl) (zk (W.sub (zc 49 rfl (zc 0 rfl (zc 4 rfl (zc 5 rfl (zc 6 rfl (zc 7 rfl (zc 8 rfl (zc 9 rfl (zc 10 rfl aI))))))))) (aw rfl (fun hc49 => ?_) (fun hc49 => ?_))))))))))
   ·refine zr (za (zi 0) (za (zi 14) (zk (W.ret (ac (ad (bE (ad (ac (af (ResL.tmp rfl (z1 rfl)) ?_))))))))))
    exact ⟨_, _, rfl⟩
   refine zw (zr (zm rfl (zm rfl (zq (bK bH rfl rfl zo jA) (WO.callE rfl (aD rfl oz) rfl (rN _ (Bytes.drop hr _) zo) SubR.nil rfl (fun v53 hP53 => ?_))))))
   obtain ⟨u53, rfl, hu53, hv53⟩ := hP53
   refine za rfl (zk (W.seq (zr (zm rfl (zm rfl (zq (aa rfl rfl rfl (dT ir)) (zk (aw rfl (fun hc56 => ?_) (fun hc56 => ?_)))))))))
   ·refine zr (za (zi 0) (za (zi 14) (zk (W.sub (zc 3 rfl (zc 2 rfl aI)) (W.ret (ac (ad (bE (ad (ac (af (ResL.tmp rfl (z1 rfl)) ?_)))))))))))
    exact ⟨_, _, rfl⟩
   obtain ⟨w, rfl⟩ : ∃ w : Nat, u53 = (w : Int) := ⟨u53.toNat, by omega⟩
   have hw := hv53 zy
   have hw6 : w < 6 := zy
   have hul : GH w <= r.length - k := (by have := hw.2; simpa using this)
   have hnl := Dr hw6
   have hzp := Di hw6
   refine zw (zr (zm rfl (zm rfl (WO.split (d := 58) rfl (fun hc58 => ?_) (fun hc58 => ?_)))))
   ·refine z2 (z2 (z2 (zG (zq (aj rfl rfl) (zm rfl (z2 (z2 (z2 (z2 (zG (zq (aj rfl rfl) (za rfl (zk (W.sub (zc 8 rfl (zc 11 rfl (zc 0 rfl (zc 4 rfl (zc 5 rfl (zc 6 rfl (zc 9 rfl (zc 10 rfl aI)))))))) (W.seq (zr ?_))))))))))))))))
    refine zm rfl (zq (Q.not rfl rfl) (zk (az rfl (zw (zr (zm rfl (za rfl (zk (am (zm rfl (zm rfl (zm rfl (zm rfl (zq (ci dk kb rfl rfl zo) (zq (ap rfl (zt 1 rfl) fW (eH (L := [[119], [100], [104], [109], [115], [109, 115]]) (by simp; omega))) (zq (Q.len bH rfl rfl) (zq (aa rfl rfl rfl zp) (zq (bK bH rfl rfl zo jA) (za rfl (WO.nil (End.KB (End.KL (W.sub zv (ih0 (_) (_) (_) (_) ?_ ?_))))))))))))))))))))))))
    ·exact ⟨Bytes.drop hr _, by simp; omega, by omega⟩
    exact (by simp; omega)
   refine zT (zm rfl (zT (zm rfl (zT (zm rfl (zT (zq (ci bc di rfl rfl zo) (zT (zq (ap rfl (zt 0 rfl) bU (gk (A := [604800000, 86400000, 3600000, 60000, 1000, 1]) (by simp; omega))) (zT (zq (aa (zi 2147483648) rfl rfl (o4 zo rfl)) (zT (zq (aa rfl rfl rfl (aV (cp _ _))) (zq (ax rfl rfl) (zm rfl (ay (d := 67) rfl (fun hc67 => ?_) (fun hc67 => ?_)))))))))))))))))
   ·refine z2 (z2 (z2 (z2 (zG (zq (aj rfl rfl) (za rfl (zk (W.sub (zc 8 rfl (zc 11 rfl (zc 0 rfl (zc 4 rfl (zc 5 rfl (zc 6 rfl (zc 9 rfl (zc 10 rfl aI)))))))) (W.seq (zr (zm rfl (zq (Q.not rfl rfl) (zk (az rfl (zw (zr (zm rfl (za rfl (zk ?_)))))))))))))))))))
    refine am (zm rfl (zm rfl (zm rfl (zm rfl (zq (ci dk kb rfl rfl zo) (zq (ap rfl (zt 1 rfl) fW (eH (L := [[119], [100], [104], [109], [115], [109, 115]]) (by simp; omega))) (zq (Q.len bH rfl rfl) (zq (aa rfl rfl rfl zp) (zq (bK bH rfl rfl zo jA) (za rfl (WO.nil (End.KB (End.KL (W.sub zv (ih0 (_) (_) (_) (_) ?_ ?_)))))))))))))))
    ·exact ⟨Bytes.drop hr _, by simp; omega, by omega⟩
    exact (by simp; omega)
   refine zT (zm rfl (zT (zm rfl (zT (zm rfl (zT (zm rfl (zT (zq (ci bc di rfl rfl zo) (zT (zq (ap rfl (zt 0 rfl) bU (gk (A := [604800000, 86400000, 3600000, 60000, 1000, 1]) (by simp; omega))) (zT (zq (aa rfl rfl rfl (jH rfl)) (zT (zq (aa rfl rfl rfl (fY rfl)) (zT (zq (aa rfl (zi 2147483648) rfl (aV (cp _ _))) (zq (ax rfl rfl) (za rfl (zk (W.sub (zc 8 rfl (zc 11 rfl (zc 0 rfl (zc 4 rfl (zc 5 rfl (zc 6 rfl (zc 9 rfl (zc 10 rfl aI)))))))) (W.seq (zr ?_)))))))))))))))))))))))
   refine zm rfl (zq (Q.not rfl oK) (zk (aw rfl (fun hc79 => ?_) (fun hc79 => ?_))))
   ·refine am (zm rfl (zm rfl (zm rfl (zm rfl (zq (ci bc di rfl rfl zo) (zq (ap rfl (zt 0 rfl) bU (gk (A := [604800000, 86400000, 3600000, 60000, 1000, 1]) (by simp; omega))) (zq (aa rfl rfl rfl (jH rfl)) (zq (aa rfl rfl rfl (fY rfl)) (za rfl (zk (zr (zm rfl (za rfl (zk (am (zm rfl (zm rfl (zm rfl (zm rfl (zq (ci dk kb rfl rfl zo) (zq (ap rfl (zt 1 rfl) fW (eH (L := [[119], [100], [104], [109], [115], [109, 115]]) (by simp; omega))) (zq (Q.len bH rfl rfl) (zq (aa rfl rfl rfl zp) ?_)))))))))))))))))))))))
    refine zq (bK bH rfl rfl zo jA) (za rfl (WO.nil (End.KB (End.KL (W.sub zv (ih0 (_) (_) (_) (_) ?_ ?_))))))
    ·exact ⟨Bytes.drop hr _, by simp; omega, by omega⟩
    exact (by simp; omega)
   refine zw (zr (zm rfl (za rfl (zk (am (zm rfl (zm rfl (zm rfl (zm rfl (zq (ci dk kb rfl rfl zo) (zq (ap rfl (zt 1 rfl) fW (eH (L := [[119], [100], [104], [109], [115], [109, 115]]) (by simp; omega))) (zq (Q.len bH rfl rfl) (zq (aa rfl rfl rfl zp) (zq (bK bH rfl rfl zo jA) (za rfl (WO.nil (End.KB (End.KL (W.sub zv (ih0 (_) (_) (_) (_) ?_ ?_))))))))))))))))))))
   ·exact ⟨Bytes.drop hr _, by simp; omega, by omega⟩
   exact (by simp; omega)
  refine z2 (z2 (zq (ax rfl rfl) (zk (az rfl (W.exit (aC (aK (aB (End.K (W.seq (zr (zm rfl (zq (aa rfl (zi 0) rfl (ag aA)) (zm rfl (ay (d := 45) rfl (fun hc45 => ?_) (fun hc45 => ?_))))))))))))))))
  ·refine z2 (zG (zq (aj rfl rfl) (zk (W.sub (zc 49 rfl (zc 0 rfl (zc 4 rfl (zc 5 rfl (zc 6 rfl (zc 7 rfl (zc 8 rfl (zc 9 rfl (zc 10 rfl aI))))))))) (au rfl (zr (za (zi 0) (za (zi 14) (zk (W.ret (ac (ad (bE (ad (ac (af (ResL.tmp rfl (z1 rfl)) ?_))))))))))))))))
   exact ⟨_, _, rfl⟩
  refine zT (zm rfl (zT (WO.indexB hr bH rfl (zi 0) zo rfl (fun c47 hd47 hb47 => zT (zq (aa rfl (zu 48) rfl (ag aA)) (zq (ax rfl rfl) (zk (W.sub (zc 49 rfl (zc 0 rfl (zc 4 rfl (zc 5 rfl (zc 6 rfl (zc 7 rfl (zc 8 rfl (zc 9 rfl (zc 10 rfl aI))))))))) (aw rfl (fun hc49 => ?_) (fun hc49 => ?_))))))))))
  ·refine zr (za (zi 0) (za (zi 14) (zk (W.ret (ac (ad (bE (ad (ac (af (ResL.tmp rfl (z1 rfl)) ?_))))))))))
   exact ⟨_, _, rfl⟩
  refine zw (zr (zm rfl (zm rfl (zq (bK bH rfl rfl zo jA) (WO.callE rfl (aD rfl oz) rfl (rN _ (Bytes.drop hr _) zo) SubR.nil rfl (fun v53 hP53 => ?_))))))
  obtain ⟨u53, rfl, hu53, hv53⟩ := hP53
  refine za rfl (zk (W.seq (zr (zm rfl (zm rfl (zq (aa rfl rfl rfl (dT ir)) (zk (aw rfl (fun hc56 => ?_) (fun hc56 => ?_)))))))))
  ·refine zr (za (zi 0) (za (zi 14) (zk (W.sub (zc 3 rfl (zc 2 rfl aI)) (W.ret (ac (ad (bE (ad (ac (af (ResL.tmp rfl (z1 rfl)) ?_)))))))))))
   exact ⟨_, _, rfl⟩
  obtain ⟨w, rfl⟩ : ∃ w : Nat, u53 = (w : Int) := ⟨u53.toNat, by omega⟩
  have hw := hv53 zy
  have hw6 : w < 6 := zy
  have hul : GH w <= r.length - k := (by have := hw.2; simpa using this)
  have hnl := Dr hw6
  have hzp := Di hw6
  refine zw (zr (zm rfl (zm rfl (WO.split (d := 58) rfl (fun hc58 => ?_) (fun hc58 => ?_)))))
  ·refine z2 (z2 (z2 (zG (zq (aj rfl rfl) (zm rfl (z2 (z2 (z2 (z2 (zG (zq (aj rfl rfl) (za rfl (zk (W.sub (zc 8 rfl (zc 11 rfl (zc 0 rfl (zc 4 rfl (zc 5 rfl (zc 6 rfl (zc 9 rfl (zc 10 rfl aI)))))))) (W.seq (zr ?_))))))))))))))))
   refine zm rfl (zq (Q.not rfl rfl) (zk (az rfl (zw (zr (zm rfl (za rfl (zk (am (zm rfl (zm rfl (zm rfl (zm rfl (zq (ci dk kb rfl rfl zo) (zq (ap rfl (zt 1 rfl) fW (eH (L := [[119], [100], [104], [109], [115], [109, 115]]) (by simp; omega))) (zq (Q.len bH rfl rfl) (zq (aa rfl rfl rfl zp) (zq (bK bH rfl rfl zo jA) (za rfl (WO.nil (End.KB (End.KL (W.sub zv (ih0 (_) (_) (_) (_) ?_ ?_))))))))))))))))))))))))
   ·exact ⟨Bytes.drop hr _, by simp; omega, by omega⟩
   exact (by simp; omega)
  refine zT (zm rfl (zT (zm rfl (zT (zm rfl (zT (zq (ci bc di rfl rfl zo) (zT (zq (ap rfl (zt 0 rfl) bU (gk (A := [604800000, 86400000, 3600000, 60000, 1000, 1]) (by simp; omega))) (zT (zq (aa (zi 2147483648) rfl rfl (o4 zo rfl)) (zT (zq (aa rfl rfl rfl (aV (cp _ _))) (zq (ax rfl rfl) (zm rfl (ay (d := 67) rfl (fun hc67 => ?_) (fun hc67 => ?_)))))))))))))))))
  ·refine z2 (z2 (z2 (z2 (zG (zq (aj rfl rfl) (za rfl (zk (W.sub (zc 8 rfl (zc 11 rfl (zc 0 rfl (zc 4 rfl (zc 5 rfl (zc 6 rfl (zc 9 rfl (zc 10 rfl aI)))))))) (W.seq (zr (zm rfl (zq (Q.not rfl rfl) (zk (az rfl (zw (zr (zm rfl (za rfl (zk ?_)))))))))))))))))))
   refine am (zm rfl (zm rfl (zm rfl (zm rfl (zq (ci dk kb rfl rfl zo) (zq (ap rfl (zt 1 rfl) fW (eH (L := [[119], [100], [104], [109], [115], [109, 115]]) (by simp; omega))) (zq (Q.len bH rfl rfl) (zq (aa rfl rfl rfl zp) (zq (bK bH rfl rfl zo jA) (za rfl (WO.nil (End.KB (End.KL (W.sub zv (ih0 (_) (_) (_) (_) ?_ ?_)))))))))))))))
   ·exact ⟨Bytes.drop hr _, by simp; omega, by omega⟩
   exact (by simp; omega)
  refine zT (zm rfl (zT (zm rfl (zT (zm rfl (zT (zm rfl (zT (zq (ci bc di rfl rfl zo) (zT (zq (ap rfl (zt 0 rfl) bU (gk (A := [604800000, 86400000, 3600000, 60000, 1000, 1]) (by simp; omega))) (zT (zq (aa rfl rfl rfl (jH rfl)) (zT (zq (aa rfl rfl rfl (fY rfl)) (zT (zq (aa rfl (zi 2147483648) rfl (aV (cp _ _))) (zq (ax rfl rfl) (za rfl (zk (W.sub (zc 8 rfl (zc 11 rfl (zc 0 rfl (zc 4 rfl (zc 5 rfl (zc 6 rfl (zc 9 rfl (zc 10 rfl aI)))))))) (W.seq (zr ?_)))))))))))))))))))))))
  refine zm rfl (zq (Q.not rfl oK) (zk (aw rfl (fun hc79 => ?_) (fun hc79 => ?_))))
  ·refine am (zm rfl (zm rfl (zm rfl (zm rfl (zq (ci bc di rfl rfl zo) (zq (ap rfl (zt 0 rfl) bU (gk (A := [604800000, 86400000, 3600000, 60000, 1000, 1]) (by simp; omega))) (zq (aa rfl rfl rfl (jH rfl)) (zq (aa rfl rfl rfl (fY rfl)) (za rfl (zk (zr (zm rfl (za rfl (zk (am (zm rfl (zm rfl (zm rfl (zm rfl (zq (ci dk kb rfl rfl zo) (zq (ap rfl (zt 1 rfl) fW (eH (L := [[119], [100], [104], [109], [115], [109, 115]]) (by simp; omega))) (zq (Q.len bH rfl rfl) (zq (aa rfl rfl rfl zp) ?_)))))))))))))))))))))))
   refine zq (bK bH rfl rfl zo jA) (za rfl (WO.nil (End.KB (End.KL (W.sub zv (ih0 (_) (_) (_) (_) ?_ ?_))))))
   ·exact ⟨Bytes.drop hr _, by simp; omega, by omega⟩
   exact (by simp; omega)
  refine zw (zr (zm rfl (za rfl (zk (am (zm rfl (zm rfl (zm rfl (zm rfl (zq (ci dk kb rfl rfl zo) (zq (ap rfl (zt 1 rfl) fW (eH (L := [[119], [100], [104], [109], [115], [109, 115]]) (by simp; omega))) (zq (Q.len bH rfl rfl) (zq (aa rfl rfl rfl zp) (zq (bK bH rfl rfl zo jA) (za rfl (WO.nil (End.KB (End.KL (W.sub zv (ih0 (_) (_) (_) (_) ?_ ?_))))))))))))))))))))
  ·exact ⟨Bytes.drop hr _, by simp; omega, by omega⟩
  exact (by simp; omega)
 refine W.exit (aC (aK (aB (End.K (W.seq (zr (zm rfl (zk (aE rfl (fun hc98 => ?_) (fun hc98 => ?_))))))))))
 ·refine zr (za (zi 0) (za (zi 11) (zk (W.ret (ac (af (ResL.tmp rfl (z1 rfl)) ?_))))))
  exact ⟨_, _, rfl⟩
 refine zw (zr (zm rfl (za rfl (za (zi 0) (zk (W.ret (af (ResL.tmp rfl (z1 rfl)) ?_)))))))
 exact ⟨_, _, rfl⟩

theorem pI (c : Nat) (hc : c < 256) : Spec aN 124 [.int .u8 ((c : Nat) : Int)] [] [] (fJ (.int .i64 (np c))) := by
 refine av (cX 124 Tryz.func124) rfl (m := 22) rfl (rs := [.tmp 2]) rfl (st := [(0, .int .u8 ((c : Nat) : Int))]) rfl rfl (fun _ => rfl) (fun E => zr (za (zi 0) (zk (W.seq (zr (zm rfl (zq (aa rfl (zu 48) rfl (cy bZ)) (zm rfl (ay (d := 5) rfl (fun hc5 => ?_) (fun hc5 => ?_))))))))))
 ·refine zT (zm rfl (zT (zq (aa rfl (zu 57) rfl (dT bZ)) (zq (aj rfl rfl) (zk (aw rfl (fun hc8 => ?_) (fun hc8 => ?_)))))))
  ·refine zr (zm rfl (zq (jC AE DB rfl (qM zo)) (zq (aa rfl (zi 48) rfl (cT (vf zo))) (za rfl (zk (W.ret (ac (ae (z1 rfl) ?_))))))))
   exact congrArg (AV.int .i64) (by simp only [np]; (repeat' split) <;> omega)
  refine zw (W.seq (zr (zm rfl (zq (aa rfl (zu 97) rfl (cy bZ)) (zm rfl (ay (d := 14) rfl (fun hc14 => ?_) (fun hc14 => ?_)))))))
  ·refine zT (zm rfl (zT (zq (aa rfl (zu 102) rfl (dT bZ)) (zq (aj rfl rfl) (zk (aw rfl (fun hc17 => ?_) (fun hc17 => ?_)))))))
   ·refine zr (zm rfl (zq (jC AE DB rfl (qM zo)) (zq (aa rfl (zi 97) rfl (cT (vf zo))) (zq (aa rfl (zi 10) rfl zp) (za rfl (zk (W.sub (zc 2 rfl aI) (W.ret (ac (ae (z1 rfl) ?_))))))))))
    exact congrArg (AV.int .i64) (by simp only [np]; (repeat' split) <;> omega)
   refine zw (W.sub aI (zr (za rfl (zk (W.ret (ae (z1 rfl) ?_))))))
   exact congrArg (AV.int .i64) (by simp only [np]; (repeat' split) <;> omega)
  refine z2 (zq (ax rfl rfl) (zk (az rfl (zw (W.sub aI (zr (za rfl (zk (W.ret (ae (z1 rfl) ?_))))))))))
  exact congrArg (AV.int .i64) (by simp only [np]; (repeat' split) <;> omega)
 refine z2 (zq (ax rfl rfl) (zk (az rfl (zw (W.seq (zr (zm rfl (zq (aa rfl (zu 97) rfl (cy bZ)) (zm rfl (ay (d := 14) rfl (fun hc14 => ?_) (fun hc14 => ?_)))))))))))
 ·refine zT (zm rfl (zT (zq (aa rfl (zu 102) rfl (dT bZ)) (zq (aj rfl rfl) (zk (aw rfl (fun hc17 => ?_) (fun hc17 => ?_)))))))
  ·refine zr (zm rfl (zq (jC AE DB rfl (qM zo)) (zq (aa rfl (zi 97) rfl (cT (vf zo))) (zq (aa rfl (zi 10) rfl zp) (za rfl (zk (W.sub (zc 2 rfl aI) (W.ret (ac (ae (z1 rfl) ?_))))))))))
   exact congrArg (AV.int .i64) (by simp only [np]; (repeat' split) <;> omega)
  refine zw (W.sub aI (zr (za rfl (zk (W.ret (ae (z1 rfl) ?_))))))
  exact congrArg (AV.int .i64) (by simp only [np]; (repeat' split) <;> omega)
 refine z2 (zq (ax rfl rfl) (zk (az rfl (zw (W.sub aI (zr (za rfl (zk (W.ret (ae (z1 rfl) ?_))))))))))
 exact congrArg (AV.int .i64) (by simp only [np]; (repeat' split) <;> omega)
end Go.Proofs.YtndhhgbpcmfeiaaGreatDoor.Ev.P16
