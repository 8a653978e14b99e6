/- Chapter 8, by the document: matchers, as far as they end. -/
import Derived.Test.YtndhhgbpcmfeiaaGreatDoorOVi
namespace Go.Proofs.YtndhhgbpcmfeiaaGreatDoor.Ev.P16
open Go.RowKit
set_option maxRecDepth 100000
set_option maxHeartbeats 1000000
theorem oA {tb : Tab} {t : Nat} {a b : Bool} (hu : tb.und t = some .bool) : co tb .eql t (.bool a) (.bool b) = some (.bool (a == b)) := by
 show (match fk tb 20 t (.bool a) (.bool b) with | some b => some (AV.bool b) | none => none) = _
 unfold fk
 simp only [hu]
 rfl
abbrev kf := Int × List Nat × List Nat
def mC (x : kf) : List AV := [.int .i64 x.1, .str x.2.1, .str x.2.2]
def rm (l : List kf) : List AV := l.flatMap mC
def mg (M : List kf) (i : Nat) : kf := M.getD i (0, [], [])
theorem pO (t : kf) : (mC t).length = 3 := rfl
theorem pP (t : kf) (L : List kf) : rm (t :: L) = mC t ++ rm L := by simp [rm]
theorem yF : ∀ L : List kf, (rm L).length = L.length * 3
 | [] => rfl
 | t :: L => by rw [pP, List.length_append, pO, yF L, List.length_cons]; omega
theorem yE : ∀ (L : List kf) (i j : Nat), i < L.length -> j < 3 -> (rm L)[i * 3 + j]? = (mC (mg L i))[j]?
 | [], i, j, h, _ => by simp at h
 | t :: L, 0, j, h, hj => by
  rw [pP, List.getElem?_append_left (by rw [pO]; omega)]
  simp [mg]
 | t :: L, i + 1, j, h, hj => by
  rw [pP, List.getElem?_append_right (by rw [pO]; omega), pO]
  have : (i + 1) * 3 + j - 3 = i * 3 + j := by omega
  rw [this, yE L i j (by simpa using h) hj]
  rfl
theorem Hf {L : List kf} {i : Nat} (h : i < L.length) : cn (rm L) ((0 + i) * 3) 3 = some (mC (mg L i)) := by
 unfold cn
 have hle : Nat.ble ((0 + i) * 3 + 3) (rm L).length = true := by rw [yF]; apply Nat.ble_eq.mpr; omega
 simp only [hle]
 congr 1
 apply List.ext_getElem?
 intro j
 rw [List.getElem?_take, List.getElem?_drop]
 split
 ·rename_i hj
  rw [Nat.zero_add, yE L i j h hj]
 ·rw [List.getElem?_eq_none (by rw [pO]; omega)]
def ISm (hs : ak) (M : List kf) (v : AV) : Prop := (v = .nils /\ M = []) \/ ∃ b ex, v = .slice b 0 M.length 3 /\ MemH hs b ⟨3, ex, rm M⟩
theorem sU {hs : ak} {M : List kf} {v : AV} {e : Nat} (h : ISm hs M v) : nx (.slice e) v = some M.length := by
 rcases h with ⟨rfl, rfl⟩ | ⟨b, ex, rfl, _⟩ <;> rfl
theorem uf {hs : ak} {M : List kf} {v : AV} (h : ISm hs M v) (hl : 0 < M.length) : ∃ b ex, v = .slice b 0 M.length 3 /\ MemH hs b ⟨3, ex, rm M⟩ := by
 rcases h with ⟨_, rfl⟩ | h
 ·simp at hl
 ·exact h
def Dw (M : List kf) : Prop := ∀ x ∈ M, Bytes x.2.1 /\ x.2.1.length <= 1048576 /\ Bytes x.2.2 /\ x.2.2.length <= 1048576
theorem Cr {M : List kf} (h : Dw M) {i : Nat} (hi : i < M.length) : Bytes (mg M i).2.1 /\ (mg M i).2.1.length <= 1048576 /\ Bytes (mg M i).2.2 /\ (mg M i).2.2.length <= 1048576 := by
 refine h _ ?_
 unfold mg
 rw [List.getD_eq_getElem?_getD, List.getElem?_eq_getElem hi]
 exact List.getElem_mem hi
theorem ur (s : List Nat) (hs : Bytes s) (hl : s.length <= 1048576) : Spec aN 134 [.str s] [] [] (eQ (fun v => ∃ b : Bool, v = .bool b)) := by
 refine av (cX 134 Tryz.func134) rfl (m := 54) rfl (rs := [.tmp 2]) rfl (st := [(0, .str s)]) rfl rfl (fun _ => rfl) (fun E => zr (za rfl (zk (W.seq (zr (za (zi 0) (zk (W.block (aM (fun (i : Nat) => [(0, .str s), (3, .int .i64 ((i : Nat) : Int))]) (fun _ => _) (fun (i : Nat) => i <= s.length) (fun (i : Nat) => s.length - i) (0) (Nat.zero_le _) zv (SubH.refl _) (fun i hI0 ih0 => ?_))))))))))
 have hi := hI0
 refine W.seq (zr (zm rfl (zm rfl (zq (Q.len bH rfl rfl) (zq (aa rfl rfl rfl (ec dM)) (zk (aw rfl (fun hc9 => ?_) (fun hc9 => ?_))))))))
 ·refine zw (W.seq (W.block (zr (zm rfl (zm rfl (WO.indexB hs bH rfl rfl zo rfl (fun c14 hd14 hb14 => za rfl (zk (de (fun (lt : Bool) => [(0, .str s), (3, .int .i64 ((i : Nat) : Int)), (4, .int .u8 ((c14 : Nat) : Int)), (5, .bool lt)]) (fun (lt : Bool) => True) (fun lt hI6 => ?_) (fun hJ6 => ?_))))))))))
  ·refine zr (zm rfl (zq (Q.not rfl rfl) (zm rfl (WO.split (d := 35) rfl (fun hc35 => ?_) (fun hc35 => ?_)))))
   ·refine zT (zm rfl (zT (zq (aa rfl (zi 0) rfl (ag aA)) (zT (zm rfl (ay (d := 38) rfl (fun hc38 => ?_) (fun hc38 => ?_)))))))
    ·refine z2 (zT (zq (aj rfl rfl) (zT (zm rfl (z2 (zT (zq (aj rfl rfl) (zq (aj rfl rfl) (zk (W.sub (zc 46 rfl (zc 0 rfl (zc 3 rfl aI))) (au rfl (zr (za rfl (zk (W.ret (ad (ac (bE (ad (ac (af (z1 rfl) ?_)))))))))))))))))))))
     exact ⟨_, rfl⟩
    refine zT (zm rfl (zT (zq (aa rfl (zu 48) rfl (ec dM)) (zT (zq (ax rfl rfl) (zT (zm rfl (ay (d := 42) rfl (fun hc42 => ?_) (fun hc42 => ?_)))))))))
    ·refine z2 (zT (zq (aj rfl rfl) (zq (aj rfl rfl) (zk (W.sub (zc 46 rfl (zc 0 rfl (zc 3 rfl aI))) (au rfl (zr (za rfl (zk (W.ret (ad (ac (bE (ad (ac (af (z1 rfl) ?_))))))))))))))))
     exact ⟨_, rfl⟩
    refine zT (zm rfl (zT (zq (aa rfl (zu 57) rfl (aV dM)) (zT (zq (ax rfl rfl) (zq (aj rfl rfl) (zk (W.sub (zc 46 rfl (zc 0 rfl (zc 3 rfl aI))) (aw rfl (fun hc46 => ?_) (fun hc46 => ?_))))))))))
    ·refine zr (za rfl (zk (W.ret (ad (ac (bE (ad (ac (af (z1 rfl) ?_)))))))))
     exact ⟨_, rfl⟩
    refine W.skip (End.KB (End.K (am (zm rfl (zq (aa rfl (zi 1) rfl zp) (za rfl (WO.nil (End.KL (W.sub zv (ih0 (i + 1) ?_ ?_))))))))))
    ·exact zy
    exact zo
   refine z2 (zG (WO.gF rfl rfl (.inr rfl) rfl (WO.gF rfl rfl (.inr rfl) rfl (z2 (WO.gF rfl rfl (.inr rfl) rfl (WO.gF rfl rfl (.inr rfl) rfl (zG (zq (ax rfl rfl) (zk (W.sub (zc 46 rfl (zc 0 rfl (zc 3 rfl aI))) (az rfl (W.skip (End.KB (End.K (am (zm rfl (zq (aa rfl (zi 1) rfl zp) (za rfl (WO.nil (End.KL (W.sub zv (ih0 (i + 1) ?_ ?_))))))))))))))))))))))
   ·exact zy
   exact zo
  refine am (zm rfl (zq (aa rfl (zu 97) rfl (cy bZ)) (zm rfl (ay (d := 17) rfl (fun hc17 => ?_) (fun hc17 => ?_)))))
  ·refine zT (zm rfl (zT (zq (aa rfl (zu 122) rfl (dT bZ)) (zq (aj rfl rfl) (zm rfl (ay (d := 21) rfl (fun hc21 => ?_) (fun hc21 => ?_)))))))
   ·refine z2 (zG (WO.gF rfl rfl (.inr rfl) rfl (WO.gF rfl rfl (.inr rfl) rfl (zG (zq (aj rfl rfl) (zm rfl (z2 (zq (aj rfl rfl) (za rfl (WO.nil (End.K (W.sub zv (hJ6 (_) ?_)))))))))))))
    exact trivial
   refine zT (zm rfl (zT (zq (aa rfl (zu 65) rfl (cy bZ)) (zT (zm rfl (ay (d := 24) rfl (fun hc24 => ?_) (fun hc24 => ?_)))))))
   ·refine zT (zm rfl (zT (zq (aa rfl (zu 90) rfl (dT bZ)) (zT (zq (aj rfl rfl) (zq (ax rfl rfl) (zm rfl (ay (d := 29) rfl (fun hc29 => ?_) (fun hc29 => ?_)))))))))
    ·refine z2 (zq (aj rfl rfl) (za rfl (WO.nil (End.K (W.sub zv (hJ6 (_) ?_))))))
     exact trivial
    refine zT (zm rfl (zT (zq (aa rfl (zu 95) rfl (ag aA)) (zq (ax rfl rfl) (za rfl (WO.nil (End.K (W.sub zv (hJ6 (_) ?_)))))))))
    exact trivial
   refine z2 (zT (zq (ax rfl rfl) (zq (ax rfl rfl) (zm rfl (zT (zm rfl (zT (zq (aa rfl (zu 95) rfl (ag aA)) (zq (ax rfl rfl) (za rfl (WO.nil (End.K (W.sub zv (hJ6 (_) ?_))))))))))))))
   exact trivial
  refine z2 (zq (ax rfl rfl) (zm rfl (zT (zm rfl (zT (zq (aa rfl (zu 65) rfl (cy bZ)) (zT (zm rfl (ay (d := 24) rfl (fun hc24 => ?_) (fun hc24 => ?_))))))))))
  ·refine zT (zm rfl (zT (zq (aa rfl (zu 90) rfl (dT bZ)) (zT (zq (aj rfl rfl) (zq (ax rfl rfl) (zm rfl (ay (d := 29) rfl (fun hc29 => ?_) (fun hc29 => ?_)))))))))
   ·refine z2 (zq (aj rfl rfl) (za rfl (WO.nil (End.K (W.sub zv (hJ6 (_) ?_))))))
    exact trivial
   refine zT (zm rfl (zT (zq (aa rfl (zu 95) rfl (ag aA)) (zq (ax rfl rfl) (za rfl (WO.nil (End.K (W.sub zv (hJ6 (_) ?_)))))))))
   exact trivial
  refine z2 (zT (zq (ax rfl rfl) (zq (ax rfl rfl) (zm rfl (zT (zm rfl (zT (zq (aa rfl (zu 95) rfl (ag aA)) (zq (ax rfl rfl) (za rfl (WO.nil (End.K (W.sub zv (hJ6 (_) ?_))))))))))))))
  exact trivial
 refine W.exit (aC (aK (aB (End.K (zr (zm rfl (zq (aa rfl (oc (v := .str []) (by kernel_rfl)) rfl iK) (zm rfl (ay (d := 49) rfl (fun hc49 => ?_) (fun hc49 => ?_))))))))))
 ·refine zT (zm rfl (zT (zq (Q.len bH rfl rfl) (zT (zq (aa rfl (zi 32) rfl (dT bZ)) (zq (aj rfl rfl) (za rfl (zk (W.ret (af (z1 rfl) ?_))))))))))
  exact ⟨_, rfl⟩
 refine z2 (zG (zq (ax rfl rfl) (za rfl (zk (W.ret (af (z1 rfl) ?_))))))
 exact ⟨_, rfl⟩

theorem BR (s : List Nat) (hs : Bytes s) : Spec aN 194 [.nils, .str s] [] [] (fJ (.str [])) := by
 refine av (cX 194 Tryz.func194) rfl (m := 24) rfl (rs := [.tmp 4]) rfl (st := [(0, .nils), (1, .str s)]) rfl rfl (fun _ => rfl) (fun E => zr (zq (Q.assign (oc (v := .str []) (by kernel_rfl))) (zk (W.seq (zr (za (zi 0) (zk (W.block (W.loop (W.seq (zr (zm rfl (zm rfl (zq (Q.len Hy rfl rfl) (zq (aa rfl rfl rfl (ec (p := false) rfl)) (zk (az rfl (W.exit (aC (aK (aB (End.K (zr (zq (Q.assign (oc (v := .str []) (by kernel_rfl))) (zk (W.ret ?_))))))))))))))))))))))))))
 refine ae (z1 rfl) ?_
 rfl

theorem kV (k : Int) (n u : List Nat) (hn : Bytes n) (hu : Bytes u) (hnl : n.length <= 1048576) (hul : u.length <= 1048576) : Spec aN 172 [.agg [.int .i64 k, .str n, .str u]] [] [] (eQ (fun v => ∃ x : Int, v = .int .i64 x)) := by
 refine av (cX 172 Tryz.func172) rfl (m := 25) rfl (rs := [.tmp 2]) rfl (st := [(0, .agg [.int .i64 k, .str n, .str u])]) rfl rfl (fun _ => rfl) (fun E => zr (WO.box rfl rfl (G0 _ rfl) rfl (fun b1 => za (zi 0) (zk (W.seq (zr (zf ku rfl 0 (zq (ap rfl (zt 0 rfl) bU rfl) (zq (aa rfl (zi 1) rfl (ec (cp _ _))) (zm rfl (ay (d := 6) rfl (fun hc6 => ?_) (fun hc6 => ?_))))))))))))
 ·refine z2 (zG (zq (aj rfl rfl) (zk (au rfl (zr (za (zi 2) (zk (W.ret (ac (af (z1 rfl) ?_))))))))))
  exact ⟨_, rfl⟩
 refine zT (zf ku rfl 0 (zT (zq (ap rfl (zt 0 rfl) bU rfl) (zT (zq (aa rfl (zi 4) rfl (aV (cp _ _))) (zq (ax rfl rfl) (zk (aw rfl (fun hc10 => ?_) (fun hc10 => ?_)))))))))
 ·refine zr (za (zi 2) (zk (W.ret (ac (af (z1 rfl) ?_)))))
  exact ⟨_, rfl⟩
 refine zw (W.seq (zr (zf BK rfl 1 (zq (ap rfl (zt 0 rfl) fW rfl) (WO.callE rfl (aD rfl oz) rfl (ur _ hn zy) SubR.nil rfl (fun v13 hP13 => ?_))))))
 obtain ⟨nb, rfl⟩ := hP13
 refine zq (Q.not rfl rfl) (zk (aE rfl (fun hc14 => ?_) (fun hc14 => ?_)))
 ·refine zr (za (zi 8) (zk (W.sub (zc 2 rfl aI) (W.ret (ac (af (z1 rfl) ?_))))))
  exact ⟨_, rfl⟩
 refine zw (W.sub (zc 1 rfl aI) (W.seq (zr (zf nc rfl 2 (zq (ap rfl (zt 0 rfl) fW rfl) (zq (Q.len bH rfl rfl) (zq (aa rfl (zi 64) rfl (aV dM)) (zk (aw rfl (fun hc18 => ?_) (fun hc18 => ?_))))))))))
 ·refine zr (za (zi 3) (zk (W.ret (ac (af (z1 rfl) ?_)))))
  exact ⟨_, rfl⟩
 refine zw (W.seq (zr (zf ku rfl 0 (zq (ap rfl (zt 0 rfl) bU rfl) (zq (aa rfl (zi 2) rfl (aV (cp _ _))) (zk (aw rfl (fun hc21 => ?_) (fun hc21 => ?_))))))))
 ·refine zr (zf nc rfl 2 (zq (ap rfl (zt 0 rfl) fW rfl) (WO.callE rfl (aD rfl oz) rfl (n6 _ hu zy) SubR.nil rfl (fun v24 hP24 => ?_))))
  obtain ⟨x24, rfl, hx24⟩ := hP24
  refine za rfl (zk (W.ret (ac (af (z1 rfl) ?_))))
  exact ⟨_, rfl⟩
 refine zw (zr (za (zi 0) (zk (W.ret (af (z1 rfl) ?_)))))
 exact ⟨_, rfl⟩

theorem wf (k : Int) (n u : List Nat) (hn : Bytes n) (hu : Bytes u) (hnl : n.length <= 1048576) (hul : u.length <= 1048576) : Spec aN 186 [.agg [.int .i64 k, .str n, .str u], .nils] [] [] (eQ (fun v => ∃ b : Bool, v = .bool b)) := by
 refine av (cX 186 Tryz.func186) rfl (m := 38) rfl (rs := [.tmp 4]) rfl (st := [(0, .agg [.int .i64 k, .str n, .str u]), (1, .nils)]) rfl rfl (fun _ => rfl) (fun E => zr (WO.box rfl rfl (G0 _ rfl) rfl (fun b1 => za rfl (zk (W.seq (zr (zq (aU rfl (zt 0 rfl) iE eA (l := [_, _, _]) rfl) (WO.callE rfl (aD rfl oz) rfl (kV _ _ _ hn hu zy zy) SubR.nil rfl (fun v9 hP9 => ?_)))))))))
 obtain ⟨y9, rfl⟩ := hP9
 refine zq (aa rfl (zi 0) rfl (aR cP)) (zk (aw rfl (fun hc10 => ?_) (fun hc10 => ?_)))
 ·refine zr (za rfl (zk (W.ret (ac (af (z1 rfl) ?_)))))
  exact ⟨_, rfl⟩
 refine zw (zr (zm rfl (zf BK rfl 1 (zq (ap rfl (zt 0 rfl) fW rfl) (aJ rfl (aD rfl (aD rfl oz)) rfl (BR _ hn) SubR.nil rfl (za rfl (zk (W.seq (zr (zf ku rfl 0 (zq (ap rfl (zt 0 rfl) bU rfl) (zq (aa rfl (zi 3) rfl (ec (cp _ _))) (zk (aw rfl (fun hc17 => ?_) (fun hc17 => ?_)))))))))))))))
 ·refine zr (zm rfl (zf nc rfl 2 (zq (ap rfl (zt 0 rfl) fW rfl) (zq (aa rfl rfl rfl aH) (zf ku rfl 0 (zq (ap rfl (zt 0 rfl) bU rfl) (zq (aa rfl (zi 1) rfl (ag bj)) (zq (aa rfl rfl rfl (oA GG)) (za rfl (zk (W.sub (zc 4 rfl aI) (W.ret (ac (af (z1 rfl) ?_))))))))))))))
  exact ⟨_, rfl⟩
 refine zw (zr (zf nc rfl 2 (zq (ap rfl (zt 0 rfl) fW rfl) (zm rfl (WO.callE rfl (aD rfl (aD rfl oz)) rfl (wG _ hu zy) SubR.nil rfl (fun v30 hP30 => ?_))))))
 obtain ⟨fb, fe, rfl⟩ := hP30
 refine zm rfl (zq (Q.extract rfl rfl) (zq (Q.extract rfl rfl) (za rfl (za rfl (zk (W.sub (zc 6 rfl (zc 2 rfl aI)) (zr (zm rfl (zf ku rfl 0 (zq (ap rfl (zt 0 rfl) bU rfl) (zq (aa rfl (zi 3) rfl (ag bj)) (zq (aa rfl rfl rfl (oA GG)) (za rfl (zk (W.ret (af (z1 rfl) ?_))))))))))))))))
 exact ⟨_, rfl⟩

theorem zZ (hs : ak) (hro : ∀ e ∈ hs, e.w = false) (M : List kf) (v : AV) (hM : ISm hs M v) (hok : Dw M) (hML : M.length <= 1048576) : Spec aN 173 [v, .nils] [] hs (eQ (fun v => ∃ b : Bool, v = .bool b)) := by
 refine av (cX 173 Tryz.func173) rfl (m := 19) rfl (rs := [.tmp 4]) rfl (st := [(0, v), (1, .nils)]) rfl rfl (fun _ => rfl) (fun E => zr (za rfl (zk (W.seq (zr (za (zi 0) (zk (W.block (aM (fun (i : Nat) => [(0, v), (1, .nils), (5, .int .i64 ((i : Nat) : Int))]) (fun _ => _) (fun (i : Nat) => i <= M.length) (fun (i : Nat) => M.length - i) (0) (Nat.zero_le _) zv (SubH.refl _) (fun i hI0 ih0 => ?_))))))))))
 have hi := hI0
 refine W.seq (zr (zm rfl (zm rfl (zq (Q.len jh rfl (sU hM)) (zq (aa rfl rfl rfl (ec dM)) (zk (aw rfl (fun hc9 => ?_) (fun hc9 => ?_))))))))
 ·obtain ⟨bm, exm, rfl, wm, mm⟩ := uf hM zy
  have hx := Cr hok (i := i) zy
  obtain ⟨hx1, hx2, hx3, hx4⟩ := id hx
  refine zw (W.seq (W.block (zr (zm rfl (zm rfl (zq (ci jh eA rfl rfl zo) (zq (aU rfl mm iE eA (Hf zy)) (zm rfl (WO.callE rfl (aD rfl (aD rfl oz)) rfl (wf _ _ _ hx.1 hx.2.2.1 zy zy) SubR.nil rfl (fun v17 hP17 => ?_))))))))))
  obtain ⟨mb, rfl⟩ := hP17
  refine zq (Q.not rfl rfl) (zk (aE rfl (fun hc18 => ?_) (fun hc18 => ?_)))
  ·refine zr (za rfl (zk (W.sub (zc 4 rfl aI) (W.ret (ad (ac (bE (ad (ac (af (z1 rfl) ?_))))))))))
   exact ⟨_, rfl⟩
  refine W.skip (End.KB (End.K (am (zm rfl (zq (aa rfl (zi 1) rfl zp) (za rfl (WO.nil (End.KL (W.sub zv (ih0 (i + 1) ?_ ?_))))))))))
  ·exact zy
  exact zo
 refine W.exit (aC (aK (aB (End.K (zr (za rfl (zk (W.ret (af (z1 rfl) ?_)))))))))
 exact ⟨_, rfl⟩

theorem Ci (hs : ak) (hro : ∀ e ∈ hs, e.w = false) (M : List kf) (v : AV) (hM : ISm hs M v) (hok : Dw M) (hML : M.length <= 1048576) : Spec aN 151 [v] [] hs (eQ (fun v => ∃ x : Int, v = .int .i64 x)) := by
 refine av (cX 151 Tryz.func151) rfl (m := 24) rfl (rs := [.tmp 2]) rfl (st := [(0, v)]) rfl rfl (fun _ => rfl) (fun E => zr (za (zi 0) (zk (W.seq (zr (zm rfl (zq (Q.len jh rfl (sU hM)) (zq (aa rfl (zi 8) rfl (aV dM)) (zk (aw rfl (fun hc7 => ?_) (fun hc7 => ?_)))))))))))
 ·refine zr (za (zi 3) (zk (W.ret (ac (af (z1 rfl) ?_)))))
  exact ⟨_, rfl⟩
 refine zw (W.seq (zr (za (zi 0) (zk (W.block (aM (fun (i : Nat) => [(0, v), (3, .int .i64 ((i : Nat) : Int))]) (fun _ => _) (fun (i : Nat) => i <= M.length) (fun (i : Nat) => M.length - i) (0) (Nat.zero_le _) zv (SubH.refl _) (fun i hI0 ih0 => ?_)))))))
 have hi := hI0
 refine W.seq (zr (zm rfl (zm rfl (zq (Q.len jh rfl (sU hM)) (zq (aa rfl rfl rfl (ec dM)) (zk (aw rfl (fun hc11 => ?_) (fun hc11 => ?_))))))))
 ·obtain ⟨bm, exm, rfl, wm, mm⟩ := uf hM zy
  have hx := Cr hok (i := i) zy
  obtain ⟨hx1, hx2, hx3, hx4⟩ := id hx
  refine zw (W.seq (W.block (zr (zm rfl (zm rfl (zq (ci jh eA rfl rfl zo) (zq (aU rfl mm iE eA (Hf zy)) (WO.callE rfl (aD rfl oz) rfl (kV _ _ _ hx.1 hx.2.2.1 zy zy) SubR.nil rfl (fun v18 hP18 => ?_)))))))))
  obtain ⟨y18, rfl⟩ := hP18
  refine za rfl (zk (zr (zm rfl (zq (aa rfl (zi 0) rfl (aR cP)) (zk (aw rfl (fun hc20 => ?_) (fun hc20 => ?_)))))))
  ·refine zr (zm rfl (za rfl (zk (W.sub (zc 2 rfl aI) (W.ret (ad (ac (bE (ad (ac (af (z1 rfl) ?_)))))))))))
   exact ⟨_, rfl⟩
  refine W.skip (End.KB (End.K (am (zm rfl (zq (aa rfl (zi 1) rfl zp) (za rfl (WO.nil (End.KL (W.sub zv (ih0 (i + 1) ?_ ?_))))))))))
  ·exact zy
  exact zo
 refine W.exit (aC (aK (aB (End.K (W.seq (zr (zm rfl (WO.callE rfl (aD rfl (aD rfl oz)) rfl (zZ hs hro M _ hM hok hML) (cw hro) rfl (fun v23 hP23 => ?_)))))))))
 obtain ⟨ab, rfl⟩ := hP23
 refine zk (aE rfl (fun hc23 => ?_) (fun hc23 => ?_))
 ·refine zr (za (zi 2) (zk (W.ret (ac (af (z1 rfl) ?_)))))
  exact ⟨_, rfl⟩
 refine zw (zr (za (zi 0) (zk (W.ret (af (z1 rfl) ?_)))))
 exact ⟨_, rfl⟩
def tg (M : List dS) (i : Nat) : dS := M.getD i (0, [], 0, 0)
theorem kJ (t : dS) : (lH t).length = 4 := rfl
theorem lI (t : dS) (L : List dS) : bO (t :: L) = lH t ++ bO L := by simp [bO]
theorem rJ : ∀ L : List dS, (bO L).length = L.length * 4
 | [] => rfl
 | t :: L => by rw [lI, List.length_append, kJ, rJ L, List.length_cons]; omega
theorem rI : ∀ (L : List dS) (i j : Nat), i < L.length -> j < 4 -> (bO L)[i * 4 + j]? = (lH (tg L i))[j]?
 | [], i, j, h, _ => by simp at h
 | t :: L, 0, j, h, hj => by
  rw [lI, List.getElem?_append_left (by rw [kJ]; omega)]
  simp [tg]
 | t :: L, i + 1, j, h, hj => by
  rw [lI, List.getElem?_append_right (by rw [kJ]; omega), kJ]
  have : (i + 1) * 4 + j - 4 = i * 4 + j := by omega
  rw [this, rI L i j (by simpa using h) hj]
  rfl
theorem GF {L : List dS} {i : Nat} (h : i < L.length) : cn (bO L) ((0 + i) * 4) 4 = some (lH (tg L i)) := by
 unfold cn
 have hle : Nat.ble ((0 + i) * 4 + 4) (bO L).length = true := by rw [rJ]; apply Nat.ble_eq.mpr; omega
 simp only [hle]
 congr 1
 apply List.ext_getElem?
 intro j
 rw [List.getElem?_take, List.getElem?_drop]
 split
 ·rename_i hj
  rw [Nat.zero_add, rI L i j h hj]
 ·rw [List.getElem?_eq_none (by rw [kJ]; omega)]
theorem SubR.two {bx bt : Nat} {ox ot : AObj} {w w' : Bool} {A : ak} : SubR [⟨bx, ox, false⟩, ⟨bt, ot, false⟩] (⟨bx, ox, w⟩ :: ⟨bt, ot, w'⟩ :: A) := by
 refine ⟨fun e he => ?_, fun hn => ?_⟩
 ·rcases List.mem_cons.1 he with rfl | he
  ·exact ⟨rfl, w, List.mem_cons_self⟩
  ·rcases List.mem_cons.1 he with rfl | he
   ·exact ⟨rfl, w', List.mem_cons_of_mem _ List.mem_cons_self⟩
   ·simp at he
 ·simp only [List.map_cons, List.nodup_cons, List.mem_cons, not_or] at hn
  simp only [List.map_cons, List.map_nil, List.nodup_cons, List.mem_cons, List.not_mem_nil, or_false, not_false_eq_true, List.nodup_nil, and_true]
  exact hn.1.1
theorem SubR.pair {bx bt i j : Nat} {ox ot : AObj} {w w' : Bool} {hs : ak} (h1 : hs[i]? = some ⟨bx, ox, w⟩) (h2 : hs[j]? = some ⟨bt, ot, w'⟩) (hij : i ≠ j) : SubR [⟨bx, ox, false⟩, ⟨bt, ot, false⟩] hs := by
 refine ⟨fun e he => ?_, fun hn => ?_⟩
 ·rcases List.mem_cons.1 he with rfl | he
  ·exact ⟨rfl, w, List.mem_of_getElem? h1⟩
  ·rcases List.mem_cons.1 he with rfl | he
   ·exact ⟨rfl, w', List.mem_of_getElem? h2⟩
   ·simp at he
 ·have e1 : (hs.map (·.b))[i]? = some bx := by rw [List.getElem?_map, h1]; rfl
  have e2 : (hs.map (·.b))[j]? = some bt := by rw [List.getElem?_map, h2]; rfl
  have hne : bx ≠ bt := by
   intro e
   have hi : i < (hs.map (·.b)).length := (List.getElem?_eq_some_iff.1 e1).1
   exact hij ((List.getElem?_inj hi hn).1 (by rw [e1, e2, e]))
  simp only [List.map_cons, List.map_nil, List.nodup_cons, List.mem_cons, List.not_mem_nil, or_false, not_false_eq_true, List.nodup_nil, and_true]
  exact hne
def En (e : Int) (t : dS) (s : List Nat) : Bool := decide (e = 0) && (decide (t.1 = 1) || decide (t.1 = 5)) && decide (t.2.1 = s)
@[simp] theorem HK {t : dS} : fy cW (lH t) (lH t) = true := by simp [lH, fy, cW]
theorem gL {e : Int} {t : dS} {s : List Nat} (h : En e t s = true) : e = 0 /\ (t.1 = 1 \/ t.1 = 5) /\ t.2.1 = s := by
 unfold En at h
 simp only [Bool.and_eq_true, Bool.or_eq_true, decide_eq_true_eq] at h
 exact ⟨h.1.1, h.1.2, h.2⟩
theorem aY {toks : List dS} {n a : Nat} (h : (tg toks n).1 = 6) (ha : a <= n) (g : (tg toks a).1 ≠ 6) : a < n := by
 rcases Nat.lt_or_ge a n with h1 | h1
 ·exact h1
 ·have e : a = n := by omega
  subst e
  exact absurd h g
def jm (M : List dS) : Prop := ∀ x ∈ M, Bytes x.2.1 /\ x.2.1.length <= 1024
theorem cQ {M : List dS} (h : jm M) {i : Nat} (hi : i < M.length) : Bytes (tg M i).2.1 /\ (tg M i).2.1.length <= 1024 := by
 refine h _ ?_
 unfold tg
 rw [List.getD_eq_getElem?_getD, List.getElem?_eq_getElem hi]
 exact List.getElem_mem hi
theorem ct (toks : List dS) (n : Nat) (hn : toks.length = n + 1) (hnl : n <= 1048576) (hok : jm toks) (tb : Nat) (ex : Bool) (X a : Nat) (ha : a <= n) (dp e bd : Int) : Spec aN 32 [.ptr X 0] [] [pB X tb n a dp e bd false, ⟨tb, ⟨4, ex, bO toks⟩, false⟩] (fJ (.agg (lH (tg toks a)))) := by
 refine av (cX 32 Tryz.func32) rfl (m := 20) rfl (rs := [.cell 2 67]) rfl (st := [(0, .ptr X 0)]) rfl rfl (fun _ => rfl) (fun E => zr (WO.alloc mV rfl (fun b1 => zk (W.seq (dz (by kernel_rfl) (zm rfl (zq (aF rfl) (zf na rfl 0 (zq (ap rfl (zt 1 rfl) y5 rfl) (zm rfl (zq (aF rfl) (zf aZ rfl 1 (zq (ap rfl (zt 1 rfl) bU rfl) (zm rfl (zq (aF rfl) (zf na rfl 0 (zq (ap rfl (zt 1 rfl) y5 rfl) (zq (Q.len uV rfl rfl) (zq (aa rfl (zi 1) rfl (cT (vf zo))) (zq (oQ false (aD rfl (aD rfl oz)) Cq) (zq (ci uV dj rfl rfl zo) (zq (aU rfl (zt 2 rfl) i6 dj (GF zy)) (WO.store dj rfl rfl (i := 0) rfl rfl (cs := [_, _, _, _]) rfl (hs' := [_, _, _]) rfl ?_)))))))))))))))))))))))
 refine zk (W.sub (zc 2 rfl aI) (W.ret (ae (ResL.agg (c := [_, _, _, _]) rfl (zt 0 rfl) i6 dj rfl ResL.nil) ?_)))
 (have e : min a (n + 1 - 1) = a := zy; simp only [e]; rfl)

theorem cu (toks : List dS) (n : Nat) (hn : toks.length = n + 1) (hnl : n <= 1048576) (hok : jm toks) (tb : Nat) (ex : Bool) (X a : Nat) (ha : a <= n) (dp e bd : Int) (s : List Nat) (hs : Bytes s) : Spec aN 59 [.ptr X 0, .str s] [] [pB X tb n a dp e bd false, ⟨tb, ⟨4, ex, bO toks⟩, false⟩] (fJ (.bool (En e (tg toks a) s))) := by
 refine av (cX 59 Tryz.func59) rfl (m := 29) rfl (rs := [.tmp 4]) rfl (st := [(0, .ptr X 0), (1, .str s)]) rfl rfl (fun _ => rfl) (fun E => zr (za rfl (zk (zr (zm rfl (aJ rfl (aD rfl oz) rfl (ct toks n hn hnl hok tb ex X a ha dp e bd) SubR.two rfl (WO.alloc mV rfl (fun b1 => WO.store dj rfl rfl (i := 0) rfl rfl (cs := [_, _, _, _]) rfl (hs' := [_, _, _]) rfl (zk (zr (zm rfl (zq (aF rfl) (zf dB rfl 3 (zq (ap rfl (zt 1 rfl) bU rfl) (zq (aa rfl (zi 0) rfl (ag bj)) (zm rfl (ay (d := 13) rfl (fun hc13 => ?_) (fun hc13 => ?_))))))))))))))))))
 ·refine zT (zf io rfl 0 (zT (zq (ap rfl (zt 0 rfl) bU rfl) (zT (zq (aa rfl (zi 1) rfl (ag aA)) (zT (zm rfl (ay (d := 17) rfl (fun hc17 => ?_) (fun hc17 => ?_)))))))))
  ·refine z2 (zG (zT (zq (aj rfl rfl) (zq (aj rfl rfl) (zm rfl (zT (zf dX rfl 1 (zT (zq (ap rfl (zt 0 rfl) fW rfl) (zT (zm rfl (zT (zq (aa rfl rfl rfl aH) (zq (aj rfl rfl) (za rfl (zk (W.sub (zc 4 rfl aI) (W.ret (ae (z1 rfl) ?_)))))))))))))))))))
   exact cF (by simp_all [En])
  refine zT (zf io rfl 0 (zT (zq (ap rfl (zt 0 rfl) bU rfl) (zT (zq (aa rfl (zi 5) rfl (ag aA)) (zT (zq (ax rfl rfl) (zq (aj rfl rfl) (zm rfl (ay (d := 23) rfl (fun hc23 => ?_) (fun hc23 => ?_)))))))))))
  ·refine zT (zf dX rfl 1 (zT (zq (ap rfl (zt 0 rfl) fW rfl) (zT (zm rfl (zT (zq (aa rfl rfl rfl aH) (zq (aj rfl rfl) (za rfl (zk (W.sub (zc 4 rfl aI) (W.ret (ae (z1 rfl) ?_)))))))))))))
   exact cF (by simp_all [En])
  refine z2 (z2 (zq (ax rfl rfl) (za rfl (zk (W.sub (zc 4 rfl aI) (W.ret (ae (z1 rfl) ?_)))))))
  exact cF (by simp_all [En])
 refine z2 (z2 (WO.gF rfl rfl (.inr rfl) rfl (WO.gF rfl rfl (.inr rfl) rfl (WO.gF rfl rfl (.inr rfl) rfl (zG (zq (ax rfl rfl) (zm rfl (z2 (z2 (zq (ax rfl rfl) (za rfl (zk (W.sub (zc 4 rfl aI) (W.ret (ae (z1 rfl) ?_)))))))))))))))
 exact cF (by simp_all [En])

theorem da (n tb X a : Nat) (dp e bd er pl : Int) : Spec aN 33 [.ptr X 0, .int .i64 er, .int .i64 pl] [X] [pB X tb n a dp e bd true] (fun v D => v = .tuple [] /\ D = [pB X tb n a dp (if e = 0 then er else e) (if e = 0 then pl else bd) true]) := by
 refine av (cX 33 Tryz.func33) rfl (m := 19) rfl (rs := []) rfl (st := [(0, .ptr X 0), (1, .int .i64 er), (2, .int .i64 pl)]) rfl rfl (fun _ => rfl) (fun E => zr (zm rfl (zq (aF rfl) (zf dB rfl 3 (zq (ap rfl (zt 0 rfl) bU rfl) (zq (aa rfl (zi 0) rfl (ag bj)) (zk (aw rfl (fun hc10 => ?_) (fun hc10 => ?_)))))))))
 ·refine am (zm rfl (zm rfl (zm rfl (zm rfl (zq (aF rfl) (zf dB rfl 3 (lM di rfl rfl (i := 0) rfl rfl rfl (hs' := [_]) rfl (zq (aF rfl) (zf vS rfl 4 (lM di rfl rfl (i := 0) rfl rfl rfl (hs' := [_]) rfl (WO.nil ?_)))))))))))
  refine jj ResL.nil (hs' := [pB X tb n a dp er pl true]) ⟨rfl, by rw [if_pos (by simpa using hc10), if_pos (by simpa using hc10)]⟩ zW (SubH.refl _)
 refine W.skip ?_
 refine jj ResL.nil (hs' := [pB X tb n a dp e bd true]) ⟨rfl, by rw [if_neg (by simpa using hc10), if_neg (by simpa using hc10)]⟩ zW (SubH.refl _)

theorem dD (toks : List dS) (n : Nat) (hn : toks.length = n + 1) (hnl : n <= 1048576) (hok : jm toks) (tb : Nat) (ex : Bool) (X a : Nat) (ha : a <= n) (dp e bd : Int) (hla : (tg toks n).1 = 6) (s : List Nat) (hs : Bytes s) : Spec aN 126 [.ptr X 0, .str s] [X] [pB X tb n a dp e bd true, ⟨tb, ⟨4, ex, bO toks⟩, false⟩] (fun v D => v = .tuple [] /\ ∃ (a2 : Nat) (e2 bd2 : Int), a <= a2 /\ a2 <= n /\ (e ≠ 0 -> e2 = e /\ a2 = a) /\ (e2 = 0 -> e = 0 /\ a < a2) /\ D = [pB X tb n a2 dp e2 bd2 true]) := by
 refine av (cX 126 Tryz.func126) rfl (m := 20) rfl (rs := []) rfl (st := [(0, .ptr X 0), (1, .str s)]) rfl rfl (fun _ => rfl) (fun E => W.seq (zr (zm rfl (zm rfl (aJ rfl (aD rfl (aD rfl oz)) rfl (cu toks n hn hnl hok tb ex X a ha dp e bd _ hs) SubR.two rfl (zq (Q.not rfl rfl) (zk (aE rfl (fun hc7 => ?_) (fun hc7 => ?_)))))))))
 ·refine zr (zm rfl (zm rfl (aJ rfl (aD rfl oz) rfl (ct toks n hn hnl hok tb ex X a ha dp e bd) SubR.two rfl (zq (cm ly rfl rfl) (WO.call1 rfl (aD rfl (aD (zi 14) (aD rfl oz))) rfl (i := 0) rfl (da n tb X a dp e bd _ _) SubR.nil (hs' := [_]) rfl rfl (fun v12 D12 hP12 => ?_))))))
  obtain ⟨rfl, rfl⟩ := hP12
  refine zk (W.ret ?_)
  refine ac (End.ret ResL.nil (hs' := [pB X tb n a dp (if e = 0 then (((14 : Nat) : Int)) else e) (if e = 0 then (tg toks a).2.2.2 else bd) true]) ⟨rfl, a, (if e = 0 then (((14 : Nat) : Int)) else e), (if e = 0 then (tg toks a).2.2.2 else bd), Nat.le_refl _, ha, fun h => ⟨if_neg h, rfl⟩, fun h => (by split at h <;> omega), rfl⟩ zW (SubH.of_sublist (by simp)))
 have hv := gL (by simpa using hc7)
 have hlt : a < n := aY hla ha zy
 refine zw (am (zm rfl (zq (aF rfl) (zf aZ rfl 1 (zq (ap rfl (zt 0 rfl) bU rfl) (zq (aa rfl (zi 1) rfl zp) (zq (aF rfl) (zf aZ rfl 1 (lM di rfl rfl (i := 0) rfl rfl rfl (hs' := [_, _]) rfl (WO.nil ?_))))))))))
 refine jj ResL.nil (hs' := [pB X tb n (a + 1) dp e bd true]) ⟨rfl, a + 1, e, bd, by omega, by omega, fun h => absurd hv.1 h, fun _ => ⟨hv.1, by omega⟩, rfl⟩ zW (SubH.of_sublist (by simp))

theorem gb (toks : List dS) (n : Nat) (hn : toks.length = n + 1) (hnl : n <= 1048576) (hok : jm toks) (tb : Nat) (ex : Bool) (X a : Nat) (ha : a <= n) (dp e bd : Int) (hla : (tg toks n).1 = 6) (kd : Nat) (hkd : kd ≠ 6) : Spec aN 133 [.ptr X 0, .int .i64 ((kd : Nat) : Int)] [X] [pB X tb n a dp e bd true, ⟨tb, ⟨4, ex, bO toks⟩, false⟩] (fun v D => v = .agg (lH (tg toks a)) /\ ∃ (a2 : Nat) (e2 bd2 : Int), a <= a2 /\ a2 <= n /\ (e ≠ 0 -> e2 = e /\ a2 = a) /\ (e2 = 0 -> e = 0 /\ a < a2 /\ (tg toks a).1 = kd) /\ D = [pB X tb n a2 dp e2 bd2 true]) := by
 refine av (cX 133 Tryz.func133) rfl (m := 29) rfl (rs := [.cell 4 67]) rfl (st := [(0, .ptr X 0), (1, .int .i64 ((kd : Nat) : Int))]) rfl rfl (fun _ => rfl) (fun E => zr (WO.alloc mV rfl (fun b1 => zk (zr (zm rfl (aJ rfl (aD rfl oz) rfl (ct toks n hn hnl hok tb ex X a ha dp e bd) (SubR.t SubR.two) rfl (WO.alloc mV rfl (fun b2 => WO.store dj rfl rfl (i := 0) rfl rfl (cs := [_, _, _, _]) rfl (hs' := [_, _, _, _]) rfl (zk (W.seq (zr (zf io rfl 0 (zq (ap rfl (zt 0 rfl) bU rfl) (zm rfl (zq (aa rfl rfl rfl (aR cf)) (zk (aw rfl (fun hc11 => ?_) (fun hc11 => ?_))))))))))))))))))
 ·refine am (zm rfl (zf jR rfl 3 (zq (ap rfl (zt 0 rfl) bU rfl) (WO.call1 rfl (aD rfl (aD (zi 14) (aD rfl oz))) rfl (i := 2) rfl (da n tb X a dp e bd _ _) SubR.nil (hs' := [_, _, _]) rfl rfl (fun v15 D15 hP15 => ?_)))))
  obtain ⟨rfl, rfl⟩ := hP15
  refine zk (W.seq (zr (zm rfl (zq (aF rfl) (zf dB rfl 3 (zq (ap rfl (zt 0 rfl) bU rfl) (zq (aa rfl (zi 0) rfl (ag bj)) (zk (W.sub (zc 20 rfl (zc 5 rfl (zc 4 rfl (zc 0 rfl aI)))) (aw rfl (fun hc20 => ?_) (fun hc20 => ?_)))))))))))
  ·exfalso; split at hc20 <;> omega
  refine zw (zr (zq (aU rfl (zt 1 rfl) i6 dj (l := [_, _, _, _]) rfl) (WO.store dj rfl rfl (i := 2) rfl rfl (cs := [_, _, _, _]) rfl (hs' := [_, _, _, _]) rfl (zk (W.ret ?_)))))
  refine End.ret (ResL.agg (c := [_, _, _, _]) rfl (zt 2 rfl) i6 dj rfl ResL.nil) (hs' := [pB X tb n a dp (if e = 0 then (((14 : Nat) : Int)) else e) (if e = 0 then (tg toks a).2.2.2 else bd) true]) ⟨rfl, a, (if e = 0 then (((14 : Nat) : Int)) else e), (if e = 0 then (tg toks a).2.2.2 else bd), Nat.le_refl _, ha, fun h => ⟨if_neg h, rfl⟩, fun h => (by exfalso; split at h <;> omega), rfl⟩ zW (SubH.of_sublist (by simp))
 refine zw (W.seq (zr (zm rfl (zq (aF rfl) (zf dB rfl 3 (zq (ap rfl (zt 2 rfl) bU rfl) (zq (aa rfl (zi 0) rfl (ag bj)) (zk (aw rfl (fun hc20 => ?_) (fun hc20 => ?_))))))))))
 ·have hlt : a < n := aY hla ha zy
  refine am (zm rfl (zq (aF rfl) (zf aZ rfl 1 (zq (ap rfl (zt 2 rfl) bU rfl) (zq (aa rfl (zi 1) rfl zp) (zq (aF rfl) (zf aZ rfl 1 (lM di rfl rfl (i := 2) rfl rfl rfl (hs' := [_, _, _, _]) rfl (zk (W.sub (zc 5 rfl (zc 4 rfl aI)) (zr (zq (aU rfl (zt 0 rfl) i6 dj (l := [_, _, _, _]) rfl) (WO.store dj rfl rfl (i := 1) rfl rfl (cs := [_, _, _, _]) rfl (hs' := [_, _, _, _]) rfl (zk (W.ret ?_)))))))))))))))
  refine End.ret (ResL.agg (c := [_, _, _, _]) rfl (zt 1 rfl) i6 dj rfl ResL.nil) (hs' := [pB X tb n (a + 1) dp e bd true]) ⟨rfl, a + 1, e, bd, by omega, by omega, fun h => absurd zy h, fun _ => ⟨by omega, by omega, by omega⟩, rfl⟩ zW (SubH.of_sublist (by simp))
 refine zw (zr (zq (aU rfl (zt 0 rfl) i6 dj (l := [_, _, _, _]) rfl) (WO.store dj rfl rfl (i := 1) rfl rfl (cs := [_, _, _, _]) rfl (hs' := [_, _, _, _]) rfl (zk (W.sub (zc 4 rfl aI) (W.ret ?_))))))
 refine End.ret (ResL.agg (c := [_, _, _, _]) rfl (zt 1 rfl) i6 dj rfl ResL.nil) (hs' := [pB X tb n a dp e bd true]) ⟨rfl, a, e, bd, by omega, ha, fun h => ⟨rfl, rfl⟩, fun h => absurd h zy, rfl⟩ zW (SubH.of_sublist (by simp))

theorem lu (n tb X a : Nat) (dp e bd pl : Int) : Spec aN 90 [.ptr X 0, .int .i64 pl] [X] [pB X tb n a dp e bd true] (fun v D => v = .tuple [] /\ ∃ dp2 e2 bd2 : Int, (e ≠ 0 -> e2 = e) /\ (e2 = 0 -> e = 0) /\ D = [pB X tb n a dp2 e2 bd2 true]) := by
 refine av (cX 90 Tryz.func90) rfl (m := 19) rfl (rs := []) rfl (st := [(0, .ptr X 0), (1, .int .i64 pl)]) rfl rfl (fun _ => rfl) (fun E => zr (zm rfl (zq (aF rfl) (zf jQ rfl 2 (zq (ap rfl (zt 0 rfl) bU rfl) (zq (aa rfl (zi 1) rfl (fY rfl)) (zq (aF rfl) (zf jQ rfl 2 (lM di rfl rfl (i := 0) rfl rfl rfl (hs' := [_]) rfl (zk (zr (zm rfl (zq (aF rfl) (zf jQ rfl 2 (zq (ap rfl (zt 0 rfl) bU rfl) (zq (aa rfl (zi 12) rfl (aV (cp _ _))) (zk (aw rfl (fun hc15 => ?_) (fun hc15 => ?_)))))))))))))))))))
 ·refine am (zm rfl (zm rfl (WO.call1 rfl (aD rfl (aD (zi 15) (aD rfl oz))) rfl (i := 0) rfl (da n tb X a _ e bd _ _) SubR.nil (hs' := []) rfl rfl (fun v18 D18 hP18 => ?_))))
  obtain ⟨rfl, rfl⟩ := hP18
  refine WO.nil ?_
  refine jj ResL.nil ⟨rfl, _, _, _, (by intro h; exact if_neg h), (by intro h; split at h <;> omega), rfl⟩ zW (SubH.refl _)
 refine W.skip ?_
 refine jj ResL.nil ⟨rfl, _, _, _, (by intro h; rfl), (by intro h; exact h), rfl⟩ zW (SubH.refl _)

theorem gv (toks : List dS) (n : Nat) (hn : toks.length = n + 1) (hnl : n <= 1048576) (hok : jm toks) (tb : Nat) (ex : Bool) (X a : Nat) (ha : a <= n) (dp e bd : Int) (s : List Nat) (hs : Bytes s) : Spec aN 130 [.ptr X 0, .str s] [] [pB X tb n a dp e bd false, ⟨tb, ⟨4, ex, bO toks⟩, false⟩] (eQ (fun v => ∃ b : Bool, v = .bool b)) := by
 refine av (cX 130 Tryz.func130) rfl (m := 42) rfl (rs := [.tmp 4]) rfl (st := [(0, .ptr X 0), (1, .str s)]) rfl rfl (fun _ => rfl) (fun E => zr (za rfl (zk (W.seq (W.seq (dz (by kernel_rfl) (zm rfl (zq (aF rfl) (zf aZ rfl 1 (zq (ap rfl (zt 0 rfl) bU rfl) (zq (aa rfl (zi 1) rfl zp) (zm rfl (zq (aF rfl) (zf na rfl 0 (zq (ap rfl (zt 0 rfl) y5 rfl) (zq (Q.len uV rfl rfl) (zq (aa rfl rfl rfl (cy bZ)) (zk (aw rfl (fun hc16 => ?_) (fun hc16 => ?_))))))))))))))))))))
 ·refine zr (za rfl (zk (W.ret (ac (af (z1 rfl) ?_)))))
  exact ⟨_, rfl⟩
 refine zw (W.seq (eC 12 _ (by kernel_rfl) (KIn.refl _) (WD.q (Q.move rfl) iF rfl (WD.q (aF rfl) iF rfl (WD.q (Q.fieldAddr na rfl (o' := 0) rfl) iF rfl (WD.q (ap rfl (zt 0 rfl) y5 rfl) HF rfl (WD.q (Q.move rfl) iF rfl (WD.q (aF rfl) iF rfl (WD.q (Q.fieldAddr aZ rfl (o' := 1) rfl) iF rfl (WD.q (ap rfl (zt 0 rfl) bU rfl) kg rfl (WD.q (aa rfl (zi 1) rfl zp) kg rfl (WD.q (ci uV dj rfl rfl zo) iF rfl (WD.q (aU rfl (zt 1 rfl) i6 dj (GF zy)) (by simp [AV.beq, fN, cW, fy]) rfl (WD.alloc mV rfl (KIn.refl _) (fun b1 => WD.store dj rfl rfl (j := 0) rfl rfl (cs := [_, _, _, _]) rfl (hs' := [_, _, _]) rfl (fun h => by cases h) (WD.nil (End.K (W.sub (zc 5 rfl (zc 1 rfl aI)) (zr (zf io rfl 0 (zq (ap rfl (zt 0 rfl) bU rfl) (zq (aa rfl (zi 1) rfl (ag aA)) (zm rfl ?_)))))))))))))))))))))))
 refine ay (d := 31) rfl (fun hc31 => ?_) (fun hc31 => ?_)
 ·refine z2 (zG (zq (aj rfl rfl) (zm rfl (zT (zf dX rfl 1 (zT (zq (ap rfl (zt 0 rfl) fW rfl) (zT (zm rfl (zT (zq (aa rfl rfl rfl aH) (zq (aj rfl rfl) (za rfl (zk (W.sub (zc 4 rfl aI) (W.ret (af (z1 rfl) ?_)))))))))))))))))
  exact ⟨_, rfl⟩
 refine zT (zf io rfl 0 (zT (zq (ap rfl (zt 0 rfl) bU rfl) (zT (zq (aa rfl (zi 5) rfl (ag aA)) (zq (ax rfl rfl) (zm rfl (ay (d := 36) rfl (fun hc36 => ?_) (fun hc36 => ?_)))))))))
 ·refine zT (zf dX rfl 1 (zT (zq (ap rfl (zt 0 rfl) fW rfl) (zT (zm rfl (zT (zq (aa rfl rfl rfl aH) (zq (aj rfl rfl) (za rfl (zk (W.sub (zc 4 rfl aI) (W.ret (af (z1 rfl) ?_)))))))))))))
  exact ⟨_, rfl⟩
 refine z2 (z2 (zq (ax rfl rfl) (za rfl (zk (W.sub (zc 4 rfl aI) (W.ret (af (z1 rfl) ?_)))))))
 exact ⟨_, rfl⟩
end Go.Proofs.YtndhhgbpcmfeiaaGreatDoor.Ev.P16
