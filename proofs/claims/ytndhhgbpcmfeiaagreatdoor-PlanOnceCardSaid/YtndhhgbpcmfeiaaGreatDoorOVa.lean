/- Chapter 17, walks: the document's tokens, as far as their shapes. -/
import Derived.Test.YtndhhgbpcmfeiaaGreatDoorOV9
namespace Go.Proofs.YtndhhgbpcmfeiaaGreatDoor.Ev.P16
open Go.RowKit
set_option maxRecDepth 100000
set_option maxHeartbeats 1000000
def Hw (s : List Nat) (i : Nat) (v : AV) : Prop :=
 ∃ (z : Nat) (t : List Nat) (n a : Int) (k : Nat) (e : Int), v = .tuple [.agg [.int .i64 (z : Int), .str t, .int .i64 n, .int .i64 a], .int .i64 (k : Int), .int .i64 e] /\ Bytes t /\ t.length <= 1024 /\ (e = 0 -> i < k /\ k <= s.length)
abbrev dS := Nat × List Nat × Int × Int
def lH (x : dS) : List AV := [.int .i64 ((x.1 : Nat) : Int), .str x.2.1, .int .i64 x.2.2.1, .int .i64 x.2.2.2]
def bO (l : List dS) : List AV := l.flatMap lH
def uI (v : AV) (D : ak) : Prop :=
 (∃ a e : Int, e ≠ 0 /\ v = .tuple [.nils, .int .i64 a, .int .i64 e] /\ D = []) \/
 ∃ (b : Nat) (ex : Bool) (acc : List dS) (a : Int), v = .tuple [.slice b 0 (acc.length + 1) 4, .int .i64 0, .int .i64 0] /\
  D = [⟨b, ⟨4, ex, bO acc ++ [.int .i64 ((6 : Nat) : Int), .str [], .int .i64 0, .int .i64 a]⟩, true⟩] /\ (∀ x ∈ acc, Bytes x.2.1 /\ x.2.1.length <= 1024) /\ acc.length <= 1024
theorem th {a e : Int} (h : e ≠ 0) : uI (ah [.nils, .int .i64 a, .int .i64 e]) [] := .inl ⟨a, e, h, rfl, rfl⟩
theorem C0 {b : Nat} {ex : Bool} {acc : List dS} {a : Int} (h : ∀ x ∈ acc, Bytes x.2.1 /\ x.2.1.length <= 1024) (hl : acc.length <= 1024) :
  uI (ah [.slice b 0 (acc.length + 1) 4, .int .i64 0, .int .i64 0]) [⟨b, ⟨4, ex, bO acc ++ [.int .i64 ((6 : Nat) : Int), .str [], .int .i64 0, .int .i64 a]⟩, true⟩] := .inr ⟨b, ex, acc, a, rfl, rfl, h, hl⟩
theorem s5 (s : List Nat) (hs : Bytes s) (hl : s.length <= 1024) (i : Nat) (hi : i < s.length) (hdg : zh (s.getD i 0) = true) : Spec aN 86 [.str s, .int .i64 ((i : Nat) : Int)] [] [] (eQ (Hw s i)) := by
 refine av (cX 86 Tryz.func86) rfl (m := 68) rfl (rs := [.cell 4 67, .tmp 5, .tmp 6]) rfl (st := [(0, .str s), (1, .int .i64 ((i : Nat) : Int))]) rfl rfl (fun _ => rfl) (fun E => zr (WO.alloc mV rfl (fun b1 => za (zi 0) (za (zi 0) (zk (zr (zm rfl (za rfl (zk (de (fun (k : Nat) => [(0, .str s), (1, .int .i64 ((i : Nat) : Int)), (4, .ptr b1 0), (7, .int .i64 ((k : Nat) : Int))]) (fun (k : Nat) => i < k /\ k <= s.length) (fun k hI4 => ?_) (fun hJ4 => ?_)))))))))))
 ·obtain ⟨h1, h2⟩ := hI4
  refine zr (zm rfl (zm rfl (zm rfl (zq (bK bH rfl rfl zo rfl) (za rfl (zk (zr (zm rfl (WO.callE rfl (aD rfl oz) rfl (BP _ (Bytes.take (Bytes.drop hs _) _) zo) SubR.nil rfl (fun v42 hP42 => ?_))))))))))
  obtain ⟨a42, e42, rfl⟩ := hP42
  refine zm rfl (zq (Q.extract rfl rfl) (zq (Q.extract rfl rfl) (za rfl (za rfl (zk (W.seq (zr (zm rfl (zq (aa rfl (zi 0) rfl (ag bj)) (zm rfl (ay (d := 47) rfl (fun hc47 => ?_) (fun hc47 => ?_))))))))))))
  ·refine z2 (zq (aj rfl rfl) (zk (W.sub (zc 50 rfl (zc 10 rfl (zc 9 rfl (zc 8 rfl (zc 1 rfl (zc 4 rfl (zc 7 rfl aI))))))) (au rfl (zr (zm rfl (zm rfl (zm rfl (zq (Q.build qJ (bz (zi 2) (bz rfl (bz rfl (bz rfl aq)))) rfl (cs := [_, _, _, _]) rfl) (zm rfl (zm rfl (WO.store dj rfl rfl (i := 0) rfl rfl (cs := [_, _, _, _]) rfl (hs' := [_]) rfl (za rfl (za rfl (zk (W.ret (ac (af (ResL.agg (c := [_, _, _, _]) rfl (zt 0 rfl) i6 dj rfl (ResL.tmp rfl (z1 rfl))) ?_))))))))))))))))))
   exact ⟨_, _, _, _, _, _, rfl, Bytes.take (Bytes.drop hs _) _, by first | omega | (simp at * <;> omega), fun _ => ⟨h1, h2⟩⟩
  refine zT (zm rfl (zT (zq (aa rfl (zi 11) rfl (ag bj)) (zq (ax rfl rfl) (zk (W.sub (zc 50 rfl (zc 10 rfl (zc 9 rfl (zc 8 rfl (zc 1 rfl (zc 4 rfl (zc 7 rfl aI))))))) (aw rfl (fun hc50 => ?_) (fun hc50 => ?_))))))))
  ·refine zr (zm rfl (zm rfl (zm rfl (zq (Q.build qJ (bz (zi 2) (bz rfl (bz rfl (bz rfl aq)))) rfl (cs := [_, _, _, _]) rfl) (zm rfl (zm rfl (WO.store dj rfl rfl (i := 0) rfl rfl (cs := [_, _, _, _]) rfl (hs' := [_]) rfl (za rfl (za rfl (zk (W.ret (ac (af (ResL.agg (c := [_, _, _, _]) rfl (zt 0 rfl) i6 dj rfl (ResL.tmp rfl (z1 rfl))) ?_)))))))))))))
   exact ⟨_, _, _, _, _, _, rfl, Bytes.take (Bytes.drop hs _) _, by first | omega | (simp at * <;> omega), fun _ => ⟨h1, h2⟩⟩
  refine zw (zr (zm rfl (WO.callE rfl (aD rfl oz) rfl (Bx _ (Bytes.take (Bytes.drop hs _) _) zo) SubR.nil rfl (fun v59 hP59 => ?_))))
  obtain ⟨a59, e59, rfl⟩ := hP59
  refine zm rfl (zq (Q.extract rfl rfl) (zq (Q.extract rfl rfl) (za rfl (za rfl (zk (zr (zm rfl (zm rfl (zm rfl (zq (Q.build qJ (bz (zi 3) (bz rfl (bz rfl (bz rfl aq)))) rfl (cs := [_, _, _, _]) rfl) (zm rfl (zm rfl (WO.store dj rfl rfl (i := 0) rfl rfl (cs := [_, _, _, _]) rfl (hs' := [_]) rfl (za rfl (za rfl (zk (W.sub (zc 6 rfl (zc 5 rfl (zc 4 rfl aI))) (W.ret (af (ResL.agg (c := [_, _, _, _]) rfl (zt 0 rfl) i6 dj rfl (ResL.tmp rfl (z1 rfl))) ?_)))))))))))))))))))
  exact ⟨_, _, _, _, _, _, rfl, Bytes.take (Bytes.drop hs _) _, by first | omega | (simp at * <;> omega), fun _ => ⟨h1, h2⟩⟩
 refine W.block (aM (fun (k : Nat) => [(0, .str s), (1, .int .i64 ((i : Nat) : Int)), (4, .ptr b1 0), (7, .int .i64 ((k : Nat) : Int))]) (fun _ => _) (fun (k : Nat) => i <= k /\ k <= s.length) (fun (k : Nat) => s.length - k) (i) ⟨Nat.le_refl _, by omega⟩ zv (SubH.refl _) (fun k hI0 ih0 => ?_))
 obtain ⟨h1, h2⟩ := hI0
 refine W.seq (zr (zm rfl (zm rfl (zq (Q.len bH rfl rfl) (zq (aa rfl rfl rfl (ec dM)) (zm rfl (ay (d := 16) rfl (fun hc16 => ?_) (fun hc16 => ?_))))))))
 ·refine zT (zm rfl (zT (zm rfl (zT (WO.indexB hs bH rfl rfl zo rfl (fun c19 hd19 hb19 => zT (aJ rfl (aD rfl oz) rfl (jO _ (by assumption)) SubR.nil rfl (zT (zm rfl (WO.split (d := 21) rfl (fun hc21 => ?_) (fun hc21 => ?_)))))))))))
  ·refine z2 (z2 (zT (zq (aj rfl rfl) (zT (zm rfl (z2 (z2 (zT (zq (aj rfl rfl) (zq (aj rfl rfl) (zk (W.sub (zc 33 rfl (zc 0 rfl (zc 1 rfl (zc 4 rfl (zc 7 rfl aI))))) (au rfl (zw (W.block (am (zm rfl (zq (aa rfl (zi 1) rfl zp) (za rfl ?_)))))))))))))))))))
   refine WO.nil (End.KB (End.KL (W.sub zv (ih0 (k + 1) ?_ ?_))))
   ·exact ⟨by omega, by omega⟩
   exact zo
  refine zT (zm rfl (zT (zm rfl (zT (WO.indexB hs bH rfl rfl zo rfl (fun c24 hd24 hb24 => zT (aJ rfl (aD rfl oz) rfl (ky _ (by assumption)) SubR.nil rfl (zT (zq (ax rfl rfl) (zT (zm rfl (WO.split (d := 27) rfl (fun hc27 => ?_) (fun hc27 => ?_)))))))))))))
  ·refine z2 (z2 (zT (zq (aj rfl rfl) (zq (aj rfl rfl) (zk (W.sub (zc 33 rfl (zc 0 rfl (zc 1 rfl (zc 4 rfl (zc 7 rfl aI))))) (au rfl (zw (W.block (am (zm rfl (zq (aa rfl (zi 1) rfl zp) (za rfl (WO.nil (End.KB (End.KL (W.sub zv (ih0 (k + 1) ?_ ?_))))))))))))))))))
   ·exact ⟨by omega, by omega⟩
   exact zo
  refine zT (zm rfl (zT (zm rfl (zT (WO.indexB hs bH rfl rfl zo rfl (fun c30 hd30 hb30 => zT (zq (aa rfl (zu 46) rfl (ag aA)) (zT (zq (ax rfl rfl) (zq (aj rfl rfl) (zk (W.sub (zc 33 rfl (zc 0 rfl (zc 1 rfl (zc 4 rfl (zc 7 rfl aI))))) (aw rfl (fun hc33 => ?_) (fun hc33 => ?_))))))))))))))
  ·refine zw (W.block (am (zm rfl (zq (aa rfl (zi 1) rfl zp) (za rfl (WO.nil (End.KB (End.KL (W.sub zv (ih0 (k + 1) ?_ ?_))))))))))
   ·exact ⟨by omega, by omega⟩
   exact zo
  have hik : i < k := (by rcases Nat.lt_or_ge i k with g | g; exact g; exfalso; have e : k = i := zy; subst e; first | omega | (simp_all; done))
  refine W.exit (aC (aK (aB (End.K (W.sub zv (hJ4 (k) ?_))))))
  exact ⟨hik, h2⟩
 have hik : i < k := (by rcases Nat.lt_or_ge i k with g | g; exact g; exfalso; have e : k = i := zy; subst e; first | omega | (simp_all; done))
 refine z2 (z2 (zG (WO.gF rfl rfl (.inr rfl) rfl (WO.gF rfl rfl (.inr rfl) rfl (WO.gF rfl rfl (.inr rfl) rfl (WO.gF rfl rfl (.inr rfl) rfl (z2 (WO.gF rfl rfl (.inr rfl) rfl (WO.gF rfl rfl (.inr rfl) rfl (WO.gF rfl rfl (.inr rfl) rfl (WO.gF rfl rfl (.inr rfl) rfl (zG (zq (ax rfl rfl) (zk (W.sub (zc 33 rfl (zc 0 rfl (zc 1 rfl (zc 4 rfl (zc 7 rfl aI))))) (az rfl (W.exit (aC (aK (aB (End.K (W.sub zv (hJ4 (k) ?_)))))))))))))))))))))))
 exact ⟨hik, h2⟩

theorem wP (s : List Nat) (hs : Bytes s) (hl : s.length <= 1024) (i : Nat) (hi : i < s.length) : Spec aN 55 [.str s, .int .i64 ((i : Nat) : Int)] [] [] (eQ (Hw s i)) := by
 refine av (cX 55 Tryz.func55) rfl (m := 96) rfl (rs := [.cell 4 67, .tmp 5, .tmp 6]) rfl (st := [(0, .str s), (1, .int .i64 ((i : Nat) : Int))]) rfl rfl (fun _ => rfl) (fun E => zr (WO.alloc mV rfl (fun b1 => za (zi 0) (za (zi 0) (zk (W.seq (W.block (zr (zm rfl (zm rfl (WO.indexB hs bH rfl rfl zo rfl (fun c14 hd14 hb14 => aJ rfl (aD rfl oz) rfl (ky _ (by assumption)) SubR.nil rfl (za rfl (zk (aE rfl (fun hc11 => ?_) (fun hc11 => ?_))))))))))))))))
 ·refine zr (zm rfl (za rfl (zk (de (fun (k : Nat) => [(0, .str s), (1, .int .i64 ((i : Nat) : Int)), (4, .ptr b1 0), (7, .int .i64 ((k : Nat) : Int))]) (fun (k : Nat) => i < k /\ k <= s.length) (fun k hI5 => ?_) (fun hJ5 => ?_)))))
  ·obtain ⟨h1, h2⟩ := hI5
   refine zr (zm rfl (zm rfl (zm rfl (zq (bK bH rfl rfl zo rfl) (zm rfl (zq (Q.build qJ (bz (zi 1) (bz rfl (bz rfl aq))) rfl (cs := [_, _, _, _]) rfl) (zm rfl (WO.store dj rfl rfl (i := 0) rfl rfl (cs := [_, _, _, _]) rfl (hs' := [_]) rfl (za rfl (za (zi 0) (zk (W.ret (ad (ac (af (ResL.agg (c := [_, _, _, _]) rfl (zt 0 rfl) i6 dj rfl (ResL.tmp rfl (z1 rfl))) ?_)))))))))))))))
   exact ⟨_, _, _, _, _, _, rfl, Bytes.take (Bytes.drop hs _) _, by first | omega | (simp at * <;> omega), fun _ => ⟨h1, h2⟩⟩
  refine W.block (aM (fun (k : Nat) => [(0, .str s), (1, .int .i64 ((i : Nat) : Int)), (4, .ptr b1 0), (7, .int .i64 ((k : Nat) : Int))]) (fun _ => _) (fun (k : Nat) => i <= k /\ k <= s.length) (fun (k : Nat) => s.length - k) (i) ⟨Nat.le_refl _, by omega⟩ zv (SubH.refl _) (fun k hI0 ih0 => ?_))
  obtain ⟨h1, h2⟩ := hI0
  refine W.seq (zr (zm rfl (zm rfl (zq (Q.len bH rfl rfl) (zq (aa rfl rfl rfl (ec dM)) (zm rfl (ay (d := 21) rfl (fun hc21 => ?_) (fun hc21 => ?_))))))))
  ·refine zT (zm rfl (zT (zm rfl (zT (WO.indexB hs bH rfl rfl zo rfl (fun c24 hd24 hb24 => zT (aJ rfl (aD rfl oz) rfl (ky _ (by assumption)) SubR.nil rfl (zT (zm rfl (WO.split (d := 26) rfl (fun hc26 => ?_) (fun hc26 => ?_)))))))))))
   ·refine z2 (z2 (zT (zq (aj rfl rfl) (zq (aj rfl rfl) (zk (W.sub (zc 32 rfl (zc 0 rfl (zc 1 rfl (zc 4 rfl (zc 7 rfl aI))))) (au rfl (zw (W.block (am (zm rfl (zq (aa rfl (zi 1) rfl zp) (za rfl (WO.nil (End.KB (End.KL (W.sub zv (ih0 (k + 1) ?_ ?_))))))))))))))))))
    ·exact ⟨by omega, by omega⟩
    exact zo
   refine zT (zm rfl (zT (zm rfl (zT (WO.indexB hs bH rfl rfl zo rfl (fun c29 hd29 hb29 => zT (aJ rfl (aD rfl oz) rfl (jO _ (by assumption)) SubR.nil rfl (zT (zq (ax rfl rfl) (zq (aj rfl rfl) (zk (W.sub (zc 32 rfl (zc 0 rfl (zc 1 rfl (zc 4 rfl (zc 7 rfl aI))))) (aE rfl (fun hc32 => ?_) (fun hc32 => ?_))))))))))))))
   ·refine zw (W.block (am (zm rfl (zq (aa rfl (zi 1) rfl zp) (za rfl (WO.nil (End.KB (End.KL (W.sub zv (ih0 (k + 1) ?_ ?_))))))))))
    ·exact ⟨by omega, by omega⟩
    exact zo
   have hik : i < k := (by rcases Nat.lt_or_ge i k with g | g; exact g; exfalso; have e : k = i := zy; subst e; first | omega | (simp_all; done))
   refine W.exit (aC (aK (aB (End.K (W.sub zv (hJ5 (k) ?_))))))
   exact ⟨hik, h2⟩
  have hik : i < k := (by rcases Nat.lt_or_ge i k with g | g; exact g; exfalso; have e : k = i := zy; subst e; first | omega | (simp_all; done))
  refine z2 (z2 (zG (WO.gF rfl rfl (.inr rfl) rfl (WO.gF rfl rfl (.inr rfl) rfl (WO.gF rfl rfl (.inr rfl) rfl (WO.gF rfl rfl (.inr rfl) rfl (zG (zq (ax rfl rfl) (zk (W.sub (zc 32 rfl (zc 0 rfl (zc 1 rfl (zc 4 rfl (zc 7 rfl aI))))) (az rfl (W.exit (aC (aK (aB (End.K (W.sub zv (hJ5 (k) ?_))))))))))))))))))
  exact ⟨hik, h2⟩
 refine zr (zm rfl (zm rfl (WO.indexB hs bH rfl rfl zo rfl (fun c45 hd45 hb45 => aJ rfl (aD rfl oz) rfl (jO _ (by assumption)) SubR.nil rfl (za rfl (zk (aE rfl (fun hc42 => ?_) (fun hc42 => ?_))))))))
 ·refine zr (zm rfl (zm rfl (WO.callE rfl (aD rfl (aD rfl oz)) rfl (s5 s hs hl i zy (by first | exact hc42 | (rw [<- hd45]; first | exact hc42 | exact hc46))) SubR.nil rfl (fun v49 hP49 => ?_))))
  obtain ⟨z, t, n, a, k, e, rfl, htb, htl, hke⟩ := hP49
  refine zq (Q.extract rfl rfl) (zq (Q.extract rfl rfl) (zq (Q.extract rfl rfl) (WO.store dj rfl rfl (i := 0) rfl rfl (cs := [_, _, _, _]) rfl (hs' := [_]) rfl (za rfl (za rfl (zk (W.sub (zc 6 rfl (zc 5 rfl (zc 4 rfl aI))) (W.ret (ad (ac (af (ResL.agg (c := [_, _, _, _]) rfl (zt 0 rfl) i6 dj rfl (ResL.tmp rfl (z1 rfl))) ?_)))))))))))
  exact ⟨_, _, _, _, _, _, rfl, htb, htl, hke⟩
 refine zr (zm rfl (zm rfl (WO.indexB hs bH rfl rfl zo rfl (fun c56 hd56 hb56 => zq (aa rfl (zu 34) rfl (ag aA)) (za rfl (zk (W.sub (zc 53 rfl (zc 4 rfl (zc 0 rfl (zc 1 rfl aI)))) (aw rfl (fun hc53 => ?_) (fun hc53 => ?_)))))))))
 ·refine zr (zm rfl (zm rfl (zq (bK bH rfl rfl zo jA) (WO.callE rfl (aD rfl oz) rfl (Ds _ (Bytes.drop hs _) zo) SubR.nil rfl (fun v62 hP62 => ?_)))))
  obtain ⟨ut, un, rfl, hub, hul, hun⟩ := hP62
  refine zm rfl (zq (Q.extract rfl rfl) (zq (Q.extract rfl rfl) (za rfl (za rfl (zk (W.seq (zr (zm rfl (zq (aa rfl (zi 0) rfl (ag aA)) (zm rfl (ay (d := 67) rfl (fun hc67 => ?_) (fun hc67 => ?_))))))))))))
  ·refine z2 (zG (zq (aj rfl rfl) (zk (W.sub (zc 71 rfl (zc 9 rfl (zc 8 rfl (zc 4 rfl (zc 1 rfl aI))))) (au rfl (zr (zq (Q.build qJ aq rfl (cs := [_, _, _, _]) rfl) (WO.store dj rfl rfl (i := 0) rfl rfl (cs := [_, _, _, _]) rfl (hs' := [_]) rfl (za (zi 0) (za (zi 14) (zk (W.ret (ac (ad (ac (af (ResL.agg (c := [_, _, _, _]) rfl (zt 0 rfl) i6 dj rfl (ResL.tmp rfl (z1 rfl))) ?_))))))))))))))))
   exact ⟨0, [], 0, 0, 0, 14, rfl, by intro c h; simp at h, by simp, fun h => absurd h (by decide)⟩
  refine zT (zm rfl (zT (zq (Q.len bH rfl rfl) (zT (zq (aa rfl (zi 64) rfl (aV dM)) (zq (ax rfl rfl) (zk (W.sub (zc 71 rfl (zc 9 rfl (zc 8 rfl (zc 4 rfl (zc 1 rfl aI))))) (aw rfl (fun hc71 => ?_) (fun hc71 => ?_))))))))))
  ·refine zr (zq (Q.build qJ aq rfl (cs := [_, _, _, _]) rfl) (WO.store dj rfl rfl (i := 0) rfl rfl (cs := [_, _, _, _]) rfl (hs' := [_]) rfl (za (zi 0) (za (zi 14) (zk (W.ret (ac (ad (ac (af (ResL.agg (c := [_, _, _, _]) rfl (zt 0 rfl) i6 dj rfl (ResL.tmp rfl (z1 rfl))) ?_))))))))))
   exact ⟨0, [], 0, 0, 0, 14, rfl, by intro c h; simp at h, by simp, fun h => absurd h (by decide)⟩
  refine zw (zr (zm rfl (zm rfl (zq (Q.build qJ (bz (zi 4) (bz rfl (bz rfl aq))) rfl (cs := [_, _, _, _]) rfl) (zm rfl (zm rfl (zq (aa rfl rfl rfl zp) (WO.store dj rfl rfl (i := 0) rfl rfl (cs := [_, _, _, _]) rfl (hs' := [_]) rfl (za rfl (za (zi 0) (zk (W.ret (ad (ac (af (ResL.agg (c := [_, _, _, _]) rfl (zt 0 rfl) i6 dj rfl (ResL.tmp rfl (z1 rfl))) ?_)))))))))))))))
  exact ⟨_, _, _, _, _, _, rfl, hub, by first | omega | (simp at * <;> omega), fun _ => ⟨by omega, by simp at hun; omega⟩⟩
 refine W.skip (End.KB (End.K (zr (zm rfl (zm rfl (WO.callE rfl (aD rfl (aD rfl oz)) rfl (Ab s hs hl i zy) SubR.nil rfl (fun v81 hP81 => ?_)))))))
 obtain ⟨m, rfl, hm1, hm2⟩ := hP81
 refine za rfl (zk (W.seq (zr (zm rfl (zq (aa rfl (zi 0) rfl (ag aA)) (zk (aw rfl (fun hc83 => ?_) (fun hc83 => ?_))))))))
 ·refine zr (zq (Q.build qJ aq rfl (cs := [_, _, _, _]) rfl) (WO.store dj rfl rfl (i := 0) rfl rfl (cs := [_, _, _, _]) rfl (hs' := [_]) rfl (za (zi 0) (za (zi 14) (zk (W.ret (ac (af (ResL.agg (c := [_, _, _, _]) rfl (zt 0 rfl) i6 dj rfl (ResL.tmp rfl (z1 rfl))) ?_))))))))
  exact ⟨0, [], 0, 0, 0, 14, rfl, by intro c h; simp at h, by simp, fun h => absurd h (by decide)⟩
 refine zw (zr (zm rfl (zm rfl (zm rfl (zm rfl (zq (aa rfl rfl rfl zp) (zq (bK bH rfl rfl zo rfl) (zm rfl (zq (Q.build qJ (bz (zi 5) (bz rfl (bz rfl aq))) rfl (cs := [_, _, _, _]) rfl) (zm rfl (zm rfl (zq (aa rfl rfl rfl zp) (WO.store dj rfl rfl (i := 0) rfl rfl (cs := [_, _, _, _]) rfl (hs' := [_]) rfl (za rfl (za (zi 0) (zk (W.sub (zc 6 rfl (zc 5 rfl (zc 4 rfl aI))) (W.ret (af (ResL.agg (c := [_, _, _, _]) rfl (zt 0 rfl) i6 dj rfl (ResL.tmp rfl (z1 rfl))) ?_)))))))))))))))))))
 exact ⟨_, _, _, _, _, _, rfl, Bytes.take (Bytes.drop hs _) _, by first | omega | (simp at * <;> omega), fun _ => ⟨by omega, by omega⟩⟩

theorem Ap (s : List Nat) (hs : Bytes s) (hl : s.length <= 1048576) : Spec aN 30 [.str s] [] [] (uI) := by
 refine av (cX 30 Tryz.func30) rfl (m := 42) rfl (rs := [.tmp 2, .tmp 3, .tmp 4]) rfl (st := [(0, .str s)]) rfl rfl (fun _ => rfl) (fun E => zr (za rfl (za (zi 0) (za (zi 0) (zk (W.seq (zr (zm rfl (zq (Q.len bH rfl rfl) (zq (aa rfl (zi 1024) rfl (aV dM)) (zk (aw rfl (fun hc12 => ?_) (fun hc12 => ?_)))))))))))))
 ·refine zr (za rfl (za (zi 0) (za (zi 3) (zk (W.ret ?_)))))
  refine ac (End.ret (ResL.tmp rfl (ResL.tmp rfl (z1 rfl))) (th (by decide)) (fun e h => j9 h) (SubH.nil _))
 refine zw (zr (za rfl (zk (zr (zm rfl (WO.callE rfl (aD rfl (aD (zi 0) oz)) rfl (oZ s hs zy _ zy) SubR.nil rfl (fun v14 hP14 => ?_)))))))
 obtain ⟨k14, rfl, hg14, hk14⟩ := hP14
 refine za rfl (zk (W.seq (W.block (gt (fun (i : Nat) (acc : List dS) (v : AV) (hp : ak) => [(0, .str s), (5, v), (6, .int .i64 ((i : Nat) : Int))]) (fun (i : Nat) (acc : List dS) (v : AV) (hp : ak) => hp) (fun (i : Nat) (acc : List dS) (v : AV) (hp : ak) => i <= s.length /\ acc.length <= i /\ (∀ x ∈ acc, Bytes x.2.1 /\ x.2.1.length <= 1024) /\ Own 4 (bO acc) acc.length v hp) (fun (i : Nat) (acc : List dS) (v : AV) (hp : ak) => s.length - i) (k14) ([]) (.nils) ([]) ⟨by omega, by simp, by simp, Own.nil 4⟩ zv (SubH.refl _) (fun i acc v hp hI0 ih0 => ?_)))))
 obtain ⟨h1, hla, hB, hO⟩ := hI0
 refine W.seq (zr (zm rfl (zm rfl (zq (Q.len bH rfl rfl) (zq (aa rfl rfl rfl (ec dM)) (zk (aw rfl (fun hc18 => ?_) (fun hc18 => ?_))))))))
 ·refine zw (W.block (zr (zm rfl (zm rfl (WO.callE rfl (aD rfl (aD rfl oz)) rfl (wP s hs zy _ zy) SubR.nil rfl (fun v22 hP22 => ?_))))))
  obtain ⟨z, t, n, a, k, e, rfl, htb, htl, hke⟩ := hP22
  refine zm rfl (zq (Q.extract rfl rfl) (zq (Q.extract rfl rfl) (zq (Q.extract rfl rfl) (WO.alloc mV rfl (fun b1 => WO.store dj rfl rfl (i := 0) rfl rfl (cs := [_, _, _, _]) rfl (hs' := _ :: _) rfl (za rfl (za rfl (zk (W.seq (zr (zm rfl (zq (aa rfl (zi 0) rfl (aR cP)) (zk (aw rfl (fun hc27 => ?_) (fun hc27 => ?_)))))))))))))))
  ·refine zr (zm rfl (zm rfl (za rfl (za rfl (za rfl (zk (W.sub (zc 4 rfl (zc 3 rfl (zc 2 rfl aI))) (W.ret ?_))))))))
   refine ac (ad (bE (ad (ac (End.ret (ResL.tmp rfl (ResL.tmp rfl (z1 rfl))) (th (by first | exact hc27 | omega)) (fun e h => j9 h) (SubH.nil _))))))
  have he0 : e = 0 := zy
  have hkk := hke he0
  refine zw (W.sub (zc 8 rfl (zc 7 rfl (zc 0 rfl (zc 5 rfl aI)))) (zr (zm rfl (zq (aU rfl (zt 0 rfl) i6 dj (l := [_, _, _, _]) rfl) (WO.bslice uV dj HA rfl (bz rfl aq) rfl (cs := [_, _, _, _]) rfl rfl rfl (fun b2 => WO.appOwn (e := ⟨b2, _, true⟩) (A := [_]) wZ hO rfl rfl rfl rfl ⟨by first | omega | (simp at * <;> omega), by first | omega | (simp at * <;> omega)⟩ (by decide) rfl rfl (fun v33 hp33 hO33 => za rfl (zk (am (zm rfl (zm rfl (WO.callE rfl (aD rfl (aD rfl oz)) rfl (oZ s hs zy _ zy) SubR.nil rfl (fun v36 hP36 => ?_)))))))))))))
  obtain ⟨k36, rfl, hg36, hk36⟩ := hP36
  refine za rfl (WO.nil (End.KB (End.KL (W.sub zv (bX (SubH.of_sublist (by simp)) (ih0 (k36) (acc ++ [(z, t, n, a)]) (v33) (hp33) ?_ ?_))))))
  ·exact ⟨by omega, by simp; omega, by intro x hx; rcases List.mem_append.1 hx with g | g; exact hB x g; simp at g; subst g; exact ⟨htb, htl⟩, by simpa [bO, lH] using hO33⟩
  exact zo
 refine W.exit (aC (aK (aB (End.K (zr (zm rfl (zm rfl (zq (Q.build qJ (bz (zi 6) (bz rfl aq)) rfl (cs := [_, _, _, _]) rfl) (WO.bslice uV dj HA rfl (bz rfl aq) rfl (cs := [_, _, _, _]) rfl rfl rfl (fun b4 => WO.appOwn (e := ⟨b4, _, true⟩) (A := []) wZ hO rfl rfl rfl rfl ⟨by first | omega | (simp at * <;> omega), by first | omega | (simp at * <;> omega)⟩ (by decide) rfl rfl (fun v41 hp41 hO41 => ?_)))))))))))
 obtain ⟨b41, ex41, rfl, rfl⟩ := hO41.full zy
 refine za rfl (za (zi 0) (za (zi 0) (zk (W.ret ?_))))
 refine End.ret (ResL.tmp rfl (ResL.tmp rfl (z1 rfl))) (hs' := [⟨b41, ⟨4, ex41, bO acc ++ [.int .i64 ((6 : Nat) : Int), .str [], .int .i64 0, .int .i64 ((i : Nat) : Int)]⟩, true⟩]) (C0 hB zy) zW (SubH.of_sublist (by simp))
end Go.Proofs.YtndhhgbpcmfeiaaGreatDoor.Ev.P16
