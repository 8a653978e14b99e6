/- Chapter 16, by the document: selectors. -/
import Derived.Test.YtndhhgbpcmfeiaaGreatDoorOVq
namespace Go.Proofs.YtndhhgbpcmfeiaaGreatDoor.Ev.P16
open Go.RowKit
set_option maxRecDepth 100000
set_option maxHeartbeats 1000000
noncomputable instance decHE : DecidableEq HE := fun a b => Classical.propDecidable (a = b)
theorem eB : ∀ {a c : ak}, (∀ x, a.count x <= c.count x) -> SubH a c
 | [], c, _ => SubH.nil c
 | x :: a, c, h => by
  have hx : x ∈ c := by
   have h1 := h x
   rw [List.count_cons_self] at h1
   exact List.count_pos_iff.1 zy
  have hp := List.perm_cons_erase hx
  have ih : SubH a (c.erase x) := eB fun y => by
   have h1 := h y
   rw [hp.count_eq y] at h1
   simp only [List.count_cons] at h1
   omega
  refine SubH.trans ⟨fun e he => ?_, fun hn => ?_⟩ (SubH.op hp.symm)
  ·rcases List.mem_cons.1 he with rfl | he
   ·exact List.mem_cons_self
   ·exact List.mem_cons_of_mem _ (ih.1 e he)
  ·simp only [List.map_cons, List.nodup_cons, List.mem_map] at hn ⊢
   exact ⟨fun ⟨y, hy, hb⟩ => hn.1 ⟨y, ih.1 y hy, hb⟩, ih.2 hn.2⟩
section
variable {tb : Tab} {n : Nat} {E : Env} {s : St} {hs : ak} {a b : Code} {Q : Ex -> T AV -> AHeap -> Prop}
theorem DM {α β γ δ ε ζ : Type} (st : α -> β -> γ -> δ -> ε -> ζ -> St) (hp : α -> β -> γ -> δ -> ε -> ζ -> ak) (I : α -> β -> γ -> δ -> ε -> ζ -> Prop) (hb : ∀ x y z u v w, I x y z u v w -> W tb n b E (st x y z u v w) (hp x y z u v w) Q)
  (ha : (∀ x y z u v w, I x y z u v w -> W tb n b E (st x y z u v w) (hp x y z u v w) Q) -> W tb n a E s hs (Ev.K tb n b Q)) : W tb n (.seq a b) E s hs Q := W.seq (ha hb)
theorem DN {α β γ δ ε ζ η : Type} (st : α -> β -> γ -> δ -> ε -> ζ -> η -> St) (hp : α -> β -> γ -> δ -> ε -> ζ -> η -> ak) (I : α -> β -> γ -> δ -> ε -> ζ -> η -> Prop) (hb : ∀ x y z u v w q, I x y z u v w q -> W tb n b E (st x y z u v w q) (hp x y z u v w q) Q)
  (ha : (∀ x y z u v w q, I x y z u v w q -> W tb n b E (st x y z u v w q) (hp x y z u v w q) Q) -> W tb n a E s hs (Ev.K tb n b Q)) : W tb n (.seq a b) E s hs Q := W.seq (ha hb)
theorem gu {α β γ δ ε ζ η : Type} {b : Code} {Q} (st : α -> β -> γ -> δ -> ε -> ζ -> η -> St) (hp : α -> β -> γ -> δ -> ε -> ζ -> η -> ak) (Inv : α -> β -> γ -> δ -> ε -> ζ -> η -> Prop) (μ : α -> β -> γ -> δ -> ε -> ζ -> η -> Nat) (a0 : α) (b0 : β) (c0 : γ) (d0 : δ) (e0 : ε) (f0 : ζ) (g0 : η) (h0 : Inv a0 b0 c0 d0 e0 f0 g0)
  (hsub : SubS (st a0 b0 c0 d0 e0 f0 g0) s) (hsubH : SubH (hp a0 b0 c0 d0 e0 f0 g0) hs)
  (step : ∀ a c e f g h i, Inv a c e f g h i -> (∀ a' c' e' f' g' h' i', Inv a' c' e' f' g' h' i' -> μ a' c' e' f' g' h' i' < μ a c e f g h i -> W tb n (.loop b) E (st a' c' e' f' g' h' i') (hp a' c' e' f' g' h' i') Q) -> W tb n b E (st a c e f g h i) (hp a c e f g h i) (KL tb n b Q)) :
  W tb n (.loop b) E s hs Q :=
 aM (α := α × β × γ × δ × ε × ζ × η) (fun x => st x.1 x.2.1 x.2.2.1 x.2.2.2.1 x.2.2.2.2.1 x.2.2.2.2.2.1 x.2.2.2.2.2.2) (fun x => hp x.1 x.2.1 x.2.2.1 x.2.2.2.1 x.2.2.2.2.1 x.2.2.2.2.2.1 x.2.2.2.2.2.2)
  (fun x => Inv x.1 x.2.1 x.2.2.1 x.2.2.2.1 x.2.2.2.2.1 x.2.2.2.2.2.1 x.2.2.2.2.2.2) (fun x => μ x.1 x.2.1 x.2.2.1 x.2.2.2.1 x.2.2.2.2.1 x.2.2.2.2.2.1 x.2.2.2.2.2.2)
  (a0, b0, c0, d0, e0, f0, g0) h0 hsub hsubH fun a ha ih => step a.1 a.2.1 a.2.2.1 a.2.2.2.1 a.2.2.2.2.1 a.2.2.2.2.2.1 a.2.2.2.2.2.2 ha fun a' c' e' f' g' h' i' => ih (a', c', e', f', g', h', i')
end
theorem gs {a c : ak} (h : ∀ x, a.count x <= c.count x := by intro x; simp only [pB, bS, List.count_append, List.count_cons, List.count_nil]; omega) : SubH a c := eB h
theorem CA : Bytes [95, 95, 110, 97, 109, 101, 95, 95] := by unfold Bytes; decide
theorem Gi : ([95, 95, 110, 97, 109, 101, 95, 95] : List Nat).length <= 1048576 := by decide
theorem yK {M : List kf} {v : AV} {hp : ak} (h : Own 3 (rm M) M.length v hp) : ISm hp M v := by
 rcases h with ⟨h1, _, rfl, _⟩ | ⟨b, ex, rfl, rfl, _⟩
 ·exact .inl ⟨rfl, List.length_eq_zero_iff.1 h1⟩
 ·exact .inr ⟨b, ex, rfl, true, List.mem_cons_self⟩
theorem ISm.ro {hs : ak} {M : List kf} {v : AV} (h : ISm hs M v) : ISm (ro hs) M v := h.imp id fun ⟨b, ex, h1, h2⟩ => ⟨b, ex, h1, h2.ro⟩
theorem Cj {M : List kf} {x : kf} {v : AV} {hp : ak} {len : Nat} (h : Own 3 (rm M ++ mC x) len v hp) (hl : len = M.length + 1 := by rfl) : Own 3 (rm (M ++ [x])) (M ++ [x]).length v hp := by
 subst hl
 have e1 : rm (M ++ [x]) = rm M ++ mC x := by simp [rm]
 have e2 : (M ++ [x]).length = M.length + 1 := by simp
 rw [e1, e2]
 exact h
def MsR (hM : ak) (v : AV) : Prop := ∃ M : List kf, Own 3 (rm M) M.length v hM /\ Dw M /\ M.length <= 1048576
theorem MsR.nil : MsR [] .nils := ⟨[], Own.nil 3, fun x hx => by simp at hx, by simp⟩
theorem MsR.cell {hM : ak} {v : AV} (h : MsR hM v) : v.isCell = true := let ⟨_, h, _⟩ := h; kB h
theorem MsR.w {hM : ak} {v : AV} (h : MsR hM v) : ∀ y ∈ hM, y.w = true := let ⟨_, h, _⟩ := h; h.w
theorem Cs {M : List kf} {x : kf} (h : Dw M) (h1 : Bytes x.2.1) (h2 : x.2.1.length <= 1048576) (h3 : Bytes x.2.2) (h4 : x.2.2.length <= 1048576) : Dw (M ++ [x]) := by
 intro y hy
 rcases List.mem_append.1 hy with hy | hy
 ·exact h y hy
 ·simp at hy; subst hy; exact ⟨h1, h2, h3, h4⟩
theorem qd (toks : List dS) (n : Nat) (hn : toks.length = n + 1) (hnl : n <= 1048576) (hok : jm toks) (tb : Nat) (ex : Bool) (X a : Nat) (ha : a <= n) (dp e bd : Int) (hla : (tg toks n).1 = 6) (he : e = 0) (hsel : (tg toks a).1 = 1 \/ En e (tg toks a) [123] = true) : Spec aN 127 [.ptr X 0] [X] [pB X tb n a dp e bd true, ⟨tb, ⟨4, ex, bO toks⟩, false⟩] (fun v D => ∃ hM : ak, (∃ (ms : AV) (rg off : Int), MsR hM ms /\ v = .agg (bS (((2 : Nat) : Int)) [] 0 ms rg off 0 .nils 0 false .nils)) /\ ∃ (a2 : Nat) (e2 bd2 : Int), a <= a2 /\ a2 <= n /\ (e2 = 0 -> a < a2) /\ D = (pB X tb n a2 dp e2 bd2 true) :: hM) := by
 refine av (cX 127 Tryz.func127) rfl (m := 103) rfl (rs := [.cell 2 26]) rfl (st := [(0, .ptr X 0)]) rfl rfl (fun _ => rfl) (fun E => zr (WO.alloc ia rfl (fun b1 => zk (zr (zm rfl (aJ rfl (aD rfl oz) rfl (ct toks n hn hnl hok tb ex X a ha dp e bd) (SubR.t SubR.two) rfl (zq (cm ly rfl rfl) (za rfl (zk (zr (zq (zB ka (bz (zi 2) aq) rfl rfl) (WO.alloc ia rfl (fun b2 => zS aL rfl rfl (i := 0) rfl rfl rfl (hs' := [_, _, _, _]) rfl (zk (wT (fun (a1 : Nat) (M : List kf) (v : AV) (hp : ak) => [(0, .ptr X 0), (2, .ptr b1 0), (3, .int .i64 (tg toks a).2.2.2), (4, .ptr b2 0)]) (fun (a1 : Nat) (M : List kf) (v : AV) (hp : ak) => (pB X tb n a1 dp e bd true) :: ⟨b2, ⟨11, true, bS (((2 : Nat) : Int)) [] 0 v 0 0 0 .nils 0 false .nils⟩, true⟩ :: ⟨b1, ⟨11, true, bS 0 [] 0 .nils 0 0 0 .nils 0 false .nils⟩, true⟩ :: ⟨tb, ⟨4, ex, bO toks⟩, false⟩ :: hp) (fun (a1 : Nat) (M : List kf) (v : AV) (hp : ak) => a <= a1 /\ a1 <= n /\ (a1 = a -> En e (tg toks a) [123] = true) /\ Own 3 (rm M) M.length v hp /\ Dw M /\ M.length <= a1) (fun a1 M v hp hI6 => ?_) (fun hJ6 => ?_))))))))))))))))
 ·obtain ⟨i1, i2, i3, hO, hok1, i5⟩ := hI6
  refine DM (fun (a3 : Nat) (e3 : Int) (f3 : Int) (M3 : List kf) (v3 : AV) (hp3 : ak) => [(0, .ptr X 0), (2, .ptr b1 0), (3, .int .i64 (tg toks a).2.2.2), (4, .ptr b2 0)]) (fun (a3 : Nat) (e3 : Int) (f3 : Int) (M3 : List kf) (v3 : AV) (hp3 : ak) => (pB X tb n a3 dp e3 f3 true) :: ⟨b2, ⟨11, true, bS (((2 : Nat) : Int)) [] 0 v3 0 0 0 .nils 0 false .nils⟩, true⟩ :: ⟨b1, ⟨11, true, bS 0 [] 0 .nils 0 0 0 .nils 0 false .nils⟩, true⟩ :: ⟨tb, ⟨4, ex, bO toks⟩, false⟩ :: hp3) (fun (a3 : Nat) (e3 : Int) (f3 : Int) (M3 : List kf) (v3 : AV) (hp3 : ak) => a <= a3 /\ a3 <= n /\ (e3 = 0 -> a < a3) /\ Own 3 (rm M3) M3.length v3 hp3 /\ Dw M3 /\ M3.length <= n) (fun a3 e3 f3 M3 v3 hp3 hI15 => ?_) (fun hJ15 => ?_)
  ·obtain ⟨k1, k2, k3, hO3, hok3, k5⟩ := hI15
   refine lS (fun (e5 : Int) (f5 : Int) => [(0, .ptr X 0), (2, .ptr b1 0), (4, .ptr b2 0)]) (fun (e5 : Int) (f5 : Int) => (pB X tb n a3 dp e5 f5 true) :: ⟨b2, ⟨11, true, bS (((2 : Nat) : Int)) [] 0 v3 0 0 0 .nils 0 false .nils⟩, true⟩ :: ⟨b1, ⟨11, true, bS 0 [] 0 .nils 0 0 0 .nils 0 false .nils⟩, true⟩ :: ⟨tb, ⟨4, ex, bO toks⟩, false⟩ :: hp3) (fun (e5 : Int) (f5 : Int) => (e5 = 0 -> e3 = 0)) (fun e5 f5 hI18 => ?_) (fun hJ18 => ?_)
   ·have g5 := hI18
    refine wT (fun (a6 : Nat) (e6 : Int) (f6 : Int) (rg : Int) => [(0, .ptr X 0), (2, .ptr b1 0), (4, .ptr b2 0)]) (fun (a6 : Nat) (e6 : Int) (f6 : Int) (rg : Int) => (pB X tb n a6 dp e6 f6 true) :: ⟨b2, ⟨11, true, bS (((2 : Nat) : Int)) [] 0 v3 rg 0 0 .nils 0 false .nils⟩, true⟩ :: ⟨b1, ⟨11, true, bS 0 [] 0 .nils 0 0 0 .nils 0 false .nils⟩, true⟩ :: ⟨tb, ⟨4, ex, bO toks⟩, false⟩ :: hp3) (fun (a6 : Nat) (e6 : Int) (f6 : Int) (rg : Int) => a3 <= a6 /\ a6 <= n /\ (e6 = 0 -> e3 = 0)) (fun a6 e6 f6 rg hI22 => ?_) (fun hJ22 => ?_)
    ·obtain ⟨g61, g62, g63⟩ := hI22
     refine W.seq (zr (zm rfl (aJ rfl (aD rfl (aD (oc (v := .str [111, 102, 102, 115, 101, 116]) (by kernel_rfl)) oz)) rfl (cu toks n hn hnl hok tb ex X a6 zy dp e6 f6 _ (by unfold Bytes; decide)) (SubR.pair (i := 0) (j := 3) rfl rfl (by decide)) rfl (zk (aE rfl (fun hc91 => ?_) (fun hc91 => ?_))))))
     ·have hv := gL hc91
      have hlt : a6 < n := aY hla zy zy
      refine zr (zm rfl (zq (aF rfl) (zf aZ rfl 1 (zq (ap rfl (zt 0 rfl) bU rfl) (zq (aa rfl (zi 1) rfl zp) (zq (aF rfl) (zf aZ rfl 1 (lM di rfl rfl (i := 0) rfl rfl rfl (hs' := _ :: _ :: _ :: _ :: _) rfl (zk (am (zm rfl (WO.call1 rfl (aD rfl oz) rfl (i := 0) rfl (nS toks n hn hnl hok tb ex X (a6 + 1) zy dp e6 f6 hla ) (SubR.one (zt 2 rfl)) (hs' := _ :: _ :: _ :: _) rfl rfl (fun v100 D100 hP100 => ?_)))))))))))))
      obtain ⟨y100, rfl, a100, e100, f100, p100, q100, r100, s100, rfl⟩ := hP100
      refine zf m9 rfl 5 (zS di rfl rfl (i := 1) rfl rfl rfl (hs' := _ :: _ :: _ :: _ :: _) rfl (zk (zr (zq (zL rfl (zt 1 rfl) bh aL rfl) (zS aL rfl rfl (i := 2) rfl (aQ rfl (bV (kB hO3) rfl rfl)) rfl (hs' := _ :: _ :: _ :: _ :: _) rfl (zk (W.sub (zc 2 rfl aI) (W.ret (End.ret (zA rfl (zt 2 rfl) bh aL rfl ResL.nil) (hs' := pB X tb n a100 dp e100 f100 true :: hp3) ⟨hp3, ⟨v3, _, _, ⟨M3, hO3, hok3, by omega⟩, rfl⟩, a100, e100, f100, by omega, by omega, (by intro h; have := k3 (g63 (s100 h).1); omega), rfl⟩ (by intro e he; rcases List.mem_cons.1 he with rfl | he; rfl; exact hO3.w e he) zX)))))))))
     refine zw (zr (zq (zL rfl (zt 1 rfl) bh aL rfl) (zS aL rfl rfl (i := 2) rfl (aQ rfl (bV (kB hO3) rfl rfl)) rfl (hs' := _ :: _ :: _ :: _ :: _) rfl (zk (W.ret (End.ret (zA rfl (zt 2 rfl) bh aL rfl ResL.nil) (hs' := pB X tb n a6 dp e6 f6 true :: hp3) ⟨hp3, ⟨v3, _, _, ⟨M3, hO3, hok3, by omega⟩, rfl⟩, a6, e6, f6, by omega, by omega, (by intro h; have := k3 (g63 h); omega), rfl⟩ (by intro e he; rcases List.mem_cons.1 he with rfl | he; rfl; exact hO3.w e he) zX))))))
    refine zr (zm rfl (aJ rfl (aD rfl (aD (oc (v := .str [91]) (by kernel_rfl)) oz)) rfl (cu toks n hn hnl hok tb ex X a3 zy dp e5 f5 _ (by unfold Bytes; decide)) (SubR.pair (i := 0) (j := 3) rfl rfl (by decide)) rfl (zk (aE rfl (fun hc77 => ?_) (fun hc77 => ?_)))))
    ·have hv := gL hc77
     have hlt : a3 < n := aY hla zy zy
     refine zr (zm rfl (zq (aF rfl) (zf aZ rfl 1 (zq (ap rfl (zt 0 rfl) bU rfl) (zq (aa rfl (zi 1) rfl zp) (zq (aF rfl) (zf aZ rfl 1 (lM di rfl rfl (i := 0) rfl rfl rfl (hs' := _ :: _ :: _ :: _ :: _) rfl (zk (zr (zm rfl (WO.call1 rfl (aD rfl oz) rfl (i := 0) rfl (nS toks n hn hnl hok tb ex X (a3 + 1) zy dp e5 f5 hla ) (SubR.one (zt 2 rfl)) (hs' := _ :: _ :: _ :: _) rfl rfl (fun v86 D86 hP86 => ?_)))))))))))))
     obtain ⟨y86, rfl, a86, e86, f86, p86, q86, r86, s86, rfl⟩ := hP86
     refine zf lw rfl 4 (zS di rfl rfl (i := 1) rfl rfl rfl (hs' := _ :: _ :: _ :: _ :: _) rfl (zk (am (zm rfl (WO.call1 rfl (aD rfl (aD (oc (v := .str [93]) (by kernel_rfl)) oz)) rfl (i := 0) rfl (dD toks n hn hnl hok tb ex X a86 zy dp e86 f86 hla _ (by unfold Bytes; decide)) (SubR.one (zt 2 rfl)) (hs' := _ :: _ :: _ :: _) rfl rfl (fun v89 D89 hP89 => ?_))))))
     obtain ⟨rfl, a89, e89, f89, p89, q89, r89, s89, rfl⟩ := hP89
     refine WO.nil (End.K (W.sub zv (bX gs (hJ22 (a89) (e89) (f89) (y86) ?_))))
     exact ⟨by omega, by omega, (by intro h; exact g5 (s86 (s89 h).1).1)⟩
    refine W.skip (End.K (W.sub zv (bX gs (hJ22 (a3) (e5) (f5) (0) ?_))))
    exact ⟨Nat.le_refl _, by omega, g5⟩
   refine zr (zf fQ rfl 3 (zq (ap rfl (zt 1 rfl) oR rfl) (WO.callE rfl (aD rfl oz) rfl (Ci (ro hp3) iH M3 _ (yK hO3).ro hok3 zy) (SubR.t (SubR.t (SubR.t (SubR.t (SubR.ro (SubH.refl _)))))) rfl (fun v62 hP62 => ?_))))
   obtain ⟨y62, rfl⟩ := hP62
   refine za rfl (zk (zr (zm rfl (zq (aF rfl) (zf dB rfl 3 (zq (ap rfl (zt 0 rfl) bU rfl) (zq (aa rfl (zi 0) rfl (ag bj)) (zm rfl (ay (d := 68) rfl (fun hc68 => ?_) (fun hc68 => ?_))))))))))
   ·refine zT (zm rfl (zT (zq (aa rfl (zi 0) rfl (aR cP)) (zq (aj rfl rfl) (zk (aw rfl (fun hc71 => ?_) (fun hc71 => ?_)))))))
    ·refine am (zm rfl (zm rfl (zm rfl (WO.call1 rfl (aD rfl (aD rfl (aD rfl oz))) rfl (i := 0) rfl (da n tb X a3 dp e3 f3 _ _) SubR.nil (hs' := _ :: _ :: _ :: _) rfl rfl (fun v75 D75 hP75 => ?_)))))
     obtain ⟨rfl, rfl⟩ := hP75
     refine WO.nil (End.K (W.sub zv (bX gs (hJ18 ((if e3 = 0 then y62 else e3)) ((if e3 = 0 then (tg toks a).2.2.2 else f3)) ?_))))
     exact (by intro h; split at h <;> omega)
    refine W.skip (End.K (W.sub zv (bX gs (hJ18 (e3) (f3) ?_))))
    exact (fun h => h)
   refine z2 (zq (ax rfl rfl) (zk (az rfl (W.skip (End.K (W.sub zv (bX gs (hJ18 (e3) (f3) ?_))))))))
   exact (fun h => h)
  refine zr (zm rfl (aJ rfl (aD rfl (aD (oc (v := .str [123]) (by kernel_rfl)) oz)) rfl (cu toks n hn hnl hok tb ex X a1 zy dp e bd _ (by unfold Bytes; decide)) (SubR.pair (i := 0) (j := 3) rfl rfl (by decide)) rfl (zk (aE rfl (fun hc29 => ?_) (fun hc29 => ?_)))))
  ·have hv := gL hc29
   have hlt : a1 < n := aY hla zy zy
   refine zr (zm rfl (zq (aF rfl) (zf aZ rfl 1 (zq (ap rfl (zt 0 rfl) bU rfl) (zq (aa rfl (zi 1) rfl zp) (zq (aF rfl) (zf aZ rfl 1 (lM di rfl rfl (i := 0) rfl rfl rfl (hs' := _ :: _ :: _ :: _ :: _) rfl (zk (zr (za rfl (zk (W.seq (W.block (gu (fun (a2 : Nat) (e2 : Int) (f2 : Int) (fs : Bool) (M2 : List kf) (v2 : AV) (hp2 : ak) => [(0, .ptr X 0), (2, .ptr b1 0), (3, .int .i64 (tg toks a).2.2.2), (4, .ptr b2 0), (5, .bool fs)]) (fun (a2 : Nat) (e2 : Int) (f2 : Int) (fs : Bool) (M2 : List kf) (v2 : AV) (hp2 : ak) => (pB X tb n a2 dp e2 f2 true) :: ⟨b2, ⟨11, true, bS (((2 : Nat) : Int)) [] 0 v2 0 0 0 .nils 0 false .nils⟩, true⟩ :: ⟨b1, ⟨11, true, bS 0 [] 0 .nils 0 0 0 .nils 0 false .nils⟩, true⟩ :: ⟨tb, ⟨4, ex, bO toks⟩, false⟩ :: hp2) (fun (a2 : Nat) (e2 : Int) (f2 : Int) (fs : Bool) (M2 : List kf) (v2 : AV) (hp2 : ak) => a1 < a2 /\ a2 <= n /\ Own 3 (rm M2) M2.length v2 hp2 /\ Dw M2 /\ M2.length + 1 <= a2 + (if e2 = 0 then 0 else 1) /\ (e2 = 0 -> e = 0)) (fun (a2 : Nat) (e2 : Int) (f2 : Int) (fs : Bool) (M2 : List kf) (v2 : AV) (hp2 : ak) => (if e2 = 0 then 1 + n - a2 else 0)) (a1 + 1) (e) (bd) (true) (M) (v) (hp) ⟨by omega, by omega, hO, hok1, by rw [if_pos he]; omega, fun _ => he⟩ zv gs (fun a2 e2 f2 fs M2 v2 hp2 hI0 ih0 => ?_))))))))))))))))
   obtain ⟨h1, h2, hO2, hok2, h5, h6⟩ := hI0
   refine W.seq (zr (zm rfl (zq (aF rfl) (zf dB rfl 3 (zq (ap rfl (zt 0 rfl) bU rfl) (zq (aa rfl (zi 0) rfl (ag bj)) (zm rfl (ay (d := 42) rfl (fun hc42 => ?_) (fun hc42 => ?_)))))))))
   ·have he2 : e2 = 0 := (by simpa using hc42)
    have h7 : M2.length + 1 <= a2 := (by rw [if_pos he2] at h5; omega)
    refine zT (zm rfl (zT (aJ rfl (aD rfl (aD (oc (v := .str [125]) (by kernel_rfl)) oz)) rfl (cu toks n hn hnl hok tb ex X a2 zy dp e2 f2 _ (by unfold Bytes; decide)) (SubR.pair (i := 0) (j := 3) rfl rfl (by decide)) rfl (zT (zq (Q.not rfl rfl) (zq (aj rfl rfl) (zk (aE rfl (fun hc46 => ?_) (fun hc46 => ?_)))))))))
    ·refine zw (W.block (lT (fun (a4 : Nat) (e4 : Int) (f4 : Int) => [(0, .ptr X 0), (2, .ptr b1 0), (3, .int .i64 (tg toks a).2.2.2), (4, .ptr b2 0)]) (fun (a4 : Nat) (e4 : Int) (f4 : Int) => (pB X tb n a4 dp e4 f4 true) :: ⟨b2, ⟨11, true, bS (((2 : Nat) : Int)) [] 0 v2 0 0 0 .nils 0 false .nils⟩, true⟩ :: ⟨b1, ⟨11, true, bS 0 [] 0 .nils 0 0 0 .nils 0 false .nils⟩, true⟩ :: ⟨tb, ⟨4, ex, bO toks⟩, false⟩ :: hp2) (fun (a4 : Nat) (e4 : Int) (f4 : Int) => a2 <= a4 /\ a4 <= n /\ (e4 = 0 -> e2 = 0)) (fun a4 e4 f4 hI12 => ?_) (fun hJ12 => ?_)))
     ·obtain ⟨j1, j2, j3⟩ := hI12
      refine zr (za rfl (zk (eC 5 [⟨b2, _, false⟩] (by kernel_rfl) (KIn.cons (zt 1 rfl) KIn.nil) (WD.q (Q.fieldAddr fQ rfl (o' := 3) rfl) iF rfl (WD.q (ap rfl (zt 0 rfl) oR rfl) (Own.bq hO2) rfl (WD.q (Q.move rfl) iF rfl (WD.call1 rfl (aD rfl oz) rfl (j := 0) rfl (sY toks n hn hnl hok tb ex X a4 zy dp e4 f4 hla ) (SubR.one (zt 2 rfl)) (hs' := _ :: _ :: _ :: _) rfl (KIn.cons (zt 0 rfl) KIn.nil) rfl (fun v54 D54 hP54 => ?_))))))))
      obtain ⟨⟨x54, rfl, mb1, mb2, mb3, mb4⟩, a54, e54, f54, p54, q54, r54, s54, rfl⟩ := hP54
      refine WD.bslice jh eA Fc rfl (bz rfl aq) rfl (cs := [_, _, _]) rfl rfl rfl (KIn.cons (zt 1 rfl) KIn.nil) (fun b3 => WD.appOwn (e := ⟨b3, _, true⟩) (A := [_, _, _, _]) rW hO2 rfl rfl rfl rfl ⟨by first | omega | (simp at * <;> omega), by first | omega | (simp at * <;> omega)⟩ (by decide) rfl rfl (KIn.cons (zt 1 rfl) KIn.nil) (fun v56 hp56 hO56 => ?_))
      obtain ⟨b56, ex56, rfl, rfl⟩ := hO56.full zy
      refine WD.q (Q.fieldAddr fQ rfl (o' := 3) rfl) iF rfl (WD.store E4 rfl rfl (j := 1) rfl rfl (cs := [_, _, _, _, _, _, _, _, _, _, _]) rfl (hs' := [_, _, _, _, _]) rfl (fun h => by cases h) (WD.nil (End.KB (End.KL (W.sub zv (bX gs (ih0 (a54) (e54) (f54) (false) (M2 ++ [x54]) (.slice b56 0 (M2.length + 1) 3) ([⟨b56, ⟨3, ex56, rm M2 ++ [.int .i64 x54.1, .str x54.2.1, .str x54.2.2]⟩, true⟩]) ?_ ?_)))))))
      ·exact ⟨by omega, by omega, Cj hO56, Cs hok2 mb1 mb2 mb3 mb4, by rw [List.length_append]; rw [if_pos he2] at h5; show M2.length + 1 + 1 <= _; split <;> omega, fun h => he⟩
      exact (by rw [if_pos he2]; split <;> omega)
     refine zr (zm rfl (zq (Q.not rfl rfl) (zk (aE rfl (fun hc48 => ?_) (fun hc48 => ?_)))))
     ·refine am (zm rfl (WO.call1 rfl (aD rfl (aD (oc (v := .str [44]) (by kernel_rfl)) oz)) rfl (i := 0) rfl (dD toks n hn hnl hok tb ex X a2 zy dp e2 f2 hla _ (by unfold Bytes; decide)) (SubR.one (zt 2 rfl)) (hs' := _ :: _ :: _ :: _) rfl rfl (fun v50 D50 hP50 => ?_)))
      obtain ⟨rfl, a50, e50, f50, p50, q50, r50, s50, rfl⟩ := hP50
      refine WO.nil (End.K (W.sub zv (bX gs (hJ12 (a50) (e50) (f50) ?_))))
      exact ⟨by omega, by omega, fun h => (s50 h).1⟩
     refine W.skip (End.K (W.sub zv (bX gs (hJ12 (a2) (e2) (f2) ?_))))
     exact ⟨Nat.le_refl _, by omega, fun h => h⟩
    refine W.exit (aC (aK (aB (End.K (am (zm rfl (WO.call1 rfl (aD rfl (aD (oc (v := .str [125]) (by kernel_rfl)) oz)) rfl (i := 0) rfl (dD toks n hn hnl hok tb ex X a2 zy dp e2 f2 hla _ (by unfold Bytes; decide)) (SubR.one (zt 2 rfl)) (hs' := _ :: _ :: _ :: _) rfl rfl (fun v59 D59 hP59 => ?_))))))))
    obtain ⟨rfl, a59, e59, f59, p59, q59, r59, s59, rfl⟩ := hP59
    refine WO.nil (End.K (W.sub zv (bX gs (hJ15 (a59) (e59) (f59) (M2) (v2) (hp2) ?_))))
    exact ⟨by omega, by omega, fun _ => zy, hO2, hok2, by split at h5 <;> omega⟩
   refine z2 (zG (zq (ax rfl rfl) (zk (az rfl (W.exit (aC (aK (aB (End.K (am (zm rfl (WO.call1 rfl (aD rfl (aD (oc (v := .str [125]) (by kernel_rfl)) oz)) rfl (i := 0) rfl (dD toks n hn hnl hok tb ex X a2 zy dp e2 f2 hla _ (by unfold Bytes; decide)) (SubR.one (zt 2 rfl)) (hs' := _ :: _ :: _ :: _) rfl rfl (fun v59 D59 hP59 => ?_)))))))))))))
   obtain ⟨rfl, a59, e59, f59, p59, q59, r59, s59, rfl⟩ := hP59
   refine WO.nil (End.K (W.sub zv (bX gs (hJ15 (a59) (e59) (f59) (M2) (v2) (hp2) ?_))))
   exact ⟨by omega, by omega, fun _ => zy, hO2, hok2, by split at h5 <;> omega⟩
  refine W.skip (End.K (W.sub zv (bX gs (hJ15 (a1) (e) (bd) (M) (v) (hp) ?_))))
  exact ⟨i1, i2, (by intro _; rcases Nat.lt_or_ge a a1 with g | g; exact g; have g1 : a1 = a := zy; have g2 := i3 g1; rw [g1, g2] at hc29; cases hc29), hO, hok1, by omega⟩
 refine zr (zm rfl (aJ rfl (aD rfl oz) rfl (ct toks n hn hnl hok tb ex X a ha dp e bd) (SubR.t (SubR.t SubR.two)) rfl (zq (cm sN rfl rfl) (zq (aa rfl (zi 1) rfl (ag aA)) (zk (aw rfl (fun hc14 => ?_) (fun hc14 => ?_)))))))
 ·have hlt : a < n := aY hla ha zy
  refine zr (zm rfl (aJ rfl (aD rfl oz) rfl (ct toks n hn hnl hok tb ex X a ha dp e bd) (SubR.t (SubR.t SubR.two)) rfl (zq (cm lx rfl rfl) (zq (Q.build Hn (bz (zi 1) (bz (oc (v := .str [95, 95, 110, 97, 109, 101, 95, 95]) (by kernel_rfl)) (bz rfl aq))) rfl (cs := [_, _, _]) rfl) (WO.bslice jh eA Fc rfl (bz rfl aq) rfl (cs := [_, _, _]) rfl rfl rfl (fun b5 => zf fQ rfl 3 (zS E4 rfl rfl (i := 1) rfl rfl rfl (hs' := [_, _, _, _, _]) rfl (zk (W.sub (zc 4 rfl (zc 3 rfl (zc 2 rfl (zc 0 rfl aI)))) (am (zm rfl (zq (aF rfl) (zf aZ rfl 1 (zq (ap rfl (zt 3 rfl) bU rfl) (zq (aa rfl (zi 1) rfl zp) (zq (aF rfl) (zf aZ rfl 1 (lM di rfl rfl (i := 3) rfl rfl rfl (hs' := [_, _, _, _, _]) rfl (WO.nil (End.K (W.sub zv (bX gs (hJ6 (a + 1) ([(((1 : Nat) : Int), [95, 95, 110, 97, 109, 101, 95, 95], (tg toks a).2.1)]) (.slice b5 0 1 3) ([⟨b5, ⟨3, true, [.int .i64 (((1 : Nat) : Int)), .str [95, 95, 110, 97, 109, 101, 95, 95], .str (tg toks a).2.1]⟩, true⟩]) ?_)))))))))))))))))))))))
  exact ⟨by omega, by omega, fun h => absurd h zy, .inr ⟨b5, true, rfl, rfl, rfl, Nat.one_pos⟩, (by intro x hx; simp at hx; subst hx; exact ⟨CA, Gi, (cQ hok zy).1, Nat.le_trans (cQ hok (i := a) zy).2 (by decide)⟩), by show 1 <= a + 1; omega⟩
 refine W.skip (End.K (W.sub zv (bX gs (hJ6 (a) ([]) (.nils) ([]) ?_))))
 exact ⟨Nat.le_refl _, ha, fun _ => hsel.resolve_left zy, Own.nil 3, (by intro x hx; simp at hx), Nat.zero_le _⟩
end Go.Proofs.YtndhhgbpcmfeiaaGreatDoor.Ev.P16
