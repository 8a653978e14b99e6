/- Chapter 21: what a call tells of ranges. -/
import Derived.Test.YtfkbfnpjggkdmaaGreatDoorCEal
import Derived.Test.YtfkbfnpjggkdmaaGreatDoorCPYg
import Derived.Test.YtfkbfnpjggkdmaaGreatDoorCExE
namespace Go.Proofs.YtfkbfnpjggkdmaaGreatDoor.Ev
open Go.RowKit
set_option maxRecDepth 100000
set_option maxHeartbeats 1000000
def sU (L : List (List bA × List bP)) : List (List bA × Int) := L.map fun x => (x.1.filter (P19.dropP [[95, 95, 110, 97, 109, 101, 95, 95]]), ((x.2.length * 1000000 : Nat) : Int))
theorem I9 {R : List bV} {O : List El} {i : Nat} {v : AV} (h : O.map (·.2) = sU (aV (R.take i))) (hi : i < R.length) : (O ++ [(v, (rg R (0 + i)).2.1.filter (P19.dropP [[95, 95, 110, 97, 109, 101, 95, 95]]), (((rg R (0 + i)).2.2.2.length * 1000000 : Nat) : Int))]).map (·.2) = sU (aV (R.take (i + 1))) := by
 rw [List.map_append, h, cb R CO hi, fF, Nat.zero_add]
 unfold sU
 rw [List.map_append]
 rfl
theorem J3 {O : List El} {G D : af} {x : El} (h : EAll G O) (h1 : LIn D x.2.1 x.1) : EAll (G ++ D) (O ++ [x]) := by
 intro z hz
 rcases List.mem_append.1 hz with hz | hz
 ·exact (h z hz).mono fun b o g => g.ap1
 ·rw [List.mem_singleton.1 hz]
  exact h1.mono fun b o g => g.app
theorem Ja {R : List bV} {O : List El} {i : Nat} (hb : kp R) (h : O.map (·.2) = sU (aV (R.take i))) : EBd O := by
 have hl : O.length <= R.length := by
  have := congrArg List.length h
  simp only [sU, aV, List.length_map, List.length_take] at this
  omega
 refine ⟨Nat.le_trans hl hb.1, fun x hx => ?_⟩
 have hm : x.2 ∈ sU (aV (R.take i)) := by rw [<- h]; exact List.mem_map.2 ⟨x, hx, rfl⟩
 obtain ⟨y, hy, e⟩ := List.mem_map.1 hm
 obtain ⟨z, hz, rfl⟩ := List.mem_map.1 hy
 have hzb := (hb.2 z (List.mem_of_mem_take hz)).1
 rw [<- e]
 exact ⟨Nat.le_trans (List.length_filter_le _ _) hzb.1, fun q hq => hzb.2 q (List.mem_filter.1 hq).1⟩
theorem uJ {K S M : af} : SubH (M ++ (K ++ S)) (K ++ (S ++ M)) := SubH.op (List.perm_append_comm.trans (List.Perm.of_eq (List.append_assoc _ _ _)))
section
variable {cfg : XCfg} {tb : Tab} {n : Nat} {E : Env} {s : St} {hs : af} {d : HP} {Q : RRes -> Prop} {b : Code}
theorem X.loop_ind5 {α β γ δ ε : Type} (st : α -> β -> γ -> δ -> ε -> St) (hp : α -> β -> γ -> δ -> ε -> af) (Inv : α -> β -> γ -> δ -> ε -> Prop) (μ : α -> β -> γ -> δ -> ε -> Nat) (a0 : α) (b0 : β) (c0 : γ) (d0 : δ) (e0 : ε) (h0 : Inv a0 b0 c0 d0 e0) (hsub : SubS (st a0 b0 c0 d0 e0) s) (hsubH : SubH (hp a0 b0 c0 d0 e0) hs)
  (step : ∀ a c e f g, Inv a c e f g -> (∀ a' c' e' f' g', Inv a' c' e' f' g' -> μ a' c' e' f' g' < μ a c e f g -> Ev.X cfg tb n (.loop b) E (st a' c' e' f' g') (hp a' c' e' f' g') d Q) -> Ev.X cfg tb n b E (st a c e f g) (hp a c e f g) d (FP cfg tb n b Q)) : Ev.X cfg tb n (.loop b) E s hs d Q :=
 X.loop_ind (α := α × β × γ × δ × ε) (fun x => st x.1 x.2.1 x.2.2.1 x.2.2.2.1 x.2.2.2.2) (fun x => hp x.1 x.2.1 x.2.2.1 x.2.2.2.1 x.2.2.2.2) (fun x => Inv x.1 x.2.1 x.2.2.1 x.2.2.2.1 x.2.2.2.2) (fun x => μ x.1 x.2.1 x.2.2.1 x.2.2.2.1 x.2.2.2.2) (a0, b0, c0, d0, e0) h0 hsub hsubH
  fun a ha ih => step a.1 a.2.1 a.2.2.1 a.2.2.2.1 a.2.2.2.2 ha fun a' c' e' f' g' => ih (a', c', e', f', g')
theorem X.loop_ind6 {α β γ δ ε ζ : Type} (st : α -> β -> γ -> δ -> ε -> ζ -> St) (hp : α -> β -> γ -> δ -> ε -> ζ -> af) (Inv : α -> β -> γ -> δ -> ε -> ζ -> Prop) (μ : α -> β -> γ -> δ -> ε -> ζ -> Nat) (a0 : α) (b0 : β) (c0 : γ) (d0 : δ) (e0 : ε) (f0 : ζ) (h0 : Inv a0 b0 c0 d0 e0 f0) (hsub : SubS (st a0 b0 c0 d0 e0 f0) s) (hsubH : SubH (hp a0 b0 c0 d0 e0 f0) hs)
  (step : ∀ a c e f g k, Inv a c e f g k -> (∀ a' c' e' f' g' k', Inv a' c' e' f' g' k' -> μ a' c' e' f' g' k' < μ a c e f g k -> Ev.X cfg tb n (.loop b) E (st a' c' e' f' g' k') (hp a' c' e' f' g' k') d Q) -> Ev.X cfg tb n b E (st a c e f g k) (hp a c e f g k) d (FP cfg tb n b Q)) : Ev.X cfg tb n (.loop b) E s hs d Q :=
 X.loop_ind (α := α × β × γ × δ × ε × ζ) (fun x => st x.1 x.2.1 x.2.2.1 x.2.2.2.1 x.2.2.2.2.1 x.2.2.2.2.2) (fun x => hp x.1 x.2.1 x.2.2.1 x.2.2.2.1 x.2.2.2.2.1 x.2.2.2.2.2) (fun x => Inv x.1 x.2.1 x.2.2.1 x.2.2.2.1 x.2.2.2.2.1 x.2.2.2.2.2) (fun x => μ x.1 x.2.1 x.2.2.1 x.2.2.2.1 x.2.2.2.2.1 x.2.2.2.2.2) (a0, b0, c0, d0, e0, f0) h0 hsub hsubH
  fun a ha ih => step a.1 a.2.1 a.2.2.1 a.2.2.2.1 a.2.2.2.2.1 a.2.2.2.2.2 ha fun a' c' e' f' g' k' => ih (a', c', e', f', g', k')
end
theorem EAll.mono {hs hs' : af} {O : List El} (h : EAll hs O) (hm : ∀ b o, MemH hs b o -> MemH hs' b o) : EAll hs' O := fun x hx => (h x hx).mono hm
theorem r9 : FA tab 178 2 = some (12, 0 + 1) := by kernel_rfl
theorem C9 : tab.size 9 = some 1 := by kernel_rfl
theorem mY : tab.und 50 = some (.slice 9) := by kernel_rfl
theorem JE : tab.zero 9 = some (.str []) := by kernel_rfl
theorem I7  : Spec tab 155 [.nils] [] [] (bN (.agg [.int .i64 ((2 : Nat) : Int), .int .i64 0, .nils, .nils])) := by
 refine ac (bz 155 Tryz.func155) rfl (m := 52) rfl (rs := [.cell 2 136]) rfl (st := [(0, .nils)]) rfl rfl (fun _ => rfl) (fun E => zr (WO.alloc ll rfl (fun b1 => zk (W.seq (zr (za (zi 1) (zk (W.block (W.loop (W.seq (zr (zm rfl (zm rfl (zq (Q.len eW rfl rfl) (zq (aa rfl rfl rfl (bu (p := false) rfl)) (zk (W.condF rfl (W.exit (am (aq (ap (End.K (zr (zm rfl (zq (Q.build yr (cy (zi 2) (cy rfl dE)) rfl (cs := [_, _, _, _]) rfl) (WO.store di rfl rfl (i := 0) rfl rfl (cs := [_, _, _, _]) rfl (hs' := [_]) rfl ?_))))))))))))))))))))))))))
 refine zk (W.ret (ae (ResL.agg (c := [_, _, _, _]) rfl (zt 0 rfl) jF di rfl ResL.nil) ?_))
 rfl
theorem G5 (hs : af) (hro : ∀ e ∈ hs, e.w = false) (V : List El) (v : AV) (ho : af) (hO : OwnE 2 (cE V) V.length v ho) (hVA : EAll hs V) (hVb : EBd V) : SpecX jC tab 155 [v] (ho.map (·.b)) (ho ++ hs) (fun u D => ∃ Y : List El, u = .agg [.int .i64 ((2 : Nat) : Int), .int .i64 0, v, .nils] /\ OwnE 2 (cE Y) Y.length v D /\ Y.Perm V /\ SrtI sT Y Y.length) (fun l => l = [.int .i64 ((17 : Nat) : Int)]) := by
 rcases hO with ⟨h1, h2, rfl, rfl⟩ | ⟨b, ex, rfl, rfl, h3⟩
 ·obtain rfl : V = [] := List.length_eq_zero_iff.1 h1
  refine ((Spec.sub I7 (SubH.nil _)).mono fun v D ⟨q1, q2⟩ => ?_).x
  exact ⟨[], q1, .inl ⟨rfl, rfl, rfl, q2⟩, List.Perm.refl _, fun p q a b _ _ h _ => by simp at h⟩
 ·refine (I8 hs hro V hVA hVb b ex).mono (fun u D ⟨Y, g1, g2, g3, g4⟩ => ?_) fun l h => h
  exact ⟨Y, g1, .inr ⟨b, ex, by rw [g3.length_eq], g2, wH Y⟩, g3, g4⟩

theorem G9 (hs : af) (hro : ∀ e ∈ hs, e.w = false) (R : List bV) (ov : AV) (hR : RSl hs R 0 ov) (hRA : RAll hs R) (hRb : kp R) (hRp : Aq R) (hRs : ∀ x ∈ R, ep x.2.2.2 x.2.2.2.length) (X : Nat) (o1 a1 ab : Nat) (xab : Bool) (r : Nat) (hr0 : 0 < r) (hrb : r <= 2147483648) (t : Nat) : SpecX jC tab 122 [.ptr X 0, .ptr o1 0, .slice ab 0 1 4, .int .i64 ((t : Nat) : Int)] [] (⟨ab, ⟨4, xab, [.int .i64 ((3 : Nat) : Int), .int .i64 0, .nils, ov]⟩, false⟩ :: ⟨o1, ⟨15, true, [.int .i64 ((3 : Nat) : Int), .str [99, 111, 117, 110, 116, 95, 111, 118, 101, 114, 95, 116, 105, 109, 101], .int .i64 0, .nils, .int .i64 0, .int .i64 0, .int .i64 0, .nils, .int .i64 0, .bool false, .nils, .slice a1 0 1 1, .int .i64 ((r : Nat) : Int), .nils, .func 122 [.tuple [], .ptr X 0]]⟩, false⟩ :: hs) (fun v D => ∃ (Y : List El) (wv : AV) (G ho : af), v = .agg [.int .i64 ((2 : Nat) : Int), .int .i64 0, wv, .nils] /\ D = G ++ ho /\ OwnE 2 (cE Y) Y.length wv ho /\ EAll G Y /\ (Y.map (·.2)).Perm (sU (aV R)) /\ SrtI sT Y Y.length /\ ∀ e ∈ G, e.w = true) (fun l => l = [.int .i64 ((17 : Nat) : Int)]) := by
 have hRl := hRb.1
 refine SpecX.enter (bz 122 Tryz.func122) rfl (m := 55) rfl (rs := [.cell 8 136]) rfl (st := [(0, .ptr X 0), (1, .ptr o1 0), (2, .slice ab 0 1 4), (3, .int .i64 ((t : Nat) : Int))]) rfl rfl (fun _ => rfl) rfl (fun E => Ev.X.seq (Ev.X.w (W.reg (WO.alloc ll rfl (fun b1 => WO.nil (XEnd.K (Ev.X.seq (Ev.X.w (W.reg (za rfl (WO.nil (XEnd.K (Ev.X.seq (Ev.X.seq (Ev.X.w (W.reg (zm rfl (zq (ao i7 di rfl (zi 0) zo (o' := 0) rfl) (zf nV rfl 3 (zq (ag rfl (zt 1 rfl) uS rfl) (zq (Q.len dA rfl (RSl.len hR)) (zq (Q.move (zi 0)) (WO.nil (XEnd.K (Ev.X.block (Ev.X.loop_ind5 (fun (i : Nat) (O : List El) (o : AV) (ho : af) (G : af) => [(1, .ptr o1 0), (8, .ptr b1 0), (9, o), (18, ov), (19, .int .i64 ((R.length - 0 : Nat) : Int)), (20, .int .i64 ((i : Nat) : Int))]) (fun (i : Nat) (O : List El) (o : AV) (ho : af) (G : af) => ⟨b1, ⟨4, true, [.int .i64 0, .int .i64 0, .nils, .nils]⟩, true⟩ :: ⟨ab, ⟨4, xab, [.int .i64 ((3 : Nat) : Int), .int .i64 0, .nils, ov]⟩, false⟩ :: ⟨o1, ⟨15, true, [.int .i64 ((3 : Nat) : Int), .str [99, 111, 117, 110, 116, 95, 111, 118, 101, 114, 95, 116, 105, 109, 101], .int .i64 0, .nils, .int .i64 0, .int .i64 0, .int .i64 0, .nils, .int .i64 0, .bool false, .nils, .slice a1 0 1 1, .int .i64 ((r : Nat) : Int), .nils, .func 122 [.tuple [], .ptr X 0]]⟩, false⟩ :: ((hs ++ G) ++ ho)) (fun (i : Nat) (O : List El) (o : AV) (ho : af) (G : af) => i <= R.length /\ OwnE 2 (cE O) O.length o ho /\ EAll G O /\ O.map (·.2) = (sU (aV (R.take i))) /\ (∀ e ∈ G, e.w = true) /\ O.length = i) (fun (i : Nat) (O : List El) (o : AV) (ho : af) (G : af) => R.length - i) (0) ([]) (.nils) ([]) ([]) ⟨Nat.zero_le _, OwnE.nil 2, fun x h => (by simp at h), rfl, dB, rfl⟩ zv (SubH.op (by rw [List.append_nil, List.append_nil])) (fun i O o ho G hI0 ih0 => ?_)))))))))))))))))))))))))))
 obtain ⟨hi1, hO, hOx, hOc, hG, hOl⟩ := hI0
 refine Ev.X.seq (Ev.X.w (W.reg (zq (aa rfl rfl rfl (bu bY)) (WO.nil (XEnd.K (Ev.X.seq (Ev.X.condDS rfl (fun hc21 => ?_) (fun hc21 => ?_))))))))
 ·obtain ⟨br, szr, exr, rfl, wr, mr⟩ := RSl.full hR zy
  have hm0 := eZ (R := R) (i := 0 + i) zy
  have hx := hRA _ hm0
  have hxb := hRb.2 _ hm0
  have hxp := hRp _ hm0
  obtain ⟨bs, szs, exs, hbs, ws, ms⟩ := SIn.full hx.2 hxp
  refine Ev.X.skip (XEnd.K (Ev.X.seq (Ev.X.block (Ev.X.seq (Ev.X.w (W.reg (zq (bj dA fk rfl rfl zo) (zq (ax rfl (List.mem_cons_of_mem _ (List.mem_cons_of_mem _ (List.mem_cons_of_mem _ (List.mem_append_left _ (List.mem_append_left _ mr))))) AC fk (wJ zo)) (WO.alloc FX rfl (fun b2 => WO.store fk rfl rfl (i := 0) rfl (au rfl (uG (LIn.cell hx.1) (SIn.cell hx.2))) (cs := [_, _]) rfl (hs' := _ :: _ :: _ :: _ :: _) rfl (WO.nil (XEnd.K (Ev.X.seq (Ev.X.w (cX (by kernel_rfl) (zm rfl (zq (aY rfl) (zf de rfl 0 (zf jl rfl 1 (zq (ag rfl (zt 3 rfl) gP rfl) (zf jm rfl 1 (zq (ag rfl (zt 0 rfl) l8 rfl) (zm rfl (zq (aY rfl) (zf r9 rfl 12 ?_)))))))))))))))))))))))))
  refine zq (ag rfl (zt 3 rfl) bH rfl) (ak rfl (aj rfl (aj rfl (aj rfl oz))) rfl (by rw [hbs]; exact FY hs hro _ bs szs exs ws ms hxb.2 (hRs _ hm0) hxp r hr0 hrb) (aQ (aQ (aQ (aQ (SubR.appl (SubR.appl (aN hro))))))) rfl (zm rfl (zq (Q.extract rfl rfl) (zq (Q.extract rfl rfl) (zq (Q.extract rfl rfl) (za rfl (za rfl (za rfl (WO.nil (XEnd.K (Ev.X.sub (zc 14 rfl (zc 13 rfl (zc 12 rfl (zc 11 rfl (zc 1 rfl (zc 8 rfl (zc 9 rfl (zc 18 rfl (zc 19 rfl (zc 20 rfl aI)))))))))) (Ev.X.seq (Ev.X.w (W.reg (zm rfl (ak rfl (aj rfl oz) rfl gM SubR.nil rfl (WO.nil (XEnd.K (Ev.X.seq (Ev.X.w (W.reg (zm rfl (WO.nil (XEnd.K (Ev.X.condT rfl ?_)))))))))))))))))))))))))
  refine Ev.X.w (W.reg (zm rfl (zf jJ rfl 0 (zq (ag rfl (zt 0 rfl) jA rfl) (WO.bslice mY C9 JE rfl (cy (oc (v := .str [95, 95, 110, 97, 109, 101, 95, 95]) (by kernel_rfl)) dE) rfl (cs := [_]) rfl rfl rfl (fun b3 => WO.call0 rfl (aj rfl (aj rfl oz)) rfl (P19.drop_spec (hs := ⟨b3, ⟨1, true, [.str [95, 95, 110, 97, 109, 101, 95, 95]]⟩, false⟩ :: hs) (fO hro) _ _ (hx.1.mono fun b o h => MemH.tl h) hxb.1 [[95, 95, 110, 97, 109, 101, 95, 95]] (.slice b3 0 1 1) (.inr ⟨b3, 1, true, rfl, _, List.mem_cons_self⟩) P19.nm_sbd) (SubR.ix (K := [_, _, _, _, _]) (ix := [0]) (A := [_]) rfl (by decide) (SubR.appl (SubR.appl (aN hro)))) rfl (fun v47 D47 hP47 => ?_)))))))
  have hQ47 : OwnE 2 (cL ((rg R (0 + i)).2.1.filter (P19.dropP [[95, 95, 110, 97, 109, 101, 95, 95]]))) ((rg R (0 + i)).2.1.filter (P19.dropP [[95, 95, 110, 97, 109, 101, 95, 95]])).length v47 D47 := hP47
  refine WO.subH (hs' := _ :: _ :: _ :: _ :: _ :: (hs ++ G ++ ho ++ D47)) (SubH.op (aw (N := []) (G := D47) (K := [_, _, _, _, _]) (X := hs ++ G ++ ho))) (zm rfl (zq (Q.build EX (cy rfl (cy rfl dE)) rfl (cs := [_, _]) (BL (OwnE.cell hQ47))) (WO.bslice eW dN Aj rfl (cy rfl dE) rfl (cs := [_, _]) rfl (uG (OwnE.cell hQ47) rfl) rfl (fun b4 => WO.subH (hs' := _ :: _ :: _ :: _ :: _ :: _ :: (hs ++ G ++ D47 ++ ho)) (SubH.op (List.Perm.append_left [_, _, _, _, _, _] (List.perm_iff_count.2 (by intro z; simp only [List.append_eq, List.count_append, List.count_nil]; omega)))) (WO.appAny (A := ([_, _, _, _, _] ++ hs ++ G ++ D47)) j8 hO rfl rfl (Src.slice (zt 0 rfl) rfl) rfl zy (by decide) (SubH.of_sublist (List.sublist_cons_self _ _)) rfl (fun v51 hp51 hO51 => za rfl (WO.nil (XEnd.KB (XEnd.K (Ev.X.sub (zc 9 rfl (zc 1 rfl (zc 8 rfl (zc 18 rfl (zc 19 rfl (zc 20 rfl aI)))))) (Ev.X.w (W.reg (zq (aa rfl (zi 1) rfl zp) (zm rfl (WO.nil (XEnd.KL (Ev.X.sub zv (Ev.X.subH (SubH.trans (SubH.pre (L := [_, _, _]) gc) (SubH.of_sublist (List.sublist_append_right [_, _] _))) (ih0 (i + 1) (O ++ [(v47, (rg R (0 + i)).2.1.filter (P19.dropP [[95, 95, 110, 97, 109, 101, 95, 95]]), (((rg R (0 + i)).2.2.2.length * 1000000 : Nat) : Int))]) (v51) (hp51) (G ++ D47) ?_ ?_)))))))))))))))))))
  ·exact ⟨by omega, FF hO51, J3 hOx (LIn.own hQ47), I9 hOc zy, wa hG (OwnE.w hQ47), by simp; omega⟩
  exact zo
 refine Ev.X.exit (bF (bD (bJ (XEnd.K (Ev.X.seq (Ev.X.reg (XO.pre 1 (zm rfl (WO.nil (eC (XO.call (M := ho) (A := (_ :: _ :: _ :: (hs ++ G))) rfl (aj rfl oz) rfl hO.w (uJ (K := [_, _, _])) (G5 (ro (hs ++ G)) ie O o ho hO (hOx.mono fun b o h => h.app.ro) (Ja hRb hOc)) (SubR.ro gc) rfl (fun l hB tm h ht hh => by show _ /\ _; exact ⟨hB, hh.fr⟩) (fun v54 D54 hP54 => ?_))))))))))))
 obtain ⟨Y, rfl, hQO, hQp, hQs⟩ := hP54
 refine XO.subH (hs' := _ :: _ :: _ :: (hs ++ G ++ D54)) (SubH.op (aw (N := []) (G := D54) (K := [_, _, _]) (X := hs ++ G))) (XO.pre 1 (WO.store di rfl rfl (i := 0) rfl (au rfl (au rfl (au rfl (au (OwnE.cell hQO) rfl)))) (cs := [_, _, _, _]) rfl (hs' := _ :: _ :: _ :: _) rfl (WO.nil (eC (XO.nil (XEnd.K (Ev.X.ret ?_)))))))
 refine XEnd.ret (ResL.agg (c := [_, _, _, _]) rfl (zt 0 rfl) jF di rfl ResL.nil) (hs' := G ++ D54) ⟨Y, o, G, D54, rfl, rfl, hQO, fun x hx => hOx x (hQp.mem_iff.1 hx), by have hf : R.take i = R := List.take_of_length_le zy; rw [hf] at hOc; rw [<- hOc]; exact hQp.map _, hQs, hG⟩ (wa hG hQO.w) (SubH.trans gc (SubH.of_sublist (List.sublist_append_right [_, _, _] _)))

section
variable {tb : Tab} {n : Nat} {E : Env} {s : St} {hs : af} {R : T AV -> AHeap -> Prop} {ops rest : List Oper} {d : Nat} {t : TypeId} {ty : TypeId} {pos : String} {aft : Array Edge}
theorem WO.makeMap {kt et : Nat} (hu : bO (tb.und t) = some (kt, et)) (hd : Nat.blt d n = true) (hk : ∀ b, WO tb n ops rest E ((d, .map b) :: s) (⟨b, ⟨0, true, []⟩, true⟩ :: hs) R) :
  WO tb n ops (⟨some d, .makeMap t none, ty, pos, aft, none⟩ :: rest) E s hs R := by
 refine WO.l (s' := s) fun tm h ht hh => ?_
 refine ⟨.map h.next, ⟨h.next + 1, h.objs.set h.next ⟨0, true, []⟩⟩, tm.set d (.map h.next), ?_, aO hd, hk h.next _ _ (ht.set d _) (hh.new _)⟩
 show Res.l (dI tb tm h t none) = _
 unfold dI
 simp only [hu]
theorem Dx {ox ok : Operand} {kt et b j : Nat} {o : AObj} {w : Bool} {k z v : AV} {oko : Bool} (hu : bO (tb.und t) = some (kt, et)) (hx : oL s ox = some (.map b)) (hy : oL s ok = some k) (hm : ⟨b, o, w⟩ ∈ hs)
  (hkey : fi tb (tb.und kt) k = true) (hz : tb.zero et = some z) (hf : d7 (ef tb 20 kt) k o.cells 0 = some (some j)) (h1 : o.cells[3 * j + 1]? = some v) : QV tb s hs (.lookup t ox ok oko) (jq oko v true) := by
 intro tm h ht hh call
 have hob := hh _ hm
 simp only at hob
 show Res.q (eG tb tm h.objs t ox ok oko) = _
 unfold eG
 simp only [hu, aR ht hx, aR ht hy]
 unfold yg
 simp only [hkey, hob, hz, hf]
 unfold vF
 simp only [h1]
theorem Dw {ox ok : Operand} {kt et b : Nat} {o : AObj} {w : Bool} {k z : AV} {oko : Bool} (hu : bO (tb.und t) = some (kt, et)) (hx : oL s ox = some (.map b)) (hy : oL s ok = some k) (hm : ⟨b, o, w⟩ ∈ hs)
  (hkey : fi tb (tb.und kt) k = true) (hz : tb.zero et = some z) (hf : d7 (ef tb 20 kt) k o.cells 0 = some none) : QV tb s hs (.lookup t ox ok oko) (jq oko z false) := by
 intro tm h ht hh call
 have hob := hh _ hm
 simp only at hob
 show Res.q (eG tb tm h.objs t ox ok oko) = _
 unfold eG
 simp only [hu, aR ht hx, aR ht hy]
 unfold yg
 simp only [hkey, hob, hz, hf]
 rfl
theorem yN {ox ok oy : Operand} {kt et i b cnt : Nat} {ex : Bool} {cells cs : List AV} {k v : AV} {hs' : af} (hu : bO (tb.und t) = some (kt, et)) (hx : oL s ox = some (.map b)) (hy : oL s ok = some k) (hv : oL s oy = some v) (hi : hs[i]? = some ⟨b, ⟨cnt, ex, cells⟩, true⟩)
  (hkey : fi tb (tb.und kt) k = true) (hf : d7 (ef tb 20 kt) k cells 0 = some none) (hc : cells ++ [k, v, .int .i64 ((cnt : Nat) : Int)] = cs) (hs_ : hs.set i ⟨b, ⟨cnt + 1, ex, cs⟩, true⟩ = hs')
  (hk : WO tb n ops rest E s hs' R) : WO tb n ops (⟨none, .mapUpdate t ox ok oy, ty, pos, aft, none⟩ :: rest) E s hs R := by
 refine WO.l (s' := s) fun tm h ht hh => ?_
 have hob := (hh.at_ _ (dl hi)).1
 simp only at hob
 subst hs_ hc
 refine ⟨.tuple [], ⟨h.next, h.objs.set b ⟨cnt + 1, ex, cells ++ [k, v, .int .i64 ((cnt : Nat) : Int)]⟩⟩, tm, ?_, rfl, hk _ _ ht (hh.put hi)⟩
 show Res.l (du tb tm h t ox ok oy) = _
 unfold du
 simp only [hu, aR ht hx, aR ht hy, aR ht hv, hkey, hob, hf]
 rfl
end
theorem sn {tb : Tab} {kt : Nat} (hu : tb.und kt = some .string) (k : List Nat) : fi tb (tb.und kt) (.str k) = true := by
 unfold fi
 simp only [hu]
theorem H0 : tab.isAgg 270 = some true := by kernel_rfl
theorem Fu : tab.isAgg 274 = some false := by kernel_rfl
theorem AK : AO tab 270 = some ⟨1, true, [.nilf]⟩ := by kernel_rfl
theorem DV : ∀ l : List AV, l.length = 2 -> bk tab 65 l = ⟨2, true, l⟩ := by intro l h; exact aX (by kernel_rfl) h
theorem Jf : PL tab 270 [.nilf] [(0, 1)] = true := by kernel_rfl
theorem yF : tab.size 270 = some 1 := by kernel_rfl
theorem j4 : tab.und 275 = some (.slice 57) := by kernel_rfl
theorem FN : tab.und 340 = some (.int .u64) := by kernel_rfl
theorem Jz : tab.und 5 = some (.int .u8) := by kernel_rfl
theorem GC  : Spec tab 241 [.nils, .str [44, 32]] [] [] (bN (.str [])) := by
 refine ac (bz 241 Tryz.func241) rfl (m := 75) rfl (rs := [.tmp 4]) rfl (st := [(0, .nils), (1, .str [44, 32])]) rfl rfl (fun _ => rfl) (fun E => zr (zq (Q.assign (oc (v := .str []) (by kernel_rfl))) (zk (W.seq (zr (zm rfl (zq (Q.len mY rfl rfl) (zk (W.block (zr (zq (aa rfl (zi 0) rfl (ai (p := true) rfl)) (za rfl (zk (W.condT rfl (zr (zq (Q.assign (oc (v := .str []) (by kernel_rfl))) (zk (W.ret (ah (ad (ae (z1 rfl) ?_)))))))))))))))))))))
 rfl

theorem Ji  : Spec tab 193 [.nils] [] [] (bN (.str [123, 125])) := by
 refine ac (bz 193 Tryz.func193) rfl (m := 27) rfl (rs := [.tmp 2]) rfl (st := [(0, .nils)]) rfl rfl (fun _ => rfl) (fun E => zr (zq (Q.assign (oc (v := .str []) (by kernel_rfl))) (zk (zr (za rfl (zk (W.seq (zr (zm rfl (zq (Q.len cW rfl rfl) (zq (Q.move (zi 0)) (zk (W.block (W.loop (zr (zq (aa rfl rfl rfl (bu (p := false) rfl)) (zk (W.seq (W.condF rfl (W.exit (am (aq (ap (End.K (zr (zm rfl ?_))))))))))))))))))))))))))
 refine ak rfl (aj rfl (aj (oc (v := .str [44, 32]) (by kernel_rfl)) oz)) rfl GC SubR.nil rfl (zq (aa (oc (v := .str [123]) (by kernel_rfl)) rfl rfl (tg (r := [123]) rfl)) (zq (aa rfl (oc (v := .str [125]) (by kernel_rfl)) rfl (tg (r := [123, 125]) rfl)) (za rfl (zk (W.ret (ae (z1 rfl) ?_))))))
 rfl

theorem Cd (lv : AV) (n : Int) (hlv : lv.isCell = true) (m1 m2 : Nat) (x1 : Bool) : Spec tab 189 [.agg [lv, .int .i64 n], .ptr m1 0, .ptr m2 0] [] [⟨m1, ⟨1, x1, [.int .i64 ((0 : Nat) : Int)]⟩, false⟩] (bN (.nils)) := by
 refine ac (bz 189 Tryz.func189) rfl (m := 12) rfl (rs := [.tmp 4]) rfl (st := [(0, .agg [lv, .int .i64 n]), (1, .ptr m1 0), (2, .ptr m2 0)]) rfl rfl (fun _ => rfl) (fun E => zr (WO.box rfl (au hlv rfl) (DV _ rfl) rfl (fun b1 => za rfl (zk (W.seq (zr (zq (ag rfl (zt 1 rfl) bH rfl) (zq (aa rfl (zi 0) rfl (ai (p := true) rfl)) (zk (W.condT rfl (zr (za rfl (zk (W.ret (ad (ae (z1 rfl) ?_))))))))))))))))
 rfl

theorem Db (lv : AV) (n : Int) (hlv : lv.isCell = true) (hlb : lv.beq lv = true) (l1 m1 m2 : Nat) (xl x1 : Bool) : Spec tab 192 [.agg [lv, .int .i64 n], .ptr l1 0] [] [⟨l1, ⟨1, xl, [.func 189 [.ptr m1 0, .ptr m2 0]]⟩, false⟩, ⟨m1, ⟨1, x1, [.int .i64 ((0 : Nat) : Int)]⟩, false⟩] (bN (.str [123, 125])) := by
 refine ac (bz 192 Tryz.func192) rfl (m := 8) rfl (rs := [.tmp 3]) rfl (st := [(0, .agg [lv, .int .i64 n]), (1, .ptr l1 0)]) rfl rfl (fun _ => rfl) (fun E => zr (WO.box rfl (au hlv rfl) (DV _ rfl) rfl (fun b1 => zq (Q.assign (oc (v := .str []) (by kernel_rfl))) (zk (zr (zq (ag rfl (zt 1 rfl) Fu rfl) (zq (ax rfl (zt 0 rfl) kK dN (l := [_, _]) rfl) (ak rfl (aj rfl oz) rfl (Cd _ _ hlv m1 m2 x1) (SubR.one (zt 2 rfl)) rfl (ak rfl (aj rfl oz) rfl Ji SubR.nil rfl (za rfl (zk (W.ret (ae (z1 rfl) ?_)))))))))))))
 rfl

theorem qI  : Spec tab 188 [.str [115, 117, 109]] [] [] (bN (.tuple [.agg [.func 232 []], .bool true])) := by
 refine ac (bz 188 Tryz.func188) rfl (m := 27) rfl (rs := [.cell 2 270, .tmp 3]) rfl (st := [(0, .str [115, 117, 109])]) rfl rfl (fun _ => rfl) (fun E => zr (WO.alloc AK rfl (fun b1 => za rfl (zk (W.seq (zr (zm rfl (zk (W.block (zr (zq (aa rfl (oc (v := .str [115, 117, 109]) (by kernel_rfl)) rfl (aH (p := true) rfl)) (za rfl (zk (W.condT rfl (zr (zq (Q.build Jf (cy rfl dE) rfl (cs := [_]) rfl) (WO.store yF rfl rfl (i := 0) rfl rfl (cs := [_]) rfl (hs' := [_]) rfl (za rfl (zk (W.ret (ah (ad (ae (ResL.agg (c := [_]) rfl (zt 0 rfl) H0 yF rfl (z1 rfl)) ?_)))))))))))))))))))))))
 rfl

theorem IJ (F : Nat) (C : List AV) : Spec tab 281 [.nils, .int .i64 ((0 : Nat) : Int), .int .i64 ((0 : Nat) : Int), .func F C] [] [] (bN (.tuple [])) := by
 refine ac (bz 281 Tryz.func281) rfl (m := 53) rfl (rs := []) rfl (st := [(0, .nils), (1, .int .i64 ((0 : Nat) : Int)), (2, .int .i64 ((0 : Nat) : Int)), (3, .func F C)]) rfl rfl (fun _ => rfl) (fun E => zr (zm rfl (zq (aa rfl (zi 1) rfl (bc (c := (((1 : Nat)) : Int)) (by decide))) (za rfl (zk (W.block (W.loop (W.seq (zr (zm rfl (zm rfl (zq (aa rfl rfl rfl (bu (p := false) rfl)) (zk (W.condF rfl (W.exit (am (aq (ap (ae ResL.nil ?_)))))))))))))))))))
 rfl

theorem Jt (F : Nat) (C : List AV) : Spec tab 258 [.nils, .int .i64 ((0 : Nat) : Int), .func F C] [] [] (bN (.tuple [])) := by
 refine ac (bz 258 Tryz.func258) rfl (m := 63) rfl (rs := []) rfl (st := [(0, .nils), (1, .int .i64 ((0 : Nat) : Int)), (2, .func F C)]) rfl rfl (fun _ => rfl) (fun E => zr (za (zi 20) (zk (zr (zm rfl (za (zi 0) (za rfl (zk (W.seq (W.block (W.loop (W.seq (zr (zm rfl (zm rfl (zq (aa rfl rfl rfl (aZ (p := false) rfl)) (zk (W.condF rfl (W.exit (am (aq (ap (End.K (zr (zm rfl (zm rfl ?_))))))))))))))))))))))))))
 refine zm rfl (zm rfl (ak rfl (aj rfl (aj rfl (aj rfl (aj rfl oz)))) rfl (IJ _ _) SubR.nil rfl (zk (W.block (W.loop (W.seq (zr (zm rfl (zm rfl (zq (aa rfl rfl rfl (bu (p := false) rfl)) (zk (W.condF rfl (W.exit (am (aq (ap (ae ResL.nil ?_)))))))))))))))))
 rfl

theorem Jr (F : Nat) (C : List AV) : Spec tab 230 [.nils, .func F C] [] [] (bN (.tuple [])) := by
 refine ac (bz 230 Tryz.func230) rfl (m := 9) rfl (rs := []) rfl (st := [(0, .nils), (1, .func F C)]) rfl rfl (fun _ => rfl) (fun E => W.reg (zm rfl (zm rfl (zq (Q.len eW rfl rfl) (zm rfl (ak rfl (aj rfl (aj rfl (aj rfl oz))) rfl (Jt _ _) SubR.nil rfl (WO.nil (ae ResL.nil ?_))))))))
 rfl

theorem HK  : Spec tab 187 [.nils] [] [] (bN (.tuple [.nils, .int .i64 ((0 : Nat) : Int)])) := by
 refine ac (bz 187 Tryz.func187) rfl (m := 27) rfl (rs := [.tmp 2, .tmp 3]) rfl (st := [(0, .nils)]) rfl rfl (fun _ => rfl) (fun E => zr (za rfl (za (zi 0) (zk (zr (zm rfl (ak rfl (aj rfl (aj rfl oz)) rfl (Jr _ _) SubR.nil rfl (zk (W.seq (zr (za (zi 1) (zk (W.block (W.loop (W.seq (zr (zm rfl (zm rfl (zq (Q.len eW rfl rfl) (zq (aa rfl rfl rfl (bu (p := false) rfl)) (zk (W.condF rfl (W.exit ?_)))))))))))))))))))))))
 refine am (aq (ap (End.K (zr (zm rfl (za rfl (za (zi 0) (zk (W.ret (ae (ResL.tmp rfl (z1 rfl)) ?_))))))))))
 rfl

theorem EH  : Spec tab 272 [.int .u64 ((0 : Nat) : Int)] [] [] (bN (.int .i64 ((0 : Nat) : Int))) := by
 refine ac (bz 272 Tryz.func272) rfl (m := 25) rfl (rs := [.tmp 2]) rfl (st := [(0, .int .u64 ((0 : Nat) : Int))]) rfl rfl (fun _ => rfl) (fun E => zr (za (zi 0) (zk (W.seq (zr (zm rfl (zq (aa rfl (oc (v := .int .u64 ((4294967296 : Nat) : Int)) rfl) rfl (bp (p := false) rfl)) (zk (W.condF rfl (zw (W.seq (zr (zm rfl (zq (aa rfl (oc (v := .int .u64 ((65536 : Nat) : Int)) rfl) rfl (bp (p := false) rfl)) (zk (W.condF rfl (zw (W.seq (zr (zm rfl (zq (aa rfl (oc (v := .int .u64 ((256 : Nat) : Int)) rfl) rfl (bp (p := false) rfl)) (zk (W.condF rfl ?_)))))))))))))))))))))))
 refine zw (zr (zm rfl (zm rfl (zq (eK FN Jz rfl (Ko zo)) (zq (dY (c := 0) cf (oc (v := .str [0, 1, 2, 2, 3, 3, 3, 3, 4, 4, 4, 4, 4, 4, 4, 4, 5, 5, 5, 5, 5, 5, 5, 5, 5, 5, 5, 5, 5, 5, 5, 5, 6, 6, 6, 6, 6, 6, 6, 6, 6, 6, 6, 6, 6, 6, 6, 6, 6, 6, 6, 6, 6, 6, 6, 6, 6, 6, 6, 6, 6, 6, 6, 6, 7, 7, 7, 7, 7, 7, 7, 7, 7, 7, 7, 7, 7, 7, 7, 7, 7, 7, 7, 7, 7, 7, 7, 7, 7, 7, 7, 7, 7, 7, 7, 7, 7, 7, 7, 7, 7, 7, 7, 7, 7, 7, 7, 7, 7, 7, 7, 7, 7, 7, 7, 7, 7, 7, 7, 7, 7, 7, 7, 7, 7, 7, 7, 7, 8, 8, 8, 8, 8, 8, 8, 8, 8, 8, 8, 8, 8, 8, 8, 8, 8, 8, 8, 8, 8, 8, 8, 8, 8, 8, 8, 8, 8, 8, 8, 8, 8, 8, 8, 8, 8, 8, 8, 8, 8, 8, 8, 8, 8, 8, 8, 8, 8, 8, 8, 8, 8, 8, 8, 8, 8, 8, 8, 8, 8, 8, 8, 8, 8, 8, 8, 8, 8, 8, 8, 8, 8, 8, 8, 8, 8, 8, 8, 8, 8, 8, 8, 8, 8, 8, 8, 8, 8, 8, 8, 8, 8, 8, 8, 8, 8, 8, 8, 8, 8, 8, 8, 8, 8, 8, 8, 8, 8, 8, 8, 8, 8, 8, 8, 8, 8, 8, 8, 8, 8, 8, 8, 8, 8, 8, 8, 8]) (by kernel_rfl)) rfl (by decide) rfl) (zq (eK Jz Ah rfl (sQ zo)) (zq (aa rfl rfl rfl (bc (c := (((0 : Nat)) : Int)) (by decide))) (za rfl (zk (W.ret (ae (z1 rfl) ?_)))))))))))
 rfl

theorem IT  : Spec tab 243 [.int .u64 ((0 : Nat) : Int)] [] [] (bN (.int .i64 ((0 : Nat) : Int))) := by
 refine ac (bz 243 Tryz.func243) rfl (m := 8) rfl (rs := [.tmp 2]) rfl (st := [(0, .int .u64 ((0 : Nat) : Int))]) rfl rfl (fun _ => rfl) (fun E => zr (za (zi 0) (zk (W.seq (W.condF rfl (zw (zr (zm rfl (ak rfl (aj rfl oz) rfl EH SubR.nil rfl (za rfl (zk (W.ret (ae (z1 rfl) ?_)))))))))))))
 rfl

theorem Iz (F : Nat) (C : List AV) : Spec tab 263 [.nils, .int .i64 ((0 : Nat) : Int), .int .i64 ((0 : Nat) : Int), .func F C] [] [] (bN (.tuple [])) := by
 refine ac (bz 263 Tryz.func263) rfl (m := 53) rfl (rs := []) rfl (st := [(0, .nils), (1, .int .i64 ((0 : Nat) : Int)), (2, .int .i64 ((0 : Nat) : Int)), (3, .func F C)]) rfl rfl (fun _ => rfl) (fun E => zr (zm rfl (zq (aa rfl (zi 1) rfl (bc (c := (((1 : Nat)) : Int)) (by decide))) (za rfl (zk (W.block (W.loop (W.seq (zr (zm rfl (zm rfl (zq (aa rfl rfl rfl (bu (p := false) rfl)) (zk (W.condF rfl (W.exit (am (aq (ap (ae ResL.nil ?_)))))))))))))))))))
 rfl

theorem Jc (F : Nat) (C : List AV) : Spec tab 242 [.nils, .int .i64 ((0 : Nat) : Int), .int .i64 ((0 : Nat) : Int), .int .i64 ((0 : Nat) : Int), .func F C] [] [] (bN (.tuple [])) := by
 refine ac (bz 242 Tryz.func242) rfl (m := 148) rfl (rs := []) rfl (st := [(0, .nils), (1, .int .i64 ((0 : Nat) : Int)), (2, .int .i64 ((0 : Nat) : Int)), (3, .int .i64 ((0 : Nat) : Int)), (4, .func F C)]) rfl rfl (fun _ => rfl) (fun E => zr (za rfl (zk (zr (za rfl (zk (W.block (W.loop (W.block (zr (zm rfl (zm rfl (zq (aa rfl rfl rfl (bM (c := (((0 : Nat)) : Int)) (by decide))) (za rfl (zk (W.seq (zr (zm rfl (zq (aa rfl (zi 12) rfl (aZ (p := true) rfl)) (zk (W.condT rfl (zr (zm rfl ?_)))))))))))))))))))))))
 refine zm rfl (zm rfl (zm rfl (ak rfl (aj rfl (aj rfl (aj rfl (aj rfl oz)))) rfl (Iz _ _) SubR.nil rfl (zk (W.sub aI (W.ret (ad (ah (aU (ah (ae ResL.nil ?_)))))))))))
 rfl

theorem ID (F : Nat) (C : List AV) : Spec tab 194 [.nils, .func F C] [] [] (bN (.tuple [])) := by
 refine ac (bz 194 Tryz.func194) rfl (m := 14) rfl (rs := []) rfl (st := [(0, .nils), (1, .func F C)]) rfl rfl (fun _ => rfl) (fun E => zr (zm rfl (zq (Q.len j4 rfl rfl) (za rfl (zk (W.reg (zm rfl (zm rfl (zm rfl (zq (eK Ah kF rfl (nz zo)) (ak rfl (aj rfl oz) rfl IT SubR.nil rfl (zm rfl (ak rfl (aj rfl (aj (zi 0) (aj rfl (aj rfl (aj rfl oz))))) rfl (Jc _ _) SubR.nil rfl (WO.nil (ae ResL.nil ?_)))))))))))))))
 rfl

theorem IK (B : Nat) (F : Nat) (C : List AV) : Spec tab 281 [.slice B 0 1 2, .int .i64 ((0 : Nat) : Int), .int .i64 ((1 : Nat) : Int), .func F C] [] [] (bN (.tuple [])) := by
 refine ac (bz 281 Tryz.func281) rfl (m := 53) rfl (rs := []) rfl (st := [(0, .slice B 0 1 2), (1, .int .i64 ((0 : Nat) : Int)), (2, .int .i64 ((1 : Nat) : Int)), (3, .func F C)]) rfl rfl (fun _ => rfl) (fun E => zr (zm rfl (zq (aa rfl (zi 1) rfl (bc (c := (((1 : Nat)) : Int)) (by decide))) (za rfl (zk (W.block (W.loop (W.seq (zr (zm rfl (zm rfl (zq (aa rfl rfl rfl (bu (p := false) rfl)) (zk (W.condF rfl (W.exit (am (aq (ap (ae ResL.nil ?_)))))))))))))))))))
 rfl

theorem Ju (B : Nat) (F : Nat) (C : List AV) : Spec tab 258 [.slice B 0 1 2, .int .i64 ((1 : Nat) : Int), .func F C] [] [] (bN (.tuple [])) := by
 refine ac (bz 258 Tryz.func258) rfl (m := 63) rfl (rs := []) rfl (st := [(0, .slice B 0 1 2), (1, .int .i64 ((1 : Nat) : Int)), (2, .func F C)]) rfl rfl (fun _ => rfl) (fun E => zr (za (zi 20) (zk (zr (zm rfl (za (zi 0) (za rfl (zk (W.seq (W.block (W.loop (W.seq (zr (zm rfl (zm rfl (zq (aa rfl rfl rfl (aZ (p := false) rfl)) (zk (W.condF rfl (W.exit (am (aq (ap (End.K (zr (zm rfl (zm rfl ?_))))))))))))))))))))))))))
 refine zm rfl (zm rfl (ak rfl (aj rfl (aj rfl (aj rfl (aj rfl oz)))) rfl (IK B _ _) SubR.nil rfl (zk (W.block (W.loop (W.seq (zr (zm rfl (zm rfl (zq (aa rfl rfl rfl (bu (p := false) rfl)) (zk (W.condF rfl (W.exit (am (aq (ap (ae ResL.nil ?_)))))))))))))))))
 rfl

theorem Js (B : Nat) (F : Nat) (C : List AV) : Spec tab 230 [.slice B 0 1 2, .func F C] [] [] (bN (.tuple [])) := by
 refine ac (bz 230 Tryz.func230) rfl (m := 9) rfl (rs := []) rfl (st := [(0, .slice B 0 1 2), (1, .func F C)]) rfl rfl (fun _ => rfl) (fun E => W.reg (zm rfl (zm rfl (zq (Q.len eW rfl rfl) (zm rfl (ak rfl (aj rfl (aj rfl (aj rfl oz))) rfl (Ju B _ _) SubR.nil rfl (WO.nil (ae ResL.nil ?_))))))))
 rfl

theorem HL (B : Nat)  : Spec tab 187 [.slice B 0 1 2] [] [] (bN (.tuple [.slice B 0 1 2, .int .i64 ((0 : Nat) : Int)])) := by
 refine ac (bz 187 Tryz.func187) rfl (m := 27) rfl (rs := [.tmp 2, .tmp 3]) rfl (st := [(0, .slice B 0 1 2)]) rfl rfl (fun _ => rfl) (fun E => zr (za rfl (za (zi 0) (zk (zr (zm rfl (ak rfl (aj rfl (aj rfl oz)) rfl (Js B _ _) SubR.nil rfl (zk (W.seq (zr (za (zi 1) (zk (W.block (W.loop (W.seq (zr (zm rfl (zm rfl (zq (Q.len eW rfl rfl) (zq (aa rfl rfl rfl (bu (p := false) rfl)) (zk (W.condF rfl (W.exit ?_)))))))))))))))))))))))
 refine am (aq (ap (End.K (zr (zm rfl (za rfl (za (zi 0) (zk (W.ret (ae (ResL.tmp rfl (z1 rfl)) ?_))))))))))
 rfl

theorem EI  : Spec tab 272 [.int .u64 ((1 : Nat) : Int)] [] [] (bN (.int .i64 ((1 : Nat) : Int))) := by
 refine ac (bz 272 Tryz.func272) rfl (m := 25) rfl (rs := [.tmp 2]) rfl (st := [(0, .int .u64 ((1 : Nat) : Int))]) rfl rfl (fun _ => rfl) (fun E => zr (za (zi 0) (zk (W.seq (zr (zm rfl (zq (aa rfl (oc (v := .int .u64 ((4294967296 : Nat) : Int)) rfl) rfl (bp (p := false) rfl)) (zk (W.condF rfl (zw (W.seq (zr (zm rfl (zq (aa rfl (oc (v := .int .u64 ((65536 : Nat) : Int)) rfl) rfl (bp (p := false) rfl)) (zk (W.condF rfl (zw (W.seq (zr (zm rfl (zq (aa rfl (oc (v := .int .u64 ((256 : Nat) : Int)) rfl) rfl (bp (p := false) rfl)) (zk (W.condF rfl ?_)))))))))))))))))))))))
 refine zw (zr (zm rfl (zm rfl (zq (eK FN Jz rfl (Ko zo)) (zq (dY (c := 1) cf (oc (v := .str [0, 1, 2, 2, 3, 3, 3, 3, 4, 4, 4, 4, 4, 4, 4, 4, 5, 5, 5, 5, 5, 5, 5, 5, 5, 5, 5, 5, 5, 5, 5, 5, 6, 6, 6, 6, 6, 6, 6, 6, 6, 6, 6, 6, 6, 6, 6, 6, 6, 6, 6, 6, 6, 6, 6, 6, 6, 6, 6, 6, 6, 6, 6, 6, 7, 7, 7, 7, 7, 7, 7, 7, 7, 7, 7, 7, 7, 7, 7, 7, 7, 7, 7, 7, 7, 7, 7, 7, 7, 7, 7, 7, 7, 7, 7, 7, 7, 7, 7, 7, 7, 7, 7, 7, 7, 7, 7, 7, 7, 7, 7, 7, 7, 7, 7, 7, 7, 7, 7, 7, 7, 7, 7, 7, 7, 7, 7, 7, 8, 8, 8, 8, 8, 8, 8, 8, 8, 8, 8, 8, 8, 8, 8, 8, 8, 8, 8, 8, 8, 8, 8, 8, 8, 8, 8, 8, 8, 8, 8, 8, 8, 8, 8, 8, 8, 8, 8, 8, 8, 8, 8, 8, 8, 8, 8, 8, 8, 8, 8, 8, 8, 8, 8, 8, 8, 8, 8, 8, 8, 8, 8, 8, 8, 8, 8, 8, 8, 8, 8, 8, 8, 8, 8, 8, 8, 8, 8, 8, 8, 8, 8, 8, 8, 8, 8, 8, 8, 8, 8, 8, 8, 8, 8, 8, 8, 8, 8, 8, 8, 8, 8, 8, 8, 8, 8, 8, 8, 8, 8, 8, 8, 8, 8, 8, 8, 8, 8, 8, 8, 8, 8, 8, 8, 8, 8, 8]) (by kernel_rfl)) rfl (by decide) rfl) (zq (eK Jz Ah rfl (sQ zo)) (zq (aa rfl rfl rfl (bc (c := (((1 : Nat)) : Int)) (by decide))) (za rfl (zk (W.ret (ae (z1 rfl) ?_)))))))))))
 rfl

theorem IU  : Spec tab 243 [.int .u64 ((1 : Nat) : Int)] [] [] (bN (.int .i64 ((1 : Nat) : Int))) := by
 refine ac (bz 243 Tryz.func243) rfl (m := 8) rfl (rs := [.tmp 2]) rfl (st := [(0, .int .u64 ((1 : Nat) : Int))]) rfl rfl (fun _ => rfl) (fun E => zr (za (zi 0) (zk (W.seq (W.condF rfl (zw (zr (zm rfl (ak rfl (aj rfl oz) rfl EI SubR.nil rfl (za rfl (zk (W.ret (ae (z1 rfl) ?_)))))))))))))
 rfl

theorem IA (B : Nat) (F : Nat) (C : List AV) : Spec tab 263 [.slice B 0 1 1, .int .i64 ((0 : Nat) : Int), .int .i64 ((1 : Nat) : Int), .func F C] [] [] (bN (.tuple [])) := by
 refine ac (bz 263 Tryz.func263) rfl (m := 53) rfl (rs := []) rfl (st := [(0, .slice B 0 1 1), (1, .int .i64 ((0 : Nat) : Int)), (2, .int .i64 ((1 : Nat) : Int)), (3, .func F C)]) rfl rfl (fun _ => rfl) (fun E => zr (zm rfl (zq (aa rfl (zi 1) rfl (bc (c := (((1 : Nat)) : Int)) (by decide))) (za rfl (zk (W.block (W.loop (W.seq (zr (zm rfl (zm rfl (zq (aa rfl rfl rfl (bu (p := false) rfl)) (zk (W.condF rfl (W.exit (am (aq (ap (ae ResL.nil ?_)))))))))))))))))))
 rfl

theorem Jd (B : Nat) (F : Nat) (C : List AV) : Spec tab 242 [.slice B 0 1 1, .int .i64 ((0 : Nat) : Int), .int .i64 ((1 : Nat) : Int), .int .i64 ((1 : Nat) : Int), .func F C] [] [] (bN (.tuple [])) := by
 refine ac (bz 242 Tryz.func242) rfl (m := 148) rfl (rs := []) rfl (st := [(0, .slice B 0 1 1), (1, .int .i64 ((0 : Nat) : Int)), (2, .int .i64 ((1 : Nat) : Int)), (3, .int .i64 ((1 : Nat) : Int)), (4, .func F C)]) rfl rfl (fun _ => rfl) (fun E => zr (za rfl (zk (zr (za rfl (zk (W.block (W.loop (W.block (zr (zm rfl (zm rfl (zq (aa rfl rfl rfl (bM (c := (((1 : Nat)) : Int)) (by decide))) (za rfl (zk (W.seq (zr (zm rfl (zq (aa rfl (zi 12) rfl (aZ (p := true) rfl)) (zk (W.condT rfl (zr (zm rfl ?_)))))))))))))))))))))))
 refine zm rfl (zm rfl (zm rfl (ak rfl (aj rfl (aj rfl (aj rfl (aj rfl oz)))) rfl (IA B _ _) SubR.nil rfl (zk (W.sub aI (W.ret (ad (ah (aU (ah (ae ResL.nil ?_)))))))))))
 rfl

theorem IE (B : Nat) (F : Nat) (C : List AV) : Spec tab 194 [.slice B 0 1 1, .func F C] [] [] (bN (.tuple [])) := by
 refine ac (bz 194 Tryz.func194) rfl (m := 14) rfl (rs := []) rfl (st := [(0, .slice B 0 1 1), (1, .func F C)]) rfl rfl (fun _ => rfl) (fun E => zr (zm rfl (zq (Q.len j4 rfl rfl) (za rfl (zk (W.reg (zm rfl (zm rfl (zm rfl (zq (eK Ah kF rfl (nz zo)) (ak rfl (aj rfl oz) rfl IU SubR.nil rfl (zm rfl (ak rfl (aj rfl (aj (zi 0) (aj rfl (aj rfl (aj rfl oz))))) rfl (Jd B _ _) SubR.nil rfl (WO.nil (ae ResL.nil ?_)))))))))))))))
 rfl

end Go.Proofs.YtfkbfnpjggkdmaaGreatDoor.Ev
