/- Chapter 10, a walk: an index of sets of labels. -/
import Derived.Test.YtfkbfnpjggkdmaaGreatDoorCPYg
import Derived.Test.YtfkbfnpjggkdmaaGreatDoorCVk
namespace Go.Proofs.YtfkbfnpjggkdmaaGreatDoor.Ev.P19
open Go.RowKit
set_option maxRecDepth 100000
set_option maxHeartbeats 1000000
theorem Ca {tb : Tab} {kt e : Nat} (hu : tb.und kt = some (.array 2 e)) (hs : tb.und e = some .string) (hz : tb.size e = some 1) (k : bA) : fi tb (tb.und kt) (kA k) = true := by
 unfold fi kA
 simp only [hu, hs, hz]
 rfl
theorem zM {V : List El} {i : Nat} (h : ichk1 V i = 0) : (eg V i).2.1.length <= 8 := by
 unfold ichk1 at h
 split at h
 ·rename_i g; exact absurd h g
 ·rename_i g
  have g : lchk (eg V i).2.1 = 0 := Classical.not_not.1 g
  unfold lchk at g
  split at g
  ·cases g
  ·omega
theorem Dn {v : AV} {o n : Nat} (h : v.isCell = true) (hle : Nat.ble (o + 1) n = true) : (Nat.beq v.cells.length 1 && Nat.ble (o + 1) n && v.cells.all AV.isCell) = true := by
 rw [kM h, hle]; simp [h]
theorem JY {a v : AV} {b : List AV} (h : v.isCell = true) : ct (a :: b) 0 v.cells = v :: b := by
 rw [kM h]; simp [ct]
theorem JL {a c : af} (h : ∀ x, a.count x <= c.count x := by intro x; simp only [List.length_set, List.length_append, List.length_cons, List.length_nil, Nat.zero_add, List.append_eq, List.cons_append, List.nil_append, List.append_nil, List.append_assoc, List.count_append, List.count_cons, List.count_nil]; omega) : SubH a c := iD h
theorem Ct (hs : af) (hro : ∀ e ∈ hs, e.w = false) (V : List El) (v : AV) (hT : TIn hs V v) (hB : EBd V) : Spec tab 226 [v] [] hs (ij (fun u => ∃ p, u = .tuple [p, .int .i64 ((ichk V : Nat) : Int)])) := by
 have hBl := hB.1
 refine ac (bz 226 Tryz.func226) rfl (m := 77) rfl (rs := [.tmp 2, .tmp 3]) rfl (st := [(0, v)]) rfl rfl (fun _ => rfl) (fun E => zr (za rfl (za (zi 0) (zk (W.seq (zr (zm rfl (zq (Q.len mZ rfl (TIn.len hT)) (zq (aa rfl (zi 256) rfl (aJ bY)) (zk (aB rfl (fun hc13 => ?_) (fun hc13 => ?_))))))))))))
 ·refine zr (za rfl (za (zi 3) (zk (W.ret (ad (ar (ResL.tmp rfl (z1 rfl)) (⟨.nilp, ?_⟩)))))))
  show AV.tuple _ = _; rw [pj zy]
 refine zw (zr (WO.makeMap Cp rfl (fun mb => zq (Q.build Jg (cy rfl dE) rfl (cs := [_, _]) rfl) (WO.box rfl rfl (If _ rfl) rfl (fun xb => za rfl (zk (W.seq (zr (zm rfl (zq (Q.len mZ rfl (TIn.len hT)) (zq (Q.move (zi 0)) (zk (W.block (W.loop_ind6 (fun (i : Nat) (cs : List AV) (sv : AV) (hp : af) (M : List Me) (PD : af) => [(0, v), (4, .ptr xb 0), (17, v), (18, .int .i64 ((V.length : Nat) : Int)), (19, .int .i64 ((i : Nat) : Int))]) (fun (i : Nat) (cs : List AV) (sv : AV) (hp : af) (M : List Me) (PD : af) => ⟨xb, ⟨2, true, [sv, .map mb]⟩, true⟩ :: ⟨mb, ⟨M.length, true, f4 0 M⟩, true⟩ :: ((hs ++ hp) ++ PD)) (fun (i : Nat) (cs : List AV) (sv : AV) (hp : af) (M : List Me) (PD : af) => i <= V.length /\ V.length <= 256 /\ ichk V = fstE (ichk1 V) (V.length - i) i /\ OwnE 1 cs cs.length sv hp /\ cs.length = i /\ MB (8 * i) M PD) (fun (i : Nat) (cs : List AV) (sv : AV) (hp : af) (M : List Me) (PD : af) => V.length - i) (0) ([]) (.nils) ([]) ([]) ([]) ⟨Nat.zero_le _, by omega, Em zy, OwnE.nil 1, rfl, rfl⟩ zv (by rw [List.append_nil, List.append_nil]; exact SubH.refl _) (fun i cs sv hp M PD hI0 ih0 => ?_)))))))))))))))
 obtain ⟨h1, h256, h3, hO, hcs, hMB⟩ := hI0
 refine zr (zq (aa rfl rfl rfl (bu bY)) (zk (W.seq (aB rfl (fun hc20 => ?_) (fun hc20 => ?_)))))
 ·obtain ⟨bt, szt, ext, rfl, wt, mt⟩ := TIn.full hT zy
  refine zw (W.seq (W.block (zr (zm rfl (zq (bj mZ sL rfl rfl zo) (zq (ag rfl (List.mem_cons_of_mem _ (List.mem_cons_of_mem _ (List.mem_append_left _ (List.mem_append_left _ mt)))) jA (qn zo)) (za rfl (za rfl (zk (W.seq (zr (zm rfl (ak rfl (aj rfl oz) rfl (zQ hs hro _ _ (hT.at zo) (hB.at zo).1) (aQ (aQ (SubR.appl (SubR.appl (aN hro))))) rfl (za rfl (zk (zr (zm rfl (zq (aa rfl (zi 0) rfl (bd gB)) (zk (aB rfl (fun hc27 => ?_) (fun hc27 => ?_)))))))))))))))))))))
  ·refine zr (zm rfl (za rfl (za rfl (zk (W.sub (zc 3 rfl (zc 2 rfl aI)) (W.ret (ad (ah (ad (aU (ah (ad (ar (ResL.tmp rfl (z1 rfl)) (⟨.nilp, ?_⟩))))))))))))))
   show AV.tuple _ = _; rw [h3, w5 (e := lchk (eg V i).2.1) zy (by unfold ichk1; simp_all <;> omega) zy]
  refine zw (j5 (fun (q : Unit) => [(0, .slice bt 0 V.length 1), (4, .ptr xb 0), (5, .int .i64 ((i : Nat) : Int)), (6, (eg V i).1), (17, .slice bt 0 V.length 1), (18, .int .i64 ((V.length : Nat) : Int)), (19, .int .i64 ((i : Nat) : Int))]) (fun (q : Unit) => ichk1 V i = 0) (fun q hI12 => ?_) (fun hJ12 => ?_))
  ·refine W.seq (ez 9 [⟨xb, _, false⟩] (by kernel_rfl) (KIn.cons (zt 0 rfl) KIn.nil) (WD.q (Q.move rfl) eO rfl (WD.q (Q.move rfl) eO rfl (WD.q (aY rfl) eO rfl (WD.q (Q.fieldAddr wW rfl (o' := 0) rfl) eO rfl (WD.q (ag rfl (zt 0 rfl) JO rfl) (OwnE.bq hO) rfl (WD.q (Q.move rfl) (LIn.bq (hT.at zo)) rfl (WD.call0 rfl (aj rfl oz) rfl (kN hs hro _ _ (hT.at zo) (hB.at zo).1) (aQ (aQ (SubR.appl (SubR.appl (aN hro))))) (KIn.cons (zt 0 rfl) KIn.nil) rfl (fun v47 D47 hP47 => WD.subH (hs' := _ :: _ :: (hs ++ PD ++ D47 ++ hp)) (SubH.op (vP (N := []) (G := D47) (K := [_, _]) (X := hs ++ hp ++ PD) (by simp only [List.append_assoc, List.nil_append]; exact List.perm_iff_count.2 (by intro z; simp only [List.append_eq, List.count_append, List.count_nil]; omega)))) (WD.bslice mZ sL Fq rfl (cy rfl dE) rfl (cs := [_]) (BM (OwnE.cell hP47)) (rC (OwnE.cell hP47) rfl) rfl (KIn.cons (zt 0 rfl) KIn.nil) (fun b2 => WD.appAny (A := ([_, _] ++ hs ++ PD ++ D47)) nK hO rfl rfl (Src.slice (zt 0 rfl) rfl) rfl zo (by decide) (SubH.of_sublist (List.sublist_cons_self _ _)) rfl (KIn.cons (zt 0 rfl) KIn.nil) (fun v49 hp49 hO49 => WD.q (aY rfl) eO rfl (WD.q (Q.fieldAddr wW rfl (o' := 0) rfl) eO rfl (WD.store Kf rfl rfl (j := 0) rfl (Dn (OwnE.cell hO49) rfl) (cs := [_, _]) (JY (OwnE.cell hO49)) (hs' := _ :: _ :: _) rfl (fun h => by cases h) (WD.nil (End.K (zr (zm rfl (zq (Q.len cW rfl (LIn.len (hT.at zo))) (zq (Q.move (zi 0)) (zk (W.block (bI (fun (k : Nat) (M : List Me) (PD : af) => [(0, .slice bt 0 V.length 1), (4, .ptr xb 0), (5, .int .i64 ((i : Nat) : Int)), (17, .slice bt 0 V.length 1), (18, .int .i64 ((V.length : Nat) : Int)), (19, .int .i64 ((i : Nat) : Int)), (52, (eg V i).1), (53, .int .i64 (((eg V i).2.1.length : Nat) : Int)), (54, .int .i64 ((k : Nat) : Int))]) (fun (k : Nat) (M : List Me) (PD : af) => ⟨xb, ⟨2, true, [v49, .map mb]⟩, true⟩ :: ⟨mb, ⟨M.length, true, f4 0 M⟩, true⟩ :: ((hs ++ hp49) ++ PD)) (fun (k : Nat) (M : List Me) (PD : af) => k <= (eg V i).2.1.length /\ MB (8 * i + k) M PD) (fun (k : Nat) (M : List Me) (PD : af) => (eg V i).2.1.length - k) (0) (M) (PD) ⟨Nat.zero_le _, hMB.mono zy⟩ zv JL (fun k M PD hI1 ih1 => ?_))))))))))))))))))))))))
   obtain ⟨hk, hMB⟩ := hI1
   refine zr (zq (aa rfl rfl rfl (bu bY)) (zk (W.seq (aB rfl (fun hc55 => ?_) (fun hc55 => ?_)))))
   ·obtain ⟨ba, sza, exa, hva, wa, ma⟩ := LIn.full (hT.at (i := i) zy) zy
    rw [hva]
    have hAi := (hB.at (i := i) zy).1
    have hAil := hAi.1
    refine zw (W.seq (W.block (zr (zq (bj cW eo rfl rfl zo) (zq (ax rfl (List.mem_cons_of_mem _ (List.mem_cons_of_mem _ (List.mem_append_left _ (List.mem_append_left _ ma)))) p4 eo (tj zo)) (WO.alloc yS rfl (fun b3 => WO.store eo rfl rfl (i := 0) rfl rfl (cs := [_, _]) rfl (hs' := _ :: _ :: _ :: _) rfl (zk (zr (zf fw rfl 0 (zq (ag rfl (zt 0 rfl) gP rfl) (zf gX rfl 1 (zq (ag rfl (zt 0 rfl) gP rfl) (zq (Q.build Jh (cy rfl (cy rfl dE)) rfl (cs := [_, _]) rfl) (WO.alloc Ia rfl (fun b4 => WO.store FM rfl rfl (i := 0) rfl rfl (cs := [_, _]) rfl (hs' := _ :: _ :: _ :: _ :: _) rfl (zk (ez 11 [⟨b4, _, false⟩, ⟨xb, _, false⟩] (by kernel_rfl) (KIn.cons (zt 0 rfl) (KIn.cons (zt 2 rfl) KIn.nil)) (WD.q (Q.move rfl) eO rfl (WD.q (aY rfl) eO rfl (WD.q (Q.fieldAddr Eh rfl (o' := 1) rfl) eO rfl (WD.q (ag rfl (zt 1 rfl) H1 rfl) (by simp [AV.beq, dG, dF, d6, dO]) rfl (WD.q (ax rfl (zt 0 rfl) H2 FM (l := [_, _]) rfl) (by simp [AV.beq, dG, dF, d6, dO]) rfl ?_)))))))))))))))))))))))
    refine WD.q (Q.move rfl) cZ rfl (WD.bslice aP dn sS rfl (cy rfl dE) rfl (cs := [_]) rfl rfl rfl (KIn.cons (zt 0 rfl) (KIn.cons (zt 2 rfl) KIn.nil)) (fun b5 => ?_))
    rcases t3 (GE De C9 cf gP) (lg (eg V i).2.1 k) M 0 0 with ⟨hfn, hnew⟩ | ⟨j, vj, hj, hfj⟩
    ·refine WD.entryN Cp rfl rfl (i := 4) rfl (Ca De cf C9 (lg (eg V i).2.1 k)) JB hfn (zY M _ _) (hs' := _ :: _ :: _ :: _ :: _ :: _) rfl rfl (KIn.cons (zt 1 rfl) (KIn.cons (zt 3 rfl) KIn.nil)) (WD.q (Q.extract rfl rfl) rfl rfl (WD.appAny (A := _) eM (OwnE.nil 1) rfl rfl (Src.slice (zt 0 rfl) rfl) rfl zo (by decide) eN rfl (KIn.cons (zt 0 rfl) (KIn.cons (zt 2 rfl) KIn.nil)) (fun v72 hp72 hO72 => WD.q (Q.extract rfl rfl) cZ rfl (m6 rfl rfl rfl (i := 3) rfl Ch EJ (hs' := _ :: _ :: _ :: _ :: _) rfl (fun h => by cases h) (WD.nil (End.KB (End.K (W.sub (zc 0 rfl (zc 4 rfl (zc 5 rfl (zc 17 rfl (zc 18 rfl (zc 19 rfl (zc 52 rfl (zc 53 rfl (zc 54 rfl aI))))))))) (W.reg (zq (aa rfl (zi 1) rfl zp) (zm rfl (WO.nil (End.KL (W.sub (zd rfl (zd rfl (zd rfl (zd rfl (zd rfl (zd rfl (SubS.cons (by rw [hva]; rfl) zv))))))) (cz JL (ih1 (k + 1) (M ++ [(lg (eg V i).2.1 k, v72)]) (PD ++ hp72) ?_ ?_))))))))))))))))
     ·exact ⟨by omega, MB.push zy hO72 zy hMB⟩
     exact zy
    rw [Nat.zero_add] at hfj
    obtain ⟨h0j, h1j, h2j⟩ := tZ M 0 j _ hj
    obtain ⟨PA, csj, lj, hpj, PB, rfl, hOj, hlj, hset⟩ := MB.at hMB hj
    refine WD.subH (hs' := _ :: _ :: _ :: _ :: _ :: (hs ++ hp49 ++ PA ++ PB ++ hpj)) (SubH.op (List.Perm.append_left [_, _, _, _, _] (List.perm_iff_count.2 (by intro z; simp only [List.append_eq, List.count_append, List.count_nil]; omega)))) (WD.entryS Cp rfl rfl (i := 4) rfl (Ca De cf C9 (lg (eg V i).2.1 k)) JB hfj h0j (GD _) h1j h2j rfl (KIn.cons (zt 1 rfl) (KIn.cons (zt 3 rfl) KIn.nil)) (WD.q (Q.extract rfl rfl) (OwnE.bq hOj) rfl (WD.appAny (A := ([_, _, _, _] ++ hs ++ hp49 ++ PA ++ PB)) eM hOj rfl rfl (Src.slice (zt 0 rfl) rfl) rfl zo (by decide) (SubH.of_sublist (List.sublist_cons_self _ _)) rfl (KIn.cons (zt 0 rfl) (KIn.cons (zt 2 rfl) KIn.nil)) (fun v72 hp72 hO72 => WD.q (Q.extract rfl rfl) cZ rfl (m6 rfl rfl rfl (i := 3) rfl (Ci hj) (pv M 0 j _ _ hj) (hs' := _ :: _ :: _ :: _ :: _) rfl (fun h => by cases h) (WD.nil (End.KB (End.K (W.sub (zc 0 rfl (zc 4 rfl (zc 5 rfl (zc 17 rfl (zc 18 rfl (zc 19 rfl (zc 52 rfl (zc 53 rfl (zc 54 rfl aI))))))))) (W.reg (zq (aa rfl (zi 1) rfl zp) (zm rfl (WO.nil (End.KL (W.sub (zd rfl (zd rfl (zd rfl (zd rfl (zd rfl (zd rfl (SubS.cons (by rw [hva]; rfl) zv))))))) (cz JL (ih1 (k + 1) (M.set j (lg (eg V i).2.1 k, v72)) (PA ++ (hp72 ++ PB)) ?_ ?_)))))))))))))))))
    ·exact ⟨by omega, hset _ v72 _ _ hp72 zy hO72 zy⟩
    exact zy
   refine W.exit (am (aq (ap (End.KB (End.K (W.reg (zq (aa rfl (zi 1) rfl zp) (zm rfl (WO.nil (End.KL (W.sub zv (cz JL (ih0 (i + 1) (cs ++ [v47]) (v49) (hp49) (M) (PD) ?_ ?_)))))))))))))
   ·exact ⟨by omega, h256, by rw [h3, BS zy hI12], by rw [List.length_append]; exact hO49, by rw [List.length_append, hcs]; rfl, hMB.mono (by have := zM hI12; omega)⟩
   exact zo
  refine zr (zm rfl (zq (aa rfl (zi 0) rfl (aJ bY)) (zm rfl (aC (d := 31) rfl (fun hc31 => ?_) (fun hc31 => ?_)))))
  ·refine zT (zm rfl (zT (zm rfl (zT (zq (aa rfl (zi 1) rfl (bM (oe zo))) (zT (zq (bj mZ sL rfl rfl zo) (zT (zq (ag rfl (List.mem_cons_of_mem _ (List.mem_cons_of_mem _ (List.mem_append_left _ (List.mem_append_left _ mt)))) jA (qn zo)) (zT (zm rfl (zT (ak rfl (aj rfl (aj rfl oz)) rfl (tz hs hro _ _ _ _ (hT.at zo) (hT.at zo) (hB.at zo).1 (hB.at zo).1) (aQ (aQ (SubR.appl (SubR.appl (aN hro))))) rfl (zT (zq (aa rfl (zi 0) rfl (bp dc)) (zq (aA rfl rfl) (zk (W.sub (zc 40 rfl (zc 6 rfl (zc 5 rfl (zc 0 rfl (zc 4 rfl (zc 17 rfl (zc 18 rfl (zc 19 rfl aI)))))))) (aB rfl (fun hc40 => ?_) (fun hc40 => ?_))))))))))))))))))))
   ·refine zr (za rfl (za (zi 13) (zk (W.ret (ad (ah (ad (aU (ah (ad (ar (ResL.tmp rfl (z1 rfl)) (⟨.nilp, ?_⟩))))))))))))
    show AV.tuple _ = _; rw [h3, w5 (e := 13) zy (by unfold ichk1; simp_all <;> omega) (by decide)]
   refine W.skip (End.K (W.sub zv (hJ12 (()) ?_)))
   exact (by unfold ichk1; simp_all <;> omega)
  refine z2 (z2 (z2 (z2 (zq (aF rfl rfl) (zk (W.sub (zc 40 rfl (zc 6 rfl (zc 5 rfl (zc 0 rfl (zc 4 rfl (zc 17 rfl (zc 18 rfl (zc 19 rfl aI)))))))) (W.condF rfl (W.skip (End.K (W.sub zv (hJ12 (()) ?_)))))))))))
  exact (by unfold ichk1; simp_all <;> omega)
 refine W.exit (am (aq (ap (End.K (zr (zm rfl (za rfl (za (zi 0) (zk (W.ret (ar (ResL.tmp rfl (z1 rfl)) (⟨.ptr xb 0, ?_⟩))))))))))))
 show AV.tuple _ = _; rw [h3, BR zy]
theorem vck_spec (hs : af) (hro : ∀ e ∈ hs, e.w = false) (V : List El) (v : AV) (hV : EIn hs V v) (hB : EBd V) : Spec tab 184 [v] [] hs (bN (.int .i64 ((vchk V : Nat) : Int))) := by
 have hBl := hB.1
 refine ac (bz 184 Tryz.func184) rfl (m := 33) rfl (rs := [.tmp 2]) rfl (st := [(0, v)]) rfl rfl (fun _ => rfl) (fun E => zr (za (zi 0) (zk (W.seq (zr (zm rfl (zq (Q.len eW rfl (EIn.len hV)) (zq (aa rfl (zi 256) rfl (aJ bY)) (zk (aB rfl (fun hc10 => ?_) (fun hc10 => ?_)))))))))))
 ·refine zr (za (zi 3) (zk (W.ret (ad (ae (z1 rfl) ?_)))))
  show AV.int .i64 _ = _; rw [Dg (by rw [pj zy]; decide), pj zy]
 refine zw (zr (za rfl (zk (W.seq (zr (zm rfl (zq (Q.len eW rfl (EIn.len hV)) (zq (Q.move (zi 0)) (zk (W.block (bI (fun (i : Nat) (u : AV) (hp : af) => [(0, v), (3, u), (11, v), (12, .int .i64 ((V.length : Nat) : Int)), (13, .int .i64 ((i : Nat) : Int))]) (fun (i : Nat) (u : AV) (hp : af) => (hs ++ hp)) (fun (i : Nat) (u : AV) (hp : af) => i <= V.length /\ Own 1 ((V.take i).map (·.1)) (V.take i).length u hp) (fun (i : Nat) (u : AV) (hp : af) => V.length - i) (0) (.nils) ([]) ⟨Nat.zero_le _, Own.nil 1⟩ zv m8 (fun i u hp hI0 ih0 => ?_))))))))))))
 obtain ⟨h1, hO⟩ := hI0
 refine zr (zq (aa rfl rfl rfl (bu bY)) (zk (W.seq (aB rfl (fun hc14 => ?_) (fun hc14 => ?_)))))
 ·obtain ⟨bv, szv, exv, rfl, wv, mv⟩ := EIn.full hV zy
  refine zw (W.seq (W.block (zr (zq (bj eW dN rfl rfl zo) (zq (ax rfl (List.mem_append_left _ mv) kK dN (lz zo)) (WO.alloc yR rfl (fun b1 => WO.store dN rfl rfl (i := 0) rfl (rC rfl (rC (LIn.cell (hV.at zy)) rfl)) (cs := [_, _]) rfl (hs' := _ :: _) rfl (zk (W.reg (zm rfl (zf o6 rfl 0 (zq (ag rfl (zt 0 rfl) jA rfl) (WO.bslice mZ sL Fq rfl (cy rfl dE) rfl (cs := [_]) (BM (LIn.cell (hV.at zy))) (rC (LIn.cell (hV.at zy)) rfl) rfl (fun b2 => cw (e := ⟨b2, _, true⟩) (A := ([_] ++ hs)) nK hO rfl rfl rfl rfl ⟨by first | omega | (simp at * <;> omega), by first | omega | (simp at * <;> omega)⟩ (by decide) rfl rfl (fun v21 hp21 hO21 => za rfl (WO.nil (End.KB (End.K (W.reg (zq (aa rfl (zi 1) rfl zp) (zm rfl (WO.nil (End.KL (W.sub zv (cz gc (ih0 (i + 1) (v21) (hp21) ?_ ?_))))))))))))))))))))))))))
  ·exact ⟨by omega, by rw [Fe zy, List.map_append, List.length_append]; exact hO21⟩
  exact zo
 have ht : V.take i = V := List.take_of_length_le zy
 rw [ht] at hO
 refine W.exit (am (aq (ap (End.K (W.seq (zr (zm rfl (WO.callE rfl (aj rfl oz) rfl (Ct (ro hp ++ hs) (Hj hro) V u (TIn.own hO hV.2) hB) (Hw hro) rfl (fun v25 hP25 => ?_)))))))))
 obtain ⟨pn, rfl⟩ := hP25
 refine zm rfl (zq (Q.extract rfl rfl) (zq (Q.extract rfl rfl) (za rfl (za rfl (zk (zr (zm rfl (zq (aa rfl (zi 0) rfl (bd gB)) (zk (aB rfl (fun hc29 => ?_) (fun hc29 => ?_)))))))))))
 ·refine zr (zm rfl (za rfl (zk (W.sub (zc 2 rfl aI) (W.ret (ad (ae (z1 rfl) ?_)))))))
  show AV.int .i64 _ = _; rw [Dg (by simpa using hc29)]
 refine zw (W.sub (zc 0 rfl aI) (W.seq (zr (zm rfl (ak rfl (aj rfl (aj rfl oz)) rfl (Bs hs hro V _ hV hB) (SubR.appl (aN hro)) rfl (zk (W.condS rfl (fun hc32 => ?_) (fun hc32 => ?_))))))))
 ·refine zr (za (zi 11) (zk (W.ret (ad (ae (z1 rfl) ?_)))))
  show AV.int .i64 _ = _; unfold vchk; rw [if_neg (by simpa using hc29)]; simp_all
 refine zw (zr (za (zi 0) (zk (W.ret (ae (z1 rfl) ?_)))))
 show AV.int .i64 _ = _; unfold vchk; rw [if_neg (by simpa using hc29)]; simp_all
end Go.Proofs.YtfkbfnpjggkdmaaGreatDoor.Ev.P19
/- ExecCounts, a plain law: labels without some are right labels; elements in order are a vector. -/
namespace Go.Proofs.YtfkbfnpjggkdmaaGreatDoor.Ev
open Go.RowKit
theorem po {A : List bA} : ∀ n i, P19.lchkG A n i = 0 ↔ ∀ j, i <= j -> j < i + n -> P19.lchk1 A j = 0
 | 0, i => ⟨fun _ j h1 h2 => by omega, fun _ => rfl⟩
 | n + 1, i => by
  unfold P19.lchkG
  by_cases h : P19.lchk1 A i = 0
  ·rw [if_neg (by simp [h]), po n (i + 1)]
   refine ⟨fun g j h1 h2 => ?_, fun g j h1 h2 => g j zy zy⟩
   rcases Nat.lt_or_ge i j with q | q
   ·exact g j zy zy
   ·obtain rfl : j = i := by omega
    exact h
  ·rw [if_pos h]
   exact ⟨fun g => absurd g h, fun g => absurd (g i (Nat.le_refl _) zy) h⟩
def Am (x : bA) : Prop := jQ x.1 = true /\ x.2 ≠ [] /\ x.2.length <= 64
theorem jp {A : List bA} {i : Nat} : P19.lchk1 A i = 0 ↔ Am (lg A i) /\ (0 < i -> aL (lg A (i - 1)).1 (lg A i).1 = true) := by
 unfold P19.lchk1 Am
 by_cases h1 : jQ (lg A i).1 = false
 ·rw [if_pos h1]
  exact ⟨fun h => by omega, fun h => by rw [h1] at h; cases h.1.1⟩
 ·rw [if_neg h1]
  by_cases h2 : (lg A i).2 = []
  ·rw [if_pos h2]
   exact ⟨fun h => by omega, fun h => absurd h2 h.1.2.1⟩
  ·rw [if_neg h2]
   by_cases h3 : 64 < (lg A i).2.length
   ·rw [if_pos h3]
    exact ⟨fun h => by omega, fun h => by have := h.1.2.2; omega⟩
   ·rw [if_neg h3]
    have g1 : jQ (lg A i).1 = true := by simpa using h1
    by_cases h4 : 0 < i /\ aL (lg A (i - 1)).1 (lg A i).1 = false
    ·rw [if_pos h4]
     exact ⟨fun h => by omega, fun h => by rw [h.2 h4.1] at h4; cases h4.2⟩
    ·rw [if_neg h4]
     refine ⟨fun _ => ⟨⟨g1, h2, by omega⟩, fun h0 => ?_⟩, fun _ => rfl⟩
     cases q : aL (lg A (i - 1)).1 (lg A i).1 with
     | true => rfl
     | false => exact absurd ⟨h0, q⟩ h4
theorem qM {A : List bA} {i : Nat} (h : i < A.length) : lg A i = A[i] := by
 unfold lg
 rw [List.getD_eq_getElem?_getD, List.getElem?_eq_getElem h]; rfl
theorem mM {A : List bA} : P19.lchk A = 0 ↔ A.length <= 8 /\ (∀ x ∈ A, Am x) /\ A.Pairwise fun a b => aL a.1 b.1 = true := by
 unfold P19.lchk
 by_cases h : 8 < A.length
 ·rw [if_pos h]
  exact ⟨fun g => by omega, fun g => by omega⟩
 ·rw [if_neg h, po]
  refine ⟨fun g => ⟨by omega, fun x hx => ?_, ?_⟩, fun ⟨_, g1, g2⟩ j _ hj => ?_⟩
  ·obtain ⟨i, hi, rfl⟩ := List.getElem_of_mem hx
   have := (jp.1 (g i (Nat.zero_le _) zy)).1
   rwa [qM hi] at this
  ·refine List.pairwise_iff_getElem.2 fun i j hi hj hij => ?_
   have key : ∀ d, i + d + 1 < A.length -> aL (lg A i).1 (lg A (i + d + 1)).1 = true := by
    intro d
    induction d with
    | zero =>
     intro hd
     have := (jp.1 (g (i + 1) (Nat.zero_le _) zy)).2 zy
     simpa using this
    | succ d ih =>
     intro hd
     have h1 := ih zy
     have h2 := (jp.1 (g (i + (d + 1) + 1) (Nat.zero_le _) zy)).2 zy
     rw [show i + (d + 1) + 1 - 1 = i + d + 1 by omega] at h2
     exact jP h1 h2
   have := key (j - i - 1) zy
   rw [show i + (j - i - 1) + 1 = j by omega, qM hi, qM hj] at this
   exact this
  ·refine jp.2 ⟨by rw [qM zy]; exact g1 _ (List.getElem_mem _), fun h0 => ?_⟩
   rw [qM (show j - 1 < A.length by omega), qM (show j < A.length by omega)]
   exact List.pairwise_iff_getElem.1 g2 (j - 1) j zy zy zy
theorem tX {A : List bA} (h : P19.lchk A = 0) (p : bA -> Bool) : P19.lchk (A.filter p) = 0 := by
 obtain ⟨h1, h2, h3⟩ := mM.1 h
 exact mM.2 ⟨Nat.le_trans (List.length_filter_le _ _) h1, fun x hx => h2 x (List.mem_filter.1 hx).1, h3.filter _⟩
theorem GL {A : List bA} (h : P19.lchk A = 0) : JG A A.length := by
 obtain ⟨_, h2, _⟩ := mM.1 h
 intro j hj
 have := h2 _ (Ce hj)
 exact ⟨this.2.1, this.2.2⟩
theorem w4 {g : Nat -> Nat} : ∀ n i, (∀ j, i <= j -> j < i + n -> g j = 0) -> P19.fstE g n i = 0
 | 0, i, _ => rfl
 | n + 1, i, h => by
  unfold P19.fstE
  rw [if_neg (by rw [h i (Nat.le_refl _) zy]; simp)]
  exact w4 n (i + 1) fun j h1 h2 => h j zy zy
theorem Fk {W : List El} (h1 : W.length <= 256) (h2 : ∀ x ∈ W, P19.lchk x.2.1 = 0) (h3 : SrtI (fun a b : El => dD a.2.1 b.2.1 < 0) W W.length) (h4 : ∀ x ∈ W, P19.fitB x.2.2 = true) : P19.vchk W = 0 := by
 have hg : ∀ {i : Nat}, i < W.length -> W[i]? = some (P19.eg W i) := fun {i} hi => by
  unfold P19.eg
  rw [List.getD_eq_getElem?_getD, List.getElem?_eq_getElem hi]; rfl
 have hi : P19.ichk W = 0 := by
  unfold P19.ichk
  rw [if_neg zy]
  refine w4 _ _ fun j _ hj => ?_
  have hj : j < W.length := by omega
  unfold P19.ichk1
  rw [if_neg (by simp [h2 _ (List.mem_of_getElem? (hg hj))])]
  refine if_neg ?_
  rintro ⟨q1, q2⟩
  have := h3 (j - 1) j _ _ zy zy (hg zy) (hg hj)
  omega
 exact P19.vchk_ok hi fun i hi => h4 _ (List.mem_of_getElem? (hg hi))
abbrev Mo := Nat × AV × List El
def cM (L : List Mo) : List AV := L.flatMap fun x => [.int .i64 ((x.1 : Nat) : Int), .int .i64 0, x.2.1]
def ym (L : List Mo) (i : Nat) : Mo := L.getD i (0, .nils, [])
theorem D0 {L : List Mo} {x : Mo} : cM (L ++ [x]) = cM L ++ [.int .i64 ((x.1 : Nat) : Int), .int .i64 0, x.2.1] := by
 unfold cM
 rw [List.flatMap_append]
 rfl
theorem A0 : ∀ {L : List Mo} {i : Nat}, i < L.length -> (cM L)[(0 + i) * 3 + 2]? = some (ym L i).2.1
 | x :: L, 0, _ => rfl
 | x :: L, i + 1, h => by
  have := A0 (L := L) (i := i) (by simpa using h)
  rw [show (0 + (i + 1)) * 3 + 2 = (0 + i) * 3 + 2 + 1 + 1 + 1 by omega]
  exact this
def i6 (L : List (List bA × List bP)) (e r : Int) : List Nat := if (jx L e r).length = 0 then [] else [u9 L e r * 1000000]
theorem uB (L : List (List bA × List bP)) (e r : Int) : (i6 L e r).sum = u9 L e r * 1000000 := by
 unfold i6
 split
 ·rename_i h
  have := List.eq_nil_of_length_eq_zero h
  rw [<- pJ, this]
  rfl
 ·simp
def MosR (G : af) (L : List (List bA × List bP)) (r : Nat) (MO : List Mo) (n : Nat) : Prop :=
 MO.length = n /\ ∀ i, i < n -> EIn G (ym MO i).2.2 (ym MO i).2.1 /\ ((ym MO i).2.2.map fun x => x.2.2) = (i6 L (((i + 1) * r : Nat) : Int) ((r : Nat) : Int)).map fun x => ((x : Nat) : Int)
theorem MosR.zero {G : af} {L : List (List bA × List bP)} {r : Nat} : MosR G L r [] 0 := ⟨rfl, fun i h => absurd h (Nat.not_lt_zero i)⟩
theorem MosR.mono {G G' : af} {L : List (List bA × List bP)} {r n : Nat} {MO : List Mo} (h : MosR G L r MO n) (hm : ∀ b o, MemH G b o -> MemH G' b o) : MosR G' L r MO n := ⟨h.1, fun i hi => ⟨(h.2 i hi).1.mono hm, (h.2 i hi).2⟩⟩
theorem yK {G G' : af} {L : List (List bA × List bP)} {r n : Nat} {MO : List Mo} {x : Mo} (h : MosR G L r MO n) (h1 : EIn G' x.2.2 x.2.1) (h2 : (x.2.2.map fun x => x.2.2) = (i6 L (((n + 1) * r : Nat) : Int) ((r : Nat) : Int)).map fun x => ((x : Nat) : Int)) : MosR (G ++ G') L r (MO ++ [x]) (n + 1) := by
 refine ⟨by rw [List.length_append, h.1]; rfl, fun i hi => ?_⟩
 rcases Nat.lt_or_ge i n with g | g
 ·have e : ym (MO ++ [x]) i = ym MO i := by
   unfold ym
   rw [List.getD_eq_getElem?_getD, List.getD_eq_getElem?_getD, List.getElem?_append_left (by rw [h.1]; exact g)]
  rw [e]
  exact ⟨(h.2 i g).1.mono fun b o k => k.ap1, (h.2 i g).2⟩
 ·obtain rfl : i = n := by omega
  have e : ym (MO ++ [x]) i = x := by
   unfold ym
   rw [List.getD_eq_getElem?_getD, List.getElem?_append_right (by rw [h.1]; exact Nat.le_refl _), h.1, Nat.sub_self]
   rfl
  rw [e]
  exact ⟨h1.mono fun b o k => k.app, h2⟩
end Go.Proofs.YtfkbfnpjggkdmaaGreatDoor.Ev
