/- Chapter 16, by the document: Parse. -/
import Derived.Test.YtndhhgbpcmfeiaaGreatDoorOVu
import Derived.Test.YtndhhgbpcmfeiaaGreatDoorOGg
import Derived.Test.YtndhhgbpcmfeiaaGreatDoorOEvX
import Derived.Test.YtndhhgbpcmfeiaaGreatDoorOAwJ
namespace Go.Proofs.YtndhhgbpcmfeiaaGreatDoor.Ev.P16
open Go.RowKit
set_option maxRecDepth 100000
set_option maxHeartbeats 1000000
def Fx (v : AV) (D : ak) : Prop :=
 (∃ a e : Int, e ≠ 0 /\ v = .tuple [.nils, .int .i64 a, .int .i64 e] /\ D = []) \/
 ∃ (b : Nat) (ex : Bool) (toks : List dS) (n : Nat), v = .tuple [.slice b 0 (n + 1) 4, .int .i64 ((0 : Nat) : Int), .int .i64 ((0 : Nat) : Int)] /\ D = [⟨b, ⟨4, ex, bO toks⟩, true⟩] /\ toks.length = n + 1 /\ n <= 1024 /\ jm toks /\ (tg toks n).1 = 6
theorem CZ {v : AV} {D : ak} (h : uI v D) : Fx v D := by
 rcases h with h | ⟨b, ex, acc, a, rfl, rfl, h1, h2⟩
 ·exact .inl h
 ·refine .inr ⟨b, ex, acc ++ [(6, [], 0, a)], acc.length, rfl, ?_, by simp, by omega, ?_, ?_⟩
  ·simp [bO, lH]
  ·intro x hx
   rcases List.mem_append.1 hx with hx | hx
   ·exact h1 x hx
   ·simp at hx; subst hx; exact ⟨fZ, Nat.zero_le _⟩
  ·unfold tg
   simp
def If (v : AV) (D : ak) : Prop := ∃ (x : NodT) (hq : ak) (m : Nat) (at_ e : Int), v = .tuple [.agg (nC x), .int .i64 at_, .int .i64 e] /\ NOk hq x m /\ (∀ y ∈ hq, y.w = true) /\ m <= 1024 /\ D = hq
theorem Ao (s : List Nat) (hs : Bytes s) (hl : 1048576 < s.length) : Spec aN 30 [.str s] [] [] (uI) := by
 refine av (cX 30 Tryz.func30) rfl (m := 42) rfl (rs := [.tmp 2, .tmp 3, .tmp 4]) rfl (st := [(0, .str s)]) rfl rfl (fun _ => rfl) (fun E => zr (za rfl (za (zi 0) (za (zi 0) (zk (W.seq (zr (zm rfl (zq (Q.len bH rfl rfl) (zq (aa rfl (zi 1024) rfl (aV dM)) (zk (aw rfl (fun hc12 => ?_) (fun hc12 => ?_)))))))))))))
 ·refine zr (za rfl (za (zi 0) (za (zi 3) (zk (W.ret ?_)))))
  refine ac (End.ret (ResL.tmp rfl (ResL.tmp rfl (z1 rfl))) (th (by decide)) (fun e h => j9 h) (SubH.nil _))
 (exfalso; omega)
theorem CY (s : List Nat) (hs : Bytes s) : Spec aN 30 [.str s] [] [] Fx := by
 rcases Nat.lt_or_ge 1048576 s.length with h | h
 ·exact (Ao s hs h).mono fun _ _ => CZ
 ·exact (Ap s hs h).mono fun _ _ => CZ
theorem parse_spec (s : List Nat) (hs : Bytes s) : Spec aN 9 [.str s] [] [] (If) := by
 refine av (cX 9 Tryz.func9) rfl (m := 57) rfl (rs := [.cell 2 26, .tmp 3, .tmp 4]) rfl (st := [(0, .str s)]) rfl rfl (fun _ => rfl) (fun E => zr (WO.alloc ia rfl (fun b1 => za (zi 0) (za (zi 0) (zk (zr (zm rfl (WO.call0 rfl (aD rfl oz) rfl (CY s hs) SubR.nil rfl (fun v12 D12 hP12 => ?_)))))))))
 rcases hP12 with ⟨sa, se, hse, rfl, rfl⟩ | ⟨tb, ex, toks, n, rfl, rfl, hn, hnk, hok, hla⟩
 ·refine zm rfl (zq (Q.extract rfl rfl) (zq (Q.extract rfl rfl) (zq (Q.extract rfl rfl) (za rfl (za rfl (za rfl (zk (W.seq (zr (zm rfl (zq (aa rfl (zi 0) rfl (aR cP)) (zk (aw rfl (fun hc17 => ?_) (fun hc17 => ?_))))))))))))))
  ·refine zr (zq (zB ka aq rfl rfl) (zm rfl (zm rfl (zS aL rfl rfl (i := 0) rfl (by first | rfl | exact aQ rfl ckA) rfl (hs' := [_]) rfl (za rfl (za rfl (zk (W.sub (zc 4 rfl (zc 3 rfl (zc 2 rfl aI))) (W.ret ?_)))))))))
   refine ac (End.ret (zA rfl (zt 0 rfl) bh aL rfl (ResL.tmp rfl (z1 rfl))) (hs' := []) ⟨⟨0, [], 0, .nils, 0, 0, 0, .nils, 0, false, .nils⟩, [], _, sa, se, rfl, NOk.zero, dr, zy, rfl⟩ dr gG)
  (exfalso; omega)
 have ha : 0 <= n := Nat.zero_le n
 have hnl : n <= 1048576 := zy
 refine zm rfl (zq (Q.extract rfl rfl) (zq (Q.extract rfl rfl) (zq (Q.extract rfl rfl) (za rfl (za rfl (za rfl (zk (W.seq (zr (zm rfl (zq (aa rfl (zi 0) rfl (aR (p := false) rfl)) (zk (az rfl (zw (zr (zm rfl (zq (Q.build H4 (bz rfl aq) rfl (cs := [_, _, _, _, _]) rfl) (WO.box rfl rfl (H0 _ rfl) rfl (fun X => za rfl (zk (W.sub (zc 8 rfl (zc 2 rfl aI)) (zr (zm rfl ?_)))))))))))))))))))))))
 refine WO.call1 rfl (aD rfl (aD (zi 0) oz)) rfl (i := 0) rfl ((Ah toks n hn hnl hok tb ex X hla _ 0 0 0 0 ha).1 0 zy (Nat.lt_succ_self _)) (SubR.one (zt 0 rfl)) (hs' := [_, _]) rfl rfl (fun v25 D25 hP25 => ?_)
 obtain ⟨x25, hq25, m25, a25, d25, e25, f25, rfl, nk25, nw25, p25, q25, r25, s25, rfl⟩ := hP25
 refine WO.subH (hs' := _ :: _ :: _ :: (hq25)) (SubH.op (aG (N := [_]) (G := hq25) (K := [_, _]) (X := []))) (WO.alloc ia rfl (fun b3 => zS aL rfl rfl (i := 0) rfl (by first | rfl | exact aQ rfl ckA) rfl (hs' := _ :: _ :: _ :: _ :: _) rfl (zk (lS (fun (e3 : Int) (f3 : Int) => [(2, .ptr b1 0), (8, .ptr X 0), (9, .ptr b3 0)]) (fun (e3 : Int) (f3 : Int) => (pB X tb n a25 d25 e3 f3 true) :: ⟨b3, ⟨11, true, nC x25⟩, true⟩ :: ⟨b1, ⟨11, true, bS 0 [] 0 .nils 0 0 0 .nils 0 false .nils⟩, true⟩ :: ⟨tb, ⟨4, ex, bO toks⟩, true⟩ :: hq25) (fun (e3 : Int) (f3 : Int) => (e3 = 0 -> e25 = 0)) (fun e3 f3 hI8 => ?_) (fun hJ8 => ?_)))))
 ·have j8 := hI8
  refine W.seq (zr (zm rfl (zq (aF rfl) (zf dB rfl 3 (zq (ap rfl (zt 0 rfl) bU rfl) (zq (aa rfl (zi 0) rfl (aR cP)) (zk (aw rfl (fun hc46 => ?_) (fun hc46 => ?_)))))))))
  ·refine W.seq (eC 11 [⟨X, _, false⟩] (by kernel_rfl) (KIn.cons (zt 0 rfl) KIn.nil) (WD.q (zB ka aq rfl rfl) (by simp [AV.beq, fN, cW, fy]) rfl (WD.q (Q.move rfl) iF rfl (WD.q (aF rfl) iF rfl (WD.q (Q.fieldAddr vS rfl (o' := 4) rfl) iF rfl (WD.q (ap rfl (zt 0 rfl) bU rfl) kg rfl (WD.q (Q.move rfl) iF rfl (WD.q (aF rfl) iF rfl (WD.q (Q.fieldAddr dB rfl (o' := 3) rfl) iF rfl (WD.q (ap rfl (zt 0 rfl) bU rfl) kg rfl (WD.store aL rfl rfl (j := 2) rfl (by first | rfl | exact aQ rfl ckA) (cs := [_, _, _, _, _, _, _, _, _, _, _]) rfl (hs' := _ :: _ :: _ :: _ :: _) rfl (fun _ => (KIn.cons (zt 0 rfl) KIn.nil)) (WD.q (Q.assign rfl) kg rfl (WD.q (Q.assign rfl) kg rfl (WD.nil (End.K (W.sub (zc 4 rfl (zc 3 rfl (zc 2 rfl aI))) (W.ret ?_)))))))))))))))))
   refine ac (End.ret (zA rfl (zt 2 rfl) bh aL rfl (ResL.tmp rfl (z1 rfl))) (hs' := []) ⟨⟨0, [], 0, .nils, 0, 0, 0, .nils, 0, false, .nils⟩, [], _, f3, e3, rfl, NOk.zero, dr, zy, rfl⟩ dr gG)
  refine zw (zr (zq (zL rfl (zt 1 rfl) bh aL rfl) (zS aL rfl rfl (i := 2) rfl (by first | rfl | exact aQ rfl ckA) rfl (hs' := _ :: _ :: _ :: _ :: _) rfl (za (zi 0) (za (zi 0) (zk (W.ret ?_)))))))
  refine End.ret (zA rfl (zt 2 rfl) bh aL rfl (ResL.tmp rfl (z1 rfl))) (hs' := hq25) ⟨x25, hq25, _, 0, 0, rfl, nk25, nw25, zy, rfl⟩ nw25 gG
 refine zr (zm rfl (zq (aF rfl) (zf dB rfl 3 (zq (ap rfl (zt 1 rfl) bU rfl) (zq (aa rfl (zi 0) rfl (ag bj)) (zm rfl (ay (d := 31) rfl (fun hc31 => ?_) (fun hc31 => ?_))))))))
 ·refine zT (zm rfl (zT (aJ rfl (aD rfl oz) rfl (ct toks n hn hnl hok tb ex X a25 zy d25 e25 f25) (SubR.t SubR.two) rfl (zT (zq (cm sN rfl rfl) (zT (zq (aa rfl (zi 6) rfl (aR cf)) (zq (aj rfl rfl) (zk (aw rfl (fun hc36 => ?_) (fun hc36 => ?_)))))))))))
  ·refine am (zm rfl (zm rfl (aJ rfl (aD rfl oz) rfl (ct toks n hn hnl hok tb ex X a25 zy d25 e25 f25) (SubR.t SubR.two) rfl (zq (cm ly rfl rfl) (WO.call1 rfl (aD rfl (aD (zi 14) (aD rfl oz))) rfl (i := 1) rfl (da n tb X a25 d25 e25 f25 _ _) SubR.nil (hs' := _ :: _ :: _ :: _) rfl rfl (fun v41 D41 hP41 => ?_))))))
   obtain ⟨rfl, rfl⟩ := hP41
   refine WO.nil (End.K (W.sub zv (bX gG (hJ8 ((if e25 = 0 then (((14 : Nat) : Int)) else e25)) ((if e25 = 0 then (tg toks a25).2.2.2 else f25)) ?_))))
   exact (by first | exact fun h => h | (intro h; split at h <;> omega))
  refine W.skip (End.K (W.sub zv (bX gG (hJ8 (e25) (f25) ?_))))
  exact (by first | exact fun h => h | (intro h; split at h <;> omega))
 refine z2 (z2 (zq (ax rfl rfl) (zk (az rfl (W.skip (End.K (W.sub zv (bX gG (hJ8 (e25) (f25) ?_)))))))))
 exact (by first | exact fun h => h | (intro h; split at h <;> omega))
end Go.Proofs.YtndhhgbpcmfeiaaGreatDoor.Ev.P16
/- The parser's trees are trees. -/
namespace Go.Proofs.YtndhhgbpcmfeiaaGreatDoor.Ev
open Go.RowKit
theorem pC : ∀ {n : Nat} {l : List AV} {f : Nat -> List AV}, l.length = n * 11 -> (∀ i, i < n -> cn l ((0 + i) * 11) 11 = some (f i)) -> l = ((List.range n).map f).flatMap id
 | 0, l, f, h, _ => by
  rw [List.length_eq_zero_iff.1 (by omega : l.length = 0)]; rfl
 | n + 1, l, f, h, g => by
  have e := g n zy
  have hl : Nat.ble ((0 + n) * 11 + 11) l.length = true := Nat.ble_eq.mpr zy
  unfold cn at e
  simp only [hl] at e
  have e := Option.some.inj e
  have e2 : (l.drop ((0 + n) * 11)).take 11 = l.drop (n * 11) := by
   rw [Nat.zero_add]
   exact List.take_of_length_le (by rw [List.length_drop]; omega)
  rw [e2] at e
  have ih := pC (n := n) (l := l.take (n * 11)) (f := f) (by rw [List.length_take]; omega) fun i hi => by
   have h1 := g i zy
   have hb : Nat.ble ((0 + i) * 11 + 11) l.length = true := Nat.ble_eq.mpr zy
   have hb2 : Nat.ble ((0 + i) * 11 + 11) (l.take (n * 11)).length = true := Nat.ble_eq.mpr (by rw [List.length_take]; omega)
   unfold cn at h1 ⊢
   simp only [hb, hb2] at h1 ⊢
   rw [<- h1, List.drop_take, List.take_take]
   congr 2
   omega
  rw [List.range_succ, List.map_append, List.flatMap_append, <- ih, List.map_cons, List.map_nil, List.flatMap_cons, List.flatMap_nil, List.append_nil, id, <- e, List.take_append_drop]
mutual
def mP : TD -> Nat
 | .node d ks => lf ks + 1
def lf : List TD -> Nat
 | [] => 0
 | k :: ks => mP k + lf ks
end
theorem tk : ∀ {a b : List TD}, lf (a ++ b) = lf a + lf b
 | [], b => by rw [List.nil_append, lf, Nat.zero_add]
 | k :: a, b => by rw [List.cons_append, lf, lf, tk, Nat.add_assoc]
theorem Df {t : Nat -> TD} {f : Nat -> Nat} : ∀ {n : Nat}, (∀ i, i < n -> mP (t i) <= f i) -> lf ((List.range n).map t) <= P16.sumN f n
 | 0, _ => by simp [lf, P16.sumN]
 | n + 1, h => by
  have ih := Df (n := n) fun i hi => h i zy
  have h1 := h n zy
  rw [List.range_succ, List.map_append, tk, P16.sumN, List.map_cons, List.map_nil, lf, lf]
  omega
def lN (d : ND) : Prop := d.op.length <= 1048576 /\ DF d.kd
mutual
def AB : TD -> Prop
 | .node d ks => lN d /\ lq ks
def lq : List TD -> Prop
 | [] => True
 | k :: ks => AB k /\ lq ks
end
theorem rH : ∀ {a : List TD} {k : TD}, lq a -> AB k -> lq (a ++ [k])
 | [], k, _, h => by show lq [k]; rw [lq, lq]; exact ⟨h, trivial⟩
 | x :: a, k, h, g => by
  rw [lq] at h
  show lq (x :: (a ++ [k]))
  rw [lq]
  exact ⟨h.1, rH h.2 g⟩
theorem yT {t : Nat -> TD} : ∀ {n : Nat}, (∀ i, i < n -> AB (t i)) -> lq ((List.range n).map t)
 | 0, _ => by rw [List.range_zero, List.map_nil, lq]; trivial
 | n + 1, h => by
  rw [List.range_succ, List.map_append]
  exact rH (yT fun i hi => h i zy) (h n zy)
theorem Fs {k n rg off md sd : Int} {op : List Nat} {M : List Mt} {N : List (List Nat)} {bl : Bool} (h : op.length <= 1048576 /\ 0 <= k /\ k <= 6) : lN ⟨k, op, n, M, rg, off, md, N, sd, bl⟩ := ⟨h.1, by unfold DF; show _ <= k /\ k <= _; omega⟩
section
variable {hs : ak} {v : AV}
theorem Ct (h : P16.MsOK hs v) : ∃ l : List Mt, RIn hs 3 l.length (cM l) v /\ DI l := by
 obtain ⟨M, h1, h2, h3⟩ := h
 refine ⟨M, ?_, h3, fun m hm => ⟨(h2 m hm).1, (h2 m hm).2.2.1⟩⟩
 rcases h1 with ⟨rfl, rfl⟩ | ⟨b, ex, rfl, hm⟩
 ·exact RIn.nil
 ·exact .inr ⟨b, 3, ex, rfl, hm, FU M⟩
theorem CB (h : P16.NmOK hs v) : ∃ l : List (List Nat), RIn hs 1 l.length (cS l) v /\ DL l := by
 obtain ⟨N, h1, h2, h3⟩ := h
 refine ⟨N, ?_, h3, h2⟩
 rcases h1 with ⟨rfl, rfl⟩ | ⟨b, ex, rfl, hm⟩
 ·exact RIn.nil
 ·exact .inr ⟨b, 1, ex, rfl, hm, FX N⟩
theorem uU : ∀ {n : Nat} {t : Nat -> TD} {c : Nat -> List AV}, (∀ i, i < n -> TRep hs (t i) (c i)) -> TReps hs ((List.range n).map t) ((List.range n).map c)
 | 0, t, c, _ => by simp [TReps]
 | n + 1, t, c, h => by
  rw [List.range_succ, List.map_append, List.map_append]
  exact TReps.snoc (uU fun i hi => h i zy) (h n zy)
theorem CW : ∀ {d : Nat} {c : List AV} {m : Nat}, P16.RRep hs d c m -> ∃ t, TRep hs t c /\ mP t <= m /\ AB t
 | 0, c, m, h => h.elim
 | d + 1, c, m, ⟨h0, k, op, n, ms, rg, off, md, nm, sd, bl, kd, h1, h2, h3, h5, h6, h4⟩ => by
  obtain ⟨M, hM, bM⟩ := Ct h5
  obtain ⟨N, hN, bN⟩ := CB h6
  rcases h4 with rfl | ⟨b, len, ob, rfl, g1, g2, g3, f, g6, g4⟩
  ·refine ⟨.node ⟨k, op, n, M, rg, off, md, N, sd, bl⟩ [], ?_, by rw [mP, lf]; exact h0, by rw [AB, lq]; exact ⟨Fs h3, trivial⟩⟩
   rw [TRep]
   exact ⟨ms, nm, .nils, [], h1, hM, hN, RIn.nil, ⟨h2, bM, bN⟩, by simp, by rw [TReps]⟩
  ·have hx : ∀ i, i < len -> ∃ x : TD × List AV, cn ob.cells ((0 + i) * 11) 11 = some x.2 /\ TRep hs x.1 x.2 /\ mP x.1 <= f i /\ AB x.1 := fun i hi => by
    obtain ⟨c', e1, e2⟩ := g4 i hi
    obtain ⟨t, ht, hz⟩ := CW e2
    exact ⟨(t, c'), e1, ht, hz⟩
   have hx : ∃ x : Nat -> TD × List AV, ∀ i, i < len -> cn ob.cells ((0 + i) * 11) 11 = some (x i).2 /\ TRep hs (x i).1 (x i).2 /\ mP (x i).1 <= f i /\ AB (x i).1 := by
    classical
    refine ⟨fun i => if hi : i < len then Classical.choose (hx i hi) else (vd, []), fun i hi => ?_⟩
    simp only [dif_pos hi]
    exact Classical.choose_spec (hx i hi)
   obtain ⟨x, hx⟩ := hx
   refine ⟨.node ⟨k, op, n, M, rg, off, md, N, sd, bl⟩ ((List.range len).map fun i => (x i).1), ?_, by rw [mP]; have := Df (t := fun i => (x i).1) (f := f) fun i hi => (hx i hi).2.2.1; omega, by rw [AB]; exact ⟨Fs h3, yT fun i hi => (hx i hi).2.2.2⟩⟩
   rw [TRep]
   have hl : ((List.range len).map fun i => (x i).1).length = len := by simp
   have e := pC (f := fun i => (x i).2) g3 fun i hi => (hx i hi).1
   refine ⟨ms, nm, .slice b 0 len 11, (List.range len).map fun i => (x i).2, h1, hM, hN, .inr ⟨b, ob.sz, ob.exact_, by rw [hl], ?_, ?_⟩, ⟨h2, bM, bN⟩, by omega, uU fun i hi => (hx i hi).2.1⟩
   ·rw [<- e]; exact g1
   ·rw [<- e, g3, hl]
end
set_option maxRecDepth 100000
set_option maxHeartbeats 1000000
theorem FP : ∀ l : List AV, l.length = 12 -> cz aN 42 l = ⟨12, true, l⟩ := by intro l h; exact fV (by kernel_rfl) h
mutual
def fI : TD -> List (ND × List Int) -> List (ND × List Int)
 | .node d ks, L => (cv ks L []).1 ++ [(d, (cv ks L []).2)]
def cv : List TD -> List (ND × List Int) -> List Int -> List (ND × List Int) × List Int
 | [], L, A => (L, A)
 | k :: ks, L, A => cv ks (fI k L) (A ++ [(((fI k L).length - 1 : Nat) : Int)])
end
theorem nu : ∀ {ks : List TD} {k : TD} {L : List (ND × List Int)} {A : List Int}, cv (ks ++ [k]) L A = (fI k (cv ks L A).1, (cv ks L A).2 ++ [(((fI k (cv ks L A).1).length - 1 : Nat) : Int)])
 | [], k, L, A => by rw [List.nil_append, cv, cv, cv]
 | x :: ks, k, L, A => by rw [List.cons_append, cv, nu, cv]
mutual
theorem fT : ∀ {t : TD} {L : List (ND × List Int)}, (fI t L).length = L.length + mP t
 | .node d ks, L => by
  rw [fI, mP, List.length_append, mA ks L [], List.length_cons, List.length_nil, Nat.add_assoc]
theorem mA : ∀ (ks : List TD) (L : List (ND × List Int)) (A : List Int), (cv ks L A).1.length = L.length + lf ks
 | [], L, A => by rw [cv, lf, Nat.add_zero]
 | k :: ks, L, A => by
  rw [cv, mA ks, fT, lf, Nat.add_assoc]
end
theorem rf : ∀ {ks : List TD} {L : List (ND × List Int)} {A : List Int}, (cv ks L A).2.length = A.length + ks.length
 | [], L, A => by rw [cv]; rfl
 | k :: ks, L, A => by
  rw [cv, rf, List.length_append, List.length_cons, List.length_cons, List.length_nil]; omega
theorem mL : ∀ {t : TD}, 0 < mP t
 | .node d ks => by rw [mP]; exact Nat.succ_pos _
theorem qq : ∀ {ks : List TD} {i : Nat}, lf (ks.take i) <= lf ks
 | [], i => by simp
 | k :: ks, 0 => by rw [List.take_zero, lf]; exact Nat.zero_le _
 | k :: ks, i + 1 => by
  rw [List.take_succ_cons, lf, lf]
  have := qq (ks := ks) (i := i)
  omega
noncomputable section
def Av (l : List Oper) (k : Nat) : Bool :=
 l.zipIdx.all fun (o, i) => !(cO o.op) || Nat.beq i k || (if Nat.blt i k then ((aO l []).getD k 0).testBit i else ((aO l []).getD i 0).testBit k)
theorem E3 {l : List Oper} {k i : Nat} {o : Oper} (h : Av l k = true) (ho : l[i]? = some o) (hl : cO o.op = true) (hik : i < k) : ((aO l []).getD k 0).testBit i = true := by
 have := List.all_eq_true.1 h (o, i) (by rw [List.mem_zipIdx_iff_getElem?]; simpa using ho)
 have hb : Nat.blt i k = true := by rw [Nat.blt_eq]; exact hik
 have hn : Nat.beq i k = false := by
  cases hx : Nat.beq i k with
  | false => rfl
  | true => have := Nat.eq_of_beq_eq_true hx; omega
 simpa [hl, hb, hn] using this
theorem E2 {l : List Oper} {k i : Nat} {o : Oper} (h : Av l k = true) (ho : l[i]? = some o) (hl : cO o.op = true) (hik : k < i) : ((aO l []).getD i 0).testBit k = true := by
 have := List.all_eq_true.1 h (o, i) (by rw [List.mem_zipIdx_iff_getElem?]; simpa using ho)
 have hb : Nat.blt i k = false := by
  cases hx : Nat.blt i k with
  | false => rfl
  | true => rw [Nat.blt_eq] at hx; omega
 have hn : Nat.beq i k = false := by
  cases hx : Nat.beq i k with
  | false => rfl
  | true => have := Nat.eq_of_beq_eq_true hx; omega
 simpa [hl, hb, hn] using this
def Db (l : List Oper) : Bool :=
 jc l && (l.zipIdx.all fun (o, j) => !(cO o.op) || l.zipIdx.all fun (x, i) => !(cO x.op) || !(Nat.blt i j) || ((aO l []).getD j 0).testBit i)
def wR (tb : Tab) (l : List Oper) (es : List Ent) : Prop := ∀ e ∈ es, e.kind = 1 -> e.v.beq e.v = true /\ (Av l e.i = false -> ∀ H, pv tb e.tm H e.o.op = some e.v)
theorem Bw {tb : Tab} {callq : ji} {n : Nat} {l : List Oper} {tm tm' : T AV} {h h' : AHeap} {es : List Ent} {ms : List (Nat × AHeap)} (hst : Db l = true)
  (ht : bI tb (aS callq) n l 0 l tm h = some (es, ms, tm', h')) (hG : wR tb l es) : eE tb (aS callq) n l tm h = some (tm', h') := by
 unfold Db at hst
 simp only [Bool.and_eq_true] at hst
 obtain ⟨h1, h2⟩ := hst
 unfold eE
 simp only [h1]
 cases hF : fO l with
 | true => exact jY ht
 | false =>
  simp only [ht, uw h2]
  cases hms : ms with
  | nil => rfl
  | cons p0 ms0 =>
   rw [<- hms]
   have hall : (es.all (ko tb (aO l []) (es.filterMap fun e => if e.kind = 2 then some e.i else none) ((0, h) :: ms))) = true := by
    obtain ⟨S, Hp, V, K, Rc⟩ := jB ht
    obtain ⟨hinc, hmk⟩ := nH ht
    have hS0 := Rc.s0
    have hH0 := Rc.h0
    have rec_ : ∀ e ∈ es, ∃ k o, l[k]? = some o /\ e = ⟨k, o, S k, V k, K k⟩ /\ iG tb (aS callq) l (S k) (Hp k) o = some (V k, Hp (k + 1), K k) := by
     intro e he
     obtain ⟨k, o, a1, a2⟩ := Rc.of e he
     have a3 := (Rc.step k o a1).1
     simp only [Nat.zero_add] at a2 a3
     exact ⟨k, o, a1, a2, a3⟩
    have hsame : ∀ d p, p + d <= l.length -> (∀ i, p <= i -> i < p + d -> K i ≠ 2) -> Hp (p + d) = Hp p := by
     intro d
     induction d with
     | zero => intro p _ _; rfl
     | succ d ih =>
      intro p hp hn
      have hlt : p + d < l.length := by omega
      have s1 := (Rc.step (p + d) _ (List.getElem?_eq_getElem hlt)).1
      simp only [Nat.zero_add] at s1
      have h2 : Hp (p + d + 1) = Hp (p + d) := by
       rcases cU s1 with h | h | h
       ·exact h.2.2.2
       ·exact h.2.2.2
       ·exact absurd h.1 (hn (p + d) zy zy)
      rw [show p + (d + 1) = p + d + 1 by omega, h2]
      exact ih p zy (fun i h1 h2 => hn i h1 zy)
    have hlouds : ∀ k, k < l.length -> K k = 2 -> k ∈ es.filterMap fun e => if e.kind = 2 then some e.i else none := by
     intro k hk h2
     have := Rc.mem k _ (List.getElem?_eq_getElem hk)
     simp only [Nat.zero_add] at this
     exact List.mem_filterMap.2 ⟨_, this, by simp [h2]⟩
    have hloud_of : ∀ i, i ∈ (es.filterMap fun e => if e.kind = 2 then some e.i else none) -> i < l.length /\ K i = 2 /\ ∃ o, l[i]? = some o /\ cO o.op = true := by
     intro i hi
     obtain ⟨e, he, hi⟩ := List.mem_filterMap.1 hi
     obtain ⟨k, o, a1, rfl, a3⟩ := rec_ e he
     simp only at hi
     by_cases hk2 : K k = 2
     ·rw [if_pos hk2] at hi
      simp only [Option.some.injEq] at hi
      subst hi
      refine ⟨(List.getElem?_eq_some_iff.1 a1).1, hk2, o, a1, ?_⟩
      rcases cU a3 with h | h | h
      ·omega
      ·omega
      ·exact iR h.2.2
     ·rw [if_neg hk2] at hi; cases hi
    rw [List.all_eq_true]
    intro e he
    obtain ⟨k, o, a1, rfl, a3⟩ := rec_ e he
    have hkl := (List.getElem?_eq_some_iff.1 a1).1
    unfold ko
    rcases cU a3 with g | g | g
    ·simp only [g.1]
    ·-- quiet
     have hgood := hG _ he g.1
     simp only [g.1]
     rw [List.all_eq_true]
     rintro ⟨q, H⟩ hq
     simp only [Bool.or_eq_true, Bool.not_eq_true']
     rcases Bool.eq_false_or_eq_true (List.all (es.filterMap fun e : Ent => if e.kind = 2 then some e.i else none) fun i => (!(((aO l []).getD k 0).testBit i) || Nat.blt i q) && (!(((aO l []).getD i 0).testBit k) || Nat.ble q i)) with hc | hc
     ·right
      have hc' : ∀ i, i < l.length -> K i = 2 -> (((aO l []).getD k 0).testBit i = true -> i < q) /\ (((aO l []).getD i 0).testBit k = true -> q <= i) := by
       intro i hi h2
       have := List.all_eq_true.1 hc i (hlouds i hi h2)
       simp only [Bool.and_eq_true, Bool.or_eq_true, Bool.not_eq_true', Nat.blt_eq] at this
       refine ⟨fun hb => ?_, fun hb => ?_⟩
       ·rcases this.1 with h | h
        ·rw [hb] at h; cases h
        ·exact h
       ·rcases this.2 with h | h
        ·rw [hb] at h; cases h
        ·exact Nat.ble_eq.mp h
      have hval : pv tb (S k) H o.op = some (V k) := by
       have hmark : (q = 0 /\ H = Hp 0) \/ ∃ i, i < l.length /\ K i = 2 /\ q = i + 1 /\ H = Hp (i + 1) := by
        rcases List.mem_cons.1 hq with hq | hq
        ·simp only [Prod.mk.injEq] at hq
         exact .inl ⟨hq.1, by rw [hq.2, hH0]⟩
        ·obtain ⟨_, e2, b1, b2, b3⟩ := hmk _ hq
         obtain ⟨i, o2, c1, rfl, c3⟩ := rec_ e2 b1
         have hil := (List.getElem?_eq_some_iff.1 c1).1
         have hm2 := Rc.mark i hil (by simpa using b2)
         simp only [Nat.zero_add] at hm2
         have := pJ hinc hq hm2 (by simpa using b3)
         simp only [Prod.mk.injEq] at this
         exact .inr ⟨i, hil, by simpa using b2, this.1, this.2⟩
       cases hsu : Av l k with
       | false => exact hgood.2 hsu H
       | true =>
        have lo : ∀ i, i < l.length -> K i = 2 -> i < k -> ((aO l []).getD k 0).testBit i = true := by
         intro i hil hi2 hik
         exact E3 hsu (List.getElem?_eq_getElem hil) (by
          have := (Rc.step i _ (List.getElem?_eq_getElem hil)).1
          simp only [Nat.zero_add] at this
          rcases cU this with h | h | h
          ·omega
          ·omega
          ·exact iR h.2.2) hik
        have hi_ : ∀ i, i < l.length -> K i = 2 -> k < i -> ((aO l []).getD i 0).testBit k = true := by
         intro i hil hi2 hik
         exact E2 hsu (List.getElem?_eq_getElem hil) (by
          have := (Rc.step i _ (List.getElem?_eq_getElem hil)).1
          simp only [Nat.zero_add] at this
          rcases cU this with h | h | h
          ·omega
          ·omega
          ·exact iR h.2.2) hik
        have hHk : H = Hp k := by
         rcases hmark with ⟨rfl, rfl⟩ | ⟨i, hil, hi2, rfl, rfl⟩
         ·have := hsame k 0 zy (fun i h1 h2 h3 => by
           have := (hc' i zy h3).1 (lo i zy h3 zy)
           omega)
          rw [Nat.zero_add] at this
          exact this.symm
         ·have hik : i < k := by
           rcases Nat.lt_trichotomy i k with h | h | h
           ·exact h
           ·subst h; omega
           ·have := (hc' i hil hi2).2 (hi_ i hil hi2 h)
            omega
          have := hsame (k - (i + 1)) (i + 1) zy (fun i' h1 h2 h3 => by
           have := (hc' i' zy h3).1 (lo i' zy h3 zy)
           omega)
          rw [show i + 1 + (k - (i + 1)) = k by omega] at this
          exact this.symm
        rw [hHk]
        unfold pv
        rw [pu (SubT.refl _) g.2.2.1]
      simp only [hval]
      exact hgood.1
     ·left; exact hc
    ·-- loud
     simp only [g.1]
     rw [List.all_eq_true]
     intro i hi
     obtain ⟨hil, hi2, x, hx, hxl⟩ := hloud_of i hi
     have hol : cO o.op = true := iR g.2.2
     have hmj : (o, k) ∈ l.zipIdx := by rw [List.mem_zipIdx_iff_getElem?]; simpa using a1
     have hmi : (x, i) ∈ l.zipIdx := by rw [List.mem_zipIdx_iff_getElem?]; simpa using hx
     have := List.all_eq_true.1 h2 _ hmj
     simp only [hol, Bool.not_true, Bool.false_or] at this
     have := List.all_eq_true.1 this _ hmi
     simp only [hxl, Bool.not_true, Bool.false_or] at this
     exact this
   rw [hall]
   cases ms with
   | nil => cases hms
   | cons a b => rfl

section
variable {tb : Tab} {n : Nat} {E : Env} {s : St} {hs : ak} {R : T AV -> AHeap -> Prop} {ops rest : List Oper} {d : Nat} {ty : TypeId} {pos : String} {aft : Array Edge} {t : TypeId} {i : Nat}
def WX (tb : Tab) (n : Nat) (ops : List Oper) (i : Nat) (rest : List Oper) (E : Env) (s : St) (hs : ak) (R : T AV -> AHeap -> Prop) : Prop :=
 ∀ tm h, Has tm s -> HS E hs h -> ∃ es ms tm' h', bI tb (aS (Ev.callE tb)) n ops i rest tm h = some (es, ms, tm', h') /\ wR tb ops es /\ ∀ TM, SubT tm' TM -> R TM h'
theorem FK {Q} {id : Nat} {l : List Oper} (hst : Db l = true) (h : WX tb n l 0 l E s hs (Q .normal)) : W tb n (.region id l.toArray true) E s hs Q := by
 intro tm hp ht hh
 obtain ⟨es, ms, tm1, h1, he, hG, hR⟩ := h tm hp ht hh
 have hd := Bw hst he hG
 obtain ⟨TM, g1, g2⟩ := kr (l8 tb) (SubT.refl tm) hd
 refine ⟨.normal, TM, h1, g2.step fun K hK => ?_, hR TM g1⟩
 rw [dc]
 unfold dV
 simp only [hK]
theorem WX.nil (h : End E s hs R) : WX tb n ops i [] E s hs R :=
 fun tm hp ht hh => ⟨[], [], tm, hp, rfl, fun e he => by simp at he, fun TM hT => h TM hp (ht.mono hT) hh⟩
theorem tw {tm tm1 : T AV} {h h1 : AHeap} {o : Oper} {v : AV} {k : Nat} (he : iG tb (aS (Ev.callE tb)) ops tm h o = some (v, h1, k)) (hp : ch tm n o.dst v = some tm1)
  (hq : k = 1 -> v.beq v = true /\ (Av ops i = false -> ∀ H, pv tb tm H o.op = some v))
  (hk : ∃ es ms tm' h', bI tb (aS (Ev.callE tb)) n ops (i + 1) rest tm1 h1 = some (es, ms, tm', h') /\ wR tb ops es /\ ∀ TM, SubT tm' TM -> R TM h') :
  ∃ es ms tm' h', bI tb (aS (Ev.callE tb)) n ops i (o :: rest) tm h = some (es, ms, tm', h') /\ wR tb ops es /\ ∀ TM, SubT tm' TM -> R TM h' := by
 obtain ⟨es, ms, tm2, h2, e, hG, hR⟩ := hk
 refine ⟨_, _, tm2, h2, by unfold bI; simp only [he, hp, e]; rfl, fun x hx hx1 => ?_, hR⟩
 rcases List.mem_cons.1 hx with rfl | hx
 ·exact hq hx1
 ·exact hG x hx hx1
theorem WX.q {op : Op} {v : AV} (hs_ : Av ops i = true) (hq : QV tb s hs op v) (hb : v.beq v = true) (hd : Nat.blt d n = true) (hk : WX tb n ops (i + 1) rest E ((d, v) :: s) hs R) :
  WX tb n ops i (⟨some d, op, ty, pos, aft, none⟩ :: rest) E s hs R := by
 intro tm h ht hh
 have hv : ∀ call, d6 tb call tm h op = .q (some v) := hq tm h ht hh.keep
 refine tw (v := v) (k := 1) (h1 := h) (tm1 := tm.set d v) ?_ (bJ hd) (fun _ => ⟨hb, fun g => by rw [hs_] at g; cases g⟩) (hk _ _ (ht.set d v) hh)
 unfold iG
 have : aX ops tm ⟨some d, op, ty, pos, aft, none⟩ = some true := rfl
 rw [this]
 simp only [hv]
theorem WX.f {op : Op} {v : AV} (hq : QV tb s [] op v) (hb : v.beq v = true) (hd : Nat.blt d n = true) (hk : WX tb n ops (i + 1) rest E ((d, v) :: s) hs R) :
  WX tb n ops i (⟨some d, op, ty, pos, aft, none⟩ :: rest) E s hs R := by
 intro tm h ht hh
 have hv : ∀ H call, d6 tb call tm H op = .q (some v) := fun H => hq tm H ht fun e he => by simp at he
 refine tw (v := v) (k := 1) (h1 := h) (tm1 := tm.set d v) ?_ (bJ hd) (fun _ => ⟨hb, fun _ H => by unfold pv; rw [hv]⟩) (hk _ _ (ht.set d v) hh)
 unfold iG
 have : aX ops tm ⟨some d, op, ty, pos, aft, none⟩ = some true := rfl
 rw [this]
 simp only [hv]
theorem WX.store {ox oy : Operand} {j b o q : Nat} {ob : AObj} {v : AV} {cs : List AV} {hs' : ak} (hz : tb.size t = some q) (hx : oL s ox = some (.ptr b o)) (hy : oL s oy = some v) (hm : hs[j]? = some ⟨b, ob, true⟩)
  (hb : (Nat.beq v.cells.length q && Nat.ble (o + q) ob.cells.length && v.cells.all AV.isCell) = true) (hc : db ob.cells o v.cells = cs) (hs_ : hs.set j ⟨b, ⟨ob.sz, ob.exact_, cs⟩, true⟩ = hs')
  (hk : WX tb n ops (i + 1) rest E s hs' R) (hz0 : Nat.blt 0 ob.sz = true := by rfl) : WX tb n ops i (⟨none, .store t ox oy, ty, pos, aft, none⟩ :: rest) E s hs R := by
 intro tm h ht hh
 subst hs_
 have hH := hh.put (ob' := ⟨ob.sz, ob.exact_, cs⟩) hm
 refine tw (v := .tuple []) (k := 2) (h1 := ⟨h.next, h.objs.set b ⟨ob.sz, ob.exact_, cs⟩⟩) (tm1 := tm) ?_ rfl (fun h => by cases h) (hk tm _ ht hH)
 unfold iG
 have : aX ops tm ⟨none, .store t ox oy, ty, pos, aft, none⟩ = some true := rfl
 rw [this]
 have he : d6 tb (aS (Ev.callE tb)) tm h (.store t ox oy) = .l (some (.tuple [], ⟨h.next, h.objs.set b ⟨ob.sz, ob.exact_, cs⟩⟩)) := by
  show Res.l (eh tb tm h t ox oy) = _
  unfold eh
  simp only [bD ht hx, bD ht hy]
  unfold nG
  have h1 := (hh.at_ _ (fD hm)).1
  simp only at h1
  simp only [hz, h1, hb, hc, hz0]
 simp only [he]
end

end
theorem tD {tb : Tab} {n : Nat} {E : Env} {s : St} {hs : ak} {R : T AV -> AHeap -> Prop} {ops rest : List Oper} {d : Nat} {ty : TypeId} {pos : String} {aft : Array Edge} {of : Operand} {args : List Operand} {ts : Array TypeId} {g : Nat} {caps l l' : List AV} {M A hsc : ak} {Post : AV -> ak -> Prop} (hf : oL s of = some (.func g caps)) (ha : pW s args = some l) (hl : l ++ caps = l')
  (hM : ∀ e ∈ M, e.w = true) (hs_ : SubH (M ++ A) hs) (hsp : Spec tb g l' (M.map (·.b)) (M ++ hsc) Post) (hsub : SubR hsc A) (hd : Nat.blt d n = true)
  (hk : ∀ v D, Post v D -> WO tb n ops rest E ((d, v) :: s) (D ++ A) R) :
  WO tb n ops (⟨some d, .call ⟨.value of, args.toArray, ts⟩, ty, pos, aft, none⟩ :: rest) E s hs R := by
 refine WO.l (s' := s) fun tm h ht hh0 => ?_
 have hh := hh0.sub hs_
 have hnd := hh.nd
 rw [List.map_append] at hnd
 obtain ⟨n1, n2, n3⟩ := List.nodup_append.1 hnd
 have hne : ∀ e ∈ A, e.b ∉ M.map (·.b) := fun e he hm => n3 e.b hm e.b (List.mem_map.2 ⟨e, he, rfl⟩) rfl
 have hA : ∀ e ∈ A, _ := fun e he => hh.at_ e (List.mem_append_right _ he)
 have hMa : ∀ e ∈ M, _ := fun e he => hh.at_ e (List.mem_append_left _ he)
 have hin : HS ⟨h, M.map (·.b)⟩ (M ++ hsc) h := by
  refine ⟨fun e he => ?_, ?_, Fr.refl _ _⟩
  ·rcases List.mem_append.1 he with he | he
   ·exact ⟨(hMa e he).1, (hMa e he).2.1, fun _ => .inr (List.mem_map.2 ⟨e, he, rfl⟩)⟩
   ·obtain ⟨hw, w, hm⟩ := hsub.1 e he
    obtain ⟨a1, a2, a3⟩ := hA _ hm
    exact ⟨a1, a2, fun h' => by rw [hw] at h'; cases h'⟩
  ·rw [List.map_append]
   refine List.nodup_append.2 ⟨n1, hsub.2 n2, ?_⟩
   intro a ha' b hb hab
   obtain ⟨y, hy, rfl⟩ := List.mem_map.1 hb
   obtain ⟨hw, w, hm⟩ := hsub.1 y hy
   exact hne _ hm (hab ▸ ha')
 obtain ⟨v, h', D, hE, hP, hw, hD⟩ := hsp h hin
 have hfr := hD.fr
 have hback : HS E (D ++ A) h' := by
  refine ⟨fun e he => ?_, ?_, ?_, fun c hc hcS => ?_⟩
  ·rcases List.mem_append.1 he with he | he
   ·obtain ⟨a1, a2, a3⟩ := hD.at_ e he
    refine ⟨a1, a2, fun hw' => ?_⟩
    rcases a3 hw' with b1 | b1
    ·exact .inl (Nat.le_trans hh.fr.1 b1)
    ·obtain ⟨x, hx, hxe⟩ := List.mem_map.1 b1
     rw [<- hxe]
     exact (hMa x hx).2.2 (hM x hx)
   ·obtain ⟨a1, a2, a3⟩ := hA e he
    refine ⟨?_, Nat.lt_of_lt_of_le a2 hfr.1, a3⟩
    rw [hfr.2 e.b a2 (hne e he)]
    exact a1
  ·rw [List.map_append]
   refine List.nodup_append.2 ⟨hD.nd, n2, ?_⟩
   intro a ha' b hb' hab
   obtain ⟨x, hx, rfl⟩ := List.mem_map.1 ha'
   obtain ⟨y, hy, rfl⟩ := List.mem_map.1 hb'
   have h1 := (hA y hy).2.1
   have hab : x.b = y.b := hab
   rcases (hD.at_ x hx).2.2 (hw x hx) with b1 | b1
   ·have b1 : h.next <= x.b := b1
    omega
   ·exact hne y hy (hab ▸ b1)
  ·exact Nat.le_trans hh.fr.1 hfr.1
  ·have hcb : c ∉ M.map (·.b) := by
    intro hm
    obtain ⟨x, hx, rfl⟩ := List.mem_map.1 hm
    rcases (hMa x hx).2.2 (hM x hx) with g | g
    ·omega
    ·exact hcS g
   rw [hfr.2 c (Nat.lt_of_lt_of_le hc hh.fr.1) hcb]
   exact hh.fr.2 c hc hcS
 refine ⟨v, h', tm.set d v, ?_, bJ hd, hk v D hP _ _ (ht.set d _) hback⟩
 show Res.l (cZ tm h (aS (Ev.callE tb)) of args.toArray) = _
 unfold cZ
 simp only [bD ht hf, kz ht ha]
 subst hl
 rw [kQ hE]
theorem Spec.sub {tb : Tab} {f : Nat} {args : List AV} {S : List Nat} {hs hs' : ak} {Post : AV -> ak -> Prop} (h : Spec tb f args S hs Post) (g : SubH hs hs') : Spec tb f args S hs' Post := fun h0 hh => h h0 (hh.sub g)
section
variable {hs hl hl3 ha hp : ak} {W W2 W3 : List IE} {ks : List TD} {i : Nat} {L : List (ND × List Int)} {d : ND} {vm vn ar v : AV} {A : List Int}
theorem Dg (h : i < ks.length) : lf (ks.take i) + mP (kd ks i) <= lf ks := by
 have h1 := qq (ks := ks) (i := i + 1)
 rw [List.take_add_one, yv h, tk] at h1
 show _ <= _
 have e : lf (Option.toList (some (kd ks i))) = mP (kd ks i) := by show lf [kd ks i] = _; rw [lf, lf]; rfl
 omega
theorem yS (h : i < ks.length) : ks.take (i + 1) = ks.take i ++ [kd ks i] := by rw [List.take_add_one, yv h]; rfl
theorem Cf (h : i < ks.length) : fI (kd ks i) (cv (ks.take i) L []).1 = (cv (ks.take (i + 1)) L []).1 := by rw [yS h, nu]
theorem zU (h : i < ks.length) : (cv (ks.take (i + 1)) L []).2 = (cv (ks.take i) L []).2 ++ [(((fI (kd ks i) (cv (ks.take i) L []).1).length - 1 : Nat) : Int)] := by rw [yS h, nu]
theorem Ce (h : ∀ x ∈ W2, IOK (hs ++ hl) x /\ x.vk = .nils /\ IBd x) (g : ∀ x ∈ W3, IOK (hs ++ hl3) x /\ x.vk = .nils /\ IBd x) : ∀ x ∈ W2 ++ W3, IOK (hs ++ (hl ++ hl3)) x /\ x.vk = .nils /\ IBd x := fun x hx => by
 rcases List.mem_append.1 hx with hx | hx
 ·exact ⟨(h x hx).1.mono fun b o ⟨w, q⟩ => ⟨w, by simp only [List.mem_append] at q ⊢; exact q.elim .inl fun r => .inr (.inl r)⟩, (h x hx).2⟩
 ·exact ⟨(g x hx).1.mono fun b o ⟨w, q⟩ => ⟨w, by simp only [List.mem_append] at q ⊢; exact q.elim .inl fun r => .inr (.inr r)⟩, (g x hx).2⟩
theorem yy : ∀ {ks : List TD} {L : List (ND × List Int)} {A : List Int}, ∀ n ∈ (cv ks L A).2, n ∈ A \/ (0 <= n /\ n < ((L.length + lf ks : Nat) : Int))
 | [], L, A, n, h => by rw [cv] at h; exact .inl h
 | k :: ks, L, A, n, h => by
  rw [cv] at h
  rcases yy n h with h1 | h1
  ·rcases List.mem_append.1 h1 with h1 | h1
   ·exact .inl h1
   ·rw [List.mem_singleton] at h1
    have e := fT (t := k) (L := L)
    have p := mL (t := k)
    refine .inr ?_
    rw [h1, e, lf]
    omega
  ·rw [fT] at h1
   refine .inr ?_
   rw [lf]
   omega
theorem Es (h : ∀ x ∈ W2, IOK (hs ++ hl) x /\ x.vk = .nils /\ IBd x) (hm : RIn hs 3 d.ms.length (cM d.ms) vm) (hn : RIn hs 1 d.nm.length (cS d.nm) vn) (hA : OwnE 1 (cA (cv ks L []).2) ks.length ar ha) (hd : d.bd) (hks : ks.length <= 1048576) (hb : L.length + lf ks <= 2097152) :
  ∀ x ∈ W2 ++ [⟨d, (cv ks L []).2, 0, vm, vn, .nils, ar⟩], IOK (hs ++ (hl ++ ha)) x /\ x.vk = .nils /\ IBd x := fun x hx => by
 have hl2 : (cv ks L []).2.length = ks.length := by rw [rf]; simp
 rcases List.mem_append.1 hx with hx | hx
 ·exact ⟨(h x hx).1.mono fun b o ⟨w, q⟩ => ⟨w, by simp only [List.mem_append] at q ⊢; exact q.elim .inl fun r => .inr (.inl r)⟩, (h x hx).2⟩
 ·rw [List.mem_singleton.1 hx]
  refine ⟨⟨hm.appl, hn.appl, .inl ⟨rfl, rfl⟩, ?_⟩, rfl, hd, by show (cv ks L []).2.length <= _; omega, fun n hn => ?_⟩
  ·show RIn _ 1 (cv ks L []).2.length _ _
   rw [hl2]
   exact (RIn.own hA).app.app
  ·rcases yy n hn with h1 | h1
   ·simp at h1
   ·exact ⟨by omega, by omega⟩
theorem Et {k : Nat} (h : OwnE 1 (cA A ++ [.int .i64 ((k : Nat) : Int)]) (i + 1) v hp) : OwnE 1 (cA (A ++ [((k : Nat) : Int)])) (i + 1) v hp := by
 rw [cA, List.map_append]; exact h
end

def GQ (tt er : Nat) : Nat := if er = 0 /\ tt = 3 then 16 else er
def Fe (hs : ak) (k : TD) (e0 : Nat) (v : AV) (D : ak) : Prop := ∃ (e : Nat) (_ : e = e0) (Z : List IE) (w : AV) (hp hl : ak), v = .tuple [w, .int .i64 ((e : Nat) : Int)] /\ OwnE 12 (cI Z) Z.length w hp /\ (∀ x ∈ Z, IOK (hs ++ hl) x /\ x.vk = .nils /\ IBd x) /\ (e = 0 -> D2 Z = fI k []) /\ (e ≠ 0 -> Z = []) /\ (∀ y ∈ hl, y.w = true) /\ D = hp ++ hl

end Go.Proofs.YtndhhgbpcmfeiaaGreatDoor.Ev
