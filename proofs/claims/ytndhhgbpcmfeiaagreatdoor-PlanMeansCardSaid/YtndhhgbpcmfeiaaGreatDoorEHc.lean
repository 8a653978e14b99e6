/- Chapter 16, by the document: Parse. -/
import Derived.Test.YtndhhgbpcmfeiaaGreatDoorEVu
import Derived.Test.YtndhhgbpcmfeiaaGreatDoorEGf
import Derived.Test.YtndhhgbpcmfeiaaGreatDoorEInC
namespace Go.Proofs.YtndhhgbpcmfeiaaGreatDoor.Ev.P16
open Go.RowKit
set_option maxRecDepth 100000
set_option maxHeartbeats 1000000
def scanQ (v : AV) (D : HSt) : Prop :=
 (∃ a e : Int, e ≠ 0 ∧ v = .tuple [.nils, .int .i64 a, .int .i64 e] ∧ D = []) ∨
 ∃ (b : Nat) (ex : Bool) (toks : List TokT) (n : Nat), v = .tuple [.slice b 0 (n + 1) 4, .int .i64 ((0 : Nat) : Int), .int .i64 ((0 : Nat) : Int)] ∧ D = [⟨b, ⟨4, ex, tokCs toks⟩, true⟩] ∧ toks.length = n + 1 ∧ n ≤ 1024 ∧ TokO toks ∧ (tg toks n).1 = 6
theorem scan_q {v : AV} {D : HSt} (h : scanP v D) : scanQ v D := by
 rcases h with h | ⟨b, ex, acc, a, rfl, rfl, h1, h2⟩
 ·exact .inl h
 ·refine .inr ⟨b, ex, acc ++ [(6, [], 0, a)], acc.length, rfl, ?_, by simp, by omega, ?_, ?_⟩
  ·simp [tokCs, tokC]
  ·intro x hx
   rcases List.mem_append.1 hx with hx | hx
   ·exact h1 x hx
   ·simp at hx; subst hx; exact ⟨nil_bytes, Nat.zero_le _⟩
  ·unfold tg
   simp
def PAP (v : AV) (D : HSt) : Prop := ∃ (x : NodT) (hq : HSt) (m : Nat) (at_ e : Int), v = .tuple [.agg (nC x), .int .i64 at_, .int .i64 e] ∧ NOk hq x m ∧ (∀ y ∈ hq, y.w = true) ∧ m ≤ 1024 ∧ D = hq
theorem scan_long (s : List Nat) (hs : Bytes s) (hl : 1048576 < s.length) : Spec tab 30 [.str s] [] [] (scanP) := by
 refine Spec.en (ftg 30 Tryz.func30) rfl (m := 42) rfl (rs := [.tmp 2, .tmp 3, .tmp 4]) rfl (st := [(0, .str s)]) rfl rfl (fun _ => rfl) (fun E => zr (za rfl (za (zi 0) (za (zi 0) (zk (W.seq (zr (zm rfl (zq (Q.len ud9 rfl rfl) (zq (Q.bin rfl (zi 1024) rfl (bv_gtr ltn)) (zk (W.cD rfl (fun hc12 => ?_) (fun hc12 => ?_)))))))))))))
 ·refine zr (za rfl (za (zi 0) (za (zi 3) (zk (W.ret ?_)))))
  refine End.Kr (End.ret (ResL.tmp rfl (ResL.tmp rfl (z1 rfl))) (scan_no (by decide)) (fun e h => no_w h) (SubH.nil _))
 (exfalso; omega)
theorem scan_any (s : List Nat) (hs : Bytes s) : Spec tab 30 [.str s] [] [] scanQ := by
 rcases Nat.lt_or_ge 1048576 s.length with h | h
 ·exact (scan_long s hs h).mono fun _ _ => scan_q
 ·exact (scan_spec s hs h).mono fun _ _ => scan_q
theorem parse_spec (s : List Nat) (hs : Bytes s) : Spec tab 9 [.str s] [] [] (PAP) := by
 refine Spec.en (ftg 9 Tryz.func9) rfl (m := 57) rfl (rs := [.cell 2 26, .tmp 3, .tmp 4]) rfl (st := [(0, .str s)]) rfl rfl (fun _ => rfl) (fun E => zr (WO.alloc ao26 rfl (fun b1 => za (zi 0) (za (zi 0) (zk (zr (zm rfl (WO.call0 rfl (oLc rfl oz) rfl (scan_any s hs) SubR.nil rfl (fun v12 D12 hP12 => ?_)))))))))
 rcases hP12 with ⟨sa, se, hse, rfl, rfl⟩ | ⟨tb, ex, toks, n, rfl, rfl, hn, hnk, hok, hla⟩
 ·refine zm rfl (zq (Q.extract rfl rfl) (zq (Q.extract rfl rfl) (zq (Q.extract rfl rfl) (za rfl (za rfl (za rfl (zk (W.seq (zr (zm rfl (zq (Q.bin rfl (zi 0) rfl (bv_neq ne_int)) (zk (W.cD rfl (fun hc17 => ?_) (fun hc17 => ?_))))))))))))))
  ·refine zr (zq (zB pl26 oPs_nil rfl rfl) (zm rfl (zm rfl (zS sz26 rfl rfl (i := 0) rfl (by first | rfl | exact and_tt rfl ckA) rfl (hs' := [_]) rfl (za rfl (za rfl (zk (W.sub (zc 4 rfl (zc 3 rfl (zc 2 rfl zzn))) (W.ret ?_)))))))))
   refine End.Kr (End.ret (zA rfl (zt 0 rfl) ag26 sz26 rfl (ResL.tmp rfl (z1 rfl))) (hs' := []) ⟨⟨0, [], 0, .nils, 0, 0, 0, .nils, 0, false, .nils⟩, [], _, sa, se, rfl, NOk.zero, no_wl, zy, rfl⟩ no_wl gsn)
  (exfalso; omega)
 have ha : 0 ≤ n := Nat.zero_le n
 have hnl : n ≤ 1048576 := zy
 refine zm rfl (zq (Q.extract rfl rfl) (zq (Q.extract rfl rfl) (zq (Q.extract rfl rfl) (za rfl (za rfl (za rfl (zk (W.seq (zr (zm rfl (zq (Q.bin rfl (zi 0) rfl (bv_neq (p := false) rfl)) (zk (W.condF rfl (zw (zr (zm rfl (zq (Q.build pl64 (opc rfl oPs_nil) rfl (cs := [_, _, _, _, _]) rfl) (WO.box rfl rfl (bx64 _ rfl) rfl (fun X => za rfl (zk (W.sub (zc 8 rfl (zc 2 rfl zzn)) (zr (zm rfl ?_)))))))))))))))))))))))
 refine WO.call1 rfl (oLc rfl (oLc (zi 0) oz)) rfl (i := 0) rfl ((parse_all toks n hn hnl hok tb ex X hla _ 0 0 0 0 ha).1 0 zy (Nat.lt_succ_self _)) (SubR.one (zt 0 rfl)) (hs' := [_, _]) rfl rfl (fun v25 D25 hP25 => ?_)
 obtain ⟨x25, hq25, m25, a25, d25, e25, f25, rfl, nk25, nw25, p25, q25, r25, s25, rfl⟩ := hP25
 refine WO.subH (hs' := _ :: _ :: _ :: (hq25)) (SubH.op (perm_tail (N := [_]) (G := hq25) (K := [_, _]) (X := []))) (WO.alloc ao26 rfl (fun b3 => zS sz26 rfl rfl (i := 0) rfl (by first | rfl | exact and_tt rfl ckA) rfl (hs' := _ :: _ :: _ :: _ :: _) rfl (zk (W.seqJ2 (fun (e3 : Int) (f3 : Int) => [(2, .ptr b1 0), (8, .ptr X 0), (9, .ptr b3 0)]) (fun (e3 : Int) (f3 : Int) => ⟨X, ⟨5, true, [.slice tb 0 (n + 1) 4, .int .i64 ((a25 : Nat) : Int), .int .i64 d25, .int .i64 e3, .int .i64 f3]⟩, true⟩ :: ⟨b3, ⟨11, true, nC x25⟩, true⟩ :: ⟨b1, ⟨11, true, nodeC 0 [] 0 .nils 0 0 0 .nils 0 false .nils⟩, true⟩ :: ⟨tb, ⟨4, ex, tokCs toks⟩, true⟩ :: hq25) (fun (e3 : Int) (f3 : Int) => (e3 = 0 → e25 = 0)) (fun e3 f3 hI8 => ?_) (fun hJ8 => ?_)))))
 ·have j8 := hI8
  refine W.seq (zr (zm rfl (zq (Q.nilP rfl) (zf fa64_3 rfl 3 (zq (Q.l1 rfl (zt 0 rfl) ag3 rfl) (zq (Q.bin rfl (zi 0) rfl (bv_neq ne_int)) (zk (W.cD rfl (fun hc46 => ?_) (fun hc46 => ?_)))))))))
  ·refine W.seq (W.regD 11 [⟨X, _, false⟩] (by kernel_rfl) (KIn.cons (zt 0 rfl) KIn.nil) (WD.q (zB pl26 oPs_nil rfl rfl) (by simp [AV.beq, beq1, beq0, beqL]) rfl (WD.q (Q.move rfl) bqp rfl (WD.q (Q.nilP rfl) bqp rfl (WD.q (Q.fieldAddr fa64_4 rfl (o' := 4) rfl) bqp rfl (WD.q (Q.l1 rfl (zt 0 rfl) ag3 rfl) bqi rfl (WD.q (Q.move rfl) bqp rfl (WD.q (Q.nilP rfl) bqp rfl (WD.q (Q.fieldAddr fa64_3 rfl (o' := 3) rfl) bqp rfl (WD.q (Q.l1 rfl (zt 0 rfl) ag3 rfl) bqi rfl (WD.store sz26 rfl rfl (j := 2) rfl (by first | rfl | exact and_tt rfl ckA) (cs := [_, _, _, _, _, _, _, _, _, _, _]) rfl (hs' := _ :: _ :: _ :: _ :: _) rfl (fun _ => (KIn.cons (zt 0 rfl) KIn.nil)) (WD.q (Q.assign rfl) bqi rfl (WD.q (Q.assign rfl) bqi rfl (WD.nil (End.K (W.sub (zc 4 rfl (zc 3 rfl (zc 2 rfl zzn))) (W.ret ?_)))))))))))))))))
   refine End.Kr (End.ret (zA rfl (zt 2 rfl) ag26 sz26 rfl (ResL.tmp rfl (z1 rfl))) (hs' := []) ⟨⟨0, [], 0, .nils, 0, 0, 0, .nils, 0, false, .nils⟩, [], _, f3, e3, rfl, NOk.zero, no_wl, zy, rfl⟩ no_wl gsn)
  refine zw (zr (zq (zL rfl (zt 1 rfl) ag26 sz26 rfl) (zS sz26 rfl rfl (i := 2) rfl (by first | rfl | exact and_tt rfl ckA) rfl (hs' := _ :: _ :: _ :: _ :: _) rfl (za (zi 0) (za (zi 0) (zk (W.ret ?_)))))))
  refine End.ret (zA rfl (zt 2 rfl) ag26 sz26 rfl (ResL.tmp rfl (z1 rfl))) (hs' := hq25) ⟨x25, hq25, _, 0, 0, rfl, nk25, nw25, zy, rfl⟩ nw25 gsn
 refine zr (zm rfl (zq (Q.nilP rfl) (zf fa64_3 rfl 3 (zq (Q.l1 rfl (zt 1 rfl) ag3 rfl) (zq (Q.bin rfl (zi 0) rfl (bv_eql eq_int)) (zm rfl (WO.sD (d := 31) rfl (fun hc31 => ?_) (fun hc31 => ?_))))))))
 ·refine zT (zm rfl (zT (WO.cV rfl (oLc rfl oz) rfl (now_spec toks n hn hnl hok tb ex X a25 zy d25 e25 f25) (SubR.t SubR.two) rfl (zT (zq (Q.field1 ft67_0 rfl rfl) (zT (zq (Q.bin rfl (zi 6) rfl (bv_neq ne_nat)) (zq (Q.pT rfl rfl) (zk (W.cD rfl (fun hc36 => ?_) (fun hc36 => ?_)))))))))))
  ·refine W.reg (zm rfl (zm rfl (WO.cV rfl (oLc rfl oz) rfl (now_spec toks n hn hnl hok tb ex X a25 zy d25 e25 f25) (SubR.t SubR.two) rfl (zq (Q.field1 ft67_3 rfl rfl) (WO.call1 rfl (oLc rfl (oLc (zi 14) (oLc rfl oz))) rfl (i := 1) rfl (fail_spec n tb X a25 d25 e25 f25 _ _) SubR.nil (hs' := _ :: _ :: _ :: _) rfl rfl (fun v41 D41 hP41 => ?_))))))
   obtain ⟨rfl, rfl⟩ := hP41
   refine WO.nil (End.K (W.sub zv (W.sH gsn (hJ8 ((if e25 = 0 then (((14 : Nat) : Int)) else e25)) ((if e25 = 0 then (tg toks a25).2.2.2 else f25)) ?_))))
   exact (by first | exact fun h => h | (intro h; split at h <;> omega))
  refine W.skip (End.K (W.sub zv (W.sH gsn (hJ8 (e25) (f25) ?_))))
  exact (by first | exact fun h => h | (intro h; split at h <;> omega))
 refine zG (zG (zG (zG (zq (Q.pF rfl rfl) (zk (W.condF rfl (W.skip (End.K (W.sub zv (W.sH gsn (hJ8 (e25) (f25) ?_)))))))))))
 exact (by first | exact fun h => h | (intro h; split at h <;> omega))
end Go.Proofs.YtndhhgbpcmfeiaaGreatDoor.Ev.P16
/- The parser's trees are trees. -/
namespace Go.Proofs.YtndhhgbpcmfeiaaGreatDoor.Ev
open Go.RowKit
theorem flat_parts : ∀ {n : Nat} {l : List AV} {f : Nat → List AV}, l.length = n * 11 → (∀ i, i < n → sub? l ((0 + i) * 11) 11 = some (f i)) → l = ((List.range n).map f).flatMap id
 | 0, l, f, h, _ => by
  rw [List.length_eq_zero_iff.1 (by omega : l.length = 0)]; rfl
 | n + 1, l, f, h, g => by
  have e := g n zy
  have hl : Nat.ble ((0 + n) * 11 + 11) l.length = true := Nat.ble_eq.mpr zy
  unfold sub? at e
  simp only [hl] at e
  have e := Option.some.inj e
  have e2 : (l.drop ((0 + n) * 11)).take 11 = l.drop (n * 11) := by
   rw [Nat.zero_add]
   exact List.take_of_length_le (by rw [List.length_drop]; omega)
  rw [e2] at e
  have ih := flat_parts (n := n) (l := l.take (n * 11)) (f := f) (by rw [List.length_take]; omega) fun i hi => by
   have h1 := g i zy
   have hb : Nat.ble ((0 + i) * 11 + 11) l.length = true := Nat.ble_eq.mpr zy
   have hb2 : Nat.ble ((0 + i) * 11 + 11) (l.take (n * 11)).length = true := Nat.ble_eq.mpr (by rw [List.length_take]; omega)
   unfold sub? at h1 ⊢
   simp only [hb, hb2] at h1 ⊢
   rw [← h1, List.drop_take, List.take_take]
   congr 2
   omega
  rw [List.range_succ, List.map_append, List.flatMap_append, ← ih, List.map_cons, List.map_nil, List.flatMap_cons, List.flatMap_nil, List.append_nil, id, ← e, List.take_append_drop]
mutual
def szT : TD → Nat
 | .node d ks => szK ks + 1
def szK : List TD → Nat
 | [] => 0
 | k :: ks => szT k + szK ks
end
theorem szK_app : ∀ {a b : List TD}, szK (a ++ b) = szK a + szK b
 | [], b => by rw [List.nil_append, szK, Nat.zero_add]
 | k :: a, b => by rw [List.cons_append, szK, szK, szK_app, Nat.add_assoc]
theorem szK_le {t : Nat → TD} {f : Nat → Nat} : ∀ {n : Nat}, (∀ i, i < n → szT (t i) ≤ f i) → szK ((List.range n).map t) ≤ P16.sumN f n
 | 0, _ => by simp [szK, P16.sumN]
 | n + 1, h => by
  have ih := szK_le (n := n) fun i hi => h i zy
  have h1 := h n zy
  rw [List.range_succ, List.map_append, szK_app, P16.sumN, List.map_cons, List.map_nil, szK, szK]
  omega
def KyOK (d : ND) : Prop := d.op.length ≤ 1048576 ∧ I64 d.kd
mutual
def TKy : TD → Prop
 | .node d ks => KyOK d ∧ TKys ks
def TKys : List TD → Prop
 | [] => True
 | k :: ks => TKy k ∧ TKys ks
end
theorem tkys_snoc : ∀ {a : List TD} {k : TD}, TKys a → TKy k → TKys (a ++ [k])
 | [], k, _, h => by show TKys [k]; rw [TKys, TKys]; exact ⟨h, trivial⟩
 | x :: a, k, h, g => by
  rw [TKys] at h
  show TKys (x :: (a ++ [k]))
  rw [TKys]
  exact ⟨h.1, tkys_snoc h.2 g⟩
theorem tkys_of {t : Nat → TD} : ∀ {n : Nat}, (∀ i, i < n → TKy (t i)) → TKys ((List.range n).map t)
 | 0, _ => by rw [List.range_zero, List.map_nil, TKys]; trivial
 | n + 1, h => by
  rw [List.range_succ, List.map_append]
  exact tkys_snoc (tkys_of fun i hi => h i zy) (h n zy)
theorem ky_of {k n rg off md sd : Int} {op : List Nat} {M : List Mt} {N : List (List Nat)} {bl : Bool} (h : op.length ≤ 1048576 ∧ 0 ≤ k ∧ k ≤ 6) : KyOK ⟨k, op, n, M, rg, off, md, N, sd, bl⟩ := ⟨h.1, by unfold I64; show _ ≤ k ∧ k ≤ _; omega⟩
section
variable {hs : HSt} {v : AV}
theorem msok_rin (h : P16.MsOK hs v) : ∃ l : List Mt, RIn hs 3 l.length (cM l) v ∧ MtBd l := by
 obtain ⟨M, h1, h2, h3⟩ := h
 refine ⟨M, ?_, h3, fun m hm => ⟨(h2 m hm).1, (h2 m hm).2.2.1⟩⟩
 rcases h1 with ⟨rfl, rfl⟩ | ⟨b, ex, rfl, hm⟩
 ·exact RIn.nil
 ·exact .inr ⟨b, 3, ex, rfl, hm, cM_len M⟩
theorem nmok_rin (h : P16.NmOK hs v) : ∃ l : List (List Nat), RIn hs 1 l.length (cS l) v ∧ StBd l := by
 obtain ⟨N, h1, h2, h3⟩ := h
 refine ⟨N, ?_, h3, h2⟩
 rcases h1 with ⟨rfl, rfl⟩ | ⟨b, ex, rfl, hm⟩
 ·exact RIn.nil
 ·exact .inr ⟨b, 1, ex, rfl, hm, cS_len N⟩
theorem treps_of : ∀ {n : Nat} {t : Nat → TD} {c : Nat → List AV}, (∀ i, i < n → TRep hs (t i) (c i)) → TReps hs ((List.range n).map t) ((List.range n).map c)
 | 0, t, c, _ => by simp [TReps]
 | n + 1, t, c, h => by
  rw [List.range_succ, List.map_append, List.map_append]
  exact TReps.snoc (treps_of fun i hi => h i zy) (h n zy)
theorem rrep_k : ∀ {d : Nat} {c : List AV} {m : Nat}, P16.RRep hs d c m → ∃ t, TRep hs t c ∧ szT t ≤ m ∧ TKy t
 | 0, c, m, h => h.elim
 | d + 1, c, m, ⟨h0, k, op, n, ms, rg, off, md, nm, sd, bl, kd, h1, h2, h3, h5, h6, h4⟩ => by
  obtain ⟨M, hM, bM⟩ := msok_rin h5
  obtain ⟨N, hN, bN⟩ := nmok_rin h6
  rcases h4 with rfl | ⟨b, len, ob, rfl, g1, g2, g3, f, g6, g4⟩
  ·refine ⟨.node ⟨k, op, n, M, rg, off, md, N, sd, bl⟩ [], ?_, by rw [szT, szK]; exact h0, by rw [TKy, TKys]; exact ⟨ky_of h3, trivial⟩⟩
   rw [TRep]
   exact ⟨ms, nm, .nils, [], h1, hM, hN, RIn.nil, ⟨h2, bM, bN⟩, by simp, by rw [TReps]⟩
  ·have hx : ∀ i, i < len → ∃ x : TD × List AV, sub? ob.cells ((0 + i) * 11) 11 = some x.2 ∧ TRep hs x.1 x.2 ∧ szT x.1 ≤ f i ∧ TKy x.1 := fun i hi => by
    obtain ⟨c', e1, e2⟩ := g4 i hi
    obtain ⟨t, ht, hz⟩ := rrep_k e2
    exact ⟨(t, c'), e1, ht, hz⟩
   have hx : ∃ x : Nat → TD × List AV, ∀ i, i < len → sub? ob.cells ((0 + i) * 11) 11 = some (x i).2 ∧ TRep hs (x i).1 (x i).2 ∧ szT (x i).1 ≤ f i ∧ TKy (x i).1 := by
    classical
    refine ⟨fun i => if hi : i < len then Classical.choose (hx i hi) else (zeroT, []), fun i hi => ?_⟩
    simp only [dif_pos hi]
    exact Classical.choose_spec (hx i hi)
   obtain ⟨x, hx⟩ := hx
   refine ⟨.node ⟨k, op, n, M, rg, off, md, N, sd, bl⟩ ((List.range len).map fun i => (x i).1), ?_, by rw [szT]; have := szK_le (t := fun i => (x i).1) (f := f) fun i hi => (hx i hi).2.2.1; omega, by rw [TKy]; exact ⟨ky_of h3, tkys_of fun i hi => (hx i hi).2.2.2⟩⟩
   rw [TRep]
   have hl : ((List.range len).map fun i => (x i).1).length = len := by simp
   have e := flat_parts (f := fun i => (x i).2) g3 fun i hi => (hx i hi).1
   refine ⟨ms, nm, .slice b 0 len 11, (List.range len).map fun i => (x i).2, h1, hM, hN, .inr ⟨b, ob.sz, ob.exact_, by rw [hl], ?_, ?_⟩, ⟨h2, bM, bN⟩, by omega, treps_of fun i hi => (hx i hi).2.1⟩
   ·rw [← e]; exact g1
   ·rw [← e, g3, hl]
end
set_option maxRecDepth 100000
set_option maxHeartbeats 1000000
mutual
def layT : TD → List (ND × List Int) → List (ND × List Int)
 | .node d ks, L => (layK ks L []).1 ++ [(d, (layK ks L []).2)]
def layK : List TD → List (ND × List Int) → List Int → List (ND × List Int) × List Int
 | [], L, A => (L, A)
 | k :: ks, L, A => layK ks (layT k L) (A ++ [(((layT k L).length - 1 : Nat) : Int)])
end
theorem layK_snoc : ∀ {ks : List TD} {k : TD} {L : List (ND × List Int)} {A : List Int}, layK (ks ++ [k]) L A = (layT k (layK ks L A).1, (layK ks L A).2 ++ [(((layT k (layK ks L A).1).length - 1 : Nat) : Int)])
 | [], k, L, A => by rw [List.nil_append, layK, layK, layK]
 | x :: ks, k, L, A => by rw [List.cons_append, layK, layK_snoc, layK]
mutual
theorem layT_len : ∀ {t : TD} {L : List (ND × List Int)}, (layT t L).length = L.length + szT t
 | .node d ks, L => by
  rw [layT, szT, List.length_append, layK_len ks L [], List.length_cons, List.length_nil, Nat.add_assoc]
theorem layK_len : ∀ (ks : List TD) (L : List (ND × List Int)) (A : List Int), (layK ks L A).1.length = L.length + szK ks
 | [], L, A => by rw [layK, szK, Nat.add_zero]
 | k :: ks, L, A => by
  rw [layK, layK_len ks, layT_len, szK, Nat.add_assoc]
end
theorem layK_len2 : ∀ {ks : List TD} {L : List (ND × List Int)} {A : List Int}, (layK ks L A).2.length = A.length + ks.length
 | [], L, A => by rw [layK]; rfl
 | k :: ks, L, A => by
  rw [layK, layK_len2, List.length_append, List.length_cons, List.length_cons, List.length_nil]; omega
theorem szT_pos : ∀ {t : TD}, 0 < szT t
 | .node d ks => by rw [szT]; exact Nat.succ_pos _
theorem szK_take : ∀ {ks : List TD} {i : Nat}, szK (ks.take i) ≤ szK ks
 | [], i => by simp
 | k :: ks, 0 => by rw [List.take_zero, szK]; exact Nat.zero_le _
 | k :: ks, i + 1 => by
  rw [List.take_succ_cons, szK, szK]
  have := szK_take (ks := ks) (i := i)
  omega
end Go.Proofs.YtndhhgbpcmfeiaaGreatDoor.Ev
