/- Chapter 16, by the document: Parse. -/
import Derived.Test.YtndhhgbpcmfeiaaGreatDoorMVu
import Derived.Test.YtndhhgbpcmfeiaaGreatDoorMGh
import Derived.Test.YtndhhgbpcmfeiaaGreatDoorMEvX
namespace Go.Proofs.YtndhhgbpcmfeiaaGreatDoor.Ev.P16
open Go.RowKit
set_option linter.unusedVariables false
set_option linter.unusedSimpArgs false
set_option maxRecDepth 100000
set_option maxHeartbeats 1000000
def scanQ (v : AV) (D : HSt) : Prop :=
 (∃ a e : Int, e ≠ 0 ∧ v = .tuple [.nils, .int .i64 a, .int .i64 e] ∧ D = []) ∨
 ∃ (b : Nat) (ex : Bool) (toks : List TokT) (n : Nat), v = .tuple [.slice b 0 (n + 1) 4, .int .i64 ((0 : Nat) : Int), .int .i64 ((0 : Nat) : Int)] ∧ D = [⟨b, ⟨4, ex, tokCs toks⟩, true⟩] ∧ toks.length = n + 1 ∧ n ≤ 1024 ∧ TokO toks ∧ (tg toks n).1 = 6
theorem scan_q {v : AV} {D : HSt} (h : scanP v D) : scanQ v D := by
 rcases h with h | ⟨b, ex, acc, a, rfl, rfl, h1, h2⟩
 ·exact .inl h
 ·refine .inr ⟨b, ex, acc ++ [(6, [], 0, a)], acc.length, rfl, ?_, by simp, by omega, ?_, ?_⟩
  ·simp [tokCs, tokC]
  ·intro x hx
   rcases List.mem_append.1 hx with hx | hx
   ·exact h1 x hx
   ·simp at hx; subst hx; exact ⟨nil_bytes, Nat.zero_le _⟩
  ·unfold tg
   simp
def PAP (v : AV) (D : HSt) : Prop := ∃ (x : NodT) (hq : HSt) (m : Nat) (at_ e : Int), v = .tuple [.agg (nC x), .int .i64 at_, .int .i64 e] ∧ NOk hq x m ∧ (∀ y ∈ hq, y.w = true) ∧ m ≤ 1024 ∧ D = hq
theorem scan_long (s : List Nat) (hs : Bytes s) (hl : 1048576 < s.length) : Spec tab 30 [.str s] [] [] (scanP) := by
 refine Spec.en (ftg 30 Tryz.func30) rfl (m := 42) rfl (rs := [.tmp 2, .tmp 3, .tmp 4]) rfl (st := [(0, .str s)]) rfl rfl (fun _ => rfl) (fun E => zr (za rfl (za (zi 0) (za (zi 0) (zk (W.seq (zr (zm rfl (zq (Q.len ud9 rfl rfl) (zq (Q.bin rfl (zi 1024) rfl (bv_gtr ltn)) (zk (W.cD rfl (fun hc12 => ?_) (fun hc12 => ?_)))))))))))))
 ·refine zr (za rfl (za (zi 0) (za (zi 3) (zk (W.ret ?_)))))
  refine End.Kr (End.ret (ResL.tmp rfl (ResL.tmp rfl (z1 rfl))) (scan_no (by decide)) (fun e h => no_w h) (SubH.nil _))
 (exfalso; omega)
theorem scan_any (s : List Nat) (hs : Bytes s) : Spec tab 30 [.str s] [] [] scanQ := by
 rcases Nat.lt_or_ge 1048576 s.length with h | h
 ·exact (scan_long s hs h).mono fun _ _ => scan_q
 ·exact (scan_spec s hs h).mono fun _ _ => scan_q
theorem parse_spec (s : List Nat) (hs : Bytes s) : Spec tab 9 [.str s] [] [] (PAP) := by
 refine Spec.en (ftg 9 Tryz.func9) rfl (m := 57) rfl (rs := [.cell 2 26, .tmp 3, .tmp 4]) rfl (st := [(0, .str s)]) rfl rfl (fun _ => rfl) (fun E => zr (WO.alloc ao26 rfl (fun b1 => za (zi 0) (za (zi 0) (zk (zr (zm rfl (WO.call0 rfl (oLc rfl oz) rfl (scan_any s hs) SubR.nil rfl (fun v12 D12 hP12 => ?_)))))))))
 rcases hP12 with ⟨sa, se, hse, rfl, rfl⟩ | ⟨tb, ex, toks, n, rfl, rfl, hn, hnk, hok, hla⟩
 ·refine zm rfl (zq (Q.extract rfl rfl) (zq (Q.extract rfl rfl) (zq (Q.extract rfl rfl) (za rfl (za rfl (za rfl (zk (W.seq (zr (zm rfl (zq (Q.bin rfl (zi 0) rfl (bv_neq ne_int)) (zk (W.cD rfl (fun hc17 => ?_) (fun hc17 => ?_))))))))))))))
  ·refine zr (zq (Q.build pl26 oPs_nil rfl (cs := [_, _, _, _, _, _, _, _, _, _, _]) rfl) (zm rfl (zm rfl (WO.store sz26 rfl rfl (i := 0) rfl (by first | rfl | exact and_tt rfl ckA) (cs := [_, _, _, _, _, _, _, _, _, _, _]) rfl (hs' := [_]) rfl (za rfl (za rfl (zk (W.sub (zc 4 rfl (zc 3 rfl (zc 2 rfl zzn))) (W.ret ?_)))))))))
   refine End.Kr (End.ret (ResL.agg (c := [_, _, _, _, _, _, _, _, _, _, _]) rfl (zt 0 rfl) ag26 sz26 rfl (ResL.tmp rfl (z1 rfl))) (hs' := []) ⟨⟨0, [], 0, .nils, 0, 0, 0, .nils, 0, false, .nils⟩, [], _, sa, se, rfl, NOk.zero, no_wl, (by omega), rfl⟩ no_wl gsn)
  (exfalso; omega)
 have ha : 0 ≤ n := Nat.zero_le n
 have hnl : n ≤ 1048576 := (by omega)
 refine zm rfl (zq (Q.extract rfl rfl) (zq (Q.extract rfl rfl) (zq (Q.extract rfl rfl) (za rfl (za rfl (za rfl (zk (W.seq (zr (zm rfl (zq (Q.bin rfl (zi 0) rfl (bv_neq (p := false) rfl)) (zk (W.condF rfl (zw (zr (zm rfl (zq (Q.build pl64 (opc rfl oPs_nil) rfl (cs := [_, _, _, _, _]) rfl) (WO.box rfl rfl (bx64 _ rfl) rfl (fun X => za rfl (zk (W.sub (zc 8 rfl (zc 2 rfl zzn)) (zr (zm rfl ?_)))))))))))))))))))))))
 refine WO.call1 rfl (oLc rfl (oLc (zi 0) oz)) rfl (i := 0) rfl ((parse_all toks n hn hnl hok tb ex X hla _ 0 0 0 0 ha).1 0 (by omega) (Nat.lt_succ_self _)) (SubR.one (zt 0 rfl)) (hs' := [_, _]) rfl rfl (fun v25 D25 hP25 => ?_)
 obtain ⟨x25, hq25, m25, a25, d25, e25, f25, rfl, nk25, nw25, p25, q25, r25, s25, rfl⟩ := hP25
 refine WO.subH (hs' := _ :: _ :: _ :: (hq25)) (SubH.op (perm_tail (N := [_]) (G := hq25) (K := [_, _]) (X := []))) (WO.alloc ao26 rfl (fun b3 => WO.store sz26 rfl rfl (i := 0) rfl (by first | rfl | exact and_tt rfl ckA) (cs := [_, _, _, _, _, _, _, _, _, _, _]) rfl (hs' := _ :: _ :: _ :: _ :: _) rfl (zk (W.seqJ2 (fun (e3 : Int) (f3 : Int) => [(2, .ptr b1 0), (8, .ptr X 0), (9, .ptr b3 0)]) (fun (e3 : Int) (f3 : Int) => ⟨X, ⟨5, true, [.slice tb 0 (n + 1) 4, .int .i64 ((a25 : Nat) : Int), .int .i64 d25, .int .i64 e3, .int .i64 f3]⟩, true⟩ :: ⟨b3, ⟨11, true, nC x25⟩, true⟩ :: ⟨b1, ⟨11, true, nodeC 0 [] 0 .nils 0 0 0 .nils 0 false .nils⟩, true⟩ :: ⟨tb, ⟨4, ex, tokCs toks⟩, true⟩ :: hq25) (fun (e3 : Int) (f3 : Int) => (e3 = 0 → e25 = 0)) (fun e3 f3 hI8 => ?_) (fun hJ8 => ?_)))))
 ·have j8 := hI8
  refine W.seq (zr (zm rfl (zq (Q.nilP rfl) (zf fa64_3 rfl 3 (zq (Q.l1 rfl (zt 0 rfl) ag3 rfl) (zq (Q.bin rfl (zi 0) rfl (bv_neq ne_int)) (zk (W.cD rfl (fun hc46 => ?_) (fun hc46 => ?_)))))))))
  ·refine W.seq (W.regD 11 [⟨X, _, false⟩] (by kernel_rfl) (KIn.cons (zt 0 rfl) KIn.nil) (WD.q (Q.build pl26 oPs_nil rfl (cs := [_, _, _, _, _, _, _, _, _, _, _]) rfl) (by simp [AV.beq, beq1, beq0, beqL]) rfl (WD.q (Q.move rfl) bqp rfl (WD.q (Q.nilP rfl) bqp rfl (WD.q (Q.fieldAddr fa64_4 rfl (o' := 4) rfl) bqp rfl (WD.q (Q.l1 rfl (zt 0 rfl) ag3 rfl) bqi rfl (WD.q (Q.move rfl) bqp rfl (WD.q (Q.nilP rfl) bqp rfl (WD.q (Q.fieldAddr fa64_3 rfl (o' := 3) rfl) bqp rfl (WD.q (Q.l1 rfl (zt 0 rfl) ag3 rfl) bqi rfl (WD.store sz26 rfl rfl (j := 2) rfl (by first | rfl | exact and_tt rfl ckA) (cs := [_, _, _, _, _, _, _, _, _, _, _]) rfl (hs' := _ :: _ :: _ :: _ :: _) rfl (fun _ => (KIn.cons (zt 0 rfl) KIn.nil)) (WD.q (Q.assign rfl) bqi rfl (WD.q (Q.assign rfl) bqi rfl (WD.nil (End.K (W.sub (zc 4 rfl (zc 3 rfl (zc 2 rfl zzn))) (W.ret ?_)))))))))))))))))
   refine End.Kr (End.ret (ResL.agg (c := [_, _, _, _, _, _, _, _, _, _, _]) rfl (zt 2 rfl) ag26 sz26 rfl (ResL.tmp rfl (z1 rfl))) (hs' := []) ⟨⟨0, [], 0, .nils, 0, 0, 0, .nils, 0, false, .nils⟩, [], _, f3, e3, rfl, NOk.zero, no_wl, (by omega), rfl⟩ no_wl gsn)
  refine zw (zr (zq (Q.loadN rfl (zt 1 rfl) ag26 sz26 (l := [_, _, _, _, _, _, _, _, _, _, _]) rfl) (WO.store sz26 rfl rfl (i := 2) rfl (by first | rfl | exact and_tt rfl ckA) (cs := [_, _, _, _, _, _, _, _, _, _, _]) rfl (hs' := _ :: _ :: _ :: _ :: _) rfl (za (zi 0) (za (zi 0) (zk (W.ret ?_)))))))
  refine End.ret (ResL.agg (c := [_, _, _, _, _, _, _, _, _, _, _]) rfl (zt 2 rfl) ag26 sz26 rfl (ResL.tmp rfl (z1 rfl))) (hs' := hq25) ⟨x25, hq25, _, 0, 0, rfl, nk25, nw25, (by omega), rfl⟩ nw25 gsn
 refine zr (zm rfl (zq (Q.nilP rfl) (zf fa64_3 rfl 3 (zq (Q.l1 rfl (zt 1 rfl) ag3 rfl) (zq (Q.bin rfl (zi 0) rfl (bv_eql eq_int)) (zm rfl (WO.sD (d := 31) rfl (fun hc31 => ?_) (fun hc31 => ?_))))))))
 ·refine WO.gT rfl rfl (zm rfl (WO.gT rfl rfl (WO.cV rfl (oLc rfl oz) rfl (now_spec toks n hn hnl hok tb ex X a25 (by omega) d25 e25 f25) (SubR.t SubR.two) rfl (WO.gT rfl rfl (zq (Q.field1 ft67_0 rfl rfl) (WO.gT rfl rfl (zq (Q.bin rfl (zi 6) rfl (bv_neq ne_nat)) (zq (Q.pT rfl rfl) (zk (W.cD rfl (fun hc36 => ?_) (fun hc36 => ?_)))))))))))
  ·refine W.reg (zm rfl (zm rfl (WO.cV rfl (oLc rfl oz) rfl (now_spec toks n hn hnl hok tb ex X a25 (by omega) d25 e25 f25) (SubR.t SubR.two) rfl (zq (Q.field1 ft67_3 rfl rfl) (WO.call1 rfl (oLc rfl (oLc (zi 14) (oLc rfl oz))) rfl (i := 1) rfl (fail_spec n tb X a25 d25 e25 f25 _ _) SubR.nil (hs' := _ :: _ :: _ :: _) rfl rfl (fun v41 D41 hP41 => ?_))))))
   obtain ⟨rfl, rfl⟩ := hP41
   refine WO.nil (End.K (W.sub zv (W.sH gsn (hJ8 ((if e25 = 0 then (((14 : Nat) : Int)) else e25)) ((if e25 = 0 then (tg toks a25).2.2.2 else f25)) ?_))))
   exact (by first | exact fun h => h | (intro h; split at h <;> omega))
  refine W.skip (End.K (W.sub zv (W.sH gsn (hJ8 (e25) (f25) ?_))))
  exact (by first | exact fun h => h | (intro h; split at h <;> omega))
 refine zg rfl rfl (zg rfl rfl (zg rfl rfl (zg rfl rfl (zq (Q.pF rfl rfl) (zk (W.condF rfl (W.skip (End.K (W.sub zv (W.sH gsn (hJ8 (e25) (f25) ?_)))))))))))
 exact (by first | exact fun h => h | (intro h; split at h <;> omega))
end Go.Proofs.YtndhhgbpcmfeiaaGreatDoor.Ev.P16
/- The parser's trees are trees. -/
namespace Go.Proofs.YtndhhgbpcmfeiaaGreatDoor.Ev
open Go.RowKit
set_option linter.unusedVariables false
set_option linter.unusedSimpArgs false
theorem flat_parts : ∀ {n : Nat} {l : List AV} {f : Nat → List AV}, l.length = n * 11 → (∀ i, i < n → sub? l ((0 + i) * 11) 11 = some (f i)) → l = ((List.range n).map f).flatMap id
 | 0, l, f, h, _ => by
  rw [List.length_eq_zero_iff.1 (by omega : l.length = 0)]; rfl
 | n + 1, l, f, h, g => by
  have e := g n zy
  have hl : Nat.ble ((0 + n) * 11 + 11) l.length = true := Nat.ble_eq.mpr zy
  unfold sub? at e
  simp only [hl] at e
  have e := Option.some.inj e
  have e2 : (l.drop ((0 + n) * 11)).take 11 = l.drop (n * 11) := by
   rw [Nat.zero_add]
   exact List.take_of_length_le (by rw [List.length_drop]; omega)
  rw [e2] at e
  have ih := flat_parts (n := n) (l := l.take (n * 11)) (f := f) (by rw [List.length_take]; omega) fun i hi => by
   have h1 := g i zy
   have hb : Nat.ble ((0 + i) * 11 + 11) l.length = true := Nat.ble_eq.mpr zy
   have hb2 : Nat.ble ((0 + i) * 11 + 11) (l.take (n * 11)).length = true := Nat.ble_eq.mpr (by rw [List.length_take]; omega)
   unfold sub? at h1 ⊢
   simp only [hb, hb2] at h1 ⊢
   rw [← h1, List.drop_take, List.take_take]
   congr 2
   omega
  rw [List.range_succ, List.map_append, List.flatMap_append, ← ih, List.map_cons, List.map_nil, List.flatMap_cons, List.flatMap_nil, List.append_nil, id, ← e, List.take_append_drop]
mutual
def szT : TD → Nat
 | .node d ks => szK ks + 1
def szK : List TD → Nat
 | [] => 0
 | k :: ks => szT k + szK ks
end
theorem szK_app : ∀ {a b : List TD}, szK (a ++ b) = szK a + szK b
 | [], b => by rw [List.nil_append, szK, Nat.zero_add]
 | k :: a, b => by rw [List.cons_append, szK, szK, szK_app, Nat.add_assoc]
theorem szK_le {t : Nat → TD} {f : Nat → Nat} : ∀ {n : Nat}, (∀ i, i < n → szT (t i) ≤ f i) → szK ((List.range n).map t) ≤ P16.sumN f n
 | 0, _ => by simp [szK, P16.sumN]
 | n + 1, h => by
  have ih := szK_le (n := n) fun i hi => h i zy
  have h1 := h n zy
  rw [List.range_succ, List.map_append, szK_app, P16.sumN, List.map_cons, List.map_nil, szK, szK]
  omega
section
variable {hs : HSt} {v : AV}
theorem msok_rin (h : P16.MsOK hs v) : ∃ l : List Mt, RIn hs 3 l.length (cM l) v ∧ MtBd l := by
 obtain ⟨M, h1, h2, h3⟩ := h
 refine ⟨M, ?_, h3, fun m hm => ⟨(h2 m hm).1, (h2 m hm).2.2.1⟩⟩
 rcases h1 with ⟨rfl, rfl⟩ | ⟨b, ex, rfl, hm⟩
 ·exact RIn.nil
 ·exact .inr ⟨b, 3, ex, rfl, hm, cM_len M⟩
theorem nmok_rin (h : P16.NmOK hs v) : ∃ l : List (List Nat), RIn hs 1 l.length (cS l) v ∧ StBd l := by
 obtain ⟨N, h1, h2, h3⟩ := h
 refine ⟨N, ?_, h3, h2⟩
 rcases h1 with ⟨rfl, rfl⟩ | ⟨b, ex, rfl, hm⟩
 ·exact RIn.nil
 ·exact .inr ⟨b, 1, ex, rfl, hm, cS_len N⟩
theorem treps_of : ∀ {n : Nat} {t : Nat → TD} {c : Nat → List AV}, (∀ i, i < n → TRep hs (t i) (c i)) → TReps hs ((List.range n).map t) ((List.range n).map c)
 | 0, t, c, _ => by simp [TReps]
 | n + 1, t, c, h => by
  rw [List.range_succ, List.map_append, List.map_append]
  exact TReps.snoc (treps_of fun i hi => h i zy) (h n zy)
theorem rrep_t : ∀ {d : Nat} {c : List AV} {m : Nat}, P16.RRep hs d c m → ∃ t, TRep hs t c ∧ szT t ≤ m
 | 0, c, m, h => h.elim
 | d + 1, c, m, ⟨h0, k, op, n, ms, rg, off, md, nm, sd, bl, kd, h1, h2, h3, h5, h6, h4⟩ => by
  obtain ⟨M, hM, bM⟩ := msok_rin h5
  obtain ⟨N, hN, bN⟩ := nmok_rin h6
  rcases h4 with rfl | ⟨b, len, ob, rfl, g1, g2, g3, f, g6, g4⟩
  ·refine ⟨.node ⟨k, op, n, M, rg, off, md, N, sd, bl⟩ [], ?_, by rw [szT, szK]; exact h0⟩
   rw [TRep]
   exact ⟨ms, nm, .nils, [], h1, hM, hN, RIn.nil, ⟨h2, bM, bN⟩, by simp, by rw [TReps]⟩
  ·have hx : ∀ i, i < len → ∃ x : TD × List AV, sub? ob.cells ((0 + i) * 11) 11 = some x.2 ∧ TRep hs x.1 x.2 ∧ szT x.1 ≤ f i := fun i hi => by
    obtain ⟨c', e1, e2⟩ := g4 i hi
    obtain ⟨t, ht, hz⟩ := rrep_t e2
    exact ⟨(t, c'), e1, ht, hz⟩
   have hx : ∃ x : Nat → TD × List AV, ∀ i, i < len → sub? ob.cells ((0 + i) * 11) 11 = some (x i).2 ∧ TRep hs (x i).1 (x i).2 ∧ szT (x i).1 ≤ f i := by
    classical
    refine ⟨fun i => if hi : i < len then Classical.choose (hx i hi) else (zeroT, []), fun i hi => ?_⟩
    simp only [dif_pos hi]
    exact Classical.choose_spec (hx i hi)
   obtain ⟨x, hx⟩ := hx
   refine ⟨.node ⟨k, op, n, M, rg, off, md, N, sd, bl⟩ ((List.range len).map fun i => (x i).1), ?_, by rw [szT]; have := szK_le (t := fun i => (x i).1) (f := f) fun i hi => (hx i hi).2.2; omega⟩
   rw [TRep]
   have hl : ((List.range len).map fun i => (x i).1).length = len := by simp
   have e := flat_parts (f := fun i => (x i).2) g3 fun i hi => (hx i hi).1
   refine ⟨ms, nm, .slice b 0 len 11, (List.range len).map fun i => (x i).2, h1, hM, hN, .inr ⟨b, ob.sz, ob.exact_, by rw [hl], ?_, ?_⟩, ⟨h2, bM, bN⟩, by omega, treps_of fun i hi => (hx i hi).2.1⟩
   ·rw [← e]; exact g1
   ·rw [← e, g3, hl]
end
set_option maxRecDepth 100000
set_option maxHeartbeats 1000000
theorem ie_trep {hs : HSt} {d : ND} {A : List Int} {nk : Nat} {vm vn va : AV} (h : IOK hs (⟨d, A, nk, vm, vn, .nils, va⟩ : IE)) (hd : d.bd) : TRep hs (.node d []) (d.c vm vn .nils) := by
 rw [TRep]
 exact ⟨vm, vn, .nils, [], rfl, h.m, h.n, RIn.nil, hd, by simp, by rw [TReps]⟩
theorem bx42 : ∀ l : List AV, l.length = 12 → varObj tab 42 l = ⟨12, true, l⟩ := by intro l h; exact varObj_plain (by kernel_rfl) h
theorem s09_spec (hs : HSt) (hro : ∀ e ∈ hs, e.w = false) (A : List Int) (va vb : AV) (hA : RIn hs 1 A.length (cA A) va) (hB : RIn hs 1 A.length (cA A) vb) (hAl : A.length ≤ 1048576) : Spec tab 52 [va, vb] [] hs (Val (.bool true)) := by
 refine Spec.en (ftg 52 Tryz.func52) rfl (m := 26) rfl (rs := [.tmp 4]) rfl (st := [(0, va), (1, vb)]) rfl rfl (fun _ => rfl) (fun E => zr (za rfl (zk (W.seq (zr (zm rfl (zq (Q.len ud40 rfl hA.len) (zm rfl (zq (Q.len ud40 rfl hB.len) (zq (Q.bin rfl rfl rfl bs_int) (zk (W.condF rfl (zw (W.seq (zr (za (zi 0) (zk (W.block (W.loop_ind (fun (i : Nat) => [(0, va), (1, vb), (5, .int .i64 ((i : Nat) : Int))]) (fun (i : Nat) => hs) (fun (i : Nat) => i ≤ A.length) (fun (i : Nat) => A.length - i) (0) (Nat.zero_le _) zv (SubH.refl _) (fun i hI0 ih0 => ?_))))))))))))))))))))
 have h1 := hI0
 refine W.seq (zr (zm rfl (zm rfl (zq (Q.len ud40 rfl hA.len) (zq (Q.bin rfl rfl rfl (bvl ltn)) (zk (W.cD rfl (fun hc14 => ?_) (fun hc14 => ?_))))))))
 ·obtain ⟨ba, sza, exa, rfl, wa_, ma⟩ := hA.full zy
  obtain ⟨bb, szb, exb, rfl, wb_, mb⟩ := hB.full zy
  refine zw (W.seq (W.block (W.seq (W.regT (by kernel_rfl) (zm rfl (zm rfl (zq (Q.iS ud40 sz3 rfl rfl zo) (zq (Q.l1 rfl ma ag3 (cA_at zo)) (zm rfl (zm rfl (zq (Q.iS ud40 sz3 rfl rfl zo) (zq (Q.l1 rfl mb ag3 (cA_at zo)) (zq (Q.bin rfl rfl rfl bs_int) (zk (W.condF rfl (W.skip (End.KB (End.K (W.reg (zm rfl (zq (Q.bin rfl (zi 1) rfl zp) (za rfl (WO.nil (End.KL ?_))))))))))))))))))))))))
  refine W.sub zv (W.sH (SubH.refl _) (ih0 (i + 1) ?_ ?_))
  ·exact zy
  exact zo
 refine W.exit (End.Kx (End.Lx (End.Bh (End.K (zr (za rfl (zk (W.ret (End.rV (z1 rfl) ?_)))))))))
 rfl

theorem alike_spec (hs : HSt) (hro : ∀ e ∈ hs, e.w = false) (d : ND) (A : List Int) (nk nk' : Nat) (vm vn va vm' vn' va' : AV) (hx : IOK hs (⟨d, A, nk, vm, vn, .nils, va⟩ : IE)) (hy : IOK hs (⟨d, A, nk', vm', vn', .nils, va'⟩ : IE)) (hb : IBd (⟨d, A, nk, vm, vn, .nils, va⟩ : IE)) : Spec tab 26 [.agg (IE.c (⟨d, A, nk, vm, vn, .nils, va⟩ : IE)), (.agg (IE.c (⟨d, A, nk', vm', vn', .nils, va'⟩ : IE)))] [] hs (Val (.bool true)) := by
 refine Spec.en (ftg 26 Tryz.func26) rfl (m := 17) rfl (rs := [.tmp 4]) rfl (st := [(0, .agg (IE.c (⟨d, A, nk, vm, vn, .nils, va⟩ : IE))), (1, (.agg (IE.c (⟨d, A, nk', vm', vn', .nils, va'⟩ : IE))))]) rfl rfl (fun _ => rfl) (fun E => zr (WO.box rfl hx.cells (bx42 _ rfl) rfl (fun b1 => WO.box rfl hy.cells (bx42 _ rfl) rfl (fun b2 => za rfl (zk (zr (zf fa42_0 rfl 0 (zq (Q.loadN rfl (zt 1 rfl) ag26 sz26 (l := [_, _, _, _, _, _, _, _, _, _, _]) rfl) (zf fa42_0 rfl 0 (zq (Q.loadN rfl (zt 0 rfl) ag26 sz26 (l := [_, _, _, _, _, _, _, _, _, _, _]) rfl) (WO.cV rfl (oLc rfl (oLc rfl oz)) rfl (same_spec hs hro (.node d []) _ _ (ie_trep hx hb.d) (ie_trep hy hb.d)) (SubR.t (SubR.t (SubR.s hro))) rfl (zm rfl (WO.gT rfl rfl (zf fa42_1 rfl 11 (WO.gT rfl rfl (zq (Q.l1 rfl (zt 1 rfl) ag40 rfl) (WO.gT rfl rfl (zf fa42_1 rfl 11 (WO.gT rfl rfl (zq (Q.l1 rfl (zt 0 rfl) ag40 rfl) (WO.gT rfl rfl (WO.cV rfl (oLc rfl (oLc rfl oz)) rfl (s09_spec hs hro A _ _ hx.a hy.a hb.a) (SubR.t (SubR.t (SubR.s hro))) rfl (zq (Q.pT rfl rfl) ?_)))))))))))))))))))))))
 refine za rfl (zk (W.sub (zc 4 rfl zzn) (W.ret (End.rV (z1 rfl) ?_))))
 rfl
theorem alike_xy (hs : HSt) (hro : ∀ e ∈ hs, e.w = false) (x y : IE) (hx : IOK hs x) (hy : IOK hs y) (hxv : x.vk = .nils) (hyv : y.vk = .nils) (hd : x.d = y.d) (ha : x.ars = y.ars) (hb : IBd x) : Spec tab 26 [.agg x.c, .agg y.c] [] hs (Val (.bool true)) := by
 obtain ⟨d, A, nk, vm, vn, vk, va⟩ := x
 obtain ⟨d', A', nk', vm', vn', vk', va'⟩ := y
 simp only at hxv hyv hd ha
 subst hxv hyv hd ha
 exact alike_spec hs hro d A nk nk' vm vn va vm' vn' va' hx hy hb
theorem d2_at {A B : List IE} (h : D2 A = D2 B) {i : Nat} (hi : i < A.length) (hl : A.length = B.length) : (ei A i).d = (ei B i).d ∧ (ei A i).ars = (ei B i).ars := by
 have h1 : (D2 A)[i]? = (D2 B)[i]? := by rw [h]
 unfold D2 at h1
 rw [List.getElem?_map, List.getElem?_map, ei_at hi, ei_at zy] at h1
 have h2 := Option.some.inj h1
 exact ⟨congrArg Prod.fst h2, congrArg Prod.snd h2⟩
theorem rsame_spec (hs : HSt) (hro : ∀ e ∈ hs, e.w = false) (A B : List IE) (va vb : AV) (hA : IIn hs A va) (hB : IIn hs B vb) (bA : ILB A) (bB : ILB B) (hK : ∀ x ∈ A, x.vk = .nils) (hK2 : ∀ x ∈ B, x.vk = .nils) (hD : D2 A = D2 B) : Spec tab 13 [va, vb] [] hs (Val (.bool true)) := by
 have hlen : A.length = B.length := (by rw [← d2_len, hD, d2_len])
 have hAl := bA.1
 refine Spec.en (ftg 13 Tryz.func13) rfl (m := 27) rfl (rs := [.tmp 4]) rfl (st := [(0, va), (1, vb)]) rfl rfl (fun _ => rfl) (fun E => zr (za rfl (zk (W.seq (zr (zm rfl (zq (Q.len ud30 rfl hA.1.len) (zm rfl (zq (Q.len ud30 rfl hB.1.len) (zq (Q.bin rfl rfl rfl (bv_neq (p := false) (by rw [hlen, ne_nat]; simp))) (zk (W.condF rfl (zw (W.seq (zr (za (zi 0) (zk (W.block (W.loop_ind (fun (i : Nat) => [(0, va), (1, vb), (5, .int .i64 ((i : Nat) : Int))]) (fun (i : Nat) => hs) (fun (i : Nat) => i ≤ A.length) (fun (i : Nat) => A.length - i) (0) (Nat.zero_le _) zv (SubH.refl _) (fun i hI0 ih0 => ?_))))))))))))))))))))
 have h1 := hI0
 refine W.seq (zr (zm rfl (zm rfl (zq (Q.len ud30 rfl hA.1.len) (zq (Q.bin rfl rfl rfl (bvl ltn)) (zk (W.cD rfl (fun hc14 => ?_) (fun hc14 => ?_))))))))
 ·obtain ⟨ba, sza, exa, rfl, wa_, ma⟩ := hA.1.full zy
  obtain ⟨bb, szb, exb, rfl, wb_, mb⟩ := hB.1.full zy
  refine zw (W.seq (W.block (W.seq (W.regT (by kernel_rfl) (zm rfl (zm rfl (zq (Q.iS ud30 sz42 rfl rfl zo) (zq (Q.loadN rfl ma ag42 sz42 (cI_at zo)) (zm rfl (zm rfl (zq (Q.iS ud30 sz42 rfl rfl zo) (zq (Q.loadN rfl mb ag42 sz42 (cI_at zo)) (WO.cV rfl (oLc rfl (oLc rfl oz)) rfl (alike_xy hs hro _ _ (hA.at zy) (hB.at zy) (hK _ (ei_mem zy)) (hK2 _ (ei_mem zy)) (d2_at hD zy hlen).1 (d2_at hD zy hlen).2 (bA.at zy)) (SubR.s hro) rfl (zq (Q.not rfl rfl) (zk (W.condF rfl (W.skip (End.KB (End.K (W.sub (zc 0 rfl (zc 1 rfl (zc 5 rfl zzn))) (W.reg (zm rfl (zq (Q.bin rfl (zi 1) rfl zp) (za rfl ?_))))))))))))))))))))))))
  refine WO.nil (End.KL (W.sub zv (W.sH (SubH.refl _) (ih0 (i + 1) ?_ ?_))))
  ·exact zy
  exact zo
 refine W.exit (End.Kx (End.Lx (End.Bh (End.K (zr (za rfl (zk (W.ret (End.rV (z1 rfl) ?_)))))))))
 rfl
end Go.Proofs.YtndhhgbpcmfeiaaGreatDoor.Ev
