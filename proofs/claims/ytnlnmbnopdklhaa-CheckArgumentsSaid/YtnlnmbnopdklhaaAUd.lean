/- Chapter 16, by the document: trees whose types are known. -/
import Derived.Test.YtnlnmbnopdklhaaAUc
namespace Go.Proofs.Ytnlnmbnopdklhaa.Ev
open Go.RowKit
set_option linter.unusedVariables false
set_option linter.unusedSimpArgs false
set_option maxRecDepth 100000
set_option maxHeartbeats 1000000
theorem one_at (L : List (List Nat)) (hL : L.length ≤ 1048576) (b : Nat) (ex : Bool) (s : List Nat) (hs : Bytes s) (r : Bool) (hr : decide (s ∈ L) = r) : Spec tab 31 [.slice b 0 L.length 1, .str s] [] [⟨b, ⟨1, ex, L.map AV.str⟩, false⟩] (Val (.bool r)) := by
  subst hr
  exact one_x L hL b ex s hs
/-- The program's type of what lies in memory. -/
def TR (hs : HSt) (c : List AV) (t e : Nat) : Prop := ∀ hs', (∀ y ∈ hs', y.w = false) → (∀ b o, MemH hs b o → MemH hs' b o) → Spec tab 11 [.agg c] [] hs' (Val (tpair t e))
theorem TR.mono {hs hs' : HSt} {c : List AV} {t e : Nat} (h : TR hs c t e) (hm : ∀ b o, MemH hs b o → MemH hs' b o) : TR hs' c t e := fun h2 hro g => h h2 hro fun b o m => g b o (hm b o m)
structure Ty (hs : HSt) (x : NodT) (t : Nat × Nat) : Prop where
  ok : NOk hs x
  tr : TR hs (nC x) t.1 t.2
theorem Ty.up {hs hs' : HSt} {x : NodT} {t : Nat × Nat} (h : Ty hs x t) (g : ∀ e ∈ hs, e ∈ hs') : Ty hs' x t := ⟨h.ok.up g, h.tr.mono (MemH.up g)⟩
def KTy (hs : HSt) (cs : List AV) (ts : List Nat) : Prop := ∃ d, ∀ i, i < ts.length → ∃ c', sub? cs ((0 + i) * 11) 11 = some c' ∧ NRep hs d c' ∧ TR hs c' (ts.getD i 0) 0
def KVT (hs : HSt) (ts : List Nat) (v : AV) : Prop := (v = .nils ∧ ts = []) ∨ ∃ b ob, v = .slice b 0 ts.length 11 ∧ MemH hs b ob ∧ ts.length ≤ 1048576 ∧ KTy hs ob.cells ts
theorem KVT.kvn {hs : HSt} {ts : List Nat} {v : AV} (h : KVT hs ts v) : KVn hs ts.length v := by
  rcases h with ⟨rfl, rfl⟩ | ⟨b, ob, rfl, hm, hl, d, hd⟩
  · exact KVn.nil
  · exact .inr ⟨b, ob, rfl, hm, hl, d, fun i hi => let ⟨c', e1, e2, _⟩ := hd i hi; ⟨c', e1, e2⟩⟩
theorem kvt_len {hs : HSt} {ts : List Nat} {v : AV} {e : Nat} (h : KVT hs ts v) : lenA (.slice e) v = some ts.length := kv_len h.kvn
theorem KVT.nil {hs : HSt} : KVT hs [] .nils := .inl ⟨rfl, rfl⟩
/-- A node's type by those of its parts. -/
theorem node_ty {hs : HSt} {ts : List Nat} {k : Int} {op : List Nat} {n : Int} {ms : AV} {rg off md : Int} {nm : AV} {sd : Int} {bl : Bool} {kd : AV} (h : KVT hs ts kd) (ho : Bytes op) (hl : op.length ≤ 281474976710656) (hms : ms.isCell = true) (hnm : nm.isCell = true) (hts : ∀ t ∈ ts, 1 ≤ t ∧ t ≤ 3)
    {p : Nat × Nat} (hp : typeM k op rg md sd bl ts.length (fun i => ts.getD i 0) (fun _ => 0) = p) : NOk hs ⟨k, op, n, ms, rg, off, md, nm, sd, bl, kd⟩ ∧ TR hs (nC ⟨k, op, n, ms, rg, off, md, nm, sd, bl, kd⟩) p.1 p.2 := by
  refine ⟨NOk.of h.kvn ho hl hms hnm, fun hs' hro hm => ?_⟩
  subst hp
  have hty : ∀ i, i < ts.length → (fun _ : Nat => (0 : Nat)) i = 0 → 1 ≤ (fun i => ts.getD i 0) i ∧ (fun i => ts.getD i 0) i ≤ 3 := by
    intro i hi _
    show 1 ≤ ts.getD i 0 ∧ ts.getD i 0 ≤ 3
    rw [List.getD_eq_getElem?_getD, List.getElem?_eq_getElem hi]
    exact hts _ (List.getElem_mem hi)
  rcases h with ⟨rfl, rfl⟩ | ⟨b, ob, rfl, hb, hle, d, hd⟩
  · exact type_spec k op ho n ms rg off md nm sd bl hms hnm hs' hro 0 .nils 0 rfl rfl (by omega) (fun _ => []) (fun i hi => absurd hi (Nat.not_lt_zero _)) _ _ (fun i hi => absurd hi (Nat.not_lt_zero _)) (fun i hi => absurd hi (Nat.not_lt_zero _))
  · have hk2 : ∀ i, ∃ c' : List AV, i < ts.length → (sub? ob.cells ((0 + i) * 11) 11 = some c' ∧ NRep hs d c' ∧ TR hs c' (ts.getD i 0) 0) := by
      intro i
      by_cases hi : i < ts.length
      · obtain ⟨c', g1, g2, g3⟩ := hd i hi
        exact ⟨c', fun _ => ⟨g1, g2, g3⟩⟩
      · exact ⟨[], fun h => absurd h hi⟩
    refine Exists.elim (Classical.skolem.1 hk2) fun kc hk3 => ?_
    exact type_spec k op ho n ms rg off md nm sd bl hms hnm hs' hro d (.slice b 0 ts.length 11) ts.length rfl rfl hle kc
      (fun i hi => ⟨b, ob, rfl, hm _ _ hb, (hk3 i hi).1, ((hk3 i hi).2.1).mono hm⟩) _ _ (fun i hi => (hk3 i hi).2.2 hs' hro hm) hty
theorem Ty.node {hs : HSt} {ts : List Nat} {k : Int} {op : List Nat} {n : Int} {ms : AV} {rg off md : Int} {nm : AV} {sd : Int} {bl : Bool} {kd : AV} {t : Nat × Nat} (h : KVT hs ts kd) (ho : Bytes op) (hl : op.length ≤ 281474976710656) (hms : ms.isCell = true) (hnm : nm.isCell = true) (hts : ∀ t ∈ ts, 1 ≤ t ∧ t ≤ 3)
    (hp : typeM k op rg md sd bl ts.length (fun i => ts.getD i 0) (fun _ => 0) = t) : Ty hs ⟨k, op, n, ms, rg, off, md, nm, sd, bl, kd⟩ t := let ⟨h1, h2⟩ := node_ty h ho hl hms hnm hts hp; ⟨h1, h2⟩
theorem KVT.one {hs : HSt} {b : Nat} {ex : Bool} {x : NodT} {t : Nat} (h : Ty hs x (t, 0)) (hm : MemH hs b ⟨11, ex, nC x⟩) : KVT hs [t] (.slice b 0 1 11) := by
  obtain ⟨d, hd⟩ := h.ok.nr
  refine .inr ⟨b, _, rfl, hm, (by show 1 ≤ 1048576; decide), d, fun i hi => ?_⟩
  have : i = 0 := by simp at hi; omega
  subst this
  exact ⟨_, nC_sub, hd, h.tr⟩
theorem KVT.two {hs : HSt} {b : Nat} {ex : Bool} {x y : NodT} {t u : Nat} (h : Ty hs x (t, 0)) (g : Ty hs y (u, 0)) (hm : MemH hs b ⟨11, ex, nC x ++ nC y⟩) : KVT hs [t, u] (.slice b 0 2 11) := by
  obtain ⟨d, hd⟩ := h.ok.nr
  obtain ⟨d', hd'⟩ := g.ok.nr
  refine .inr ⟨b, _, rfl, hm, (by show 2 ≤ 1048576; decide), max d d', fun i hi => ?_⟩
  have hi : i < 2 := hi
  rcases Nat.lt_or_ge i 1 with h1 | h1
  · have : i = 0 := by omega
    subst this
    exact ⟨nC x, rfl, hd.le (Nat.le_max_left _ _), h.tr⟩
  · have : i = 1 := by omega
    subst this
    exact ⟨nC y, rfl, hd'.le (Nat.le_max_right _ _), g.tr⟩
/-- A reading function leads from a place to another one, and gives a tree of a type. -/
def XP (n tb X a2 : Nat) (t : Nat × Nat) (dp : Nat) (bd : Int) (v : AV) (D : HSt) : Prop := ∃ (x : NodT) (hq : HSt), v = .agg (nC x) ∧ Ty hq x t ∧ (∀ y ∈ hq, y.w = true) ∧ D = ⟨X, ⟨5, true, [.slice tb 0 (n + 1) 4, .int .i64 ((a2 : Nat) : Int), .int .i64 ((dp : Nat) : Int), .int .i64 ((0 : Nat) : Int), .int .i64 bd]⟩, true⟩ :: hq
def EXs (toks : List TokT) (n tb : Nat) (ex : Bool) (X F : Nat) (args : List AV) (a a2 : Nat) (t : Nat × Nat) (dl : Nat) : Prop := ∀ (dp : Nat) (bd : Int), dp ≤ dl → Spec tab F (.ptr X 0 :: args) [X] [⟨X, ⟨5, true, [.slice tb 0 (n + 1) 4, .int .i64 ((a : Nat) : Int), .int .i64 ((dp : Nat) : Int), .int .i64 ((0 : Nat) : Int), .int .i64 bd]⟩, true⟩, ⟨tb, ⟨4, ex, tokCs toks⟩, false⟩] (XP n tb X a2 t dp bd)
theorem expr5_x (toks : List TokT) (n : Nat) (hn : toks.length = n + 1) (hnl : n ≤ 1048576) (hok : TokO toks) (tb : Nat) (ex : Bool) (X a : Nat) (ha : a ≤ n) (dp : Nat) (bd : Int) (dl : Nat) (hdp : dp ≤ dl) (a2 : Nat) (t : Nat × Nat) (hS : EXs toks n tb ex X 30 [] a a2 t dl) : Spec tab 19 [.ptr X 0, .int .i64 ((5 : Nat) : Int)] [X] [⟨X, ⟨5, true, [.slice tb 0 (n + 1) 4, .int .i64 ((a : Nat) : Int), .int .i64 ((dp : Nat) : Int), .int .i64 ((0 : Nat) : Int), .int .i64 bd]⟩, true⟩, ⟨tb, ⟨4, ex, tokCs toks⟩, false⟩] (XP n tb X a2 t dp bd) := by
 refine Spec.enter' (ft_get 19 Try.func19) rfl (m := 79) rfl (rs := [.cell 4 26]) rfl (st := [(0, .ptr X 0), (1, .int .i64 ((5 : Nat) : Int))]) rfl rfl (fun _ => rfl) (fun E => zr (WO.alloc ao26 rfl (fun b1 => zk (W.seq (zr (zm rfl (zq (Q.bin rfl (zi 5) rfl (bv_eql (p := true) rfl)) (zk (W.condT rfl (zr (zm rfl (WO.call1 rfl (oLs_cons rfl oLs_nil) rfl (i := 1) rfl (hS dp bd (by omega)) (SubR.one (zt 1 rfl)) (hs' := [_, _]) rfl rfl (fun v11 D11 hP11 => ?_)))))))))))))
 obtain ⟨x11, hq11, rfl, ty11, nw11, rfl⟩ := hP11
 have ok11 := ty11.ok
 refine WO.subH (hs' := _ :: _ :: _ :: (hq11)) (SubH.of_perm (perm_tail (N := [_]) (G := hq11) (K := [_, _]) (X := []))) (WO.store sz26 rfl rfl (i := 1) rfl (by first | rfl | exact and_tt rfl ckA) (cs := [_, _, _, _, _, _, _, _, _, _, _]) rfl (hs' := _ :: _ :: _ :: _) rfl (zk (W.ret ?_)))
 refine End.K_ret (End.ret (ResL.agg (c := [_, _, _, _, _, _, _, _, _, _, _]) rfl (zt 1 rfl) ag26 sz26 rfl ResL.nil) (hs' := ⟨X, ⟨5, true, [.slice tb 0 (n + 1) 4, .int .i64 ((a2 : Nat) : Int), .int .i64 ((dp : Nat) : Int), .int .i64 ((0 : Nat) : Int), .int .i64 bd]⟩, true⟩ :: hq11) ⟨x11, hq11, rfl, ty11, nw11, rfl⟩ (ww nw11) gsn)

theorem passA_x (toks : List TokT) (n : Nat) (hn : toks.length = n + 1) (hnl : n ≤ 1048576) (hok : TokO toks) (tb : Nat) (ex : Bool) (X a : Nat) (ha : a ≤ n) (dp : Nat) (bd : Int) (dl : Nat) (hdp : dp ≤ dl) (a2 : Nat) (t : Nat × Nat) (ha2 : a2 ≤ n) (T2 : TokT) (hT2 : tg toks a2 = T2) (hTb2 : Bytes T2.2.1) (l : Nat) (hl4 : l ≤ 4) (hF : T2.1 ≠ 1 ∧ T2.1 ≠ 5) (hL : EXs toks n tb ex X 19 [.int .i64 ((l + 1 : Nat) : Int)] a a2 t dl) : Spec tab 19 [.ptr X 0, .int .i64 ((l : Nat) : Int)] [X] [⟨X, ⟨5, true, [.slice tb 0 (n + 1) 4, .int .i64 ((a : Nat) : Int), .int .i64 ((dp : Nat) : Int), .int .i64 ((0 : Nat) : Int), .int .i64 bd]⟩, true⟩, ⟨tb, ⟨4, ex, tokCs toks⟩, false⟩] (XP n tb X a2 t dp bd) := by
 refine Spec.enter' (ft_get 19 Try.func19) rfl (m := 79) rfl (rs := [.cell 4 26]) rfl (st := [(0, .ptr X 0), (1, .int .i64 ((l : Nat) : Int))]) rfl rfl (fun _ => rfl) (fun E => zr (WO.alloc ao26 rfl (fun b1 => zk (W.seq (zr (zm rfl (zq (Q.bin rfl (zi 5) rfl (bv_eql eq_nat)) (zk (W.condDS rfl (fun hc9 => ?_) (fun hc9 => ?_))))))))))
 · (exfalso; omega)
 refine zw (zr (zm rfl (zm rfl (zq (Q.bin rfl (zi 1) rfl zp) (WO.call1 rfl (oLs_cons rfl (oLs_cons rfl oLs_nil)) rfl (i := 1) rfl (hL dp bd (by omega)) (SubR.one (zt 1 rfl)) (hs' := [_, _]) rfl rfl (fun v15 D15 hP15 => ?_))))))
 obtain ⟨x15, hq15, rfl, ty15, nw15, rfl⟩ := hP15
 have ok15 := ty15.ok
 refine WO.subH (hs' := _ :: _ :: _ :: (hq15)) (SubH.of_perm (perm_tail (N := [_]) (G := hq15) (K := [_, _]) (X := []))) (WO.alloc ao26 rfl (fun b2 => WO.store sz26 rfl rfl (i := 0) rfl (by first | rfl | exact and_tt rfl ckA) (cs := [_, _, _, _, _, _, _, _, _, _, _]) rfl (hs' := _ :: _ :: _ :: _ :: _) rfl (zk (W.seq (W.block (W.loop (W.seq (zr (zm rfl (zq (Q.nilP rfl) (zf fa53_3 rfl 3 (zq (Q.load1 rfl (zt 1 rfl) ag3 rfl) (zq (Q.bin rfl (zi 0) rfl (bv_eql (p := true) rfl)) (zm rfl (WO.gT rfl rfl (zm rfl (WO.gT rfl rfl (WO.callV rfl (oLs_cons rfl oLs_nil) rfl (now_at toks n hn hnl hok tb ex X a2 (by omega) dp bd T2 hT2) (SubR.pair (i := 1) (j := 3) rfl rfl (by decide)) rfl (WO.gT rfl rfl (zq (Q.field1 ft56_0 rfl rfl) (WO.gT rfl rfl (zq (Q.bin rfl (zi 1) rfl (bv_eql eq_nat)) (WO.gT rfl rfl ?_)))))))))))))))))))))))
 refine zm rfl (WO.splitD (d := 26) rfl (fun hc26 => ?_) (fun hc26 => ?_))
 · (exfalso; omega)
 refine WO.gT rfl rfl (zm rfl (WO.gT rfl rfl (WO.callV rfl (oLs_cons rfl oLs_nil) rfl (now_at toks n hn hnl hok tb ex X a2 (by omega) dp bd T2 hT2) (SubR.pair (i := 1) (j := 3) rfl rfl (by decide)) rfl (WO.gT rfl rfl (zq (Q.field1 ft56_0 rfl rfl) (WO.gT rfl rfl (zq (Q.bin rfl (zi 5) rfl (bv_eql eq_nat)) (WO.gT rfl rfl (zq (Q.pickF rfl rfl) (zq (Q.pickT rfl rfl) (zm rfl (WO.splitD (d := 33) rfl (fun hc33 => ?_) (fun hc33 => ?_)))))))))))))
 · (exfalso; omega)
 refine zg rfl rfl (zg rfl rfl (zg rfl rfl (zg rfl rfl (zg rfl rfl (zg rfl rfl (zq (Q.pickF rfl rfl) (zk (W.sub (zc 40 rfl (zc 5 rfl (zc 4 rfl (zc 0 rfl (zc 1 rfl zzn))))) (W.condF rfl (W.exit (End.K_exit (End.KL_exit (End.KB_hit (End.K (zr (zq (Q.loadN rfl (zt 0 rfl) ag26 sz26 (l := [_, _, _, _, _, _, _, _, _, _, _]) rfl) (WO.store sz26 rfl rfl (i := 2) rfl (by first | rfl | exact and_tt rfl ckA) (cs := [_, _, _, _, _, _, _, _, _, _, _]) rfl (hs' := _ :: _ :: _ :: _ :: _) rfl (zk (W.ret ?_)))))))))))))))))))
 refine End.ret (ResL.agg (c := [_, _, _, _, _, _, _, _, _, _, _]) rfl (zt 2 rfl) ag26 sz26 rfl ResL.nil) (hs' := ⟨X, ⟨5, true, [.slice tb 0 (n + 1) 4, .int .i64 ((a2 : Nat) : Int), .int .i64 ((dp : Nat) : Int), .int .i64 ((0 : Nat) : Int), .int .i64 bd]⟩, true⟩ :: hq15) ⟨x15, hq15, rfl, ty15, nw15, rfl⟩ (ww nw15) gsn

theorem passB_x (toks : List TokT) (n : Nat) (hn : toks.length = n + 1) (hnl : n ≤ 1048576) (hok : TokO toks) (tb : Nat) (ex : Bool) (X a : Nat) (ha : a ≤ n) (dp : Nat) (bd : Int) (dl : Nat) (hdp : dp ≤ dl) (a2 : Nat) (t : Nat × Nat) (ha2 : a2 ≤ n) (T2 : TokT) (hT2 : tg toks a2 = T2) (hTb2 : Bytes T2.2.1) (l : Nat) (hl4 : l ≤ 4) (hF : T2.1 = 5 ∧ decide (T2.2.1 ∈ lvL l) = false) (hL : EXs toks n tb ex X 19 [.int .i64 ((l + 1 : Nat) : Int)] a a2 t dl) : Spec tab 19 [.ptr X 0, .int .i64 ((l : Nat) : Int)] [X] [⟨X, ⟨5, true, [.slice tb 0 (n + 1) 4, .int .i64 ((a : Nat) : Int), .int .i64 ((dp : Nat) : Int), .int .i64 ((0 : Nat) : Int), .int .i64 bd]⟩, true⟩, ⟨tb, ⟨4, ex, tokCs toks⟩, false⟩] (XP n tb X a2 t dp bd) := by
 refine Spec.enter' (ft_get 19 Try.func19) rfl (m := 79) rfl (rs := [.cell 4 26]) rfl (st := [(0, .ptr X 0), (1, .int .i64 ((l : Nat) : Int))]) rfl rfl (fun _ => rfl) (fun E => zr (WO.alloc ao26 rfl (fun b1 => zk (W.seq (zr (zm rfl (zq (Q.bin rfl (zi 5) rfl (bv_eql eq_nat)) (zk (W.condDS rfl (fun hc9 => ?_) (fun hc9 => ?_))))))))))
 · (exfalso; omega)
 refine zw (zr (zm rfl (zm rfl (zq (Q.bin rfl (zi 1) rfl zp) (WO.call1 rfl (oLs_cons rfl (oLs_cons rfl oLs_nil)) rfl (i := 1) rfl (hL dp bd (by omega)) (SubR.one (zt 1 rfl)) (hs' := [_, _]) rfl rfl (fun v15 D15 hP15 => ?_))))))
 obtain ⟨x15, hq15, rfl, ty15, nw15, rfl⟩ := hP15
 have ok15 := ty15.ok
 refine WO.subH (hs' := _ :: _ :: _ :: (hq15)) (SubH.of_perm (perm_tail (N := [_]) (G := hq15) (K := [_, _]) (X := []))) (WO.alloc ao26 rfl (fun b2 => WO.store sz26 rfl rfl (i := 0) rfl (by first | rfl | exact and_tt rfl ckA) (cs := [_, _, _, _, _, _, _, _, _, _, _]) rfl (hs' := _ :: _ :: _ :: _ :: _) rfl (zk (W.seq (W.block (W.loop (W.seq (zr (zm rfl (zq (Q.nilP rfl) (zf fa53_3 rfl 3 (zq (Q.load1 rfl (zt 1 rfl) ag3 rfl) (zq (Q.bin rfl (zi 0) rfl (bv_eql (p := true) rfl)) (zm rfl (WO.gT rfl rfl (zm rfl (WO.gT rfl rfl (WO.callV rfl (oLs_cons rfl oLs_nil) rfl (now_at toks n hn hnl hok tb ex X a2 (by omega) dp bd T2 hT2) (SubR.pair (i := 1) (j := 3) rfl rfl (by decide)) rfl (WO.gT rfl rfl (zq (Q.field1 ft56_0 rfl rfl) (WO.gT rfl rfl (zq (Q.bin rfl (zi 1) rfl (bv_eql eq_nat)) (WO.gT rfl rfl ?_)))))))))))))))))))))))
 refine zm rfl (WO.splitD (d := 26) rfl (fun hc26 => ?_) (fun hc26 => ?_))
 · (exfalso; omega)
 refine WO.gT rfl rfl (zm rfl (WO.gT rfl rfl (WO.callV rfl (oLs_cons rfl oLs_nil) rfl (now_at toks n hn hnl hok tb ex X a2 (by omega) dp bd T2 hT2) (SubR.pair (i := 1) (j := 3) rfl rfl (by decide)) rfl (WO.gT rfl rfl (zq (Q.field1 ft56_0 rfl rfl) (WO.gT rfl rfl (zq (Q.bin rfl (zi 5) rfl (bv_eql eq_nat)) (WO.gT rfl rfl (zq (Q.pickF rfl rfl) (zq (Q.pickT rfl rfl) (zm rfl (WO.splitD (d := 33) rfl (fun hc33 => ?_) (fun hc33 => ?_)))))))))))))
 · refine WO.gT rfl rfl (zm rfl (WO.gT rfl rfl (WO.call0 rfl (oLs_cons rfl oLs_nil) rfl (level_x l) SubR.nil rfl (fun v35 D35 hP35 => ?_))))
   obtain ⟨lb, rfl, rfl⟩ := hP35
   refine WO.gT rfl rfl (zm rfl (WO.gT rfl rfl (WO.callV rfl (oLs_cons rfl oLs_nil) rfl (now_at toks n hn hnl hok tb ex X a2 (by omega) dp bd T2 hT2) (SubR.pair (i := 2) (j := 4) rfl rfl (by decide)) rfl (WO.gT rfl rfl (zq (Q.field1 ft56_1 rfl rfl) (WO.gT rfl rfl (WO.callV rfl (oLs_cons rfl (oLs_cons rfl oLs_nil)) rfl (one_at (lvL l) (by have := lv_len l; omega) lb true _ hTb2 false hF.2) (SubR.one (zt 0 rfl)) rfl (zq (Q.pickT rfl rfl) (zk (W.sub (zc 40 rfl (zc 5 rfl (zc 4 rfl (zc 0 rfl (zc 1 rfl zzn))))) (W.condF rfl (W.exit (End.K_exit (End.KL_exit (End.KB_hit (End.K (zr (zq (Q.loadN rfl (zt 1 rfl) ag26 sz26 (l := [_, _, _, _, _, _, _, _, _, _, _]) rfl) (WO.store sz26 rfl rfl (i := 3) rfl (by first | rfl | exact and_tt rfl ckA) (cs := [_, _, _, _, _, _, _, _, _, _, _]) rfl (hs' := _ :: _ :: _ :: _ :: _ :: _) rfl (zk (W.ret ?_)))))))))))))))))))))
   refine End.ret (ResL.agg (c := [_, _, _, _, _, _, _, _, _, _, _]) rfl (zt 3 rfl) ag26 sz26 rfl ResL.nil) (hs' := ⟨X, ⟨5, true, [.slice tb 0 (n + 1) 4, .int .i64 ((a2 : Nat) : Int), .int .i64 ((dp : Nat) : Int), .int .i64 ((0 : Nat) : Int), .int .i64 bd]⟩, true⟩ :: hq15) ⟨x15, hq15, rfl, ty15, nw15, rfl⟩ (ww nw15) gsn
 (exfalso; omega)
end Go.Proofs.Ytnlnmbnopdklhaa.Ev
