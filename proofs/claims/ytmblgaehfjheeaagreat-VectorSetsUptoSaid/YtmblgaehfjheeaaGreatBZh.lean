/- Chapter 19, walks: elements by their keys' texts. -/
import Derived.Test.YtmblgaehfjheeaaGreatBZg
namespace Go.Proofs.YtmblgaehfjheeaaGreat.Ev
open Go.RowKit
set_option linter.unusedVariables false
set_option linter.unusedSimpArgs false
set_option maxRecDepth 100000
set_option maxHeartbeats 1000000
def CellQ (v : AV) : Prop := v.isCell = true ∧ v.beq v = true ∧ beq0 v v = true
theorem SIn.bq0 {hs : HSt} {N : List (List Nat)} {v : AV} (h : SIn hs N v) : beq0 v v = true := by
  rcases h with ⟨rfl, _⟩ | ⟨b, sz, ex, rfl, _⟩
  · rfl
  · simp [beq0]
theorem SIn.bq {hs : HSt} {N : List (List Nat)} {v : AV} (h : SIn hs N v) : v.beq v = true := by
  rcases h with ⟨rfl, _⟩ | ⟨b, sz, ex, rfl, _⟩
  · rfl
  · simp [AV.beq, beq1, beq0]
theorem cells_node {kd nn rg off md sd : Int} {op : List Nat} {bl : Bool} {mt kids vn : AV} {hs : HSt} {N : List (List Nat)} (h1 : CellQ mt) (h2 : CellQ kids) (h3 : SIn hs N vn) : (AV.agg [.int .i64 kd, .str op, .int .i64 nn, mt, .int .i64 rg, .int .i64 off, .int .i64 md, vn, .int .i64 sd, .bool bl, kids]).cells.all AV.isCell = true := by
  show ([AV.int .i64 kd, .str op, .int .i64 nn, mt, .int .i64 rg, .int .i64 off, .int .i64 md, vn, .int .i64 sd, .bool bl, kids]).all AV.isCell = true
  exact and_tt rfl (and_tt rfl (and_tt rfl (and_tt h1.1 (and_tt rfl (and_tt rfl (and_tt rfl (and_tt (SIn.cell h3) (and_tt rfl (and_tt rfl (and_tt h2.1 rfl))))))))))
theorem bq_node {kd nn rg off md sd : Int} {op : List Nat} {bl : Bool} {mt kids vn : AV} {hs : HSt} {N : List (List Nat)} (h1 : CellQ mt) (h2 : CellQ kids) (h3 : SIn hs N vn) : (AV.agg [.int .i64 kd, .str op, .int .i64 nn, mt, .int .i64 rg, .int .i64 off, .int .i64 md, vn, .int .i64 sd, .bool bl, kids]).beq (.agg [.int .i64 kd, .str op, .int .i64 nn, mt, .int .i64 rg, .int .i64 off, .int .i64 md, vn, .int .i64 sd, .bool bl, kids]) = true := by
  have e1 := h1.2.2
  have e2 := h2.2.2
  have e3 := SIn.bq0 h3
  have hi : ∀ (k : IntKind) (n : Int), beq0 (.int k n) (.int k n) = true := fun k n => by simp [beq0]
  have hst : beq0 (.str op) (.str op) = true := by simp [beq0]
  have hb : beq0 (.bool bl) (.bool bl) = true := by simp [beq0]
  show (beq0 _ _ && (beq0 _ _ && (beq0 _ _ && (beq0 _ _ && (beq0 _ _ && (beq0 _ _ && (beq0 _ _ && (beq0 _ _ && (beq0 _ _ && (beq0 _ _ && (beq0 _ _ && true))))))))))) = true
  simp only [e1, e2, e3, hi, hst, hb, Bool.and_true]
def entT (G : List Ge) : List Te := G.map fun g => (g.1.1, g.2)
theorem entT_step {G : List Ge} {j : Nat} {g : Ge} (h : G[j]? = some g) : entT (G.take (j + 1)) = entT (G.take j) ++ [(g.1.1, g.2)] := by
  unfold entT
  rw [List.take_add_one, h, List.map_append]; rfl
theorem ent_none {tb : Tab} {kt : Nat} (hu : tb.und kt = some .string) {G : List Ge} (hn : (G.map (·.1.1)).Nodup) {j : Nat} {g : Ge} (h : G[j]? = some g) : findM (eqIn tb 20 kt) (.str g.1.1) (mapT 0 (entT (G.take j))) 0 = some none := by
  rcases mapT_find (keyT_eq hu) g.1.1 (entT (G.take j)) 0 0 with ⟨h1, _⟩ | ⟨q, v, h1, _⟩
  · exact h1
  · exfalso
    have hq : q < (G.take j).length := by have := (List.getElem?_eq_some_iff.1 h1).1; simpa [entT] using this
    simp only [List.length_take] at hq
    unfold entT at h1
    rw [List.getElem?_map, List.getElem?_take, if_pos (by omega)] at h1
    cases hg : G[q]? with
    | none => rw [hg] at h1; simp at h1
    | some x =>
      rw [hg] at h1
      simp only [Option.map_some, Option.some.injEq, Prod.mk.injEq] at h1
      have := nodup_at hn (i := q) (j := j) (x := g.1.1) (by rw [List.getElem?_map, hg]; simp [h1.1]) (by rw [List.getElem?_map, h]; rfl)
      omega
theorem fl_key {kf : PE → List Nat} {L : List El} {k : List Nat} {x : El} (h : x ∈ fl kf L k) : kf x.2 = k := by
  have := (List.mem_filter.1 h).2
  simpa using this
theorem key_mem {V : List El} (hK : ∀ i, i < V.length → KeyOK (eg V i).2.1) {x : El} (h : x ∈ V) : KeyOK x.2.1 := by
  obtain ⟨i, hi, rfl⟩ := List.getElem_of_mem h
  have := hK i hi
  have e : eg V i = V[i] := by unfold eg; rw [List.getD_eq_getElem?_getD, List.getElem?_eq_getElem hi]; rfl
  rw [e] at this
  exact this
def MapIs (kf : PE → List Nat) (V : List El) (u : AV) (D : HSt) : Prop := ∃ mb G D', u = .map mb ∧ D = ⟨mb, ⟨(entT G).length, true, mapT 0 (entT G)⟩, true⟩ :: D' ∧ GInv kf V G ∧ GB G D'
theorem map_at {tb : Tab} {kt : Nat} (hu : tb.und kt = some .string) {kf : PE → List Nat} {V : List El} {G : List Ge} {D' : HSt} (h : GInv kf V G) (g : GB G D') (k : List Nat) :
    (findM (eqIn tb 20 kt) (.str k) (mapT 0 (entT G)) 0 = some none ∧ fl kf V k = []) ∨
    ∃ j b ex, findM (eqIn tb 20 kt) (.str k) (mapT 0 (entT G)) 0 = some (some j) ∧ (mapT 0 (entT G))[3 * j + 1]? = some (.slice b 0 (fl kf V k).length 2) ∧ (⟨b, ⟨2, ex, cE (fl kf V k)⟩, true⟩ : HE) ∈ D' ∧ 0 < (fl kf V k).length := by
  rcases mapT_find (keyT_eq hu) k (entT G) 0 0 with ⟨h1, h2⟩ | ⟨q, v, h1, h2⟩
  · refine .inl ⟨h1, ?_⟩
    unfold fl
    rw [List.filter_eq_nil_iff]
    intro x hx hd
    obtain ⟨a, ha, e⟩ := h.2.2 x hx
    exact h2 _ (List.mem_map.2 ⟨a, ha, rfl⟩) (e.trans (by simpa using hd))
  · have h1' := h1
    unfold entT at h1
    rw [List.getElem?_map] at h1
    cases hg : G[q]? with
    | none => rw [hg] at h1; simp at h1
    | some x =>
      rw [hg] at h1
      simp only [Option.map_some, Option.some.injEq, Prod.mk.injEq] at h1
      obtain ⟨e1, e2⟩ := h1
      obtain ⟨hm, hne⟩ := h.2.1 _ (List.mem_of_getElem? hg)
      obtain ⟨A, hp, B, hD, hO, _⟩ := GB.at g hg
      have hpos : 0 < x.1.2.length := List.length_pos_iff.2 hne
      obtain ⟨b, ex, hv, hh⟩ := OwnE.full hO hpos
      rw [hm, e1] at hpos hv hh
      refine .inr ⟨q, b, ex, by rw [h2, Nat.zero_add], ?_, ?_, hpos⟩
      · rw [mapT_get _ 0 q _ h1', ← e2, hv]
      · rw [hD, hh]; simp
theorem mk1_spec (hs : HSt) (hro : ∀ e ∈ hs, e.w = false) (A : List Lab) (va : AV) (ha : LIn hs A va) (hK : KeyOK A) (n : Int) (b0 : Nat) (kd nn rg off md sd : Int) (op : List Nat) (ho : Bytes op) (bl : Bool) (mt kids : AV) (hmt : CellQ mt) (hkds : CellQ kids) (N : List (List Nat)) (vn : AV) (hN : SIn hs N vn) (hNb : SBd N) (m0 : MemH hs b0 ⟨11, true, [.int .i64 kd, .str op, .int .i64 nn, mt, .int .i64 rg, .int .i64 off, .int .i64 md, vn, .int .i64 sd, .bool bl, kids]⟩) : Spec tab 108 [.agg [va, .int .i64 n], .ptr b0 0] [] hs (Val (.str (prM (keyM md N A)))) := by
 obtain ⟨w0, m0⟩ := m0
 refine Spec.enter' (ft_get 108 Tryz.func108) rfl (m := 12) rfl (rs := [.tmp 3]) rfl (st := [(0, .agg [va, .int .i64 n]), (1, .ptr b0 0)]) rfl rfl (fun _ => rfl) (fun E => zr (WO.box rfl (all_c2 (LIn.cell ha)) (bx35 _ rfl) rfl (fun b1 => zq (Q.assign (oc (v := .str []) (by kernel_rfl))) (zk (zr (zf fa47_6 rfl 6 (zq (Q.load1 rfl (List.mem_cons_of_mem _ m0) ag3 rfl) (zf fa47_7 rfl 7 (zq (Q.load1 rfl (List.mem_cons_of_mem _ m0) ag40 rfl) (zf fa35_0 rfl 0 (zq (Q.load1 rfl (zt 0 rfl) ag33 rfl) (WO.call0 rfl (oLs_cons rfl (oLs_cons rfl (oLs_cons rfl oLs_nil))) rfl (key_spec hs hro A _ ha hK.bd N _ hN hNb md) (SubR.tl (SubR.self hro)) rfl (fun v10 D10 hP10 => WO.subH (hs' := _ :: (hs ++ D10)) (SubH.of_perm (perm_tail (N := []) (G := D10) (K := [_]) (X := hs))) (WO.callV rfl (oLs_cons rfl oLs_nil) rfl (print_spec (ro D10) ro_w _ _ ((LIn.own hP10).mono fun b o h => h.ro) (hK.key md N)) (SubR.ro gc) rfl (za rfl (zk (W.ret (End.retV (z1 rfl) ?_))))))))))))))))))
 rfl

theorem mtc_spec (hs : HSt) (hro : ∀ e ∈ hs, e.w = false) (V : List El) (v : AV) (hV : EIn hs V v) (hB : EBd V) (kd nn rg off md sd : Int) (op : List Nat) (ho : Bytes op) (bl : Bool) (mt kids : AV) (hmt : CellQ mt) (hkds : CellQ kids) (N : List (List Nat)) (vn : AV) (hN : SIn hs N vn) (hNb : SBd N) (hK : ∀ i, i < V.length → KeyOK (eg V i).2.1) : Spec tab 67 [.agg [.int .i64 kd, .str op, .int .i64 nn, mt, .int .i64 rg, .int .i64 off, .int .i64 md, vn, .int .i64 sd, .bool bl, kids], v] [] hs (MapIs (fun x : PE => prM (keyM md N x.1)) V) := by
 have hBl := hB.1
 refine Spec.enter' (ft_get 67 Tryz.func67) rfl (m := 31) rfl (rs := [.tmp 4]) rfl (st := [(0, .agg [.int .i64 kd, .str op, .int .i64 nn, mt, .int .i64 rg, .int .i64 off, .int .i64 md, vn, .int .i64 sd, .bool bl, kids]), (1, v)]) rfl rfl (fun _ => rfl) (fun E => zr (WO.box rfl (cells_node hmt hkds hN) (bx47 _ rfl) rfl (fun b1 => za rfl (zk (zr (WO.makeMap mt93 rfl (fun mb => za rfl (zk (W.seq (zr (zm rfl (zq (Q.makeF (oLs_cons rfl oLs_nil)) (WO.call0 rfl (oLs_cons rfl (oLs_cons rfl oLs_nil)) rfl (grp_spec (hs := ⟨b1, ⟨11, true, [.int .i64 kd, .str op, .int .i64 nn, mt, .int .i64 rg, .int .i64 off, .int .i64 md, vn, .int .i64 sd, .bool bl, kids]⟩, false⟩ :: hs) (by intro e he; rcases List.mem_cons.1 he with rfl | he; rfl; exact hro e he) V v (hV.mono fun b o h => h.tl) hB 108 [.ptr b1 0] (fun x : PE => prM (keyM md N x.1)) (fun i hi => prM_bytes ((hK i hi).key md N)) (fun i hi => mk1_spec (hs := ⟨b1, ⟨11, true, [.int .i64 kd, .str op, .int .i64 nn, mt, .int .i64 rg, .int .i64 off, .int .i64 md, vn, .int .i64 sd, .bool bl, kids]⟩, false⟩ :: hs) (by intro e he; rcases List.mem_cons.1 he with rfl | he; rfl; exact hro e he) _ _ ((hV.at hi).mono fun b o h => h.tl) (hK i hi) _ b1 kd nn rg off md sd op ho bl mt kids hmt hkds N vn (hN.mono fun b o h => h.tl) hNb ⟨false, List.mem_cons_self⟩)) (SubR.tl (sub_f1 hro)) rfl (fun v11 D11 hP11 => ?_))))))))))))))
 obtain ⟨G, hpg, Dg, rfl, hG, hO, hGB, hGl⟩ := hP11
 refine WO.subH (hs' := _ :: _ :: (hs ++ (hpg ++ Dg))) (SubH.of_perm (perm_tail (N := []) (G := (hpg ++ Dg)) (K := [_, _]) (X := hs))) (zq (Q.len ud81 rfl hO.len) (zq (Q.move (zi 0)) (zk (W.block (W.loop_ind (fun (j : Nat) => [(2, .ptr b1 0), (5, .map mb), (11, v11), (12, .int .i64 ((G.length : Nat) : Int)), (13, .int .i64 ((j : Nat) : Int))]) (fun (j : Nat) => (⟨mb, ⟨(entT (G.take j)).length, true, mapT 0 (entT (G.take j))⟩, true⟩ :: ⟨b1, ⟨11, true, [.int .i64 kd, .str op, .int .i64 nn, mt, .int .i64 rg, .int .i64 off, .int .i64 md, vn, .int .i64 sd, .bool bl, kids]⟩, true⟩ :: (hs ++ (hpg ++ Dg)))) (fun (j : Nat) => j ≤ G.length) (fun (j : Nat) => G.length - j) (0) (Nat.zero_le _) zv (SubH.refl _) (fun j hI0 ih0 => ?_))))))
 have h1 := hI0
 refine zr (zq (Q.bin rfl rfl rfl (bv_lss lt_nat)) (zk (W.seq (W.condDS rfl (fun hc14 => ?_) (fun hc14 => ?_)))))
 · obtain ⟨bo, exo, rfl, hh⟩ := Own.full hO (by omega)
   have mo : (⟨bo, ⟨1, exo, G.map (·.2)⟩, true⟩ : HE) ∈ hpg := (by rw [hh]; exact List.mem_cons_self)
   obtain ⟨⟨⟨k, mem⟩, gv⟩, hgj⟩ : ∃ g, G[j]? = some g := ⟨_, List.getElem?_eq_getElem (by omega)⟩
   obtain ⟨hfl, hne⟩ := hG.2.1 _ (List.mem_of_getElem? hgj)
   simp only at hfl hne
   have hmp : 0 < mem.length := List.length_pos_iff.2 hne
   obtain ⟨PA, hpj, PB, hDe, hOj, _⟩ := GB.at hGB hgj
   replace hOj : OwnE 2 (cE mem) mem.length gv hpj := hOj
   obtain ⟨bg, exg, rfl, hh2⟩ := OwnE.full hOj hmp
   have mg : (⟨bg, ⟨2, exg, cE mem⟩, true⟩ : HE) ∈ Dg := (by rw [hDe, hh2]; simp)
   have hsub : ∀ x ∈ mem, x ∈ V := (by rw [hfl]; exact fun x hx => (List.mem_filter.1 hx).1)
   have hWL : ∀ x ∈ mem, LIn hs x.2.1 x.1 := (fun x hx => hV.2 x (hsub x hx))
   have hm0 : eg mem 0 ∈ mem := eg_mem hmp
   have hKm : KeyOK (eg mem 0).2.1 := key_mem hK (hsub _ hm0)
   have hkk : prM (keyM md N (eg mem 0).2.1) = k := fl_key (kf := (fun x : PE => prM (keyM md N x.1))) (L := V) (by rw [← hfl]; exact hm0)
   have hfn := ent_none (tb := tab) ud9 hG.1 hgj
   rw [← hkk] at hfn
   have est : entT (G.take (j + 1)) = entT (G.take j) ++ [(prM (keyM md N (eg mem 0).2.1), .slice bg 0 mem.length 2)] := (by rw [hkk]; exact entT_step hgj)
   refine zw (W.seq (W.block (zr (zq (Q.iaddrS ud81 sz22 rfl rfl zo) (zq (Q.load1 rfl (List.mem_cons_of_mem _ (List.mem_cons_of_mem _ (List.mem_append_right _ (List.mem_append_left Dg mo)))) ag22 (gmap_at hgj)) (za rfl (zk (W.regD 12 (⟨b1, _, false⟩ :: (hpg ++ Dg)) (by kernel_rfl) (KIn.cons (zt 1 rfl) (fun e he => ⟨e.w, by obtain ⟨b, o, w⟩ := e; rcases List.mem_append.1 he with he | he <;> simp [he]⟩)) (WD.q (Q.move rfl) (by simp [AV.beq, beq1, beq0, beqL]) rfl (WD.q (Q.fieldAddr fa47_6 rfl (o' := 6) rfl) bq_ptr rfl (WD.q (Q.load1 rfl (zt 0 rfl) ag3 rfl) bq_int rfl (WD.q (Q.fieldAddr fa47_7 rfl (o' := 7) rfl) bq_ptr rfl (WD.q (Q.load1 rfl (zt 0 rfl) ag40 rfl) (SIn.bq hN) rfl (WD.q (Q.move rfl) bq_slice rfl (WD.q (Q.iaddrL ud22 sz35 rfl (zi 0) zo (o' := 0) rfl) bq_ptr rfl (WD.q (Q.fieldAddr fa35_0 rfl (o' := 0) rfl) bq_ptr rfl (WD.q (Q.load1 rfl (List.mem_cons_of_mem _ (List.mem_append_right hpg mg)) ag33 (cE_f0 (i := 0) zo)) (LIn.bq (lin_any hWL _)) rfl (WD.call0 rfl (oLs_cons rfl (oLs_cons rfl (oLs_cons rfl oLs_nil))) rfl (key_spec hs hro (eg mem 0).2.1 _ (lin_any hWL _) hKm.bd N _ hN hNb md) (SubR.tl (SubR.tl (SubR.appl (SubR.self hro)))) (KIn.cons (zt 1 rfl) (fun e he => ⟨e.w, by obtain ⟨b, o, w⟩ := e; rcases List.mem_append.1 he with he | he <;> simp [he]⟩)) rfl (fun v26 D26 hP26 => WD.subH (hs' := _ :: _ :: (hs ++ (hpg ++ Dg) ++ D26)) (SubH.of_perm (perm_tail (N := []) (G := D26) (K := [_, _]) (X := hs ++ (hpg ++ Dg)))) (WD.callV rfl (oLs_cons rfl oLs_nil) rfl (print_spec (ro D26) ro_w _ _ ((LIn.own hP26).mono fun b o h => h.ro) (hKm.key md N)) (SubR.ro gc) (KIn.cons (zt 1 rfl) (fun e he => ⟨e.w, by obtain ⟨b, o, w⟩ := e; rcases List.mem_append.1 he with he | he <;> simp [he]⟩)) rfl (WD.q (Q.move rfl) bq_slice rfl (WD.mapNew mt93 rfl rfl rfl (i := 0) rfl (keyT_ok ud9 _) hfn (mapT_push _ _ _) (hs' := _ :: _ :: _) rfl (fun h => by cases h) (WD.nil ?_)))))))))))))))))))))))
   refine End.KB (End.K (W.sub (zc 2 rfl (zc 5 rfl (zc 11 rfl (zc 12 rfl (zc 13 rfl zzn))))) (W.reg (zq (Q.bin rfl (zi 1) rfl zp) (zm rfl (WO.nil (End.KL (W.sub zv (W.subH (by rw [est, List.length_append, List.length_singleton]; exact gc) (ih0 (j + 1) ?_ ?_))))))))))
   · exact (by omega)
   exact zo
 refine W.exit (End.K_exit (End.KL_exit (End.KB_hit (End.K (zr (zm rfl (za rfl (zk (W.ret ?_)))))))))
 refine End.ret (z1 rfl) (hs' := ⟨mb, ⟨(entT G).length, true, mapT 0 (entT G)⟩, true⟩ :: Dg) ⟨mb, G, Dg, rfl, rfl, hG, hGB⟩ (ww (GB.w hGB)) (by rw [show j = G.length by omega, List.take_length]; exact gc)
end Go.Proofs.YtmblgaehfjheeaaGreat.Ev
