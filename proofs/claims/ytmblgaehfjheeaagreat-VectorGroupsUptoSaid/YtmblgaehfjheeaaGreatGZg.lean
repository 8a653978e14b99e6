/- Chapter 19, walks: things in groups by a text. -/
import Derived.Test.YtmblgaehfjheeaaGreatGZf
namespace Go.Proofs.YtmblgaehfjheeaaGreat.Ev
open Go.RowKit
set_option linter.unusedVariables false
set_option linter.unusedSimpArgs false
set_option maxRecDepth 100000
set_option maxHeartbeats 1000000
abbrev Ge := (List Nat × List El) × AV
def idxT : Nat → List Ge → List Te
 | _, [] => []
 | i, g :: G => (g.1.1, .int .i64 ((i : Nat) : Int)) :: idxT (i + 1) G
theorem idxT_len : ∀ (G : List Ge) (i : Nat), (idxT i G).length = G.length
 | [], _ => rfl
 | g :: G, i => by simp [idxT, idxT_len G]
theorem idxT_append : ∀ (G : List Ge) (g : Ge) (i : Nat), idxT i (G ++ [g]) = idxT i G ++ [(g.1.1, .int .i64 ((i + G.length : Nat) : Int))]
 | [], g, i => rfl
 | h :: G, g, i => by
  simp only [List.cons_append, idxT, idxT_append G, List.length_cons]
  rw [show i + 1 + G.length = i + (G.length + 1) by omega]
theorem idxT_new (G : List Ge) (k : List Nat) : mapT 0 (idxT 0 G) ++ [.str k, .int .i64 ((G.length : Nat) : Int), .int .i64 ((G.length : Nat) : Int)] = mapT 0 (idxT 0 (G ++ [((k, []), .nils)])) := by
 rw [idxT_append, ← mapT_push, idxT_len, Nat.zero_add]
theorem idxT_at : ∀ (G : List Ge) (i j : Nat) (e : Te), (idxT i G)[j]? = some e → ∃ g, G[j]? = some g ∧ e.2 = .int .i64 ((i + j : Nat) : Int) ∧ g.1.1 = e.1
 | [], i, j, e, h => by simp [idxT] at h
 | g :: G, i, 0, e, h => by simp [idxT] at h; subst h; exact ⟨g, rfl, rfl, rfl⟩
 | g :: G, i, j + 1, e, h => by
  obtain ⟨x, h1, h2, h3⟩ := idxT_at G (i + 1) j e (by simpa [idxT] using h)
  exact ⟨x, by simpa using h1, by rw [h2, show i + 1 + j = i + (j + 1) by omega], h3⟩
theorem idxT_get {G : List Ge} {j : Nat} {k : List Nat} {v : AV} (h : (idxT 0 G)[j]? = some (k, v)) : ∃ g, G[j]? = some g ∧ v = .int .i64 ((j : Nat) : Int) ∧ g.1.1 = k := by
 obtain ⟨g, h1, h2, h3⟩ := idxT_at G 0 j _ h
 rw [Nat.zero_add] at h2
 exact ⟨g, h1, h2, h3⟩
theorem idxT_val {G : List Ge} {j : Nat} {k : List Nat} {v : AV} (h : (idxT 0 G)[j]? = some (k, v)) : (mapT 0 (idxT 0 G))[3 * j + 1]? = some v := mapT_get _ 0 j _ h
theorem idxT_no {G : List Ge} {k : List Nat} (h : ∀ x ∈ idxT 0 G, x.1 ≠ k) : ∀ g ∈ G, g.1.1 ≠ k := by
 intro g hg e
 obtain ⟨j, hj, rfl⟩ := List.getElem_of_mem hg
 have : ∀ (G : List Ge) (i j : Nat) (hj : j < G.length), (idxT i G)[j]? = some (G[j].1.1, .int .i64 ((i + j : Nat) : Int)) := by
  intro G
  induction G with
  | nil => intro i j hj; simp at hj
  | cons g G ih =>
   intro i j hj
   cases j with
   | zero => rfl
   | succ j =>
    have := ih (i + 1) j (by simpa using hj)
    rw [show i + (j + 1) = i + 1 + j by omega]
    simpa [idxT] using this
 exact h _ (List.mem_of_getElem? (this G 0 j hj)) e
theorem idxT_set : ∀ {G : List Ge} {i j : Nat} {g g' : Ge}, G[j]? = some g → g'.1.1 = g.1.1 → idxT i (G.set j g') = idxT i G
 | [], i, j, g, g', h, _ => by simp at h
 | x :: G, i, 0, g, g', h, e => by simp at h; subst h; simp [idxT, e]
 | x :: G, i, j + 1, g, g', h, e => by
  simp only [List.set_cons_succ, idxT]
  rw [idxT_set (by simpa using h) e]
theorem gmap_at {G : List Ge} {j : Nat} {g : Ge} (h : G[j]? = some g) : (G.map (·.2))[(0 + j) * 1]? = some g.2 := by
 rw [Nat.zero_add, Nat.mul_one, List.getElem?_map, h]; rfl
theorem gset_le {G : List Ge} {j : Nat} (h : j < G.length) : Nat.ble ((0 + j) * 1 + 1) (G.map (·.2)).length = true := by
 rw [List.length_map]
 exact Nat.ble_eq.mpr zy
theorem lay_set : ∀ (l : List AV) (j : Nat) (v : AV), j < l.length → layL l j [v] = l.set j v
 | x :: l, 0, v, _ => by simp [layL]
 | x :: l, j + 1, v, h => by simp only [layL, List.set_cons_succ, lay_set l j v (by simpa using h)]
theorem gset_lay {G : List Ge} {j : Nat} {k : List Nat × List El} {v : AV} (h : j < G.length) (hv : v.isCell = true) : layL (G.map (·.2)) ((0 + j) * 1) v.cells = (G.set j (k, v)).map (·.2) := by
 rw [Nat.zero_add, Nat.mul_one, cells_cell hv, lay_set _ _ _ (by simpa using h), List.map_set]
theorem own_set {G : List Ge} {j bo : Nat} {exo : Bool} {g : Ge} (h : j < G.length) : Own 1 ((G.set j g).map (·.2)) (G.set j g).length (.slice bo 0 G.length 1) [⟨bo, ⟨1, exo, (G.set j g).map (·.2)⟩, true⟩] := .inr ⟨bo, exo, by rw [List.length_set], rfl, by simp, by simp; omega⟩
def GB : List Ge → HSt → Prop
 | [], D => D = []
 | g :: G, D => ∃ hp D', OwnE 2 (cE g.1.2) g.1.2.length g.2 hp ∧ D = hp ++ D' ∧ GB G D'
theorem GB.w : ∀ {G : List Ge} {D : HSt}, GB G D → ∀ e ∈ D, e.w = true
 | [], D, h => by subst h; exact no_wl
 | g :: G, D, ⟨hp, D', h1, h2, h3⟩ => by subst h2; exact wa h1.w (GB.w h3)
theorem GB.push {k : List Nat} : ∀ {G : List Ge} {D : HSt}, GB G D → GB (G ++ [((k, []), .nils)]) D
 | [], D, h => by subst h; exact ⟨[], [], OwnE.nil 2, rfl, rfl⟩
 | g :: G, D, ⟨hp, D', h1, h2, h3⟩ => ⟨hp, D', h1, h2, GB.push h3⟩
theorem GB.at : ∀ {G : List Ge} {D : HSt} {j : Nat} {g : Ge}, GB G D → G[j]? = some g → ∃ A hp B, D = A ++ (hp ++ B) ∧ OwnE 2 (cE g.1.2) g.1.2.length g.2 hp ∧
  ∀ (g' : List Nat × List El) v' hp', OwnE 2 (cE g'.2) g'.2.length v' hp' → GB (G.set j (g', v')) (A ++ (hp' ++ B))
 | [], D, j, g, _, h => by simp at h
 | x :: G, D, 0, g, ⟨hp, D', h1, h2, h3⟩, h => by
  simp at h
  subst h
  exact ⟨[], hp, D', h2, h1, fun g' v' hp' k => ⟨hp', D', k, rfl, h3⟩⟩
 | x :: G, D, j + 1, g, ⟨hp, D', h1, h2, h3⟩, h => by
  obtain ⟨A, hq, B, g1, g2, g3⟩ := GB.at h3 (by simpa using h)
  exact ⟨hp ++ A, hq, B, by rw [h2, g1, List.append_assoc], g2, fun g' v' hp' k => ⟨hp, A ++ (hp' ++ B), h1, by rw [List.append_assoc], g3 g' v' hp' k⟩⟩
def fl (kf : PE → List Nat) (L : List El) (k : List Nat) : List El := L.filter fun x => decide (kf x.2 = k)
def GInv (kf : PE → List Nat) (L : List El) (G : List Ge) : Prop := (G.map (·.1.1)).Nodup ∧ (∀ g ∈ G, g.1.2 = fl kf L g.1.1 ∧ g.1.2 ≠ []) ∧ ∀ x ∈ L, ∃ g ∈ G, g.1.1 = kf x.2
theorem GInv.nil {kf : PE → List Nat} : GInv kf [] [] := ⟨List.nodup_nil, fun g hg => by simp at hg, fun x hx => by simp at hx⟩
def GNext (kf : PE → List Nat) (L : List El) (x : El) (G : List Ge) (j : Nat) : Prop := ∃ mem gv, G[j]? = some ((kf x.2, mem), gv) ∧ j < G.length ∧ mem.length ≤ L.length ∧ ∀ v', GInv kf (L ++ [x]) (G.set j ((kf x.2, mem ++ [x]), v'))
theorem fl_app {kf : PE → List Nat} {L : List El} {x : El} {k : List Nat} : fl kf (L ++ [x]) k = fl kf L k ++ if kf x.2 = k then [x] else [] := by
 unfold fl
 rw [List.filter_append]
 congr 1
 by_cases h : kf x.2 = k <;> simp [h]
theorem GNext.old {kf : PE → List Nat} {L : List El} {x : El} {G : List Ge} {j : Nat} {g : Ge} (h : GInv kf L G) (hg : G[j]? = some g) (hk : g.1.1 = kf x.2) : GNext kf L x G j := by
 obtain ⟨⟨k, mem⟩, gv⟩ := g
 simp only at hk
 subst hk
 obtain ⟨h1, h2, h3⟩ := h
 have hjl := (List.getElem?_eq_some_iff.1 hg).1
 have hm := h2 _ (List.mem_of_getElem? hg)
 simp only at hm
 refine ⟨mem, gv, hg, hjl, by rw [hm.1]; exact List.length_filter_le _ _, fun v' => ⟨?_, fun q hq => ?_, fun y hy => ?_⟩⟩
 ·rw [List.map_set]
  have : (G.map (·.1.1)).set j (kf x.2) = G.map (·.1.1) := by
   apply List.ext_getElem?
   intro i
   rw [List.getElem?_set]
   split
   ·rename_i e
    subst e
    rw [List.getElem?_map, hg]
    simp [hjl]
   ·rfl
  rw [this]; exact h1
 ·rcases List.mem_or_eq_of_mem_set hq with hq | hq
  ·by_cases e : q.1.1 = kf x.2
   ·obtain ⟨i, hi, rfl⟩ := List.getElem_of_mem ‹q ∈ G.set j _›
    rw [List.length_set] at hi
    rw [List.getElem_set] at e ⊢
    split
    ·refine ⟨?_, by simp⟩
     show mem ++ [x] = fl kf (L ++ [x]) (kf x.2)
     rw [fl_app, if_pos rfl, hm.1]
    ·rename_i hne
     rw [if_neg hne] at e
     exfalso
     exact hne (nodup_at h1 (x := kf x.2) (by rw [List.getElem?_map, hg]; rfl) (by rw [List.getElem?_map, List.getElem?_eq_getElem hi]; simp [e]))
   ·obtain ⟨a, b⟩ := h2 q hq
    exact ⟨by rw [fl_app, if_neg (fun q => e q.symm), List.append_nil]; exact a, b⟩
  ·subst hq
   refine ⟨?_, by simp⟩
   show mem ++ [x] = fl kf (L ++ [x]) (kf x.2)
   rw [fl_app, if_pos rfl, hm.1]
 ·have hset : ∀ g ∈ G, ∃ g' ∈ G.set j ((kf x.2, mem ++ [x]), v'), g'.1.1 = g.1.1 := by
   intro g hgm
   obtain ⟨i, hi, rfl⟩ := List.getElem_of_mem hgm
   refine ⟨(G.set j ((kf x.2, mem ++ [x]), v'))[i]'(by rw [List.length_set]; exact hi), List.getElem_mem _, ?_⟩
   rw [List.getElem_set]
   split
   ·rename_i e
    subst e
    rw [List.getElem?_eq_getElem hi] at hg
    simp only [Option.some.injEq] at hg
    rw [hg]
   ·rfl
  rcases List.mem_append.1 hy with hy | hy
  ·obtain ⟨g, hgm, e⟩ := h3 y hy
   obtain ⟨g', hg', e'⟩ := hset g hgm
   exact ⟨g', hg', e'.trans e⟩
  ·rw [List.mem_singleton.1 hy]
   obtain ⟨g', hg', e'⟩ := hset _ (List.mem_of_getElem? hg)
   exact ⟨g', hg', e'⟩
theorem GNext.new {kf : PE → List Nat} {L : List El} {x : El} {G : List Ge} (h : GInv kf L G) (hk : ∀ g ∈ G, g.1.1 ≠ kf x.2) : GNext kf L x (G ++ [((kf x.2, []), .nils)]) G.length := by
 obtain ⟨h1, h2, h3⟩ := h
 have hn : fl kf L (kf x.2) = [] := by
  unfold fl
  rw [List.filter_eq_nil_iff]
  intro y hy hd
  obtain ⟨g, hg, e⟩ := h3 y hy
  exact hk g hg (e.trans (by simpa using hd))
 refine ⟨[], .nils, by simp, by simp, Nat.zero_le _, fun v' => ?_⟩
 have e : (G ++ [((kf x.2, []), AV.nils)]).set G.length ((kf x.2, [] ++ [x]), v') = G ++ [((kf x.2, [x]), v')] := by simp
 rw [e]
 refine ⟨?_, fun q hq => ?_, fun y hy => ?_⟩
 ·rw [List.map_append]
  refine List.nodup_append.2 ⟨h1, by simp, fun a ha b hb hab => ?_⟩
  obtain ⟨g, hg, rfl⟩ := List.mem_map.1 ha
  simp only [List.map_cons, List.map_nil, List.mem_singleton] at hb
  exact hk g hg (hab.trans hb)
 ·rcases List.mem_append.1 hq with hq | hq
  ·obtain ⟨a, b⟩ := h2 q hq
   exact ⟨by rw [fl_app, if_neg (fun e => hk q hq e.symm), List.append_nil]; exact a, b⟩
  ·rw [List.mem_singleton.1 hq]
   refine ⟨?_, by simp⟩
   show [x] = fl kf (L ++ [x]) (kf x.2)
   rw [fl_app, if_pos rfl, hn]; rfl
 ·rcases List.mem_append.1 hy with hy | hy
  ·obtain ⟨g, hg, e⟩ := h3 y hy
   exact ⟨g, List.mem_append_left _ hg, e⟩
  ·rw [List.mem_singleton.1 hy]
   exact ⟨((kf x.2, [x]), v'), by simp, rfl⟩
theorem grp_spec (hs : HSt) (hro : ∀ e ∈ hs, e.w = false) (V : List El) (v : AV) (hV : EIn hs V v) (hB : EBd V) (F : Nat) (caps : List AV) (kf : PE → List Nat) (hkb : ∀ i, i < V.length → Bytes (kf (eg V i).2)) (hC : ∀ i, i < V.length → Spec tab F ([.agg [(eg V i).1, .int .i64 (eg V i).2.2]] ++ caps) [] hs (Val (.str (kf (eg V i).2)))) : Spec tab 56 [v, .func F caps] [] hs (fun u D => ∃ (G : List Ge) (hp D' : HSt), D = hp ++ D' ∧ GInv kf V G ∧ Own 1 (G.map (·.2)) G.length u hp ∧ GB G D' ∧ G.length ≤ V.length) := by
 have hBl := hB.1
 refine Spec.en (ftg 56 Tryz.func56) rfl (m := 50) rfl (rs := [.tmp 4]) rfl (st := [(0, v), (1, .func F caps)]) rfl rfl (fun _ => rfl) (fun E => zr (za rfl (zk (zr (WO.makeMap mt116 rfl (fun mb => za rfl (zk (zr (za rfl (zk (W.seq (zr (zm rfl (zq (Q.len ud22 rfl (EIn.len hV)) (zq (Q.move (zi 0)) (zk (W.block (W.loop_ind5 (fun (i : Nat) (G : List Ge) (u : AV) (hp : HSt) (D : HSt) => [(1, .func F caps), (5, .map mb), (6, u), (13, v), (14, .int .i64 ((V.length : Nat) : Int)), (15, .int .i64 ((i : Nat) : Int))]) (fun (i : Nat) (G : List Ge) (u : AV) (hp : HSt) (D : HSt) => (⟨mb, ⟨(G).length, true, mapT 0 (idxT 0 (G))⟩, true⟩ :: ((hs ++ D) ++ hp))) (fun (i : Nat) (G : List Ge) (u : AV) (hp : HSt) (D : HSt) => i ≤ V.length ∧ GInv kf (V.take i) G ∧ Own 1 (G.map (·.2)) G.length u hp ∧ GB G D ∧ G.length ≤ i) (fun (i : Nat) (G : List Ge) (u : AV) (hp : HSt) (D : HSt) => V.length - i) (0) ([]) (.nils) ([]) ([]) ⟨Nat.zero_le _, GInv.nil, Own.nil 1, rfl, Nat.zero_le _⟩ zv (by rw [List.append_nil, List.append_nil]; exact SubH.refl _) (fun i G u hp D hI0 ih0 => ?_)))))))))))))))))))
 obtain ⟨h1, h2, hO, hGB, hGl⟩ := hI0
 refine zr (zq (Q.bin rfl rfl rfl (bvl ltn)) (zk (W.seq (W.cD rfl (fun hc16 => ?_) (fun hc16 => ?_)))))
 ·obtain ⟨bv, szv, exv, rfl, wv, mv⟩ := EIn.full hV zy
  have hil : i < V.length := zy
  refine zw (W.seq (W.block (zr (zq (Q.iS ud22 sz35 rfl rfl zo) (zq (Q.loadN rfl (List.mem_cons_of_mem _ (List.mem_append_left _ (List.mem_append_left _ mv))) ag35 sz35 (cE_at zo)) (WO.alloc ao35 rfl (fun b1 => WO.store sz35 rfl rfl (i := 0) rfl (and_tt rfl (and_tt (LIn.cell (hV.at zy)) rfl)) (cs := [_, _]) rfl (hs' := _ :: _ :: _) rfl (zk (zr (zm rfl (zq (Q.loadN rfl (zt 0 rfl) ag35 sz35 (l := [_, _]) rfl) (WO.cV rfl (oLc rfl oz) rfl (hC i zy) (SubR.t (SubR.t (SubR.appl (SubR.appl (SubR.s hro))))) rfl (za rfl (zk (zr (zm rfl (zm rfl ?_)))))))))))))))))
  rcases mapT_find (keyT_eq (tb := tab) ud9) (kf (eg V i).2) (idxT 0 G) 0 0 with ⟨hfn, hnew⟩ | ⟨j, vj, hj, hfj⟩
  ·refine zq (Q.lookN mt116 rfl rfl (zt 1 rfl) (keyT_ok ud9 _) zr3 hfn) (zm rfl (zq (Q.extract rfl rfl) (zq (Q.extract rfl rfl) (za rfl (za rfl (zk (W.seqJ5 (fun (G : List Ge) (bo : Nat) (exo : Bool) (D : HSt) (j : Nat) => [(1, .func F caps), (6, .slice bo 0 G.length 1), (8, .ptr b1 0), (5, .map mb), (10, .int .i64 ((j : Nat) : Int)), (13, .slice bv 0 V.length 2), (14, .int .i64 ((V.length : Nat) : Int)), (15, .int .i64 ((i : Nat) : Int))]) (fun (G : List Ge) (bo : Nat) (exo : Bool) (D : HSt) (j : Nat) => (⟨b1, ⟨2, true, [(eg V i).1, .int .i64 (eg V i).2.2]⟩, true⟩ :: ⟨mb, ⟨(G).length, true, mapT 0 (idxT 0 (G))⟩, true⟩ :: ⟨bo, ⟨1, exo, (G).map (·.2)⟩, true⟩ :: (hs ++ D))) (fun (G : List Ge) (bo : Nat) (exo : Bool) (D : HSt) (j : Nat) => GNext kf (V.take i) (eg V i) G j ∧ GB G D ∧ G.length ≤ i + 1) (fun G bo exo D j hI12 => ?_) (fun hJ12 => ?_))))))))
   ·obtain ⟨hN, hGB, hGl⟩ := hI12
    obtain ⟨mem, gv, hgj, hjl, hml, hnx⟩ := hN
    obtain ⟨PA, hpj, PB, rfl, hOj, hset⟩ := GB.at hGB hgj
    replace hOj : OwnE 2 (cE mem) mem.length gv hpj := hOj
    refine W.sH (hs' := _ :: _ :: _ :: (hs ++ PA ++ PB ++ hpj)) (SubH.op (List.Perm.append_left [_, _, _] (List.perm_iff_count.2 (by intro z; simp only [List.append_eq, List.count_append]; omega)))) (W.regD 9 [⟨b1, _, false⟩, ⟨bo, _, false⟩] (by kernel_rfl) (KIn.cons (zt 0 rfl) (KIn.cons (zt 2 rfl) KIn.nil)) (WD.q (Q.move rfl) bqs rfl (WD.q (Q.move rfl) bqi rfl (WD.q (Q.move rfl) bqs rfl (WD.q (Q.move rfl) bqi rfl (WD.q (Q.iS ud81 sz22 rfl rfl zo) bqp rfl (WD.q (Q.l1 rfl (zt 1 rfl) ag22 (gmap_at hgj)) (OwnE.bq hOj) rfl (WD.q (Q.loadN rfl (zt 0 rfl) ag35 sz35 (l := [_, _]) rfl) (bq_agg2 (LIn.bq0 (hV.at hil))) rfl (WD.bslice ud22 sz35 zr35 rfl (opc rfl opn) rfl (cs := [_, _]) rfl (and_tt (LIn.cell (hV.at hil)) rfl) rfl (KIn.cons (zt 0 rfl) (KIn.cons (zt 2 rfl) KIn.nil)) (fun b2 => WD.appAny (A := ([_, _, _] ++ hs ++ PA ++ PB)) ap22_22 hOj rfl rfl (Src.slice (zt 0 rfl) rfl) rfl (by simp only [List.length_take] at hml; omega) (by decide) (SubH.of_sublist (List.sublist_cons_self _ _)) rfl (KIn.cons (zt 0 rfl) (KIn.cons (zt 2 rfl) KIn.nil)) (fun v46 hp46 hO46 => WD.q (Q.iS ud81 sz22 rfl rfl zo) bqp rfl (WD.store sz22 rfl rfl (j := 2) rfl (ck1 (OwnE.cell hO46) (gset_le hjl)) (gset_lay (k := ((kf (eg V i).2), mem ++ [eg V i])) hjl (OwnE.cell hO46)) (hs' := _ :: _ :: _ :: _) rfl (fun h => by cases h) (WD.nil (End.KB (End.K (W.reg (zq (Q.bin rfl (zi 1) rfl zp) (zm rfl (WO.nil (End.KL (W.sub zv (W.sH (by rw [idxT_set (g' := (((kf (eg V i).2), mem ++ [eg V i]), v46)) hgj rfl, List.length_set]; exact gc) (ih0 (i + 1) (G.set j (((kf (eg V i).2), mem ++ [eg V i]), v46)) (.slice bo 0 G.length 1) ([⟨bo, ⟨1, exo, (G.set j (((kf (eg V i).2), mem ++ [eg V i]), v46)).map (·.2)⟩, true⟩]) (PA ++ (hp46 ++ PB)) ?_ ?_)))))))))))))))))))))))
    ·exact ⟨by omega, by rw [take_el zy]; exact hnx _, own_set hjl, hset ((kf (eg V i).2), mem ++ [eg V i]) _ _ (own_snoc hO46), by rw [List.length_set]; omega⟩
    exact zo
   refine zr (zm rfl (zq (Q.not rfl rfl) (zk (W.sub (zc 29 rfl (zc 10 rfl (zc 9 rfl (zc 8 rfl (zc 1 rfl (zc 5 rfl (zc 6 rfl (zc 13 rfl (zc 14 rfl (zc 15 rfl zzn)))))))))) (W.condT rfl (zr (zm rfl (zq (Q.len ud81 rfl hO.len) (za rfl (zk (zr (zm rfl (zm rfl (zm rfl (WO.mapNew mt116 rfl rfl rfl (i := 1) rfl (keyT_ok ud9 _) hfn (idxT_new _ _) (hs' := _ :: _ :: _) rfl (zk (W.reg (zm rfl (WO.bslice ud81 sz22 zr22 rfl (opc rfl opn) rfl (cs := [_]) rfl rfl rfl (fun b3 => WO.appOwn (e := ⟨b3, _, true⟩) (A := ([_, _] ++ hs ++ D)) ap81_81 hO rfl rfl rfl rfl ⟨by first | omega | (simp at * <;> omega), by first | omega | (simp at * <;> omega)⟩ (by decide) rfl rfl (fun v37 hp37 hO37 => ?_)))))))))))))))))))))
   obtain ⟨b37, ex37, rfl, rfl⟩ := hO37.full zy
   refine WO.subH (hs' := _ :: (([_, _] ++ hs ++ D))) (SubH.op (List.perm_append_singleton _ _).symm) (za rfl (WO.nil (End.K (W.sub (zd rfl (SubS.cons (by rw [List.length_append]; rfl) zv)) (W.sH (by simp only [List.map_append, List.length_append, List.map_cons, List.map_nil, List.length_cons, List.length_nil, Nat.zero_add]; exact gc) (hJ12 (G ++ [(((kf (eg V i).2), []), .nils)]) (b37) (ex37) (D) (G.length) ?_))))))
   exact ⟨GNext.new h2 (idxT_no hnew), hGB.push, by simp; omega⟩
  rw [Nat.zero_add] at hfj
  obtain ⟨g, hg, rfl, hgk⟩ := idxT_get hj
  obtain ⟨bo, exo, rfl, rfl⟩ := Own.full hO (by have := (List.getElem?_eq_some_iff.1 hg).1; omega)
  refine zq (Q.lookS mt116 rfl rfl (zt 1 rfl) (keyT_ok ud9 _) zr3 hfj (idxT_val hj)) (zm rfl (zq (Q.extract rfl rfl) (zq (Q.extract rfl rfl) (za rfl (za rfl (zk (W.seqJ5 (fun (G : List Ge) (bo : Nat) (exo : Bool) (D : HSt) (j : Nat) => [(1, .func F caps), (6, .slice bo 0 G.length 1), (8, .ptr b1 0), (5, .map mb), (10, .int .i64 ((j : Nat) : Int)), (13, .slice bv 0 V.length 2), (14, .int .i64 ((V.length : Nat) : Int)), (15, .int .i64 ((i : Nat) : Int))]) (fun (G : List Ge) (bo : Nat) (exo : Bool) (D : HSt) (j : Nat) => (⟨b1, ⟨2, true, [(eg V i).1, .int .i64 (eg V i).2.2]⟩, true⟩ :: ⟨mb, ⟨(G).length, true, mapT 0 (idxT 0 (G))⟩, true⟩ :: ⟨bo, ⟨1, exo, (G).map (·.2)⟩, true⟩ :: (hs ++ D))) (fun (G : List Ge) (bo : Nat) (exo : Bool) (D : HSt) (j : Nat) => GNext kf (V.take i) (eg V i) G j ∧ GB G D ∧ G.length ≤ i + 1) (fun G bo exo D j hI12 => ?_) (fun hJ12 => ?_))))))))
  ·obtain ⟨hN, hGB, hGl⟩ := hI12
   obtain ⟨mem, gv, hgj, hjl, hml, hnx⟩ := hN
   obtain ⟨PA, hpj, PB, rfl, hOj, hset⟩ := GB.at hGB hgj
   replace hOj : OwnE 2 (cE mem) mem.length gv hpj := hOj
   refine W.sH (hs' := _ :: _ :: _ :: (hs ++ PA ++ PB ++ hpj)) (SubH.op (List.Perm.append_left [_, _, _] (List.perm_iff_count.2 (by intro z; simp only [List.append_eq, List.count_append]; omega)))) (W.regD 9 [⟨b1, _, false⟩, ⟨bo, _, false⟩] (by kernel_rfl) (KIn.cons (zt 0 rfl) (KIn.cons (zt 2 rfl) KIn.nil)) (WD.q (Q.move rfl) bqs rfl (WD.q (Q.move rfl) bqi rfl (WD.q (Q.move rfl) bqs rfl (WD.q (Q.move rfl) bqi rfl (WD.q (Q.iS ud81 sz22 rfl rfl zo) bqp rfl (WD.q (Q.l1 rfl (zt 1 rfl) ag22 (gmap_at hgj)) (OwnE.bq hOj) rfl (WD.q (Q.loadN rfl (zt 0 rfl) ag35 sz35 (l := [_, _]) rfl) (bq_agg2 (LIn.bq0 (hV.at hil))) rfl (WD.bslice ud22 sz35 zr35 rfl (opc rfl opn) rfl (cs := [_, _]) rfl (and_tt (LIn.cell (hV.at hil)) rfl) rfl (KIn.cons (zt 0 rfl) (KIn.cons (zt 2 rfl) KIn.nil)) (fun b5 => WD.appAny (A := ([_, _, _] ++ hs ++ PA ++ PB)) ap22_22 hOj rfl rfl (Src.slice (zt 0 rfl) rfl) rfl (by simp only [List.length_take] at hml; omega) (by decide) (SubH.of_sublist (List.sublist_cons_self _ _)) rfl (KIn.cons (zt 0 rfl) (KIn.cons (zt 2 rfl) KIn.nil)) (fun v46 hp46 hO46 => WD.q (Q.iS ud81 sz22 rfl rfl zo) bqp rfl (WD.store sz22 rfl rfl (j := 2) rfl (ck1 (OwnE.cell hO46) (gset_le hjl)) (gset_lay (k := ((kf (eg V i).2), mem ++ [eg V i])) hjl (OwnE.cell hO46)) (hs' := _ :: _ :: _ :: _) rfl (fun h => by cases h) (WD.nil (End.KB (End.K (W.reg (zq (Q.bin rfl (zi 1) rfl zp) (zm rfl (WO.nil (End.KL (W.sub zv (W.sH (by rw [idxT_set (g' := (((kf (eg V i).2), mem ++ [eg V i]), v46)) hgj rfl, List.length_set]; exact gc) (ih0 (i + 1) (G.set j (((kf (eg V i).2), mem ++ [eg V i]), v46)) (.slice bo 0 G.length 1) ([⟨bo, ⟨1, exo, (G.set j (((kf (eg V i).2), mem ++ [eg V i]), v46)).map (·.2)⟩, true⟩]) (PA ++ (hp46 ++ PB)) ?_ ?_)))))))))))))))))))))))
   ·exact ⟨by omega, by rw [take_el zy]; exact hnx _, own_set hjl, hset ((kf (eg V i).2), mem ++ [eg V i]) _ _ (own_snoc hO46), by rw [List.length_set]; omega⟩
   exact zo
  refine zr (zm rfl (zq (Q.not rfl rfl) (zk (W.sub (zc 29 rfl (zc 10 rfl (zc 9 rfl (zc 8 rfl (zc 1 rfl (zc 5 rfl (zc 6 rfl (zc 13 rfl (zc 14 rfl (zc 15 rfl zzn)))))))))) (W.condF rfl (W.skip (End.K (W.sub zv (W.sH gc (hJ12 (G) (bo) (exo) (D) (j) ?_))))))))))
  exact ⟨GNext.old h2 hg hgk, hGB, by omega⟩
 refine W.exit (End.Kx (End.Lx (End.Bh (End.K (zr (zm rfl (za rfl (zk (W.ret ?_)))))))))
 refine End.ret (z1 rfl) (hs' := hp ++ D) ⟨G, hp, D, rfl, by rw [List.take_of_length_le zy] at h2; exact h2, hO, hGB, by omega⟩ (wa (OwnE.w (OwnE.of hO)) (GB.w hGB)) gc
end Go.Proofs.YtmblgaehfjheeaaGreat.Ev
