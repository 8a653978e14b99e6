/- Chapter 19, walks: the document's groups. -/
import Derived.Test.YtmblgaehfjheeaaGreatGQj
import Derived.Test.YtmblgaehfjheeaaGreatGZr
namespace Go.Proofs.YtmblgaehfjheeaaGreat.Ev
open Go.RowKit
set_option linter.unusedVariables false
set_option linter.unusedSimpArgs false
set_option maxRecDepth 100000
set_option maxHeartbeats 1000000
theorem fillE1k {v : AV} (h : v.isCell = true) : fillA (fun i => [(0, 1), (1, 1)][i]?) [.nils, .int .i64 0] [(0, v)] = some [v, .int .i64 0] := by
 simp only [fillA, cells_cell h]; rfl
def nlN (K V : List El) (l : List Lab) (i : Nat) : List Int := ((List.range i).filter fun j => decide ((eg K j).2.1 = l)).map fun j => (eg V j).2.2
def nlL (K V : List El) (l : List Lab) : List Int := nlN K V l V.length
section
variable {K V X W : List El} {l : List Lab} {i j : Nat}
theorem nl_y (h : (eg K i).2.1 = l) : nlN K V l (i + 1) = nlN K V l i ++ [(eg V i).2.2] := by
 unfold nlN
 rw [List.range_succ, List.filter_append, List.map_append]
 simp [h]
theorem nl_n (h : ¬ (eg K i).2.1 = l) : nlN K V l (i + 1) = nlN K V l i := by
 unfold nlN
 rw [List.range_succ, List.filter_append, List.map_append]
 simp [h]
theorem nl_pos (h : j < V.length) (g : (eg K j).2.1 = l) : 0 < (nlL K V l).length := by
 unfold nlL nlN
 rw [List.length_map]
 exact List.length_pos_of_mem (List.mem_filter.2 ⟨List.mem_range.2 h, decide_eq_true g⟩)
theorem nl_le : (nlL K V l).length ≤ V.length := by
 unfold nlL nlN
 rw [List.length_map]
 exact Nat.le_trans (List.length_filter_le _ _) (by rw [List.length_range]; exact Nat.le_refl _)
theorem nl_i64 (hB : EBd V) : ∀ n ∈ nlL K V l, I64 n := by
 intro n hn
 obtain ⟨j, _, rfl⟩ := List.mem_map.1 hn
 exact i64_any hB j
def HInv (K : List El) (i : Nat) (X : List El) : Prop := (X.map (·.2.1)).Nodup ∧ ∀ l, l ∈ X.map (·.2.1) ↔ l ∈ (K.take i).map (·.2.1)
theorem HInv.nil : HInv K 0 [] := ⟨List.nodup_nil, fun l => by simp⟩
theorem take_eg (h : i < K.length) : K.take (i + 1) = K.take i ++ [eg K i] := by
 rw [List.take_add_one]
 congr 1
 unfold eg
 rw [List.getElem?_eq_getElem h, List.getD_eq_getElem?_getD, List.getElem?_eq_getElem h]; rfl
theorem hinv_n (h : HInv K i X) (hi : i < K.length) (g : (eg K i).2.1 ∈ (K.take i).map (·.2.1)) : HInv K (i + 1) X := by
 refine ⟨h.1, fun l => ?_⟩
 rw [h.2 l, take_eg hi, List.map_append, List.mem_append]
 constructor
 ·exact .inl
 ·rintro (q | q)
  ·exact q
  ·simp at q; subst q; exact g
theorem hinv_y {v : AV} {n : Int} (h : HInv K i X) (hi : i < K.length) (g : ¬ (eg K i).2.1 ∈ (K.take i).map (·.2.1)) : HInv K (i + 1) (X ++ [(v, ((eg K i).2.1, n))]) := by
 refine ⟨?_, fun l => ?_⟩
 ·rw [List.map_append, List.nodup_append]
  refine ⟨h.1, by simp, fun a ha b hb e => ?_⟩
  simp at hb
  subst hb
  exact g ((h.2 _).1 (e ▸ ha))
 ·rw [List.map_append, List.mem_append, h.2 l, take_eg hi, List.map_append, List.mem_append]
  rfl
theorem sn_t (h : (eg K i).2.1 ∈ (K.take j).map (·.2.1)) {sn : Bool} (hsn : sn = true ↔ (eg K i).2.1 ∈ (K.take j).map (·.2.1)) : true = true ↔ (eg K i).2.1 ∈ (K.take (j + 1)).map (·.2.1) := by
 refine ⟨fun _ => ?_, fun _ => rfl⟩
 rw [List.take_add_one, List.map_append]
 exact List.mem_append_left _ h
theorem sn_f {sn : Bool} (hj : j < K.length) (hs : sn = false) (hsn : sn = true ↔ (eg K i).2.1 ∈ (K.take j).map (·.2.1)) : decide ((eg K i).2.1 = (eg K j).2.1) = true ↔ (eg K i).2.1 ∈ (K.take (j + 1)).map (·.2.1) := by
 have hn : ¬ (eg K i).2.1 ∈ (K.take j).map (·.2.1) := fun q => by have := hsn.2 q; rw [hs] at this; cases this
 rw [take_eg hj, List.map_append, List.mem_append, decide_eq_true_eq]
 constructor
 ·intro e; right; simp [e]
 ·rintro (q | q)
  ·exact absurd q hn
  ·simpa using q
theorem hinv_at {x : El} (h : HInv K i X) (hl : K.length = V.length) (hx : x ∈ X) (hi : i ≤ V.length := by omega) : ∃ j, j < V.length ∧ x.2.1 = (eg K j).2.1 := by
 have := (h.2 _).1 (List.mem_map.2 ⟨x, hx, rfl⟩)
 obtain ⟨y, hy, e⟩ := List.mem_map.1 this
 obtain ⟨j, hj⟩ := List.getElem?_of_mem (List.mem_of_mem_take hy)
 obtain ⟨hjl, hje⟩ := List.getElem?_eq_some_iff.1 hj
 refine ⟨j, by omega, ?_⟩
 rw [← e]
 unfold eg
 rw [List.getD_eq_getElem?_getD, hj]; rfl
theorem lin_snoc0 {hs : HSt} {x : El} (h : ∀ y ∈ X, LIn hs y.2.1 y.1) (g : LIn hs x.2.1 x.1) : ∀ y ∈ X ++ [(x.1, (x.2.1, (0 : Int)))], LIn hs y.2.1 y.1 := by
 intro y hy
 rcases List.mem_append.1 hy with hy | hy
 ·exact h y hy
 ·simp at hy; subst hy; exact g
theorem ord_nd {e : Nat} {P : List PE} (h : (X.map (·.2.1)).Nodup) (g : OrdR (P2 X) e P) : P.Perm (P2 X) ∧ Srt P := by
 have hn : ((P2 X).map (·.1)).Nodup := by unfold P2; rw [List.map_map]; exact h
 rcases g with ⟨_, _, h3⟩ | ⟨_, h2, h3⟩
 ·exact absurd hn h3
 ·exact ⟨h2, h3⟩
def wvE (f : El → Int) (g : Nat) (W : List El) : List El := (W.take g).map (fun x => (x.1, (x.2.1, f x))) ++ W.drop g
theorem wvE_len {f : El → Int} {g : Nat} : (wvE f g W).length = W.length := by
 unfold wvE
 rw [List.length_append, List.length_map, List.length_take, List.length_drop]; omega
theorem wvE_at {f : El → Int} {g : Nat} (h : g < W.length) : eg (wvE f g W) g = eg W g := by
 unfold wvE eg
 rw [List.getD_eq_getElem?_getD, List.getD_eq_getElem?_getD, List.getElem?_append_right (by rw [List.length_map, List.length_take]; omega), List.length_map, List.length_take, List.getElem?_drop]
 congr 2
 omega
theorem wvE_f0 {f : El → Int} {g : Nat} (h : g < W.length) : (cE (wvE f g W))[(0 + g) * 2 + 0]? = some (eg W g).1 := by
 have := cE_f0 (V := wvE f g W) (i := g) (by rw [wvE_len]; exact h)
 rw [wvE_at h] at this
 exact this
theorem wvE_le {f : El → Int} {g : Nat} (h : g < W.length) : Nat.ble ((0 + g) * 2 + 1 + 1) (cE (wvE f g W)).length = true := by
 rw [cE_len, wvE_len]
 exact Nat.ble_eq.mpr zy
theorem cE_set : ∀ (L : List El) (g : Nat) (n : Int) (x : El), L[g]? = some x → (cE L).set (g * 2 + 1) (.int .i64 n) = cE (L.set g (x.1, (x.2.1, n)))
 | [], g, n, x, h => by simp at h
 | y :: L, 0, n, x, h => by simp at h; subst h; rfl
 | y :: L, g + 1, n, x, h => by
  have := cE_set L g n x (by simpa using h)
  rw [List.set_cons_succ, show (g + 1) * 2 + 1 = (g * 2 + 1) + 1 + 1 by omega]
  show (y.1 :: AV.int .i64 y.2.2 :: cE L).set ((g * 2 + 1) + 1 + 1) _ = y.1 :: AV.int .i64 y.2.2 :: cE _
  rw [List.set_cons_succ, List.set_cons_succ, this]
theorem wvE_step {f : El → Int} {g : Nat} (h : g < W.length) : (wvE f g W).set g ((eg W g).1, ((eg W g).2.1, f (eg W g))) = wvE f (g + 1) W := by
 have ed : W.drop g = eg W g :: W.drop (g + 1) := by
  rw [List.drop_eq_getElem_cons h]
  congr 1
  unfold eg
  rw [List.getD_eq_getElem?_getD, List.getElem?_eq_getElem h]; rfl
 unfold wvE
 rw [take_eg h, List.map_append, ed, List.set_append_right _ _ (by rw [List.length_map, List.length_take]; omega), List.length_map, List.length_take, show g - min g W.length = 0 by omega, List.append_assoc]
 rfl
theorem wvE_lay {f : El → Int} {g : Nat} (h : g < W.length) : layL (cE (wvE f g W)) ((0 + g) * 2 + 1) (AV.int .i64 (f (eg W g))).cells = cE (wvE f (g + 1) W) := by
 have hx : (wvE f g W)[g]? = some (eg W g) := by
  rw [← wvE_at (f := f) h]
  unfold eg
  rw [List.getD_eq_getElem?_getD, List.getElem?_eq_getElem (by rw [wvE_len]; exact h)]; rfl
 rw [cells_cell rfl, lay_set _ _ _ (by rw [cE_len, wvE_len]; omega), Nat.zero_add, cE_set _ _ _ _ hx, wvE_step h]
theorem wvE_all {f : El → Int} : wvE f W.length W = W.map fun x => (x.1, (x.2.1, f x)) := by
 unfold wvE
 rw [List.take_length, List.drop_length, List.append_nil]
theorem wvE_lin {hs : HSt} {f : El → Int} (h : ∀ x ∈ W, LIn hs x.2.1 x.1) : ∀ x ∈ wvE f W.length W, LIn hs x.2.1 x.1 := by
 intro x hx
 rw [wvE_all] at hx
 obtain ⟨y, hy, rfl⟩ := List.mem_map.1 hx
 exact h y hy
theorem wvE_ebd {op : List Nat} (h : EBd W) (g : ∀ l, I64 (toldM op (nlL K V l)).1) : EBd (wvE (fun x : El => (toldM op (nlL K V x.2.1)).1) W.length W) := by
 rw [wvE_all]
 refine ⟨by rw [List.length_map]; exact h.1, fun x hx => ?_⟩
 obtain ⟨y, hy, rfl⟩ := List.mem_map.1 hx
 exact ⟨(h.2 y hy).1, g _⟩
end
theorem p2_nth' {W : List El} {i : Nat} (h : i < W.length) : (eg W i).2 ∈ P2 W := List.mem_of_getElem? (p2_eg h)
def GrpR (op : List Nat) (K V : List El) (e : Nat) (W : List PE) : Prop :=
 ((∃ j, j < V.length ∧ (toldM op (nlL K V (eg K j).2.1)).2 ≠ 0 ∧ e = (toldM op (nlL K V (eg K j).2.1)).2) ∧ W = []) ∨
 ((∀ j, j < V.length → (toldM op (nlL K V (eg K j).2.1)).2 = 0) ∧ e = 0 ∧ Srt W ∧ ∀ p, p ∈ W ↔ ∃ j, j < V.length ∧ p = ((eg K j).2.1, (toldM op (nlL K V (eg K j).2.1)).1))
theorem grp_fin {op : List Nat} {K V X W : List El} (hl : K.length = V.length) (h : HInv K V.length X) (hp : (P2 W).Perm (P2 X)) (hS : Srt (P2 W)) (hz : ∀ g, g < W.length → (toldM op (nlL K V (eg W g).2.1)).2 = 0) : GrpR op K V 0 (P2 (wvE (fun x : El => (toldM op (nlL K V x.2.1)).1) W.length W)) := by
 have hm : ∀ l, l ∈ W.map (·.2.1) ↔ ∃ j, j < V.length ∧ (eg K j).2.1 = l := by
  intro l
  have e1 : l ∈ W.map (·.2.1) ↔ l ∈ X.map (·.2.1) := by
   have := (hp.map (·.1)).mem_iff (a := l)
   unfold P2 at this
   rw [List.map_map, List.map_map] at this
   exact this
  rw [e1, h.2 l, ← hl, List.take_length]
  constructor
  ·intro q
   obtain ⟨y, hy, e⟩ := List.mem_map.1 q
   obtain ⟨j, hj⟩ := List.getElem?_of_mem hy
   refine ⟨j, (List.getElem?_eq_some_iff.1 hj).1, ?_⟩
   rw [← e]
   unfold eg
   rw [List.getD_eq_getElem?_getD, hj]; rfl
  ·rintro ⟨j, hj, rfl⟩
   exact List.mem_map.2 ⟨eg K j, eg_mem hj, rfl⟩
 have hg : ∀ j, j < V.length → ∃ g, g < W.length ∧ (eg W g).2.1 = (eg K j).2.1 := by
  intro j hj
  obtain ⟨y, hy, e⟩ := List.mem_map.1 ((hm _).2 ⟨j, hj, rfl⟩)
  obtain ⟨g, hg⟩ := List.getElem?_of_mem hy
  refine ⟨g, (List.getElem?_eq_some_iff.1 hg).1, ?_⟩
  rw [← e]
  unfold eg
  rw [List.getD_eq_getElem?_getD, hg]; rfl
 have e2 : P2 (wvE (fun x : El => (toldM op (nlL K V x.2.1)).1) W.length W) = (P2 W).map fun p => (p.1, (toldM op (nlL K V p.1)).1) := by
  rw [wvE_all]
  unfold P2
  rw [List.map_map, List.map_map]; rfl
 refine .inr ⟨fun j hj => ?_, rfl, ?_, fun p => ?_⟩
 ·obtain ⟨g, hg1, hg2⟩ := hg j hj
  rw [← hg2]
  exact hz g hg1
 ·rw [e2]
  unfold Srt
  rw [List.pairwise_map]
  exact hS
 ·rw [e2, List.mem_map]
  constructor
  ·rintro ⟨q, hq, rfl⟩
   have hq' : q.1 ∈ W.map (·.2.1) := by
    obtain ⟨y, hy, rfl⟩ := List.mem_map.1 hq
    exact List.mem_map.2 ⟨y, hy, rfl⟩
   obtain ⟨j, hj, e⟩ := (hm _).1 hq'
   exact ⟨j, hj, by rw [e]⟩
  ·rintro ⟨j, hj, rfl⟩
   obtain ⟨g, hg1, hg2⟩ := hg j hj
   exact ⟨(eg W g).2, p2_nth' hg1, by rw [hg2]⟩

theorem groups_spec (hs : HSt) (hro : ∀ e ∈ hs, e.w = false) (V : List El) (v : AV) (hV : EIn hs V v) (hB : EBd V) (K : List El) (vk : AV) (hKk : TIn hs K vk) (hKl : K.length = V.length) (hKb : ∀ x ∈ K, LBd x.2.1) (op : List Nat) (ho : Bytes op) (hop : agB op = true) (hVl : V.length ≤ 256) : Spec tab 65 [.str op, vk, v] [] hs (fun u D => ∃ (e : Nat) (W : List El) (w : AV), GrpR op K V e (P2 W) ∧ VRes hs W w D ∧ u = .tuple [w, .int .i64 (e : Nat)]) := by
 have hBl := hB.1
 refine Spec.en (ftg 65 Tryz.func65) rfl (m := 102) rfl (rs := [.tmp 6, .tmp 7]) rfl (st := [(0, .str op), (1, vk), (2, v)]) rfl rfl (fun _ => rfl) (fun E => zr (za rfl (za (zi 0) (zk (zr (za rfl (zk (W.seq (zr (za (zi 0) (zk (W.block (W.loop_ind4 (fun (i : Nat) (X : List El) (u : AV) (hp : HSt) => [(0, .str op), (1, vk), (2, v), (8, u), (9, .int .i64 ((i : Nat) : Int))]) (fun (i : Nat) (X : List El) (u : AV) (hp : HSt) => (hs ++ hp)) (fun (i : Nat) (X : List El) (u : AV) (hp : HSt) => i ≤ V.length ∧ HInv K i X ∧ X.length ≤ i ∧ OwnE 2 (cE X) X.length u hp ∧ (∀ x ∈ X, LIn hs x.2.1 x.1) ∧ EBd X) (fun (i : Nat) (X : List El) (u : AV) (hp : HSt) => V.length - i) (0) ([]) (.nils) ([]) ⟨Nat.zero_le _, HInv.nil, Nat.zero_le _, OwnE.nil 2, fun x hx => by simp at hx, ebd_nil⟩ zv (by rw [List.append_nil]; exact SubH.refl _) (fun i X u hp hI0 ih0 => ?_))))))))))))))
 obtain ⟨h1, hHI, h3, hO, hL, hXB⟩ := hI0
 refine W.seq (zr (zm rfl (zm rfl (zq (Q.len ud22 rfl (EIn.len hV)) (zq (Q.bin rfl rfl rfl (bvl ltn)) (zk (W.cD rfl (fun hc22 => ?_) (fun hc22 => ?_))))))))
 ·obtain ⟨bk, szk, exk, rfl, wk, mk_⟩ := TIn.full hKk zy
  refine zw (W.seq (W.block (zr (za rfl (zk (W.seq (zr (za (zi 0) (zk (W.block (W.loop_ind2 (fun (j : Nat) (sn : Bool) => [(0, .str op), (1, .slice bk 0 K.length 1), (2, v), (8, u), (9, .int .i64 ((i : Nat) : Int)), (10, .bool sn), (11, .int .i64 ((j : Nat) : Int))]) (fun (j : Nat) (sn : Bool) => (hs ++ hp)) (fun (j : Nat) (sn : Bool) => j ≤ i ∧ (sn = true ↔ (eg K i).2.1 ∈ (K.take j).map (·.2.1))) (fun (j : Nat) (sn : Bool) => i - j) (0) (false) ⟨Nat.zero_le _, by simp⟩ zv (SubH.refl _) (fun j sn hI1 ih1 => ?_))))))))))))
  obtain ⟨h4, hsn⟩ := hI1
  refine W.seq (zr (zm rfl (zm rfl (zq (Q.bin rfl rfl rfl (bvl ltn)) (zk (W.cD rfl (fun hc27 => ?_) (fun hc27 => ?_)))))))
  ·refine zw (W.seq (W.block (W.regT (by kernel_rfl) (zm rfl (zm rfl (WO.split (d := 31) rfl (fun hc31 => ?_) (fun hc31 => ?_)))))))
   ·refine zg rfl rfl (zg rfl rfl (zg rfl rfl (zg rfl rfl (zg rfl rfl (zg rfl rfl (zg rfl rfl (zg rfl rfl (zg rfl rfl (zq (Q.pT rfl rfl) (za rfl (WO.nil (End.KB (End.K (W.sub (zc 10 rfl (zc 0 rfl (zc 1 rfl (zc 2 rfl (zc 8 rfl (zc 9 rfl (zc 11 rfl zzn))))))) (W.reg (zm rfl (zq (Q.bin rfl (zi 1) rfl zp) (za rfl (WO.nil (End.KL (W.sub zv (W.sH (SubH.refl _) (ih1 (j + 1) (true) ?_ ?_)))))))))))))))))))))))
    ·exact ⟨by omega, sn_t (by simp_all) hsn⟩
    exact zo
   refine WO.gT rfl rfl (zm rfl (WO.gT rfl rfl (zm rfl (WO.gT rfl rfl (zq (Q.iS ud90 sz33 rfl rfl zo) (WO.gT rfl rfl (zq (Q.l1 rfl (List.mem_append_left _ mk_) ag33 (kread zo)) (WO.gT rfl rfl (zm rfl (WO.gT rfl rfl (zm rfl (WO.gT rfl rfl (zq (Q.iS ud90 sz33 rfl rfl zo) (WO.gT rfl rfl (zq (Q.l1 rfl (List.mem_append_left _ mk_) ag33 (kread zo)) (WO.gT rfl rfl (WO.cV rfl (oLc rfl (oLc rfl oz)) rfl (rsame_spec hs hro _ _ _ _ (hKk.2 _ (eg_mem zy)) (hKk.2 _ (eg_mem zy)) (hKb _ (eg_mem zy)) (hKb _ (eg_mem zy))) (SubR.appl (SubR.s hro)) rfl (zq (Q.pF rfl rfl) (za rfl (WO.nil (End.KB (End.K (W.sub (zc 10 rfl (zc 0 rfl (zc 1 rfl (zc 2 rfl (zc 8 rfl (zc 9 rfl (zc 11 rfl zzn))))))) (W.reg ?_))))))))))))))))))))))))
   refine zm rfl (zq (Q.bin rfl (zi 1) rfl zp) (za rfl (WO.nil (End.KL (W.sub zv (W.sH (SubH.refl _) (ih1 (j + 1) (_) ?_ ?_)))))))
   ·exact ⟨by omega, sn_f zy (by simp_all) hsn⟩
   exact zo
  refine W.exit (End.Kx (End.Lx (End.Bh (End.K (zr (zm rfl (zq (Q.not rfl rfl) (zk (W.condS rfl (fun hc43 => ?_) (fun hc43 => ?_))))))))))
  ·refine W.reg (zm rfl (zm rfl (zm rfl (zq (Q.iS ud90 sz33 rfl rfl zo) (zq (Q.l1 rfl (List.mem_append_left _ mk_) ag33 (kread zo)) (zq (Q.build pl35 (opc rfl opn) rfl (cs := [_, _]) (fillE1k (LIn.cell (hKk.2 _ (eg_mem zy))))) (WO.bslice ud22 sz35 zr35 rfl (opc rfl opn) rfl (cs := [_, _]) rfl (and_tt (LIn.cell (hKk.2 _ (eg_mem zy))) rfl) rfl (fun b1 => WO.appAny (A := ([] ++ hs)) ap22_22 hO rfl rfl (Src.slice (zt 0 rfl) rfl) rfl zy (by decide) (SubH.of_sublist (List.sublist_cons_self _ _)) rfl (fun v51 hp51 hO51 => za rfl (WO.nil (End.KB (End.K (W.sub (zc 8 rfl (zc 0 rfl (zc 1 rfl (zc 2 rfl (zc 9 rfl zzn))))) (W.reg (zm rfl (zq (Q.bin rfl (zi 1) rfl zp) (za rfl (WO.nil (End.KL (W.sub zv (W.sH gc (ih0 (i + 1) (X ++ [((eg K i).1, ((eg K i).2.1, 0))]) (v51) (hp51) ?_ ?_))))))))))))))))))))))
   ·exact ⟨by omega, hinv_y hHI zy (fun q => by have := hsn.2 (by rw [show j = i by omega]; exact q); simp_all), by simp; omega, own_snoc hO51, lin_snoc0 hL (hKk.2 _ (eg_mem zy)), ebd_put hXB zy ⟨hKb _ (eg_mem zy), i64_0⟩⟩
   exact zo
  refine W.skip (End.KB (End.K (W.reg (zm rfl (zq (Q.bin rfl (zi 1) rfl zp) (za rfl (WO.nil (End.KL (W.sub zv (W.sH gc (ih0 (i + 1) (X) (u) (hp) ?_ ?_)))))))))))
  ·exact ⟨by omega, hinv_n hHI zy (by have := hsn.1 (by simp_all); rw [show j = i by omega] at this; exact this), by omega, hO, hL, hXB⟩
  exact zo
 have hHI' : HInv K V.length X := (show i = V.length by omega) ▸ hHI
 refine W.exit (End.Kx (End.Lx (End.Bh (End.K (zr (zm rfl (WO.call0 rfl (oLc rfl oz) rfl (rord_spec (ro hp ++ hs) (ro_app hro) X u (EIn.ownh hO hL) hXB) (SubR.mix gc hro) rfl (fun v54 D54 hP54 => ?_))))))))
 obtain ⟨e54, W54, w54, hR54, hM54, hO54, rfl⟩ := hP54
 obtain ⟨hW1, hW2⟩ := ord_nd hHI.1 hR54
 have hWL : ∀ x ∈ W54, LIn hs x.2.1 x.1 := fun x hx => hL x (hM54 x hx)
 have hWB : EBd W54 := ord_ebd hR54 hM54 hXB
 have hWn : W54.length ≤ V.length := (by have := hW1.length_eq; rw [p2_ln, p2_ln] at this; omega)
 have hWk : ∀ g, g < W54.length → ∃ j, j < V.length ∧ (eg W54 g).2.1 = (eg K j).2.1 := fun g hg => hinv_at hHI hKl (hM54 _ (eg_mem hg))
 refine WO.subH (hs' := (hs ++ hp ++ D54)) (SubH.op (perm_tail (N := []) (G := D54) (K := []) (X := hs ++ hp))) (zm rfl (zq (Q.extract rfl rfl) (zq (Q.extract rfl rfl) (za rfl (za rfl (zk (W.seq (zr (za (zi 0) (zk (W.block (W.loop_ind2 (fun (g : Nat) (hw : HSt) => [(0, .str op), (1, vk), (2, v), (12, w54), (14, .int .i64 ((g : Nat) : Int))]) (fun (g : Nat) (hw : HSt) => (hs ++ hw)) (fun (g : Nat) (hw : HSt) => g ≤ W54.length ∧ OwnE 2 (cE (wvE (fun x : El => (toldM op (nlL K V x.2.1)).1) g W54)) W54.length w54 hw ∧ ∀ g', g' < g → (toldM op (nlL K V (eg W54 g').2.1)).2 = 0) (fun (g : Nat) (hw : HSt) => W54.length - g) (0) (D54) ⟨Nat.zero_le _, hO54, fun g' h => absurd h (Nat.not_lt_zero _)⟩ zv gc (fun g hw hI2 ih2 => ?_)))))))))))))
 obtain ⟨h5, hOw, hz⟩ := hI2
 refine W.seq (zr (zm rfl (zm rfl (zq (Q.len ud22 rfl (OwnE.len hOw)) (zq (Q.bin rfl rfl rfl (bvl ltn)) (zk (W.cD rfl (fun hc60 => ?_) (fun hc60 => ?_))))))))
 ·obtain ⟨bw, exw, rfl, hhw⟩ := OwnE.full hOw zy
  refine W.sH (hs' := ⟨bw, ⟨2, exw, cE (wvE (fun x : El => (toldM op (nlL K V x.2.1)).1) (g) W54)⟩, true⟩ :: hs) (by rw [hhw]; exact gc) (zw (W.seq (W.block (zr (za rfl (zk (W.seq (zr (za (zi 0) (zk (W.block (W.loop_ind3 (fun (i2 : Nat) (ul : AV) (hq : HSt) => [(0, .str op), (1, vk), (2, v), (12, .slice bw 0 W54.length 2), (14, .int .i64 ((g : Nat) : Int)), (15, ul), (16, .int .i64 ((i2 : Nat) : Int))]) (fun (i2 : Nat) (ul : AV) (hq : HSt) => (⟨bw, ⟨2, exw, cE (wvE (fun x : El => (toldM op (nlL K V x.2.1)).1) (g) W54)⟩, true⟩ :: (hs ++ hq))) (fun (i2 : Nat) (ul : AV) (hq : HSt) => i2 ≤ V.length ∧ Own 1 ((nlN K V (eg W54 g).2.1 i2).map (AV.int .i64)) (nlN K V (eg W54 g).2.1 i2).length ul hq ∧ (nlN K V (eg W54 g).2.1 i2).length ≤ i2) (fun (i2 : Nat) (ul : AV) (hq : HSt) => V.length - i2) (0) (.nils) ([]) ⟨Nat.zero_le _, Own.nil 1, Nat.zero_le _⟩ zv (by rw [List.append_nil]; exact SubH.refl _) (fun i2 ul hq hI3 ih3 => ?_)))))))))))))
  obtain ⟨h6, hOl, h7⟩ := hI3
  refine W.seq (zr (zm rfl (zm rfl (zq (Q.len ud22 rfl (EIn.len hV)) (zq (Q.bin rfl rfl rfl (bvl ltn)) (zk (W.cD rfl (fun hc66 => ?_) (fun hc66 => ?_))))))))
  ·obtain ⟨bk, szk, exk, rfl, wk, mk_⟩ := TIn.full hKk zy
   obtain ⟨bv, szv, exv, rfl, wv, mv⟩ := EIn.full hV zy
   refine zw (W.seq (W.block (W.seq (W.regT (by kernel_rfl) (zm rfl (zm rfl (zq (Q.iS ud90 sz33 rfl rfl zo) (zq (Q.l1 rfl (List.mem_cons_of_mem _ (List.mem_append_left _ mk_)) ag33 (kread zo)) (zm rfl (zm rfl (zq (Q.iS ud22 sz35 rfl rfl zo) (zq (Q.fieldAddr fa35_0 rfl rfl) (zq (Q.l1 rfl (zt 0 rfl) ag33 (wvE_f0 zo)) (WO.cV rfl (oLc rfl (oLc rfl oz)) rfl (rsame_spec hs hro _ _ _ _ (hKk.2 _ (eg_mem zy)) (hWL _ (eg_mem zy)) (hKb _ (eg_mem zy)) (hWB.2 _ (eg_mem zy)).1) (SubR.t (SubR.appl (SubR.s hro))) rfl (zk (W.cD rfl (fun hc78 => ?_) (fun hc78 => ?_)))))))))))))))))
   ·refine W.reg (zm rfl (zm rfl (zm rfl (zq (Q.iS ud22 sz35 rfl rfl zo) (zq (Q.fieldAddr fa35_1 rfl rfl) (zq (Q.l1 rfl (List.mem_cons_of_mem _ (List.mem_append_left _ mv)) ag3 (cE_f1 zo)) (WO.bslice ud89 sz3 zr3 rfl (opc rfl opn) rfl (cs := [_]) rfl rfl rfl (fun b2 => WO.appOwn (e := ⟨b2, _, true⟩) (A := ([_] ++ hs)) ap89_89 hOl rfl rfl rfl rfl ⟨by first | omega | (simp at * <;> omega), by first | omega | (simp at * <;> omega)⟩ (by decide) rfl rfl (fun v86 hp86 hO86 => za rfl (WO.nil (End.KB (End.K (W.sub (zc 15 rfl (zc 0 rfl (zc 1 rfl (zc 2 rfl (zc 12 rfl (zc 14 rfl (zc 16 rfl zzn))))))) (W.reg (zm rfl (zq (Q.bin rfl (zi 1) rfl zp) (za rfl (WO.nil (End.KL (W.sub zv (W.sH gc (ih3 (i2 + 1) (v86) (hp86) ?_ ?_))))))))))))))))))))))
    ·exact ⟨by omega, by rw [nl_y (by simpa using hc78), List.map_append, List.length_append]; exact hO86, by rw [nl_y (by simpa using hc78), List.length_append]; simp; omega⟩
    exact zo
   refine W.skip (End.KB (End.K (W.sub (zc 0 rfl (zc 1 rfl (zc 2 rfl (zc 12 rfl (zc 14 rfl (zc 15 rfl (zc 16 rfl zzn))))))) (W.reg (zm rfl (zq (Q.bin rfl (zi 1) rfl zp) (za rfl (WO.nil (End.KL (W.sub zv (W.sH gc (ih3 (i2 + 1) (ul) (hq) ?_ ?_))))))))))))
   ·exact ⟨by omega, by rw [nl_n (by simpa using hc78)]; exact hOl, by rw [nl_n (by simpa using hc78)]; omega⟩
   exact zo
  obtain rfl : i2 = V.length := zy
  obtain ⟨jk, hj1, hj2⟩ := hWk g zy
  have hnp : 0 < (nlL K V (eg W54 g).2.1).length := nl_pos hj1 hj2.symm
  have hnl : (nlL K V (eg W54 g).2.1).length ≤ 256 := Nat.le_trans h7 hVl
  obtain ⟨bq, exq, rfl, hhq⟩ := Own.full hOl hnp
  refine W.exit (End.Kx (End.Lx (End.Bh (End.K (zr (zm rfl (zm rfl (WO.cV rfl (oLc rfl (oLc rfl oz)) rfl (told_spec op ho hop (ro hq) ro_w (nlL K V (eg W54 g).2.1) bq 1 exq ⟨false, by rw [hhq]; exact List.mem_cons_self⟩ hnp hnl) (SubR.ro gc) rfl (zm rfl (zq (Q.extract rfl rfl) (zq (Q.extract rfl rfl) (za rfl (za rfl (zk (W.seq (zr (zm rfl (zq (Q.bin rfl (zi 0) rfl (bv_neq ne_nat)) (zk (W.cD rfl (fun hc94 => ?_) (fun hc94 => ?_)))))))))))))))))))))
  ·refine zr (zm rfl (za rfl (za rfl (zk (W.sub (zc 7 rfl (zc 6 rfl zzn)) (W.ret ?_))))))
   refine End.Kr (End.Br (End.Kr (End.Lr (End.Br (End.Kr (End.ret (ResL.tmp rfl (z1 rfl)) (hs' := []) ⟨_, [], .nils, .inl ⟨⟨jk, hj1, by rw [← hj2]; omega, by rw [← hj2]⟩, rfl⟩, VRes.nil, rfl⟩ no_wl (SubH.nil _)))))))
  refine zw (W.sub (zc 17 rfl (zc 0 rfl (zc 1 rfl (zc 2 rfl (zc 12 rfl (zc 14 rfl zzn)))))) (W.reg (zm rfl (zm rfl (zm rfl (zq (Q.iS ud22 sz35 rfl rfl zo) (zq (Q.fieldAddr fa35_1 rfl rfl) (WO.store sz3 rfl rfl (i := 0) rfl (ck1 rfl (wvE_le zy)) (wvE_lay zy) (hs' := _ :: _) rfl (WO.nil (End.KB (End.K (W.reg (zm rfl (zq (Q.bin rfl (zi 1) rfl zp) (za rfl (WO.nil (End.KL (W.sub zv (W.sH gc (ih2 (g + 1) ([⟨bw, ⟨2, exw, cE (wvE (fun x : El => (toldM op (nlL K V x.2.1)).1) (g + 1) W54)⟩, true⟩]) ?_ ?_))))))))))))))))))))
  ·exact ⟨by omega, .inr ⟨bw, exw, rfl, rfl, by rw [cE_len, wvE_len]⟩, fun g' h => by rcases Nat.lt_or_ge g' g with q | q; exact hz g' q; obtain rfl : g' = g := zy; omega⟩
  exact zo
 refine W.exit (End.Kx (End.Lx (End.Bh (End.K (zr (zm rfl (za rfl (za (zi 0) (zk (W.ret ?_))))))))))
 refine End.ret (ResL.tmp rfl (z1 rfl)) (hs' := hw) ⟨0, wvE (fun x : El => (toldM op (nlL K V x.2.1)).1) W54.length W54, w54, grp_fin hKl hHI' hW1 hW2 (fun g' hg => hz g' zy), ⟨hw, [], (List.append_nil _).symm, (by rw [wvE_len]; exact (show g = W54.length by omega) ▸ hOw), fun x hx => by rw [List.append_nil]; exact wvE_lin hWL x hx, no_wl, wvE_ebd hWB (fun l => told_i64 (nl_i64 hB) (Nat.le_trans nl_le hVl))⟩, rfl⟩ (OwnE.w hOw) gc
end Go.Proofs.YtmblgaehfjheeaaGreat.Ev
