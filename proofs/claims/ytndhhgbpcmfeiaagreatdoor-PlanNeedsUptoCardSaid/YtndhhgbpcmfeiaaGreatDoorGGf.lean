/- Chapter 20, walks: Trim. -/
import Derived.Test.YtndhhgbpcmfeiaaGreatDoorGGe
namespace Go.Proofs.YtndhhgbpcmfeiaaGreatDoor.Ev
open Go.RowKit
set_option linter.unusedVariables false
set_option linter.unusedSimpArgs false
set_option maxRecDepth 100000
set_option maxHeartbeats 1000000
section
variable {L X : List IE} {hs hl Dm Dn Da D : HSt} {i : Nat} {A : List Int} {d : ND} {vm vn va v : AV}
theorem to_lay {x : Nat} (h : i < L.length) (hX : x = posN L i) (hn : nb L i = true) : layL (cN (toF L i) L.length) ((0 + i) * 1) (AV.int .i64 ((x : Nat) : Int)).cells = cN (toF L (i + 1)) L.length := by
  rw [cN_lay h, hX]; exact to_y hn
theorem rin_to {b n : Nat} {f : Nat → Int} : RIn (ro [⟨b, ⟨1, true, cN f n⟩, true⟩] ++ hs) 1 ((List.range n).map f).length (cA ((List.range n).map f)) (.slice b 0 n 1) := by
  refine .inr ⟨b, 1, true, by rw [List.length_map, List.length_range], ⟨false, ?_⟩, by rw [cA_len]⟩
  rw [← cN_row]
  exact List.mem_cons_self
theorem trim_mv (hok : okI L i = true) (hi : i < L.length) (hn : nb L i = true) (h : OwnE 1 (cA (mvA ((List.range L.length).map (toF L (i + 1))) (ei L i).ars)) (ei L i).ars.length v D) : OwnE 1 (cA (trimA L (ei L i).ars)) (trimA L (ei L i).ars).length v D := by
  rw [mv_trim hok hi hn] at h
  rw [trimA_len]; exact h
theorem trim_snoc (hX : ∀ x ∈ X, IOK hl x ∧ x.nk = 0) (hm : OwnE 3 (cM d.ms) d.ms.length vm Dm) (hn : OwnE 1 (cS d.nm) d.nm.length vn Dn) (ha : OwnE 1 (cA A) A.length va Da) (hD : D = Dm ++ Dn) : ∀ x ∈ X ++ [⟨d, A, 0, vm, vn, .nils, va⟩], IOK (hl ++ D ++ Da) x ∧ x.nk = 0 := by
  intro x hx
  rcases List.mem_append.1 hx with hx | hx
  · obtain ⟨h1, h2⟩ := hX x hx
    exact ⟨h1.mono fun b o q => q.appl'.appl', h2⟩
  · rw [List.mem_singleton.1 hx, hD]
    exact ⟨⟨(RIn.own hm).appl.app.appl, (RIn.own hn).app.app.appl, .inl ⟨rfl, rfl⟩, (RIn.own ha).app⟩, rfl⟩
theorem trim_bd (hX : ∀ x ∈ X, IBd x) (hd : IBd (ei L i)) (hi : i < 1048576) (hok : okI L i = true) : ∀ x ∈ X ++ [⟨(ei L i).d, trimA L (ei L i).ars, 0, vm, vn, .nils, va⟩], IBd x := by
  intro x hx
  rcases List.mem_append.1 hx with hx | hx
  · exact hX x hx
  · rw [List.mem_singleton.1 hx]
    refine ⟨hd.d, by rw [trimA_len]; exact hd.a, fun n hn => ?_⟩
    obtain ⟨a, ha, rfl⟩ := List.mem_map.1 hn
    have := pos_le (L := L) (j := a.toNat)
    have := ok_ar hok ha
    unfold I64
    omega
theorem fill12 (h : va.isCell = true) : fillA (fun i => [(0, 11), (11, 1)][i]?) [.int .i64 0, .str [], .int .i64 0, .nils, .int .i64 0, .int .i64 0, .int .i64 0, .nils, .int .i64 0, .bool false, .nils, .nils] [(0, .agg (d.c vm vn .nils)), (1, va)] = some (d.c vm vn .nils ++ [va]) := by
  simp only [fillA, cells_cell h]; rfl
theorem bq12o (hm : beq0 vm vm = true) (hn : beq0 vn vn = true) (ha : beq0 va va = true) : (AV.agg (d.c vm vn .nils ++ [va])).beq (AV.agg (d.c vm vn .nils ++ [va])) = true :=
  beqL_self (by simp only [ND.c, nodeC, List.cons_append, List.nil_append, List.all_cons, List.all_nil, hm, hn, ha, bi_int, bi_str, bi_bool, Bool.and_true]; rfl)
theorem all12 (hm : vm.isCell = true) (hn : vn.isCell = true) (ha : va.isCell = true) : ((d.c vm vn .nils ++ [va]).all AV.isCell) = true := by
  simp only [ND.c, nodeC, List.cons_append, List.nil_append, List.all_cons, List.all_nil, hm, hn, ha, Bool.and_true, Bool.true_and]
  rfl
end
theorem ag4 : tab.isAgg 4 = some false := by kernel_rfl
theorem ap30_30 : AP tab 30 30 = some 12 := by kernel_rfl
theorem ms40 : MS tab 40 = some (1, [.int .i64 0]) := by kernel_rfl
theorem ms52 : MS tab 52 = some (1, [.bool false]) := by kernel_rfl
theorem pl42 : PL tab 42 [.int .i64 0, .str [], .int .i64 0, .nils, .int .i64 0, .int .i64 0, .int .i64 0, .nils, .int .i64 0, .bool false, .nils, .nils] [(0, 11), (11, 1)] = true := by kernel_rfl
theorem sz4 : tab.size 4 = some 1 := by kernel_rfl
theorem ud52 : tab.und 52 = some (.slice 4) := by kernel_rfl
theorem zr42 : tab.zero 42 = some (.agg [.int .i64 0, .str [], .int .i64 0, .nils, .int .i64 0, .int .i64 0, .int .i64 0, .nils, .int .i64 0, .bool false, .nils, .nils]) := by kernel_rfl
theorem trim_spec (hs : HSt) (hro : ∀ e ∈ hs, e.w = false) (L : List IE) (v : AV) (hV : IIn hs L v) (hB : ILB L) : Spec tab 20 [v] [] hs (fun r D => ∃ (e : Nat) (Y : List IE) (w : AV), TrimR L e (D2 Y) ∧ IOwn Y w D ∧ r = .tuple [w, .int .i64 ((e : Nat) : Int)]) := by
  have hBl := hB.1
  refine Spec.enter' (ft_get 20 Tryz.func20) rfl (m := 94) rfl (rs := [.tmp 2, .tmp 3]) rfl (st := [(0, v)]) rfl rfl (fun _ => rfl) (fun E => ?_)
  refine W.seq ?_
  refine W.reg ?_
  refine WO.q (Q.assign rfl) rfl ?_
  refine WO.q (Q.assign (oc (v := .int .i64 ((0 : Nat) : Int)) rfl)) rfl ?_
  refine WO.nil ?_
  refine End.K ?_
  refine W.seq ?_
  refine W.seq ?_
  refine W.reg ?_
  refine WO.q (Q.move rfl) rfl ?_
  refine WO.callV rfl (oLs_cons rfl oLs_nil) rfl (chk_spec hs hro L _ hV hB) (SubR.self hro) rfl ?_
  refine WO.q (Q.assign rfl) rfl ?_
  refine WO.nil ?_
  refine End.K ?_
  refine W.seq ?_
  refine W.reg ?_
  refine WO.q (Q.move rfl) rfl ?_
  refine WO.q (Q.bin rfl (oc (v := .int .i64 ((0 : Nat) : Int)) rfl) rfl (bv_neq ne_nat)) rfl ?_
  refine WO.nil ?_
  refine End.K ?_
  refine W.condDS rfl (fun hc17 => ?_) (fun hc17 => ?_)
  · skip -- T
    refine W.seq ?_
    refine W.reg ?_
    refine WO.q (Q.move rfl) rfl ?_
    refine WO.q (Q.assign rfl) rfl ?_
    refine WO.q (Q.assign rfl) rfl ?_
    refine WO.nil ?_
    refine End.K ?_
    refine W.ret ?_
    refine End.K_ret (End.ret (ResL.tmp rfl (ResL.tmp rfl ResL.nil)) (hs' := []) ⟨chkI L, [], .nils, .inl ⟨by omega, rfl, rfl⟩, IOwn.nil, rfl⟩ no_wl (SubH.nil _))
  · skip -- F
    obtain ⟨h0, hL, hok⟩ := chk_ok (L := L) (by omega)
    refine W.skip ?_
    refine End.K ?_
    refine W.seq ?_
    refine W.reg ?_
    refine WO.q (Q.move rfl) rfl ?_
    refine WO.q (Q.len ud30 rfl hV.1.len) rfl ?_
    refine WO.mslice ms52 rfl rfl (by omega) (repl_b _) rfl (fun bn => ?_)
    refine WO.q (Q.assign rfl) rfl ?_
    refine WO.nil ?_
    refine End.K ?_
    refine W.seq ?_
    refine W.reg ?_
    refine WO.q (Q.move rfl) rfl ?_
    refine WO.q (Q.move rfl) rfl ?_
    refine WO.q (Q.len ud30 rfl hV.1.len) rfl ?_
    refine WO.q (Q.bin rfl (oc (v := .int .i64 ((1 : Nat) : Int)) rfl) rfl (bv_sub (wn_sub (by first | omega | (simp at * <;> omega))))) rfl ?_
    refine WO.q (Q.iaddrS ud52 sz4 rfl rfl (by first | omega | (simp at * <;> omega))) rfl ?_
    refine WO.store sz4 rfl rfl (i := 0) rfl (ck1 rfl (cB_le (by omega))) (cB_lay (by omega)) (hs' := _ :: _) rfl ?_
    refine WO.nil ?_
    refine End.K ?_
    refine W.sub (SubS.cons (k := 5) rfl (SubS.cons (k := 0) rfl (SubS.nil _))) ?_
    refine W.seq ?_
    refine W.seq ?_
    refine W.reg ?_
    refine WO.q (Q.move rfl) rfl ?_
    refine WO.q (Q.len ud30 rfl hV.1.len) rfl ?_
    refine WO.q (Q.move (oc (v := .int .i64 ((0 : Nat) : Int)) rfl)) rfl ?_
    refine WO.nil ?_
    refine End.K ?_
    refine W.block ?_
    refine W.loop_ind (fun (t : Nat) => [(0, v), (5, .slice bn 0 L.length 1), (28, .int .i64 ((L.length : Nat) : Int)), (29, .int .i64 ((t : Nat) : Int))]) (fun (t : Nat) => (⟨bn, ⟨1, true, cB (ndF L t) L.length⟩, true⟩ :: hs)) (fun (t : Nat) => t ≤ L.length) (fun (t : Nat) => L.length - t) (0) (Nat.zero_le _) (SubS.cons rfl (SubS.cons rfl (SubS.cons rfl (SubS.cons rfl (SubS.nil _))))) (by rw [← ndF_0]; exact SubH.refl _) (fun t hI0 ih0 => ?_)
    have h1 := hI0
    refine W.seq ?_
    refine W.reg ?_
    refine WO.q (Q.bin rfl rfl rfl (bv_lss lt_nat)) rfl ?_
    refine WO.nil ?_
    refine End.K ?_
    refine W.seq ?_
    refine W.condDS rfl (fun hc30 => ?_) (fun hc30 => ?_)
    · skip -- FL0T
      obtain ⟨bv, szv, exv, rfl, wv, mv⟩ := hV.1.full (by omega)
      have hal := (hB.at (i := L.length - 1 - t) (by omega)).a
      refine W.skip ?_
      refine End.K ?_
      refine W.seq ?_
      refine W.block ?_
      refine W.seq ?_
      refine W.reg ?_
      refine WO.q (Q.move rfl) rfl ?_
      refine WO.q (Q.assign rfl) rfl ?_
      refine WO.nil ?_
      refine End.K ?_
      refine W.seq ?_
      refine W.reg ?_
      refine WO.q (Q.move rfl) rfl ?_
      refine WO.q (Q.len ud30 rfl rfl) rfl ?_
      refine WO.q (Q.bin rfl (oc (v := .int .i64 ((1 : Nat) : Int)) rfl) rfl (bv_sub (wn_sub (by first | omega | (simp at * <;> omega))))) rfl ?_
      refine WO.q (Q.move rfl) rfl ?_
      refine WO.q (Q.bin rfl rfl rfl (bv_sub (wn_sub (by first | omega | (simp at * <;> omega))))) rfl ?_
      refine WO.q (Q.assign rfl) rfl ?_
      refine WO.nil ?_
      refine End.K ?_
      refine W.seq ?_
      refine W.reg ?_
      refine WO.q (Q.move rfl) rfl ?_
      refine WO.q (Q.move rfl) rfl ?_
      refine WO.q (Q.iaddrS ud30 sz42 rfl rfl (by first | omega | (simp at * <;> omega))) rfl ?_
      refine WO.q (Q.fieldAddr fa42_1 rfl rfl) rfl ?_
      refine WO.q (Q.load1 rfl (List.mem_cons_of_mem _ mv) ag40 (cI_f 11 (by first | omega | (simp at * <;> omega)) rfl)) rfl ?_
      refine WO.q (Q.len ud40 rfl (hV.at (by first | omega | (simp at * <;> omega))).a.len) rfl ?_
      refine WO.q (Q.move (oc (v := .int .i64 ((0 : Nat) : Int)) rfl)) rfl ?_
      refine WO.nil ?_
      refine End.K ?_
      refine W.block ?_
      refine W.loop_ind2 (fun (q : Nat) (xa : AV) => [(0, .slice bv 0 L.length 12), (5, .slice bn 0 L.length 1), (7, .int .i64 ((L.length - 1 - t : Nat) : Int)), (28, .int .i64 ((L.length : Nat) : Int)), (29, .int .i64 ((t : Nat) : Int)), (41, xa), (42, .int .i64 (((ei L (L.length - 1 - t)).ars.length : Nat) : Int)), (43, .int .i64 ((q : Nat) : Int))]) (fun (q : Nat) (xa : AV) => (⟨bn, ⟨1, true, cB (ndG L t q) L.length⟩, true⟩ :: hs)) (fun (q : Nat) (xa : AV) => q ≤ (ei L (L.length - 1 - t)).ars.length ∧ RIn hs 1 (ei L (L.length - 1 - t)).ars.length (cA (ei L (L.length - 1 - t)).ars) xa) (fun (q : Nat) (xa : AV) => (ei L (L.length - 1 - t)).ars.length - q) (0) (_) ⟨Nat.zero_le _, (hV.at (by omega)).a⟩ (SubS.cons rfl (SubS.cons rfl (SubS.cons rfl (SubS.cons rfl (SubS.cons rfl (SubS.cons rfl (SubS.cons rfl (SubS.cons rfl (SubS.nil _))))))))) (by rw [← ndG_0]; exact SubH.refl _) (fun q xa hI1 ih1 => ?_)
      obtain ⟨h2, hxa⟩ := hI1
      refine W.seq ?_
      refine W.reg ?_
      refine WO.q (Q.bin rfl rfl rfl (bv_lss lt_nat)) rfl ?_
      refine WO.nil ?_
      refine End.K ?_
      refine W.seq ?_
      refine W.condDS rfl (fun hc44 => ?_) (fun hc44 => ?_)
      · skip -- FL0TL1T
        have hq1 := ok_ar (hok (L.length - 1 - t) (by omega)) (ai_mem (A := (ei L (L.length - 1 - t)).ars) (q := q) (by omega))
        obtain ⟨ba, sza, exa, rfl, wa_, ma⟩ := hxa.full (by omega)
        refine W.skip ?_
        refine End.K ?_
        refine W.seq ?_
        refine W.block ?_
        refine W.seq ?_
        refine W.reg ?_
        refine WO.q (Q.iaddrS ud40 sz3 rfl rfl (by first | omega | (simp at * <;> omega))) rfl ?_
        refine WO.q (Q.load1 rfl (List.mem_cons_of_mem _ ma) ag3 (cA_atN (by first | omega | (simp at * <;> omega)) hq1.1)) rfl ?_
        refine WO.q (Q.assign rfl) rfl ?_
        refine WO.nil ?_
        refine End.K ?_
        refine W.reg ?_
        refine WO.q (Q.move rfl) rfl ?_
        refine WO.q (Q.move rfl) rfl ?_
        refine WO.q (Q.move rfl) rfl ?_
        refine WO.q (Q.move rfl) rfl ?_
        refine WO.q (Q.iaddrS ud52 sz4 rfl rfl (by first | omega | (simp at * <;> omega))) rfl ?_
        refine WO.q (Q.load1 rfl (mem_at (i := 0) rfl) ag4 (cB_at (by first | omega | (simp at * <;> omega)))) rfl ?_
        refine WO.q (Q.move rfl) rfl ?_
        refine WO.split (d := 53) rfl (fun hc53 => ?_) (fun hc53 => ?_)
        · skip -- FL0TL1Tt
          refine WO.gF rfl rfl (.inl rfl) rfl ?_
          refine WO.gF rfl rfl (.inl rfl) rfl ?_
          refine WO.gF rfl rfl (.inl rfl) rfl ?_
          refine WO.gF rfl rfl (.inl rfl) rfl ?_
          refine WO.q (Q.pickT rfl rfl) rfl ?_
          refine WO.q (Q.iaddrS ud52 sz4 rfl rfl (by first | omega | (simp at * <;> omega))) rfl ?_
          refine WO.store sz4 rfl rfl (i := 0) rfl (ck1 rfl (cB_le (by omega))) (cB_lay (by omega)) (hs' := _ :: _) rfl ?_
          refine WO.nil ?_
          refine End.KB (End.K ?_)
          refine W.sub (SubS.cons (k := 0) rfl (SubS.cons (k := 5) rfl (SubS.cons (k := 7) rfl (SubS.cons (k := 28) rfl (SubS.cons (k := 29) rfl (SubS.cons (k := 41) rfl (SubS.cons (k := 42) rfl (SubS.cons (k := 43) rfl (SubS.nil _))))))))) ?_
          refine W.reg ?_
          refine WO.q (Q.bin rfl (oc (v := .int .i64 ((1 : Nat) : Int)) rfl) rfl (bv_add (wn_add (by first | omega | (simp at * <;> omega))))) rfl ?_
          refine WO.q (Q.move rfl) rfl ?_
          refine WO.nil ?_
          refine End.KL ?_
          refine W.sub (SubS.cons rfl (SubS.cons rfl (SubS.cons rfl (SubS.cons rfl (SubS.cons rfl (SubS.cons rfl (SubS.cons rfl (SubS.cons rfl (SubS.nil _))))))))) (W.subH (by rw [← ndG_step hok (by omega) (by omega) (by rw [hc53]; try rfl)]; exact SubH.refl _) (ih1 (q + 1) (_) ?_ ?_))
          · exact ⟨by omega, hxa⟩
          · exact (by first | omega | (simp at * <;> omega))
        · skip -- FL0TL1Tf
          refine WO.gT rfl rfl ?_
          refine WO.q (Q.move rfl) rfl ?_
          refine WO.gT rfl rfl ?_
          refine WO.q (Q.move rfl) rfl ?_
          refine WO.gT rfl rfl ?_
          refine WO.q (Q.iaddrS ud52 sz4 rfl rfl (by first | omega | (simp at * <;> omega))) rfl ?_
          refine WO.gT rfl rfl ?_
          refine WO.q (Q.load1 rfl (mem_at (i := 0) rfl) ag4 (cB_at (by first | omega | (simp at * <;> omega)))) rfl ?_
          refine WO.q (Q.pickF rfl rfl) rfl ?_
          refine WO.q (Q.iaddrS ud52 sz4 rfl rfl (by first | omega | (simp at * <;> omega))) rfl ?_
          refine WO.store sz4 rfl rfl (i := 0) rfl (ck1 rfl (cB_le (by omega))) (cB_lay (by omega)) (hs' := _ :: _) rfl ?_
          refine WO.nil ?_
          refine End.KB (End.K ?_)
          refine W.sub (SubS.cons (k := 0) rfl (SubS.cons (k := 5) rfl (SubS.cons (k := 7) rfl (SubS.cons (k := 28) rfl (SubS.cons (k := 29) rfl (SubS.cons (k := 41) rfl (SubS.cons (k := 42) rfl (SubS.cons (k := 43) rfl (SubS.nil _))))))))) ?_
          refine W.reg ?_
          refine WO.q (Q.bin rfl (oc (v := .int .i64 ((1 : Nat) : Int)) rfl) rfl (bv_add (wn_add (by first | omega | (simp at * <;> omega))))) rfl ?_
          refine WO.q (Q.move rfl) rfl ?_
          refine WO.nil ?_
          refine End.KL ?_
          refine W.sub (SubS.cons rfl (SubS.cons rfl (SubS.cons rfl (SubS.cons rfl (SubS.cons rfl (SubS.cons rfl (SubS.cons rfl (SubS.cons rfl (SubS.nil _))))))))) (W.subH (by rw [← ndG_step hok (by omega) (by omega) (by rw [hc53]; try rfl)]; exact SubH.refl _) (ih1 (q + 1) (_) ?_ ?_))
          · exact ⟨by omega, hxa⟩
          · exact (by first | omega | (simp at * <;> omega))
      · skip -- FL0TL1F
        obtain rfl : q = (ei L (L.length - 1 - t)).ars.length := (by omega)
        refine W.exit ?_
        refine End.K_exit (End.KL_exit (End.KB_hit (End.KB (End.K ?_))))
        refine W.reg ?_
        refine WO.q (Q.bin rfl (oc (v := .int .i64 ((1 : Nat) : Int)) rfl) rfl (bv_add (wn_add (by first | omega | (simp at * <;> omega))))) rfl ?_
        refine WO.q (Q.move rfl) rfl ?_
        refine WO.nil ?_
        refine End.KL ?_
        refine W.sub (SubS.cons rfl (SubS.cons rfl (SubS.cons rfl (SubS.cons rfl (SubS.nil _))))) (W.subH (by rw [← ndG_end (by omega)]; exact SubH.refl _) (ih0 (t + 1) ?_ ?_))
        · exact (by omega)
        · exact (by first | omega | (simp at * <;> omega))
    · skip -- FL0F
      obtain rfl : t = L.length := (by omega)
      rw [ndF_all]
      refine W.exit ?_
      refine End.K_exit (End.KL_exit (End.KB_hit (End.K ?_)))
      refine W.seq ?_
      refine W.reg ?_
      refine WO.q (Q.move rfl) rfl ?_
      refine WO.q (Q.len ud30 rfl hV.1.len) rfl ?_
      refine WO.mslice ms40 rfl rfl (by omega) (repl_n _) rfl (fun bt => ?_)
      refine WO.q (Q.assign rfl) rfl ?_
      refine WO.nil ?_
      refine End.K ?_
      refine W.seq ?_
      refine W.reg ?_
      refine WO.q (Q.assign rfl) rfl ?_
      refine WO.nil ?_
      refine End.K ?_
      refine W.seq ?_
      refine W.seq ?_
      refine W.reg ?_
      refine WO.q (Q.move rfl) rfl ?_
      refine WO.q (Q.len ud30 rfl hV.1.len) rfl ?_
      refine WO.q (Q.move (oc (v := .int .i64 ((0 : Nat) : Int)) rfl)) rfl ?_
      refine WO.nil ?_
      refine End.K ?_
      refine W.block ?_
      refine W.loop_ind5 (fun (i : Nat) (X : List IE) (u : AV) (hp : HSt) (hl : HSt) => [(5, .slice bn 0 L.length 1), (10, .slice bt 0 L.length 1), (11, u), (65, v), (66, .int .i64 ((L.length : Nat) : Int)), (67, .int .i64 ((i : Nat) : Int))]) (fun (i : Nat) (X : List IE) (u : AV) (hp : HSt) (hl : HSt) => (⟨bt, ⟨1, true, cN (toF L (i)) L.length⟩, true⟩ :: ⟨bn, ⟨1, true, cB (nb L) L.length⟩, true⟩ :: (hs ++ hp ++ hl))) (fun (i : Nat) (X : List IE) (u : AV) (hp : HSt) (hl : HSt) => i ≤ L.length ∧ D2 X = trimP L i ∧ OwnE 12 (cI X) X.length u hp ∧ (∀ x ∈ X, IOK hl x ∧ x.nk = 0) ∧ (∀ e ∈ hl, e.w = true) ∧ (∀ x ∈ X, IBd x)) (fun (i : Nat) (X : List IE) (u : AV) (hp : HSt) (hl : HSt) => L.length - i) (0) ([]) (.nils) ([]) ([]) ⟨Nat.zero_le _, rfl, OwnE.nil 12, fun x hx => by simp at hx, no_wl, fun x hx => by simp at hx⟩ (SubS.cons rfl (SubS.cons rfl (SubS.cons rfl (SubS.cons rfl (SubS.cons rfl (SubS.cons rfl (SubS.nil _))))))) (by rw [List.append_nil, List.append_nil, ← to_0]; exact SubH.refl _) (fun i X u hp hl hI2 ih2 => ?_)
      obtain ⟨h3, hX2, hO, hX, hw, hXb⟩ := hI2
      have hXl : X.length = posN L i := (by rw [← d2_len, hX2, tp_len])
      have hpl := pos_le (L := L) (j := i)
      refine W.seq ?_
      refine W.reg ?_
      refine WO.q (Q.bin rfl rfl rfl (bv_lss lt_nat)) rfl ?_
      refine WO.nil ?_
      refine End.K ?_
      refine W.seq ?_
      refine W.condDS rfl (fun hc68 => ?_) (fun hc68 => ?_)
      · skip -- FL0FL2T
        obtain ⟨bv, szv, exv, rfl, wv, mv⟩ := hV.1.full (by omega)
        refine W.skip ?_
        refine End.K ?_
        refine W.seq ?_
        refine W.block ?_
        refine W.seq ?_
        refine W.reg ?_
        refine WO.q (Q.move rfl) rfl ?_
        refine WO.q (Q.iaddrS ud30 sz42 rfl rfl (by first | omega | (simp at * <;> omega))) rfl ?_
        refine WO.q (Q.loadN rfl (List.mem_cons_of_mem _ (List.mem_cons_of_mem _ (List.mem_append_left _ (List.mem_append_left _ mv)))) ag42 sz42 (cI_at (by first | omega | (simp at * <;> omega)))) rfl ?_
        refine WO.alloc ao42 rfl (fun b1 => ?_)
        refine WO.q (Q.assign rfl) rfl ?_
        refine WO.store sz42 rfl rfl (i := 0) rfl (and_tt rfl (IOK.cells (hV.at (by omega)))) (cs := [_, _, _, _, _, _, _, _, _, _, _, _]) rfl (hs' := _ :: _ :: _ :: _) rfl ?_
        refine WO.nil ?_
        refine End.K ?_
        refine W.seq ?_
        refine W.reg ?_
        refine WO.q (Q.move rfl) rfl ?_
        refine WO.q (Q.move rfl) rfl ?_
        refine WO.q (Q.iaddrS ud52 sz4 rfl rfl (by first | omega | (simp at * <;> omega))) rfl ?_
        refine WO.q (Q.load1 rfl (mem_at (i := 2) rfl) ag4 (cB_at (by first | omega | (simp at * <;> omega)))) rfl ?_
        refine WO.nil ?_
        refine End.K ?_
        refine W.condS rfl (fun hc75 => ?_) (fun hc75 => ?_)
        · skip -- FL0FL2TT
          have hnb : nb L i = true := hc75
          refine W.seq ?_
          refine W.reg ?_
          refine WO.q (Q.move rfl) rfl ?_
          refine WO.q (Q.move rfl) rfl ?_
          refine WO.q (Q.move rfl) rfl ?_
          refine WO.q (Q.len ud30 rfl hO.len) rfl ?_
          refine WO.q (Q.iaddrS ud40 sz3 rfl rfl (by first | omega | (simp at * <;> omega))) rfl ?_
          refine WO.store sz3 rfl rfl (i := 1) rfl (ck1 rfl (cN_le (by omega))) (to_lay (by omega) hXl hnb) (hs' := _ :: _ :: _ :: _) rfl ?_
          refine WO.nil ?_
          refine End.K ?_
          refine W.sub (SubS.cons (k := 13) rfl (SubS.cons (k := 5) rfl (SubS.cons (k := 10) rfl (SubS.cons (k := 11) rfl (SubS.cons (k := 65) rfl (SubS.cons (k := 66) rfl (SubS.cons (k := 67) rfl (SubS.nil _)))))))) ?_
          refine W.regD 10 (⟨b1, _, false⟩ :: hs) (by kernel_rfl) (KIn.cons (mem_at (i := 0) rfl) (fun e he => ⟨e.w, by obtain ⟨b, o, w⟩ := e; simp [he]⟩)) ?_
          refine WD.q (Q.move rfl) (OwnE.bq hO) rfl ?_
          refine WD.q (Q.fieldAddr fa42_0 rfl (o' := 0) rfl) bq_ptr rfl ?_
          refine WD.q (Q.loadN rfl (mem_at (i := 0) rfl) ag26 sz26 (l := [_, _, _, _, _, _, _, _, _, _, _]) rfl) (bq_agg11 (hV.at (by omega))) rfl ?_
          refine WD.call0 rfl (oLs_cons rfl oLs_nil) rfl (bare_spec hs hro (ei L i).d _ _ _ (hV.at (by omega)).m (hV.at (by omega)).n _ (hV.at (by omega)).k (hB.at (by omega)).d) (SubR.tl (SubR.tl (SubR.tl (SubR.appl (SubR.appl (SubR.self hro)))))) (KIn.cons (mem_at (i := 0) rfl) (fun e he => ⟨e.w, by obtain ⟨b, o, w⟩ := e; simp [he]⟩)) rfl (fun v84 D84 hP84 => ?_)
          obtain ⟨vm2, vn2, Dm, Dn, rfl, hOm, hOn, hDD⟩ := hP84
          have hwD : ∀ e ∈ D84, e.w = true := (by rw [hDD]; exact wa (OwnE.w hOm) (OwnE.w hOn))
          refine WD.subH (hs' := _ :: _ :: _ :: (hs ++ hp ++ hl ++ D84)) (SubH.of_perm (perm_tail (N := []) (G := D84) (K := [_, _, _]) (X := hs ++ hp ++ hl))) ?_
          refine WD.q (Q.fieldAddr fa42_1 rfl (o' := 11) rfl) bq_ptr rfl ?_
          refine WD.q (Q.load1 rfl (mem_at (i := 0) rfl) ag40 rfl) (hV.at (by first | omega | (simp at * <;> omega))).a.bq rfl ?_
          refine WD.q (Q.move rfl) bq_slice rfl ?_
          refine WD.call0 rfl (oLs_cons rfl (oLs_cons rfl oLs_nil)) rfl (mov_spec (ro [⟨bt, ⟨1, true, cN (toF L (i + 1)) L.length⟩, true⟩] ++ hs) (ro_app hro) (ei L i).ars _ (hV.at (by omega)).a.app (hB.at (by omega)).a _ _ rin_to (fun a ha => by have := ok_ar (hok i (by omega)) ha; rw [List.length_map, List.length_range]; omega) (by rw [List.length_map, List.length_range]; exact hBl)) (SubR.mix gc hro) (KIn.cons (mem_at (i := 0) rfl) (fun e he => ⟨e.w, by obtain ⟨b, o, w⟩ := e; simp [he]⟩)) rfl (fun v88 D88 hP88 => ?_)
          have hA88 := trim_mv (hok i (by omega)) (by omega) hnb hP88
          refine WD.subH (hs' := _ :: _ :: _ :: (hs ++ hl ++ D84 ++ D88 ++ hp)) (SubH.of_perm (perm_tailO (N := []) (G := D88) (K := [_, _, _]) (X := hs ++ hp ++ hl ++ D84) (by simp only [List.append_assoc, List.nil_append]; exact List.perm_iff_count.2 (by intro z; simp only [List.append_eq, List.count_append, List.count_nil]; omega)))) ?_
          refine WD.q (Q.build pl42 (oPs_cons rfl (oPs_cons rfl oPs_nil)) rfl (cs := [_, _, _, _, _, _, _, _, _, _, _, _]) (fill12 (OwnE.cell hP88))) (bq12o (OwnE.bq0 hOm) (OwnE.bq0 hOn) (OwnE.bq0 hP88)) rfl ?_
          refine WD.bslice ud30 sz42 zr42 rfl (oPs_cons rfl oPs_nil) rfl (cs := [_, _, _, _, _, _, _, _, _, _, _, _]) rfl (all12 (OwnE.cell hOm) (OwnE.cell hOn) (OwnE.cell hP88)) rfl (KIn.cons (mem_at (i := 0) rfl) (fun e he => ⟨e.w, by obtain ⟨b, o, w⟩ := e; simp [he]⟩)) (fun b2 => ?_)
          refine WD.appAny (A := ([_, _, _] ++ hs ++ hl ++ D84 ++ D88)) ap30_30 hO rfl rfl (Src.slice (mem_at (i := 0) rfl) rfl) rfl (by omega) (by decide) (SubH.of_sublist (List.sublist_cons_self _ _)) rfl (KIn.cons (mem_at (i := 0) rfl) (fun e he => ⟨e.w, by obtain ⟨b, o, w⟩ := e; simp [he]⟩)) (fun v91 hp91 hO91 => ?_)
          refine WD.q (Q.assign rfl) (OwnE.bq hO91) rfl ?_
          refine WD.nil ?_
          refine End.KB (End.K ?_)
          refine W.reg ?_
          refine WO.q (Q.bin rfl (oc (v := .int .i64 ((1 : Nat) : Int)) rfl) rfl (bv_add (wn_add (by first | omega | (simp at * <;> omega))))) rfl ?_
          refine WO.q (Q.move rfl) rfl ?_
          refine WO.nil ?_
          refine End.KL ?_
          refine W.sub (SubS.cons rfl (SubS.cons rfl (SubS.cons rfl (SubS.cons rfl (SubS.cons rfl (SubS.cons rfl (SubS.nil _))))))) (W.subH gc (ih2 (i + 1) (X ++ [⟨(ei L i).d, trimA L (ei L i).ars, 0, vm2, vn2, .nils, v88⟩]) (v91) (hp91) (hl ++ D84 ++ D88) ?_ ?_))
          · exact ⟨by omega, by rw [d2_snoc, tp_y hnb, hX2], by rw [cI_snoc, List.length_append]; exact hO91, trim_snoc hX hOm hOn hA88 hDD, wa (wa hw hwD) (OwnE.w hP88), trim_bd hXb (hB.at (by omega)) (by omega) (hok i (by omega))⟩
          · exact (by first | omega | (simp at * <;> omega))
        · skip -- FL0FL2TF
          have hnb : nb L i = false := (by simpa using hc75)
          rw [to_n hnb]
          refine W.skip ?_
          refine End.KB (End.K ?_)
          refine W.reg ?_
          refine WO.q (Q.bin rfl (oc (v := .int .i64 ((1 : Nat) : Int)) rfl) rfl (bv_add (wn_add (by first | omega | (simp at * <;> omega))))) rfl ?_
          refine WO.q (Q.move rfl) rfl ?_
          refine WO.nil ?_
          refine End.KL ?_
          refine W.sub (SubS.cons rfl (SubS.cons rfl (SubS.cons rfl (SubS.cons rfl (SubS.cons rfl (SubS.cons rfl (SubS.nil _))))))) (W.subH gc (ih2 (i + 1) (X) (u) (hp) (hl) ?_ ?_))
          · exact ⟨by omega, by rw [tp_n hnb]; exact hX2, hO, hX, hw, hXb⟩
          · exact (by first | omega | (simp at * <;> omega))
      · skip -- FL0FL2F
        refine W.exit ?_
        refine End.K_exit (End.KL_exit (End.KB_hit (End.K ?_)))
        refine W.seq ?_
        refine W.reg ?_
        refine WO.q (Q.move rfl) rfl ?_
        refine WO.q (Q.assign rfl) rfl ?_
        refine WO.q (Q.assign (oc (v := .int .i64 ((0 : Nat) : Int)) rfl)) rfl ?_
        refine WO.nil ?_
        refine End.K ?_
        refine W.ret ?_
        refine End.ret (ResL.tmp rfl (ResL.tmp rfl ResL.nil)) (hs' := hp ++ hl) ⟨0, X, u, .inr ⟨by omega, rfl, by rw [hX2, show i = L.length by omega]⟩, ⟨hp, hl, rfl, hO, hX, hw, ⟨by omega, hXb⟩⟩, rfl⟩ (wa (OwnE.w hO) hw) gc
end Go.Proofs.YtndhhgbpcmfeiaaGreatDoor.Ev
