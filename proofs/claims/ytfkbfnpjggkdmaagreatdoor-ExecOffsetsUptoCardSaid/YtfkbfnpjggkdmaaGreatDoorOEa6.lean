/- Chapter 20: what a plan of one instruction, a selector, means. -/
import Derived.Test.YtfkbfnpjggkdmaaGreatDoorOEa5
namespace Go.Proofs.YtfkbfnpjggkdmaaGreatDoor.Ev
open Go.RowKit
set_option maxRecDepth 100000
set_option maxHeartbeats 1000000
theorem andb {a b : Bool} (h : a = true) (g : b = true) : (a && b) = true := by rw [h, g]; rfl
theorem ck1 {v : AV} {o n : Nat} (h : v.isCell = true) (hle : Nat.ble (o + 1) n = true) : (Nat.beq v.cells.length 1 && Nat.ble (o + 1) n && v.cells.all AV.isCell) = true := by
 rw [cells_of h, hle]; simp [h]
theorem lay_3 {a0 a1 a2 a3 v : AV} {b : List AV} (h : v.isCell = true) : layL (a0 :: a1 :: a2 :: a3 :: b) 3 v.cells = a0 :: a1 :: a2 :: v :: b := by
 rw [cells_of h]; simp [layL]
theorem KIn.ofH {keep hs : HSt} (h : SubH keep hs) : KIn keep hs := fun e he => ⟨e.w, by obtain ⟨b, o, w⟩ := e; exact h.1 _ he⟩
theorem ISm.bq {hs : HSt} {M : List MtT} {v : AV} (h : ISm hs M v) : v.beq v = true := by
 rcases h with ⟨rfl, _⟩ | ⟨b, sz, ex, rfl, _⟩
 ·rfl
 ·simp [AV.beq, beq1, beq0, beqz]
theorem ag25 : tab.isAgg 25 = some false := by kernel_rfl
theorem ag26 : tab.isAgg 26 = some false := by kernel_rfl
theorem ag49 : tab.isAgg 49 = some false := by kernel_rfl
theorem ag50 : tab.isAgg 50 = some false := by kernel_rfl
theorem ag51 : tab.isAgg 51 = some false := by kernel_rfl
theorem ag53 : tab.isAgg 53 = some true := by kernel_rfl
theorem ag55 : tab.isAgg 55 = some true := by kernel_rfl
theorem ao3 : AO tab 3 = some ⟨1, true, [.int .i64 0]⟩ := by kernel_rfl
theorem ao53 : AO tab 53 = some ⟨11, true, [.int .i64 0, .str [], .int .i64 0, .nils, .int .i64 0, .int .i64 0, .int .i64 0, .nils, .int .i64 0, .bool false, .nils]⟩ := by kernel_rfl
theorem ao55 : AO tab 55 = some ⟨12, true, [.int .i64 0, .str [], .int .i64 0, .nils, .int .i64 0, .int .i64 0, .int .i64 0, .nils, .int .i64 0, .bool false, .nils, .nils]⟩ := by kernel_rfl
theorem ap49_49 : AP tab 49 49 = some 3 := by kernel_rfl
theorem bx53 : ∀ l : List AV, l.length = 11 → varObj tab 53 l = ⟨11, true, l⟩ := by intro l h; exact varObj_plain (by kernel_rfl) h
theorem fa53_10 : FA tab 53 10 = some (10, 0 + 1) := by kernel_rfl
theorem fa53_3 : FA tab 53 3 = some (3, 0 + 1) := by kernel_rfl
theorem fa53_7 : FA tab 53 7 = some (7, 0 + 1) := by kernel_rfl
theorem fa55_0 : FA tab 55 0 = some (0, 10 + 1) := by kernel_rfl
theorem fa55_1 : FA tab 55 1 = some (11, 0 + 1) := by kernel_rfl
theorem nzeql49 : ∀ b o l z : Nat, evBin tab .eql 49 (.slice b o l z) .nils = some (.bool false) := by intros; kernel_rfl
theorem nzeql49n : evBin tab .eql 49 .nils .nils = some (.bool true) := by intros; kernel_rfl
theorem nzeql50n : evBin tab .eql 50 .nils .nils = some (.bool true) := by intros; kernel_rfl
theorem sz49 : tab.size 49 = some 1 := by kernel_rfl
theorem sz50 : tab.size 50 = some 1 := by kernel_rfl
theorem sz51 : tab.size 51 = some 1 := by kernel_rfl
theorem sz53 : tab.size 53 = some 11 := by kernel_rfl
theorem sz55 : tab.size 55 = some 12 := by kernel_rfl
theorem ud26 : tab.und 26 = some (.slice 55) := by kernel_rfl
theorem ud51 : tab.und 51 = some (.slice 53) := by kernel_rfl
theorem zr62 : tab.zero 62 = some (.agg [.int .i64 0, .str [], .str []]) := by kernel_rfl
theorem clm_n (hs : HSt) : Spec tab 145 [.nils] [] hs (fun u D => OwnE 3 (mCs []) 0 u D) := by
 refine Spec.en (ftg 145 Tryz.func145) rfl (m := 8) rfl (rs := [.tmp 2]) rfl (st := [(0, .nils)]) rfl rfl (fun _ => rfl) (fun E => ?_)
 refine W.seq ?_
 refine W.reg ?_
 refine WO.q (Q.assign rfl) rfl ?_
 refine WO.nil ?_
 refine End.K ?_
 refine W.seq ?_
 refine W.seq ?_
 refine W.reg ?_
 refine WO.q (Q.move rfl) rfl ?_
 refine WO.q (Q.bin rfl rfl rfl nzeql49n) rfl ?_
 refine WO.nil ?_
 refine End.K ?_
 refine W.condT rfl ?_
 refine W.seq ?_
 refine W.reg ?_
 refine WO.q (Q.assign rfl) rfl ?_
 refine WO.nil ?_
 refine End.K ?_
 refine W.ret ?_
 refine End.Kr (End.ret (ResL.tmp rfl ResL.nil) (hs' := []) (OwnE.nil 3) no_wl gc)

theorem clm_s (hs : HSt) (hro : ∀ e ∈ hs, e.w = false) (M : List MtT) (hl : M.length ≤ 1048576) (b sz : Nat) (ex w : Bool) (hm : (⟨b, ⟨sz, ex, mCs M⟩, w⟩ : HE) ∈ hs) : Spec tab 145 [.slice b 0 M.length 3] [] hs (fun u D => OwnE 3 (mCs M) M.length u D) := by
 refine Spec.en (ftg 145 Tryz.func145) rfl (m := 8) rfl (rs := [.tmp 2]) rfl (st := [(0, .slice b 0 M.length 3)]) rfl rfl (fun _ => rfl) (fun E => ?_)
 refine W.seq ?_
 refine W.reg ?_
 refine WO.q (Q.assign rfl) rfl ?_
 refine WO.nil ?_
 refine End.K ?_
 refine W.seq ?_
 refine W.seq ?_
 refine W.reg ?_
 refine WO.q (Q.move rfl) rfl ?_
 refine WO.q (Q.bin rfl rfl rfl (nzeql49 _ _ _ _)) rfl ?_
 refine WO.nil ?_
 refine End.K ?_
 refine W.condF rfl ?_
 refine W.skip ?_
 refine End.K ?_
 refine W.seq ?_
 refine W.reg ?_
 refine WO.bslice ud49 sz62 zr62 rfl opn rfl (cs := []) rfl rfl rfl (fun b1 => ?_)
 refine WO.q (Q.move rfl) rfl ?_
 refine WO.appAny (A := _) ap49_49 (OwnE.cons rfl) rfl rfl (Src.mono (fun e he => ⟨e.w, by obtain ⟨b, o, w⟩ := e; simp [he]⟩) (Src.ism (.inr ⟨b, sz, ex, rfl, w, hm⟩))) (mCs_len M) (by omega) (by decide) (SubH.op (List.perm_append_singleton _ _)) rfl (fun v7 hp7 hO7 => ?_)
 refine WO.q (Q.assign rfl) rfl ?_
 refine WO.nil ?_
 refine End.K ?_
 refine W.ret ?_
 refine End.ret (ResL.tmp rfl ResL.nil) (hs' := hp7) (by simpa [one1] using hO7) hO7.w gc
theorem clm_spec (hs : HSt) (hro : ∀ e ∈ hs, e.w = false) (M : List MtT) (vm : AV) (hM : ISm hs M vm) (hok : MOk M) : Spec tab 145 [vm] [] hs (fun u D => OwnE 3 (mCs M) M.length u D) := by
 rcases hM with ⟨rfl, rfl⟩ | ⟨b, sz, ex, rfl, w, hm⟩
 ·exact clm_n hs
 ·exact clm_s hs hro M hok.1 b sz ex w hm

theorem cln_n  : Spec tab 146 [.nils] [] [] (Val (.nils)) := by
 refine Spec.en (ftg 146 Tryz.func146) rfl (m := 8) rfl (rs := [.tmp 2]) rfl (st := [(0, .nils)]) rfl rfl (fun _ => rfl) (fun E => ?_)
 refine W.seq ?_
 refine W.reg ?_
 refine WO.q (Q.assign rfl) rfl ?_
 refine WO.nil ?_
 refine End.K ?_
 refine W.seq ?_
 refine W.seq ?_
 refine W.reg ?_
 refine WO.q (Q.move rfl) rfl ?_
 refine WO.q (Q.bin rfl rfl rfl nzeql50n) rfl ?_
 refine WO.nil ?_
 refine End.K ?_
 refine W.condT rfl ?_
 refine W.seq ?_
 refine W.reg ?_
 refine WO.q (Q.assign rfl) rfl ?_
 refine WO.nil ?_
 refine End.K ?_
 refine W.ret ?_
 refine End.Kr (End.rV (ResL.tmp rfl ResL.nil) ?_)
 rfl

theorem bare_spec (hs : HSt) (hro : ∀ e ∈ hs, e.w = false) (M : List MtT) (vm : AV) (hM : ISm hs M vm) (hok : MOk M) (o : Nat) : Spec tab 115 [.agg [.int .i64 ((2 : Nat) : Int), .str [], .int .i64 0, vm, .int .i64 0, .int .i64 ((o : Nat) : Int), .int .i64 0, .nils, .int .i64 0, .bool false, .nils]] [] hs (fun v D => ∃ u, v = .agg [.int .i64 ((2 : Nat) : Int), .str [], .int .i64 0, u, .int .i64 0, .int .i64 ((o : Nat) : Int), .int .i64 0, .nils, .int .i64 0, .bool false, .nils] ∧ OwnE 3 (mCs M) M.length u D) := by
 refine Spec.en (ftg 115 Tryz.func115) rfl (m := 13) rfl (rs := [.cell 2 53]) rfl (st := [(0, .agg [.int .i64 ((2 : Nat) : Int), .str [], .int .i64 0, vm, .int .i64 0, .int .i64 ((o : Nat) : Int), .int .i64 0, .nils, .int .i64 0, .bool false, .nils])]) rfl rfl (fun _ => rfl) (fun E => ?_)
 refine W.seq ?_
 refine W.reg ?_
 refine WO.box rfl (andb rfl (andb rfl (andb rfl (andb hM.cell rfl)))) (bx53 _ rfl) rfl (fun b1 => ?_)
 refine WO.alloc ao53 rfl (fun b2 => ?_)
 refine WO.nil ?_
 refine End.K ?_
 refine W.seq ?_
 refine W.reg ?_
 refine WO.q (Q.fieldAddr fa53_10 rfl (o' := 10) rfl) rfl ?_
 refine zS sz51 rfl rfl (i := 1) rfl rfl rfl (hs' := _ :: _ :: _) rfl ?_
 refine WO.nil ?_
 refine End.K ?_
 refine W.seq ?_
 refine W.regD 7 _ (by kernel_rfl) (KIn.refl _) ?_
 refine WD.q (Q.fieldAddr fa53_3 rfl (o' := 3) rfl) bqp rfl ?_
 refine WD.q (Q.l1 rfl (mem_at (i := 1) rfl) ag49 rfl) (ISm.bq hM) rfl ?_
 refine WD.call0 rfl (oLc rfl oz) rfl (clm_spec hs hro M _ hM hok) (SubR.t (SubR.t (SubR.s hro))) (KIn.refl _) rfl (fun v6 D6 hP6 => ?_)
 refine WD.subH (hs' := _ :: _ :: (hs ++ D6)) (SubH.op (perm_tail (N := []) (G := D6) (K := [_, _]) (X := hs))) ?_
 refine WD.q (Q.fieldAddr fa53_7 rfl (o' := 7) rfl) bqp rfl ?_
 refine WD.q (Q.l1 rfl (mem_at (i := 1) rfl) ag50 rfl) rfl rfl ?_
 refine WD.callV rfl (oLc rfl oz) rfl cln_n SubR.nil (KIn.ofH gc) rfl ?_
 refine WD.q (Q.fieldAddr fa53_3 rfl (o' := 3) rfl) bqp rfl ?_
 refine WD.store sz49 rfl rfl (j := 1) rfl (ck1 (OwnE.cell hP6) rfl) (cs := [_, _, _, _, _, _, _, _, _, _, _]) (lay_3 (OwnE.cell hP6)) (hs' := _ :: _ :: _) rfl (fun h => by cases h) ?_
 refine WD.q (Q.fieldAddr fa53_7 rfl (o' := 7) rfl) bqp rfl ?_
 refine WD.store sz50 rfl rfl (j := 1) rfl rfl (cs := [_, _, _, _, _, _, _, _, _, _, _]) rfl (hs' := _ :: _ :: _) rfl (fun h => by cases h) ?_
 refine WD.nil ?_
 refine End.K ?_
 refine W.seq ?_
 refine W.reg ?_
 refine WO.q (zL rfl (mem_at (i := 1) rfl) ag53 sz53 rfl) rfl ?_
 refine zS sz53 rfl rfl (i := 0) rfl (andb rfl (andb rfl (andb rfl (andb rfl (andb (OwnE.cell hP6) rfl))))) rfl (hs' := _ :: _ :: _) rfl ?_
 refine WO.nil ?_
 refine End.K ?_
 refine W.ret ?_
 refine End.ret (zA rfl (mem_at (i := 0) rfl) ag53 sz53 rfl ResL.nil) (hs' := D6) ⟨_, rfl, hP6⟩ hP6.w gc

theorem ixf_n (F : Nat) (C : List AV) : Spec tab 172 [.nils, .func F C] [] [] (Val (.int .i64 (-1))) := by
 refine Spec.en (ftg 172 Tryz.func172) rfl (m := 19) rfl (rs := [.tmp 4]) rfl (st := [(0, .nils), (1, .func F C)]) rfl rfl (fun _ => rfl) (fun E => ?_)
 refine W.seq ?_
 refine W.reg ?_
 refine WO.q (Q.assign (oc (v := .int .i64 ((0 : Nat) : Int)) rfl)) rfl ?_
 refine WO.nil ?_
 refine End.K ?_
 refine W.seq ?_
 refine W.seq ?_
 refine W.reg ?_
 refine WO.q (Q.move rfl) rfl ?_
 refine WO.q (Q.len ud25 rfl rfl) rfl ?_
 refine WO.q (Q.move (oc (v := .int .i64 ((0 : Nat) : Int)) rfl)) rfl ?_
 refine WO.nil ?_
 refine End.K ?_
 refine W.block ?_
 refine W.loop ?_
 refine W.seq ?_
 refine W.reg ?_
 refine WO.q (Q.bin rfl rfl rfl (bvl (p := false) rfl)) rfl ?_
 refine WO.nil ?_
 refine End.K ?_
 refine W.seq ?_
 refine W.condF rfl ?_
 refine W.exit ?_
 refine End.Kx (End.Lx (End.Bh (End.K ?_)))
 refine W.seq ?_
 refine W.reg ?_
 refine WO.q (Q.assign rfl) rfl ?_
 refine WO.nil ?_
 refine End.K ?_
 refine W.ret ?_
 refine End.rV (ResL.tmp rfl ResL.nil) ?_
 rfl

theorem ctf_n (F : Nat) (C : List AV) : Spec tab 143 [.nils, .func F C] [] [] (Val (.bool false)) := by
 refine Spec.en (ftg 143 Tryz.func143) rfl (m := 9) rfl (rs := [.tmp 4]) rfl (st := [(0, .nils), (1, .func F C)]) rfl rfl (fun _ => rfl) (fun E => ?_)
 refine W.seq ?_
 refine W.reg ?_
 refine WO.q (Q.assign rfl) rfl ?_
 refine WO.nil ?_
 refine End.K ?_
 refine W.seq ?_
 refine W.reg ?_
 refine WO.q (Q.move rfl) rfl ?_
 refine WO.q (Q.move rfl) rfl ?_
 refine WO.cV rfl (oLc rfl (oLc rfl oz)) rfl (ixf_n _ _) SubR.nil rfl ?_
 refine WO.q (Q.bin rfl (oc (v := .int .i64 ((0 : Nat) : Int)) rfl) rfl (bv_geq (p := false) rfl)) rfl ?_
 refine WO.q (Q.assign rfl) rfl ?_
 refine WO.nil ?_
 refine End.K ?_
 refine W.ret ?_
 refine End.rV (ResL.tmp rfl ResL.nil) ?_
 rfl

theorem pchk_spec (hs : HSt) (hro : ∀ e ∈ hs, e.w = false) (M : List MtT) (vm : AV) (hM : ISm hs M vm) (hok : MOk M) (o : Nat) (pb : Nat) (xpb : Bool) : Spec tab 113 [.slice pb 0 1 12] [] (⟨pb, ⟨12, xpb, [.int .i64 ((2 : Nat) : Int), .str [], .int .i64 0, vm, .int .i64 0, .int .i64 ((o : Nat) : Int), .int .i64 0, .nils, .int .i64 0, .bool false, .nils, .nils]⟩, false⟩ :: hs) (Val (.int .i64 0)) := by
 refine Spec.en (ftg 113 Tryz.func113) rfl (m := 32) rfl (rs := [.tmp 2]) rfl (st := [(0, .slice pb 0 1 12)]) rfl rfl (fun _ => rfl) (fun E => ?_)
 refine W.seq ?_
 refine W.reg ?_
 refine WO.q (Q.assign (oc (v := .int .i64 ((0 : Nat) : Int)) rfl)) rfl ?_
 refine WO.nil ?_
 refine End.K ?_
 refine W.seq ?_
 refine W.block ?_
 refine W.seq ?_
 refine W.reg ?_
 refine WO.q (Q.move rfl) rfl ?_
 refine WO.q (Q.len ud26 rfl rfl) rfl ?_
 refine WO.q (Q.bin rfl (oc (v := .int .i64 ((0 : Nat) : Int)) rfl) rfl (bv_eql (p := false) rfl)) rfl ?_
 refine WO.q (Q.assign rfl) rfl ?_
 refine WO.nil ?_
 refine End.K ?_
 refine W.condF rfl ?_
 refine W.seq ?_
 refine W.reg ?_
 refine WO.q (Q.move rfl) rfl ?_
 refine WO.q (Q.len ud26 rfl rfl) rfl ?_
 refine WO.q (Q.bin rfl (oc (v := .int .i64 ((1024 : Nat) : Int)) rfl) rfl (bv_gtr (p := false) rfl)) rfl ?_
 refine WO.q (Q.assign rfl) rfl ?_
 refine WO.nil ?_
 refine End.K ?_
 refine W.condF rfl ?_
 refine W.skip ?_
 refine End.KB (End.K ?_)
 refine W.seq ?_
 refine W.seq ?_
 refine W.reg ?_
 refine WO.q (Q.move rfl) rfl ?_
 refine WO.q (Q.len ud26 rfl rfl) rfl ?_
 refine WO.q (Q.move (oc (v := .int .i64 ((0 : Nat) : Int)) rfl)) rfl ?_
 refine WO.nil ?_
 refine End.K ?_
 refine W.block ?_
 refine W.loop ?_
 refine W.seq ?_
 refine W.reg ?_
 refine WO.q (Q.bin rfl rfl rfl (bvl (p := true) rfl)) rfl ?_
 refine WO.nil ?_
 refine End.K ?_
 refine W.seq ?_
 refine W.condT rfl ?_
 refine W.skip ?_
 refine End.K ?_
 refine W.seq ?_
 refine W.block ?_
 refine W.seq ?_
 refine W.reg ?_
 refine WO.q (Q.move rfl) rfl ?_
 refine WO.q (Q.iaddrL ud26 sz55 rfl rfl zo (o' := 0) rfl) rfl ?_
 refine WO.q (Q.loadN rfl (mem_at (i := 0) rfl) ag55 sz55 (l := [_, _, _, _, _, _, _, _, _, _, _, _]) rfl) rfl ?_
 refine WO.alloc ao3 rfl (fun b1 => ?_)
 refine WO.alloc ao55 rfl (fun b2 => ?_)
 refine WO.store sz3 rfl rfl (i := 1) rfl rfl (cs := [_]) rfl (hs' := _ :: _ :: _ :: _) rfl ?_
 refine WO.store sz55 rfl rfl (i := 0) rfl (andb rfl (andb rfl (andb rfl (andb rfl (andb hM.cell rfl))))) (cs := [_, _, _, _, _, _, _, _, _, _, _, _]) rfl (hs' := _ :: _ :: _ :: _) rfl ?_
 refine WO.nil ?_
 refine End.K ?_
 refine W.sub (SubS.cons (k := 4) rfl (SubS.cons (k := 3) rfl (SubS.cons (k := 15) rfl (SubS.cons (k := 14) rfl (SubS.cons (k := 13) rfl (SubS.nil _)))))) ?_
 refine W.seq ?_
 refine W.reg ?_
 refine WO.q (Q.fieldAddr fa55_0 rfl (o' := 0) rfl) rfl ?_
 refine WO.q (Q.fieldAddr fa53_10 rfl (o' := 10) rfl) rfl ?_
 refine WO.q (Q.l1 rfl (mem_at (i := 0) rfl) ag51 rfl) rfl ?_
 refine WO.q (Q.len ud51 rfl rfl) rfl ?_
 refine WO.q (Q.bin rfl (oc (v := .int .i64 ((0 : Nat) : Int)) rfl) rfl (bv_gtr (p := false) rfl)) rfl ?_
 refine WO.q (Q.move rfl) rfl ?_
 refine WO.gT rfl rfl ?_
 refine WO.q (Q.fieldAddr fa55_1 rfl (o' := 11) rfl) rfl ?_
 refine WO.gT rfl rfl ?_
 refine WO.q (Q.l1 rfl (mem_at (i := 0) rfl) ag25 rfl) rfl ?_
 refine WO.gT rfl rfl ?_
 refine WO.q (Q.makeF (oLc rfl oz)) rfl ?_
 refine WO.gT rfl rfl ?_
 refine WO.cV rfl (oLc rfl (oLc rfl oz)) rfl (ctf_n _ _) SubR.nil rfl ?_
 refine WO.q (Q.pF rfl rfl) rfl ?_
 refine WO.nil ?_
 refine End.K ?_
 refine W.condF rfl ?_
 refine W.skip ?_
 refine End.KB (End.K ?_)
 refine W.reg ?_
 refine WO.q (Q.bin rfl (oc (v := .int .i64 ((1 : Nat) : Int)) rfl) rfl (bv_add (c := (((1 : Nat)) : Int)) (by decide))) rfl ?_
 refine WO.q (Q.move rfl) rfl ?_
 refine WO.nil ?_
 refine End.KL ?_
 refine W.loop ?_
 refine W.seq ?_
 refine W.reg ?_
 refine WO.q (Q.bin rfl rfl rfl (bvl (p := false) rfl)) rfl ?_
 refine WO.nil ?_
 refine End.K ?_
 refine W.sub (SubS.cons (k := 16) rfl (SubS.cons (k := 15) rfl (SubS.cons (k := 14) rfl (SubS.cons (k := 13) rfl (SubS.nil _))))) ?_
 refine W.seq ?_
 refine W.condF rfl ?_
 refine W.exit ?_
 refine End.Kx (End.Lx (End.Bh (End.K ?_)))
 refine W.seq ?_
 refine W.reg ?_
 refine WO.q (Q.assign (oc (v := .int .i64 ((0 : Nat) : Int)) rfl)) rfl ?_
 refine WO.nil ?_
 refine End.K ?_
 refine W.ret ?_
 refine End.rV (ResL.tmp rfl ResL.nil) ?_
 rfl

theorem grow_spec (hs : HSt) (hro : ∀ e ∈ hs, e.w = false) (M : List MtT) (vm : AV) (hM : ISm hs M vm) (hok : MOk M) (o : Nat) (pb : Nat) (xpb : Bool) (t1 t2 : Nat) (x1 : Bool) : Spec tab 114 [.int .i64 ((0 : Nat) : Int), .ptr t1 0, .ptr t2 0] [] (⟨t1, ⟨1, x1, [.slice pb 0 1 12]⟩, false⟩ :: ⟨pb, ⟨12, xpb, [.int .i64 ((2 : Nat) : Int), .str [], .int .i64 0, vm, .int .i64 0, .int .i64 ((o : Nat) : Int), .int .i64 0, .nils, .int .i64 0, .bool false, .nils, .nils]⟩, false⟩ :: hs) (fun v D => ∃ u, v = .agg [.int .i64 ((2 : Nat) : Int), .str [], .int .i64 0, u, .int .i64 0, .int .i64 ((o : Nat) : Int), .int .i64 0, .nils, .int .i64 0, .bool false, .nils] ∧ OwnE 3 (mCs M) M.length u D) := by
 refine Spec.en (ftg 114 Tryz.func114) rfl (m := 34) rfl (rs := [.cell 4 53]) rfl (st := [(0, .int .i64 ((0 : Nat) : Int)), (1, .ptr t1 0), (2, .ptr t2 0)]) rfl rfl (fun _ => rfl) (fun E => ?_)
 refine W.seq ?_
 refine W.reg ?_
 refine WO.alloc ao53 rfl (fun b1 => ?_)
 refine WO.nil ?_
 refine End.K ?_
 refine W.seq ?_
 refine W.reg ?_
 refine WO.q (Q.l1 rfl (mem_at (i := 1) rfl) ag26 rfl) rfl ?_
 refine WO.q (Q.move rfl) rfl ?_
 refine WO.q (Q.iaddrL ud26 sz55 rfl rfl zo (o' := 0) rfl) rfl ?_
 refine WO.q (Q.fieldAddr fa55_0 rfl (o' := 0) rfl) rfl ?_
 refine WO.q (zL rfl (mem_at (i := 2) rfl) ag53 sz53 rfl) rfl ?_
 refine WO.call0 rfl (oLc rfl oz) rfl (bare_spec hs hro M vm hM hok o) (SubR.t (SubR.t (SubR.t (SubR.s hro)))) rfl (fun v13 D13 hP13 => ?_)
 obtain ⟨u13, rfl, hP13⟩ := hP13
 refine WO.subH (hs' := _ :: _ :: _ :: (hs ++ D13)) (SubH.op (perm_tail (N := []) (G := D13) (K := [_, _, _]) (X := hs))) ?_
 refine WO.alloc ao53 rfl (fun b2 => ?_)
 refine zS sz53 rfl rfl (i := 0) rfl (andb rfl (andb rfl (andb rfl (andb rfl (andb (OwnE.cell hP13) rfl))))) rfl (hs' := _ :: _ :: _ :: _ :: _) rfl ?_
 refine WO.nil ?_
 refine End.K ?_
 refine W.seq ?_
 refine W.seq ?_
 refine W.reg ?_
 refine WO.q (Q.l1 rfl (mem_at (i := 2) rfl) ag26 rfl) rfl ?_
 refine WO.q (Q.move rfl) rfl ?_
 refine WO.q (Q.iaddrL ud26 sz55 rfl rfl zo (o' := 0) rfl) rfl ?_
 refine WO.q (Q.fieldAddr fa55_1 rfl (o' := 11) rfl) rfl ?_
 refine WO.q (Q.l1 rfl (mem_at (i := 3) rfl) ag25 rfl) rfl ?_
 refine WO.q (Q.len ud25 rfl rfl) rfl ?_
 refine WO.q (Q.move (oc (v := .int .i64 ((0 : Nat) : Int)) rfl)) rfl ?_
 refine WO.nil ?_
 refine End.K ?_
 refine W.block ?_
 refine W.loop ?_
 refine W.seq ?_
 refine W.reg ?_
 refine WO.q (Q.bin rfl rfl rfl (bvl (p := false) rfl)) rfl ?_
 refine WO.nil ?_
 refine End.K ?_
 refine W.seq ?_
 refine W.condF rfl ?_
 refine W.exit ?_
 refine End.Kx (End.Lx (End.Bh (End.K ?_)))
 refine W.sub (SubS.cons (k := 5) rfl (SubS.cons (k := 4) rfl (SubS.nil _))) ?_
 refine W.seq ?_
 refine W.reg ?_
 refine WO.q (zL rfl (mem_at (i := 0) rfl) ag53 sz53 rfl) rfl ?_
 refine zS sz53 rfl rfl (i := 1) rfl (andb rfl (andb rfl (andb rfl (andb rfl (andb (OwnE.cell hP13) rfl))))) rfl (hs' := _ :: _ :: _ :: _ :: _) rfl ?_
 refine WO.nil ?_
 refine End.K ?_
 refine W.ret ?_
 refine End.ret (zA rfl (mem_at (i := 1) rfl) ag53 sz53 rfl ResL.nil) (hs' := D13) ⟨_, rfl, hP13⟩ hP13.w gc

end Go.Proofs.YtfkbfnpjggkdmaaGreatDoor.Ev
