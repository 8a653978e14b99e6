/- Chapter 21: what may be run; what runs a node; a plan of one instruction made ready. -/
import Derived.Test.YtfkbfnpjggkdmaaGreatDoorOEa6
namespace Go.Proofs.YtfkbfnpjggkdmaaGreatDoor.Ev
open Go.RowKit
set_option maxRecDepth 100000
set_option maxHeartbeats 1000000
theorem ag103 : tab.isAgg 103 = some false := by kernel_rfl
theorem ag213 : tab.isAgg 213 = some true := by kernel_rfl
theorem ao103 : AO tab 103 = some ⟨1, true, [.nilf]⟩ := by kernel_rfl
theorem ao213 : AO tab 213 = some ⟨1, true, [.int .i64 0, .int .i64 0, .int .i64 0]⟩ := by kernel_rfl
theorem bx24 : ∀ l : List AV, l.length = 4 → varObj tab 24 l = ⟨4, true, l⟩ := by intro l h; exact varObj_plain (by kernel_rfl) h
theorem bx26 : ∀ l : List AV, l.length = 1 → varObj tab 26 l = ⟨1, true, l⟩ := by intro l h; exact varObj_plain (by kernel_rfl) h
theorem fa24_0 : FA tab 24 0 = some (0, 0 + 1) := by kernel_rfl
theorem fa24_1 : FA tab 24 1 = some (1, 0 + 1) := by kernel_rfl
theorem fa24_2 : FA tab 24 2 = some (2, 0 + 1) := by kernel_rfl
theorem fa24_3 : FA tab 24 3 = some (3, 0 + 1) := by kernel_rfl
theorem fa53_0 : FA tab 53 0 = some (0, 0 + 1) := by kernel_rfl
theorem fa53_1 : FA tab 53 1 = some (1, 0 + 1) := by kernel_rfl
theorem fa53_4 : FA tab 53 4 = some (4, 0 + 1) := by kernel_rfl
theorem fa53_5 : FA tab 53 5 = some (5, 0 + 1) := by kernel_rfl
theorem ms25 : MS tab 25 = some (1, [.int .i64 0]) := by kernel_rfl
theorem nzneq42 : ∀ (f : Nat) (l : List AV), evBin tab .neq 42 (.func f l) .nilf = some (.bool true) := by intros; kernel_rfl
theorem pl213 : PL tab 213 [.int .i64 0, .int .i64 0, .int .i64 0] [(0, 1), (1, 1), (2, 1)] = true := by kernel_rfl
theorem sz103 : tab.size 103 = some 1 := by kernel_rfl
theorem sz213 : tab.size 213 = some 3 := by kernel_rfl
theorem ud212 : tab.und 212 = some (.array 3 3) := by kernel_rfl
theorem of1  : Spec tab 147 [.nils] [] [] (Val (.tuple [.agg [.int .i64 0, .int .i64 0, .int .i64 0], .bool true])) := by
 refine Spec.en (ftg 147 Tryz.func147) rfl (m := 12) rfl (rs := [.cell 2 213, .tmp 3]) rfl (st := [(0, .nils)]) rfl rfl (fun _ => rfl) (fun E => ?_)
 refine W.seq ?_
 refine W.reg ?_
 refine WO.alloc ao213 rfl (fun b1 => ?_)
 refine WO.q (Q.assign rfl) rfl ?_
 refine WO.nil ?_
 refine End.K ?_
 refine W.seq ?_
 refine W.reg ?_
 refine WO.alloc ao213 rfl (fun b2 => ?_)
 refine WO.nil ?_
 refine End.K ?_
 refine W.seq ?_
 refine W.reg ?_
 refine WO.q (Q.sliceA ud212 sz3 rfl (mem_at (i := 0) rfl) rfl) rfl ?_
 refine WO.q (Q.move rfl) rfl ?_
 refine WO.copy ud25 sz3 rfl rfl (fun _ _ => rfl) (i := 0) rfl rfl (cs' := [_, _, _]) rfl (hs' := [_, _]) rfl rfl ?_
 refine WO.nil ?_
 refine End.K ?_
 refine W.seq ?_
 refine W.reg ?_
 refine WO.q (Q.loadN rfl (mem_at (i := 0) rfl) ag213 sz213 (l := [_, _, _]) rfl) rfl ?_
 refine WO.q (Q.move rfl) rfl ?_
 refine WO.q (Q.len ud25 rfl rfl) rfl ?_
 refine WO.q (Q.bin rfl (oc (v := .int .i64 ((3 : Nat) : Int)) rfl) rfl (bv_leq (p := true) rfl)) rfl ?_
 refine zS3 sz213 rfl rfl (i := 1) rfl rfl rfl (hs' := [_, _]) rfl ?_
 refine WO.q (Q.assign rfl) rfl ?_
 refine WO.nil ?_
 refine End.K ?_
 refine W.ret ?_
 refine End.rV (zA3 rfl (mem_at (i := 1) rfl) ag213 sz213 rfl (ResL.tmp rfl ResL.nil)) ?_
 rfl

theorem call1  : Spec tab 116 [.str []] [] [] (Val (.tuple [.agg [.int .i64 0, .int .i64 0, .int .i64 0], .int .i64 ((0 : Nat) : Int)])) := by
 refine Spec.en (ftg 116 Tryz.func116) rfl (m := 35) rfl (rs := [.cell 2 213, .tmp 3]) rfl (st := [(0, .str [])]) rfl rfl (fun _ => rfl) (fun E => ?_)
 refine W.seq ?_
 refine W.reg ?_
 refine WO.alloc ao213 rfl (fun b1 => ?_)
 refine WO.q (Q.assign (oc (v := .int .i64 ((0 : Nat) : Int)) rfl)) rfl ?_
 refine WO.nil ?_
 refine End.K ?_
 refine W.seq ?_
 refine W.seq ?_
 refine W.reg ?_
 refine WO.q (Q.move rfl) rfl ?_
 refine WO.nil ?_
 refine End.K ?_
 refine W.block ?_
 refine W.seq ?_
 refine W.reg ?_
 refine WO.q (Q.bin rfl (oc (v := .str [116, 105, 109, 101]) (by kernel_rfl)) rfl (bv_seqlP (p := false) rfl)) rfl ?_
 refine WO.q (Q.assign rfl) rfl ?_
 refine WO.nil ?_
 refine End.K ?_
 refine W.condF rfl ?_
 refine W.seq ?_
 refine W.reg ?_
 refine WO.q (Q.bin rfl (oc (v := .str [115, 99, 97, 108, 97, 114]) (by kernel_rfl)) rfl (bv_seqlP (p := false) rfl)) rfl ?_
 refine WO.q (Q.assign rfl) rfl ?_
 refine WO.nil ?_
 refine End.K ?_
 refine W.condF rfl ?_
 refine W.seq ?_
 refine W.reg ?_
 refine WO.q (Q.bin rfl (oc (v := .str [118, 101, 99, 116, 111, 114]) (by kernel_rfl)) rfl (bv_seqlP (p := false) rfl)) rfl ?_
 refine WO.q (Q.assign rfl) rfl ?_
 refine WO.nil ?_
 refine End.K ?_
 refine W.condF rfl ?_
 refine W.seq ?_
 refine W.seq ?_
 refine W.reg ?_
 refine WO.q (Q.bin rfl (oc (v := .str [97, 98, 115]) (by kernel_rfl)) rfl (bv_seqlP (p := false) rfl)) rfl ?_
 refine WO.q (Q.assign rfl) rfl ?_
 refine WO.nil ?_
 refine End.K ?_
 refine W.condF rfl ?_
 refine W.seq ?_
 refine W.reg ?_
 refine WO.q (Q.bin rfl (oc (v := .str [99, 101, 105, 108]) (by kernel_rfl)) rfl (bv_seqlP (p := false) rfl)) rfl ?_
 refine WO.q (Q.assign rfl) rfl ?_
 refine WO.nil ?_
 refine End.K ?_
 refine W.condF rfl ?_
 refine W.seq ?_
 refine W.reg ?_
 refine WO.q (Q.bin rfl (oc (v := .str [102, 108, 111, 111, 114]) (by kernel_rfl)) rfl (bv_seqlP (p := false) rfl)) rfl ?_
 refine WO.q (Q.assign rfl) rfl ?_
 refine WO.nil ?_
 refine End.K ?_
 refine W.condF rfl ?_
 refine W.reg ?_
 refine WO.q (Q.bin rfl (oc (v := .str [115, 103, 110]) (by kernel_rfl)) rfl (bv_seqlP (p := false) rfl)) rfl ?_
 refine WO.q (Q.assign rfl) rfl ?_
 refine WO.nil ?_
 refine End.K ?_
 refine W.condF rfl ?_
 refine W.seq ?_
 refine W.reg ?_
 refine WO.q (Q.bin rfl (oc (v := .str [99, 108, 97, 109, 112]) (by kernel_rfl)) rfl (bv_seqlP (p := false) rfl)) rfl ?_
 refine WO.q (Q.assign rfl) rfl ?_
 refine WO.nil ?_
 refine End.K ?_
 refine W.sub (SubS.cons (k := 20) rfl (SubS.cons (k := 4) rfl (SubS.cons (k := 2) rfl (SubS.nil _)))) ?_
 refine W.condF rfl ?_
 refine W.seq ?_
 refine W.seq ?_
 refine W.reg ?_
 refine WO.q (Q.bin rfl (oc (v := .str [99, 111, 117, 110, 116, 95, 111, 118, 101, 114, 95, 116, 105, 109, 101]) (by kernel_rfl)) rfl (bv_seqlP (p := false) rfl)) rfl ?_
 refine WO.q (Q.assign rfl) rfl ?_
 refine WO.nil ?_
 refine End.K ?_
 refine W.condF rfl ?_
 refine W.seq ?_
 refine W.reg ?_
 refine WO.q (Q.bin rfl (oc (v := .str [115, 117, 109, 95, 111, 118, 101, 114, 95, 116, 105, 109, 101]) (by kernel_rfl)) rfl (bv_seqlP (p := false) rfl)) rfl ?_
 refine WO.q (Q.assign rfl) rfl ?_
 refine WO.nil ?_
 refine End.K ?_
 refine W.condF rfl ?_
 refine W.seq ?_
 refine W.reg ?_
 refine WO.q (Q.bin rfl (oc (v := .str [97, 118, 103, 95, 111, 118, 101, 114, 95, 116, 105, 109, 101]) (by kernel_rfl)) rfl (bv_seqlP (p := false) rfl)) rfl ?_
 refine WO.q (Q.assign rfl) rfl ?_
 refine WO.nil ?_
 refine End.K ?_
 refine W.condF rfl ?_
 refine W.seq ?_
 refine W.reg ?_
 refine WO.q (Q.bin rfl (oc (v := .str [109, 105, 110, 95, 111, 118, 101, 114, 95, 116, 105, 109, 101]) (by kernel_rfl)) rfl (bv_seqlP (p := false) rfl)) rfl ?_
 refine WO.q (Q.assign rfl) rfl ?_
 refine WO.nil ?_
 refine End.K ?_
 refine W.condF rfl ?_
 refine W.seq ?_
 refine W.reg ?_
 refine WO.q (Q.bin rfl (oc (v := .str [109, 97, 120, 95, 111, 118, 101, 114, 95, 116, 105, 109, 101]) (by kernel_rfl)) rfl (bv_seqlP (p := false) rfl)) rfl ?_
 refine WO.q (Q.assign rfl) rfl ?_
 refine WO.nil ?_
 refine End.K ?_
 refine W.condF rfl ?_
 refine W.seq ?_
 refine W.reg ?_
 refine WO.q (Q.bin rfl (oc (v := .str [108, 97, 115, 116, 95, 111, 118, 101, 114, 95, 116, 105, 109, 101]) (by kernel_rfl)) rfl (bv_seqlP (p := false) rfl)) rfl ?_
 refine WO.q (Q.assign rfl) rfl ?_
 refine WO.nil ?_
 refine End.K ?_
 refine W.condF rfl ?_
 refine W.seq ?_
 refine W.reg ?_
 refine WO.q (Q.bin rfl (oc (v := .str [100, 101, 108, 116, 97]) (by kernel_rfl)) rfl (bv_seqlP (p := false) rfl)) rfl ?_
 refine WO.q (Q.assign rfl) rfl ?_
 refine WO.nil ?_
 refine End.K ?_
 refine W.condF rfl ?_
 refine W.seq ?_
 refine W.reg ?_
 refine WO.q (Q.bin rfl (oc (v := .str [105, 110, 99, 114, 101, 97, 115, 101]) (by kernel_rfl)) rfl (bv_seqlP (p := false) rfl)) rfl ?_
 refine WO.q (Q.assign rfl) rfl ?_
 refine WO.nil ?_
 refine End.K ?_
 refine W.condF rfl ?_
 refine W.reg ?_
 refine WO.q (Q.bin rfl (oc (v := .str [114, 97, 116, 101]) (by kernel_rfl)) rfl (bv_seqlP (p := false) rfl)) rfl ?_
 refine WO.q (Q.assign rfl) rfl ?_
 refine WO.nil ?_
 refine End.K ?_
 refine W.condF rfl ?_
 refine W.skip ?_
 refine End.KB (End.K ?_)
 refine W.seq ?_
 refine W.reg ?_
 refine WO.q (Q.build pl213 opn rfl (cs := [_, _, _]) rfl) rfl ?_
 refine zS3 sz213 rfl rfl (i := 0) rfl rfl rfl (hs' := [_]) rfl ?_
 refine WO.q (Q.assign (oc (v := .int .i64 ((0 : Nat) : Int)) rfl)) rfl ?_
 refine WO.nil ?_
 refine End.K ?_
 refine W.ret ?_
 refine End.rV (zA3 rfl (mem_at (i := 0) rfl) ag213 sz213 rfl (ResL.tmp rfl ResL.nil)) ?_
 rfl

theorem kinds1 (o : Nat) (u : AV) (hu : u.isCell = true) : Spec tab 117 [.agg [.int .i64 ((2 : Nat) : Int), .str [], .int .i64 0, u, .int .i64 0, .int .i64 ((o : Nat) : Int), .int .i64 0, .nils, .int .i64 0, .bool false, .nils]] [] [] (Val (.tuple [.nils, .int .i64 ((0 : Nat) : Int)])) := by
 refine Spec.en (ftg 117 Tryz.func117) rfl (m := 30) rfl (rs := [.tmp 2, .tmp 3]) rfl (st := [(0, .agg [.int .i64 ((2 : Nat) : Int), .str [], .int .i64 0, u, .int .i64 0, .int .i64 ((o : Nat) : Int), .int .i64 0, .nils, .int .i64 0, .bool false, .nils])]) rfl rfl (fun _ => rfl) (fun E => ?_)
 refine W.seq ?_
 refine W.reg ?_
 refine WO.box rfl (andb rfl (andb rfl (andb rfl (andb hu rfl)))) (bx53 _ rfl) rfl (fun b1 => ?_)
 refine WO.q (Q.assign rfl) rfl ?_
 refine WO.q (Q.assign (oc (v := .int .i64 ((0 : Nat) : Int)) rfl)) rfl ?_
 refine WO.nil ?_
 refine End.K ?_
 refine W.seq ?_
 refine W.reg ?_
 refine WO.q (Q.assign rfl) rfl ?_
 refine WO.nil ?_
 refine End.K ?_
 refine W.seq ?_
 refine W.seq ?_
 refine W.reg ?_
 refine WO.q (Q.fieldAddr fa53_10 rfl (o' := 10) rfl) rfl ?_
 refine WO.q (Q.l1 rfl (mem_at (i := 0) rfl) ag51 rfl) rfl ?_
 refine WO.q (Q.len ud51 rfl rfl) rfl ?_
 refine WO.q (Q.move (oc (v := .int .i64 ((0 : Nat) : Int)) rfl)) rfl ?_
 refine WO.nil ?_
 refine End.K ?_
 refine W.block ?_
 refine W.loop ?_
 refine W.seq ?_
 refine W.reg ?_
 refine WO.q (Q.bin rfl rfl rfl (bvl (p := false) rfl)) rfl ?_
 refine WO.nil ?_
 refine End.K ?_
 refine W.seq ?_
 refine W.condF rfl ?_
 refine W.exit ?_
 refine End.Kx (End.Lx (End.Bh (End.K ?_)))
 refine W.seq ?_
 refine W.reg ?_
 refine WO.q (Q.move rfl) rfl ?_
 refine WO.q (Q.assign rfl) rfl ?_
 refine WO.q (Q.assign (oc (v := .int .i64 ((0 : Nat) : Int)) rfl)) rfl ?_
 refine WO.nil ?_
 refine End.K ?_
 refine W.ret ?_
 refine End.rV (ResL.tmp rfl (ResL.tmp rfl ResL.nil)) ?_
 rfl

theorem whole1 (o : Nat) (u : AV) (hu : u.isCell = true) : Spec tab 118 [.agg [.int .i64 ((2 : Nat) : Int), .str [], .int .i64 0, u, .int .i64 0, .int .i64 ((o : Nat) : Int), .int .i64 0, .nils, .int .i64 0, .bool false, .nils], .nils] [] [] (Val (.int .i64 ((2 : Nat) : Int))) := by
 refine Spec.en (ftg 118 Tryz.func118) rfl (m := 84) rfl (rs := [.tmp 4]) rfl (st := [(0, .agg [.int .i64 ((2 : Nat) : Int), .str [], .int .i64 0, u, .int .i64 0, .int .i64 ((o : Nat) : Int), .int .i64 0, .nils, .int .i64 0, .bool false, .nils]), (1, .nils)]) rfl rfl (fun _ => rfl) (fun E => ?_)
 refine W.seq ?_
 refine W.reg ?_
 refine WO.box rfl (andb rfl (andb rfl (andb rfl (andb hu rfl)))) (bx53 _ rfl) rfl (fun b1 => ?_)
 refine WO.q (Q.assign (oc (v := .int .i64 ((0 : Nat) : Int)) rfl)) rfl ?_
 refine WO.nil ?_
 refine End.K ?_
 refine W.seq ?_
 refine W.reg ?_
 refine WO.q (Q.move rfl) rfl ?_
 refine WO.cV rfl (oLc rfl oz) rfl of1 SubR.nil rfl ?_
 refine WO.q (Q.move rfl) rfl ?_
 refine WO.q (Q.extract rfl rfl) rfl ?_
 refine WO.q (Q.extract rfl rfl) rfl ?_
 refine WO.alloc ao213 rfl (fun b2 => ?_)
 refine zS3 sz213 rfl rfl (i := 0) rfl rfl rfl (hs' := [_, _]) rfl ?_
 refine WO.q (Q.assign rfl) rfl ?_
 refine WO.nil ?_
 refine End.K ?_
 refine W.seq ?_
 refine W.seq ?_
 refine W.reg ?_
 refine WO.q (Q.fieldAddr fa53_0 rfl (o' := 0) rfl) rfl ?_
 refine WO.q (Q.l1 rfl (mem_at (i := 1) rfl) ag3 rfl) rfl ?_
 refine WO.nil ?_
 refine End.K ?_
 refine W.block ?_
 refine W.seq ?_
 refine W.reg ?_
 refine WO.q (Q.bin rfl (oc (v := .int .i64 ((1 : Nat) : Int)) rfl) rfl (bv_eql (p := false) rfl)) rfl ?_
 refine WO.q (Q.assign rfl) rfl ?_
 refine WO.nil ?_
 refine End.K ?_
 refine W.condF rfl ?_
 refine W.seq ?_
 refine W.reg ?_
 refine WO.q (Q.bin rfl (oc (v := .int .i64 ((2 : Nat) : Int)) rfl) rfl (bv_eql (p := true) rfl)) rfl ?_
 refine WO.q (Q.assign rfl) rfl ?_
 refine WO.nil ?_
 refine End.K ?_
 refine W.condT rfl ?_
 refine W.seq ?_
 refine W.seq ?_
 refine W.reg ?_
 refine WO.q (Q.fieldAddr fa53_4 rfl (o' := 4) rfl) rfl ?_
 refine WO.q (Q.l1 rfl (mem_at (i := 1) rfl) ag3 rfl) rfl ?_
 refine WO.q (Q.bin rfl (oc (v := .int .i64 ((0 : Nat) : Int)) rfl) rfl (bv_gtr (p := false) rfl)) rfl ?_
 refine WO.nil ?_
 refine End.K ?_
 refine W.sub (SubS.cons (k := 23) rfl (SubS.nil _)) ?_
 refine W.condF rfl ?_
 refine W.skip ?_
 refine End.K ?_
 refine W.seq ?_
 refine W.reg ?_
 refine WO.q (Q.assign (oc (v := .int .i64 ((2 : Nat) : Int)) rfl)) rfl ?_
 refine WO.nil ?_
 refine End.K ?_
 refine W.ret ?_
 refine End.Br (End.Kr (End.rV (ResL.tmp rfl ResL.nil) ?_))
 rfl

theorem type1 (o : Nat) (u : AV) (hu : u.isCell = true) : Spec tab 89 [.agg [.int .i64 ((2 : Nat) : Int), .str [], .int .i64 0, u, .int .i64 0, .int .i64 ((o : Nat) : Int), .int .i64 0, .nils, .int .i64 0, .bool false, .nils]] [] [] (Val (.tuple [.int .i64 ((2 : Nat) : Int), .int .i64 ((0 : Nat) : Int)])) := by
 refine Spec.en (ftg 89 Tryz.func89) rfl (m := 36) rfl (rs := [.tmp 2, .tmp 3]) rfl (st := [(0, .agg [.int .i64 ((2 : Nat) : Int), .str [], .int .i64 0, u, .int .i64 0, .int .i64 ((o : Nat) : Int), .int .i64 0, .nils, .int .i64 0, .bool false, .nils])]) rfl rfl (fun _ => rfl) (fun E => ?_)
 refine W.seq ?_
 refine W.reg ?_
 refine WO.box rfl (andb rfl (andb rfl (andb rfl (andb hu rfl)))) (bx53 _ rfl) rfl (fun b1 => ?_)
 refine WO.q (Q.assign (oc (v := .int .i64 ((0 : Nat) : Int)) rfl)) rfl ?_
 refine WO.q (Q.assign (oc (v := .int .i64 ((0 : Nat) : Int)) rfl)) rfl ?_
 refine WO.nil ?_
 refine End.K ?_
 refine W.seq ?_
 refine W.seq ?_
 refine W.reg ?_
 refine WO.q (Q.fieldAddr fa53_1 rfl (o' := 1) rfl) rfl ?_
 refine WO.q (Q.l1 rfl (mem_at (i := 0) rfl) ag9 rfl) rfl ?_
 refine WO.cV rfl (oLc rfl oz) rfl call1 SubR.nil rfl ?_
 refine WO.q (Q.move rfl) rfl ?_
 refine WO.q (Q.extract rfl rfl) rfl ?_
 refine WO.q (Q.extract rfl rfl) rfl ?_
 refine WO.alloc ao213 rfl (fun b2 => ?_)
 refine zS3 sz213 rfl rfl (i := 0) rfl rfl rfl (hs' := [_, _]) rfl ?_
 refine WO.q (Q.assign rfl) rfl ?_
 refine WO.nil ?_
 refine End.K ?_
 refine W.seq ?_
 refine W.reg ?_
 refine WO.q (Q.fieldAddr fa53_0 rfl (o' := 0) rfl) rfl ?_
 refine WO.q (Q.l1 rfl (mem_at (i := 1) rfl) ag3 rfl) rfl ?_
 refine WO.q (Q.bin rfl (oc (v := .int .i64 ((3 : Nat) : Int)) rfl) rfl (bv_eql (p := false) rfl)) rfl ?_
 refine WO.q (Q.move rfl) rfl ?_
 refine WO.gF rfl rfl (.inl rfl) rfl ?_
 refine WO.gF rfl rfl (.inl rfl) rfl ?_
 refine WO.q (Q.pF rfl rfl) rfl ?_
 refine WO.nil ?_
 refine End.K ?_
 refine W.sub (SubS.cons (k := 21) rfl (SubS.cons (k := 1) rfl (SubS.nil _))) ?_
 refine W.condF rfl ?_
 refine W.skip ?_
 refine End.K ?_
 refine W.seq ?_
 refine W.reg ?_
 refine WO.q (zL rfl (mem_at (i := 1) rfl) ag53 sz53 rfl) rfl ?_
 refine WO.cV rfl (oLc rfl oz) rfl (kinds1 o u hu) SubR.nil rfl ?_
 refine WO.q (Q.move rfl) rfl ?_
 refine WO.q (Q.extract rfl rfl) rfl ?_
 refine WO.q (Q.extract rfl rfl) rfl ?_
 refine WO.q (Q.assign rfl) rfl ?_
 refine WO.q (Q.assign rfl) rfl ?_
 refine WO.nil ?_
 refine End.K ?_
 refine W.seq ?_
 refine W.seq ?_
 refine W.reg ?_
 refine WO.q (Q.move rfl) rfl ?_
 refine WO.q (Q.bin rfl (oc (v := .int .i64 ((0 : Nat) : Int)) rfl) rfl (bv_neq (p := false) rfl)) rfl ?_
 refine WO.nil ?_
 refine End.K ?_
 refine W.condF rfl ?_
 refine W.skip ?_
 refine End.K ?_
 refine W.seq ?_
 refine W.reg ?_
 refine WO.q (zL rfl (mem_at (i := 1) rfl) ag53 sz53 rfl) rfl ?_
 refine WO.q (Q.move rfl) rfl ?_
 refine WO.cV rfl (oLc rfl (oLc rfl oz)) rfl (whole1 o u hu) SubR.nil rfl ?_
 refine WO.q (Q.assign rfl) rfl ?_
 refine WO.nil ?_
 refine End.K ?_
 refine W.sub (SubS.cons (k := 8) rfl (SubS.nil _)) ?_
 refine W.seq ?_
 refine W.seq ?_
 refine W.reg ?_
 refine WO.q (Q.move rfl) rfl ?_
 refine WO.q (Q.bin rfl (oc (v := .int .i64 ((0 : Nat) : Int)) rfl) rfl (bv_eql (p := false) rfl)) rfl ?_
 refine WO.nil ?_
 refine End.K ?_
 refine W.condF rfl ?_
 refine W.skip ?_
 refine End.K ?_
 refine W.seq ?_
 refine W.reg ?_
 refine WO.q (Q.move rfl) rfl ?_
 refine WO.q (Q.assign rfl) rfl ?_
 refine WO.q (Q.assign (oc (v := .int .i64 ((0 : Nat) : Int)) rfl)) rfl ?_
 refine WO.nil ?_
 refine End.K ?_
 refine W.ret ?_
 refine End.rV (ResL.tmp rfl (ResL.tmp rfl ResL.nil)) ?_
 rfl

theorem tree_spec (hs : HSt) (hro : ∀ e ∈ hs, e.w = false) (M : List MtT) (vm : AV) (hM : ISm hs M vm) (hok : MOk M) (o : Nat) (pb : Nat) (xpb : Bool) : Spec tab 87 [.slice pb 0 1 12] [] (⟨pb, ⟨12, xpb, [.int .i64 ((2 : Nat) : Int), .str [], .int .i64 0, vm, .int .i64 0, .int .i64 ((o : Nat) : Int), .int .i64 0, .nils, .int .i64 0, .bool false, .nils, .nils]⟩, false⟩ :: hs) (fun v D => ∃ u, v = .tuple [.agg [.int .i64 ((2 : Nat) : Int), .str [], .int .i64 0, u, .int .i64 0, .int .i64 ((o : Nat) : Int), .int .i64 0, .nils, .int .i64 0, .bool false, .nils], .int .i64 0] ∧ OwnE 3 (mCs M) M.length u D) := by
 refine Spec.en (ftg 87 Tryz.func87) rfl (m := 66) rfl (rs := [.cell 2 53, .tmp 3]) rfl (st := [(0, .slice pb 0 1 12)]) rfl rfl (fun _ => rfl) (fun E => ?_)
 refine W.seq ?_
 refine W.reg ?_
 refine WO.box rfl rfl (bx26 _ rfl) rfl (fun b1 => ?_)
 refine WO.alloc ao53 rfl (fun b2 => ?_)
 refine WO.q (Q.assign (oc (v := .int .i64 ((0 : Nat) : Int)) rfl)) rfl ?_
 refine WO.nil ?_
 refine End.K ?_
 refine W.seq ?_
 refine W.seq ?_
 refine W.reg ?_
 refine WO.q (Q.l1 rfl (mem_at (i := 1) rfl) ag26 rfl) rfl ?_
 refine WO.cV rfl (oLc rfl oz) rfl (pchk_spec hs hro M vm hM hok o pb xpb) (SubR.t (SubR.t (SubR.cons0 (SubR.s hro)))) rfl ?_
 refine WO.q (Q.assign rfl) rfl ?_
 refine WO.nil ?_
 refine End.K ?_
 refine W.seq ?_
 refine W.reg ?_
 refine WO.q (Q.move rfl) rfl ?_
 refine WO.q (Q.bin rfl (oc (v := .int .i64 ((0 : Nat) : Int)) rfl) rfl (bv_neq (p := false) rfl)) rfl ?_
 refine WO.nil ?_
 refine End.K ?_
 refine W.condF rfl ?_
 refine W.skip ?_
 refine End.K ?_
 refine W.seq ?_
 refine W.reg ?_
 refine WO.q (Q.l1 rfl (mem_at (i := 1) rfl) ag26 rfl) rfl ?_
 refine WO.q (Q.len ud26 rfl rfl) rfl ?_
 refine WO.mks ms25 rfl rfl zo rfl (fun b3 => ?_)
 refine WO.q (Q.assign rfl) rfl ?_
 refine WO.nil ?_
 refine End.K ?_
 refine W.seq ?_
 refine W.seq ?_
 refine W.reg ?_
 refine WO.q (Q.l1 rfl (mem_at (i := 2) rfl) ag26 rfl) rfl ?_
 refine WO.q (Q.len ud26 rfl rfl) rfl ?_
 refine WO.q (Q.move (oc (v := .int .i64 ((0 : Nat) : Int)) rfl)) rfl ?_
 refine WO.nil ?_
 refine End.K ?_
 refine W.block ?_
 refine W.loop ?_
 refine W.seq ?_
 refine W.reg ?_
 refine WO.q (Q.bin rfl rfl rfl (bvl (p := true) rfl)) rfl ?_
 refine WO.nil ?_
 refine End.K ?_
 refine W.seq ?_
 refine W.condT rfl ?_
 refine W.skip ?_
 refine End.K ?_
 refine W.seq ?_
 refine W.block ?_
 refine W.seq ?_
 refine W.reg ?_
 refine WO.q (Q.move rfl) rfl ?_
 refine WO.q (Q.iaddrL ud26 sz55 rfl rfl zo (o' := 0) rfl) rfl ?_
 refine WO.q (Q.loadN rfl (mem_at (i := 3) rfl) ag55 sz55 (l := [_, _, _, _, _, _, _, _, _, _, _, _]) rfl) rfl ?_
 refine WO.alloc ao55 rfl (fun b4 => ?_)
 refine WO.q (Q.assign rfl) rfl ?_
 refine WO.store sz55 rfl rfl (i := 0) rfl (andb rfl (andb rfl (andb rfl (andb rfl (andb hM.cell rfl))))) (cs := [_, _, _, _, _, _, _, _, _, _, _, _]) rfl (hs' := _ :: _ :: _ :: _ :: _ :: _) rfl ?_
 refine WO.nil ?_
 refine End.K ?_
 refine W.sub (SubS.cons (k := 6) rfl (SubS.cons (k := 7) rfl (SubS.cons (k := 22) rfl (SubS.cons (k := 21) rfl (SubS.cons (k := 20) rfl (SubS.cons (k := 5) rfl (SubS.cons (k := 2) rfl (SubS.cons (k := 1) rfl (SubS.nil _))))))))) ?_
 refine W.seq ?_
 refine W.reg ?_
 refine WO.q (Q.move rfl) rfl ?_
 refine WO.q (Q.move rfl) rfl ?_
 refine WO.q (Q.iaddrL ud25 sz3 rfl rfl zo (o' := 0) rfl) rfl ?_
 refine WO.store sz3 rfl (oc (v := .int .i64 ((1 : Nat) : Int)) rfl) (i := 1) rfl rfl (cs := [_]) rfl (hs' := _ :: _ :: _ :: _ :: _ :: _) rfl ?_
 refine WO.nil ?_
 refine End.K ?_
 refine W.seq ?_
 refine W.reg ?_
 refine WO.q (Q.fieldAddr fa55_1 rfl (o' := 11) rfl) rfl ?_
 refine WO.q (Q.l1 rfl (mem_at (i := 0) rfl) ag25 rfl) rfl ?_
 refine WO.q (Q.len ud25 rfl rfl) rfl ?_
 refine WO.q (Q.move (oc (v := .int .i64 ((0 : Nat) : Int)) rfl)) rfl ?_
 refine WO.nil ?_
 refine End.K ?_
 refine W.block ?_
 refine W.loop ?_
 refine W.seq ?_
 refine W.reg ?_
 refine WO.q (Q.bin rfl rfl rfl (bvl (p := false) rfl)) rfl ?_
 refine WO.nil ?_
 refine End.K ?_
 refine W.seq ?_
 refine W.condF rfl ?_
 refine W.exit ?_
 refine End.Kx (End.Lx (End.Bh (End.KB (End.K ?_))))
 refine W.reg ?_
 refine WO.q (Q.bin rfl (oc (v := .int .i64 ((1 : Nat) : Int)) rfl) rfl (bv_add (c := (((1 : Nat)) : Int)) (by decide))) rfl ?_
 refine WO.q (Q.move rfl) rfl ?_
 refine WO.nil ?_
 refine End.KL ?_
 refine W.loop ?_
 refine W.seq ?_
 refine W.reg ?_
 refine WO.q (Q.bin rfl rfl rfl (bvl (p := false) rfl)) rfl ?_
 refine WO.nil ?_
 refine End.K ?_
 refine W.seq ?_
 refine W.condF rfl ?_
 refine W.exit ?_
 refine End.Kx (End.Lx (End.Bh (End.K ?_)))
 refine W.sub (SubS.cons (k := 5) rfl (SubS.cons (k := 2) rfl (SubS.cons (k := 1) rfl (SubS.nil _)))) ?_
 refine W.seq ?_
 refine W.seq ?_
 refine W.reg ?_
 refine WO.q (Q.move rfl) rfl ?_
 refine WO.q (Q.l1 rfl (mem_at (i := 3) rfl) ag26 rfl) rfl ?_
 refine WO.q (Q.len ud26 rfl rfl) rfl ?_
 refine WO.q (Q.bin rfl (oc (v := .int .i64 ((1 : Nat) : Int)) rfl) rfl (bv_sub (c := (((0 : Nat)) : Int)) (by decide))) rfl ?_
 refine WO.q (Q.iaddrL ud25 sz3 rfl rfl zo (o' := 0) rfl) rfl ?_
 refine WO.q (Q.l1 rfl (mem_at (i := 1) rfl) ag3 rfl) rfl ?_
 refine WO.q (Q.bin rfl (oc (v := .int .i64 ((4096 : Nat) : Int)) rfl) rfl (bv_gtr (p := false) rfl)) rfl ?_
 refine WO.nil ?_
 refine End.K ?_
 refine W.condF rfl ?_
 refine W.skip ?_
 refine End.K ?_
 refine W.seq ?_
 refine W.reg ?_
 refine WO.alloc ao103 rfl (fun b5 => ?_)
 refine WO.nil ?_
 refine End.K ?_
 refine W.seq ?_
 refine W.reg ?_
 refine WO.q (Q.makeF (oLc rfl (oLc rfl oz))) rfl ?_
 refine WO.store sz103 rfl rfl (i := 0) rfl rfl (cs := [_]) rfl (hs' := _ :: _ :: _ :: _ :: _ :: _ :: _) rfl ?_
 refine WO.nil ?_
 refine End.K ?_
 refine W.seq ?_
 refine W.reg ?_
 refine WO.q (Q.l1 rfl (mem_at (i := 0) rfl) ag103 rfl) rfl ?_
 refine WO.q (Q.l1 rfl (mem_at (i := 4) rfl) ag26 rfl) rfl ?_
 refine WO.q (Q.len ud26 rfl rfl) rfl ?_
 refine WO.q (Q.bin rfl (oc (v := .int .i64 ((1 : Nat) : Int)) rfl) rfl (bv_sub (c := (((0 : Nat)) : Int)) (by decide))) rfl ?_
 refine WO.call0 rfl (oLc rfl oz) rfl (grow_spec hs hro M vm hM hok o pb xpb b1 _ true) (SubR.t (SubR.t (SubR.t (SubR.t (SubR.cons0 (SubR.cons0 (SubR.s hro))))))) rfl (fun v65 D65 hP65 => ?_)
 obtain ⟨u65, rfl, hP65⟩ := hP65
 refine WO.subH (hs' := _ :: _ :: _ :: _ :: _ :: _ :: (hs ++ D65)) (SubH.op (perm_tail (N := []) (G := D65) (K := [_, _, _, _, _, _]) (X := hs))) ?_
 refine zS sz53 rfl rfl (i := 3) rfl (andb rfl (andb rfl (andb rfl (andb rfl (andb (OwnE.cell hP65) rfl))))) rfl (hs' := _ :: _ :: _ :: _ :: _ :: _ :: _) rfl ?_
 refine WO.q (Q.assign (oc (v := .int .i64 ((0 : Nat) : Int)) rfl)) rfl ?_
 refine WO.nil ?_
 refine End.K ?_
 refine W.sub (SubS.cons (k := 3) rfl (SubS.cons (k := 2) rfl (SubS.nil _))) ?_
 refine W.ret ?_
 refine End.ret (zA rfl (mem_at (i := 3) rfl) ag53 sz53 rfl (ResL.tmp rfl ResL.nil)) (hs' := D65) ⟨_, rfl, hP65⟩ hP65.w gc

theorem ens_spec (b : Bool) (hb : b = true) (e : Int) : Spec tab 86 [.bool b, .int .i64 e] [] [] (Val (.tuple [])) := by
 refine Spec.en (ftg 86 Tryz.func86) rfl (m := 8) rfl (rs := []) rfl (st := [(0, .bool b), (1, .int .i64 e)]) rfl rfl (fun _ => rfl) (fun E => ?_)
 refine W.seq ?_
 refine W.reg ?_
 refine WO.q (Q.move rfl) rfl ?_
 refine WO.q (Q.not rfl rfl) rfl ?_
 refine WO.nil ?_
 refine End.K ?_
 refine W.condS rfl (fun hc5 => ?_) (fun hc5 => ?_)
 ·exfalso; simp_all
 ·skip -- F
  refine W.skip ?_
  refine End.rV ResL.nil ?_
  rfl

theorem right_spec (hs : HSt) (hro : ∀ e ∈ hs, e.w = false) (M : List MtT) (vm : AV) (hM : ISm hs M vm) (hok : MOk M) (o : Nat) (pb : Nat) (xpb : Bool) (bx : Nat) (t : Nat) (hot : o ≤ t) (ho : o ≤ 2147483648) (ht : t ≤ 1099511627776) : Spec tab 53 [.slice pb 0 1 12, .func 34 [.ptr bx 0], .agg [.int .i64 ((t : Nat) : Int), .int .i64 ((t : Nat) : Int), .int .i64 ((1 : Nat) : Int), .int .i64 ((1099511627776 : Nat) : Int)]] [] (⟨pb, ⟨12, xpb, [.int .i64 ((2 : Nat) : Int), .str [], .int .i64 0, vm, .int .i64 0, .int .i64 ((o : Nat) : Int), .int .i64 0, .nils, .int .i64 0, .bool false, .nils, .nils]⟩, false⟩ :: hs) (Val (.int .i64 2)) := by
 refine Spec.en (ftg 53 Tryz.func53) rfl (m := 113) rfl (rs := [.tmp 6]) rfl (st := [(0, .slice pb 0 1 12), (1, .func 34 [.ptr bx 0]), (2, .agg [.int .i64 ((t : Nat) : Int), .int .i64 ((t : Nat) : Int), .int .i64 ((1 : Nat) : Int), .int .i64 ((1099511627776 : Nat) : Int)])]) rfl rfl (fun _ => rfl) (fun E => ?_)
 refine W.seq ?_
 refine W.reg ?_
 refine WO.box rfl rfl (bx24 _ rfl) rfl (fun b1 => ?_)
 refine WO.q (Q.assign (oc (v := .int .i64 ((0 : Nat) : Int)) rfl)) rfl ?_
 refine WO.nil ?_
 refine End.K ?_
 refine W.seq ?_
 refine W.reg ?_
 refine WO.q (Q.move rfl) rfl ?_
 refine WO.q (Q.bin rfl rfl rfl (nzneq42 _ _)) rfl ?_
 refine WO.q (Q.move rfl) rfl ?_
 refine WO.gT rfl rfl ?_
 refine WO.q (Q.fieldAddr fa24_0 rfl (o' := 0) rfl) rfl ?_
 refine WO.gT rfl rfl ?_
 refine WO.q (Q.l1 rfl (mem_at (i := 0) rfl) ag3 rfl) rfl ?_
 refine WO.gT rfl rfl ?_
 refine WO.q (Q.bin rfl (oc (v := .int .i64 ((0 : Nat) : Int)) rfl) rfl (bv_geq le_nat)) rfl ?_
 refine WO.q (Q.pT rfl rfl) rfl ?_
 refine WO.q (Q.move rfl) rfl ?_
 refine WO.sD (d := 20) rfl (fun hc20 => ?_) (fun hc20 => ?_)
 ·skip -- t
  refine WO.gT rfl rfl ?_
  refine WO.q (Q.fieldAddr fa24_1 rfl (o' := 1) rfl) rfl ?_
  refine WO.gT rfl rfl ?_
  refine WO.q (Q.l1 rfl (mem_at (i := 0) rfl) ag3 rfl) rfl ?_
  refine WO.gT rfl rfl ?_
  refine WO.q (Q.bin rfl (oc (v := .int .i64 ((1099511627776 : Nat) : Int)) rfl) rfl (bv_leq le_nat)) rfl ?_
  refine WO.q (Q.pT rfl rfl) rfl ?_
  refine WO.q (Q.move rfl) rfl ?_
  refine WO.sD (d := 25) rfl (fun hc25 => ?_) (fun hc25 => ?_)
  ·skip -- tt
   refine WO.gT rfl rfl ?_
   refine WO.q (Q.fieldAddr fa24_0 rfl (o' := 0) rfl) rfl ?_
   refine WO.gT rfl rfl ?_
   refine WO.q (Q.l1 rfl (mem_at (i := 0) rfl) ag3 rfl) rfl ?_
   refine WO.gT rfl rfl ?_
   refine WO.q (Q.fieldAddr fa24_1 rfl (o' := 1) rfl) rfl ?_
   refine WO.gT rfl rfl ?_
   refine WO.q (Q.l1 rfl (mem_at (i := 0) rfl) ag3 rfl) rfl ?_
   refine WO.gT rfl rfl ?_
   refine WO.q (Q.bin rfl rfl rfl (bv_leq le_nat)) rfl ?_
   refine WO.q (Q.pT rfl rfl) rfl ?_
   refine WO.q (Q.move rfl) rfl ?_
   refine WO.sD (d := 32) rfl (fun hc32 => ?_) (fun hc32 => ?_)
   ·skip -- ttt
    refine WO.gT rfl rfl ?_
    refine WO.q (Q.fieldAddr fa24_2 rfl (o' := 2) rfl) rfl ?_
    refine WO.gT rfl rfl ?_
    refine WO.q (Q.l1 rfl (mem_at (i := 0) rfl) ag3 rfl) rfl ?_
    refine WO.gT rfl rfl ?_
    refine WO.q (Q.bin rfl (oc (v := .int .i64 ((1 : Nat) : Int)) rfl) rfl (bv_geq (p := true) rfl)) rfl ?_
    refine WO.q (Q.pT rfl rfl) rfl ?_
    refine WO.q (Q.move rfl) rfl ?_
    refine WO.gT rfl rfl ?_
    refine WO.q (Q.fieldAddr fa24_3 rfl (o' := 3) rfl) rfl ?_
    refine WO.gT rfl rfl ?_
    refine WO.q (Q.l1 rfl (mem_at (i := 0) rfl) ag3 rfl) rfl ?_
    refine WO.gT rfl rfl ?_
    refine WO.q (Q.bin rfl (oc (v := .int .i64 ((0 : Nat) : Int)) rfl) rfl (bv_geq (p := true) rfl)) rfl ?_
    refine WO.q (Q.pT rfl rfl) rfl ?_
    refine WO.cV rfl (oLc rfl (oLc (oc (v := .int .i64 ((2 : Nat) : Int)) rfl) oz)) rfl (ens_spec _ rfl _) SubR.nil rfl ?_
    refine WO.nil ?_
    refine End.K ?_
    refine W.sub (SubS.cons (k := 5) rfl (SubS.cons (k := 0) rfl (SubS.nil _))) ?_
    refine W.seq ?_
    refine W.reg ?_
    refine WO.q (Q.fieldAddr fa24_1 rfl (o' := 1) rfl) rfl ?_
    refine WO.q (Q.l1 rfl (mem_at (i := 0) rfl) ag3 rfl) rfl ?_
    refine WO.q (Q.fieldAddr fa24_0 rfl (o' := 0) rfl) rfl ?_
    refine WO.q (Q.l1 rfl (mem_at (i := 0) rfl) ag3 rfl) rfl ?_
    refine WO.q (Q.bin rfl rfl rfl (bv_sub (wns zo))) rfl ?_
    refine WO.q (Q.fieldAddr fa24_2 rfl (o' := 2) rfl) rfl ?_
    refine WO.q (Q.l1 rfl (mem_at (i := 0) rfl) ag3 rfl) rfl ?_
    refine WO.q (Q.bin rfl rfl rfl (bv_quo (by decide) rfl)) rfl ?_
    refine WO.q (Q.bin rfl (oc (v := .int .i64 ((11000 : Nat) : Int)) rfl) rfl (bvl (ltA_eq _ _))) rfl ?_
    refine WO.cV rfl (oLc rfl (oLc (oc (v := .int .i64 ((3 : Nat) : Int)) rfl) oz)) rfl (ens_spec _ (decide_eq_true (by first | omega | (rw [Nat.sub_self]; decide))) _) SubR.nil rfl ?_
    refine WO.nil ?_
    refine End.K ?_
    refine W.seq ?_
    refine W.reg ?_
    refine WO.q (Q.move rfl) rfl ?_
    refine WO.call0 rfl (oLc rfl oz) rfl (tree_spec hs hro M vm hM hok o pb xpb) (SubR.t (SubR.cons0 (SubR.s hro))) rfl (fun v55 D55 hP55 => ?_)
    obtain ⟨u55, rfl, hP55⟩ := hP55
    refine WO.subH (hs' := _ :: _ :: (hs ++ D55)) (SubH.op (perm_tail (N := []) (G := D55) (K := [_, _]) (X := hs))) ?_
    refine WO.q (Q.move rfl) rfl ?_
    refine WO.q (Q.extract rfl rfl) rfl ?_
    refine WO.q (Q.extract rfl rfl) rfl ?_
    refine WO.alloc ao53 rfl (fun b2 => ?_)
    refine zS sz53 rfl rfl (i := 0) rfl (andb rfl (andb rfl (andb rfl (andb rfl (andb (OwnE.cell hP55) rfl))))) rfl (hs' := _ :: _ :: _ :: _) rfl ?_
    refine WO.q (Q.assign rfl) rfl ?_
    refine WO.nil ?_
    refine End.K ?_
    refine W.sub (SubS.cons (k := 8) rfl (SubS.cons (k := 7) rfl (SubS.cons (k := 0) rfl (SubS.nil _)))) ?_
    refine W.seq ?_
    refine W.reg ?_
    refine WO.q (Q.move rfl) rfl ?_
    refine WO.cV rfl (oLc rfl oz) rfl must_zero SubR.nil rfl ?_
    refine WO.nil ?_
    refine End.K ?_
    refine W.seq ?_
    refine W.reg ?_
    refine WO.q (zL rfl (mem_at (i := 0) rfl) ag53 sz53 rfl) rfl ?_
    refine WO.cV rfl (oLc rfl oz) rfl (type1 o _ (OwnE.cell hP55)) SubR.nil rfl ?_
    refine WO.q (Q.move rfl) rfl ?_
    refine WO.q (Q.extract rfl rfl) rfl ?_
    refine WO.q (Q.extract rfl rfl) rfl ?_
    refine WO.q (Q.assign rfl) rfl ?_
    refine WO.q (Q.assign rfl) rfl ?_
    refine WO.nil ?_
    refine End.K ?_
    refine W.seq ?_
    refine W.reg ?_
    refine WO.q (Q.move rfl) rfl ?_
    refine WO.cV rfl (oLc rfl oz) rfl must_zero SubR.nil rfl ?_
    refine WO.nil ?_
    refine End.K ?_
    refine W.seq ?_
    refine W.reg ?_
    refine WO.q (Q.move rfl) rfl ?_
    refine WO.q (Q.bin rfl (oc (v := .int .i64 ((3 : Nat) : Int)) rfl) rfl (bv_neq (p := true) rfl)) rfl ?_
    refine WO.cV rfl (oLc rfl (oLc (oc (v := .int .i64 ((16 : Nat) : Int)) rfl) oz)) rfl (ens_spec _ rfl _) SubR.nil rfl ?_
    refine WO.nil ?_
    refine End.K ?_
    refine W.sub (SubS.cons (k := 9) rfl (SubS.cons (k := 0) rfl (SubS.nil _))) ?_
    refine W.seq ?_
    refine W.seq ?_
    refine W.reg ?_
    refine WO.q (Q.move rfl) rfl ?_
    refine WO.q (Q.len ud26 rfl rfl) rfl ?_
    refine WO.q (Q.move (oc (v := .int .i64 ((0 : Nat) : Int)) rfl)) rfl ?_
    refine WO.nil ?_
    refine End.K ?_
    refine W.block ?_
    refine W.loop ?_
    refine W.seq ?_
    refine W.reg ?_
    refine WO.q (Q.bin rfl rfl rfl (bvl (p := true) rfl)) rfl ?_
    refine WO.nil ?_
    refine End.K ?_
    refine W.seq ?_
    refine W.condT rfl ?_
    refine W.skip ?_
    refine End.K ?_
    refine W.seq ?_
    refine W.block ?_
    refine W.seq ?_
    refine W.reg ?_
    refine WO.q (Q.iaddrL ud26 sz55 rfl rfl zo (o' := 0) rfl) rfl ?_
    refine WO.q (Q.loadN rfl (mem_at (i := 2) rfl) ag55 sz55 (l := [_, _, _, _, _, _, _, _, _, _, _, _]) rfl) rfl ?_
    refine WO.alloc ao55 rfl (fun b3 => ?_)
    refine WO.store sz55 rfl rfl (i := 0) rfl (andb rfl (andb rfl (andb rfl (andb rfl (andb hM.cell rfl))))) (cs := [_, _, _, _, _, _, _, _, _, _, _, _]) rfl (hs' := _ :: _ :: _ :: _ :: _) rfl ?_
    refine WO.nil ?_
    refine End.K ?_
    refine W.seq ?_
    refine W.reg ?_
    refine WO.q (Q.fieldAddr fa55_0 rfl (o' := 0) rfl) rfl ?_
    refine WO.q (zL rfl (mem_at (i := 0) rfl) ag53 sz53 rfl) rfl ?_
    refine WO.alloc ao53 rfl (fun b4 => ?_)
    refine zS sz53 rfl rfl (i := 0) rfl (andb rfl (andb rfl (andb rfl (andb rfl (andb hM.cell rfl))))) rfl (hs' := _ :: _ :: _ :: _ :: _ :: _) rfl ?_
    refine WO.nil ?_
    refine End.K ?_
    refine W.seq ?_
    refine W.reg ?_
    refine WO.q (Q.fieldAddr fa53_0 rfl (o' := 0) rfl) rfl ?_
    refine WO.q (Q.l1 rfl (mem_at (i := 0) rfl) ag3 rfl) rfl ?_
    refine WO.q (Q.bin rfl (oc (v := .int .i64 ((1 : Nat) : Int)) rfl) rfl (bv_neq (p := true) rfl)) rfl ?_
    refine WO.q (Q.move rfl) rfl ?_
    refine WO.gF rfl rfl (.inl rfl) rfl ?_
    refine WO.gF rfl rfl (.inl rfl) rfl ?_
    refine WO.gF rfl rfl (.inl rfl) rfl ?_
    refine WO.q (Q.pT rfl rfl) rfl ?_
    refine WO.cV rfl (oLc rfl (oLc (oc (v := .int .i64 ((2 : Nat) : Int)) rfl) oz)) rfl (ens_spec _ rfl _) SubR.nil rfl ?_
    refine WO.nil ?_
    refine End.K ?_
    refine W.sub (SubS.cons (k := 12) rfl (SubS.cons (k := 72) rfl (SubS.cons (k := 71) rfl (SubS.cons (k := 70) rfl (SubS.cons (k := 9) rfl (SubS.nil _)))))) ?_
    refine W.reg ?_
    refine WO.q (Q.fieldAddr fa53_0 rfl (o' := 0) rfl) rfl ?_
    refine WO.q (Q.l1 rfl (mem_at (i := 0) rfl) ag3 rfl) rfl ?_
    refine WO.q (Q.bin rfl (oc (v := .int .i64 ((2 : Nat) : Int)) rfl) rfl (bv_neq (p := false) rfl)) rfl ?_
    refine WO.q (Q.move rfl) rfl ?_
    refine WO.gT rfl rfl ?_
    refine WO.q (Q.fieldAddr fa53_4 rfl (o' := 4) rfl) rfl ?_
    refine WO.gT rfl rfl ?_
    refine WO.q (Q.l1 rfl (mem_at (i := 0) rfl) ag3 rfl) rfl ?_
    refine WO.gT rfl rfl ?_
    refine WO.q (Q.bin rfl (oc (v := .int .i64 ((0 : Nat) : Int)) rfl) rfl (bv_geq (p := true) rfl)) rfl ?_
    refine WO.gT rfl rfl ?_
    refine WO.q (Q.move rfl) rfl ?_
    refine WO.gT rfl rfl ?_
    refine WO.q (Q.fieldAddr fa53_4 rfl (o' := 4) rfl) rfl ?_
    refine WO.gT rfl rfl ?_
    refine WO.q (Q.l1 rfl (mem_at (i := 0) rfl) ag3 rfl) rfl ?_
    refine WO.gT rfl rfl ?_
    refine WO.q (Q.bin rfl (oc (v := .int .i64 ((2147483648 : Nat) : Int)) rfl) rfl (bv_leq (p := true) rfl)) rfl ?_
    refine WO.gT rfl rfl ?_
    refine WO.q (Q.pT rfl rfl) rfl ?_
    refine WO.gT rfl rfl ?_
    refine WO.q (Q.move rfl) rfl ?_
    refine WO.gT rfl rfl ?_
    refine WO.q (Q.fieldAddr fa53_5 rfl (o' := 5) rfl) rfl ?_
    refine WO.gT rfl rfl ?_
    refine WO.q (Q.l1 rfl (mem_at (i := 0) rfl) ag3 rfl) rfl ?_
    refine WO.gT rfl rfl ?_
    refine WO.q (Q.bin rfl (oc (v := .int .i64 ((0 : Nat) : Int)) rfl) rfl (bv_geq le_nat)) rfl ?_
    refine WO.gT rfl rfl ?_
    refine WO.q (Q.pT rfl rfl) rfl ?_
    refine WO.gT rfl rfl ?_
    refine WO.q (Q.move rfl) rfl ?_
    refine WO.sD (d := 104) rfl (fun hc104 => ?_) (fun hc104 => ?_)
    ·skip -- tttt
     refine WO.gT rfl rfl ?_
     refine WO.q (Q.fieldAddr fa53_5 rfl (o' := 5) rfl) rfl ?_
     refine WO.gT rfl rfl ?_
     refine WO.q (Q.l1 rfl (mem_at (i := 0) rfl) ag3 rfl) rfl ?_
     refine WO.gT rfl rfl ?_
     refine WO.q (Q.bin rfl (oc (v := .int .i64 ((2147483648 : Nat) : Int)) rfl) rfl (bv_leq le_nat)) rfl ?_
     refine WO.gT rfl rfl ?_
     refine WO.q (Q.pT rfl rfl) rfl ?_
     refine WO.q (Q.pF rfl rfl) rfl ?_
     refine WO.cV rfl (oLc rfl (oLc (oc (v := .int .i64 ((2 : Nat) : Int)) rfl) oz)) rfl (ens_spec _ (decide_eq_true (by first | omega | (rw [Nat.sub_self]; decide))) _) SubR.nil rfl ?_
     refine WO.nil ?_
     refine End.KB (End.K ?_)
     refine W.sub (SubS.cons (k := 72) rfl (SubS.cons (k := 71) rfl (SubS.cons (k := 70) rfl (SubS.cons (k := 9) rfl (SubS.nil _))))) ?_
     refine W.reg ?_
     refine WO.q (Q.bin rfl (oc (v := .int .i64 ((1 : Nat) : Int)) rfl) rfl (bv_add (c := (((1 : Nat)) : Int)) (by decide))) rfl ?_
     refine WO.q (Q.move rfl) rfl ?_
     refine WO.nil ?_
     refine End.KL ?_
     refine W.loop ?_
     refine W.seq ?_
     refine W.reg ?_
     refine WO.q (Q.bin rfl rfl rfl (bvl (p := false) rfl)) rfl ?_
     refine WO.nil ?_
     refine End.K ?_
     refine W.seq ?_
     refine W.condF rfl ?_
     refine W.exit ?_
     refine End.Kx (End.Lx (End.Bh (End.K ?_)))
     refine W.seq ?_
     refine W.reg ?_
     refine WO.q (Q.move rfl) rfl ?_
     refine WO.q (Q.assign rfl) rfl ?_
     refine WO.nil ?_
     refine End.K ?_
     refine W.ret ?_
     refine End.rV (ResL.tmp rfl ResL.nil) ?_
     rfl
    ·exfalso; omega
   ·exfalso; omega
  ·exfalso; omega
 ·exfalso; omega

end Go.Proofs.YtfkbfnpjggkdmaaGreatDoor.Ev
