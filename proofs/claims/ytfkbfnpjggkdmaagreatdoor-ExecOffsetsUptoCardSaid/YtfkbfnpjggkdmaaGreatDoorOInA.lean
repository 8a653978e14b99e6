/- Chapters 6 and 8, by the document: names, and whether a matcher may be, as far as they end. -/
import Derived.Test.YtfkbfnpjggkdmaaGreatDoorOVi
import Derived.Test.YtfkbfnpjggkdmaaGreatDoorOEqS
import Derived.Test.YtfkbfnpjggkdmaaGreatDoorOAwJ
import Derived.Test.YtfkbfnpjggkdmaaGreatDoorRows
import Derived.Deep.SlicePairs
import Derived.Deep.Strs
namespace Go.Proofs.YtfkbfnpjggkdmaaGreatDoor.Ev.P7
open Go.RowKit
set_option maxRecDepth 100000
set_option maxHeartbeats 1000000
theorem nam_spec (s : List Nat) (hs : Bytes s) (hl : s.length ≤ 1048576) : Spec tab 72 [.str s] [] [] (ValE (fun v => ∃ b : Bool, v = .bool b)) := by
 refine Spec.en (ftg 72 Tryz.func72) rfl (m := 54) rfl (rs := [.tmp 2]) rfl (st := [(0, .str s)]) rfl rfl (fun _ => rfl) (fun E => ?_)
 refine W.seq ?_
 refine W.reg ?_
 refine WO.q (Q.assign rfl) rfl ?_
 refine WO.nil ?_
 refine End.K ?_
 refine W.seq ?_
 refine W.seq ?_
 refine W.reg ?_
 refine WO.q (Q.assign (oc (v := .int .i64 ((0 : Nat) : Int)) rfl)) rfl ?_
 refine WO.nil ?_
 refine End.K ?_
 refine W.block ?_
 refine W.loop_ind (fun (i : Nat) => [(0, .str s), (3, .int .i64 ((i : Nat) : Int))]) (fun _ => _) (fun (i : Nat) => i ≤ s.length) (fun (i : Nat) => s.length - i) (0) (Nat.zero_le _) (SubS.cons rfl (SubS.cons rfl (SubS.nil _))) (SubH.refl _) (fun i hI0 ih0 => ?_)
 have hi := hI0
 refine W.seq ?_
 refine W.seq ?_
 refine W.reg ?_
 refine WO.q (Q.move rfl) rfl ?_
 refine WO.q (Q.move rfl) rfl ?_
 refine WO.q (Q.len ud9 rfl rfl) rfl ?_
 refine WO.q (Q.bin rfl rfl rfl (bvl ltn)) rfl ?_
 refine WO.nil ?_
 refine End.K ?_
 refine W.cD rfl (fun hc9 => ?_) (fun hc9 => ?_)
 ·skip -- L0T
  refine W.skip ?_
  refine End.K ?_
  refine W.seq ?_
  refine W.block ?_
  refine W.seq ?_
  refine W.reg ?_
  refine WO.q (Q.move rfl) rfl ?_
  refine WO.q (Q.move rfl) rfl ?_
  refine WO.indexB hs ud9 rfl rfl zo rfl (fun c14 hd14 hb14 => ?_)
  refine WO.q (Q.assign rfl) rfl ?_
  refine WO.nil ?_
  refine End.K ?_
  refine W.seqK1 (fun (lt : Bool) => [(0, .str s), (3, .int .i64 ((i : Nat) : Int)), (4, .int .u8 ((c14 : Nat) : Int)), (5, .bool lt)]) (fun (lt : Bool) => True) (fun lt hI6 => ?_) (fun hJ6 => ?_)
  ·skip -- L0TJ6
   refine W.seq ?_
   refine W.reg ?_
   refine WO.q (Q.move rfl) rfl ?_
   refine WO.q (Q.not rfl rfl) rfl ?_
   refine WO.q (Q.move rfl) rfl ?_
   refine WO.split (d := 35) rfl (fun hc35 => ?_) (fun hc35 => ?_)
   ·skip -- L0TJ6t
    refine WO.gT rfl rfl ?_
    refine WO.q (Q.move rfl) rfl ?_
    refine WO.gT rfl rfl ?_
    refine WO.q (Q.bin rfl (oc (v := .int .i64 ((0 : Nat) : Int)) rfl) rfl (bv_eql eq_nat)) rfl ?_
    refine WO.gT rfl rfl ?_
    refine WO.q (Q.move rfl) rfl ?_
    refine WO.sD (d := 38) rfl (fun hc38 => ?_) (fun hc38 => ?_)
    ·skip -- L0TJ6tt
     refine WO.gF rfl rfl (.inl rfl) rfl ?_
     refine WO.gF rfl rfl (.inl rfl) rfl ?_
     refine WO.gT rfl rfl ?_
     refine WO.q (Q.pT rfl rfl) rfl ?_
     refine WO.gT rfl rfl ?_
     refine WO.q (Q.move rfl) rfl ?_
     refine WO.gF rfl rfl (.inl rfl) rfl ?_
     refine WO.gF rfl rfl (.inl rfl) rfl ?_
     refine WO.gT rfl rfl ?_
     refine WO.q (Q.pT rfl rfl) rfl ?_
     refine WO.q (Q.pT rfl rfl) rfl ?_
     refine WO.nil ?_
     refine End.K ?_
     refine W.sub (SubS.cons (k := 46) rfl (SubS.cons (k := 0) rfl (SubS.cons (k := 3) rfl (SubS.nil _)))) ?_
     refine W.condT rfl ?_
     refine W.seq ?_
     refine W.reg ?_
     refine WO.q (Q.assign rfl) rfl ?_
     refine WO.nil ?_
     refine End.K ?_
     refine W.ret ?_
     refine End.Br (End.Kr (End.Lr (End.Br (End.Kr (End.retE (ResL.tmp rfl ResL.nil) ?_)))))
     exact ⟨_, rfl⟩
    ·skip -- L0TJ6tf
     refine WO.gT rfl rfl ?_
     refine WO.q (Q.move rfl) rfl ?_
     refine WO.gT rfl rfl ?_
     refine WO.q (Q.bin rfl (oc (v := .int .u8 ((48 : Nat) : Int)) rfl) rfl (bvl ltn)) rfl ?_
     refine WO.gT rfl rfl ?_
     refine WO.q (Q.pF rfl rfl) rfl ?_
     refine WO.gT rfl rfl ?_
     refine WO.q (Q.move rfl) rfl ?_
     refine WO.sD (d := 42) rfl (fun hc42 => ?_) (fun hc42 => ?_)
     ·skip -- L0TJ6tft
      refine WO.gF rfl rfl (.inl rfl) rfl ?_
      refine WO.gF rfl rfl (.inl rfl) rfl ?_
      refine WO.gT rfl rfl ?_
      refine WO.q (Q.pT rfl rfl) rfl ?_
      refine WO.q (Q.pT rfl rfl) rfl ?_
      refine WO.nil ?_
      refine End.K ?_
      refine W.sub (SubS.cons (k := 46) rfl (SubS.cons (k := 0) rfl (SubS.cons (k := 3) rfl (SubS.nil _)))) ?_
      refine W.condT rfl ?_
      refine W.seq ?_
      refine W.reg ?_
      refine WO.q (Q.assign rfl) rfl ?_
      refine WO.nil ?_
      refine End.K ?_
      refine W.ret ?_
      refine End.Br (End.Kr (End.Lr (End.Br (End.Kr (End.retE (ResL.tmp rfl ResL.nil) ?_)))))
      exact ⟨_, rfl⟩
     ·skip -- L0TJ6tff
      refine WO.gT rfl rfl ?_
      refine WO.q (Q.move rfl) rfl ?_
      refine WO.gT rfl rfl ?_
      refine WO.q (Q.bin rfl (oc (v := .int .u8 ((57 : Nat) : Int)) rfl) rfl (bv_gtr ltn)) rfl ?_
      refine WO.gT rfl rfl ?_
      refine WO.q (Q.pF rfl rfl) rfl ?_
      refine WO.q (Q.pT rfl rfl) rfl ?_
      refine WO.nil ?_
      refine End.K ?_
      refine W.sub (SubS.cons (k := 46) rfl (SubS.cons (k := 0) rfl (SubS.cons (k := 3) rfl (SubS.nil _)))) ?_
      refine W.cD rfl (fun hc46 => ?_) (fun hc46 => ?_)
      ·skip -- L0TJ6tffT
       refine W.seq ?_
       refine W.reg ?_
       refine WO.q (Q.assign rfl) rfl ?_
       refine WO.nil ?_
       refine End.K ?_
       refine W.ret ?_
       refine End.Br (End.Kr (End.Lr (End.Br (End.Kr (End.retE (ResL.tmp rfl ResL.nil) ?_)))))
       exact ⟨_, rfl⟩
      ·skip -- L0TJ6tffF
       refine W.skip ?_
       refine End.KB (End.K ?_)
       refine W.reg ?_
       refine WO.q (Q.move rfl) rfl ?_
       refine WO.q (Q.bin rfl (oc (v := .int .i64 ((1 : Nat) : Int)) rfl) rfl (bv_add (wna zo))) rfl ?_
       refine WO.q (Q.assign rfl) rfl ?_
       refine WO.nil ?_
       refine End.KL ?_
       refine W.sub (SubS.cons rfl (SubS.cons rfl (SubS.nil _))) (ih0 (i + 1) ?_ ?_)
       ·exact (by omega)
       ·exact zo
   ·skip -- L0TJ6f
    refine WO.gF rfl rfl (.inl rfl) rfl ?_
    refine WO.gF rfl rfl (.inl rfl) rfl ?_
    refine WO.gF rfl rfl (.inl rfl) rfl ?_
    refine WO.gF rfl rfl (.inr rfl) rfl ?_
    refine WO.gF rfl rfl (.inr rfl) rfl ?_
    refine WO.gF rfl rfl (.inl rfl) rfl ?_
    refine WO.gF rfl rfl (.inl rfl) rfl ?_
    refine WO.gF rfl rfl (.inr rfl) rfl ?_
    refine WO.gF rfl rfl (.inr rfl) rfl ?_
    refine WO.gF rfl rfl (.inl rfl) rfl ?_
    refine WO.q (Q.pF rfl rfl) rfl ?_
    refine WO.nil ?_
    refine End.K ?_
    refine W.sub (SubS.cons (k := 46) rfl (SubS.cons (k := 0) rfl (SubS.cons (k := 3) rfl (SubS.nil _)))) ?_
    refine W.condF rfl ?_
    refine W.skip ?_
    refine End.KB (End.K ?_)
    refine W.reg ?_
    refine WO.q (Q.move rfl) rfl ?_
    refine WO.q (Q.bin rfl (oc (v := .int .i64 ((1 : Nat) : Int)) rfl) rfl (bv_add (wna zo))) rfl ?_
    refine WO.q (Q.assign rfl) rfl ?_
    refine WO.nil ?_
    refine End.KL ?_
    refine W.sub (SubS.cons rfl (SubS.cons rfl (SubS.nil _))) (ih0 (i + 1) ?_ ?_)
    ·exact (by omega)
    ·exact zo
  ·skip
   refine W.reg ?_
   refine WO.q (Q.move rfl) rfl ?_
   refine WO.q (Q.bin rfl (oc (v := .int .u8 ((97 : Nat) : Int)) rfl) rfl (bv_geq le_nat)) rfl ?_
   refine WO.q (Q.move rfl) rfl ?_
   refine WO.sD (d := 17) rfl (fun hc17 => ?_) (fun hc17 => ?_)
   ·skip -- L0Tt
    refine WO.gT rfl rfl ?_
    refine WO.q (Q.move rfl) rfl ?_
    refine WO.gT rfl rfl ?_
    refine WO.q (Q.bin rfl (oc (v := .int .u8 ((122 : Nat) : Int)) rfl) rfl (bv_leq le_nat)) rfl ?_
    refine WO.q (Q.pT rfl rfl) rfl ?_
    refine WO.q (Q.move rfl) rfl ?_
    refine WO.sD (d := 21) rfl (fun hc21 => ?_) (fun hc21 => ?_)
    ·skip -- L0Ttt
     refine WO.gF rfl rfl (.inl rfl) rfl ?_
     refine WO.gF rfl rfl (.inl rfl) rfl ?_
     refine WO.gF rfl rfl (.inl rfl) rfl ?_
     refine WO.gF rfl rfl (.inr rfl) rfl ?_
     refine WO.gF rfl rfl (.inr rfl) rfl ?_
     refine WO.gF rfl rfl (.inl rfl) rfl ?_
     refine WO.q (Q.pT rfl rfl) rfl ?_
     refine WO.q (Q.move rfl) rfl ?_
     refine WO.gF rfl rfl (.inl rfl) rfl ?_
     refine WO.gF rfl rfl (.inl rfl) rfl ?_
     refine WO.q (Q.pT rfl rfl) rfl ?_
     refine WO.q (Q.assign rfl) rfl ?_
     refine WO.nil ?_
     refine End.K (W.sub (SubS.cons rfl (SubS.cons rfl (SubS.cons rfl (SubS.cons rfl (SubS.nil _))))) (hJ6 (_) ?_))
     exact trivial
    ·skip -- L0Ttf
     refine WO.gT rfl rfl ?_
     refine WO.q (Q.move rfl) rfl ?_
     refine WO.gT rfl rfl ?_
     refine WO.q (Q.bin rfl (oc (v := .int .u8 ((65 : Nat) : Int)) rfl) rfl (bv_geq le_nat)) rfl ?_
     refine WO.gT rfl rfl ?_
     refine WO.q (Q.move rfl) rfl ?_
     refine WO.sD (d := 24) rfl (fun hc24 => ?_) (fun hc24 => ?_)
     ·skip -- L0Ttft
      refine WO.gT rfl rfl ?_
      refine WO.q (Q.move rfl) rfl ?_
      refine WO.gT rfl rfl ?_
      refine WO.q (Q.bin rfl (oc (v := .int .u8 ((90 : Nat) : Int)) rfl) rfl (bv_leq le_nat)) rfl ?_
      refine WO.gT rfl rfl ?_
      refine WO.q (Q.pT rfl rfl) rfl ?_
      refine WO.q (Q.pF rfl rfl) rfl ?_
      refine WO.q (Q.move rfl) rfl ?_
      refine WO.sD (d := 29) rfl (fun hc29 => ?_) (fun hc29 => ?_)
      ·skip -- L0Ttftt
       refine WO.gF rfl rfl (.inl rfl) rfl ?_
       refine WO.gF rfl rfl (.inl rfl) rfl ?_
       refine WO.q (Q.pT rfl rfl) rfl ?_
       refine WO.q (Q.assign rfl) rfl ?_
       refine WO.nil ?_
       refine End.K (W.sub (SubS.cons rfl (SubS.cons rfl (SubS.cons rfl (SubS.cons rfl (SubS.nil _))))) (hJ6 (_) ?_))
       exact trivial
      ·skip -- L0Ttftf
       refine WO.gT rfl rfl ?_
       refine WO.q (Q.move rfl) rfl ?_
       refine WO.gT rfl rfl ?_
       refine WO.q (Q.bin rfl (oc (v := .int .u8 ((95 : Nat) : Int)) rfl) rfl (bv_eql eq_nat)) rfl ?_
       refine WO.q (Q.pF rfl rfl) rfl ?_
       refine WO.q (Q.assign rfl) rfl ?_
       refine WO.nil ?_
       refine End.K (W.sub (SubS.cons rfl (SubS.cons rfl (SubS.cons rfl (SubS.cons rfl (SubS.nil _))))) (hJ6 (_) ?_))
       exact trivial
     ·skip -- L0Ttff
      refine WO.gF rfl rfl (.inl rfl) rfl ?_
      refine WO.gF rfl rfl (.inl rfl) rfl ?_
      refine WO.gT rfl rfl ?_
      refine WO.q (Q.pF rfl rfl) rfl ?_
      refine WO.q (Q.pF rfl rfl) rfl ?_
      refine WO.q (Q.move rfl) rfl ?_
      refine WO.gT rfl rfl ?_
      refine WO.q (Q.move rfl) rfl ?_
      refine WO.gT rfl rfl ?_
      refine WO.q (Q.bin rfl (oc (v := .int .u8 ((95 : Nat) : Int)) rfl) rfl (bv_eql eq_nat)) rfl ?_
      refine WO.q (Q.pF rfl rfl) rfl ?_
      refine WO.q (Q.assign rfl) rfl ?_
      refine WO.nil ?_
      refine End.K (W.sub (SubS.cons rfl (SubS.cons rfl (SubS.cons rfl (SubS.cons rfl (SubS.nil _))))) (hJ6 (_) ?_))
      exact trivial
   ·skip -- L0Tf
    refine WO.gF rfl rfl (.inl rfl) rfl ?_
    refine WO.gF rfl rfl (.inl rfl) rfl ?_
    refine WO.q (Q.pF rfl rfl) rfl ?_
    refine WO.q (Q.move rfl) rfl ?_
    refine WO.gT rfl rfl ?_
    refine WO.q (Q.move rfl) rfl ?_
    refine WO.gT rfl rfl ?_
    refine WO.q (Q.bin rfl (oc (v := .int .u8 ((65 : Nat) : Int)) rfl) rfl (bv_geq le_nat)) rfl ?_
    refine WO.gT rfl rfl ?_
    refine WO.q (Q.move rfl) rfl ?_
    refine WO.sD (d := 24) rfl (fun hc24 => ?_) (fun hc24 => ?_)
    ·skip -- L0Tft
     refine WO.gT rfl rfl ?_
     refine WO.q (Q.move rfl) rfl ?_
     refine WO.gT rfl rfl ?_
     refine WO.q (Q.bin rfl (oc (v := .int .u8 ((90 : Nat) : Int)) rfl) rfl (bv_leq le_nat)) rfl ?_
     refine WO.gT rfl rfl ?_
     refine WO.q (Q.pT rfl rfl) rfl ?_
     refine WO.q (Q.pF rfl rfl) rfl ?_
     refine WO.q (Q.move rfl) rfl ?_
     refine WO.sD (d := 29) rfl (fun hc29 => ?_) (fun hc29 => ?_)
     ·skip -- L0Tftt
      refine WO.gF rfl rfl (.inl rfl) rfl ?_
      refine WO.gF rfl rfl (.inl rfl) rfl ?_
      refine WO.q (Q.pT rfl rfl) rfl ?_
      refine WO.q (Q.assign rfl) rfl ?_
      refine WO.nil ?_
      refine End.K (W.sub (SubS.cons rfl (SubS.cons rfl (SubS.cons rfl (SubS.cons rfl (SubS.nil _))))) (hJ6 (_) ?_))
      exact trivial
     ·skip -- L0Tftf
      refine WO.gT rfl rfl ?_
      refine WO.q (Q.move rfl) rfl ?_
      refine WO.gT rfl rfl ?_
      refine WO.q (Q.bin rfl (oc (v := .int .u8 ((95 : Nat) : Int)) rfl) rfl (bv_eql eq_nat)) rfl ?_
      refine WO.q (Q.pF rfl rfl) rfl ?_
      refine WO.q (Q.assign rfl) rfl ?_
      refine WO.nil ?_
      refine End.K (W.sub (SubS.cons rfl (SubS.cons rfl (SubS.cons rfl (SubS.cons rfl (SubS.nil _))))) (hJ6 (_) ?_))
      exact trivial
    ·skip -- L0Tff
     refine WO.gF rfl rfl (.inl rfl) rfl ?_
     refine WO.gF rfl rfl (.inl rfl) rfl ?_
     refine WO.gT rfl rfl ?_
     refine WO.q (Q.pF rfl rfl) rfl ?_
     refine WO.q (Q.pF rfl rfl) rfl ?_
     refine WO.q (Q.move rfl) rfl ?_
     refine WO.gT rfl rfl ?_
     refine WO.q (Q.move rfl) rfl ?_
     refine WO.gT rfl rfl ?_
     refine WO.q (Q.bin rfl (oc (v := .int .u8 ((95 : Nat) : Int)) rfl) rfl (bv_eql eq_nat)) rfl ?_
     refine WO.q (Q.pF rfl rfl) rfl ?_
     refine WO.q (Q.assign rfl) rfl ?_
     refine WO.nil ?_
     refine End.K (W.sub (SubS.cons rfl (SubS.cons rfl (SubS.cons rfl (SubS.cons rfl (SubS.nil _))))) (hJ6 (_) ?_))
     exact trivial
 ·skip -- L0F
  refine W.exit ?_
  refine End.Kx (End.Lx (End.Bh (End.K ?_)))
  refine W.seq ?_
  refine W.reg ?_
  refine WO.q (Q.move rfl) rfl ?_
  refine WO.q (Q.bin rfl (oc (v := .str []) (by kernel_rfl)) rfl bv_sneq) rfl ?_
  refine WO.q (Q.move rfl) rfl ?_
  refine WO.sD (d := 49) rfl (fun hc49 => ?_) (fun hc49 => ?_)
  ·skip -- L0Ft
   refine WO.gT rfl rfl ?_
   refine WO.q (Q.move rfl) rfl ?_
   refine WO.gT rfl rfl ?_
   refine WO.q (Q.len ud9 rfl rfl) rfl ?_
   refine WO.gT rfl rfl ?_
   refine WO.q (Q.bin rfl (oc (v := .int .i64 ((32 : Nat) : Int)) rfl) rfl (bv_leq le_nat)) rfl ?_
   refine WO.q (Q.pT rfl rfl) rfl ?_
   refine WO.q (Q.assign rfl) rfl ?_
   refine WO.nil ?_
   refine End.K ?_
   refine W.ret ?_
   refine End.retE (ResL.tmp rfl ResL.nil) ?_
   exact ⟨_, rfl⟩
  ·skip -- L0Ff
   refine WO.gF rfl rfl (.inl rfl) rfl ?_
   refine WO.gF rfl rfl (.inl rfl) rfl ?_
   refine WO.gF rfl rfl (.inl rfl) rfl ?_
   refine WO.q (Q.pF rfl rfl) rfl ?_
   refine WO.q (Q.assign rfl) rfl ?_
   refine WO.nil ?_
   refine End.K ?_
   refine W.ret ?_
   refine End.retE (ResL.tmp rfl ResL.nil) ?_
   exact ⟨_, rfl⟩

theorem mchk_spec (k : Int) (n u : List Nat) (hn : Bytes n) (hu : Bytes u) (hnl : n.length ≤ 1048576) (hul : u.length ≤ 1048576) : Spec tab 92 [.agg [.int .i64 k, .str n, .str u]] [] [] (ValE (fun v => ∃ x : Int, v = .int .i64 x)) := by
 refine Spec.en (ftg 92 Tryz.func92) rfl (m := 25) rfl (rs := [.tmp 2]) rfl (st := [(0, .agg [.int .i64 k, .str n, .str u])]) rfl rfl (fun _ => rfl) (fun E => ?_)
 refine W.seq ?_
 refine W.reg ?_
 refine WO.box rfl rfl (bx62 _ rfl) rfl (fun b1 => ?_)
 refine WO.q (Q.assign (oc (v := .int .i64 ((0 : Nat) : Int)) rfl)) rfl ?_
 refine WO.nil ?_
 refine End.K ?_
 refine W.seq ?_
 refine W.seq ?_
 refine W.reg ?_
 refine WO.q (Q.fieldAddr fa62_0 rfl (o' := 0) rfl) rfl ?_
 refine WO.q (Q.l1 rfl (mem_at (i := 0) rfl) ag3 rfl) rfl ?_
 refine WO.q (Q.bin rfl (oc (v := .int .i64 ((1 : Nat) : Int)) rfl) rfl (bvl (ltA_eq _ _))) rfl ?_
 refine WO.q (Q.move rfl) rfl ?_
 refine WO.sD (d := 6) rfl (fun hc6 => ?_) (fun hc6 => ?_)
 ·skip -- t
  refine WO.gF rfl rfl (.inl rfl) rfl ?_
  refine WO.gF rfl rfl (.inl rfl) rfl ?_
  refine WO.gF rfl rfl (.inl rfl) rfl ?_
  refine WO.q (Q.pT rfl rfl) rfl ?_
  refine WO.nil ?_
  refine End.K ?_
  refine W.condT rfl ?_
  refine W.seq ?_
  refine W.reg ?_
  refine WO.q (Q.assign (oc (v := .int .i64 ((2 : Nat) : Int)) rfl)) rfl ?_
  refine WO.nil ?_
  refine End.K ?_
  refine W.ret ?_
  refine End.Kr (End.retE (ResL.tmp rfl ResL.nil) ?_)
  exact ⟨_, rfl⟩
 ·skip -- f
  refine WO.gT rfl rfl ?_
  refine WO.q (Q.fieldAddr fa62_0 rfl (o' := 0) rfl) rfl ?_
  refine WO.gT rfl rfl ?_
  refine WO.q (Q.l1 rfl (mem_at (i := 0) rfl) ag3 rfl) rfl ?_
  refine WO.gT rfl rfl ?_
  refine WO.q (Q.bin rfl (oc (v := .int .i64 ((4 : Nat) : Int)) rfl) rfl (bv_gtr (ltA_eq _ _))) rfl ?_
  refine WO.q (Q.pF rfl rfl) rfl ?_
  refine WO.nil ?_
  refine End.K ?_
  refine W.cD rfl (fun hc10 => ?_) (fun hc10 => ?_)
  ·skip -- fT
   refine W.seq ?_
   refine W.reg ?_
   refine WO.q (Q.assign (oc (v := .int .i64 ((2 : Nat) : Int)) rfl)) rfl ?_
   refine WO.nil ?_
   refine End.K ?_
   refine W.ret ?_
   refine End.Kr (End.retE (ResL.tmp rfl ResL.nil) ?_)
   exact ⟨_, rfl⟩
  ·skip -- fF
   refine W.skip ?_
   refine End.K ?_
   refine W.seq ?_
   refine W.seq ?_
   refine W.reg ?_
   refine WO.q (Q.fieldAddr fa62_1 rfl (o' := 1) rfl) rfl ?_
   refine WO.q (Q.l1 rfl (mem_at (i := 0) rfl) ag9 rfl) rfl ?_
   refine WO.callE rfl (oLc rfl oz) rfl (nam_spec _ hn (by omega)) SubR.nil rfl (fun v13 hP13 => ?_)
   obtain ⟨nb, rfl⟩ := hP13
   refine WO.q (Q.not rfl rfl) rfl ?_
   refine WO.nil ?_
   refine End.K ?_
   refine W.condS rfl (fun hc14 => ?_) (fun hc14 => ?_)
   ·skip -- fFT
    refine W.seq ?_
    refine W.reg ?_
    refine WO.q (Q.assign (oc (v := .int .i64 ((8 : Nat) : Int)) rfl)) rfl ?_
    refine WO.nil ?_
    refine End.K ?_
    refine W.sub (SubS.cons (k := 2) rfl (SubS.nil _)) ?_
    refine W.ret ?_
    refine End.Kr (End.retE (ResL.tmp rfl ResL.nil) ?_)
    exact ⟨_, rfl⟩
   ·skip -- fFF
    refine W.skip ?_
    refine End.K ?_
    refine W.sub (SubS.cons (k := 1) rfl (SubS.nil _)) ?_
    refine W.seq ?_
    refine W.seq ?_
    refine W.reg ?_
    refine WO.q (Q.fieldAddr fa62_2 rfl (o' := 2) rfl) rfl ?_
    refine WO.q (Q.l1 rfl (mem_at (i := 0) rfl) ag9 rfl) rfl ?_
    refine WO.q (Q.len ud9 rfl rfl) rfl ?_
    refine WO.q (Q.bin rfl (oc (v := .int .i64 ((64 : Nat) : Int)) rfl) rfl (bv_gtr ltn)) rfl ?_
    refine WO.nil ?_
    refine End.K ?_
    refine W.cD rfl (fun hc18 => ?_) (fun hc18 => ?_)
    ·skip -- fFFT
     refine W.seq ?_
     refine W.reg ?_
     refine WO.q (Q.assign (oc (v := .int .i64 ((3 : Nat) : Int)) rfl)) rfl ?_
     refine WO.nil ?_
     refine End.K ?_
     refine W.ret ?_
     refine End.Kr (End.retE (ResL.tmp rfl ResL.nil) ?_)
     exact ⟨_, rfl⟩
    ·skip -- fFFF
     refine W.skip ?_
     refine End.K ?_
     refine W.seq ?_
     refine W.seq ?_
     refine W.reg ?_
     refine WO.q (Q.fieldAddr fa62_0 rfl (o' := 0) rfl) rfl ?_
     refine WO.q (Q.l1 rfl (mem_at (i := 0) rfl) ag3 rfl) rfl ?_
     refine WO.q (Q.bin rfl (oc (v := .int .i64 ((2 : Nat) : Int)) rfl) rfl (bv_gtr (ltA_eq _ _))) rfl ?_
     refine WO.nil ?_
     refine End.K ?_
     refine W.cD rfl (fun hc21 => ?_) (fun hc21 => ?_)
     ·skip -- fFFFT
      refine W.seq ?_
      refine W.reg ?_
      refine WO.q (Q.fieldAddr fa62_2 rfl (o' := 2) rfl) rfl ?_
      refine WO.q (Q.l1 rfl (mem_at (i := 0) rfl) ag9 rfl) rfl ?_
      refine WO.callE rfl (oLc rfl oz) rfl (rcheck_spec _ hu (by omega)) SubR.nil rfl (fun v24 hP24 => ?_)
      obtain ⟨x24, rfl, hx24⟩ := hP24
      refine WO.q (Q.assign rfl) rfl ?_
      refine WO.nil ?_
      refine End.K ?_
      refine W.ret ?_
      refine End.Kr (End.retE (ResL.tmp rfl ResL.nil) ?_)
      exact ⟨_, rfl⟩
     ·skip -- fFFFF
      refine W.skip ?_
      refine End.K ?_
      refine W.seq ?_
      refine W.reg ?_
      refine WO.q (Q.assign (oc (v := .int .i64 ((0 : Nat) : Int)) rfl)) rfl ?_
      refine WO.nil ?_
      refine End.K ?_
      refine W.ret ?_
      refine End.retE (ResL.tmp rfl ResL.nil) ?_
      exact ⟨_, rfl⟩
end Go.Proofs.YtfkbfnpjggkdmaaGreatDoor.Ev.P7
/- The tables of the program, with what is known of calls (chapter 21): the examples, and what is reckoned of texts alone. -/
namespace Go.Proofs.YtfkbfnpjggkdmaaGreatDoor.Ev
open Go.RowKit
set_option maxRecDepth 100000
noncomputable section
def flat1 : AV → Bool
 | .bool _ => true
 | .int _ _ => true
 | .str _ => true
 | _ => false
def flat2 : AV → Bool
 | .agg l => l.all flat1
 | .tuple l => l.all flat1
 | v => flat1 v
theorem flat1_rel {M M' : Inj} {v : AV} {u : Value} (hf : flat1 v = true) (h : VRel M v u) : VRel M' v u := by
 cases h <;> first | (cases hf; done) | skip
 ·exact .bool _
 ·exact .int _ _
 ·rename_i s l h; exact .str s l h
theorem flat2_rel {M M' : Inj} {v : AV} {u : Value} (hf : flat2 v = true) (h : VRel M v u) : VRel M' v u := by
 cases h with
 | agg l cs hs h => exact .agg l cs hs fun i a b ha hb => flat1_rel (List.all_eq_true.1 hf a (List.mem_of_getElem? ha)) (h i a b ha hb)
 | tuple l cs hs h => exact .tuple l cs hs fun i a b ha hb => flat1_rel (List.all_eq_true.1 hf a (List.mem_of_getElem? ha)) (h i a b ha hb)
 | bool b => exact .bool b
 | int k n => exact .int k n
 | str s l h => exact .str s l h
 | _ => cases hf
def pureA (f : Nat) (args : List AV) : Option AV :=
 match callE P7.tab f args ⟨0, .leaf⟩ with
 | .ok v _ => match args.all flat2 && flat2 v with
  | true => some v
  | false => none
 | .bad => none
def orc (f : Nat) (args : List AV) (h : AHeap) : Option AV :=
 match Nat.beq f 12 with
 | true => match args with
  | [] => some (.bool true)
  | _ => none
 | false => match Nat.beq f 92 with
  | true => pureA f args
  | false => match Nat.beq f 165 with
   | true => pureA f args
   | false => none
def tab : Tab := (tabOf Tryz.prog).knows (fun _ _ _ _ => none) (fun _ _ => none) orc
theorem hs_empty : HS ⟨⟨0, .leaf⟩, []⟩ [] ⟨0, .leaf⟩ := ⟨fun e h => (by simp at h), List.nodup_nil, Fr.refl _ _⟩
theorem pure_of {f : Nat} {args : List AV} {P : AV → Prop} (h : Spec P7.tab f args [] [] (ValE P)) (ha : args.all flat2 = true) (hP : ∀ v, P v → flat2 v = true) : ∃ v, pureA f args = some v ∧ P v := by
 obtain ⟨v, h', D, hE, ⟨hv, _⟩, _⟩ := h ⟨0, .leaf⟩ hs_empty
 refine ⟨v, ?_, hv⟩
 unfold pureA
 rw [callE_eq hE]
 simp only [ha, hP v hv, Bool.and_self]
abbrev MtT := Int × List Nat × List Nat
def mC (x : MtT) : List AV := [.int .i64 x.1, .str x.2.1, .str x.2.2]
def chkV (m : MtT) : Int := match pureA 92 [.agg (mC m)] with
 | some (.int .i64 x) => x
 | _ => 0
def fitV (p s : List Nat) : Bool := match pureA 165 [.str p, .str s] with
 | some (.tuple [.bool b, _]) => b
 | _ => false
def MtOk (m : MtT) : Prop := Bytes m.2.1 ∧ m.2.1.length ≤ 1048576 ∧ Bytes m.2.2 ∧ m.2.2.length ≤ 1048576
theorem chk_spec {hs : HSt} {m : MtT} (h : MtOk m) : Spec tab 92 [.agg (mC m)] [] hs (Val (.int .i64 (chkV m))) := by
 obtain ⟨v, h1, x, rfl⟩ := pure_of (P7.mchk_spec m.1 m.2.1 m.2.2 h.1 h.2.2.1 h.2.1 h.2.2.2) rfl (fun v ⟨x, hx⟩ => by subst hx; rfl)
 have e : chkV m = x := by
  unfold chkV
  rw [show mC m = [.int .i64 m.1, .str m.2.1, .str m.2.2] from rfl, h1]
 rw [e]
 exact Spec.known fun hp => h1
theorem fits_spec {hs : HSt} {p s : List Nat} (hp : Bytes p) (hl : p.length ≤ 1048576) (hS : Bytes s) (hsl : s.length ≤ 1048576) : Spec tab 165 [.str p, .str s] [] hs (ValE fun v => ∃ e : Int, v = .tuple [.bool (fitV p s), .int .i64 e]) := by
 obtain ⟨v, h1, b, e, rfl⟩ := pure_of (P7.rfits_spec p hp hl s hS hsl) rfl (fun v ⟨b, e, hx⟩ => by subst hx; rfl)
 have hb : fitV p s = b := by
  unfold fitV
  rw [h1]
 rw [hb]
 exact (Spec.known (v := .tuple [.bool b, .int .i64 e]) fun hp => h1).mono fun v D ⟨g1, g2⟩ => ⟨⟨e, g1⟩, g2⟩
theorem must_pos (n : Nat) (h : AHeap) (K : Nat) : evCall tab (run tab K) 88 [.int .i64 (Int.ofNat (n + 1))] h = none := by
 rcases K with _ | _ | _ | _ | K <;> kernel_rfl
theorem must_neg (n : Nat) (h : AHeap) (K : Nat) : evCall tab (run tab K) 88 [.int .i64 (Int.negSucc n)] h = none := by
 rcases K with _ | _ | _ | _ | K <;> kernel_rfl
instance shyE : Shy xcfg tab where
 shy := by
  intro f args l ht K h
  obtain ⟨e, hf, ha, he⟩ : ∃ e, f = 88 ∧ args = [.int .i64 e] ∧ eqA e 0 = false := by
   change thrX f args = some l at ht
   unfold thrX at ht
   split at ht
   ·rename_i x
    split at ht
    ·rename_i hf hx
     exact ⟨x, Nat.eq_of_beq_eq_true hf, rfl, hx⟩
    ·cases ht
   ·cases ht
  subst hf ha
  rcases e with (_ | n) | n
  ·exact absurd he (by decide)
  ·exact must_pos n h K
  ·exact must_neg n h K
theorem must_zero {hs : HSt} : Spec tab 88 [.int .i64 0] [] hs (Val (.tuple [])) := by
 intro h hh
 exact ⟨.tuple [], h, [], ⟨4, fun K hK => by obtain ⟨k, rfl⟩ : ∃ k, K = k + 4 := ⟨K - 4, by omega⟩; kernel_rfl⟩, ⟨rfl, rfl⟩, fun e he => no_w he, hh.sub (SubH.nil _)⟩
theorem must_x {hs : HSt} (e : Int) : SpecX xcfg tab 88 [.int .i64 e] [] hs (fun v D => (v = .tuple [] ∧ D = []) ∧ e = 0) (fun l => l = [.int .i64 e] ∧ e ≠ 0) := by
 by_cases h : e = 0
 ·subst h
  exact (Spec.x must_zero).mono (B := fun _ => False) (fun v D h => ⟨h, rfl⟩) fun l h => h.elim
 ·refine SpecX.thr (fun _ => rfl) (l := [.int .i64 e]) ?_ ⟨rfl, h⟩
  have : eqA e 0 = false := by rw [eqA_eq]; exact decide_eq_false h
  show (match Nat.beq 88 88, eqA e 0 with
   | true, false => some [AV.int IntKind.i64 e]
   | _, _ => none) = some [.int .i64 e]
  rw [this]
end
theorem flatL_rel {M M' : Inj} {l : List AV} {vs : List Value} (hf : l.all flat2 = true) (h : LRel M l vs) : LRel M' l vs :=
 ⟨h.1, fun i a b ha hb => flat2_rel (List.all_eq_true.1 hf a (List.mem_of_getElem? ha)) (h.2 i a b ha hb)⟩
theorem tab7_is (J : Ctx) : TabOK Tryz.prog P7.tab J := tab_knows (tabP_is J) (fun _ _ _ _ _ h => by cases h) (fun _ _ _ h => by cases h) (fun _ _ _ _ h => by cases h)
theorem pure_ok {l : List Value} {f : Nat} {args : List AV} {v : AV} (h : pureA f args = some v) {M : Inj} {vs : Array Value} (hl : LRel M args vs.toList) (w : World) (hg : HandleAt w) :
  Calls Tryz.prog f vs w fun e w' => ∃ u, e = .returned u ∧ VRel M v u ∧ Below w.heap.size w w' := by
 unfold pureA at h
 split at h
 rotate_left
 ·cases h
 rename_i v0 h0 hc
 split at h
 rotate_left
 ·cases h
 rename_i hf
 cases h
 rw [Bool.and_eq_true] at hf
 obtain ⟨K, hK⟩ := callE_ok P7.tab f args ⟨0, .leaf⟩ _ _ hc
 have hh : HRel (J := ctxX []) (injOf []) (fun k => k < w.heap.size) ⟨w, w.heap.size, fun w' hb => handle_below hg hb, fun _ => False⟩ ⟨0, .leaf⟩ w := ⟨Inj.le_refl _, fun k hk => hk, Keeps.refl _ _, fun k hk => hk, fun b o h => by simp [T.get_leaf] at h, fun b b' o o' i i' h => by simp [T.get_leaf] at h,
  fun b o h => by simp [T.get_leaf] at h, fun b hb => by unfold injOf; rw [List.getElem?_eq_none hb], fun b hb => hb.elim⟩
 obtain ⟨_, hc⟩ := callA_ok (tab7_is (ctxX [])) K _ _ _ _ _ _ _ _ _ _ (hK K (Nat.le_refl K)) (flatL_rel hf.1 hl) hh
 exact hc.mono fun e w' ⟨M', u, h1, _, h3, h4⟩ => ⟨u, h1, flat2_rel hf.2 h4, h3.below.below fun k hk => hk⟩
theorem orcE_ok (l : List Value) : ∀ f args h v, orc f args h = some v → ∀ M N (w0 : Base (ctxX l)) (vs : Array Value) w, HRel M N w0 h w → LRel M args vs.toList →
  (∃ fn, Tryz.prog.funcs[f]? = some fn ∧ fn.body.isSome = true ∧ (fn.name == "runtime.NumGoroutine") = false) ∧
  Calls Tryz.prog f vs w fun e w' => ∃ u, e = .returned u ∧ VRel M v u ∧ Below w.heap.size w w' := by
 intro f args h v ho M N w0 vs w hh hl
 have hg : HandleAt w := w0.ok w (hh.below.below hh.lim)
 unfold orc at ho
 split at ho
 ·rename_i hf
  have hf := Nat.eq_of_beq_eq_true hf
  subst hf
  split at ho
  rotate_left
  ·cases ho
  cases ho
  have hvs : vs = #[] := by
   apply Array.ext'
   have := hl.1
   simpa using this
  subst hvs
  exact ⟨⟨_, Tryz.func12, by kernel_rfl, by kernel_rfl⟩, (lives_any w hg).mono fun e w' ⟨h1, h2⟩ => ⟨_, h1, .bool true, h2⟩⟩
 ·split at ho
  ·rename_i hf
   have hf := Nat.eq_of_beq_eq_true hf
   subst hf
   exact ⟨⟨_, Tryz.func92, by kernel_rfl, by kernel_rfl⟩, pure_ok (l := l) ho hl w hg⟩
  ·split at ho
   ·rename_i hf
    have hf := Nat.eq_of_beq_eq_true hf
    subst hf
    exact ⟨⟨_, Tryz.func165, by kernel_rfl, by kernel_rfl⟩, pure_ok (l := l) ho hl w hg⟩
   ·cases ho
theorem tabE_is (l : List Value) : TabOK Tryz.prog tab (ctxX l) := tab_knows (tabP_is _) (fun _ _ _ _ _ h => by cases h) (fun _ _ _ h => by cases h) (orcE_ok l)
theorem in_relX {w : World} {I : List InB} (h : InOK w I) (hg : HandleAt w) : HRel (J := ctxX []) (injIn I) (fun k => k < w.heap.size) ⟨w, w.heap.size, fun w' hb => handle_below hg hb, fun _ => False⟩ (heapIn I) w := by
 refine ⟨?_, fun k hk => hk, Keeps.refl _ _, fun k hk => hk, ?_, ?_, ?_, ?_, fun b hb => hb.elim⟩
 ·intro b i hb
  have hb : injOf [] b = some i := hb
  simp [injOf] at hb
 ·intro b o hb
  obtain ⟨x, _, h2, h3, rfl⟩ := objsIn_get I 0 b o hb
  rw [Nat.sub_zero] at h2
  obtain ⟨h4, c, e, fr, h5, h6⟩ := h x (List.mem_of_getElem? h2) h3
  exact .inr (.inl ⟨x.bi, c, e, fr, by simp [injIn, h2], h4, h5, (Array.getElem?_eq_some_iff.1 h5).1, rfl, h6⟩)
 ·intro b b' o o' i i' hb hb' hi hi' heq hN
  obtain ⟨x, _, h2, h3, rfl⟩ := objsIn_get I 0 b o hb
  rw [Nat.sub_zero] at h2
  obtain ⟨h4, c, e, fr, h5, h6⟩ := h x (List.mem_of_getElem? h2) h3
  have : injIn I b = some x.bi := by simp [injIn, h2]
  rw [this] at hi
  cases hi
  exact absurd (Array.getElem?_eq_some_iff.1 h5).1 hN
 ·intro b o hb
  obtain ⟨x, _, h2, _⟩ := objsIn_get I 0 b o hb
  have := (List.getElem?_eq_some_iff.1 h2).1
  show b < I.length
  omega
 ·intro b hb
  unfold injIn
  rw [List.getElem?_eq_none hb]
  rfl
theorem in_callX {f : Nat} {args : List AV} {hs : HSt} {v : AV} {u : Value} (h : SpecX xcfg tab f args [] hs (fun r D => r = v ∧ D = []) (fun _ => False)) (hu : conT v = some u) {I : List InB} (hI : SeenIn I hs) {vs : Array Value} (hl : LRel (injIn I) args vs.toList) (w : World) (hw : InOK w I) (hg : HandleAt w) :
  Calls Tryz.prog f vs w fun e w' => e = .returned u ∧ Below w.heap.size w w' := by
 obtain ⟨r, ⟨K0, hE⟩, hR⟩ := h (heapIn I) ⟨fun e he => by
  obtain ⟨h1, x, h2, h3, h4⟩ := hI.2 e he
  refine ⟨?_, (List.getElem?_eq_some_iff.1 h2).1, fun g => by rw [h1] at g; cases g⟩
  have := objsIn_at I 0 e.b x h2 h3
  rw [Nat.zero_add] at this
  rw [h4]
  exact this, hI.1, Fr.refl _ _⟩
 have hE := hE K0 (Nat.le_refl _)
 cases r with
 | boom l h' => exact hR.1.elim
 | ret v' h' =>
  obtain ⟨D, ⟨rfl, _⟩, _, _⟩ := hR
  obtain ⟨_, hc⟩ := (callX_ok (tabE_is []) (cfg_ok fun _ h => h) K0 _ _ _ _ w f args vs hl (in_relX hw hg)).1 _ _ hE
  exact hc.mono fun e w' ⟨M', y, h1, h2, h3, h4⟩ => ⟨by rw [h1, conT_ok hu h4], h3.below.below fun k hk => hk⟩
open Go.RowKit Go.ChangeShapes Go.WideShapes
theorem cell_cells' {w : World} {b o : Nat} {v : Value} (h : w.cell? ⟨b, o, none⟩ = some v) : ∃ c e fr, w.heap[b]? = some (.cells c e fr) ∧ c[o]? = some v := by
 unfold World.cell? at h
 cases hb : w.heap[b]? with
 | none => rw [hb] at h; cases h
 | some x =>
  rw [hb] at h
  cases x with
  | cells c e fr => exact ⟨c, e, fr, rfl, h⟩
  | _ => cases h
theorem bk_one {H : Type} (d : DataW H) : 1 ≤ Rows.uptoBulk d := by
 cases d with
 | lit l => cases l <;> simp [Rows.uptoBulk]
 | nil => simp [Rows.uptoBulk]
 | ptr d => simp [Rows.uptoBulk]
 | slice elems spare => simp [Rows.uptoBulk]
 | agg parts => simp [Rows.uptoBulk]
 | iface t d => simp [Rows.uptoBulk]
 | map entries => simp [Rows.uptoBulk]
 | held h => simp [Rows.uptoBulk]
theorem bk_part {H : Type} {d : DataW H} {l : List (DataW H)} (h : d ∈ l) : Rows.uptoBulk d ≤ Rows.uptoBulkAll l := by
 induction l with
 | nil => cases h
 | cons x r ih =>
  simp only [Rows.uptoBulkAll]
  rcases List.mem_cons.1 h with e | e
  ·subst e; omega
  ·have := ih e; omega
theorem bk_len {H : Type} (l : List (DataW H)) : l.length ≤ Rows.uptoBulkAll l := by
 induction l with
 | nil => simp [Rows.uptoBulkAll]
 | cons x r ih => have := bk_one x; simp only [Rows.uptoBulkAll, List.length_cons]; omega
theorem bk_str {H : Type} (bytes : List UInt8) : Rows.uptoBulk (DataW.lit (H := H) (.string bytes)) = bytes.length + 1 := by simp [Rows.uptoBulk]
theorem bk_pair {H : Type} (x y : DataW H) : Rows.uptoBulk x + Rows.uptoBulk y + 1 = Rows.uptoBulk (.agg [x, y]) := by simp [Rows.uptoBulk, Rows.uptoBulkAll]
instance : Inhabited AV := ⟨.nils⟩
instance : Inhabited InB := ⟨⟨⟨0, 0, 0, 0, undef⟩, true, []⟩⟩
def CellsOK (w : World) (M : Inj) (x : InB) : Prop := x.live = true ∧ x.bi.val = undef ∧ ∃ c e fr, w.heap[x.bi.blk]? = some (.cells c e fr) ∧ ∀ k v, x.cells[k]? = some v → v.isCell = true ∧ ∃ u, c[x.bi.off + k]? = some u ∧ VRel M v u
def strOf : Value → List Nat
 | .string s => s.data.toList.map UInt8.toNat
 | _ => []
theorem str_rel {M : Inj} {s : ByteArray} : VRel M (.str (strOf (.string s))) (.string s) := .str s _ rfl
theorem str_bytes (s : ByteArray) : Bytes (strOf (.string s)) := by
 intro c hc
 obtain ⟨x, _, rfl⟩ := List.mem_map.1 hc
 exact x.toNat_lt
theorem str_len (s : ByteArray) : (strOf (.string s)).length = s.data.toList.length := by simp [strOf]
section
variable {H : Type} {enc : TypeId × Value → H} {P : Program} {w : World} {held : Bool}
def hsIn : Nat → List InB → HSt
 | _, [] => []
 | k, x :: l => ⟨k, ⟨0, false, x.cells⟩, false⟩ :: hsIn (k + 1) l
theorem hsIn_ro : ∀ (l : List InB) (k : Nat), ∀ e ∈ hsIn k l, e.w = false
 | [], k, e, h => by cases h
 | x :: l, k, e, h => by
  rcases List.mem_cons.1 h with rfl | h
  ·rfl
  ·exact hsIn_ro l _ e h
theorem hsIn_mem : ∀ (l : List InB) (k : Nat) (e : HE), e ∈ hsIn k l → ∃ j x, l[j]? = some x ∧ e = ⟨k + j, ⟨0, false, x.cells⟩, false⟩
 | [], k, e, h => by cases h
 | y :: l, k, e, h => by
  rcases List.mem_cons.1 h with rfl | h
  ·exact ⟨0, y, rfl, rfl⟩
  ·obtain ⟨j, x, h1, h2⟩ := hsIn_mem l _ e h
   exact ⟨j + 1, x, by simpa using h1, by rw [h2, show k + 1 + j = k + (j + 1) by omega]⟩
theorem hsIn_nd : ∀ (l : List InB) (k : Nat), ((hsIn k l).map (·.b)).Nodup
 | [], k => List.nodup_nil
 | x :: l, k => by
  show (k :: (hsIn (k + 1) l).map (·.b)).Nodup
  refine List.nodup_cons.2 ⟨fun h => ?_, hsIn_nd l _⟩
  obtain ⟨e, he, hb⟩ := List.mem_map.1 h
  obtain ⟨j, x, _, rfl⟩ := hsIn_mem l _ e he
  simp only at hb
  omega
theorem hsIn_app : ∀ (l m : List InB) (k : Nat), hsIn k (l ++ m) = hsIn k l ++ hsIn (k + l.length) m
 | [], m, k => rfl
 | x :: l, m, k => by
  show _ :: hsIn (k + 1) (l ++ m) = _ :: _
  rw [hsIn_app l m (k + 1), List.length_cons, show k + 1 + l.length = k + (l.length + 1) by omega]; rfl
theorem hsIn_seen {I : List InB} (h : ∀ x ∈ I, x.live = true) : SeenIn I (hsIn 0 I) := by
 refine ⟨hsIn_nd I 0, fun e he => ?_⟩
 obtain ⟨j, x, h1, rfl⟩ := hsIn_mem I 0 e he
 exact ⟨rfl, x, by simpa using h1, h x (List.mem_of_getElem? h1), rfl⟩
theorem slice_there {base : Nat} {t e : TypeId} {v : Value} (hu : P.underlying t = some (.slice e)) (hv : Value.okWide P w .any base t v) : ∀ a len cap, v = .slice (some a) len cap → a.spot = none ∧ ∃ c e fr, w.heap[a.block]? = some (.cells c e fr) := by
 intro a len cap h
 subst h
 simp only [Value.okWide, hu, Cell.okWide, Cell.ok] at hv
 obtain ⟨_, _, h3⟩ := hv
 obtain ⟨_, h4, row, cells, h5, _⟩ := h3
 refine ⟨h4, ?_⟩
 unfold World.shape? at h5
 split at h5
 ·rename_i c e fr hc
  exact ⟨c, e, fr, hc⟩
 ·cases h5
end
end Go.Proofs.YtfkbfnpjggkdmaaGreatDoor.Ev
