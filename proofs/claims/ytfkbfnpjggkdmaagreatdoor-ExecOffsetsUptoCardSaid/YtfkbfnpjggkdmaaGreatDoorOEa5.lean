/- Chapter 18: the samples of a range, the sample of a moment. -/
import Derived.Test.YtfkbfnpjggkdmaaGreatDoorOAwS
namespace Go.Proofs.YtfkbfnpjggkdmaaGreatDoor.Ev
open Go.RowKit
set_option maxRecDepth 100000
set_option maxHeartbeats 1000000
def srF (g : Nat → Bool) : Nat → Nat → Nat → Nat
 | 0, i, _ => i
 | k + 1, i, j => if i < j then (if g ((i + j) / 2) = true then srF g k i ((i + j) / 2) else srF g k ((i + j) / 2 + 1) j) else i
theorem srF_r {g : Nat → Bool} {k i j : Nat} (h : i < j) (hg : g ((i + j) / 2) = false) : srF g (k + 1) i j = srF g k ((i + j) / 2 + 1) j := by
 conv => lhs; unfold srF
 rw [if_pos h, if_neg (by simp [hg])]
theorem srF_l {g : Nat → Bool} {k i j : Nat} (h : i < j) (hg : g ((i + j) / 2) = true) : srF g (k + 1) i j = srF g k i ((i + j) / 2) := by
 conv => lhs; unfold srF
 rw [if_pos h, if_pos hg]
theorem srF_e {g : Nat → Bool} {k i j : Nat} (h : ¬ i < j) : srF g (k + 1) i j = i := by
 conv => lhs; unfold srF
 rw [if_neg h]
theorem srF_le {g : Nat → Bool} : ∀ (k i j : Nat), i ≤ j → i ≤ srF g k i j ∧ srF g k i j ≤ j
 | 0, i, j, h => ⟨Nat.le_refl _, h⟩
 | k + 1, i, j, h => by
  unfold srF
  split
  ·split
   ·have := srF_le (g := g) k i ((i + j) / 2) (by omega); omega
   ·have := srF_le (g := g) k ((i + j) / 2 + 1) j (by omega); omega
  ·omega
def uLt (e t r : Int) : Bool := decide (IntKind.u64.wrap (IntKind.u64.wrap e - IntKind.u64.wrap t) < IntKind.u64.wrap r)
theorem bv_shr1 {tb : Tab} {t : TypeId} {a : Nat} : evBin tb .shr t (.int .u64 ((a : Nat) : Int)) (.int .u64 ((1 : Nat) : Int)) = some (.int .u64 ((a / 2 : Nat) : Int)) := by
 have e : ltA ((1 : Nat) : Int) 0 = false := rfl
 unfold evBin shiftA
 simp only [e]
 refine congrArg (fun x => some (AV.int .u64 x)) ?_
 show Int.fdiv ((a : Nat) : Int) (2 ^ 1) = _
 rw [Int.fdiv_eq_ediv_of_nonneg _ (by decide)]
 omega
theorem SubR.subH {a b c : HSt} (g : SubR a b) (h : SubH b c) : SubR a c := ⟨fun e he => let ⟨h1, w, h2⟩ := g.1 e he; ⟨h1, w, h.1 _ h2⟩, fun hn => g.2 (h.2 hn)⟩
theorem SubH.r3 {x y z : HE} {l : HSt} : SubH (x :: y :: l) (z :: y :: x :: l) := gc
theorem SubH.r3b {x y z : HE} {l : HSt} : SubH (y :: x :: z :: l) (z :: y :: x :: l) := gc
theorem ro_cons {b : Nat} {o : AObj} {hs : HSt} (h : ∀ e ∈ hs, e.w = false) : ∀ e ∈ ((⟨b, o, false⟩ : HE) :: hs), e.w = false := fun e he => by
 rcases List.mem_cons.1 he with rfl | he
 ·rfl
 ·exact h e he
def hiS (S : List Smp) (e : Int) : Nat := srF (fun i => decide (e < (sg S (0 + i)).1)) (S.length + 1) 0 S.length
def loS (S : List Smp) (e r : Int) : Nat := srF (fun i => uLt e (sg S (0 + i)).1 r) (hiS S e + 1) 0 (hiS S e)
def rngL (S : List Smp) (e r : Int) : List Smp := (S.drop (loS S e r)).take (hiS S e - loS S e r)
theorem hiS_le (S : List Smp) (e : Int) : hiS S e ≤ S.length := (srF_le _ _ _ (Nat.zero_le _)).2
theorem loS_le (S : List Smp) (e r : Int) : loS S e r ≤ hiS S e := (srF_le _ _ _ (Nat.zero_le _)).2
theorem rngL_len (S : List Smp) (e r : Int) : (rngL S e r).length = hiS S e - loS S e r := by
 unfold rngL
 have := hiS_le S e
 rw [List.length_take, List.length_drop]
 omega
theorem rngL_le (S : List Smp) (e r : Int) : (rngL S e r).length ≤ S.length := by
 have := hiS_le S e
 rw [rngL_len]
 omega
def insO (S : List Smp) (e : Int) : Option Smp := if (rngL S e 300000).length = 0 then none else some (sg (rngL S e 300000) ((rngL S e 300000).length - 1))
def insV (S : List Smp) (e : Int) : AV := match insO S e with
 | none => .tuple [.agg [.int .i64 0, .int .i64 0], .bool false]
 | some x => .tuple [.agg [.int .i64 x.1, .int .i64 x.2], .bool true]
theorem ins_none {S : List Smp} {e : Int} (h : (rngL S e 300000).length = 0) : oneOf [AV.agg [.int .i64 0, .int .i64 0], .bool false] = insV S e := by
 unfold insV insO
 rw [if_pos h]; rfl
theorem ins_some {S : List Smp} {e : Int} (h : ¬ (rngL S e 300000).length = 0) : oneOf [AV.agg [.int .i64 (sg (rngL S e 300000) (0 + ((rngL S e 300000).length - 1))).1, .int .i64 (sg (rngL S e 300000) (0 + ((rngL S e 300000).length - 1))).2], .bool true] = insV S e := by
 unfold insV insO
 rw [if_neg h, Nat.zero_add]; rfl
theorem ownE_full {sz : Nat} {cells : List AV} {len : Nat} {v : AV} {hp : HSt} (h : OwnE sz cells len v hp) (hl : 0 < len) : ∃ b ex, v = .slice b 0 len sz ∧ (⟨b, ⟨sz, ex, cells⟩, true⟩ : HE) ∈ hp := by
 obtain ⟨b, ex, rfl, rfl⟩ := h.full hl
 exact ⟨b, ex, rfl, List.mem_singleton.2 rfl⟩
theorem cS_sub {S : List Smp} {a b : Nat} (h : a ≤ b) (hb : b ≤ S.length) : sub? (cS S) ((0 + a) * 2) ((b - a) * 2) = some (cS ((S.drop a).take (b - a))) := by
 unfold sub?
 have e : Nat.ble ((0 + a) * 2 + (b - a) * 2) (cS S).length = true := by rw [cS_len]; apply Nat.ble_eq.mpr; omega
 simp only [e]
 rw [show cS ((S.drop a).take (b - a)) = ((cS S).drop (a * 2)).take ((b - a) * 2) from by show c2 _ _ ((S.drop a).take (b - a)) = ((c2 _ _ S).drop (a * 2)).take ((b - a) * 2); rw [c2_take, c2_drop], Nat.zero_add]
theorem ao72 : AO tab 72 = some ⟨2, true, [.int .i64 0, .int .i64 0]⟩ := by kernel_rfl
theorem bx3 : ∀ l : List AV, l.length = 1 → varObj tab 3 l = ⟨1, true, l⟩ := by intro l h; exact varObj_plain (by kernel_rfl) h
theorem bx66 : ∀ l : List AV, l.length = 1 → varObj tab 66 l = ⟨1, true, l⟩ := by intro l h; exact varObj_plain (by kernel_rfl) h
theorem nzeql66 : ∀ b o l z : Nat, evBin tab .eql 66 (.slice b o l z) .nils = some (.bool false) := by intros; kernel_rfl
theorem pl72 : PL tab 72 [.int .i64 0, .int .i64 0] [(0, 1), (1, 1)] = true := by kernel_rfl
theorem ud258 : tab.und 258 = some (.int .u64) := by kernel_rfl
theorem ud3 : tab.und 3 = some (.int .i64) := by kernel_rfl
theorem srch2_spec (hs : HSt) (hro : ∀ e ∈ hs, e.w = false) (n : Nat) (hn : n ≤ 1048576) (g : Nat → Bool) (F a b : Nat) (HF : ∀ i : Nat, i < n → Spec tab F (.int .i64 ((i : Nat) : Int) :: [.ptr a 0, .ptr b 0]) [] hs (Val (.bool (g i)))) : Spec tab 173 [.int .i64 ((n : Nat) : Int), .func F [.ptr a 0, .ptr b 0]] [] hs (Val (.int .i64 ((srF g (n + 1) 0 n : Nat) : Int))) := by
 refine Spec.en (ftg 173 Tryz.func173) rfl (m := 26) rfl (rs := [.tmp 4]) rfl (st := [(0, .int .i64 ((n : Nat) : Int)), (1, .func F [.ptr a 0, .ptr b 0])]) rfl rfl (fun _ => rfl) (fun E => ?_)
 refine W.seq ?_
 refine W.reg ?_
 refine WO.q (Q.assign (oc (v := .int .i64 ((0 : Nat) : Int)) rfl)) rfl ?_
 refine WO.nil ?_
 refine End.K ?_
 refine W.seq ?_
 refine W.reg ?_
 refine WO.q (Q.move rfl) rfl ?_
 refine WO.q (Q.assign (oc (v := .int .i64 ((0 : Nat) : Int)) rfl)) rfl ?_
 refine WO.q (Q.assign rfl) rfl ?_
 refine WO.nil ?_
 refine End.K ?_
 refine W.seq ?_
 refine W.block ?_
 refine W.loop_ind3 (fun (i : Nat) (j : Nat) (k : Nat) => [(1, .func F [.ptr a 0, .ptr b 0]), (5, .int .i64 ((i : Nat) : Int)), (6, .int .i64 ((j : Nat) : Int))]) (fun _ _ _ => _) (fun (i : Nat) (j : Nat) (k : Nat) => i ≤ j ∧ j ≤ n ∧ j - i < k ∧ srF g (n + 1) 0 n = srF g k i j) (fun (i : Nat) (j : Nat) (k : Nat) => j - i) (0) (n) (n + 1) ⟨Nat.zero_le _, Nat.le_refl _, by omega, rfl⟩ (SubS.cons rfl (SubS.cons rfl (SubS.cons rfl (SubS.nil _)))) (SubH.refl _) (fun i j k hI0 ih0 => ?_)
 obtain ⟨h1, h2, h3, h4⟩ := hI0
 obtain ⟨k, rfl⟩ : ∃ q, k = q + 1 := ⟨k - 1, by omega⟩
 refine W.seq ?_
 refine W.seq ?_
 refine W.reg ?_
 refine WO.q (Q.move rfl) rfl ?_
 refine WO.q (Q.move rfl) rfl ?_
 refine WO.q (Q.bin rfl rfl rfl (bvl ltn)) rfl ?_
 refine WO.nil ?_
 refine End.K ?_
 refine W.cD rfl (fun hc11 => ?_) (fun hc11 => ?_)
 ·skip -- L0T
  refine W.skip ?_
  refine End.K ?_
  refine W.block ?_
  refine W.seq ?_
  refine W.reg ?_
  refine WO.q (Q.move rfl) rfl ?_
  refine WO.q (Q.move rfl) rfl ?_
  refine WO.q (Q.bin rfl rfl rfl (bv_add (wna zo))) rfl ?_
  refine WO.q (Q.convI ud3 ud258 rfl (wru64 zo)) rfl ?_
  refine WO.q (Q.bin rfl (oc (v := .int .u64 ((1 : Nat) : Int)) rfl) rfl bv_shr1) rfl ?_
  refine WO.q (Q.convI ud258 ud3 rfl (wr64 zo)) rfl ?_
  refine WO.q (Q.assign rfl) rfl ?_
  refine WO.nil ?_
  refine End.K ?_
  refine W.seq ?_
  refine W.reg ?_
  refine WO.q (Q.move rfl) rfl ?_
  refine WO.q (Q.move rfl) rfl ?_
  refine WO.cV rfl (oLc rfl oz) rfl (HF _ (by omega)) (SubR.s hro) rfl ?_
  refine WO.q (Q.not rfl rfl) rfl ?_
  refine WO.nil ?_
  refine End.K ?_
  refine W.condS rfl (fun hc21 => ?_) (fun hc21 => ?_)
  ·skip -- L0TT
   refine W.reg ?_
   refine WO.q (Q.move rfl) rfl ?_
   refine WO.q (Q.bin rfl (oc (v := .int .i64 ((1 : Nat) : Int)) rfl) rfl (bv_add (wna zo))) rfl ?_
   refine WO.q (Q.assign rfl) rfl ?_
   refine WO.nil ?_
   refine End.KB (End.KL ?_)
   refine W.sub (SubS.cons rfl (SubS.cons rfl (SubS.cons rfl (SubS.nil _)))) (ih0 ((i + j) / 2 + 1) (j) (k) ?_ ?_)
   ·exact ⟨by omega, by omega, by omega, by rw [h4, srF_r (by omega) (by simp_all)]⟩
   ·exact zo
  ·skip -- L0TF
   refine W.reg ?_
   refine WO.q (Q.move rfl) rfl ?_
   refine WO.q (Q.assign rfl) rfl ?_
   refine WO.nil ?_
   refine End.KB (End.KL ?_)
   refine W.sub (SubS.cons rfl (SubS.cons rfl (SubS.cons rfl (SubS.nil _)))) (ih0 (i) ((i + j) / 2) (k) ?_ ?_)
   ·exact ⟨by omega, by omega, by omega, by rw [h4, srF_l (by omega) (by simp_all)]⟩
   ·exact zo
 ·skip -- L0F
  refine W.exit ?_
  refine End.Kx (End.Lx (End.Bh (End.K ?_)))
  refine W.seq ?_
  refine W.reg ?_
  refine WO.q (Q.move rfl) rfl ?_
  refine WO.q (Q.assign rfl) rfl ?_
  refine WO.nil ?_
  refine End.K ?_
  refine W.ret ?_
  refine End.rV (ResL.tmp rfl ResL.nil) ?_
  rw [h4, srF_e (by omega)]; rfl

theorem srch3_spec (hs : HSt) (hro : ∀ e ∈ hs, e.w = false) (n : Nat) (hn : n ≤ 1048576) (g : Nat → Bool) (F a b c : Nat) (HF : ∀ i : Nat, i < n → Spec tab F (.int .i64 ((i : Nat) : Int) :: [.ptr a 0, .ptr b 0, .ptr c 0]) [] hs (Val (.bool (g i)))) : Spec tab 173 [.int .i64 ((n : Nat) : Int), .func F [.ptr a 0, .ptr b 0, .ptr c 0]] [] hs (Val (.int .i64 ((srF g (n + 1) 0 n : Nat) : Int))) := by
 refine Spec.en (ftg 173 Tryz.func173) rfl (m := 26) rfl (rs := [.tmp 4]) rfl (st := [(0, .int .i64 ((n : Nat) : Int)), (1, .func F [.ptr a 0, .ptr b 0, .ptr c 0])]) rfl rfl (fun _ => rfl) (fun E => ?_)
 refine W.seq ?_
 refine W.reg ?_
 refine WO.q (Q.assign (oc (v := .int .i64 ((0 : Nat) : Int)) rfl)) rfl ?_
 refine WO.nil ?_
 refine End.K ?_
 refine W.seq ?_
 refine W.reg ?_
 refine WO.q (Q.move rfl) rfl ?_
 refine WO.q (Q.assign (oc (v := .int .i64 ((0 : Nat) : Int)) rfl)) rfl ?_
 refine WO.q (Q.assign rfl) rfl ?_
 refine WO.nil ?_
 refine End.K ?_
 refine W.seq ?_
 refine W.block ?_
 refine W.loop_ind3 (fun (i : Nat) (j : Nat) (k : Nat) => [(1, .func F [.ptr a 0, .ptr b 0, .ptr c 0]), (5, .int .i64 ((i : Nat) : Int)), (6, .int .i64 ((j : Nat) : Int))]) (fun _ _ _ => _) (fun (i : Nat) (j : Nat) (k : Nat) => i ≤ j ∧ j ≤ n ∧ j - i < k ∧ srF g (n + 1) 0 n = srF g k i j) (fun (i : Nat) (j : Nat) (k : Nat) => j - i) (0) (n) (n + 1) ⟨Nat.zero_le _, Nat.le_refl _, by omega, rfl⟩ (SubS.cons rfl (SubS.cons rfl (SubS.cons rfl (SubS.nil _)))) (SubH.refl _) (fun i j k hI0 ih0 => ?_)
 obtain ⟨h1, h2, h3, h4⟩ := hI0
 obtain ⟨k, rfl⟩ : ∃ q, k = q + 1 := ⟨k - 1, by omega⟩
 refine W.seq ?_
 refine W.seq ?_
 refine W.reg ?_
 refine WO.q (Q.move rfl) rfl ?_
 refine WO.q (Q.move rfl) rfl ?_
 refine WO.q (Q.bin rfl rfl rfl (bvl ltn)) rfl ?_
 refine WO.nil ?_
 refine End.K ?_
 refine W.cD rfl (fun hc11 => ?_) (fun hc11 => ?_)
 ·skip -- L0T
  refine W.skip ?_
  refine End.K ?_
  refine W.block ?_
  refine W.seq ?_
  refine W.reg ?_
  refine WO.q (Q.move rfl) rfl ?_
  refine WO.q (Q.move rfl) rfl ?_
  refine WO.q (Q.bin rfl rfl rfl (bv_add (wna zo))) rfl ?_
  refine WO.q (Q.convI ud3 ud258 rfl (wru64 zo)) rfl ?_
  refine WO.q (Q.bin rfl (oc (v := .int .u64 ((1 : Nat) : Int)) rfl) rfl bv_shr1) rfl ?_
  refine WO.q (Q.convI ud258 ud3 rfl (wr64 zo)) rfl ?_
  refine WO.q (Q.assign rfl) rfl ?_
  refine WO.nil ?_
  refine End.K ?_
  refine W.seq ?_
  refine W.reg ?_
  refine WO.q (Q.move rfl) rfl ?_
  refine WO.q (Q.move rfl) rfl ?_
  refine WO.cV rfl (oLc rfl oz) rfl (HF _ (by omega)) (SubR.s hro) rfl ?_
  refine WO.q (Q.not rfl rfl) rfl ?_
  refine WO.nil ?_
  refine End.K ?_
  refine W.condS rfl (fun hc21 => ?_) (fun hc21 => ?_)
  ·skip -- L0TT
   refine W.reg ?_
   refine WO.q (Q.move rfl) rfl ?_
   refine WO.q (Q.bin rfl (oc (v := .int .i64 ((1 : Nat) : Int)) rfl) rfl (bv_add (wna zo))) rfl ?_
   refine WO.q (Q.assign rfl) rfl ?_
   refine WO.nil ?_
   refine End.KB (End.KL ?_)
   refine W.sub (SubS.cons rfl (SubS.cons rfl (SubS.cons rfl (SubS.nil _)))) (ih0 ((i + j) / 2 + 1) (j) (k) ?_ ?_)
   ·exact ⟨by omega, by omega, by omega, by rw [h4, srF_r (by omega) (by simp_all)]⟩
   ·exact zo
  ·skip -- L0TF
   refine W.reg ?_
   refine WO.q (Q.move rfl) rfl ?_
   refine WO.q (Q.assign rfl) rfl ?_
   refine WO.nil ?_
   refine End.KB (End.KL ?_)
   refine W.sub (SubS.cons rfl (SubS.cons rfl (SubS.cons rfl (SubS.nil _)))) (ih0 (i) ((i + j) / 2) (k) ?_ ?_)
   ·exact ⟨by omega, by omega, by omega, by rw [h4, srF_l (by omega) (by simp_all)]⟩
   ·exact zo
 ·skip -- L0F
  refine W.exit ?_
  refine End.Kx (End.Lx (End.Bh (End.K ?_)))
  refine W.seq ?_
  refine W.reg ?_
  refine WO.q (Q.move rfl) rfl ?_
  refine WO.q (Q.assign rfl) rfl ?_
  refine WO.nil ?_
  refine End.K ?_
  refine W.ret ?_
  refine End.rV (ResL.tmp rfl ResL.nil) ?_
  rw [h4, srF_e (by omega)]; rfl

theorem rg1_spec (hs : HSt) (hro : ∀ e ∈ hs, e.w = false) (S : List Smp) (v : AV) (hS : SIn hs S v) (hSb : SBd S) (e : Int) (pl pe : Nat) (xpl xpe : Bool) (i : Nat) (hi : i < S.length) : Spec tab 174 [.int .i64 ((i : Nat) : Int), .ptr pl 0, .ptr pe 0] [] (⟨pl, ⟨1, xpl, [v]⟩, false⟩ :: ⟨pe, ⟨1, xpe, [.int .i64 e]⟩, false⟩ :: hs) (Val (.bool (decide (e < (sg S (0 + i)).1)))) := by
 obtain ⟨bs, szs, exs, rfl, ws, ms⟩ := SIn.full hS (by omega)
 refine Spec.en (ftg 174 Tryz.func174) rfl (m := 12) rfl (rs := [.tmp 4]) rfl (st := [(0, .int .i64 ((i : Nat) : Int)), (1, .ptr pl 0), (2, .ptr pe 0)]) rfl rfl (fun _ => rfl) (fun E => ?_)
 refine W.seq ?_
 refine W.reg ?_
 refine WO.q (Q.assign rfl) rfl ?_
 refine WO.nil ?_
 refine End.K ?_
 refine W.seq ?_
 refine W.regT (by kernel_rfl) ?_
 refine WO.q (Q.l1 rfl (mem_at (i := 0) rfl) ag66 rfl) rfl ?_
 refine WO.q (Q.move rfl) rfl ?_
 refine WO.q (Q.iS ud66 sz72 rfl rfl zo) rfl ?_
 refine WO.q (Q.fieldAddr fa72_0 rfl rfl) rfl ?_
 refine WO.q (Q.l1 rfl (List.mem_cons_of_mem _ (List.mem_cons_of_mem _ ms)) ag3 (cS_f0 zo)) rfl ?_
 refine WO.q (Q.l1 rfl (mem_at (i := 1) rfl) ag3 rfl) rfl ?_
 refine WO.q (Q.bin rfl rfl rfl (bv_gtr (ltA_eq _ _))) rfl ?_
 refine WO.q (Q.assign rfl) rfl ?_
 refine WO.nil ?_
 refine End.K ?_
 refine W.ret ?_
 refine End.rV (ResL.tmp rfl ResL.nil) ?_
 rfl

theorem rg2_spec (hs : HSt) (hro : ∀ e ∈ hs, e.w = false) (S : List Smp) (v : AV) (hS : SIn hs S v) (hSb : SBd S) (e r : Int) (pl pe pr : Nat) (xpl xpe xpr : Bool) (i : Nat) (hi : i < S.length) : Spec tab 175 [.int .i64 ((i : Nat) : Int), .ptr pe 0, .ptr pl 0, .ptr pr 0] [] (⟨pe, ⟨1, xpe, [.int .i64 e]⟩, false⟩ :: ⟨pl, ⟨1, xpl, [v]⟩, false⟩ :: ⟨pr, ⟨1, xpr, [.int .i64 r]⟩, false⟩ :: hs) (Val (.bool (uLt e (sg S (0 + i)).1 r))) := by
 obtain ⟨bs, szs, exs, rfl, ws, ms⟩ := SIn.full hS (by omega)
 refine Spec.en (ftg 175 Tryz.func175) rfl (m := 18) rfl (rs := [.tmp 5]) rfl (st := [(0, .int .i64 ((i : Nat) : Int)), (1, .ptr pe 0), (2, .ptr pl 0), (3, .ptr pr 0)]) rfl rfl (fun _ => rfl) (fun E => ?_)
 refine W.seq ?_
 refine W.reg ?_
 refine WO.q (Q.assign rfl) rfl ?_
 refine WO.nil ?_
 refine End.K ?_
 refine W.seq ?_
 refine W.regC (by kernel_rfl) ?_
 refine WC.q (Q.l1 rfl (mem_at (i := 0) rfl) ag3 rfl) rfl ?_
 refine WC.q (Q.convI ud3 ud258 rfl rfl) rfl ?_
 refine WC.q (Q.l1 rfl (mem_at (i := 1) rfl) ag66 rfl) rfl ?_
 refine WC.q (Q.move rfl) rfl ?_
 refine WC.q (Q.iS ud66 sz72 rfl rfl zo) rfl ?_
 refine WC.q (Q.fieldAddr fa72_0 rfl rfl) rfl ?_
 refine WC.q (Q.l1 rfl (List.mem_cons_of_mem _ (List.mem_cons_of_mem _ (List.mem_cons_of_mem _ ms))) ag3 (cS_f0 zo)) rfl ?_
 refine WC.q (Q.convI ud3 ud258 rfl rfl) rfl ?_
 refine WC.q (Q.bin rfl rfl rfl (bv_sub rfl)) rfl ?_
 refine WC.q (Q.l1 rfl (mem_at (i := 2) rfl) ag3 rfl) rfl ?_
 refine WC.q (Q.convI ud3 ud258 rfl rfl) rfl ?_
 refine WC.q (Q.bin rfl rfl rfl (bvl (ltA_eq _ _))) rfl ?_
 refine WC.q (Q.assign rfl) rfl ?_
 refine WC.nil ?_
 refine End.K ?_
 refine W.sub (SubS.cons (k := 5) rfl (SubS.nil _)) ?_
 refine W.ret ?_
 refine End.rV (ResL.tmp rfl ResL.nil) ?_
 rfl

theorem clone_spec (hs : HSt) (hro : ∀ e ∈ hs, e.w = false) (b o m : Nat) (new : List AV) (hm : m ≤ 1048576) (hn : new.length = m * 2) (hsrc : Src hs 2 (.slice b o m 2) m new) : Spec tab 176 [.slice b o m 2] [] hs (fun u D => OwnE 2 new m u D) := by
 refine Spec.en (ftg 176 Tryz.func176) rfl (m := 8) rfl (rs := [.tmp 2]) rfl (st := [(0, .slice b o m 2)]) rfl rfl (fun _ => rfl) (fun E => ?_)
 refine W.seq ?_
 refine W.reg ?_
 refine WO.q (Q.assign rfl) rfl ?_
 refine WO.nil ?_
 refine End.K ?_
 refine W.seq ?_
 refine W.seq ?_
 refine W.reg ?_
 refine WO.q (Q.move rfl) rfl ?_
 refine WO.q (Q.bin rfl rfl rfl (nzeql66 _ _ _ _)) rfl ?_
 refine WO.nil ?_
 refine End.K ?_
 refine W.condF rfl ?_
 refine W.skip ?_
 refine End.K ?_
 refine W.seq ?_
 refine W.reg ?_
 refine WO.bslice ud66 sz72 zr72 rfl opn rfl (cs := []) rfl rfl rfl (fun b1 => ?_)
 refine WO.q (Q.move rfl) rfl ?_
 refine WO.appAny (A := _) ap66_66 (OwnE.cons rfl) rfl rfl (Src.mono (fun e he => ⟨e.w, by obtain ⟨b, o, w⟩ := e; simp [he]⟩) hsrc) hn (by omega) (by decide) (SubH.op (List.perm_append_singleton _ _)) rfl (fun v7 hp7 hO7 => ?_)
 refine WO.q (Q.assign rfl) rfl ?_
 refine WO.nil ?_
 refine End.K ?_
 refine W.ret ?_
 refine End.ret (ResL.tmp rfl ResL.nil) (hs' := hp7) (by simpa [one1] using hO7) hO7.w gc

theorem rng_spec (hs : HSt) (hro : ∀ e ∈ hs, e.w = false) (S : List Smp) (bs szs : Nat) (exs ws : Bool) (ms : (⟨bs, ⟨szs, exs, cS S⟩, ws⟩ : HE) ∈ hs) (hSb : SBd S) (e r : Int) (hr : 0 < r) : Spec tab 150 [.slice bs 0 S.length 2, .int .i64 e, .int .i64 r] [] hs (fun u D => OwnE 2 (cS (rngL S e r)) (rngL S e r).length u D) := by
 have hS : SIn hs S (.slice bs 0 S.length 2) := .inr ⟨bs, szs, exs, rfl, ws, ms⟩
 have hSl : S.length ≤ 1048576 := hSb
 have hhi := hiS_le S e
 have hlo := loS_le S e r
 refine Spec.en (ftg 150 Tryz.func150) rfl (m := 23) rfl (rs := [.tmp 6]) rfl (st := [(0, .slice bs 0 S.length 2), (1, .int .i64 e), (2, .int .i64 r)]) rfl rfl (fun _ => rfl) (fun E => ?_)
 refine W.seq ?_
 refine W.reg ?_
 refine WO.box rfl rfl (bx66 _ rfl) rfl (fun b1 => ?_)
 refine WO.box rfl rfl (bx3 _ rfl) rfl (fun b2 => ?_)
 refine WO.box rfl rfl (bx3 _ rfl) rfl (fun b3 => ?_)
 refine WO.q (Q.assign rfl) rfl ?_
 refine WO.nil ?_
 refine End.K ?_
 refine W.seq ?_
 refine W.seq ?_
 refine W.reg ?_
 refine WO.q (Q.l1 rfl (mem_at (i := 0) rfl) ag3 rfl) rfl ?_
 refine WO.q (Q.bin rfl (oc (v := .int .i64 ((0 : Nat) : Int)) rfl) rfl (bv_leq le_int)) rfl ?_
 refine WO.nil ?_
 refine End.K ?_
 refine W.cD rfl (fun hc10 => ?_) (fun hc10 => ?_)
 ·exfalso; omega
 ·skip -- F
  refine W.skip ?_
  refine End.K ?_
  refine W.seq ?_
  refine W.reg ?_
  refine WO.q (Q.l1 rfl (mem_at (i := 2) rfl) ag66 rfl) rfl ?_
  refine WO.q (Q.len ud66 rfl rfl) rfl ?_
  refine WO.q (Q.makeF (oLc rfl (oLc rfl oz))) rfl ?_
  refine WO.cV rfl (oLc rfl (oLc rfl oz)) rfl (id (α := Spec tab 173 [_, _] [] _ (Val (.int .i64 ((hiS S e : Nat) : Int)))) (srch2_spec (⟨b1, ⟨1, true, [.slice bs 0 S.length 2]⟩, false⟩ :: ⟨b2, ⟨1, true, [.int .i64 e]⟩, false⟩ :: hs) (ro_cons (ro_cons hro)) S.length (by omega) (fun i => decide (e < (sg S (0 + i)).1)) 174 b1 b2 (fun i hi => rg1_spec hs hro S _ hS hSb e b1 b2 true true i hi))) (SubR.subH (SubR.cons0 (w := true) (SubR.cons0 (w := true) (SubR.s hro))) SubH.r3) rfl ?_
  refine WO.q (Q.assign rfl) rfl ?_
  refine WO.nil ?_
  refine End.K ?_
  refine W.seq ?_
  refine W.reg ?_
  refine WO.q (Q.move rfl) rfl ?_
  refine WO.q (Q.makeF (oLc rfl (oLc rfl (oLc rfl oz)))) rfl ?_
  refine WO.cV rfl (oLc rfl (oLc rfl oz)) rfl (id (α := Spec tab 173 [_, _] [] _ (Val (.int .i64 ((loS S e r : Nat) : Int)))) (srch3_spec (⟨b2, ⟨1, true, [.int .i64 e]⟩, false⟩ :: ⟨b1, ⟨1, true, [.slice bs 0 S.length 2]⟩, false⟩ :: ⟨b3, ⟨1, true, [.int .i64 r]⟩, false⟩ :: hs) (ro_cons (ro_cons (ro_cons hro))) (hiS S e) (by omega) (fun i => uLt e (sg S (0 + i)).1 r) 175 b2 b1 b3 (fun i hi => rg2_spec hs hro S _ hS hSb e r b1 b2 b3 true true true i (by omega)))) (SubR.subH (SubR.cons0 (w := true) (SubR.cons0 (w := true) (SubR.cons0 (w := true) (SubR.s hro)))) SubH.r3b) rfl ?_
  refine WO.q (Q.assign rfl) rfl ?_
  refine WO.nil ?_
  refine End.K ?_
  refine W.sub (SubS.cons (k := 8) rfl (SubS.cons (k := 7) rfl (SubS.cons (k := 3) rfl (SubS.nil _)))) ?_
  refine W.seq ?_
  refine W.reg ?_
  refine WO.q (Q.l1 rfl (mem_at (i := 2) rfl) ag66 rfl) rfl ?_
  refine WO.q (Q.move rfl) rfl ?_
  refine WO.q (Q.move rfl) rfl ?_
  refine WO.q (Q.sliceL ud66 sz72 rfl rfl zo) rfl ?_
  refine WO.call0 rfl (oLc rfl oz) rfl (clone_spec hs hro bs _ _ _ (by omega) (by rw [cS_len]; exact congrArg (fun q => q * 2) (rngL_len S e r)) (Src.slice ms (cS_sub (by omega) (by omega)))) (SubR.t (SubR.t (SubR.t (SubR.s hro)))) rfl (fun v22 D22 hP22 => ?_)
  refine WO.subH (hs' := _ :: _ :: _ :: (hs ++ D22)) (SubH.op (perm_tail (N := []) (G := D22) (K := [_, _, _]) (X := hs))) ?_
  refine WO.q (Q.assign rfl) rfl ?_
  refine WO.nil ?_
  refine End.K ?_
  refine W.ret ?_
  refine End.ret (ResL.tmp rfl ResL.nil) (hs' := D22) (by rw [rngL_len]; exact hP22) hP22.w gc

theorem ins_spec (hs : HSt) (hro : ∀ e ∈ hs, e.w = false) (S : List Smp) (bs szs : Nat) (exs ws : Bool) (ms : (⟨bs, ⟨szs, exs, cS S⟩, ws⟩ : HE) ∈ hs) (hSb : SBd S) (e : Int) : Spec tab 152 [.slice bs 0 S.length 2, .int .i64 e] [] hs (Val (insV S e)) := by
 have hS : SIn hs S (.slice bs 0 S.length 2) := .inr ⟨bs, szs, exs, rfl, ws, ms⟩
 have hSl : S.length ≤ 1048576 := hSb
 have hrl := rngL_le S e 300000
 refine Spec.en (ftg 152 Tryz.func152) rfl (m := 20) rfl (rs := [.cell 4 72, .tmp 5]) rfl (st := [(0, .slice bs 0 S.length 2), (1, .int .i64 e)]) rfl rfl (fun _ => rfl) (fun E => ?_)
 refine W.seq ?_
 refine W.reg ?_
 refine WO.alloc ao72 rfl (fun b1 => ?_)
 refine WO.q (Q.assign rfl) rfl ?_
 refine WO.nil ?_
 refine End.K ?_
 refine W.seq ?_
 refine W.reg ?_
 refine WO.q (Q.move rfl) rfl ?_
 refine WO.q (Q.move rfl) rfl ?_
 refine WO.call0 rfl (oLc rfl (oLc rfl (oLc (oc (v := .int .i64 ((300000 : Nat) : Int)) rfl) oz))) rfl (rng_spec hs hro S bs szs exs ws ms hSb e 300000 (by decide)) (SubR.t (SubR.s hro)) rfl (fun v9 D9 hP9 => ?_)
 refine WO.subH (hs' := _ :: (hs ++ D9)) (SubH.op (perm_tail (N := []) (G := D9) (K := [_]) (X := hs))) ?_
 refine WO.q (Q.assign rfl) rfl ?_
 refine WO.nil ?_
 refine End.K ?_
 refine W.seq ?_
 refine W.seq ?_
 refine W.reg ?_
 refine WO.q (Q.move rfl) rfl ?_
 refine WO.q (Q.len ud66 rfl hP9.len) rfl ?_
 refine WO.q (Q.bin rfl (oc (v := .int .i64 ((0 : Nat) : Int)) rfl) rfl (bv_eql eq_nat)) rfl ?_
 refine WO.nil ?_
 refine End.K ?_
 refine W.cD rfl (fun hc12 => ?_) (fun hc12 => ?_)
 ·skip -- T
  refine W.seq ?_
  refine W.reg ?_
  refine WO.q (Q.build pl72 opn rfl (cs := [_, _]) rfl) rfl ?_
  refine WO.store sz72 rfl rfl (i := 0) rfl rfl (cs := [_, _]) rfl (hs' := _ :: _) rfl ?_
  refine WO.q (Q.assign rfl) rfl ?_
  refine WO.nil ?_
  refine End.K ?_
  refine W.ret ?_
  refine End.Kr (End.rV (ResL.agg (c := [_, _]) rfl (mem_at (i := 0) rfl) ag72 sz72 rfl (ResL.tmp rfl ResL.nil)) ?_)
  exact ins_none (by omega)
 ·skip -- F
  obtain ⟨b9, ex9, rfl, m9⟩ := ownE_full hP9 (by omega)
  refine W.skip ?_
  refine End.K ?_
  refine W.seq ?_
  refine W.reg ?_
  refine WO.q (Q.move rfl) rfl ?_
  refine WO.q (Q.move rfl) rfl ?_
  refine WO.q (Q.len ud66 rfl rfl) rfl ?_
  refine WO.q (Q.bin rfl (oc (v := .int .i64 ((1 : Nat) : Int)) rfl) rfl (bv_sub (wns zo))) rfl ?_
  refine WO.q (Q.iS ud66 sz72 rfl rfl zo) rfl ?_
  refine WO.q (Q.loadN rfl (List.mem_cons_of_mem _ (List.mem_append_right _ m9)) ag72 sz72 (cS_at zo)) rfl ?_
  refine WO.store sz72 rfl rfl (i := 0) rfl rfl (cs := [_, _]) rfl (hs' := _ :: _) rfl ?_
  refine WO.q (Q.assign rfl) rfl ?_
  refine WO.nil ?_
  refine End.K ?_
  refine W.sub (SubS.cons (k := 5) rfl (SubS.cons (k := 4) rfl (SubS.nil _))) ?_
  refine W.ret ?_
  refine End.rV (ResL.agg (c := [_, _]) rfl (mem_at (i := 0) rfl) ag72 sz72 rfl (ResL.tmp rfl ResL.nil)) ?_
  exact ins_some (by omega)
end Go.Proofs.YtfkbfnpjggkdmaaGreatDoor.Ev
