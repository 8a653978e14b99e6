/- Chapter 19, walks: what an operator makes of two numbers. -/
import Derived.Test.YtmblgaehfjheeaaGreatSYv
namespace Go.Proofs.YtmblgaehfjheeaaGreat.Ev
open Go.RowKit
set_option linter.unusedVariables false
set_option linter.unusedSimpArgs false
set_option maxRecDepth 100000
set_option maxHeartbeats 1000000
def ariB (op : List Nat) : Bool := decide (op = [43] ∨ op = [45] ∨ op = [42] ∨ op = [47] ∨ op = [37])
def cmpB (op : List Nat) : Bool := decide (op = [61, 61] ∨ op = [33, 61] ∨ op = [60, 61] ∨ op = [62, 61] ∨ op = [60] ∨ op = [62])
def cmpP (op : List Nat) (a b : Int) : Bool := if op = [61, 61] then decide (a = b) else if op = [33, 61] then decide (a ≠ b) else if op = [60, 61] then decide (a ≤ b) else if op = [62, 61] then decide (b ≤ a) else if op = [60] then decide (a < b) else decide (b < a)
/-- What an operator makes of two numbers. -/
def numM (op : List Nat) (a b : Int) : Int × Int :=
  if ariB op = false ∧ cmpB op = false then (0, 9) else if ¬ (fitB a = true ∧ fitB b = true) then (0, 2) else if op = [43] then fAdd a b else if op = [45] then fSub a b else if op = [42] then fMul a b else if op = [47] then fDiv a b else if op = [37] then fMod a b
  else if cmpP op a b = true then (1000000, 0) else (0, 0)
section
variable {op : List Nat} {a b : Int}
theorem numM_9 (h1 : ariB op = false) (h2 : cmpB op = false) : numM op a b = (0, 9) := if_pos ⟨h1, h2⟩
theorem numM_2 (h : ariB op = true ∨ cmpB op = true) (hf : fitB a = false ∨ fitB b = false) : numM op a b = (0, 2) := by
  unfold numM
  rw [if_neg (by rcases h with h | h <;> simp [h]), if_pos (by rcases hf with h | h <;> simp [h])]
theorem numM_go (h : ariB op = true ∨ cmpB op = true) (ha : fitB a = true) (hb : fitB b = true) : numM op a b = if op = [43] then fAdd a b else if op = [45] then fSub a b else if op = [42] then fMul a b else if op = [47] then fDiv a b else if op = [37] then fMod a b
  else if cmpP op a b = true then (1000000, 0) else (0, 0) := by
  unfold numM
  rw [if_neg (by rcases h with h | h <;> simp [h]), if_neg (by simp [ha, hb])]
end
theorem ari_spec (op : List Nat) (ho : Bytes op) : Spec tab 31 [.str op] [] [] (Val (.bool (ariB op))) := by
  refine Spec.enter' (ft_get 31 Tryz.func31) rfl (m := 10) rfl (rs := [.tmp 2]) rfl (st := [(0, .str op)]) rfl rfl (fun _ => rfl) (fun E => ?_)
  refine W.seq ?_
  refine W.reg ?_
  refine WO.q (Q.assign rfl) rfl ?_
  refine WO.nil ?_
  refine End.K ?_
  refine W.seq ?_
  refine W.seq ?_
  refine W.reg ?_
  refine WO.q (Q.move rfl) rfl ?_
  refine WO.nil ?_
  refine End.K ?_
  refine W.block ?_
  refine W.seq ?_
  refine W.seq ?_
  refine W.reg ?_
  refine WO.q (Q.bin rfl (oc (v := .str [43]) (by kernel_rfl)) rfl bv_seql) rfl ?_
  refine WO.q (Q.assign rfl) rfl ?_
  refine WO.nil ?_
  refine End.K ?_
  refine W.condDS rfl (fun hc4 => ?_) (fun hc4 => ?_)
  · skip -- T
    refine W.skip ?_
    refine End.K ?_
    refine W.condT rfl ?_
    refine W.seq ?_
    refine W.reg ?_
    refine WO.q (Q.assign rfl) rfl ?_
    refine WO.nil ?_
    refine End.K ?_
    refine W.ret ?_
    refine End.KB_ret (End.K_ret (End.retV (ResL.tmp rfl ResL.nil) ?_))
    first | rfl | (refine congrArg AV.bool ?_; simp_all [ariB, cmpB]; done) | (show AV.bool _ = AV.bool _; simp_all [ariB, cmpB])
  · skip -- F
    refine W.seq ?_
    refine W.reg ?_
    refine WO.q (Q.bin rfl (oc (v := .str [45]) (by kernel_rfl)) rfl bv_seql) rfl ?_
    refine WO.q (Q.assign rfl) rfl ?_
    refine WO.nil ?_
    refine End.K ?_
    refine W.condDS rfl (fun hc4 => ?_) (fun hc4 => ?_)
    · skip -- FT
      refine W.skip ?_
      refine End.K ?_
      refine W.condT rfl ?_
      refine W.seq ?_
      refine W.reg ?_
      refine WO.q (Q.assign rfl) rfl ?_
      refine WO.nil ?_
      refine End.K ?_
      refine W.ret ?_
      refine End.KB_ret (End.K_ret (End.retV (ResL.tmp rfl ResL.nil) ?_))
      first | rfl | (refine congrArg AV.bool ?_; simp_all [ariB, cmpB]; done) | (show AV.bool _ = AV.bool _; simp_all [ariB, cmpB])
    · skip -- FF
      refine W.seq ?_
      refine W.reg ?_
      refine WO.q (Q.bin rfl (oc (v := .str [42]) (by kernel_rfl)) rfl bv_seql) rfl ?_
      refine WO.q (Q.assign rfl) rfl ?_
      refine WO.nil ?_
      refine End.K ?_
      refine W.condDS rfl (fun hc4 => ?_) (fun hc4 => ?_)
      · skip -- FFT
        refine W.skip ?_
        refine End.K ?_
        refine W.condT rfl ?_
        refine W.seq ?_
        refine W.reg ?_
        refine WO.q (Q.assign rfl) rfl ?_
        refine WO.nil ?_
        refine End.K ?_
        refine W.ret ?_
        refine End.KB_ret (End.K_ret (End.retV (ResL.tmp rfl ResL.nil) ?_))
        first | rfl | (refine congrArg AV.bool ?_; simp_all [ariB, cmpB]; done) | (show AV.bool _ = AV.bool _; simp_all [ariB, cmpB])
      · skip -- FFF
        refine W.seq ?_
        refine W.reg ?_
        refine WO.q (Q.bin rfl (oc (v := .str [47]) (by kernel_rfl)) rfl bv_seql) rfl ?_
        refine WO.q (Q.assign rfl) rfl ?_
        refine WO.nil ?_
        refine End.K ?_
        refine W.condDS rfl (fun hc4 => ?_) (fun hc4 => ?_)
        · skip -- FFFT
          refine W.skip ?_
          refine End.K ?_
          refine W.condT rfl ?_
          refine W.seq ?_
          refine W.reg ?_
          refine WO.q (Q.assign rfl) rfl ?_
          refine WO.nil ?_
          refine End.K ?_
          refine W.ret ?_
          refine End.KB_ret (End.K_ret (End.retV (ResL.tmp rfl ResL.nil) ?_))
          first | rfl | (refine congrArg AV.bool ?_; simp_all [ariB, cmpB]; done) | (show AV.bool _ = AV.bool _; simp_all [ariB, cmpB])
        · skip -- FFFF
          refine W.reg ?_
          refine WO.q (Q.bin rfl (oc (v := .str [37]) (by kernel_rfl)) rfl bv_seql) rfl ?_
          refine WO.q (Q.assign rfl) rfl ?_
          refine WO.nil ?_
          refine End.K ?_
          refine W.condDS rfl (fun hc4 => ?_) (fun hc4 => ?_)
          · skip -- FFFFT
            refine W.seq ?_
            refine W.reg ?_
            refine WO.q (Q.assign rfl) rfl ?_
            refine WO.nil ?_
            refine End.K ?_
            refine W.ret ?_
            refine End.KB_ret (End.K_ret (End.retV (ResL.tmp rfl ResL.nil) ?_))
            first | rfl | (refine congrArg AV.bool ?_; simp_all [ariB, cmpB]; done) | (show AV.bool _ = AV.bool _; simp_all [ariB, cmpB])
          · skip -- FFFFF
            refine W.skip ?_
            refine End.KB (End.K ?_)
            refine W.seq ?_
            refine W.reg ?_
            refine WO.q (Q.assign rfl) rfl ?_
            refine WO.nil ?_
            refine End.K ?_
            refine W.ret ?_
            refine End.retV (ResL.tmp rfl ResL.nil) ?_
            first | rfl | (refine congrArg AV.bool ?_; simp_all [ariB, cmpB]; done) | (show AV.bool _ = AV.bool _; simp_all [ariB, cmpB])

theorem cps_spec (op : List Nat) (ho : Bytes op) : Spec tab 32 [.str op] [] [] (Val (.bool (cmpB op))) := by
  refine Spec.enter' (ft_get 32 Tryz.func32) rfl (m := 11) rfl (rs := [.tmp 2]) rfl (st := [(0, .str op)]) rfl rfl (fun _ => rfl) (fun E => ?_)
  refine W.seq ?_
  refine W.reg ?_
  refine WO.q (Q.assign rfl) rfl ?_
  refine WO.nil ?_
  refine End.K ?_
  refine W.seq ?_
  refine W.seq ?_
  refine W.reg ?_
  refine WO.q (Q.move rfl) rfl ?_
  refine WO.nil ?_
  refine End.K ?_
  refine W.block ?_
  refine W.seq ?_
  refine W.seq ?_
  refine W.reg ?_
  refine WO.q (Q.bin rfl (oc (v := .str [61, 61]) (by kernel_rfl)) rfl bv_seql) rfl ?_
  refine WO.q (Q.assign rfl) rfl ?_
  refine WO.nil ?_
  refine End.K ?_
  refine W.condDS rfl (fun hc4 => ?_) (fun hc4 => ?_)
  · skip -- T
    refine W.skip ?_
    refine End.K ?_
    refine W.condT rfl ?_
    refine W.seq ?_
    refine W.reg ?_
    refine WO.q (Q.assign rfl) rfl ?_
    refine WO.nil ?_
    refine End.K ?_
    refine W.ret ?_
    refine End.KB_ret (End.K_ret (End.retV (ResL.tmp rfl ResL.nil) ?_))
    first | rfl | (refine congrArg AV.bool ?_; simp_all [ariB, cmpB]; done) | (show AV.bool _ = AV.bool _; simp_all [ariB, cmpB])
  · skip -- F
    refine W.seq ?_
    refine W.reg ?_
    refine WO.q (Q.bin rfl (oc (v := .str [33, 61]) (by kernel_rfl)) rfl bv_seql) rfl ?_
    refine WO.q (Q.assign rfl) rfl ?_
    refine WO.nil ?_
    refine End.K ?_
    refine W.condDS rfl (fun hc4 => ?_) (fun hc4 => ?_)
    · skip -- FT
      refine W.skip ?_
      refine End.K ?_
      refine W.condT rfl ?_
      refine W.seq ?_
      refine W.reg ?_
      refine WO.q (Q.assign rfl) rfl ?_
      refine WO.nil ?_
      refine End.K ?_
      refine W.ret ?_
      refine End.KB_ret (End.K_ret (End.retV (ResL.tmp rfl ResL.nil) ?_))
      first | rfl | (refine congrArg AV.bool ?_; simp_all [ariB, cmpB]; done) | (show AV.bool _ = AV.bool _; simp_all [ariB, cmpB])
    · skip -- FF
      refine W.seq ?_
      refine W.reg ?_
      refine WO.q (Q.bin rfl (oc (v := .str [60, 61]) (by kernel_rfl)) rfl bv_seql) rfl ?_
      refine WO.q (Q.assign rfl) rfl ?_
      refine WO.nil ?_
      refine End.K ?_
      refine W.condDS rfl (fun hc4 => ?_) (fun hc4 => ?_)
      · skip -- FFT
        refine W.skip ?_
        refine End.K ?_
        refine W.condT rfl ?_
        refine W.seq ?_
        refine W.reg ?_
        refine WO.q (Q.assign rfl) rfl ?_
        refine WO.nil ?_
        refine End.K ?_
        refine W.ret ?_
        refine End.KB_ret (End.K_ret (End.retV (ResL.tmp rfl ResL.nil) ?_))
        first | rfl | (refine congrArg AV.bool ?_; simp_all [ariB, cmpB]; done) | (show AV.bool _ = AV.bool _; simp_all [ariB, cmpB])
      · skip -- FFF
        refine W.seq ?_
        refine W.reg ?_
        refine WO.q (Q.bin rfl (oc (v := .str [62, 61]) (by kernel_rfl)) rfl bv_seql) rfl ?_
        refine WO.q (Q.assign rfl) rfl ?_
        refine WO.nil ?_
        refine End.K ?_
        refine W.condDS rfl (fun hc4 => ?_) (fun hc4 => ?_)
        · skip -- FFFT
          refine W.skip ?_
          refine End.K ?_
          refine W.condT rfl ?_
          refine W.seq ?_
          refine W.reg ?_
          refine WO.q (Q.assign rfl) rfl ?_
          refine WO.nil ?_
          refine End.K ?_
          refine W.ret ?_
          refine End.KB_ret (End.K_ret (End.retV (ResL.tmp rfl ResL.nil) ?_))
          first | rfl | (refine congrArg AV.bool ?_; simp_all [ariB, cmpB]; done) | (show AV.bool _ = AV.bool _; simp_all [ariB, cmpB])
        · skip -- FFFF
          refine W.seq ?_
          refine W.reg ?_
          refine WO.q (Q.bin rfl (oc (v := .str [60]) (by kernel_rfl)) rfl bv_seql) rfl ?_
          refine WO.q (Q.assign rfl) rfl ?_
          refine WO.nil ?_
          refine End.K ?_
          refine W.condDS rfl (fun hc4 => ?_) (fun hc4 => ?_)
          · skip -- FFFFT
            refine W.skip ?_
            refine End.K ?_
            refine W.condT rfl ?_
            refine W.seq ?_
            refine W.reg ?_
            refine WO.q (Q.assign rfl) rfl ?_
            refine WO.nil ?_
            refine End.K ?_
            refine W.ret ?_
            refine End.KB_ret (End.K_ret (End.retV (ResL.tmp rfl ResL.nil) ?_))
            first | rfl | (refine congrArg AV.bool ?_; simp_all [ariB, cmpB]; done) | (show AV.bool _ = AV.bool _; simp_all [ariB, cmpB])
          · skip -- FFFFF
            refine W.reg ?_
            refine WO.q (Q.bin rfl (oc (v := .str [62]) (by kernel_rfl)) rfl bv_seql) rfl ?_
            refine WO.q (Q.assign rfl) rfl ?_
            refine WO.nil ?_
            refine End.K ?_
            refine W.condDS rfl (fun hc4 => ?_) (fun hc4 => ?_)
            · skip -- FFFFFT
              refine W.seq ?_
              refine W.reg ?_
              refine WO.q (Q.assign rfl) rfl ?_
              refine WO.nil ?_
              refine End.K ?_
              refine W.ret ?_
              refine End.KB_ret (End.K_ret (End.retV (ResL.tmp rfl ResL.nil) ?_))
              first | rfl | (refine congrArg AV.bool ?_; simp_all [ariB, cmpB]; done) | (show AV.bool _ = AV.bool _; simp_all [ariB, cmpB])
            · skip -- FFFFFF
              refine W.skip ?_
              refine End.KB (End.K ?_)
              refine W.seq ?_
              refine W.reg ?_
              refine WO.q (Q.assign rfl) rfl ?_
              refine WO.nil ?_
              refine End.K ?_
              refine W.ret ?_
              refine End.retV (ResL.tmp rfl ResL.nil) ?_
              first | rfl | (refine congrArg AV.bool ?_; simp_all [ariB, cmpB]; done) | (show AV.bool _ = AV.bool _; simp_all [ariB, cmpB])

theorem rari_spec (op : List Nat) (ho : Bytes op) : Spec tab 37 [.str op] [] [] (Val (.bool (ariB op))) := by
  refine Spec.enter' (ft_get 37 Tryz.func37) rfl (m := 21) rfl (rs := [.tmp 2]) rfl (st := [(0, .str op)]) rfl rfl (fun _ => rfl) (fun E => ?_)
  refine W.seq ?_
  refine W.reg ?_
  refine WO.q (Q.assign rfl) rfl ?_
  refine WO.nil ?_
  refine End.K ?_
  refine W.seq ?_
  refine W.reg ?_
  refine WO.q (Q.move rfl) rfl ?_
  refine WO.q (Q.bin rfl (oc (v := .str [43]) (by kernel_rfl)) rfl bv_seql) rfl ?_
  refine WO.q (Q.move rfl) rfl ?_
  refine WO.splitD (d := 5) rfl (fun hc5 => ?_) (fun hc5 => ?_)
  · skip -- t
    refine WO.gF rfl rfl (.inl rfl) rfl ?_
    refine WO.gF rfl rfl (.inl rfl) rfl ?_
    refine WO.q (Q.pickT rfl rfl) rfl ?_
    refine WO.q (Q.move rfl) rfl ?_
    refine WO.gF rfl rfl (.inl rfl) rfl ?_
    refine WO.gF rfl rfl (.inl rfl) rfl ?_
    refine WO.q (Q.pickT rfl rfl) rfl ?_
    refine WO.q (Q.move rfl) rfl ?_
    refine WO.gF rfl rfl (.inl rfl) rfl ?_
    refine WO.gF rfl rfl (.inl rfl) rfl ?_
    refine WO.q (Q.pickT rfl rfl) rfl ?_
    refine WO.q (Q.move rfl) rfl ?_
    refine WO.gF rfl rfl (.inl rfl) rfl ?_
    refine WO.gF rfl rfl (.inl rfl) rfl ?_
    refine WO.q (Q.pickT rfl rfl) rfl ?_
    refine WO.q (Q.assign rfl) rfl ?_
    refine WO.nil ?_
    refine End.K ?_
    refine W.sub (SubS.cons (k := 2) rfl (SubS.nil _)) ?_
    refine W.ret ?_
    refine End.retV (ResL.tmp rfl ResL.nil) ?_
    first | rfl | (refine congrArg AV.bool ?_; simp_all [ariB, cmpB]; done) | (show AV.bool _ = AV.bool _; simp_all [ariB, cmpB])
  · skip -- f
    refine WO.gT rfl rfl ?_
    refine WO.q (Q.move rfl) rfl ?_
    refine WO.gT rfl rfl ?_
    refine WO.q (Q.bin rfl (oc (v := .str [45]) (by kernel_rfl)) rfl bv_seql) rfl ?_
    refine WO.q (Q.pickF rfl rfl) rfl ?_
    refine WO.q (Q.move rfl) rfl ?_
    refine WO.splitD (d := 9) rfl (fun hc9 => ?_) (fun hc9 => ?_)
    · skip -- ft
      refine WO.gF rfl rfl (.inl rfl) rfl ?_
      refine WO.gF rfl rfl (.inl rfl) rfl ?_
      refine WO.q (Q.pickT rfl rfl) rfl ?_
      refine WO.q (Q.move rfl) rfl ?_
      refine WO.gF rfl rfl (.inl rfl) rfl ?_
      refine WO.gF rfl rfl (.inl rfl) rfl ?_
      refine WO.q (Q.pickT rfl rfl) rfl ?_
      refine WO.q (Q.move rfl) rfl ?_
      refine WO.gF rfl rfl (.inl rfl) rfl ?_
      refine WO.gF rfl rfl (.inl rfl) rfl ?_
      refine WO.q (Q.pickT rfl rfl) rfl ?_
      refine WO.q (Q.assign rfl) rfl ?_
      refine WO.nil ?_
      refine End.K ?_
      refine W.sub (SubS.cons (k := 2) rfl (SubS.nil _)) ?_
      refine W.ret ?_
      refine End.retV (ResL.tmp rfl ResL.nil) ?_
      first | rfl | (refine congrArg AV.bool ?_; simp_all [ariB, cmpB]; done) | (show AV.bool _ = AV.bool _; simp_all [ariB, cmpB])
    · skip -- ff
      refine WO.gT rfl rfl ?_
      refine WO.q (Q.move rfl) rfl ?_
      refine WO.gT rfl rfl ?_
      refine WO.q (Q.bin rfl (oc (v := .str [42]) (by kernel_rfl)) rfl bv_seql) rfl ?_
      refine WO.q (Q.pickF rfl rfl) rfl ?_
      refine WO.q (Q.move rfl) rfl ?_
      refine WO.splitD (d := 13) rfl (fun hc13 => ?_) (fun hc13 => ?_)
      · skip -- fft
        refine WO.gF rfl rfl (.inl rfl) rfl ?_
        refine WO.gF rfl rfl (.inl rfl) rfl ?_
        refine WO.q (Q.pickT rfl rfl) rfl ?_
        refine WO.q (Q.move rfl) rfl ?_
        refine WO.gF rfl rfl (.inl rfl) rfl ?_
        refine WO.gF rfl rfl (.inl rfl) rfl ?_
        refine WO.q (Q.pickT rfl rfl) rfl ?_
        refine WO.q (Q.assign rfl) rfl ?_
        refine WO.nil ?_
        refine End.K ?_
        refine W.sub (SubS.cons (k := 2) rfl (SubS.nil _)) ?_
        refine W.ret ?_
        refine End.retV (ResL.tmp rfl ResL.nil) ?_
        first | rfl | (refine congrArg AV.bool ?_; simp_all [ariB, cmpB]; done) | (show AV.bool _ = AV.bool _; simp_all [ariB, cmpB])
      · skip -- fff
        refine WO.gT rfl rfl ?_
        refine WO.q (Q.move rfl) rfl ?_
        refine WO.gT rfl rfl ?_
        refine WO.q (Q.bin rfl (oc (v := .str [47]) (by kernel_rfl)) rfl bv_seql) rfl ?_
        refine WO.q (Q.pickF rfl rfl) rfl ?_
        refine WO.q (Q.move rfl) rfl ?_
        refine WO.splitD (d := 17) rfl (fun hc17 => ?_) (fun hc17 => ?_)
        · skip -- ffft
          refine WO.gF rfl rfl (.inl rfl) rfl ?_
          refine WO.gF rfl rfl (.inl rfl) rfl ?_
          refine WO.q (Q.pickT rfl rfl) rfl ?_
          refine WO.q (Q.assign rfl) rfl ?_
          refine WO.nil ?_
          refine End.K ?_
          refine W.sub (SubS.cons (k := 2) rfl (SubS.nil _)) ?_
          refine W.ret ?_
          refine End.retV (ResL.tmp rfl ResL.nil) ?_
          first | rfl | (refine congrArg AV.bool ?_; simp_all [ariB, cmpB]; done) | (show AV.bool _ = AV.bool _; simp_all [ariB, cmpB])
        · skip -- ffff
          refine WO.gT rfl rfl ?_
          refine WO.q (Q.move rfl) rfl ?_
          refine WO.gT rfl rfl ?_
          refine WO.q (Q.bin rfl (oc (v := .str [37]) (by kernel_rfl)) rfl bv_seql) rfl ?_
          refine WO.q (Q.pickF rfl rfl) rfl ?_
          refine WO.q (Q.assign rfl) rfl ?_
          refine WO.nil ?_
          refine End.K ?_
          refine W.sub (SubS.cons (k := 2) rfl (SubS.nil _)) ?_
          refine W.ret ?_
          refine End.retV (ResL.tmp rfl ResL.nil) ?_
          first | rfl | (refine congrArg AV.bool ?_; simp_all [ariB, cmpB]; done) | (show AV.bool _ = AV.bool _; simp_all [ariB, cmpB])

theorem rcps_spec (op : List Nat) (ho : Bytes op) : Spec tab 38 [.str op] [] [] (Val (.bool (cmpB op))) := by
  refine Spec.enter' (ft_get 38 Tryz.func38) rfl (m := 25) rfl (rs := [.tmp 2]) rfl (st := [(0, .str op)]) rfl rfl (fun _ => rfl) (fun E => ?_)
  refine W.seq ?_
  refine W.reg ?_
  refine WO.q (Q.assign rfl) rfl ?_
  refine WO.nil ?_
  refine End.K ?_
  refine W.seq ?_
  refine W.reg ?_
  refine WO.q (Q.move rfl) rfl ?_
  refine WO.q (Q.bin rfl (oc (v := .str [61, 61]) (by kernel_rfl)) rfl bv_seql) rfl ?_
  refine WO.q (Q.move rfl) rfl ?_
  refine WO.splitD (d := 5) rfl (fun hc5 => ?_) (fun hc5 => ?_)
  · skip -- t
    refine WO.gF rfl rfl (.inl rfl) rfl ?_
    refine WO.gF rfl rfl (.inl rfl) rfl ?_
    refine WO.q (Q.pickT rfl rfl) rfl ?_
    refine WO.q (Q.move rfl) rfl ?_
    refine WO.gF rfl rfl (.inl rfl) rfl ?_
    refine WO.gF rfl rfl (.inl rfl) rfl ?_
    refine WO.q (Q.pickT rfl rfl) rfl ?_
    refine WO.q (Q.move rfl) rfl ?_
    refine WO.gF rfl rfl (.inl rfl) rfl ?_
    refine WO.gF rfl rfl (.inl rfl) rfl ?_
    refine WO.q (Q.pickT rfl rfl) rfl ?_
    refine WO.q (Q.move rfl) rfl ?_
    refine WO.gF rfl rfl (.inl rfl) rfl ?_
    refine WO.gF rfl rfl (.inl rfl) rfl ?_
    refine WO.q (Q.pickT rfl rfl) rfl ?_
    refine WO.q (Q.move rfl) rfl ?_
    refine WO.gF rfl rfl (.inl rfl) rfl ?_
    refine WO.gF rfl rfl (.inl rfl) rfl ?_
    refine WO.q (Q.pickT rfl rfl) rfl ?_
    refine WO.q (Q.assign rfl) rfl ?_
    refine WO.nil ?_
    refine End.K ?_
    refine W.sub (SubS.cons (k := 2) rfl (SubS.nil _)) ?_
    refine W.ret ?_
    refine End.retV (ResL.tmp rfl ResL.nil) ?_
    first | rfl | (refine congrArg AV.bool ?_; simp_all [ariB, cmpB]; done) | (show AV.bool _ = AV.bool _; simp_all [ariB, cmpB])
  · skip -- f
    refine WO.gT rfl rfl ?_
    refine WO.q (Q.move rfl) rfl ?_
    refine WO.gT rfl rfl ?_
    refine WO.q (Q.bin rfl (oc (v := .str [33, 61]) (by kernel_rfl)) rfl bv_seql) rfl ?_
    refine WO.q (Q.pickF rfl rfl) rfl ?_
    refine WO.q (Q.move rfl) rfl ?_
    refine WO.splitD (d := 9) rfl (fun hc9 => ?_) (fun hc9 => ?_)
    · skip -- ft
      refine WO.gF rfl rfl (.inl rfl) rfl ?_
      refine WO.gF rfl rfl (.inl rfl) rfl ?_
      refine WO.q (Q.pickT rfl rfl) rfl ?_
      refine WO.q (Q.move rfl) rfl ?_
      refine WO.gF rfl rfl (.inl rfl) rfl ?_
      refine WO.gF rfl rfl (.inl rfl) rfl ?_
      refine WO.q (Q.pickT rfl rfl) rfl ?_
      refine WO.q (Q.move rfl) rfl ?_
      refine WO.gF rfl rfl (.inl rfl) rfl ?_
      refine WO.gF rfl rfl (.inl rfl) rfl ?_
      refine WO.q (Q.pickT rfl rfl) rfl ?_
      refine WO.q (Q.move rfl) rfl ?_
      refine WO.gF rfl rfl (.inl rfl) rfl ?_
      refine WO.gF rfl rfl (.inl rfl) rfl ?_
      refine WO.q (Q.pickT rfl rfl) rfl ?_
      refine WO.q (Q.assign rfl) rfl ?_
      refine WO.nil ?_
      refine End.K ?_
      refine W.sub (SubS.cons (k := 2) rfl (SubS.nil _)) ?_
      refine W.ret ?_
      refine End.retV (ResL.tmp rfl ResL.nil) ?_
      first | rfl | (refine congrArg AV.bool ?_; simp_all [ariB, cmpB]; done) | (show AV.bool _ = AV.bool _; simp_all [ariB, cmpB])
    · skip -- ff
      refine WO.gT rfl rfl ?_
      refine WO.q (Q.move rfl) rfl ?_
      refine WO.gT rfl rfl ?_
      refine WO.q (Q.bin rfl (oc (v := .str [60, 61]) (by kernel_rfl)) rfl bv_seql) rfl ?_
      refine WO.q (Q.pickF rfl rfl) rfl ?_
      refine WO.q (Q.move rfl) rfl ?_
      refine WO.splitD (d := 13) rfl (fun hc13 => ?_) (fun hc13 => ?_)
      · skip -- fft
        refine WO.gF rfl rfl (.inl rfl) rfl ?_
        refine WO.gF rfl rfl (.inl rfl) rfl ?_
        refine WO.q (Q.pickT rfl rfl) rfl ?_
        refine WO.q (Q.move rfl) rfl ?_
        refine WO.gF rfl rfl (.inl rfl) rfl ?_
        refine WO.gF rfl rfl (.inl rfl) rfl ?_
        refine WO.q (Q.pickT rfl rfl) rfl ?_
        refine WO.q (Q.move rfl) rfl ?_
        refine WO.gF rfl rfl (.inl rfl) rfl ?_
        refine WO.gF rfl rfl (.inl rfl) rfl ?_
        refine WO.q (Q.pickT rfl rfl) rfl ?_
        refine WO.q (Q.assign rfl) rfl ?_
        refine WO.nil ?_
        refine End.K ?_
        refine W.sub (SubS.cons (k := 2) rfl (SubS.nil _)) ?_
        refine W.ret ?_
        refine End.retV (ResL.tmp rfl ResL.nil) ?_
        first | rfl | (refine congrArg AV.bool ?_; simp_all [ariB, cmpB]; done) | (show AV.bool _ = AV.bool _; simp_all [ariB, cmpB])
      · skip -- fff
        refine WO.gT rfl rfl ?_
        refine WO.q (Q.move rfl) rfl ?_
        refine WO.gT rfl rfl ?_
        refine WO.q (Q.bin rfl (oc (v := .str [62, 61]) (by kernel_rfl)) rfl bv_seql) rfl ?_
        refine WO.q (Q.pickF rfl rfl) rfl ?_
        refine WO.q (Q.move rfl) rfl ?_
        refine WO.splitD (d := 17) rfl (fun hc17 => ?_) (fun hc17 => ?_)
        · skip -- ffft
          refine WO.gF rfl rfl (.inl rfl) rfl ?_
          refine WO.gF rfl rfl (.inl rfl) rfl ?_
          refine WO.q (Q.pickT rfl rfl) rfl ?_
          refine WO.q (Q.move rfl) rfl ?_
          refine WO.gF rfl rfl (.inl rfl) rfl ?_
          refine WO.gF rfl rfl (.inl rfl) rfl ?_
          refine WO.q (Q.pickT rfl rfl) rfl ?_
          refine WO.q (Q.assign rfl) rfl ?_
          refine WO.nil ?_
          refine End.K ?_
          refine W.sub (SubS.cons (k := 2) rfl (SubS.nil _)) ?_
          refine W.ret ?_
          refine End.retV (ResL.tmp rfl ResL.nil) ?_
          first | rfl | (refine congrArg AV.bool ?_; simp_all [ariB, cmpB]; done) | (show AV.bool _ = AV.bool _; simp_all [ariB, cmpB])
        · skip -- ffff
          refine WO.gT rfl rfl ?_
          refine WO.q (Q.move rfl) rfl ?_
          refine WO.gT rfl rfl ?_
          refine WO.q (Q.bin rfl (oc (v := .str [60]) (by kernel_rfl)) rfl bv_seql) rfl ?_
          refine WO.q (Q.pickF rfl rfl) rfl ?_
          refine WO.q (Q.move rfl) rfl ?_
          refine WO.splitD (d := 21) rfl (fun hc21 => ?_) (fun hc21 => ?_)
          · skip -- fffft
            refine WO.gF rfl rfl (.inl rfl) rfl ?_
            refine WO.gF rfl rfl (.inl rfl) rfl ?_
            refine WO.q (Q.pickT rfl rfl) rfl ?_
            refine WO.q (Q.assign rfl) rfl ?_
            refine WO.nil ?_
            refine End.K ?_
            refine W.sub (SubS.cons (k := 2) rfl (SubS.nil _)) ?_
            refine W.ret ?_
            refine End.retV (ResL.tmp rfl ResL.nil) ?_
            first | rfl | (refine congrArg AV.bool ?_; simp_all [ariB, cmpB]; done) | (show AV.bool _ = AV.bool _; simp_all [ariB, cmpB])
          · skip -- fffff
            refine WO.gT rfl rfl ?_
            refine WO.q (Q.move rfl) rfl ?_
            refine WO.gT rfl rfl ?_
            refine WO.q (Q.bin rfl (oc (v := .str [62]) (by kernel_rfl)) rfl bv_seql) rfl ?_
            refine WO.q (Q.pickF rfl rfl) rfl ?_
            refine WO.q (Q.assign rfl) rfl ?_
            refine WO.nil ?_
            refine End.K ?_
            refine W.sub (SubS.cons (k := 2) rfl (SubS.nil _)) ?_
            refine W.ret ?_
            refine End.retV (ResL.tmp rfl ResL.nil) ?_
            first | rfl | (refine congrArg AV.bool ?_; simp_all [ariB, cmpB]; done) | (show AV.bool _ = AV.bool _; simp_all [ariB, cmpB])

theorem truth_spec (p : Bool) : Spec tab 45 [.bool p] [] [] (Val (.tuple [.int .i64 (if p = true then 1000000 else 0), .int .i64 ((0 : Nat) : Int)])) := by
  refine Spec.enter' (ft_get 45 Tryz.func45) rfl (m := 5) rfl (rs := [.tmp 2, .tmp 3]) rfl (st := [(0, .bool p)]) rfl rfl (fun _ => rfl) (fun E => ?_)
  refine W.seq ?_
  refine W.reg ?_
  refine WO.q (Q.assign (oc (v := .int .i64 ((0 : Nat) : Int)) rfl)) rfl ?_
  refine WO.q (Q.assign (oc (v := .int .i64 ((0 : Nat) : Int)) rfl)) rfl ?_
  refine WO.nil ?_
  refine End.K ?_
  refine W.seq ?_
  refine W.seq ?_
  refine W.reg ?_
  refine WO.q (Q.move rfl) rfl ?_
  refine WO.nil ?_
  refine End.K ?_
  refine W.condS rfl (fun hc4 => ?_) (fun hc4 => ?_)
  · skip -- T
    refine W.seq ?_
    refine W.reg ?_
    refine WO.q (Q.assign (oc (v := .int .i64 ((1000000 : Nat) : Int)) rfl)) rfl ?_
    refine WO.q (Q.assign (oc (v := .int .i64 ((0 : Nat) : Int)) rfl)) rfl ?_
    refine WO.nil ?_
    refine End.K ?_
    refine W.ret ?_
    refine End.K_ret (End.retV (ResL.tmp rfl (ResL.tmp rfl ResL.nil)) ?_)
    simp_all [oneOf]
  · skip -- F
    refine W.skip ?_
    refine End.K ?_
    refine W.seq ?_
    refine W.reg ?_
    refine WO.q (Q.assign (oc (v := .int .i64 ((0 : Nat) : Int)) rfl)) rfl ?_
    refine WO.q (Q.assign (oc (v := .int .i64 ((0 : Nat) : Int)) rfl)) rfl ?_
    refine WO.nil ?_
    refine End.K ?_
    refine W.ret ?_
    refine End.retV (ResL.tmp rfl (ResL.tmp rfl ResL.nil)) ?_
    simp_all [oneOf]

theorem holds_spec (op : List Nat) (ho : Bytes op) (a b : Int) : Spec tab 51 [.str op, .int .i64 a, .int .i64 b] [] [] (Val (.bool (cmpP op a b))) := by
  refine Spec.enter' (ft_get 51 Tryz.func51) rfl (m := 36) rfl (rs := [.tmp 6]) rfl (st := [(0, .str op), (1, .int .i64 a), (2, .int .i64 b)]) rfl rfl (fun _ => rfl) (fun E => ?_)
  refine W.seq ?_
  refine W.reg ?_
  refine WO.q (Q.assign rfl) rfl ?_
  refine WO.nil ?_
  refine End.K ?_
  refine W.seq ?_
  refine W.seq ?_
  refine W.reg ?_
  refine WO.q (Q.move rfl) rfl ?_
  refine WO.nil ?_
  refine End.K ?_
  refine W.block ?_
  refine W.seq ?_
  refine W.reg ?_
  refine WO.q (Q.bin rfl (oc (v := .str [61, 61]) (by kernel_rfl)) rfl bv_seql) rfl ?_
  refine WO.q (Q.assign rfl) rfl ?_
  refine WO.nil ?_
  refine End.K ?_
  refine W.condDS rfl (fun hc8 => ?_) (fun hc8 => ?_)
  · skip -- T
    refine W.seq ?_
    refine W.reg ?_
    refine WO.q (Q.move rfl) rfl ?_
    refine WO.q (Q.move rfl) rfl ?_
    refine WO.q (Q.bin rfl rfl rfl (bv_eql eq_int)) rfl ?_
    refine WO.q (Q.assign rfl) rfl ?_
    refine WO.nil ?_
    refine End.K ?_
    refine W.ret ?_
    refine End.KB_ret (End.K_ret (End.retV (ResL.tmp rfl ResL.nil) ?_))
    first | rfl | (show AV.bool _ = AV.bool _; simp_all [cmpP]; done) | (show AV.bool _ = AV.bool _; simp_all [cmpP] <;> omega)
  · skip -- F
    refine W.seq ?_
    refine W.reg ?_
    refine WO.q (Q.bin rfl (oc (v := .str [33, 61]) (by kernel_rfl)) rfl bv_seql) rfl ?_
    refine WO.q (Q.assign rfl) rfl ?_
    refine WO.nil ?_
    refine End.K ?_
    refine W.condDS rfl (fun hc13 => ?_) (fun hc13 => ?_)
    · skip -- FT
      refine W.seq ?_
      refine W.reg ?_
      refine WO.q (Q.move rfl) rfl ?_
      refine WO.q (Q.move rfl) rfl ?_
      refine WO.q (Q.bin rfl rfl rfl (bv_neq ne_int)) rfl ?_
      refine WO.q (Q.assign rfl) rfl ?_
      refine WO.nil ?_
      refine End.K ?_
      refine W.ret ?_
      refine End.KB_ret (End.K_ret (End.retV (ResL.tmp rfl ResL.nil) ?_))
      first | rfl | (show AV.bool _ = AV.bool _; simp_all [cmpP]; done) | (show AV.bool _ = AV.bool _; simp_all [cmpP] <;> omega)
    · skip -- FF
      refine W.seq ?_
      refine W.reg ?_
      refine WO.q (Q.bin rfl (oc (v := .str [60, 61]) (by kernel_rfl)) rfl bv_seql) rfl ?_
      refine WO.q (Q.assign rfl) rfl ?_
      refine WO.nil ?_
      refine End.K ?_
      refine W.condDS rfl (fun hc18 => ?_) (fun hc18 => ?_)
      · skip -- FFT
        refine W.seq ?_
        refine W.reg ?_
        refine WO.q (Q.move rfl) rfl ?_
        refine WO.q (Q.move rfl) rfl ?_
        refine WO.q (Q.bin rfl rfl rfl (bv_leq le_int)) rfl ?_
        refine WO.q (Q.assign rfl) rfl ?_
        refine WO.nil ?_
        refine End.K ?_
        refine W.ret ?_
        refine End.KB_ret (End.K_ret (End.retV (ResL.tmp rfl ResL.nil) ?_))
        first | rfl | (show AV.bool _ = AV.bool _; simp_all [cmpP]; done) | (show AV.bool _ = AV.bool _; simp_all [cmpP] <;> omega)
      · skip -- FFF
        refine W.seq ?_
        refine W.reg ?_
        refine WO.q (Q.bin rfl (oc (v := .str [62, 61]) (by kernel_rfl)) rfl bv_seql) rfl ?_
        refine WO.q (Q.assign rfl) rfl ?_
        refine WO.nil ?_
        refine End.K ?_
        refine W.condDS rfl (fun hc23 => ?_) (fun hc23 => ?_)
        · skip -- FFFT
          refine W.seq ?_
          refine W.reg ?_
          refine WO.q (Q.move rfl) rfl ?_
          refine WO.q (Q.move rfl) rfl ?_
          refine WO.q (Q.bin rfl rfl rfl (bv_geq le_int)) rfl ?_
          refine WO.q (Q.assign rfl) rfl ?_
          refine WO.nil ?_
          refine End.K ?_
          refine W.sub (SubS.cons (k := 6) rfl (SubS.nil _)) ?_
          refine W.ret ?_
          refine End.KB_ret (End.K_ret (End.retV (ResL.tmp rfl ResL.nil) ?_))
          first | rfl | (show AV.bool _ = AV.bool _; simp_all [cmpP]; done) | (show AV.bool _ = AV.bool _; simp_all [cmpP] <;> omega)
        · skip -- FFFF
          refine W.seq ?_
          refine W.reg ?_
          refine WO.q (Q.bin rfl (oc (v := .str [60]) (by kernel_rfl)) rfl bv_seql) rfl ?_
          refine WO.q (Q.assign rfl) rfl ?_
          refine WO.nil ?_
          refine End.K ?_
          refine W.condDS rfl (fun hc28 => ?_) (fun hc28 => ?_)
          · skip -- FFFFT
            refine W.seq ?_
            refine W.reg ?_
            refine WO.q (Q.move rfl) rfl ?_
            refine WO.q (Q.move rfl) rfl ?_
            refine WO.q (Q.bin rfl rfl rfl (bv_lss (ltA_eq _ _))) rfl ?_
            refine WO.q (Q.assign rfl) rfl ?_
            refine WO.nil ?_
            refine End.K ?_
            refine W.sub (SubS.cons (k := 6) rfl (SubS.nil _)) ?_
            refine W.ret ?_
            refine End.KB_ret (End.K_ret (End.retV (ResL.tmp rfl ResL.nil) ?_))
            first | rfl | (show AV.bool _ = AV.bool _; simp_all [cmpP]; done) | (show AV.bool _ = AV.bool _; simp_all [cmpP] <;> omega)
          · skip -- FFFFF
            refine W.skip ?_
            refine End.KB (End.K ?_)
            refine W.seq ?_
            refine W.reg ?_
            refine WO.q (Q.move rfl) rfl ?_
            refine WO.q (Q.move rfl) rfl ?_
            refine WO.q (Q.bin rfl rfl rfl (bv_gtr (ltA_eq _ _))) rfl ?_
            refine WO.q (Q.assign rfl) rfl ?_
            refine WO.nil ?_
            refine End.K ?_
            refine W.sub (SubS.cons (k := 6) rfl (SubS.nil _)) ?_
            refine W.ret ?_
            refine End.retV (ResL.tmp rfl ResL.nil) ?_
            first | rfl | (show AV.bool _ = AV.bool _; simp_all [cmpP]; done) | (show AV.bool _ = AV.bool _; simp_all [cmpP] <;> omega)

theorem num_spec (op : List Nat) (ho : Bytes op) (a b : Int) : Spec tab 16 [.str op, .int .i64 a, .int .i64 b] [] [] (Val (pairA (numM op a b))) := by
  refine Spec.enter' (ft_get 16 Tryz.func16) rfl (m := 108) rfl (rs := [.tmp 6, .tmp 7]) rfl (st := [(0, .str op), (1, .int .i64 a), (2, .int .i64 b)]) rfl rfl (fun _ => rfl) (fun E => ?_)
  refine W.seq ?_
  refine W.reg ?_
  refine WO.q (Q.assign (oc (v := .int .i64 ((0 : Nat) : Int)) rfl)) rfl ?_
  refine WO.q (Q.assign (oc (v := .int .i64 ((0 : Nat) : Int)) rfl)) rfl ?_
  refine WO.nil ?_
  refine End.K ?_
  refine W.seqK1 (fun (q : Unit) => [(0, .str op), (1, .int .i64 a), (2, .int .i64 b)]) (fun (q : Unit) => (ariB op = true ∨ cmpB op = true) ∧ fitB a = true ∧ fitB b = true) (fun q hI5 => ?_) (fun hJ5 => ?_)
  · skip -- J5
    obtain ⟨hg1, hg2, hg3⟩ := hI5
    have hg := numM_go hg1 hg2 hg3
    refine W.seq ?_
    refine W.seq ?_
    refine W.reg ?_
    refine WO.q (Q.move rfl) rfl ?_
    refine WO.nil ?_
    refine End.K ?_
    refine W.block ?_
    refine W.seq ?_
    refine W.reg ?_
    refine WO.q (Q.bin rfl (oc (v := .str [43]) (by kernel_rfl)) rfl bv_seql) rfl ?_
    refine WO.q (Q.assign rfl) rfl ?_
    refine WO.nil ?_
    refine End.K ?_
    refine W.condDS rfl (fun hc27 => ?_) (fun hc27 => ?_)
    · skip -- J5T
      refine W.seq ?_
      refine W.reg ?_
      refine WO.q (Q.move rfl) rfl ?_
      refine WO.q (Q.move rfl) rfl ?_
      refine WO.callV rfl (oLs_cons rfl (oLs_cons rfl oLs_nil)) rfl (Spec.known (fun _ => rfl)) SubR.nil rfl ?_
      refine WO.q (Q.extract rfl rfl) rfl ?_
      refine WO.q (Q.extract rfl rfl) rfl ?_
      refine WO.q (Q.assign rfl) rfl ?_
      refine WO.q (Q.assign rfl) rfl ?_
      refine WO.nil ?_
      refine End.K ?_
      refine W.ret ?_
      refine End.KB_ret (End.K_ret (End.retV (ResL.tmp rfl (ResL.tmp rfl ResL.nil)) ?_))
      first | (refine congrArg pairA (Eq.symm ?_); rw [hg]; simp_all; done) | (rw [hg]; unfold pairA oneOf; simp_all; done) | (rw [hg]; unfold pairA oneOf; simp_all [cmpP]; done) | (rw [hg]; unfold pairA oneOf; simp_all [cmpP]; split <;> simp_all; done) | (rw [hg]; unfold pairA oneOf; simp_all [cmpP]; split <;> simp_all <;> omega)
    · skip -- J5F
      refine W.seq ?_
      refine W.reg ?_
      refine WO.q (Q.bin rfl (oc (v := .str [45]) (by kernel_rfl)) rfl bv_seql) rfl ?_
      refine WO.q (Q.assign rfl) rfl ?_
      refine WO.nil ?_
      refine End.K ?_
      refine W.condDS rfl (fun hc34 => ?_) (fun hc34 => ?_)
      · skip -- J5FT
        refine W.seq ?_
        refine W.reg ?_
        refine WO.q (Q.move rfl) rfl ?_
        refine WO.q (Q.move rfl) rfl ?_
        refine WO.callV rfl (oLs_cons rfl (oLs_cons rfl oLs_nil)) rfl (Spec.known (fun _ => rfl)) SubR.nil rfl ?_
        refine WO.q (Q.extract rfl rfl) rfl ?_
        refine WO.q (Q.extract rfl rfl) rfl ?_
        refine WO.q (Q.assign rfl) rfl ?_
        refine WO.q (Q.assign rfl) rfl ?_
        refine WO.nil ?_
        refine End.K ?_
        refine W.ret ?_
        refine End.KB_ret (End.K_ret (End.retV (ResL.tmp rfl (ResL.tmp rfl ResL.nil)) ?_))
        first | (refine congrArg pairA (Eq.symm ?_); rw [hg]; simp_all; done) | (rw [hg]; unfold pairA oneOf; simp_all; done) | (rw [hg]; unfold pairA oneOf; simp_all [cmpP]; done) | (rw [hg]; unfold pairA oneOf; simp_all [cmpP]; split <;> simp_all; done) | (rw [hg]; unfold pairA oneOf; simp_all [cmpP]; split <;> simp_all <;> omega)
      · skip -- J5FF
        refine W.seq ?_
        refine W.reg ?_
        refine WO.q (Q.bin rfl (oc (v := .str [42]) (by kernel_rfl)) rfl bv_seql) rfl ?_
        refine WO.q (Q.assign rfl) rfl ?_
        refine WO.nil ?_
        refine End.K ?_
        refine W.condDS rfl (fun hc41 => ?_) (fun hc41 => ?_)
        · skip -- J5FFT
          refine W.seq ?_
          refine W.reg ?_
          refine WO.q (Q.move rfl) rfl ?_
          refine WO.q (Q.move rfl) rfl ?_
          refine WO.callV rfl (oLs_cons rfl (oLs_cons rfl oLs_nil)) rfl (Spec.known (fun _ => rfl)) SubR.nil rfl ?_
          refine WO.q (Q.extract rfl rfl) rfl ?_
          refine WO.q (Q.extract rfl rfl) rfl ?_
          refine WO.q (Q.assign rfl) rfl ?_
          refine WO.q (Q.assign rfl) rfl ?_
          refine WO.nil ?_
          refine End.K ?_
          refine W.sub (SubS.cons (k := 7) rfl (SubS.cons (k := 6) rfl (SubS.nil _))) ?_
          refine W.ret ?_
          refine End.KB_ret (End.K_ret (End.retV (ResL.tmp rfl (ResL.tmp rfl ResL.nil)) ?_))
          first | (refine congrArg pairA (Eq.symm ?_); rw [hg]; simp_all; done) | (rw [hg]; unfold pairA oneOf; simp_all; done) | (rw [hg]; unfold pairA oneOf; simp_all [cmpP]; done) | (rw [hg]; unfold pairA oneOf; simp_all [cmpP]; split <;> simp_all; done) | (rw [hg]; unfold pairA oneOf; simp_all [cmpP]; split <;> simp_all <;> omega)
        · skip -- J5FFF
          refine W.seq ?_
          refine W.reg ?_
          refine WO.q (Q.bin rfl (oc (v := .str [47]) (by kernel_rfl)) rfl bv_seql) rfl ?_
          refine WO.q (Q.assign rfl) rfl ?_
          refine WO.nil ?_
          refine End.K ?_
          refine W.condDS rfl (fun hc48 => ?_) (fun hc48 => ?_)
          · skip -- J5FFFT
            refine W.seq ?_
            refine W.reg ?_
            refine WO.q (Q.move rfl) rfl ?_
            refine WO.q (Q.move rfl) rfl ?_
            refine WO.callV rfl (oLs_cons rfl (oLs_cons rfl oLs_nil)) rfl (Spec.known (fun _ => rfl)) SubR.nil rfl ?_
            refine WO.q (Q.extract rfl rfl) rfl ?_
            refine WO.q (Q.extract rfl rfl) rfl ?_
            refine WO.q (Q.assign rfl) rfl ?_
            refine WO.q (Q.assign rfl) rfl ?_
            refine WO.nil ?_
            refine End.K ?_
            refine W.sub (SubS.cons (k := 7) rfl (SubS.cons (k := 6) rfl (SubS.nil _))) ?_
            refine W.ret ?_
            refine End.KB_ret (End.K_ret (End.retV (ResL.tmp rfl (ResL.tmp rfl ResL.nil)) ?_))
            first | (refine congrArg pairA (Eq.symm ?_); rw [hg]; simp_all; done) | (rw [hg]; unfold pairA oneOf; simp_all; done) | (rw [hg]; unfold pairA oneOf; simp_all [cmpP]; done) | (rw [hg]; unfold pairA oneOf; simp_all [cmpP]; split <;> simp_all; done) | (rw [hg]; unfold pairA oneOf; simp_all [cmpP]; split <;> simp_all <;> omega)
          · skip -- J5FFFF
            refine W.seq ?_
            refine W.reg ?_
            refine WO.q (Q.bin rfl (oc (v := .str [37]) (by kernel_rfl)) rfl bv_seql) rfl ?_
            refine WO.q (Q.assign rfl) rfl ?_
            refine WO.nil ?_
            refine End.K ?_
            refine W.condDS rfl (fun hc55 => ?_) (fun hc55 => ?_)
            · skip -- J5FFFFT
              refine W.seq ?_
              refine W.reg ?_
              refine WO.q (Q.move rfl) rfl ?_
              refine WO.q (Q.move rfl) rfl ?_
              refine WO.callV rfl (oLs_cons rfl (oLs_cons rfl oLs_nil)) rfl (Spec.known (fun _ => rfl)) SubR.nil rfl ?_
              refine WO.q (Q.extract rfl rfl) rfl ?_
              refine WO.q (Q.extract rfl rfl) rfl ?_
              refine WO.q (Q.assign rfl) rfl ?_
              refine WO.q (Q.assign rfl) rfl ?_
              refine WO.nil ?_
              refine End.K ?_
              refine W.sub (SubS.cons (k := 7) rfl (SubS.cons (k := 6) rfl (SubS.nil _))) ?_
              refine W.ret ?_
              refine End.KB_ret (End.K_ret (End.retV (ResL.tmp rfl (ResL.tmp rfl ResL.nil)) ?_))
              first | (refine congrArg pairA (Eq.symm ?_); rw [hg]; simp_all; done) | (rw [hg]; unfold pairA oneOf; simp_all; done) | (rw [hg]; unfold pairA oneOf; simp_all [cmpP]; done) | (rw [hg]; unfold pairA oneOf; simp_all [cmpP]; split <;> simp_all; done) | (rw [hg]; unfold pairA oneOf; simp_all [cmpP]; split <;> simp_all <;> omega)
            · skip -- J5FFFFF
              refine W.seq ?_
              refine W.reg ?_
              refine WO.q (Q.bin rfl (oc (v := .str [61, 61]) (by kernel_rfl)) rfl bv_seql) rfl ?_
              refine WO.q (Q.assign rfl) rfl ?_
              refine WO.nil ?_
              refine End.K ?_
              refine W.condDS rfl (fun hc62 => ?_) (fun hc62 => ?_)
              · skip -- J5FFFFFT
                refine W.seq ?_
                refine W.reg ?_
                refine WO.q (Q.move rfl) rfl ?_
                refine WO.q (Q.move rfl) rfl ?_
                refine WO.q (Q.bin rfl rfl rfl (bv_eql eq_int)) rfl ?_
                refine WO.callV rfl (oLs_cons rfl oLs_nil) rfl (truth_spec _) SubR.nil rfl ?_
                refine WO.q (Q.extract rfl rfl) rfl ?_
                refine WO.q (Q.extract rfl rfl) rfl ?_
                refine WO.q (Q.assign rfl) rfl ?_
                refine WO.q (Q.assign rfl) rfl ?_
                refine WO.nil ?_
                refine End.K ?_
                refine W.sub (SubS.cons (k := 7) rfl (SubS.cons (k := 6) rfl (SubS.nil _))) ?_
                refine W.ret ?_
                refine End.KB_ret (End.K_ret (End.retV (ResL.tmp rfl (ResL.tmp rfl ResL.nil)) ?_))
                first | (refine congrArg pairA (Eq.symm ?_); rw [hg]; simp_all; done) | (rw [hg]; unfold pairA oneOf; simp_all; done) | (rw [hg]; unfold pairA oneOf; simp_all [cmpP]; done) | (rw [hg]; unfold pairA oneOf; simp_all [cmpP]; split <;> simp_all; done) | (rw [hg]; unfold pairA oneOf; simp_all [cmpP]; split <;> simp_all <;> omega)
              · skip -- J5FFFFFF
                refine W.seq ?_
                refine W.reg ?_
                refine WO.q (Q.bin rfl (oc (v := .str [33, 61]) (by kernel_rfl)) rfl bv_seql) rfl ?_
                refine WO.q (Q.assign rfl) rfl ?_
                refine WO.nil ?_
                refine End.K ?_
                refine W.sub (SubS.cons (k := 70) rfl (SubS.cons (k := 26) rfl (SubS.cons (k := 1) rfl (SubS.cons (k := 2) rfl (SubS.nil _))))) ?_
                refine W.condDS rfl (fun hc70 => ?_) (fun hc70 => ?_)
                · skip -- J5FFFFFFT
                  refine W.seq ?_
                  refine W.reg ?_
                  refine WO.q (Q.move rfl) rfl ?_
                  refine WO.q (Q.move rfl) rfl ?_
                  refine WO.q (Q.bin rfl rfl rfl (bv_neq ne_int)) rfl ?_
                  refine WO.callV rfl (oLs_cons rfl oLs_nil) rfl (truth_spec _) SubR.nil rfl ?_
                  refine WO.q (Q.extract rfl rfl) rfl ?_
                  refine WO.q (Q.extract rfl rfl) rfl ?_
                  refine WO.q (Q.assign rfl) rfl ?_
                  refine WO.q (Q.assign rfl) rfl ?_
                  refine WO.nil ?_
                  refine End.K ?_
                  refine W.ret ?_
                  refine End.KB_ret (End.K_ret (End.retV (ResL.tmp rfl (ResL.tmp rfl ResL.nil)) ?_))
                  first | (refine congrArg pairA (Eq.symm ?_); rw [hg]; simp_all; done) | (rw [hg]; unfold pairA oneOf; simp_all; done) | (rw [hg]; unfold pairA oneOf; simp_all [cmpP]; done) | (rw [hg]; unfold pairA oneOf; simp_all [cmpP]; split <;> simp_all; done) | (rw [hg]; unfold pairA oneOf; simp_all [cmpP]; split <;> simp_all <;> omega)
                · skip -- J5FFFFFFF
                  refine W.seq ?_
                  refine W.reg ?_
                  refine WO.q (Q.bin rfl (oc (v := .str [60, 61]) (by kernel_rfl)) rfl bv_seql) rfl ?_
                  refine WO.q (Q.assign rfl) rfl ?_
                  refine WO.nil ?_
                  refine End.K ?_
                  refine W.condDS rfl (fun hc78 => ?_) (fun hc78 => ?_)
                  · skip -- J5FFFFFFFT
                    refine W.seq ?_
                    refine W.reg ?_
                    refine WO.q (Q.move rfl) rfl ?_
                    refine WO.q (Q.move rfl) rfl ?_
                    refine WO.q (Q.bin rfl rfl rfl (bv_leq le_int)) rfl ?_
                    refine WO.callV rfl (oLs_cons rfl oLs_nil) rfl (truth_spec _) SubR.nil rfl ?_
                    refine WO.q (Q.extract rfl rfl) rfl ?_
                    refine WO.q (Q.extract rfl rfl) rfl ?_
                    refine WO.q (Q.assign rfl) rfl ?_
                    refine WO.q (Q.assign rfl) rfl ?_
                    refine WO.nil ?_
                    refine End.K ?_
                    refine W.ret ?_
                    refine End.KB_ret (End.K_ret (End.retV (ResL.tmp rfl (ResL.tmp rfl ResL.nil)) ?_))
                    first | (refine congrArg pairA (Eq.symm ?_); rw [hg]; simp_all; done) | (rw [hg]; unfold pairA oneOf; simp_all; done) | (rw [hg]; unfold pairA oneOf; simp_all [cmpP]; done) | (rw [hg]; unfold pairA oneOf; simp_all [cmpP]; split <;> simp_all; done) | (rw [hg]; unfold pairA oneOf; simp_all [cmpP]; split <;> simp_all <;> omega)
                  · skip -- J5FFFFFFFF
                    refine W.seq ?_
                    refine W.reg ?_
                    refine WO.q (Q.bin rfl (oc (v := .str [62, 61]) (by kernel_rfl)) rfl bv_seql) rfl ?_
                    refine WO.q (Q.assign rfl) rfl ?_
                    refine WO.nil ?_
                    refine End.K ?_
                    refine W.condDS rfl (fun hc86 => ?_) (fun hc86 => ?_)
                    · skip -- J5FFFFFFFFT
                      refine W.seq ?_
                      refine W.reg ?_
                      refine WO.q (Q.move rfl) rfl ?_
                      refine WO.q (Q.move rfl) rfl ?_
                      refine WO.q (Q.bin rfl rfl rfl (bv_geq le_int)) rfl ?_
                      refine WO.callV rfl (oLs_cons rfl oLs_nil) rfl (truth_spec _) SubR.nil rfl ?_
                      refine WO.q (Q.extract rfl rfl) rfl ?_
                      refine WO.q (Q.extract rfl rfl) rfl ?_
                      refine WO.q (Q.assign rfl) rfl ?_
                      refine WO.q (Q.assign rfl) rfl ?_
                      refine WO.nil ?_
                      refine End.K ?_
                      refine W.sub (SubS.cons (k := 7) rfl (SubS.cons (k := 6) rfl (SubS.nil _))) ?_
                      refine W.ret ?_
                      refine End.KB_ret (End.K_ret (End.retV (ResL.tmp rfl (ResL.tmp rfl ResL.nil)) ?_))
                      first | (refine congrArg pairA (Eq.symm ?_); rw [hg]; simp_all; done) | (rw [hg]; unfold pairA oneOf; simp_all; done) | (rw [hg]; unfold pairA oneOf; simp_all [cmpP]; done) | (rw [hg]; unfold pairA oneOf; simp_all [cmpP]; split <;> simp_all; done) | (rw [hg]; unfold pairA oneOf; simp_all [cmpP]; split <;> simp_all <;> omega)
                    · skip -- J5FFFFFFFFF
                      refine W.seq ?_
                      refine W.reg ?_
                      refine WO.q (Q.bin rfl (oc (v := .str [60]) (by kernel_rfl)) rfl bv_seql) rfl ?_
                      refine WO.q (Q.assign rfl) rfl ?_
                      refine WO.nil ?_
                      refine End.K ?_
                      refine W.condDS rfl (fun hc94 => ?_) (fun hc94 => ?_)
                      · skip -- J5FFFFFFFFFT
                        refine W.seq ?_
                        refine W.reg ?_
                        refine WO.q (Q.move rfl) rfl ?_
                        refine WO.q (Q.move rfl) rfl ?_
                        refine WO.q (Q.bin rfl rfl rfl (bv_lss (ltA_eq _ _))) rfl ?_
                        refine WO.callV rfl (oLs_cons rfl oLs_nil) rfl (truth_spec _) SubR.nil rfl ?_
                        refine WO.q (Q.extract rfl rfl) rfl ?_
                        refine WO.q (Q.extract rfl rfl) rfl ?_
                        refine WO.q (Q.assign rfl) rfl ?_
                        refine WO.q (Q.assign rfl) rfl ?_
                        refine WO.nil ?_
                        refine End.K ?_
                        refine W.sub (SubS.cons (k := 7) rfl (SubS.cons (k := 6) rfl (SubS.nil _))) ?_
                        refine W.ret ?_
                        refine End.KB_ret (End.K_ret (End.retV (ResL.tmp rfl (ResL.tmp rfl ResL.nil)) ?_))
                        first | (refine congrArg pairA (Eq.symm ?_); rw [hg]; simp_all; done) | (rw [hg]; unfold pairA oneOf; simp_all; done) | (rw [hg]; unfold pairA oneOf; simp_all [cmpP]; done) | (rw [hg]; unfold pairA oneOf; simp_all [cmpP]; split <;> simp_all; done) | (rw [hg]; unfold pairA oneOf; simp_all [cmpP]; split <;> simp_all <;> omega)
                      · skip -- J5FFFFFFFFFF
                        refine W.skip ?_
                        refine End.KB (End.K ?_)
                        refine W.seq ?_
                        refine W.reg ?_
                        refine WO.q (Q.move rfl) rfl ?_
                        refine WO.q (Q.move rfl) rfl ?_
                        refine WO.q (Q.bin rfl rfl rfl (bv_gtr (ltA_eq _ _))) rfl ?_
                        refine WO.callV rfl (oLs_cons rfl oLs_nil) rfl (truth_spec _) SubR.nil rfl ?_
                        refine WO.q (Q.extract rfl rfl) rfl ?_
                        refine WO.q (Q.extract rfl rfl) rfl ?_
                        refine WO.q (Q.assign rfl) rfl ?_
                        refine WO.q (Q.assign rfl) rfl ?_
                        refine WO.nil ?_
                        refine End.K ?_
                        refine W.sub (SubS.cons (k := 7) rfl (SubS.cons (k := 6) rfl (SubS.nil _))) ?_
                        refine W.ret ?_
                        refine End.retV (ResL.tmp rfl (ResL.tmp rfl ResL.nil)) ?_
                        first | (refine congrArg pairA (Eq.symm ?_); rw [hg]; simp_all; done) | (rw [hg]; unfold pairA oneOf; simp_all; done) | (rw [hg]; unfold pairA oneOf; simp_all [cmpP]; done) | (rw [hg]; unfold pairA oneOf; simp_all [cmpP]; split <;> simp_all; done) | (rw [hg]; unfold pairA oneOf; simp_all [cmpP]; split <;> simp_all <;> omega)
  · skip
    refine W.block ?_
    refine W.seq ?_
    refine W.reg ?_
    refine WO.q (Q.move rfl) rfl ?_
    refine WO.callV rfl (oLs_cons rfl oLs_nil) rfl (ari_spec _ ho) SubR.nil rfl ?_
    refine WO.q (Q.not rfl rfl) rfl ?_
    refine WO.q (Q.move rfl) rfl ?_
    refine WO.split (d := 12) rfl (fun hc12 => ?_) (fun hc12 => ?_)
    · skip -- t
      refine WO.gT rfl rfl ?_
      refine WO.q (Q.move rfl) rfl ?_
      refine WO.gT rfl rfl ?_
      refine WO.callV rfl (oLs_cons rfl oLs_nil) rfl (cps_spec _ ho) SubR.nil rfl ?_
      refine WO.gT rfl rfl ?_
      refine WO.q (Q.not rfl rfl) rfl ?_
      refine WO.q (Q.pickT rfl rfl) rfl ?_
      refine WO.q (Q.assign rfl) rfl ?_
      refine WO.nil ?_
      refine End.K ?_
      refine W.condS rfl (fun hc8 => ?_) (fun hc8 => ?_)
      · skip -- tT
        refine W.seq ?_
        refine W.reg ?_
        refine WO.q (Q.assign (oc (v := .int .i64 ((0 : Nat) : Int)) rfl)) rfl ?_
        refine WO.q (Q.assign (oc (v := .int .i64 ((9 : Nat) : Int)) rfl)) rfl ?_
        refine WO.nil ?_
        refine End.K ?_
        refine W.ret ?_
        refine End.KB_ret (End.K_ret (End.retV (ResL.tmp rfl (ResL.tmp rfl ResL.nil)) ?_))
        rw [numM_9 (by simp_all) (by simp_all)]; rfl
      · skip -- tF
        refine W.seq ?_
        refine W.reg ?_
        refine WO.q (Q.move rfl) rfl ?_
        refine WO.callV rfl (oLs_cons rfl oLs_nil) rfl (fits_spec _) SubR.nil rfl ?_
        refine WO.q (Q.not rfl rfl) rfl ?_
        refine WO.q (Q.move rfl) rfl ?_
        refine WO.split (d := 21) rfl (fun hc21 => ?_) (fun hc21 => ?_)
        · skip -- tFt
          refine WO.gF rfl rfl (.inl rfl) rfl ?_
          refine WO.gF rfl rfl (.inl rfl) rfl ?_
          refine WO.gF rfl rfl (.inl rfl) rfl ?_
          refine WO.q (Q.pickT rfl rfl) rfl ?_
          refine WO.q (Q.assign rfl) rfl ?_
          refine WO.nil ?_
          refine End.K ?_
          refine W.sub (SubS.cons (k := 17) rfl (SubS.cons (k := 0) rfl (SubS.cons (k := 1) rfl (SubS.cons (k := 2) rfl (SubS.nil _))))) ?_
          refine W.condT rfl ?_
          refine W.seq ?_
          refine W.reg ?_
          refine WO.q (Q.assign (oc (v := .int .i64 ((0 : Nat) : Int)) rfl)) rfl ?_
          refine WO.q (Q.assign (oc (v := .int .i64 ((2 : Nat) : Int)) rfl)) rfl ?_
          refine WO.nil ?_
          refine End.K ?_
          refine W.ret ?_
          refine End.KB_ret (End.K_ret (End.retV (ResL.tmp rfl (ResL.tmp rfl ResL.nil)) ?_))
          rw [numM_2 (by simp_all) (by simp_all)]; rfl
        · skip -- tFf
          refine WO.gT rfl rfl ?_
          refine WO.q (Q.move rfl) rfl ?_
          refine WO.gT rfl rfl ?_
          refine WO.callV rfl (oLs_cons rfl oLs_nil) rfl (fits_spec _) SubR.nil rfl ?_
          refine WO.gT rfl rfl ?_
          refine WO.q (Q.not rfl rfl) rfl ?_
          refine WO.q (Q.pickF rfl rfl) rfl ?_
          refine WO.q (Q.assign rfl) rfl ?_
          refine WO.nil ?_
          refine End.K ?_
          refine W.sub (SubS.cons (k := 17) rfl (SubS.cons (k := 0) rfl (SubS.cons (k := 1) rfl (SubS.cons (k := 2) rfl (SubS.nil _))))) ?_
          refine W.condS rfl (fun hc17 => ?_) (fun hc17 => ?_)
          · skip -- tFfT
            refine W.seq ?_
            refine W.reg ?_
            refine WO.q (Q.assign (oc (v := .int .i64 ((0 : Nat) : Int)) rfl)) rfl ?_
            refine WO.q (Q.assign (oc (v := .int .i64 ((2 : Nat) : Int)) rfl)) rfl ?_
            refine WO.nil ?_
            refine End.K ?_
            refine W.ret ?_
            refine End.KB_ret (End.K_ret (End.retV (ResL.tmp rfl (ResL.tmp rfl ResL.nil)) ?_))
            rw [numM_2 (by simp_all) (by simp_all)]; rfl
          · skip -- tFfF
            refine W.skip ?_
            refine End.KB (End.K (W.sub (SubS.cons rfl (SubS.cons rfl (SubS.cons rfl (SubS.nil _)))) (hJ5 (()) ?_)))
            exact ⟨by simp_all, by simp_all, by simp_all⟩
    · skip -- f
      refine WO.gF rfl rfl (.inl rfl) rfl ?_
      refine WO.gF rfl rfl (.inl rfl) rfl ?_
      refine WO.gF rfl rfl (.inl rfl) rfl ?_
      refine WO.q (Q.pickF rfl rfl) rfl ?_
      refine WO.q (Q.assign rfl) rfl ?_
      refine WO.nil ?_
      refine End.K ?_
      refine W.condF rfl ?_
      refine W.seq ?_
      refine W.reg ?_
      refine WO.q (Q.move rfl) rfl ?_
      refine WO.callV rfl (oLs_cons rfl oLs_nil) rfl (fits_spec _) SubR.nil rfl ?_
      refine WO.q (Q.not rfl rfl) rfl ?_
      refine WO.q (Q.move rfl) rfl ?_
      refine WO.split (d := 21) rfl (fun hc21 => ?_) (fun hc21 => ?_)
      · skip -- ft
        refine WO.gF rfl rfl (.inl rfl) rfl ?_
        refine WO.gF rfl rfl (.inl rfl) rfl ?_
        refine WO.gF rfl rfl (.inl rfl) rfl ?_
        refine WO.q (Q.pickT rfl rfl) rfl ?_
        refine WO.q (Q.assign rfl) rfl ?_
        refine WO.nil ?_
        refine End.K ?_
        refine W.sub (SubS.cons (k := 17) rfl (SubS.cons (k := 0) rfl (SubS.cons (k := 1) rfl (SubS.cons (k := 2) rfl (SubS.nil _))))) ?_
        refine W.condT rfl ?_
        refine W.seq ?_
        refine W.reg ?_
        refine WO.q (Q.assign (oc (v := .int .i64 ((0 : Nat) : Int)) rfl)) rfl ?_
        refine WO.q (Q.assign (oc (v := .int .i64 ((2 : Nat) : Int)) rfl)) rfl ?_
        refine WO.nil ?_
        refine End.K ?_
        refine W.ret ?_
        refine End.KB_ret (End.K_ret (End.retV (ResL.tmp rfl (ResL.tmp rfl ResL.nil)) ?_))
        rw [numM_2 (by simp_all) (by simp_all)]; rfl
      · skip -- ff
        refine WO.gT rfl rfl ?_
        refine WO.q (Q.move rfl) rfl ?_
        refine WO.gT rfl rfl ?_
        refine WO.callV rfl (oLs_cons rfl oLs_nil) rfl (fits_spec _) SubR.nil rfl ?_
        refine WO.gT rfl rfl ?_
        refine WO.q (Q.not rfl rfl) rfl ?_
        refine WO.q (Q.pickF rfl rfl) rfl ?_
        refine WO.q (Q.assign rfl) rfl ?_
        refine WO.nil ?_
        refine End.K ?_
        refine W.sub (SubS.cons (k := 17) rfl (SubS.cons (k := 0) rfl (SubS.cons (k := 1) rfl (SubS.cons (k := 2) rfl (SubS.nil _))))) ?_
        refine W.condS rfl (fun hc17 => ?_) (fun hc17 => ?_)
        · skip -- ffT
          refine W.seq ?_
          refine W.reg ?_
          refine WO.q (Q.assign (oc (v := .int .i64 ((0 : Nat) : Int)) rfl)) rfl ?_
          refine WO.q (Q.assign (oc (v := .int .i64 ((2 : Nat) : Int)) rfl)) rfl ?_
          refine WO.nil ?_
          refine End.K ?_
          refine W.ret ?_
          refine End.KB_ret (End.K_ret (End.retV (ResL.tmp rfl (ResL.tmp rfl ResL.nil)) ?_))
          rw [numM_2 (by simp_all) (by simp_all)]; rfl
        · skip -- ffF
          refine W.skip ?_
          refine End.KB (End.K (W.sub (SubS.cons rfl (SubS.cons rfl (SubS.cons rfl (SubS.nil _)))) (hJ5 (()) ?_)))
          exact ⟨by simp_all, by simp_all, by simp_all⟩

theorem rnum_spec (op : List Nat) (ho : Bytes op) (a b : Int) : Spec tab 17 [.str op, .int .i64 a, .int .i64 b] [] [] (Val (pairA (numM op a b))) := by
  refine Spec.enter' (ft_get 17 Tryz.func17) rfl (m := 64) rfl (rs := [.tmp 6, .tmp 7]) rfl (st := [(0, .str op), (1, .int .i64 a), (2, .int .i64 b)]) rfl rfl (fun _ => rfl) (fun E => ?_)
  refine W.seq ?_
  refine W.reg ?_
  refine WO.q (Q.assign (oc (v := .int .i64 ((0 : Nat) : Int)) rfl)) rfl ?_
  refine WO.q (Q.assign (oc (v := .int .i64 ((0 : Nat) : Int)) rfl)) rfl ?_
  refine WO.nil ?_
  refine End.K ?_
  refine W.seq ?_
  refine W.seq ?_
  refine W.reg ?_
  refine WO.q (Q.move rfl) rfl ?_
  refine WO.callV rfl (oLs_cons rfl oLs_nil) rfl (rari_spec _ ho) SubR.nil rfl ?_
  refine WO.q (Q.not rfl rfl) rfl ?_
  refine WO.q (Q.move rfl) rfl ?_
  refine WO.split (d := 11) rfl (fun hc11 => ?_) (fun hc11 => ?_)
  · skip -- t
    refine WO.gT rfl rfl ?_
    refine WO.q (Q.move rfl) rfl ?_
    refine WO.gT rfl rfl ?_
    refine WO.callV rfl (oLs_cons rfl oLs_nil) rfl (rcps_spec _ ho) SubR.nil rfl ?_
    refine WO.gT rfl rfl ?_
    refine WO.q (Q.not rfl rfl) rfl ?_
    refine WO.q (Q.pickT rfl rfl) rfl ?_
    refine WO.nil ?_
    refine End.K ?_
    refine W.condS rfl (fun hc15 => ?_) (fun hc15 => ?_)
    · skip -- tT
      refine W.seq ?_
      refine W.reg ?_
      refine WO.q (Q.assign (oc (v := .int .i64 ((0 : Nat) : Int)) rfl)) rfl ?_
      refine WO.q (Q.assign (oc (v := .int .i64 ((9 : Nat) : Int)) rfl)) rfl ?_
      refine WO.nil ?_
      refine End.K ?_
      refine W.ret ?_
      refine End.K_ret (End.retV (ResL.tmp rfl (ResL.tmp rfl ResL.nil)) ?_)
      rw [numM_9 (by simp_all) (by simp_all)]; rfl
    · skip -- tF
      refine W.skip ?_
      refine End.K ?_
      refine W.seqK1 (fun (q : Unit) => [(0, .str op), (1, .int .i64 a), (2, .int .i64 b)]) (fun (q : Unit) => (ariB op = true ∨ cmpB op = true) ∧ fitB a = true ∧ fitB b = true) (fun q hI5 => ?_) (fun hJ5 => ?_)
      · skip -- tFJ5
        obtain ⟨hg1, hg2, hg3⟩ := hI5
        have hg := numM_go hg1 hg2 hg3
        refine W.seq ?_
        refine W.seq ?_
        refine W.reg ?_
        refine WO.q (Q.move rfl) rfl ?_
        refine WO.nil ?_
        refine End.K ?_
        refine W.block ?_
        refine W.seq ?_
        refine W.reg ?_
        refine WO.q (Q.bin rfl (oc (v := .str [43]) (by kernel_rfl)) rfl bv_seql) rfl ?_
        refine WO.q (Q.assign rfl) rfl ?_
        refine WO.nil ?_
        refine End.K ?_
        refine W.condDS rfl (fun hc25 => ?_) (fun hc25 => ?_)
        · skip -- tFJ5T
          refine W.seq ?_
          refine W.reg ?_
          refine WO.q (Q.move rfl) rfl ?_
          refine WO.q (Q.move rfl) rfl ?_
          refine WO.callV rfl (oLs_cons rfl (oLs_cons rfl oLs_nil)) rfl (Spec.known (fun _ => rfl)) SubR.nil rfl ?_
          refine WO.q (Q.extract rfl rfl) rfl ?_
          refine WO.q (Q.extract rfl rfl) rfl ?_
          refine WO.q (Q.assign rfl) rfl ?_
          refine WO.q (Q.assign rfl) rfl ?_
          refine WO.nil ?_
          refine End.K ?_
          refine W.ret ?_
          refine End.KB_ret (End.K_ret (End.retV (ResL.tmp rfl (ResL.tmp rfl ResL.nil)) ?_))
          first | (refine congrArg pairA (Eq.symm ?_); rw [hg]; simp_all; done) | (rw [hg]; unfold pairA oneOf; simp_all; done) | (rw [hg]; unfold pairA oneOf; simp_all [cmpP]; done) | (rw [hg]; unfold pairA oneOf; simp_all [cmpP]; split <;> simp_all; done) | (rw [hg]; unfold pairA oneOf; simp_all [cmpP]; split <;> simp_all <;> omega)
        · skip -- tFJ5F
          refine W.seq ?_
          refine W.reg ?_
          refine WO.q (Q.bin rfl (oc (v := .str [45]) (by kernel_rfl)) rfl bv_seql) rfl ?_
          refine WO.q (Q.assign rfl) rfl ?_
          refine WO.nil ?_
          refine End.K ?_
          refine W.condDS rfl (fun hc32 => ?_) (fun hc32 => ?_)
          · skip -- tFJ5FT
            refine W.seq ?_
            refine W.reg ?_
            refine WO.q (Q.move rfl) rfl ?_
            refine WO.q (Q.move rfl) rfl ?_
            refine WO.callV rfl (oLs_cons rfl (oLs_cons rfl oLs_nil)) rfl (Spec.known (fun _ => rfl)) SubR.nil rfl ?_
            refine WO.q (Q.extract rfl rfl) rfl ?_
            refine WO.q (Q.extract rfl rfl) rfl ?_
            refine WO.q (Q.assign rfl) rfl ?_
            refine WO.q (Q.assign rfl) rfl ?_
            refine WO.nil ?_
            refine End.K ?_
            refine W.ret ?_
            refine End.KB_ret (End.K_ret (End.retV (ResL.tmp rfl (ResL.tmp rfl ResL.nil)) ?_))
            first | (refine congrArg pairA (Eq.symm ?_); rw [hg]; simp_all; done) | (rw [hg]; unfold pairA oneOf; simp_all; done) | (rw [hg]; unfold pairA oneOf; simp_all [cmpP]; done) | (rw [hg]; unfold pairA oneOf; simp_all [cmpP]; split <;> simp_all; done) | (rw [hg]; unfold pairA oneOf; simp_all [cmpP]; split <;> simp_all <;> omega)
          · skip -- tFJ5FF
            refine W.seq ?_
            refine W.reg ?_
            refine WO.q (Q.bin rfl (oc (v := .str [42]) (by kernel_rfl)) rfl bv_seql) rfl ?_
            refine WO.q (Q.assign rfl) rfl ?_
            refine WO.nil ?_
            refine End.K ?_
            refine W.condDS rfl (fun hc39 => ?_) (fun hc39 => ?_)
            · skip -- tFJ5FFT
              refine W.seq ?_
              refine W.reg ?_
              refine WO.q (Q.move rfl) rfl ?_
              refine WO.q (Q.move rfl) rfl ?_
              refine WO.callV rfl (oLs_cons rfl (oLs_cons rfl oLs_nil)) rfl (Spec.known (fun _ => rfl)) SubR.nil rfl ?_
              refine WO.q (Q.extract rfl rfl) rfl ?_
              refine WO.q (Q.extract rfl rfl) rfl ?_
              refine WO.q (Q.assign rfl) rfl ?_
              refine WO.q (Q.assign rfl) rfl ?_
              refine WO.nil ?_
              refine End.K ?_
              refine W.sub (SubS.cons (k := 7) rfl (SubS.cons (k := 6) rfl (SubS.nil _))) ?_
              refine W.ret ?_
              refine End.KB_ret (End.K_ret (End.retV (ResL.tmp rfl (ResL.tmp rfl ResL.nil)) ?_))
              first | (refine congrArg pairA (Eq.symm ?_); rw [hg]; simp_all; done) | (rw [hg]; unfold pairA oneOf; simp_all; done) | (rw [hg]; unfold pairA oneOf; simp_all [cmpP]; done) | (rw [hg]; unfold pairA oneOf; simp_all [cmpP]; split <;> simp_all; done) | (rw [hg]; unfold pairA oneOf; simp_all [cmpP]; split <;> simp_all <;> omega)
            · skip -- tFJ5FFF
              refine W.seq ?_
              refine W.reg ?_
              refine WO.q (Q.bin rfl (oc (v := .str [47]) (by kernel_rfl)) rfl bv_seql) rfl ?_
              refine WO.q (Q.assign rfl) rfl ?_
              refine WO.nil ?_
              refine End.K ?_
              refine W.condDS rfl (fun hc46 => ?_) (fun hc46 => ?_)
              · skip -- tFJ5FFFT
                refine W.seq ?_
                refine W.reg ?_
                refine WO.q (Q.move rfl) rfl ?_
                refine WO.q (Q.move rfl) rfl ?_
                refine WO.callV rfl (oLs_cons rfl (oLs_cons rfl oLs_nil)) rfl (Spec.known (fun _ => rfl)) SubR.nil rfl ?_
                refine WO.q (Q.extract rfl rfl) rfl ?_
                refine WO.q (Q.extract rfl rfl) rfl ?_
                refine WO.q (Q.assign rfl) rfl ?_
                refine WO.q (Q.assign rfl) rfl ?_
                refine WO.nil ?_
                refine End.K ?_
                refine W.sub (SubS.cons (k := 7) rfl (SubS.cons (k := 6) rfl (SubS.nil _))) ?_
                refine W.ret ?_
                refine End.KB_ret (End.K_ret (End.retV (ResL.tmp rfl (ResL.tmp rfl ResL.nil)) ?_))
                first | (refine congrArg pairA (Eq.symm ?_); rw [hg]; simp_all; done) | (rw [hg]; unfold pairA oneOf; simp_all; done) | (rw [hg]; unfold pairA oneOf; simp_all [cmpP]; done) | (rw [hg]; unfold pairA oneOf; simp_all [cmpP]; split <;> simp_all; done) | (rw [hg]; unfold pairA oneOf; simp_all [cmpP]; split <;> simp_all <;> omega)
              · skip -- tFJ5FFFF
                refine W.seq ?_
                refine W.reg ?_
                refine WO.q (Q.bin rfl (oc (v := .str [37]) (by kernel_rfl)) rfl bv_seql) rfl ?_
                refine WO.q (Q.assign rfl) rfl ?_
                refine WO.nil ?_
                refine End.K ?_
                refine W.condDS rfl (fun hc53 => ?_) (fun hc53 => ?_)
                · skip -- tFJ5FFFFT
                  refine W.seq ?_
                  refine W.reg ?_
                  refine WO.q (Q.move rfl) rfl ?_
                  refine WO.q (Q.move rfl) rfl ?_
                  refine WO.callV rfl (oLs_cons rfl (oLs_cons rfl oLs_nil)) rfl (Spec.known (fun _ => rfl)) SubR.nil rfl ?_
                  refine WO.q (Q.extract rfl rfl) rfl ?_
                  refine WO.q (Q.extract rfl rfl) rfl ?_
                  refine WO.q (Q.assign rfl) rfl ?_
                  refine WO.q (Q.assign rfl) rfl ?_
                  refine WO.nil ?_
                  refine End.K ?_
                  refine W.sub (SubS.cons (k := 7) rfl (SubS.cons (k := 6) rfl (SubS.nil _))) ?_
                  refine W.ret ?_
                  refine End.KB_ret (End.K_ret (End.retV (ResL.tmp rfl (ResL.tmp rfl ResL.nil)) ?_))
                  first | (refine congrArg pairA (Eq.symm ?_); rw [hg]; simp_all; done) | (rw [hg]; unfold pairA oneOf; simp_all; done) | (rw [hg]; unfold pairA oneOf; simp_all [cmpP]; done) | (rw [hg]; unfold pairA oneOf; simp_all [cmpP]; split <;> simp_all; done) | (rw [hg]; unfold pairA oneOf; simp_all [cmpP]; split <;> simp_all <;> omega)
                · skip -- tFJ5FFFFF
                  refine W.skip ?_
                  refine End.KB (End.K ?_)
                  refine W.seq ?_
                  refine W.seq ?_
                  refine W.reg ?_
                  refine WO.q (Q.move rfl) rfl ?_
                  refine WO.q (Q.move rfl) rfl ?_
                  refine WO.q (Q.move rfl) rfl ?_
                  refine WO.callV rfl (oLs_cons rfl (oLs_cons rfl (oLs_cons rfl oLs_nil))) rfl (holds_spec op ho _ _) SubR.nil rfl ?_
                  refine WO.nil ?_
                  refine End.K ?_
                  refine W.sub (SubS.cons (k := 63) rfl (SubS.nil _)) ?_
                  refine W.condS rfl (fun hc63 => ?_) (fun hc63 => ?_)
                  · skip -- tFJ5FFFFFT
                    refine W.seq ?_
                    refine W.reg ?_
                    refine WO.q (Q.assign (oc (v := .int .i64 ((1000000 : Nat) : Int)) rfl)) rfl ?_
                    refine WO.q (Q.assign (oc (v := .int .i64 ((0 : Nat) : Int)) rfl)) rfl ?_
                    refine WO.nil ?_
                    refine End.K ?_
                    refine W.ret ?_
                    refine End.K_ret (End.retV (ResL.tmp rfl (ResL.tmp rfl ResL.nil)) ?_)
                    first | (refine congrArg pairA (Eq.symm ?_); rw [hg]; simp_all; done) | (rw [hg]; unfold pairA oneOf; simp_all; done) | (rw [hg]; unfold pairA oneOf; simp_all [cmpP]; done) | (rw [hg]; unfold pairA oneOf; simp_all [cmpP]; split <;> simp_all; done) | (rw [hg]; unfold pairA oneOf; simp_all [cmpP]; split <;> simp_all <;> omega)
                  · skip -- tFJ5FFFFFF
                    refine W.skip ?_
                    refine End.K ?_
                    refine W.seq ?_
                    refine W.reg ?_
                    refine WO.q (Q.assign (oc (v := .int .i64 ((0 : Nat) : Int)) rfl)) rfl ?_
                    refine WO.q (Q.assign (oc (v := .int .i64 ((0 : Nat) : Int)) rfl)) rfl ?_
                    refine WO.nil ?_
                    refine End.K ?_
                    refine W.ret ?_
                    refine End.retV (ResL.tmp rfl (ResL.tmp rfl ResL.nil)) ?_
                    first | (refine congrArg pairA (Eq.symm ?_); rw [hg]; simp_all; done) | (rw [hg]; unfold pairA oneOf; simp_all; done) | (rw [hg]; unfold pairA oneOf; simp_all [cmpP]; done) | (rw [hg]; unfold pairA oneOf; simp_all [cmpP]; split <;> simp_all; done) | (rw [hg]; unfold pairA oneOf; simp_all [cmpP]; split <;> simp_all <;> omega)
      · skip
        refine W.seq ?_
        refine W.reg ?_
        refine WO.q (Q.move rfl) rfl ?_
        refine WO.callV rfl (oLs_cons rfl oLs_nil) rfl (rfits_spec _) SubR.nil rfl ?_
        refine WO.q (Q.not rfl rfl) rfl ?_
        refine WO.q (Q.move rfl) rfl ?_
        refine WO.split (d := 19) rfl (fun hc19 => ?_) (fun hc19 => ?_)
        · skip -- tFt
          refine WO.gF rfl rfl (.inl rfl) rfl ?_
          refine WO.gF rfl rfl (.inl rfl) rfl ?_
          refine WO.gF rfl rfl (.inl rfl) rfl ?_
          refine WO.q (Q.pickT rfl rfl) rfl ?_
          refine WO.nil ?_
          refine End.K ?_
          refine W.sub (SubS.cons (k := 23) rfl (SubS.cons (k := 0) rfl (SubS.cons (k := 1) rfl (SubS.cons (k := 2) rfl (SubS.nil _))))) ?_
          refine W.condT rfl ?_
          refine W.seq ?_
          refine W.reg ?_
          refine WO.q (Q.assign (oc (v := .int .i64 ((0 : Nat) : Int)) rfl)) rfl ?_
          refine WO.q (Q.assign (oc (v := .int .i64 ((2 : Nat) : Int)) rfl)) rfl ?_
          refine WO.nil ?_
          refine End.K ?_
          refine W.ret ?_
          refine End.K_ret (End.retV (ResL.tmp rfl (ResL.tmp rfl ResL.nil)) ?_)
          rw [numM_2 (by simp_all) (by simp_all)]; rfl
        · skip -- tFf
          refine WO.gT rfl rfl ?_
          refine WO.q (Q.move rfl) rfl ?_
          refine WO.gT rfl rfl ?_
          refine WO.callV rfl (oLs_cons rfl oLs_nil) rfl (rfits_spec _) SubR.nil rfl ?_
          refine WO.gT rfl rfl ?_
          refine WO.q (Q.not rfl rfl) rfl ?_
          refine WO.q (Q.pickF rfl rfl) rfl ?_
          refine WO.nil ?_
          refine End.K ?_
          refine W.sub (SubS.cons (k := 23) rfl (SubS.cons (k := 0) rfl (SubS.cons (k := 1) rfl (SubS.cons (k := 2) rfl (SubS.nil _))))) ?_
          refine W.condS rfl (fun hc23 => ?_) (fun hc23 => ?_)
          · skip -- tFfT
            refine W.seq ?_
            refine W.reg ?_
            refine WO.q (Q.assign (oc (v := .int .i64 ((0 : Nat) : Int)) rfl)) rfl ?_
            refine WO.q (Q.assign (oc (v := .int .i64 ((2 : Nat) : Int)) rfl)) rfl ?_
            refine WO.nil ?_
            refine End.K ?_
            refine W.ret ?_
            refine End.K_ret (End.retV (ResL.tmp rfl (ResL.tmp rfl ResL.nil)) ?_)
            rw [numM_2 (by simp_all) (by simp_all)]; rfl
          · skip -- tFfF
            refine W.skip ?_
            refine End.K (W.sub (SubS.cons rfl (SubS.cons rfl (SubS.cons rfl (SubS.nil _)))) (hJ5 (()) ?_))
            exact ⟨by simp_all, by simp_all, by simp_all⟩
  · skip -- f
    refine WO.gF rfl rfl (.inl rfl) rfl ?_
    refine WO.gF rfl rfl (.inl rfl) rfl ?_
    refine WO.gF rfl rfl (.inl rfl) rfl ?_
    refine WO.q (Q.pickF rfl rfl) rfl ?_
    refine WO.nil ?_
    refine End.K ?_
    refine W.condF rfl ?_
    refine W.skip ?_
    refine End.K ?_
    refine W.seqK1 (fun (q : Unit) => [(0, .str op), (1, .int .i64 a), (2, .int .i64 b)]) (fun (q : Unit) => (ariB op = true ∨ cmpB op = true) ∧ fitB a = true ∧ fitB b = true) (fun q hI5 => ?_) (fun hJ5 => ?_)
    · skip -- fJ5
      obtain ⟨hg1, hg2, hg3⟩ := hI5
      have hg := numM_go hg1 hg2 hg3
      refine W.seq ?_
      refine W.seq ?_
      refine W.reg ?_
      refine WO.q (Q.move rfl) rfl ?_
      refine WO.nil ?_
      refine End.K ?_
      refine W.block ?_
      refine W.seq ?_
      refine W.reg ?_
      refine WO.q (Q.bin rfl (oc (v := .str [43]) (by kernel_rfl)) rfl bv_seql) rfl ?_
      refine WO.q (Q.assign rfl) rfl ?_
      refine WO.nil ?_
      refine End.K ?_
      refine W.condDS rfl (fun hc25 => ?_) (fun hc25 => ?_)
      · skip -- fJ5T
        refine W.seq ?_
        refine W.reg ?_
        refine WO.q (Q.move rfl) rfl ?_
        refine WO.q (Q.move rfl) rfl ?_
        refine WO.callV rfl (oLs_cons rfl (oLs_cons rfl oLs_nil)) rfl (Spec.known (fun _ => rfl)) SubR.nil rfl ?_
        refine WO.q (Q.extract rfl rfl) rfl ?_
        refine WO.q (Q.extract rfl rfl) rfl ?_
        refine WO.q (Q.assign rfl) rfl ?_
        refine WO.q (Q.assign rfl) rfl ?_
        refine WO.nil ?_
        refine End.K ?_
        refine W.ret ?_
        refine End.KB_ret (End.K_ret (End.retV (ResL.tmp rfl (ResL.tmp rfl ResL.nil)) ?_))
        first | (refine congrArg pairA (Eq.symm ?_); rw [hg]; simp_all; done) | (rw [hg]; unfold pairA oneOf; simp_all; done) | (rw [hg]; unfold pairA oneOf; simp_all [cmpP]; done) | (rw [hg]; unfold pairA oneOf; simp_all [cmpP]; split <;> simp_all; done) | (rw [hg]; unfold pairA oneOf; simp_all [cmpP]; split <;> simp_all <;> omega)
      · skip -- fJ5F
        refine W.seq ?_
        refine W.reg ?_
        refine WO.q (Q.bin rfl (oc (v := .str [45]) (by kernel_rfl)) rfl bv_seql) rfl ?_
        refine WO.q (Q.assign rfl) rfl ?_
        refine WO.nil ?_
        refine End.K ?_
        refine W.condDS rfl (fun hc32 => ?_) (fun hc32 => ?_)
        · skip -- fJ5FT
          refine W.seq ?_
          refine W.reg ?_
          refine WO.q (Q.move rfl) rfl ?_
          refine WO.q (Q.move rfl) rfl ?_
          refine WO.callV rfl (oLs_cons rfl (oLs_cons rfl oLs_nil)) rfl (Spec.known (fun _ => rfl)) SubR.nil rfl ?_
          refine WO.q (Q.extract rfl rfl) rfl ?_
          refine WO.q (Q.extract rfl rfl) rfl ?_
          refine WO.q (Q.assign rfl) rfl ?_
          refine WO.q (Q.assign rfl) rfl ?_
          refine WO.nil ?_
          refine End.K ?_
          refine W.ret ?_
          refine End.KB_ret (End.K_ret (End.retV (ResL.tmp rfl (ResL.tmp rfl ResL.nil)) ?_))
          first | (refine congrArg pairA (Eq.symm ?_); rw [hg]; simp_all; done) | (rw [hg]; unfold pairA oneOf; simp_all; done) | (rw [hg]; unfold pairA oneOf; simp_all [cmpP]; done) | (rw [hg]; unfold pairA oneOf; simp_all [cmpP]; split <;> simp_all; done) | (rw [hg]; unfold pairA oneOf; simp_all [cmpP]; split <;> simp_all <;> omega)
        · skip -- fJ5FF
          refine W.seq ?_
          refine W.reg ?_
          refine WO.q (Q.bin rfl (oc (v := .str [42]) (by kernel_rfl)) rfl bv_seql) rfl ?_
          refine WO.q (Q.assign rfl) rfl ?_
          refine WO.nil ?_
          refine End.K ?_
          refine W.condDS rfl (fun hc39 => ?_) (fun hc39 => ?_)
          · skip -- fJ5FFT
            refine W.seq ?_
            refine W.reg ?_
            refine WO.q (Q.move rfl) rfl ?_
            refine WO.q (Q.move rfl) rfl ?_
            refine WO.callV rfl (oLs_cons rfl (oLs_cons rfl oLs_nil)) rfl (Spec.known (fun _ => rfl)) SubR.nil rfl ?_
            refine WO.q (Q.extract rfl rfl) rfl ?_
            refine WO.q (Q.extract rfl rfl) rfl ?_
            refine WO.q (Q.assign rfl) rfl ?_
            refine WO.q (Q.assign rfl) rfl ?_
            refine WO.nil ?_
            refine End.K ?_
            refine W.sub (SubS.cons (k := 7) rfl (SubS.cons (k := 6) rfl (SubS.nil _))) ?_
            refine W.ret ?_
            refine End.KB_ret (End.K_ret (End.retV (ResL.tmp rfl (ResL.tmp rfl ResL.nil)) ?_))
            first | (refine congrArg pairA (Eq.symm ?_); rw [hg]; simp_all; done) | (rw [hg]; unfold pairA oneOf; simp_all; done) | (rw [hg]; unfold pairA oneOf; simp_all [cmpP]; done) | (rw [hg]; unfold pairA oneOf; simp_all [cmpP]; split <;> simp_all; done) | (rw [hg]; unfold pairA oneOf; simp_all [cmpP]; split <;> simp_all <;> omega)
          · skip -- fJ5FFF
            refine W.seq ?_
            refine W.reg ?_
            refine WO.q (Q.bin rfl (oc (v := .str [47]) (by kernel_rfl)) rfl bv_seql) rfl ?_
            refine WO.q (Q.assign rfl) rfl ?_
            refine WO.nil ?_
            refine End.K ?_
            refine W.condDS rfl (fun hc46 => ?_) (fun hc46 => ?_)
            · skip -- fJ5FFFT
              refine W.seq ?_
              refine W.reg ?_
              refine WO.q (Q.move rfl) rfl ?_
              refine WO.q (Q.move rfl) rfl ?_
              refine WO.callV rfl (oLs_cons rfl (oLs_cons rfl oLs_nil)) rfl (Spec.known (fun _ => rfl)) SubR.nil rfl ?_
              refine WO.q (Q.extract rfl rfl) rfl ?_
              refine WO.q (Q.extract rfl rfl) rfl ?_
              refine WO.q (Q.assign rfl) rfl ?_
              refine WO.q (Q.assign rfl) rfl ?_
              refine WO.nil ?_
              refine End.K ?_
              refine W.sub (SubS.cons (k := 7) rfl (SubS.cons (k := 6) rfl (SubS.nil _))) ?_
              refine W.ret ?_
              refine End.KB_ret (End.K_ret (End.retV (ResL.tmp rfl (ResL.tmp rfl ResL.nil)) ?_))
              first | (refine congrArg pairA (Eq.symm ?_); rw [hg]; simp_all; done) | (rw [hg]; unfold pairA oneOf; simp_all; done) | (rw [hg]; unfold pairA oneOf; simp_all [cmpP]; done) | (rw [hg]; unfold pairA oneOf; simp_all [cmpP]; split <;> simp_all; done) | (rw [hg]; unfold pairA oneOf; simp_all [cmpP]; split <;> simp_all <;> omega)
            · skip -- fJ5FFFF
              refine W.seq ?_
              refine W.reg ?_
              refine WO.q (Q.bin rfl (oc (v := .str [37]) (by kernel_rfl)) rfl bv_seql) rfl ?_
              refine WO.q (Q.assign rfl) rfl ?_
              refine WO.nil ?_
              refine End.K ?_
              refine W.condDS rfl (fun hc53 => ?_) (fun hc53 => ?_)
              · skip -- fJ5FFFFT
                refine W.seq ?_
                refine W.reg ?_
                refine WO.q (Q.move rfl) rfl ?_
                refine WO.q (Q.move rfl) rfl ?_
                refine WO.callV rfl (oLs_cons rfl (oLs_cons rfl oLs_nil)) rfl (Spec.known (fun _ => rfl)) SubR.nil rfl ?_
                refine WO.q (Q.extract rfl rfl) rfl ?_
                refine WO.q (Q.extract rfl rfl) rfl ?_
                refine WO.q (Q.assign rfl) rfl ?_
                refine WO.q (Q.assign rfl) rfl ?_
                refine WO.nil ?_
                refine End.K ?_
                refine W.sub (SubS.cons (k := 7) rfl (SubS.cons (k := 6) rfl (SubS.nil _))) ?_
                refine W.ret ?_
                refine End.KB_ret (End.K_ret (End.retV (ResL.tmp rfl (ResL.tmp rfl ResL.nil)) ?_))
                first | (refine congrArg pairA (Eq.symm ?_); rw [hg]; simp_all; done) | (rw [hg]; unfold pairA oneOf; simp_all; done) | (rw [hg]; unfold pairA oneOf; simp_all [cmpP]; done) | (rw [hg]; unfold pairA oneOf; simp_all [cmpP]; split <;> simp_all; done) | (rw [hg]; unfold pairA oneOf; simp_all [cmpP]; split <;> simp_all <;> omega)
              · skip -- fJ5FFFFF
                refine W.skip ?_
                refine End.KB (End.K ?_)
                refine W.seq ?_
                refine W.seq ?_
                refine W.reg ?_
                refine WO.q (Q.move rfl) rfl ?_
                refine WO.q (Q.move rfl) rfl ?_
                refine WO.q (Q.move rfl) rfl ?_
                refine WO.callV rfl (oLs_cons rfl (oLs_cons rfl (oLs_cons rfl oLs_nil))) rfl (holds_spec op ho _ _) SubR.nil rfl ?_
                refine WO.nil ?_
                refine End.K ?_
                refine W.sub (SubS.cons (k := 63) rfl (SubS.nil _)) ?_
                refine W.condS rfl (fun hc63 => ?_) (fun hc63 => ?_)
                · skip -- fJ5FFFFFT
                  refine W.seq ?_
                  refine W.reg ?_
                  refine WO.q (Q.assign (oc (v := .int .i64 ((1000000 : Nat) : Int)) rfl)) rfl ?_
                  refine WO.q (Q.assign (oc (v := .int .i64 ((0 : Nat) : Int)) rfl)) rfl ?_
                  refine WO.nil ?_
                  refine End.K ?_
                  refine W.ret ?_
                  refine End.K_ret (End.retV (ResL.tmp rfl (ResL.tmp rfl ResL.nil)) ?_)
                  first | (refine congrArg pairA (Eq.symm ?_); rw [hg]; simp_all; done) | (rw [hg]; unfold pairA oneOf; simp_all; done) | (rw [hg]; unfold pairA oneOf; simp_all [cmpP]; done) | (rw [hg]; unfold pairA oneOf; simp_all [cmpP]; split <;> simp_all; done) | (rw [hg]; unfold pairA oneOf; simp_all [cmpP]; split <;> simp_all <;> omega)
                · skip -- fJ5FFFFFF
                  refine W.skip ?_
                  refine End.K ?_
                  refine W.seq ?_
                  refine W.reg ?_
                  refine WO.q (Q.assign (oc (v := .int .i64 ((0 : Nat) : Int)) rfl)) rfl ?_
                  refine WO.q (Q.assign (oc (v := .int .i64 ((0 : Nat) : Int)) rfl)) rfl ?_
                  refine WO.nil ?_
                  refine End.K ?_
                  refine W.ret ?_
                  refine End.retV (ResL.tmp rfl (ResL.tmp rfl ResL.nil)) ?_
                  first | (refine congrArg pairA (Eq.symm ?_); rw [hg]; simp_all; done) | (rw [hg]; unfold pairA oneOf; simp_all; done) | (rw [hg]; unfold pairA oneOf; simp_all [cmpP]; done) | (rw [hg]; unfold pairA oneOf; simp_all [cmpP]; split <;> simp_all; done) | (rw [hg]; unfold pairA oneOf; simp_all [cmpP]; split <;> simp_all <;> omega)
    · skip
      refine W.seq ?_
      refine W.reg ?_
      refine WO.q (Q.move rfl) rfl ?_
      refine WO.callV rfl (oLs_cons rfl oLs_nil) rfl (rfits_spec _) SubR.nil rfl ?_
      refine WO.q (Q.not rfl rfl) rfl ?_
      refine WO.q (Q.move rfl) rfl ?_
      refine WO.split (d := 19) rfl (fun hc19 => ?_) (fun hc19 => ?_)
      · skip -- ft
        refine WO.gF rfl rfl (.inl rfl) rfl ?_
        refine WO.gF rfl rfl (.inl rfl) rfl ?_
        refine WO.gF rfl rfl (.inl rfl) rfl ?_
        refine WO.q (Q.pickT rfl rfl) rfl ?_
        refine WO.nil ?_
        refine End.K ?_
        refine W.sub (SubS.cons (k := 23) rfl (SubS.cons (k := 0) rfl (SubS.cons (k := 1) rfl (SubS.cons (k := 2) rfl (SubS.nil _))))) ?_
        refine W.condT rfl ?_
        refine W.seq ?_
        refine W.reg ?_
        refine WO.q (Q.assign (oc (v := .int .i64 ((0 : Nat) : Int)) rfl)) rfl ?_
        refine WO.q (Q.assign (oc (v := .int .i64 ((2 : Nat) : Int)) rfl)) rfl ?_
        refine WO.nil ?_
        refine End.K ?_
        refine W.ret ?_
        refine End.K_ret (End.retV (ResL.tmp rfl (ResL.tmp rfl ResL.nil)) ?_)
        rw [numM_2 (by simp_all) (by simp_all)]; rfl
      · skip -- ff
        refine WO.gT rfl rfl ?_
        refine WO.q (Q.move rfl) rfl ?_
        refine WO.gT rfl rfl ?_
        refine WO.callV rfl (oLs_cons rfl oLs_nil) rfl (rfits_spec _) SubR.nil rfl ?_
        refine WO.gT rfl rfl ?_
        refine WO.q (Q.not rfl rfl) rfl ?_
        refine WO.q (Q.pickF rfl rfl) rfl ?_
        refine WO.nil ?_
        refine End.K ?_
        refine W.sub (SubS.cons (k := 23) rfl (SubS.cons (k := 0) rfl (SubS.cons (k := 1) rfl (SubS.cons (k := 2) rfl (SubS.nil _))))) ?_
        refine W.condS rfl (fun hc23 => ?_) (fun hc23 => ?_)
        · skip -- ffT
          refine W.seq ?_
          refine W.reg ?_
          refine WO.q (Q.assign (oc (v := .int .i64 ((0 : Nat) : Int)) rfl)) rfl ?_
          refine WO.q (Q.assign (oc (v := .int .i64 ((2 : Nat) : Int)) rfl)) rfl ?_
          refine WO.nil ?_
          refine End.K ?_
          refine W.ret ?_
          refine End.K_ret (End.retV (ResL.tmp rfl (ResL.tmp rfl ResL.nil)) ?_)
          rw [numM_2 (by simp_all) (by simp_all)]; rfl
        · skip -- ffF
          refine W.skip ?_
          refine End.K (W.sub (SubS.cons rfl (SubS.cons rfl (SubS.cons rfl (SubS.nil _)))) (hJ5 (()) ?_))
          exact ⟨by simp_all, by simp_all, by simp_all⟩
end Go.Proofs.YtmblgaehfjheeaaGreat.Ev
