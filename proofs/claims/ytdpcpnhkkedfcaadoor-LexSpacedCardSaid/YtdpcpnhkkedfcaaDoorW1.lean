/- Layer 15, walks: classes, prefixes, texts' ends, cuts. -/
import Derived.Test.YtdpcpnhkkedfcaaDoorFacts
namespace Go.Proofs.YtdpcpnhkkedfcaaDoor.Ev
open Go.RowKit
set_option linter.unusedVariables false
set_option maxRecDepth 100000
def nlc (c : Nat) : Bool := decide (c ≠ 10)
def namc (c : Nat) : Bool := isLet c || isDig c
def numc (c : Nat) : Bool := isDig c || isLet c || decide (c = 46)
theorem pre_step {p : Nat → Bool} {l : List Nat} {i : Nat} (h : i < l.length) : pre p (l.drop i) = if p (l.getD i 0) then pre p (l.drop (i + 1)) + 1 else 0 := by
  rw [List.drop_eq_getElem_cons h]
  simp [pre, h]
theorem pre_le (p : Nat → Bool) : ∀ l : List Nat, pre p l ≤ l.length
  | [] => Nat.le_refl _
  | c :: l => by
    unfold pre
    have := pre_le p l
    split <;> simp <;> omega
/-- Where a text in marks ends: behind the closing mark; 0: it does not. -/
def quL : List Nat → Nat → Nat
  | [], _ => 0
  | c :: l, i => if c = 92 then match l with
    | [] => 0
    | _ :: m => quL m (i + 2)
    else if c = 34 then i + 1 else quL l (i + 1)
def qu (s : List Nat) : Nat := quL (s.drop 1) 1
theorem quL_nil (i : Nat) : quL [] i = 0 := by unfold quL; rfl
theorem quL_cons (c : Nat) (l : List Nat) (i : Nat) : quL (c :: l) i = if c = 92 then quL (l.drop 1) (i + 2) else if c = 34 then i + 1 else quL l (i + 1) := by
  conv => lhs; unfold quL
  cases l with
  | nil => simp [quL_nil]
  | cons x m => rfl
theorem quL_step {l : List Nat} {i : Nat} (h : i < l.length) : quL (l.drop i) i = if l.getD i 0 = 92 then quL (l.drop (i + 2)) (i + 2) else if l.getD i 0 = 34 then i + 1 else quL (l.drop (i + 1)) (i + 1) := by
  rw [List.drop_eq_getElem_cons h, quL_cons, List.drop_drop]
  have e : l.getD i 0 = l[i] := by simp [h]
  rw [e]
def hasP (s p : List Nat) : Bool := decide (p.length ≤ s.length) && decide (s.take p.length = p)
theorem hasP_le {s p : List Nat} (h : hasP s p = true) : p.length ≤ s.length := by
  simp [hasP] at h
  exact h.1
theorem Bytes.one {c : Nat} (h : c < 256) : Bytes [c] := by intro x hx; simp at hx; omega
theorem Bytes.cons {c : Nat} {l : List Nat} (h : c < 256) (g : Bytes l) : Bytes (c :: l) := by
  intro x hx
  rcases List.mem_cons.1 hx with rfl | hx
  · exact h
  · exact g x hx
theorem ixB_spec (s : List Nat) (c : Nat) : Spec tab 56 [.str s, .int .u8 (c : Int)] [] [] (Val (.int .i64 (ixB s c))) := Spec.known fun _ => rfl
theorem digit_spec (c : Nat) (hc : c < 256) : Spec tab 18 [.int .u8 (c : Int)] [] [] (Val (.bool (isDig c))) := by
  refine Spec.enter' (ft_get 18 Tryd.func18) rfl (m := 9) rfl (rs := [.tmp 2]) rfl (st := [(0, .int .u8 (c : Int))]) rfl rfl (fun _ => rfl) (fun E => ?_)
  refine W.seq ?_
  refine W.reg ?_
  refine WO.q (Q.assign rfl) rfl ?_
  refine WO.nil ?_
  refine End.K ?_
  refine W.seq ?_
  refine W.reg ?_
  refine WO.q (Q.move rfl) rfl ?_
  refine WO.q (Q.bin rfl (oc (v := .int .u8 ((48 : Nat) : Int)) rfl) rfl (bv_geq le_nat)) rfl ?_
  refine WO.q (Q.move rfl) rfl ?_
  refine WO.splitD (d := 5) rfl (fun hc5 => ?_) (fun hc5 => ?_)
  · skip -- t
    refine WO.gT rfl rfl ?_
    refine WO.q (Q.move rfl) rfl ?_
    refine WO.gT rfl rfl ?_
    refine WO.q (Q.bin rfl (oc (v := .int .u8 ((57 : Nat) : Int)) rfl) rfl (bv_leq le_nat)) rfl ?_
    refine WO.q (Q.pickT rfl rfl) rfl ?_
    refine WO.q (Q.assign rfl) rfl ?_
    refine WO.nil ?_
    refine End.K ?_
    refine W.sub (SubS.cons (k := 2) rfl (SubS.nil _)) ?_
    refine W.ret ?_
    refine End.retV (ResL.tmp rfl ResL.nil) ?_
    (simp only [oneOf, isDig, isLet, AV.bool.injEq]; simp; try omega)
  · skip -- f
    refine WO.gF rfl rfl (.inl rfl) rfl ?_
    refine WO.gF rfl rfl (.inl rfl) rfl ?_
    refine WO.q (Q.pickF rfl rfl) rfl ?_
    refine WO.q (Q.assign rfl) rfl ?_
    refine WO.nil ?_
    refine End.K ?_
    refine W.sub (SubS.cons (k := 2) rfl (SubS.nil _)) ?_
    refine W.ret ?_
    refine End.retV (ResL.tmp rfl ResL.nil) ?_
    (simp only [oneOf, isDig, isLet, AV.bool.injEq]; simp; try omega)

theorem letter_spec (c : Nat) (hc : c < 256) : Spec tab 19 [.int .u8 (c : Int)] [] [] (Val (.bool (isLet c))) := by
  refine Spec.enter' (ft_get 19 Tryd.func19) rfl (m := 25) rfl (rs := [.tmp 2]) rfl (st := [(0, .int .u8 (c : Int))]) rfl rfl (fun _ => rfl) (fun E => ?_)
  refine W.seq ?_
  refine W.reg ?_
  refine WO.q (Q.assign rfl) rfl ?_
  refine WO.nil ?_
  refine End.K ?_
  refine W.seq ?_
  refine W.reg ?_
  refine WO.q (Q.move rfl) rfl ?_
  refine WO.q (Q.bin rfl (oc (v := .int .u8 ((97 : Nat) : Int)) rfl) rfl (bv_geq le_nat)) rfl ?_
  refine WO.q (Q.move rfl) rfl ?_
  refine WO.splitD (d := 5) rfl (fun hc5 => ?_) (fun hc5 => ?_)
  · skip -- t
    refine WO.gT rfl rfl ?_
    refine WO.q (Q.move rfl) rfl ?_
    refine WO.gT rfl rfl ?_
    refine WO.q (Q.bin rfl (oc (v := .int .u8 ((122 : Nat) : Int)) rfl) rfl (bv_leq le_nat)) rfl ?_
    refine WO.q (Q.pickT rfl rfl) rfl ?_
    refine WO.q (Q.move rfl) rfl ?_
    refine WO.splitD (d := 9) rfl (fun hc9 => ?_) (fun hc9 => ?_)
    · skip -- tt
      refine WO.gF rfl rfl (.inl rfl) rfl ?_
      refine WO.gF rfl rfl (.inl rfl) rfl ?_
      refine WO.gF rfl rfl (.inl rfl) rfl ?_
      refine WO.gF rfl rfl (.inr rfl) rfl ?_
      refine WO.gF rfl rfl (.inr rfl) rfl ?_
      refine WO.gF rfl rfl (.inl rfl) rfl ?_
      refine WO.q (Q.pickT rfl rfl) rfl ?_
      refine WO.q (Q.move rfl) rfl ?_
      refine WO.gF rfl rfl (.inl rfl) rfl ?_
      refine WO.gF rfl rfl (.inl rfl) rfl ?_
      refine WO.q (Q.pickT rfl rfl) rfl ?_
      refine WO.q (Q.move rfl) rfl ?_
      refine WO.gF rfl rfl (.inl rfl) rfl ?_
      refine WO.gF rfl rfl (.inl rfl) rfl ?_
      refine WO.q (Q.pickT rfl rfl) rfl ?_
      refine WO.q (Q.assign rfl) rfl ?_
      refine WO.nil ?_
      refine End.K ?_
      refine W.sub (SubS.cons (k := 2) rfl (SubS.nil _)) ?_
      refine W.ret ?_
      refine End.retV (ResL.tmp rfl ResL.nil) ?_
      (simp only [oneOf, isDig, isLet, AV.bool.injEq]; simp; try omega)
    · skip -- tf
      refine WO.gT rfl rfl ?_
      refine WO.q (Q.move rfl) rfl ?_
      refine WO.gT rfl rfl ?_
      refine WO.q (Q.bin rfl (oc (v := .int .u8 ((65 : Nat) : Int)) rfl) rfl (bv_geq le_nat)) rfl ?_
      refine WO.gT rfl rfl ?_
      refine WO.q (Q.move rfl) rfl ?_
      refine WO.splitD (d := 12) rfl (fun hc12 => ?_) (fun hc12 => ?_)
      · skip -- tft
        refine WO.gT rfl rfl ?_
        refine WO.q (Q.move rfl) rfl ?_
        refine WO.gT rfl rfl ?_
        refine WO.q (Q.bin rfl (oc (v := .int .u8 ((90 : Nat) : Int)) rfl) rfl (bv_leq le_nat)) rfl ?_
        refine WO.gT rfl rfl ?_
        refine WO.q (Q.pickT rfl rfl) rfl ?_
        refine WO.q (Q.pickF rfl rfl) rfl ?_
        refine WO.q (Q.move rfl) rfl ?_
        refine WO.splitD (d := 17) rfl (fun hc17 => ?_) (fun hc17 => ?_)
        · skip -- tftt
          refine WO.gF rfl rfl (.inl rfl) rfl ?_
          refine WO.gF rfl rfl (.inl rfl) rfl ?_
          refine WO.q (Q.pickT rfl rfl) rfl ?_
          refine WO.q (Q.move rfl) rfl ?_
          refine WO.gF rfl rfl (.inl rfl) rfl ?_
          refine WO.gF rfl rfl (.inl rfl) rfl ?_
          refine WO.q (Q.pickT rfl rfl) rfl ?_
          refine WO.q (Q.assign rfl) rfl ?_
          refine WO.nil ?_
          refine End.K ?_
          refine W.sub (SubS.cons (k := 2) rfl (SubS.nil _)) ?_
          refine W.ret ?_
          refine End.retV (ResL.tmp rfl ResL.nil) ?_
          (simp only [oneOf, isDig, isLet, AV.bool.injEq]; simp; try omega)
        · skip -- tftf
          refine WO.gT rfl rfl ?_
          refine WO.q (Q.move rfl) rfl ?_
          refine WO.gT rfl rfl ?_
          refine WO.q (Q.bin rfl (oc (v := .int .u8 ((95 : Nat) : Int)) rfl) rfl (bv_eql eq_nat)) rfl ?_
          refine WO.q (Q.pickF rfl rfl) rfl ?_
          refine WO.q (Q.move rfl) rfl ?_
          refine WO.splitD (d := 21) rfl (fun hc21 => ?_) (fun hc21 => ?_)
          · skip -- tftft
            refine WO.gF rfl rfl (.inl rfl) rfl ?_
            refine WO.gF rfl rfl (.inl rfl) rfl ?_
            refine WO.q (Q.pickT rfl rfl) rfl ?_
            refine WO.q (Q.assign rfl) rfl ?_
            refine WO.nil ?_
            refine End.K ?_
            refine W.sub (SubS.cons (k := 2) rfl (SubS.nil _)) ?_
            refine W.ret ?_
            refine End.retV (ResL.tmp rfl ResL.nil) ?_
            (simp only [oneOf, isDig, isLet, AV.bool.injEq]; simp; try omega)
          · skip -- tftff
            refine WO.gT rfl rfl ?_
            refine WO.q (Q.move rfl) rfl ?_
            refine WO.gT rfl rfl ?_
            refine WO.q (Q.bin rfl (oc (v := .int .u8 ((58 : Nat) : Int)) rfl) rfl (bv_eql eq_nat)) rfl ?_
            refine WO.q (Q.pickF rfl rfl) rfl ?_
            refine WO.q (Q.assign rfl) rfl ?_
            refine WO.nil ?_
            refine End.K ?_
            refine W.sub (SubS.cons (k := 2) rfl (SubS.nil _)) ?_
            refine W.ret ?_
            refine End.retV (ResL.tmp rfl ResL.nil) ?_
            (simp only [oneOf, isDig, isLet, AV.bool.injEq]; simp; try omega)
      · skip -- tff
        refine WO.gF rfl rfl (.inl rfl) rfl ?_
        refine WO.gF rfl rfl (.inl rfl) rfl ?_
        refine WO.gT rfl rfl ?_
        refine WO.q (Q.pickF rfl rfl) rfl ?_
        refine WO.q (Q.pickF rfl rfl) rfl ?_
        refine WO.q (Q.move rfl) rfl ?_
        refine WO.gT rfl rfl ?_
        refine WO.q (Q.move rfl) rfl ?_
        refine WO.gT rfl rfl ?_
        refine WO.q (Q.bin rfl (oc (v := .int .u8 ((95 : Nat) : Int)) rfl) rfl (bv_eql eq_nat)) rfl ?_
        refine WO.q (Q.pickF rfl rfl) rfl ?_
        refine WO.q (Q.move rfl) rfl ?_
        refine WO.splitD (d := 21) rfl (fun hc21 => ?_) (fun hc21 => ?_)
        · skip -- tfft
          refine WO.gF rfl rfl (.inl rfl) rfl ?_
          refine WO.gF rfl rfl (.inl rfl) rfl ?_
          refine WO.q (Q.pickT rfl rfl) rfl ?_
          refine WO.q (Q.assign rfl) rfl ?_
          refine WO.nil ?_
          refine End.K ?_
          refine W.sub (SubS.cons (k := 2) rfl (SubS.nil _)) ?_
          refine W.ret ?_
          refine End.retV (ResL.tmp rfl ResL.nil) ?_
          (simp only [oneOf, isDig, isLet, AV.bool.injEq]; simp; try omega)
        · skip -- tfff
          refine WO.gT rfl rfl ?_
          refine WO.q (Q.move rfl) rfl ?_
          refine WO.gT rfl rfl ?_
          refine WO.q (Q.bin rfl (oc (v := .int .u8 ((58 : Nat) : Int)) rfl) rfl (bv_eql eq_nat)) rfl ?_
          refine WO.q (Q.pickF rfl rfl) rfl ?_
          refine WO.q (Q.assign rfl) rfl ?_
          refine WO.nil ?_
          refine End.K ?_
          refine W.sub (SubS.cons (k := 2) rfl (SubS.nil _)) ?_
          refine W.ret ?_
          refine End.retV (ResL.tmp rfl ResL.nil) ?_
          (simp only [oneOf, isDig, isLet, AV.bool.injEq]; simp; try omega)
  · skip -- f
    refine WO.gF rfl rfl (.inl rfl) rfl ?_
    refine WO.gF rfl rfl (.inl rfl) rfl ?_
    refine WO.q (Q.pickF rfl rfl) rfl ?_
    refine WO.q (Q.move rfl) rfl ?_
    refine WO.gT rfl rfl ?_
    refine WO.q (Q.move rfl) rfl ?_
    refine WO.gT rfl rfl ?_
    refine WO.q (Q.bin rfl (oc (v := .int .u8 ((65 : Nat) : Int)) rfl) rfl (bv_geq le_nat)) rfl ?_
    refine WO.gT rfl rfl ?_
    refine WO.q (Q.move rfl) rfl ?_
    refine WO.splitD (d := 12) rfl (fun hc12 => ?_) (fun hc12 => ?_)
    · skip -- ft
      refine WO.gT rfl rfl ?_
      refine WO.q (Q.move rfl) rfl ?_
      refine WO.gT rfl rfl ?_
      refine WO.q (Q.bin rfl (oc (v := .int .u8 ((90 : Nat) : Int)) rfl) rfl (bv_leq le_nat)) rfl ?_
      refine WO.gT rfl rfl ?_
      refine WO.q (Q.pickT rfl rfl) rfl ?_
      refine WO.q (Q.pickF rfl rfl) rfl ?_
      refine WO.q (Q.move rfl) rfl ?_
      refine WO.splitD (d := 17) rfl (fun hc17 => ?_) (fun hc17 => ?_)
      · skip -- ftt
        refine WO.gF rfl rfl (.inl rfl) rfl ?_
        refine WO.gF rfl rfl (.inl rfl) rfl ?_
        refine WO.q (Q.pickT rfl rfl) rfl ?_
        refine WO.q (Q.move rfl) rfl ?_
        refine WO.gF rfl rfl (.inl rfl) rfl ?_
        refine WO.gF rfl rfl (.inl rfl) rfl ?_
        refine WO.q (Q.pickT rfl rfl) rfl ?_
        refine WO.q (Q.assign rfl) rfl ?_
        refine WO.nil ?_
        refine End.K ?_
        refine W.sub (SubS.cons (k := 2) rfl (SubS.nil _)) ?_
        refine W.ret ?_
        refine End.retV (ResL.tmp rfl ResL.nil) ?_
        (simp only [oneOf, isDig, isLet, AV.bool.injEq]; simp; try omega)
      · skip -- ftf
        refine WO.gT rfl rfl ?_
        refine WO.q (Q.move rfl) rfl ?_
        refine WO.gT rfl rfl ?_
        refine WO.q (Q.bin rfl (oc (v := .int .u8 ((95 : Nat) : Int)) rfl) rfl (bv_eql eq_nat)) rfl ?_
        refine WO.q (Q.pickF rfl rfl) rfl ?_
        refine WO.q (Q.move rfl) rfl ?_
        refine WO.splitD (d := 21) rfl (fun hc21 => ?_) (fun hc21 => ?_)
        · skip -- ftft
          refine WO.gF rfl rfl (.inl rfl) rfl ?_
          refine WO.gF rfl rfl (.inl rfl) rfl ?_
          refine WO.q (Q.pickT rfl rfl) rfl ?_
          refine WO.q (Q.assign rfl) rfl ?_
          refine WO.nil ?_
          refine End.K ?_
          refine W.sub (SubS.cons (k := 2) rfl (SubS.nil _)) ?_
          refine W.ret ?_
          refine End.retV (ResL.tmp rfl ResL.nil) ?_
          (simp only [oneOf, isDig, isLet, AV.bool.injEq]; simp; try omega)
        · skip -- ftff
          refine WO.gT rfl rfl ?_
          refine WO.q (Q.move rfl) rfl ?_
          refine WO.gT rfl rfl ?_
          refine WO.q (Q.bin rfl (oc (v := .int .u8 ((58 : Nat) : Int)) rfl) rfl (bv_eql eq_nat)) rfl ?_
          refine WO.q (Q.pickF rfl rfl) rfl ?_
          refine WO.q (Q.assign rfl) rfl ?_
          refine WO.nil ?_
          refine End.K ?_
          refine W.sub (SubS.cons (k := 2) rfl (SubS.nil _)) ?_
          refine W.ret ?_
          refine End.retV (ResL.tmp rfl ResL.nil) ?_
          (simp only [oneOf, isDig, isLet, AV.bool.injEq]; simp; try omega)
    · skip -- ff
      refine WO.gF rfl rfl (.inl rfl) rfl ?_
      refine WO.gF rfl rfl (.inl rfl) rfl ?_
      refine WO.gT rfl rfl ?_
      refine WO.q (Q.pickF rfl rfl) rfl ?_
      refine WO.q (Q.pickF rfl rfl) rfl ?_
      refine WO.q (Q.move rfl) rfl ?_
      refine WO.gT rfl rfl ?_
      refine WO.q (Q.move rfl) rfl ?_
      refine WO.gT rfl rfl ?_
      refine WO.q (Q.bin rfl (oc (v := .int .u8 ((95 : Nat) : Int)) rfl) rfl (bv_eql eq_nat)) rfl ?_
      refine WO.q (Q.pickF rfl rfl) rfl ?_
      refine WO.q (Q.move rfl) rfl ?_
      refine WO.splitD (d := 21) rfl (fun hc21 => ?_) (fun hc21 => ?_)
      · skip -- fft
        refine WO.gF rfl rfl (.inl rfl) rfl ?_
        refine WO.gF rfl rfl (.inl rfl) rfl ?_
        refine WO.q (Q.pickT rfl rfl) rfl ?_
        refine WO.q (Q.assign rfl) rfl ?_
        refine WO.nil ?_
        refine End.K ?_
        refine W.sub (SubS.cons (k := 2) rfl (SubS.nil _)) ?_
        refine W.ret ?_
        refine End.retV (ResL.tmp rfl ResL.nil) ?_
        (simp only [oneOf, isDig, isLet, AV.bool.injEq]; simp; try omega)
      · skip -- fff
        refine WO.gT rfl rfl ?_
        refine WO.q (Q.move rfl) rfl ?_
        refine WO.gT rfl rfl ?_
        refine WO.q (Q.bin rfl (oc (v := .int .u8 ((58 : Nat) : Int)) rfl) rfl (bv_eql eq_nat)) rfl ?_
        refine WO.q (Q.pickF rfl rfl) rfl ?_
        refine WO.q (Q.assign rfl) rfl ?_
        refine WO.nil ?_
        refine End.K ?_
        refine W.sub (SubS.cons (k := 2) rfl (SubS.nil _)) ?_
        refine W.ret ?_
        refine End.retV (ResL.tmp rfl ResL.nil) ?_
        (simp only [oneOf, isDig, isLet, AV.bool.injEq]; simp; try omega)

theorem nl_spec (c : Nat) (hc : c < 256) : Spec tab 29 [.int .u8 (c : Int)] [] [] (Val (.bool (nlc c))) := by
  refine Spec.enter' (ft_get 29 Tryd.func29) rfl (m := 5) rfl (rs := [.tmp 2]) rfl (st := [(0, .int .u8 (c : Int))]) rfl rfl (fun _ => rfl) (fun E => ?_)
  refine W.seq ?_
  refine W.reg ?_
  refine WO.q (Q.assign rfl) rfl ?_
  refine WO.nil ?_
  refine End.K ?_
  refine W.seq ?_
  refine W.reg ?_
  refine WO.q (Q.move rfl) rfl ?_
  refine WO.q (Q.bin rfl (oc (v := .int .u8 ((10 : Nat) : Int)) rfl) rfl (bv_neq ne_nat)) rfl ?_
  refine WO.q (Q.assign rfl) rfl ?_
  refine WO.nil ?_
  refine End.K ?_
  refine W.ret ?_
  refine End.retV (ResL.tmp rfl ResL.nil) ?_
  rfl

theorem num_spec (c : Nat) (hc : c < 256) : Spec tab 38 [.int .u8 (c : Int)] [] [] (Val (.bool (numc c))) := by
  refine Spec.enter' (ft_get 38 Tryd.func38) rfl (m := 13) rfl (rs := [.tmp 2]) rfl (st := [(0, .int .u8 (c : Int))]) rfl rfl (fun _ => rfl) (fun E => ?_)
  refine W.seq ?_
  refine W.reg ?_
  refine WO.q (Q.assign rfl) rfl ?_
  refine WO.nil ?_
  refine End.K ?_
  refine W.seq ?_
  refine W.reg ?_
  refine WO.q (Q.move rfl) rfl ?_
  refine WO.callV rfl (oLs_cons rfl oLs_nil) rfl (digit_spec _ (by assumption)) SubR.nil rfl ?_
  refine WO.q (Q.move rfl) rfl ?_
  refine WO.split (d := 5) rfl (fun hc5 => ?_) (fun hc5 => ?_)
  · skip -- t
    refine WO.gF rfl rfl (.inl rfl) rfl ?_
    refine WO.gF rfl rfl (.inl rfl) rfl ?_
    refine WO.q (Q.pickT rfl rfl) rfl ?_
    refine WO.q (Q.move rfl) rfl ?_
    refine WO.gF rfl rfl (.inl rfl) rfl ?_
    refine WO.gF rfl rfl (.inl rfl) rfl ?_
    refine WO.q (Q.pickT rfl rfl) rfl ?_
    refine WO.q (Q.assign rfl) rfl ?_
    refine WO.nil ?_
    refine End.K ?_
    refine W.sub (SubS.cons (k := 2) rfl (SubS.nil _)) ?_
    refine W.ret ?_
    refine End.retV (ResL.tmp rfl ResL.nil) ?_
    exact bool_eq (by simp_all [numc])
  · skip -- f
    refine WO.gT rfl rfl ?_
    refine WO.q (Q.move rfl) rfl ?_
    refine WO.gT rfl rfl ?_
    refine WO.callV rfl (oLs_cons rfl oLs_nil) rfl (letter_spec _ (by assumption)) SubR.nil rfl ?_
    refine WO.q (Q.pickF rfl rfl) rfl ?_
    refine WO.q (Q.move rfl) rfl ?_
    refine WO.split (d := 9) rfl (fun hc9 => ?_) (fun hc9 => ?_)
    · skip -- ft
      refine WO.gF rfl rfl (.inl rfl) rfl ?_
      refine WO.gF rfl rfl (.inl rfl) rfl ?_
      refine WO.q (Q.pickT rfl rfl) rfl ?_
      refine WO.q (Q.assign rfl) rfl ?_
      refine WO.nil ?_
      refine End.K ?_
      refine W.sub (SubS.cons (k := 2) rfl (SubS.nil _)) ?_
      refine W.ret ?_
      refine End.retV (ResL.tmp rfl ResL.nil) ?_
      exact bool_eq (by simp_all [numc])
    · skip -- ff
      refine WO.gT rfl rfl ?_
      refine WO.q (Q.move rfl) rfl ?_
      refine WO.gT rfl rfl ?_
      refine WO.q (Q.bin rfl (oc (v := .int .u8 ((46 : Nat) : Int)) rfl) rfl (bv_eql eq_nat)) rfl ?_
      refine WO.q (Q.pickF rfl rfl) rfl ?_
      refine WO.q (Q.assign rfl) rfl ?_
      refine WO.nil ?_
      refine End.K ?_
      refine W.sub (SubS.cons (k := 2) rfl (SubS.nil _)) ?_
      refine W.ret ?_
      refine End.retV (ResL.tmp rfl ResL.nil) ?_
      exact bool_eq (by simp_all [numc])

theorem nam_spec (c : Nat) (hc : c < 256) : Spec tab 32 [.int .u8 (c : Int)] [] [] (Val (.bool (namc c))) := by
  refine Spec.enter' (ft_get 32 Tryd.func32) rfl (m := 9) rfl (rs := [.tmp 2]) rfl (st := [(0, .int .u8 (c : Int))]) rfl rfl (fun _ => rfl) (fun E => ?_)
  refine W.seq ?_
  refine W.reg ?_
  refine WO.q (Q.assign rfl) rfl ?_
  refine WO.nil ?_
  refine End.K ?_
  refine W.seq ?_
  refine W.reg ?_
  refine WO.q (Q.move rfl) rfl ?_
  refine WO.callV rfl (oLs_cons rfl oLs_nil) rfl (letter_spec _ (by assumption)) SubR.nil rfl ?_
  refine WO.q (Q.move rfl) rfl ?_
  refine WO.split (d := 5) rfl (fun hc5 => ?_) (fun hc5 => ?_)
  · skip -- t
    refine WO.gF rfl rfl (.inl rfl) rfl ?_
    refine WO.gF rfl rfl (.inl rfl) rfl ?_
    refine WO.q (Q.pickT rfl rfl) rfl ?_
    refine WO.q (Q.assign rfl) rfl ?_
    refine WO.nil ?_
    refine End.K ?_
    refine W.sub (SubS.cons (k := 2) rfl (SubS.nil _)) ?_
    refine W.ret ?_
    refine End.retV (ResL.tmp rfl ResL.nil) ?_
    exact bool_eq (by simp_all [namc])
  · skip -- f
    refine WO.gT rfl rfl ?_
    refine WO.q (Q.move rfl) rfl ?_
    refine WO.gT rfl rfl ?_
    refine WO.callV rfl (oLs_cons rfl oLs_nil) rfl (digit_spec _ (by assumption)) SubR.nil rfl ?_
    refine WO.q (Q.pickF rfl rfl) rfl ?_
    refine WO.q (Q.assign rfl) rfl ?_
    refine WO.nil ?_
    refine End.K ?_
    refine W.sub (SubS.cons (k := 2) rfl (SubS.nil _)) ?_
    refine W.ret ?_
    refine End.retV (ResL.tmp rfl ResL.nil) ?_
    exact bool_eq (by simp_all [namc])

theorem prefix_spec (s : List Nat) (hb : Bytes s) (hl : s.length ≤ 1073741824) (g : Nat) (caps : List AV) (p : Nat → Bool) (hp : ∀ c : Nat, c < 256 → Spec tab g (.int .u8 (c : Int) :: caps) [] [] (Val (.bool (p c)))) : Spec tab 17 [.str s, .func g caps] [] [] (Val (.int .i64 ((pre p s : Nat) : Int))) := by
  refine Spec.enter' (ft_get 17 Tryd.func17) rfl (m := 20) rfl (rs := [.tmp 4]) rfl (st := [(0, .str s), (1, .func g caps)]) rfl rfl (fun _ => rfl) (fun E => ?_)
  refine W.seq ?_
  refine W.reg ?_
  refine WO.q (Q.assign (oc (v := .int .i64 ((0 : Nat) : Int)) rfl)) rfl ?_
  refine WO.nil ?_
  refine End.K ?_
  refine W.seq ?_
  refine W.reg ?_
  refine WO.q (Q.assign (oc (v := .int .i64 ((0 : Nat) : Int)) rfl)) rfl ?_
  refine WO.nil ?_
  refine End.K ?_
  refine W.seq ?_
  refine W.block ?_
  refine W.loop_ind (fun (i : Nat) => [(0, .str s), (1, .func g caps), (5, .int .i64 ((i : Nat) : Int))]) (fun _ => _) (fun (i : Nat) => i ≤ s.length ∧ pre p s = i + pre p (s.drop i)) (fun (i : Nat) => s.length - i) (0) ⟨by omega, by simp⟩ (SubS.cons rfl (SubS.cons rfl (SubS.cons rfl (SubS.nil _)))) (SubH.refl _) (fun i hI0 ih0 => ?_)
  obtain ⟨h1, h2⟩ := hI0
  refine W.seq ?_
  refine W.seq ?_
  refine W.reg ?_
  refine WO.q (Q.move rfl) rfl ?_
  refine WO.q (Q.move rfl) rfl ?_
  refine WO.q (Q.len ud9 rfl rfl) rfl ?_
  refine WO.q (Q.bin rfl rfl rfl (bv_lss lt_nat)) rfl ?_
  refine WO.q (Q.move rfl) rfl ?_
  refine WO.splitD (d := 10) rfl (fun hc10 => ?_) (fun hc10 => ?_)
  · skip -- L0t
    refine WO.gT rfl rfl ?_
    refine WO.q (Q.move rfl) rfl ?_
    refine WO.gT rfl rfl ?_
    refine WO.q (Q.move rfl) rfl ?_
    refine WO.gT rfl rfl ?_
    refine WO.q (Q.move rfl) rfl ?_
    refine WO.gT rfl rfl ?_
    refine WO.indexB hb ud9 rfl rfl (by first | omega | (simp only [List.length_drop, List.length_take, List.length_append, List.length_cons, List.length_nil] at *; omega)) rfl (fun c14 hd14 hb14 => ?_)
    refine WO.gT rfl rfl ?_
    refine WO.callV rfl (oLs_cons rfl oLs_nil) rfl (hp _ (by assumption)) SubR.nil rfl ?_
    refine WO.q (Q.pickT rfl rfl) rfl ?_
    refine WO.nil ?_
    refine End.K ?_
    refine W.sub (SubS.cons (k := 16) rfl (SubS.cons (k := 0) rfl (SubS.cons (k := 1) rfl (SubS.cons (k := 5) rfl (SubS.nil _))))) ?_
    refine W.condS rfl (fun hc16 => ?_) (fun hc16 => ?_)
    · skip -- L0tT
      refine W.skip ?_
      refine End.K ?_
      refine W.block ?_
      refine W.reg ?_
      refine WO.q (Q.move rfl) rfl ?_
      refine WO.q (Q.bin rfl (oc (v := .int .i64 ((1 : Nat) : Int)) rfl) rfl (bv_add (wn_add (by first | omega | (simp only [List.length_drop, List.length_take, List.length_append, List.length_cons, List.length_nil] at *; omega))))) rfl ?_
      refine WO.q (Q.assign rfl) rfl ?_
      refine WO.nil ?_
      refine End.KB (End.KL ?_)
      refine W.sub (SubS.cons rfl (SubS.cons rfl (SubS.cons rfl (SubS.nil _)))) (ih0 (i + 1) ?_ ?_)
      · exact ⟨by omega, by rw [h2, pre_step (by omega), ← hd14]; simp [hc16]; omega⟩
      · exact (by first | omega | (simp only [List.length_drop, List.length_take, List.length_append, List.length_cons, List.length_nil] at *; omega))
    · skip -- L0tF
      refine W.exit ?_
      refine End.K_exit (End.KL_exit (End.KB_hit (End.K ?_)))
      refine W.seq ?_
      refine W.reg ?_
      refine WO.q (Q.move rfl) rfl ?_
      refine WO.q (Q.assign rfl) rfl ?_
      refine WO.nil ?_
      refine End.K ?_
      refine W.ret ?_
      refine End.retV (ResL.tmp rfl ResL.nil) ?_
      exact i64_eq (by rw [h2, pre_step hc10, ← hd14]; simp [hc16])
  · skip -- L0f
    refine WO.gF rfl rfl (.inl rfl) rfl ?_
    refine WO.gF rfl rfl (.inl rfl) rfl ?_
    refine WO.gF rfl rfl (.inl rfl) rfl ?_
    refine WO.gF rfl rfl (.inl rfl) rfl ?_
    refine WO.gF rfl rfl (.inl rfl) rfl ?_
    refine WO.q (Q.pickF rfl rfl) rfl ?_
    refine WO.nil ?_
    refine End.K ?_
    refine W.sub (SubS.cons (k := 16) rfl (SubS.cons (k := 0) rfl (SubS.cons (k := 1) rfl (SubS.cons (k := 5) rfl (SubS.nil _))))) ?_
    refine W.condF rfl ?_
    refine W.exit ?_
    refine End.K_exit (End.KL_exit (End.KB_hit (End.K ?_)))
    refine W.seq ?_
    refine W.reg ?_
    refine WO.q (Q.move rfl) rfl ?_
    refine WO.q (Q.assign rfl) rfl ?_
    refine WO.nil ?_
    refine End.K ?_
    refine W.ret ?_
    refine End.retV (ResL.tmp rfl ResL.nil) ?_
    exact i64_eq (by rw [h2, List.drop_eq_nil_of_le (by omega)]; simp [pre])

theorem quoted_spec (s : List Nat) (hb : Bytes s) (hl : s.length ≤ 1073741824) : Spec tab 40 [.str s] [] [] (Val (.int .i64 ((qu s : Nat) : Int))) := by
  refine Spec.enter' (ft_get 40 Tryd.func40) rfl (m := 21) rfl (rs := [.tmp 2]) rfl (st := [(0, .str s)]) rfl rfl (fun _ => rfl) (fun E => ?_)
  refine W.seq ?_
  refine W.reg ?_
  refine WO.q (Q.assign (oc (v := .int .i64 ((0 : Nat) : Int)) rfl)) rfl ?_
  refine WO.nil ?_
  refine End.K ?_
  refine W.seq ?_
  refine W.seq ?_
  refine W.reg ?_
  refine WO.q (Q.assign (oc (v := .int .i64 ((1 : Nat) : Int)) rfl)) rfl ?_
  refine WO.nil ?_
  refine End.K ?_
  refine W.block ?_
  refine W.loop_ind (fun (i : Nat) => [(0, .str s), (3, .int .i64 ((i : Nat) : Int))]) (fun _ => _) (fun (i : Nat) => i ≤ s.length + 1 ∧ qu s = quL (s.drop i) i) (fun (i : Nat) => s.length + 1 - i) (1) ⟨by omega, rfl⟩ (SubS.cons rfl (SubS.cons rfl (SubS.nil _))) (SubH.refl _) (fun i hI0 ih0 => ?_)
  obtain ⟨h1, h2⟩ := hI0
  refine W.seq ?_
  refine W.seq ?_
  refine W.reg ?_
  refine WO.q (Q.move rfl) rfl ?_
  refine WO.q (Q.move rfl) rfl ?_
  refine WO.q (Q.len ud9 rfl rfl) rfl ?_
  refine WO.q (Q.bin rfl rfl rfl (bv_lss lt_nat)) rfl ?_
  refine WO.nil ?_
  refine End.K ?_
  refine W.condDS rfl (fun hc7 => ?_) (fun hc7 => ?_)
  · skip -- L0T
    refine W.skip ?_
    refine End.K ?_
    refine W.seq ?_
    refine W.block ?_
    refine W.seq ?_
    refine W.reg ?_
    refine WO.q (Q.move rfl) rfl ?_
    refine WO.q (Q.move rfl) rfl ?_
    refine WO.indexB hb ud9 rfl rfl (by first | omega | (simp only [List.length_drop, List.length_take, List.length_append, List.length_cons, List.length_nil] at *; omega)) rfl (fun c12 hd12 hb12 => ?_)
    refine WO.nil ?_
    refine End.K ?_
    refine W.sub (SubS.cons (k := 12) rfl (SubS.cons (k := 0) rfl (SubS.cons (k := 3) rfl (SubS.nil _)))) ?_
    refine W.block ?_
    refine W.seq ?_
    refine W.reg ?_
    refine WO.q (Q.bin rfl (oc (v := .int .u8 ((92 : Nat) : Int)) rfl) rfl (bv_eql eq_nat)) rfl ?_
    refine WO.q (Q.assign rfl) rfl ?_
    refine WO.nil ?_
    refine End.K ?_
    refine W.condDS rfl (fun hc13 => ?_) (fun hc13 => ?_)
    · skip -- L0TT
      refine W.reg ?_
      refine WO.q (Q.move rfl) rfl ?_
      refine WO.q (Q.bin rfl (oc (v := .int .i64 ((1 : Nat) : Int)) rfl) rfl (bv_add (wn_add (by first | omega | (simp only [List.length_drop, List.length_take, List.length_append, List.length_cons, List.length_nil] at *; omega))))) rfl ?_
      refine WO.q (Q.assign rfl) rfl ?_
      refine WO.nil ?_
      refine End.KB (End.KB (End.K ?_))
      refine W.reg ?_
      refine WO.q (Q.move rfl) rfl ?_
      refine WO.q (Q.bin rfl (oc (v := .int .i64 ((1 : Nat) : Int)) rfl) rfl (bv_add (wn_add (by first | omega | (simp only [List.length_drop, List.length_take, List.length_append, List.length_cons, List.length_nil] at *; omega))))) rfl ?_
      refine WO.q (Q.assign rfl) rfl ?_
      refine WO.nil ?_
      refine End.KL ?_
      refine W.sub (SubS.cons rfl (SubS.cons rfl (SubS.nil _))) (ih0 (i + 2) ?_ ?_)
      · exact ⟨by omega, by rw [h2, quL_step (by omega), ← hd12]; simp [hc13]⟩
      · exact (by first | omega | (simp only [List.length_drop, List.length_take, List.length_append, List.length_cons, List.length_nil] at *; omega))
    · skip -- L0TF
      refine W.seq ?_
      refine W.reg ?_
      refine WO.q (Q.bin rfl (oc (v := .int .u8 ((34 : Nat) : Int)) rfl) rfl (bv_eql eq_nat)) rfl ?_
      refine WO.q (Q.assign rfl) rfl ?_
      refine WO.nil ?_
      refine End.K ?_
      refine W.condDS rfl (fun hc17 => ?_) (fun hc17 => ?_)
      · skip -- L0TFT
        refine W.seq ?_
        refine W.reg ?_
        refine WO.q (Q.move rfl) rfl ?_
        refine WO.q (Q.bin rfl (oc (v := .int .i64 ((1 : Nat) : Int)) rfl) rfl (bv_add (wn_add (by first | omega | (simp only [List.length_drop, List.length_take, List.length_append, List.length_cons, List.length_nil] at *; omega))))) rfl ?_
        refine WO.q (Q.assign rfl) rfl ?_
        refine WO.nil ?_
        refine End.K ?_
        refine W.sub (SubS.cons (k := 2) rfl (SubS.nil _)) ?_
        refine W.ret ?_
        refine End.KB_ret (End.KB_ret (End.K_ret (End.KL_ret (End.KB_ret (End.K_ret (End.retV (ResL.tmp rfl ResL.nil) ?_))))))
        exact i64_eq (by rw [h2, quL_step (by omega), ← hd12]; simp [hc13, hc17])
      · skip -- L0TFF
        refine W.skip ?_
        refine End.KB (End.KB (End.K ?_))
        refine W.reg ?_
        refine WO.q (Q.move rfl) rfl ?_
        refine WO.q (Q.bin rfl (oc (v := .int .i64 ((1 : Nat) : Int)) rfl) rfl (bv_add (wn_add (by first | omega | (simp only [List.length_drop, List.length_take, List.length_append, List.length_cons, List.length_nil] at *; omega))))) rfl ?_
        refine WO.q (Q.assign rfl) rfl ?_
        refine WO.nil ?_
        refine End.KL ?_
        refine W.sub (SubS.cons rfl (SubS.cons rfl (SubS.nil _))) (ih0 (i + 1) ?_ ?_)
        · exact ⟨by omega, by rw [h2, quL_step (by omega), ← hd12]; simp [hc13, hc17]⟩
        · exact (by first | omega | (simp only [List.length_drop, List.length_take, List.length_append, List.length_cons, List.length_nil] at *; omega))
  · skip -- L0F
    refine W.exit ?_
    refine End.K_exit (End.KL_exit (End.KB_hit (End.K ?_)))
    refine W.sub (SubS.nil _) ?_
    refine W.seq ?_
    refine W.reg ?_
    refine WO.q (Q.assign (oc (v := .int .i64 ((0 : Nat) : Int)) rfl)) rfl ?_
    refine WO.nil ?_
    refine End.K ?_
    refine W.ret ?_
    refine End.retV (ResL.tmp rfl ResL.nil) ?_
    exact i64_eq (by rw [h2, List.drop_eq_nil_of_le (by omega)]; simp [quL])

theorem hasP1_spec (s p : List Nat) (hs : Bytes s) (hp : Bytes p) (hl : s.length ≤ 1073741824) (hm : p.length ≤ 1073741824) : Spec tab 78 [.str s, .str p] [] [] (Val (.bool (hasP s p))) := by
  refine Spec.enter' (ft_get 78 Tryd.func78) rfl (m := 18) rfl (rs := [.tmp 4]) rfl (st := [(0, .str s), (1, .str p)]) rfl rfl (fun _ => rfl) (fun E => ?_)
  refine W.seq ?_
  refine W.reg ?_
  refine WO.q (Q.assign rfl) rfl ?_
  refine WO.nil ?_
  refine End.K ?_
  refine W.seq ?_
  refine W.reg ?_
  refine WO.q (Q.move rfl) rfl ?_
  refine WO.q (Q.len ud9 rfl rfl) rfl ?_
  refine WO.q (Q.move rfl) rfl ?_
  refine WO.q (Q.len ud9 rfl rfl) rfl ?_
  refine WO.q (Q.bin rfl rfl rfl (bv_geq le_nat)) rfl ?_
  refine WO.q (Q.move rfl) rfl ?_
  refine WO.splitD (d := 10) rfl (fun hc10 => ?_) (fun hc10 => ?_)
  · skip -- t
    refine WO.gT rfl rfl ?_
    refine WO.q (Q.move rfl) rfl ?_
    refine WO.gT rfl rfl ?_
    refine WO.q (Q.move rfl) rfl ?_
    refine WO.gT rfl rfl ?_
    refine WO.q (Q.len ud9 rfl rfl) rfl ?_
    refine WO.gT rfl rfl ?_
    refine WO.q (Q.sliceS ud9 rfl rfl (by first | omega | (simp only [List.length_drop, List.length_take, List.length_append, List.length_cons, List.length_nil] at *; omega)) sl_hi) rfl ?_
    refine WO.gT rfl rfl ?_
    refine WO.q (Q.move rfl) rfl ?_
    refine WO.gT rfl rfl ?_
    refine WO.q (Q.bin rfl rfl rfl bv_seql) rfl ?_
    refine WO.q (Q.pickT rfl rfl) rfl ?_
    refine WO.q (Q.assign rfl) rfl ?_
    refine WO.nil ?_
    refine End.K ?_
    refine W.sub (SubS.cons (k := 4) rfl (SubS.nil _)) ?_
    refine W.ret ?_
    refine End.retV (ResL.tmp rfl ResL.nil) ?_
    exact bool_eq (by simp [hasP, hc10]; try omega)
  · skip -- f
    refine WO.gF rfl rfl (.inl rfl) rfl ?_
    refine WO.gF rfl rfl (.inl rfl) rfl ?_
    refine WO.gF rfl rfl (.inl rfl) rfl ?_
    refine WO.gF rfl rfl (.inl rfl) rfl ?_
    refine WO.gF rfl rfl (.inl rfl) rfl ?_
    refine WO.gF rfl rfl (.inl rfl) rfl ?_
    refine WO.q (Q.pickF rfl rfl) rfl ?_
    refine WO.q (Q.assign rfl) rfl ?_
    refine WO.nil ?_
    refine End.K ?_
    refine W.sub (SubS.cons (k := 4) rfl (SubS.nil _)) ?_
    refine W.ret ?_
    refine End.retV (ResL.tmp rfl ResL.nil) ?_
    exact bool_eq (by simp [hasP, hc10]; try omega)

theorem hasP_spec (s p : List Nat) (hs : Bytes s) (hp : Bytes p) (hl : s.length ≤ 1073741824) (hm : p.length ≤ 1073741824) : Spec tab 66 [.str s, .str p] [] [] (Val (.bool (hasP s p))) := by
  refine Spec.enter' (ft_get 66 Tryd.func66) rfl (m := 8) rfl (rs := [.tmp 4]) rfl (st := [(0, .str s), (1, .str p)]) rfl rfl (fun _ => rfl) (fun E => ?_)
  refine W.seq ?_
  refine W.reg ?_
  refine WO.q (Q.assign rfl) rfl ?_
  refine WO.nil ?_
  refine End.K ?_
  refine W.seq ?_
  refine W.reg ?_
  refine WO.q (Q.move rfl) rfl ?_
  refine WO.q (Q.move rfl) rfl ?_
  refine WO.callV rfl (oLs_cons rfl (oLs_cons rfl oLs_nil)) rfl (hasP1_spec _ _ (by assumption) (by assumption) (by assumption) (by assumption)) SubR.nil rfl ?_
  refine WO.q (Q.assign rfl) rfl ?_
  refine WO.nil ?_
  refine End.K ?_
  refine W.ret ?_
  refine End.retV (ResL.tmp rfl ResL.nil) ?_
  rfl

theorem cutP1_spec (s p : List Nat) (hs : Bytes s) (hp : Bytes p) (hl : s.length ≤ 1073741824) (hm : p.length ≤ 1073741824) : Spec tab 64 [.str s, .str p] [] [] (Val (.tuple [.str (if hasP s p then s.drop p.length else s), .bool (hasP s p)])) := by
  refine Spec.enter' (ft_get 64 Tryd.func64) rfl (m := 15) rfl (rs := [.tmp 4, .tmp 5]) rfl (st := [(0, .str s), (1, .str p)]) rfl rfl (fun _ => rfl) (fun E => ?_)
  refine W.seq ?_
  refine W.reg ?_
  refine WO.q (Q.assign (oc (v := .str []) (by kernel_rfl))) rfl ?_
  refine WO.q (Q.assign rfl) rfl ?_
  refine WO.nil ?_
  refine End.K ?_
  refine W.seq ?_
  refine W.seq ?_
  refine W.reg ?_
  refine WO.q (Q.move rfl) rfl ?_
  refine WO.q (Q.move rfl) rfl ?_
  refine WO.callV rfl (oLs_cons rfl (oLs_cons rfl oLs_nil)) rfl (hasP1_spec _ _ (by assumption) (by assumption) (by assumption) (by assumption)) SubR.nil rfl ?_
  refine WO.q (Q.not rfl rfl) rfl ?_
  refine WO.nil ?_
  refine End.K ?_
  refine W.condS rfl (fun hc9 => ?_) (fun hc9 => ?_)
  · skip -- T
    refine W.seq ?_
    refine W.reg ?_
    refine WO.q (Q.move rfl) rfl ?_
    refine WO.q (Q.assign rfl) rfl ?_
    refine WO.q (Q.assign rfl) rfl ?_
    refine WO.nil ?_
    refine End.K ?_
    refine W.sub (SubS.cons (k := 5) rfl (SubS.cons (k := 4) rfl (SubS.nil _))) ?_
    refine W.ret ?_
    refine End.K_ret (End.retV (ResL.tmp rfl (ResL.tmp rfl ResL.nil)) ?_)
    (simp at hc9; simp [oneOf, hc9])
  · skip -- F
    have hle := hasP_le (by simpa using hc9)
    refine W.skip ?_
    refine End.K ?_
    refine W.sub (SubS.cons (k := 0) rfl (SubS.cons (k := 1) rfl (SubS.nil _))) ?_
    refine W.seq ?_
    refine W.reg ?_
    refine WO.q (Q.move rfl) rfl ?_
    refine WO.q (Q.move rfl) rfl ?_
    refine WO.q (Q.len ud9 rfl rfl) rfl ?_
    refine WO.q (Q.sliceS ud9 rfl rfl (by first | omega | (simp only [List.length_drop, List.length_take, List.length_append, List.length_cons, List.length_nil] at *; omega)) sl_lo) rfl ?_
    refine WO.q (Q.assign rfl) rfl ?_
    refine WO.q (Q.assign rfl) rfl ?_
    refine WO.nil ?_
    refine End.K ?_
    refine W.sub (SubS.cons (k := 5) rfl (SubS.cons (k := 4) rfl (SubS.nil _))) ?_
    refine W.ret ?_
    refine End.retV (ResL.tmp rfl (ResL.tmp rfl ResL.nil)) ?_
    (simp at hc9; simp [oneOf, hc9])

theorem cutP_spec (s p : List Nat) (hs : Bytes s) (hp : Bytes p) (hl : s.length ≤ 1073741824) (hm : p.length ≤ 1073741824) : Spec tab 50 [.str s, .str p] [] [] (Val (.tuple [.str (if hasP s p then s.drop p.length else s), .bool (hasP s p)])) := by
  refine Spec.enter' (ft_get 50 Tryd.func50) rfl (m := 11) rfl (rs := [.tmp 4, .tmp 5]) rfl (st := [(0, .str s), (1, .str p)]) rfl rfl (fun _ => rfl) (fun E => ?_)
  refine W.seq ?_
  refine W.reg ?_
  refine WO.q (Q.assign (oc (v := .str []) (by kernel_rfl))) rfl ?_
  refine WO.q (Q.assign rfl) rfl ?_
  refine WO.nil ?_
  refine End.K ?_
  refine W.seq ?_
  refine W.reg ?_
  refine WO.q (Q.move rfl) rfl ?_
  refine WO.q (Q.move rfl) rfl ?_
  refine WO.callV rfl (oLs_cons rfl (oLs_cons rfl oLs_nil)) rfl (cutP1_spec _ _ (by assumption) (by assumption) (by assumption) (by assumption)) SubR.nil rfl ?_
  refine WO.q (Q.extract rfl rfl) rfl ?_
  refine WO.q (Q.extract rfl rfl) rfl ?_
  refine WO.q (Q.assign rfl) rfl ?_
  refine WO.q (Q.assign rfl) rfl ?_
  refine WO.nil ?_
  refine End.K ?_
  refine W.sub (SubS.cons (k := 5) rfl (SubS.cons (k := 4) rfl (SubS.nil _))) ?_
  refine W.ret ?_
  refine End.retV (ResL.tmp rfl (ResL.tmp rfl ResL.nil)) ?_
  rfl

theorem ixB0_spec (s : List Nat) (c : Nat) : Spec tab 42 [.str s, .int .u8 (c : Int)] [] [] (Val (.int .i64 (ixB s c))) := by
  refine Spec.enter' (ft_get 42 Tryd.func42) rfl (m := 8) rfl (rs := [.tmp 4]) rfl (st := [(0, .str s), (1, .int .u8 (c : Int))]) rfl rfl (fun _ => rfl) (fun E => ?_)
  refine W.seq ?_
  refine W.reg ?_
  refine WO.q (Q.assign (oc (v := .int .i64 ((0 : Nat) : Int)) rfl)) rfl ?_
  refine WO.nil ?_
  refine End.K ?_
  refine W.seq ?_
  refine W.reg ?_
  refine WO.q (Q.move rfl) rfl ?_
  refine WO.q (Q.move rfl) rfl ?_
  refine WO.callV rfl (oLs_cons rfl (oLs_cons rfl oLs_nil)) rfl (ixB_spec _ _) SubR.nil rfl ?_
  refine WO.q (Q.assign rfl) rfl ?_
  refine WO.nil ?_
  refine End.K ?_
  refine W.ret ?_
  refine End.retV (ResL.tmp rfl ResL.nil) ?_
  rfl

theorem ix1_spec (s : List Nat) (c : Nat) (hs : Bytes s) (hc : c < 256) (hl : s.length ≤ 1073741824) : Spec tab 79 [.str s, .str [c]] [] [] (Val (.int .i64 (ixB s c))) := by
  refine Spec.enter' (ft_get 79 Tryd.func79) rfl (m := 143) rfl (rs := [.tmp 4]) rfl (st := [(0, .str s), (1, .str [c])]) rfl rfl (fun _ => rfl) (fun E => ?_)
  refine W.seq ?_
  refine W.reg ?_
  refine WO.q (Q.assign (oc (v := .int .i64 ((0 : Nat) : Int)) rfl)) rfl ?_
  refine WO.nil ?_
  refine End.K ?_
  refine W.seq ?_
  refine W.reg ?_
  refine WO.q (Q.move rfl) rfl ?_
  refine WO.q (Q.len ud9 rfl rfl) rfl ?_
  refine WO.q (Q.assign rfl) rfl ?_
  refine WO.nil ?_
  refine End.K ?_
  refine W.seq ?_
  refine W.block ?_
  refine W.seq ?_
  refine W.reg ?_
  refine WO.q (Q.move rfl) rfl ?_
  refine WO.q (Q.bin rfl (oc (v := .int .i64 ((0 : Nat) : Int)) rfl) rfl (bv_eql eq_nat)) rfl ?_
  refine WO.q (Q.move rfl) rfl ?_
  refine WO.splitD (d := 19) rfl (fun hc19 => ?_) (fun hc19 => ?_)
  · exact absurd hc19 (by simp)
  · skip -- f
    refine WO.gT rfl rfl ?_
    refine WO.q (Q.move rfl) rfl ?_
    refine WO.gT rfl rfl ?_
    refine WO.q (Q.move rfl) rfl ?_
    refine WO.gT rfl rfl ?_
    refine WO.q (Q.bin rfl rfl rfl bv_seql) rfl ?_
    refine WO.q (Q.pickF rfl rfl) rfl ?_
    refine WO.q (Q.assign rfl) rfl ?_
    refine WO.nil ?_
    refine End.K ?_
    refine W.sub (SubS.cons (k := 16) rfl (SubS.cons (k := 5) rfl (SubS.cons (k := 0) rfl (SubS.cons (k := 1) rfl (SubS.nil _))))) ?_
    refine W.condDS rfl (fun hc16 => ?_) (fun hc16 => ?_)
    · skip -- fT
      refine W.seq ?_
      refine W.reg ?_
      refine WO.q (Q.assign (oc (v := .int .i64 ((0 : Nat) : Int)) rfl)) rfl ?_
      refine WO.nil ?_
      refine End.K ?_
      refine W.ret ?_
      refine End.KB_ret (End.K_ret (End.retV (ResL.tmp rfl ResL.nil) ?_))
      (rw [← hc16]; exact congrArg (AV.int .i64) (by simp [ixB, pre, Nat.mod_eq_of_lt hc]))
    · skip -- fF
      refine W.seq ?_
      refine W.reg ?_
      refine WO.q (Q.move rfl) rfl ?_
      refine WO.q (Q.bin rfl (oc (v := .int .i64 ((1 : Nat) : Int)) rfl) rfl (bv_eql eq_nat)) rfl ?_
      refine WO.q (Q.assign rfl) rfl ?_
      refine WO.nil ?_
      refine End.K ?_
      refine W.condDS rfl (fun hc24 => ?_) (fun hc24 => ?_)
      · skip -- fFT
        refine W.seq ?_
        refine W.reg ?_
        refine WO.q (Q.move rfl) rfl ?_
        refine WO.q (Q.move rfl) rfl ?_
        refine WO.indexB (Bytes.one hc) ud9 rfl (oc (v := .int .i64 ((0 : Nat) : Int)) rfl) (by first | omega | (simp only [List.length_drop, List.length_take, List.length_append, List.length_cons, List.length_nil] at *; omega)) rfl (fun c29 hd29 hb29 => ?_)
        refine WO.callV rfl (oLs_cons rfl (oLs_cons rfl oLs_nil)) rfl (ixB_spec _ _) SubR.nil rfl ?_
        refine WO.q (Q.assign rfl) rfl ?_
        refine WO.nil ?_
        refine End.K ?_
        refine W.sub (SubS.cons (k := 4) rfl (SubS.nil _)) ?_
        refine W.ret ?_
        refine End.KB_ret (End.K_ret (End.retV (ResL.tmp rfl ResL.nil) ?_))
        (rw [hd29]; rfl)
      · exact absurd rfl hc24
end Go.Proofs.YtdpcpnhkkedfcaaDoor.Ev
