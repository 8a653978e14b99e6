/- Walks over the evaluator, part 4: small things. -/
import Derived.Test.YtdpcpnhkkedfcaaDoorAwC
namespace Go.Proofs.YtdpcpnhkkedfcaaDoor.Ev
open Go.RowKit
set_option linter.unusedVariables false
set_option linter.unusedSimpArgs false
noncomputable section
variable {tb : Tab} {n : Nat} {E : Env} {s : St} {hs : HSt} {R : T AV → AHeap → Prop} {ops rest : List Oper} {d : Nat} {ty : TypeId} {pos : String} {aft : Array Edge} {t : TypeId} {k : IntKind}
theorem oc {v : AV} {c : Value} (h : ofVal c = some v) : oL s (.const c) = some v := h
theorem wn8_sub {m j : Nat} (h : j ≤ m ∧ m ≤ 255) : IntKind.u8.wrap ((m : Int) - (j : Int)) = ((m - j : Nat) : Int) := by
  rw [wr8 (by omega)]; omega
theorem WO.indexB {ox oi : Operand} {l : List Nat} {m : Nat} (hb : Bytes l) (hu : tb.und t = some .string) (hx : oL s ox = some (.str l)) (hi : oL s oi = some (.int k ((m : Nat) : Int))) (hm : m < l.length) (hd : Nat.blt d n = true)
    (hk : ∀ c : Nat, c = l.getD m 0 → c < 256 → WO tb n ops rest E ((d, .int .u8 (c : Int)) :: s) hs R) : WO tb n ops (⟨some d, .index t ox oi, ty, pos, aft, none⟩ :: rest) E s hs R :=
  WO.q (Q.indexS hu hx hi hm) hd (hk _ rfl (hb.at m))
theorem i64_eq {a b : Nat} (h : a = b) : oneOf [AV.int .i64 (a : Int)] = AV.int .i64 (b : Int) := by rw [h]; rfl
theorem bool_eq {a b : Bool} (h : a = b) : oneOf [AV.bool a] = AV.bool b := by rw [h]; rfl
theorem oneOf2 {a b : AV} : oneOf [a, b] = .tuple [a, b] := rfl
end
end Go.Proofs.YtdpcpnhkkedfcaaDoor.Ev
