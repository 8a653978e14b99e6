/- errors.As at a chain of two: the walk. -/
import Derived.Test.YtfkbfnpjggkdmaaGreatDoorNAs21
namespace Go.Proofs.YtfkbfnpjggkdmaaGreatDoor
open Go.RowKit Go.Extern.Stop Go.Stop Go.Extern
set_option maxHeartbeats 4000000 in
theorem as_hit (pb : Nat) (e t : Addr) (old : Value) (w : World) (hp : w.cell? ⟨pb, 0, none⟩ = some (.iface 120 (.pointer (some e)))) (hg : w.cell? ⟨0, 0, none⟩ = some (.iface 195 (.agg #[.pointer (some ⟨4, 122, none⟩)]))) (ht0 : w.cell? t = some old) (hf0 : w.frozen? t = false) :
    Calls Tryz.prog 52 #[.iface 209 (.pointer (some ⟨pb, 0, none⟩)), .iface 125 (.pointer (some t))] w fun ev w' => ev = .returned (.bool true) ∧ w' = ((((w.alloc (.cells #[.pointer (some t)] 125)).alloc (.cells #[.pointer (some ⟨4, 125, none⟩), .pointer (some ⟨w.heap.size, 0, none⟩), .int .u64 150] 160)).alloc (.cells #[.pointer (some ⟨4, 125, none⟩), .pointer (some ⟨w.heap.size, 0, none⟩), .int .u64 150] 160)).alloc (.cells #[.pointer (some e)] 120)).setCell t (.pointer (some e)) := by
  have h6 := @run_callFunc_extern Tryz.prog 82 _ (fun args => ReflectliteValue.unpack (args.getD 0 (.tuple #[]))) Tryz.func82 (by kernel_rfl) (by kernel_rfl) (by kernel_rfl) (by kernel_rfl)
  have h7 := @run_callFunc_extern Tryz.prog 83 _ (ReflectliteValue.methodAny (ReflectliteValue.valueError "reflectlite.Value.Type" 0) (fun t _ _ _ => ReflectliteType.toType t)) Tryz.func83 (by kernel_rfl) (by kernel_rfl) (by kernel_rfl) (by kernel_rfl)
  have h8 := @run_callFunc_extern Tryz.prog 84 _ (ReflectliteValue.method (ReflectliteValue.valueError "reflectlite.Value.IsNil" 0) ReflectliteValue.isNil) Tryz.func84 (by kernel_rfl) (by kernel_rfl) (by kernel_rfl) (by kernel_rfl)
  have h27 := @run_callFunc_extern Tryz.prog 312 _ (ReflectliteType.abiMethod fun t => do pure (.int .u8 (← Rtype.kind t))) Tryz.func312 (by kernel_rfl) (by kernel_rfl) (by kernel_rfl) (by kernel_rfl)
  have h37 := @run_callFunc_extern Tryz.prog 322 _ (ReflectliteType.method ReflectliteType.elem) Tryz.func322 (by kernel_rfl) (by kernel_rfl) (by kernel_rfl) (by kernel_rfl)
  have h38 := @run_callFunc_extern Tryz.prog 323 _ (ReflectliteType.relation "Implements" ReflectliteType.implements_) Tryz.func323 (by kernel_rfl) (by kernel_rfl) (by kernel_rfl) (by kernel_rfl)
  have h10 := @run_callFunc_extern Tryz.prog 110 _ ReflectliteType.typeOf Tryz.func110 (by kernel_rfl) (by kernel_rfl) (by kernel_rfl) (by kernel_rfl)
  have h35 := @run_callFunc_extern Tryz.prog 320 _ (ReflectliteType.relation "AssignableTo" ReflectliteType.assignableTo) Tryz.func320 (by kernel_rfl) (by kernel_rfl) (by kernel_rfl) (by kernel_rfl)
  have h11 := @run_callFunc_extern Tryz.prog 111 _ (ReflectliteValue.method (ReflectliteValue.valueError "reflectlite.Value.Elem" 0) ReflectliteValue.elem) Tryz.func111 (by kernel_rfl) (by kernel_rfl) (by kernel_rfl) (by kernel_rfl)
  have h12 := @run_callFunc_extern Tryz.prog 112 _ ReflectliteValue.set Tryz.func112 (by kernel_rfl) (by kernel_rfl) (by kernel_rfl) (by kernel_rfl)
  have tO := Xas.typeOf25
  have tO2 := Xas.typeOf209
  have a209 := Xas.assignable209
  have nA := Xas.noAs
  have hU := Xas.hasUnwrap
  have mU := Xas.methodUnwrap
  have mA := Xas.methodAssignableTo
  have a25 := Xas.assignable25
  have v25 := Xas.valueOf25
  have f6 := Xas.valueOf27
  have f7 := Xas.type27
  have mK := Xas.methodKind
  have mE := Xas.methodElem
  have mI := Xas.methodImplements
  have k27 := Xas.kind27
  have k25 := Xas.kind25
  have e27 := Xas.elem27
  have i25 := Xas.implements25
  have n8 := Xas.isNil27 ⟨w.heap.size, 0, none⟩ t ((w.alloc (.cells #[.pointer (some t)] 125)).alloc (.cells #[.pointer (some ⟨4, 125, none⟩), .pointer (some ⟨w.heap.size, 0, none⟩), .int .u64 150] 160)) (by simp)
  have hlt : 0 < w.heap.size := by
    rcases Nat.eq_zero_or_pos w.heap.size with h0 | h
    · simp [World.cell?, h0] at hg
    · exact h
  have hg2 : ((w.alloc (.cells #[.pointer (some t)] 125)).alloc (.cells #[.pointer (some ⟨4, 125, none⟩), .pointer (some ⟨w.heap.size, 0, none⟩), .int .u64 150] 160)).cell? ⟨0, 0, none⟩ = some (.iface 195 (.agg #[.pointer (some ⟨4, 122, none⟩)])) := by
    rw [World.cell?_alloc_lt _ _ ⟨0, 0, none⟩ (by simp), World.cell?_alloc_lt _ _ ⟨0, 0, none⟩ hlt]; exact hg
  have htl : t.block < w.heap.size := by
    rcases Nat.lt_or_ge t.block w.heap.size with h | h
    · exact h
    · simp [World.cell?, Array.getElem?_eq_none h] at ht0
  have el := Xas.elemV27 ⟨w.heap.size, 0, none⟩ t (((w.alloc (.cells #[.pointer (some t)] 125)).alloc (.cells #[.pointer (some ⟨4, 125, none⟩), .pointer (some ⟨w.heap.size, 0, none⟩), .int .u64 150] 160)).alloc (.cells #[.pointer (some ⟨4, 125, none⟩), .pointer (some ⟨w.heap.size, 0, none⟩), .int .u64 150] 160)) (by rw [World.cell?_alloc_lt _ _ ⟨w.heap.size, 0, none⟩ (by simp; omega)]; simp)
  have st := Xas.set25 t ⟨w.heap.size + 1 + 1 + 1, 0, none⟩ e old ((((w.alloc (.cells #[.pointer (some t)] 125)).alloc (.cells #[.pointer (some ⟨4, 125, none⟩), .pointer (some ⟨w.heap.size, 0, none⟩), .int .u64 150] 160)).alloc (.cells #[.pointer (some ⟨4, 125, none⟩), .pointer (some ⟨w.heap.size, 0, none⟩), .int .u64 150] 160)).alloc (.cells #[.pointer (some e)] 120))
    (by rw [World.cell?_alloc_at _ _ _ _ (by simp)]; rfl)
    (by rw [World.cell?_alloc_lt _ _ t (by simp; omega), World.cell?_alloc_lt _ _ t (by simp; omega), World.cell?_alloc_lt _ _ t (by simp; omega), World.cell?_alloc_lt _ _ t htl]; exact ht0)
    (by rw [World.frozen?_alloc_old _ _ t (by simp; omega), World.frozen?_alloc_old _ _ t (by simp; omega), World.frozen?_alloc_old _ _ t (by simp; omega), World.frozen?_alloc_old _ _ t (Nat.ne_of_lt htl)]; exact hf0)
  have hpl : pb < w.heap.size := by
    rcases Nat.lt_or_ge pb w.heap.size with h | h
    · exact h
    · simp [World.cell?, Array.getElem?_eq_none h] at hp
  have hp3 : (((w.alloc (.cells #[.pointer (some t)] 125)).alloc (.cells #[.pointer (some ⟨4, 125, none⟩), .pointer (some ⟨w.heap.size, 0, none⟩), .int .u64 150] 160)).alloc (.cells #[.pointer (some ⟨4, 125, none⟩), .pointer (some ⟨w.heap.size, 0, none⟩), .int .u64 150] 160)).cell? ⟨pb, 0, none⟩ = some (.iface 120 (.pointer (some e))) := by
    rw [World.cell?_alloc_lt _ _ ⟨pb, 0, none⟩ (by simp; omega), World.cell?_alloc_lt _ _ ⟨pb, 0, none⟩ (by simp; omega), World.cell?_alloc_lt _ _ ⟨pb, 0, none⟩ hpl]; exact hp
  go_enter Tryz.func52, Tryz.ntmps52
  go_wp2
  refine wp_loop_rounds 2 ?_
  rw [rounds_succ]
  go_wp2
  rw [rounds_succ]
  go_wp2
  go_ret
  exact ⟨rfl, rfl⟩
end Go.Proofs.YtfkbfnpjggkdmaaGreatDoor
