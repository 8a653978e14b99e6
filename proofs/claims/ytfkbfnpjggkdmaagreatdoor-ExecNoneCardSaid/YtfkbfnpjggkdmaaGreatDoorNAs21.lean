/- errors.As at the chain that exec.must throws (*within, and *trouble in it), at the target of exec.whole. -/
import Derived.Test.YtfkbfnpjggkdmaaGreatDoorProg
import Derived.WalkKit
import Derived.LaidEql
import Derived.Stop.Asserts
import Derived.RowKitTokens
namespace Go.Proofs.YtfkbfnpjggkdmaaGreatDoor
open Go.RowKit Go.Extern.Stop Go.Stop Go.Extern
theorem Xas.valueOf27 (t : Addr) (w : World) : (ReflectliteValue.unpack (.iface 125 (.pointer (some t)))).run Tryz.prog w
    = .ok (.agg #[.pointer (some ⟨4, 125, none⟩), .pointer (some ⟨w.heap.size, 0, none⟩), .int .u64 150]) (w.alloc (.cells #[.pointer (some t)] 125)) := by kernel_rfl
theorem Xas.type27 (a : Addr) (w : World) : (ReflectliteValue.methodAny (ReflectliteValue.valueError "reflectlite.Value.Type" 0) (fun t _ _ _ => ReflectliteType.toType t) #[.agg #[.pointer (some ⟨4, 125, none⟩), .pointer (some a), .int .u64 150]]).run Tryz.prog w
    = .ok (.iface 195 (.agg #[.pointer (some ⟨4, 125, none⟩)])) w := by kernel_rfl
theorem Xas.methodKind (h : Value) (w : World) : (Go.method 489 195 (.agg #[h]) "Kind").run Tryz.prog w = .ok (312, h) w := by kernel_rfl
theorem Xas.kind27 (w : World) : ((ReflectliteType.abiMethod fun t => (fun a : Nat => Value.int IntKind.u8 (a : Int)) <$> Rtype.kind t) #[.pointer (some ⟨4, 125, none⟩)]).run Tryz.prog w = .ok (.int .u8 22) w := by kernel_rfl
theorem Xas.kind25 (w : World) : ((ReflectliteType.abiMethod fun t => (fun a : Nat => Value.int IntKind.u8 (a : Int)) <$> Rtype.kind t) #[.pointer (some ⟨4, 120, none⟩)]).run Tryz.prog w = .ok (.int .u8 22) w := by kernel_rfl

theorem rlmX (z : Sem Value) (f : TypeId → Addr → Nat → Nat → Sem Value) (v : Value) :
    ReflectliteValue.method z f #[v] = (do match ← ReflectliteValue.parts v with | none => z | some (t, a, fl) => f t a fl (fl % 32)) := rfl
theorem Xas.parts27 (a : Addr) (w : World) : (ReflectliteValue.parts (.agg #[.pointer (some ⟨4, 125, none⟩), .pointer (some a), .int .u64 150])).run Tryz.prog w = .ok (some (125, a, 150)) w := by kernel_rfl
/-- (Value).IsNil at the Value of a **p.E that is not nil. -/
theorem Xas.isNil27 (a p : Addr) (W : World) (ha : W.cell? a = some (.pointer (some p))) :
    (ReflectliteValue.method (ReflectliteValue.valueError "reflectlite.Value.IsNil" 0) ReflectliteValue.isNil #[.agg #[.pointer (some ⟨4, 125, none⟩), .pointer (some a), .int .u64 150]]).run Tryz.prog W = .ok (.bool false) W := by
  rw [rlmX]
  simp only [Sem.run_bind, Xas.parts27, Result.andThen]
  simp [ReflectliteValue.isNil, loadVar, isAgg, underlying, Tryz.underlying125, ha, Result.andThen]

theorem Xas.methodElem (h : Value) (w : World) : (Go.method 489 195 (.agg #[h]) "Elem").run Tryz.prog w = .ok (322, .agg #[h]) w := by kernel_rfl
theorem Xas.methodImplements (h : Value) (w : World) : (Go.method 489 195 (.agg #[h]) "Implements").run Tryz.prog w = .ok (323, .agg #[h]) w := by kernel_rfl
theorem Xas.methodAssignableTo (h : Value) (w : World) : (Go.method 489 195 (.agg #[h]) "AssignableTo").run Tryz.prog w = .ok (320, .agg #[h]) w := by kernel_rfl
theorem Xas.elem27 (w : World) : (ReflectliteType.method ReflectliteType.elem #[.agg #[.pointer (some ⟨4, 125, none⟩)]]).run Tryz.prog w = .ok (.iface 195 (.agg #[.pointer (some ⟨4, 120, none⟩)])) w := by kernel_rfl
theorem Xas.implements25 (w : World) : (ReflectliteType.relation "Implements" ReflectliteType.implements_ #[.agg #[.pointer (some ⟨4, 120, none⟩)], .iface 195 (.agg #[.pointer (some ⟨4, 122, none⟩)])]).run Tryz.prog w = .ok (.bool true) w := by kernel_rfl
theorem Xas.typeOf25 (v : Value) (w : World) : (ReflectliteType.typeOf #[.iface 120 v]).run Tryz.prog w = .ok (.iface 195 (.agg #[.pointer (some ⟨4, 120, none⟩)])) w := by kernel_rfl
theorem Xas.assignable25 (w : World) : (ReflectliteType.relation "AssignableTo" ReflectliteType.assignableTo #[.agg #[.pointer (some ⟨4, 120, none⟩)], .iface 195 (.agg #[.pointer (some ⟨4, 120, none⟩)])]).run Tryz.prog w = .ok (.bool true) w := by kernel_rfl
theorem Xas.valueOf25 (e : Addr) (w : World) : (ReflectliteValue.unpack (.iface 120 (.pointer (some e)))).run Tryz.prog w
    = .ok (.agg #[.pointer (some ⟨4, 120, none⟩), .pointer (some ⟨w.heap.size, 0, none⟩), .int .u64 150]) (w.alloc (.cells #[.pointer (some e)] 120)) := by kernel_rfl

theorem Xas.elemOf27 (w : World) : (Rtype.elem? 125).run Tryz.prog w = .ok (some 120) w := by kernel_rfl
theorem Xas.mk25 (p : Addr) (w : World) : (ReflectliteValue.mk 120 p ReflectliteValue.flagAddr).run Tryz.prog w = .ok (.agg #[.pointer (some ⟨4, 120, none⟩), .pointer (some p), .int .u64 406]) w := by kernel_rfl
/-- (Value).Elem at the Value of a **p.E that is not nil: the Value of the *p.E variable that it points to, addressable. -/
theorem Xas.elemV27 (a p : Addr) (W : World) (ha : W.cell? a = some (.pointer (some p))) :
    (ReflectliteValue.method (ReflectliteValue.valueError "reflectlite.Value.Elem" 0) ReflectliteValue.elem #[.agg #[.pointer (some ⟨4, 125, none⟩), .pointer (some a), .int .u64 150]]).run Tryz.prog W
      = .ok (.agg #[.pointer (some ⟨4, 120, none⟩), .pointer (some p), .int .u64 406]) W := by
  rw [rlmX]
  simp only [Sem.run_bind, Xas.parts27, Result.andThen]
  simp [ReflectliteValue.elem, loadVar, isAgg, underlying, Tryz.underlying125, ha, Result.andThen, Xas.elemOf27, Xas.mk25]
theorem rlsX (v x : Value) : ReflectliteValue.set #[v, x] = (do
    let (some (dst, a, fl), some (src, b, _)) := (← ReflectliteValue.parts v, ← ReflectliteValue.parts x)
      | unsupported (.noEntry "extern/(internal/reflectlite.Value).Set.zeroValue")
    if fl / ReflectliteValue.flagAddr % 2 == 0 then unsupported (.noEntry "extern/(internal/reflectlite.Value).Set.unaddressable")
    let val ← loadVar src b
    if ← Rtype.directlyAssignable dst src then storeVar dst a val
    else if ← Rtype.implements dst src then
      if (← Rtype.kind src) == 20 then
        match val with
        | .nilIface => unsupported (.noEntry "extern/reflectlite: a nil value of one interface type handed on as a value of another")
        | _ => storeVar dst a val
      else storeVar dst a (.iface src val)
    else panicString ("reflectlite.Set: value of type " ++ (← Rtype.spelt src) ++ " is not assignable to type " ++ (← Rtype.spelt dst))
    pure (.tuple #[])) := rfl
theorem Xas.parts25a (a : Addr) (w : World) : (ReflectliteValue.parts (.agg #[.pointer (some ⟨4, 120, none⟩), .pointer (some a), .int .u64 406])).run Tryz.prog w = .ok (some (120, a, 406)) w := by kernel_rfl
theorem Xas.parts25 (a : Addr) (w : World) : (ReflectliteValue.parts (.agg #[.pointer (some ⟨4, 120, none⟩), .pointer (some a), .int .u64 150])).run Tryz.prog w = .ok (some (120, a, 150)) w := by kernel_rfl
theorem Xas.direct25 (w : World) : (Rtype.directlyAssignable 120 120).run Tryz.prog w = .ok true w := by kernel_rfl
/-- (Value).Set: the *p.E variable at 'ta' gets what the Value's own variable 'b' holds. -/
theorem Xas.set25 (ta b e : Addr) (old : Value) (W : World) (hb : W.cell? b = some (.pointer (some e))) (ht : W.cell? ta = some old) (hf : W.frozen? ta = false) :
    (ReflectliteValue.set #[.agg #[.pointer (some ⟨4, 120, none⟩), .pointer (some ta), .int .u64 406], .agg #[.pointer (some ⟨4, 120, none⟩), .pointer (some b), .int .u64 150]]).run Tryz.prog W
      = .ok (.tuple #[]) (W.setCell ta (.pointer (some e))) := by
  rw [rlsX]
  simp only [Sem.run_bind, Xas.parts25a, Xas.parts25, Result.andThen]
  simp [ReflectliteValue.flagAddr, loadVar, isAgg, underlying, Tryz.underlying120, hb, Result.andThen, Xas.direct25, storeVar, Value.cells, storeCells, Addr.add]
  rw [run_store Tryz.prog W ta _ _ (by rfl)]
  simp [ht, hf]
theorem Xas.typeOf209 (v : Value) (w : World) : (ReflectliteType.typeOf #[.iface 209 v]).run Tryz.prog w = .ok (.iface 195 (.agg #[.pointer (some ⟨4, 209, none⟩)])) w := by kernel_rfl
theorem Xas.assignable209 (w : World) : (ReflectliteType.relation "AssignableTo" ReflectliteType.assignableTo #[.agg #[.pointer (some ⟨4, 209, none⟩)], .iface 195 (.agg #[.pointer (some ⟨4, 120, none⟩)])]).run Tryz.prog w = .ok (.bool false) w := by kernel_rfl
theorem Xas.noAs (v : Value) (xT : TypeId) (w : World) : (Instr.typeAssert (.iface 209 v) xT 200 true).run Tryz.prog w = .ok (.tuple #[.nilIface, .bool false]) w := run_typeAssert_lacksB Tryz.underlying200 (by kernel_rfl) (by kernel_rfl) v xT w
theorem Xas.hasUnwrap (v : Value) (xT : TypeId) (w : World) : (Instr.typeAssert (.iface 209 v) xT 203 true).run Tryz.prog w = .ok (.tuple #[.iface 209 v, .bool true]) w := run_typeAssert_hasB Tryz.underlying203 (by kernel_rfl) v xT w
theorem Xas.methodUnwrap (v : Value) (w : World) : (Go.method 489 209 v "Unwrap").run Tryz.prog w = .ok (331, v) w := by kernel_rfl
end Go.Proofs.YtfkbfnpjggkdmaaGreatDoor
