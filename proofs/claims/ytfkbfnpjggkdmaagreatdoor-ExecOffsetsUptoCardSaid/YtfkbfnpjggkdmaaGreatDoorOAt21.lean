/- errors.As at the chain that exec.must throws (*within, and *trouble in it), at the target of exec.whole. -/
import Derived.Test.YtfkbfnpjggkdmaaGreatDoorProg
import Derived.WalkKit
import Derived.LaidEql
import Derived.Stop.Asserts
import Derived.RowKitTokens
namespace Go.Proofs.YtfkbfnpjggkdmaaGreatDoor
open Go.RowKit Go.Extern.Stop Go.Stop Go.Extern
theorem Xas.valueOf27 (t : Addr) (w : World) : (ReflectliteValue.unpack (.iface 125 (.pointer (some t)))).run Tryz.prog w
  = .ok (.agg #[.pointer (some ⟨4, 125, none⟩), .pointer (some ⟨w.heap.size, 0, none⟩), .int .u64 150]) (w.alloc (.cells #[.pointer (some t)] 125)) := by kernel_rfl
theorem Xas.type27 (a : Addr) (w : World) : (ReflectliteValue.methodAny (ReflectliteValue.valueError "reflectlite.Value.Type" 0) (fun t _ _ _ => ReflectliteType.toType t) #[.agg #[.pointer (some ⟨4, 125, none⟩), .pointer (some a), .int .u64 150]]).run Tryz.prog w
  = .ok (.iface 195 (.agg #[.pointer (some ⟨4, 125, none⟩)])) w := by kernel_rfl
theorem Xas.methodKind (h : Value) (w : World) : (Go.method 489 195 (.agg #[h]) "Kind").run Tryz.prog w = .ok (312, h) w := by kernel_rfl
theorem Xas.kind27 (w : World) : ((ReflectliteType.abiMethod fun t => (fun a : Nat => Value.int IntKind.u8 (a : Int)) <$> Rtype.kind t) #[.pointer (some ⟨4, 125, none⟩)]).run Tryz.prog w = .ok (.int .u8 22) w := by kernel_rfl
theorem Xas.kind25 (w : World) : ((ReflectliteType.abiMethod fun t => (fun a : Nat => Value.int IntKind.u8 (a : Int)) <$> Rtype.kind t) #[.pointer (some ⟨4, 120, none⟩)]).run Tryz.prog w = .ok (.int .u8 22) w := by kernel_rfl

theorem rlmX (z : Sem Value) (f : TypeId → Addr → Nat → Nat → Sem Value) (v : Value) :
  ReflectliteValue.method z f #[v] = (do match ← ReflectliteValue.parts v with | none => z | some (t, a, fl) => f t a fl (fl % 32)) := rfl
theorem Xas.parts27 (a : Addr) (w : World) : (ReflectliteValue.parts (.agg #[.pointer (some ⟨4, 125, none⟩), .pointer (some a), .int .u64 150])).run Tryz.prog w = .ok (some (125, a, 150)) w := by kernel_rfl
theorem Xas.isNil27 (a p : Addr) (W : World) (ha : W.cell? a = some (.pointer (some p))) :
  (ReflectliteValue.method (ReflectliteValue.valueError "reflectlite.Value.IsNil" 0) ReflectliteValue.isNil #[.agg #[.pointer (some ⟨4, 125, none⟩), .pointer (some a), .int .u64 150]]).run Tryz.prog W = .ok (.bool false) W := by
 rw [rlmX]
 simp only [Sem.run_bind, Xas.parts27, Result.andThen]
 simp [ReflectliteValue.isNil, loadVar, isAgg, underlying, Tryz.underlying125, ha, Result.andThen]

theorem Xas.methodElem (h : Value) (w : World) : (Go.method 489 195 (.agg #[h]) "Elem").run Tryz.prog w = .ok (322, .agg #[h]) w := by kernel_rfl
theorem Xas.methodImplements (h : Value) (w : World) : (Go.method 489 195 (.agg #[h]) "Implements").run Tryz.prog w = .ok (323, .agg #[h]) w := by kernel_rfl
theorem Xas.methodAssignableTo (h : Value) (w : World) : (Go.method 489 195 (.agg #[h]) "AssignableTo").run Tryz.prog w = .ok (320, .agg #[h]) w := by kernel_rfl
theorem Xas.elem27 (w : World) : (ReflectliteType.method ReflectliteType.elem #[.agg #[.pointer (some ⟨4, 125, none⟩)]]).run Tryz.prog w = .ok (.iface 195 (.agg #[.pointer (some ⟨4, 120, none⟩)])) w := by kernel_rfl
theorem Xas.implements25 (w : World) : (ReflectliteType.relation "Implements" ReflectliteType.implements_ #[.agg #[.pointer (some ⟨4, 120, none⟩)], .iface 195 (.agg #[.pointer (some ⟨4, 122, none⟩)])]).run Tryz.prog w = .ok (.bool true) w := by kernel_rfl
theorem Xas.typeOf25 (v : Value) (w : World) : (ReflectliteType.typeOf #[.iface 120 v]).run Tryz.prog w = .ok (.iface 195 (.agg #[.pointer (some ⟨4, 120, none⟩)])) w := by kernel_rfl
theorem Xas.assignable25 (w : World) : (ReflectliteType.relation "AssignableTo" ReflectliteType.assignableTo #[.agg #[.pointer (some ⟨4, 120, none⟩)], .iface 195 (.agg #[.pointer (some ⟨4, 120, none⟩)])]).run Tryz.prog w = .ok (.bool true) w := by kernel_rfl
theorem Xas.valueOf25 (e : Addr) (w : World) : (ReflectliteValue.unpack (.iface 120 (.pointer (some e)))).run Tryz.prog w
  = .ok (.agg #[.pointer (some ⟨4, 120, none⟩), .pointer (some ⟨w.heap.size, 0, none⟩), .int .u64 150]) (w.alloc (.cells #[.pointer (some e)] 120)) := by kernel_rfl

theorem Xas.elemOf27 (w : World) : (Rtype.elem? 125).run Tryz.prog w = .ok (some 120) w := by kernel_rfl
theorem Xas.mk25 (p : Addr) (w : World) : (ReflectliteValue.mk 120 p ReflectliteValue.flagAddr).run Tryz.prog w = .ok (.agg #[.pointer (some ⟨4, 120, none⟩), .pointer (some p), .int .u64 406]) w := by kernel_rfl
theorem Xas.elemV27 (a p : Addr) (W : World) (ha : W.cell? a = some (.pointer (some p))) :
  (ReflectliteValue.method (ReflectliteValue.valueError "reflectlite.Value.Elem" 0) ReflectliteValue.elem #[.agg #[.pointer (some ⟨4, 125, none⟩), .pointer (some a), .int .u64 150]]).run Tryz.prog W
   = .ok (.agg #[.pointer (some ⟨4, 120, none⟩), .pointer (some p), .int .u64 406]) W := by
 rw [rlmX]
 simp only [Sem.run_bind, Xas.parts27, Result.andThen]
 simp [ReflectliteValue.elem, loadVar, isAgg, underlying, Tryz.underlying125, ha, Result.andThen, Xas.elemOf27, Xas.mk25]
theorem rlsX (v x : Value) : ReflectliteValue.set #[v, x] = (do
  let (some (dst, a, fl), some (src, b, _)) := (← ReflectliteValue.parts v, ← ReflectliteValue.parts x)
   | unsupported (.noEntry "extern/(internal/reflectlite.Value).Set.zeroValue")
  if fl / ReflectliteValue.flagAddr % 2 == 0 then unsupported (.noEntry "extern/(internal/reflectlite.Value).Set.unaddressable")
  let val ← loadVar src b
  if ← Rtype.directlyAssignable dst src then storeVar dst a val
  else if ← Rtype.implements dst src then
   if (← Rtype.kind src) == 20 then
    match val with
    | .nilIface => unsupported (.noEntry "extern/reflectlite: a nil value of one interface type handed on as a value of another")
    | _ => storeVar dst a val
   else storeVar dst a (.iface src val)
  else panicString ("reflectlite.Set: value of type " ++ (← Rtype.spelt src) ++ " is not assignable to type " ++ (← Rtype.spelt dst))
  pure (.tuple #[])) := rfl
theorem Xas.parts25a (a : Addr) (w : World) : (ReflectliteValue.parts (.agg #[.pointer (some ⟨4, 120, none⟩), .pointer (some a), .int .u64 406])).run Tryz.prog w = .ok (some (120, a, 406)) w := by kernel_rfl
theorem Xas.parts25 (a : Addr) (w : World) : (ReflectliteValue.parts (.agg #[.pointer (some ⟨4, 120, none⟩), .pointer (some a), .int .u64 150])).run Tryz.prog w = .ok (some (120, a, 150)) w := by kernel_rfl
theorem Xas.direct25 (w : World) : (Rtype.directlyAssignable 120 120).run Tryz.prog w = .ok true w := by kernel_rfl
theorem Xas.set25 (ta b e : Addr) (old : Value) (W : World) (hb : W.cell? b = some (.pointer (some e))) (ht : W.cell? ta = some old) (hf : W.frozen? ta = false) :
  (ReflectliteValue.set #[.agg #[.pointer (some ⟨4, 120, none⟩), .pointer (some ta), .int .u64 406], .agg #[.pointer (some ⟨4, 120, none⟩), .pointer (some b), .int .u64 150]]).run Tryz.prog W
   = .ok (.tuple #[]) (W.setCell ta (.pointer (some e))) := by
 rw [rlsX]
 simp only [Sem.run_bind, Xas.parts25a, Xas.parts25, Result.andThen]
 simp [ReflectliteValue.flagAddr, loadVar, isAgg, underlying, Tryz.underlying120, hb, Result.andThen, Xas.direct25, storeVar, Value.cells, storeCells, Addr.add]
 rw [run_store Tryz.prog W ta _ _ (by rfl)]
 simp [ht, hf]
theorem Xas.typeOf209 (v : Value) (w : World) : (ReflectliteType.typeOf #[.iface 209 v]).run Tryz.prog w = .ok (.iface 195 (.agg #[.pointer (some ⟨4, 209, none⟩)])) w := by kernel_rfl
theorem Xas.assignable209 (w : World) : (ReflectliteType.relation "AssignableTo" ReflectliteType.assignableTo #[.agg #[.pointer (some ⟨4, 209, none⟩)], .iface 195 (.agg #[.pointer (some ⟨4, 120, none⟩)])]).run Tryz.prog w = .ok (.bool false) w := by kernel_rfl
theorem Xas.noAs (v : Value) (xT : TypeId) (w : World) : (Instr.typeAssert (.iface 209 v) xT 200 true).run Tryz.prog w = .ok (.tuple #[.nilIface, .bool false]) w := run_typeAssert_lacksB Tryz.underlying200 (by kernel_rfl) (by kernel_rfl) v xT w
theorem Xas.hasUnwrap (v : Value) (xT : TypeId) (w : World) : (Instr.typeAssert (.iface 209 v) xT 203 true).run Tryz.prog w = .ok (.tuple #[.iface 209 v, .bool true]) w := run_typeAssert_hasB Tryz.underlying203 (by kernel_rfl) v xT w
theorem Xas.methodUnwrap (v : Value) (w : World) : (Go.method 489 209 v "Unwrap").run Tryz.prog w = .ok (331, v) w := by kernel_rfl
theorem zy {p : Prop} (h : p := by omega) : p := h
set_option maxHeartbeats 4000000 in
theorem as_hit (pb : Nat) (e t : Addr) (old : Value) (w : World) (hp : w.cell? ⟨pb, 0, none⟩ = some (.iface 120 (.pointer (some e)))) (hg : w.cell? ⟨0, 0, none⟩ = some (.iface 195 (.agg #[.pointer (some ⟨4, 122, none⟩)]))) (ht0 : w.cell? t = some old) (hf0 : w.frozen? t = false) :
  Calls Tryz.prog 52 #[.iface 209 (.pointer (some ⟨pb, 0, none⟩)), .iface 125 (.pointer (some t))] w fun ev w' => ev = .returned (.bool true) ∧ w' = ((((w.alloc (.cells #[.pointer (some t)] 125)).alloc (.cells #[.pointer (some ⟨4, 125, none⟩), .pointer (some ⟨w.heap.size, 0, none⟩), .int .u64 150] 160)).alloc (.cells #[.pointer (some ⟨4, 125, none⟩), .pointer (some ⟨w.heap.size, 0, none⟩), .int .u64 150] 160)).alloc (.cells #[.pointer (some e)] 120)).setCell t (.pointer (some e)) := by
 have h6 := @run_callFunc_extern Tryz.prog 82 _ (fun args => ReflectliteValue.unpack (args.getD 0 (.tuple #[]))) Tryz.func82 (by kernel_rfl) (by kernel_rfl) (by kernel_rfl) (by kernel_rfl)
 have h7 := @run_callFunc_extern Tryz.prog 83 _ (ReflectliteValue.methodAny (ReflectliteValue.valueError "reflectlite.Value.Type" 0) (fun t _ _ _ => ReflectliteType.toType t)) Tryz.func83 (by kernel_rfl) (by kernel_rfl) (by kernel_rfl) (by kernel_rfl)
 have h8 := @run_callFunc_extern Tryz.prog 84 _ (ReflectliteValue.method (ReflectliteValue.valueError "reflectlite.Value.IsNil" 0) ReflectliteValue.isNil) Tryz.func84 (by kernel_rfl) (by kernel_rfl) (by kernel_rfl) (by kernel_rfl)
 have h27 := @run_callFunc_extern Tryz.prog 312 _ (ReflectliteType.abiMethod fun t => do pure (.int .u8 (← Rtype.kind t))) Tryz.func312 (by kernel_rfl) (by kernel_rfl) (by kernel_rfl) (by kernel_rfl)
 have h37 := @run_callFunc_extern Tryz.prog 322 _ (ReflectliteType.method ReflectliteType.elem) Tryz.func322 (by kernel_rfl) (by kernel_rfl) (by kernel_rfl) (by kernel_rfl)
 have h38 := @run_callFunc_extern Tryz.prog 323 _ (ReflectliteType.relation "Implements" ReflectliteType.implements_) Tryz.func323 (by kernel_rfl) (by kernel_rfl) (by kernel_rfl) (by kernel_rfl)
 have h10 := @run_callFunc_extern Tryz.prog 110 _ ReflectliteType.typeOf Tryz.func110 (by kernel_rfl) (by kernel_rfl) (by kernel_rfl) (by kernel_rfl)
 have h35 := @run_callFunc_extern Tryz.prog 320 _ (ReflectliteType.relation "AssignableTo" ReflectliteType.assignableTo) Tryz.func320 (by kernel_rfl) (by kernel_rfl) (by kernel_rfl) (by kernel_rfl)
 have h11 := @run_callFunc_extern Tryz.prog 111 _ (ReflectliteValue.method (ReflectliteValue.valueError "reflectlite.Value.Elem" 0) ReflectliteValue.elem) Tryz.func111 (by kernel_rfl) (by kernel_rfl) (by kernel_rfl) (by kernel_rfl)
 have h12 := @run_callFunc_extern Tryz.prog 112 _ ReflectliteValue.set Tryz.func112 (by kernel_rfl) (by kernel_rfl) (by kernel_rfl) (by kernel_rfl)
 have tO := Xas.typeOf25
 have tO2 := Xas.typeOf209
 have a209 := Xas.assignable209
 have nA := Xas.noAs
 have hU := Xas.hasUnwrap
 have mU := Xas.methodUnwrap
 have mA := Xas.methodAssignableTo
 have a25 := Xas.assignable25
 have v25 := Xas.valueOf25
 have f6 := Xas.valueOf27
 have f7 := Xas.type27
 have mK := Xas.methodKind
 have mE := Xas.methodElem
 have mI := Xas.methodImplements
 have k27 := Xas.kind27
 have k25 := Xas.kind25
 have e27 := Xas.elem27
 have i25 := Xas.implements25
 have n8 := Xas.isNil27 ⟨w.heap.size, 0, none⟩ t ((w.alloc (.cells #[.pointer (some t)] 125)).alloc (.cells #[.pointer (some ⟨4, 125, none⟩), .pointer (some ⟨w.heap.size, 0, none⟩), .int .u64 150] 160)) (by simp)
 have hlt : 0 < w.heap.size := by
  rcases Nat.eq_zero_or_pos w.heap.size with h0 | h
  ·simp [World.cell?, h0] at hg
  ·exact h
 have hg2 : ((w.alloc (.cells #[.pointer (some t)] 125)).alloc (.cells #[.pointer (some ⟨4, 125, none⟩), .pointer (some ⟨w.heap.size, 0, none⟩), .int .u64 150] 160)).cell? ⟨0, 0, none⟩ = some (.iface 195 (.agg #[.pointer (some ⟨4, 122, none⟩)])) := by
  rw [World.cell?_alloc_lt _ _ ⟨0, 0, none⟩ (by simp), World.cell?_alloc_lt _ _ ⟨0, 0, none⟩ hlt]; exact hg
 have htl : t.block < w.heap.size := by
  rcases Nat.lt_or_ge t.block w.heap.size with h | h
  ·exact h
  ·simp [World.cell?, Array.getElem?_eq_none h] at ht0
 have el := Xas.elemV27 ⟨w.heap.size, 0, none⟩ t (((w.alloc (.cells #[.pointer (some t)] 125)).alloc (.cells #[.pointer (some ⟨4, 125, none⟩), .pointer (some ⟨w.heap.size, 0, none⟩), .int .u64 150] 160)).alloc (.cells #[.pointer (some ⟨4, 125, none⟩), .pointer (some ⟨w.heap.size, 0, none⟩), .int .u64 150] 160)) (by rw [World.cell?_alloc_lt _ _ ⟨w.heap.size, 0, none⟩ (by simp; omega)]; simp)
 have st := Xas.set25 t ⟨w.heap.size + 1 + 1 + 1, 0, none⟩ e old ((((w.alloc (.cells #[.pointer (some t)] 125)).alloc (.cells #[.pointer (some ⟨4, 125, none⟩), .pointer (some ⟨w.heap.size, 0, none⟩), .int .u64 150] 160)).alloc (.cells #[.pointer (some ⟨4, 125, none⟩), .pointer (some ⟨w.heap.size, 0, none⟩), .int .u64 150] 160)).alloc (.cells #[.pointer (some e)] 120))
  (by rw [World.cell?_alloc_at _ _ _ _ (by simp)]; rfl)
  (by rw [World.cell?_alloc_lt _ _ t (by simp; omega), World.cell?_alloc_lt _ _ t (by simp; omega), World.cell?_alloc_lt _ _ t (by simp; omega), World.cell?_alloc_lt _ _ t htl]; exact ht0)
  (by rw [World.frozen?_alloc_old _ _ t (by simp; omega), World.frozen?_alloc_old _ _ t (by simp; omega), World.frozen?_alloc_old _ _ t (by simp; omega), World.frozen?_alloc_old _ _ t (Nat.ne_of_lt htl)]; exact hf0)
 have hpl : pb < w.heap.size := by
  rcases Nat.lt_or_ge pb w.heap.size with h | h
  ·exact h
  ·simp [World.cell?, Array.getElem?_eq_none h] at hp
 have hp3 : (((w.alloc (.cells #[.pointer (some t)] 125)).alloc (.cells #[.pointer (some ⟨4, 125, none⟩), .pointer (some ⟨w.heap.size, 0, none⟩), .int .u64 150] 160)).alloc (.cells #[.pointer (some ⟨4, 125, none⟩), .pointer (some ⟨w.heap.size, 0, none⟩), .int .u64 150] 160)).cell? ⟨pb, 0, none⟩ = some (.iface 120 (.pointer (some e))) := by
  rw [World.cell?_alloc_lt _ _ ⟨pb, 0, none⟩ (by simp; omega), World.cell?_alloc_lt _ _ ⟨pb, 0, none⟩ (by simp; omega), World.cell?_alloc_lt _ _ ⟨pb, 0, none⟩ hpl]; exact hp
 go_enter Tryz.func52, Tryz.ntmps52
 go_wp2
 refine wp_loop_rounds 2 ?_
 rw [rounds_succ]
 go_wp2
 rw [rounds_succ]
 go_wp2
 go_ret
 exact ⟨rfl, rfl⟩
end Go.Proofs.YtfkbfnpjggkdmaaGreatDoor
