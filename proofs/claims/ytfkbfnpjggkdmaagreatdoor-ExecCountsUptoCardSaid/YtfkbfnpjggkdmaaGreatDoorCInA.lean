/- errors.As at the chain that exec.must throws (*within, and *trouble in it), at the target of exec.whole. -/
import Derived.Test.YtfkbfnpjggkdmaaGreatDoorProg
import Derived.WalkKit
import Derived.LaidEql
import Derived.Stop.Asserts
import Derived.RowKitTokens
import Derived.Test.YtfkbfnpjggkdmaaGreatDoorCFactsE
import Derived.WalkLawsBesides
import Derived.Tactics
import Derived.Tactics2
import Derived.Defers
import Derived.Recover
import Derived.Laws.Pointers
import Derived.Test.YtfkbfnpjggkdmaaGreatDoorCAwJ
import Derived.Test.YtfkbfnpjggkdmaaGreatDoorRows
import Derived.Deep.SlicePairs
import Derived.Deep.Strs
namespace Go.Proofs.YtfkbfnpjggkdmaaGreatDoor
open Go.RowKit Go.Extern.Stop Go.Stop Go.Extern
theorem pZ (t : Addr) (w : World) : (ReflectliteValue.unpack (.iface 125 (.pointer (some t)))).run Tryz.prog w
  = .ok (.agg #[.pointer (some ⟨4, 125, none⟩), .pointer (some ⟨w.heap.size, 0, none⟩), .int .u64 150]) (w.alloc (.cells #[.pointer (some t)] 125)) := by kernel_rfl
theorem uQ (a : Addr) (w : World) : (ReflectliteValue.methodAny (ReflectliteValue.valueError "reflectlite.Value.Type" 0) (fun t _ _ _ => ReflectliteType.toType t) #[.agg #[.pointer (some ⟨4, 125, none⟩), .pointer (some a), .int .u64 150]]).run Tryz.prog w
  = .ok (.iface 195 (.agg #[.pointer (some ⟨4, 125, none⟩)])) w := by kernel_rfl
theorem oA (h : Value) (w : World) : (Go.method 489 195 (.agg #[h]) "Kind").run Tryz.prog w = .ok (312, h) w := by kernel_rfl
theorem uP (w : World) : ((ReflectliteType.abiMethod fun t => (fun a : Nat => Value.int IntKind.u8 (a : Int)) <$> Rtype.kind t) #[.pointer (some ⟨4, 125, none⟩)]).run Tryz.prog w = .ok (.int .u8 22) w := by kernel_rfl
theorem uO (w : World) : ((ReflectliteType.abiMethod fun t => (fun a : Nat => Value.int IntKind.u8 (a : Int)) <$> Rtype.kind t) #[.pointer (some ⟨4, 120, none⟩)]).run Tryz.prog w = .ok (.int .u8 22) w := by kernel_rfl

theorem Jl (z : Sem Value) (f : TypeId -> Addr -> Nat -> Nat -> Sem Value) (v : Value) :
  ReflectliteValue.method z f #[v] = (do match <- ReflectliteValue.parts v with | none => z | some (t, a, fl) => f t a fl (fl % 32)) := rfl
theorem m7 (a : Addr) (w : World) : (ReflectliteValue.parts (.agg #[.pointer (some ⟨4, 125, none⟩), .pointer (some a), .int .u64 150])).run Tryz.prog w = .ok (some (125, a, 150)) w := by kernel_rfl
theorem s6 (a p : Addr) (W : World) (ha : W.cell? a = some (.pointer (some p))) :
  (ReflectliteValue.method (ReflectliteValue.valueError "reflectlite.Value.IsNil" 0) ReflectliteValue.isNil #[.agg #[.pointer (some ⟨4, 125, none⟩), .pointer (some a), .int .u64 150]]).run Tryz.prog W = .ok (.bool false) W := by
 rw [Jl]
 simp only [Sem.run_bind, m7, Result.andThen]
 simp [ReflectliteValue.isNil, loadVar, isAgg, underlying, Tryz.underlying125, ha, Result.andThen]

theorem ow (h : Value) (w : World) : (Go.method 489 195 (.agg #[h]) "Elem").run Tryz.prog w = .ok (322, .agg #[h]) w := by kernel_rfl
theorem jE (h : Value) (w : World) : (Go.method 489 195 (.agg #[h]) "Implements").run Tryz.prog w = .ok (323, .agg #[h]) w := by kernel_rfl
theorem ja (h : Value) (w : World) : (Go.method 489 195 (.agg #[h]) "AssignableTo").run Tryz.prog w = .ok (320, .agg #[h]) w := by kernel_rfl
theorem uN (w : World) : (ReflectliteType.method ReflectliteType.elem #[.agg #[.pointer (some ⟨4, 125, none⟩)]]).run Tryz.prog w = .ok (.iface 195 (.agg #[.pointer (some ⟨4, 120, none⟩)])) w := by kernel_rfl
theorem l6 (w : World) : (ReflectliteType.relation "Implements" ReflectliteType.implements_ #[.agg #[.pointer (some ⟨4, 120, none⟩)], .iface 195 (.agg #[.pointer (some ⟨4, 122, none⟩)])]).run Tryz.prog w = .ok (.bool true) w := by kernel_rfl
theorem rz (v : Value) (w : World) : (ReflectliteType.typeOf #[.iface 120 v]).run Tryz.prog w = .ok (.iface 195 (.agg #[.pointer (some ⟨4, 120, none⟩)])) w := by kernel_rfl
theorem l5 (w : World) : (ReflectliteType.relation "AssignableTo" ReflectliteType.assignableTo #[.agg #[.pointer (some ⟨4, 120, none⟩)], .iface 195 (.agg #[.pointer (some ⟨4, 120, none⟩)])]).run Tryz.prog w = .ok (.bool true) w := by kernel_rfl
theorem pY (e : Addr) (w : World) : (ReflectliteValue.unpack (.iface 120 (.pointer (some e)))).run Tryz.prog w
  = .ok (.agg #[.pointer (some ⟨4, 120, none⟩), .pointer (some ⟨w.heap.size, 0, none⟩), .int .u64 150]) (w.alloc (.cells #[.pointer (some e)] 120)) := by kernel_rfl

theorem rx (w : World) : (Rtype.elem? 125).run Tryz.prog w = .ok (some 120) w := by kernel_rfl
theorem Aw (p : Addr) (w : World) : (ReflectliteValue.mk 120 p ReflectliteValue.flagAddr).run Tryz.prog w = .ok (.agg #[.pointer (some ⟨4, 120, none⟩), .pointer (some p), .int .u64 406]) w := by kernel_rfl
theorem s4 (a p : Addr) (W : World) (ha : W.cell? a = some (.pointer (some p))) :
  (ReflectliteValue.method (ReflectliteValue.valueError "reflectlite.Value.Elem" 0) ReflectliteValue.elem #[.agg #[.pointer (some ⟨4, 125, none⟩), .pointer (some a), .int .u64 150]]).run Tryz.prog W
   = .ok (.agg #[.pointer (some ⟨4, 120, none⟩), .pointer (some p), .int .u64 406]) W := by
 rw [Jl]
 simp only [Sem.run_bind, m7, Result.andThen]
 simp [ReflectliteValue.elem, loadVar, isAgg, underlying, Tryz.underlying125, ha, Result.andThen, rx, Aw]
theorem Kb (v x : Value) : ReflectliteValue.set #[v, x] = (do
  let (some (dst, a, fl), some (src, b, _)) := (<- ReflectliteValue.parts v, <- ReflectliteValue.parts x)
   | unsupported (.noEntry "extern/(internal/reflectlite.Value).Set.zeroValue")
  if fl / ReflectliteValue.flagAddr % 2 == 0 then unsupported (.noEntry "extern/(internal/reflectlite.Value).Set.unaddressable")
  let val <- loadVar src b
  if <- Rtype.directlyAssignable dst src then storeVar dst a val
  else if <- Rtype.implements dst src then
   if (<- Rtype.kind src) == 20 then
    match val with
    | .nilIface => unsupported (.noEntry "extern/reflectlite: a nil value of one interface type handed on as a value of another")
    | _ => storeVar dst a val
   else storeVar dst a (.iface src val)
  else panicString ("reflectlite.Set: value of type " ++ (<- Rtype.spelt src) ++ " is not assignable to type " ++ (<- Rtype.spelt dst))
  pure (.tuple #[])) := rfl
theorem ry (a : Addr) (w : World) : (ReflectliteValue.parts (.agg #[.pointer (some ⟨4, 120, none⟩), .pointer (some a), .int .u64 406])).run Tryz.prog w = .ok (some (120, a, 406)) w := by kernel_rfl
theorem s7 (a : Addr) (w : World) : (ReflectliteValue.parts (.agg #[.pointer (some ⟨4, 120, none⟩), .pointer (some a), .int .u64 150])).run Tryz.prog w = .ok (some (120, a, 150)) w := by kernel_rfl
theorem rr (w : World) : (Rtype.directlyAssignable 120 120).run Tryz.prog w = .ok true w := by kernel_rfl
theorem yP (ta b e : Addr) (old : Value) (W : World) (hb : W.cell? b = some (.pointer (some e))) (ht : W.cell? ta = some old) (hf : W.frozen? ta = false) :
  (ReflectliteValue.set #[.agg #[.pointer (some ⟨4, 120, none⟩), .pointer (some ta), .int .u64 406], .agg #[.pointer (some ⟨4, 120, none⟩), .pointer (some b), .int .u64 150]]).run Tryz.prog W
   = .ok (.tuple #[]) (W.setCell ta (.pointer (some e))) := by
 rw [Kb]
 simp only [Sem.run_bind, ry, s7, Result.andThen]
 simp [ReflectliteValue.flagAddr, loadVar, isAgg, underlying, Tryz.underlying120, hb, Result.andThen, rr, storeVar, Value.cells, storeCells, Addr.add]
 rw [run_store Tryz.prog W ta _ _ (by rfl)]
 simp [ht, hf]
theorem pX (v : Value) (w : World) : (ReflectliteType.typeOf #[.iface 209 v]).run Tryz.prog w = .ok (.iface 195 (.agg #[.pointer (some ⟨4, 209, none⟩)])) w := by kernel_rfl
theorem li (w : World) : (ReflectliteType.relation "AssignableTo" ReflectliteType.assignableTo #[.agg #[.pointer (some ⟨4, 209, none⟩)], .iface 195 (.agg #[.pointer (some ⟨4, 120, none⟩)])]).run Tryz.prog w = .ok (.bool false) w := by kernel_rfl
theorem Ax (v : Value) (xT : TypeId) (w : World) : (Instr.typeAssert (.iface 209 v) xT 200 true).run Tryz.prog w = .ok (.tuple #[.nilIface, .bool false]) w := run_typeAssert_lacksB Tryz.underlying200 (by kernel_rfl) (by kernel_rfl) v xT w
theorem pW (v : Value) (xT : TypeId) (w : World) : (Instr.typeAssert (.iface 209 v) xT 203 true).run Tryz.prog w = .ok (.tuple #[.iface 209 v, .bool true]) w := run_typeAssert_hasB Tryz.underlying203 (by kernel_rfl) v xT w
theorem l7 (v : Value) (w : World) : (Go.method 489 209 v "Unwrap").run Tryz.prog w = .ok (331, v) w := by kernel_rfl
set_option maxHeartbeats 4000000 in
theorem FZ (pb : Nat) (e t : Addr) (old : Value) (w : World) (hp : w.cell? ⟨pb, 0, none⟩ = some (.iface 120 (.pointer (some e)))) (hg : w.cell? ⟨0, 0, none⟩ = some (.iface 195 (.agg #[.pointer (some ⟨4, 122, none⟩)]))) (ht0 : w.cell? t = some old) (hf0 : w.frozen? t = false) :
  Calls Tryz.prog 52 #[.iface 209 (.pointer (some ⟨pb, 0, none⟩)), .iface 125 (.pointer (some t))] w fun ev w' => ev = .returned (.bool true) /\ w' = ((((w.alloc (.cells #[.pointer (some t)] 125)).alloc (.cells #[.pointer (some ⟨4, 125, none⟩), .pointer (some ⟨w.heap.size, 0, none⟩), .int .u64 150] 160)).alloc (.cells #[.pointer (some ⟨4, 125, none⟩), .pointer (some ⟨w.heap.size, 0, none⟩), .int .u64 150] 160)).alloc (.cells #[.pointer (some e)] 120)).setCell t (.pointer (some e)) := by
 have h6 := @run_callFunc_extern Tryz.prog 82 _ (fun args => ReflectliteValue.unpack (args.getD 0 (.tuple #[]))) Tryz.func82 (by kernel_rfl) (by kernel_rfl) (by kernel_rfl) (by kernel_rfl)
 have h7 := @run_callFunc_extern Tryz.prog 83 _ (ReflectliteValue.methodAny (ReflectliteValue.valueError "reflectlite.Value.Type" 0) (fun t _ _ _ => ReflectliteType.toType t)) Tryz.func83 (by kernel_rfl) (by kernel_rfl) (by kernel_rfl) (by kernel_rfl)
 have h8 := @run_callFunc_extern Tryz.prog 84 _ (ReflectliteValue.method (ReflectliteValue.valueError "reflectlite.Value.IsNil" 0) ReflectliteValue.isNil) Tryz.func84 (by kernel_rfl) (by kernel_rfl) (by kernel_rfl) (by kernel_rfl)
 have h27 := @run_callFunc_extern Tryz.prog 312 _ (ReflectliteType.abiMethod fun t => do pure (.int .u8 (<- Rtype.kind t))) Tryz.func312 (by kernel_rfl) (by kernel_rfl) (by kernel_rfl) (by kernel_rfl)
 have h37 := @run_callFunc_extern Tryz.prog 322 _ (ReflectliteType.method ReflectliteType.elem) Tryz.func322 (by kernel_rfl) (by kernel_rfl) (by kernel_rfl) (by kernel_rfl)
 have h38 := @run_callFunc_extern Tryz.prog 323 _ (ReflectliteType.relation "Implements" ReflectliteType.implements_) Tryz.func323 (by kernel_rfl) (by kernel_rfl) (by kernel_rfl) (by kernel_rfl)
 have h10 := @run_callFunc_extern Tryz.prog 110 _ ReflectliteType.typeOf Tryz.func110 (by kernel_rfl) (by kernel_rfl) (by kernel_rfl) (by kernel_rfl)
 have h35 := @run_callFunc_extern Tryz.prog 320 _ (ReflectliteType.relation "AssignableTo" ReflectliteType.assignableTo) Tryz.func320 (by kernel_rfl) (by kernel_rfl) (by kernel_rfl) (by kernel_rfl)
 have h11 := @run_callFunc_extern Tryz.prog 111 _ (ReflectliteValue.method (ReflectliteValue.valueError "reflectlite.Value.Elem" 0) ReflectliteValue.elem) Tryz.func111 (by kernel_rfl) (by kernel_rfl) (by kernel_rfl) (by kernel_rfl)
 have h12 := @run_callFunc_extern Tryz.prog 112 _ ReflectliteValue.set Tryz.func112 (by kernel_rfl) (by kernel_rfl) (by kernel_rfl) (by kernel_rfl)
 have tO := rz
 have tO2 := pX
 have a209 := li
 have nA := Ax
 have hU := pW
 have mU := l7
 have mA := ja
 have a25 := l5
 have v25 := pY
 have f6 := pZ
 have f7 := uQ
 have mK := oA
 have mE := ow
 have mI := jE
 have k27 := uP
 have k25 := uO
 have e27 := uN
 have i25 := l6
 have n8 := s6 ⟨w.heap.size, 0, none⟩ t ((w.alloc (.cells #[.pointer (some t)] 125)).alloc (.cells #[.pointer (some ⟨4, 125, none⟩), .pointer (some ⟨w.heap.size, 0, none⟩), .int .u64 150] 160)) (by simp)
 have hlt : 0 < w.heap.size := by
  rcases Nat.eq_zero_or_pos w.heap.size with h0 | h
  ·simp [World.cell?, h0] at hg
  ·exact h
 have hg2 : ((w.alloc (.cells #[.pointer (some t)] 125)).alloc (.cells #[.pointer (some ⟨4, 125, none⟩), .pointer (some ⟨w.heap.size, 0, none⟩), .int .u64 150] 160)).cell? ⟨0, 0, none⟩ = some (.iface 195 (.agg #[.pointer (some ⟨4, 122, none⟩)])) := by
  rw [World.cell?_alloc_lt _ _ ⟨0, 0, none⟩ (by simp), World.cell?_alloc_lt _ _ ⟨0, 0, none⟩ hlt]; exact hg
 have htl : t.block < w.heap.size := by
  rcases Nat.lt_or_ge t.block w.heap.size with h | h
  ·exact h
  ·simp [World.cell?, Array.getElem?_eq_none h] at ht0
 have el := s4 ⟨w.heap.size, 0, none⟩ t (((w.alloc (.cells #[.pointer (some t)] 125)).alloc (.cells #[.pointer (some ⟨4, 125, none⟩), .pointer (some ⟨w.heap.size, 0, none⟩), .int .u64 150] 160)).alloc (.cells #[.pointer (some ⟨4, 125, none⟩), .pointer (some ⟨w.heap.size, 0, none⟩), .int .u64 150] 160)) (by rw [World.cell?_alloc_lt _ _ ⟨w.heap.size, 0, none⟩ (by simp; omega)]; simp)
 have st := yP t ⟨w.heap.size + 1 + 1 + 1, 0, none⟩ e old ((((w.alloc (.cells #[.pointer (some t)] 125)).alloc (.cells #[.pointer (some ⟨4, 125, none⟩), .pointer (some ⟨w.heap.size, 0, none⟩), .int .u64 150] 160)).alloc (.cells #[.pointer (some ⟨4, 125, none⟩), .pointer (some ⟨w.heap.size, 0, none⟩), .int .u64 150] 160)).alloc (.cells #[.pointer (some e)] 120))
  (by rw [World.cell?_alloc_at _ _ _ _ (by simp)]; rfl)
  (by rw [World.cell?_alloc_lt _ _ t (by simp; omega), World.cell?_alloc_lt _ _ t (by simp; omega), World.cell?_alloc_lt _ _ t (by simp; omega), World.cell?_alloc_lt _ _ t htl]; exact ht0)
  (by rw [World.frozen?_alloc_old _ _ t (by simp; omega), World.frozen?_alloc_old _ _ t (by simp; omega), World.frozen?_alloc_old _ _ t (by simp; omega), World.frozen?_alloc_old _ _ t (Nat.ne_of_lt htl)]; exact hf0)
 have hpl : pb < w.heap.size := by
  rcases Nat.lt_or_ge pb w.heap.size with h | h
  ·exact h
  ·simp [World.cell?, Array.getElem?_eq_none h] at hp
 have hp3 : (((w.alloc (.cells #[.pointer (some t)] 125)).alloc (.cells #[.pointer (some ⟨4, 125, none⟩), .pointer (some ⟨w.heap.size, 0, none⟩), .int .u64 150] 160)).alloc (.cells #[.pointer (some ⟨4, 125, none⟩), .pointer (some ⟨w.heap.size, 0, none⟩), .int .u64 150] 160)).cell? ⟨pb, 0, none⟩ = some (.iface 120 (.pointer (some e))) := by
  rw [World.cell?_alloc_lt _ _ ⟨pb, 0, none⟩ (by simp; omega), World.cell?_alloc_lt _ _ ⟨pb, 0, none⟩ (by simp; omega), World.cell?_alloc_lt _ _ ⟨pb, 0, none⟩ hpl]; exact hp
 go_enter Tryz.func52, Tryz.ntmps52
 go_wp2
 refine wp_loop_rounds 2 ?_
 rw [rounds_succ]
 go_wp2
 rw [rounds_succ]
 go_wp2
 go_ret
 exact ⟨rfl, rfl⟩
open Go.RowKit
theorem z0 (x : Int) (hx : ¬ x = 0) (w : World) : Calls Tryz.prog 88 #[.int .i64 x] w fun e w' =>
  e = .panicked [{ v := .iface 209 (.pointer (some ⟨w.heap.size + 1, 0, none⟩)), recovered := false }] /\
  w' = (w.alloc (.cells #[.int .i64 x] 127)).alloc (.cells #[.iface 120 (.pointer (some ⟨w.heap.size, 0, none⟩))] 211) := by
 go_enter Tryz.func88, Tryz.ntmps88
 go_wp2
 first | exact ⟨rfl, rfl⟩ | exact ⟨rfl, rfl, rfl⟩ | simp [bodyPost]
namespace Ev
variable {J : Ctx}
def Kh : Au := fun l chain w => ∃ x pb eb, l = [.int .i64 x] /\ chain = [{ v := .iface 209 (.pointer (some ⟨pb, 0, none⟩)), recovered := false }] /\
 w.cell? ⟨pb, 0, none⟩ = some (.iface 120 (.pointer (some ⟨eb, 0, none⟩))) /\ w.cell? ⟨eb, 0, none⟩ = some (.int .i64 x)
theorem HRel.wider {M : Inj} {N : Nat -> Prop} {w0 : Base J} {h : AHeap} {w w' : World} (hh : HRel M N w0 h w) (hb : Below w.heap.size w w') : HRel M N w0 h w' :=
 ⟨hh.base, hh.lim, hh.below.trans (Keeps.of hb hh.big), fun k hk => Nat.lt_of_lt_of_le (hh.big k hk) hb.size, fun b o hbo => (hh.live b o hbo).mono (Inj.le_refl M) (fun i hi => hb.block _ ((hh.live b o hbo).blk_lt hi).1), hh.apart, hh.old, hh.fresh, hh.res⟩
theorem EM : ∀ f args l, v4 f args = some l -> ∀ (M : Inj) (N : Nat -> Prop) (w0 : Base J) (h : AHeap) (w : World) (vs : Array Value), LRel M args vs.toList -> HRel M N w0 h w ->
  jz Tryz.prog f /\ Calls Tryz.prog f vs w fun e w' => ∃ M' chain, e = .panicked chain /\ M.le M' /\ HRel M' N w0 h w' /\ Kh l chain w' := by
 intro f args l hth M N w0 h w vs hl hh
 unfold v4 at hth
 split at hth
 rotate_left
 ·cases hth
 rename_i x
 split at hth
 rotate_left
 ·cases hth
 rename_i hf hx
 cases hth
 have hf := Nat.eq_of_beq_eq_true hf
 subst hf
 obtain ⟨u, hu, hr⟩ := hl.get (i := 0) rfl
 have hr := dU hr
 subst hr
 have hvs : vs = #[.int .i64 x] := by
  apply Array.ext'
  have h1 := hl.1
  match h2 : vs.toList, h1, hu with
  | [y], _, hu => simpa using hu
 subst hvs
 have hx0 : ¬ x = 0 := by
  intro e
  subst e
  simp [pV] at hx
 refine ⟨⟨_, Tryz.func88, by kernel_rfl, by kernel_rfl⟩, (z0 x hx0 w).mono ?_⟩
 rintro e w' ⟨rfl, rfl⟩
 refine ⟨M, _, rfl, Inj.le_refl M, hh.wider (((Below.refl _ _).alloc (Nat.le_refl _) _).alloc (by simp) _), x, _, w.heap.size, rfl, rfl, ?_, ?_⟩
 ·simp
 ·rw [World.cell?_alloc_lt _ _ ⟨w.heap.size, 0, none⟩ (by simp)]
  simp
end Ev
theorem wc (p1 p2 p3 : Addr) (w : World) :
  CallsD Tryz.prog 51 #[.pointer (some p1), .pointer (some p2), .pointer (some p3)] .returning w fun e u' w' => e = .returned (.tuple #[]) /\ u' = .returning /\ w' = w := by
 refine callsD_of_wpS Tryz.func51 rfl fun c₀ cs hu => ?_
 apply wpS_seq
 apply wpS_region
 simp [wpOpsS, go_sem, recoverD, hu, Tryz.ntmps51, Exit.thenS]
 apply wpS_seq
 apply wpS_seq
 apply wpS_region
 simp [wpOpsS, go_sem, Exit.thenS]
 refine wpS_cond (t := true) (by simp [Act.eval, Array.replicate]) ?_
 simp only [if_true]
 refine wpS_of_wp (wp_ret ?_)
 cases c₀
 simp_all [bodyPostS, results, Tryz.results51, Exit.thenS]
theorem s5 (v : Value) (xT : TypeId) (w : World) : (Instr.typeAssert (.iface 209 v) xT 122 true).run Tryz.prog w = .ok (.tuple #[.iface 209 v, .bool true]) w := run_typeAssert_hasB Tryz.underlying122 (by kernel_rfl) v xT w
theorem jY {P : Program} {ops : Array Oper} {Q : Exit -> Act -> World -> Prop} {i : Nat} {rest : List Nat} {o : Oper} {a : Act} {w w' : World} {v : Value} (ho : ops[i]? = some o) (hg : o.guard = none)
  (hr : (execOp a.eval o).run P w = .ok (.value v) w') (hn : wpOps P ops Q rest (a.put o.dst v) w') : wpOps P ops Q (i :: rest) a w := by
 rw [wpOps_cons]
 unfold wpOp
 simp only [ho]
 rw [if_pos (by unfold Region.wanted; rw [hg])]
 refine .inl ?_
 unfold Oper.wp
 rw [hr, Oper.upon_value]
 exact hn
theorem mT {P : Program} {ops : Array Oper} {Q : Exit -> Act -> World -> Prop} {i : Nat} {rest : List Nat} {o : Oper} {a : Act} {w w' : World} (ho : ops[i]? = some o) (hg : o.guard = none)
  (hr : (execOp a.eval o).run P w = .ok .skip w') (hn : wpOps P ops Q rest (a.put o.dst undef) w') : wpOps P ops Q (i :: rest) a w := by
 rw [wpOps_cons]
 unfold wpOp
 simp only [ho]
 rw [if_pos (by unfold Region.wanted; rw [hg])]
 refine .inl ?_
 unfold Oper.wp
 rw [hr, Oper.upon_skip]
 exact hn
theorem AL (pb B : Nat) (e t : Addr) (old : Value) (w : World) (hp : w.cell? ⟨pb, 0, none⟩ = some (.iface 120 (.pointer (some e)))) (hg : w.cell? ⟨0, 0, none⟩ = some (.iface 195 (.agg #[.pointer (some ⟨4, 122, none⟩)]))) (ht0 : w.cell? t = some old) (hf0 : w.frozen? t = false) (hB : B <= t.block) (hBw : B <= w.heap.size) (q : Addr) (qv : Value) (hq : w.cell? q = some qv) (hqB : q.block < B) :
  Calls Tryz.prog 52 #[.iface 209 (.pointer (some ⟨pb, 0, none⟩)), .iface 125 (.pointer (some t))] w fun ev w' => ev = .returned (.bool true) /\ w'.cell? t = some (.pointer (some e)) /\ w'.cell? q = some qv /\ Below B w w' := by
 refine (FZ pb e t old w hp hg ht0 hf0).mono ?_
 rintro ev w' ⟨rfl, rfl⟩
 have hb : Below B w (((((w.alloc (.cells #[.pointer (some t)] 125)).alloc (.cells #[.pointer (some ⟨4, 125, none⟩), .pointer (some ⟨w.heap.size, 0, none⟩), .int .u64 150] 160)).alloc (.cells #[.pointer (some ⟨4, 125, none⟩), .pointer (some ⟨w.heap.size, 0, none⟩), .int .u64 150] 160)).alloc (.cells #[.pointer (some e)] 120)).setCell t (.pointer (some e))) := by
  refine Below.setCell ?_ hB _
  exact ((((Below.refl _ _).alloc hBw _).alloc (by simp; omega) _).alloc (by simp; omega) _).alloc (by simp; omega) _
 refine ⟨rfl, ?_, by rw [hb.cell hqB]; exact hq, hb⟩
 ·refine World.cell?_setCell_same _ _ _ (u := old) ?_
  have htl : t.block < w.heap.size := by
   rcases Nat.lt_or_ge t.block w.heap.size with h | h
   ·exact h
   ·simp [World.cell?, Array.getElem?_eq_none h] at ht0
  rw [World.cell?_alloc_lt _ _ t (by simp; omega), World.cell?_alloc_lt _ _ t (by simp; omega), World.cell?_alloc_lt _ _ t (by simp; omega), World.cell?_alloc_lt _ _ t htl]
  exact ht0
set_option maxRecDepth 100000 in
set_option maxHeartbeats 400000 in
theorem sP (pb eb : Nat) (p1 p2 p3 : Addr) (x : Int) (w : World) (R : World -> Prop)
    (hp : w.cell? ⟨pb, 0, none⟩ = some (.iface 120 (.pointer (some ⟨eb, 0, none⟩)))) (he : w.cell? ⟨eb, 0, none⟩ = some (.int .i64 x))
    (hg : w.cell? ⟨0, 0, none⟩ = some (.iface 195 (.agg #[.pointer (some ⟨4, 122, none⟩)])))
    (hs : ∀ w', Below w.heap.size w w' -> ∃ w1 w2 w3, (Instr.storeAt 37 (.pointer (some p1)) (.agg #[.int .i64 0, .slice none 0 0])).run Tryz.prog w' = .ok () w1 /\ (Instr.storeAt 3 (.pointer (some p2)) (.int .i64 0)).run Tryz.prog w1 = .ok () w2 /\ (Instr.storeAt 38 (.pointer (some p3)) (.int .i64 x)).run Tryz.prog w2 = .ok () w3 /\ R w3) :
    CallsD Tryz.prog 51 #[.pointer (some p1), .pointer (some p2), .pointer (some p3)] (.panicking [{ v := .iface 209 (.pointer (some ⟨pb, 0, none⟩)), recovered := false }]) w fun e u' w' => e = .returned (.tuple #[]) /\
      u' = .panicking [{ v := .iface 209 (.pointer (some ⟨pb, 0, none⟩)), recovered := true }] /\ R w' := by
  have lt : ∀ {p : Addr} {v : Value}, w.cell? p = some v -> p.block < w.heap.size := by
    intro p v h
    rcases Nat.lt_or_ge p.block w.heap.size with h1 | h1
    · exact h1
    · simp [World.cell?, Array.getElem?_eq_none h1] at h
  have old : ∀ {p : Addr} {v : Value}, w.cell? p = some v -> (w.alloc (.cells #[.pointer none] 120)).cell? p = some v := fun {p v} h => by
    rw [World.cell?_alloc_lt _ _ p (lt h)]; exact h
  have hpA := old hp
  have hgA := old hg
  have heA := old he
  have htA : (w.alloc (.cells #[.pointer none] 120)).cell? ⟨w.heap.size, 0, none⟩ = some (.pointer none) := by simp
  have hfA : (w.alloc (.cells #[.pointer none] 120)).frozen? ⟨w.heap.size, 0, none⟩ = false := by simp
  have hpl := lt hp
  have hel := lt he
  have hE := s5
  clear old lt
  refine callsD_of_wpS Tryz.func51 rfl fun c₀ cs hu => ?_
  simp only [Tryz.ntmps51, List.size_toArray, List.length_cons, List.length_nil, Nat.reduceAdd, Nat.reduceSub, Array.replicate_succ,
     Array.replicate_zero, List.push_toArray, List.append_toArray, List.nil_append, List.cons_append]
  apply wpS_seq
  apply wpS_region
  simp [wpOpsS, go_sem, recoverD, hu, Exit.thenS]
  refine wpS_of_wp ?_
  generalize hC : Code.region 5 _ _ = C5
  go_wp2_with (go_at_call 52; refine (AL pb w.heap.size ⟨eb, 0, none⟩ ⟨w.heap.size, 0, none⟩ (.pointer none) _ hpA hgA htA hfA (Nat.le_refl _) (by simp) ⟨eb, 0, none⟩ _ heA hel).mono ?_; rintro e w' ⟨rfl, hcT, hcE, hbT⟩; obtain ⟨w1, w2, w3, s1, s2, s3, hR⟩ := hs w' (((Below.refl _ _).alloc (Nat.le_refl _) _).trans hbT))
  subst hC
  refine wp_region ?_
  refine jY (i := 0) (rest := [1, 2, 3, 4, 5, 6, 7]) (v := .agg #[.int .i64 0, .slice none 0 0]) (w' := w') rfl rfl (by simp [go_sem]) ?_
  refine jY (v := .pointer (some ⟨eb, 0, none⟩)) (w' := w') rfl rfl (by simp [go_sem, hcT]) ?_
  refine jY (v := .pointer (some ⟨eb, 0, none⟩)) (w' := w') rfl rfl (by simp [go_sem]) ?_
  refine jY (v := .pointer (some ⟨eb, 0, none⟩)) (w' := w') rfl rfl (by simp [go_sem]) ?_
  refine jY (v := .int .i64 x) (w' := w') rfl rfl (by simp [go_sem, hcE]) ?_
  refine mT (w' := w1) rfl rfl (by simp [execOp, Act.eval, Act.put, Sem.run_bind, Sem.run_pure, Result.andThen_ok, s1]) ?_
  refine mT (w' := w2) rfl rfl (by simp [execOp, Act.eval, Act.put, Sem.run_bind, Sem.run_pure, Result.andThen_ok, s2]) ?_
  refine mT (w' := w3) rfl rfl (by simp [execOp, Act.eval, Act.put, Sem.run_bind, Sem.run_pure, Result.andThen_ok, s3]) ?_
  rename_i K hK
  refine hK _ _ (wp_ret ?_)
  refine ⟨rfl, _, rfl, .tuple #[], ?_, rfl, rfl, hR⟩
  simp [results, Tryz.results51, go_sem]
namespace Ev
variable {J : Ctx}
theorem FI {M : Inj} {caps : List AV} {cs : Array Value} {g : Nat} (hg : B6 g caps = true) (hl : LRel M caps cs.toList) :
  g = 51 /\ ∃ a i b j c k I1 I2 I3, caps = [.ptr a i, .ptr b j, .ptr c k] /\ M a = some I1 /\ M b = some I2 /\ M c = some I3 /\ cs = #[.pointer (some ⟨I1.blk, I1.off + i, none⟩), .pointer (some ⟨I2.blk, I2.off + j, none⟩), .pointer (some ⟨I3.blk, I3.off + k, none⟩)] := by
 unfold B6 at hg
 split at hg
 rotate_left
 ·cases hg
 rename_i a i b j c k
 have hg := Nat.eq_of_beq_eq_true hg
 refine ⟨hg, ?_⟩
 obtain ⟨l⟩ := cs
 obtain ⟨h1, h2⟩ := hl
 match l, h1 with
 | [x, y, z], _ =>
  obtain ⟨I1, e1, f1⟩ := gf (h2 0 _ _ rfl rfl)
  obtain ⟨I2, e2, f2⟩ := gf (h2 1 _ _ rfl rfl)
  obtain ⟨I3, e3, f3⟩ := gf (h2 2 _ _ rfl rfl)
  subst f1 f2 f3
  exact ⟨a, i, b, j, c, k, I1, I2, I3, rfl, e1, e2, e3, rfl⟩
theorem FC : jz Tryz.prog 51 := ⟨_, Tryz.func51, by kernel_rfl, by kernel_rfl⟩
theorem En : ∀ g caps, B6 g caps = true -> ∀ (M : Inj) (N : Nat -> Prop) (w0 : Base J) (h : AHeap) (w : World) (cs : Array Value), LRel M caps cs.toList -> HRel M N w0 h w ->
  jz Tryz.prog g /\ CallsD Tryz.prog g cs .returning w fun e u w' => (∃ v, e = .returned v) /\ u = .returning /\ ∃ M', M.le M' /\ HRel M' N w0 h w' := by
 intro g caps hg M N w0 h w cs hl hh
 obtain ⟨rfl, a, i, b, j, c, k, I1, I2, I3, rfl, e1, e2, e3, rfl⟩ := FI hg hl
 refine ⟨FC, fun c cs hu => ?_⟩
 obtain ⟨e, u', w', fr, hR, rest⟩ := wc _ _ _ w c cs hu
 obtain ⟨rfl, rfl, rfl⟩ := hR
 exact ⟨_, _, _, fr, ⟨⟨_, rfl⟩, rfl, M, Inj.le_refl M, hh⟩, rest⟩
end Ev
end Go.Proofs.YtfkbfnpjggkdmaaGreatDoor
/- What is known of the functions that throw and of those that catch; the layer's examples hold. -/
namespace Go.Proofs.YtfkbfnpjggkdmaaGreatDoor.Ev
open Go.RowKit
variable {J : Ctx}
set_option maxRecDepth 1000000
theorem mV {P : Program} {tb : Tab} (H : TabOK P tb J) {M : Inj} {N : Nat -> Prop} {w0 : Base J} {h : AHeap} {w : World} (hh : HRel M N w0 h w) {t b o : Nat} {v : AV} {v' : AV} {h' : AHeap} {p u : Value} {I : BI} (hp : VRel M (.ptr b o) p) (hI : M b = some I) (hv : VRel M v u) (hs : eJ tb h t b o v = some (v', h')) :
  ∃ w', (Instr.storeAt t (.pointer (some ⟨I.blk, I.off + o, none⟩)) u).run P w = .ok () w' /\ HRel M N w0 h' w' := by
 have hval := jv hp hI
 have hxv := hv.cells
 unfold eJ at hs
 split at hs
 ·rename_i n ob hn hob
  split at hs
  ·rename_i hb hz1
   rw [Nat.blt_eq] at hz1
   simp only [Bool.and_eq_true, Nat.beq_eq, Nat.ble_eq, List.all_eq_true] at hb
   obtain ⟨⟨b1, b2⟩, b3⟩ := hb
   simp only [Option.some.injEq, Prod.mk.injEq] at hs
   obtain ⟨rfl, rfl⟩ := hs
   obtain ⟨w', r1, r2⟩ := hh.store (P := P) hob hI hval zy hxv b3 o zy
   refine ⟨w', ?_, r2⟩
   have hsz : u.cells.size = n := by rw [<- b1, <- hxv.1]; simp
   simp only [Instr.storeAt, Instr.sureAddr, storeVar, Sem.run_bind, Sem.run_pure, Result.andThen_ok, bZ H hn, hsz, ne_eq, not_true_eq_false, if_false]
   exact r1
  ·cases hs
 ·cases hs
theorem HM : j1.zero 37 = some (.agg [.int .i64 0, .nils]) := by kernel_rfl
theorem CH {g : Nat} {a i b j c k : Nat} {l : List AV} {h h' : AHeap} (hr : uk j1 g [.ptr a i, .ptr b j, .ptr c k] l h = some h') :
  ∃ e v1 h1 v2 h2 v3, l = [e] /\ eJ j1 h 37 a i (.agg [.int .i64 0, .nils]) = some (v1, h1) /\ eJ j1 h1 3 b j (.int .i64 0) = some (v2, h2) /\ eJ j1 h2 38 c k e = some (v3, h') := by
 match l, hr with
 | [e], hr =>
  unfold uk at hr
  rw [HM] at hr
  simp only at hr
  split at hr
  ·rename_i v1 h1 e1
   split at hr
   ·rename_i v2 h2 e2
    split at hr
    ·rename_i v3 h3 e3
     cases hr
     exact ⟨e, v1, h1, v2, h2, v3, rfl, e1, e2, e3⟩
    ·cases hr
   ·cases hr
  ·cases hr
 | [], hr => simp [uk] at hr
 | _ :: _ :: _, hr => simp [uk] at hr
def HandleAt (w : World) : Prop := w.cell? ⟨0, 0, none⟩ = some (.iface 195 (.agg #[.pointer (some ⟨4, 122, none⟩)]))
theorem y4 (hJ : ∀ w, J.good w -> HandleAt w) : ∀ g caps l h h', B6 g caps = true -> uk j1 g caps l h = some h' -> ∀ (M : Inj) (N : Nat -> Prop) (w0 : Base J) (w : World) (cs : Array Value) (chain : List PanicEntry), LRel M caps cs.toList -> HRel M N w0 h w -> Kh l chain w ->
  jz Tryz.prog g /\ CallsD Tryz.prog g cs (.panicking chain) w fun e u w' => (∃ v, e = .returned v) /\ settle u = .returning /\ ∃ M', M.le M' /\ HRel M' N w0 h' w' := by
 intro g caps l h h' hg hr M N w0 w cs chain hl hh htr
 obtain ⟨rfl, a, i, b, j, c, k, I1, I2, I3, rfl, e1, e2, e3, rfl⟩ := FI hg hl
 obtain ⟨x, pb, eb, rfl, rfl, hp, he⟩ := htr
 obtain ⟨e, v1, h1, v2, h2, v3, hle, s1, s2, s3⟩ := CH hr
 cases hle
 have hgood := hJ w (w0.ok w (hh.below.below hh.lim))
 have p1 := hl.2 0 _ _ rfl rfl
 have p2 := hl.2 1 _ _ rfl rfl
 have p3 := hl.2 2 _ _ rfl rfl
 refine ⟨FC, (sP pb eb _ _ _ x w (fun w' => HRel M N w0 h' w') hp he hgood ?_).mono ?_⟩
 ·intro w' hb
  have hh' := hh.wider hb
  obtain ⟨w1, r1, g1⟩ := mV (P := Tryz.prog) (km J) hh' p1 e1 (u := .agg #[.int .i64 0, .slice none 0 0]) ((LRel.cons (.int _ _) (.cons .nils (.nil _))).agg) s1
  obtain ⟨w2, r2, g2⟩ := mV (P := Tryz.prog) (km J) g1 p2 e2 (.int .i64 0) s2
  obtain ⟨w3, r3, g3⟩ := mV (P := Tryz.prog) (km J) g2 p3 e3 (.int .i64 x) s3
  exact ⟨w1, w2, w3, r1, r2, r3, g3⟩
 ·rintro e u w' ⟨rfl, rfl, hR⟩
  exact ⟨⟨_, rfl⟩, rfl, M, Inj.le_refl M, hR⟩
theorem Ba (hJ : ∀ w, J.good w -> HandleAt w) : CfgOK Tryz.prog J Kh jC := ⟨EM, En, y4 hJ⟩
def y9 (l : List Value) : Ctx := ⟨lI l, HandleAt⟩
theorem jn {w w' : World} (h : HandleAt w) (hb : Below w.heap.size w w') : HandleAt w' := by
 unfold HandleAt at *
 have hlt : (0 : Nat) < w.heap.size := by
  rcases Nat.eq_zero_or_pos w.heap.size with h0 | h1
  ·simp [World.cell?, h0] at h
  ·exact h1
 rw [hb.cell (p := ⟨0, 0, none⟩) hlt]
 exact h
theorem zV (w : World) (h : HandleAt w) : Calls Tryz.prog 12 #[] w fun e w' => e = .returned (.bool true) /\ Below w.heap.size w w' :=
 tv (J := y9 []) (l := []) (km _) (Ba fun _ h => h) rfl (v := .bool true) rfl Cf (.nil _) w (fun w' hb => jn h hb)
set_option maxRecDepth 100000
theorem zJ {M M' : Inj} {l : List AV} {vs : List Value} (hf : l.all qB = true) (h : LRel M l vs) : LRel M' l vs :=
 ⟨h.1, fun i a b ha hb => qC (List.all_eq_true.1 hf a (List.mem_of_getElem? ha)) (h.2 i a b ha hb)⟩
theorem Fc (J : Ctx) : TabOK Tryz.prog P7.tab J := re (km J) (fun _ _ _ _ _ h => by cases h) (fun _ _ _ h => by cases h) (fun _ _ _ _ h => by cases h)
theorem yu {l : List Value} {f : Nat} {args : List AV} {v : AV} (h : kD f args = some v) {M : Inj} {vs : Array Value} (hl : LRel M args vs.toList) (w : World) (hg : HandleAt w) :
  Calls Tryz.prog f vs w fun e w' => ∃ u, e = .returned u /\ VRel M v u /\ Below w.heap.size w w' := by
 unfold kD at h
 split at h
 rotate_left
 ·cases h
 rename_i v0 h0 hc
 split at h
 rotate_left
 ·cases h
 rename_i hf
 cases h
 rw [Bool.and_eq_true] at hf
 obtain ⟨K, hK⟩ := gQ P7.tab f args ⟨0, .leaf⟩ _ _ hc
 have hh : HRel (J := y9 []) (lI []) (fun k => k < w.heap.size) ⟨w, w.heap.size, fun w' hb => jn hg hb, fun _ => False⟩ ⟨0, .leaf⟩ w := ⟨Inj.le_refl _, fun k hk => hk, Keeps.refl _ _, fun k hk => hk, fun b o h => by simp [bG] at h, fun b b' o o' i i' h => by simp [bG] at h,
  fun b o h => by simp [bG] at h, fun b hb => by unfold lI; rw [List.getElem?_eq_none hb], fun b hb => hb.elim⟩
 obtain ⟨_, hc⟩ := A5 (Fc (y9 [])) K _ _ _ _ _ _ _ _ _ _ (hK K (Nat.le_refl K)) (zJ hf.1 hl) hh
 exact hc.mono fun e w' ⟨M', u, h1, _, h3, h4⟩ => ⟨u, h1, qC hf.2 h4, h3.below.below fun k hk => hk⟩
theorem EV (l : List Value) : ∀ f args h v, orc f args h = some v -> ∀ M N (w0 : Base (y9 l)) (vs : Array Value) w, HRel M N w0 h w -> LRel M args vs.toList ->
  (∃ fn, Tryz.prog.funcs[f]? = some fn /\ fn.body.isSome = true /\ (fn.name == "runtime.NumGoroutine") = false) /\
  Calls Tryz.prog f vs w fun e w' => ∃ u, e = .returned u /\ VRel M v u /\ Below w.heap.size w w' := by
 intro f args h v ho M N w0 vs w hh hl
 have hg : HandleAt w := w0.ok w (hh.below.below hh.lim)
 unfold orc at ho
 split at ho
 ·rename_i hf
  have hf := Nat.eq_of_beq_eq_true hf
  subst hf
  split at ho
  rotate_left
  ·cases ho
  cases ho
  have hvs : vs = #[] := by
   apply Array.ext'
   have := hl.1
   simpa using this
  subst hvs
  exact ⟨⟨_, Tryz.func12, by kernel_rfl, by kernel_rfl⟩, (zV w hg).mono fun e w' ⟨h1, h2⟩ => ⟨_, h1, .bool true, h2⟩⟩
 ·split at ho
  ·rename_i hf
   have hf := Nat.eq_of_beq_eq_true hf
   subst hf
   exact ⟨⟨_, Tryz.func92, by kernel_rfl, by kernel_rfl⟩, yu (l := l) ho hl w hg⟩
  ·split at ho
   ·rename_i hf
    have hf := Nat.eq_of_beq_eq_true hf
    subst hf
    exact ⟨⟨_, Tryz.func165, by kernel_rfl, by kernel_rfl⟩, yu (l := l) ho hl w hg⟩
   ·cases ho
theorem Fd (l : List Value) : TabOK Tryz.prog tab (y9 l) := re (km _) (fun _ _ _ _ _ h => by cases h) (fun _ _ _ h => by cases h) (EV l)
theorem Ep {w : World} {I : List InB} (h : InOK w I) (hg : HandleAt w) : HRel (J := y9 []) (injIn I) (fun k => k < w.heap.size) ⟨w, w.heap.size, fun w' hb => jn hg hb, fun _ => False⟩ (BY I) w := by
 refine ⟨?_, fun k hk => hk, Keeps.refl _ _, fun k hk => hk, ?_, ?_, ?_, ?_, fun b hb => hb.elim⟩
 ·intro b i hb
  have hb : lI [] b = some i := hb
  simp [lI] at hb
 ·intro b o hb
  obtain ⟨x, _, h2, h3, rfl⟩ := g9 I 0 b o hb
  rw [Nat.sub_zero] at h2
  obtain ⟨h4, c, e, fr, h5, h6⟩ := h x (List.mem_of_getElem? h2) h3
  exact .inr (.inl ⟨x.bi, c, e, fr, by simp [injIn, h2], h4, h5, (Array.getElem?_eq_some_iff.1 h5).1, rfl, h6⟩)
 ·intro b b' o o' i i' hb hb' hi hi' heq hN
  obtain ⟨x, _, h2, h3, rfl⟩ := g9 I 0 b o hb
  rw [Nat.sub_zero] at h2
  obtain ⟨h4, c, e, fr, h5, h6⟩ := h x (List.mem_of_getElem? h2) h3
  have : injIn I b = some x.bi := by simp [injIn, h2]
  rw [this] at hi
  cases hi
  exact absurd (Array.getElem?_eq_some_iff.1 h5).1 hN
 ·intro b o hb
  obtain ⟨x, _, h2, _⟩ := g9 I 0 b o hb
  have := (List.getElem?_eq_some_iff.1 h2).1
  show b < I.length
  omega
 ·intro b hb
  unfold injIn
  rw [List.getElem?_eq_none hb]
  rfl
theorem in_callX {f : Nat} {args : List AV} {hs : af} {v : AV} {u : Value} (h : SpecX jC tab f args [] hs (fun r D => r = v /\ D = []) (fun _ => False)) (hu : D3 v = some u) {I : List InB} (hI : Ar I hs) {vs : Array Value} (hl : LRel (injIn I) args vs.toList) (w : World) (hw : InOK w I) (hg : HandleAt w) :
  Calls Tryz.prog f vs w fun e w' => e = .returned u /\ Below w.heap.size w w' := by
 obtain ⟨r, ⟨K0, hE⟩, hR⟩ := h (BY I) ⟨fun e he => by
  obtain ⟨h1, x, h2, h3, h4⟩ := hI.2 e he
  refine ⟨?_, (List.getElem?_eq_some_iff.1 h2).1, fun g => by rw [h1] at g; cases g⟩
  have := qV I 0 e.b x h2 h3
  rw [Nat.zero_add] at this
  rw [h4]
  exact this, hI.1, Fr.refl _ _⟩
 have hE := hE K0 (Nat.le_refl _)
 cases r with
 | boom l h' => exact hR.1.elim
 | ret v' h' =>
  obtain ⟨D, ⟨rfl, _⟩, _, _⟩ := hR
  obtain ⟨_, hc⟩ := (tu (Fd []) (Ba fun _ h => h) K0 _ _ _ _ w f args vs hl (Ep hw hg)).1 _ _ hE
  exact hc.mono fun e w' ⟨M', y, h1, h2, h3, h4⟩ => ⟨by rw [h1, wN hu h4], h3.below.below fun k hk => hk⟩
open Go.RowKit Go.ChangeShapes Go.WideShapes
theorem nc {w : World} {b o : Nat} {v : Value} (h : w.cell? ⟨b, o, none⟩ = some v) : ∃ c e fr, w.heap[b]? = some (.cells c e fr) /\ c[o]? = some v := by
 unfold World.cell? at h
 cases hb : w.heap[b]? with
 | none => rw [hb] at h; cases h
 | some x =>
  rw [hb] at h
  cases x with
  | cells c e fr => exact ⟨c, e, fr, rfl, h⟩
  | _ => cases h
theorem F5 {H : Type} (d : DataW H) : 1 <= Rows.uptoBulk d := by
 cases d with
 | lit l => cases l <;> simp [Rows.uptoBulk]
 | nil => simp [Rows.uptoBulk]
 | ptr d => simp [Rows.uptoBulk]
 | slice elems spare => simp [Rows.uptoBulk]
 | agg parts => simp [Rows.uptoBulk]
 | iface t d => simp [Rows.uptoBulk]
 | map entries => simp [Rows.uptoBulk]
 | held h => simp [Rows.uptoBulk]
theorem bk_part {H : Type} {d : DataW H} {l : List (DataW H)} (h : d ∈ l) : Rows.uptoBulk d <= Rows.uptoBulkAll l := by
 induction l with
 | nil => cases h
 | cons x r ih =>
  simp only [Rows.uptoBulkAll]
  rcases List.mem_cons.1 h with e | e
  ·subst e; omega
  ·have := ih e; omega
theorem F4 {H : Type} (l : List (DataW H)) : l.length <= Rows.uptoBulkAll l := by
 induction l with
 | nil => simp [Rows.uptoBulkAll]
 | cons x r ih => have := F5 x; simp only [Rows.uptoBulkAll, List.length_cons]; omega
theorem AQ {H : Type} (bytes : List UInt8) : Rows.uptoBulk (DataW.lit (H := H) (.string bytes)) = bytes.length + 1 := by simp [Rows.uptoBulk]
theorem wC {H : Type} (x y : DataW H) : Rows.uptoBulk x + Rows.uptoBulk y + 1 = Rows.uptoBulk (.agg [x, y]) := by simp [Rows.uptoBulk, Rows.uptoBulkAll]
instance : Inhabited AV := ⟨.nils⟩
instance : Inhabited InB := ⟨⟨⟨0, 0, 0, 0, undef⟩, true, []⟩⟩
def CellsOK (w : World) (M : Inj) (x : InB) : Prop := x.live = true /\ x.bi.val = undef /\ ∃ c e fr, w.heap[x.bi.blk]? = some (.cells c e fr) /\ ∀ k v, x.cells[k]? = some v -> v.isCell = true /\ ∃ u, c[x.bi.off + k]? = some u /\ VRel M v u
def rb : Value -> List Nat
 | .string s => s.data.toList.map UInt8.toNat
 | _ => []
theorem yA {M : Inj} {s : ByteArray} : VRel M (.str (rb (.string s))) (.string s) := .str s _ rfl
theorem rc (s : ByteArray) : Bytes (rb (.string s)) := by
 intro c hc
 obtain ⟨x, _, rfl⟩ := List.mem_map.1 hc
 exact x.toNat_lt
theorem yz (s : ByteArray) : (rb (.string s)).length = s.data.toList.length := by simp [rb]
section
variable {H : Type} {enc : TypeId × Value -> H} {P : Program} {w : World} {held : Bool}
def gA : Nat -> List InB -> af
 | _, [] => []
 | k, x :: l => ⟨k, ⟨0, false, x.cells⟩, false⟩ :: gA (k + 1) l
theorem hsIn_ro : ∀ (l : List InB) (k : Nat), ∀ e ∈ gA k l, e.w = false
 | [], k, e, h => by cases h
 | x :: l, k, e, h => by
  rcases List.mem_cons.1 h with rfl | h
  ·rfl
  ·exact hsIn_ro l _ e h
theorem pi : ∀ (l : List InB) (k : Nat) (e : HE), e ∈ gA k l -> ∃ j x, l[j]? = some x /\ e = ⟨k + j, ⟨0, false, x.cells⟩, false⟩
 | [], k, e, h => by cases h
 | y :: l, k, e, h => by
  rcases List.mem_cons.1 h with rfl | h
  ·exact ⟨0, y, rfl, rfl⟩
  ·obtain ⟨j, x, h1, h2⟩ := pi l _ e h
   exact ⟨j + 1, x, by simpa using h1, by rw [h2, show k + 1 + j = k + (j + 1) by omega]⟩
theorem w9 : ∀ (l : List InB) (k : Nat), ((gA k l).map (·.b)).Nodup
 | [], k => List.nodup_nil
 | x :: l, k => by
  show (k :: (gA (k + 1) l).map (·.b)).Nodup
  refine List.nodup_cons.2 ⟨fun h => ?_, w9 l _⟩
  obtain ⟨e, he, hb⟩ := List.mem_map.1 h
  obtain ⟨j, x, _, rfl⟩ := pi l _ e he
  simp only at hb
  omega
theorem jM : ∀ (l m : List InB) (k : Nat), gA k (l ++ m) = gA k l ++ gA (k + l.length) m
 | [], m, k => rfl
 | x :: l, m, k => by
  show _ :: gA (k + 1) (l ++ m) = _ :: _
  rw [jM l m (k + 1), List.length_cons, show k + 1 + l.length = k + (l.length + 1) by omega]; rfl
theorem hsIn_seen {I : List InB} (h : ∀ x ∈ I, x.live = true) : Ar I (gA 0 I) := by
 refine ⟨w9 I 0, fun e he => ?_⟩
 obtain ⟨j, x, h1, rfl⟩ := pi I 0 e he
 exact ⟨rfl, x, by simpa using h1, h x (List.mem_of_getElem? h1), rfl⟩
theorem up {base : Nat} {t e : TypeId} {v : Value} (hu : P.underlying t = some (.slice e)) (hv : Value.okWide P w .any base t v) : ∀ a len cap, v = .slice (some a) len cap -> a.spot = none /\ ∃ c e fr, w.heap[a.block]? = some (.cells c e fr) := by
 intro a len cap h
 subst h
 simp only [Value.okWide, hu, Cell.okWide, Cell.ok] at hv
 obtain ⟨_, _, h3⟩ := hv
 obtain ⟨_, h4, row, cells, h5, _⟩ := h3
 refine ⟨h4, ?_⟩
 unfold World.shape? at h5
 split at h5
 ·rename_i c e fr hc
  exact ⟨c, e, fr, hc⟩
 ·cases h5
end
end Go.Proofs.YtfkbfnpjggkdmaaGreatDoor.Ev
