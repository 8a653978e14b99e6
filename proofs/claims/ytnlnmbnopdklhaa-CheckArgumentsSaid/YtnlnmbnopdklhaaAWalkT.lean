/- Chapter 16, by the document: expressions. -/
import Derived.Test.YtnlnmbnopdklhaaAVr
import Derived.Test.YtnlnmbnopdklhaaAEvU
import Derived.Test.YtnlnmbnopdklhaaProg
import Derived.Test.YtnlnmbnopdklhaaAV7
namespace Go.Proofs.Ytnlnmbnopdklhaa.Ev
open Go.RowKit
set_option linter.unusedVariables false
set_option linter.unusedSimpArgs false
set_option maxRecDepth 100000
set_option maxHeartbeats 1000000
theorem WD.subH {tb : Tab} {n m i : Nat} {ops rest : List Oper} {keep : HSt} {E : Env} {s : St} {hs hs' : HSt} {R : T AV → AHeap → Prop} (h : SubH hs' hs) (g : WD tb n ops keep m i rest E s hs' R) : WD tb n ops keep m i rest E s hs R :=
  fun tm hp ht hh hk => g tm hp ht (hh.sub h) hk
theorem WD.call0 {tb : Tab} {n m i : Nat} {ops rest : List Oper} {keep : HSt} {E : Env} {s : St} {hs : HSt} {R : T AV → AHeap → Prop} {d : Nat} {ty : TypeId} {pos : String} {aft : Array Edge} {of : Operand} {args : List Operand} {ts : Array TypeId} {g : Nat} {caps l l' : List AV} {hsc : HSt} {Post : AV → HSt → Prop}
    (hf : oL s of = some (.func g caps)) (ha : oLs s args = some l) (hl : l ++ caps = l') (hsp : Spec tb g l' [] hsc Post) (hsub : SubR hsc hs) (hkp : KIn keep hs) (hd : Nat.blt d n = true) (hk : ∀ v D, Post v D → WD tb n ops keep m (i + 1) rest E ((d, v) :: s) (D ++ hs) R) :
    WD tb n ops keep m i (⟨some d, .call ⟨.value of, args.toArray, ts⟩, ty, pos, aft, none⟩ :: rest) E s hs R :=
  WD.l (C := fun v hq => ∃ D, Post v D ∧ hq = D ++ hs) (fun tm h r e => by cases e) (fun R hR => WO.call0 hf ha hl hsp hsub hd fun v D h => WO.nil (hR _ _ ⟨D, h, rfl⟩))
    (fun v hq ⟨D, _, h2⟩ _ => by subst h2; exact fun e he => let ⟨w, hm⟩ := hkp e he; ⟨w, List.mem_append_right _ hm⟩) (fun v hq ⟨D, h1, h2⟩ => by subst h2; exact hk v D h1)
theorem perm_tailO {N G K X O : HSt} (h : O.Perm (X ++ G)) : ((N ++ K) ++ O).Perm ((N ++ G) ++ (K ++ X)) := (List.Perm.append_left _ h).trans perm_tail
/-- A node. -/
structure NodT where
  k : Int
  op : List Nat
  n : Int
  ms : AV
  rg : Int
  off : Int
  md : Int
  nm : AV
  sd : Int
  bl : Bool
  kd : AV
abbrev nC (x : NodT) : List AV := nodeC x.k x.op x.n x.ms x.rg x.off x.md x.nm x.sd x.bl x.kd
/-- A tree in memory, and its node. -/
structure NOk (hs : HSt) (x : NodT) : Prop where
  nr : ∃ d, NRep hs d (nC x)
  op : Bytes x.op
  ms : x.ms.isCell = true
  nm : x.nm.isCell = true
  kd : x.kd.isCell = true
def KVn (hs : HSt) (len : Nat) (v : AV) : Prop := (v = .nils ∧ len = 0) ∨ ∃ b ob, v = .slice b 0 len 11 ∧ MemH hs b ob ∧ len ≤ 1048576 ∧ ∃ d, ∀ i, i < len → ∃ c', sub? ob.cells ((0 + i) * 11) 11 = some c' ∧ NRep hs d c'
theorem KVn.nil {hs : HSt} : KVn hs 0 .nils := .inl ⟨rfl, rfl⟩
theorem KVn.cell {hs : HSt} {len : Nat} {v : AV} (h : KVn hs len v) : v.isCell = true := by
  rcases h with ⟨rfl, _⟩ | ⟨b, ob, rfl, _⟩ <;> rfl
theorem kv_len {hs : HSt} {len e : Nat} {v : AV} (h : KVn hs len v) : lenA (.slice e) v = some len := by
  rcases h with ⟨rfl, rfl⟩ | ⟨b, ob, rfl, _⟩ <;> rfl
theorem NOk.of {hs : HSt} {len : Nat} {k : Int} {op : List Nat} {n : Int} {ms : AV} {rg off md : Int} {nm : AV} {sd : Int} {bl : Bool} {kd : AV} (h : KVn hs len kd) (ho : Bytes op) (hl : op.length ≤ 281474976710656) (hms : ms.isCell = true) (hnm : nm.isCell = true) :
    NOk hs ⟨k, op, n, ms, rg, off, md, nm, sd, bl, kd⟩ := by
  refine ⟨?_, ho, hms, hnm, h.cell⟩
  rcases h with ⟨rfl, rfl⟩ | ⟨b, ob, rfl, hm, hle, d, hd⟩
  · exact ⟨1, k, op, n, ms, rg, off, md, nm, sd, bl, .nils, rfl, ho, hl, hms, hnm, .inl rfl⟩
  · exact ⟨d + 1, k, op, n, ms, rg, off, md, nm, sd, bl, _, rfl, ho, hl, hms, hnm, .inr ⟨b, len, ob, rfl, hm, hle, hd⟩⟩
theorem nil_bytes : Bytes [] := by intro c h; simp at h
theorem NOk.zero {hs : HSt} : NOk hs ⟨0, [], 0, .nils, 0, 0, 0, .nils, 0, false, .nils⟩ := NOk.of KVn.nil nil_bytes (Nat.zero_le _) rfl rfl
theorem MemH.up {hs hs' : HSt} (h : ∀ e ∈ hs, e ∈ hs') : ∀ b o, MemH hs b o → MemH hs' b o := fun b o ⟨w, hm⟩ => ⟨w, h _ hm⟩
theorem MemH.hd {hs : HSt} {b : Nat} {o : AObj} {w : Bool} : MemH (⟨b, o, w⟩ :: hs) b o := ⟨w, List.mem_cons_self⟩
theorem NOk.up {hs hs' : HSt} {x : NodT} (h : NOk hs x) (g : ∀ e ∈ hs, e ∈ hs') : NOk hs' x := ⟨let ⟨d, hd⟩ := h.nr; ⟨d, hd.mono (MemH.up g)⟩, h.op, h.ms, h.nm, h.kd⟩
theorem NOk.tl {hs : HSt} {x : NodT} {e : HE} (h : NOk hs x) : NOk (e :: hs) x := h.up fun _ h => List.mem_cons_of_mem _ h
theorem nC_sub {x : NodT} : sub? (nC x) ((0 + 0) * 11) 11 = some (nC x) := rfl
theorem KVn.one {hs : HSt} {b : Nat} {ex : Bool} {x : NodT} (h : NOk hs x) (hm : MemH hs b ⟨11, ex, nC x⟩) : KVn hs 1 (.slice b 0 1 11) := by
  obtain ⟨d, hd⟩ := h.nr
  refine .inr ⟨b, _, rfl, hm, by decide, d, fun i hi => ?_⟩
  have : i = 0 := by omega
  subst this
  exact ⟨_, nC_sub, hd⟩
theorem KVn.two {hs : HSt} {b : Nat} {ex : Bool} {x y : NodT} (h : NOk hs x) (g : NOk hs y) (hm : MemH hs b ⟨11, ex, nC x ++ nC y⟩) : KVn hs 2 (.slice b 0 2 11) := by
  obtain ⟨d, hd⟩ := h.nr
  obtain ⟨d', hd'⟩ := g.nr
  refine .inr ⟨b, _, rfl, hm, by decide, max d d', fun i hi => ?_⟩
  rcases Nat.lt_or_ge i 1 with h1 | h1
  · have : i = 0 := by omega
    subst this
    exact ⟨nC x, rfl, hd.le (Nat.le_max_left _ _)⟩
  · have : i = 1 := by omega
    subst this
    exact ⟨nC y, rfl, hd'.le (Nat.le_max_right _ _)⟩
def KN (hs : HSt) (cs : List AV) (len : Nat) : Prop := ∃ d, ∀ i, i < len → ∃ c', sub? cs ((0 + i) * 11) 11 = some c' ∧ NRep hs d c'
theorem KN.nil {hs : HSt} : KN hs [] 0 := ⟨0, fun i h => absurd h (Nat.not_lt_zero _)⟩
theorem sub_left {A B c : List AV} {o m : Nat} (h : sub? A o m = some c) : sub? (A ++ B) o m = some c := by
  unfold sub? at h ⊢
  split at h
  · rename_i hb
    have hb := Nat.ble_eq.mp hb
    have h1 : Nat.ble (o + m) (A ++ B).length = true := Nat.ble_eq.mpr (by rw [List.length_append]; omega)
    simp only [h1]
    rw [← h]
    congr 1
    rw [List.drop_append_of_le_length (by omega), List.take_append_of_le_length (by rw [List.length_drop]; omega)]
  · cases h
theorem sub_right {A B : List AV} {o m : Nat} (h : A.length = o) (g : B.length = m) : sub? (A ++ B) o m = some B := by
  unfold sub?
  have h1 : Nat.ble (o + m) (A ++ B).length = true := Nat.ble_eq.mpr (by rw [List.length_append]; omega)
  simp only [h1]
  subst h g
  simp
theorem KN.snoc {hs hq : HSt} {cs : List AV} {len : Nat} {x : NodT} (h : KN hs cs len) (hl : cs.length = len * 11) (g : NOk hq x) : KN (hs ++ hq) (cs ++ nC x) (len + 1) := by
  obtain ⟨d, hd⟩ := h
  obtain ⟨d', hd'⟩ := g.nr
  refine ⟨max d d', fun i hi => ?_⟩
  rcases Nat.lt_or_ge i len with h1 | h1
  · obtain ⟨c', e1, e2⟩ := hd i h1
    exact ⟨c', sub_left e1, (e2.mono (MemH.up fun e he => List.mem_append_left _ he)).le (Nat.le_max_left _ _)⟩
  · have : i = len := by omega
    subst this
    exact ⟨nC x, sub_right (by omega) rfl, (hd'.mono (MemH.up fun e he => List.mem_append_right _ he)).le (Nat.le_max_right _ _)⟩
theorem ww {hq : HSt} {b : Nat} {o : AObj} (h : ∀ y ∈ hq, y.w = true) : ∀ y ∈ (⟨b, o, true⟩ : HE) :: hq, y.w = true := by
  intro y hy
  rcases List.mem_cons.1 hy with rfl | hy
  · rfl
  · exact h y hy
theorem no_wl : ∀ y ∈ ([] : HSt), y.w = true := by intro y hy; simp at hy
theorem ww_app {a b : HSt} (h : ∀ y ∈ a, y.w = true) (g : ∀ y ∈ b, y.w = true) : ∀ y ∈ a ++ b, y.w = true := fun y hy => (List.mem_append.1 hy).elim (h y) (g y)
theorem lay_one {l cs : List AV} {o : Nat} {v : AV} (h : v.isCell = true) (g : layL l o [v] = cs) : layL l o v.cells = cs := by
  have e : v.cells = [v] := by cases v <;> first | rfl | exact absurd h (by decide) | exact absurd h (by simp [AV.isCell])
  rw [e]; exact g
theorem gsn {a c : HSt} (h : ∀ x, a.count x ≤ c.count x := by intro x; simp only [nC, nodeC, List.append_eq, List.cons_append, List.nil_append, List.count_append, List.count_cons, List.count_nil]; omega) : SubH a c := SubH.of_count h
theorem ckA {k : Int} {op : List Nat} {n : Int} {ms : AV} {rg off md : Int} {nm : AV} {sd : Int} {bl : Bool} {kd : AV} (hms : ms.isCell = true := by first | rfl | assumption | exact (NOk.ms (by assumption)) | exact (NOk.nm (by assumption)) | exact (NOk.kd (by assumption)) | exact (KVn.cell (by assumption))) (hnm : nm.isCell = true := by first | rfl | assumption | exact (NOk.ms (by assumption)) | exact (NOk.nm (by assumption)) | exact (NOk.kd (by assumption)) | exact (KVn.cell (by assumption)))
    (hkd : kd.isCell = true := by first | rfl | assumption | exact (NOk.ms (by assumption)) | exact (NOk.nm (by assumption)) | exact (NOk.kd (by assumption)) | exact (KVn.cell (by assumption))) : (nodeC k op n ms rg off md nm sd bl kd).all AV.isCell = true := node_cells hms hnm hkd
def mz (n a : Nat) (e : Int) : Nat := if e = 0 then n + 1 - a else 0
/-- What is said of a function that reads a node: where it stands, and the node in memory. -/
def NP (n tb X a : Nat) (e : Int) (v : AV) (D : HSt) : Prop := ∃ (x : NodT) (hq : HSt) (a2 : Nat) (dp2 e2 bd2 : Int), v = .agg (nC x) ∧ NOk hq x ∧ (∀ y ∈ hq, y.w = true) ∧ a ≤ a2 ∧ a2 ≤ n ∧ (e ≠ 0 → e2 = e ∧ a2 = a) ∧ (e2 = 0 → e = 0 ∧ a < a2) ∧
  D = ⟨X, ⟨5, true, [.slice tb 0 (n + 1) 4, .int .i64 ((a2 : Nat) : Int), .int .i64 dp2, .int .i64 e2, .int .i64 bd2]⟩, true⟩ :: hq
def PP (n tb X a : Nat) (e : Int) (v : AV) (D : HSt) : Prop := ∃ (len : Nat) (hq : HSt) (a2 : Nat) (dp2 e2 bd2 : Int), KVn hq len v ∧ (∀ y ∈ hq, y.w = true) ∧ a ≤ a2 ∧ a2 ≤ n ∧ (e ≠ 0 → e2 = e ∧ a2 = a) ∧ (e2 = 0 → e = 0 ∧ a < a2) ∧
  D = ⟨X, ⟨5, true, [.slice tb 0 (n + 1) 4, .int .i64 ((a2 : Nat) : Int), .int .i64 dp2, .int .i64 e2, .int .i64 bd2]⟩, true⟩ :: hq
def PIH (toks : List TokT) (n tb : Nat) (ex : Bool) (X m : Nat) : Prop := ∀ (a : Nat) (dp e bd : Int), a ≤ n →
  (∀ l : Nat, l ≤ 5 → mz n a e * 20 + (9 - l) < m → Spec tab 19 [.ptr X 0, .int .i64 ((l : Nat) : Int)] [X] [⟨X, ⟨5, true, [.slice tb 0 (n + 1) 4, .int .i64 ((a : Nat) : Int), .int .i64 dp, .int .i64 e, .int .i64 bd]⟩, true⟩, ⟨tb, ⟨4, ex, tokCs toks⟩, false⟩] (NP n tb X a e)) ∧ (mz n a e * 20 + 3 < m → Spec tab 30 [.ptr X 0] [X] [⟨X, ⟨5, true, [.slice tb 0 (n + 1) 4, .int .i64 ((a : Nat) : Int), .int .i64 dp, .int .i64 e, .int .i64 bd]⟩, true⟩, ⟨tb, ⟨4, ex, tokCs toks⟩, false⟩] (NP n tb X a e)) ∧ (mz n a e * 20 + 2 < m → Spec tab 44 [.ptr X 0] [X] [⟨X, ⟨5, true, [.slice tb 0 (n + 1) 4, .int .i64 ((a : Nat) : Int), .int .i64 dp, .int .i64 e, .int .i64 bd]⟩, true⟩, ⟨tb, ⟨4, ex, tokCs toks⟩, false⟩] (NP n tb X a e)) ∧
  (e = 0 → (tg toks a).1 = 1 → mz n a e * 20 + 1 < m → Spec tab 56 [.ptr X 0] [X] [⟨X, ⟨5, true, [.slice tb 0 (n + 1) 4, .int .i64 ((a : Nat) : Int), .int .i64 dp, .int .i64 e, .int .i64 bd]⟩, true⟩, ⟨tb, ⟨4, ex, tokCs toks⟩, false⟩] (NP n tb X a e)) ∧ (∀ bn : Bool, mz n a e * 20 + 0 < m → Spec tab 57 [.ptr X 0, .bool bn] [X] [⟨X, ⟨5, true, [.slice tb 0 (n + 1) 4, .int .i64 ((a : Nat) : Int), .int .i64 dp, .int .i64 e, .int .i64 bd]⟩, true⟩, ⟨tb, ⟨4, ex, tokCs toks⟩, false⟩] (PP n tb X a e))
end Go.Proofs.Ytnlnmbnopdklhaa.Ev

/- Chapter 16, by the document: operators. -/
namespace Go.Proofs.Ytnlnmbnopdklhaa.Ev
open Go.RowKit
set_option linter.unusedVariables false
set_option linter.unusedSimpArgs false
set_option maxRecDepth 100000
set_option maxHeartbeats 1000000
theorem nodes2_cells {a b : List AV} (h : a.all AV.isCell = true) (g : b.all AV.isCell = true) : (a ++ b).all AV.isCell = true := by rw [List.all_append, h, g]; rfl
end Go.Proofs.Ytnlnmbnopdklhaa.Ev

/- Chapter 16, by the document: parts, aggregations. -/
namespace Go.Proofs.Ytnlnmbnopdklhaa.Ev
open Go.RowKit
set_option linter.unusedVariables false
set_option linter.unusedSimpArgs false
set_option maxRecDepth 100000
set_option maxHeartbeats 1000000
/-- A list that is a function's own, as one thing. -/
structure OwT where
  len : Nat
  cs : List AV
  v : AV
  hp : HSt
end Go.Proofs.Ytnlnmbnopdklhaa.Ev

/- Chapter 16, by the document: Parse. -/
namespace Go.Proofs.Ytnlnmbnopdklhaa.Ev
open Go.RowKit
set_option linter.unusedVariables false
set_option linter.unusedSimpArgs false
set_option maxRecDepth 100000
set_option maxHeartbeats 1000000
/-- Tokens, the last of which is of kind 6; or an error. -/
def scanQ (v : AV) (D : HSt) : Prop :=
  (∃ a e : Int, e ≠ 0 ∧ v = .tuple [.nils, .int .i64 a, .int .i64 e] ∧ D = []) ∨
  ∃ (b : Nat) (ex : Bool) (toks : List TokT) (n : Nat), v = .tuple [.slice b 0 (n + 1) 4, .int .i64 ((0 : Nat) : Int), .int .i64 ((0 : Nat) : Int)] ∧ D = [⟨b, ⟨4, ex, tokCs toks⟩, true⟩] ∧ toks.length = n + 1 ∧ n ≤ 1048576 ∧ TokO toks ∧ (tg toks n).1 = 6
/-- A tree, or an error. -/
def PAP (v : AV) (D : HSt) : Prop := ∃ (x : NodT) (hq : HSt) (at_ e : Int), v = .tuple [.agg (nC x), .int .i64 at_, .int .i64 e] ∧ NOk hq x ∧ (∀ y ∈ hq, y.w = true) ∧ D = hq
end Go.Proofs.Ytnlnmbnopdklhaa.Ev

/- The layer's examples hold (lives). -/
namespace Go.Proofs.Ytnlnmbnopdklhaa.Ev
open Go.RowKit
set_option maxRecDepth 1000000
noncomputable def tabP : Tab := tabOf Try.prog
theorem tabP_is (J : Ctx) : TabOK Try.prog tabP J := tab_ok (by kernel_rfl) (by kernel_rfl)
theorem lives_ev : givesQ (callQ tabP (qFns tabP Try.prog.funcs.toList) 3000 300 10 [] ⟨0, .leaf⟩) (.bool true) = true := by kernel_rfl
theorem lives_any (w : World) : Calls Try.prog 10 #[] w fun e w' => e = .returned (.bool true) ∧ Below w.heap.size w w' :=
  quick_call (l := []) (tabP_is _) (qFns_ok tabP _ rfl) (v := .bool true) rfl lives_ev (.nil _) w
end Go.Proofs.Ytnlnmbnopdklhaa.Ev

/- CheckTypes, of any text: the program's type of the tree is the document's. -/
namespace Go.Proofs.Ytnlnmbnopdklhaa.Ev
open Go.RowKit
set_option linter.unusedVariables false
set_option linter.unusedSimpArgs false
set_option maxRecDepth 100000
set_option maxHeartbeats 1000000
theorem lives_spec {hs : HSt} : Spec tab 10 [] [] hs (Val (.bool true)) := Spec.known fun _ => rfl
theorem orc_ok : ∀ f args h v, orc f args h = some v → ∀ M N (w0 : Base (ctxOf [])) (vs : Array Value) w, HRel M N w0 h w → LRel M args vs.toList →
    (∃ fn, Try.prog.funcs[f]? = some fn ∧ fn.body.isSome = true ∧ (fn.name == "runtime.NumGoroutine") = false) ∧
    Calls Try.prog f vs w fun e w' => ∃ u, e = .returned u ∧ VRel M v u ∧ Below w.heap.size w w' := by
  intro f args h v ho M N w0 vs w hh hr
  unfold orc at ho
  split at ho
  · rename_i hf
    have hf := Nat.eq_of_beq_eq_true hf
    subst hf
    split at ho
    rotate_left
    · cases ho
    simp only [Option.some.injEq] at ho
    subst ho
    refine ⟨⟨_, Try.func10, by kernel_rfl, by kernel_rfl⟩, ?_⟩
    obtain ⟨cs⟩ := vs
    match cs, hr with
    | [], hr =>
      refine (lives_any w).mono ?_
      rintro e w' ⟨rfl, hB⟩
      exact ⟨_, rfl, .bool _, hB⟩
    | _ :: _, hr => have := hr.1; simp at this
  · cases ho
theorem tab_is : TabOK Try.prog tab (ctxOf []) := tab_knows (tab_ok (by kernel_rfl) (by kernel_rfl)) (fun _ _ _ _ _ h => by cases h) (fun _ _ _ h => by cases h) orc_ok
end Go.Proofs.Ytnlnmbnopdklhaa.Ev
