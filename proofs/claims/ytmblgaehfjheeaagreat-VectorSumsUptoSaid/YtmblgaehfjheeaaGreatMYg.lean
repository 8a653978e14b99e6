/- Chapters 6 and 19, walks: labels without some names, copies. -/
import Derived.Test.YtmblgaehfjheeaaGreatMYd
namespace Go.Proofs.YtmblgaehfjheeaaGreat.Ev
open Go.RowKit
set_option linter.unusedVariables false
set_option linter.unusedSimpArgs false
set_option maxRecDepth 100000
set_option maxHeartbeats 1000000
theorem SIn.cell {hs : HSt} {N : List (List Nat)} {v : AV} (h : SIn hs N v) : v.isCell = true := by
  rcases h with ⟨rfl, _⟩ | ⟨b, sz, ex, rfl, _⟩ <;> rfl
theorem WO.box1 {tb : Tab} {n : Nat} {E : Env} {s : St} {hs : HSt} {R : T AV → AHeap → Prop} {ops rest : List Oper} {d : Nat} {t : TypeId} {ty : TypeId} {pos : String} {aft : Array Edge} {ox : Operand} {v : AV} {ob : AObj} (hx : oL s ox = some v) (hc : v.isCell = true) (ho : varObj tb t [v] = ob) (hd : Nat.blt d n = true)
    (hk : ∀ b, WO tb n ops rest E ((d, .ptr b 0) :: s) (⟨b, ob, true⟩ :: hs) R) : WO tb n ops (⟨some d, .box t ox, ty, pos, aft, none⟩ :: rest) E s hs R := by
  have e : v.cells = [v] := by cases v <;> first | rfl | cases hc
  exact WO.box hx (by rw [e]; simp [hc]) (by rw [e]; exact ho) hd hk
theorem sub_f1 {hs : HSt} {b : Nat} {o : AObj} {w : Bool} (hro : ∀ e ∈ hs, e.w = false) : SubR (⟨b, o, false⟩ :: hs) (⟨b, o, w⟩ :: hs) := by
  refine ⟨fun e he => ?_, fun hn => by simpa using hn⟩
  rcases List.mem_cons.1 he with rfl | he
  · exact ⟨rfl, w, List.mem_cons_self⟩
  · exact ⟨hro e he, e.w, List.mem_cons_of_mem _ (by obtain ⟨b, o, w⟩ := e; exact he)⟩
def dropP (N : List (List Nat)) : Lab → Bool := fun x => !(decide (x.1 ∈ N))
def pickP (N : List (List Nat)) (sm : Bool) : Lab → Bool := fun x => decide (x.1 ∈ N) == sm
theorem nm_sbd : SBd [[95, 95, 110, 97, 109, 101, 95, 95]] := ⟨by decide, fun x hx => by simp at hx; subst hx; unfold Bytes; decide⟩
theorem bv_eqNN {tb : Tab} {t e : Nat} (hu : tb.und t = some (.slice e)) : evBin tb .eql t .nils .nils = some (.bool true) := by
  show (match eqIn tb 20 t .nils .nils with | some b => some (AV.bool b) | none => none) = _
  unfold eqIn
  simp only [hu]
  rfl
theorem bv_eqSN {tb : Tab} {t e b o n z : Nat} (hu : tb.und t = some (.slice e)) : evBin tb .eql t (.slice b o n z) .nils = some (.bool false) := by
  show (match eqIn tb 20 t (.slice b o n z) .nils with | some b => some (AV.bool b) | none => none) = _
  unfold eqIn
  simp only [hu]
  rfl
theorem drop_spec (hs : HSt) (hro : ∀ e ∈ hs, e.w = false) (A : List Lab) (va : AV) (ha : LIn hs A va) (hA : LBd A) (N : List (List Nat)) (vn : AV) (hN : SIn hs N vn) (hNb : SBd N) : Spec tab 79 [va, vn] [] hs (fun v D => OwnE 2 (cL (A.filter (dropP N))) (A.filter (dropP N)).length v D) := by
 refine Spec.enter' (ft_get 79 Tryz.func79) rfl (m := 8) rfl (rs := [.tmp 4]) rfl (st := [(0, va), (1, vn)]) rfl rfl (fun _ => rfl) (fun E => zr (WO.box1 rfl (SIn.cell hN) (bx40 _ rfl) rfl (fun b1 => za rfl (zk (zr (zm rfl (zq (Q.makeF (oLs_cons rfl oLs_nil)) (WO.call0 rfl (oLs_cons rfl (oLs_cons rfl oLs_nil)) rfl (those_spec (hs := ⟨b1, ⟨1, true, [vn]⟩, false⟩ :: hs) (by intro e he; rcases List.mem_cons.1 he with rfl | he; rfl; exact hro e he) A _ (ha.mono fun b o h => h.tl) hA (dropP N) 116 [.ptr b1 0] (fun x h1 h2 => drop1_spec (hs := ⟨b1, ⟨1, true, [vn]⟩, false⟩ :: hs) (by intro e he; rcases List.mem_cons.1 he with rfl | he; rfl; exact hro e he) N vn (hN.mono fun b o h => h.tl) hNb b1 true ⟨_, List.mem_cons_self⟩ x.1 x.2 h1 h2)) (sub_f1 hro) rfl (fun v7 D7 hP7 => WO.subH (hs' := _ :: (hs ++ D7)) (SubH.of_perm (perm_tail (N := []) (G := D7) (K := [_]) (X := hs))) (za rfl (zk (W.ret ?_))))))))))))
 refine End.ret (z1 rfl) (hs' := D7) hP7 (OwnE.w hP7) gc

theorem nless_spec (hs : HSt) (hro : ∀ e ∈ hs, e.w = false) (A : List Lab) (va : AV) (ha : LIn hs A va) (hA : LBd A) : Spec tab 33 [va] [] hs (fun v D => OwnE 2 (cL (A.filter (dropP [[95, 95, 110, 97, 109, 101, 95, 95]]))) (A.filter (dropP [[95, 95, 110, 97, 109, 101, 95, 95]])).length v D) := by
 refine Spec.enter' (ft_get 33 Tryz.func33) rfl (m := 6) rfl (rs := [.tmp 2]) rfl (st := [(0, va)]) rfl rfl (fun _ => rfl) (fun E => zr (za rfl (zk (zr (zm rfl (WO.bslice ud40 sz9 zr9 rfl (oPs_cons (oc (v := .str [95, 95, 110, 97, 109, 101, 95, 95]) (by kernel_rfl)) oPs_nil) rfl (cs := [_]) rfl rfl rfl (fun b1 => WO.call0 rfl (oLs_cons rfl (oLs_cons rfl oLs_nil)) rfl (drop_spec (hs := ⟨b1, ⟨1, true, [.str [95, 95, 110, 97, 109, 101, 95, 95]]⟩, false⟩ :: hs) (by intro e he; rcases List.mem_cons.1 he with rfl | he; rfl; exact hro e he) A _ (ha.mono fun b o h => h.tl) hA [[95, 95, 110, 97, 109, 101, 95, 95]] (.slice b1 0 1 1) (.inr ⟨b1, 1, true, rfl, _, List.mem_cons_self⟩) nm_sbd) (sub_f1 hro) rfl (fun v5 D5 hP5 => WO.subH (hs' := _ :: (hs ++ D5)) (SubH.of_perm (perm_tail (N := []) (G := D5) (K := [_]) (X := hs))) (za rfl (zk (W.ret ?_)))))))))))
 refine End.ret (z1 rfl) (hs' := D5) hP5 (OwnE.w hP5) gc

theorem clone_nil  : Spec tab 80 [.nils] [] [] (Val (.nils)) := by
 refine Spec.enter' (ft_get 80 Tryz.func80) rfl (m := 8) rfl (rs := [.tmp 2]) rfl (st := [(0, .nils)]) rfl rfl (fun _ => rfl) (fun E => zr (za rfl (zk (W.seq (zr (zm rfl (zq (Q.bin rfl rfl rfl (bv_eqNN ud33)) (zk (W.condT rfl (zr (za rfl (zk (W.ret (End.K_ret (End.retV (z1 rfl) ?_)))))))))))))))
 rfl

theorem clone_some (hs : HSt) (hro : ∀ e ∈ hs, e.w = false) (A : List Lab) (b : Nat) (ha : LIn hs A (.slice b 0 A.length 2)) (hA : LBd A) : Spec tab 80 [.slice b 0 A.length 2] [] hs (fun v D => OwnE 2 (cL A) A.length v D) := by
 have hAl := hA.1
 refine Spec.enter' (ft_get 80 Tryz.func80) rfl (m := 8) rfl (rs := [.tmp 2]) rfl (st := [(0, .slice b 0 A.length 2)]) rfl rfl (fun _ => rfl) (fun E => zr (za rfl (zk (W.seq (zr (zm rfl (zq (Q.bin rfl rfl rfl (bv_eqSN ud33)) (zk (W.condF rfl (zw (zr (WO.bslice ud33 sz68 zr68 rfl oPs_nil rfl (cs := []) rfl rfl rfl (fun b1 => zm rfl (WO.appAny (A := _) ap33_33 (OwnE.cons rfl) rfl rfl (Src.mono (fun e he => MemH.tl ⟨e.w, by obtain ⟨b, o, w⟩ := e; exact he⟩) (Src.lin ha)) (cL_len A) (by omega) (by decide) (SubH.of_perm (List.perm_append_singleton _ _)) rfl (fun v7 hp7 hO7 => za rfl (zk (W.ret ?_)))))))))))))))))
 refine End.ret (z1 rfl) (hs' := hp7) (by rw [one1]; simpa using hO7) (OwnE.w hO7) gc
theorem clone_spec (hs : HSt) (hro : ∀ e ∈ hs, e.w = false) (A : List Lab) (va : AV) (ha : LIn hs A va) (hA : LBd A) : Spec tab 80 [va] [] hs (fun v D => OwnE 2 (cL A) A.length v D) := by
  rcases id ha with ⟨rfl, rfl⟩ | ⟨b, sz, ex, rfl, _⟩
  · intro h hh
    obtain ⟨v, h', hs', h1, ⟨h2, h3⟩, h4, h5⟩ := clone_nil h (hh.sub (SubH.nil _))
    exact ⟨v, h', hs', h1, .inl ⟨rfl, rfl, h2, h3⟩, h4, h5⟩
  · exact clone_some hs hro A b ha hA
theorem cells_cell {v : AV} (h : v.isCell = true) : v.cells = [v] := by cases v <;> first | rfl | cases h
theorem fillE1 {v : AV} (h : v.isCell = true) : fillA (fun i => some (i * 1, 1)) (repl 1 AV.nils.cells) [(0, v)] = some [v] := by
  simp only [fillA, cells_cell h]; rfl
theorem fillE2 {v : AV} {n m : Int} (h : v.isCell = true) : fillA (fun i => [(0, 1), (1, 1)][i]?) [.nils, .int .i64 m] [(0, v), (1, .int .i64 n)] = some [v, .int .i64 n] := by
  simp only [fillA, cells_cell h]; rfl
def TIn (hs : HSt) (V : List El) (v : AV) : Prop := ((v = .nils ∧ V = []) ∨ ∃ b sz ex, v = .slice b 0 V.length 1 ∧ MemH hs b ⟨sz, ex, V.map (·.1)⟩) ∧ ∀ x ∈ V, LIn hs x.2.1 x.1
theorem TIn.len {hs : HSt} {V : List El} {v : AV} {e : Nat} (h : TIn hs V v) : lenA (.slice e) v = some V.length := by
  rcases h.1 with ⟨rfl, rfl⟩ | ⟨b, sz, ex, rfl, _⟩ <;> rfl
theorem TIn.full {hs : HSt} {V : List El} {v : AV} (h : TIn hs V v) (hl : 0 < V.length) : ∃ b sz ex, v = .slice b 0 V.length 1 ∧ MemH hs b ⟨sz, ex, V.map (·.1)⟩ := by
  rcases h.1 with ⟨_, rfl⟩ | h
  · simp at hl
  · exact h
theorem TIn.at {hs : HSt} {V : List El} {v : AV} (h : TIn hs V v) {i : Nat} (hi : i < V.length) : LIn hs (eg V i).2.1 (eg V i).1 := h.2 _ (eg_mem hi)
theorem TIn.own {hs hp : HSt} {V : List El} {u : AV} (h : Own 1 (V.map (·.1)) V.length u hp) (g : ∀ x ∈ V, LIn hs x.2.1 x.1) : TIn (ro hp ++ hs) V u := by
  refine ⟨?_, fun x hx => (g x hx).mono fun b o h => h.app⟩
  rcases h with ⟨h1, _, h3, _⟩ | ⟨b, ex, h1, h2, _, _⟩
  · exact .inl ⟨h3, List.length_eq_zero_iff.1 h1⟩
  · refine .inr ⟨b, 1, ex, h1, false, ?_⟩
    subst h2
    exact List.mem_append_left _ (List.mem_map.2 ⟨_, List.mem_singleton.2 rfl, rfl⟩)
theorem ro_app {hp hs : HSt} (hro : ∀ e ∈ hs, e.w = false) : ∀ e ∈ ro hp ++ hs, e.w = false := by
  intro e he
  rcases List.mem_append.1 he with he | he
  · exact ro_w e he
  · exact hro e he
theorem sub_ro {hp hs : HSt} (hro : ∀ e ∈ hs, e.w = false) : SubR (ro hp ++ hs) (hs ++ hp) := by
  refine ⟨fun e he => ?_, fun hn => ?_⟩
  · rcases List.mem_append.1 he with he | he
    · obtain ⟨x, hx, rfl⟩ := List.mem_map.1 he
      exact ⟨rfl, x.w, List.mem_append_right _ (by obtain ⟨b, o, w⟩ := x; exact hx)⟩
    · exact ⟨hro e he, e.w, List.mem_append_left _ (by obtain ⟨b, o, w⟩ := e; exact he)⟩
  · have e : (ro hp ++ hs).map (·.b) = hp.map (·.b) ++ hs.map (·.b) := by simp [ro]
    rw [e]
    rw [List.map_append] at hn
    exact (List.perm_append_comm.nodup_iff).1 hn
theorem cT_at {V : List El} {i : Nat} (h : i < V.length) : (V.map (·.1))[(0 + i) * 1]? = some (eg V i).1 := by
  unfold eg
  rw [Nat.zero_add, Nat.mul_one, List.getElem?_map, List.getD_eq_getElem?_getD, List.getElem?_eq_getElem h]; rfl
def fstE (g : Nat → Nat) : Nat → Nat → Nat
  | 0, _ => 0
  | n + 1, i => if g i ≠ 0 then g i else fstE g n (i + 1)
theorem fst_hit {g : Nat → Nat} {i n e : Nat} (h : i < n) (h1 : g i = e) (he : e ≠ 0) : fstE g (n - i) i = e := by
  have : n - i = (n - (i + 1)) + 1 := by omega
  rw [this, fstE, h1, if_pos he]
theorem fst_next {g : Nat → Nat} {i n : Nat} (h : i < n) (h1 : g i = 0) : fstE g (n - i) i = fstE g (n - (i + 1)) (i + 1) := by
  have : n - i = (n - (i + 1)) + 1 := by omega
  rw [this, fstE, h1, if_neg (by simp)]
theorem fst_done {g : Nat → Nat} {i n : Nat} (h : n ≤ i) : fstE g (n - i) i = 0 := by
  have : n - i = 0 := by omega
  rw [this, fstE]
noncomputable def ichk1 (V : List El) (i : Nat) : Nat := if lchk (eg V i).2.1 ≠ 0 then lchk (eg V i).2.1 else if 0 < i ∧ 0 ≤ cmpL (eg V (i - 1)).2.1 (eg V i).2.1 then 13 else 0
noncomputable def ichk (V : List El) : Nat := if 256 < V.length then 3 else fstE (ichk1 V) V.length 0
theorem ichk_big {V : List El} (h : 256 < V.length) : ichk V = 3 := if_pos h
theorem ichk_go {V : List El} (h : ¬ 256 < V.length) : ichk V = fstE (ichk1 V) (V.length - 0) 0 := if_neg h
noncomputable def vchk (V : List El) : Nat := if ichk V ≠ 0 then ichk V else if fitsE V then 0 else 11
theorem take_el {V : List El} {i : Nat} (h : i < V.length) : V.take (i + 1) = V.take i ++ [eg V i] := by
  rw [List.take_add_one, List.getElem?_eq_getElem h]
  unfold eg
  rw [List.getD_eq_getElem?_getD, List.getElem?_eq_getElem h]; rfl
theorem EBd.take {V : List El} (h : EBd V) (k : Nat) : EBd (V.take k) := ⟨by rw [List.length_take]; have := h.1; omega, fun x hx => h.2 x (List.mem_of_mem_take hx)⟩
theorem vchk_e {V : List El} (h : ichk V ≠ 0) : vchk V = ichk V := if_pos h
section
variable {tb : Tab} {n : Nat} {E : Env} {s : St} {hs : HSt} {R : T AV → AHeap → Prop} {ops rest : List Oper} {d : Nat} {t : TypeId} {ty : TypeId} {pos : String} {aft : Array Edge}
theorem WO.makeMap {kt et : Nat} (hu : mapTypes (tb.und t) = some (kt, et)) (hd : Nat.blt d n = true) (hk : ∀ b, WO tb n ops rest E ((d, .map b) :: s) (⟨b, ⟨0, true, []⟩, true⟩ :: hs) R) :
    WO tb n ops (⟨some d, .makeMap t none, ty, pos, aft, none⟩ :: rest) E s hs R := by
  refine WO.l (s' := s) fun tm h ht hh => ?_
  refine ⟨.map h.next, ⟨h.next + 1, h.objs.set h.next ⟨0, true, []⟩⟩, tm.set d (.map h.next), ?_, putDst_at hd, hk h.next _ _ (ht.set d _) (hh.new _)⟩
  show Res.l (evMakeMap tb tm h t none) = _
  unfold evMakeMap
  simp only [hu]
theorem WO.entryS {ox ok : Operand} {kt et i b cnt j : Nat} {ex : Bool} {cells : List AV} {k z v m : AV} (hu : mapTypes (tb.und t) = some (kt, et)) (hx : oL s ox = some (.map b)) (hy : oL s ok = some k) (hi : hs[i]? = some ⟨b, ⟨cnt, ex, cells⟩, true⟩)
    (hkey : keyOk tb (tb.und kt) k = true) (hz : tb.zero et = some z) (hf : findM (eqIn tb 20 kt) k cells 0 = some (some j)) (h0 : cells[3 * j]? = some k) (hb : k.beq k = true) (h1 : cells[3 * j + 1]? = some v) (h2 : cells[3 * j + 2]? = some m) (hd : Nat.blt d n = true)
    (hk : WO tb n ops rest E ((d, .tuple [v, m]) :: s) hs R) : WO tb n ops (⟨some d, .mapEntry t ox ok, ty, pos, aft, none⟩ :: rest) E s hs R := by
  refine WO.l (s' := s) fun tm h ht hh => ?_
  have hob := (hh.at_ _ (mem_at hi)).1
  simp only at hob
  refine ⟨.tuple [v, m], h, tm.set d (.tuple [v, m]), ?_, putDst_at hd, hk _ _ (ht.set d _) hh⟩
  show Res.l (evMapEntry tb tm h t ox ok) = _
  unfold evMapEntry
  simp only [hu, oL_ok ht hx, oL_ok ht hy, hkey, hob, hz, hf]
  unfold entryA
  simp only [h0, h1, h2, hb]
theorem WO.entryN {ox ok : Operand} {kt et i b cnt : Nat} {ex : Bool} {cells : List AV} {k z : AV} {hs' : HSt} (hu : mapTypes (tb.und t) = some (kt, et)) (hx : oL s ox = some (.map b)) (hy : oL s ok = some k) (hi : hs[i]? = some ⟨b, ⟨cnt, ex, cells⟩, true⟩)
    (hkey : keyOk tb (tb.und kt) k = true) (hz : tb.zero et = some z) (hf : findM (eqIn tb 20 kt) k cells 0 = some none) {cs : List AV} (hc : cells ++ [k, z, .int .i64 ((cnt : Nat) : Int)] = cs) (hs_ : hs.set i ⟨b, ⟨cnt + 1, ex, cs⟩, true⟩ = hs') (hd : Nat.blt d n = true)
    (hk : WO tb n ops rest E ((d, .tuple [z, .int .i64 ((cnt : Nat) : Int)]) :: s) hs' R) : WO tb n ops (⟨some d, .mapEntry t ox ok, ty, pos, aft, none⟩ :: rest) E s hs R := by
  refine WO.l (s' := s) fun tm h ht hh => ?_
  have hob := (hh.at_ _ (mem_at hi)).1
  simp only at hob
  subst hs_ hc
  refine ⟨.tuple [z, .int .i64 ((cnt : Nat) : Int)], ⟨h.next, h.objs.set b ⟨cnt + 1, ex, cells ++ [k, z, .int .i64 ((cnt : Nat) : Int)]⟩⟩, tm.set d (.tuple [z, .int .i64 ((cnt : Nat) : Int)]), ?_, putDst_at hd, hk _ _ (ht.set d _) (hh.put hi)⟩
  show Res.l (evMapEntry tb tm h t ox ok) = _
  unfold evMapEntry
  simp only [hu, oL_ok ht hx, oL_ok ht hy, hkey, hob, hz, hf]
  rfl
theorem WO.entryPut {om os oy : Operand} {i b cnt j : Nat} {ex : Bool} {kd : IntKind} {m : Int} {cells cs : List AV} {v : AV} {hs' : HSt} (hx : oL s om = some (.map b)) (hm : oL s os = some (.int kd m)) (hy : oL s oy = some v) (hi : hs[i]? = some ⟨b, ⟨cnt, ex, cells⟩, true⟩)
    (hf : findB m cells 0 = some j) (hl : layL cells (3 * j + 1) [v] = cs) (hs_ : hs.set i ⟨b, ⟨cnt, ex, cs⟩, true⟩ = hs') (hk : WO tb n ops rest E s hs' R) :
    WO tb n ops (⟨none, .entryStore t om os oy, ty, pos, aft, none⟩ :: rest) E s hs R := by
  refine WO.l (s' := s) fun tm h ht hh => ?_
  have hob := (hh.at_ _ (mem_at hi)).1
  simp only at hob
  subst hs_
  refine ⟨.tuple [], ⟨h.next, h.objs.set b ⟨cnt, ex, cs⟩⟩, tm, ?_, rfl, hk _ _ ht (hh.put hi)⟩
  show Res.l (evEntryStore tm h om os oy) = _
  unfold evEntryStore
  simp only [oL_ok ht hx, oL_ok ht hm, oL_ok ht hy, hob, hf, hl]
variable {keep : HSt} {q p : Nat}
theorem WD.entryS {ox ok : Operand} {kt et i b cnt j : Nat} {ex : Bool} {cells : List AV} {k z v m : AV} (hu : mapTypes (tb.und t) = some (kt, et)) (hx : oL s ox = some (.map b)) (hy : oL s ok = some k) (hi : hs[i]? = some ⟨b, ⟨cnt, ex, cells⟩, true⟩)
    (hkey : keyOk tb (tb.und kt) k = true) (hz : tb.zero et = some z) (hf : findM (eqIn tb 20 kt) k cells 0 = some (some j)) (h0 : cells[3 * j]? = some k) (hb : k.beq k = true) (h1 : cells[3 * j + 1]? = some v) (h2 : cells[3 * j + 2]? = some m) (hd : Nat.blt d n = true) (hkp : KIn keep hs)
    (hk : WD tb n ops keep q (p + 1) rest E ((d, .tuple [v, m]) :: s) hs R) : WD tb n ops keep q p (⟨some d, .mapEntry t ox ok, ty, pos, aft, none⟩ :: rest) E s hs R :=
  WD.l (C := fun v' hs' => v' = .tuple [v, m] ∧ hs' = hs) (fun tm h r e => by cases e) (fun R hR => WO.entryS hu hx hy hi hkey hz hf h0 hb h1 h2 hd (WO.nil (hR _ _ ⟨rfl, rfl⟩)))
    (fun v' hs' ⟨_, h2⟩ _ => by subst h2; exact hkp) (fun v' hs' ⟨h1, h2⟩ => by subst h1 h2; exact hk)
theorem WD.entryN {ox ok : Operand} {kt et i b cnt : Nat} {ex : Bool} {cells : List AV} {k z : AV} {hs' : HSt} (hu : mapTypes (tb.und t) = some (kt, et)) (hx : oL s ox = some (.map b)) (hy : oL s ok = some k) (hi : hs[i]? = some ⟨b, ⟨cnt, ex, cells⟩, true⟩)
    (hkey : keyOk tb (tb.und kt) k = true) (hz : tb.zero et = some z) (hf : findM (eqIn tb 20 kt) k cells 0 = some none) {cs : List AV} (hc : cells ++ [k, z, .int .i64 ((cnt : Nat) : Int)] = cs) (hs_ : hs.set i ⟨b, ⟨cnt + 1, ex, cs⟩, true⟩ = hs') (hd : Nat.blt d n = true) (hkp : KIn keep hs')
    (hk : WD tb n ops keep q (p + 1) rest E ((d, .tuple [z, .int .i64 ((cnt : Nat) : Int)]) :: s) hs' R) : WD tb n ops keep q p (⟨some d, .mapEntry t ox ok, ty, pos, aft, none⟩ :: rest) E s hs R :=
  WD.l (C := fun v' hs1 => v' = .tuple [z, .int .i64 ((cnt : Nat) : Int)] ∧ hs1 = hs') (fun tm h r e => by cases e) (fun R hR => WO.entryN hu hx hy hi hkey hz hf hc hs_ hd (WO.nil (hR _ _ ⟨rfl, rfl⟩)))
    (fun v' hs1 ⟨_, h2⟩ _ => by subst h2; exact hkp) (fun v' hs1 ⟨h1, h2⟩ => by subst h1 h2; exact hk)
theorem WD.entryPut {om os oy : Operand} {i b cnt j : Nat} {ex : Bool} {kd : IntKind} {m : Int} {cells cs : List AV} {v : AV} {hs' : HSt} (hx : oL s om = some (.map b)) (hm : oL s os = some (.int kd m)) (hy : oL s oy = some v) (hi : hs[i]? = some ⟨b, ⟨cnt, ex, cells⟩, true⟩)
    (hf : findB m cells 0 = some j) (hl : layL cells (3 * j + 1) [v] = cs) (hs_ : hs.set i ⟨b, ⟨cnt, ex, cs⟩, true⟩ = hs') (hkp : Nat.ble (p + 1) q = true → KIn keep hs') (hk : WD tb n ops keep q (p + 1) rest E s hs' R) :
    WD tb n ops keep q p (⟨none, .entryStore t om os oy, ty, pos, aft, none⟩ :: rest) E s hs R := by
  intro tm h ht hh hkp0
  subst hs_
  have hob := (hh.at_ _ (mem_at hi)).1
  simp only at hob
  have hH := hh.put (ob' := ⟨cnt, ex, cs⟩) hi
  refine wd_step (v := .tuple []) (k := 2) (h1 := ⟨h.next, h.objs.set b ⟨cnt, ex, cs⟩⟩) (tm1 := tm) ?_ rfl (fun h => by cases h) (fun _ hm => (hkp (Nat.ble_eq.mpr hm)).keepIn hH) (hk tm _ ht hH (fun hm => (hkp (Nat.ble_eq.mpr hm)).keepIn hH))
  unfold ev1
  have : wantedA ops tm ⟨none, .entryStore t om os oy, ty, pos, aft, none⟩ = some true := rfl
  rw [this]
  have he : evOp tb (callOf (Ev.callE tb)) tm h (.entryStore t om os oy) = .l (some (.tuple [], ⟨h.next, h.objs.set b ⟨cnt, ex, cs⟩⟩)) := by
    show Res.l (evEntryStore tm h om os oy) = _
    unfold evEntryStore
    simp only [oL_ok ht hx, oL_ok ht hm, oL_ok ht hy, hob, hf, hl]
  simp only [he]
end
abbrev Me := Lab × AV
def kA (k : Lab) : AV := .agg [.str k.1, .str k.2]
def mapC : Nat → List Me → List AV
  | _, [] => []
  | i, x :: M => kA x.1 :: x.2 :: .int .i64 ((i : Nat) : Int) :: mapC (i + 1) M
theorem mapC_append : ∀ (M N : List Me) (i : Nat), mapC i (M ++ N) = mapC i M ++ mapC (i + M.length) N
  | [], N, i => rfl
  | x :: M, N, i => by
    simp only [List.cons_append, mapC, mapC_append M N, List.length_cons]
    rw [show i + 1 + M.length = i + (M.length + 1) by omega]
theorem mapC_push (M : List Me) (k : Lab) (z : AV) : mapC 0 M ++ [kA k, z, .int .i64 ((M.length : Nat) : Int)] = mapC 0 (M ++ [(k, z)]) := by
  rw [mapC_append, Nat.zero_add]; rfl
theorem mapC_get : ∀ (M : List Me) (i j : Nat) (x : Me), M[j]? = some x → (mapC i M)[3 * j]? = some (kA x.1) ∧ (mapC i M)[3 * j + 1]? = some x.2 ∧ (mapC i M)[3 * j + 2]? = some (.int .i64 ((i + j : Nat) : Int))
  | [], i, j, x, h => by simp at h
  | y :: M, i, 0, x, h => by simp at h; subst h; exact ⟨rfl, rfl, rfl⟩
  | y :: M, i, j + 1, x, h => by
    obtain ⟨h1, h2, h3⟩ := mapC_get M (i + 1) j x (by simpa using h)
    have e : i + 1 + j = i + (j + 1) := by omega
    rw [e] at h3
    have e1 : 3 * (j + 1) = 3 * j + 1 + 1 + 1 := by omega
    rw [e1]
    exact ⟨h1, h2, h3⟩
theorem mapC_set : ∀ (M : List Me) (i j : Nat) (x : Me) (v : AV), M[j]? = some x → layL (mapC i M) (3 * j + 1) [v] = mapC i (M.set j (x.1, v))
  | [], i, j, x, v, h => by simp at h
  | y :: M, i, 0, x, v, h => by
    simp at h
    subst h
    show kA y.1 :: layL (y.2 :: _) 0 [v] = _
    simp [layL, mapC]
  | y :: M, i, j + 1, x, v, h => by
    have ih := mapC_set M (i + 1) j x v (by simpa using h)
    have e1 : 3 * (j + 1) + 1 = (3 * j + 1) + 1 + 1 + 1 := by omega
    rw [e1]
    simp only [mapC, layL, List.set_cons_succ, ih]
theorem mapC_findB : ∀ (M : List Me) (i j c : Nat), j < M.length → findB ((i + j : Nat) : Int) (mapC i M) c = some (c + j)
  | [], i, j, c, h => by simp at h
  | y :: M, i, 0, c, h => by
    show (match eqA ((i : Nat) : Int) ((i + 0 : Nat) : Int) with | true => some c | false => _) = _
    rw [eq_nat]
    simp
  | y :: M, i, j + 1, c, h => by
    show (match eqA ((i : Nat) : Int) ((i + (j + 1) : Nat) : Int) with | true => some c | false => findB _ (mapC (i + 1) M) (c + 1)) = _
    rw [eq_nat]
    have h1 : decide (i = i + (j + 1)) = false := decide_eq_false (by omega)
    simp only [h1]
    have ih := mapC_findB M (i + 1) j (c + 1) (by simpa using h)
    have e : i + 1 + j = i + (j + 1) := by omega
    rw [e] at ih
    rw [ih]
    congr 1
    omega
theorem key_eq {tb : Tab} {kt e : Nat} (hu : tb.und kt = some (.array 2 e)) (hz : tb.size e = some 1) (hs : tb.und e = some .string) (ha : tb.isAgg e = some false) (x y : Lab) : eqIn tb 20 kt (kA x) (kA y) = some (decide (x = y)) := by
  obtain ⟨a, b⟩ := x
  obtain ⟨c, d⟩ := y
  unfold kA eqIn
  simp only [hu, hz]
  have h1 : ∀ u v : List Nat, eqIn tb 19 e (.str u) (.str v) = some (listBeq u v) := by
    intro u v
    unfold eqIn
    simp only [hs]
  unfold eqElemsA
  simp only [partA, ha, Nat.zero_mul, List.getElem?_cons_zero, h1, eq_str]
  by_cases e1 : a = c
  · subst e1
    simp only [decide_true]
    unfold eqElemsA
    simp only [partA, ha, Nat.zero_add, Nat.one_mul, List.getElem?_cons_succ, List.getElem?_cons_zero, h1, eq_str]
    by_cases e2 : b = d
    · subst e2; simp [eqElemsA]
    · simp [e2]
  · simp [e1]
theorem map_find {eq : AV → AV → Option Bool} (heq : ∀ x y : Lab, eq (kA x) (kA y) = some (decide (x = y))) (k : Lab) : ∀ (M : List Me) (i c : Nat),
    (findM eq (kA k) (mapC i M) c = some none ∧ ∀ x ∈ M, x.1 ≠ k) ∨ ∃ j v, M[j]? = some (k, v) ∧ findM eq (kA k) (mapC i M) c = some (some (c + j))
  | [], i, c => .inl ⟨rfl, fun x h => by simp at h⟩
  | y :: M, i, c => by
    by_cases e : k = y.1
    · refine .inr ⟨0, y.2, by rw [e]; rfl, ?_⟩
      show (match eq (kA k) (kA y.1) with | some true => some (some c) | some false => _ | none => none) = _
      rw [heq, decide_eq_true e]; rfl
    · have h0 : findM eq (kA k) (mapC i (y :: M)) c = findM eq (kA k) (mapC (i + 1) M) (c + 1) := by
        show (match eq (kA k) (kA y.1) with | some true => some (some c) | some false => findM eq (kA k) (mapC (i + 1) M) (c + 1) | none => none) = _
        rw [heq, decide_eq_false e]
      rw [h0]
      rcases map_find heq k M (i + 1) (c + 1) with ⟨h1, h2⟩ | ⟨j, v, h1, h2⟩
      · refine .inl ⟨h1, fun x hx => ?_⟩
        rcases List.mem_cons.1 hx with rfl | hx
        · exact fun g => e g.symm
        · exact h2 x hx
      · refine .inr ⟨j + 1, v, by simpa using h1, ?_⟩
        rw [h2]
        congr 2
        omega
theorem map_new {M : List Me} {k : Lab} {z v : AV} : layL (mapC 0 (M ++ [(k, z)])) (3 * M.length + 1) [v] = mapC 0 (M ++ [(k, v)]) := by
  rw [mapC_set (M ++ [(k, z)]) 0 M.length (k, z) v (by simp)]
  congr 1
  simp
theorem map_newB {M : List Me} {k : Lab} {z : AV} : findB ((M.length : Nat) : Int) (mapC 0 (M ++ [(k, z)])) 0 = some M.length := by
  have := mapC_findB (M ++ [(k, z)]) 0 M.length 0 (by simp)
  simpa using this
theorem map_oldB {M : List Me} {j : Nat} {x : Me} (h : M[j]? = some x) : findB ((0 + j : Nat) : Int) (mapC 0 M) 0 = some j := by
  have := mapC_findB M 0 j 0 (List.getElem?_eq_some_iff.1 h).1
  simpa using this
def MB (c : Nat) : List Me → HSt → Prop
  | [], D => D = []
  | x :: M, D => ∃ cs len hp D', OwnE 1 cs len x.2 hp ∧ len ≤ c ∧ D = hp ++ D' ∧ MB c M D'
theorem MB.mono {c c' : Nat} (hc : c ≤ c') : ∀ {M : List Me} {D : HSt}, MB c M D → MB c' M D
  | [], D, h => h
  | x :: M, D, ⟨cs, len, hp, D', h1, h2, h3, h4⟩ => ⟨cs, len, hp, D', h1, by omega, h3, MB.mono hc h4⟩
theorem MB.at {c : Nat} : ∀ {M : List Me} {D : HSt} {j : Nat} {x : Me}, MB c M D → M[j]? = some x → ∃ A cs len hp B, D = A ++ (hp ++ B) ∧ OwnE 1 cs len x.2 hp ∧ len ≤ c ∧
    ∀ c' v' cs' len' hp', c ≤ c' → OwnE 1 cs' len' v' hp' → len' ≤ c' → MB c' (M.set j (x.1, v')) (A ++ (hp' ++ B))
  | [], D, j, x, _, h => by simp at h
  | y :: M, D, 0, x, ⟨cs, len, hp, D', h1, h2, h3, h4⟩, h => by
    simp at h
    subst h
    exact ⟨[], cs, len, hp, D', h3, h1, h2, fun c' v' cs' len' hp' g1 g2 g3 => ⟨cs', len', hp', D', g2, g3, rfl, h4.mono g1⟩⟩
  | y :: M, D, j + 1, x, ⟨cs, len, hp, D', h1, h2, h3, h4⟩, h => by
    obtain ⟨A, cs1, len1, hp1, B, g1, g2, g3, g4⟩ := MB.at h4 (by simpa using h)
    refine ⟨hp ++ A, cs1, len1, hp1, B, by rw [h3, g1, List.append_assoc], g2, g3, fun c' v' cs' len' hp' k1 k2 k3 => ?_⟩
    exact ⟨cs, len, hp, A ++ (hp' ++ B), h1, by omega, by rw [List.append_assoc], g4 c' v' cs' len' hp' k1 k2 k3⟩
theorem MB.push {c c' : Nat} {k : Lab} {v : AV} {cs : List AV} {len : Nat} {hp : HSt} (hc : c ≤ c') (hO : OwnE 1 cs len v hp) (hl : len ≤ c') : ∀ {M : List Me} {D : HSt}, MB c M D → MB c' (M ++ [(k, v)]) (D ++ hp)
  | [], D, h => by
    have h : D = [] := h
    subst h
    exact ⟨cs, len, hp, [], hO, hl, by simp, rfl⟩
  | x :: M, D, ⟨cs1, len1, hp1, D', h1, h2, h3, h4⟩ => ⟨cs1, len1, hp1, D' ++ hp, h1, by omega, by rw [h3, List.append_assoc], MB.push hc hO hl h4⟩
theorem kA_beq (k : Lab) : (kA k).beq (kA k) = true := by unfold kA; simp [AV.beq, beq1, beq0, beqL]
end Go.Proofs.YtmblgaehfjheeaaGreat.Ev
