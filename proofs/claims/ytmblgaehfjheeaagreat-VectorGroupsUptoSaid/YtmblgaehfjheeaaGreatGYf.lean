/- Chapters 6 and 19, walks: labels without some names, copies. -/
import Derived.Test.YtmblgaehfjheeaaGreatGYd
namespace Go.Proofs.YtmblgaehfjheeaaGreat.Ev
open Go.RowKit
set_option linter.unusedVariables false
set_option linter.unusedSimpArgs false
set_option maxRecDepth 100000
set_option maxHeartbeats 1000000
theorem SIn.cell {hs : HSt} {N : List (List Nat)} {v : AV} (h : SIn hs N v) : v.isCell = true := by
 rcases h with ⟨rfl, _⟩ | ⟨b, sz, ex, rfl, _⟩ <;> rfl
theorem WO.box1 {tb : Tab} {n : Nat} {E : Env} {s : St} {hs : HSt} {R : T AV → AHeap → Prop} {ops rest : List Oper} {d : Nat} {t : TypeId} {ty : TypeId} {pos : String} {aft : Array Edge} {ox : Operand} {v : AV} {ob : AObj} (hx : oL s ox = some v) (hc : v.isCell = true) (ho : varObj tb t [v] = ob) (hd : Nat.blt d n = true)
  (hk : ∀ b, WO tb n ops rest E ((d, .ptr b 0) :: s) (⟨b, ob, true⟩ :: hs) R) : WO tb n ops (⟨some d, .box t ox, ty, pos, aft, none⟩ :: rest) E s hs R := by
 have e : v.cells = [v] := by cases v <;> first | rfl | cases hc
 exact WO.box hx (by rw [e]; simp [hc]) (by rw [e]; exact ho) hd hk
theorem sub_f1 {hs : HSt} {b : Nat} {o : AObj} {w : Bool} (hro : ∀ e ∈ hs, e.w = false) : SubR (⟨b, o, false⟩ :: hs) (⟨b, o, w⟩ :: hs) := by
 refine ⟨fun e he => ?_, fun hn => by simpa using hn⟩
 rcases List.mem_cons.1 he with rfl | he
 ·exact ⟨rfl, w, List.mem_cons_self⟩
 ·exact ⟨hro e he, e.w, List.mem_cons_of_mem _ (by obtain ⟨b, o, w⟩ := e; exact he)⟩
def dropP (N : List (List Nat)) : Lab → Bool := fun x => !(decide (x.1 ∈ N))
def pickP (N : List (List Nat)) (sm : Bool) : Lab → Bool := fun x => decide (x.1 ∈ N) == sm
theorem pick_drop {N : List (List Nat)} : pickP N false = dropP N := by
 funext x
 unfold pickP dropP
 cases decide (x.1 ∈ N) <;> rfl
theorem nm_sbd : SBd [[95, 95, 110, 97, 109, 101, 95, 95]] := ⟨by decide, fun x hx => by simp at hx; subst hx; unfold Bytes; decide⟩
theorem bv_eqNN {tb : Tab} {t e : Nat} (hu : tb.und t = some (.slice e)) : evBin tb .eql t .nils .nils = some (.bool true) := by
 show (match eqIn tb 20 t .nils .nils with | some b => some (AV.bool b) | none => none) = _
 unfold eqIn
 simp only [hu]
 rfl
theorem bv_eqSN {tb : Tab} {t e b o n z : Nat} (hu : tb.und t = some (.slice e)) : evBin tb .eql t (.slice b o n z) .nils = some (.bool false) := by
 show (match eqIn tb 20 t (.slice b o n z) .nils with | some b => some (AV.bool b) | none => none) = _
 unfold eqIn
 simp only [hu]
 rfl
theorem drop_spec (hs : HSt) (hro : ∀ e ∈ hs, e.w = false) (A : List Lab) (va : AV) (ha : LIn hs A va) (hA : LBd A) (N : List (List Nat)) (vn : AV) (hN : SIn hs N vn) (hNb : SBd N) : Spec tab 79 [va, vn] [] hs (fun v D => OwnE 2 (cL (A.filter (dropP N))) (A.filter (dropP N)).length v D) := by
 refine Spec.en (ftg 79 Tryz.func79) rfl (m := 8) rfl (rs := [.tmp 4]) rfl (st := [(0, va), (1, vn)]) rfl rfl (fun _ => rfl) (fun E => zr (WO.box1 rfl (SIn.cell hN) (bx40 _ rfl) rfl (fun b1 => za rfl (zk (zr (zm rfl (zq (Q.makeF (oLc rfl oz)) (WO.call0 rfl (oLc rfl (oLc rfl oz)) rfl (those_spec (hs := ⟨b1, ⟨1, true, [vn]⟩, false⟩ :: hs) (by intro e he; rcases List.mem_cons.1 he with rfl | he; rfl; exact hro e he) A _ (ha.mono fun b o h => h.tl) hA (dropP N) 116 [.ptr b1 0] (fun x h1 h2 => drop1_spec (hs := ⟨b1, ⟨1, true, [vn]⟩, false⟩ :: hs) (by intro e he; rcases List.mem_cons.1 he with rfl | he; rfl; exact hro e he) N vn (hN.mono fun b o h => h.tl) hNb b1 true ⟨_, List.mem_cons_self⟩ x.1 x.2 h1 h2)) (sub_f1 hro) rfl (fun v7 D7 hP7 => WO.subH (hs' := _ :: (hs ++ D7)) (SubH.op (perm_tail (N := []) (G := D7) (K := [_]) (X := hs))) (za rfl (zk (W.ret ?_))))))))))))
 refine End.ret (z1 rfl) (hs' := D7) hP7 (OwnE.w hP7) gc

theorem nless_spec (hs : HSt) (hro : ∀ e ∈ hs, e.w = false) (A : List Lab) (va : AV) (ha : LIn hs A va) (hA : LBd A) : Spec tab 33 [va] [] hs (fun v D => OwnE 2 (cL (A.filter (dropP [[95, 95, 110, 97, 109, 101, 95, 95]]))) (A.filter (dropP [[95, 95, 110, 97, 109, 101, 95, 95]])).length v D) := by
 refine Spec.en (ftg 33 Tryz.func33) rfl (m := 6) rfl (rs := [.tmp 2]) rfl (st := [(0, va)]) rfl rfl (fun _ => rfl) (fun E => zr (za rfl (zk (zr (zm rfl (WO.bslice ud40 sz9 zr9 rfl (opc (oc (v := .str [95, 95, 110, 97, 109, 101, 95, 95]) (by kernel_rfl)) opn) rfl (cs := [_]) rfl rfl rfl (fun b1 => WO.call0 rfl (oLc rfl (oLc rfl oz)) rfl (drop_spec (hs := ⟨b1, ⟨1, true, [.str [95, 95, 110, 97, 109, 101, 95, 95]]⟩, false⟩ :: hs) (by intro e he; rcases List.mem_cons.1 he with rfl | he; rfl; exact hro e he) A _ (ha.mono fun b o h => h.tl) hA [[95, 95, 110, 97, 109, 101, 95, 95]] (.slice b1 0 1 1) (.inr ⟨b1, 1, true, rfl, _, List.mem_cons_self⟩) nm_sbd) (sub_f1 hro) rfl (fun v5 D5 hP5 => WO.subH (hs' := _ :: (hs ++ D5)) (SubH.op (perm_tail (N := []) (G := D5) (K := [_]) (X := hs))) (za rfl (zk (W.ret ?_)))))))))))
 refine End.ret (z1 rfl) (hs' := D5) hP5 (OwnE.w hP5) gc

theorem pick_spec (hs : HSt) (hro : ∀ e ∈ hs, e.w = false) (A : List Lab) (va : AV) (ha : LIn hs A va) (hA : LBd A) (N : List (List Nat)) (vn : AV) (hN : SIn hs N vn) (hNb : SBd N) (sm : Bool) : Spec tab 83 [va, vn, .bool sm] [] hs (fun v D => OwnE 2 (cL (A.filter (pickP N sm))) (A.filter (pickP N sm)).length v D) := by
 have hAl := hA.1
 refine Spec.en (ftg 83 Tryz.func83) rfl (m := 32) rfl (rs := [.tmp 6]) rfl (st := [(0, va), (1, vn), (2, .bool sm)]) rfl rfl (fun _ => rfl) (fun E => zr (za rfl (zk (zr (za rfl (zk (W.seq (zr (za (zi 0) (zk (W.block (W.loop_ind3 (fun (i : Nat) (v : AV) (hp : HSt) => [(0, va), (1, vn), (2, .bool sm), (7, v), (8, .int .i64 ((i : Nat) : Int))]) (fun (i : Nat) (v : AV) (hp : HSt) => (hs ++ hp)) (fun (i : Nat) (v : AV) (hp : HSt) => i ≤ A.length ∧ OwnE 2 (cL ((A.take i).filter (pickP N sm))) ((A.take i).filter (pickP N sm)).length v hp) (fun (i : Nat) (v : AV) (hp : HSt) => A.length - i) (0) (.nils) ([]) ⟨Nat.zero_le _, OwnE.nil 2⟩ zv app_nil_sub (fun i v hp hI0 ih0 => ?_)))))))))))))
 obtain ⟨h1, hO⟩ := hI0
 refine W.seq (zr (zm rfl (zm rfl (zq (Q.len ud33 rfl (LIn.len ha)) (zq (Q.bin rfl rfl rfl (bvl ltn)) (zk (W.cD rfl (fun hc12 => ?_) (fun hc12 => ?_))))))))
 ·obtain ⟨ba, sza, exa, rfl, wa, ma⟩ := LIn.full ha zy
  refine zw (W.seq (W.block (zr (zm rfl (zm rfl (zm rfl (zq (Q.iS ud33 sz68 rfl rfl zo) (zq (Q.fieldAddr fa68_0 rfl rfl) (zq (Q.l1 rfl (List.mem_append_left _ ma) ag9 (cL_f0 zo)) (WO.cV rfl (oLc rfl (oLc rfl oz)) rfl (has_spec hs hro N _ hN hNb _ (hA.at zo).1) (SubR.appl (SubR.s hro)) rfl (zm rfl (zq (Q.bin rfl rfl rfl (bv_beqB ud4)) (zk (W.condS rfl (fun hc23 => ?_) (fun hc23 => ?_)))))))))))))))
  ·refine W.reg (zm rfl (zm rfl (zm rfl (zq (Q.iS ud33 sz68 rfl rfl zo) (zq (Q.loadN rfl (List.mem_append_left _ ma) ag68 sz68 (cL_at zo)) (WO.bslice ud33 sz68 zr68 rfl (opc rfl opn) rfl (cs := [_, _]) rfl rfl rfl (fun b1 => WO.appAny (A := ([] ++ hs)) ap33_33 hO rfl rfl (Src.slice (zt 0 rfl) rfl) rfl (by have := filt_len A (pickP N sm) i; omega) (by decide) (SubH.of_sublist (List.sublist_cons_self _ _)) rfl (fun v30 hp30 hO30 => za rfl (WO.nil (End.KB (End.K (W.sub (zc 7 rfl (zc 0 rfl (zc 1 rfl (zc 2 rfl (zc 8 rfl zzn))))) (W.reg (zm rfl (zq (Q.bin rfl (zi 1) rfl zp) (za rfl (WO.nil (End.KL (W.sub zv (W.sH gc (ih0 (i + 1) (v30) (hp30) ?_ ?_)))))))))))))))))))))
   ·exact ⟨by omega, by rw [filt_yes zy hc23, cL_append, List.length_append]; exact hO30⟩
   exact zo
  refine W.skip (End.KB (End.K (W.reg (zm rfl (zq (Q.bin rfl (zi 1) rfl zp) (za rfl (WO.nil (End.KL (W.sub zv (W.sH gc (ih0 (i + 1) (v) (hp) ?_ ?_)))))))))))
  ·exact ⟨by omega, by rw [filt_no zy hc23]; exact hO⟩
  exact zo
 refine W.exit (End.Kx (End.Lx (End.Bh (End.K (zr (zm rfl (za rfl (zk (W.ret ?_)))))))))
 refine End.ret (z1 rfl) (hs' := hp) (by rw [List.take_of_length_le zy] at hO; exact hO) (OwnE.w hO) gc

theorem rnless_spec (hs : HSt) (hro : ∀ e ∈ hs, e.w = false) (A : List Lab) (va : AV) (ha : LIn hs A va) (hA : LBd A) : Spec tab 39 [va] [] hs (fun v D => OwnE 2 (cL (A.filter (dropP [[95, 95, 110, 97, 109, 101, 95, 95]]))) (A.filter (dropP [[95, 95, 110, 97, 109, 101, 95, 95]])).length v D) := by
 refine Spec.en (ftg 39 Tryz.func39) rfl (m := 6) rfl (rs := [.tmp 2]) rfl (st := [(0, va)]) rfl rfl (fun _ => rfl) (fun E => zr (za rfl (zk (zr (zm rfl (WO.bslice ud40 sz9 zr9 rfl (opc (oc (v := .str [95, 95, 110, 97, 109, 101, 95, 95]) (by kernel_rfl)) opn) rfl (cs := [_]) rfl rfl rfl (fun b1 => WO.call0 rfl (oLc rfl (oLc rfl (oLc rfl oz))) rfl (pick_spec (hs := ⟨b1, ⟨1, true, [.str [95, 95, 110, 97, 109, 101, 95, 95]]⟩, false⟩ :: hs) (by intro e he; rcases List.mem_cons.1 he with rfl | he; rfl; exact hro e he) A _ (ha.mono fun b o h => h.tl) hA [[95, 95, 110, 97, 109, 101, 95, 95]] (.slice b1 0 1 1) (.inr ⟨b1, 1, true, rfl, _, List.mem_cons_self⟩) nm_sbd false) (sub_f1 hro) rfl (fun v5 D5 hP5 => WO.subH (hs' := _ :: (hs ++ D5)) (SubH.op (perm_tail (N := []) (G := D5) (K := [_]) (X := hs))) (za rfl (zk (W.ret ?_)))))))))))
 refine End.ret (z1 rfl) (hs' := D5) (by rw [← pick_drop]; exact hP5) (OwnE.w hP5) gc

theorem clone_nil  : Spec tab 80 [.nils] [] [] (Val (.nils)) := by
 refine Spec.en (ftg 80 Tryz.func80) rfl (m := 8) rfl (rs := [.tmp 2]) rfl (st := [(0, .nils)]) rfl rfl (fun _ => rfl) (fun E => zr (za rfl (zk (W.seq (zr (zm rfl (zq (Q.bin rfl rfl rfl (bv_eqNN ud33)) (zk (W.condT rfl (zr (za rfl (zk (W.ret (End.Kr (End.rV (z1 rfl) ?_)))))))))))))))
 rfl

theorem clone_some (hs : HSt) (hro : ∀ e ∈ hs, e.w = false) (A : List Lab) (b : Nat) (ha : LIn hs A (.slice b 0 A.length 2)) (hA : LBd A) : Spec tab 80 [.slice b 0 A.length 2] [] hs (fun v D => OwnE 2 (cL A) A.length v D) := by
 have hAl := hA.1
 refine Spec.en (ftg 80 Tryz.func80) rfl (m := 8) rfl (rs := [.tmp 2]) rfl (st := [(0, .slice b 0 A.length 2)]) rfl rfl (fun _ => rfl) (fun E => zr (za rfl (zk (W.seq (zr (zm rfl (zq (Q.bin rfl rfl rfl (bv_eqSN ud33)) (zk (W.condF rfl (zw (zr (WO.bslice ud33 sz68 zr68 rfl opn rfl (cs := []) rfl rfl rfl (fun b1 => zm rfl (WO.appAny (A := _) ap33_33 (OwnE.cons rfl) rfl rfl (Src.mono (fun e he => MemH.tl ⟨e.w, by obtain ⟨b, o, w⟩ := e; exact he⟩) (Src.lin ha)) (cL_len A) zy (by decide) (SubH.op (List.perm_append_singleton _ _)) rfl (fun v7 hp7 hO7 => za rfl (zk (W.ret ?_)))))))))))))))))
 refine End.ret (z1 rfl) (hs' := hp7) (by rw [one1]; simpa using hO7) (OwnE.w hO7) gc
theorem clone_spec (hs : HSt) (hro : ∀ e ∈ hs, e.w = false) (A : List Lab) (va : AV) (ha : LIn hs A va) (hA : LBd A) : Spec tab 80 [va] [] hs (fun v D => OwnE 2 (cL A) A.length v D) := by
 rcases id ha with ⟨rfl, rfl⟩ | ⟨b, sz, ex, rfl, _⟩
 ·intro h hh
  obtain ⟨v, h', hs', h1, ⟨h2, h3⟩, h4, h5⟩ := clone_nil h (hh.sub (SubH.nil _))
  exact ⟨v, h', hs', h1, .inl ⟨rfl, rfl, h2, h3⟩, h4, h5⟩
 ·exact clone_some hs hro A b ha hA
theorem cells_cell {v : AV} (h : v.isCell = true) : v.cells = [v] := by cases v <;> first | rfl | cases h
theorem fillE1 {v : AV} (h : v.isCell = true) : fillA (fun i => some (i * 1, 1)) (repl 1 AV.nils.cells) [(0, v)] = some [v] := by
 simp only [fillA, cells_cell h]; rfl
theorem fillE2 {v : AV} {n m : Int} (h : v.isCell = true) : fillA (fun i => [(0, 1), (1, 1)][i]?) [.nils, .int .i64 m] [(0, v), (1, .int .i64 n)] = some [v, .int .i64 n] := by
 simp only [fillA, cells_cell h]; rfl
def TIn (hs : HSt) (V : List El) (v : AV) : Prop := ((v = .nils ∧ V = []) ∨ ∃ b sz ex, v = .slice b 0 V.length 1 ∧ MemH hs b ⟨sz, ex, V.map (·.1)⟩) ∧ ∀ x ∈ V, LIn hs x.2.1 x.1
theorem TIn.len {hs : HSt} {V : List El} {v : AV} {e : Nat} (h : TIn hs V v) : lenA (.slice e) v = some V.length := by
 rcases h.1 with ⟨rfl, rfl⟩ | ⟨b, sz, ex, rfl, _⟩ <;> rfl
theorem TIn.full {hs : HSt} {V : List El} {v : AV} (h : TIn hs V v) (hl : 0 < V.length) : ∃ b sz ex, v = .slice b 0 V.length 1 ∧ MemH hs b ⟨sz, ex, V.map (·.1)⟩ := by
 rcases h.1 with ⟨_, rfl⟩ | h
 ·simp at hl
 ·exact h
theorem TIn.at {hs : HSt} {V : List El} {v : AV} (h : TIn hs V v) {i : Nat} (hi : i < V.length) : LIn hs (eg V i).2.1 (eg V i).1 := h.2 _ (eg_mem hi)
theorem TIn.own {hs hp : HSt} {V : List El} {u : AV} (h : Own 1 (V.map (·.1)) V.length u hp) (g : ∀ x ∈ V, LIn hs x.2.1 x.1) : TIn (ro hp ++ hs) V u := by
 refine ⟨?_, fun x hx => (g x hx).mono fun b o h => h.app⟩
 rcases h with ⟨h1, _, h3, _⟩ | ⟨b, ex, h1, h2, _, _⟩
 ·exact .inl ⟨h3, List.length_eq_zero_iff.1 h1⟩
 ·refine .inr ⟨b, 1, ex, h1, false, ?_⟩
  subst h2
  exact List.mem_append_left _ (List.mem_map.2 ⟨_, List.mem_singleton.2 rfl, rfl⟩)
theorem ro_app {hp hs : HSt} (hro : ∀ e ∈ hs, e.w = false) : ∀ e ∈ ro hp ++ hs, e.w = false := by
 intro e he
 rcases List.mem_append.1 he with he | he
 ·exact ro_w e he
 ·exact hro e he
theorem sub_ro {hp hs : HSt} (hro : ∀ e ∈ hs, e.w = false) : SubR (ro hp ++ hs) (hs ++ hp) := by
 refine ⟨fun e he => ?_, fun hn => ?_⟩
 ·rcases List.mem_append.1 he with he | he
  ·obtain ⟨x, hx, rfl⟩ := List.mem_map.1 he
   exact ⟨rfl, x.w, List.mem_append_right _ (by obtain ⟨b, o, w⟩ := x; exact hx)⟩
  ·exact ⟨hro e he, e.w, List.mem_append_left _ (by obtain ⟨b, o, w⟩ := e; exact he)⟩
 ·have e : (ro hp ++ hs).map (·.b) = hp.map (·.b) ++ hs.map (·.b) := by simp [ro]
  rw [e]
  rw [List.map_append] at hn
  exact (List.perm_append_comm.nodup_iff).1 hn
theorem cT_at {V : List El} {i : Nat} (h : i < V.length) : (V.map (·.1))[(0 + i) * 1]? = some (eg V i).1 := by
 unfold eg
 rw [Nat.zero_add, Nat.mul_one, List.getElem?_map, List.getD_eq_getElem?_getD, List.getElem?_eq_getElem h]; rfl
def fstE (g : Nat → Nat) : Nat → Nat → Nat
 | 0, _ => 0
 | n + 1, i => if g i ≠ 0 then g i else fstE g n (i + 1)
theorem fst_hit {g : Nat → Nat} {i n e : Nat} (h : i < n) (h1 : g i = e) (he : e ≠ 0) : fstE g (n - i) i = e := by
 have : n - i = (n - (i + 1)) + 1 := by omega
 rw [this, fstE, h1, if_pos he]
theorem fst_next {g : Nat → Nat} {i n : Nat} (h : i < n) (h1 : g i = 0) : fstE g (n - i) i = fstE g (n - (i + 1)) (i + 1) := by
 have : n - i = (n - (i + 1)) + 1 := by omega
 rw [this, fstE, h1, if_neg (by simp)]
theorem fst_done {g : Nat → Nat} {i n : Nat} (h : n ≤ i) : fstE g (n - i) i = 0 := by
 have : n - i = 0 := by omega
 rw [this, fstE]
noncomputable def ichk1 (V : List El) (i : Nat) : Nat := if lchk (eg V i).2.1 ≠ 0 then lchk (eg V i).2.1 else if 0 < i ∧ 0 ≤ cmpL (eg V (i - 1)).2.1 (eg V i).2.1 then 13 else 0
noncomputable def ichk (V : List El) : Nat := if 256 < V.length then 3 else fstE (ichk1 V) V.length 0
theorem ichk_big {V : List El} (h : 256 < V.length) : ichk V = 3 := if_pos h
theorem ichk_go {V : List El} (h : ¬ 256 < V.length) : ichk V = fstE (ichk1 V) (V.length - 0) 0 := if_neg h
noncomputable def vchk (V : List El) : Nat := if ichk V ≠ 0 then ichk V else if fitsE V then 0 else 11
theorem ichk_300 {V : List El} : ichk (V.take 300) = ichk V := by
 by_cases h : V.length ≤ 300
 ·rw [List.take_of_length_le h]
 ·rw [ichk_big (by rw [List.length_take]; omega), ichk_big zy]
theorem take_end {V : List El} {i : Nat} (h : i ≤ 300 ∧ (300 ≤ i ∨ V.length ≤ i)) : V.take i = V.take 300 := by
 rcases h.2 with g | g
 ·rw [show i = 300 by omega]
 ·rw [List.take_of_length_le g, List.take_of_length_le zy]
theorem take_el {V : List El} {i : Nat} (h : i < V.length) : V.take (i + 1) = V.take i ++ [eg V i] := by
 rw [List.take_add_one, List.getElem?_eq_getElem h]
 unfold eg
 rw [List.getD_eq_getElem?_getD, List.getElem?_eq_getElem h]; rfl
theorem EBd.take {V : List El} (h : EBd V) (k : Nat) : EBd (V.take k) := ⟨by rw [List.length_take]; have := h.1; omega, fun x hx => h.2 x (List.mem_of_mem_take hx)⟩
theorem vchk_e {V : List El} (h : ichk V ≠ 0) : vchk V = ichk V := if_pos h
theorem vchk_no {V : List El} (h : ichk V = 0) {i : Nat} (hi : i < V.length) (hf : fitB (eg V i).2.2 = false) : vchk V = 11 := by
 have : fitsE V = false := by
  unfold fitsE
  rw [decide_eq_false_iff_not]
  intro g
  rw [g i hi] at hf; cases hf
 unfold vchk
 rw [if_neg (by simp [h]), this]; rfl
theorem vchk_ok {V : List El} (h : ichk V = 0) (hf : ∀ i, i < V.length → fitB (eg V i).2.2 = true) : vchk V = 0 := by
 have : fitsE V = true := by
  unfold fitsE
  rw [decide_eq_true_iff]
  exact hf
 unfold vchk
 rw [if_neg (by simp [h]), this]; rfl
theorem rick_spec (hs : HSt) (hro : ∀ e ∈ hs, e.w = false) (V : List El) (v : AV) (hT : TIn hs V v) (hB : EBd V) : Spec tab 78 [v] [] hs (Val (.int .i64 ((ichk V : Nat) : Int))) := by
 have hBl := hB.1
 refine Spec.en (ftg 78 Tryz.func78) rfl (m := 37) rfl (rs := [.tmp 2]) rfl (st := [(0, v)]) rfl rfl (fun _ => rfl) (fun E => zr (za (zi 0) (zk (W.seq (zr (zm rfl (zq (Q.len ud90 rfl (TIn.len hT)) (zq (Q.bin rfl (zi 256) rfl (bv_gtr ltn)) (zk (W.cD rfl (fun hc7 => ?_) (fun hc7 => ?_)))))))))))
 ·refine zr (za (zi 3) (zk (W.ret (End.Kr (End.rV (z1 rfl) ?_)))))
  show AV.int .i64 _ = _; rw [ichk_big zy]
 refine zw (W.seq (zr (za (zi 0) (zk (W.block (W.loop_ind (fun (i : Nat) => [(0, v), (3, .int .i64 ((i : Nat) : Int))]) (fun _ => _) (fun (i : Nat) => i ≤ V.length ∧ ichk V = fstE (ichk1 V) (V.length - i) i) (fun (i : Nat) => V.length - i) (0) ⟨Nat.zero_le _, ichk_go zy⟩ zv (SubH.refl _) (fun i hI0 ih0 => ?_)))))))
 obtain ⟨h1, h3⟩ := hI0
 refine W.seq (zr (zm rfl (zm rfl (zq (Q.len ud90 rfl (TIn.len hT)) (zq (Q.bin rfl rfl rfl (bvl ltn)) (zk (W.cD rfl (fun hc11 => ?_) (fun hc11 => ?_))))))))
 ·obtain ⟨bt, szt, ext, rfl, wt, mt⟩ := TIn.full hT zy
  refine zw (W.seq (W.block (W.seq (zr (zm rfl (zm rfl (zq (Q.iS ud90 sz33 rfl rfl zo) (zq (Q.l1 rfl mt ag33 (cT_at zo)) (WO.cV rfl (oLc rfl oz) rfl (rlchk_spec hs hro _ _ (hT.at zo) (hB.at zo).1) (SubR.s hro) rfl (za rfl (zk (zr (zm rfl (zq (Q.bin rfl (zi 0) rfl (bv_neq ne_nat)) (zk (W.cD rfl (fun hc20 => ?_) (fun hc20 => ?_)))))))))))))))))
  ·refine zr (zm rfl (za rfl (zk (W.sub (zc 2 rfl zzn) (W.ret (End.Kr (End.Br (End.Kr (End.Lr (End.Br (End.Kr (End.rV (z1 rfl) ?_))))))))))))
   show AV.int .i64 _ = _; rw [h3, fst_hit (e := lchk (eg V i).2.1) zy (by unfold ichk1; simp_all <;> omega) zy]
  refine zw (W.seq (W.regT (by kernel_rfl) (zm rfl (zq (Q.bin rfl (zi 0) rfl (bv_gtr ltn)) (zm rfl (WO.sD (d := 24) rfl (fun hc24 => ?_) (fun hc24 => ?_)))))))
  ·refine WO.gT rfl rfl (zm rfl (WO.gT rfl rfl (zm rfl (WO.gT rfl rfl (zq (Q.bin rfl (zi 1) rfl (bv_sub (wns zo))) (WO.gT rfl rfl (zq (Q.iS ud90 sz33 rfl rfl zo) (WO.gT rfl rfl (zq (Q.l1 rfl mt ag33 (cT_at zo)) (WO.gT rfl rfl (zm rfl (WO.gT rfl rfl (zm rfl (WO.gT rfl rfl (zq (Q.iS ud90 sz33 rfl rfl zo) (WO.gT rfl rfl (zq (Q.l1 rfl mt ag33 (cT_at zo)) (WO.gT rfl rfl (WO.cV rfl (oLc rfl (oLc rfl oz)) rfl (rcmp_spec hs hro _ _ _ _ (hT.at zo) (hT.at zo) (hB.at zo).1 (hB.at zo).1) (SubR.s hro) rfl (WO.gT rfl rfl (zq (Q.bin rfl (zi 0) rfl (bv_geq le_int)) (zq (Q.pT rfl rfl) (zk ?_)))))))))))))))))))))))
   refine W.sub (zc 36 rfl (zc 0 rfl (zc 3 rfl zzn))) (W.cD rfl (fun hc36 => ?_) (fun hc36 => ?_))
   ·refine zr (za (zi 13) (zk (W.ret (End.Br (End.Kr (End.Lr (End.Br (End.Kr (End.rV (z1 rfl) ?_)))))))))
    show AV.int .i64 _ = _; rw [h3, fst_hit (e := 13) zy (by unfold ichk1; simp_all <;> omega) (by decide)]
   refine W.skip (End.KB (End.K (W.reg (zm rfl (zq (Q.bin rfl (zi 1) rfl zp) (za rfl (WO.nil (End.KL (W.sub zv (ih0 (i + 1) ?_ ?_))))))))))
   ·exact ⟨by omega, by rw [h3, fst_next zy (by unfold ichk1; simp_all <;> omega)]⟩
   exact zo
  refine zg rfl rfl (zg rfl rfl (zg rfl rfl (zg rfl rfl (zg rfl rfl (zg rfl rfl (zg rfl rfl (zg rfl rfl (zg rfl rfl (zg rfl rfl (zg rfl rfl (zq (Q.pF rfl rfl) (zk (W.sub (zc 36 rfl (zc 0 rfl (zc 3 rfl zzn))) (W.condF rfl (W.skip (End.KB (End.K (W.reg (zm rfl (zq (Q.bin rfl (zi 1) rfl zp) (za rfl (WO.nil (End.KL (W.sub zv (ih0 (i + 1) ?_ ?_)))))))))))))))))))))))))
  ·exact ⟨by omega, by rw [h3, fst_next zy (by unfold ichk1; simp_all <;> omega)]⟩
  exact zo
 refine W.exit (End.Kx (End.Lx (End.Bh (End.K (zr (za (zi 0) (zk (W.ret (End.rV (z1 rfl) ?_)))))))))
 show AV.int .i64 _ = _; rw [h3, fst_done zy]

theorem rvck_spec (hs : HSt) (hro : ∀ e ∈ hs, e.w = false) (V : List El) (v : AV) (hV : EIn hs V v) (hB : EBd V) : Spec tab 29 [v] [] hs (Val (.int .i64 ((vchk V : Nat) : Int))) := by
 have hBl := hB.1
 refine Spec.en (ftg 29 Tryz.func29) rfl (m := 43) rfl (rs := [.tmp 2]) rfl (st := [(0, v)]) rfl rfl (fun _ => rfl) (fun E => zr (za (zi 0) (zk (zr (za rfl (zk (W.seq (zr (za (zi 0) (zk (W.block (W.loop_ind3 (fun (i : Nat) (u : AV) (hp : HSt) => [(0, v), (3, u), (4, .int .i64 ((i : Nat) : Int))]) (fun (i : Nat) (u : AV) (hp : HSt) => (hs ++ hp)) (fun (i : Nat) (u : AV) (hp : HSt) => i ≤ V.length ∧ i ≤ 300 ∧ Own 1 ((V.take i).map (·.1)) (V.take i).length u hp) (fun (i : Nat) (u : AV) (hp : HSt) => V.length - i) (0) (.nils) ([]) ⟨Nat.zero_le _, by omega, Own.nil 1⟩ zv app_nil_sub (fun i u hp hI0 ih0 => ?_)))))))))))))
 obtain ⟨h1, h2, hO⟩ := hI0
 refine W.seq (zr (zm rfl (zm rfl (zq (Q.len ud22 rfl (EIn.len hV)) (zq (Q.bin rfl rfl rfl (bvl ltn)) (zm rfl (WO.sD (d := 11) rfl (fun hc11 => ?_) (fun hc11 => ?_))))))))
 ·refine WO.gT rfl rfl (zm rfl (WO.gT rfl rfl (zq (Q.bin rfl (zi 300) rfl (bvl ltn)) (zq (Q.pT rfl rfl) (zk (W.cD rfl (fun hc14 => ?_) (fun hc14 => ?_)))))))
  ·obtain ⟨bv, szv, exv, rfl, wv, mv⟩ := EIn.full hV zy
   refine zw (W.seq (W.block (W.reg (zm rfl (zm rfl (zm rfl (zq (Q.iS ud22 sz35 rfl rfl zo) (zq (Q.fieldAddr fa35_0 rfl rfl) (zq (Q.l1 rfl (List.mem_append_left _ mv) ag33 (cE_f0 zo)) (WO.bslice ud90 sz33 zr33 rfl (opc rfl opn) rfl (cs := [_]) (fillE1 (LIn.cell (hV.at zy))) (and_tt (LIn.cell (hV.at zy)) rfl) rfl (fun b1 => WO.appOwn (e := ⟨b1, _, true⟩) (A := ([] ++ hs)) ap90_90 hO rfl rfl rfl rfl ⟨by first | omega | (simp at * <;> omega), by first | omega | (simp at * <;> omega)⟩ (by decide) rfl rfl (fun v24 hp24 hO24 => za rfl (WO.nil (End.KB (End.K (W.sub (zc 3 rfl (zc 0 rfl (zc 4 rfl zzn))) (W.reg (zm rfl (zq (Q.bin rfl (zi 1) rfl zp) (za rfl (WO.nil (End.KL (W.sub zv (W.sH gc (ih0 (i + 1) (v24) (hp24) ?_ ?_)))))))))))))))))))))))))
   ·exact ⟨by omega, by omega, by rw [take_el zy, List.map_append, List.length_append]; exact hO24⟩
   exact zo
  have ht : V.take i = V.take 300 := take_end zy
  rw [ht] at hO
  refine W.exit (End.Kx (End.Lx (End.Bh (End.K (W.seq (zr (zm rfl (WO.cV rfl (oLc rfl oz) rfl (rick_spec (ro hp ++ hs) (ro_app hro) (V.take 300) u (TIn.own hO (fun x hx => hV.2 x (List.mem_of_mem_take hx))) (hB.take 300)) (sub_ro hro) rfl (za rfl (zk (zr (zm rfl (zq (Q.bin rfl (zi 0) rfl (bv_neq ne_nat)) (zk (W.cD rfl (fun hc28 => ?_) (fun hc28 => ?_))))))))))))))))
  ·refine zr (zm rfl (za rfl (zk (W.sub (zc 2 rfl zzn) (W.ret (End.Kr (End.rV (z1 rfl) ?_)))))))
   show AV.int .i64 _ = _; rw [vchk_e (V := V) (by rw [← ichk_300]; simpa using hc28)]; rw [ichk_300]
  refine zw (W.sub (zc 0 rfl zzn) (W.seq (zr (za (zi 0) (zk (W.block (W.loop_ind (fun (i : Nat) => [(0, v), (6, .int .i64 ((i : Nat) : Int))]) (fun _ => _) (fun (i : Nat) => i ≤ V.length ∧ ∀ j, j < i → fitB (eg V j).2.2 = true) (fun (i : Nat) => V.length - i) (0) ⟨Nat.zero_le _, fun j h => by omega⟩ zv (SubH.refl _) (fun i hI1 ih1 => ?_))))))))
  obtain ⟨hi, hno⟩ := hI1
  refine W.seq (zr (zm rfl (zm rfl (zq (Q.len ud22 rfl (EIn.len hV)) (zq (Q.bin rfl rfl rfl (bvl ltn)) (zk (W.cD rfl (fun hc33 => ?_) (fun hc33 => ?_))))))))
  ·obtain ⟨bv, szv, exv, rfl, wv, mv⟩ := EIn.full hV zy
   refine zw (W.seq (W.block (zr (zm rfl (zm rfl (zq (Q.iS ud22 sz35 rfl rfl zo) (zq (Q.fieldAddr fa35_1 rfl rfl) (zq (Q.l1 rfl (List.mem_append_left _ mv) ag3 (cE_f1 zo)) (WO.cV rfl (oLc rfl oz) rfl (rfits_spec _) SubR.nil rfl (zq (Q.not rfl rfl) (zk (W.condS rfl (fun hc42 => ?_) (fun hc42 => ?_)))))))))))))
   ·refine zr (za (zi 11) (zk (W.ret (End.Br (End.Kr (End.Lr (End.Br (End.Kr (End.rV (z1 rfl) ?_)))))))))
    show AV.int .i64 _ = _; rw [vchk_no (by rw [← ichk_300]; simp_all) (i := i) zy (by simpa using hc42)]
   refine W.skip (End.KB (End.K (W.reg (zm rfl (zq (Q.bin rfl (zi 1) rfl zp) (za rfl (WO.nil (End.KL (W.sub zv (ih1 (i + 1) ?_ ?_))))))))))
   ·exact ⟨by omega, fun j h => by rcases Nat.lt_or_ge j i with g | g; exact hno j g; have hji : j = i := zy; subst hji; simpa using hc42⟩
   exact zo
  refine W.exit (End.Kx (End.Lx (End.Bh (End.K (zr (za (zi 0) (zk (W.ret (End.rV (z1 rfl) ?_)))))))))
  show AV.int .i64 _ = _; rw [vchk_ok (by rw [← ichk_300]; simp_all) (fun j hj => hno j zy)]
 have ht : V.take i = V.take 300 := take_end zy
 rw [ht] at hO
 refine zg rfl rfl (zg rfl rfl (zq (Q.pF rfl rfl) (zk (W.condF rfl (W.exit (End.Kx (End.Lx (End.Bh (End.K (W.seq (zr (zm rfl (WO.cV rfl (oLc rfl oz) rfl (rick_spec (ro hp ++ hs) (ro_app hro) (V.take 300) u (TIn.own hO (fun x hx => hV.2 x (List.mem_of_mem_take hx))) (hB.take 300)) (sub_ro hro) rfl (za rfl (zk (zr (zm rfl (zq (Q.bin rfl (zi 0) rfl (bv_neq ne_nat)) (zk (W.cD rfl (fun hc28 => ?_) (fun hc28 => ?_)))))))))))))))))))))
 ·refine zr (zm rfl (za rfl (zk (W.sub (zc 2 rfl zzn) (W.ret (End.Kr (End.rV (z1 rfl) ?_)))))))
  show AV.int .i64 _ = _; rw [vchk_e (V := V) (by rw [← ichk_300]; simpa using hc28)]; rw [ichk_300]
 refine zw (W.sub (zc 0 rfl zzn) (W.seq (zr (za (zi 0) (zk (W.block (W.loop_ind (fun (i : Nat) => [(0, v), (6, .int .i64 ((i : Nat) : Int))]) (fun _ => _) (fun (i : Nat) => i ≤ V.length ∧ ∀ j, j < i → fitB (eg V j).2.2 = true) (fun (i : Nat) => V.length - i) (0) ⟨Nat.zero_le _, fun j h => by omega⟩ zv (SubH.refl _) (fun i hI1 ih1 => ?_))))))))
 obtain ⟨hi, hno⟩ := hI1
 refine W.seq (zr (zm rfl (zm rfl (zq (Q.len ud22 rfl (EIn.len hV)) (zq (Q.bin rfl rfl rfl (bvl ltn)) (zk (W.cD rfl (fun hc33 => ?_) (fun hc33 => ?_))))))))
 ·obtain ⟨bv, szv, exv, rfl, wv, mv⟩ := EIn.full hV zy
  refine zw (W.seq (W.block (zr (zm rfl (zm rfl (zq (Q.iS ud22 sz35 rfl rfl zo) (zq (Q.fieldAddr fa35_1 rfl rfl) (zq (Q.l1 rfl (List.mem_append_left _ mv) ag3 (cE_f1 zo)) (WO.cV rfl (oLc rfl oz) rfl (rfits_spec _) SubR.nil rfl (zq (Q.not rfl rfl) (zk (W.condS rfl (fun hc42 => ?_) (fun hc42 => ?_)))))))))))))
  ·refine zr (za (zi 11) (zk (W.ret (End.Br (End.Kr (End.Lr (End.Br (End.Kr (End.rV (z1 rfl) ?_)))))))))
   show AV.int .i64 _ = _; rw [vchk_no (by rw [← ichk_300]; simp_all) (i := i) zy (by simpa using hc42)]
  refine W.skip (End.KB (End.K (W.reg (zm rfl (zq (Q.bin rfl (zi 1) rfl zp) (za rfl (WO.nil (End.KL (W.sub zv (ih1 (i + 1) ?_ ?_))))))))))
  ·exact ⟨by omega, fun j h => by rcases Nat.lt_or_ge j i with g | g; exact hno j g; have hji : j = i := zy; subst hji; simpa using hc42⟩
  exact zo
 refine W.exit (End.Kx (End.Lx (End.Bh (End.K (zr (za (zi 0) (zk (W.ret (End.rV (z1 rfl) ?_)))))))))
 show AV.int .i64 _ = _; rw [vchk_ok (by rw [← ichk_300]; simp_all) (fun j hj => hno j zy)]
end Go.Proofs.YtmblgaehfjheeaaGreat.Ev
