/- ExecCounts, the plain law: what is counted in ranges that rA is what stands in the times. -/
import Derived.Test.YtfkbfnpjggkdmaaGreatDoorCEah
import Derived.Test.YtfkbfnpjggkdmaaGreatDoorCPYd
namespace Go.Proofs.YtfkbfnpjggkdmaaGreatDoor.Ev
open Go.RowKit
theorem qY {S : List bP} {i : Nat} (h : i < S.length) : sg S i = S[i] := by
 unfold sg
 rw [List.getD_eq_getElem?_getD, List.getElem?_eq_getElem h]; rfl
theorem CZ {S : List bP} (h : ep S S.length) : S.Pairwise (fun a b => a.1 < b.1) := by
 refine List.pairwise_iff_getElem.2 fun i j hi hj hij => ?_
 have h1 := pH h i (j - 1) zy zy
 have h2 := (h j hj).2 zy
 rw [qY hi] at h1
 rw [qY hj] at h2
 omega
theorem Ad {S : List bP} (h : ep S S.length) : ∀ x ∈ S, su x.1 x.2 := by
 intro x hx
 obtain ⟨i, hi, rfl⟩ := List.getElem_of_mem hx
 have := (h i hi).1
 rwa [qY hi] at this
theorem CY {S : List bP} (h : S.Pairwise (fun a b => a.1 < b.1)) (h2 : ∀ x ∈ S, su x.1 x.2) : ep S S.length := by
 intro j hj
 rw [qY hj]
 refine ⟨h2 _ (List.getElem_mem hj), fun h0 => ?_⟩
 rw [qY (show j - 1 < S.length by omega)]
 exact List.pairwise_iff_getElem.1 h (j - 1) j zy hj zy
theorem mS {S S' : List bP} (h : ep S S.length) (hs : S'.Sublist S) : ep S' S'.length := CY (List.Pairwise.sublist hs (CZ h)) fun x hx => Ad h x (hs.subset hx)
theorem CL (S : List bP) (e r : Int) : (fQ S e r).Sublist S := (List.take_sublist _ _).trans (List.drop_sublist _ _)
def u9 (L : List (List bA × List bP)) (e r : Int) : Nat := (L.map fun x => (fQ x.2 e r).length).sum
theorem pJ (e r : Int) : ∀ L : List (List bA × List bP), ((jx L e r).map fun x => x.2.length).sum = u9 L e r
 | [] => rfl
 | x :: L => by
  have ih := pJ e r L
  unfold jx u9 at *
  rw [List.map_cons, List.sum_cons, <- ih]
  by_cases h : 0 < (fQ x.2 e r).length
  ·rw [List.filterMap_cons_some (b := (x.1, fQ x.2 e r)) (by exact if_pos h), List.map_cons, List.sum_cons]
  ·rw [List.filterMap_cons_none (by exact if_neg h)]
   omega
theorem yE {α : Type} (a b : α -> Nat) : ∀ l : List α, (l.map fun k => a k + b k).sum = (l.map a).sum + (l.map b).sum
 | [] => rfl
 | x :: l => by
  simp only [List.map_cons, List.sum_cons, yE a b l]
  omega
theorem uv {α : Type} : ∀ l : List α, (l.map fun _ => 0).sum = 0
 | [] => rfl
 | x :: l => by simp only [List.map_cons, List.sum_cons, uv l]
theorem uw {α β : Type} (f : α -> β -> Nat) (K : List α) : ∀ L : List β, (K.map fun k => (L.map fun x => f k x).sum).sum = (L.map fun x => (K.map fun k => f k x).sum).sum
 | [] => uv K
 | x :: L => by
  simp only [List.map_cons, List.sum_cons]
  rw [yE, uw f K L]
theorem DN {lo hi : Int} {x : bP} : ky lo hi x = true ↔ lo <= x.1 /\ x.1 <= hi := by
 unfold ky
 simp only [Bool.and_eq_true, decide_eq_true_eq]
def kG (L : List (List bA × List bP)) (N : Int) : Nat := (L.map fun x => if (x.1.any fun y => decide (y.1 = [97])) = true then (x.2.filter fun s => decide (0 < s.1) && decide (s.1 <= N)).length else 0).sum
theorem vE {n r : Nat} (hr : 0 < r) (hn : n * r <= 1099511627776) (h5 : r <= 1099511627776) : ∀ {L : List (List bA × List bP)}, (∀ x ∈ L, LBd x.1 /\ JG x.1 x.1.length /\ ep x.2 x.2.length) ->
  ((List.range n).map fun k => u9 (fb [mA] 1 ((n * r : Nat) : Int) L) (((k + 1) * r : Nat) : Int) ((r : Nat) : Int)).sum = kG L ((n * r : Nat) : Int) := by
 intro L h
 unfold u9
 rw [uw]
 induction L with
 | nil => rfl
 | cons x L ih =>
  have ih := ih fun y hy => h y (List.mem_cons_of_mem _ hy)
  obtain ⟨h1, h2, h3⟩ := h x List.mem_cons_self
  unfold kG at *
  rw [List.map_cons, List.sum_cons, <- ih]
  have ha : jB [mA] x.1 = (x.1.any fun y => decide (y.1 = [97])) := by
   rw [AG h1 h2, FD fun y hy => by
    obtain ⟨i, hi, rfl⟩ := List.getElem_of_mem hy
    have := (h2 i hi).1
    unfold lg at this
    rwa [List.getD_eq_getElem?_getD, List.getElem?_eq_getElem hi] at this]
  have hf : ky 1 ((n * r : Nat) : Int) = fun s : bP => decide (0 < s.1) && decide (s.1 <= ((n * r : Nat) : Int)) := by
   funext s
   unfold ky
   rfl
  have hs3 := mS h3 (List.filter_sublist (p := ky 1 ((n * r : Nat) : Int)) (l := x.2))
  have hadj := uR hs3 hr hn h5 (fun q hq => by
   rw [qY hq]
   have hm := (List.mem_filter.1 (List.getElem_mem hq)).2
   obtain ⟨g1, g2⟩ := DN.1 hm
   exact ⟨by omega, g2⟩)
  unfold fb
  by_cases hc : jB [mA] x.1 = true /\ 0 < (x.2.filter (ky 1 ((n * r : Nat) : Int))).length
  ·rw [List.filterMap_cons_some (b := (x.1, x.2.filter (ky 1 ((n * r : Nat) : Int)))) (by exact if_pos hc), List.map_cons, List.sum_cons, <- ha, if_pos hc.1, hadj, hf]
  ·rw [List.filterMap_cons_none (by exact if_neg hc)]
   have hz : (if (x.1.any fun y => decide (y.1 = [97])) = true then (x.2.filter fun s => decide (0 < s.1) && decide (s.1 <= ((n * r : Nat) : Int))).length else 0) = 0 := by
    rw [<- ha, <- hf]
    split
    ·rename_i g
     exact Nat.eq_zero_of_not_pos fun q => hc ⟨g, q⟩
    ·rfl
   rw [hz, Nat.zero_add]
end Go.Proofs.YtfkbfnpjggkdmaaGreatDoor.Ev
/- Chapters 6 and 19, walks: labels without some names, copies. -/
namespace Go.Proofs.YtfkbfnpjggkdmaaGreatDoor.Ev.P19
open Go.RowKit
set_option maxRecDepth 100000
set_option maxHeartbeats 1000000
theorem SIn.cell {hs : af} {N : List (List Nat)} {v : AV} (h : SIn hs N v) : v.isCell = true := by
 rcases h with ⟨rfl, _⟩ | ⟨b, sz, ex, rfl, _⟩ <;> rfl
theorem rq {tb : Tab} {n : Nat} {E : Env} {s : St} {hs : af} {R : T AV -> AHeap -> Prop} {ops rest : List Oper} {d : Nat} {t : TypeId} {ty : TypeId} {pos : String} {aft : Array Edge} {ox : Operand} {v : AV} {ob : AObj} (hx : oL s ox = some v) (hc : v.isCell = true) (ho : bk tb t [v] = ob) (hd : Nat.blt d n = true)
  (hk : ∀ b, WO tb n ops rest E ((d, .ptr b 0) :: s) (⟨b, ob, true⟩ :: hs) R) : WO tb n ops (⟨some d, .box t ox, ty, pos, aft, none⟩ :: rest) E s hs R := by
 have e : v.cells = [v] := by cases v <;> first | rfl | cases hc
 exact WO.box hx (by rw [e]; simp [hc]) (by rw [e]; exact ho) hd hk
theorem Hv {hs : af} {b : Nat} {o : AObj} {w : Bool} (hro : ∀ e ∈ hs, e.w = false) : SubR (⟨b, o, false⟩ :: hs) (⟨b, o, w⟩ :: hs) := by
 refine ⟨fun e he => ?_, fun hn => by simpa using hn⟩
 rcases List.mem_cons.1 he with rfl | he
 ·exact ⟨rfl, w, List.mem_cons_self⟩
 ·exact ⟨hro e he, e.w, List.mem_cons_of_mem _ (by obtain ⟨b, o, w⟩ := e; exact he)⟩
def dropP (N : List (List Nat)) : bA -> Bool := fun x => !(decide (x.1 ∈ N))
theorem nm_sbd : SBd [[95, 95, 110, 97, 109, 101, 95, 95]] := ⟨by decide, fun x hx => by simp at hx; subst hx; unfold Bytes; decide⟩
theorem DP {tb : Tab} {t e : Nat} (hu : tb.und t = some (.slice e)) : bC tb .eql t .nils .nils = some (.bool true) := by
 show (match ef tb 20 t .nils .nils with | some b => some (AV.bool b) | none => none) = _
 unfold ef
 simp only [hu]
 rfl
theorem DQ {tb : Tab} {t e b o n z : Nat} (hu : tb.und t = some (.slice e)) : bC tb .eql t (.slice b o n z) .nils = some (.bool false) := by
 show (match ef tb 20 t (.slice b o n z) .nils with | some b => some (AV.bool b) | none => none) = _
 unfold ef
 simp only [hu]
 rfl
theorem drop_spec (hs : af) (hro : ∀ e ∈ hs, e.w = false) (A : List bA) (va : AV) (ha : LIn hs A va) (hA : LBd A) (N : List (List Nat)) (vn : AV) (hN : SIn hs N vn) (hNb : SBd N) : Spec tab 154 [va, vn] [] hs (fun v D => OwnE 2 (cL (A.filter (dropP N))) (A.filter (dropP N)).length v D) := by
 refine ac (bz 154 Tryz.func154) rfl (m := 8) rfl (rs := [.tmp 4]) rfl (st := [(0, va), (1, vn)]) rfl rfl (fun _ => rfl) (fun E => zr (rq rfl (SIn.cell hN) (DT _ rfl) rfl (fun b1 => za rfl (zk (zr (zm rfl (zq (dQ (aj rfl oz)) (WO.call0 rfl (aj rfl (aj rfl oz)) rfl (vZ (hs := ⟨b1, ⟨1, true, [vn]⟩, false⟩ :: hs) (by intro e he; rcases List.mem_cons.1 he with rfl | he; rfl; exact hro e he) A _ (ha.mono fun b o h => h.tl) hA (dropP N) 181 [.ptr b1 0] (fun x h1 h2 => vf (hs := ⟨b1, ⟨1, true, [vn]⟩, false⟩ :: hs) (by intro e he; rcases List.mem_cons.1 he with rfl | he; rfl; exact hro e he) N vn (hN.mono fun b o h => h.tl) hNb b1 true ⟨_, List.mem_cons_self⟩ x.1 x.2 h1 h2)) (Hv hro) rfl (fun v7 D7 hP7 => WO.subH (hs' := _ :: (hs ++ D7)) (SubH.op (aw (N := []) (G := D7) (K := [_]) (X := hs))) (za rfl (zk (W.ret ?_))))))))))))
 refine End.ret (z1 rfl) (hs' := D7) hP7 (OwnE.w hP7) gc

theorem y5  : Spec tab 248 [.nils] [] [] (bN (.nils)) := by
 refine ac (bz 248 Tryz.func248) rfl (m := 8) rfl (rs := [.tmp 2]) rfl (st := [(0, .nils)]) rfl rfl (fun _ => rfl) (fun E => zr (za rfl (zk (W.seq (zr (zm rfl (zq (aa rfl rfl rfl (DP cW)) (zk (W.condT rfl (zr (za rfl (zk (W.ret (ad (ae (z1 rfl) ?_)))))))))))))))
 rfl

theorem u4 (hs : af) (hro : ∀ e ∈ hs, e.w = false) (A : List bA) (b : Nat) (ha : LIn hs A (.slice b 0 A.length 2)) (hA : LBd A) : Spec tab 248 [.slice b 0 A.length 2] [] hs (fun v D => OwnE 2 (cL A) A.length v D) := by
 have hAl := hA.1
 refine ac (bz 248 Tryz.func248) rfl (m := 8) rfl (rs := [.tmp 2]) rfl (st := [(0, .slice b 0 A.length 2)]) rfl rfl (fun _ => rfl) (fun E => zr (za rfl (zk (W.seq (zr (zm rfl (zq (aa rfl rfl rfl (DQ cW)) (zk (W.condF rfl (zw (zr (WO.bslice cW eo Dm rfl dE rfl (cs := []) rfl rfl rfl (fun b1 => zm rfl (WO.appAny (A := _) lp (OwnE.cons rfl) rfl rfl (Src.mono (fun e he => MemH.tl ⟨e.w, by obtain ⟨b, o, w⟩ := e; exact he⟩) (nJ ha)) (oH A) zy (by decide) (SubH.op (List.perm_append_singleton _ _)) rfl (fun v7 hp7 hO7 => za rfl (zk (W.ret ?_)))))))))))))))))
 refine End.ret (z1 rfl) (hs' := hp7) (by rw [fz]; simpa using hO7) (OwnE.w hO7) gc
theorem kN (hs : af) (hro : ∀ e ∈ hs, e.w = false) (A : List bA) (va : AV) (ha : LIn hs A va) (hA : LBd A) : Spec tab 248 [va] [] hs (fun v D => OwnE 2 (cL A) A.length v D) := by
 rcases id ha with ⟨rfl, rfl⟩ | ⟨b, sz, ex, rfl, _⟩
 ·intro h hh
  obtain ⟨v, h', hs', h1, ⟨h2, h3⟩, h4, h5⟩ := y5 h (hh.sub (SubH.nil _))
  exact ⟨v, h', hs', h1, .inl ⟨rfl, rfl, h2, h3⟩, h4, h5⟩
 ·exact u4 hs hro A b ha hA
theorem kM {v : AV} (h : v.isCell = true) : v.cells = [v] := by cases v <;> first | rfl | cases h
theorem BM {v : AV} (h : v.isCell = true) : cJ (fun i => some (i * 1, 1)) (iP 1 AV.nils.cells) [(0, v)] = some [v] := by
 simp only [cJ, kM h]; rfl
def TIn (hs : af) (V : List El) (v : AV) : Prop := ((v = .nils /\ V = []) \/ ∃ b sz ex, v = .slice b 0 V.length 1 /\ MemH hs b ⟨sz, ex, V.map (·.1)⟩) /\ ∀ x ∈ V, LIn hs x.2.1 x.1
theorem TIn.len {hs : af} {V : List El} {v : AV} {e : Nat} (h : TIn hs V v) : iN (.slice e) v = some V.length := by
 rcases h.1 with ⟨rfl, rfl⟩ | ⟨b, sz, ex, rfl, _⟩ <;> rfl
theorem TIn.full {hs : af} {V : List El} {v : AV} (h : TIn hs V v) (hl : 0 < V.length) : ∃ b sz ex, v = .slice b 0 V.length 1 /\ MemH hs b ⟨sz, ex, V.map (·.1)⟩ := by
 rcases h.1 with ⟨_, rfl⟩ | h
 ·simp at hl
 ·exact h
theorem TIn.at {hs : af} {V : List El} {v : AV} (h : TIn hs V v) {i : Nat} (hi : i < V.length) : LIn hs (eg V i).2.1 (eg V i).1 := h.2 _ (cg hi)
theorem TIn.own {hs hp : af} {V : List El} {u : AV} (h : Own 1 (V.map (·.1)) V.length u hp) (g : ∀ x ∈ V, LIn hs x.2.1 x.1) : TIn (ro hp ++ hs) V u := by
 refine ⟨?_, fun x hx => (g x hx).mono fun b o h => h.app⟩
 rcases h with ⟨h1, _, h3, _⟩ | ⟨b, ex, h1, h2, _, _⟩
 ·exact .inl ⟨h3, List.length_eq_zero_iff.1 h1⟩
 ·refine .inr ⟨b, 1, ex, h1, false, ?_⟩
  subst h2
  exact List.mem_append_left _ (List.mem_map.2 ⟨_, List.mem_singleton.2 rfl, rfl⟩)
theorem Hj {hp hs : af} (hro : ∀ e ∈ hs, e.w = false) : ∀ e ∈ ro hp ++ hs, e.w = false := by
 intro e he
 rcases List.mem_append.1 he with he | he
 ·exact ie e he
 ·exact hro e he
theorem Hw {hp hs : af} (hro : ∀ e ∈ hs, e.w = false) : SubR (ro hp ++ hs) (hs ++ hp) := by
 refine ⟨fun e he => ?_, fun hn => ?_⟩
 ·rcases List.mem_append.1 he with he | he
  ·obtain ⟨x, hx, rfl⟩ := List.mem_map.1 he
   exact ⟨rfl, x.w, List.mem_append_right _ (by obtain ⟨b, o, w⟩ := x; exact hx)⟩
  ·exact ⟨hro e he, e.w, List.mem_append_left _ (by obtain ⟨b, o, w⟩ := e; exact he)⟩
 ·have e : (ro hp ++ hs).map (·.b) = hp.map (·.b) ++ hs.map (·.b) := by simp [ro]
  rw [e]
  rw [List.map_append] at hn
  exact (List.perm_append_comm.nodup_iff).1 hn
theorem qn {V : List El} {i : Nat} (h : i < V.length) : (V.map (·.1))[(0 + i) * 1]? = some (eg V i).1 := by
 unfold eg
 rw [Nat.zero_add, Nat.mul_one, List.getElem?_map, List.getD_eq_getElem?_getD, List.getElem?_eq_getElem h]; rfl
def fstE (g : Nat -> Nat) : Nat -> Nat -> Nat
 | 0, _ => 0
 | n + 1, i => if g i ≠ 0 then g i else fstE g n (i + 1)
theorem w5 {g : Nat -> Nat} {i n e : Nat} (h : i < n) (h1 : g i = e) (he : e ≠ 0) : fstE g (n - i) i = e := by
 have : n - i = (n - (i + 1)) + 1 := by omega
 rw [this, fstE, h1, if_pos he]
theorem BS {g : Nat -> Nat} {i n : Nat} (h : i < n) (h1 : g i = 0) : fstE g (n - i) i = fstE g (n - (i + 1)) (i + 1) := by
 have : n - i = (n - (i + 1)) + 1 := by omega
 rw [this, fstE, h1, if_neg (by simp)]
theorem BR {g : Nat -> Nat} {i n : Nat} (h : n <= i) : fstE g (n - i) i = 0 := by
 have : n - i = 0 := by omega
 rw [this, fstE]
noncomputable def ichk1 (V : List El) (i : Nat) : Nat := if lchk (eg V i).2.1 ≠ 0 then lchk (eg V i).2.1 else if 0 < i /\ 0 <= dD (eg V (i - 1)).2.1 (eg V i).2.1 then 13 else 0
noncomputable def ichk (V : List El) : Nat := if 256 < V.length then 3 else fstE (ichk1 V) V.length 0
theorem pj {V : List El} (h : 256 < V.length) : ichk V = 3 := if_pos h
theorem Em {V : List El} (h : ¬ 256 < V.length) : ichk V = fstE (ichk1 V) (V.length - 0) 0 := if_neg h
noncomputable def vchk (V : List El) : Nat := if ichk V ≠ 0 then ichk V else if qz V then 0 else 11
theorem Fe {V : List El} {i : Nat} (h : i < V.length) : V.take (i + 1) = V.take i ++ [eg V i] := by
 rw [List.take_add_one, List.getElem?_eq_getElem h]
 unfold eg
 rw [List.getD_eq_getElem?_getD, List.getElem?_eq_getElem h]; rfl
theorem EBd.take {V : List El} (h : EBd V) (k : Nat) : EBd (V.take k) := ⟨by rw [List.length_take]; have := h.1; omega, fun x hx => h.2 x (List.mem_of_mem_take hx)⟩
theorem Dg {V : List El} (h : ichk V ≠ 0) : vchk V = ichk V := if_pos h
theorem vchk_ok {V : List El} (h : ichk V = 0) (hf : ∀ i, i < V.length -> fitB (eg V i).2.2 = true) : vchk V = 0 := by
 have : qz V = true := by
  unfold qz
  rw [decide_eq_true_iff]
  exact hf
 unfold vchk
 rw [if_neg (by simp [h]), this]; rfl
section
variable {tb : Tab} {n : Nat} {E : Env} {s : St} {hs : af} {R : T AV -> AHeap -> Prop} {ops rest : List Oper} {d : Nat} {t : TypeId} {ty : TypeId} {pos : String} {aft : Array Edge}
theorem WO.makeMap {kt et : Nat} (hu : bO (tb.und t) = some (kt, et)) (hd : Nat.blt d n = true) (hk : ∀ b, WO tb n ops rest E ((d, .map b) :: s) (⟨b, ⟨0, true, []⟩, true⟩ :: hs) R) :
  WO tb n ops (⟨some d, .makeMap t none, ty, pos, aft, none⟩ :: rest) E s hs R := by
 refine WO.l (s' := s) fun tm h ht hh => ?_
 refine ⟨.map h.next, ⟨h.next + 1, h.objs.set h.next ⟨0, true, []⟩⟩, tm.set d (.map h.next), ?_, aO hd, hk h.next _ _ (ht.set d _) (hh.new _)⟩
 show Res.l (dI tb tm h t none) = _
 unfold dI
 simp only [hu]
theorem WO.entryS {ox ok : Operand} {kt et i b cnt j : Nat} {ex : Bool} {cells : List AV} {k z v m : AV} (hu : bO (tb.und t) = some (kt, et)) (hx : oL s ox = some (.map b)) (hy : oL s ok = some k) (hi : hs[i]? = some ⟨b, ⟨cnt, ex, cells⟩, true⟩)
  (hkey : fi tb (tb.und kt) k = true) (hz : tb.zero et = some z) (hf : d7 (ef tb 20 kt) k cells 0 = some (some j)) (h0 : cells[3 * j]? = some k) (hb : k.beq k = true) (h1 : cells[3 * j + 1]? = some v) (h2 : cells[3 * j + 2]? = some m) (hd : Nat.blt d n = true)
  (hk : WO tb n ops rest E ((d, .tuple [v, m]) :: s) hs R) : WO tb n ops (⟨some d, .mapEntry t ox ok, ty, pos, aft, none⟩ :: rest) E s hs R := by
 refine WO.l (s' := s) fun tm h ht hh => ?_
 have hob := (hh.at_ _ (dl hi)).1
 simp only at hob
 refine ⟨.tuple [v, m], h, tm.set d (.tuple [v, m]), ?_, aO hd, hk _ _ (ht.set d _) hh⟩
 show Res.l (da tb tm h t ox ok) = _
 unfold da
 simp only [hu, aR ht hx, aR ht hy, hkey, hob, hz, hf]
 unfold vg
 simp only [h0, h1, h2, hb]
theorem WO.entryN {ox ok : Operand} {kt et i b cnt : Nat} {ex : Bool} {cells : List AV} {k z : AV} {hs' : af} (hu : bO (tb.und t) = some (kt, et)) (hx : oL s ox = some (.map b)) (hy : oL s ok = some k) (hi : hs[i]? = some ⟨b, ⟨cnt, ex, cells⟩, true⟩)
  (hkey : fi tb (tb.und kt) k = true) (hz : tb.zero et = some z) (hf : d7 (ef tb 20 kt) k cells 0 = some none) {cs : List AV} (hc : cells ++ [k, z, .int .i64 ((cnt : Nat) : Int)] = cs) (hs_ : hs.set i ⟨b, ⟨cnt + 1, ex, cs⟩, true⟩ = hs') (hd : Nat.blt d n = true)
  (hk : WO tb n ops rest E ((d, .tuple [z, .int .i64 ((cnt : Nat) : Int)]) :: s) hs' R) : WO tb n ops (⟨some d, .mapEntry t ox ok, ty, pos, aft, none⟩ :: rest) E s hs R := by
 refine WO.l (s' := s) fun tm h ht hh => ?_
 have hob := (hh.at_ _ (dl hi)).1
 simp only at hob
 subst hs_ hc
 refine ⟨.tuple [z, .int .i64 ((cnt : Nat) : Int)], ⟨h.next, h.objs.set b ⟨cnt + 1, ex, cells ++ [k, z, .int .i64 ((cnt : Nat) : Int)]⟩⟩, tm.set d (.tuple [z, .int .i64 ((cnt : Nat) : Int)]), ?_, aO hd, hk _ _ (ht.set d _) (hh.put hi)⟩
 show Res.l (da tb tm h t ox ok) = _
 unfold da
 simp only [hu, aR ht hx, aR ht hy, hkey, hob, hz, hf]
 rfl
variable {keep : af} {q p : Nat}
theorem WD.entryS {ox ok : Operand} {kt et i b cnt j : Nat} {ex : Bool} {cells : List AV} {k z v m : AV} (hu : bO (tb.und t) = some (kt, et)) (hx : oL s ox = some (.map b)) (hy : oL s ok = some k) (hi : hs[i]? = some ⟨b, ⟨cnt, ex, cells⟩, true⟩)
  (hkey : fi tb (tb.und kt) k = true) (hz : tb.zero et = some z) (hf : d7 (ef tb 20 kt) k cells 0 = some (some j)) (h0 : cells[3 * j]? = some k) (hb : k.beq k = true) (h1 : cells[3 * j + 1]? = some v) (h2 : cells[3 * j + 2]? = some m) (hd : Nat.blt d n = true) (hkp : KIn keep hs)
  (hk : WD tb n ops keep q (p + 1) rest E ((d, .tuple [v, m]) :: s) hs R) : WD tb n ops keep q p (⟨some d, .mapEntry t ox ok, ty, pos, aft, none⟩ :: rest) E s hs R :=
 WD.l (C := fun v' hs' => v' = .tuple [v, m] /\ hs' = hs) (fun tm h r e => by cases e) (fun R hR => WO.entryS hu hx hy hi hkey hz hf h0 hb h1 h2 hd (WO.nil (hR _ _ ⟨rfl, rfl⟩)))
  (fun v' hs' ⟨_, h2⟩ _ => by subst h2; exact hkp) (fun v' hs' ⟨h1, h2⟩ => by subst h1 h2; exact hk)
theorem WD.entryN {ox ok : Operand} {kt et i b cnt : Nat} {ex : Bool} {cells : List AV} {k z : AV} {hs' : af} (hu : bO (tb.und t) = some (kt, et)) (hx : oL s ox = some (.map b)) (hy : oL s ok = some k) (hi : hs[i]? = some ⟨b, ⟨cnt, ex, cells⟩, true⟩)
  (hkey : fi tb (tb.und kt) k = true) (hz : tb.zero et = some z) (hf : d7 (ef tb 20 kt) k cells 0 = some none) {cs : List AV} (hc : cells ++ [k, z, .int .i64 ((cnt : Nat) : Int)] = cs) (hs_ : hs.set i ⟨b, ⟨cnt + 1, ex, cs⟩, true⟩ = hs') (hd : Nat.blt d n = true) (hkp : KIn keep hs')
  (hk : WD tb n ops keep q (p + 1) rest E ((d, .tuple [z, .int .i64 ((cnt : Nat) : Int)]) :: s) hs' R) : WD tb n ops keep q p (⟨some d, .mapEntry t ox ok, ty, pos, aft, none⟩ :: rest) E s hs R :=
 WD.l (C := fun v' hs1 => v' = .tuple [z, .int .i64 ((cnt : Nat) : Int)] /\ hs1 = hs') (fun tm h r e => by cases e) (fun R hR => WO.entryN hu hx hy hi hkey hz hf hc hs_ hd (WO.nil (hR _ _ ⟨rfl, rfl⟩)))
  (fun v' hs1 ⟨_, h2⟩ _ => by subst h2; exact hkp) (fun v' hs1 ⟨h1, h2⟩ => by subst h1 h2; exact hk)
theorem m6 {om os oy : Operand} {i b cnt j : Nat} {ex : Bool} {kd : IntKind} {m : Int} {cells cs : List AV} {v : AV} {hs' : af} (hx : oL s om = some (.map b)) (hm : oL s os = some (.int kd m)) (hy : oL s oy = some v) (hi : hs[i]? = some ⟨b, ⟨cnt, ex, cells⟩, true⟩)
  (hf : kB m cells 0 = some j) (hl : ct cells (3 * j + 1) [v] = cs) (hs_ : hs.set i ⟨b, ⟨cnt, ex, cs⟩, true⟩ = hs') (hkp : Nat.ble (p + 1) q = true -> KIn keep hs') (hk : WD tb n ops keep q (p + 1) rest E s hs' R) :
  WD tb n ops keep q p (⟨none, .entryStore t om os oy, ty, pos, aft, none⟩ :: rest) E s hs R := by
 intro tm h ht hh hkp0
 subst hs_
 have hob := (hh.at_ _ (dl hi)).1
 simp only at hob
 have hH := hh.put (ob' := ⟨cnt, ex, cs⟩) hi
 refine n9 (v := .tuple []) (k := 2) (h1 := ⟨h.next, h.objs.set b ⟨cnt, ex, cs⟩⟩) (tm1 := tm) ?_ rfl (fun h => by cases h) (fun _ hm => (hkp (Nat.ble_eq.mpr hm)).keepIn hH) (hk tm _ ht hH (fun hm => (hkp (Nat.ble_eq.mpr hm)).keepIn hH))
 unfold fT
 have : aK ops tm ⟨none, .entryStore t om os oy, ty, pos, aft, none⟩ = some true := rfl
 rw [this]
 have he : cO tb (aD (Ev.callE tb)) tm h (.entryStore t om os oy) = .l (some (.tuple [], ⟨h.next, h.objs.set b ⟨cnt, ex, cs⟩⟩)) := by
  show Res.l (cU tm h om os oy) = _
  unfold cU
  simp only [aR ht hx, aR ht hm, aR ht hy, hob, hf, hl]
 simp only [he]
end
abbrev Me := bA × AV
def kA (k : bA) : AV := .agg [.str k.1, .str k.2]
def f4 : Nat -> List Me -> List AV
 | _, [] => []
 | i, x :: M => kA x.1 :: x.2 :: .int .i64 ((i : Nat) : Int) :: f4 (i + 1) M
theorem nu : ∀ (M N : List Me) (i : Nat), f4 i (M ++ N) = f4 i M ++ f4 (i + M.length) N
 | [], N, i => rfl
 | x :: M, N, i => by
  simp only [List.cons_append, f4, nu M N, List.length_cons]
  rw [show i + 1 + M.length = i + (M.length + 1) by omega]
theorem zY (M : List Me) (k : bA) (z : AV) : f4 0 M ++ [kA k, z, .int .i64 ((M.length : Nat) : Int)] = f4 0 (M ++ [(k, z)]) := by
 rw [nu, Nat.zero_add]; rfl
theorem tZ : ∀ (M : List Me) (i j : Nat) (x : Me), M[j]? = some x -> (f4 i M)[3 * j]? = some (kA x.1) /\ (f4 i M)[3 * j + 1]? = some x.2 /\ (f4 i M)[3 * j + 2]? = some (.int .i64 ((i + j : Nat) : Int))
 | [], i, j, x, h => by simp at h
 | y :: M, i, 0, x, h => by simp at h; subst h; exact ⟨rfl, rfl, rfl⟩
 | y :: M, i, j + 1, x, h => by
  obtain ⟨h1, h2, h3⟩ := tZ M (i + 1) j x (by simpa using h)
  have e : i + 1 + j = i + (j + 1) := by omega
  rw [e] at h3
  have e1 : 3 * (j + 1) = 3 * j + 1 + 1 + 1 := by omega
  rw [e1]
  exact ⟨h1, h2, h3⟩
theorem pv : ∀ (M : List Me) (i j : Nat) (x : Me) (v : AV), M[j]? = some x -> ct (f4 i M) (3 * j + 1) [v] = f4 i (M.set j (x.1, v))
 | [], i, j, x, v, h => by simp at h
 | y :: M, i, 0, x, v, h => by
  simp at h
  subst h
  show kA y.1 :: ct (y.2 :: _) 0 [v] = _
  simp [ct, f4]
 | y :: M, i, j + 1, x, v, h => by
  have ih := pv M (i + 1) j x v (by simpa using h)
  have e1 : 3 * (j + 1) + 1 = (3 * j + 1) + 1 + 1 + 1 := by omega
  rw [e1]
  simp only [f4, ct, List.set_cons_succ, ih]
theorem kV : ∀ (M : List Me) (i j c : Nat), j < M.length -> kB ((i + j : Nat) : Int) (f4 i M) c = some (c + j)
 | [], i, j, c, h => by simp at h
 | y :: M, i, 0, c, h => by
  show (match pV ((i : Nat) : Int) ((i + 0 : Nat) : Int) with | true => some c | false => _) = _
  rw [aG]
  simp
 | y :: M, i, j + 1, c, h => by
  show (match pV ((i : Nat) : Int) ((i + (j + 1) : Nat) : Int) with | true => some c | false => kB _ (f4 (i + 1) M) (c + 1)) = _
  rw [aG]
  have h1 : decide (i = i + (j + 1)) = false := decide_eq_false zy
  simp only [h1]
  have ih := kV M (i + 1) j (c + 1) (by simpa using h)
  have e : i + 1 + j = i + (j + 1) := by omega
  rw [e] at ih
  rw [ih]
  congr 1
  omega
theorem GE {tb : Tab} {kt e : Nat} (hu : tb.und kt = some (.array 2 e)) (hz : tb.size e = some 1) (hs : tb.und e = some .string) (ha : tb.isAgg e = some false) (x y : bA) : ef tb 20 kt (kA x) (kA y) = some (decide (x = y)) := by
 obtain ⟨a, b⟩ := x
 obtain ⟨c, d⟩ := y
 unfold kA ef
 simp only [hu, hz]
 have h1 : ∀ u v : List Nat, ef tb 19 e (.str u) (.str v) = some (dg u v) := by
  intro u v
  unfold ef
  simp only [hs]
 unfold gp
 simp only [kC, ha, Nat.zero_mul, List.getElem?_cons_zero, h1, oS]
 by_cases e1 : a = c
 ·subst e1
  simp only [decide_true]
  unfold gp
  simp only [kC, ha, Nat.zero_add, Nat.one_mul, List.getElem?_cons_succ, List.getElem?_cons_zero, h1, oS]
  by_cases e2 : b = d
  ·subst e2; simp [gp]
  ·simp [e2]
 ·simp [e1]
theorem t3 {eq : AV -> AV -> Option Bool} (heq : ∀ x y : bA, eq (kA x) (kA y) = some (decide (x = y))) (k : bA) : ∀ (M : List Me) (i c : Nat),
  (d7 eq (kA k) (f4 i M) c = some none /\ ∀ x ∈ M, x.1 ≠ k) \/ ∃ j v, M[j]? = some (k, v) /\ d7 eq (kA k) (f4 i M) c = some (some (c + j))
 | [], i, c => .inl ⟨rfl, fun x h => by simp at h⟩
 | y :: M, i, c => by
  by_cases e : k = y.1
  ·refine .inr ⟨0, y.2, by rw [e]; rfl, ?_⟩
   show (match eq (kA k) (kA y.1) with | some true => some (some c) | some false => _ | none => none) = _
   rw [heq, decide_eq_true e]; rfl
  ·have h0 : d7 eq (kA k) (f4 i (y :: M)) c = d7 eq (kA k) (f4 (i + 1) M) (c + 1) := by
    show (match eq (kA k) (kA y.1) with | some true => some (some c) | some false => d7 eq (kA k) (f4 (i + 1) M) (c + 1) | none => none) = _
    rw [heq, decide_eq_false e]
   rw [h0]
   rcases t3 heq k M (i + 1) (c + 1) with ⟨h1, h2⟩ | ⟨j, v, h1, h2⟩
   ·refine .inl ⟨h1, fun x hx => ?_⟩
    rcases List.mem_cons.1 hx with rfl | hx
    ·exact fun g => e g.symm
    ·exact h2 x hx
   ·refine .inr ⟨j + 1, v, by simpa using h1, ?_⟩
    rw [h2]
    congr 2
    omega
theorem EJ {M : List Me} {k : bA} {z v : AV} : ct (f4 0 (M ++ [(k, z)])) (3 * M.length + 1) [v] = f4 0 (M ++ [(k, v)]) := by
 rw [pv (M ++ [(k, z)]) 0 M.length (k, z) v (by simp)]
 congr 1
 simp
theorem Ch {M : List Me} {k : bA} {z : AV} : kB ((M.length : Nat) : Int) (f4 0 (M ++ [(k, z)])) 0 = some M.length := by
 have := kV (M ++ [(k, z)]) 0 M.length 0 (by simp)
 simpa using this
theorem Ci {M : List Me} {j : Nat} {x : Me} (h : M[j]? = some x) : kB ((0 + j : Nat) : Int) (f4 0 M) 0 = some j := by
 have := kV M 0 j 0 (List.getElem?_eq_some_iff.1 h).1
 simpa using this
def MB (c : Nat) : List Me -> af -> Prop
 | [], D => D = []
 | x :: M, D => ∃ cs len hp D', OwnE 1 cs len x.2 hp /\ len <= c /\ D = hp ++ D' /\ MB c M D'
theorem MB.mono {c c' : Nat} (hc : c <= c') : ∀ {M : List Me} {D : af}, MB c M D -> MB c' M D
 | [], D, h => h
 | x :: M, D, ⟨cs, len, hp, D', h1, h2, h3, h4⟩ => ⟨cs, len, hp, D', h1, by omega, h3, MB.mono hc h4⟩
theorem MB.at {c : Nat} : ∀ {M : List Me} {D : af} {j : Nat} {x : Me}, MB c M D -> M[j]? = some x -> ∃ A cs len hp B, D = A ++ (hp ++ B) /\ OwnE 1 cs len x.2 hp /\ len <= c /\
  ∀ c' v' cs' len' hp', c <= c' -> OwnE 1 cs' len' v' hp' -> len' <= c' -> MB c' (M.set j (x.1, v')) (A ++ (hp' ++ B))
 | [], D, j, x, _, h => by simp at h
 | y :: M, D, 0, x, ⟨cs, len, hp, D', h1, h2, h3, h4⟩, h => by
  simp at h
  subst h
  exact ⟨[], cs, len, hp, D', h3, h1, h2, fun c' v' cs' len' hp' g1 g2 g3 => ⟨cs', len', hp', D', g2, g3, rfl, h4.mono g1⟩⟩
 | y :: M, D, j + 1, x, ⟨cs, len, hp, D', h1, h2, h3, h4⟩, h => by
  obtain ⟨A, cs1, len1, hp1, B, g1, g2, g3, g4⟩ := MB.at h4 (by simpa using h)
  refine ⟨hp ++ A, cs1, len1, hp1, B, by rw [h3, g1, List.append_assoc], g2, g3, fun c' v' cs' len' hp' k1 k2 k3 => ?_⟩
  exact ⟨cs, len, hp, A ++ (hp' ++ B), h1, by omega, by rw [List.append_assoc], g4 c' v' cs' len' hp' k1 k2 k3⟩
theorem MB.push {c c' : Nat} {k : bA} {v : AV} {cs : List AV} {len : Nat} {hp : af} (hc : c <= c') (hO : OwnE 1 cs len v hp) (hl : len <= c') : ∀ {M : List Me} {D : af}, MB c M D -> MB c' (M ++ [(k, v)]) (D ++ hp)
 | [], D, h => by
  have h : D = [] := h
  subst h
  exact ⟨cs, len, hp, [], hO, hl, by simp, rfl⟩
 | x :: M, D, ⟨cs1, len1, hp1, D', h1, h2, h3, h4⟩ => ⟨cs1, len1, hp1, D' ++ hp, h1, by omega, by rw [h3, List.append_assoc], MB.push hc hO hl h4⟩
theorem GD (k : bA) : (kA k).beq (kA k) = true := by unfold kA; simp [AV.beq, dG, dF, d6, dO]
end Go.Proofs.YtfkbfnpjggkdmaaGreatDoor.Ev.P19
