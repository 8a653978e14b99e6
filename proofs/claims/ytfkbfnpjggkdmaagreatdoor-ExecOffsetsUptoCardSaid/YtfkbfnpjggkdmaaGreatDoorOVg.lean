/- Chapter 7, by the document: where a text ends. -/
import Derived.Test.YtfkbfnpjggkdmaaGreatDoorOVf
namespace Go.Proofs.YtfkbfnpjggkdmaaGreatDoor.Ev.P7
open Go.RowKit
set_option maxRecDepth 100000
set_option maxHeartbeats 1000000
def Inc (N : Nat) (L : List Nat) : Prop := L.Pairwise (· < ·) ∧ ∀ x ∈ L, x ≤ N
theorem inc_len {N : Nat} : ∀ (L : List Nat) (m : Nat), L.Pairwise (· < ·) → (∀ x ∈ L, m ≤ x ∧ x ≤ N) → L.length ≤ N + 1 - m
 | [], m, _, _ => Nat.zero_le _
 | x :: L, m, h, hb => by
  rw [List.pairwise_cons] at h
  have := inc_len L (x + 1) h.2 (fun y hy => ⟨h.1 y hy, (hb y (List.mem_cons_of_mem _ hy)).2⟩)
  have h0 := hb x List.mem_cons_self
  simp only [List.length_cons]
  omega
theorem Inc.len {N : Nat} {L : List Nat} (h : Inc N L) : L.length ≤ N + 1 := inc_len L 0 h.1 fun x hx => ⟨Nat.zero_le _, h.2 x hx⟩
theorem Inc.nil (N : Nat) : Inc N [] := ⟨List.Pairwise.nil, fun x h => by cases h⟩
theorem Inc.at_ {N : Nat} {L : List Nat} (h : Inc N L) {i : Nat} (hi : i < L.length) : L.getD i 0 ∈ L.drop i ∧ (∀ y ∈ L.drop (i + 1), L.getD i 0 < y) ∧ (∀ y ∈ L.drop i, L.getD i 0 ≤ y) ∧ L.getD i 0 ≤ N := by
 have e : L.getD i 0 = L[i] := by rw [List.getD_eq_getElem?_getD, List.getElem?_eq_getElem hi]; rfl
 have hd := List.drop_eq_getElem_cons hi
 have hp : (L.drop i).Pairwise (· < ·) := h.1.sublist (List.drop_sublist i L)
 rw [hd, List.pairwise_cons] at hp
 rw [e, hd]
 refine ⟨List.mem_cons_self, hp.1, fun y hy => ?_, h.2 _ (List.getElem_mem hi)⟩
 rcases List.mem_cons.1 hy with rfl | hy
 ·exact Nat.le_refl _
 ·exact Nat.le_of_lt (hp.1 y hy)
theorem Inc.last {N : Nat} {L : List Nat} (h : Inc N L) {x : Nat} (hx : x ∈ L) : x ≤ L.getD (0 + (L.length - 1)) 0 := by
 obtain ⟨i, hi, rfl⟩ := List.getElem_of_mem hx
 have e : L.getD (0 + (L.length - 1)) 0 = L[L.length - 1]'(by omega) := by rw [List.getD_eq_getElem?_getD, Nat.zero_add, List.getElem?_eq_getElem (by omega)]; rfl
 rw [e]
 rcases Nat.lt_or_ge i (L.length - 1) with g | g
 ·exact Nat.le_of_lt (List.pairwise_iff_getElem.1 h.1 i (L.length - 1) hi (by omega) g)
 ·have : i = L.length - 1 := by omega
  subst this
  exact Nat.le_refl _
def cI (L : List Nat) : List AV := L.map fun x => .int .i64 ((x : Nat) : Int)
theorem ci_len (L : List Nat) : (cI L).length = L.length * 1 := by simp [cI]
theorem ci_at {L : List Nat} {a b : Nat} (h : a + b < L.length) : (cI L)[(a + b) * 1]? = some (.int .i64 ((L.getD (a + b) 0 : Nat) : Int)) := by
 rw [Nat.mul_one]
 unfold cI
 rw [List.getElem?_map, List.getD_eq_getElem?_getD, List.getElem?_eq_getElem h]
 rfl
def IS (hs : HSt) (A : List Nat) (i : Nat) (v : AV) : Prop := (v = .nils ∧ A = []) ∨ ∃ b ex, v = .slice b i (A.length - i) 1 ∧ MemH hs b ⟨1, ex, cI A⟩
theorem is_len {hs : HSt} {A : List Nat} {i : Nat} {v : AV} {e : Nat} (h : IS hs A i v) : lenA (.slice e) v = some (A.length - i) := by
 rcases h with ⟨rfl, rfl⟩ | ⟨b, ex, rfl, _⟩
 ·simp [lenA]
 ·rfl
theorem is_full {hs : HSt} {A : List Nat} {i : Nat} {v : AV} (h : IS hs A i v) (hl : 0 < A.length - i) : ∃ b ex, v = .slice b i (A.length - i) 1 ∧ MemH hs b ⟨1, ex, cI A⟩ := by
 rcases h with ⟨_, rfl⟩ | h
 ·simp at hl
 ·exact h
theorem is_next {hs : HSt} {A : List Nat} {i b : Nat} {ex : Bool} (w : Bool) (h : (⟨b, ⟨1, ex, cI A⟩, w⟩ : HE) ∈ hs) : IS hs A (i + 1) (.slice b (i + 1) (A.length - i - 1) 1) := .inr ⟨b, ex, by rw [Nat.sub_sub], w, h⟩
def ZV (N : Nat) (hs : HSt) (v : AV) : Prop := ∃ L, Inc N L ∧ IS hs L 0 v
def ZQ (N : Nat) (v : AV) (D : HSt) : Prop := ZV N D v ∧ ∀ e ∈ D, e.w = true
theorem ZV.mono {N : Nat} {hs hs' : HSt} {v : AV} (hm : ∀ b o, MemH hs b o → MemH hs' b o) (h : ZV N hs v) : ZV N hs' v := let ⟨L, h1, h2⟩ := h; ⟨L, h1, h2.imp id fun ⟨b, ex, g1, g2⟩ => ⟨b, ex, g1, hm _ _ g2⟩⟩
theorem ZV.ro {N : Nat} {hs : HSt} {v : AV} (h : ZV N hs v) : ZV N (Ev.ro hs) v := h.mono fun b o g => g.ro
theorem ZV.appr {N : Nat} {A hs : HSt} {v : AV} (h : ZV N hs v) : ZV N (A ++ hs) v := h.mono fun b o ⟨w, g⟩ => ⟨w, List.mem_append_right _ g⟩
theorem ZV.appl {N : Nat} {A hs : HSt} {v : AV} (h : ZV N hs v) : ZV N (hs ++ A) v := h.mono fun b o ⟨w, g⟩ => ⟨w, List.mem_append_left _ g⟩
def zn : AV → Nat
 | .slice _ _ n _ => n
 | _ => 0
theorem zv_len {N : Nat} {hs : HSt} {v : AV} {e : Nat} (h : ZV N hs v) : lenA (.slice e) v = some (zn v) := by
 obtain ⟨L, _, ⟨rfl, _⟩ | ⟨b, ex, rfl, _⟩⟩ := h <;> rfl
theorem own_full {O : List Nat} {v : AV} {ho : HSt} (h : Own 1 (cI O) O.length v ho) (hl : 0 < O.length) : ∃ b ex, v = .slice b 0 O.length 1 ∧ (⟨b, ⟨1, ex, cI O⟩, true⟩ : HE) ∈ ho := by
 obtain ⟨b, ex, rfl, rfl⟩ := h.full hl
 exact ⟨b, ex, rfl, List.mem_singleton.2 rfl⟩
theorem ZV.own {N : Nat} {O : List Nat} {v : AV} {ho : HSt} (hI : Inc N O) (h : Own 1 (cI O) O.length v ho) : ZV N ho v := by
 refine ⟨O, hI, ?_⟩
 by_cases h0 : 0 < O.length
 ·obtain ⟨b, ex, rfl, hm⟩ := own_full h h0
  exact .inr ⟨b, ex, rfl, true, hm⟩
 ·have : O = [] := List.eq_nil_of_length_eq_zero (by omega)
  subst this
  rcases h with ⟨_, _, rfl, _⟩ | ⟨b, ex, rfl, rfl, _⟩
  ·exact .inl ⟨rfl, rfl⟩
  ·exact .inr ⟨b, ex, rfl, true, List.mem_singleton.2 rfl⟩
theorem own_app {O : List Nat} {q : Nat} {v : AV} {ho : HSt} (h : Own 1 (cI O ++ [.int .i64 ((q : Nat) : Int)]) (O.length + 1) v ho) : Own 1 (cI (O ++ [q])) (O ++ [q]).length v ho := by
 have e1 : cI (O ++ [q]) = cI O ++ [.int .i64 ((q : Nat) : Int)] := by simp [cI]
 rw [e1, List.length_append]
 exact h
def MInv (N : Nat) (A B : List Nat) (i j : Nat) (O : List Nat) : Prop := Inc N A ∧ Inc N B ∧ Inc N O ∧ ∀ x ∈ O, ∀ y ∈ A.drop i ++ B.drop j, x ≤ y
def MMid (N : Nat) (A B : List Nat) (i j : Nat) (O : List Nat) (q : Nat) : Prop := Inc N A ∧ Inc N B ∧ Inc N O ∧ q ≤ N ∧ (∀ x ∈ O, x ≤ q) ∧ ∀ y ∈ A.drop i ++ B.drop j, q ≤ y
theorem MInv.init {N : Nat} {A B : List Nat} (h : Inc N A) (g : Inc N B) : MInv N A B 0 0 [] := ⟨h, g, Inc.nil N, fun x hx => by cases hx⟩
theorem MMid.le {N : Nat} {A B : List Nat} {i j : Nat} {O : List Nat} {q : Nat} (h : MMid N A B i j O q) : q ≤ N := h.2.2.2.1
theorem MMid.skip {N : Nat} {A B : List Nat} {i j : Nat} {O : List Nat} {q : Nat} (h : MMid N A B i j O q) : MInv N A B i j O := ⟨h.1, h.2.1, h.2.2.1, fun x hx y hy => Nat.le_trans (h.2.2.2.2.1 x hx) (h.2.2.2.2.2 y hy)⟩
theorem MInv.midA {N : Nat} {A B : List Nat} {i j : Nat} {O : List Nat} (h : MInv N A B i j O) (hi : i < A.length) (hb : j < B.length → A.getD (i + 0) 0 ≤ B.getD (j + 0) 0) : MMid N A B (i + 1) j O (A.getD (i + 0) 0) := by
 obtain ⟨h1, h2, h3, h4⟩ := h
 obtain ⟨a1, a2, a3, a4⟩ := h1.at_ hi
 simp only [Nat.add_zero] at hb ⊢
 refine ⟨h1, h2, h3, a4, fun x hx => h4 x hx _ (List.mem_append_left _ a1), fun y hy => ?_⟩
 rcases List.mem_append.1 hy with hy | hy
 ·exact Nat.le_of_lt (a2 y hy)
 ·by_cases hj : j < B.length
  ·exact Nat.le_trans (hb hj) ((h2.at_ hj).2.2.1 y hy)
  ·rw [List.drop_eq_nil_of_le (by omega)] at hy; cases hy
theorem MInv.midB {N : Nat} {A B : List Nat} {i j : Nat} {O : List Nat} (h : MInv N A B i j O) (hj : j < B.length) (hb : i < A.length → B.getD (j + 0) 0 ≤ A.getD (i + 0) 0) : MMid N A B i (j + 1) O (B.getD (j + 0) 0) := by
 obtain ⟨h1, h2, h3, h4⟩ := h
 obtain ⟨a1, a2, a3, a4⟩ := h2.at_ hj
 simp only [Nat.add_zero] at hb ⊢
 refine ⟨h1, h2, h3, a4, fun x hx => h4 x hx _ (List.mem_append_right _ a1), fun y hy => ?_⟩
 rcases List.mem_append.1 hy with hy | hy
 ·by_cases hi : i < A.length
  ·exact Nat.le_trans (hb hi) ((h1.at_ hi).2.2.1 y hy)
  ·rw [List.drop_eq_nil_of_le (by omega)] at hy; cases hy
 ·exact Nat.le_of_lt (a2 y hy)
theorem inc_app {N : Nat} {O : List Nat} {q : Nat} (h : Inc N O) (hq : q ≤ N) (hx : ∀ x ∈ O, x < q) : Inc N (O ++ [q]) := by
 refine ⟨List.pairwise_append.2 ⟨h.1, List.pairwise_singleton _ _, fun a ha b hb => by rw [List.mem_singleton.1 hb]; exact hx a ha⟩, fun x hm => ?_⟩
 rcases List.mem_append.1 hm with hm | hm
 ·exact h.2 x hm
 ·rw [List.mem_singleton.1 hm]; exact hq
theorem MMid.app {N : Nat} {A B : List Nat} {i j : Nat} {O : List Nat} {q : Nat} (h : MMid N A B i j O q) (hn : O.length = 0 ∨ O.getD (0 + (O.length - 1)) 0 ≠ q) : MInv N A B i j (O ++ [q]) := by
 obtain ⟨h1, h2, h3, h4, h5, h6⟩ := h
 refine ⟨h1, h2, inc_app h3 h4 fun x hx => ?_, fun x hx y hy => ?_⟩
 ·rcases hn with hn | hn
  ·rw [List.eq_nil_of_length_eq_zero hn] at hx; cases hx
  ·have hl := h3.last hx
   have : O.getD (0 + (O.length - 1)) 0 ≤ q := h5 _ (by
    have : 0 < O.length := List.length_pos_of_mem hx
    rw [List.getD_eq_getElem?_getD, List.getElem?_eq_getElem (by omega)]
    exact List.getElem_mem _)
   omega
 ·rcases List.mem_append.1 hx with hx | hx
  ·exact Nat.le_trans (h5 x hx) (h6 y hy)
  ·rw [List.mem_singleton.1 hx]; exact h6 y hy
def OInv (N : Nat) (L : List Nat) (i : Nat) (O : List Nat) : Prop := Inc N O ∧ Inc N L ∧ ∀ x ∈ O, ∀ y ∈ L.drop i, x ≤ y
theorem OInv.init {N : Nat} {L : List Nat} (h : Inc N L) : OInv N L 0 [] := ⟨Inc.nil N, h, fun x hx => by cases hx⟩
theorem OInv.skip {N : Nat} {L : List Nat} {i : Nat} {O : List Nat} (h : OInv N L i O) (hi : i < L.length) : OInv N L (i + 1) O := ⟨h.1, h.2.1, fun x hx y hy => h.2.2 x hx y (by rw [List.drop_eq_getElem_cons hi]; exact List.mem_cons_of_mem _ hy)⟩
theorem OInv.app {N : Nat} {L : List Nat} {i : Nat} {O : List Nat} (h : OInv N L i O) (hi : i < L.length) (hq : L.getD (0 + i) 0 < N) : OInv N L (i + 1) (O ++ [L.getD (0 + i) 0 + 1]) := by
 rw [Nat.zero_add] at hq ⊢
 obtain ⟨a1, a2, a3, a4⟩ := h.2.1.at_ hi
 refine ⟨inc_app h.1 hq fun x hx => Nat.lt_succ_of_le (h.2.2 x hx _ a1), h.2.1, fun x hx y hy => ?_⟩
 rcases List.mem_append.1 hx with hx | hx
 ·exact (h.skip hi).2.2 x hx y hy
 ·rw [List.mem_singleton.1 hx]; exact a2 y hy
theorem merge_spec (hs : HSt) (hro : ∀ e ∈ hs, e.w = false) (N : Nat) (A B : List Nat) (va vb : AV) (hA : IS hs A 0 va) (hB : IS hs B 0 vb) (hIA : Inc N A) (hIB : Inc N B) (hN : N ≤ 64) : Spec tab 252 [va, vb] [] hs (fun v D => ZV N D v ∧ ∀ e ∈ D, e.w = true) := by
 refine Spec.en (ftg 252 Tryz.func252) rfl (m := 60) rfl (rs := [.tmp 4]) rfl (st := [(0, va), (1, vb)]) rfl rfl (fun _ => rfl) (fun E => ?_)
 refine W.seq ?_
 refine W.reg ?_
 refine WO.q (Q.assign rfl) rfl ?_
 refine WO.nil ?_
 refine End.K ?_
 refine W.seq ?_
 refine W.reg ?_
 refine WO.q (Q.assign rfl) rfl ?_
 refine WO.nil ?_
 refine End.K ?_
 refine W.seq ?_
 refine W.block ?_
 refine W.loop_ind7 (fun (i : Nat) (j : Nat) (va : AV) (vb : AV) (O : List Nat) (v : AV) (ho : HSt) => [(0, va), (1, vb), (5, v)]) (fun (i : Nat) (j : Nat) (va : AV) (vb : AV) (O : List Nat) (v : AV) (ho : HSt) => hs ++ ho) (fun (i : Nat) (j : Nat) (va : AV) (vb : AV) (O : List Nat) (v : AV) (ho : HSt) => IS hs A i va ∧ IS hs B j vb ∧ MInv N A B i j O ∧ Own 1 (cI O) O.length v ho) (fun (i : Nat) (j : Nat) (va : AV) (vb : AV) (O : List Nat) (v : AV) (ho : HSt) => A.length - i + (B.length - j)) (0) (0) (va) (vb) ([]) (.nils) ([]) ⟨hA, hB, MInv.init hIA hIB, Own.nil 1⟩ (SubS.cons rfl (SubS.cons rfl (SubS.cons rfl (SubS.nil _)))) (SubH.of_sublist (by simp)) (fun i j va vb O v ho hI0 ih0 => ?_)
 obtain ⟨hA, hB, hM, hO⟩ := hI0
 have hOl := (hM.2.2.1).len
 have hOc := ci_len O
 refine W.seqJ1 (fun (z : Unit) => [(0, va), (1, vb), (5, v)]) (fun (z : Unit) => hs ++ ho) (fun (z : Unit) => 0 < A.length - i ∨ 0 < B.length - j) (fun z hI3 => ?_) (fun hJ3 => ?_)
 ·skip -- L0J3
  have hsome := hI3
  refine W.block ?_
  refine W.seq ?_
  refine W.reg ?_
  refine WO.q (Q.assign (oc (v := .int .i64 ((0 : Nat) : Int)) rfl)) rfl ?_
  refine WO.nil ?_
  refine End.K ?_
  refine W.seqJ5 (fun (i2 : Nat) (j2 : Nat) (ua : AV) (ub : AV) (q : Nat) => [(0, ua), (1, ub), (5, v), (6, .int .i64 ((q : Nat) : Int))]) (fun (i2 : Nat) (j2 : Nat) (ua : AV) (ub : AV) (q : Nat) => hs ++ ho) (fun (i2 : Nat) (j2 : Nat) (ua : AV) (ub : AV) (q : Nat) => IS hs A i2 ua ∧ IS hs B j2 ub ∧ MMid N A B i2 j2 O q ∧ A.length - i2 + (B.length - j2) < A.length - i + (B.length - j)) (fun i2 j2 ua ub q hI9 => ?_) (fun hJ9 => ?_)
  ·skip -- L0J3J9
   obtain ⟨hA2, hB2, hM2, hms⟩ := hI9
   have hqN := hM2.le
   refine W.seq ?_
   refine W.reg ?_
   refine WO.q (Q.move rfl) rfl ?_
   refine WO.q (Q.len ud25 rfl hO.len) rfl ?_
   refine WO.q (Q.bin rfl (oc (v := .int .i64 ((0 : Nat) : Int)) rfl) rfl (bv_eql eq_nat)) rfl ?_
   refine WO.q (Q.move rfl) rfl ?_
   refine WO.sD (d := 45) rfl (fun hc45 => ?_) (fun hc45 => ?_)
   ·skip -- L0J3J9t
    refine WO.gF rfl rfl (.inl rfl) rfl ?_
    refine WO.gF rfl rfl (.inl rfl) rfl ?_
    refine WO.gF rfl rfl (.inl rfl) rfl ?_
    refine WO.gF rfl rfl (.inl rfl) rfl ?_
    refine WO.gF rfl rfl (.inl rfl) rfl ?_
    refine WO.gF rfl rfl (.inl rfl) rfl ?_
    refine WO.gF rfl rfl (.inl rfl) rfl ?_
    refine WO.gF rfl rfl (.inl rfl) rfl ?_
    refine WO.q (Q.pT rfl rfl) rfl ?_
    refine WO.nil ?_
    refine End.K ?_
    refine W.condT rfl ?_
    refine W.reg ?_
    refine WO.q (Q.move rfl) rfl ?_
    refine WO.q (Q.move rfl) rfl ?_
    refine WO.bslice ud25 sz3 zr3 rfl (opc rfl opn) rfl (cs := [_]) rfl rfl rfl (fun b1 => ?_)
    refine WO.appOwn (e := ⟨b1, _, true⟩) (A := ([] ++ hs)) ap25_25 hO rfl rfl rfl rfl ⟨by first | omega | (simp at * <;> omega), by first | omega | (simp at * <;> omega)⟩ (by decide) rfl rfl (fun v58 hp58 hO58 => ?_)
    refine WO.q (Q.assign rfl) rfl ?_
    refine WO.nil ?_
    refine End.KB (End.KL ?_)
    refine W.sub (SubS.cons rfl (SubS.cons rfl (SubS.cons rfl (SubS.nil _)))) (W.sH (SubH.refl _) (ih0 (i2) (j2) (ua) (ub) (O ++ [q]) (v58) (hp58) ?_ ?_))
    ·exact ⟨hA2, hB2, hM2.app (.inl (by omega)), own_app hO58⟩
    ·exact zo
   ·skip -- L0J3J9f
    obtain ⟨bo, exo, rfl, mo⟩ := own_full hO (by omega)
    refine WO.gT rfl rfl ?_
    refine WO.q (Q.move rfl) rfl ?_
    refine WO.gT rfl rfl ?_
    refine WO.q (Q.move rfl) rfl ?_
    refine WO.gT rfl rfl ?_
    refine WO.q (Q.len ud25 rfl rfl) rfl ?_
    refine WO.gT rfl rfl ?_
    refine WO.q (Q.bin rfl (oc (v := .int .i64 ((1 : Nat) : Int)) rfl) rfl (bv_sub (wns zo))) rfl ?_
    refine WO.gT rfl rfl ?_
    refine WO.q (Q.iS ud25 sz3 rfl rfl zo) rfl ?_
    refine WO.gT rfl rfl ?_
    refine WO.q (Q.l1 rfl (List.mem_append_right _ mo) ag3 (ci_at (L := O) (by omega))) rfl ?_
    refine WO.gT rfl rfl ?_
    refine WO.q (Q.move rfl) rfl ?_
    refine WO.gT rfl rfl ?_
    refine WO.q (Q.bin rfl rfl rfl (bv_neq ne_nat)) rfl ?_
    refine WO.q (Q.pF rfl rfl) rfl ?_
    refine WO.nil ?_
    refine End.K ?_
    refine W.cD rfl (fun hc54 => ?_) (fun hc54 => ?_)
    ·skip -- L0J3J9fT
     refine W.reg ?_
     refine WO.q (Q.move rfl) rfl ?_
     refine WO.q (Q.move rfl) rfl ?_
     refine WO.bslice ud25 sz3 zr3 rfl (opc rfl opn) rfl (cs := [_]) rfl rfl rfl (fun b3 => ?_)
     refine WO.appOwn (e := ⟨b3, _, true⟩) (A := ([] ++ hs)) ap25_25 hO rfl rfl rfl rfl ⟨by first | omega | (simp at * <;> omega), by first | omega | (simp at * <;> omega)⟩ (by decide) rfl rfl (fun v58 hp58 hO58 => ?_)
     refine WO.q (Q.assign rfl) rfl ?_
     refine WO.nil ?_
     refine End.KB (End.KL ?_)
     refine W.sub (SubS.cons rfl (SubS.cons rfl (SubS.cons rfl (SubS.nil _)))) (W.sH (SubH.refl _) (ih0 (i2) (j2) (ua) (ub) (O ++ [q]) (v58) (hp58) ?_ ?_))
     ·exact ⟨hA2, hB2, hM2.app (.inr hc54), own_app hO58⟩
     ·exact zo
    ·skip -- L0J3J9fF
     refine W.skip ?_
     refine End.KB (End.KL ?_)
     refine W.sub (SubS.cons rfl (SubS.cons rfl (SubS.cons rfl (SubS.nil _)))) (W.sH (SubH.refl _) (ih0 (i2) (j2) (ua) (ub) (O) (_) (ho) ?_ ?_))
     ·exact ⟨hA2, hB2, hM2.skip, hO⟩
     ·exact zo
  ·skip
   refine W.seq ?_
   refine W.regT (by kernel_rfl) ?_
   refine WO.q (Q.move rfl) rfl ?_
   refine WO.q (Q.len ud25 rfl (is_len hB)) rfl ?_
   refine WO.q (Q.bin rfl (oc (v := .int .i64 ((0 : Nat) : Int)) rfl) rfl (bv_eql eq_nat)) rfl ?_
   refine WO.q (Q.move rfl) rfl ?_
   refine WO.sD (d := 18) rfl (fun hc18 => ?_) (fun hc18 => ?_)
   ·skip -- L0J3t
    obtain ⟨ba, exa, rfl, wa, ma⟩ := is_full hA (by omega)
    refine WO.gF rfl rfl (.inl rfl) rfl ?_
    refine WO.gF rfl rfl (.inl rfl) rfl ?_
    refine WO.gF rfl rfl (.inl rfl) rfl ?_
    refine WO.gF rfl rfl (.inl rfl) rfl ?_
    refine WO.gF rfl rfl (.inr rfl) rfl ?_
    refine WO.gF rfl rfl (.inr rfl) rfl ?_
    refine WO.gF rfl rfl (.inr rfl) rfl ?_
    refine WO.gF rfl rfl (.inr rfl) rfl ?_
    refine WO.gF rfl rfl (.inr rfl) rfl ?_
    refine WO.gF rfl rfl (.inr rfl) rfl ?_
    refine WO.gF rfl rfl (.inr rfl) rfl ?_
    refine WO.gF rfl rfl (.inl rfl) rfl ?_
    refine WO.q (Q.pT rfl rfl) rfl ?_
    refine WO.nil ?_
    refine End.K ?_
    refine W.sub (SubS.cons (k := 31) rfl (SubS.cons (k := 0) rfl (SubS.cons (k := 1) rfl (SubS.cons (k := 5) rfl (SubS.nil _))))) ?_
    refine W.condT rfl ?_
    refine W.seq ?_
    refine W.reg ?_
    refine WO.q (Q.move rfl) rfl ?_
    refine WO.q (Q.iS ud25 sz3 rfl (oc (v := .int .i64 ((0 : Nat) : Int)) rfl) zo) rfl ?_
    refine WO.q (Q.l1 rfl (List.mem_append_left _ ma) ag3 (ci_at (L := A) (by omega))) rfl ?_
    refine WO.q (Q.assign rfl) rfl ?_
    refine WO.nil ?_
    refine End.K ?_
    refine W.reg ?_
    refine WO.q (Q.move rfl) rfl ?_
    refine WO.q (Q.sliceL ud25 sz3 rfl rfl zo) rfl ?_
    refine WO.q (Q.assign rfl) rfl ?_
    refine WO.nil ?_
    refine End.K (W.sub (SubS.cons rfl (SubS.cons rfl (SubS.cons rfl (SubS.cons rfl (SubS.nil _))))) (hJ9 (i + 1) (j) (_) (vb) (_) ?_))
    exact ⟨is_next wa ma, hB, hM.midA (by omega) (by omega), by omega⟩
   ·skip -- L0J3f
    refine WO.gT rfl rfl ?_
    refine WO.q (Q.move rfl) rfl ?_
    refine WO.gT rfl rfl ?_
    refine WO.q (Q.len ud25 rfl (is_len hA)) rfl ?_
    refine WO.gT rfl rfl ?_
    refine WO.q (Q.bin rfl (oc (v := .int .i64 ((0 : Nat) : Int)) rfl) rfl (bv_gtr ltn)) rfl ?_
    refine WO.gT rfl rfl ?_
    refine WO.q (Q.move rfl) rfl ?_
    refine WO.sD (d := 22) rfl (fun hc22 => ?_) (fun hc22 => ?_)
    ·skip -- L0J3ft
     obtain ⟨ba, exa, rfl, wa, ma⟩ := is_full hA (by omega)
     obtain ⟨bb, exb, rfl, wb, mb⟩ := is_full hB (by omega)
     refine WO.gT rfl rfl ?_
     refine WO.q (Q.move rfl) rfl ?_
     refine WO.gT rfl rfl ?_
     refine WO.q (Q.iS ud25 sz3 rfl (oc (v := .int .i64 ((0 : Nat) : Int)) rfl) zo) rfl ?_
     refine WO.gT rfl rfl ?_
     refine WO.q (Q.l1 rfl (List.mem_append_left _ ma) ag3 (ci_at (L := A) (by omega))) rfl ?_
     refine WO.gT rfl rfl ?_
     refine WO.q (Q.move rfl) rfl ?_
     refine WO.gT rfl rfl ?_
     refine WO.q (Q.iS ud25 sz3 rfl (oc (v := .int .i64 ((0 : Nat) : Int)) rfl) zo) rfl ?_
     refine WO.gT rfl rfl ?_
     refine WO.q (Q.l1 rfl (List.mem_append_left _ mb) ag3 (ci_at (L := B) (by omega))) rfl ?_
     refine WO.gT rfl rfl ?_
     refine WO.q (Q.bin rfl rfl rfl (bv_leq le_nat)) rfl ?_
     refine WO.gT rfl rfl ?_
     refine WO.q (Q.pT rfl rfl) rfl ?_
     refine WO.q (Q.pF rfl rfl) rfl ?_
     refine WO.nil ?_
     refine End.K ?_
     refine W.sub (SubS.cons (k := 31) rfl (SubS.cons (k := 0) rfl (SubS.cons (k := 1) rfl (SubS.cons (k := 5) rfl (SubS.nil _))))) ?_
     refine W.cD rfl (fun hc31 => ?_) (fun hc31 => ?_)
     ·skip -- L0J3ftT
      refine W.seq ?_
      refine W.reg ?_
      refine WO.q (Q.move rfl) rfl ?_
      refine WO.q (Q.iS ud25 sz3 rfl (oc (v := .int .i64 ((0 : Nat) : Int)) rfl) zo) rfl ?_
      refine WO.q (Q.l1 rfl (List.mem_append_left _ ma) ag3 (ci_at (L := A) (by omega))) rfl ?_
      refine WO.q (Q.assign rfl) rfl ?_
      refine WO.nil ?_
      refine End.K ?_
      refine W.reg ?_
      refine WO.q (Q.move rfl) rfl ?_
      refine WO.q (Q.sliceL ud25 sz3 rfl rfl zo) rfl ?_
      refine WO.q (Q.assign rfl) rfl ?_
      refine WO.nil ?_
      refine End.K (W.sub (SubS.cons rfl (SubS.cons rfl (SubS.cons rfl (SubS.cons rfl (SubS.nil _))))) (hJ9 (i + 1) (j) (_) (.slice bb j (B.length - j) 1) (_) ?_))
      exact ⟨is_next wa ma, .inr ⟨bb, exb, rfl, wb, mb⟩, hM.midA (by omega) (by omega), by omega⟩
     ·skip -- L0J3ftF
      refine W.seq ?_
      refine W.reg ?_
      refine WO.q (Q.move rfl) rfl ?_
      refine WO.q (Q.iS ud25 sz3 rfl (oc (v := .int .i64 ((0 : Nat) : Int)) rfl) zo) rfl ?_
      refine WO.q (Q.l1 rfl (List.mem_append_left _ mb) ag3 (ci_at (L := B) (by omega))) rfl ?_
      refine WO.q (Q.assign rfl) rfl ?_
      refine WO.nil ?_
      refine End.K ?_
      refine W.reg ?_
      refine WO.q (Q.move rfl) rfl ?_
      refine WO.q (Q.sliceL ud25 sz3 rfl rfl zo) rfl ?_
      refine WO.q (Q.assign rfl) rfl ?_
      refine WO.nil ?_
      refine End.K (W.sub (SubS.cons rfl (SubS.cons rfl (SubS.cons rfl (SubS.cons rfl (SubS.nil _))))) (hJ9 (i) (j + 1) (.slice ba i (A.length - i) 1) (_) (_) ?_))
      exact ⟨.inr ⟨ba, exa, rfl, wa, ma⟩, is_next wb mb, hM.midB (by omega) (by omega), by omega⟩
    ·skip -- L0J3ff
     obtain ⟨bb, exb, rfl, wb, mb⟩ := is_full hB (by omega)
     refine WO.gF rfl rfl (.inl rfl) rfl ?_
     refine WO.gF rfl rfl (.inl rfl) rfl ?_
     refine WO.gF rfl rfl (.inl rfl) rfl ?_
     refine WO.gF rfl rfl (.inl rfl) rfl ?_
     refine WO.gF rfl rfl (.inl rfl) rfl ?_
     refine WO.gF rfl rfl (.inl rfl) rfl ?_
     refine WO.gF rfl rfl (.inl rfl) rfl ?_
     refine WO.gT rfl rfl ?_
     refine WO.q (Q.pF rfl rfl) rfl ?_
     refine WO.q (Q.pF rfl rfl) rfl ?_
     refine WO.nil ?_
     refine End.K ?_
     refine W.sub (SubS.cons (k := 31) rfl (SubS.cons (k := 0) rfl (SubS.cons (k := 1) rfl (SubS.cons (k := 5) rfl (SubS.nil _))))) ?_
     refine W.condF rfl ?_
     refine W.seq ?_
     refine W.reg ?_
     refine WO.q (Q.move rfl) rfl ?_
     refine WO.q (Q.iS ud25 sz3 rfl (oc (v := .int .i64 ((0 : Nat) : Int)) rfl) zo) rfl ?_
     refine WO.q (Q.l1 rfl (List.mem_append_left _ mb) ag3 (ci_at (L := B) (by omega))) rfl ?_
     refine WO.q (Q.assign rfl) rfl ?_
     refine WO.nil ?_
     refine End.K ?_
     refine W.reg ?_
     refine WO.q (Q.move rfl) rfl ?_
     refine WO.q (Q.sliceL ud25 sz3 rfl rfl zo) rfl ?_
     refine WO.q (Q.assign rfl) rfl ?_
     refine WO.nil ?_
     refine End.K (W.sub (SubS.cons rfl (SubS.cons rfl (SubS.cons rfl (SubS.cons rfl (SubS.nil _))))) (hJ9 (i) (j + 1) (va) (_) (_) ?_))
     exact ⟨hA, is_next wb mb, hM.midB (by omega) (by omega), by omega⟩
 ·skip
  refine W.seq ?_
  refine W.reg ?_
  refine WO.q (Q.move rfl) rfl ?_
  refine WO.q (Q.len ud25 rfl (is_len hA)) rfl ?_
  refine WO.q (Q.bin rfl (oc (v := .int .i64 ((0 : Nat) : Int)) rfl) rfl (bv_gtr ltn)) rfl ?_
  refine WO.q (Q.move rfl) rfl ?_
  refine WO.sD (d := 10) rfl (fun hc10 => ?_) (fun hc10 => ?_)
  ·skip -- L0t
   refine WO.gF rfl rfl (.inl rfl) rfl ?_
   refine WO.gF rfl rfl (.inl rfl) rfl ?_
   refine WO.gF rfl rfl (.inl rfl) rfl ?_
   refine WO.q (Q.pT rfl rfl) rfl ?_
   refine WO.nil ?_
   refine End.K ?_
   refine W.condT rfl ?_
   refine W.skip ?_
   refine End.K (W.sub (SubS.cons rfl (SubS.cons rfl (SubS.cons rfl (SubS.nil _)))) (hJ3 (()) ?_))
   exact (by omega)
  ·skip -- L0f
   refine WO.gT rfl rfl ?_
   refine WO.q (Q.move rfl) rfl ?_
   refine WO.gT rfl rfl ?_
   refine WO.q (Q.len ud25 rfl (is_len hB)) rfl ?_
   refine WO.gT rfl rfl ?_
   refine WO.q (Q.bin rfl (oc (v := .int .i64 ((0 : Nat) : Int)) rfl) rfl (bv_gtr ltn)) rfl ?_
   refine WO.q (Q.pF rfl rfl) rfl ?_
   refine WO.nil ?_
   refine End.K ?_
   refine W.cD rfl (fun hc14 => ?_) (fun hc14 => ?_)
   ·skip -- L0fT
    refine W.skip ?_
    refine End.K (W.sub (SubS.cons rfl (SubS.cons rfl (SubS.cons rfl (SubS.nil _)))) (hJ3 (()) ?_))
    exact (by omega)
   ·skip -- L0fF
    refine W.exit ?_
    refine End.Kx (End.Lx (End.Bh (End.K ?_)))
    refine W.seq ?_
    refine W.reg ?_
    refine WO.q (Q.move rfl) rfl ?_
    refine WO.q (Q.assign rfl) rfl ?_
    refine WO.nil ?_
    refine End.K ?_
    refine W.ret ?_
    refine End.ret (ResL.tmp rfl ResL.nil) (hs' := ho) ⟨ZV.own hM.2.2.1 hO, hO.w⟩ hO.w (SubH.of_sublist (by simp))
theorem merge_z {N : Nat} (hN : N ≤ 64) (hs : HSt) (hro : ∀ e ∈ hs, e.w = false) (va vb : AV) (ha : ZV N hs va) (hb : ZV N hs vb) : Spec tab 252 [va, vb] [] hs (ZQ N) := by
 obtain ⟨A, h1, h2⟩ := ha
 obtain ⟨B, h3, h4⟩ := hb
 exact merge_spec hs hro N A B va vb h2 h4 h1 h3 hN
theorem byte_spec (a : List Nat) (ha : Bytes a) (ha0 : 0 < a.length) (hal : a.length ≤ 64) (h92 : a.getD 0 0 = 92 → 2 ≤ a.length) (c : Nat) (hc : c < 256) : Spec tab 296 [.str a, .int .u8 ((c : Nat) : Int)] [] [] (ValE (fun v => ∃ b : Bool, v = .bool b)) := by
 refine Spec.en (ftg 296 Tryz.func296) rfl (m := 33) rfl (rs := [.tmp 4]) rfl (st := [(0, .str a), (1, .int .u8 ((c : Nat) : Int))]) rfl rfl (fun _ => rfl) (fun E => ?_)
 refine W.seq ?_
 refine W.reg ?_
 refine WO.q (Q.assign rfl) rfl ?_
 refine WO.nil ?_
 refine End.K ?_
 refine W.seq ?_
 refine W.seq ?_
 refine W.reg ?_
 refine WO.q (Q.move rfl) rfl ?_
 refine WO.indexB ha ud9 rfl (oc (v := .int .i64 ((0 : Nat) : Int)) rfl) zo rfl (fun c8 hd8 hb8 => ?_)
 refine WO.q (Q.bin rfl (oc (v := .int .u8 ((92 : Nat) : Int)) rfl) rfl (bv_eql eq_nat)) rfl ?_
 refine WO.nil ?_
 refine End.K ?_
 refine W.cD rfl (fun hc9 => ?_) (fun hc9 => ?_)
 ·skip -- T
  have h2 := h92 (by omega)
  refine W.seq ?_
  refine W.reg ?_
  refine WO.q (Q.move rfl) rfl ?_
  refine WO.indexB ha ud9 rfl (oc (v := .int .i64 ((1 : Nat) : Int)) rfl) zo rfl (fun c11 hd11 hb11 => ?_)
  refine WO.q (Q.move rfl) rfl ?_
  refine WO.q (Q.bin rfl rfl rfl (bv_eql eq_nat)) rfl ?_
  refine WO.q (Q.assign rfl) rfl ?_
  refine WO.nil ?_
  refine End.K ?_
  refine W.ret ?_
  refine End.Kr (End.retE (ResL.tmp rfl ResL.nil) ?_)
  exact ⟨_, rfl⟩
 ·skip -- F
  refine W.skip ?_
  refine End.K ?_
  refine W.seq ?_
  refine W.seq ?_
  refine W.reg ?_
  refine WO.q (Q.move rfl) rfl ?_
  refine WO.indexB ha ud9 rfl (oc (v := .int .i64 ((0 : Nat) : Int)) rfl) zo rfl (fun c15 hd15 hb15 => ?_)
  refine WO.q (Q.bin rfl (oc (v := .int .u8 ((91 : Nat) : Int)) rfl) rfl (bv_eql eq_nat)) rfl ?_
  refine WO.nil ?_
  refine End.K ?_
  refine W.cD rfl (fun hc16 => ?_) (fun hc16 => ?_)
  ·skip -- FT
   refine W.seq ?_
   refine W.reg ?_
   refine WO.q (Q.move rfl) rfl ?_
   refine WO.q (Q.move rfl) rfl ?_
   refine WO.callE rfl (oLc rfl (oLc (oc (v := .int .i64 ((0 : Nat) : Int)) rfl) (oLc rfl oz))) rfl (class_spec a ha hal 0 ha0 c hc) SubR.nil rfl (fun v20 hP20 => ?_)
   obtain ⟨h20, rfl⟩ := hP20
   refine WO.q (Q.move rfl) rfl ?_
   refine WO.q (Q.extract rfl rfl) rfl ?_
   refine WO.q (Q.extract rfl rfl) rfl ?_
   refine WO.q (Q.assign rfl) rfl ?_
   refine WO.q (Q.assign rfl) rfl ?_
   refine WO.nil ?_
   refine End.K ?_
   refine W.sub (SubS.cons (k := 6) rfl (SubS.nil _)) ?_
   refine W.seq ?_
   refine W.reg ?_
   refine WO.q (Q.move rfl) rfl ?_
   refine WO.q (Q.assign rfl) rfl ?_
   refine WO.nil ?_
   refine End.K ?_
   refine W.ret ?_
   refine End.Kr (End.retE (ResL.tmp rfl ResL.nil) ?_)
   exact ⟨_, rfl⟩
  ·skip -- FF
   refine W.skip ?_
   refine End.K ?_
   refine W.seq ?_
   refine W.reg ?_
   refine WO.q (Q.move rfl) rfl ?_
   refine WO.indexB ha ud9 rfl (oc (v := .int .i64 ((0 : Nat) : Int)) rfl) zo rfl (fun c25 hd25 hb25 => ?_)
   refine WO.q (Q.bin rfl (oc (v := .int .u8 ((46 : Nat) : Int)) rfl) rfl (bv_eql eq_nat)) rfl ?_
   refine WO.q (Q.move rfl) rfl ?_
   refine WO.sD (d := 27) rfl (fun hc27 => ?_) (fun hc27 => ?_)
   ·skip -- FFt
    refine WO.gF rfl rfl (.inl rfl) rfl ?_
    refine WO.gF rfl rfl (.inl rfl) rfl ?_
    refine WO.gF rfl rfl (.inl rfl) rfl ?_
    refine WO.gF rfl rfl (.inl rfl) rfl ?_
    refine WO.q (Q.pT rfl rfl) rfl ?_
    refine WO.q (Q.assign rfl) rfl ?_
    refine WO.nil ?_
    refine End.K ?_
    refine W.sub (SubS.cons (k := 4) rfl (SubS.nil _)) ?_
    refine W.ret ?_
    refine End.retE (ResL.tmp rfl ResL.nil) ?_
    exact ⟨_, rfl⟩
   ·skip -- FFf
    refine WO.gT rfl rfl ?_
    refine WO.q (Q.move rfl) rfl ?_
    refine WO.gT rfl rfl ?_
    refine WO.indexB ha ud9 rfl (oc (v := .int .i64 ((0 : Nat) : Int)) rfl) zo rfl (fun c29 hd29 hb29 => ?_)
    refine WO.gT rfl rfl ?_
    refine WO.q (Q.move rfl) rfl ?_
    refine WO.gT rfl rfl ?_
    refine WO.q (Q.bin rfl rfl rfl (bv_eql eq_nat)) rfl ?_
    refine WO.q (Q.pF rfl rfl) rfl ?_
    refine WO.q (Q.assign rfl) rfl ?_
    refine WO.nil ?_
    refine End.K ?_
    refine W.sub (SubS.cons (k := 4) rfl (SubS.nil _)) ?_
    refine W.ret ?_
    refine End.retE (ResL.tmp rfl ResL.nil) ?_
    exact ⟨_, rfl⟩

theorem one_spec (s : List Nat) (hS : Bytes s) (hsl : s.length ≤ 64) (r : List Nat → Bool) (d : Nat) (HE : ∀ q : List Nat, Bytes q → q.length ≤ 64 → q.length < d → r q = true → ∀ (hs : HSt) (v : AV), (∀ e ∈ hs, e.w = false) → ZV s.length hs v → Spec tab 211 [.str q, .str s, v] [] hs (ZQ s.length)) (a : List Nat) (ha : Bytes a) (ha0 : 0 < a.length) (hal : a.length ≤ 64) (had : a.length ≤ d) (hin : a.getD 0 0 = 40 → 2 ≤ a.length ∧ r ((a.drop 1).take (a.length - 1 - 1)) = true) (h92 : a.getD 0 0 = 92 → 2 ≤ a.length) (hs : HSt) (hro : ∀ e ∈ hs, e.w = false) (v : AV) (hz : ZV s.length hs v) : Spec tab 291 [.str a, .str s, v] [] hs (ZQ s.length) := by
 refine Spec.en (ftg 291 Tryz.func291) rfl (m := 52) rfl (rs := [.tmp 6]) rfl (st := [(0, .str a), (1, .str s), (2, v)]) rfl rfl (fun _ => rfl) (fun E => ?_)
 refine W.seq ?_
 refine W.reg ?_
 refine WO.q (Q.assign rfl) rfl ?_
 refine WO.nil ?_
 refine End.K ?_
 refine W.seq ?_
 refine W.seq ?_
 refine W.reg ?_
 refine WO.q (Q.move rfl) rfl ?_
 refine WO.indexB ha ud9 rfl (oc (v := .int .i64 ((0 : Nat) : Int)) rfl) zo rfl (fun c10 hd10 hb10 => ?_)
 refine WO.q (Q.bin rfl (oc (v := .int .u8 ((40 : Nat) : Int)) rfl) rfl (bv_eql eq_nat)) rfl ?_
 refine WO.nil ?_
 refine End.K ?_
 refine W.cD rfl (fun hc11 => ?_) (fun hc11 => ?_)
 ·skip -- T
  have hin2 := hin (by omega)
  refine W.seq ?_
  refine W.reg ?_
  refine WO.q (Q.move rfl) rfl ?_
  refine WO.q (Q.move rfl) rfl ?_
  refine WO.q (Q.len ud9 rfl rfl) rfl ?_
  refine WO.q (Q.bin rfl (oc (v := .int .i64 ((1 : Nat) : Int)) rfl) rfl (bv_sub (wns zo))) rfl ?_
  refine WO.q (Q.sliceS ud9 rfl rfl zo rfl) rfl ?_
  refine WO.q (Q.move rfl) rfl ?_
  refine WO.q (Q.move rfl) rfl ?_
  refine WO.call0 rfl (oLc rfl (oLc rfl (oLc rfl oz))) rfl (HE _ (Bytes.take (Bytes.drop ha _) _) zo zo hin2.2 hs v hro hz) (SubR.s hro) rfl (fun v19 D19 hP19 => ?_)
  refine WO.subH (hs' := (hs ++ D19)) (SubH.op (perm_tail (N := []) (G := D19) (K := []) (X := hs))) ?_
  refine WO.q (Q.assign rfl) rfl ?_
  refine WO.nil ?_
  refine End.K ?_
  refine W.sub (SubS.cons (k := 6) rfl (SubS.nil _)) ?_
  refine W.ret ?_
  refine End.Kr (End.ret (ResL.tmp rfl ResL.nil) (hs' := D19) hP19 hP19.2 (SubH.of_sublist (by simp)))
 ·skip -- F
  obtain ⟨L, hIL, hL⟩ := hz
  refine W.skip ?_
  refine End.K ?_
  refine W.seq ?_
  refine W.reg ?_
  refine WO.q (Q.assign rfl) rfl ?_
  refine WO.nil ?_
  refine End.K ?_
  refine W.seq ?_
  refine W.seq ?_
  refine W.reg ?_
  refine WO.q (Q.assign (oc (v := .int .i64 ((0 : Nat) : Int)) rfl)) rfl ?_
  refine WO.nil ?_
  refine End.K ?_
  refine W.block ?_
  refine W.loop_ind4 (fun (i : Nat) (O : List Nat) (o : AV) (ho : HSt) => [(0, .str a), (1, .str s), (2, v), (7, o), (8, .int .i64 ((i : Nat) : Int))]) (fun (i : Nat) (O : List Nat) (o : AV) (ho : HSt) => hs ++ ho) (fun (i : Nat) (O : List Nat) (o : AV) (ho : HSt) => OInv s.length L i O ∧ Own 1 (cI O) O.length o ho) (fun (i : Nat) (O : List Nat) (o : AV) (ho : HSt) => L.length - i) (0) ([]) (.nils) ([]) ⟨OInv.init hIL, Own.nil 1⟩ (SubS.cons rfl (SubS.cons rfl (SubS.cons rfl (SubS.cons rfl (SubS.cons rfl (SubS.nil _)))))) (SubH.of_sublist (by simp)) (fun i O o ho hI0 ih0 => ?_)
  obtain ⟨hM, hO⟩ := hI0
  have hOl := (hM.1).len
  have hOc := ci_len O
  have hLl := hIL.len
  refine W.seq ?_
  refine W.seq ?_
  refine W.reg ?_
  refine WO.q (Q.move rfl) rfl ?_
  refine WO.q (Q.move rfl) rfl ?_
  refine WO.q (Q.len ud25 rfl (is_len hL)) rfl ?_
  refine WO.q (Q.bin rfl rfl rfl (bvl ltn)) rfl ?_
  refine WO.nil ?_
  refine End.K ?_
  refine W.cD rfl (fun hc23 => ?_) (fun hc23 => ?_)
  ·skip -- FL0T
   have hiL : i < L.length := (by omega)
   obtain ⟨bl, exl, rfl, wl, ml⟩ := is_full hL (by omega)
   refine W.skip ?_
   refine End.K ?_
   refine W.seq ?_
   refine W.block ?_
   refine W.seq ?_
   refine W.reg ?_
   refine WO.q (Q.move rfl) rfl ?_
   refine WO.q (Q.move rfl) rfl ?_
   refine WO.q (Q.iS ud25 sz3 rfl rfl zo) rfl ?_
   refine WO.q (Q.l1 rfl (List.mem_append_left _ ml) ag3 (ci_at (L := L) (by omega))) rfl ?_
   refine WO.q (Q.move rfl) rfl ?_
   refine WO.q (Q.len ud9 rfl rfl) rfl ?_
   refine WO.q (Q.bin rfl rfl rfl (bvl ltn)) rfl ?_
   refine WO.q (Q.move rfl) rfl ?_
   refine WO.sD (d := 33) rfl (fun hc33 => ?_) (fun hc33 => ?_)
   ·skip -- FL0Tt
    refine WO.gT rfl rfl ?_
    refine WO.q (Q.move rfl) rfl ?_
    refine WO.gT rfl rfl ?_
    refine WO.q (Q.move rfl) rfl ?_
    refine WO.gT rfl rfl ?_
    refine WO.q (Q.move rfl) rfl ?_
    refine WO.gT rfl rfl ?_
    refine WO.q (Q.move rfl) rfl ?_
    refine WO.gT rfl rfl ?_
    refine WO.q (Q.iS ud25 sz3 rfl rfl zo) rfl ?_
    refine WO.gT rfl rfl ?_
    refine WO.q (Q.l1 rfl (List.mem_append_left _ ml) ag3 (ci_at (L := L) (by omega))) rfl ?_
    refine WO.gT rfl rfl ?_
    refine WO.indexB hS ud9 rfl rfl zo rfl (fun c40 hd40 hb40 => ?_)
    refine WO.gT rfl rfl ?_
    refine WO.callE rfl (oLc rfl (oLc rfl oz)) rfl (byte_spec a ha ha0 hal h92 _ (by omega)) SubR.nil rfl (fun v41 hP41 => ?_)
    obtain ⟨b41, rfl⟩ := hP41
    refine WO.q (Q.pT rfl rfl) rfl ?_
    refine WO.nil ?_
    refine End.K ?_
    refine W.sub (SubS.cons (k := 42) rfl (SubS.cons (k := 0) rfl (SubS.cons (k := 1) rfl (SubS.cons (k := 2) rfl (SubS.cons (k := 7) rfl (SubS.cons (k := 8) rfl (SubS.nil _))))))) ?_
    refine W.condS rfl (fun hc42 => ?_) (fun hc42 => ?_)
    ·skip -- FL0TtT
     refine W.reg ?_
     refine WO.q (Q.move rfl) rfl ?_
     refine WO.q (Q.move rfl) rfl ?_
     refine WO.q (Q.move rfl) rfl ?_
     refine WO.q (Q.iS ud25 sz3 rfl rfl zo) rfl ?_
     refine WO.q (Q.l1 rfl (List.mem_append_left _ ml) ag3 (ci_at (L := L) (by omega))) rfl ?_
     refine WO.q (Q.bin rfl (oc (v := .int .i64 ((1 : Nat) : Int)) rfl) rfl (bv_add (wna zo))) rfl ?_
     refine WO.bslice ud25 sz3 zr3 rfl (opc rfl opn) rfl (cs := [_]) rfl rfl rfl (fun b1 => ?_)
     refine WO.appOwn (e := ⟨b1, _, true⟩) (A := ([] ++ hs)) ap25_25 hO rfl rfl rfl rfl ⟨by first | omega | (simp at * <;> omega), by first | omega | (simp at * <;> omega)⟩ (by decide) rfl rfl (fun v50 hp50 hO50 => ?_)
     refine WO.q (Q.assign rfl) rfl ?_
     refine WO.nil ?_
     refine End.KB (End.K ?_)
     refine W.reg ?_
     refine WO.q (Q.move rfl) rfl ?_
     refine WO.q (Q.bin rfl (oc (v := .int .i64 ((1 : Nat) : Int)) rfl) rfl (bv_add (wna zo))) rfl ?_
     refine WO.q (Q.assign rfl) rfl ?_
     refine WO.nil ?_
     refine End.KL ?_
     refine W.sub (SubS.cons rfl (SubS.cons rfl (SubS.cons rfl (SubS.cons rfl (SubS.cons rfl (SubS.nil _)))))) (W.sH (SubH.refl _) (ih0 (i + 1) (O ++ [L.getD (0 + i) 0 + 1]) (v50) (hp50) ?_ ?_))
     ·exact ⟨hM.app (by omega) (by omega), own_app hO50⟩
     ·exact zo
    ·skip -- FL0TtF
     refine W.skip ?_
     refine End.KB (End.K ?_)
     refine W.reg ?_
     refine WO.q (Q.move rfl) rfl ?_
     refine WO.q (Q.bin rfl (oc (v := .int .i64 ((1 : Nat) : Int)) rfl) rfl (bv_add (wna zo))) rfl ?_
     refine WO.q (Q.assign rfl) rfl ?_
     refine WO.nil ?_
     refine End.KL ?_
     refine W.sub (SubS.cons rfl (SubS.cons rfl (SubS.cons rfl (SubS.cons rfl (SubS.cons rfl (SubS.nil _)))))) (W.sH (SubH.refl _) (ih0 (i + 1) (O) (o) (ho) ?_ ?_))
     ·exact ⟨hM.skip (by omega), hO⟩
     ·exact zo
   ·skip -- FL0Tf
    refine WO.gF rfl rfl (.inl rfl) rfl ?_
    refine WO.gF rfl rfl (.inl rfl) rfl ?_
    refine WO.gF rfl rfl (.inl rfl) rfl ?_
    refine WO.gF rfl rfl (.inl rfl) rfl ?_
    refine WO.gF rfl rfl (.inl rfl) rfl ?_
    refine WO.gF rfl rfl (.inl rfl) rfl ?_
    refine WO.gF rfl rfl (.inl rfl) rfl ?_
    refine WO.gF rfl rfl (.inl rfl) rfl ?_
    refine WO.q (Q.pF rfl rfl) rfl ?_
    refine WO.nil ?_
    refine End.K ?_
    refine W.sub (SubS.cons (k := 42) rfl (SubS.cons (k := 0) rfl (SubS.cons (k := 1) rfl (SubS.cons (k := 2) rfl (SubS.cons (k := 7) rfl (SubS.cons (k := 8) rfl (SubS.nil _))))))) ?_
    refine W.condF rfl ?_
    refine W.skip ?_
    refine End.KB (End.K ?_)
    refine W.reg ?_
    refine WO.q (Q.move rfl) rfl ?_
    refine WO.q (Q.bin rfl (oc (v := .int .i64 ((1 : Nat) : Int)) rfl) rfl (bv_add (wna zo))) rfl ?_
    refine WO.q (Q.assign rfl) rfl ?_
    refine WO.nil ?_
    refine End.KL ?_
    refine W.sub (SubS.cons rfl (SubS.cons rfl (SubS.cons rfl (SubS.cons rfl (SubS.cons rfl (SubS.nil _)))))) (W.sH (SubH.refl _) (ih0 (i + 1) (O) (o) (ho) ?_ ?_))
    ·exact ⟨hM.skip (by omega), hO⟩
    ·exact zo
  ·skip -- FL0F
   refine W.exit ?_
   refine End.Kx (End.Lx (End.Bh (End.K ?_)))
   refine W.seq ?_
   refine W.reg ?_
   refine WO.q (Q.move rfl) rfl ?_
   refine WO.q (Q.assign rfl) rfl ?_
   refine WO.nil ?_
   refine End.K ?_
   refine W.ret ?_
   refine End.ret (ResL.tmp rfl ResL.nil) (hs' := ho) ⟨ZV.own hM.1 hO, hO.w⟩ hO.w (SubH.of_sublist (by simp))

theorem piece_spec (s : List Nat) (hS : Bytes s) (hsl : s.length ≤ 64) (r : List Nat → Bool) (d : Nat) (HE : ∀ q : List Nat, Bytes q → q.length ≤ 64 → q.length < d → r q = true → ∀ (hs : HSt) (v : AV), (∀ e ∈ hs, e.w = false) → ZV s.length hs v → Spec tab 211 [.str q, .str s, v] [] hs (ZQ s.length)) (a : List Nat) (ha : Bytes a) (ha0 : 0 < a.length) (hal : a.length ≤ 64) (had : a.length ≤ d) (hin : a.getD 0 0 = 40 → 2 ≤ a.length ∧ r ((a.drop 1).take (a.length - 1 - 1)) = true) (h92 : a.getD 0 0 = 92 → 2 ≤ a.length) (c : Nat) (hc : c < 256) (hs : HSt) (hro : ∀ e ∈ hs, e.w = false) (v : AV) (hz : ZV s.length hs v) : Spec tab 279 [.str a, .int .u8 ((c : Nat) : Int), .str s, v] [] hs (ZQ s.length) := by
 refine Spec.en (ftg 279 Tryz.func279) rfl (m := 50) rfl (rs := [.tmp 8]) rfl (st := [(0, .str a), (1, .int .u8 ((c : Nat) : Int)), (2, .str s), (3, v)]) rfl rfl (fun _ => rfl) (fun E => ?_)
 refine W.seq ?_
 refine W.reg ?_
 refine WO.q (Q.assign rfl) rfl ?_
 refine WO.nil ?_
 refine End.K ?_
 refine W.seq ?_
 refine W.reg ?_
 refine WO.q (Q.move rfl) rfl ?_
 refine WO.q (Q.move rfl) rfl ?_
 refine WO.q (Q.move rfl) rfl ?_
 refine WO.call0 rfl (oLc rfl (oLc rfl (oLc rfl oz))) rfl (one_spec s hS hsl r d HE a ha ha0 hal had hin h92 (ro hs) ro_w v hz.ro) (SubR.ro (SubH.refl _)) rfl (fun v15 D15 hP15 => ?_)
 refine WO.subH (hs' := (hs ++ D15)) (SubH.op (perm_tail (N := []) (G := D15) (K := []) (X := hs))) ?_
 refine WO.q (Q.assign rfl) rfl ?_
 refine WO.nil ?_
 refine End.K ?_
 refine W.seqJ2 (fun (z : AV) (G : HSt) => [(1, .int .u8 ((c : Nat) : Int)), (3, v), (9, z)]) (fun (z : AV) (G : HSt) => hs ++ G) (fun (z : AV) (G : HSt) => ZQ s.length z G) (fun z G hI9 => ?_) (fun hJ9 => ?_)
 ·skip -- J9
  have hG := hI9
  refine W.seq ?_
  refine W.seq ?_
  refine W.reg ?_
  refine WO.q (Q.move rfl) rfl ?_
  refine WO.q (Q.bin rfl (oc (v := .int .u8 ((42 : Nat) : Int)) rfl) rfl (bv_eql eq_nat)) rfl ?_
  refine WO.q (Q.move rfl) rfl ?_
  refine WO.sD (d := 42) rfl (fun hc42 => ?_) (fun hc42 => ?_)
  ·skip -- J9t
   refine WO.gF rfl rfl (.inl rfl) rfl ?_
   refine WO.gF rfl rfl (.inl rfl) rfl ?_
   refine WO.q (Q.pT rfl rfl) rfl ?_
   refine WO.nil ?_
   refine End.K ?_
   refine W.condT rfl ?_
   refine W.reg ?_
   refine WO.q (Q.move rfl) rfl ?_
   refine WO.q (Q.move rfl) rfl ?_
   refine WO.call0 rfl (oLc rfl (oLc rfl oz)) rfl (merge_z (by omega) (ro (hs ++ G)) ro_w _ _ (ZV.ro (hG.1.appr)) (ZV.ro (hz.appl))) (SubR.ro (SubH.refl _)) rfl (fun v48 D48 hP48 => ?_)
   refine WO.subH (hs' := (hs ++ G ++ D48)) (SubH.op (perm_tail (N := []) (G := D48) (K := []) (X := hs ++ G))) ?_
   refine WO.q (Q.assign rfl) rfl ?_
   refine WO.nil ?_
   refine End.K ?_
   refine W.seq ?_
   refine W.reg ?_
   refine WO.q (Q.move rfl) rfl ?_
   refine WO.q (Q.assign rfl) rfl ?_
   refine WO.nil ?_
   refine End.K ?_
   refine W.ret ?_
   refine End.ret (ResL.tmp rfl ResL.nil) (hs' := D48) hP48 hP48.2 (SubH.of_sublist (by simp))
  ·skip -- J9f
   refine WO.gT rfl rfl ?_
   refine WO.q (Q.move rfl) rfl ?_
   refine WO.gT rfl rfl ?_
   refine WO.q (Q.bin rfl (oc (v := .int .u8 ((63 : Nat) : Int)) rfl) rfl (bv_eql eq_nat)) rfl ?_
   refine WO.q (Q.pF rfl rfl) rfl ?_
   refine WO.nil ?_
   refine End.K ?_
   refine W.cD rfl (fun hc45 => ?_) (fun hc45 => ?_)
   ·skip -- J9fT
    refine W.reg ?_
    refine WO.q (Q.move rfl) rfl ?_
    refine WO.q (Q.move rfl) rfl ?_
    refine WO.call0 rfl (oLc rfl (oLc rfl oz)) rfl (merge_z (by omega) (ro (hs ++ G)) ro_w _ _ (ZV.ro (hG.1.appr)) (ZV.ro (hz.appl))) (SubR.ro (SubH.refl _)) rfl (fun v48 D48 hP48 => ?_)
    refine WO.subH (hs' := (hs ++ G ++ D48)) (SubH.op (perm_tail (N := []) (G := D48) (K := []) (X := hs ++ G))) ?_
    refine WO.q (Q.assign rfl) rfl ?_
    refine WO.nil ?_
    refine End.K ?_
    refine W.seq ?_
    refine W.reg ?_
    refine WO.q (Q.move rfl) rfl ?_
    refine WO.q (Q.assign rfl) rfl ?_
    refine WO.nil ?_
    refine End.K ?_
    refine W.ret ?_
    refine End.ret (ResL.tmp rfl ResL.nil) (hs' := D48) hP48 hP48.2 (SubH.of_sublist (by simp))
   ·skip -- J9fF
    refine W.skip ?_
    refine End.K ?_
    refine W.seq ?_
    refine W.reg ?_
    refine WO.q (Q.move rfl) rfl ?_
    refine WO.q (Q.assign rfl) rfl ?_
    refine WO.nil ?_
    refine End.K ?_
    refine W.ret ?_
    refine End.ret (ResL.tmp rfl ResL.nil) (hs' := G) hG hG.2 (SubH.of_sublist (by simp))
 ·skip
  refine W.seq ?_
  refine W.reg ?_
  refine WO.q (Q.move rfl) rfl ?_
  refine WO.q (Q.bin rfl (oc (v := .int .u8 ((42 : Nat) : Int)) rfl) rfl (bv_eql eq_nat)) rfl ?_
  refine WO.q (Q.move rfl) rfl ?_
  refine WO.sD (d := 18) rfl (fun hc18 => ?_) (fun hc18 => ?_)
  ·skip -- t
   refine WO.gF rfl rfl (.inl rfl) rfl ?_
   refine WO.gF rfl rfl (.inl rfl) rfl ?_
   refine WO.q (Q.pT rfl rfl) rfl ?_
   refine WO.nil ?_
   refine End.K ?_
   refine W.condT rfl ?_
   refine W.seq ?_
   refine W.reg ?_
   refine WO.q (Q.assign (oc (v := .int .i64 ((0 : Nat) : Int)) rfl)) rfl ?_
   refine WO.nil ?_
   refine End.K ?_
   refine W.block ?_
   refine W.loop_ind3 (fun (k : Nat) (z : AV) (G : HSt) => [(0, .str a), (1, .int .u8 ((c : Nat) : Int)), (2, .str s), (3, v), (9, z), (10, .int .i64 ((k : Nat) : Int))]) (fun (k : Nat) (z : AV) (G : HSt) => hs ++ G) (fun (k : Nat) (z : AV) (G : HSt) => ZQ s.length z G ∧ k ≤ s.length) (fun (k : Nat) (z : AV) (G : HSt) => s.length - k) (0) (v15) (D15) ⟨hP15, by omega⟩ (SubS.cons rfl (SubS.cons rfl (SubS.cons rfl (SubS.cons rfl (SubS.cons rfl (SubS.cons rfl (SubS.nil _))))))) (SubH.refl _) (fun k z G hI0 ih0 => ?_)
   obtain ⟨hG, hk⟩ := hI0
   refine W.seq ?_
   refine W.seq ?_
   refine W.reg ?_
   refine WO.q (Q.move rfl) rfl ?_
   refine WO.q (Q.move rfl) rfl ?_
   refine WO.q (Q.len ud9 rfl rfl) rfl ?_
   refine WO.q (Q.bin rfl rfl rfl (bvl ltn)) rfl ?_
   refine WO.nil ?_
   refine End.K ?_
   refine W.cD rfl (fun hc25 => ?_) (fun hc25 => ?_)
   ·skip -- tL0T
    refine W.skip ?_
    refine End.K ?_
    refine W.seq ?_
    refine W.block ?_
    refine W.seq ?_
    refine W.reg ?_
    refine WO.q (Q.move rfl) rfl ?_
    refine WO.q (Q.move rfl) rfl ?_
    refine WO.q (Q.move rfl) rfl ?_
    refine WO.q (Q.move rfl) rfl ?_
    refine WO.call0 rfl (oLc rfl (oLc rfl (oLc rfl oz))) rfl (one_spec s hS hsl r d HE a ha ha0 hal had hin h92 (ro (hs ++ G)) ro_w z (ZV.ro (hG.1.appr))) (SubR.ro (SubH.refl _)) rfl (fun v32 D32 hP32 => ?_)
    refine WO.subH (hs' := (hs ++ G ++ D32)) (SubH.op (perm_tail (N := []) (G := D32) (K := []) (X := hs ++ G))) ?_
    refine WO.call0 rfl (oLc rfl (oLc rfl oz)) rfl (merge_z (by omega) (ro ((hs ++ G) ++ D32)) ro_w _ _ (ZV.ro ((hG.1.appr).appl)) (ZV.ro (hP32.1.appr))) (SubR.ro (SubH.refl _)) rfl (fun v33 D33 hP33 => ?_)
    refine WO.subH (hs' := (hs ++ G ++ D32 ++ D33)) (SubH.op (perm_tail (N := []) (G := D33) (K := []) (X := hs ++ G ++ D32))) ?_
    refine WO.q (Q.assign rfl) rfl ?_
    refine WO.nil ?_
    refine End.K ?_
    refine W.seq ?_
    refine W.seq ?_
    refine W.reg ?_
    refine WO.q (Q.move rfl) rfl ?_
    refine WO.q (Q.len ud25 rfl (zv_len hP33.1)) rfl ?_
    refine WO.q (Q.move rfl) rfl ?_
    refine WO.q (Q.len ud25 rfl (zv_len hG.1)) rfl ?_
    refine WO.q (Q.bin rfl rfl rfl (bv_eql eq_nat)) rfl ?_
    refine WO.nil ?_
    refine End.K ?_
    refine W.sub (SubS.cons (k := 38) rfl (SubS.cons (k := 11) rfl (SubS.cons (k := 0) rfl (SubS.cons (k := 1) rfl (SubS.cons (k := 2) rfl (SubS.cons (k := 3) rfl (SubS.cons (k := 9) rfl (SubS.cons (k := 10) rfl (SubS.nil _))))))))) ?_
    refine W.cD rfl (fun hc38 => ?_) (fun hc38 => ?_)
    ·skip -- tL0TT
     refine W.exit ?_
     refine End.Kx (End.KB_miss rfl (End.Kx (End.Lx (End.Bh (End.K (W.sub (SubS.cons rfl (SubS.cons rfl (SubS.cons rfl (SubS.nil _)))) (W.sH (SubH.of_sublist (by simp)) (hJ9 (z) (G) ?_))))))))
     exact hG
    ·skip -- tL0TF
     refine W.skip ?_
     refine End.K ?_
     refine W.reg ?_
     refine WO.q (Q.move rfl) rfl ?_
     refine WO.q (Q.assign rfl) rfl ?_
     refine WO.nil ?_
     refine End.KB (End.K ?_)
     refine W.reg ?_
     refine WO.q (Q.move rfl) rfl ?_
     refine WO.q (Q.bin rfl (oc (v := .int .i64 ((1 : Nat) : Int)) rfl) rfl (bv_add (wna zo))) rfl ?_
     refine WO.q (Q.assign rfl) rfl ?_
     refine WO.nil ?_
     refine End.KL ?_
     refine W.sub (SubS.cons rfl (SubS.cons rfl (SubS.cons rfl (SubS.cons rfl (SubS.cons rfl (SubS.cons rfl (SubS.nil _))))))) (W.sH (SubH.of_sublist (by simp)) (ih0 (k + 1) (v33) (D33) ?_ ?_))
     ·exact ⟨hP33, by omega⟩
     ·exact zo
   ·skip -- tL0F
    refine W.exit ?_
    refine End.Kx (End.Lx (End.Bh (End.K (W.sub (SubS.cons rfl (SubS.cons rfl (SubS.cons rfl (SubS.nil _)))) (W.sH (SubH.of_sublist (by simp)) (hJ9 (z) (G) ?_))))))
    exact hG
  ·skip -- f
   refine WO.gT rfl rfl ?_
   refine WO.q (Q.move rfl) rfl ?_
   refine WO.gT rfl rfl ?_
   refine WO.q (Q.bin rfl (oc (v := .int .u8 ((43 : Nat) : Int)) rfl) rfl (bv_eql eq_nat)) rfl ?_
   refine WO.q (Q.pF rfl rfl) rfl ?_
   refine WO.nil ?_
   refine End.K ?_
   refine W.cD rfl (fun hc21 => ?_) (fun hc21 => ?_)
   ·skip -- fT
    refine W.seq ?_
    refine W.reg ?_
    refine WO.q (Q.assign (oc (v := .int .i64 ((0 : Nat) : Int)) rfl)) rfl ?_
    refine WO.nil ?_
    refine End.K ?_
    refine W.block ?_
    refine W.loop_ind3 (fun (k : Nat) (z : AV) (G : HSt) => [(0, .str a), (1, .int .u8 ((c : Nat) : Int)), (2, .str s), (3, v), (9, z), (10, .int .i64 ((k : Nat) : Int))]) (fun (k : Nat) (z : AV) (G : HSt) => hs ++ G) (fun (k : Nat) (z : AV) (G : HSt) => ZQ s.length z G ∧ k ≤ s.length) (fun (k : Nat) (z : AV) (G : HSt) => s.length - k) (0) (v15) (D15) ⟨hP15, by omega⟩ (SubS.cons rfl (SubS.cons rfl (SubS.cons rfl (SubS.cons rfl (SubS.cons rfl (SubS.cons rfl (SubS.nil _))))))) (SubH.refl _) (fun k z G hI0 ih0 => ?_)
    obtain ⟨hG, hk⟩ := hI0
    refine W.seq ?_
    refine W.seq ?_
    refine W.reg ?_
    refine WO.q (Q.move rfl) rfl ?_
    refine WO.q (Q.move rfl) rfl ?_
    refine WO.q (Q.len ud9 rfl rfl) rfl ?_
    refine WO.q (Q.bin rfl rfl rfl (bvl ltn)) rfl ?_
    refine WO.nil ?_
    refine End.K ?_
    refine W.cD rfl (fun hc25 => ?_) (fun hc25 => ?_)
    ·skip -- fTL0T
     refine W.skip ?_
     refine End.K ?_
     refine W.seq ?_
     refine W.block ?_
     refine W.seq ?_
     refine W.reg ?_
     refine WO.q (Q.move rfl) rfl ?_
     refine WO.q (Q.move rfl) rfl ?_
     refine WO.q (Q.move rfl) rfl ?_
     refine WO.q (Q.move rfl) rfl ?_
     refine WO.call0 rfl (oLc rfl (oLc rfl (oLc rfl oz))) rfl (one_spec s hS hsl r d HE a ha ha0 hal had hin h92 (ro (hs ++ G)) ro_w z (ZV.ro (hG.1.appr))) (SubR.ro (SubH.refl _)) rfl (fun v32 D32 hP32 => ?_)
     refine WO.subH (hs' := (hs ++ G ++ D32)) (SubH.op (perm_tail (N := []) (G := D32) (K := []) (X := hs ++ G))) ?_
     refine WO.call0 rfl (oLc rfl (oLc rfl oz)) rfl (merge_z (by omega) (ro ((hs ++ G) ++ D32)) ro_w _ _ (ZV.ro ((hG.1.appr).appl)) (ZV.ro (hP32.1.appr))) (SubR.ro (SubH.refl _)) rfl (fun v33 D33 hP33 => ?_)
     refine WO.subH (hs' := (hs ++ G ++ D32 ++ D33)) (SubH.op (perm_tail (N := []) (G := D33) (K := []) (X := hs ++ G ++ D32))) ?_
     refine WO.q (Q.assign rfl) rfl ?_
     refine WO.nil ?_
     refine End.K ?_
     refine W.seq ?_
     refine W.seq ?_
     refine W.reg ?_
     refine WO.q (Q.move rfl) rfl ?_
     refine WO.q (Q.len ud25 rfl (zv_len hP33.1)) rfl ?_
     refine WO.q (Q.move rfl) rfl ?_
     refine WO.q (Q.len ud25 rfl (zv_len hG.1)) rfl ?_
     refine WO.q (Q.bin rfl rfl rfl (bv_eql eq_nat)) rfl ?_
     refine WO.nil ?_
     refine End.K ?_
     refine W.sub (SubS.cons (k := 38) rfl (SubS.cons (k := 11) rfl (SubS.cons (k := 0) rfl (SubS.cons (k := 1) rfl (SubS.cons (k := 2) rfl (SubS.cons (k := 3) rfl (SubS.cons (k := 9) rfl (SubS.cons (k := 10) rfl (SubS.nil _))))))))) ?_
     refine W.cD rfl (fun hc38 => ?_) (fun hc38 => ?_)
     ·skip -- fTL0TT
      refine W.exit ?_
      refine End.Kx (End.KB_miss rfl (End.Kx (End.Lx (End.Bh (End.K (W.sub (SubS.cons rfl (SubS.cons rfl (SubS.cons rfl (SubS.nil _)))) (W.sH (SubH.of_sublist (by simp)) (hJ9 (z) (G) ?_))))))))
      exact hG
     ·skip -- fTL0TF
      refine W.skip ?_
      refine End.K ?_
      refine W.reg ?_
      refine WO.q (Q.move rfl) rfl ?_
      refine WO.q (Q.assign rfl) rfl ?_
      refine WO.nil ?_
      refine End.KB (End.K ?_)
      refine W.reg ?_
      refine WO.q (Q.move rfl) rfl ?_
      refine WO.q (Q.bin rfl (oc (v := .int .i64 ((1 : Nat) : Int)) rfl) rfl (bv_add (wna zo))) rfl ?_
      refine WO.q (Q.assign rfl) rfl ?_
      refine WO.nil ?_
      refine End.KL ?_
      refine W.sub (SubS.cons rfl (SubS.cons rfl (SubS.cons rfl (SubS.cons rfl (SubS.cons rfl (SubS.cons rfl (SubS.nil _))))))) (W.sH (SubH.of_sublist (by simp)) (ih0 (k + 1) (v33) (D33) ?_ ?_))
      ·exact ⟨hP33, by omega⟩
      ·exact zo
    ·skip -- fTL0F
     refine W.exit ?_
     refine End.Kx (End.Lx (End.Bh (End.K (W.sub (SubS.cons rfl (SubS.cons rfl (SubS.cons rfl (SubS.nil _)))) (W.sH (SubH.of_sublist (by simp)) (hJ9 (z) (G) ?_))))))
     exact hG
   ·skip -- fF
    refine W.skip ?_
    refine End.K (W.sub (SubS.cons rfl (SubS.cons rfl (SubS.cons rfl (SubS.nil _)))) (W.sH (SubH.of_sublist (by simp)) (hJ9 (v15) (D15) ?_)))
    exact hP15
end Go.Proofs.YtfkbfnpjggkdmaaGreatDoor.Ev.P7
