/- Chapter 7, by the document: where a text ends. -/
import Derived.Test.YtfkbfnpjggkdmaaGreatDoorCVf
namespace Go.Proofs.YtfkbfnpjggkdmaaGreatDoor.Ev.P7
open Go.RowKit
set_option maxRecDepth 100000
set_option maxHeartbeats 1000000
def Inc (N : Nat) (L : List Nat) : Prop := L.Pairwise (· < ·) /\ ∀ x ∈ L, x <= N
theorem yc {N : Nat} : ∀ (L : List Nat) (m : Nat), L.Pairwise (· < ·) -> (∀ x ∈ L, m <= x /\ x <= N) -> L.length <= N + 1 - m
 | [], m, _, _ => Nat.zero_le _
 | x :: L, m, h, hb => by
  rw [List.pairwise_cons] at h
  have := yc L (x + 1) h.2 (fun y hy => ⟨h.1 y hy, (hb y (List.mem_cons_of_mem _ hy)).2⟩)
  have h0 := hb x List.mem_cons_self
  simp only [List.length_cons]
  omega
theorem Inc.len {N : Nat} {L : List Nat} (h : Inc N L) : L.length <= N + 1 := yc L 0 h.1 fun x hx => ⟨Nat.zero_le _, h.2 x hx⟩
theorem Inc.nil (N : Nat) : Inc N [] := ⟨List.Pairwise.nil, fun x h => by cases h⟩
theorem Inc.at_ {N : Nat} {L : List Nat} (h : Inc N L) {i : Nat} (hi : i < L.length) : L.getD i 0 ∈ L.drop i /\ (∀ y ∈ L.drop (i + 1), L.getD i 0 < y) /\ (∀ y ∈ L.drop i, L.getD i 0 <= y) /\ L.getD i 0 <= N := by
 have e : L.getD i 0 = L[i] := by rw [List.getD_eq_getElem?_getD, List.getElem?_eq_getElem hi]; rfl
 have hd := List.drop_eq_getElem_cons hi
 have hp : (L.drop i).Pairwise (· < ·) := h.1.sublist (List.drop_sublist i L)
 rw [hd, List.pairwise_cons] at hp
 rw [e, hd]
 refine ⟨List.mem_cons_self, hp.1, fun y hy => ?_, h.2 _ (List.getElem_mem hi)⟩
 rcases List.mem_cons.1 hy with rfl | hy
 ·exact Nat.le_refl _
 ·exact Nat.le_of_lt (hp.1 y hy)
theorem Inc.last {N : Nat} {L : List Nat} (h : Inc N L) {x : Nat} (hx : x ∈ L) : x <= L.getD (0 + (L.length - 1)) 0 := by
 obtain ⟨i, hi, rfl⟩ := List.getElem_of_mem hx
 have e : L.getD (0 + (L.length - 1)) 0 = L[L.length - 1]'zy := by rw [List.getD_eq_getElem?_getD, Nat.zero_add, List.getElem?_eq_getElem zy]; rfl
 rw [e]
 rcases Nat.lt_or_ge i (L.length - 1) with g | g
 ·exact Nat.le_of_lt (List.pairwise_iff_getElem.1 h.1 i (L.length - 1) hi zy g)
 ·have : i = L.length - 1 := by omega
  subst this
  exact Nat.le_refl _
def cI (L : List Nat) : List AV := L.map fun x => .int .i64 ((x : Nat) : Int)
theorem rK (L : List Nat) : (cI L).length = L.length * 1 := by simp [cI]
theorem eX {L : List Nat} {a b : Nat} (h : a + b < L.length) : (cI L)[(a + b) * 1]? = some (.int .i64 ((L.getD (a + b) 0 : Nat) : Int)) := by
 rw [Nat.mul_one]
 unfold cI
 rw [List.getElem?_map, List.getD_eq_getElem?_getD, List.getElem?_eq_getElem h]
 rfl
def IS (hs : af) (A : List Nat) (i : Nat) (v : AV) : Prop := (v = .nils /\ A = []) \/ ∃ b ex, v = .slice b i (A.length - i) 1 /\ MemH hs b ⟨1, ex, cI A⟩
theorem fZ {hs : af} {A : List Nat} {i : Nat} {v : AV} {e : Nat} (h : IS hs A i v) : iN (.slice e) v = some (A.length - i) := by
 rcases h with ⟨rfl, rfl⟩ | ⟨b, ex, rfl, _⟩
 ·simp [iN]
 ·rfl
theorem fo {hs : af} {A : List Nat} {i : Nat} {v : AV} (h : IS hs A i v) (hl : 0 < A.length - i) : ∃ b ex, v = .slice b i (A.length - i) 1 /\ MemH hs b ⟨1, ex, cI A⟩ := by
 rcases h with ⟨_, rfl⟩ | h
 ·simp at hl
 ·exact h
theorem iw {hs : af} {A : List Nat} {i b : Nat} {ex : Bool} (w : Bool) (h : (⟨b, ⟨1, ex, cI A⟩, w⟩ : HE) ∈ hs) : IS hs A (i + 1) (.slice b (i + 1) (A.length - i - 1) 1) := .inr ⟨b, ex, by rw [Nat.sub_sub], w, h⟩
def ZV (N : Nat) (hs : af) (v : AV) : Prop := ∃ L, Inc N L /\ IS hs L 0 v
def ZQ (N : Nat) (v : AV) (D : af) : Prop := ZV N D v /\ ∀ e ∈ D, e.w = true
theorem ZV.mono {N : Nat} {hs hs' : af} {v : AV} (hm : ∀ b o, MemH hs b o -> MemH hs' b o) (h : ZV N hs v) : ZV N hs' v := let ⟨L, h1, h2⟩ := h; ⟨L, h1, h2.imp id fun ⟨b, ex, g1, g2⟩ => ⟨b, ex, g1, hm _ _ g2⟩⟩
theorem ZV.ro {N : Nat} {hs : af} {v : AV} (h : ZV N hs v) : ZV N (Ev.ro hs) v := h.mono fun b o g => g.ro
theorem ZV.appr {N : Nat} {A hs : af} {v : AV} (h : ZV N hs v) : ZV N (A ++ hs) v := h.mono fun b o ⟨w, g⟩ => ⟨w, List.mem_append_right _ g⟩
theorem ZV.appl {N : Nat} {A hs : af} {v : AV} (h : ZV N hs v) : ZV N (hs ++ A) v := h.mono fun b o ⟨w, g⟩ => ⟨w, List.mem_append_left _ g⟩
def zn : AV -> Nat
 | .slice _ _ n _ => n
 | _ => 0
theorem pU {N : Nat} {hs : af} {v : AV} {e : Nat} (h : ZV N hs v) : iN (.slice e) v = some (zn v) := by
 obtain ⟨L, _, ⟨rfl, _⟩ | ⟨b, ex, rfl, _⟩⟩ := h <;> rfl
theorem lM {O : List Nat} {v : AV} {ho : af} (h : Own 1 (cI O) O.length v ho) (hl : 0 < O.length) : ∃ b ex, v = .slice b 0 O.length 1 /\ (⟨b, ⟨1, ex, cI O⟩, true⟩ : HE) ∈ ho := by
 obtain ⟨b, ex, rfl, rfl⟩ := h.full hl
 exact ⟨b, ex, rfl, List.mem_singleton.2 rfl⟩
theorem ZV.own {N : Nat} {O : List Nat} {v : AV} {ho : af} (hI : Inc N O) (h : Own 1 (cI O) O.length v ho) : ZV N ho v := by
 refine ⟨O, hI, ?_⟩
 by_cases h0 : 0 < O.length
 ·obtain ⟨b, ex, rfl, hm⟩ := lM h h0
  exact .inr ⟨b, ex, rfl, true, hm⟩
 ·have : O = [] := List.eq_nil_of_length_eq_zero zy
  subst this
  rcases h with ⟨_, _, rfl, _⟩ | ⟨b, ex, rfl, rfl, _⟩
  ·exact .inl ⟨rfl, rfl⟩
  ·exact .inr ⟨b, ex, rfl, true, List.mem_singleton.2 rfl⟩
theorem kj {O : List Nat} {q : Nat} {v : AV} {ho : af} (h : Own 1 (cI O ++ [.int .i64 ((q : Nat) : Int)]) (O.length + 1) v ho) : Own 1 (cI (O ++ [q])) (O ++ [q]).length v ho := by
 have e1 : cI (O ++ [q]) = cI O ++ [.int .i64 ((q : Nat) : Int)] := by simp [cI]
 rw [e1, List.length_append]
 exact h
def MInv (N : Nat) (A B : List Nat) (i j : Nat) (O : List Nat) : Prop := Inc N A /\ Inc N B /\ Inc N O /\ ∀ x ∈ O, ∀ y ∈ A.drop i ++ B.drop j, x <= y
def MMid (N : Nat) (A B : List Nat) (i j : Nat) (O : List Nat) (q : Nat) : Prop := Inc N A /\ Inc N B /\ Inc N O /\ q <= N /\ (∀ x ∈ O, x <= q) /\ ∀ y ∈ A.drop i ++ B.drop j, q <= y
theorem MInv.init {N : Nat} {A B : List Nat} (h : Inc N A) (g : Inc N B) : MInv N A B 0 0 [] := ⟨h, g, Inc.nil N, fun x hx => by cases hx⟩
theorem MMid.le {N : Nat} {A B : List Nat} {i j : Nat} {O : List Nat} {q : Nat} (h : MMid N A B i j O q) : q <= N := h.2.2.2.1
theorem MMid.skip {N : Nat} {A B : List Nat} {i j : Nat} {O : List Nat} {q : Nat} (h : MMid N A B i j O q) : MInv N A B i j O := ⟨h.1, h.2.1, h.2.2.1, fun x hx y hy => Nat.le_trans (h.2.2.2.2.1 x hx) (h.2.2.2.2.2 y hy)⟩
theorem MInv.midA {N : Nat} {A B : List Nat} {i j : Nat} {O : List Nat} (h : MInv N A B i j O) (hi : i < A.length) (hb : j < B.length -> A.getD (i + 0) 0 <= B.getD (j + 0) 0) : MMid N A B (i + 1) j O (A.getD (i + 0) 0) := by
 obtain ⟨h1, h2, h3, h4⟩ := h
 obtain ⟨a1, a2, a3, a4⟩ := h1.at_ hi
 simp only [Nat.add_zero] at hb ⊢
 refine ⟨h1, h2, h3, a4, fun x hx => h4 x hx _ (List.mem_append_left _ a1), fun y hy => ?_⟩
 rcases List.mem_append.1 hy with hy | hy
 ·exact Nat.le_of_lt (a2 y hy)
 ·by_cases hj : j < B.length
  ·exact Nat.le_trans (hb hj) ((h2.at_ hj).2.2.1 y hy)
  ·rw [List.drop_eq_nil_of_le zy] at hy; cases hy
theorem MInv.midB {N : Nat} {A B : List Nat} {i j : Nat} {O : List Nat} (h : MInv N A B i j O) (hj : j < B.length) (hb : i < A.length -> B.getD (j + 0) 0 <= A.getD (i + 0) 0) : MMid N A B i (j + 1) O (B.getD (j + 0) 0) := by
 obtain ⟨h1, h2, h3, h4⟩ := h
 obtain ⟨a1, a2, a3, a4⟩ := h2.at_ hj
 simp only [Nat.add_zero] at hb ⊢
 refine ⟨h1, h2, h3, a4, fun x hx => h4 x hx _ (List.mem_append_right _ a1), fun y hy => ?_⟩
 rcases List.mem_append.1 hy with hy | hy
 ·by_cases hi : i < A.length
  ·exact Nat.le_trans (hb hi) ((h1.at_ hi).2.2.1 y hy)
  ·rw [List.drop_eq_nil_of_le zy] at hy; cases hy
 ·exact Nat.le_of_lt (a2 y hy)
theorem yb {N : Nat} {O : List Nat} {q : Nat} (h : Inc N O) (hq : q <= N) (hx : ∀ x ∈ O, x < q) : Inc N (O ++ [q]) := by
 refine ⟨List.pairwise_append.2 ⟨h.1, List.pairwise_singleton _ _, fun a ha b hb => by rw [List.mem_singleton.1 hb]; exact hx a ha⟩, fun x hm => ?_⟩
 rcases List.mem_append.1 hm with hm | hm
 ·exact h.2 x hm
 ·rw [List.mem_singleton.1 hm]; exact hq
theorem MMid.app {N : Nat} {A B : List Nat} {i j : Nat} {O : List Nat} {q : Nat} (h : MMid N A B i j O q) (hn : O.length = 0 \/ O.getD (0 + (O.length - 1)) 0 ≠ q) : MInv N A B i j (O ++ [q]) := by
 obtain ⟨h1, h2, h3, h4, h5, h6⟩ := h
 refine ⟨h1, h2, yb h3 h4 fun x hx => ?_, fun x hx y hy => ?_⟩
 ·rcases hn with hn | hn
  ·rw [List.eq_nil_of_length_eq_zero hn] at hx; cases hx
  ·have hl := h3.last hx
   have : O.getD (0 + (O.length - 1)) 0 <= q := h5 _ (by
    have : 0 < O.length := List.length_pos_of_mem hx
    rw [List.getD_eq_getElem?_getD, List.getElem?_eq_getElem zy]
    exact List.getElem_mem _)
   omega
 ·rcases List.mem_append.1 hx with hx | hx
  ·exact Nat.le_trans (h5 x hx) (h6 y hy)
  ·rw [List.mem_singleton.1 hx]; exact h6 y hy
def OInv (N : Nat) (L : List Nat) (i : Nat) (O : List Nat) : Prop := Inc N O /\ Inc N L /\ ∀ x ∈ O, ∀ y ∈ L.drop i, x <= y
theorem OInv.init {N : Nat} {L : List Nat} (h : Inc N L) : OInv N L 0 [] := ⟨Inc.nil N, h, fun x hx => by cases hx⟩
theorem OInv.skip {N : Nat} {L : List Nat} {i : Nat} {O : List Nat} (h : OInv N L i O) (hi : i < L.length) : OInv N L (i + 1) O := ⟨h.1, h.2.1, fun x hx y hy => h.2.2 x hx y (by rw [List.drop_eq_getElem_cons hi]; exact List.mem_cons_of_mem _ hy)⟩
theorem OInv.app {N : Nat} {L : List Nat} {i : Nat} {O : List Nat} (h : OInv N L i O) (hi : i < L.length) (hq : L.getD (0 + i) 0 < N) : OInv N L (i + 1) (O ++ [L.getD (0 + i) 0 + 1]) := by
 rw [Nat.zero_add] at hq ⊢
 obtain ⟨a1, a2, a3, a4⟩ := h.2.1.at_ hi
 refine ⟨yb h.1 hq fun x hx => Nat.lt_succ_of_le (h.2.2 x hx _ a1), h.2.1, fun x hx y hy => ?_⟩
 rcases List.mem_append.1 hx with hx | hx
 ·exact (h.skip hi).2.2 x hx y hy
 ·rw [List.mem_singleton.1 hx]; exact a2 y hy
theorem vG (hs : af) (hro : ∀ e ∈ hs, e.w = false) (N : Nat) (A B : List Nat) (va vb : AV) (hA : IS hs A 0 va) (hB : IS hs B 0 vb) (hIA : Inc N A) (hIB : Inc N B) (hN : N <= 64) : Spec tab 252 [va, vb] [] hs (fun v D => ZV N D v /\ ∀ e ∈ D, e.w = true) := by
 refine ac (bz 252 Tryz.func252) rfl (m := 60) rfl (rs := [.tmp 4]) rfl (st := [(0, va), (1, vb)]) rfl rfl (fun _ => rfl) (fun E => zr (za rfl (zk (zr (za rfl (zk (W.seq (W.block (m5 (fun (i : Nat) (j : Nat) (va : AV) (vb : AV) (O : List Nat) (v : AV) (ho : af) => [(0, va), (1, vb), (5, v)]) (fun (i : Nat) (j : Nat) (va : AV) (vb : AV) (O : List Nat) (v : AV) (ho : af) => hs ++ ho) (fun (i : Nat) (j : Nat) (va : AV) (vb : AV) (O : List Nat) (v : AV) (ho : af) => IS hs A i va /\ IS hs B j vb /\ MInv N A B i j O /\ Own 1 (cI O) O.length v ho) (fun (i : Nat) (j : Nat) (va : AV) (vb : AV) (O : List Nat) (v : AV) (ho : af) => A.length - i + (B.length - j)) (0) (0) (va) (vb) ([]) (.nils) ([]) ⟨hA, hB, MInv.init hIA hIB, Own.nil 1⟩ zv (SubH.of_sublist (by simp)) (fun i j va vb O v ho hI0 ih0 => ?_))))))))))
 obtain ⟨hA, hB, hM, hO⟩ := hI0
 have hOl := (hM.2.2.1).len
 have hOc := rK O
 refine wh (fun (z : Unit) => [(0, va), (1, vb), (5, v)]) (fun (z : Unit) => hs ++ ho) (fun (z : Unit) => 0 < A.length - i \/ 0 < B.length - j) (fun z hI3 => ?_) (fun hJ3 => ?_)
 ·have hsome := hI3
  refine W.block (zr (za (zi 0) (zk (wi (fun (i2 : Nat) (j2 : Nat) (ua : AV) (ub : AV) (q : Nat) => [(0, ua), (1, ub), (5, v), (6, .int .i64 ((q : Nat) : Int))]) (fun (i2 : Nat) (j2 : Nat) (ua : AV) (ub : AV) (q : Nat) => hs ++ ho) (fun (i2 : Nat) (j2 : Nat) (ua : AV) (ub : AV) (q : Nat) => IS hs A i2 ua /\ IS hs B j2 ub /\ MMid N A B i2 j2 O q /\ A.length - i2 + (B.length - j2) < A.length - i + (B.length - j)) (fun i2 j2 ua ub q hI9 => ?_) (fun hJ9 => ?_)))))
  ·obtain ⟨hA2, hB2, hM2, hms⟩ := hI9
   have hqN := hM2.le
   refine zr (zm rfl (zq (Q.len aP rfl hO.len) (zq (aa rfl (zi 0) rfl (ai aG)) (zm rfl (aC (d := 45) rfl (fun hc45 => ?_) (fun hc45 => ?_))))))
   ·refine z2 (z2 (z2 (z2 (zq (aA rfl rfl) (zk (W.condT rfl (W.reg (zm rfl (zm rfl (WO.bslice aP dn sS rfl (cy rfl dE) rfl (cs := [_]) rfl rfl rfl (fun b1 => cw (e := ⟨b1, _, true⟩) (A := ([] ++ hs)) eM hO rfl rfl rfl rfl ⟨by first | omega | (simp at * <;> omega), by first | omega | (simp at * <;> omega)⟩ (by decide) rfl rfl (fun v58 hp58 hO58 => za rfl (WO.nil (End.KB (End.KL (W.sub zv (cz (SubH.refl _) (ih0 (i2) (j2) (ua) (ub) (O ++ [q]) (v58) (hp58) ?_ ?_))))))))))))))))))
    ·exact ⟨hA2, hB2, hM2.app (.inl zy), kj hO58⟩
    exact zo
   obtain ⟨bo, exo, rfl, mo⟩ := lM hO zy
   refine zT (zm rfl (zT (zm rfl (zT (zq (Q.len aP rfl rfl) (zT (zq (aa rfl (zi 1) rfl (bM (oe zo))) (zT (zq (bj aP dn rfl rfl zo) (zT (zq (ag rfl (List.mem_append_right _ mo) bH (eX (L := O) zy)) (zT (zm rfl (zT (zq (aa rfl rfl rfl (bd gB)) (zq (aF rfl rfl) (zk (aB rfl (fun hc54 => ?_) (fun hc54 => ?_)))))))))))))))))))
   ·refine W.reg (zm rfl (zm rfl (WO.bslice aP dn sS rfl (cy rfl dE) rfl (cs := [_]) rfl rfl rfl (fun b3 => cw (e := ⟨b3, _, true⟩) (A := ([] ++ hs)) eM hO rfl rfl rfl rfl ⟨by first | omega | (simp at * <;> omega), by first | omega | (simp at * <;> omega)⟩ (by decide) rfl rfl (fun v58 hp58 hO58 => za rfl (WO.nil (End.KB (End.KL (W.sub zv (cz (SubH.refl _) (ih0 (i2) (j2) (ua) (ub) (O ++ [q]) (v58) (hp58) ?_ ?_)))))))))))
    ·exact ⟨hA2, hB2, hM2.app (.inr hc54), kj hO58⟩
    exact zo
   refine W.skip (End.KB (End.KL (W.sub zv (cz (SubH.refl _) (ih0 (i2) (j2) (ua) (ub) (O) (_) (ho) ?_ ?_)))))
   ·exact ⟨hA2, hB2, hM2.skip, hO⟩
   exact zo
  refine W.seq (cX (by kernel_rfl) (zm rfl (zq (Q.len aP rfl (fZ hB)) (zq (aa rfl (zi 0) rfl (ai aG)) (zm rfl (aC (d := 18) rfl (fun hc18 => ?_) (fun hc18 => ?_)))))))
  ·obtain ⟨ba, exa, rfl, wa, ma⟩ := fo hA zy
   refine z2 (z2 (aW rfl rfl (.inr rfl) rfl (aW rfl rfl (.inr rfl) rfl (aW rfl rfl (.inr rfl) rfl (aW rfl rfl (.inr rfl) rfl (aW rfl rfl (.inr rfl) rfl (aW rfl rfl (.inr rfl) rfl (aW rfl rfl (.inr rfl) rfl (zG (zq (aA rfl rfl) (zk (W.sub (zc 31 rfl (zc 0 rfl (zc 1 rfl (zc 5 rfl aI)))) (W.condT rfl (zr (zm rfl (zq (bj aP dn rfl (zi 0) zo) (zq (ag rfl (List.mem_append_left _ ma) bH (eX (L := A) zy)) (za rfl (zk (W.reg (zm rfl ?_)))))))))))))))))))))
   refine zq (dZ aP dn rfl rfl zo) (za rfl (WO.nil (End.K (W.sub zv (hJ9 (i + 1) (j) (_) (vb) (_) ?_)))))
   exact ⟨iw wa ma, hB, hM.midA zy zy, by omega⟩
  refine zT (zm rfl (zT (zq (Q.len aP rfl (fZ hA)) (zT (zq (aa rfl (zi 0) rfl (aJ bY)) (zT (zm rfl (aC (d := 22) rfl (fun hc22 => ?_) (fun hc22 => ?_)))))))))
  ·obtain ⟨ba, exa, rfl, wa, ma⟩ := fo hA zy
   obtain ⟨bb, exb, rfl, wb, mb⟩ := fo hB zy
   refine zT (zm rfl (zT (zq (bj aP dn rfl (zi 0) zo) (zT (zq (ag rfl (List.mem_append_left _ ma) bH (eX (L := A) zy)) (zT (zm rfl (zT (zq (bj aP dn rfl (zi 0) zo) (zT (zq (ag rfl (List.mem_append_left _ mb) bH (eX (L := B) zy)) (zT (zq (aa rfl rfl rfl (aZ bf)) (zT (zq (aA rfl rfl) (zq (aF rfl rfl) (zk (W.sub (zc 31 rfl (zc 0 rfl (zc 1 rfl (zc 5 rfl aI)))) (aB rfl (fun hc31 => ?_) (fun hc31 => ?_))))))))))))))))))))
   ·refine zr (zm rfl (zq (bj aP dn rfl (zi 0) zo) (zq (ag rfl (List.mem_append_left _ ma) bH (eX (L := A) zy)) (za rfl (zk (W.reg (zm rfl (zq (dZ aP dn rfl rfl zo) (za rfl (WO.nil (End.K (W.sub zv (hJ9 (i + 1) (j) (_) (.slice bb j (B.length - j) 1) (_) ?_)))))))))))))
    exact ⟨iw wa ma, .inr ⟨bb, exb, rfl, wb, mb⟩, hM.midA zy zy, by omega⟩
   refine zr (zm rfl (zq (bj aP dn rfl (zi 0) zo) (zq (ag rfl (List.mem_append_left _ mb) bH (eX (L := B) zy)) (za rfl (zk (W.reg (zm rfl (zq (dZ aP dn rfl rfl zo) (za rfl (WO.nil (End.K (W.sub zv (hJ9 (i) (j + 1) (.slice ba i (A.length - i) 1) (_) (_) ?_)))))))))))))
   exact ⟨.inr ⟨ba, exa, rfl, wa, ma⟩, iw wb mb, hM.midB zy zy, by omega⟩
  obtain ⟨bb, exb, rfl, wb, mb⟩ := fo hB zy
  refine z2 (z2 (z2 (zG (zT (zq (aF rfl rfl) (zq (aF rfl rfl) (zk (W.sub (zc 31 rfl (zc 0 rfl (zc 1 rfl (zc 5 rfl aI)))) (W.condF rfl (zr (zm rfl (zq (bj aP dn rfl (zi 0) zo) (zq (ag rfl (List.mem_append_left _ mb) bH (eX (L := B) zy)) (za rfl (zk (W.reg (zm rfl (zq (dZ aP dn rfl rfl zo) (za rfl (WO.nil ?_))))))))))))))))))))
  refine End.K (W.sub zv (hJ9 (i) (j + 1) (va) (_) (_) ?_))
  exact ⟨hA, iw wb mb, hM.midB zy zy, by omega⟩
 refine zr (zm rfl (zq (Q.len aP rfl (fZ hA)) (zq (aa rfl (zi 0) rfl (aJ bY)) (zm rfl (aC (d := 10) rfl (fun hc10 => ?_) (fun hc10 => ?_))))))
 ·refine z2 (zG (zq (aA rfl rfl) (zk (W.condT rfl (W.skip (End.K (W.sub zv (hJ3 (()) ?_))))))))
  exact zy
 refine zT (zm rfl (zT (zq (Q.len aP rfl (fZ hB)) (zT (zq (aa rfl (zi 0) rfl (aJ bY)) (zq (aF rfl rfl) (zk (aB rfl (fun hc14 => ?_) (fun hc14 => ?_)))))))))
 ·refine W.skip (End.K (W.sub zv (hJ3 (()) ?_)))
  exact zy
 refine W.exit (am (aq (ap (End.K (zr (zm rfl (za rfl (zk (W.ret ?_)))))))))
 refine End.ret (z1 rfl) (hs' := ho) ⟨ZV.own hM.2.2.1 hO, hO.w⟩ hO.w (SubH.of_sublist (by simp))
theorem lL {N : Nat} (hN : N <= 64) (hs : af) (hro : ∀ e ∈ hs, e.w = false) (va vb : AV) (ha : ZV N hs va) (hb : ZV N hs vb) : Spec tab 252 [va, vb] [] hs (ZQ N) := by
 obtain ⟨A, h1, h2⟩ := ha
 obtain ⟨B, h3, h4⟩ := hb
 exact vG hs hro N A B va vb h2 h4 h1 h3 hN
theorem yY (a : List Nat) (ha : Bytes a) (ha0 : 0 < a.length) (hal : a.length <= 64) (h92 : a.getD 0 0 = 92 -> 2 <= a.length) (c : Nat) (hc : c < 256) : Spec tab 296 [.str a, .int .u8 ((c : Nat) : Int)] [] [] (ij (fun v => ∃ b : Bool, v = .bool b)) := by
 refine ac (bz 296 Tryz.func296) rfl (m := 33) rfl (rs := [.tmp 4]) rfl (st := [(0, .str a), (1, .int .u8 ((c : Nat) : Int))]) rfl rfl (fun _ => rfl) (fun E => zr (za rfl (zk (W.seq (zr (zm rfl (aE ha cf rfl (zi 0) zo rfl (fun c8 hd8 hb8 => zq (aa rfl (zu 92) rfl (ai aG)) (zk (aB rfl (fun hc9 => ?_) (fun hc9 => ?_)))))))))))
 ·have h2 := h92 zy
  refine zr (zm rfl (aE ha cf rfl (zi 1) zo rfl (fun c11 hd11 hb11 => zm rfl (zq (aa rfl rfl rfl (ai aG)) (za rfl (zk (W.ret (ad (ar (z1 rfl) ?_)))))))))
  exact ⟨_, rfl⟩
 refine zw (W.seq (zr (zm rfl (aE ha cf rfl (zi 0) zo rfl (fun c15 hd15 hb15 => zq (aa rfl (zu 91) rfl (ai aG)) (zk (aB rfl (fun hc16 => ?_) (fun hc16 => ?_))))))))
 ·refine zr (zm rfl (zm rfl (WO.callE rfl (aj rfl (aj (zi 0) (aj rfl oz))) rfl (fV a ha hal 0 ha0 c hc) SubR.nil rfl (fun v20 hP20 => ?_))))
  obtain ⟨h20, rfl⟩ := hP20
  refine zm rfl (zq (Q.extract rfl rfl) (zq (Q.extract rfl rfl) (za rfl (za rfl (zk (W.sub (zc 6 rfl aI) (zr (zm rfl (za rfl (zk (W.ret (ad (ar (z1 rfl) ?_)))))))))))))
  exact ⟨_, rfl⟩
 refine zw (zr (zm rfl (aE ha cf rfl (zi 0) zo rfl (fun c25 hd25 hb25 => zq (aa rfl (zu 46) rfl (ai aG)) (zm rfl (aC (d := 27) rfl (fun hc27 => ?_) (fun hc27 => ?_)))))))
 ·refine z2 (z2 (zq (aA rfl rfl) (za rfl (zk (W.sub (zc 4 rfl aI) (W.ret (ar (z1 rfl) ?_)))))))
  exact ⟨_, rfl⟩
 refine zT (zm rfl (zT (aE ha cf rfl (zi 0) zo rfl (fun c29 hd29 hb29 => zT (zm rfl (zT (zq (aa rfl rfl rfl (ai aG)) (zq (aF rfl rfl) (za rfl (zk (W.sub (zc 4 rfl aI) (W.ret (ar (z1 rfl) ?_)))))))))))))
 exact ⟨_, rfl⟩

theorem pz (s : List Nat) (hS : Bytes s) (hsl : s.length <= 64) (r : List Nat -> Bool) (d : Nat) (HE : ∀ q : List Nat, Bytes q -> q.length <= 64 -> q.length < d -> r q = true -> ∀ (hs : af) (v : AV), (∀ e ∈ hs, e.w = false) -> ZV s.length hs v -> Spec tab 211 [.str q, .str s, v] [] hs (ZQ s.length)) (a : List Nat) (ha : Bytes a) (ha0 : 0 < a.length) (hal : a.length <= 64) (had : a.length <= d) (hin : a.getD 0 0 = 40 -> 2 <= a.length /\ r ((a.drop 1).take (a.length - 1 - 1)) = true) (h92 : a.getD 0 0 = 92 -> 2 <= a.length) (hs : af) (hro : ∀ e ∈ hs, e.w = false) (v : AV) (hz : ZV s.length hs v) : Spec tab 291 [.str a, .str s, v] [] hs (ZQ s.length) := by
 refine ac (bz 291 Tryz.func291) rfl (m := 52) rfl (rs := [.tmp 6]) rfl (st := [(0, .str a), (1, .str s), (2, v)]) rfl rfl (fun _ => rfl) (fun E => zr (za rfl (zk (W.seq (zr (zm rfl (aE ha cf rfl (zi 0) zo rfl (fun c10 hd10 hb10 => zq (aa rfl (zu 40) rfl (ai aG)) (zk (aB rfl (fun hc11 => ?_) (fun hc11 => ?_)))))))))))
 ·have hin2 := hin zy
  refine zr (zm rfl (zm rfl (zq (Q.len cf rfl rfl) (zq (aa rfl (zi 1) rfl (bM (oe zo))) (zq (gi cf rfl rfl zo rfl) (zm rfl (zm rfl (WO.call0 rfl (aj rfl (aj rfl (aj rfl oz))) rfl (HE _ (Bytes.take (Bytes.drop ha _) _) zo zo hin2.2 hs v hro hz) (aN hro) rfl (fun v19 D19 hP19 => WO.subH (hs' := (hs ++ D19)) (SubH.op (aw (N := []) (G := D19) (K := []) (X := hs))) (za rfl (zk (W.sub (zc 6 rfl aI) (W.ret ?_)))))))))))))
  refine ad (End.ret (z1 rfl) (hs' := D19) hP19 hP19.2 (SubH.of_sublist (by simp)))
 obtain ⟨L, hIL, hL⟩ := hz
 refine zw (zr (za rfl (zk (W.seq (zr (za (zi 0) (zk (W.block (fD (fun (i : Nat) (O : List Nat) (o : AV) (ho : af) => [(0, .str a), (1, .str s), (2, v), (7, o), (8, .int .i64 ((i : Nat) : Int))]) (fun (i : Nat) (O : List Nat) (o : AV) (ho : af) => hs ++ ho) (fun (i : Nat) (O : List Nat) (o : AV) (ho : af) => OInv s.length L i O /\ Own 1 (cI O) O.length o ho) (fun (i : Nat) (O : List Nat) (o : AV) (ho : af) => L.length - i) (0) ([]) (.nils) ([]) ⟨OInv.init hIL, Own.nil 1⟩ zv (SubH.of_sublist (by simp)) (fun i O o ho hI0 ih0 => ?_))))))))))
 obtain ⟨hM, hO⟩ := hI0
 have hOl := (hM.1).len
 have hOc := rK O
 have hLl := hIL.len
 refine W.seq (zr (zm rfl (zm rfl (zq (Q.len aP rfl (fZ hL)) (zq (aa rfl rfl rfl (bu bY)) (zk (aB rfl (fun hc23 => ?_) (fun hc23 => ?_))))))))
 ·have hiL : i < L.length := zy
  obtain ⟨bl, exl, rfl, wl, ml⟩ := fo hL zy
  refine zw (W.seq (W.block (zr (zm rfl (zm rfl (zq (bj aP dn rfl rfl zo) (zq (ag rfl (List.mem_append_left _ ml) bH (eX (L := L) zy)) (zm rfl (zq (Q.len cf rfl rfl) (zq (aa rfl rfl rfl (bu bY)) (zm rfl (aC (d := 33) rfl (fun hc33 => ?_) (fun hc33 => ?_)))))))))))))
  ·refine zT (zm rfl (zT (zm rfl (zT (zm rfl (zT (zm rfl (zT (zq (bj aP dn rfl rfl zo) (zT (zq (ag rfl (List.mem_append_left _ ml) bH (eX (L := L) zy)) (zT (aE hS cf rfl rfl zo rfl (fun c40 hd40 hb40 => zT (WO.callE rfl (aj rfl (aj rfl oz)) rfl (yY a ha ha0 hal h92 _ zy) SubR.nil rfl (fun v41 hP41 => ?_))))))))))))))))
   obtain ⟨b41, rfl⟩ := hP41
   refine zq (aA rfl rfl) (zk (W.sub (zc 42 rfl (zc 0 rfl (zc 1 rfl (zc 2 rfl (zc 7 rfl (zc 8 rfl aI)))))) (W.condS rfl (fun hc42 => ?_) (fun hc42 => ?_))))
   ·refine W.reg (zm rfl (zm rfl (zm rfl (zq (bj aP dn rfl rfl zo) (zq (ag rfl (List.mem_append_left _ ml) bH (eX (L := L) zy)) (zq (aa rfl (zi 1) rfl zp) (WO.bslice aP dn sS rfl (cy rfl dE) rfl (cs := [_]) rfl rfl rfl (fun b1 => cw (e := ⟨b1, _, true⟩) (A := ([] ++ hs)) eM hO rfl rfl rfl rfl ⟨by first | omega | (simp at * <;> omega), by first | omega | (simp at * <;> omega)⟩ (by decide) rfl rfl (fun v50 hp50 hO50 => za rfl (WO.nil (End.KB (End.K (W.reg (zm rfl (zq (aa rfl (zi 1) rfl zp) (za rfl (WO.nil (End.KL (W.sub zv (cz (SubH.refl _) (ih0 (i + 1) (O ++ [L.getD (0 + i) 0 + 1]) (v50) (hp50) ?_ ?_)))))))))))))))))))))
    ·exact ⟨hM.app zy zy, kj hO50⟩
    exact zo
   refine W.skip (End.KB (End.K (W.reg (zm rfl (zq (aa rfl (zi 1) rfl zp) (za rfl (WO.nil (End.KL (W.sub zv (cz (SubH.refl _) (ih0 (i + 1) (O) (o) (ho) ?_ ?_)))))))))))
   ·exact ⟨hM.skip zy, hO⟩
   exact zo
  refine z2 (z2 (z2 (z2 (zq (aF rfl rfl) (zk (W.sub (zc 42 rfl (zc 0 rfl (zc 1 rfl (zc 2 rfl (zc 7 rfl (zc 8 rfl aI)))))) (W.condF rfl (W.skip (End.KB (End.K (W.reg (zm rfl (zq (aa rfl (zi 1) rfl zp) (za rfl (WO.nil (End.KL (W.sub zv (cz (SubH.refl _) (ih0 (i + 1) (O) (o) (ho) ?_ ?_)))))))))))))))))))
  ·exact ⟨hM.skip zy, hO⟩
  exact zo
 refine W.exit (am (aq (ap (End.K (zr (zm rfl (za rfl (zk (W.ret ?_)))))))))
 refine End.ret (z1 rfl) (hs' := ho) ⟨ZV.own hM.1 hO, hO.w⟩ hO.w (SubH.of_sublist (by simp))

theorem vQ (s : List Nat) (hS : Bytes s) (hsl : s.length <= 64) (r : List Nat -> Bool) (d : Nat) (HE : ∀ q : List Nat, Bytes q -> q.length <= 64 -> q.length < d -> r q = true -> ∀ (hs : af) (v : AV), (∀ e ∈ hs, e.w = false) -> ZV s.length hs v -> Spec tab 211 [.str q, .str s, v] [] hs (ZQ s.length)) (a : List Nat) (ha : Bytes a) (ha0 : 0 < a.length) (hal : a.length <= 64) (had : a.length <= d) (hin : a.getD 0 0 = 40 -> 2 <= a.length /\ r ((a.drop 1).take (a.length - 1 - 1)) = true) (h92 : a.getD 0 0 = 92 -> 2 <= a.length) (c : Nat) (hc : c < 256) (hs : af) (hro : ∀ e ∈ hs, e.w = false) (v : AV) (hz : ZV s.length hs v) : Spec tab 279 [.str a, .int .u8 ((c : Nat) : Int), .str s, v] [] hs (ZQ s.length) := by
 refine ac (bz 279 Tryz.func279) rfl (m := 50) rfl (rs := [.tmp 8]) rfl (st := [(0, .str a), (1, .int .u8 ((c : Nat) : Int)), (2, .str s), (3, v)]) rfl rfl (fun _ => rfl) (fun E => zr (za rfl (zk (zr (zm rfl (zm rfl (zm rfl (WO.call0 rfl (aj rfl (aj rfl (aj rfl oz))) rfl (pz s hS hsl r d HE a ha ha0 hal had hin h92 (ro hs) ie v hz.ro) (SubR.ro (SubH.refl _)) rfl (fun v15 D15 hP15 => WO.subH (hs' := (hs ++ D15)) (SubH.op (aw (N := []) (G := D15) (K := []) (X := hs))) (za rfl (zk (DC (fun (z : AV) (G : af) => [(1, .int .u8 ((c : Nat) : Int)), (3, v), (9, z)]) (fun (z : AV) (G : af) => hs ++ G) (fun (z : AV) (G : af) => ZQ s.length z G) (fun z G hI9 => ?_) (fun hJ9 => ?_)))))))))))))
 ·have hG := hI9
  refine W.seq (zr (zm rfl (zq (aa rfl (zu 42) rfl (ai aG)) (zm rfl (aC (d := 42) rfl (fun hc42 => ?_) (fun hc42 => ?_))))))
  ·refine z2 (zq (aA rfl rfl) (zk (W.condT rfl (W.reg (zm rfl (zm rfl (WO.call0 rfl (aj rfl (aj rfl oz)) rfl (lL zy (ro (hs ++ G)) ie _ _ (ZV.ro (hG.1.appr)) (ZV.ro (hz.appl))) (SubR.ro (SubH.refl _)) rfl (fun v48 D48 hP48 => WO.subH (hs' := (hs ++ G ++ D48)) (SubH.op (aw (N := []) (G := D48) (K := []) (X := hs ++ G))) (za rfl (zk (zr (zm rfl (za rfl (zk (W.ret ?_)))))))))))))))
   refine End.ret (z1 rfl) (hs' := D48) hP48 hP48.2 (SubH.of_sublist (by simp))
  refine zT (zm rfl (zT (zq (aa rfl (zu 63) rfl (ai aG)) (zq (aF rfl rfl) (zk (aB rfl (fun hc45 => ?_) (fun hc45 => ?_)))))))
  ·refine W.reg (zm rfl (zm rfl (WO.call0 rfl (aj rfl (aj rfl oz)) rfl (lL zy (ro (hs ++ G)) ie _ _ (ZV.ro (hG.1.appr)) (ZV.ro (hz.appl))) (SubR.ro (SubH.refl _)) rfl (fun v48 D48 hP48 => WO.subH (hs' := (hs ++ G ++ D48)) (SubH.op (aw (N := []) (G := D48) (K := []) (X := hs ++ G))) (za rfl (zk (zr (zm rfl (za rfl (zk (W.ret ?_)))))))))))
   refine End.ret (z1 rfl) (hs' := D48) hP48 hP48.2 (SubH.of_sublist (by simp))
  refine zw (zr (zm rfl (za rfl (zk (W.ret ?_)))))
  refine End.ret (z1 rfl) (hs' := G) hG hG.2 (SubH.of_sublist (by simp))
 refine zr (zm rfl (zq (aa rfl (zu 42) rfl (ai aG)) (zm rfl (aC (d := 18) rfl (fun hc18 => ?_) (fun hc18 => ?_)))))
 ·refine z2 (zq (aA rfl rfl) (zk (W.condT rfl (zr (za (zi 0) (zk (W.block (bI (fun (k : Nat) (z : AV) (G : af) => [(0, .str a), (1, .int .u8 ((c : Nat) : Int)), (2, .str s), (3, v), (9, z), (10, .int .i64 ((k : Nat) : Int))]) (fun (k : Nat) (z : AV) (G : af) => hs ++ G) (fun (k : Nat) (z : AV) (G : af) => ZQ s.length z G /\ k <= s.length) (fun (k : Nat) (z : AV) (G : af) => s.length - k) (0) (v15) (D15) ⟨hP15, by omega⟩ zv (SubH.refl _) (fun k z G hI0 ih0 => ?_)))))))))
  obtain ⟨hG, hk⟩ := hI0
  refine W.seq (zr (zm rfl (zm rfl (zq (Q.len cf rfl rfl) (zq (aa rfl rfl rfl (bu bY)) (zk (aB rfl (fun hc25 => ?_) (fun hc25 => ?_))))))))
  ·refine zw (W.seq (W.block (zr (zm rfl (zm rfl (zm rfl (zm rfl (WO.call0 rfl (aj rfl (aj rfl (aj rfl oz))) rfl (pz s hS hsl r d HE a ha ha0 hal had hin h92 (ro (hs ++ G)) ie z (ZV.ro (hG.1.appr))) (SubR.ro (SubH.refl _)) rfl (fun v32 D32 hP32 => WO.subH (hs' := (hs ++ G ++ D32)) (SubH.op (aw (N := []) (G := D32) (K := []) (X := hs ++ G))) (WO.call0 rfl (aj rfl (aj rfl oz)) rfl (lL zy (ro ((hs ++ G) ++ D32)) ie _ _ (ZV.ro ((hG.1.appr).appl)) (ZV.ro (hP32.1.appr))) (SubR.ro (SubH.refl _)) rfl (fun v33 D33 hP33 => WO.subH (hs' := (hs ++ G ++ D32 ++ D33)) (SubH.op (aw (N := []) (G := D33) (K := []) (X := hs ++ G ++ D32))) (za rfl (zk (W.seq (zr (zm rfl (zq (Q.len aP rfl (pU hP33.1)) (zm rfl (zq (Q.len aP rfl (pU hG.1)) (zq (aa rfl rfl rfl (ai aG)) (zk (W.sub (zc 38 rfl (zc 11 rfl (zc 0 rfl (zc 1 rfl (zc 2 rfl (zc 3 rfl (zc 9 rfl (zc 10 rfl aI)))))))) (aB rfl (fun hc38 => ?_) (fun hc38 => ?_))))))))))))))))))))))))
   ·refine W.exit (am (End.KB_miss rfl (am (aq (ap (End.K (W.sub zv (cz (SubH.of_sublist (by simp)) (hJ9 (z) (G) ?_)))))))))
    exact hG
   refine zw (W.reg (zm rfl (za rfl (WO.nil (End.KB (End.K (W.reg (zm rfl (zq (aa rfl (zi 1) rfl zp) (za rfl (WO.nil (End.KL (W.sub zv (cz (SubH.of_sublist (by simp)) (ih0 (k + 1) (v33) (D33) ?_ ?_)))))))))))))))
   ·exact ⟨hP33, by omega⟩
   exact zo
  refine W.exit (am (aq (ap (End.K (W.sub zv (cz (SubH.of_sublist (by simp)) (hJ9 (z) (G) ?_)))))))
  exact hG
 refine zT (zm rfl (zT (zq (aa rfl (zu 43) rfl (ai aG)) (zq (aF rfl rfl) (zk (aB rfl (fun hc21 => ?_) (fun hc21 => ?_)))))))
 ·refine zr (za (zi 0) (zk (W.block (bI (fun (k : Nat) (z : AV) (G : af) => [(0, .str a), (1, .int .u8 ((c : Nat) : Int)), (2, .str s), (3, v), (9, z), (10, .int .i64 ((k : Nat) : Int))]) (fun (k : Nat) (z : AV) (G : af) => hs ++ G) (fun (k : Nat) (z : AV) (G : af) => ZQ s.length z G /\ k <= s.length) (fun (k : Nat) (z : AV) (G : af) => s.length - k) (0) (v15) (D15) ⟨hP15, by omega⟩ zv (SubH.refl _) (fun k z G hI0 ih0 => ?_)))))
  obtain ⟨hG, hk⟩ := hI0
  refine W.seq (zr (zm rfl (zm rfl (zq (Q.len cf rfl rfl) (zq (aa rfl rfl rfl (bu bY)) (zk (aB rfl (fun hc25 => ?_) (fun hc25 => ?_))))))))
  ·refine zw (W.seq (W.block (zr (zm rfl (zm rfl (zm rfl (zm rfl (WO.call0 rfl (aj rfl (aj rfl (aj rfl oz))) rfl (pz s hS hsl r d HE a ha ha0 hal had hin h92 (ro (hs ++ G)) ie z (ZV.ro (hG.1.appr))) (SubR.ro (SubH.refl _)) rfl (fun v32 D32 hP32 => WO.subH (hs' := (hs ++ G ++ D32)) (SubH.op (aw (N := []) (G := D32) (K := []) (X := hs ++ G))) (WO.call0 rfl (aj rfl (aj rfl oz)) rfl (lL zy (ro ((hs ++ G) ++ D32)) ie _ _ (ZV.ro ((hG.1.appr).appl)) (ZV.ro (hP32.1.appr))) (SubR.ro (SubH.refl _)) rfl (fun v33 D33 hP33 => WO.subH (hs' := (hs ++ G ++ D32 ++ D33)) (SubH.op (aw (N := []) (G := D33) (K := []) (X := hs ++ G ++ D32))) (za rfl (zk (W.seq (zr (zm rfl (zq (Q.len aP rfl (pU hP33.1)) (zm rfl (zq (Q.len aP rfl (pU hG.1)) (zq (aa rfl rfl rfl (ai aG)) (zk (W.sub (zc 38 rfl (zc 11 rfl (zc 0 rfl (zc 1 rfl (zc 2 rfl (zc 3 rfl (zc 9 rfl (zc 10 rfl aI)))))))) (aB rfl (fun hc38 => ?_) (fun hc38 => ?_))))))))))))))))))))))))
   ·refine W.exit (am (End.KB_miss rfl (am (aq (ap (End.K (W.sub zv (cz (SubH.of_sublist (by simp)) (hJ9 (z) (G) ?_)))))))))
    exact hG
   refine zw (W.reg (zm rfl (za rfl (WO.nil (End.KB (End.K (W.reg (zm rfl (zq (aa rfl (zi 1) rfl zp) (za rfl (WO.nil (End.KL (W.sub zv (cz (SubH.of_sublist (by simp)) (ih0 (k + 1) (v33) (D33) ?_ ?_)))))))))))))))
   ·exact ⟨hP33, by omega⟩
   exact zo
  refine W.exit (am (aq (ap (End.K (W.sub zv (cz (SubH.of_sublist (by simp)) (hJ9 (z) (G) ?_)))))))
  exact hG
 refine W.skip (End.K (W.sub zv (cz (SubH.of_sublist (by simp)) (hJ9 (v15) (D15) ?_))))
 exact hP15
end Go.Proofs.YtfkbfnpjggkdmaaGreatDoor.Ev.P7
