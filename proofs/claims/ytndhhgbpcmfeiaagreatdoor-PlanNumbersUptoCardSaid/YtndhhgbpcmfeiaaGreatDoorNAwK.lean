/- Chapter 16, by the document: expressions. -/
import Derived.Test.YtndhhgbpcmfeiaaGreatDoorNVr
import Derived.Test.YtndhhgbpcmfeiaaGreatDoorNGg
import Derived.Test.YtndhhgbpcmfeiaaGreatDoorNInC
import Derived.Test.YtndhhgbpcmfeiaaGreatDoorNAwJ
namespace Go.Proofs.YtndhhgbpcmfeiaaGreatDoor.Ev.P16
open Go.RowKit
set_option maxRecDepth 100000
set_option maxHeartbeats 1000000
theorem WD.subH {tb : Tab} {n m i : Nat} {ops rest : List Oper} {keep : af} {E : Env} {s : St} {hs hs' : af} {R : T AV -> AHeap -> Prop} (h : SubH hs' hs) (g : WD tb n ops keep m i rest E s hs' R) : WD tb n ops keep m i rest E s hs R :=
 fun tm hp ht hh hk => g tm hp ht (hh.sub h) hk
theorem WD.call0 {tb : Tab} {n m i : Nat} {ops rest : List Oper} {keep : af} {E : Env} {s : St} {hs : af} {R : T AV -> AHeap -> Prop} {d : Nat} {ty : TypeId} {pos : String} {aft : Array Edge} {of : Operand} {args : List Operand} {ts : Array TypeId} {g : Nat} {caps l l' : List AV} {hsc : af} {Post : AV -> af -> Prop}
  (hf : oL s of = some (.func g caps)) (ha : mY s args = some l) (hl : l ++ caps = l') (hsp : Spec tb g l' [] hsc Post) (hsub : SubR hsc hs) (hkp : KIn keep hs) (hd : Nat.blt d n = true) (hk : ∀ v D, Post v D -> WD tb n ops keep m (i + 1) rest E ((d, v) :: s) (D ++ hs) R) :
  WD tb n ops keep m i (⟨some d, .call ⟨.value of, args.toArray, ts⟩, ty, pos, aft, none⟩ :: rest) E s hs R :=
 WD.l (C := fun v hq => ∃ D, Post v D /\ hq = D ++ hs) (fun tm h r e => by cases e) (fun R hR => WO.call0 hf ha hl hsp hsub hd fun v D h => WO.nil (hR _ _ ⟨D, h, rfl⟩))
  (fun v hq ⟨D, _, h2⟩ _ => by subst h2; exact fun e he => let ⟨w, hm⟩ := hkp e he; ⟨w, List.mem_append_right _ hm⟩) (fun v hq ⟨D, h1, h2⟩ => by subst h2; exact hk v D h1)
theorem ig {N G K X O : af} (h : O.Perm (X ++ G)) : ((N ++ K) ++ O).Perm ((N ++ G) ++ (K ++ X)) := (List.Perm.append_left _ h).trans aS
structure NodT where
 k : Int
 op : List Nat
 n : Int
 ms : AV
 rg : Int
 off : Int
 md : Int
 nm : AV
 sd : Int
 bl : Bool
 kd : AV
abbrev nC (x : NodT) : List AV := b7 x.k x.op x.n x.ms x.rg x.off x.md x.nm x.sd x.bl x.kd
def MsOK (hs : af) (v : AV) : Prop := ∃ M : List Az, ISm hs M v /\ Ef M /\ M.length <= 1048576
def NmOK (hs : af) (v : AV) : Prop := ∃ N : List (List Nat), ((v = .nils /\ N = []) \/ ∃ b ex, v = .slice b 0 N.length 1 /\ MemH hs b ⟨1, ex, N.map AV.str⟩) /\ (∀ x ∈ N, Bytes x) /\ N.length <= 2097152
theorem MsOK.cell {hs : af} {v : AV} (h : MsOK hs v) : v.isCell = true := by
 obtain ⟨M, ⟨rfl, _⟩ | ⟨b, ex, rfl, _⟩, _⟩ := h <;> rfl
theorem NmOK.cell {hs : af} {v : AV} (h : NmOK hs v) : v.isCell = true := by
 obtain ⟨M, ⟨rfl, _⟩ | ⟨b, ex, rfl, _⟩, _⟩ := h <;> rfl
theorem MsOK.mono {hs hs' : af} {v : AV} (hm : ∀ b o, MemH hs b o -> MemH hs' b o) (h : MsOK hs v) : MsOK hs' v := let ⟨M, h1, h2⟩ := h; ⟨M, h1.imp id fun ⟨b, ex, e1, e2⟩ => ⟨b, ex, e1, hm _ _ e2⟩, h2⟩
theorem NmOK.mono {hs hs' : af} {v : AV} (hm : ∀ b o, MemH hs b o -> MemH hs' b o) (h : NmOK hs v) : NmOK hs' v := let ⟨M, h1, h2⟩ := h; ⟨M, h1.imp id fun ⟨b, ex, e1, e2⟩ => ⟨b, ex, e1, hm _ _ e2⟩, h2⟩
theorem Cp {hs : af} : MsOK hs .nils := ⟨[], .inl ⟨rfl, rfl⟩, fun x hx => by simp at hx, by simp⟩
theorem DA {hs : af} : NmOK hs .nils := ⟨[], .inl ⟨rfl, rfl⟩, fun x hx => by simp at hx, by simp⟩
theorem MsR.ok {hM : af} {v : AV} (h : MsR hM v) : MsOK hM v := let ⟨M, h1, h2⟩ := h; ⟨M, zV h1, h2⟩
theorem NmR.ok {hN : af} {v : AV} (h : NmR hN v) : NmOK hN v := by
 obtain ⟨N, h1, h2⟩ := h
 refine ⟨N, ?_, h2⟩
 rcases h1 with ⟨h1, _, rfl, _⟩ | ⟨b, ex, rfl, rfl, _⟩
 ·exact .inl ⟨rfl, List.length_eq_zero_iff.1 h1⟩
 ·exact .inr ⟨b, ex, rfl, true, List.mem_cons_self⟩
def ur (f : Nat -> Nat) : Nat -> Nat
 | 0 => 0
 | n + 1 => ur f n + f n
def RRep (hs : af) : Nat -> List AV -> Nat -> Prop
 | 0, _, _ => False
 | d + 1, c, m => 0 < m /\ ∃ k op n ms rg off md nm sd bl kd, c = b7 k op n ms rg off md nm sd bl kd /\ Bytes op /\ (op.length <= 1048576 /\ 0 <= k /\ k <= 6) /\ MsOK hs ms /\ NmOK hs nm /\
   (kd = .nils \/ ∃ b len ob, kd = .slice b 0 len 11 /\ MemH hs b ob /\ len <= 1048576 /\ ob.cells.length = len * 11 /\ ∃ f : Nat -> Nat, ur f len + 1 <= m /\ ∀ i, i < len -> ∃ c', ch ob.cells ((0 + i) * 11) 11 = some c' /\ RRep hs d c' (f i))
theorem RRep.mono {hs hs' : af} (hm : ∀ b o, MemH hs b o -> MemH hs' b o) : ∀ {d : Nat} {c : List AV} {m : Nat}, RRep hs d c m -> RRep hs' d c m
 | 0, _, _, h => h
 | d + 1, c, m, ⟨h0, k, op, n, ms, rg, off, md, nm, sd, bl, kd, h1, h2, h3, h5, h6, h4⟩ => ⟨h0, k, op, n, ms, rg, off, md, nm, sd, bl, kd, h1, h2, h3, h5.mono hm, h6.mono hm, h4.imp id fun ⟨b, len, ob, g1, g2, g3, g5, f, g6, g4⟩ =>
   ⟨b, len, ob, g1, hm _ _ g2, g3, g5, f, g6, fun i hi => let ⟨c', e1, e2⟩ := g4 i hi; ⟨c', e1, RRep.mono hm e2⟩⟩⟩
theorem RRep.succ {hs : af} : ∀ {d : Nat} {c : List AV} {m : Nat}, RRep hs d c m -> RRep hs (d + 1) c m
 | 0, _, _, h => h.elim
 | d + 1, c, m, ⟨h0, k, op, n, ms, rg, off, md, nm, sd, bl, kd, h1, h2, h3, h5, h6, h4⟩ => ⟨h0, k, op, n, ms, rg, off, md, nm, sd, bl, kd, h1, h2, h3, h5, h6, h4.imp id fun ⟨b, len, ob, g1, g2, g3, g5, f, g6, g4⟩ =>
   ⟨b, len, ob, g1, g2, g3, g5, f, g6, fun i hi => let ⟨c', e1, e2⟩ := g4 i hi; ⟨c', e1, RRep.succ e2⟩⟩⟩
theorem RRep.le {hs : af} {d : Nat} {c : List AV} {m : Nat} (h : RRep hs d c m) : ∀ {d' : Nat}, d <= d' -> RRep hs d' c m := by
 intro d' hd
 induction hd with
 | refl => exact h
 | step _ ih => exact ih.succ
theorem RRep.nrep {hs : af} : ∀ {d : Nat} {c : List AV} {m : Nat}, RRep hs d c m -> NRep hs d c
 | 0, _, _, h => h
 | d + 1, c, m, ⟨_, k, op, n, ms, rg, off, md, nm, sd, bl, kd, h1, h2, h3, h5, h6, h4⟩ => ⟨k, op, n, ms, rg, off, md, nm, sd, bl, kd, h1, h2, Nat.le_trans h3.1 (by decide), h5.cell, h6.cell, h4.imp id fun ⟨b, len, ob, g1, g2, g3, g5, f, g6, g4⟩ =>
   ⟨b, len, ob, g1, g2, g3, fun i hi => let ⟨c', e1, e2⟩ := g4 i hi; ⟨c', e1, e2.nrep⟩⟩⟩
structure NOk (hs : af) (x : NodT) (m : Nat) : Prop where
 nr : ∃ d, RRep hs d (nC x) m
 op : Bytes x.op
 ms : x.ms.isCell = true
 nm : x.nm.isCell = true
 kd : x.kd.isCell = true
def KVn (hs : af) (len : Nat) (v : AV) (m : Nat) : Prop := (v = .nils /\ len = 0) \/ ∃ b ob, v = .slice b 0 len 11 /\ MemH hs b ob /\ len <= 1048576 /\ ob.cells.length = len * 11 /\ ∃ (d : Nat) (f : Nat -> Nat), ur f len <= m /\ ∀ i, i < len -> ∃ c', ch ob.cells ((0 + i) * 11) 11 = some c' /\ RRep hs d c' (f i)
theorem KVn.nil {hs : af} : KVn hs 0 .nils 0 := .inl ⟨rfl, rfl⟩
theorem KVn.cell {hs : af} {len m : Nat} {v : AV} (h : KVn hs len v m) : v.isCell = true := by
 rcases h with ⟨rfl, _⟩ | ⟨b, ob, rfl, _⟩ <;> rfl
theorem NOk.of {hs : af} {len mz : Nat} {k : Int} {op : List Nat} {n : Int} {ms : AV} {rg off md : Int} {nm : AV} {sd : Int} {bl : Bool} {kd : AV} (h : KVn hs len kd mz) (ho : Bytes op) (hl : op.length <= 1048576) (hms : MsOK hs ms) (hnm : NmOK hs nm) (hkk : 0 <= k /\ k <= 6 := by first | decide | omega) :
  NOk hs ⟨k, op, n, ms, rg, off, md, nm, sd, bl, kd⟩ (mz + 1) := by
 refine ⟨?_, ho, hms.cell, hnm.cell, h.cell⟩
 rcases h with ⟨rfl, rfl⟩ | ⟨b, ob, rfl, hm, hle, hcl, d, f, hf, hd⟩
 ·exact ⟨1, Nat.succ_pos _, k, op, n, ms, rg, off, md, nm, sd, bl, .nils, rfl, ho, ⟨hl, hkk⟩, hms, hnm, .inl rfl⟩
 ·exact ⟨d + 1, Nat.succ_pos _, k, op, n, ms, rg, off, md, nm, sd, bl, _, rfl, ho, ⟨hl, hkk⟩, hms, hnm, .inr ⟨b, len, ob, rfl, hm, hle, hcl, f, Nat.succ_le_succ hf, hd⟩⟩
theorem d9 : Bytes [] := by intro c h; simp at h
theorem NOk.zero {hs : af} : NOk hs ⟨0, [], 0, .nils, 0, 0, 0, .nils, 0, false, .nils⟩ 1 := NOk.of KVn.nil d9 (Nat.zero_le _) Cp DA
theorem MemH.up {hs hs' : af} (h : ∀ e ∈ hs, e ∈ hs') : ∀ b o, MemH hs b o -> MemH hs' b o := fun b o ⟨w, hm⟩ => ⟨w, h _ hm⟩
theorem MemH.hd {hs : af} {b : Nat} {o : AObj} {w : Bool} : MemH (⟨b, o, w⟩ :: hs) b o := ⟨w, List.mem_cons_self⟩
theorem NOk.up {hs hs' : af} {x : NodT} {m : Nat} (h : NOk hs x m) (g : ∀ e ∈ hs, e ∈ hs') : NOk hs' x m := ⟨let ⟨d, hd⟩ := h.nr; ⟨d, hd.mono (MemH.up g)⟩, h.op, h.ms, h.nm, h.kd⟩
theorem NOk.tl {hs : af} {x : NodT} {m : Nat} {e : HE} (h : NOk hs x m) : NOk (e :: hs) x m := h.up fun _ h => List.mem_cons_of_mem _ h
theorem wG {x : NodT} : ch (nC x) ((0 + 0) * 11) 11 = some (nC x) := rfl
theorem KVn.up {hs hs' : af} {len m : Nat} {v : AV} (h : KVn hs len v m) (g : ∀ e ∈ hs, e ∈ hs') : KVn hs' len v m := h.imp id fun ⟨b, ob, h1, h2, h3, h4, d, f, h6, h5⟩ => ⟨b, ob, h1, MemH.up g _ _ h2, h3, h4, d, f, h6, fun i hi => let ⟨c', e1, e2⟩ := h5 i hi; ⟨c', e1, e2.mono (MemH.up g)⟩⟩
theorem MsOK.up {hs hs' : af} {v : AV} (h : MsOK hs v) (g : ∀ e ∈ hs, e ∈ hs') : MsOK hs' v := h.mono (MemH.up g)
theorem NmOK.up {hs hs' : af} {v : AV} (h : NmOK hs v) (g : ∀ e ∈ hs, e ∈ hs') : NmOK hs' v := h.mono (MemH.up g)
theorem KVn.one {hs : af} {b m : Nat} {ex : Bool} {x : NodT} (h : NOk hs x m) (hm : MemH hs b ⟨11, ex, nC x⟩) : KVn hs 1 (.slice b 0 1 11) m := by
 obtain ⟨d, hd⟩ := h.nr
 refine .inr ⟨b, _, rfl, hm, by decide, rfl, d, fun _ => m, by simp [ur], fun i hi => ?_⟩
 have : i = 0 := by omega
 subst this
 exact ⟨_, wG, hd⟩
theorem KVn.two {hs : af} {b m k : Nat} {ex : Bool} {x y : NodT} (h : NOk hs x m) (g : NOk hs y k) (hm : MemH hs b ⟨11, ex, nC x ++ nC y⟩) : KVn hs 2 (.slice b 0 2 11) (m + k) := by
 obtain ⟨d, hd⟩ := h.nr
 obtain ⟨d', hd'⟩ := g.nr
 refine .inr ⟨b, _, rfl, hm, by decide, rfl, max d d', fun i => if i = 0 then m else k, by simp [ur], fun i hi => ?_⟩
 rcases Nat.lt_or_ge i 1 with h1 | h1
 ·have : i = 0 := by omega
  subst this
  exact ⟨nC x, rfl, hd.le (Nat.le_max_left _ _)⟩
 ·have : i = 1 := by omega
  subst this
  exact ⟨nC y, rfl, hd'.le (Nat.le_max_right _ _)⟩
def KN (hs : af) (cs : List AV) (len m : Nat) : Prop := ∃ (d : Nat) (f : Nat -> Nat), ur f len <= m /\ ∀ i, i < len -> ∃ c', ch cs ((0 + i) * 11) 11 = some c' /\ RRep hs d c' (f i)
theorem KN.nil {hs : af} : KN hs [] 0 0 := ⟨0, fun _ => 0, Nat.le_refl _, fun i h => absurd h (Nat.not_lt_zero _)⟩
theorem ww {hq : af} {b : Nat} {o : AObj} (h : ∀ y ∈ hq, y.w = true) : ∀ y ∈ (⟨b, o, true⟩ : HE) :: hq, y.w = true := by
 intro y hy
 rcases List.mem_cons.1 hy with rfl | hy
 ·rfl
 ·exact h y hy
theorem iF : ∀ y ∈ ([] : af), y.w = true := by intro y hy; simp at hy
theorem pJ {a b : af} (h : ∀ y ∈ a, y.w = true) (g : ∀ y ∈ b, y.w = true) : ∀ y ∈ a ++ b, y.w = true := fun y hy => (List.mem_append.1 hy).elim (h y) (g y)
theorem y4 {a c : af} (h : ∀ x, a.count x <= c.count x := by intro x; simp only [pB, nC, b7, List.append_eq, List.cons_append, List.nil_append, List.count_append, List.count_cons, List.count_nil]; omega) : SubH a c := dj h
theorem ckA {k : Int} {op : List Nat} {n : Int} {ms : AV} {rg off md : Int} {nm : AV} {sd : Int} {bl : Bool} {kd : AV} (hms : ms.isCell = true := by first | rfl | assumption | exact (NOk.ms (by assumption)) | exact (NOk.nm (by assumption)) | exact (NOk.kd (by assumption)) | exact (KVn.cell (by assumption))) (hnm : nm.isCell = true := by first | rfl | assumption | exact (NOk.ms (by assumption)) | exact (NOk.nm (by assumption)) | exact (NOk.kd (by assumption)) | exact (KVn.cell (by assumption)))
  (hkd : kd.isCell = true := by first | rfl | assumption | exact (NOk.ms (by assumption)) | exact (NOk.nm (by assumption)) | exact (NOk.kd (by assumption)) | exact (KVn.cell (by assumption))) : (b7 k op n ms rg off md nm sd bl kd).all AV.isCell = true := dZ hms hnm hkd
def mz (n a : Nat) (e : Int) : Nat := if e = 0 then n + 1 - a else 0
theorem pp {a b : List AV} (h : a.all AV.isCell = true) (g : b.all AV.isCell = true) : (a ++ b).all AV.isCell = true := by rw [List.all_append, h, g]; rfl
end Go.Proofs.YtndhhgbpcmfeiaaGreatDoor.Ev.P16
/- The parser's trees are trees. -/
namespace Go.Proofs.YtndhhgbpcmfeiaaGreatDoor.Ev
open Go.RowKit
mutual
def jx : TD -> Nat
 | .node d ks => iu ks + 1
def iu : List TD -> Nat
 | [] => 0
 | k :: ks => jx k + iu ks
end
theorem tB : ∀ {a b : List TD}, iu (a ++ b) = iu a + iu b
 | [], b => by rw [List.nil_append, iu, Nat.zero_add]
 | k :: a, b => by rw [List.cons_append, iu, iu, tB, Nat.add_assoc]
def qU (d : ND) : Prop := d.op.length <= 1048576 /\ Ct d.kd
mutual
def yG : TD -> Prop
 | .node d ks => qU d /\ mZ ks
def mZ : List TD -> Prop
 | [] => True
 | k :: ks => yG k /\ mZ ks
end
theorem wo {k n rg off md sd : Int} {op : List Nat} {M : List Mt} {N : List (List Nat)} {bl : Bool} (h : op.length <= 1048576 /\ 0 <= k /\ k <= 6) : qU ⟨k, op, n, M, rg, off, md, N, sd, bl⟩ := ⟨h.1, by unfold Ct; show _ <= k /\ k <= _; omega⟩
section
variable {hs : af} {v : AV}
end
set_option maxRecDepth 100000
set_option maxHeartbeats 1000000
theorem DO : ∀ l : List AV, l.length = 12 -> bK aA 42 l = ⟨12, true, l⟩ := by intro l h; exact fp (by kernel_rfl) h
mutual
def aI : TD -> List (ND × List Int) -> List (ND × List Int)
 | .node d ks, L => (bh ks L []).1 ++ [(d, (bh ks L []).2)]
def bh : List TD -> List (ND × List Int) -> List Int -> List (ND × List Int) × List Int
 | [], L, A => (L, A)
 | k :: ks, L, A => bh ks (aI k L) (A ++ [(((aI k L).length - 1 : Nat) : Int)])
end
theorem kp : ∀ {ks : List TD} {k : TD} {L : List (ND × List Int)} {A : List Int}, bh (ks ++ [k]) L A = (aI k (bh ks L A).1, (bh ks L A).2 ++ [(((aI k (bh ks L A).1).length - 1 : Nat) : Int)])
 | [], k, L, A => by rw [List.nil_append, bh, bh, bh]
 | x :: ks, k, L, A => by rw [List.cons_append, bh, kp, bh]
mutual
theorem ew : ∀ {t : TD} {L : List (ND × List Int)}, (aI t L).length = L.length + jx t
 | .node d ks, L => by
  rw [aI, jx, List.length_append, jR ks L [], List.length_cons, List.length_nil, Nat.add_assoc]
theorem jR : ∀ (ks : List TD) (L : List (ND × List Int)) (A : List Int), (bh ks L A).1.length = L.length + iu ks
 | [], L, A => by rw [bh, iu, Nat.add_zero]
 | k :: ks, L, A => by
  rw [bh, jR ks, ew, iu, Nat.add_assoc]
end
theorem nN : ∀ {ks : List TD} {L : List (ND × List Int)} {A : List Int}, (bh ks L A).2.length = A.length + ks.length
 | [], L, A => by rw [bh]; rfl
 | k :: ks, L, A => by
  rw [bh, nN, List.length_append, List.length_cons, List.length_cons, List.length_nil]; omega
theorem jY : ∀ {t : TD}, 0 < jx t
 | .node d ks => by rw [jx]; exact Nat.succ_pos _
theorem mR : ∀ {ks : List TD} {i : Nat}, iu (ks.take i) <= iu ks
 | [], i => by simp
 | k :: ks, 0 => by rw [List.take_zero, iu]; exact Nat.zero_le _
 | k :: ks, i + 1 => by
  rw [List.take_succ_cons, iu, iu]
  have := mR (ks := ks) (i := i)
  omega
noncomputable section
def ut (l : List Oper) (k : Nat) : Bool :=
 l.zipIdx.all fun (o, i) => !(bV o.op) || Nat.beq i k || (if Nat.blt i k then ((am l []).getD k 0).testBit i else ((am l []).getD i 0).testBit k)
theorem Ai {l : List Oper} {k i : Nat} {o : Oper} (h : ut l k = true) (ho : l[i]? = some o) (hl : bV o.op = true) (hik : i < k) : ((am l []).getD k 0).testBit i = true := by
 have := List.all_eq_true.1 h (o, i) (by rw [List.mem_zipIdx_iff_getElem?]; simpa using ho)
 have hb : Nat.blt i k = true := by rw [Nat.blt_eq]; exact hik
 have hn : Nat.beq i k = false := by
  cases hx : Nat.beq i k with
  | false => rfl
  | true => have := Nat.eq_of_beq_eq_true hx; omega
 simpa [hl, hb, hn] using this
theorem Ah {l : List Oper} {k i : Nat} {o : Oper} (h : ut l k = true) (ho : l[i]? = some o) (hl : bV o.op = true) (hik : k < i) : ((am l []).getD i 0).testBit k = true := by
 have := List.all_eq_true.1 h (o, i) (by rw [List.mem_zipIdx_iff_getElem?]; simpa using ho)
 have hb : Nat.blt i k = false := by
  cases hx : Nat.blt i k with
  | false => rfl
  | true => rw [Nat.blt_eq] at hx; omega
 have hn : Nat.beq i k = false := by
  cases hx : Nat.beq i k with
  | false => rfl
  | true => have := Nat.eq_of_beq_eq_true hx; omega
 simpa [hl, hb, hn] using this
def yk (l : List Oper) : Bool :=
 gS l && (l.zipIdx.all fun (o, j) => !(bV o.op) || l.zipIdx.all fun (x, i) => !(bV x.op) || !(Nat.blt i j) || ((am l []).getD j 0).testBit i)
def sp (tb : Tab) (l : List Oper) (es : List Ent) : Prop := ∀ e ∈ es, e.kind = 1 -> e.v.beq e.v = true /\ (ut l e.i = false -> ∀ H, lX tb e.tm H e.o.op = some e.v)
theorem vw {tb : Tab} {callq : gq} {n : Nat} {l : List Oper} {tm tm' : T AV} {h h' : AHeap} {es : List Ent} {ms : List (Nat × AHeap)} (hst : yk l = true)
  (ht : aV tb (ay callq) n l 0 l tm h = some (es, ms, tm', h')) (hG : sp tb l es) : dG tb (ay callq) n l tm h = some (tm', h') := by
 unfold yk at hst
 simp only [Bool.and_eq_true] at hst
 obtain ⟨h1, h2⟩ := hst
 unfold dG
 simp only [h1]
 cases hF : eO l with
 | true => exact ie ht
 | false =>
  simp only [ht, qz h2]
  cases hms : ms with
  | nil => rfl
  | cons p0 ms0 =>
   rw [<- hms]
   have hall : (es.all (iA tb (am l []) (es.filterMap fun e => if e.kind = 2 then some e.i else none) ((0, h) :: ms))) = true := by
    obtain ⟨S, Hp, V, K, Rc⟩ := gH ht
    obtain ⟨hinc, hmk⟩ := kE ht
    have hS0 := Rc.s0
    have hH0 := Rc.h0
    have rec_ : ∀ e ∈ es, ∃ k o, l[k]? = some o /\ e = ⟨k, o, S k, V k, K k⟩ /\ gJ tb (ay callq) l (S k) (Hp k) o = some (V k, Hp (k + 1), K k) := by
     intro e he
     obtain ⟨k, o, a1, a2⟩ := Rc.of e he
     have a3 := (Rc.step k o a1).1
     simp only [Nat.zero_add] at a2 a3
     exact ⟨k, o, a1, a2, a3⟩
    have hsame : ∀ d p, p + d <= l.length -> (∀ i, p <= i -> i < p + d -> K i ≠ 2) -> Hp (p + d) = Hp p := by
     intro d
     induction d with
     | zero => intro p _ _; rfl
     | succ d ih =>
      intro p hp hn
      have hlt : p + d < l.length := by omega
      have s1 := (Rc.step (p + d) _ (List.getElem?_eq_getElem hlt)).1
      simp only [Nat.zero_add] at s1
      have h2 : Hp (p + d + 1) = Hp (p + d) := by
       rcases bO s1 with h | h | h
       ·exact h.2.2.2
       ·exact h.2.2.2
       ·exact absurd h.1 (hn (p + d) zy zy)
      rw [show p + (d + 1) = p + d + 1 by omega, h2]
      exact ih p zy (fun i h1 h2 => hn i h1 zy)
    have hlouds : ∀ k, k < l.length -> K k = 2 -> k ∈ es.filterMap fun e => if e.kind = 2 then some e.i else none := by
     intro k hk h2
     have := Rc.mem k _ (List.getElem?_eq_getElem hk)
     simp only [Nat.zero_add] at this
     exact List.mem_filterMap.2 ⟨_, this, by simp [h2]⟩
    have hloud_of : ∀ i, i ∈ (es.filterMap fun e => if e.kind = 2 then some e.i else none) -> i < l.length /\ K i = 2 /\ ∃ o, l[i]? = some o /\ bV o.op = true := by
     intro i hi
     obtain ⟨e, he, hi⟩ := List.mem_filterMap.1 hi
     obtain ⟨k, o, a1, rfl, a3⟩ := rec_ e he
     simp only at hi
     by_cases hk2 : K k = 2
     ·rw [if_pos hk2] at hi
      simp only [Option.some.injEq] at hi
      subst hi
      refine ⟨(List.getElem?_eq_some_iff.1 a1).1, hk2, o, a1, ?_⟩
      rcases bO a3 with h | h | h
      ·omega
      ·omega
      ·exact fZ h.2.2
     ·rw [if_neg hk2] at hi; cases hi
    rw [List.all_eq_true]
    intro e he
    obtain ⟨k, o, a1, rfl, a3⟩ := rec_ e he
    have hkl := (List.getElem?_eq_some_iff.1 a1).1
    unfold iA
    rcases bO a3 with g | g | g
    ·simp only [g.1]
    ·-- quiet
     have hgood := hG _ he g.1
     simp only [g.1]
     rw [List.all_eq_true]
     rintro ⟨q, H⟩ hq
     simp only [Bool.or_eq_true, Bool.not_eq_true']
     rcases Bool.eq_false_or_eq_true (List.all (es.filterMap fun e : Ent => if e.kind = 2 then some e.i else none) fun i => (!(((am l []).getD k 0).testBit i) || Nat.blt i q) && (!(((am l []).getD i 0).testBit k) || Nat.ble q i)) with hc | hc
     ·right
      have hc' : ∀ i, i < l.length -> K i = 2 -> (((am l []).getD k 0).testBit i = true -> i < q) /\ (((am l []).getD i 0).testBit k = true -> q <= i) := by
       intro i hi h2
       have := List.all_eq_true.1 hc i (hlouds i hi h2)
       simp only [Bool.and_eq_true, Bool.or_eq_true, Bool.not_eq_true', Nat.blt_eq] at this
       refine ⟨fun hb => ?_, fun hb => ?_⟩
       ·rcases this.1 with h | h
        ·rw [hb] at h; cases h
        ·exact h
       ·rcases this.2 with h | h
        ·rw [hb] at h; cases h
        ·exact Nat.ble_eq.mp h
      have hval : lX tb (S k) H o.op = some (V k) := by
       have hmark : (q = 0 /\ H = Hp 0) \/ ∃ i, i < l.length /\ K i = 2 /\ q = i + 1 /\ H = Hp (i + 1) := by
        rcases List.mem_cons.1 hq with hq | hq
        ·simp only [Prod.mk.injEq] at hq
         exact .inl ⟨hq.1, by rw [hq.2, hH0]⟩
        ·obtain ⟨_, e2, b1, b2, b3⟩ := hmk _ hq
         obtain ⟨i, o2, c1, rfl, c3⟩ := rec_ e2 b1
         have hil := (List.getElem?_eq_some_iff.1 c1).1
         have hm2 := Rc.mark i hil (by simpa using b2)
         simp only [Nat.zero_add] at hm2
         have := mc hinc hq hm2 (by simpa using b3)
         simp only [Prod.mk.injEq] at this
         exact .inr ⟨i, hil, by simpa using b2, this.1, this.2⟩
       cases hsu : ut l k with
       | false => exact hgood.2 hsu H
       | true =>
        have lo : ∀ i, i < l.length -> K i = 2 -> i < k -> ((am l []).getD k 0).testBit i = true := by
         intro i hil hi2 hik
         exact Ai hsu (List.getElem?_eq_getElem hil) (by
          have := (Rc.step i _ (List.getElem?_eq_getElem hil)).1
          simp only [Nat.zero_add] at this
          rcases bO this with h | h | h
          ·omega
          ·omega
          ·exact fZ h.2.2) hik
        have hi_ : ∀ i, i < l.length -> K i = 2 -> k < i -> ((am l []).getD i 0).testBit k = true := by
         intro i hil hi2 hik
         exact Ah hsu (List.getElem?_eq_getElem hil) (by
          have := (Rc.step i _ (List.getElem?_eq_getElem hil)).1
          simp only [Nat.zero_add] at this
          rcases bO this with h | h | h
          ·omega
          ·omega
          ·exact fZ h.2.2) hik
        have hHk : H = Hp k := by
         rcases hmark with ⟨rfl, rfl⟩ | ⟨i, hil, hi2, rfl, rfl⟩
         ·have := hsame k 0 zy (fun i h1 h2 h3 => by
           have := (hc' i zy h3).1 (lo i zy h3 zy)
           omega)
          rw [Nat.zero_add] at this
          exact this.symm
         ·have hik : i < k := by
           rcases Nat.lt_trichotomy i k with h | h | h
           ·exact h
           ·subst h; omega
           ·have := (hc' i hil hi2).2 (hi_ i hil hi2 h)
            omega
          have := hsame (k - (i + 1)) (i + 1) zy (fun i' h1 h2 h3 => by
           have := (hc' i' zy h3).1 (lo i' zy h3 zy)
           omega)
          rw [show i + 1 + (k - (i + 1)) = k by omega] at this
          exact this.symm
        rw [hHk]
        unfold lX
        rw [lW (SubT.refl _) g.2.2.1]
      simp only [hval]
      exact hgood.1
     ·left; exact hc
    ·-- loud
     simp only [g.1]
     rw [List.all_eq_true]
     intro i hi
     obtain ⟨hil, hi2, x, hx, hxl⟩ := hloud_of i hi
     have hol : bV o.op = true := fZ g.2.2
     have hmj : (o, k) ∈ l.zipIdx := by rw [List.mem_zipIdx_iff_getElem?]; simpa using a1
     have hmi : (x, i) ∈ l.zipIdx := by rw [List.mem_zipIdx_iff_getElem?]; simpa using hx
     have := List.all_eq_true.1 h2 _ hmj
     simp only [hol, Bool.not_true, Bool.false_or] at this
     have := List.all_eq_true.1 this _ hmi
     simp only [hxl, Bool.not_true, Bool.false_or] at this
     exact this
   rw [hall]
   cases ms with
   | nil => cases hms
   | cons a b => rfl

section
variable {tb : Tab} {n : Nat} {E : Env} {s : St} {hs : af} {R : T AV -> AHeap -> Prop} {ops rest : List Oper} {d : Nat} {ty : TypeId} {pos : String} {aft : Array Edge} {t : TypeId} {i : Nat}
def WX (tb : Tab) (n : Nat) (ops : List Oper) (i : Nat) (rest : List Oper) (E : Env) (s : St) (hs : af) (R : T AV -> AHeap -> Prop) : Prop :=
 ∀ tm h, Has tm s -> HS E hs h -> ∃ es ms tm' h', aV tb (ay (Ev.callE tb)) n ops i rest tm h = some (es, ms, tm', h') /\ sp tb ops es /\ ∀ TM, SubT tm' TM -> R TM h'
theorem A9 {Q} {id : Nat} {l : List Oper} (hst : yk l = true) (h : WX tb n l 0 l E s hs (Q .normal)) : W tb n (.region id l.toArray true) E s hs Q := by
 intro tm hp ht hh
 obtain ⟨es, ms, tm1, h1, he, hG, hR⟩ := h tm hp ht hh
 have hd := vw hst he hG
 obtain ⟨TM, g1, g2⟩ := kL (lK tb) (SubT.refl tm) hd
 refine ⟨.normal, TM, h1, g2.step fun K hK => ?_, hR TM g1⟩
 rw [cg]
 unfold cX
 simp only [hK]
theorem WX.nil (h : End E s hs R) : WX tb n ops i [] E s hs R :=
 fun tm hp ht hh => ⟨[], [], tm, hp, rfl, fun e he => by simp at he, fun TM hT => h TM hp (ht.mono hT) hh⟩
theorem pK {tm tm1 : T AV} {h h1 : AHeap} {o : Oper} {v : AV} {k : Nat} (he : gJ tb (ay (Ev.callE tb)) ops tm h o = some (v, h1, k)) (hp : bw tm n o.dst v = some tm1)
  (hq : k = 1 -> v.beq v = true /\ (ut ops i = false -> ∀ H, lX tb tm H o.op = some v))
  (hk : ∃ es ms tm' h', aV tb (ay (Ev.callE tb)) n ops (i + 1) rest tm1 h1 = some (es, ms, tm', h') /\ sp tb ops es /\ ∀ TM, SubT tm' TM -> R TM h') :
  ∃ es ms tm' h', aV tb (ay (Ev.callE tb)) n ops i (o :: rest) tm h = some (es, ms, tm', h') /\ sp tb ops es /\ ∀ TM, SubT tm' TM -> R TM h' := by
 obtain ⟨es, ms, tm2, h2, e, hG, hR⟩ := hk
 refine ⟨_, _, tm2, h2, by unfold aV; simp only [he, hp, e]; rfl, fun x hx hx1 => ?_, hR⟩
 rcases List.mem_cons.1 hx with rfl | hx
 ·exact hq hx1
 ·exact hG x hx hx1
theorem WX.q {op : Op} {v : AV} (hs_ : ut ops i = true) (hq : QV tb s hs op v) (hb : v.beq v = true) (hd : Nat.blt d n = true) (hk : WX tb n ops (i + 1) rest E ((d, v) :: s) hs R) :
  WX tb n ops i (⟨some d, op, ty, pos, aft, none⟩ :: rest) E s hs R := by
 intro tm h ht hh
 have hv : ∀ call, cP tb call tm h op = .q (some v) := hq tm h ht hh.keep
 refine pK (v := v) (k := 1) (h1 := h) (tm1 := tm.set d v) ?_ (aT hd) (fun _ => ⟨hb, fun g => by rw [hs_] at g; cases g⟩) (hk _ _ (ht.set d v) hh)
 unfold gJ
 have : aJ ops tm ⟨some d, op, ty, pos, aft, none⟩ = some true := rfl
 rw [this]
 simp only [hv]
theorem WX.f {op : Op} {v : AV} (hq : QV tb s [] op v) (hb : v.beq v = true) (hd : Nat.blt d n = true) (hk : WX tb n ops (i + 1) rest E ((d, v) :: s) hs R) :
  WX tb n ops i (⟨some d, op, ty, pos, aft, none⟩ :: rest) E s hs R := by
 intro tm h ht hh
 have hv : ∀ H call, cP tb call tm H op = .q (some v) := fun H => hq tm H ht fun e he => by simp at he
 refine pK (v := v) (k := 1) (h1 := h) (tm1 := tm.set d v) ?_ (aT hd) (fun _ => ⟨hb, fun _ H => by unfold lX; rw [hv]⟩) (hk _ _ (ht.set d v) hh)
 unfold gJ
 have : aJ ops tm ⟨some d, op, ty, pos, aft, none⟩ = some true := rfl
 rw [this]
 simp only [hv]
theorem WX.store {ox oy : Operand} {j b o q : Nat} {ob : AObj} {v : AV} {cs : List AV} {hs' : af} (hz : tb.size t = some q) (hx : oL s ox = some (.ptr b o)) (hy : oL s oy = some v) (hm : hs[j]? = some ⟨b, ob, true⟩)
  (hb : (Nat.beq v.cells.length q && Nat.ble (o + q) ob.cells.length && v.cells.all AV.isCell) = true) (hc : cn ob.cells o v.cells = cs) (hs_ : hs.set j ⟨b, ⟨ob.sz, ob.exact_, cs⟩, true⟩ = hs')
  (hk : WX tb n ops (i + 1) rest E s hs' R) (hz0 : Nat.blt 0 ob.sz = true := by rfl) : WX tb n ops i (⟨none, .store t ox oy, ty, pos, aft, none⟩ :: rest) E s hs R := by
 intro tm h ht hh
 subst hs_
 have hH := hh.put (ob' := ⟨ob.sz, ob.exact_, cs⟩) hm
 refine pK (v := .tuple []) (k := 2) (h1 := ⟨h.next, h.objs.set b ⟨ob.sz, ob.exact_, cs⟩⟩) (tm1 := tm) ?_ rfl (fun h => by cases h) (hk tm _ ht hH)
 unfold gJ
 have : aJ ops tm ⟨none, .store t ox oy, ty, pos, aft, none⟩ = some true := rfl
 rw [this]
 have he : cP tb (ay (Ev.callE tb)) tm h (.store t ox oy) = .l (some (.tuple [], ⟨h.next, h.objs.set b ⟨ob.sz, ob.exact_, cs⟩⟩)) := by
  show Res.l (db tb tm h t ox oy) = _
  unfold db
  simp only [aW ht hx, aW ht hy]
  unfold kC
  have h1 := (hh.at_ _ (ey hm)).1
  simp only at h1
  simp only [hz, h1, hb, hc, hz0]
 simp only [he]
end

end
end Go.Proofs.YtndhhgbpcmfeiaaGreatDoor.Ev
