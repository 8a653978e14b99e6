/- Chapter 16, by the document: expressions. -/
import Derived.Test.YtndhhgbpcmfeiaaGreatDoorOVr
namespace Go.Proofs.YtndhhgbpcmfeiaaGreatDoor.Ev.P16
open Go.RowKit
set_option maxRecDepth 100000
set_option maxHeartbeats 1000000
theorem WD.subH {tb : Tab} {n m i : Nat} {ops rest : List Oper} {keep : ak} {E : Env} {s : St} {hs hs' : ak} {R : T AV -> AHeap -> Prop} (h : SubH hs' hs) (g : WD tb n ops keep m i rest E s hs' R) : WD tb n ops keep m i rest E s hs R :=
 fun tm hp ht hh hk => g tm hp ht (hh.sub h) hk
theorem WD.call0 {tb : Tab} {n m i : Nat} {ops rest : List Oper} {keep : ak} {E : Env} {s : St} {hs : ak} {R : T AV -> AHeap -> Prop} {d : Nat} {ty : TypeId} {pos : String} {aft : Array Edge} {of : Operand} {args : List Operand} {ts : Array TypeId} {g : Nat} {caps l l' : List AV} {hsc : ak} {Post : AV -> ak -> Prop}
  (hf : oL s of = some (.func g caps)) (ha : pW s args = some l) (hl : l ++ caps = l') (hsp : Spec tb g l' [] hsc Post) (hsub : SubR hsc hs) (hkp : KIn keep hs) (hd : Nat.blt d n = true) (hk : ∀ v D, Post v D -> WD tb n ops keep m (i + 1) rest E ((d, v) :: s) (D ++ hs) R) :
  WD tb n ops keep m i (⟨some d, .call ⟨.value of, args.toArray, ts⟩, ty, pos, aft, none⟩ :: rest) E s hs R :=
 WD.l (C := fun v hq => ∃ D, Post v D /\ hq = D ++ hs) (fun tm h r e => by cases e) (fun R hR => WO.call0 hf ha hl hsp hsub hd fun v D h => WO.nil (hR _ _ ⟨D, h, rfl⟩))
  (fun v hq ⟨D, _, h2⟩ _ => by subst h2; exact fun e he => let ⟨w, hm⟩ := hkp e he; ⟨w, List.mem_append_right _ hm⟩) (fun v hq ⟨D, h1, h2⟩ => by subst h2; exact hk v D h1)
theorem iz {N G K X O : ak} (h : O.Perm (X ++ G)) : ((N ++ K) ++ O).Perm ((N ++ G) ++ (K ++ X)) := (List.Perm.append_left _ h).trans aG
structure NodT where
 k : Int
 op : List Nat
 n : Int
 ms : AV
 rg : Int
 off : Int
 md : Int
 nm : AV
 sd : Int
 bl : Bool
 kd : AV
abbrev nC (x : NodT) : List AV := bS x.k x.op x.n x.ms x.rg x.off x.md x.nm x.sd x.bl x.kd
def MsOK (hs : ak) (v : AV) : Prop := ∃ M : List kf, ISm hs M v /\ Dw M /\ M.length <= 1048576
def NmOK (hs : ak) (v : AV) : Prop := ∃ N : List (List Nat), ((v = .nils /\ N = []) \/ ∃ b ex, v = .slice b 0 N.length 1 /\ MemH hs b ⟨1, ex, N.map AV.str⟩) /\ (∀ x ∈ N, Bytes x) /\ N.length <= 2097152
theorem MsOK.cell {hs : ak} {v : AV} (h : MsOK hs v) : v.isCell = true := by
 obtain ⟨M, ⟨rfl, _⟩ | ⟨b, ex, rfl, _⟩, _⟩ := h <;> rfl
theorem NmOK.cell {hs : ak} {v : AV} (h : NmOK hs v) : v.isCell = true := by
 obtain ⟨M, ⟨rfl, _⟩ | ⟨b, ex, rfl, _⟩, _⟩ := h <;> rfl
theorem MsOK.mono {hs hs' : ak} {v : AV} (hm : ∀ b o, MemH hs b o -> MemH hs' b o) (h : MsOK hs v) : MsOK hs' v := let ⟨M, h1, h2⟩ := h; ⟨M, h1.imp id fun ⟨b, ex, e1, e2⟩ => ⟨b, ex, e1, hm _ _ e2⟩, h2⟩
theorem NmOK.mono {hs hs' : ak} {v : AV} (hm : ∀ b o, MemH hs b o -> MemH hs' b o) (h : NmOK hs v) : NmOK hs' v := let ⟨M, h1, h2⟩ := h; ⟨M, h1.imp id fun ⟨b, ex, e1, e2⟩ => ⟨b, ex, e1, hm _ _ e2⟩, h2⟩
theorem AD {hs : ak} : MsOK hs .nils := ⟨[], .inl ⟨rfl, rfl⟩, fun x hx => by simp at hx, by simp⟩
theorem Dz {hs : ak} : NmOK hs .nils := ⟨[], .inl ⟨rfl, rfl⟩, fun x hx => by simp at hx, by simp⟩
theorem MsR.ok {hM : ak} {v : AV} (h : MsR hM v) : MsOK hM v := let ⟨M, h1, h2⟩ := h; ⟨M, yK h1, h2⟩
theorem NmR.ok {hN : ak} {v : AV} (h : NmR hN v) : NmOK hN v := by
 obtain ⟨N, h1, h2⟩ := h
 refine ⟨N, ?_, h2⟩
 rcases h1 with ⟨h1, _, rfl, _⟩ | ⟨b, ex, rfl, rfl, _⟩
 ·exact .inl ⟨rfl, List.length_eq_zero_iff.1 h1⟩
 ·exact .inr ⟨b, ex, rfl, true, List.mem_cons_self⟩
def sumN (f : Nat -> Nat) : Nat -> Nat
 | 0 => 0
 | n + 1 => sumN f n + f n
theorem qp {f g : Nat -> Nat} : ∀ {n : Nat}, (∀ i, i < n -> f i = g i) -> sumN f n = sumN g n
 | 0, _ => rfl
 | n + 1, h => by rw [sumN, sumN, qp fun i hi => h i zy, h n zy]
def RRep (hs : ak) : Nat -> List AV -> Nat -> Prop
 | 0, _, _ => False
 | d + 1, c, m => 0 < m /\ ∃ k op n ms rg off md nm sd bl kd, c = bS k op n ms rg off md nm sd bl kd /\ Bytes op /\ (op.length <= 1048576 /\ 0 <= k /\ k <= 6) /\ MsOK hs ms /\ NmOK hs nm /\
   (kd = .nils \/ ∃ b len ob, kd = .slice b 0 len 11 /\ MemH hs b ob /\ len <= 1048576 /\ ob.cells.length = len * 11 /\ ∃ f : Nat -> Nat, sumN f len + 1 <= m /\ ∀ i, i < len -> ∃ c', cn ob.cells ((0 + i) * 11) 11 = some c' /\ RRep hs d c' (f i))
theorem RRep.mono {hs hs' : ak} (hm : ∀ b o, MemH hs b o -> MemH hs' b o) : ∀ {d : Nat} {c : List AV} {m : Nat}, RRep hs d c m -> RRep hs' d c m
 | 0, _, _, h => h
 | d + 1, c, m, ⟨h0, k, op, n, ms, rg, off, md, nm, sd, bl, kd, h1, h2, h3, h5, h6, h4⟩ => ⟨h0, k, op, n, ms, rg, off, md, nm, sd, bl, kd, h1, h2, h3, h5.mono hm, h6.mono hm, h4.imp id fun ⟨b, len, ob, g1, g2, g3, g5, f, g6, g4⟩ =>
   ⟨b, len, ob, g1, hm _ _ g2, g3, g5, f, g6, fun i hi => let ⟨c', e1, e2⟩ := g4 i hi; ⟨c', e1, RRep.mono hm e2⟩⟩⟩
theorem RRep.succ {hs : ak} : ∀ {d : Nat} {c : List AV} {m : Nat}, RRep hs d c m -> RRep hs (d + 1) c m
 | 0, _, _, h => h.elim
 | d + 1, c, m, ⟨h0, k, op, n, ms, rg, off, md, nm, sd, bl, kd, h1, h2, h3, h5, h6, h4⟩ => ⟨h0, k, op, n, ms, rg, off, md, nm, sd, bl, kd, h1, h2, h3, h5, h6, h4.imp id fun ⟨b, len, ob, g1, g2, g3, g5, f, g6, g4⟩ =>
   ⟨b, len, ob, g1, g2, g3, g5, f, g6, fun i hi => let ⟨c', e1, e2⟩ := g4 i hi; ⟨c', e1, RRep.succ e2⟩⟩⟩
theorem RRep.le {hs : ak} {d : Nat} {c : List AV} {m : Nat} (h : RRep hs d c m) : ∀ {d' : Nat}, d <= d' -> RRep hs d' c m := by
 intro d' hd
 induction hd with
 | refl => exact h
 | step _ ih => exact ih.succ
theorem RRep.nrep {hs : ak} : ∀ {d : Nat} {c : List AV} {m : Nat}, RRep hs d c m -> NRep hs d c
 | 0, _, _, h => h
 | d + 1, c, m, ⟨_, k, op, n, ms, rg, off, md, nm, sd, bl, kd, h1, h2, h3, h5, h6, h4⟩ => ⟨k, op, n, ms, rg, off, md, nm, sd, bl, kd, h1, h2, Nat.le_trans h3.1 (by decide), h5.cell, h6.cell, h4.imp id fun ⟨b, len, ob, g1, g2, g3, g5, f, g6, g4⟩ =>
   ⟨b, len, ob, g1, g2, g3, fun i hi => let ⟨c', e1, e2⟩ := g4 i hi; ⟨c', e1, e2.nrep⟩⟩⟩
structure NOk (hs : ak) (x : NodT) (m : Nat) : Prop where
 nr : ∃ d, RRep hs d (nC x) m
 op : Bytes x.op
 ms : x.ms.isCell = true
 nm : x.nm.isCell = true
 kd : x.kd.isCell = true
def KVn (hs : ak) (len : Nat) (v : AV) (m : Nat) : Prop := (v = .nils /\ len = 0) \/ ∃ b ob, v = .slice b 0 len 11 /\ MemH hs b ob /\ len <= 1048576 /\ ob.cells.length = len * 11 /\ ∃ (d : Nat) (f : Nat -> Nat), sumN f len <= m /\ ∀ i, i < len -> ∃ c', cn ob.cells ((0 + i) * 11) 11 = some c' /\ RRep hs d c' (f i)
theorem KVn.nil {hs : ak} : KVn hs 0 .nils 0 := .inl ⟨rfl, rfl⟩
theorem KVn.cell {hs : ak} {len m : Nat} {v : AV} (h : KVn hs len v m) : v.isCell = true := by
 rcases h with ⟨rfl, _⟩ | ⟨b, ob, rfl, _⟩ <;> rfl
theorem F7 {hs : ak} {len e m : Nat} {v : AV} (h : KVn hs len v m) : nx (.slice e) v = some len := by
 rcases h with ⟨rfl, rfl⟩ | ⟨b, ob, rfl, _⟩ <;> rfl
theorem NOk.of {hs : ak} {len mz : Nat} {k : Int} {op : List Nat} {n : Int} {ms : AV} {rg off md : Int} {nm : AV} {sd : Int} {bl : Bool} {kd : AV} (h : KVn hs len kd mz) (ho : Bytes op) (hl : op.length <= 1048576) (hms : MsOK hs ms) (hnm : NmOK hs nm) (hkk : 0 <= k /\ k <= 6 := by first | decide | omega) :
  NOk hs ⟨k, op, n, ms, rg, off, md, nm, sd, bl, kd⟩ (mz + 1) := by
 refine ⟨?_, ho, hms.cell, hnm.cell, h.cell⟩
 rcases h with ⟨rfl, rfl⟩ | ⟨b, ob, rfl, hm, hle, hcl, d, f, hf, hd⟩
 ·exact ⟨1, Nat.succ_pos _, k, op, n, ms, rg, off, md, nm, sd, bl, .nils, rfl, ho, ⟨hl, hkk⟩, hms, hnm, .inl rfl⟩
 ·exact ⟨d + 1, Nat.succ_pos _, k, op, n, ms, rg, off, md, nm, sd, bl, _, rfl, ho, ⟨hl, hkk⟩, hms, hnm, .inr ⟨b, len, ob, rfl, hm, hle, hcl, f, Nat.succ_le_succ hf, hd⟩⟩
theorem fZ : Bytes [] := by intro c h; simp at h
theorem NOk.zero {hs : ak} : NOk hs ⟨0, [], 0, .nils, 0, 0, 0, .nils, 0, false, .nils⟩ 1 := NOk.of KVn.nil fZ (Nat.zero_le _) AD Dz
theorem MemH.up {hs hs' : ak} (h : ∀ e ∈ hs, e ∈ hs') : ∀ b o, MemH hs b o -> MemH hs' b o := fun b o ⟨w, hm⟩ => ⟨w, h _ hm⟩
theorem DH {hs : ak} {b : Nat} {o : AObj} {w : Bool} : MemH (⟨b, o, w⟩ :: hs) b o := ⟨w, List.mem_cons_self⟩
theorem NOk.up {hs hs' : ak} {x : NodT} {m : Nat} (h : NOk hs x m) (g : ∀ e ∈ hs, e ∈ hs') : NOk hs' x m := ⟨let ⟨d, hd⟩ := h.nr; ⟨d, hd.mono (MemH.up g)⟩, h.op, h.ms, h.nm, h.kd⟩
theorem NOk.tl {hs : ak} {x : NodT} {m : Nat} {e : HE} (h : NOk hs x m) : NOk (e :: hs) x m := h.up fun _ h => List.mem_cons_of_mem _ h
theorem Gd {x : NodT} : cn (nC x) ((0 + 0) * 11) 11 = some (nC x) := rfl
theorem KVn.up {hs hs' : ak} {len m : Nat} {v : AV} (h : KVn hs len v m) (g : ∀ e ∈ hs, e ∈ hs') : KVn hs' len v m := h.imp id fun ⟨b, ob, h1, h2, h3, h4, d, f, h6, h5⟩ => ⟨b, ob, h1, MemH.up g _ _ h2, h3, h4, d, f, h6, fun i hi => let ⟨c', e1, e2⟩ := h5 i hi; ⟨c', e1, e2.mono (MemH.up g)⟩⟩
theorem MsOK.up {hs hs' : ak} {v : AV} (h : MsOK hs v) (g : ∀ e ∈ hs, e ∈ hs') : MsOK hs' v := h.mono (MemH.up g)
theorem NmOK.up {hs hs' : ak} {v : AV} (h : NmOK hs v) (g : ∀ e ∈ hs, e ∈ hs') : NmOK hs' v := h.mono (MemH.up g)
theorem KVn.one {hs : ak} {b m : Nat} {ex : Bool} {x : NodT} (h : NOk hs x m) (hm : MemH hs b ⟨11, ex, nC x⟩) : KVn hs 1 (.slice b 0 1 11) m := by
 obtain ⟨d, hd⟩ := h.nr
 refine .inr ⟨b, _, rfl, hm, by decide, rfl, d, fun _ => m, by simp [sumN], fun i hi => ?_⟩
 have : i = 0 := by omega
 subst this
 exact ⟨_, Gd, hd⟩
theorem KVn.two {hs : ak} {b m k : Nat} {ex : Bool} {x y : NodT} (h : NOk hs x m) (g : NOk hs y k) (hm : MemH hs b ⟨11, ex, nC x ++ nC y⟩) : KVn hs 2 (.slice b 0 2 11) (m + k) := by
 obtain ⟨d, hd⟩ := h.nr
 obtain ⟨d', hd'⟩ := g.nr
 refine .inr ⟨b, _, rfl, hm, by decide, rfl, max d d', fun i => if i = 0 then m else k, by simp [sumN], fun i hi => ?_⟩
 rcases Nat.lt_or_ge i 1 with h1 | h1
 ·have : i = 0 := by omega
  subst this
  exact ⟨nC x, rfl, hd.le (Nat.le_max_left _ _)⟩
 ·have : i = 1 := by omega
  subst this
  exact ⟨nC y, rfl, hd'.le (Nat.le_max_right _ _)⟩
def KN (hs : ak) (cs : List AV) (len m : Nat) : Prop := ∃ (d : Nat) (f : Nat -> Nat), sumN f len <= m /\ ∀ i, i < len -> ∃ c', cn cs ((0 + i) * 11) 11 = some c' /\ RRep hs d c' (f i)
theorem KN.nil {hs : ak} : KN hs [] 0 0 := ⟨0, fun _ => 0, Nat.le_refl _, fun i h => absurd h (Nat.not_lt_zero _)⟩
theorem Dd {A B c : List AV} {o m : Nat} (h : cn A o m = some c) : cn (A ++ B) o m = some c := by
 unfold cn at h ⊢
 split at h
 ·rename_i hb
  have hb := Nat.ble_eq.mp hb
  have h1 : Nat.ble (o + m) (A ++ B).length = true := Nat.ble_eq.mpr (by rw [List.length_append]; omega)
  simp only [h1]
  rw [<- h]
  congr 1
  rw [List.drop_append_of_le_length zy, List.take_append_of_le_length (by rw [List.length_drop]; omega)]
 ·cases h
theorem Au {A B : List AV} {o m : Nat} (h : A.length = o) (g : B.length = m) : cn (A ++ B) o m = some B := by
 unfold cn
 have h1 : Nat.ble (o + m) (A ++ B).length = true := Nat.ble_eq.mpr (by rw [List.length_append]; omega)
 simp only [h1]
 subst h g
 simp
theorem KN.snoc {hs hq : ak} {cs : List AV} {len m k : Nat} {x : NodT} (h : KN hs cs len m) (hl : cs.length = len * 11) (g : NOk hq x k) : KN (hs ++ hq) (cs ++ nC x) (len + 1) (m + k) := by
 obtain ⟨d, f, hf, hd⟩ := h
 obtain ⟨d', hd'⟩ := g.nr
 refine ⟨max d d', fun i => if i < len then f i else k, ?_, fun i hi => ?_⟩
 ·rw [sumN, qp (g := f) fun i hi => if_pos hi, if_neg (Nat.lt_irrefl _)]; omega
 rcases Nat.lt_or_ge i len with h1 | h1
 ·obtain ⟨c', e1, e2⟩ := hd i h1
  simp only [h1, ↓reduceIte]
  exact ⟨c', Dd e1, (e2.mono (MemH.up fun e he => List.mem_append_left _ he)).le (Nat.le_max_left _ _)⟩
 ·have : i = len := by omega
  subst this
  simp only [Nat.lt_irrefl, ↓reduceIte]
  exact ⟨nC x, Au zy rfl, (hd'.mono (MemH.up fun e he => List.mem_append_right _ he)).le (Nat.le_max_right _ _)⟩
theorem EN {cs : List AV} {len m : Nat} {v : AV} {hp hN : ak} (h : Own 11 cs len v hp) (g : KN hN cs len m) (hl : len <= 1048576) : KVn (hN ++ hp) len v m := by
 have hlen := h.length
 rcases h with ⟨h1, _, rfl, _⟩ | ⟨b, ex, rfl, rfl, _⟩
 ·exact .inl ⟨rfl, h1⟩
 ·obtain ⟨d, f, hf, hd⟩ := g
  exact .inr ⟨b, ⟨11, ex, cs⟩, rfl, ⟨true, by simp⟩, hl, hlen, d, f, hf, fun i hi => let ⟨c', e1, e2⟩ := hd i hi; ⟨c', e1, e2.mono (MemH.up fun e he => List.mem_append_left _ he)⟩⟩
theorem ww {hq : ak} {b : Nat} {o : AObj} (h : ∀ y ∈ hq, y.w = true) : ∀ y ∈ (⟨b, o, true⟩ : HE) :: hq, y.w = true := by
 intro y hy
 rcases List.mem_cons.1 hy with rfl | hy
 ·rfl
 ·exact h y hy
theorem dr : ∀ y ∈ ([] : ak), y.w = true := by intro y hy; simp at hy
theorem gh {a b : ak} (h : ∀ y ∈ a, y.w = true) (g : ∀ y ∈ b, y.w = true) : ∀ y ∈ a ++ b, y.w = true := fun y hy => (List.mem_append.1 hy).elim (h y) (g y)
theorem gG {a c : ak} (h : ∀ x, a.count x <= c.count x := by intro x; simp only [pB, nC, bS, List.append_eq, List.cons_append, List.nil_append, List.count_append, List.count_cons, List.count_nil]; omega) : SubH a c := eB h
theorem ckA {k : Int} {op : List Nat} {n : Int} {ms : AV} {rg off md : Int} {nm : AV} {sd : Int} {bl : Bool} {kd : AV} (hms : ms.isCell = true := by first | rfl | assumption | exact (NOk.ms (by assumption)) | exact (NOk.nm (by assumption)) | exact (NOk.kd (by assumption)) | exact (KVn.cell (by assumption))) (hnm : nm.isCell = true := by first | rfl | assumption | exact (NOk.ms (by assumption)) | exact (NOk.nm (by assumption)) | exact (NOk.kd (by assumption)) | exact (KVn.cell (by assumption)))
  (hkd : kd.isCell = true := by first | rfl | assumption | exact (NOk.ms (by assumption)) | exact (NOk.nm (by assumption)) | exact (NOk.kd (by assumption)) | exact (KVn.cell (by assumption))) : (bS k op n ms rg off md nm sd bl kd).all AV.isCell = true := bV hms hnm hkd
def mz (n a : Nat) (e : Int) : Nat := if e = 0 then n + 1 - a else 0
def NP (n tb X a : Nat) (e : Int) (v : AV) (D : ak) : Prop := ∃ (x : NodT) (hq : ak) (m a2 : Nat) (dp2 e2 bd2 : Int), v = .agg (nC x) /\ NOk hq x m /\ (∀ y ∈ hq, y.w = true) /\ a <= a2 /\ a2 <= n /\ (e ≠ 0 -> e2 = e /\ a2 = a) /\ (e2 = 0 -> e = 0 /\ a < a2 /\ m + a <= a2) /\
 D = (pB X tb n a2 dp2 e2 bd2 true) :: hq
def PP (n tb X a : Nat) (e : Int) (v : AV) (D : ak) : Prop := ∃ (len : Nat) (hq : ak) (m a2 : Nat) (dp2 e2 bd2 : Int), KVn hq len v m /\ (∀ y ∈ hq, y.w = true) /\ a <= a2 /\ a2 <= n /\ (e ≠ 0 -> e2 = e /\ a2 = a) /\ (e2 = 0 -> e = 0 /\ a < a2 /\ m + a <= a2) /\
 D = (pB X tb n a2 dp2 e2 bd2 true) :: hq
def GM (toks : List dS) (n tb : Nat) (ex : Bool) (X m : Nat) : Prop := ∀ (a : Nat) (dp e bd : Int), a <= n ->
 (∀ l : Nat, l <= 5 -> mz n a e * 20 + (9 - l) < m -> Spec aN 31 [.ptr X 0, .int .i64 ((l : Nat) : Int)] [X] [pB X tb n a dp e bd true, ⟨tb, ⟨4, ex, bO toks⟩, false⟩] (NP n tb X a e)) /\ (mz n a e * 20 + 3 < m -> Spec aN 56 [.ptr X 0] [X] [pB X tb n a dp e bd true, ⟨tb, ⟨4, ex, bO toks⟩, false⟩] (NP n tb X a e)) /\ (mz n a e * 20 + 2 < m -> Spec aN 89 [.ptr X 0] [X] [pB X tb n a dp e bd true, ⟨tb, ⟨4, ex, bO toks⟩, false⟩] (NP n tb X a e)) /\
 (e = 0 -> (tg toks a).1 = 1 -> mz n a e * 20 + 1 < m -> Spec aN 131 [.ptr X 0] [X] [pB X tb n a dp e bd true, ⟨tb, ⟨4, ex, bO toks⟩, false⟩] (NP n tb X a e)) /\ (∀ bn : Bool, mz n a e * 20 + 0 < m -> Spec aN 132 [.ptr X 0, .bool bn] [X] [pB X tb n a dp e bd true, ⟨tb, ⟨4, ex, bO toks⟩, false⟩] (PP n tb X a e))
theorem uO (toks : List dS) (n : Nat) (hn : toks.length = n + 1) (hnl : n <= 1048576) (hok : jm toks) (tb : Nat) (ex : Bool) (X a : Nat) (ha : a <= n) (dp e bd : Int) (hla : (tg toks n).1 = 6) (hI : GM toks n tb ex X (mz n a e * 20 + 3)) : Spec aN 56 [.ptr X 0] [X] [pB X tb n a dp e bd true, ⟨tb, ⟨4, ex, bO toks⟩, false⟩] (NP n tb X a e) := by
 refine av (cX 56 Tryz.func56) rfl (m := 39) rfl (rs := [.cell 2 26]) rfl (st := [(0, .ptr X 0)]) rfl rfl (fun _ => rfl) (fun E => zr (WO.alloc ia rfl (fun b1 => zk (W.seq (zr (zm rfl (aJ rfl (aD rfl (aD (oc (v := .str [45]) (by kernel_rfl)) oz)) rfl (cu toks n hn hnl hok tb ex X a zy dp e bd _ (by unfold Bytes; decide)) (SubR.t SubR.two) rfl (zq (Q.not rfl rfl) (zk (aE rfl (fun hc6 => ?_) (fun hc6 => ?_)))))))))))
 ·refine zr (zm rfl (WO.call1 rfl (aD rfl oz) rfl (i := 1) rfl ((hI a dp e bd zy).2.2.1 (by unfold mz; (repeat' split) <;> omega)) (SubR.one (zt 1 rfl)) (hs' := [_, _]) rfl rfl (fun v8 D8 hP8 => ?_)))
  obtain ⟨x8, hq8, m8, a8, d8, e8, f8, rfl, nk8, nw8, p8, q8, r8, s8, rfl⟩ := hP8
  refine WO.subH (hs' := _ :: _ :: _ :: (hq8)) (SubH.op (aG (N := [_]) (G := hq8) (K := [_, _]) (X := []))) (zS aL rfl rfl (i := 1) rfl (by first | rfl | exact aQ rfl ckA) rfl (hs' := _ :: _ :: _ :: _) rfl (zk (W.ret ?_)))
  refine ac (End.ret (zA rfl (zt 1 rfl) bh aL rfl ResL.nil) (hs' := pB X tb n a8 d8 e8 f8 true :: hq8) ⟨x8, hq8, _, a8, d8, e8, f8, rfl, nk8, nw8, zy, zy, zy, zy, rfl⟩ (ww nw8) gG)
 have hv := gL (by simpa using hc6)
 have hlt : a < n := aY hla ha zy
 refine zw (zr (zm rfl (zm rfl (aJ rfl (aD rfl oz) rfl (ct toks n hn hnl hok tb ex X a zy dp e bd) (SubR.t SubR.two) rfl (zq (cm ly rfl rfl) (WO.call1 rfl (aD rfl (aD rfl oz)) rfl (i := 1) rfl (lu n tb X a dp e bd _) SubR.nil (hs' := [_, _]) rfl rfl (fun v13 D13 hP13 => ?_)))))))
 obtain ⟨rfl, d13, e13, f13, g13, h13, rfl⟩ := hP13
 refine zk (W.seq (zr (zm rfl (zq (aF rfl) (zf dB rfl 3 (zq (ap rfl (zt 0 rfl) bU rfl) (zq (aa rfl (zi 0) rfl (aR cP)) (zk (aw rfl (fun hc18 => ?_) (fun hc18 => ?_))))))))))
 ·refine zr (zq (zB ka aq rfl rfl) (zS aL rfl rfl (i := 1) rfl (by first | rfl | exact aQ rfl ckA) rfl (hs' := [_, _, _]) rfl (zk (W.sub (zc 2 rfl aI) (W.ret ?_)))))
  refine ac (End.ret (zA rfl (zt 1 rfl) bh aL rfl ResL.nil) (hs' := pB X tb n a d13 e13 f13 true :: []) ⟨⟨0, [], 0, .nils, 0, 0, 0, .nils, 0, false, .nils⟩, [], _, a, d13, e13, f13, rfl, NOk.zero, (dr), zy, zy, zy, zy, rfl⟩ (ww (dr)) gG)
 refine zw (zr (zm rfl (zq (aF rfl) (zf aZ rfl 1 (zq (ap rfl (zt 0 rfl) bU rfl) (zq (aa rfl (zi 1) rfl zp) (zq (aF rfl) (zf aZ rfl 1 (lM di rfl rfl (i := 0) rfl rfl rfl (hs' := [_, _, _]) rfl (zk (W.sub (zc 2 rfl (zc 0 rfl aI)) (zr (zm rfl (WO.call1 rfl (aD rfl oz) rfl (i := 0) rfl ((hI (a + 1) d13 e13 f13 zy).2.1 (by unfold mz; (repeat' split) <;> omega)) (SubR.one (zt 1 rfl)) (hs' := [_, _]) rfl rfl (fun v28 D28 hP28 => ?_)))))))))))))))
 obtain ⟨x28, hq28, m28, a28, d28, e28, f28, rfl, nk28, nw28, p28, q28, r28, s28, rfl⟩ := hP28
 refine WO.subH (hs' := _ :: _ :: _ :: (hq28)) (SubH.op (aG (N := [_]) (G := hq28) (K := [_, _]) (X := []))) (WO.bslice ke aL Fb rfl (bz rfl aq) rfl (cs := [_, _, _, _, _, _, _, _, _, _, _]) rfl ckA rfl (fun b2 => zq (zB ka (bz (zi 6) (bz rfl aq)) rfl rfl) (WO.alloc ia rfl (fun b3 => zS aL rfl rfl (i := 0) rfl (by first | rfl | exact aQ rfl ckA) rfl (hs' := _ :: _ :: _ :: _ :: _ :: _) rfl (zk (zr (zm rfl (zq (aF rfl) (zf jQ rfl 2 (zq (ap rfl (zt 2 rfl) bU rfl) (zq (aa rfl (zi 1) rfl (cT rfl)) (zq (aF rfl) (zf jQ rfl 2 (lM di rfl rfl (i := 2) rfl rfl rfl (hs' := _ :: _ :: _ :: _ :: _ :: _) rfl (zk (zr (zq (zL rfl (zt 0 rfl) bh aL rfl) (zS aL rfl rfl (i := 3) rfl (by first | rfl | exact aQ rfl ckA) rfl (hs' := _ :: _ :: _ :: _ :: _ :: _) rfl (zk (W.sub (zc 2 rfl aI) (W.ret ?_)))))))))))))))))))))
 refine End.ret (zA rfl (zt 3 rfl) bh aL rfl ResL.nil) (hs' := pB X tb n a28 (IntKind.i64.wrap (d28 - ((1 : Nat) : Int))) e28 f28 true :: (⟨b2, ⟨11, true, nC x28⟩, true⟩ :: hq28)) ⟨⟨6, [], 0, .nils, 0, 0, 0, .nils, 0, false, .slice b2 0 1 11⟩, (⟨b2, ⟨11, true, nC x28⟩, true⟩ :: hq28), _, a28, (IntKind.i64.wrap (d28 - ((1 : Nat) : Int))), e28, f28, rfl, (NOk.of (KVn.one nk28.tl (DH)) fZ (Nat.zero_le _) AD Dz), (ww nw28), zy, zy, zy, zy, rfl⟩ (ww (ww nw28)) gG

theorem wB (toks : List dS) (n : Nat) (hn : toks.length = n + 1) (hnl : n <= 1048576) (hok : jm toks) (tb : Nat) (ex : Bool) (X a : Nat) (ha : a <= n) (dp e bd : Int) (hla : (tg toks n).1 = 6) (hI : GM toks n tb ex X (mz n a e * 20 + 2)) : Spec aN 89 [.ptr X 0] [X] [pB X tb n a dp e bd true, ⟨tb, ⟨4, ex, bO toks⟩, false⟩] (NP n tb X a e) := by
 refine av (cX 89 Tryz.func89) rfl (m := 116) rfl (rs := [.cell 2 26]) rfl (st := [(0, .ptr X 0)]) rfl rfl (fun _ => rfl) (fun E => zr (WO.alloc ia rfl (fun b1 => zk (zr (zm rfl (aJ rfl (aD rfl oz) rfl (ct toks n hn hnl hok tb ex X a zy dp e bd) (SubR.t SubR.two) rfl (WO.alloc mV rfl (fun b2 => WO.store dj rfl rfl (i := 0) rfl rfl (cs := [_, _, _, _]) rfl (hs' := [_, _, _, _]) rfl (zk (W.seq (W.block (zr (zm rfl (zq (aF rfl) (zf dB rfl 3 (zq (ap rfl (zt 2 rfl) bU rfl) (zq (aa rfl (zi 0) rfl (aR cP)) (za rfl (zk (aw rfl (fun hc7 => ?_) (fun hc7 => ?_)))))))))))))))))))))
 ·refine zr (zq (zB ka aq rfl rfl) (zS aL rfl rfl (i := 1) rfl (by first | rfl | exact aQ rfl ckA) rfl (hs' := [_, _, _, _]) rfl (zk (W.ret ?_))))
  refine ad (ac (End.ret (zA rfl (zt 1 rfl) bh aL rfl ResL.nil) (hs' := pB X tb n a dp e bd true :: []) ⟨⟨0, [], 0, .nils, 0, 0, 0, .nils, 0, false, .nils⟩, [], _, a, dp, e, bd, rfl, NOk.zero, (dr), zy, zy, zy, zy, rfl⟩ (ww (dr)) gG))
 have he : e = 0 := zy
 refine zr (zf io rfl 0 (zq (ap rfl (zt 0 rfl) bU rfl) (zq (aa rfl (zi 2) rfl (ag aA)) (za rfl (zk (aw rfl (fun hc14 => ?_) (fun hc14 => ?_)))))))
 ·have hlt : a < n := aY hla ha zy
  refine zr (zm rfl (zq (aF rfl) (zf aZ rfl 1 (zq (ap rfl (zt 2 rfl) bU rfl) (zq (aa rfl (zi 1) rfl zp) (zq (aF rfl) (zf aZ rfl 1 (lM di rfl rfl (i := 2) rfl rfl rfl (hs' := [_, _, _, _]) rfl (zk (W.sub (zc 3 rfl (zc 2 rfl aI)) (zr (zf BJ rfl 2 (zq (ap rfl (zt 0 rfl) bU rfl) (zq (zB ka (bz (zi 1) (bz rfl aq)) rfl rfl) (zS aL rfl rfl (i := 1) rfl (by first | rfl | exact aQ rfl ckA) rfl (hs' := [_, _, _, _]) rfl (zk (W.ret ?_)))))))))))))))))
  refine ad (ac (End.ret (zA rfl (zt 1 rfl) bh aL rfl ResL.nil) (hs' := pB X tb n (a + 1) dp e bd true :: []) ⟨⟨1, [], (tg toks a).2.2.1, .nils, 0, 0, 0, .nils, 0, false, .nils⟩, [], _, (a + 1), dp, e, bd, rfl, (NOk.of KVn.nil fZ (Nat.zero_le _) AD Dz), dr, zy, zy, zy, zy, rfl⟩ (ww dr) gG))
 refine zr (zm rfl (aJ rfl (aD rfl (aD (oc (v := .str [40]) (by kernel_rfl)) oz)) rfl (cu toks n hn hnl hok tb ex X a zy dp e bd _ (by unfold Bytes; decide)) (SubR.t (SubR.t SubR.two)) rfl (za rfl (zk (W.sub (zc 28 rfl (zc 3 rfl (zc 2 rfl (zc 0 rfl aI)))) (aE rfl (fun hc28 => ?_) (fun hc28 => ?_)))))))
 ·have hv := gL hc28
  have hlt : a < n := aY hla ha zy
  refine zr (zm rfl (zf jR rfl 3 (zq (ap rfl (zt 0 rfl) bU rfl) (WO.call1 rfl (aD rfl (aD rfl oz)) rfl (i := 2) rfl (lu n tb X a dp e bd _) SubR.nil (hs' := [_, _, _]) rfl rfl (fun v34 D34 hP34 => ?_)))))
  obtain ⟨rfl, d34, e34, f34, g34, h34, rfl⟩ := hP34
  refine zk (W.seq (zr (zm rfl (zq (aF rfl) (zf dB rfl 3 (zq (ap rfl (zt 0 rfl) bU rfl) (zq (aa rfl (zi 0) rfl (aR cP)) (zk (aw rfl (fun hc39 => ?_) (fun hc39 => ?_))))))))))
  ·refine zr (zq (zB ka aq rfl rfl) (zS aL rfl rfl (i := 2) rfl (by first | rfl | exact aQ rfl ckA) rfl (hs' := [_, _, _, _]) rfl (zk (W.ret ?_))))
   refine ac (ad (ac (End.ret (zA rfl (zt 2 rfl) bh aL rfl ResL.nil) (hs' := pB X tb n a d34 e34 f34 true :: []) ⟨⟨0, [], 0, .nils, 0, 0, 0, .nils, 0, false, .nils⟩, [], _, a, d34, e34, f34, rfl, NOk.zero, (dr), zy, zy, zy, zy, rfl⟩ (ww (dr)) gG)))
  refine zw (zr (zm rfl (zq (aF rfl) (zf aZ rfl 1 (zq (ap rfl (zt 0 rfl) bU rfl) (zq (aa rfl (zi 1) rfl zp) (zq (aF rfl) (zf aZ rfl 1 (lM di rfl rfl (i := 0) rfl rfl rfl (hs' := [_, _, _, _]) rfl (zk (W.sub (zc 2 rfl (zc 0 rfl aI)) (zr (zm rfl (WO.call1 rfl (aD rfl (aD (zi 0) oz)) rfl (i := 0) rfl ((hI (a + 1) d34 e34 f34 zy).1 (0) zy (by unfold mz; (repeat' split) <;> omega)) (SubR.one (zt 2 rfl)) (hs' := [_, _, _]) rfl rfl (fun v49 D49 hP49 => ?_)))))))))))))))
  obtain ⟨x49, hq49, m49, a49, d49, e49, f49, rfl, nk49, nw49, p49, q49, r49, s49, rfl⟩ := hP49
  refine WO.subH (hs' := _ :: _ :: _ :: _ :: (hq49)) (SubH.op (aG (N := [_]) (G := hq49) (K := [_, _, _]) (X := []))) (WO.alloc ia rfl (fun b3 => zS aL rfl rfl (i := 0) rfl (by first | rfl | exact aQ rfl ckA) rfl (hs' := _ :: _ :: _ :: _ :: _ :: _) rfl (zk (zr (zm rfl (WO.call1 rfl (aD rfl (aD (oc (v := .str [41]) (by kernel_rfl)) oz)) rfl (i := 1) rfl (dD toks n hn hnl hok tb ex X a49 zy d49 e49 f49 hla _ (by unfold Bytes; decide)) (SubR.one (zt 3 rfl)) (hs' := _ :: _ :: _ :: _ :: _) rfl rfl (fun v51 D51 hP51 => ?_)))))))
  obtain ⟨rfl, a51, e51, f51, p51, q51, r51, s51, rfl⟩ := hP51
  refine zk (zr (zm rfl (zq (aF rfl) (zf jQ rfl 2 (zq (ap rfl (zt 0 rfl) bU rfl) (zq (aa rfl (zi 1) rfl (cT rfl)) (zq (aF rfl) (zf jQ rfl 2 (lM di rfl rfl (i := 0) rfl rfl rfl (hs' := _ :: _ :: _ :: _ :: _ :: _) rfl (zk (zr (zq (zL rfl (zt 1 rfl) bh aL rfl) (zS aL rfl rfl (i := 3) rfl (by first | rfl | exact aQ rfl ckA) rfl (hs' := _ :: _ :: _ :: _ :: _ :: _) rfl (zk (W.sub (zc 2 rfl aI) (W.ret ?_))))))))))))))))
  refine ad (ac (End.ret (zA rfl (zt 3 rfl) bh aL rfl ResL.nil) (hs' := pB X tb n a51 (IntKind.i64.wrap (d49 - ((1 : Nat) : Int))) e51 f51 true :: hq49) ⟨x49, hq49, _, a51, (IntKind.i64.wrap (d49 - ((1 : Nat) : Int))), e51, f51, rfl, nk49, nw49, zy, zy, zy, zy, rfl⟩ (ww nw49) gG))
 refine zr (zm rfl (aJ rfl (aD rfl (aD (oc (v := .str [123]) (by kernel_rfl)) oz)) rfl (cu toks n hn hnl hok tb ex X a zy dp e bd _ (by unfold Bytes; decide)) (SubR.t (SubR.t SubR.two)) rfl (za rfl (zk (aE rfl (fun hc60 => ?_) (fun hc60 => ?_))))))
 ·refine zr (zm rfl (WO.call1 rfl (aD rfl oz) rfl (i := 2) rfl (qd toks n hn hnl hok tb ex X a zy dp e bd hla zy (.inr (by assumption))) (SubR.one (zt 2 rfl)) (hs' := [_, _, _]) rfl rfl (fun v64 D64 hP64 => ?_)))
  obtain ⟨hM64, ⟨ms64, rg64, of64, hms64, rfl⟩, a64, e64, f64, p64, q64, s64, rfl⟩ := hP64
  have hmc64 := hms64.cell
  refine WO.subH (hs' := _ :: _ :: _ :: _ :: (hM64)) (SubH.op (aG (N := [_]) (G := hM64) (K := [_, _, _]) (X := []))) (zS aL rfl rfl (i := 2) rfl (by first | rfl | exact aQ rfl ckA) rfl (hs' := _ :: _ :: _ :: _ :: _) rfl (zk (W.ret ?_)))
  refine ad (ac (End.ret (zA rfl (zt 2 rfl) bh aL rfl ResL.nil) (hs' := pB X tb n a64 dp e64 f64 true :: hM64) ⟨⟨(((2 : Nat) : Int)), [], 0, ms64, rg64, of64, 0, .nils, 0, false, .nils⟩, hM64, _, a64, dp, e64, f64, rfl, (NOk.of KVn.nil fZ (Nat.zero_le _) hms64.ok Dz), (hms64.w), zy, zy, zy, zy, rfl⟩ (ww (hms64.w)) gG))
 refine W.seq (eC 7 _ (by kernel_rfl) (KIn.refl _) (WD.q (Q.fieldAddr io rfl (o' := 0) rfl) iF rfl (WD.q (ap rfl (zt 0 rfl) bU rfl) kg rfl (WD.q (aa rfl (zi 1) rfl (aR cf)) bw rfl (WD.q (Q.move rfl) bw rfl (mT (d := 69) rfl (fun hc69 => ?_) (fun hc69 => ?_)))))))
 ·refine WD.gF rfl rfl (.inl rfl) rfl (WD.gF rfl rfl (.inl rfl) rfl (WD.gF rfl rfl (.inl rfl) rfl (WD.gF rfl rfl (.inl rfl) rfl (WD.q (aj rfl rfl) bw rfl (WD.q (Q.assign rfl) bw rfl (WD.nil (End.K (au rfl (zr (zm rfl (zf jR rfl 3 (zq (ap rfl (zt 0 rfl) bU rfl) (WO.call1 rfl (aD rfl (aD (zi 14) (aD rfl oz))) rfl (i := 2) rfl (da n tb X a dp e bd _ _) SubR.nil (hs' := [_, _, _]) rfl rfl (fun v78 D78 hP78 => ?_))))))))))))))
  obtain ⟨rfl, rfl⟩ := hP78
  refine zk (W.sub (zc 2 rfl aI) (zr (zq (zB ka aq rfl rfl) (zS aL rfl rfl (i := 2) rfl (by first | rfl | exact aQ rfl ckA) rfl (hs' := [_, _, _, _]) rfl (zk (W.ret ?_))))))
  refine ad (ac (End.ret (zA rfl (zt 2 rfl) bh aL rfl ResL.nil) (hs' := pB X tb n a dp (if e = 0 then (((14 : Nat) : Int)) else e) (if e = 0 then (tg toks a).2.2.2 else bd) true :: []) ⟨⟨0, [], 0, .nils, 0, 0, 0, .nils, 0, false, .nils⟩, [], _, a, dp, (if e = 0 then (((14 : Nat) : Int)) else e), (if e = 0 then (tg toks a).2.2.2 else bd), rfl, NOk.zero, (dr), zy, zy, (fun h => absurd he h), (fun h => by rw [if_pos he] at h; omega), rfl⟩ (ww (dr)) gG))
 have hlt : a < n := aY hla ha zy
 refine WD.gT rfl rfl (WD.call0 rfl oz rfl wQ SubR.nil (KIn.refl _) rfl (fun v70 D70 hP70 => ?_))
 obtain ⟨lb, lL, lh, rfl, rfl⟩ := hP70
 refine WD.gT rfl rfl (WD.q (Q.fieldAddr dX rfl (o' := 1) rfl) iF rfl (WD.gT rfl rfl (WD.q (ap rfl (zt 0 rfl) fW rfl) eD rfl (WD.gT rfl rfl (WD.callE rfl (aD rfl (aD rfl oz)) rfl (kW lL zy lb true _ (cQ hok zy).1) (SubR.one (zt 0 rfl)) (KIn.tl (KIn.refl _)) rfl (fun v73 hP73 => ?_))))))
 obtain ⟨ob73, rfl⟩ := hP73
 refine WD.q (ax rfl rfl) bw rfl (WD.q (Q.assign rfl) bw rfl (WD.nil (End.K (aE rfl (fun hc65 => ?_) (fun hc65 => ?_)))))
 ·have hlt : a < n := aY hla ha zy
  refine zr (zm rfl (zf jR rfl 3 (zq (ap rfl (zt 1 rfl) bU rfl) (WO.call1 rfl (aD rfl (aD (zi 14) (aD rfl oz))) rfl (i := 3) rfl (da n tb X a dp e bd _ _) SubR.nil (hs' := [_, _, _, _]) rfl rfl (fun v78 D78 hP78 => ?_)))))
  obtain ⟨rfl, rfl⟩ := hP78
  refine zk (W.sub (zc 2 rfl aI) (zr (zq (zB ka aq rfl rfl) (zS aL rfl rfl (i := 3) rfl (by first | rfl | exact aQ rfl ckA) rfl (hs' := [_, _, _, _, _]) rfl (zk (W.ret ?_))))))
  refine ad (ac (End.ret (zA rfl (zt 3 rfl) bh aL rfl ResL.nil) (hs' := pB X tb n a dp (if e = 0 then (((14 : Nat) : Int)) else e) (if e = 0 then (tg toks a).2.2.2 else bd) true :: []) ⟨⟨0, [], 0, .nils, 0, 0, 0, .nils, 0, false, .nils⟩, [], _, a, dp, (if e = 0 then (((14 : Nat) : Int)) else e), (if e = 0 then (tg toks a).2.2.2 else bd), rfl, NOk.zero, (dr), zy, zy, (fun h => absurd he h), (fun h => by rw [if_pos he] at h; omega), rfl⟩ (ww (dr)) gG))
 have hlt : a < n := aY hla ha zy
 refine W.seq (eC 3 _ (by kernel_rfl) (KIn.refl _) (WD.call0 rfl oz rfl CM SubR.nil (KIn.refl _) rfl (fun v81 D81 hP81 => ?_)))
 obtain ⟨lb, lL, lh, rfl, rfl⟩ := hP81
 refine WD.q (Q.fieldAddr dX rfl (o' := 1) rfl) iF rfl (WD.q (ap rfl (zt 1 rfl) fW rfl) eD rfl (WD.callE rfl (aD rfl (aD rfl oz)) rfl (kW lL zy lb true _ (cQ hok zy).1) (SubR.one (zt 0 rfl)) (KIn.tl (KIn.refl _)) rfl (fun v84 hP84 => ?_)))
 obtain ⟨ob84, rfl⟩ := hP84
 refine WD.q (Q.move rfl) bw rfl (WD.split (d := 85) rfl (fun hc85 => ?_) (fun hc85 => ?_))
 ·have hlt : a < n := aY hla ha zy
  refine WD.gT rfl rfl (WD.q (Q.move rfl) iF rfl (WD.gT rfl rfl (WD.callE rfl (aD rfl (aD (oc (v := .str [40]) (by kernel_rfl)) oz)) rfl (gv toks n hn hnl hok tb ex X a zy dp e bd _ (by unfold Bytes; decide)) (SubR.t (SubR.t (SubR.t (SubR.t SubR.two)))) (KIn.tl (KIn.refl _)) rfl (fun v87 hP87 => ?_))))
  obtain ⟨ob87, rfl⟩ := hP87
  refine WD.gT rfl rfl (WD.q (Q.move rfl) bw rfl (WD.split (d := 88) rfl (fun hc88 => ?_) (fun hc88 => ?_)))
  ·have hlt : a < n := aY hla ha zy
   refine WD.gF rfl rfl (.inl rfl) rfl (WD.gF rfl rfl (.inl rfl) rfl (WD.gT rfl rfl (WD.q (aj rfl rfl) bw rfl (WD.gT rfl rfl (WD.q (Q.move rfl) bw rfl (WD.gF rfl rfl (.inl rfl) rfl (WD.gF rfl rfl (.inl rfl) rfl (WD.gT rfl rfl (WD.q (aj rfl rfl) bw rfl (WD.q (aj rfl rfl) bw rfl (WD.q (Q.assign rfl) bw rfl (WD.nil (End.K (W.sub (zc 80 rfl (zc 3 rfl (zc 2 rfl (zc 0 rfl aI)))) (au rfl (zr (zm rfl (WO.call1 rfl (aD rfl oz) rfl (i := 4) rfl ((hI a dp e bd zy).2.2.2.1 zy zy (by unfold mz; (repeat' split) <;> omega)) (SubR.one (zt 4 rfl)) (hs' := [_, _, _, _, _]) rfl rfl (fun v98 D98 hP98 => ?_)))))))))))))))))))
   obtain ⟨x98, hq98, m98, a98, d98, e98, f98, rfl, nk98, nw98, p98, q98, r98, s98, rfl⟩ := hP98
   refine WO.subH (hs' := _ :: _ :: _ :: _ :: _ :: _ :: (hq98)) (SubH.op (aG (N := [_]) (G := hq98) (K := [_, _, _, _, _]) (X := []))) (zS aL rfl rfl (i := 4) rfl (by first | rfl | exact aQ rfl ckA) rfl (hs' := _ :: _ :: _ :: _ :: _ :: _ :: _) rfl (zk (W.ret ?_)))
   refine ad (ac (End.ret (zA rfl (zt 4 rfl) bh aL rfl ResL.nil) (hs' := pB X tb n a98 d98 e98 f98 true :: hq98) ⟨x98, hq98, _, a98, d98, e98, f98, rfl, nk98, nw98, zy, zy, zy, zy, rfl⟩ (ww nw98) gG))
  have hlt : a < n := aY hla ha zy
  refine WD.gT rfl rfl (WD.q (Q.move rfl) iF rfl (WD.gT rfl rfl (WD.callE rfl (aD rfl (aD (oc (v := .str [98, 121]) (by kernel_rfl)) oz)) rfl (gv toks n hn hnl hok tb ex X a zy dp e bd _ (by unfold Bytes; decide)) (SubR.t (SubR.t (SubR.t (SubR.t SubR.two)))) (KIn.tl (KIn.refl _)) rfl (fun v90 hP90 => ?_))))
  obtain ⟨ob90, rfl⟩ := hP90
  refine WD.gT rfl rfl (WD.q (ax rfl rfl) bw rfl (WD.gT rfl rfl (WD.q (Q.move rfl) bw rfl (WD.split (d := 92) rfl (fun hc92 => ?_) (fun hc92 => ?_)))))
  ·have hlt : a < n := aY hla ha zy
   refine WD.gF rfl rfl (.inl rfl) rfl (WD.gF rfl rfl (.inl rfl) rfl (WD.gT rfl rfl (WD.q (aj rfl rfl) bw rfl (WD.q (aj rfl rfl) bw rfl (WD.q (Q.assign rfl) bw rfl (WD.nil (End.K (W.sub (zc 80 rfl (zc 3 rfl (zc 2 rfl (zc 0 rfl aI)))) (au rfl (zr (zm rfl (WO.call1 rfl (aD rfl oz) rfl (i := 4) rfl ((hI a dp e bd zy).2.2.2.1 zy zy (by unfold mz; (repeat' split) <;> omega)) (SubR.one (zt 4 rfl)) (hs' := [_, _, _, _, _]) rfl rfl (fun v98 D98 hP98 => ?_)))))))))))))
   obtain ⟨x98, hq98, m98, a98, d98, e98, f98, rfl, nk98, nw98, p98, q98, r98, s98, rfl⟩ := hP98
   refine WO.subH (hs' := _ :: _ :: _ :: _ :: _ :: _ :: (hq98)) (SubH.op (aG (N := [_]) (G := hq98) (K := [_, _, _, _, _]) (X := []))) (zS aL rfl rfl (i := 4) rfl (by first | rfl | exact aQ rfl ckA) rfl (hs' := _ :: _ :: _ :: _ :: _ :: _ :: _) rfl (zk (W.ret ?_)))
   refine ad (ac (End.ret (zA rfl (zt 4 rfl) bh aL rfl ResL.nil) (hs' := pB X tb n a98 d98 e98 f98 true :: hq98) ⟨x98, hq98, _, a98, d98, e98, f98, rfl, nk98, nw98, zy, zy, zy, zy, rfl⟩ (ww nw98) gG))
  have hlt : a < n := aY hla ha zy
  refine WD.gT rfl rfl (WD.q (Q.move rfl) iF rfl (WD.gT rfl rfl (WD.callE rfl (aD rfl (aD (oc (v := .str [119, 105, 116, 104, 111, 117, 116]) (by kernel_rfl)) oz)) rfl (gv toks n hn hnl hok tb ex X a zy dp e bd _ (by unfold Bytes; decide)) (SubR.t (SubR.t (SubR.t (SubR.t SubR.two)))) (KIn.tl (KIn.refl _)) rfl (fun v94 hP94 => ?_))))
  obtain ⟨ob94, rfl⟩ := hP94
  refine WD.gT rfl rfl (WD.q (ax rfl rfl) bw rfl (WD.q (aj rfl rfl) bw rfl (WD.q (Q.assign rfl) bw rfl (WD.nil (End.K (W.sub (zc 80 rfl (zc 3 rfl (zc 2 rfl (zc 0 rfl aI)))) (aE rfl (fun hc80 => ?_) (fun hc80 => ?_))))))))
  ·have hlt : a < n := aY hla ha zy
   refine zr (zm rfl (WO.call1 rfl (aD rfl oz) rfl (i := 4) rfl ((hI a dp e bd zy).2.2.2.1 zy zy (by unfold mz; (repeat' split) <;> omega)) (SubR.one (zt 4 rfl)) (hs' := [_, _, _, _, _]) rfl rfl (fun v98 D98 hP98 => ?_)))
   obtain ⟨x98, hq98, m98, a98, d98, e98, f98, rfl, nk98, nw98, p98, q98, r98, s98, rfl⟩ := hP98
   refine WO.subH (hs' := _ :: _ :: _ :: _ :: _ :: _ :: (hq98)) (SubH.op (aG (N := [_]) (G := hq98) (K := [_, _, _, _, _]) (X := []))) (zS aL rfl rfl (i := 4) rfl (by first | rfl | exact aQ rfl ckA) rfl (hs' := _ :: _ :: _ :: _ :: _ :: _ :: _) rfl (zk (W.ret ?_)))
   refine ad (ac (End.ret (zA rfl (zt 4 rfl) bh aL rfl ResL.nil) (hs' := pB X tb n a98 d98 e98 f98 true :: hq98) ⟨x98, hq98, _, a98, d98, e98, f98, rfl, nk98, nw98, zy, zy, zy, zy, rfl⟩ (ww nw98) gG))
  have hlt : a < n := aY hla ha zy
  refine zr (zm rfl (WO.callE rfl (aD rfl (aD (oc (v := .str [40]) (by kernel_rfl)) oz)) rfl (gv toks n hn hnl hok tb ex X a zy dp e bd _ (by unfold Bytes; decide)) (SubR.t (SubR.t (SubR.t (SubR.t SubR.two)))) rfl (fun v101 hP101 => ?_)))
  obtain ⟨ob101, rfl⟩ := hP101
  refine za rfl (zk (aE rfl (fun hc99 => ?_) (fun hc99 => ?_)))
  ·have hlt : a < n := aY hla ha zy
   refine zr (zm rfl (zq (aF rfl) (zf aZ rfl 1 (zq (ap rfl (zt 4 rfl) bU rfl) (zq (aa rfl (zi 1) rfl zp) (zq (aF rfl) (zf aZ rfl 1 (lM di rfl rfl (i := 4) rfl rfl rfl (hs' := [_, _, _, _, _, _]) rfl (zk (W.seq (eC 4 [⟨b2, _, false⟩] (by kernel_rfl) (KIn.cons (zt 2 rfl) KIn.nil) (WD.q (Q.fieldAddr dX rfl (o' := 1) rfl) iF rfl (WD.q (ap rfl (zt 0 rfl) fW rfl) eD rfl (WD.q (Q.move rfl) iF rfl (WD.call1 rfl (aD rfl (aD rfl oz)) rfl (j := 4) rfl ((hI (a + 1) dp e bd zy).2.2.2.2 _ (by unfold mz; (repeat' split) <;> omega)) (SubR.one (zt 4 rfl)) (hs' := [_, _, _, _, _]) rfl (KIn.cons (zt 2 rfl) KIn.nil) rfl (fun v112 D112 hP112 => ?_))))))))))))))))
   obtain ⟨l112, hq112, m112, a112, d112, e112, f112, kv112, nw112, p112, q112, r112, s112, rfl⟩ := hP112
   refine WD.subH (hs' := _ :: _ :: _ :: _ :: _ :: _ :: (hq112)) (SubH.op (aG (N := [_]) (G := hq112) (K := [_, _, _, _, _]) (X := []))) ?_
   have kvk := kv112; rcases kv112 with ⟨rfl, hl⟩ | ⟨bk, obk, rfl, hr⟩
   ·have hlt : a < n := aY hla ha zy
    refine WD.q (zB ka (bz (zi 3) (bz rfl (bz rfl aq))) rfl rfl) (by simp [AV.beq, fN, cW, fy]) rfl (WD.store aL rfl rfl (j := 4) rfl (by first | rfl | exact aQ rfl ckA) (cs := [_, _, _, _, _, _, _, _, _, _, _]) rfl (hs' := _ :: _ :: _ :: _ :: _ :: _ :: _) rfl (fun h => by cases h) (WD.nil (End.K (W.sub (zc 2 rfl aI) (W.ret ?_)))))
    refine ad (ac (End.ret (zA rfl (zt 4 rfl) bh aL rfl ResL.nil) (hs' := pB X tb n a112 d112 e112 f112 true :: hq112) ⟨⟨3, (tg toks a).2.1, 0, .nils, 0, 0, 0, .nils, 0, false, .nils⟩, hq112, _, a112, d112, e112, f112, rfl, (NOk.of kvk (cQ hok zy).1 (Nat.le_trans (cQ hok (i := a) zy).2 (by decide)) AD Dz), nw112, zy, zy, zy, zy, rfl⟩ (ww nw112) gG))
   have hlt : a < n := aY hla ha zy
   refine WD.q (zB ka (bz (zi 3) (bz rfl (bz rfl aq))) rfl rfl) (by simp [AV.beq, fN, cW, fy]) rfl (WD.store aL rfl rfl (j := 4) rfl (by first | rfl | exact aQ rfl ckA) (cs := [_, _, _, _, _, _, _, _, _, _, _]) rfl (hs' := _ :: _ :: _ :: _ :: _ :: _ :: _) rfl (fun h => by cases h) (WD.nil (End.K (W.sub (zc 2 rfl aI) (W.ret ?_)))))
   refine ad (ac (End.ret (zA rfl (zt 4 rfl) bh aL rfl ResL.nil) (hs' := pB X tb n a112 d112 e112 f112 true :: hq112) ⟨⟨3, (tg toks a).2.1, 0, .nils, 0, 0, 0, .nils, 0, false, .slice bk 0 l112 11⟩, hq112, _, a112, d112, e112, f112, rfl, (NOk.of kvk (cQ hok zy).1 (Nat.le_trans (cQ hok (i := a) zy).2 (by decide)) AD Dz), nw112, zy, zy, zy, zy, rfl⟩ (ww nw112) gG))
  have hlt : a < n := aY hla ha zy
  refine W.skip (End.KB (End.K (zr (zm rfl (WO.call1 rfl (aD rfl oz) rfl (i := 4) rfl (qd toks n hn hnl hok tb ex X a zy dp e bd hla zy (.inl zy)) (SubR.one (zt 4 rfl)) (hs' := [_, _, _, _, _]) rfl rfl (fun v115 D115 hP115 => ?_))))))
  obtain ⟨hM115, ⟨ms115, rg115, of115, hms115, rfl⟩, a115, e115, f115, p115, q115, s115, rfl⟩ := hP115
  have hmc115 := hms115.cell
  refine WO.subH (hs' := _ :: _ :: _ :: _ :: _ :: _ :: (hM115)) (SubH.op (aG (N := [_]) (G := hM115) (K := [_, _, _, _, _]) (X := []))) (zS aL rfl rfl (i := 4) rfl (by first | rfl | exact aQ rfl ckA) rfl (hs' := _ :: _ :: _ :: _ :: _ :: _ :: _) rfl (zk (W.ret ?_)))
  refine End.ret (zA rfl (zt 4 rfl) bh aL rfl ResL.nil) (hs' := pB X tb n a115 dp e115 f115 true :: hM115) ⟨⟨(((2 : Nat) : Int)), [], 0, ms115, rg115, of115, 0, .nils, 0, false, .nils⟩, hM115, _, a115, dp, e115, f115, rfl, (NOk.of KVn.nil fZ (Nat.zero_le _) hms115.ok Dz), (hms115.w), zy, zy, zy, zy, rfl⟩ (ww (hms115.w)) gG
 have hlt : a < n := aY hla ha zy
 refine WD.gF rfl rfl (.inl rfl) rfl (WD.gF rfl rfl (.inl rfl) rfl (WD.gF rfl rfl (.inl rfl) rfl (WD.gF rfl rfl (.inr rfl) rfl (WD.gF rfl rfl (.inr rfl) rfl (WD.gF rfl rfl (.inl rfl) rfl (WD.gF rfl rfl (.inl rfl) rfl (WD.gF rfl rfl (.inr rfl) rfl (WD.gF rfl rfl (.inr rfl) rfl (WD.gF rfl rfl (.inl rfl) rfl (WD.q (ax rfl rfl) bw rfl (WD.q (Q.assign rfl) bw rfl (WD.nil (End.K (W.sub (zc 80 rfl (zc 3 rfl (zc 2 rfl (zc 0 rfl aI)))) (az rfl (zr (zm rfl (WO.callE rfl (aD rfl (aD (oc (v := .str [40]) (by kernel_rfl)) oz)) rfl (gv toks n hn hnl hok tb ex X a zy dp e bd _ (by unfold Bytes; decide)) (SubR.t (SubR.t (SubR.t (SubR.t SubR.two)))) rfl (fun v101 hP101 => ?_)))))))))))))))))))
 obtain ⟨ob101, rfl⟩ := hP101
 refine za rfl (zk (aE rfl (fun hc99 => ?_) (fun hc99 => ?_)))
 ·have hlt : a < n := aY hla ha zy
  refine zr (zm rfl (zq (aF rfl) (zf aZ rfl 1 (zq (ap rfl (zt 4 rfl) bU rfl) (zq (aa rfl (zi 1) rfl zp) (zq (aF rfl) (zf aZ rfl 1 (lM di rfl rfl (i := 4) rfl rfl rfl (hs' := [_, _, _, _, _, _]) rfl (zk (W.seq (eC 4 [⟨b2, _, false⟩] (by kernel_rfl) (KIn.cons (zt 2 rfl) KIn.nil) (WD.q (Q.fieldAddr dX rfl (o' := 1) rfl) iF rfl (WD.q (ap rfl (zt 0 rfl) fW rfl) eD rfl (WD.q (Q.move rfl) iF rfl (WD.call1 rfl (aD rfl (aD rfl oz)) rfl (j := 4) rfl ((hI (a + 1) dp e bd zy).2.2.2.2 _ (by unfold mz; (repeat' split) <;> omega)) (SubR.one (zt 4 rfl)) (hs' := [_, _, _, _, _]) rfl (KIn.cons (zt 2 rfl) KIn.nil) rfl (fun v112 D112 hP112 => ?_))))))))))))))))
  obtain ⟨l112, hq112, m112, a112, d112, e112, f112, kv112, nw112, p112, q112, r112, s112, rfl⟩ := hP112
  refine WD.subH (hs' := _ :: _ :: _ :: _ :: _ :: _ :: (hq112)) (SubH.op (aG (N := [_]) (G := hq112) (K := [_, _, _, _, _]) (X := []))) ?_
  have kvk := kv112; rcases kv112 with ⟨rfl, hl⟩ | ⟨bk, obk, rfl, hr⟩
  ·have hlt : a < n := aY hla ha zy
   refine WD.q (zB ka (bz (zi 3) (bz rfl (bz rfl aq))) rfl rfl) (by simp [AV.beq, fN, cW, fy]) rfl (WD.store aL rfl rfl (j := 4) rfl (by first | rfl | exact aQ rfl ckA) (cs := [_, _, _, _, _, _, _, _, _, _, _]) rfl (hs' := _ :: _ :: _ :: _ :: _ :: _ :: _) rfl (fun h => by cases h) (WD.nil (End.K (W.sub (zc 2 rfl aI) (W.ret ?_)))))
   refine ad (ac (End.ret (zA rfl (zt 4 rfl) bh aL rfl ResL.nil) (hs' := pB X tb n a112 d112 e112 f112 true :: hq112) ⟨⟨3, (tg toks a).2.1, 0, .nils, 0, 0, 0, .nils, 0, false, .nils⟩, hq112, _, a112, d112, e112, f112, rfl, (NOk.of kvk (cQ hok zy).1 (Nat.le_trans (cQ hok (i := a) zy).2 (by decide)) AD Dz), nw112, zy, zy, zy, zy, rfl⟩ (ww nw112) gG))
  have hlt : a < n := aY hla ha zy
  refine WD.q (zB ka (bz (zi 3) (bz rfl (bz rfl aq))) rfl rfl) (by simp [AV.beq, fN, cW, fy]) rfl (WD.store aL rfl rfl (j := 4) rfl (by first | rfl | exact aQ rfl ckA) (cs := [_, _, _, _, _, _, _, _, _, _, _]) rfl (hs' := _ :: _ :: _ :: _ :: _ :: _ :: _) rfl (fun h => by cases h) (WD.nil (End.K (W.sub (zc 2 rfl aI) (W.ret ?_)))))
  refine ad (ac (End.ret (zA rfl (zt 4 rfl) bh aL rfl ResL.nil) (hs' := pB X tb n a112 d112 e112 f112 true :: hq112) ⟨⟨3, (tg toks a).2.1, 0, .nils, 0, 0, 0, .nils, 0, false, .slice bk 0 l112 11⟩, hq112, _, a112, d112, e112, f112, rfl, (NOk.of kvk (cQ hok zy).1 (Nat.le_trans (cQ hok (i := a) zy).2 (by decide)) AD Dz), nw112, zy, zy, zy, zy, rfl⟩ (ww nw112) gG))
 have hlt : a < n := aY hla ha zy
 refine W.skip (End.KB (End.K (zr (zm rfl (WO.call1 rfl (aD rfl oz) rfl (i := 4) rfl (qd toks n hn hnl hok tb ex X a zy dp e bd hla zy (.inl zy)) (SubR.one (zt 4 rfl)) (hs' := [_, _, _, _, _]) rfl rfl (fun v115 D115 hP115 => ?_))))))
 obtain ⟨hM115, ⟨ms115, rg115, of115, hms115, rfl⟩, a115, e115, f115, p115, q115, s115, rfl⟩ := hP115
 have hmc115 := hms115.cell
 refine WO.subH (hs' := _ :: _ :: _ :: _ :: _ :: _ :: (hM115)) (SubH.op (aG (N := [_]) (G := hM115) (K := [_, _, _, _, _]) (X := []))) (zS aL rfl rfl (i := 4) rfl (by first | rfl | exact aQ rfl ckA) rfl (hs' := _ :: _ :: _ :: _ :: _ :: _ :: _) rfl (zk (W.ret ?_)))
 refine End.ret (zA rfl (zt 4 rfl) bh aL rfl ResL.nil) (hs' := pB X tb n a115 dp e115 f115 true :: hM115) ⟨⟨(((2 : Nat) : Int)), [], 0, ms115, rg115, of115, 0, .nils, 0, false, .nils⟩, hM115, _, a115, dp, e115, f115, rfl, (NOk.of KVn.nil fZ (Nat.zero_le _) hms115.ok Dz), (hms115.w), zy, zy, zy, zy, rfl⟩ (ww (hms115.w)) gG
end Go.Proofs.YtndhhgbpcmfeiaaGreatDoor.Ev.P16
