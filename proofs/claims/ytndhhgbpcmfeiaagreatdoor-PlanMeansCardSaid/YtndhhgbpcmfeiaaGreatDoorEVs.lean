/- Chapter 16, by the document: expressions. -/
import Derived.Test.YtndhhgbpcmfeiaaGreatDoorEVr
namespace Go.Proofs.YtndhhgbpcmfeiaaGreatDoor.Ev.P16
open Go.RowKit
set_option maxRecDepth 100000
set_option maxHeartbeats 1000000
theorem WD.subH {tb : Tab} {n m i : Nat} {ops rest : List Oper} {keep : HSt} {E : Env} {s : St} {hs hs' : HSt} {R : T AV → AHeap → Prop} (h : SubH hs' hs) (g : WD tb n ops keep m i rest E s hs' R) : WD tb n ops keep m i rest E s hs R :=
 fun tm hp ht hh hk => g tm hp ht (hh.sub h) hk
theorem WD.call0 {tb : Tab} {n m i : Nat} {ops rest : List Oper} {keep : HSt} {E : Env} {s : St} {hs : HSt} {R : T AV → AHeap → Prop} {d : Nat} {ty : TypeId} {pos : String} {aft : Array Edge} {of : Operand} {args : List Operand} {ts : Array TypeId} {g : Nat} {caps l l' : List AV} {hsc : HSt} {Post : AV → HSt → Prop}
  (hf : oL s of = some (.func g caps)) (ha : oLs s args = some l) (hl : l ++ caps = l') (hsp : Spec tb g l' [] hsc Post) (hsub : SubR hsc hs) (hkp : KIn keep hs) (hd : Nat.blt d n = true) (hk : ∀ v D, Post v D → WD tb n ops keep m (i + 1) rest E ((d, v) :: s) (D ++ hs) R) :
  WD tb n ops keep m i (⟨some d, .call ⟨.value of, args.toArray, ts⟩, ty, pos, aft, none⟩ :: rest) E s hs R :=
 WD.l (C := fun v hq => ∃ D, Post v D ∧ hq = D ++ hs) (fun tm h r e => by cases e) (fun R hR => WO.call0 hf ha hl hsp hsub hd fun v D h => WO.nil (hR _ _ ⟨D, h, rfl⟩))
  (fun v hq ⟨D, _, h2⟩ _ => by subst h2; exact fun e he => let ⟨w, hm⟩ := hkp e he; ⟨w, List.mem_append_right _ hm⟩) (fun v hq ⟨D, h1, h2⟩ => by subst h2; exact hk v D h1)
theorem perm_tailO {N G K X O : HSt} (h : O.Perm (X ++ G)) : ((N ++ K) ++ O).Perm ((N ++ G) ++ (K ++ X)) := (List.Perm.append_left _ h).trans perm_tail
structure NodT where
 k : Int
 op : List Nat
 n : Int
 ms : AV
 rg : Int
 off : Int
 md : Int
 nm : AV
 sd : Int
 bl : Bool
 kd : AV
abbrev nC (x : NodT) : List AV := nodeC x.k x.op x.n x.ms x.rg x.off x.md x.nm x.sd x.bl x.kd
def MsOK (hs : HSt) (v : AV) : Prop := ∃ M : List MtT, ISm hs M v ∧ MOk M ∧ M.length ≤ 1048576
def NmOK (hs : HSt) (v : AV) : Prop := ∃ N : List (List Nat), ((v = .nils ∧ N = []) ∨ ∃ b ex, v = .slice b 0 N.length 1 ∧ MemH hs b ⟨1, ex, N.map AV.str⟩) ∧ (∀ x ∈ N, Bytes x) ∧ N.length ≤ 2097152
theorem MsOK.cell {hs : HSt} {v : AV} (h : MsOK hs v) : v.isCell = true := by
 obtain ⟨M, ⟨rfl, _⟩ | ⟨b, ex, rfl, _⟩, _⟩ := h <;> rfl
theorem NmOK.cell {hs : HSt} {v : AV} (h : NmOK hs v) : v.isCell = true := by
 obtain ⟨M, ⟨rfl, _⟩ | ⟨b, ex, rfl, _⟩, _⟩ := h <;> rfl
theorem MsOK.mono {hs hs' : HSt} {v : AV} (hm : ∀ b o, MemH hs b o → MemH hs' b o) (h : MsOK hs v) : MsOK hs' v := let ⟨M, h1, h2⟩ := h; ⟨M, h1.imp id fun ⟨b, ex, e1, e2⟩ => ⟨b, ex, e1, hm _ _ e2⟩, h2⟩
theorem NmOK.mono {hs hs' : HSt} {v : AV} (hm : ∀ b o, MemH hs b o → MemH hs' b o) (h : NmOK hs v) : NmOK hs' v := let ⟨M, h1, h2⟩ := h; ⟨M, h1.imp id fun ⟨b, ex, e1, e2⟩ => ⟨b, ex, e1, hm _ _ e2⟩, h2⟩
theorem ms0 {hs : HSt} : MsOK hs .nils := ⟨[], .inl ⟨rfl, rfl⟩, fun x hx => by simp at hx, by simp⟩
theorem nm0 {hs : HSt} : NmOK hs .nils := ⟨[], .inl ⟨rfl, rfl⟩, fun x hx => by simp at hx, by simp⟩
theorem MsR.ok {hM : HSt} {v : AV} (h : MsR hM v) : MsOK hM v := let ⟨M, h1, h2⟩ := h; ⟨M, own_ism h1, h2⟩
theorem NmR.ok {hN : HSt} {v : AV} (h : NmR hN v) : NmOK hN v := by
 obtain ⟨N, h1, h2⟩ := h
 refine ⟨N, ?_, h2⟩
 rcases h1 with ⟨h1, _, rfl, _⟩ | ⟨b, ex, rfl, rfl, _⟩
 ·exact .inl ⟨rfl, List.length_eq_zero_iff.1 h1⟩
 ·exact .inr ⟨b, ex, rfl, true, List.mem_cons_self⟩
def sumN (f : Nat → Nat) : Nat → Nat
 | 0 => 0
 | n + 1 => sumN f n + f n
theorem sumN_congr {f g : Nat → Nat} : ∀ {n : Nat}, (∀ i, i < n → f i = g i) → sumN f n = sumN g n
 | 0, _ => rfl
 | n + 1, h => by rw [sumN, sumN, sumN_congr fun i hi => h i zy, h n zy]
def RRep (hs : HSt) : Nat → List AV → Nat → Prop
 | 0, _, _ => False
 | d + 1, c, m => 0 < m ∧ ∃ k op n ms rg off md nm sd bl kd, c = nodeC k op n ms rg off md nm sd bl kd ∧ Bytes op ∧ (op.length ≤ 1048576 ∧ 0 ≤ k ∧ k ≤ 6) ∧ MsOK hs ms ∧ NmOK hs nm ∧
   (kd = .nils ∨ ∃ b len ob, kd = .slice b 0 len 11 ∧ MemH hs b ob ∧ len ≤ 1048576 ∧ ob.cells.length = len * 11 ∧ ∃ f : Nat → Nat, sumN f len + 1 ≤ m ∧ ∀ i, i < len → ∃ c', sub? ob.cells ((0 + i) * 11) 11 = some c' ∧ RRep hs d c' (f i))
theorem RRep.mono {hs hs' : HSt} (hm : ∀ b o, MemH hs b o → MemH hs' b o) : ∀ {d : Nat} {c : List AV} {m : Nat}, RRep hs d c m → RRep hs' d c m
 | 0, _, _, h => h
 | d + 1, c, m, ⟨h0, k, op, n, ms, rg, off, md, nm, sd, bl, kd, h1, h2, h3, h5, h6, h4⟩ => ⟨h0, k, op, n, ms, rg, off, md, nm, sd, bl, kd, h1, h2, h3, h5.mono hm, h6.mono hm, h4.imp id fun ⟨b, len, ob, g1, g2, g3, g5, f, g6, g4⟩ =>
   ⟨b, len, ob, g1, hm _ _ g2, g3, g5, f, g6, fun i hi => let ⟨c', e1, e2⟩ := g4 i hi; ⟨c', e1, RRep.mono hm e2⟩⟩⟩
theorem RRep.succ {hs : HSt} : ∀ {d : Nat} {c : List AV} {m : Nat}, RRep hs d c m → RRep hs (d + 1) c m
 | 0, _, _, h => h.elim
 | d + 1, c, m, ⟨h0, k, op, n, ms, rg, off, md, nm, sd, bl, kd, h1, h2, h3, h5, h6, h4⟩ => ⟨h0, k, op, n, ms, rg, off, md, nm, sd, bl, kd, h1, h2, h3, h5, h6, h4.imp id fun ⟨b, len, ob, g1, g2, g3, g5, f, g6, g4⟩ =>
   ⟨b, len, ob, g1, g2, g3, g5, f, g6, fun i hi => let ⟨c', e1, e2⟩ := g4 i hi; ⟨c', e1, RRep.succ e2⟩⟩⟩
theorem RRep.le {hs : HSt} {d : Nat} {c : List AV} {m : Nat} (h : RRep hs d c m) : ∀ {d' : Nat}, d ≤ d' → RRep hs d' c m := by
 intro d' hd
 induction hd with
 | refl => exact h
 | step _ ih => exact ih.succ
theorem RRep.nrep {hs : HSt} : ∀ {d : Nat} {c : List AV} {m : Nat}, RRep hs d c m → NRep hs d c
 | 0, _, _, h => h
 | d + 1, c, m, ⟨_, k, op, n, ms, rg, off, md, nm, sd, bl, kd, h1, h2, h3, h5, h6, h4⟩ => ⟨k, op, n, ms, rg, off, md, nm, sd, bl, kd, h1, h2, Nat.le_trans h3.1 (by decide), h5.cell, h6.cell, h4.imp id fun ⟨b, len, ob, g1, g2, g3, g5, f, g6, g4⟩ =>
   ⟨b, len, ob, g1, g2, g3, fun i hi => let ⟨c', e1, e2⟩ := g4 i hi; ⟨c', e1, e2.nrep⟩⟩⟩
structure NOk (hs : HSt) (x : NodT) (m : Nat) : Prop where
 nr : ∃ d, RRep hs d (nC x) m
 op : Bytes x.op
 ms : x.ms.isCell = true
 nm : x.nm.isCell = true
 kd : x.kd.isCell = true
def KVn (hs : HSt) (len : Nat) (v : AV) (m : Nat) : Prop := (v = .nils ∧ len = 0) ∨ ∃ b ob, v = .slice b 0 len 11 ∧ MemH hs b ob ∧ len ≤ 1048576 ∧ ob.cells.length = len * 11 ∧ ∃ (d : Nat) (f : Nat → Nat), sumN f len ≤ m ∧ ∀ i, i < len → ∃ c', sub? ob.cells ((0 + i) * 11) 11 = some c' ∧ RRep hs d c' (f i)
theorem KVn.nil {hs : HSt} : KVn hs 0 .nils 0 := .inl ⟨rfl, rfl⟩
theorem KVn.cell {hs : HSt} {len m : Nat} {v : AV} (h : KVn hs len v m) : v.isCell = true := by
 rcases h with ⟨rfl, _⟩ | ⟨b, ob, rfl, _⟩ <;> rfl
theorem kv_len {hs : HSt} {len e m : Nat} {v : AV} (h : KVn hs len v m) : lenA (.slice e) v = some len := by
 rcases h with ⟨rfl, rfl⟩ | ⟨b, ob, rfl, _⟩ <;> rfl
theorem NOk.of {hs : HSt} {len mz : Nat} {k : Int} {op : List Nat} {n : Int} {ms : AV} {rg off md : Int} {nm : AV} {sd : Int} {bl : Bool} {kd : AV} (h : KVn hs len kd mz) (ho : Bytes op) (hl : op.length ≤ 1048576) (hms : MsOK hs ms) (hnm : NmOK hs nm) (hkk : 0 ≤ k ∧ k ≤ 6 := by first | decide | omega) :
  NOk hs ⟨k, op, n, ms, rg, off, md, nm, sd, bl, kd⟩ (mz + 1) := by
 refine ⟨?_, ho, hms.cell, hnm.cell, h.cell⟩
 rcases h with ⟨rfl, rfl⟩ | ⟨b, ob, rfl, hm, hle, hcl, d, f, hf, hd⟩
 ·exact ⟨1, Nat.succ_pos _, k, op, n, ms, rg, off, md, nm, sd, bl, .nils, rfl, ho, ⟨hl, hkk⟩, hms, hnm, .inl rfl⟩
 ·exact ⟨d + 1, Nat.succ_pos _, k, op, n, ms, rg, off, md, nm, sd, bl, _, rfl, ho, ⟨hl, hkk⟩, hms, hnm, .inr ⟨b, len, ob, rfl, hm, hle, hcl, f, Nat.succ_le_succ hf, hd⟩⟩
theorem nil_bytes : Bytes [] := by intro c h; simp at h
theorem NOk.zero {hs : HSt} : NOk hs ⟨0, [], 0, .nils, 0, 0, 0, .nils, 0, false, .nils⟩ 1 := NOk.of KVn.nil nil_bytes (Nat.zero_le _) ms0 nm0
theorem MemH.up {hs hs' : HSt} (h : ∀ e ∈ hs, e ∈ hs') : ∀ b o, MemH hs b o → MemH hs' b o := fun b o ⟨w, hm⟩ => ⟨w, h _ hm⟩
theorem MemH.hd {hs : HSt} {b : Nat} {o : AObj} {w : Bool} : MemH (⟨b, o, w⟩ :: hs) b o := ⟨w, List.mem_cons_self⟩
theorem NOk.up {hs hs' : HSt} {x : NodT} {m : Nat} (h : NOk hs x m) (g : ∀ e ∈ hs, e ∈ hs') : NOk hs' x m := ⟨let ⟨d, hd⟩ := h.nr; ⟨d, hd.mono (MemH.up g)⟩, h.op, h.ms, h.nm, h.kd⟩
theorem NOk.tl {hs : HSt} {x : NodT} {m : Nat} {e : HE} (h : NOk hs x m) : NOk (e :: hs) x m := h.up fun _ h => List.mem_cons_of_mem _ h
theorem nC_sub {x : NodT} : sub? (nC x) ((0 + 0) * 11) 11 = some (nC x) := rfl
theorem KVn.up {hs hs' : HSt} {len m : Nat} {v : AV} (h : KVn hs len v m) (g : ∀ e ∈ hs, e ∈ hs') : KVn hs' len v m := h.imp id fun ⟨b, ob, h1, h2, h3, h4, d, f, h6, h5⟩ => ⟨b, ob, h1, MemH.up g _ _ h2, h3, h4, d, f, h6, fun i hi => let ⟨c', e1, e2⟩ := h5 i hi; ⟨c', e1, e2.mono (MemH.up g)⟩⟩
theorem MsOK.up {hs hs' : HSt} {v : AV} (h : MsOK hs v) (g : ∀ e ∈ hs, e ∈ hs') : MsOK hs' v := h.mono (MemH.up g)
theorem NmOK.up {hs hs' : HSt} {v : AV} (h : NmOK hs v) (g : ∀ e ∈ hs, e ∈ hs') : NmOK hs' v := h.mono (MemH.up g)
theorem KVn.one {hs : HSt} {b m : Nat} {ex : Bool} {x : NodT} (h : NOk hs x m) (hm : MemH hs b ⟨11, ex, nC x⟩) : KVn hs 1 (.slice b 0 1 11) m := by
 obtain ⟨d, hd⟩ := h.nr
 refine .inr ⟨b, _, rfl, hm, by decide, rfl, d, fun _ => m, by simp [sumN], fun i hi => ?_⟩
 have : i = 0 := by omega
 subst this
 exact ⟨_, nC_sub, hd⟩
theorem KVn.two {hs : HSt} {b m k : Nat} {ex : Bool} {x y : NodT} (h : NOk hs x m) (g : NOk hs y k) (hm : MemH hs b ⟨11, ex, nC x ++ nC y⟩) : KVn hs 2 (.slice b 0 2 11) (m + k) := by
 obtain ⟨d, hd⟩ := h.nr
 obtain ⟨d', hd'⟩ := g.nr
 refine .inr ⟨b, _, rfl, hm, by decide, rfl, max d d', fun i => if i = 0 then m else k, by simp [sumN], fun i hi => ?_⟩
 rcases Nat.lt_or_ge i 1 with h1 | h1
 ·have : i = 0 := by omega
  subst this
  exact ⟨nC x, rfl, hd.le (Nat.le_max_left _ _)⟩
 ·have : i = 1 := by omega
  subst this
  exact ⟨nC y, rfl, hd'.le (Nat.le_max_right _ _)⟩
def KN (hs : HSt) (cs : List AV) (len m : Nat) : Prop := ∃ (d : Nat) (f : Nat → Nat), sumN f len ≤ m ∧ ∀ i, i < len → ∃ c', sub? cs ((0 + i) * 11) 11 = some c' ∧ RRep hs d c' (f i)
theorem KN.nil {hs : HSt} : KN hs [] 0 0 := ⟨0, fun _ => 0, Nat.le_refl _, fun i h => absurd h (Nat.not_lt_zero _)⟩
theorem sub_left {A B c : List AV} {o m : Nat} (h : sub? A o m = some c) : sub? (A ++ B) o m = some c := by
 unfold sub? at h ⊢
 split at h
 ·rename_i hb
  have hb := Nat.ble_eq.mp hb
  have h1 : Nat.ble (o + m) (A ++ B).length = true := Nat.ble_eq.mpr (by rw [List.length_append]; omega)
  simp only [h1]
  rw [← h]
  congr 1
  rw [List.drop_append_of_le_length zy, List.take_append_of_le_length (by rw [List.length_drop]; omega)]
 ·cases h
theorem sub_right {A B : List AV} {o m : Nat} (h : A.length = o) (g : B.length = m) : sub? (A ++ B) o m = some B := by
 unfold sub?
 have h1 : Nat.ble (o + m) (A ++ B).length = true := Nat.ble_eq.mpr (by rw [List.length_append]; omega)
 simp only [h1]
 subst h g
 simp
theorem KN.snoc {hs hq : HSt} {cs : List AV} {len m k : Nat} {x : NodT} (h : KN hs cs len m) (hl : cs.length = len * 11) (g : NOk hq x k) : KN (hs ++ hq) (cs ++ nC x) (len + 1) (m + k) := by
 obtain ⟨d, f, hf, hd⟩ := h
 obtain ⟨d', hd'⟩ := g.nr
 refine ⟨max d d', fun i => if i < len then f i else k, ?_, fun i hi => ?_⟩
 ·rw [sumN, sumN_congr (g := f) fun i hi => if_pos hi, if_neg (Nat.lt_irrefl _)]; omega
 rcases Nat.lt_or_ge i len with h1 | h1
 ·obtain ⟨c', e1, e2⟩ := hd i h1
  simp only [h1, ↓reduceIte]
  exact ⟨c', sub_left e1, (e2.mono (MemH.up fun e he => List.mem_append_left _ he)).le (Nat.le_max_left _ _)⟩
 ·have : i = len := by omega
  subst this
  simp only [Nat.lt_irrefl, ↓reduceIte]
  exact ⟨nC x, sub_right zy rfl, (hd'.mono (MemH.up fun e he => List.mem_append_right _ he)).le (Nat.le_max_right _ _)⟩
theorem own_kvn {cs : List AV} {len m : Nat} {v : AV} {hp hN : HSt} (h : Own 11 cs len v hp) (g : KN hN cs len m) (hl : len ≤ 1048576) : KVn (hN ++ hp) len v m := by
 have hlen := h.length
 rcases h with ⟨h1, _, rfl, _⟩ | ⟨b, ex, rfl, rfl, _⟩
 ·exact .inl ⟨rfl, h1⟩
 ·obtain ⟨d, f, hf, hd⟩ := g
  exact .inr ⟨b, ⟨11, ex, cs⟩, rfl, ⟨true, by simp⟩, hl, hlen, d, f, hf, fun i hi => let ⟨c', e1, e2⟩ := hd i hi; ⟨c', e1, e2.mono (MemH.up fun e he => List.mem_append_left _ he)⟩⟩
theorem ww {hq : HSt} {b : Nat} {o : AObj} (h : ∀ y ∈ hq, y.w = true) : ∀ y ∈ (⟨b, o, true⟩ : HE) :: hq, y.w = true := by
 intro y hy
 rcases List.mem_cons.1 hy with rfl | hy
 ·rfl
 ·exact h y hy
theorem no_wl : ∀ y ∈ ([] : HSt), y.w = true := by intro y hy; simp at hy
theorem ww_app {a b : HSt} (h : ∀ y ∈ a, y.w = true) (g : ∀ y ∈ b, y.w = true) : ∀ y ∈ a ++ b, y.w = true := fun y hy => (List.mem_append.1 hy).elim (h y) (g y)
theorem gsn {a c : HSt} (h : ∀ x, a.count x ≤ c.count x := by intro x; simp only [nC, nodeC, List.append_eq, List.cons_append, List.nil_append, List.count_append, List.count_cons, List.count_nil]; omega) : SubH a c := SubH.of_count h
theorem ckA {k : Int} {op : List Nat} {n : Int} {ms : AV} {rg off md : Int} {nm : AV} {sd : Int} {bl : Bool} {kd : AV} (hms : ms.isCell = true := by first | rfl | assumption | exact (NOk.ms (by assumption)) | exact (NOk.nm (by assumption)) | exact (NOk.kd (by assumption)) | exact (KVn.cell (by assumption))) (hnm : nm.isCell = true := by first | rfl | assumption | exact (NOk.ms (by assumption)) | exact (NOk.nm (by assumption)) | exact (NOk.kd (by assumption)) | exact (KVn.cell (by assumption)))
  (hkd : kd.isCell = true := by first | rfl | assumption | exact (NOk.ms (by assumption)) | exact (NOk.nm (by assumption)) | exact (NOk.kd (by assumption)) | exact (KVn.cell (by assumption))) : (nodeC k op n ms rg off md nm sd bl kd).all AV.isCell = true := node_cells hms hnm hkd
def mz (n a : Nat) (e : Int) : Nat := if e = 0 then n + 1 - a else 0
def NP (n tb X a : Nat) (e : Int) (v : AV) (D : HSt) : Prop := ∃ (x : NodT) (hq : HSt) (m a2 : Nat) (dp2 e2 bd2 : Int), v = .agg (nC x) ∧ NOk hq x m ∧ (∀ y ∈ hq, y.w = true) ∧ a ≤ a2 ∧ a2 ≤ n ∧ (e ≠ 0 → e2 = e ∧ a2 = a) ∧ (e2 = 0 → e = 0 ∧ a < a2 ∧ m + a ≤ a2) ∧
 D = ⟨X, ⟨5, true, [.slice tb 0 (n + 1) 4, .int .i64 ((a2 : Nat) : Int), .int .i64 dp2, .int .i64 e2, .int .i64 bd2]⟩, true⟩ :: hq
def PP (n tb X a : Nat) (e : Int) (v : AV) (D : HSt) : Prop := ∃ (len : Nat) (hq : HSt) (m a2 : Nat) (dp2 e2 bd2 : Int), KVn hq len v m ∧ (∀ y ∈ hq, y.w = true) ∧ a ≤ a2 ∧ a2 ≤ n ∧ (e ≠ 0 → e2 = e ∧ a2 = a) ∧ (e2 = 0 → e = 0 ∧ a < a2 ∧ m + a ≤ a2) ∧
 D = ⟨X, ⟨5, true, [.slice tb 0 (n + 1) 4, .int .i64 ((a2 : Nat) : Int), .int .i64 dp2, .int .i64 e2, .int .i64 bd2]⟩, true⟩ :: hq
def PIH (toks : List TokT) (n tb : Nat) (ex : Bool) (X m : Nat) : Prop := ∀ (a : Nat) (dp e bd : Int), a ≤ n →
 (∀ l : Nat, l ≤ 5 → mz n a e * 20 + (9 - l) < m → Spec tab 31 [.ptr X 0, .int .i64 ((l : Nat) : Int)] [X] [⟨X, ⟨5, true, [.slice tb 0 (n + 1) 4, .int .i64 ((a : Nat) : Int), .int .i64 dp, .int .i64 e, .int .i64 bd]⟩, true⟩, ⟨tb, ⟨4, ex, tokCs toks⟩, false⟩] (NP n tb X a e)) ∧ (mz n a e * 20 + 3 < m → Spec tab 56 [.ptr X 0] [X] [⟨X, ⟨5, true, [.slice tb 0 (n + 1) 4, .int .i64 ((a : Nat) : Int), .int .i64 dp, .int .i64 e, .int .i64 bd]⟩, true⟩, ⟨tb, ⟨4, ex, tokCs toks⟩, false⟩] (NP n tb X a e)) ∧ (mz n a e * 20 + 2 < m → Spec tab 89 [.ptr X 0] [X] [⟨X, ⟨5, true, [.slice tb 0 (n + 1) 4, .int .i64 ((a : Nat) : Int), .int .i64 dp, .int .i64 e, .int .i64 bd]⟩, true⟩, ⟨tb, ⟨4, ex, tokCs toks⟩, false⟩] (NP n tb X a e)) ∧
 (e = 0 → (tg toks a).1 = 1 → mz n a e * 20 + 1 < m → Spec tab 131 [.ptr X 0] [X] [⟨X, ⟨5, true, [.slice tb 0 (n + 1) 4, .int .i64 ((a : Nat) : Int), .int .i64 dp, .int .i64 e, .int .i64 bd]⟩, true⟩, ⟨tb, ⟨4, ex, tokCs toks⟩, false⟩] (NP n tb X a e)) ∧ (∀ bn : Bool, mz n a e * 20 + 0 < m → Spec tab 132 [.ptr X 0, .bool bn] [X] [⟨X, ⟨5, true, [.slice tb 0 (n + 1) 4, .int .i64 ((a : Nat) : Int), .int .i64 dp, .int .i64 e, .int .i64 bd]⟩, true⟩, ⟨tb, ⟨4, ex, tokCs toks⟩, false⟩] (PP n tb X a e))
theorem signed_spec (toks : List TokT) (n : Nat) (hn : toks.length = n + 1) (hnl : n ≤ 1048576) (hok : TokO toks) (tb : Nat) (ex : Bool) (X a : Nat) (ha : a ≤ n) (dp e bd : Int) (hla : (tg toks n).1 = 6) (hI : PIH toks n tb ex X (mz n a e * 20 + 3)) : Spec tab 56 [.ptr X 0] [X] [⟨X, ⟨5, true, [.slice tb 0 (n + 1) 4, .int .i64 ((a : Nat) : Int), .int .i64 dp, .int .i64 e, .int .i64 bd]⟩, true⟩, ⟨tb, ⟨4, ex, tokCs toks⟩, false⟩] (NP n tb X a e) := by
 refine Spec.en (ftg 56 Tryz.func56) rfl (m := 39) rfl (rs := [.cell 2 26]) rfl (st := [(0, .ptr X 0)]) rfl rfl (fun _ => rfl) (fun E => zr (WO.alloc ao26 rfl (fun b1 => zk (W.seq (zr (zm rfl (WO.cV rfl (oLc rfl (oLc (oc (v := .str [45]) (by kernel_rfl)) oz)) rfl (is_spec toks n hn hnl hok tb ex X a zy dp e bd _ (by unfold Bytes; decide)) (SubR.t SubR.two) rfl (zq (Q.not rfl rfl) (zk (W.condS rfl (fun hc6 => ?_) (fun hc6 => ?_)))))))))))
 ·refine zr (zm rfl (WO.call1 rfl (oLc rfl oz) rfl (i := 1) rfl ((hI a dp e bd zy).2.2.1 (by unfold mz; (repeat' split) <;> omega)) (SubR.one (zt 1 rfl)) (hs' := [_, _]) rfl rfl (fun v8 D8 hP8 => ?_)))
  obtain ⟨x8, hq8, m8, a8, d8, e8, f8, rfl, nk8, nw8, p8, q8, r8, s8, rfl⟩ := hP8
  refine WO.subH (hs' := _ :: _ :: _ :: (hq8)) (SubH.op (perm_tail (N := [_]) (G := hq8) (K := [_, _]) (X := []))) (zS sz26 rfl rfl (i := 1) rfl (by first | rfl | exact and_tt rfl ckA) rfl (hs' := _ :: _ :: _ :: _) rfl (zk (W.ret ?_)))
  refine End.Kr (End.ret (zA rfl (zt 1 rfl) ag26 sz26 rfl ResL.nil) (hs' := ⟨X, ⟨5, true, [.slice tb 0 (n + 1) 4, .int .i64 ((a8 : Nat) : Int), .int .i64 d8, .int .i64 e8, .int .i64 f8]⟩, true⟩ :: hq8) ⟨x8, hq8, _, a8, d8, e8, f8, rfl, nk8, nw8, zy, zy, zy, zy, rfl⟩ (ww nw8) gsn)
 have hv := isV_t (by simpa using hc6)
 have hlt : a < n := lt_last hla ha zy
 refine zw (zr (zm rfl (zm rfl (WO.cV rfl (oLc rfl oz) rfl (now_spec toks n hn hnl hok tb ex X a zy dp e bd) (SubR.t SubR.two) rfl (zq (Q.field1 ft67_3 rfl rfl) (WO.call1 rfl (oLc rfl (oLc rfl oz)) rfl (i := 1) rfl (enter_spec n tb X a dp e bd _) SubR.nil (hs' := [_, _]) rfl rfl (fun v13 D13 hP13 => ?_)))))))
 obtain ⟨rfl, d13, e13, f13, g13, h13, rfl⟩ := hP13
 refine zk (W.seq (zr (zm rfl (zq (Q.nilP rfl) (zf fa64_3 rfl 3 (zq (Q.l1 rfl (zt 0 rfl) ag3 rfl) (zq (Q.bin rfl (zi 0) rfl (bv_neq ne_int)) (zk (W.cD rfl (fun hc18 => ?_) (fun hc18 => ?_))))))))))
 ·refine zr (zq (zB pl26 oPs_nil rfl rfl) (zS sz26 rfl rfl (i := 1) rfl (by first | rfl | exact and_tt rfl ckA) rfl (hs' := [_, _, _]) rfl (zk (W.sub (zc 2 rfl zzn) (W.ret ?_)))))
  refine End.Kr (End.ret (zA rfl (zt 1 rfl) ag26 sz26 rfl ResL.nil) (hs' := ⟨X, ⟨5, true, [.slice tb 0 (n + 1) 4, .int .i64 ((a : Nat) : Int), .int .i64 d13, .int .i64 e13, .int .i64 f13]⟩, true⟩ :: []) ⟨⟨0, [], 0, .nils, 0, 0, 0, .nils, 0, false, .nils⟩, [], _, a, d13, e13, f13, rfl, NOk.zero, (no_wl), zy, zy, zy, zy, rfl⟩ (ww (no_wl)) gsn)
 refine zw (zr (zm rfl (zq (Q.nilP rfl) (zf fa64_1 rfl 1 (zq (Q.l1 rfl (zt 0 rfl) ag3 rfl) (zq (Q.bin rfl (zi 1) rfl zp) (zq (Q.nilP rfl) (zf fa64_1 rfl 1 (zS5 sz3 rfl rfl (i := 0) rfl rfl rfl (hs' := [_, _, _]) rfl (zk (W.sub (zc 2 rfl (zc 0 rfl zzn)) (zr (zm rfl (WO.call1 rfl (oLc rfl oz) rfl (i := 0) rfl ((hI (a + 1) d13 e13 f13 zy).2.1 (by unfold mz; (repeat' split) <;> omega)) (SubR.one (zt 1 rfl)) (hs' := [_, _]) rfl rfl (fun v28 D28 hP28 => ?_)))))))))))))))
 obtain ⟨x28, hq28, m28, a28, d28, e28, f28, rfl, nk28, nw28, p28, q28, r28, s28, rfl⟩ := hP28
 refine WO.subH (hs' := _ :: _ :: _ :: (hq28)) (SubH.op (perm_tail (N := [_]) (G := hq28) (K := [_, _]) (X := []))) (WO.bslice ud24 sz26 zr26 rfl (opc rfl oPs_nil) rfl (cs := [_, _, _, _, _, _, _, _, _, _, _]) rfl ckA rfl (fun b2 => zq (zB pl26 (opc (zi 6) (opc rfl oPs_nil)) rfl rfl) (WO.alloc ao26 rfl (fun b3 => zS sz26 rfl rfl (i := 0) rfl (by first | rfl | exact and_tt rfl ckA) rfl (hs' := _ :: _ :: _ :: _ :: _ :: _) rfl (zk (zr (zm rfl (zq (Q.nilP rfl) (zf fa64_2 rfl 2 (zq (Q.l1 rfl (zt 2 rfl) ag3 rfl) (zq (Q.bin rfl (zi 1) rfl (bv_sub rfl)) (zq (Q.nilP rfl) (zf fa64_2 rfl 2 (zS5 sz3 rfl rfl (i := 2) rfl rfl rfl (hs' := _ :: _ :: _ :: _ :: _ :: _) rfl (zk (zr (zq (zL rfl (zt 0 rfl) ag26 sz26 rfl) (zS sz26 rfl rfl (i := 3) rfl (by first | rfl | exact and_tt rfl ckA) rfl (hs' := _ :: _ :: _ :: _ :: _ :: _) rfl (zk (W.sub (zc 2 rfl zzn) (W.ret ?_)))))))))))))))))))))
 refine End.ret (zA rfl (zt 3 rfl) ag26 sz26 rfl ResL.nil) (hs' := ⟨X, ⟨5, true, [.slice tb 0 (n + 1) 4, .int .i64 ((a28 : Nat) : Int), .int .i64 (IntKind.i64.wrap (d28 - ((1 : Nat) : Int))), .int .i64 e28, .int .i64 f28]⟩, true⟩ :: (⟨b2, ⟨11, true, nC x28⟩, true⟩ :: hq28)) ⟨⟨6, [], 0, .nils, 0, 0, 0, .nils, 0, false, .slice b2 0 1 11⟩, (⟨b2, ⟨11, true, nC x28⟩, true⟩ :: hq28), _, a28, (IntKind.i64.wrap (d28 - ((1 : Nat) : Int))), e28, f28, rfl, (NOk.of (KVn.one nk28.tl (MemH.hd)) nil_bytes (Nat.zero_le _) ms0 nm0), (ww nw28), zy, zy, zy, zy, rfl⟩ (ww (ww nw28)) gsn

theorem patom_spec (toks : List TokT) (n : Nat) (hn : toks.length = n + 1) (hnl : n ≤ 1048576) (hok : TokO toks) (tb : Nat) (ex : Bool) (X a : Nat) (ha : a ≤ n) (dp e bd : Int) (hla : (tg toks n).1 = 6) (hI : PIH toks n tb ex X (mz n a e * 20 + 2)) : Spec tab 89 [.ptr X 0] [X] [⟨X, ⟨5, true, [.slice tb 0 (n + 1) 4, .int .i64 ((a : Nat) : Int), .int .i64 dp, .int .i64 e, .int .i64 bd]⟩, true⟩, ⟨tb, ⟨4, ex, tokCs toks⟩, false⟩] (NP n tb X a e) := by
 refine Spec.en (ftg 89 Tryz.func89) rfl (m := 116) rfl (rs := [.cell 2 26]) rfl (st := [(0, .ptr X 0)]) rfl rfl (fun _ => rfl) (fun E => zr (WO.alloc ao26 rfl (fun b1 => zk (zr (zm rfl (WO.cV rfl (oLc rfl oz) rfl (now_spec toks n hn hnl hok tb ex X a zy dp e bd) (SubR.t SubR.two) rfl (WO.alloc ao67 rfl (fun b2 => WO.store sz67 rfl rfl (i := 0) rfl rfl (cs := [_, _, _, _]) rfl (hs' := [_, _, _, _]) rfl (zk (W.seq (W.block (zr (zm rfl (zq (Q.nilP rfl) (zf fa64_3 rfl 3 (zq (Q.l1 rfl (zt 2 rfl) ag3 rfl) (zq (Q.bin rfl (zi 0) rfl (bv_neq ne_int)) (za rfl (zk (W.cD rfl (fun hc7 => ?_) (fun hc7 => ?_)))))))))))))))))))))
 ·refine zr (zq (zB pl26 oPs_nil rfl rfl) (zS sz26 rfl rfl (i := 1) rfl (by first | rfl | exact and_tt rfl ckA) rfl (hs' := [_, _, _, _]) rfl (zk (W.ret ?_))))
  refine End.Br (End.Kr (End.ret (zA rfl (zt 1 rfl) ag26 sz26 rfl ResL.nil) (hs' := ⟨X, ⟨5, true, [.slice tb 0 (n + 1) 4, .int .i64 ((a : Nat) : Int), .int .i64 dp, .int .i64 e, .int .i64 bd]⟩, true⟩ :: []) ⟨⟨0, [], 0, .nils, 0, 0, 0, .nils, 0, false, .nils⟩, [], _, a, dp, e, bd, rfl, NOk.zero, (no_wl), zy, zy, zy, zy, rfl⟩ (ww (no_wl)) gsn))
 have he : e = 0 := zy
 refine zr (zf fa67_0 rfl 0 (zq (Q.l1 rfl (zt 0 rfl) ag3 rfl) (zq (Q.bin rfl (zi 2) rfl (bv_eql eq_nat)) (za rfl (zk (W.cD rfl (fun hc14 => ?_) (fun hc14 => ?_)))))))
 ·have hlt : a < n := lt_last hla ha zy
  refine zr (zm rfl (zq (Q.nilP rfl) (zf fa64_1 rfl 1 (zq (Q.l1 rfl (zt 2 rfl) ag3 rfl) (zq (Q.bin rfl (zi 1) rfl zp) (zq (Q.nilP rfl) (zf fa64_1 rfl 1 (zS5 sz3 rfl rfl (i := 2) rfl rfl rfl (hs' := [_, _, _, _]) rfl (zk (W.sub (zc 3 rfl (zc 2 rfl zzn)) (zr (zf fa67_2 rfl 2 (zq (Q.l1 rfl (zt 0 rfl) ag3 rfl) (zq (zB pl26 (opc (zi 1) (opc rfl oPs_nil)) rfl rfl) (zS sz26 rfl rfl (i := 1) rfl (by first | rfl | exact and_tt rfl ckA) rfl (hs' := [_, _, _, _]) rfl (zk (W.ret ?_)))))))))))))))))
  refine End.Br (End.Kr (End.ret (zA rfl (zt 1 rfl) ag26 sz26 rfl ResL.nil) (hs' := ⟨X, ⟨5, true, [.slice tb 0 (n + 1) 4, .int .i64 (((a + 1) : Nat) : Int), .int .i64 dp, .int .i64 e, .int .i64 bd]⟩, true⟩ :: []) ⟨⟨1, [], (tg toks a).2.2.1, .nils, 0, 0, 0, .nils, 0, false, .nils⟩, [], _, (a + 1), dp, e, bd, rfl, (NOk.of KVn.nil nil_bytes (Nat.zero_le _) ms0 nm0), no_wl, zy, zy, zy, zy, rfl⟩ (ww no_wl) gsn))
 refine zr (zm rfl (WO.cV rfl (oLc rfl (oLc (oc (v := .str [40]) (by kernel_rfl)) oz)) rfl (is_spec toks n hn hnl hok tb ex X a zy dp e bd _ (by unfold Bytes; decide)) (SubR.t (SubR.t SubR.two)) rfl (za rfl (zk (W.sub (zc 28 rfl (zc 3 rfl (zc 2 rfl (zc 0 rfl zzn)))) (W.condS rfl (fun hc28 => ?_) (fun hc28 => ?_)))))))
 ·have hv := isV_t hc28
  have hlt : a < n := lt_last hla ha zy
  refine zr (zm rfl (zf fa67_3 rfl 3 (zq (Q.l1 rfl (zt 0 rfl) ag3 rfl) (WO.call1 rfl (oLc rfl (oLc rfl oz)) rfl (i := 2) rfl (enter_spec n tb X a dp e bd _) SubR.nil (hs' := [_, _, _]) rfl rfl (fun v34 D34 hP34 => ?_)))))
  obtain ⟨rfl, d34, e34, f34, g34, h34, rfl⟩ := hP34
  refine zk (W.seq (zr (zm rfl (zq (Q.nilP rfl) (zf fa64_3 rfl 3 (zq (Q.l1 rfl (zt 0 rfl) ag3 rfl) (zq (Q.bin rfl (zi 0) rfl (bv_neq ne_int)) (zk (W.cD rfl (fun hc39 => ?_) (fun hc39 => ?_))))))))))
  ·refine zr (zq (zB pl26 oPs_nil rfl rfl) (zS sz26 rfl rfl (i := 2) rfl (by first | rfl | exact and_tt rfl ckA) rfl (hs' := [_, _, _, _]) rfl (zk (W.ret ?_))))
   refine End.Kr (End.Br (End.Kr (End.ret (zA rfl (zt 2 rfl) ag26 sz26 rfl ResL.nil) (hs' := ⟨X, ⟨5, true, [.slice tb 0 (n + 1) 4, .int .i64 ((a : Nat) : Int), .int .i64 d34, .int .i64 e34, .int .i64 f34]⟩, true⟩ :: []) ⟨⟨0, [], 0, .nils, 0, 0, 0, .nils, 0, false, .nils⟩, [], _, a, d34, e34, f34, rfl, NOk.zero, (no_wl), zy, zy, zy, zy, rfl⟩ (ww (no_wl)) gsn)))
  refine zw (zr (zm rfl (zq (Q.nilP rfl) (zf fa64_1 rfl 1 (zq (Q.l1 rfl (zt 0 rfl) ag3 rfl) (zq (Q.bin rfl (zi 1) rfl zp) (zq (Q.nilP rfl) (zf fa64_1 rfl 1 (zS5 sz3 rfl rfl (i := 0) rfl rfl rfl (hs' := [_, _, _, _]) rfl (zk (W.sub (zc 2 rfl (zc 0 rfl zzn)) (zr (zm rfl (WO.call1 rfl (oLc rfl (oLc (zi 0) oz)) rfl (i := 0) rfl ((hI (a + 1) d34 e34 f34 zy).1 (0) zy (by unfold mz; (repeat' split) <;> omega)) (SubR.one (zt 2 rfl)) (hs' := [_, _, _]) rfl rfl (fun v49 D49 hP49 => ?_)))))))))))))))
  obtain ⟨x49, hq49, m49, a49, d49, e49, f49, rfl, nk49, nw49, p49, q49, r49, s49, rfl⟩ := hP49
  refine WO.subH (hs' := _ :: _ :: _ :: _ :: (hq49)) (SubH.op (perm_tail (N := [_]) (G := hq49) (K := [_, _, _]) (X := []))) (WO.alloc ao26 rfl (fun b3 => zS sz26 rfl rfl (i := 0) rfl (by first | rfl | exact and_tt rfl ckA) rfl (hs' := _ :: _ :: _ :: _ :: _ :: _) rfl (zk (zr (zm rfl (WO.call1 rfl (oLc rfl (oLc (oc (v := .str [41]) (by kernel_rfl)) oz)) rfl (i := 1) rfl (must_spec toks n hn hnl hok tb ex X a49 zy d49 e49 f49 hla _ (by unfold Bytes; decide)) (SubR.one (zt 3 rfl)) (hs' := _ :: _ :: _ :: _ :: _) rfl rfl (fun v51 D51 hP51 => ?_)))))))
  obtain ⟨rfl, a51, e51, f51, p51, q51, r51, s51, rfl⟩ := hP51
  refine zk (zr (zm rfl (zq (Q.nilP rfl) (zf fa64_2 rfl 2 (zq (Q.l1 rfl (zt 0 rfl) ag3 rfl) (zq (Q.bin rfl (zi 1) rfl (bv_sub rfl)) (zq (Q.nilP rfl) (zf fa64_2 rfl 2 (zS5 sz3 rfl rfl (i := 0) rfl rfl rfl (hs' := _ :: _ :: _ :: _ :: _ :: _) rfl (zk (zr (zq (zL rfl (zt 1 rfl) ag26 sz26 rfl) (zS sz26 rfl rfl (i := 3) rfl (by first | rfl | exact and_tt rfl ckA) rfl (hs' := _ :: _ :: _ :: _ :: _ :: _) rfl (zk (W.sub (zc 2 rfl zzn) (W.ret ?_))))))))))))))))
  refine End.Br (End.Kr (End.ret (zA rfl (zt 3 rfl) ag26 sz26 rfl ResL.nil) (hs' := ⟨X, ⟨5, true, [.slice tb 0 (n + 1) 4, .int .i64 ((a51 : Nat) : Int), .int .i64 (IntKind.i64.wrap (d49 - ((1 : Nat) : Int))), .int .i64 e51, .int .i64 f51]⟩, true⟩ :: hq49) ⟨x49, hq49, _, a51, (IntKind.i64.wrap (d49 - ((1 : Nat) : Int))), e51, f51, rfl, nk49, nw49, zy, zy, zy, zy, rfl⟩ (ww nw49) gsn))
 refine zr (zm rfl (WO.cV rfl (oLc rfl (oLc (oc (v := .str [123]) (by kernel_rfl)) oz)) rfl (is_spec toks n hn hnl hok tb ex X a zy dp e bd _ (by unfold Bytes; decide)) (SubR.t (SubR.t SubR.two)) rfl (za rfl (zk (W.condS rfl (fun hc60 => ?_) (fun hc60 => ?_))))))
 ·refine zr (zm rfl (WO.call1 rfl (oLc rfl oz) rfl (i := 2) rfl (sel_spec toks n hn hnl hok tb ex X a zy dp e bd hla zy (.inr (by assumption))) (SubR.one (zt 2 rfl)) (hs' := [_, _, _]) rfl rfl (fun v64 D64 hP64 => ?_)))
  obtain ⟨hM64, ⟨ms64, rg64, of64, hms64, rfl⟩, a64, e64, f64, p64, q64, s64, rfl⟩ := hP64
  have hmc64 := hms64.cell
  refine WO.subH (hs' := _ :: _ :: _ :: _ :: (hM64)) (SubH.op (perm_tail (N := [_]) (G := hM64) (K := [_, _, _]) (X := []))) (zS sz26 rfl rfl (i := 2) rfl (by first | rfl | exact and_tt rfl ckA) rfl (hs' := _ :: _ :: _ :: _ :: _) rfl (zk (W.ret ?_)))
  refine End.Br (End.Kr (End.ret (zA rfl (zt 2 rfl) ag26 sz26 rfl ResL.nil) (hs' := ⟨X, ⟨5, true, [.slice tb 0 (n + 1) 4, .int .i64 ((a64 : Nat) : Int), .int .i64 dp, .int .i64 e64, .int .i64 f64]⟩, true⟩ :: hM64) ⟨⟨(((2 : Nat) : Int)), [], 0, ms64, rg64, of64, 0, .nils, 0, false, .nils⟩, hM64, _, a64, dp, e64, f64, rfl, (NOk.of KVn.nil nil_bytes (Nat.zero_le _) hms64.ok nm0), (hms64.w), zy, zy, zy, zy, rfl⟩ (ww (hms64.w)) gsn))
 refine W.seq (W.regD 7 _ (by kernel_rfl) (KIn.refl _) (WD.q (Q.fieldAddr fa67_0 rfl (o' := 0) rfl) bqp rfl (WD.q (Q.l1 rfl (zt 0 rfl) ag3 rfl) bqi rfl (WD.q (Q.bin rfl (zi 1) rfl (bv_neq ne_nat)) bq_bool rfl (WD.q (Q.move rfl) bq_bool rfl (WD.splitD (d := 69) rfl (fun hc69 => ?_) (fun hc69 => ?_)))))))
 ·refine WD.gF rfl rfl (.inl rfl) rfl (WD.gF rfl rfl (.inl rfl) rfl (WD.gF rfl rfl (.inl rfl) rfl (WD.gF rfl rfl (.inl rfl) rfl (WD.q (Q.pT rfl rfl) bq_bool rfl (WD.q (Q.assign rfl) bq_bool rfl (WD.nil (End.K (W.condT rfl (zr (zm rfl (zf fa67_3 rfl 3 (zq (Q.l1 rfl (zt 0 rfl) ag3 rfl) (WO.call1 rfl (oLc rfl (oLc (zi 14) (oLc rfl oz))) rfl (i := 2) rfl (fail_spec n tb X a dp e bd _ _) SubR.nil (hs' := [_, _, _]) rfl rfl (fun v78 D78 hP78 => ?_))))))))))))))
  obtain ⟨rfl, rfl⟩ := hP78
  refine zk (W.sub (zc 2 rfl zzn) (zr (zq (zB pl26 oPs_nil rfl rfl) (zS sz26 rfl rfl (i := 2) rfl (by first | rfl | exact and_tt rfl ckA) rfl (hs' := [_, _, _, _]) rfl (zk (W.ret ?_))))))
  refine End.Br (End.Kr (End.ret (zA rfl (zt 2 rfl) ag26 sz26 rfl ResL.nil) (hs' := ⟨X, ⟨5, true, [.slice tb 0 (n + 1) 4, .int .i64 ((a : Nat) : Int), .int .i64 dp, .int .i64 (if e = 0 then (((14 : Nat) : Int)) else e), .int .i64 (if e = 0 then (tg toks a).2.2.2 else bd)]⟩, true⟩ :: []) ⟨⟨0, [], 0, .nils, 0, 0, 0, .nils, 0, false, .nils⟩, [], _, a, dp, (if e = 0 then (((14 : Nat) : Int)) else e), (if e = 0 then (tg toks a).2.2.2 else bd), rfl, NOk.zero, (no_wl), zy, zy, (fun h => absurd he h), (fun h => by rw [if_pos he] at h; omega), rfl⟩ (ww (no_wl)) gsn))
 have hlt : a < n := lt_last hla ha zy
 refine WD.gT rfl rfl (WD.call0 rfl oz rfl words_spec SubR.nil (KIn.refl _) rfl (fun v70 D70 hP70 => ?_))
 obtain ⟨lb, lL, lh, rfl, rfl⟩ := hP70
 refine WD.gT rfl rfl (WD.q (Q.fieldAddr fa67_1 rfl (o' := 1) rfl) bqp rfl (WD.gT rfl rfl (WD.q (Q.l1 rfl (zt 0 rfl) ag9 rfl) bq_str rfl (WD.gT rfl rfl (WD.callE rfl (oLc rfl (oLc rfl oz)) rfl (one1_spec lL zy lb true _ (tokO hok zy).1) (SubR.one (zt 0 rfl)) (KIn.tl (KIn.refl _)) rfl (fun v73 hP73 => ?_))))))
 obtain ⟨ob73, rfl⟩ := hP73
 refine WD.q (Q.pF rfl rfl) bq_bool rfl (WD.q (Q.assign rfl) bq_bool rfl (WD.nil (End.K (W.condS rfl (fun hc65 => ?_) (fun hc65 => ?_)))))
 ·have hlt : a < n := lt_last hla ha zy
  refine zr (zm rfl (zf fa67_3 rfl 3 (zq (Q.l1 rfl (zt 1 rfl) ag3 rfl) (WO.call1 rfl (oLc rfl (oLc (zi 14) (oLc rfl oz))) rfl (i := 3) rfl (fail_spec n tb X a dp e bd _ _) SubR.nil (hs' := [_, _, _, _]) rfl rfl (fun v78 D78 hP78 => ?_)))))
  obtain ⟨rfl, rfl⟩ := hP78
  refine zk (W.sub (zc 2 rfl zzn) (zr (zq (zB pl26 oPs_nil rfl rfl) (zS sz26 rfl rfl (i := 3) rfl (by first | rfl | exact and_tt rfl ckA) rfl (hs' := [_, _, _, _, _]) rfl (zk (W.ret ?_))))))
  refine End.Br (End.Kr (End.ret (zA rfl (zt 3 rfl) ag26 sz26 rfl ResL.nil) (hs' := ⟨X, ⟨5, true, [.slice tb 0 (n + 1) 4, .int .i64 ((a : Nat) : Int), .int .i64 dp, .int .i64 (if e = 0 then (((14 : Nat) : Int)) else e), .int .i64 (if e = 0 then (tg toks a).2.2.2 else bd)]⟩, true⟩ :: []) ⟨⟨0, [], 0, .nils, 0, 0, 0, .nils, 0, false, .nils⟩, [], _, a, dp, (if e = 0 then (((14 : Nat) : Int)) else e), (if e = 0 then (tg toks a).2.2.2 else bd), rfl, NOk.zero, (no_wl), zy, zy, (fun h => absurd he h), (fun h => by rw [if_pos he] at h; omega), rfl⟩ (ww (no_wl)) gsn))
 have hlt : a < n := lt_last hla ha zy
 refine W.seq (W.regD 3 _ (by kernel_rfl) (KIn.refl _) (WD.call0 rfl oz rfl ops_spec SubR.nil (KIn.refl _) rfl (fun v81 D81 hP81 => ?_)))
 obtain ⟨lb, lL, lh, rfl, rfl⟩ := hP81
 refine WD.q (Q.fieldAddr fa67_1 rfl (o' := 1) rfl) bqp rfl (WD.q (Q.l1 rfl (zt 1 rfl) ag9 rfl) bq_str rfl (WD.callE rfl (oLc rfl (oLc rfl oz)) rfl (one1_spec lL zy lb true _ (tokO hok zy).1) (SubR.one (zt 0 rfl)) (KIn.tl (KIn.refl _)) rfl (fun v84 hP84 => ?_)))
 obtain ⟨ob84, rfl⟩ := hP84
 refine WD.q (Q.move rfl) bq_bool rfl (WD.split (d := 85) rfl (fun hc85 => ?_) (fun hc85 => ?_))
 ·have hlt : a < n := lt_last hla ha zy
  refine WD.gT rfl rfl (WD.q (Q.move rfl) bqp rfl (WD.gT rfl rfl (WD.callE rfl (oLc rfl (oLc (oc (v := .str [40]) (by kernel_rfl)) oz)) rfl (behind_spec toks n hn hnl hok tb ex X a zy dp e bd _ (by unfold Bytes; decide)) (SubR.t (SubR.t (SubR.t (SubR.t SubR.two)))) (KIn.tl (KIn.refl _)) rfl (fun v87 hP87 => ?_))))
  obtain ⟨ob87, rfl⟩ := hP87
  refine WD.gT rfl rfl (WD.q (Q.move rfl) bq_bool rfl (WD.split (d := 88) rfl (fun hc88 => ?_) (fun hc88 => ?_)))
  ·have hlt : a < n := lt_last hla ha zy
   refine WD.gF rfl rfl (.inl rfl) rfl (WD.gF rfl rfl (.inl rfl) rfl (WD.gT rfl rfl (WD.q (Q.pT rfl rfl) bq_bool rfl (WD.gT rfl rfl (WD.q (Q.move rfl) bq_bool rfl (WD.gF rfl rfl (.inl rfl) rfl (WD.gF rfl rfl (.inl rfl) rfl (WD.gT rfl rfl (WD.q (Q.pT rfl rfl) bq_bool rfl (WD.q (Q.pT rfl rfl) bq_bool rfl (WD.q (Q.assign rfl) bq_bool rfl (WD.nil (End.K (W.sub (zc 80 rfl (zc 3 rfl (zc 2 rfl (zc 0 rfl zzn)))) (W.condT rfl (zr (zm rfl (WO.call1 rfl (oLc rfl oz) rfl (i := 4) rfl ((hI a dp e bd zy).2.2.2.1 zy zy (by unfold mz; (repeat' split) <;> omega)) (SubR.one (zt 4 rfl)) (hs' := [_, _, _, _, _]) rfl rfl (fun v98 D98 hP98 => ?_)))))))))))))))))))
   obtain ⟨x98, hq98, m98, a98, d98, e98, f98, rfl, nk98, nw98, p98, q98, r98, s98, rfl⟩ := hP98
   refine WO.subH (hs' := _ :: _ :: _ :: _ :: _ :: _ :: (hq98)) (SubH.op (perm_tail (N := [_]) (G := hq98) (K := [_, _, _, _, _]) (X := []))) (zS sz26 rfl rfl (i := 4) rfl (by first | rfl | exact and_tt rfl ckA) rfl (hs' := _ :: _ :: _ :: _ :: _ :: _ :: _) rfl (zk (W.ret ?_)))
   refine End.Br (End.Kr (End.ret (zA rfl (zt 4 rfl) ag26 sz26 rfl ResL.nil) (hs' := ⟨X, ⟨5, true, [.slice tb 0 (n + 1) 4, .int .i64 ((a98 : Nat) : Int), .int .i64 d98, .int .i64 e98, .int .i64 f98]⟩, true⟩ :: hq98) ⟨x98, hq98, _, a98, d98, e98, f98, rfl, nk98, nw98, zy, zy, zy, zy, rfl⟩ (ww nw98) gsn))
  have hlt : a < n := lt_last hla ha zy
  refine WD.gT rfl rfl (WD.q (Q.move rfl) bqp rfl (WD.gT rfl rfl (WD.callE rfl (oLc rfl (oLc (oc (v := .str [98, 121]) (by kernel_rfl)) oz)) rfl (behind_spec toks n hn hnl hok tb ex X a zy dp e bd _ (by unfold Bytes; decide)) (SubR.t (SubR.t (SubR.t (SubR.t SubR.two)))) (KIn.tl (KIn.refl _)) rfl (fun v90 hP90 => ?_))))
  obtain ⟨ob90, rfl⟩ := hP90
  refine WD.gT rfl rfl (WD.q (Q.pF rfl rfl) bq_bool rfl (WD.gT rfl rfl (WD.q (Q.move rfl) bq_bool rfl (WD.split (d := 92) rfl (fun hc92 => ?_) (fun hc92 => ?_)))))
  ·have hlt : a < n := lt_last hla ha zy
   refine WD.gF rfl rfl (.inl rfl) rfl (WD.gF rfl rfl (.inl rfl) rfl (WD.gT rfl rfl (WD.q (Q.pT rfl rfl) bq_bool rfl (WD.q (Q.pT rfl rfl) bq_bool rfl (WD.q (Q.assign rfl) bq_bool rfl (WD.nil (End.K (W.sub (zc 80 rfl (zc 3 rfl (zc 2 rfl (zc 0 rfl zzn)))) (W.condT rfl (zr (zm rfl (WO.call1 rfl (oLc rfl oz) rfl (i := 4) rfl ((hI a dp e bd zy).2.2.2.1 zy zy (by unfold mz; (repeat' split) <;> omega)) (SubR.one (zt 4 rfl)) (hs' := [_, _, _, _, _]) rfl rfl (fun v98 D98 hP98 => ?_)))))))))))))
   obtain ⟨x98, hq98, m98, a98, d98, e98, f98, rfl, nk98, nw98, p98, q98, r98, s98, rfl⟩ := hP98
   refine WO.subH (hs' := _ :: _ :: _ :: _ :: _ :: _ :: (hq98)) (SubH.op (perm_tail (N := [_]) (G := hq98) (K := [_, _, _, _, _]) (X := []))) (zS sz26 rfl rfl (i := 4) rfl (by first | rfl | exact and_tt rfl ckA) rfl (hs' := _ :: _ :: _ :: _ :: _ :: _ :: _) rfl (zk (W.ret ?_)))
   refine End.Br (End.Kr (End.ret (zA rfl (zt 4 rfl) ag26 sz26 rfl ResL.nil) (hs' := ⟨X, ⟨5, true, [.slice tb 0 (n + 1) 4, .int .i64 ((a98 : Nat) : Int), .int .i64 d98, .int .i64 e98, .int .i64 f98]⟩, true⟩ :: hq98) ⟨x98, hq98, _, a98, d98, e98, f98, rfl, nk98, nw98, zy, zy, zy, zy, rfl⟩ (ww nw98) gsn))
  have hlt : a < n := lt_last hla ha zy
  refine WD.gT rfl rfl (WD.q (Q.move rfl) bqp rfl (WD.gT rfl rfl (WD.callE rfl (oLc rfl (oLc (oc (v := .str [119, 105, 116, 104, 111, 117, 116]) (by kernel_rfl)) oz)) rfl (behind_spec toks n hn hnl hok tb ex X a zy dp e bd _ (by unfold Bytes; decide)) (SubR.t (SubR.t (SubR.t (SubR.t SubR.two)))) (KIn.tl (KIn.refl _)) rfl (fun v94 hP94 => ?_))))
  obtain ⟨ob94, rfl⟩ := hP94
  refine WD.gT rfl rfl (WD.q (Q.pF rfl rfl) bq_bool rfl (WD.q (Q.pT rfl rfl) bq_bool rfl (WD.q (Q.assign rfl) bq_bool rfl (WD.nil (End.K (W.sub (zc 80 rfl (zc 3 rfl (zc 2 rfl (zc 0 rfl zzn)))) (W.condS rfl (fun hc80 => ?_) (fun hc80 => ?_))))))))
  ·have hlt : a < n := lt_last hla ha zy
   refine zr (zm rfl (WO.call1 rfl (oLc rfl oz) rfl (i := 4) rfl ((hI a dp e bd zy).2.2.2.1 zy zy (by unfold mz; (repeat' split) <;> omega)) (SubR.one (zt 4 rfl)) (hs' := [_, _, _, _, _]) rfl rfl (fun v98 D98 hP98 => ?_)))
   obtain ⟨x98, hq98, m98, a98, d98, e98, f98, rfl, nk98, nw98, p98, q98, r98, s98, rfl⟩ := hP98
   refine WO.subH (hs' := _ :: _ :: _ :: _ :: _ :: _ :: (hq98)) (SubH.op (perm_tail (N := [_]) (G := hq98) (K := [_, _, _, _, _]) (X := []))) (zS sz26 rfl rfl (i := 4) rfl (by first | rfl | exact and_tt rfl ckA) rfl (hs' := _ :: _ :: _ :: _ :: _ :: _ :: _) rfl (zk (W.ret ?_)))
   refine End.Br (End.Kr (End.ret (zA rfl (zt 4 rfl) ag26 sz26 rfl ResL.nil) (hs' := ⟨X, ⟨5, true, [.slice tb 0 (n + 1) 4, .int .i64 ((a98 : Nat) : Int), .int .i64 d98, .int .i64 e98, .int .i64 f98]⟩, true⟩ :: hq98) ⟨x98, hq98, _, a98, d98, e98, f98, rfl, nk98, nw98, zy, zy, zy, zy, rfl⟩ (ww nw98) gsn))
  have hlt : a < n := lt_last hla ha zy
  refine zr (zm rfl (WO.callE rfl (oLc rfl (oLc (oc (v := .str [40]) (by kernel_rfl)) oz)) rfl (behind_spec toks n hn hnl hok tb ex X a zy dp e bd _ (by unfold Bytes; decide)) (SubR.t (SubR.t (SubR.t (SubR.t SubR.two)))) rfl (fun v101 hP101 => ?_)))
  obtain ⟨ob101, rfl⟩ := hP101
  refine za rfl (zk (W.condS rfl (fun hc99 => ?_) (fun hc99 => ?_)))
  ·have hlt : a < n := lt_last hla ha zy
   refine zr (zm rfl (zq (Q.nilP rfl) (zf fa64_1 rfl 1 (zq (Q.l1 rfl (zt 4 rfl) ag3 rfl) (zq (Q.bin rfl (zi 1) rfl zp) (zq (Q.nilP rfl) (zf fa64_1 rfl 1 (zS5 sz3 rfl rfl (i := 4) rfl rfl rfl (hs' := [_, _, _, _, _, _]) rfl (zk (W.seq (W.regD 4 [⟨b2, _, false⟩] (by kernel_rfl) (KIn.cons (zt 2 rfl) KIn.nil) (WD.q (Q.fieldAddr fa67_1 rfl (o' := 1) rfl) bqp rfl (WD.q (Q.l1 rfl (zt 0 rfl) ag9 rfl) bq_str rfl (WD.q (Q.move rfl) bqp rfl (WD.call1 rfl (oLc rfl (oLc rfl oz)) rfl (j := 4) rfl ((hI (a + 1) dp e bd zy).2.2.2.2 _ (by unfold mz; (repeat' split) <;> omega)) (SubR.one (zt 4 rfl)) (hs' := [_, _, _, _, _]) rfl (KIn.cons (zt 2 rfl) KIn.nil) rfl (fun v112 D112 hP112 => ?_))))))))))))))))
   obtain ⟨l112, hq112, m112, a112, d112, e112, f112, kv112, nw112, p112, q112, r112, s112, rfl⟩ := hP112
   refine WD.subH (hs' := _ :: _ :: _ :: _ :: _ :: _ :: (hq112)) (SubH.op (perm_tail (N := [_]) (G := hq112) (K := [_, _, _, _, _]) (X := []))) ?_
   have kvk := kv112; rcases kv112 with ⟨rfl, hl⟩ | ⟨bk, obk, rfl, hr⟩
   ·have hlt : a < n := lt_last hla ha zy
    refine WD.q (zB pl26 (opc (zi 3) (opc rfl (opc rfl oPs_nil))) rfl rfl) (by simp [AV.beq, beq1, beq0, beqL]) rfl (WD.store sz26 rfl rfl (j := 4) rfl (by first | rfl | exact and_tt rfl ckA) (cs := [_, _, _, _, _, _, _, _, _, _, _]) rfl (hs' := _ :: _ :: _ :: _ :: _ :: _ :: _) rfl (fun h => by cases h) (WD.nil (End.K (W.sub (zc 2 rfl zzn) (W.ret ?_)))))
    refine End.Br (End.Kr (End.ret (zA rfl (zt 4 rfl) ag26 sz26 rfl ResL.nil) (hs' := ⟨X, ⟨5, true, [.slice tb 0 (n + 1) 4, .int .i64 ((a112 : Nat) : Int), .int .i64 d112, .int .i64 e112, .int .i64 f112]⟩, true⟩ :: hq112) ⟨⟨3, (tg toks a).2.1, 0, .nils, 0, 0, 0, .nils, 0, false, .nils⟩, hq112, _, a112, d112, e112, f112, rfl, (NOk.of kvk (tokO hok zy).1 (Nat.le_trans (tokO hok (i := a) zy).2 (by decide)) ms0 nm0), nw112, zy, zy, zy, zy, rfl⟩ (ww nw112) gsn))
   have hlt : a < n := lt_last hla ha zy
   refine WD.q (zB pl26 (opc (zi 3) (opc rfl (opc rfl oPs_nil))) rfl rfl) (by simp [AV.beq, beq1, beq0, beqL]) rfl (WD.store sz26 rfl rfl (j := 4) rfl (by first | rfl | exact and_tt rfl ckA) (cs := [_, _, _, _, _, _, _, _, _, _, _]) rfl (hs' := _ :: _ :: _ :: _ :: _ :: _ :: _) rfl (fun h => by cases h) (WD.nil (End.K (W.sub (zc 2 rfl zzn) (W.ret ?_)))))
   refine End.Br (End.Kr (End.ret (zA rfl (zt 4 rfl) ag26 sz26 rfl ResL.nil) (hs' := ⟨X, ⟨5, true, [.slice tb 0 (n + 1) 4, .int .i64 ((a112 : Nat) : Int), .int .i64 d112, .int .i64 e112, .int .i64 f112]⟩, true⟩ :: hq112) ⟨⟨3, (tg toks a).2.1, 0, .nils, 0, 0, 0, .nils, 0, false, .slice bk 0 l112 11⟩, hq112, _, a112, d112, e112, f112, rfl, (NOk.of kvk (tokO hok zy).1 (Nat.le_trans (tokO hok (i := a) zy).2 (by decide)) ms0 nm0), nw112, zy, zy, zy, zy, rfl⟩ (ww nw112) gsn))
  have hlt : a < n := lt_last hla ha zy
  refine W.skip (End.KB (End.K (zr (zm rfl (WO.call1 rfl (oLc rfl oz) rfl (i := 4) rfl (sel_spec toks n hn hnl hok tb ex X a zy dp e bd hla zy (.inl zy)) (SubR.one (zt 4 rfl)) (hs' := [_, _, _, _, _]) rfl rfl (fun v115 D115 hP115 => ?_))))))
  obtain ⟨hM115, ⟨ms115, rg115, of115, hms115, rfl⟩, a115, e115, f115, p115, q115, s115, rfl⟩ := hP115
  have hmc115 := hms115.cell
  refine WO.subH (hs' := _ :: _ :: _ :: _ :: _ :: _ :: (hM115)) (SubH.op (perm_tail (N := [_]) (G := hM115) (K := [_, _, _, _, _]) (X := []))) (zS sz26 rfl rfl (i := 4) rfl (by first | rfl | exact and_tt rfl ckA) rfl (hs' := _ :: _ :: _ :: _ :: _ :: _ :: _) rfl (zk (W.ret ?_)))
  refine End.ret (zA rfl (zt 4 rfl) ag26 sz26 rfl ResL.nil) (hs' := ⟨X, ⟨5, true, [.slice tb 0 (n + 1) 4, .int .i64 ((a115 : Nat) : Int), .int .i64 dp, .int .i64 e115, .int .i64 f115]⟩, true⟩ :: hM115) ⟨⟨(((2 : Nat) : Int)), [], 0, ms115, rg115, of115, 0, .nils, 0, false, .nils⟩, hM115, _, a115, dp, e115, f115, rfl, (NOk.of KVn.nil nil_bytes (Nat.zero_le _) hms115.ok nm0), (hms115.w), zy, zy, zy, zy, rfl⟩ (ww (hms115.w)) gsn
 have hlt : a < n := lt_last hla ha zy
 refine WD.gF rfl rfl (.inl rfl) rfl (WD.gF rfl rfl (.inl rfl) rfl (WD.gF rfl rfl (.inl rfl) rfl (WD.gF rfl rfl (.inr rfl) rfl (WD.gF rfl rfl (.inr rfl) rfl (WD.gF rfl rfl (.inl rfl) rfl (WD.gF rfl rfl (.inl rfl) rfl (WD.gF rfl rfl (.inr rfl) rfl (WD.gF rfl rfl (.inr rfl) rfl (WD.gF rfl rfl (.inl rfl) rfl (WD.q (Q.pF rfl rfl) bq_bool rfl (WD.q (Q.assign rfl) bq_bool rfl (WD.nil (End.K (W.sub (zc 80 rfl (zc 3 rfl (zc 2 rfl (zc 0 rfl zzn)))) (W.condF rfl (zr (zm rfl (WO.callE rfl (oLc rfl (oLc (oc (v := .str [40]) (by kernel_rfl)) oz)) rfl (behind_spec toks n hn hnl hok tb ex X a zy dp e bd _ (by unfold Bytes; decide)) (SubR.t (SubR.t (SubR.t (SubR.t SubR.two)))) rfl (fun v101 hP101 => ?_)))))))))))))))))))
 obtain ⟨ob101, rfl⟩ := hP101
 refine za rfl (zk (W.condS rfl (fun hc99 => ?_) (fun hc99 => ?_)))
 ·have hlt : a < n := lt_last hla ha zy
  refine zr (zm rfl (zq (Q.nilP rfl) (zf fa64_1 rfl 1 (zq (Q.l1 rfl (zt 4 rfl) ag3 rfl) (zq (Q.bin rfl (zi 1) rfl zp) (zq (Q.nilP rfl) (zf fa64_1 rfl 1 (zS5 sz3 rfl rfl (i := 4) rfl rfl rfl (hs' := [_, _, _, _, _, _]) rfl (zk (W.seq (W.regD 4 [⟨b2, _, false⟩] (by kernel_rfl) (KIn.cons (zt 2 rfl) KIn.nil) (WD.q (Q.fieldAddr fa67_1 rfl (o' := 1) rfl) bqp rfl (WD.q (Q.l1 rfl (zt 0 rfl) ag9 rfl) bq_str rfl (WD.q (Q.move rfl) bqp rfl (WD.call1 rfl (oLc rfl (oLc rfl oz)) rfl (j := 4) rfl ((hI (a + 1) dp e bd zy).2.2.2.2 _ (by unfold mz; (repeat' split) <;> omega)) (SubR.one (zt 4 rfl)) (hs' := [_, _, _, _, _]) rfl (KIn.cons (zt 2 rfl) KIn.nil) rfl (fun v112 D112 hP112 => ?_))))))))))))))))
  obtain ⟨l112, hq112, m112, a112, d112, e112, f112, kv112, nw112, p112, q112, r112, s112, rfl⟩ := hP112
  refine WD.subH (hs' := _ :: _ :: _ :: _ :: _ :: _ :: (hq112)) (SubH.op (perm_tail (N := [_]) (G := hq112) (K := [_, _, _, _, _]) (X := []))) ?_
  have kvk := kv112; rcases kv112 with ⟨rfl, hl⟩ | ⟨bk, obk, rfl, hr⟩
  ·have hlt : a < n := lt_last hla ha zy
   refine WD.q (zB pl26 (opc (zi 3) (opc rfl (opc rfl oPs_nil))) rfl rfl) (by simp [AV.beq, beq1, beq0, beqL]) rfl (WD.store sz26 rfl rfl (j := 4) rfl (by first | rfl | exact and_tt rfl ckA) (cs := [_, _, _, _, _, _, _, _, _, _, _]) rfl (hs' := _ :: _ :: _ :: _ :: _ :: _ :: _) rfl (fun h => by cases h) (WD.nil (End.K (W.sub (zc 2 rfl zzn) (W.ret ?_)))))
   refine End.Br (End.Kr (End.ret (zA rfl (zt 4 rfl) ag26 sz26 rfl ResL.nil) (hs' := ⟨X, ⟨5, true, [.slice tb 0 (n + 1) 4, .int .i64 ((a112 : Nat) : Int), .int .i64 d112, .int .i64 e112, .int .i64 f112]⟩, true⟩ :: hq112) ⟨⟨3, (tg toks a).2.1, 0, .nils, 0, 0, 0, .nils, 0, false, .nils⟩, hq112, _, a112, d112, e112, f112, rfl, (NOk.of kvk (tokO hok zy).1 (Nat.le_trans (tokO hok (i := a) zy).2 (by decide)) ms0 nm0), nw112, zy, zy, zy, zy, rfl⟩ (ww nw112) gsn))
  have hlt : a < n := lt_last hla ha zy
  refine WD.q (zB pl26 (opc (zi 3) (opc rfl (opc rfl oPs_nil))) rfl rfl) (by simp [AV.beq, beq1, beq0, beqL]) rfl (WD.store sz26 rfl rfl (j := 4) rfl (by first | rfl | exact and_tt rfl ckA) (cs := [_, _, _, _, _, _, _, _, _, _, _]) rfl (hs' := _ :: _ :: _ :: _ :: _ :: _ :: _) rfl (fun h => by cases h) (WD.nil (End.K (W.sub (zc 2 rfl zzn) (W.ret ?_)))))
  refine End.Br (End.Kr (End.ret (zA rfl (zt 4 rfl) ag26 sz26 rfl ResL.nil) (hs' := ⟨X, ⟨5, true, [.slice tb 0 (n + 1) 4, .int .i64 ((a112 : Nat) : Int), .int .i64 d112, .int .i64 e112, .int .i64 f112]⟩, true⟩ :: hq112) ⟨⟨3, (tg toks a).2.1, 0, .nils, 0, 0, 0, .nils, 0, false, .slice bk 0 l112 11⟩, hq112, _, a112, d112, e112, f112, rfl, (NOk.of kvk (tokO hok zy).1 (Nat.le_trans (tokO hok (i := a) zy).2 (by decide)) ms0 nm0), nw112, zy, zy, zy, zy, rfl⟩ (ww nw112) gsn))
 have hlt : a < n := lt_last hla ha zy
 refine W.skip (End.KB (End.K (zr (zm rfl (WO.call1 rfl (oLc rfl oz) rfl (i := 4) rfl (sel_spec toks n hn hnl hok tb ex X a zy dp e bd hla zy (.inl zy)) (SubR.one (zt 4 rfl)) (hs' := [_, _, _, _, _]) rfl rfl (fun v115 D115 hP115 => ?_))))))
 obtain ⟨hM115, ⟨ms115, rg115, of115, hms115, rfl⟩, a115, e115, f115, p115, q115, s115, rfl⟩ := hP115
 have hmc115 := hms115.cell
 refine WO.subH (hs' := _ :: _ :: _ :: _ :: _ :: _ :: (hM115)) (SubH.op (perm_tail (N := [_]) (G := hM115) (K := [_, _, _, _, _]) (X := []))) (zS sz26 rfl rfl (i := 4) rfl (by first | rfl | exact and_tt rfl ckA) rfl (hs' := _ :: _ :: _ :: _ :: _ :: _ :: _) rfl (zk (W.ret ?_)))
 refine End.ret (zA rfl (zt 4 rfl) ag26 sz26 rfl ResL.nil) (hs' := ⟨X, ⟨5, true, [.slice tb 0 (n + 1) 4, .int .i64 ((a115 : Nat) : Int), .int .i64 dp, .int .i64 e115, .int .i64 f115]⟩, true⟩ :: hM115) ⟨⟨(((2 : Nat) : Int)), [], 0, ms115, rg115, of115, 0, .nils, 0, false, .nils⟩, hM115, _, a115, dp, e115, f115, rfl, (NOk.of KVn.nil nil_bytes (Nat.zero_le _) hms115.ok nm0), (hms115.w), zy, zy, zy, zy, rfl⟩ (ww (hms115.w)) gsn
end Go.Proofs.YtndhhgbpcmfeiaaGreatDoor.Ev.P16
