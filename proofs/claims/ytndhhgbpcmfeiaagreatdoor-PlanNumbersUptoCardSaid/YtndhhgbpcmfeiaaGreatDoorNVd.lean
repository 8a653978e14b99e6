/- Chapter 17, walks: the document's type of a node. -/
import Derived.Test.YtndhhgbpcmfeiaaGreatDoorNV5
namespace Go.Proofs.YtndhhgbpcmfeiaaGreatDoor.Ev.P16
open Go.RowKit
set_option maxRecDepth 100000
set_option maxHeartbeats 1000000
theorem ISl.mono {hs hs' : af} (hm : ∀ e ∈ hs, e ∈ hs') {A : List Nat} {v : AV} (h : ISl hs A v) : ISl hs' A v := h.imp id fun ⟨b, ex, h1, w, h2⟩ => ⟨b, ex, h1, w, hm _ h2⟩
theorem ISl.app {hs hs' : af} {A : List Nat} {v : AV} (h : ISl hs A v) : ISl (hs' ++ hs) A v := h.mono fun _ => List.mem_append_right _
theorem ISl.appl {hs hs' : af} {A : List Nat} {v : AV} (h : ISl hs A v) : ISl (hs ++ hs') A v := h.mono fun _ => List.mem_append_left _
theorem ISl.tl {hs : af} {e : HE} {A : List Nat} {v : AV} (h : ISl hs A v) : ISl (e :: hs) A v := h.mono fun _ => List.mem_cons_of_mem _
theorem ISl.at_ {hs : af} {b n : Nat} {ex : Bool} {A : List Nat} (hn : A.length = n := by rfl) : ISl (⟨b, ⟨1, ex, jb A⟩, true⟩ :: hs) A (.slice b 0 n 1) := .inr ⟨b, ex, by rw [hn], true, by simp⟩
def Cn (w : Nat) : Nat × Nat := if w = 0 then (0, 16) else (w, 0)
def tpair (t e : Nat) : AV := .tuple [.int .i64 ((t : Nat) : Int), .int .i64 ((e : Nat) : Int)]
section
variable {tb : Tab} {n : Nat} {E : Env} {s : St} {hs : af} {R : T AV -> AHeap -> Prop} {ops rest : List Oper} {d : Nat} {ty : TypeId} {pos : String} {aft : Array Edge} {t : TypeId}
def m6 (P : AV -> Prop) : AV -> af -> Prop := fun v D => P v /\ D = []
theorem b9 {rs : List ResultVar} {P : AV -> Prop} {l : List AV} (hr : ResL tb s hs rs l) (hP : P (ac l)) : End E s hs (qW tb rs E (m6 P) .ret) :=
 End.ret hr (hs' := []) ⟨hP, rfl⟩ (fun e h => wT h) (SubH.nil _)
theorem WO.callE {of : Operand} {args : List Operand} {ts : Array TypeId} {g : Nat} {caps l l' : List AV} {hsc : af} {P : AV -> Prop} (hf : oL s of = some (.func g caps)) (ha : mY s args = some l) (hl : l ++ caps = l')
  (hsp : Spec tb g l' [] hsc (m6 P)) (hsub : SubR hsc hs) (hd : Nat.blt d n = true) (hk : ∀ v, P v -> WO tb n ops rest E ((d, v) :: s) hs R) :
  WO tb n ops (⟨some d, .call ⟨.value of, args.toArray, ts⟩, ty, pos, aft, none⟩ :: rest) E s hs R :=
 WO.call0 hf ha hl hsp hsub hd fun v' D ⟨h1, h2⟩ => by subst h2; exact hk _ h1
end
def eM (c : Nat) : Bool := decide (48 <= c) && decide (c <= 57)
def dB (c : Nat) : Bool := (decide (97 <= c) && decide (c <= 122)) || (decide (65 <= c) && decide (c <= 90)) || decide (c = 95) || decide (c = 58)
theorem gR (c : Nat) (hc : c < 256) : Spec aA 85 [.int .u8 ((c : Nat) : Int)] [] [] (eA (.bool (eM c))) := by
 refine aj (dW 85 Tryz.func85) rfl (m := 9) rfl (rs := [.tmp 2]) rfl (st := [(0, .int .u8 ((c : Nat) : Int))]) rfl rfl (fun _ => rfl) (fun E => zr (za rfl (zk (zr (zm rfl (zq (Q.bin rfl (zu 48) rfl (dS fI)) (zm rfl (aQ (d := 5) rfl (fun hc5 => ?_) (fun hc5 => ?_)))))))))
 ·refine zT (zm rfl (zT (zq (Q.bin rfl (zu 57) rfl (eh fI)) (zq (aC rfl rfl) (za rfl (zk (W.ret (ab (z1 rfl) ?_))))))))
  exact bT (by simp_all [eM] <;> omega)
 refine z2 (zq (aH rfl rfl) (za rfl (zk (W.ret (ab (z1 rfl) ?_)))))
 exact bT (by simp_all [eM] <;> omega)

theorem eS (c : Nat) (hc : c < 256) : Spec aA 84 [.int .u8 ((c : Nat) : Int)] [] [] (eA (.bool (dB c))) := by
 refine aj (dW 84 Tryz.func84) rfl (m := 25) rfl (rs := [.tmp 2]) rfl (st := [(0, .int .u8 ((c : Nat) : Int))]) rfl rfl (fun _ => rfl) (fun E => zr (za rfl (zk (zr (zm rfl (zq (Q.bin rfl (zu 97) rfl (dS fI)) (zm rfl (aQ (d := 5) rfl (fun hc5 => ?_) (fun hc5 => ?_)))))))))
 ·refine zT (zm rfl (zT (zq (Q.bin rfl (zu 122) rfl (eh fI)) (zq (aC rfl rfl) (zm rfl (aQ (d := 9) rfl (fun hc9 => ?_) (fun hc9 => ?_)))))))
  ·refine z2 (zG (dD rfl rfl (.inr rfl) rfl (dD rfl rfl (.inr rfl) rfl (zG (zq (aC rfl rfl) (zm rfl (z2 (zq (aC rfl rfl) (zm rfl (z2 (zq (aC rfl rfl) (za rfl (zk (W.sub (zc 2 rfl aU) (W.ret (ab (z1 rfl) ?_))))))))))))))))
   exact bT (by simp_all [dB] <;> omega)
  refine zT (zm rfl (zT (zq (Q.bin rfl (zu 65) rfl (dS fI)) (zT (zm rfl (aQ (d := 12) rfl (fun hc12 => ?_) (fun hc12 => ?_)))))))
  ·refine zT (zm rfl (zT (zq (Q.bin rfl (zu 90) rfl (eh fI)) (zT (zq (aC rfl rfl) (zq (aH rfl rfl) (zm rfl (aQ (d := 17) rfl (fun hc17 => ?_) (fun hc17 => ?_)))))))))
   ·refine z2 (zq (aC rfl rfl) (zm rfl (z2 (zq (aC rfl rfl) (za rfl (zk (W.sub (zc 2 rfl aU) (W.ret (ab (z1 rfl) ?_)))))))))
    exact bT (by simp_all [dB] <;> omega)
   refine zT (zm rfl (zT (zq (Q.bin rfl (zu 95) rfl (ag aD)) (zq (aH rfl rfl) (zm rfl (aQ (d := 21) rfl (fun hc21 => ?_) (fun hc21 => ?_)))))))
   ·refine z2 (zq (aC rfl rfl) (za rfl (zk (W.sub (zc 2 rfl aU) (W.ret (ab (z1 rfl) ?_))))))
    exact bT (by simp_all [dB] <;> omega)
   refine zT (zm rfl (zT (zq (Q.bin rfl (zu 58) rfl (ag aD)) (zq (aH rfl rfl) (za rfl (zk (W.sub (zc 2 rfl aU) (W.ret (ab (z1 rfl) ?_)))))))))
   exact bT (by simp_all [dB] <;> omega)
  refine z2 (zT (zq (aH rfl rfl) (zq (aH rfl rfl) (zm rfl (zT (zm rfl (zT (zq (Q.bin rfl (zu 95) rfl (ag aD)) (zq (aH rfl rfl) (zm rfl (aQ (d := 21) rfl (fun hc21 => ?_) (fun hc21 => ?_))))))))))))
  ·refine z2 (zq (aC rfl rfl) (za rfl (zk (W.sub (zc 2 rfl aU) (W.ret (ab (z1 rfl) ?_))))))
   exact bT (by simp_all [dB] <;> omega)
  refine zT (zm rfl (zT (zq (Q.bin rfl (zu 58) rfl (ag aD)) (zq (aH rfl rfl) (za rfl (zk (W.sub (zc 2 rfl aU) (W.ret (ab (z1 rfl) ?_)))))))))
  exact bT (by simp_all [dB] <;> omega)
 refine z2 (zq (aH rfl rfl) (zm rfl (zT (zm rfl (zT (zq (Q.bin rfl (zu 65) rfl (dS fI)) (zT (zm rfl (aQ (d := 12) rfl (fun hc12 => ?_) (fun hc12 => ?_))))))))))
 ·refine zT (zm rfl (zT (zq (Q.bin rfl (zu 90) rfl (eh fI)) (zT (zq (aC rfl rfl) (zq (aH rfl rfl) (zm rfl (aQ (d := 17) rfl (fun hc17 => ?_) (fun hc17 => ?_)))))))))
  ·refine z2 (zq (aC rfl rfl) (zm rfl (z2 (zq (aC rfl rfl) (za rfl (zk (W.sub (zc 2 rfl aU) (W.ret (ab (z1 rfl) ?_)))))))))
   exact bT (by simp_all [dB] <;> omega)
  refine zT (zm rfl (zT (zq (Q.bin rfl (zu 95) rfl (ag aD)) (zq (aH rfl rfl) (zm rfl (aQ (d := 21) rfl (fun hc21 => ?_) (fun hc21 => ?_)))))))
  ·refine z2 (zq (aC rfl rfl) (za rfl (zk (W.sub (zc 2 rfl aU) (W.ret (ab (z1 rfl) ?_))))))
   exact bT (by simp_all [dB] <;> omega)
  refine zT (zm rfl (zT (zq (Q.bin rfl (zu 58) rfl (ag aD)) (zq (aH rfl rfl) (za rfl (zk (W.sub (zc 2 rfl aU) (W.ret (ab (z1 rfl) ?_)))))))))
  exact bT (by simp_all [dB] <;> omega)
 refine z2 (zT (zq (aH rfl rfl) (zq (aH rfl rfl) (zm rfl (zT (zm rfl (zT (zq (Q.bin rfl (zu 95) rfl (ag aD)) (zq (aH rfl rfl) (zm rfl (aQ (d := 21) rfl (fun hc21 => ?_) (fun hc21 => ?_))))))))))))
 ·refine z2 (zq (aC rfl rfl) (za rfl (zk (W.sub (zc 2 rfl aU) (W.ret (ab (z1 rfl) ?_))))))
  exact bT (by simp_all [dB] <;> omega)
 refine zT (zm rfl (zT (zq (Q.bin rfl (zu 58) rfl (ag aD)) (zq (aH rfl rfl) (za rfl (zk (W.sub (zc 2 rfl aU) (W.ret (ab (z1 rfl) ?_)))))))))
 exact bT (by simp_all [dB] <;> omega)

section
variable {tb : Tab} {n : Nat} {E : Env} {s : St} {hs : af} {a b : Code} {Q : Ex -> T AV -> AHeap -> Prop}
theorem sw {α : Type} (st : α -> St) (I : α -> Prop) (hb : ∀ x, I x -> W tb n b E (st x) hs Q) (ha : (∀ x, I x -> W tb n b E (st x) hs Q) -> W tb n a E s hs (Ev.K tb n b Q)) : W tb n (.seq a b) E s hs Q := W.seq (ha hb)
theorem oB {α β : Type} (st : α -> β -> St) (I : α -> β -> Prop) (hb : ∀ x y, I x y -> W tb n b E (st x y) hs Q) (ha : (∀ x y, I x y -> W tb n b E (st x y) hs Q) -> W tb n a E s hs (Ev.K tb n b Q)) : W tb n (.seq a b) E s hs Q := W.seq (ha hb)
end
theorem WD.callE {tb : Tab} {n m i : Nat} {ops rest : List Oper} {keep : af} {E : Env} {s : St} {hs : af} {R : T AV -> AHeap -> Prop} {d : Nat} {ty : TypeId} {pos : String} {aft : Array Edge} {of : Operand} {args : List Operand} {ts : Array TypeId} {g : Nat} {caps l l' : List AV} {hsc : af} {P : AV -> Prop} (hf : oL s of = some (.func g caps)) (ha : mY s args = some l) (hl : l ++ caps = l')
  (hsp : Spec tb g l' [] hsc (m6 P)) (hsub : SubR hsc hs) (hkp : KIn keep hs) (hd : Nat.blt d n = true) (hk : ∀ v, P v -> WD tb n ops keep m (i + 1) rest E ((d, v) :: s) hs R) :
  WD tb n ops keep m i (⟨some d, .call ⟨.value of, args.toArray, ts⟩, ty, pos, aft, none⟩ :: rest) E s hs R :=
 WD.l (C := fun v' hs' => P v' /\ hs' = hs) (fun tm h r e => by cases e) (fun R hR => WO.callE hf ha hl hsp hsub hd fun v hv => WO.nil (hR _ _ ⟨hv, rfl⟩))
  (fun v' hs' ⟨_, h2⟩ _ => by subst h2; exact hkp) (fun v' hs' ⟨h1, h2⟩ => by subst h2; exact hk v' h1)
theorem Bytes.one {c : Nat} (h : c < 256) : Bytes [c] := by intro x hx; simp at hx; subst hx; exact h
theorem Bytes.cons {c : Nat} {l : List Nat} (h : c < 256) (g : Bytes l) : Bytes (c :: l) := by
 intro x hx
 rcases List.mem_cons.1 hx with rfl | hx
 ·exact h
 ·exact g x hx
abbrev aY := Nat × List Nat × Int × Int
def np (x : aY) : List AV := [.int .i64 ((x.1 : Nat) : Int), .str x.2.1, .int .i64 x.2.2.1, .int .i64 x.2.2.2]
def cF (l : List aY) : List AV := l.flatMap np
def ya (c : Nat) : Bool := decide (¬ c ∈ ([92, 40, 41, 91, 93, 124, 42, 43, 63, 46] : List Nat))
def we (c : Nat) : Bool := !decide (c = 92) && !decide (c = 91) && !decide (c = 93) && !decide (c = 94) && !decide (c = 45)
def rp : Nat -> Bool -> List Nat -> Option Nat
 | 0, _, _ => none
 | k + 1, ne, l =>
  if l = [] then none
  else if l.getD 0 0 = 93 then (if ne = true then some 1 else none)
  else if we (l.getD 0 0) = false then none
  else if 1 < l.length /\ l.getD 1 0 = 45 then
   (if 3 <= l.length /\ we (l.getD 2 0) = true /\ l.getD 0 0 <= l.getD 2 0 then (rp k true (l.drop 3)).map (· + 3) else none)
  else (rp k true (l.drop 1)).map (· + 1)
def DQ (i : Nat) : Option Nat -> Nat
 | none => 0
 | some n => i + n
def gP (l : List Nat) : Option Nat := if l ≠ [] /\ l.getD 0 0 = 94 then (rp 100 false (l.drop 1)).map (· + 1) else rp 100 false l
def rn (p : List Nat) (i : Nat) : Nat := DQ (i + 1) (gP (p.drop (i + 1)))
theorem tJ {p : List Nat} {i j : Nat} : (p.drop i).getD j 0 = p.getD (i + j) 0 := by
 rw [List.getD_eq_getElem?_getD, List.getD_eq_getElem?_getD, List.getElem?_drop]
theorem jH : ∀ {k : Nat} {ne : Bool} {l : List Nat} {n : Nat}, rp k ne l = some n -> 0 < n /\ n <= l.length
 | 0, _, _, _, h => by simp [rp] at h
 | k + 1, ne, l, n, h => by
  unfold rp at h
  by_cases h0 : l = []
  ·rw [if_pos h0] at h; exact absurd h (by simp)
  rw [if_neg h0] at h
  have hp : 0 < l.length := List.length_pos_iff.2 h0
  by_cases h1 : l.getD 0 0 = 93
  ·rw [if_pos h1] at h
   split at h
   ·have := Option.some.inj h; omega
   ·exact absurd h (by simp)
  rw [if_neg h1] at h
  by_cases h2 : we (l.getD 0 0) = false
  ·rw [if_pos h2] at h; exact absurd h (by simp)
  rw [if_neg h2] at h
  by_cases h3 : 1 < l.length /\ l.getD 1 0 = 45
  ·rw [if_pos h3] at h
   split at h
   ·rename_i g
    obtain ⟨m, hm, rfl⟩ := Option.map_eq_some_iff.1 h
    have := jH hm
    rw [List.length_drop] at this
    omega
   ·exact absurd h (by simp)
  ·rw [if_neg h3] at h
   obtain ⟨m, hm, rfl⟩ := Option.map_eq_some_iff.1 h
   have := jH hm
   rw [List.length_drop] at this
   omega
theorem rm {l : List Nat} {n : Nat} (h : gP l = some n) : 0 < n /\ n <= l.length := by
 unfold gP at h
 split at h
 ·rename_i g
  obtain ⟨m, hm, rfl⟩ := Option.map_eq_some_iff.1 h
  have := jH hm
  have hp : 0 < l.length := List.length_pos_iff.2 g.1
  rw [List.length_drop] at this
  omega
 ·exact jH h
theorem p4 {p : List Nat} {i : Nat} (h : ¬ rn p i = 0) : ∃ n, gP (p.drop (i + 1)) = some n /\ rn p i = i + 1 + n := by
 unfold rn at h ⊢
 cases e : gP (p.drop (i + 1)) with
 | none => rw [e] at h; exact absurd rfl h
 | some n => exact ⟨n, rfl, rfl⟩
def m7 : Nat -> Nat -> List Nat -> Option Nat
 | 0, _, _ => none
 | k + 1, o, l =>
  if l = [] then none
  else if l.getD 0 0 = 92 then (m7 k o (l.drop 2)).map (· + 2)
  else if l.getD 0 0 = 91 then (match gP (l.drop 1) with
   | none => none
   | some n => (m7 k o (l.drop (1 + n))).map (· + (1 + n)))
  else if l.getD 0 0 = 40 then (m7 k (o + 1) (l.drop 1)).map (· + 1)
  else if l.getD 0 0 = 41 then (if o = 1 then some 0 else (m7 k (o - 1) (l.drop 1)).map (· + 1))
  else (m7 k o (l.drop 1)).map (· + 1)
theorem gz : ∀ {k o : Nat} {l : List Nat} {n : Nat}, m7 k o l = some n -> n < l.length
 | 0, _, _, _, h => by simp [m7] at h
 | k + 1, o, l, n, h => by
  unfold m7 at h
  by_cases h0 : l = []
  ·rw [if_pos h0] at h; exact absurd h (by simp)
  rw [if_neg h0] at h
  have hp : 0 < l.length := List.length_pos_iff.2 h0
  by_cases h1 : l.getD 0 0 = 92
  ·rw [if_pos h1] at h
   obtain ⟨m, hm, rfl⟩ := Option.map_eq_some_iff.1 h
   have := gz hm
   rw [List.length_drop] at this
   omega
  rw [if_neg h1] at h
  by_cases h2 : l.getD 0 0 = 91
  ·rw [if_pos h2] at h
   cases e : gP (l.drop 1) with
   | none => rw [e] at h; exact absurd h (by simp)
   | some q =>
    rw [e] at h
    obtain ⟨m, hm, rfl⟩ := Option.map_eq_some_iff.1 h
    have := gz hm
    rw [List.length_drop] at this
    omega
  rw [if_neg h2] at h
  by_cases h3 : l.getD 0 0 = 40
  ·rw [if_pos h3] at h
   obtain ⟨m, hm, rfl⟩ := Option.map_eq_some_iff.1 h
   have := gz hm
   rw [List.length_drop] at this
   omega
  rw [if_neg h3] at h
  by_cases h4 : l.getD 0 0 = 41
  ·rw [if_pos h4] at h
   split at h
   ·have := Option.some.inj h; omega
   ·obtain ⟨m, hm, rfl⟩ := Option.map_eq_some_iff.1 h
    have := gz hm
    rw [List.length_drop] at this
    omega
  ·rw [if_neg h4] at h
   obtain ⟨m, hm, rfl⟩ := Option.map_eq_some_iff.1 h
   have := gz hm
   rw [List.length_drop] at this
   omega
def pV (r : List Nat -> Bool) (l : List Nat) : Option Nat :=
 if l = [] then none
 else if l.getD 0 0 = 46 \/ ya (l.getD 0 0) = true then some 1
 else if l.getD 0 0 = 92 /\ 1 < l.length /\ ya (l.getD 1 0) = false then some 2
 else if l.getD 0 0 = 91 then (gP (l.drop 1)).map (· + 1)
 else if l.getD 0 0 = 40 then (match m7 100 0 l with
  | none => none
  | some n => if r ((l.drop 1).take (n - 1)) = true then some (n + 1) else none)
 else none
theorem nD {r : List Nat -> Bool} {l : List Nat} {n : Nat} (h : pV r l = some n) : 0 < n /\ n <= l.length := by
 unfold pV at h
 by_cases h0 : l = []
 ·rw [if_pos h0] at h; exact absurd h (by simp)
 rw [if_neg h0] at h
 have hp : 0 < l.length := List.length_pos_iff.2 h0
 split at h
 ·have := Option.some.inj h; omega
 split at h
 ·rename_i g; have := Option.some.inj h; omega
 split at h
 ·obtain ⟨m, hm, rfl⟩ := Option.map_eq_some_iff.1 h
  have := rm hm
  rw [List.length_drop] at this
  omega
 split at h
 ·cases e : m7 100 0 l with
  | none => rw [e] at h; exact absurd h (by simp)
  | some q =>
   rw [e] at h
   have := gz e
   simp only at h
   split at h
   ·have := Option.some.inj h; omega
   ·exact absurd h (by simp)
 ·exact absurd h (by simp)
end Go.Proofs.YtndhhgbpcmfeiaaGreatDoor.Ev.P16
