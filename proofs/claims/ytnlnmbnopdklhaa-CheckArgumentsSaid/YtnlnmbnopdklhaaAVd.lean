/- Chapter 17, walks: the document's numbers and quoted texts, as far as their shapes. -/
import Derived.Test.YtnlnmbnopdklhaaAV8
namespace Go.Proofs.Ytnlnmbnopdklhaa.Ev
open Go.RowKit
set_option linter.unusedVariables false
set_option linter.unusedSimpArgs false
set_option maxRecDepth 100000
set_option maxHeartbeats 1000000
section
variable {tb : Tab} {n : Nat} {E : Env} {s : St} {hs : HSt} {a b : Code} {Q : Ex → T AV → AHeap → Prop}
/-- What stands behind is walked once, for all ways that lead there. -/
theorem W.seqJ1 {α : Type} (st : α → St) (hp : α → HSt) (I : α → Prop) (hb : ∀ x, I x → W tb n b E (st x) (hp x) Q) (ha : (∀ x, I x → W tb n b E (st x) (hp x) Q) → W tb n a E s hs (Ev.K tb n b Q)) : W tb n (.seq a b) E s hs Q := W.seq (ha hb)
end
theorem WD.callE {tb : Tab} {n m i : Nat} {ops rest : List Oper} {keep : HSt} {E : Env} {s : St} {hs : HSt} {R : T AV → AHeap → Prop} {d : Nat} {ty : TypeId} {pos : String} {aft : Array Edge} {of : Operand} {args : List Operand} {ts : Array TypeId} {g : Nat} {caps l l' : List AV} {hsc : HSt} {P : AV → Prop} (hf : oL s of = some (.func g caps)) (ha : oLs s args = some l) (hl : l ++ caps = l')
    (hsp : Spec tb g l' [] hsc (ValE P)) (hsub : SubR hsc hs) (hkp : KIn keep hs) (hd : Nat.blt d n = true) (hk : ∀ v, P v → WD tb n ops keep m (i + 1) rest E ((d, v) :: s) hs R) :
    WD tb n ops keep m i (⟨some d, .call ⟨.value of, args.toArray, ts⟩, ty, pos, aft, none⟩ :: rest) E s hs R :=
  WD.l (C := fun v' hs' => P v' ∧ hs' = hs) (fun tm h r e => by cases e) (fun R hR => WO.callE hf ha hl hsp hsub hd fun v hv => WO.nil (hR _ _ ⟨hv, rfl⟩))
    (fun v' hs' ⟨_, h2⟩ _ => by subst h2; exact hkp) (fun v' hs' ⟨h1, h2⟩ => by subst h2; exact hk v' h1)
theorem Bytes.one {c : Nat} (h : c < 256) : Bytes [c] := by intro x hx; simp at hx; subst hx; exact h
theorem Bytes.cons {c : Nat} {l : List Nat} (h : c < 256) (g : Bytes l) : Bytes (c :: l) := by
  intro x hx
  rcases List.mem_cons.1 hx with rfl | hx
  · exact h
  · exact g x hx
end Go.Proofs.Ytnlnmbnopdklhaa.Ev

/- Chapter 17, walks: the document's tokens, as far as their shapes. -/
namespace Go.Proofs.Ytnlnmbnopdklhaa.Ev
open Go.RowKit
set_option linter.unusedVariables false
set_option linter.unusedSimpArgs false
set_option maxRecDepth 100000
set_option maxHeartbeats 1000000
/-- A token, the place behind it, and why not. -/
def tokP (s : List Nat) (i : Nat) (v : AV) : Prop :=
  ∃ (z : Nat) (t : List Nat) (n a : Int) (k : Nat) (e : Int), v = .tuple [.agg [.int .i64 (z : Int), .str t, .int .i64 n, .int .i64 a], .int .i64 (k : Int), .int .i64 e] ∧ Bytes t ∧ t.length ≤ 1024 ∧ (e = 0 → i < k ∧ k ≤ s.length)
abbrev TokT := Nat × List Nat × Int × Int
def tokC (x : TokT) : List AV := [.int .i64 ((x.1 : Nat) : Int), .str x.2.1, .int .i64 x.2.2.1, .int .i64 x.2.2.2]
def tokCs (l : List TokT) : List AV := l.flatMap tokC
def scanP (v : AV) (D : HSt) : Prop :=
  (∃ a e : Int, e ≠ 0 ∧ v = .tuple [.nils, .int .i64 a, .int .i64 e] ∧ D = []) ∨
  ∃ (b : Nat) (ex : Bool) (acc : List TokT) (a : Int), v = .tuple [.slice b 0 (acc.length + 1) 4, .int .i64 0, .int .i64 0] ∧
    D = [⟨b, ⟨4, ex, tokCs acc ++ [.int .i64 ((6 : Nat) : Int), .str [], .int .i64 0, .int .i64 a]⟩, true⟩] ∧ (∀ x ∈ acc, Bytes x.2.1 ∧ x.2.1.length ≤ 1024) ∧ acc.length ≤ 1024
end Go.Proofs.Ytnlnmbnopdklhaa.Ev

/- Chapter 7, by the document: classes and what is in parentheses. -/
namespace Go.Proofs.Ytnlnmbnopdklhaa.Ev
open Go.RowKit
set_option linter.unusedVariables false
set_option linter.unusedSimpArgs false
set_option maxRecDepth 100000
set_option maxHeartbeats 1000000
def plainB (c : Nat) : Bool := decide (¬ c ∈ ([92, 40, 41, 91, 93, 124, 42, 43, 63, 46] : List Nat))
def itemB (c : Nat) : Bool := !decide (c = 92) && !decide (c = 91) && !decide (c = 93) && !decide (c = 94) && !decide (c = 45)
/-- How far a class's items and its mark go. -/
def clsF : Nat → Bool → List Nat → Option Nat
  | 0, _, _ => none
  | k + 1, ne, l =>
    if l = [] then none
    else if l.getD 0 0 = 93 then (if ne = true then some 1 else none)
    else if itemB (l.getD 0 0) = false then none
    else if 1 < l.length ∧ l.getD 1 0 = 45 then
      (if 3 ≤ l.length ∧ itemB (l.getD 2 0) = true ∧ l.getD 0 0 ≤ l.getD 2 0 then (clsF k true (l.drop 3)).map (· + 3) else none)
    else (clsF k true (l.drop 1)).map (· + 1)
def clsE (i : Nat) : Option Nat → Nat
  | none => 0
  | some n => i + n
/-- How far a class goes behind its first mark. -/
def classL (l : List Nat) : Option Nat := if l ≠ [] ∧ l.getD 0 0 = 94 then (clsF 100 false (l.drop 1)).map (· + 1) else clsF 100 false l
/-- Where a class ends; 0: there is none. -/
def clsEnd (p : List Nat) (i : Nat) : Nat := clsE (i + 1) (classL (p.drop (i + 1)))
theorem drop_getD {p : List Nat} {i j : Nat} : (p.drop i).getD j 0 = p.getD (i + j) 0 := by
  rw [List.getD_eq_getElem?_getD, List.getD_eq_getElem?_getD, List.getElem?_drop]
end Go.Proofs.Ytnlnmbnopdklhaa.Ev

/- Chapter 7, by the document: parentheses. -/
namespace Go.Proofs.Ytnlnmbnopdklhaa.Ev
open Go.RowKit
set_option linter.unusedVariables false
set_option linter.unusedSimpArgs false
set_option maxRecDepth 100000
set_option maxHeartbeats 1000000
theorem clsF_len : ∀ {k : Nat} {ne : Bool} {l : List Nat} {n : Nat}, clsF k ne l = some n → 0 < n ∧ n ≤ l.length
  | 0, _, _, _, h => by simp [clsF] at h
  | k + 1, ne, l, n, h => by
    unfold clsF at h
    by_cases h0 : l = []
    · rw [if_pos h0] at h; exact absurd h (by simp)
    rw [if_neg h0] at h
    have hp : 0 < l.length := List.length_pos_iff.2 h0
    by_cases h1 : l.getD 0 0 = 93
    · rw [if_pos h1] at h
      split at h
      · have := Option.some.inj h; omega
      · exact absurd h (by simp)
    rw [if_neg h1] at h
    by_cases h2 : itemB (l.getD 0 0) = false
    · rw [if_pos h2] at h; exact absurd h (by simp)
    rw [if_neg h2] at h
    by_cases h3 : 1 < l.length ∧ l.getD 1 0 = 45
    · rw [if_pos h3] at h
      split at h
      · rename_i g
        obtain ⟨m, hm, rfl⟩ := Option.map_eq_some_iff.1 h
        have := clsF_len hm
        rw [List.length_drop] at this
        omega
      · exact absurd h (by simp)
    · rw [if_neg h3] at h
      obtain ⟨m, hm, rfl⟩ := Option.map_eq_some_iff.1 h
      have := clsF_len hm
      rw [List.length_drop] at this
      omega
theorem classL_len {l : List Nat} {n : Nat} (h : classL l = some n) : 0 < n ∧ n ≤ l.length := by
  unfold classL at h
  split at h
  · rename_i g
    obtain ⟨m, hm, rfl⟩ := Option.map_eq_some_iff.1 h
    have := clsF_len hm
    have hp : 0 < l.length := List.length_pos_iff.2 g.1
    rw [List.length_drop] at this
    omega
  · exact clsF_len h
/-- How far it is to the mark that closes. -/
def cloF : Nat → Nat → List Nat → Option Nat
  | 0, _, _ => none
  | k + 1, o, l =>
    if l = [] then none
    else if l.getD 0 0 = 92 then (cloF k o (l.drop 2)).map (· + 2)
    else if l.getD 0 0 = 91 then (match classL (l.drop 1) with
      | none => none
      | some n => (cloF k o (l.drop (1 + n))).map (· + (1 + n)))
    else if l.getD 0 0 = 40 then (cloF k (o + 1) (l.drop 1)).map (· + 1)
    else if l.getD 0 0 = 41 then (if o = 1 then some 0 else (cloF k (o - 1) (l.drop 1)).map (· + 1))
    else (cloF k o (l.drop 1)).map (· + 1)
def cloV (i : Nat) : Option Nat → Int
  | none => -1
  | some n => ((i + n : Nat) : Int)
end Go.Proofs.Ytnlnmbnopdklhaa.Ev

/- Chapter 7, by the document: atoms, alternatives, patterns. -/
namespace Go.Proofs.Ytnlnmbnopdklhaa.Ev
open Go.RowKit
set_option linter.unusedVariables false
set_option linter.unusedSimpArgs false
set_option maxRecDepth 100000
set_option maxHeartbeats 1000000
theorem cloF_len : ∀ {k o : Nat} {l : List Nat} {n : Nat}, cloF k o l = some n → n < l.length
  | 0, _, _, _, h => by simp [cloF] at h
  | k + 1, o, l, n, h => by
    unfold cloF at h
    by_cases h0 : l = []
    · rw [if_pos h0] at h; exact absurd h (by simp)
    rw [if_neg h0] at h
    have hp : 0 < l.length := List.length_pos_iff.2 h0
    by_cases h1 : l.getD 0 0 = 92
    · rw [if_pos h1] at h
      obtain ⟨m, hm, rfl⟩ := Option.map_eq_some_iff.1 h
      have := cloF_len hm
      rw [List.length_drop] at this
      omega
    rw [if_neg h1] at h
    by_cases h2 : l.getD 0 0 = 91
    · rw [if_pos h2] at h
      cases e : classL (l.drop 1) with
      | none => rw [e] at h; exact absurd h (by simp)
      | some q =>
        rw [e] at h
        obtain ⟨m, hm, rfl⟩ := Option.map_eq_some_iff.1 h
        have := cloF_len hm
        rw [List.length_drop] at this
        omega
    rw [if_neg h2] at h
    by_cases h3 : l.getD 0 0 = 40
    · rw [if_pos h3] at h
      obtain ⟨m, hm, rfl⟩ := Option.map_eq_some_iff.1 h
      have := cloF_len hm
      rw [List.length_drop] at this
      omega
    rw [if_neg h3] at h
    by_cases h4 : l.getD 0 0 = 41
    · rw [if_pos h4] at h
      split at h
      · have := Option.some.inj h; omega
      · obtain ⟨m, hm, rfl⟩ := Option.map_eq_some_iff.1 h
        have := cloF_len hm
        rw [List.length_drop] at this
        omega
    · rw [if_neg h4] at h
      obtain ⟨m, hm, rfl⟩ := Option.map_eq_some_iff.1 h
      have := cloF_len hm
      rw [List.length_drop] at this
      omega
/-- How long the atom is that begins here. -/
def atomF (r : List Nat → Bool) (l : List Nat) : Option Nat :=
  if l = [] then none
  else if l.getD 0 0 = 46 ∨ plainB (l.getD 0 0) = true then some 1
  else if l.getD 0 0 = 92 ∧ 1 < l.length ∧ plainB (l.getD 1 0) = false then some 2
  else if l.getD 0 0 = 91 then (classL (l.drop 1)).map (· + 1)
  else if l.getD 0 0 = 40 then (match cloF 100 0 l with
    | none => none
    | some n => if r ((l.drop 1).take (n - 1)) = true then some (n + 1) else none)
  else none
theorem atomF_len {r : List Nat → Bool} {l : List Nat} {n : Nat} (h : atomF r l = some n) : 0 < n ∧ n ≤ l.length := by
  unfold atomF at h
  by_cases h0 : l = []
  · rw [if_pos h0] at h; exact absurd h (by simp)
  rw [if_neg h0] at h
  have hp : 0 < l.length := List.length_pos_iff.2 h0
  split at h
  · have := Option.some.inj h; omega
  split at h
  · rename_i g; have := Option.some.inj h; omega
  split at h
  · obtain ⟨m, hm, rfl⟩ := Option.map_eq_some_iff.1 h
    have := classL_len hm
    rw [List.length_drop] at this
    omega
  split at h
  · cases e : cloF 100 0 l with
    | none => rw [e] at h; exact absurd h (by simp)
    | some q =>
      rw [e] at h
      have := cloF_len e
      simp only at h
      split at h
      · have := Option.some.inj h; omega
      · exact absurd h (by simp)
  · exact absurd h (by simp)
/-- The alternatives of a pattern. -/
def cutF (r : List Nat → Bool) : Nat → List Nat → List Nat → Option (List (List Nat))
  | 0, _, _ => none
  | k + 1, cur, l =>
    if l = [] then some [cur]
    else if l.getD 0 0 = 124 then (cutF r k [] (l.drop 1)).map (cur :: ·)
    else match atomF r l with
      | none => none
      | some n =>
        if n < l.length ∧ (l.getD n 0 = 42 ∨ l.getD n 0 = 43 ∨ l.getD n 0 = 63) then cutF r k (cur ++ l.take (n + 1)) (l.drop (n + 1))
        else cutF r k (cur ++ l.take n) (l.drop n)
def cutP (r : List Nat → Bool) (p : List Nat) (v : AV) (D : HSt) : Prop :=
  (cutF r 100 [] p = none ∧ v = .tuple [.nils, .bool false] ∧ D = []) ∨
  ∃ L b ex, cutF r 100 [] p = some L ∧ v = .tuple [.slice b 0 L.length 1, .bool true] ∧ D = [⟨b, ⟨1, ex, L.map AV.str⟩, true⟩]
/-- Is it a pattern? -/
def rightF : Nat → List Nat → Bool
  | 0, _ => false
  | d + 1, p => (cutF (rightF d) 100 [] p).isSome
end Go.Proofs.Ytnlnmbnopdklhaa.Ev
