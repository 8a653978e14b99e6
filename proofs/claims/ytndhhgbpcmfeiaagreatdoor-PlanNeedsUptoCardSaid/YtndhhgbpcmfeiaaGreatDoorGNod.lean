/- What a reading of the input gives the walks. -/
import Derived.Test.YtndhhgbpcmfeiaaGreatDoorRows
import Derived.Test.YtndhhgbpcmfeiaaGreatDoorGAwI
import Derived.Deep.SlicePairs
import Derived.Deep.Strs
namespace Go.Proofs.YtndhhgbpcmfeiaaGreatDoor.Ev
open Go.RowKit Go.ChangeShapes Go.WideShapes
set_option linter.unusedVariables false
set_option linter.unusedSimpArgs false
theorem cell_cells' {w : World} {b o : Nat} {v : Value} (h : w.cell? ⟨b, o, none⟩ = some v) : ∃ c e fr, w.heap[b]? = some (.cells c e fr) ∧ c[o]? = some v := by
  unfold World.cell? at h
  cases hb : w.heap[b]? with
  | none => rw [hb] at h; cases h
  | some x =>
    rw [hb] at h
    cases x with
    | cells c e fr => exact ⟨c, e, fr, rfl, h⟩
    | _ => cases h
/-- Bulk. -/
theorem bk_one {H : Type} (d : DataW H) : 1 ≤ Rows.uptoBulk d := by
  cases d with
  | lit l => cases l <;> simp [Rows.uptoBulk]
  | nil => simp [Rows.uptoBulk]
  | ptr d => simp [Rows.uptoBulk]
  | slice elems spare => simp [Rows.uptoBulk]
  | agg parts => simp [Rows.uptoBulk]
  | iface t d => simp [Rows.uptoBulk]
  | map entries => simp [Rows.uptoBulk]
  | held h => simp [Rows.uptoBulk]
theorem bk_part {H : Type} {d : DataW H} {l : List (DataW H)} (h : d ∈ l) : Rows.uptoBulk d ≤ Rows.uptoBulkAll l := by
  induction l with
  | nil => cases h
  | cons x r ih =>
    simp only [Rows.uptoBulkAll]
    rcases List.mem_cons.1 h with e | e
    · subst e; omega
    · have := ih e; omega
theorem bk_len {H : Type} (l : List (DataW H)) : l.length ≤ Rows.uptoBulkAll l := by
  induction l with
  | nil => simp [Rows.uptoBulkAll]
  | cons x r ih => have := bk_one x; simp only [Rows.uptoBulkAll, List.length_cons]; omega
theorem bk_pair {H : Type} (x y : DataW H) : Rows.uptoBulk x + Rows.uptoBulk y + 1 = Rows.uptoBulk (.agg [x, y]) := by simp [Rows.uptoBulk, Rows.uptoBulkAll]
instance : Inhabited AV := ⟨.nils⟩
instance : Inhabited InB := ⟨⟨⟨0, 0, 0, 0, undef⟩, true, []⟩⟩
def CellsOK (w : World) (M : Inj) (x : InB) : Prop := x.live = true ∧ x.bi.val = undef ∧ ∃ c e fr, w.heap[x.bi.blk]? = some (.cells c e fr) ∧ ∀ k v, x.cells[k]? = some v → v.isCell = true ∧ ∃ u, c[x.bi.off + k]? = some u ∧ VRel M v u
def strOf : Value → List Nat
  | .string s => s.data.toList.map UInt8.toNat
  | _ => []
def numV : Value → Int
  | .int _ n => n
  | _ => 0
theorem str_rel {M : Inj} {s : ByteArray} : VRel M (.str (strOf (.string s))) (.string s) := .str s _ rfl
theorem str_bytes (s : ByteArray) : Bytes (strOf (.string s)) := by
  intro c hc
  obtain ⟨x, _, rfl⟩ := List.mem_map.1 hc
  exact x.toNat_lt
section
variable {H : Type} {enc : TypeId × Value → H} {P : Program} {w : World} {held : Bool}
/-- The blocks that come in, from number k on. -/
def hsIn : Nat → List InB → HSt
  | _, [] => []
  | k, x :: l => ⟨k, ⟨0, false, x.cells⟩, false⟩ :: hsIn (k + 1) l
theorem hsIn_ro : ∀ (l : List InB) (k : Nat), ∀ e ∈ hsIn k l, e.w = false
  | [], k, e, h => by cases h
  | x :: l, k, e, h => by
    rcases List.mem_cons.1 h with rfl | h
    · rfl
    · exact hsIn_ro l _ e h
theorem hsIn_at : ∀ (l : List InB) (k j : Nat) (x : InB), l[j]? = some x → (⟨k + j, ⟨0, false, x.cells⟩, false⟩ : HE) ∈ hsIn k l
  | [], k, j, x, h => by simp at h
  | y :: l, k, 0, x, h => by simp at h; subst h; exact List.mem_cons_self
  | y :: l, k, j + 1, x, h => by
    have := hsIn_at l (k + 1) j x (by simpa using h)
    rw [show k + (j + 1) = k + 1 + j by omega]
    exact List.mem_cons_of_mem _ this
theorem hsIn_mem : ∀ (l : List InB) (k : Nat) (e : HE), e ∈ hsIn k l → ∃ j x, l[j]? = some x ∧ e = ⟨k + j, ⟨0, false, x.cells⟩, false⟩
  | [], k, e, h => by cases h
  | y :: l, k, e, h => by
    rcases List.mem_cons.1 h with rfl | h
    · exact ⟨0, y, rfl, rfl⟩
    · obtain ⟨j, x, h1, h2⟩ := hsIn_mem l _ e h
      exact ⟨j + 1, x, by simpa using h1, by rw [h2, show k + 1 + j = k + (j + 1) by omega]⟩
theorem hsIn_nd : ∀ (l : List InB) (k : Nat), ((hsIn k l).map (·.b)).Nodup
  | [], k => List.nodup_nil
  | x :: l, k => by
    show (k :: (hsIn (k + 1) l).map (·.b)).Nodup
    refine List.nodup_cons.2 ⟨fun h => ?_, hsIn_nd l _⟩
    obtain ⟨e, he, hb⟩ := List.mem_map.1 h
    obtain ⟨j, x, _, rfl⟩ := hsIn_mem l _ e he
    simp only at hb
    omega
theorem hsIn_seen {I : List InB} (h : ∀ x ∈ I, x.live = true) : SeenIn I (hsIn 0 I) := by
  refine ⟨hsIn_nd I 0, fun e he => ?_⟩
  obtain ⟨j, x, h1, rfl⟩ := hsIn_mem I 0 e he
  exact ⟨rfl, x, by simpa using h1, h x (List.mem_of_getElem? h1), rfl⟩
/-- A slice that comes in as an argument: its block is there. -/
theorem slice_there {base : Nat} {t e : TypeId} {v : Value} (hu : P.underlying t = some (.slice e)) (hv : Value.okWide P w .any base t v) : ∀ a len cap, v = .slice (some a) len cap → a.spot = none ∧ ∃ c e fr, w.heap[a.block]? = some (.cells c e fr) := by
  intro a len cap h
  subst h
  simp only [Value.okWide, hu, Cell.okWide, Cell.ok] at hv
  obtain ⟨_, _, h3⟩ := hv
  obtain ⟨_, h4, row, cells, h5, _⟩ := h3
  refine ⟨h4, ?_⟩
  unfold World.shape? at h5
  split at h5
  · rename_i c e fr hc
    exact ⟨c, e, fr, hc⟩
  · cases h5
end
end Go.Proofs.YtndhhgbpcmfeiaaGreatDoor.Ev

/- Trees in memory, as far as their types hang on them. -/
namespace Go.Proofs.YtndhhgbpcmfeiaaGreatDoor.Ev
open Go.RowKit
set_option linter.unusedVariables false
/-- A block is there. -/
def MemH (hs : HSt) (b : Nat) (o : AObj) : Prop := ∃ w, (⟨b, o, w⟩ : HE) ∈ hs
theorem MemH.tl {hs : HSt} {b : Nat} {o : AObj} {e : HE} (h : MemH hs b o) : MemH (e :: hs) b o := let ⟨w, g⟩ := h; ⟨w, List.mem_cons_of_mem _ g⟩
theorem MemH.app {A hs : HSt} {b : Nat} {o : AObj} (h : MemH hs b o) : MemH (A ++ hs) b o := let ⟨w, g⟩ := h; ⟨w, List.mem_append_right _ g⟩
theorem MemH.ro {hs : HSt} {b : Nat} {o : AObj} (h : MemH hs b o) : MemH (ro hs) b o := let ⟨w, g⟩ := h; ⟨false, List.mem_map.2 ⟨_, g, rfl⟩⟩
def nodeC (k : Int) (op : List Nat) (n : Int) (ms : AV) (rg off md : Int) (nm : AV) (sd : Int) (bl : Bool) (kd : AV) : List AV :=
  [.int .i64 k, .str op, .int .i64 n, ms, .int .i64 rg, .int .i64 off, .int .i64 md, nm, .int .i64 sd, .bool bl, kd]
/-- Cells of a tree's node, at most so deep. -/
def NRep (hs : HSt) : Nat → List AV → Prop
  | 0, _ => False
  | d + 1, c => ∃ k op n ms rg off md nm sd bl kd, c = nodeC k op n ms rg off md nm sd bl kd ∧ Bytes op ∧ op.length ≤ 281474976710656 ∧ ms.isCell = true ∧ nm.isCell = true ∧
      (kd = .nils ∨ ∃ b len ob, kd = .slice b 0 len 11 ∧ MemH hs b ob ∧ len ≤ 1048576 ∧ ∀ i, i < len → ∃ c', sub? ob.cells ((0 + i) * 11) 11 = some c' ∧ NRep hs d c')
theorem NRep.mono {hs hs' : HSt} (hm : ∀ b o, MemH hs b o → MemH hs' b o) : ∀ {d : Nat} {c : List AV}, NRep hs d c → NRep hs' d c
  | 0, _, h => h
  | d + 1, c, ⟨k, op, n, ms, rg, off, md, nm, sd, bl, kd, h1, h2, h3, h5, h6, h4⟩ => ⟨k, op, n, ms, rg, off, md, nm, sd, bl, kd, h1, h2, h3, h5, h6, h4.imp id fun ⟨b, len, ob, g1, g2, g3, g4⟩ =>
      ⟨b, len, ob, g1, hm _ _ g2, g3, fun i hi => let ⟨c', e1, e2⟩ := g4 i hi; ⟨c', e1, NRep.mono hm e2⟩⟩⟩
theorem NRep.succ {hs : HSt} : ∀ {d : Nat} {c : List AV}, NRep hs d c → NRep hs (d + 1) c
  | 0, _, h => h.elim
  | d + 1, c, ⟨k, op, n, ms, rg, off, md, nm, sd, bl, kd, h1, h2, h3, h5, h6, h4⟩ => ⟨k, op, n, ms, rg, off, md, nm, sd, bl, kd, h1, h2, h3, h5, h6, h4.imp id fun ⟨b, len, ob, g1, g2, g3, g4⟩ =>
      ⟨b, len, ob, g1, g2, g3, fun i hi => let ⟨c', e1, e2⟩ := g4 i hi; ⟨c', e1, NRep.succ e2⟩⟩⟩
theorem NRep.le {hs : HSt} {d : Nat} {c : List AV} (h : NRep hs d c) : ∀ {d' : Nat}, d ≤ d' → NRep hs d' c := by
  intro d' hd
  induction hd with
  | refl => exact h
  | step _ ih => exact ih.succ
/-- Blocks that are only looked at: all those behind some. -/
theorem SubR.self {hs : HSt} (h : ∀ e ∈ hs, e.w = false) : SubR hs hs := ⟨fun e he => ⟨h e he, e.w, by obtain ⟨b, o, w⟩ := e; exact he⟩, id⟩
theorem SubR.tl {a hs : HSt} {e : HE} (g : SubR a hs) : SubR a (e :: hs) :=
  ⟨fun x hx => let ⟨h1, w, h2⟩ := g.1 x hx; ⟨h1, w, List.mem_cons_of_mem _ h2⟩, fun hn => g.2 (by rw [List.map_cons, List.nodup_cons] at hn; exact hn.2)⟩
theorem SubR.app {a A hs : HSt} (g : SubR a hs) : SubR a (A ++ hs) :=
  ⟨fun x hx => let ⟨h1, w, h2⟩ := g.1 x hx; ⟨h1, w, List.mem_append_right _ h2⟩, fun hn => g.2 (by rw [List.map_append] at hn; exact (List.nodup_append.1 hn).2.1)⟩
theorem perm_tail {N G K X : HSt} : ((N ++ K) ++ (X ++ G)).Perm ((N ++ G) ++ (K ++ X)) := by
  rw [List.append_assoc, List.append_assoc]
  refine List.Perm.append_left N ?_
  rw [← List.append_assoc]
  exact List.perm_append_comm
theorem ro_w {hs : HSt} : ∀ e ∈ ro hs, e.w = false := by
  intro e he
  obtain ⟨x, _, rfl⟩ := List.mem_map.1 he
  rfl
theorem SubR.appl {a A hs : HSt} (g : SubR a A) : SubR a (A ++ hs) :=
  ⟨fun x hx => let ⟨h1, w, h2⟩ := g.1 x hx; ⟨h1, w, List.mem_append_left _ h2⟩, fun hn => g.2 (by rw [List.map_append] at hn; exact (List.nodup_append.1 hn).1)⟩
theorem NRep.node {hs : HSt} : ∀ {d : Nat} {c : List AV}, NRep hs d c → ∃ k op n ms rg off md nm sd bl kd, c = nodeC k op n ms rg off md nm sd bl kd ∧ Bytes op ∧ ms.isCell = true ∧ nm.isCell = true ∧ kd.isCell = true
  | 0, _, h => h.elim
  | d + 1, c, ⟨k, op, n, ms, rg, off, md, nm, sd, bl, kd, h1, h2, h3, h5, h6, h4⟩ => ⟨k, op, n, ms, rg, off, md, nm, sd, bl, kd, h1, h2, h5, h6, by rcases h4 with rfl | ⟨b, len, ob, rfl, _⟩ <;> rfl⟩
end Go.Proofs.YtndhhgbpcmfeiaaGreatDoor.Ev
