/- Closed calls that give memory: what lies in the blocks that they give. -/
import Derived.Test.YtdpcpnhkkedfcaaDoorEvM
namespace Go.Proofs.YtdpcpnhkkedfcaaDoor.Ev
open Go.RowKit
set_option linter.unusedVariables false
noncomputable section
/-- Does a reckoned call give just this, and do these blocks hold just that? -/
def givesH (r : Option (AV × AHeap)) (v : AV) (bs : List (Nat × List AV)) : Bool :=
  match r with
  | some (x, h) => x.beq v && bs.all fun p => match h.objs.get p.1 with
    | some ob => (AV.tuple ob.cells).beq (.tuple p.2)
    | none => false
  | none => false
end
/-- Blocks and what they hold. -/
def Held (M : Inj) (N : Nat) (bs : List (Nat × List AV)) (w : World) : Prop :=
  ∀ b l, (b, l) ∈ bs → ∃ i, M b = some i ∧ i.blk < w.heap.size ∧ N ≤ i.blk ∧ ∀ (k : Nat) (x : AV), l[k]? = some x → ∃ y, w.cell? ⟨i.blk, i.off + k, none⟩ = some y ∧ VRel M x y
theorem heap_call {P : Program} {tb : Tab} {l : List Value} (H : TabOK P tb (injOf l)) {k f : Nat} {args : List AV} {v : AV} {bs : List (Nat × List AV)}
    (he : givesH (callA tb k f args ⟨l.length, .leaf⟩) v bs = true) {vs : Array Value} (hl : LRel (injOf l) args vs.toList) (w : World) :
    Calls P f vs w fun e w' => ∃ M u, e = .returned u ∧ VRel M v u ∧ Held M w.heap.size bs w' ∧ Below w.heap.size w w' := by
  unfold givesH at he
  split at he
  · rename_i x h' hr
    simp only [Bool.and_eq_true, List.all_eq_true] at he
    obtain ⟨hv, hb⟩ := he
    have hv := beq_ok _ _ hv
    subst hv
    have hh : HRel (J := injOf l) (injOf l) w.heap.size ⟨w⟩ ⟨l.length, .leaf⟩ w := ⟨Inj.le_refl _, Below.refl _ _, Nat.le_refl _, fun b o h => by simp [T.get_leaf] at h, fun b b' o o' i i' h => by simp [T.get_leaf] at h,
      fun b o h => by simp [T.get_leaf] at h, fun b hb => by unfold injOf; rw [List.getElem?_eq_none hb]⟩
    obtain ⟨_, hc⟩ := callA_ok H k _ _ _ _ _ _ _ _ _ _ hr hl hh
    refine hc.mono fun e w' ⟨M', u, h1, h2, h3, h4⟩ => ⟨M', u, h1, h4, ?_, h3.below⟩
    intro b m hm
    have hbm := hb _ hm
    simp only at hbm
    split at hbm
    · rename_i ob hob
      have := beq_ok _ _ hbm
      simp only [AV.tuple.injEq] at this
      subst this
      have ho := h3.live b ob hob
      obtain ⟨i, c, e', fr, hi, hrest⟩ := ho
      have ho := h3.live b ob hob
      refine ⟨i, hi, (ho.blk_lt hi).1, (ho.blk_lt hi).2, fun k x hx => ?_⟩
      obtain ⟨_, y, hy, hxy⟩ := ho.cell hi hx
      exact ⟨y, hy, hxy⟩
    · cases hbm
  · cases he
theorem map_u8 : ∀ {a b : List UInt8}, a.map UInt8.toNat = b.map UInt8.toNat → a = b
  | [], [], _ => rfl
  | [], _ :: _, h => by simp at h
  | _ :: _, [], h => by simp at h
  | x :: a, y :: b, h => by
    simp only [List.map_cons, List.cons.injEq] at h
    rw [UInt8.toNat_inj.1 h.1, map_u8 h.2]
theorem str_val {M : Inj} {l : List Nat} {u : Value} (h : VRel M (.str l) u) (s : ByteArray) (hs : s.data.toList.map UInt8.toNat = l) : u = .string s := by
  obtain ⟨s', rfl, h1, _⟩ := str_iff h
  congr 1
  rw [ByteArray.toList_eq, ← hs] at h1
  obtain ⟨⟨a⟩⟩ := s
  obtain ⟨⟨b⟩⟩ := s'
  congr 2
  exact map_u8 h1
/-- A slice's cells, by what its block holds. -/
theorem slice_held {M : Inj} {N : Nat} {bs : List (Nat × List AV)} {w : World} (hh : Held M N bs w) {b n : Nat} {u : Value} (hv : VRel M (.slice b 0 n 1) u) {l : List AV} (hb : (b, l) ∈ bs) (hn : 0 < n) :
    ∃ B p cap, u = .slice (some ⟨B, p, none⟩) n cap ∧ B < w.heap.size ∧ N ≤ B ∧ n ≤ cap ∧ ∀ (k : Nat) (x : AV), l[k]? = some x → ∃ y, w.cell? ⟨B, p + k, none⟩ = some y ∧ VRel M x y := by
  obtain ⟨i, cap, p, hi, hz, hc, hl, hp, rfl⟩ := slice_iff hv
  obtain ⟨j, hj, h1, h2, h3⟩ := hh b l hb
  rw [hi] at hj
  cases hj
  have hp : p = i.off := by
    rcases hp with hp | hp
    · rw [hp]; simp
    · omega
  subst hp
  exact ⟨_, _, _, rfl, h1, h2, hl, h3⟩
end Go.Proofs.YtdpcpnhkkedfcaaDoor.Ev
