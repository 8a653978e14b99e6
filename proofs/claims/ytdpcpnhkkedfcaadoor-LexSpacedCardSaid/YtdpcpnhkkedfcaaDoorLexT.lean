/- Layer 15: what the listed tables give, and how it is kept. -/
import Derived.Test.YtdpcpnhkkedfcaaDoorProg
import Derived.WalkKit
import Derived.ProofKit
import Derived.OpenShut
import Derived.Outline
import Derived.WalkSpells
import Derived.WalkLawsBesides
import Derived.Deep.QuietTactic
import Derived.BigQuiet
import Derived.Lib.Hide
import Derived.Deep.DeepFit
import Derived.Deep.DeepMust

import Derived.Test.YtdpcpnhkkedfcaaDoorShelf
import Derived.Test.YtdpcpnhkkedfcaaDoorLexB
import Derived.Test.YtdpcpnhkkedfcaaDoorLexC
import Derived.Test.YtdpcpnhkkedfcaaDoorLexM
import Derived.Lib.AtoiErrMem
namespace Go.Proofs.YtdpcpnhkkedfcaaDoor
open Go.ChangeShapes Go.WideShapes Go.ChangeAt Go.RowKit
set_option linter.unusedVariables false
set_option maxRecDepth 100000
structure Tab (w : World) : Prop where
  pow : Lib.TabIs Tryd.prog w "internal/strconv.uint64pow10" .u64 Lib.pow10Tab
  err : ∃ tp p, w.var? Tryd.prog "strconv.ErrRange" = some #[.iface tp p]
theorem gPow : Tryd.prog.globalNamed "internal/strconv.uint64pow10" = some 2 := by kernel_rfl
theorem gErr : Tryd.prog.globalNamed "strconv.ErrRange" = some 1 := by kernel_rfl
theorem var_lt {w : World} {n : String} {g : Nat} {x : Array Value} (hg : Tryd.prog.globalNamed n = some g) (h : w.var? Tryd.prog n = some x) : g < w.heap.size := by
  unfold World.var? at h
  rw [hg] at h
  simp only [Option.bind_some] at h
  rcases Nat.lt_or_ge g w.heap.size with h' | h'
  · exact h'
  · simp [Array.getElem?_eq_none h'] at h
theorem Tab.below {w w' : World} (h : Tab w) (hb : Below w.heap.size w w') : Tab w' := by
  obtain ⟨h1, tp, p, h2⟩ := h
  exact ⟨var?_below hb gPow (var_lt gPow h1) h1, tp, p, var?_below hb gErr (var_lt gErr h2) h2⟩
theorem grow_below (w : World) (k : Nat) (os : Array Obj) : Below w.heap.size w (Go.Sort.grow (w.drewN k) os) :=
  ⟨rfl, rfl, rfl, by simp [Go.Sort.grow, World.drewN], fun i hi => by simp [Go.Sort.grow, World.drewN]; rw [Array.getElem?_append_left (by simpa using hi)]⟩
theorem drewN_below (w : World) (n : Nat) : Below w.heap.size w (w.drewN n) := ⟨rfl, rfl, rfl, Nat.le_refl _, fun _ _ => rfl⟩
theorem _root_.Go.RowKit.Below.drewN' {B : Nat} {a w : World} (h : Below B a w) (n : Nat) : Below B a (w.drewN n) := below_drewN h n
/-- strconv.Atoi at digits. -/
theorem atoi_ok (s : ByteArray) (hs : s.size ≤ 281474976710656) (hd : allDig s.data.toList) (hne : s.data.toList ≠ []) (n : Nat) (hn : decA 0 s.data.toList = n) (h : n < 9223372036854775808) (w : World) :
    Calls Tryd.prog 21 #[.string s] w fun e w' => e = .returned (.tuple #[.int .i64 (n : Int), .nilIface]) ∧ Below w.heap.size w w' := by
  refine (Tryd.strconv_Atoi_ok s (by omega) n (by rw [atoi_dec hd hne, hn, if_pos h]) w).mono ?_
  rintro e w' ⟨rfl, rfl | ⟨t, rfl⟩⟩
  · exact ⟨rfl, Below.refl _ _⟩
  · exact ⟨rfl, Lib.bytesWorld_below _ _ _⟩
theorem atoi_range (s : ByteArray) (hs : s.size ≤ 281474976710656) (hd : allDig s.data.toList) (hne : s.data.toList ≠ []) (n : Nat) (hn : decA 0 s.data.toList = n) (h : ¬ n < 9223372036854775808) (w : World) (hT : Tab w) :
    Calls Tryd.prog 21 #[.string s] w fun e w' => (∃ (v : Int) (B : Nat), e = .returned (.tuple #[.int .i64 v, .iface 81 (.pointer (some ⟨B, 0, none⟩))])) ∧ Below w.heap.size w w' := by
  obtain ⟨tp, p, he⟩ := hT.err
  refine (Tryd.strconv_Atoi_range_var s hs (by rw [atoi_dec hd hne, hn, if_neg h]) tp p w he).mono ?_
  rintro e w' ⟨N, rfl, _, _, hb⟩
  exact ⟨⟨_, N, rfl⟩, hb⟩
end Go.Proofs.YtdpcpnhkkedfcaaDoor
