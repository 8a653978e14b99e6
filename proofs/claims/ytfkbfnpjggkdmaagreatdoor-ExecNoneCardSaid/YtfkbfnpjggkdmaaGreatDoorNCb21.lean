/- What is known of the functions that throw and of those that catch; the layer's examples hold. -/
import Derived.Test.YtfkbfnpjggkdmaaGreatDoorNCa21
namespace Go.Proofs.YtfkbfnpjggkdmaaGreatDoor.Ev
open Go.RowKit
variable {J : Ctx}
set_option linter.unusedVariables false
set_option maxRecDepth 1000000
theorem store_val {P : Program} {tb : Tab} (H : TabOK P tb J) {M : Inj} {N : Nat → Prop} {w0 : Base J} {h : AHeap} {w : World} (hh : HRel M N w0 h w) {t b o : Nat} {v : AV} {v' : AV} {h' : AHeap} {p u : Value} {I : BI} (hp : VRel M (.ptr b o) p) (hI : M b = some I) (hv : VRel M v u) (hs : storeA tb h t b o v = some (v', h')) :
    ∃ w', (Instr.storeAt t (.pointer (some ⟨I.blk, I.off + o, none⟩)) u).run P w = .ok () w' ∧ HRel M N w0 h' w' := by
  have hval := ptr_val hp hI
  have hxv := hv.cells
  unfold storeA at hs
  split at hs
  · rename_i n ob hn hob
    split at hs
    · rename_i hb hz1
      rw [Nat.blt_eq] at hz1
      simp only [Bool.and_eq_true, Nat.beq_eq, Nat.ble_eq, List.all_eq_true] at hb
      obtain ⟨⟨b1, b2⟩, b3⟩ := hb
      simp only [Option.some.injEq, Prod.mk.injEq] at hs
      obtain ⟨rfl, rfl⟩ := hs
      obtain ⟨w', r1, r2⟩ := hh.store (P := P) hob hI hval (by omega) hxv b3 o (by omega)
      refine ⟨w', ?_, r2⟩
      have hsz : u.cells.size = n := by rw [← b1, ← hxv.1]; simp
      simp only [Instr.storeAt, Instr.sureAddr, storeVar, Sem.run_bind, Sem.run_pure, Result.andThen_ok, run_size H hn, hsz, ne_eq, not_true_eq_false, if_false]
      exact r1
    · cases hs
  · cases hs
theorem zero37 : tabP.zero 37 = some (.agg [.int .i64 0, .nils]) := by kernel_rfl
theorem rcv_some {g : Nat} {a i b j c k : Nat} {l : List AV} {h h' : AHeap} (hr : rcvX tabP g [.ptr a i, .ptr b j, .ptr c k] l h = some h') :
    ∃ e v1 h1 v2 h2 v3, l = [e] ∧ storeA tabP h 37 a i (.agg [.int .i64 0, .nils]) = some (v1, h1) ∧ storeA tabP h1 3 b j (.int .i64 0) = some (v2, h2) ∧ storeA tabP h2 38 c k e = some (v3, h') := by
  match l, hr with
  | [e], hr =>
    unfold rcvX at hr
    rw [zero37] at hr
    simp only at hr
    split at hr
    · rename_i v1 h1 e1
      split at hr
      · rename_i v2 h2 e2
        split at hr
        · rename_i v3 h3 e3
          cases hr
          exact ⟨e, v1, h1, v2, h2, v3, rfl, e1, e2, e3⟩
        · cases hr
      · cases hr
    · cases hr
  | [], hr => simp [rcvX] at hr
  | _ :: _ :: _, hr => simp [rcvX] at hr
def HandleAt (w : World) : Prop := w.cell? ⟨0, 0, none⟩ = some (.iface 195 (.agg #[.pointer (some ⟨4, 122, none⟩)]))
theorem caught_ok (hJ : ∀ w, J.good w → HandleAt w) : ∀ g caps l h h', isRX g caps = true → rcvX tabP g caps l h = some h' → ∀ (M : Inj) (N : Nat → Prop) (w0 : Base J) (w : World) (cs : Array Value) (chain : List PanicEntry), LRel M caps cs.toList → HRel M N w0 h w → trX l chain w →
    HasFn Tryz.prog g ∧ CallsD Tryz.prog g cs (.panicking chain) w fun e u w' => (∃ v, e = .returned v) ∧ settle u = .returning ∧ ∃ M', M.le M' ∧ HRel M' N w0 h' w' := by
  intro g caps l h h' hg hr M N w0 w cs chain hl hh htr
  obtain ⟨rfl, a, i, b, j, c, k, I1, I2, I3, rfl, e1, e2, e3, rfl⟩ := ptrs3 hg hl
  obtain ⟨x, pb, eb, rfl, rfl, hp, he⟩ := htr
  obtain ⟨e, v1, h1, v2, h2, v3, hle, s1, s2, s3⟩ := rcv_some hr
  cases hle
  have hgood := hJ w (w0.ok w (hh.below.below hh.lim))
  have p1 := hl.2 0 _ _ rfl rfl
  have p2 := hl.2 1 _ _ rfl rfl
  have p3 := hl.2 2 _ _ rfl rfl
  refine ⟨has51, (whole_caught pb eb _ _ _ x w (fun w' => HRel M N w0 h' w') hp he hgood ?_).mono ?_⟩
  · intro w' hb
    have hh' := hh.wider hb
    obtain ⟨w1, r1, g1⟩ := store_val (P := Tryz.prog) (tabP_is J) hh' p1 e1 (u := .agg #[.int .i64 0, .slice none 0 0]) ((LRel.cons (.int _ _) (.cons .nils (.nil _))).agg) s1
    obtain ⟨w2, r2, g2⟩ := store_val (P := Tryz.prog) (tabP_is J) g1 p2 e2 (.int .i64 0) s2
    obtain ⟨w3, r3, g3⟩ := store_val (P := Tryz.prog) (tabP_is J) g2 p3 e3 (.int .i64 x) s3
    exact ⟨w1, w2, w3, r1, r2, r3, g3⟩
  · rintro e u w' ⟨rfl, rfl, hR⟩
    exact ⟨⟨_, rfl⟩, rfl, M, Inj.le_refl M, hR⟩
theorem cfg_ok (hJ : ∀ w, J.good w → HandleAt w) : CfgOK Tryz.prog J trX xcfg := ⟨must_ok, idle_ok, caught_ok hJ⟩
def ctxX (l : List Value) : Ctx := ⟨injOf l, HandleAt⟩
/-- The handle stays, where memory grows. -/
theorem handle_below {w w' : World} (h : HandleAt w) (hb : Below w.heap.size w w') : HandleAt w' := by
  unfold HandleAt at *
  have hlt : (0 : Nat) < w.heap.size := by
    rcases Nat.eq_zero_or_pos w.heap.size with h0 | h1
    · simp [World.cell?, h0] at h
    · exact h1
  rw [hb.cell (p := ⟨0, 0, none⟩) hlt]
  exact h
theorem lives_any (w : World) (h : HandleAt w) : Calls Tryz.prog 12 #[] w fun e w' => e = .returned (.bool true) ∧ Below w.heap.size w w' :=
  caught_call (J := ctxX []) (l := []) (tabP_is _) (cfg_ok fun _ h => h) rfl (v := .bool true) rfl lives_ev (.nil _) w (fun w' hb => handle_below h hb)
end Go.Proofs.YtfkbfnpjggkdmaaGreatDoor.Ev
