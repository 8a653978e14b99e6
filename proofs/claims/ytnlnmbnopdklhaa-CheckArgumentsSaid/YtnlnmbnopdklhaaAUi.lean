/- Chapter 17: the type of a call's text. -/
import Derived.Test.YtnlnmbnopdklhaaAUh
namespace Go.Proofs.Ytnlnmbnopdklhaa.Ev
open Go.RowKit
set_option linter.unusedVariables false
set_option linter.unusedSimpArgs false
set_option maxRecDepth 100000
set_option maxHeartbeats 1000000
/-- Tokens of known kinds and texts stand from a place on. -/
def HasK (toks : List TokT) (a : Nat) (L : List KeyT) : Prop := ∀ j k, L[j]? = some k → ∃ p : Int, tg toks (a + j) = (k.1, k.2.1, k.2.2, p)
theorem HasK.hd {toks : List TokT} {a : Nat} {k : KeyT} {L : List KeyT} (h : HasK toks a (k :: L)) : ∃ p : Int, tg toks a = (k.1, k.2.1, k.2.2, p) := h 0 k rfl
theorem HasK.tl {toks : List TokT} {a : Nat} {k : KeyT} {L : List KeyT} (h : HasK toks a (k :: L)) : HasK toks (a + 1) L := fun j x hx => by
  obtain ⟨p, hp⟩ := h (j + 1) x (by simpa using hx)
  exact ⟨p, by rw [← hp]; congr 1; omega⟩
theorem HasK.adv {toks : List TokT} {a : Nat} : ∀ {U L : List KeyT}, HasK toks a (U ++ L) → HasK toks (a + U.length) L
  | [], L, h => h
  | x :: U, L, h => by
    have := HasK.adv (U := U) (HasK.tl h)
    rw [List.length_cons, show a + (U.length + 1) = a + 1 + U.length by omega]
    exact this
theorem hask_of {M E : List TokT} {L : List KeyT} (h : M.map tkey = L) : HasK (M ++ E) 0 L := by
  intro j k hk
  subst h
  rw [List.getElem?_map] at hk
  cases hm : M[j]? with
  | none => rw [hm] at hk; cases hk
  | some t =>
    rw [hm] at hk
    simp only [Option.map_some, Option.some.injEq] at hk
    subst hk
    refine ⟨t.2.2.2, ?_⟩
    unfold tg
    rw [Nat.zero_add, List.getD_eq_getElem?_getD, List.getElem?_append_left (List.getElem?_eq_some_iff.1 hm).1, hm]
    rfl
section
variable {toks : List TokT} {n tb X : Nat} {ex : Bool}
theorem someX (C : PC toks n) (k : Nat) {a dl : Nat} {L : List KeyT} (h : HasK toks a (someK k ++ L)) (ha : a + (someK k).length ≤ n) (hd : dl + 2 ≤ 12) (hF : Fol (tg toks (a + (someK k).length))) : E0 toks n tb ex X 0 a (a + (someK k).length) (someT k, 0) dl := by
  match k, h, ha, hF with
  | 0, h, ha, hF => obtain ⟨p, h0⟩ := h.hd; exact some0 C ha h0 hF
  | 1, h, ha, hF => obtain ⟨p, h0⟩ := h.hd; exact some1 C ha h0 hF
  | 2, h, ha, hF => obtain ⟨p, h0⟩ := h.hd; obtain ⟨p1, h1⟩ := h.tl.hd; obtain ⟨p2, h2⟩ := h.tl.tl.hd; obtain ⟨p3, h3⟩ := h.tl.tl.tl.hd; exact some2 C ha h0 h1 h2 h3 hF
  | 3, h, ha, hF => obtain ⟨p, h0⟩ := h.hd; obtain ⟨p1, h1⟩ := h.tl.hd; obtain ⟨p2, h2⟩ := h.tl.tl.hd; exact some3 C ha (by omega) h0 h1 h2 hF
  | 4, h, ha, hF => obtain ⟨p, h0⟩ := h.hd; obtain ⟨p1, h1⟩ := h.tl.hd; obtain ⟨p2, h2⟩ := h.tl.tl.hd; obtain ⟨p3, h3⟩ := h.tl.tl.tl.hd; exact some4 C ha (by omega) h0 h1 h2 h3 hF
  | 5, h, ha, hF => obtain ⟨p, h0⟩ := h.hd; obtain ⟨p1, h1⟩ := h.tl.hd; exact some5 C ha (by omega) h0 h1 hF
  | 6, h, ha, hF => obtain ⟨p, h0⟩ := h.hd; obtain ⟨p1, h1⟩ := h.tl.hd; obtain ⟨p2, h2⟩ := h.tl.tl.hd; exact some6 C ha h0 h1 h2 hF
  | k + 7, h, ha, hF => obtain ⟨p, h0⟩ := h.hd; obtain ⟨p1, h1⟩ := h.tl.hd; obtain ⟨p2, h2⟩ := h.tl.tl.hd; exact some7 C ha h0 h1 h2 hF
theorem argX (C : PC toks n) : ∀ (ks : List Nat) (a dl : Nat), ks ≠ [] → HasK toks a (argK ks) → a + (argK ks).length ≤ n → dl + 2 ≤ 12 → ArgsX toks n tb ex X dl a (ks.map someT) (a + (argK ks).length)
  | [], _, _, h, _, _, _ => absurd rfl h
  | [k], a, dl, _, h, ha, hd => by
    have e : (argK [k]).length = (someK k).length + 1 := by show (someK k ++ [_]).length = _; simp
    rw [e] at ha ⊢
    obtain ⟨p, hT⟩ := (HasK.adv (U := someK k) h).hd
    have := ArgsX.last (toks := toks) (n := n) (tb := tb) (ex := ex) (X := X) (dl := dl) (a := a) (a1 := a + (someK k).length) (t := someT k) (someX C k h (by omega) hd (by rw [hT]; exact ⟨rfl, .inr rfl⟩)) (by omega) hT
    exact this
  | k :: k' :: ks, a, dl, _, h, ha, hd => by
    have e : (argK (k :: k' :: ks)).length = (someK k).length + 1 + (argK (k' :: ks)).length := by show (someK k ++ _ :: argK (k' :: ks)).length = _; simp; omega
    rw [e] at ha ⊢
    obtain ⟨p, hT⟩ := (HasK.adv (U := someK k) h).hd
    have ih := argX C (k' :: ks) (a + (someK k).length + 1) dl (by simp) (HasK.adv (U := someK k) h).tl (by omega) hd
    rw [show a + ((someK k).length + 1 + (argK (k' :: ks)).length) = a + (someK k).length + 1 + (argK (k' :: ks)).length by omega]
    exact .cons (someX C k h (by omega) hd (by rw [hT]; exact ⟨rfl, .inl rfl⟩)) (by omega) hT ih
theorem some_no41 {a : Nat} (k : Nat) {L : List KeyT} (h : HasK toks a (someK k ++ L)) : isV 0 (tg toks a) [41] = false := by
  match k, h with
  | 0, h => obtain ⟨p, h0⟩ := h.hd; rw [h0]; rfl
  | 1, h => obtain ⟨p, h0⟩ := h.hd; rw [h0]; rfl
  | 2, h => obtain ⟨p, h0⟩ := h.hd; rw [h0]; rfl
  | 3, h => obtain ⟨p, h0⟩ := h.hd; rw [h0]; rfl
  | 4, h => obtain ⟨p, h0⟩ := h.hd; rw [h0]; rfl
  | 5, h => obtain ⟨p, h0⟩ := h.hd; rw [h0]; rfl
  | 6, h => obtain ⟨p, h0⟩ := h.hd; rw [h0]; rfl
  | k + 7, h => obtain ⟨p, h0⟩ := h.hd; rw [h0]; rfl
theorem arg_no41 {a : Nat} : ∀ {ks : List Nat}, ks ≠ [] → HasK toks a (argK ks) → isV 0 (tg toks a) [41] = false
  | [], h, _ => absurd rfl h
  | [k], _, h => some_no41 k h
  | k :: k' :: ks, _, h => some_no41 k h
end
/-- A name that a call can have, of seventeen. -/
def NmOK (nm : List Nat) : Prop := nm.all ld = true ∧ letB (nm.getD 0 0) = true ∧ nm.length ≤ 15 ∧ Bytes nm ∧ decide (nm = [40]) = false ∧ decide (nm = [123]) = false ∧ decide (nm = [45]) = false ∧
  decide (nm ∈ [[111, 114], [97, 110, 100], [117, 110, 108, 101, 115, 115], [98, 111, 111, 108], [111, 110], [105, 103, 110, 111, 114, 105, 110, 103], [103, 114, 111, 117, 112, 95, 108, 101, 102, 116], [103, 114, 111, 117, 112, 95, 114, 105, 103, 104, 116], [98, 121], [119, 105, 116, 104, 111, 117, 116], [111, 102, 102, 115, 101, 116]]) = false ∧ decide (nm ∈ [[115, 117, 109], [97, 118, 103], [109, 105, 110], [109, 97, 120], [99, 111, 117, 110, 116], [116, 111, 112, 107], [98, 111, 116, 116, 111, 109, 107]]) = false
def callK (nm : List Nat) (ks : List Nat) : List KeyT := (1, nm, 0) :: (5, [40], 0) :: argK ks
def callX (nm : List Nat) (ks : List Nat) : List Nat := nm ++ 40 :: argS ks
/-- A call's type by those of its arguments. -/
def callT (nm : List Nat) (ks : List Nat) : Nat × Nat := typeM 3 nm 0 0 0 false (ks.map someT).length (fun i => (ks.map someT).getD i 0) (fun _ => 0)
theorem someT_ok (k : Nat) : 1 ≤ someT k ∧ someT k ≤ 3 := by unfold someT; split <;> decide
theorem call_ex {toks : List TokT} {n tb X : Nat} {ex : Bool} (C : PC toks n) {nm : List Nat} (hm : NmOK nm) {ks : List Nat} (h : HasK toks 0 (callK nm ks)) (hn : n = (callK nm ks).length) (hl : ks.length ≤ 1048576) {pe : Int} (hT6 : tg toks n = (6, [], 0, pe)) :
    E0 toks n tb ex X 0 0 n (callT nm ks) 0 := by
  obtain ⟨m1, m2, m3, m4, m5, m6, m7, m8, m9⟩ := hm
  obtain ⟨p0, h0⟩ := h.hd
  obtain ⟨p1, h1⟩ := h.tl.hd
  have h2 : HasK toks 2 (argK ks) := h.tl.tl
  have e : (callK nm ks).length = (argK ks).length + 2 := rfl
  have hP : PXs toks n tb ex X true 1 n (ks.map someT) 0 := by
    intro dp bd hd
    by_cases hk : ks = []
    · subst hk
      obtain ⟨p2, h2⟩ := h2.hd
      have e3 : n = 3 := by rw [hn]; rfl
      subst e3
      exact parts0_x toks 3 C.hn C.hnl C.hok tb ex X 1 (by omega) dp bd (by omega) 0 hd (by decide) 0 p1 h1 0 p2 h2
    · have hA := argX (tb := tb) (ex := ex) (X := X) C ks 2 1 hk h2 (by omega) (by decide)
      rw [show 2 + (argK ks).length = n by omega] at hA
      have ha1 : 0 < (argK ks).length := by
        match ks, hk with
        | [k], _ => show 0 < (someK k ++ [_]).length; simp
        | k :: k' :: ks, _ => show 0 < (someK k ++ _ :: _).length; simp; omega
      exact parts_x toks n C.hn C.hnl C.hok tb ex X 1 (by omega) dp bd (by omega) 0 hd (by decide) true 0 p1 h1 (arg_no41 hk h2) (ks.map someT) n hA (by rw [List.length_map]; exact hl)
  have hc : EXs toks n tb ex X 44 [] 0 n (callT nm ks) 0 := fun dp bd hd =>
    acall_x toks n C.hn C.hnl C.hok tb ex X 0 (by omega) dp bd (by omega) 0 hd nm 0 p0 h0 m4 (by omega) m5 m6 m8 m9 0 p1 h1 n (ks.map someT) hP (fun t ht => by obtain ⟨k, _, rfl⟩ := List.mem_map.1 ht; exact someT_ok k) _ rfl
  exact to0 C (by omega) (Nat.le_refl n) (Nat.le_refl 5) (fun j => .inr (by rw [hT6]; exact ⟨(by decide : (6 : Nat) ≠ 1), (by decide : (6 : Nat) ≠ 5)⟩)) (at5 C (by omega) (by rw [h0]; exact isv_n m7) hc)
theorem keys_ok {nm : List Nat} (hm : NmOK nm) (ks : List Nat) : ∀ x ∈ callK nm ks, Bytes x.2.1 ∧ x.2.1.length ≤ 1024 := by
  have hs : ∀ k, ∀ x ∈ someK k, Bytes x.2.1 ∧ x.2.1.length ≤ 1024 := by
    intro k
    unfold someK Bytes
    split <;> decide
  have h1 : ∀ c : Nat, c < 256 → Bytes [c] ∧ [c].length ≤ 1024 := fun c hc => ⟨Bytes.one hc, by simp⟩
  have ha : ∀ ks, ∀ x ∈ argK ks, Bytes x.2.1 ∧ x.2.1.length ≤ 1024 := by
    intro ks
    induction ks with
    | nil => intro x hx; simp [argK] at hx; subst hx; exact h1 41 (by decide)
    | cons k ks ih =>
      intro x hx
      cases ks with
      | nil =>
        rcases List.mem_append.1 (show x ∈ someK k ++ [(5, [41], 0)] from hx) with g | g
        · exact hs k x g
        · simp at g; subst g; exact h1 41 (by decide)
      | cons k' ks =>
        rcases List.mem_append.1 (show x ∈ someK k ++ (5, [44], 0) :: argK (k' :: ks) from hx) with g | g
        · exact hs k x g
        · rcases List.mem_cons.1 g with rfl | g
          · exact h1 44 (by decide)
          · exact ih x g
  intro x hx
  rcases List.mem_cons.1 hx with rfl | hx
  · exact ⟨hm.2.2.2.1, by have := hm.2.2.1; show nm.length ≤ 1024; omega⟩
  · rcases List.mem_cons.1 hx with rfl | hx
    · exact h1 40 (by decide)
    · exact ha ks x hx
theorem argK_len : ∀ ks : List Nat, (argK ks).length ≤ 1 + 5 * ks.length
  | [] => by decide
  | [k] => by
    show (someK k ++ [_]).length ≤ _
    have : (someK k).length ≤ 4 := by unfold someK; split <;> decide
    simp; omega
  | k :: k' :: ks => by
    show (someK k ++ _ :: argK (k' :: ks)).length ≤ _
    have : (someK k).length ≤ 4 := by unfold someK; split <;> decide
    have := argK_len (k' :: ks)
    simp at this ⊢; omega
theorem argS_len : ∀ ks : List Nat, (argS ks).length ≤ 1 + 8 * ks.length
  | [] => by decide
  | [k] => by
    show (someS k ++ [_]).length ≤ _
    have : (someS k).length ≤ 6 := by unfold someS; split <;> decide
    simp; omega
  | k :: k' :: ks => by
    show (someS k ++ _ :: _ :: argS (k' :: ks)).length ≤ _
    have : (someS k).length ≤ 6 := by unfold someS; split <;> decide
    have := argS_len (k' :: ks)
    simp at this ⊢; omega
theorem argS_bytes : ∀ ks : List Nat, Bytes (argS ks)
  | [] => by unfold Bytes; decide
  | [k] => by
    show Bytes (someS k ++ [41])
    exact Bytes.append (by unfold someS Bytes; split <;> decide) (by unfold Bytes; decide)
  | k :: k' :: ks => by
    show Bytes (someS k ++ 44 :: 32 :: argS (k' :: ks))
    exact Bytes.append (by unfold someS Bytes; split <;> decide) (Bytes.cons (by decide) (Bytes.cons (by decide) (argS_bytes (k' :: ks))))
theorem parse_x (s : List Nat) (hs : Bytes s) (toks : List TokT) (n : Nat) (hn : toks.length = n + 1) (hnl : n ≤ 1048576) (hok : TokO toks) (hsc : Spec tab 18 [.str s] [] [] (fun v D => ∃ (b : Nat) (ex : Bool), v = .tuple [.slice b 0 (n + 1) 4, .int .i64 ((0 : Nat) : Int), .int .i64 ((0 : Nat) : Int)] ∧ D = [⟨b, ⟨4, ex, tokCs toks⟩, true⟩])) (pe : Int) (hT6 : tg toks n = (6, [], 0, pe)) (t : Nat × Nat) (hE : ∀ tb ex X, EXs toks n tb ex X 19 [.int .i64 ((0 : Nat) : Int)] 0 n t 0) : Spec tab 9 [.str s] [] [] (fun v D => ∃ (x : NodT) (hq : HSt), v = .tuple [.agg (nC x), .int .i64 ((0 : Nat) : Int), .int .i64 ((0 : Nat) : Int)] ∧ Ty hq x t ∧ (∀ y ∈ hq, y.w = true) ∧ D = hq) := by
 refine Spec.enter' (ft_get 9 Try.func9) rfl (m := 57) rfl (rs := [.cell 2 26, .tmp 3, .tmp 4]) rfl (st := [(0, .str s)]) rfl rfl (fun _ => rfl) (fun E => zr (WO.alloc ao26 rfl (fun b1 => za (zi 0) (za (zi 0) (zk (zr (zm rfl (WO.call0 rfl (oLs_cons rfl oLs_nil) rfl hsc SubR.nil rfl (fun v12 D12 hP12 => ?_)))))))))
 obtain ⟨tb, ex, rfl, rfl⟩ := hP12
 refine zm rfl (zq (Q.extract rfl rfl) (zq (Q.extract rfl rfl) (zq (Q.extract rfl rfl) (za rfl (za rfl (za rfl (zk (W.seq (zr (zm rfl (zq (Q.bin rfl (zi 0) rfl (bv_neq (p := false) rfl)) (zk (W.condF rfl (zw (zr (zm rfl (zq (Q.build pl53 (oPs_cons rfl oPs_nil) rfl (cs := [_, _, _, _, _]) rfl) (WO.box rfl rfl (bx53 _ rfl) rfl (fun X => za rfl (zk (W.sub (zc 8 rfl (zc 2 rfl zzn)) (zr (zm rfl ?_)))))))))))))))))))))))
 refine WO.call1 rfl (oLs_cons rfl (oLs_cons (zi 0) oLs_nil)) rfl (i := 0) rfl (hE tb ex X 0 0 (Nat.le_refl 0)) (SubR.one (zt 0 rfl)) (hs' := [_, _]) rfl rfl (fun v25 D25 hP25 => ?_)
 obtain ⟨x25, hq25, rfl, ty25, nw25, rfl⟩ := hP25
 have ok25 := ty25.ok
 refine WO.subH (hs' := _ :: _ :: _ :: (hq25)) (SubH.of_perm (perm_tail (N := [_]) (G := hq25) (K := [_, _]) (X := []))) (WO.alloc ao26 rfl (fun b3 => WO.store sz26 rfl rfl (i := 0) rfl (by first | rfl | exact and_tt rfl ckA) (cs := [_, _, _, _, _, _, _, _, _, _, _]) rfl (hs' := _ :: _ :: _ :: _ :: _) rfl (zk (W.seq (zr (zm rfl (zq (Q.nilP rfl) (zf fa53_3 rfl 3 (zq (Q.load1 rfl (zt 1 rfl) ag3 rfl) (zq (Q.bin rfl (zi 0) rfl (bv_eql (p := true) rfl)) (zm rfl (WO.gT rfl rfl (zm rfl (WO.gT rfl rfl (WO.callV rfl (oLs_cons rfl oLs_nil) rfl (now_at toks n hn hnl hok tb ex X n (Nat.le_refl n) 0 0 (6, [], 0, pe) hT6) (SubR.tl SubR.two) rfl (WO.gT rfl rfl (zq (Q.field1 ft56_0 rfl rfl) (WO.gT rfl rfl (zq (Q.bin rfl (zi 6) rfl (bv_neq (p := false) rfl)) (zq (Q.pickT rfl rfl) (zk (W.condF rfl (zw ?_)))))))))))))))))))))))
 refine W.seq (zr (zm rfl (zq (Q.nilP rfl) (zf fa53_3 rfl 3 (zq (Q.load1 rfl (zt 1 rfl) ag3 rfl) (zq (Q.bin rfl (zi 0) rfl (bv_neq (p := false) rfl)) (zk (W.sub (zc 46 rfl (zc 9 rfl (zc 8 rfl (zc 2 rfl zzn)))) (W.condF rfl (zw (zr (zq (Q.loadN rfl (zt 0 rfl) ag26 sz26 (l := [_, _, _, _, _, _, _, _, _, _, _]) rfl) (WO.store sz26 rfl rfl (i := 3) rfl (by first | rfl | exact and_tt rfl ckA) (cs := [_, _, _, _, _, _, _, _, _, _, _]) rfl (hs' := _ :: _ :: _ :: _ :: _) rfl (za (zi 0) (za (zi 0) (zk (W.ret ?_)))))))))))))))))
 refine End.ret (ResL.agg (c := [_, _, _, _, _, _, _, _, _, _, _]) rfl (zt 3 rfl) ag26 sz26 rfl (ResL.tmp rfl (z1 rfl))) (hs' := hq25) ⟨x25, hq25, rfl, ty25, nw25, rfl⟩ nw25 gsn

theorem typed_x (s : List Nat) (hs : Bytes s) (t : Nat × Nat) (hP : Spec tab 9 [.str s] [] [] (fun v D => ∃ (x : NodT) (hq : HSt), v = .tuple [.agg (nC x), .int .i64 ((0 : Nat) : Int), .int .i64 ((0 : Nat) : Int)] ∧ Ty hq x t ∧ (∀ y ∈ hq, y.w = true) ∧ D = hq)) : Spec tab 14 [.str s] [] [] (Val (tpair t.1 t.2)) := by
 refine Spec.enter' (ft_get 14 Try.func14) rfl (m := 19) rfl (rs := [.tmp 2, .tmp 3]) rfl (st := [(0, .str s)]) rfl rfl (fun _ => rfl) (fun E => zr (za (zi 0) (za (zi 0) (zk (zr (zm rfl (WO.call0 rfl (oLs_cons rfl oLs_nil) rfl hP SubR.nil rfl (fun v9 D9 hP9 => ?_))))))))
 obtain ⟨x9, hq9, rfl, ty9, nw9, rfl⟩ := hP9
 have ok9 := ty9.ok
 refine WO.subH (hs' := (D9)) (SubH.of_perm (perm_tail (N := []) (G := D9) (K := []) (X := []))) (zm rfl (zq (Q.extract rfl rfl) (zq (Q.extract rfl rfl) (zq (Q.extract rfl rfl) (WO.alloc ao26 rfl (fun b1 => WO.store sz26 rfl rfl (i := 0) rfl (by first | rfl | exact and_tt rfl ckA) (cs := [_, _, _, _, _, _, _, _, _, _, _]) rfl (hs' := _ :: _) rfl (za rfl (za rfl (zk (W.seq (zr (zm rfl (zq (Q.bin rfl (zi 0) rfl (bv_neq (p := false) rfl)) (zk (W.condF rfl (zw (zr (zq (Q.loadN rfl (zt 0 rfl) ag26 sz26 (l := [_, _, _, _, _, _, _, _, _, _, _]) rfl) (WO.callV rfl (oLs_cons rfl oLs_nil) rfl (ty9.tr (ro D9) ro_w (fun b o h => h.ro)) (SubR.tl (SubR.ro (SubH.refl _))) rfl (zq (Q.extract rfl rfl) (zq (Q.extract rfl rfl) (za rfl (za rfl ?_)))))))))))))))))))))))
 refine zk (W.sub (zc 3 rfl (zc 2 rfl zzn)) (W.ret (End.retV (ResL.tmp rfl (z1 rfl)) ?_)))
 rfl

/-- The program's type of a call's text. -/
theorem call_typed {nm : List Nat} (hm : NmOK nm) {ks : List Nat} (hk : ks.length ≤ 5) : Spec tab 14 [.str (callX nm ks)] [] [] (Val (tpair (callT nm ks).1 (callT nm ks).2)) := by
  have m := hm
  obtain ⟨m1, m2, m3, m4, m5, m6, m7, m8, m9⟩ := m
  have hs : Bytes (callX nm ks) := Bytes.append m4 (Bytes.cons (by decide) (argS_bytes ks))
  have hlen : (callX nm ks).length ≤ 1024 := by
    have := argS_len ks
    unfold callX
    rw [List.length_append, List.length_cons]
    omega
  have hS : Suf (callX nm ks) 0 (nm ++ 40 :: argS ks) := ⟨Nat.zero_le _, rfl⟩
  have nb0 : nbh (nm ++ 40 :: argS ks) := by
    cases nm with
    | nil => exact absurd m2 (by decide)
    | cons c nm =>
      have hl : letB c = true := m2
      show nb c
      refine ⟨?_, ?_, ?_, ?_⟩ <;> (rintro rfl; exact absurd hl (by decide))
  obtain ⟨M, hT, hM⟩ := name_step hs (by omega) nm hS m1 m2 ⟨by decide, by decide, by decide⟩ ⟨by decide, by decide, by decide, by decide⟩ (mark_step hs (by omega) hS.adv (by decide) (argS_head ks) (arg_toks hs (by omega) ks _ hS.adv.tl))
  have hM : M.map tkey = callK nm ks := hM
  have hMl : M.length = (callK nm ks).length := by rw [← hM, List.length_map]
  have hKl : (callK nm ks).length ≤ 1024 := by
    have := argK_len ks
    show (argK ks).length + 2 ≤ 1024
    omega
  have hb0 : BlAt (callX nm ks) 0 0 := bl_0 hs (by omega) hS nb0
  obtain ⟨pe, hpe⟩ : ∃ pe : Int, pe = (((callX nm ks).length : Nat) : Int) := ⟨_, rfl⟩
  have hn : (M ++ [((6, [], 0, pe) : TokT)]).length = M.length + 1 := by simp
  have hT6 : tg (M ++ [((6, [], 0, pe) : TokT)]) M.length = (6, [], 0, pe) := by
    unfold tg
    rw [List.getD_eq_getElem?_getD, List.getElem?_append_right (Nat.le_refl _)]
    simp
  have hok : TokO (M ++ [((6, [], 0, pe) : TokT)]) := by
    intro x hx
    rcases List.mem_append.1 hx with hx | hx
    · exact keys_ok hm ks (tkey x) (by rw [← hM]; exact List.mem_map_of_mem hx)
    · simp at hx; subst hx; exact ⟨nil_bytes, Nat.zero_le _⟩
  have C : PC (M ++ [((6, [], 0, pe) : TokT)]) M.length := ⟨hn, by omega, hok⟩
  have hsc := scan_exact (callX nm ks) hs hlen 0 hb0 M hT (by omega)
  rw [← hpe] at hsc
  exact typed_x _ hs _ (parse_x _ hs (M ++ [((6, [], 0, pe) : TokT)]) M.length hn (by omega) hok hsc pe hT6 (callT nm ks) (fun tb ex X => call_ex C hm (hask_of hM) hMl (by omega) hT6))
end Go.Proofs.Ytnlnmbnopdklhaa.Ev
