/- Chapter 19, walks: what is wrong with a vector, by the program. -/
import Derived.Test.YtmblgaehfjheeaaGreatSYh
import Derived.Test.YtmblgaehfjheeaaGreatSYa
namespace Go.Proofs.YtmblgaehfjheeaaGreat.Ev
open Go.RowKit
set_option linter.unusedVariables false
set_option linter.unusedSimpArgs false
set_option maxRecDepth 100000
set_option maxHeartbeats 1000000
theorem vck_spec (hs : HSt) (hro : ∀ e ∈ hs, e.w = false) (V : List El) (v : AV) (hV : EIn hs V v) (hB : EBd V) : Spec tab 23 [v] [] hs (Val (.int .i64 ((vchk V : Nat) : Int))) := by
  have hBl := hB.1
  refine Spec.enter' (ft_get 23 Tryz.func23) rfl (m := 33) rfl (rs := [.tmp 2]) rfl (st := [(0, v)]) rfl rfl (fun _ => rfl) (fun E => ?_)
  refine W.seq ?_
  refine W.reg ?_
  refine WO.q (Q.assign (oc (v := .int .i64 ((0 : Nat) : Int)) rfl)) rfl ?_
  refine WO.nil ?_
  refine End.K ?_
  refine W.seq ?_
  refine W.seq ?_
  refine W.reg ?_
  refine WO.q (Q.move rfl) rfl ?_
  refine WO.q (Q.len ud22 rfl (EIn.len hV)) rfl ?_
  refine WO.q (Q.bin rfl (oc (v := .int .i64 ((256 : Nat) : Int)) rfl) rfl (bv_gtr lt_nat)) rfl ?_
  refine WO.nil ?_
  refine End.K ?_
  refine W.condDS rfl (fun hc10 => ?_) (fun hc10 => ?_)
  · skip -- T
    refine W.seq ?_
    refine W.reg ?_
    refine WO.q (Q.assign (oc (v := .int .i64 ((3 : Nat) : Int)) rfl)) rfl ?_
    refine WO.nil ?_
    refine End.K ?_
    refine W.ret ?_
    refine End.K_ret (End.retV (ResL.tmp rfl ResL.nil) ?_)
    show AV.int .i64 _ = _; rw [vchk_e (by rw [ichk_big (by omega)]; decide), ichk_big (by omega)]
  · skip -- F
    refine W.skip ?_
    refine End.K ?_
    refine W.seq ?_
    refine W.reg ?_
    refine WO.q (Q.assign rfl) rfl ?_
    refine WO.nil ?_
    refine End.K ?_
    refine W.seq ?_
    refine W.seq ?_
    refine W.reg ?_
    refine WO.q (Q.move rfl) rfl ?_
    refine WO.q (Q.len ud22 rfl (EIn.len hV)) rfl ?_
    refine WO.q (Q.move (oc (v := .int .i64 ((0 : Nat) : Int)) rfl)) rfl ?_
    refine WO.nil ?_
    refine End.K ?_
    refine W.block ?_
    refine W.loop_ind3 (fun (i : Nat) (u : AV) (hp : HSt) => [(0, v), (3, u), (11, v), (12, .int .i64 ((V.length : Nat) : Int)), (13, .int .i64 ((i : Nat) : Int))]) (fun (i : Nat) (u : AV) (hp : HSt) => (hs ++ hp)) (fun (i : Nat) (u : AV) (hp : HSt) => i ≤ V.length ∧ Own 1 ((V.take i).map (·.1)) (V.take i).length u hp) (fun (i : Nat) (u : AV) (hp : HSt) => V.length - i) (0) (.nils) ([]) ⟨Nat.zero_le _, Own.nil 1⟩ (SubS.cons rfl (SubS.cons rfl (SubS.cons rfl (SubS.cons rfl (SubS.cons rfl (SubS.nil _)))))) app_nil_sub (fun i u hp hI0 ih0 => ?_)
    obtain ⟨h1, hO⟩ := hI0
    refine W.seq ?_
    refine W.reg ?_
    refine WO.q (Q.bin rfl rfl rfl (bv_lss lt_nat)) rfl ?_
    refine WO.nil ?_
    refine End.K ?_
    refine W.seq ?_
    refine W.condDS rfl (fun hc14 => ?_) (fun hc14 => ?_)
    · skip -- FL0T
      obtain ⟨bv, szv, exv, rfl, wv, mv⟩ := EIn.full hV (by omega)
      refine W.skip ?_
      refine End.K ?_
      refine W.seq ?_
      refine W.block ?_
      refine W.seq ?_
      refine W.reg ?_
      refine WO.q (Q.iaddrS ud22 sz35 rfl rfl (by first | omega | (simp at * <;> omega))) rfl ?_
      refine WO.q (Q.loadN rfl (List.mem_append_left _ mv) ag35 sz35 (cE_at (by first | omega | (simp at * <;> omega)))) rfl ?_
      refine WO.alloc ao35 rfl (fun b1 => ?_)
      refine WO.store sz35 rfl rfl (i := 0) rfl (and_tt rfl (and_tt (LIn.cell (hV.at (by omega))) rfl)) (cs := [_, _]) rfl (hs' := _ :: _) rfl ?_
      refine WO.nil ?_
      refine End.K ?_
      refine W.reg ?_
      refine WO.q (Q.move rfl) rfl ?_
      refine WO.q (Q.fieldAddr fa35_0 rfl (o' := 0) rfl) rfl ?_
      refine WO.q (Q.load1 rfl (mem_at (i := 0) rfl) ag33 rfl) rfl ?_
      refine WO.bslice ud90 sz33 zr33 rfl (oPs_cons rfl oPs_nil) rfl (cs := [_]) (fillE1 (LIn.cell (hV.at (by omega)))) (and_tt (LIn.cell (hV.at (by omega))) rfl) rfl (fun b2 => ?_)
      refine WO.appOwn (e := ⟨b2, _, true⟩) (A := ([_] ++ hs)) ap90_90 hO rfl rfl rfl rfl ⟨by first | omega | (simp at * <;> omega), by first | omega | (simp at * <;> omega)⟩ (by decide) rfl rfl (fun v21 hp21 hO21 => ?_)
      refine WO.q (Q.assign rfl) rfl ?_
      refine WO.nil ?_
      refine End.KB (End.K ?_)
      refine W.reg ?_
      refine WO.q (Q.bin rfl (oc (v := .int .i64 ((1 : Nat) : Int)) rfl) rfl (bv_add (wn_add (by first | omega | (simp at * <;> omega))))) rfl ?_
      refine WO.q (Q.move rfl) rfl ?_
      refine WO.nil ?_
      refine End.KL ?_
      refine W.sub (SubS.cons rfl (SubS.cons rfl (SubS.cons rfl (SubS.cons rfl (SubS.cons rfl (SubS.nil _)))))) (W.subH gc (ih0 (i + 1) (v21) (hp21) ?_ ?_))
      · exact ⟨by omega, by rw [take_el (by omega), List.map_append, List.length_append]; exact hO21⟩
      · exact (by first | omega | (simp at * <;> omega))
    · skip -- FL0F
      have ht : V.take i = V := List.take_of_length_le (by omega)
      rw [ht] at hO
      refine W.exit ?_
      refine End.K_exit (End.KL_exit (End.KB_hit (End.K ?_)))
      refine W.seq ?_
      refine W.seq ?_
      refine W.reg ?_
      refine WO.q (Q.move rfl) rfl ?_
      refine WO.callE rfl (oLs_cons rfl oLs_nil) rfl (new_spec (ro hp ++ hs) (ro_app hro) V u (TIn.own hO hV.2) hB) (sub_ro hro) rfl (fun v25 hP25 => ?_)
      obtain ⟨pn, rfl⟩ := hP25
      refine WO.q (Q.move rfl) rfl ?_
      refine WO.q (Q.extract rfl rfl) rfl ?_
      refine WO.q (Q.extract rfl rfl) rfl ?_
      refine WO.q (Q.assign rfl) rfl ?_
      refine WO.q (Q.assign rfl) rfl ?_
      refine WO.nil ?_
      refine End.K ?_
      refine W.seq ?_
      refine W.reg ?_
      refine WO.q (Q.move rfl) rfl ?_
      refine WO.q (Q.bin rfl (oc (v := .int .i64 ((0 : Nat) : Int)) rfl) rfl (bv_neq ne_nat)) rfl ?_
      refine WO.nil ?_
      refine End.K ?_
      refine W.condDS rfl (fun hc29 => ?_) (fun hc29 => ?_)
      · skip -- FL0FT
        refine W.seq ?_
        refine W.reg ?_
        refine WO.q (Q.move rfl) rfl ?_
        refine WO.q (Q.assign rfl) rfl ?_
        refine WO.nil ?_
        refine End.K ?_
        refine W.sub (SubS.cons (k := 2) rfl (SubS.nil _)) ?_
        refine W.ret ?_
        refine End.K_ret (End.retV (ResL.tmp rfl ResL.nil) ?_)
        show AV.int .i64 _ = _; rw [vchk_e (by simpa using hc29)]
      · skip -- FL0FF
        refine W.skip ?_
        refine End.K ?_
        refine W.sub (SubS.cons (k := 0) rfl (SubS.nil _)) ?_
        refine W.seq ?_
        refine W.seq ?_
        refine W.reg ?_
        refine WO.q (Q.move rfl) rfl ?_
        refine WO.callV rfl (oLs_cons rfl (oLs_cons rfl oLs_nil)) rfl (ctf_spec hs hro V _ hV hB) (SubR.appl (SubR.self hro)) rfl ?_
        refine WO.nil ?_
        refine End.K ?_
        refine W.condS rfl (fun hc32 => ?_) (fun hc32 => ?_)
        · skip -- FL0FFT
          refine W.seq ?_
          refine W.reg ?_
          refine WO.q (Q.assign (oc (v := .int .i64 ((11 : Nat) : Int)) rfl)) rfl ?_
          refine WO.nil ?_
          refine End.K ?_
          refine W.ret ?_
          refine End.K_ret (End.retV (ResL.tmp rfl ResL.nil) ?_)
          show AV.int .i64 _ = _; unfold vchk; rw [if_neg (by simpa using hc29)]; simp_all
        · skip -- FL0FFF
          refine W.skip ?_
          refine End.K ?_
          refine W.seq ?_
          refine W.reg ?_
          refine WO.q (Q.assign (oc (v := .int .i64 ((0 : Nat) : Int)) rfl)) rfl ?_
          refine WO.nil ?_
          refine End.K ?_
          refine W.ret ?_
          refine End.retV (ResL.tmp rfl ResL.nil) ?_
          show AV.int .i64 _ = _; unfold vchk; rw [if_neg (by simpa using hc29)]; simp_all
end Go.Proofs.YtmblgaehfjheeaaGreat.Ev

/- Chapter 19, walks: what is made of a number. -/
namespace Go.Proofs.YtmblgaehfjheeaaGreat.Ev
open Go.RowKit
set_option linter.unusedVariables false
set_option linter.unusedSimpArgs false
set_option maxRecDepth 100000
set_option maxHeartbeats 1000000
theorem fit_bd {v : Int} (h : fitB v = true) : -1152921504606846976 ≤ v ∧ v ≤ 1152921504606846976 := by
  unfold fitB at h
  simpa using h
/-- The greatest whole number not above a number. -/
def flM (v : Int) : Int := v - v % 1000000
/-- What Each makes of a number. -/
def oneM (op : List Nat) (v low high : Int) : Int :=
  if op = [110, 101, 103] then -v else if op = [97, 98, 115] then max v (-v) else if op = [99, 101, 105, 108] then -(flM (0 - v)) else if op = [102, 108, 111, 111, 114] then flM v else if op = [99, 108, 97, 109, 112] then min high (max low v) else 1000000 * min 1 (max (-1) v)
def opK (op : List Nat) : Prop := op = [110, 101, 103] ∨ op = [97, 98, 115] ∨ op = [99, 101, 105, 108] ∨ op = [102, 108, 111, 111, 114] ∨ op = [115, 103, 110] ∨ op = [99, 108, 97, 109, 112]
end Go.Proofs.YtmblgaehfjheeaaGreat.Ev

/- Arrays as functions of a place: parts rearranged; how they lie in memory. -/
namespace Go.Proofs.YtmblgaehfjheeaaGreat.Ev
open Go.RowKit
set_option linter.unusedVariables false
set_option linter.unusedSimpArgs false
/-- A part is rearranged. -/
def PermOn {α : Type} (a b : Nat) (f g : Nat → α) : Prop := ∃ σ τ : Nat → Nat, (∀ i, σ (τ i) = i) ∧ (∀ i, τ (σ i) = i) ∧ (∀ i, ¬ (a ≤ i ∧ i < b) → σ i = i) ∧ ∀ i, g i = f (σ i)
theorem PermOn.refl {α : Type} (a b : Nat) (f : Nat → α) : PermOn a b f f := ⟨id, id, fun _ => rfl, fun _ => rfl, fun _ _ => rfl, fun _ => rfl⟩
theorem PermOn.trans {α : Type} {a b : Nat} {f g h : Nat → α} (p : PermOn a b f g) (q : PermOn a b g h) : PermOn a b f h := by
  obtain ⟨s, t, h1, h2, h3, h4⟩ := p
  obtain ⟨u, v, g1, g2, g3, g4⟩ := q
  refine ⟨fun i => s (u i), fun i => v (t i), fun i => by simp [g1, h1], fun i => by simp [h2, g2], fun i hi => ?_, fun i => by rw [g4, h4]⟩
  show s (u i) = i
  rw [g3 i hi, h3 i hi]
theorem PermOn.mono {α : Type} {a b a' b' : Nat} {f g : Nat → α} (ha : a' ≤ a) (hb : b ≤ b') (p : PermOn a b f g) : PermOn a' b' f g := by
  obtain ⟨s, t, h1, h2, h3, h4⟩ := p
  exact ⟨s, t, h1, h2, fun i hi => h3 i (fun h => hi ⟨by omega, by omega⟩), h4⟩
theorem PermOn.out {α : Type} {a b : Nat} {f g : Nat → α} (p : PermOn a b f g) {i : Nat} (hi : ¬ (a ≤ i ∧ i < b)) : g i = f i := by
  obtain ⟨s, t, h1, h2, h3, h4⟩ := p
  rw [h4, h3 i hi]
theorem perm_in {a b : Nat} {s t : Nat → Nat} (h1 : ∀ i, s (t i) = i) (h2 : ∀ i, t (s i) = i) (h3 : ∀ i, ¬ (a ≤ i ∧ i < b) → s i = i) {i : Nat} (hi : a ≤ i ∧ i < b) : a ≤ s i ∧ s i < b := by
  by_cases h : a ≤ s i ∧ s i < b
  · exact h
  · have e := h3 _ h
    have : t (s (s i)) = t (s i) := by rw [e]
    rw [h2, h2] at this
    rw [this]; exact hi
theorem PermOn.get {α : Type} {a b : Nat} {f g : Nat → α} (p : PermOn a b f g) {i : Nat} (hi : a ≤ i ∧ i < b) : ∃ j, (a ≤ j ∧ j < b) ∧ g i = f j := by
  obtain ⟨s, t, h1, h2, h3, h4⟩ := p
  exact ⟨s i, perm_in h1 h2 h3 hi, h4 i⟩
theorem PermOn.back {α : Type} {a b : Nat} {f g : Nat → α} (p : PermOn a b f g) {i : Nat} (hi : a ≤ i ∧ i < b) : ∃ j, (a ≤ j ∧ j < b) ∧ f i = g j := by
  obtain ⟨s, t, h1, h2, h3, h4⟩ := p
  have h3' : ∀ i, ¬ (a ≤ i ∧ i < b) → t i = i := fun i hi => by have := h2 i; rw [h3 i hi] at this; exact this
  exact ⟨t i, perm_in h2 h1 h3' hi, by rw [h4, h1]⟩
/-- Two places changed. -/
def sw {α : Type} (f : Nat → α) (i j : Nat) : Nat → α := fun x => if x = i then f j else if x = j then f i else f x
theorem PermOn.sw {α : Type} {a b : Nat} {f : Nat → α} {i j : Nat} (hi : a ≤ i ∧ i < b) (hj : a ≤ j ∧ j < b) : PermOn a b f (Ev.sw f i j) := by
  have hs : ∀ x, (fun x => if x = i then j else if x = j then i else x) ((fun x => if x = i then j else if x = j then i else x) x) = x := by
    intro x
    by_cases h1 : x = i
    · subst h1; simp
    · by_cases h2 : x = j
      · subst h2; simp [h1]
      · simp [h1, h2]
  refine ⟨fun x => if x = i then j else if x = j then i else x, fun x => if x = i then j else if x = j then i else x, hs, hs, fun x hx => ?_, fun x => ?_⟩
  · have h1 : x ≠ i := fun e => hx (e ▸ hi)
    have h2 : x ≠ j := fun e => hx (e ▸ hj)
    simp [h1, h2]
  · unfold Ev.sw
    by_cases h1 : x = i
    · simp [h1]
    · by_cases h2 : x = j
      · simp [h2]; split <;> rfl
      · simp [h1, h2]
/-- Elements of an array. -/
def vF {α : Type} (raw : α → El) (f : Nat → α) (n : Nat) : List El := (List.range n).map fun i => raw (f i)
theorem vF_len {α : Type} (raw : α → El) (f : Nat → α) (n : Nat) : (vF raw f n).length = n := by simp [vF]
theorem vF_eg {α : Type} {raw : α → El} {f : Nat → α} {n i : Nat} (h : i < n) : eg (vF raw f n) i = raw (f i) := by
  unfold eg vF
  simp [List.getD_eq_getElem?_getD, h]
theorem vF_at {α : Type} {raw : α → El} {f : Nat → α} {n i : Nat} (h : i < n) : sub? (cE (vF raw f n)) ((0 + i) * 2) 2 = some [(raw (f i)).1, .int .i64 (raw (f i)).2.2] := by
  rw [cE_at (by rw [vF_len]; exact h), vF_eg h]
theorem vF_f0 {α : Type} {raw : α → El} {f : Nat → α} {n i : Nat} (h : i < n) : (cE (vF raw f n))[(0 + i) * 2 + 0]? = some (raw (f i)).1 := by
  rw [cE_f0 (by rw [vF_len]; exact h), vF_eg h]
theorem cE_lay : ∀ (V : List El) (i : Nat) (x : El), i < V.length → layL (cE V) (i * 2) [x.1, .int .i64 x.2.2] = cE (V.set i x)
  | y :: V, 0, x, _ => by simp [cE_cons, layL]
  | y :: V, i + 1, x, h => by
    have e : (i + 1) * 2 = i * 2 + 1 + 1 := by omega
    rw [e, cE_cons]
    simp only [layL, List.set_cons_succ, cE_cons, cE_lay V i x (by simpa using h)]
def upd {α : Type} (f : Nat → α) (i : Nat) (x : α) : Nat → α := fun k => if k = i then x else f k
theorem vF_set {α : Type} {raw : α → El} {f : Nat → α} {n i : Nat} {x : α} (h : i < n) : (vF raw f n).set i (raw x) = vF raw (upd f i x) n := by
  unfold vF upd
  apply List.ext_getElem?
  intro k
  rw [List.getElem?_set]
  by_cases e : i = k
  · subst e; simp [h]
  · rw [if_neg e]
    simp only [List.getElem?_map]
    by_cases hk : k < n
    · simp [List.getElem?_range hk, Ne.symm e]
    · have : (List.range n)[k]? = none := List.getElem?_eq_none (by simp; omega)
      simp only [this, Option.map_none]
theorem vF_lay {α : Type} {raw : α → El} {f : Nat → α} {n i : Nat} {x : α} (h : i < n) : layL (cE (vF raw f n)) ((0 + i) * 2) [(raw x).1, .int .i64 (raw x).2.2] = cE (vF raw (upd f i x) n) := by
  rw [Nat.zero_add, cE_lay _ _ _ (by rw [vF_len]; exact h), vF_set h]
theorem upd_sw {α : Type} {f : Nat → α} {i j : Nat} : upd (upd f i (f j)) j (f i) = sw f i j := by
  funext x
  unfold upd sw
  by_cases h1 : x = i
  · by_cases h2 : x = j
    · subst h1; subst h2; simp
    · simp [h1]
      intro h; exact absurd (h1.trans h) h2
  · simp [h1]
end Go.Proofs.YtmblgaehfjheeaaGreat.Ev

/- Walks over the evaluator: statements that draw their order, where what is read is ordered against all that is written. -/
namespace Go.Proofs.YtmblgaehfjheeaaGreat.Ev
open Go.RowKit
set_option linter.unusedVariables false
set_option linter.unusedSimpArgs false
noncomputable section
/-- Is an operation ordered against every loud one? -/
def sure (l : List Oper) (k : Nat) : Bool :=
  l.zipIdx.all fun (o, i) => !(loudOp o.op) || Nat.beq i k || (if Nat.blt i k then ((aheadOf l []).getD k 0).testBit i else ((aheadOf l []).getD i 0).testBit k)
theorem sure_lo {l : List Oper} {k i : Nat} {o : Oper} (h : sure l k = true) (ho : l[i]? = some o) (hl : loudOp o.op = true) (hik : i < k) : ((aheadOf l []).getD k 0).testBit i = true := by
  have := List.all_eq_true.1 h (o, i) (by rw [List.mem_zipIdx_iff_getElem?]; simpa using ho)
  have hb : Nat.blt i k = true := by rw [Nat.blt_eq]; exact hik
  have hn : Nat.beq i k = false := by
    cases hx : Nat.beq i k with
    | false => rfl
    | true => have := Nat.eq_of_beq_eq_true hx; omega
  simpa [hl, hb, hn] using this
theorem sure_hi {l : List Oper} {k i : Nat} {o : Oper} (h : sure l k = true) (ho : l[i]? = some o) (hl : loudOp o.op = true) (hik : k < i) : ((aheadOf l []).getD i 0).testBit k = true := by
  have := List.all_eq_true.1 h (o, i) (by rw [List.mem_zipIdx_iff_getElem?]; simpa using ho)
  have hb : Nat.blt i k = false := by
    cases hx : Nat.blt i k with
    | false => rfl
    | true => rw [Nat.blt_eq] at hx; omega
  have hn : Nat.beq i k = false := by
    cases hx : Nat.beq i k with
    | false => rfl
    | true => have := Nat.eq_of_beq_eq_true hx; omega
  simpa [hl, hb, hn] using this
def statS (l : List Oper) : Bool :=
  drawOk l && (l.zipIdx.all fun (o, j) => !(loudOp o.op) || l.zipIdx.all fun (x, i) => !(loudOp x.op) || !(Nat.blt i j) || ((aheadOf l []).getD j 0).testBit i)
def GoodS (tb : Tab) (l : List Oper) (es : List Ent) : Prop := ∀ e ∈ es, e.kind = 1 → e.v.beq e.v = true ∧ (sure l e.i = false → ∀ H, evQ tb e.tm H e.o.op = some e.v)
theorem draw_ofS {tb : Tab} {callq : CallQ} {n : Nat} {l : List Oper} {tm tm' : T AV} {h h' : AHeap} {es : List Ent} {ms : List (Nat × AHeap)} (hst : statS l = true)
    (ht : evTrace tb (callOf callq) n l 0 l tm h = some (es, ms, tm', h')) (hG : GoodS tb l es) : evDraw tb (callOf callq) n l tm h = some (tm', h') := by
  unfold statS at hst
  simp only [Bool.and_eq_true] at hst
  obtain ⟨h1, h2⟩ := hst
  unfold evDraw
  simp only [h1]
  cases hF : drawFree l with
  | true => exact ops_of_trace ht
  | false =>
    simp only [ht, no_float h2]
    cases hms : ms with
    | nil => rfl
    | cons p0 ms0 =>
      rw [← hms]
      have hall : (es.all (entOk tb (aheadOf l []) (es.filterMap fun e => if e.kind = 2 then some e.i else none) ((0, h) :: ms))) = true := by
        obtain ⟨S, Hp, V, K, Rc⟩ := trace_rec ht
        obtain ⟨hinc, hmk⟩ := trace_inc ht
        have hS0 := Rc.s0
        have hH0 := Rc.h0
        -- what a place's record is
        have rec_ : ∀ e ∈ es, ∃ k o, l[k]? = some o ∧ e = ⟨k, o, S k, V k, K k⟩ ∧ ev1 tb (callOf callq) l (S k) (Hp k) o = some (V k, Hp (k + 1), K k) := by
          intro e he
          obtain ⟨k, o, a1, a2⟩ := Rc.of e he
          have a3 := (Rc.step k o a1).1
          simp only [Nat.zero_add] at a2 a3
          exact ⟨k, o, a1, a2, a3⟩
        have hsame : ∀ d p, p + d ≤ l.length → (∀ i, p ≤ i → i < p + d → K i ≠ 2) → Hp (p + d) = Hp p := by
          intro d
          induction d with
          | zero => intro p _ _; rfl
          | succ d ih =>
            intro p hp hn
            have hlt : p + d < l.length := by omega
            have s1 := (Rc.step (p + d) _ (List.getElem?_eq_getElem hlt)).1
            simp only [Nat.zero_add] at s1
            have h2 : Hp (p + d + 1) = Hp (p + d) := by
              rcases ev1_kind s1 with h | h | h
              · exact h.2.2.2
              · exact h.2.2.2
              · exact absurd h.1 (hn (p + d) (by omega) (by omega))
            rw [show p + (d + 1) = p + d + 1 by omega, h2]
            exact ih p (by omega) (fun i h1 h2 => hn i h1 (by omega))
        have hlouds : ∀ k, k < l.length → K k = 2 → k ∈ es.filterMap fun e => if e.kind = 2 then some e.i else none := by
          intro k hk h2
          have := Rc.mem k _ (List.getElem?_eq_getElem hk)
          simp only [Nat.zero_add] at this
          exact List.mem_filterMap.2 ⟨_, this, by simp [h2]⟩
        have hloud_of : ∀ i, i ∈ (es.filterMap fun e => if e.kind = 2 then some e.i else none) → i < l.length ∧ K i = 2 ∧ ∃ o, l[i]? = some o ∧ loudOp o.op = true := by
          intro i hi
          obtain ⟨e, he, hi⟩ := List.mem_filterMap.1 hi
          obtain ⟨k, o, a1, rfl, a3⟩ := rec_ e he
          simp only at hi
          by_cases hk2 : K k = 2
          · rw [if_pos hk2] at hi
            simp only [Option.some.injEq] at hi
            subst hi
            refine ⟨(List.getElem?_eq_some_iff.1 a1).1, hk2, o, a1, ?_⟩
            rcases ev1_kind a3 with h | h | h
            · omega
            · omega
            · exact loud_is h.2.2
          · rw [if_neg hk2] at hi; cases hi
        rw [List.all_eq_true]
        intro e he
        obtain ⟨k, o, a1, rfl, a3⟩ := rec_ e he
        have hkl := (List.getElem?_eq_some_iff.1 a1).1
        unfold entOk
        rcases ev1_kind a3 with g | g | g
        · simp only [g.1]
        · -- quiet
          have hgood := hG _ he g.1
          simp only [g.1]
          rw [List.all_eq_true]
          rintro ⟨q, H⟩ hq
          simp only [Bool.or_eq_true, Bool.not_eq_true']
          rcases Bool.eq_false_or_eq_true (List.all (es.filterMap fun e : Ent => if e.kind = 2 then some e.i else none) fun i => (!(((aheadOf l []).getD k 0).testBit i) || Nat.blt i q) && (!(((aheadOf l []).getD i 0).testBit k) || Nat.ble q i)) with hc | hc
          · right
            have hc' : ∀ i, i < l.length → K i = 2 → (((aheadOf l []).getD k 0).testBit i = true → i < q) ∧ (((aheadOf l []).getD i 0).testBit k = true → q ≤ i) := by
              intro i hi h2
              have := List.all_eq_true.1 hc i (hlouds i hi h2)
              simp only [Bool.and_eq_true, Bool.or_eq_true, Bool.not_eq_true', Nat.blt_eq] at this
              refine ⟨fun hb => ?_, fun hb => ?_⟩
              · rcases this.1 with h | h
                · rw [hb] at h; cases h
                · exact h
              · rcases this.2 with h | h
                · rw [hb] at h; cases h
                · exact Nat.ble_eq.mp h
            have hval : evQ tb (S k) H o.op = some (V k) := by
              -- the mark's memory
              have hmark : (q = 0 ∧ H = Hp 0) ∨ ∃ i, i < l.length ∧ K i = 2 ∧ q = i + 1 ∧ H = Hp (i + 1) := by
                rcases List.mem_cons.1 hq with hq | hq
                · simp only [Prod.mk.injEq] at hq
                  exact .inl ⟨hq.1, by rw [hq.2, hH0]⟩
                · obtain ⟨_, e2, b1, b2, b3⟩ := hmk _ hq
                  obtain ⟨i, o2, c1, rfl, c3⟩ := rec_ e2 b1
                  have hil := (List.getElem?_eq_some_iff.1 c1).1
                  have hm2 := Rc.mark i hil (by simpa using b2)
                  simp only [Nat.zero_add] at hm2
                  have := inc_uniq hinc hq hm2 (by simpa using b3)
                  simp only [Prod.mk.injEq] at this
                  exact .inr ⟨i, hil, by simpa using b2, this.1, this.2⟩
              cases hsu : sure l k with
              | false => exact hgood.2 hsu H
              | true =>
                have lo : ∀ i, i < l.length → K i = 2 → i < k → ((aheadOf l []).getD k 0).testBit i = true := by
                  intro i hil hi2 hik
                  exact sure_lo hsu (List.getElem?_eq_getElem hil) (by
                    have := (Rc.step i _ (List.getElem?_eq_getElem hil)).1
                    simp only [Nat.zero_add] at this
                    rcases ev1_kind this with h | h | h
                    · omega
                    · omega
                    · exact loud_is h.2.2) hik
                have hi_ : ∀ i, i < l.length → K i = 2 → k < i → ((aheadOf l []).getD i 0).testBit k = true := by
                  intro i hil hi2 hik
                  exact sure_hi hsu (List.getElem?_eq_getElem hil) (by
                    have := (Rc.step i _ (List.getElem?_eq_getElem hil)).1
                    simp only [Nat.zero_add] at this
                    rcases ev1_kind this with h | h | h
                    · omega
                    · omega
                    · exact loud_is h.2.2) hik
                have hHk : H = Hp k := by
                  rcases hmark with ⟨rfl, rfl⟩ | ⟨i, hil, hi2, rfl, rfl⟩
                  · have := hsame k 0 (by omega) (fun i h1 h2 h3 => by
                      have := (hc' i (by omega) h3).1 (lo i (by omega) h3 (by omega))
                      omega)
                    rw [Nat.zero_add] at this
                    exact this.symm
                  · have hik : i < k := by
                      rcases Nat.lt_trichotomy i k with h | h | h
                      · exact h
                      · subst h; omega
                      · have := (hc' i hil hi2).2 (hi_ i hil hi2 h)
                        omega
                    have := hsame (k - (i + 1)) (i + 1) (by omega) (fun i' h1 h2 h3 => by
                      have := (hc' i' (by omega) h3).1 (lo i' (by omega) h3 (by omega))
                      omega)
                    rw [show i + 1 + (k - (i + 1)) = k by omega] at this
                    exact this.symm
                rw [hHk]
                unfold evQ
                rw [evOp_q (SubT.refl _) g.2.2.1]
            simp only [hval]
            exact hgood.1
          · left; exact hc
        · -- loud
          simp only [g.1]
          rw [List.all_eq_true]
          intro i hi
          obtain ⟨hil, hi2, x, hx, hxl⟩ := hloud_of i hi
          have hol : loudOp o.op = true := loud_is g.2.2
          have hmj : (o, k) ∈ l.zipIdx := by rw [List.mem_zipIdx_iff_getElem?]; simpa using a1
          have hmi : (x, i) ∈ l.zipIdx := by rw [List.mem_zipIdx_iff_getElem?]; simpa using hx
          have := List.all_eq_true.1 h2 _ hmj
          simp only [hol, Bool.not_true, Bool.false_or] at this
          have := List.all_eq_true.1 this _ hmi
          simp only [hxl, Bool.not_true, Bool.false_or] at this
          exact this
      rw [hall]
      cases ms with
      | nil => cases hms
      | cons a b => rfl

section
variable {tb : Tab} {n : Nat} {E : Env} {s : St} {hs : HSt} {R : T AV → AHeap → Prop} {ops rest : List Oper} {d : Nat} {ty : TypeId} {pos : String} {aft : Array Edge} {t : TypeId} {i : Nat}
/-- The operations of such a text, in their own order. -/
def WX (tb : Tab) (n : Nat) (ops : List Oper) (i : Nat) (rest : List Oper) (E : Env) (s : St) (hs : HSt) (R : T AV → AHeap → Prop) : Prop :=
  ∀ tm h, Has tm s → HS E hs h → ∃ es ms tm' h', evTrace tb (callOf (Ev.callE tb)) n ops i rest tm h = some (es, ms, tm', h') ∧ GoodS tb ops es ∧ ∀ TM, SubT tm' TM → R TM h'
theorem W.regX {Q} {id : Nat} {l : List Oper} (hst : statS l = true) (h : WX tb n l 0 l E s hs (Q .normal)) : W tb n (.region id l.toArray true) E s hs Q := by
  intro tm hp ht hh
  obtain ⟨es, ms, tm1, h1, he, hG, hR⟩ := h tm hp ht hh
  have hd := draw_ofS hst he hG
  obtain ⟨TM, g1, g2⟩ := evDraw_mono (callE_ok tb) (SubT.refl tm) hd
  refine ⟨.normal, TM, h1, g2.step fun K hK => ?_, hR TM g1⟩
  rw [run_succ]
  unfold evCode
  simp only [hK]
theorem WX.nil (h : End E s hs R) : WX tb n ops i [] E s hs R :=
  fun tm hp ht hh => ⟨[], [], tm, hp, rfl, fun e he => by simp at he, fun TM hT => h TM hp (ht.mono hT) hh⟩
theorem wx_step {tm tm1 : T AV} {h h1 : AHeap} {o : Oper} {v : AV} {k : Nat} (he : ev1 tb (callOf (Ev.callE tb)) ops tm h o = some (v, h1, k)) (hp : putDst tm n o.dst v = some tm1)
    (hq : k = 1 → v.beq v = true ∧ (sure ops i = false → ∀ H, evQ tb tm H o.op = some v))
    (hk : ∃ es ms tm' h', evTrace tb (callOf (Ev.callE tb)) n ops (i + 1) rest tm1 h1 = some (es, ms, tm', h') ∧ GoodS tb ops es ∧ ∀ TM, SubT tm' TM → R TM h') :
    ∃ es ms tm' h', evTrace tb (callOf (Ev.callE tb)) n ops i (o :: rest) tm h = some (es, ms, tm', h') ∧ GoodS tb ops es ∧ ∀ TM, SubT tm' TM → R TM h' := by
  obtain ⟨es, ms, tm2, h2, e, hG, hR⟩ := hk
  refine ⟨_, _, tm2, h2, by unfold evTrace; simp only [he, hp, e]; rfl, fun x hx hx1 => ?_, hR⟩
  rcases List.mem_cons.1 hx with rfl | hx
  · exact hq hx1
  · exact hG x hx hx1
/-- What is ordered against all that is written. -/
theorem WX.q {op : Op} {v : AV} (hs_ : sure ops i = true) (hq : QV tb s hs op v) (hb : v.beq v = true) (hd : Nat.blt d n = true) (hk : WX tb n ops (i + 1) rest E ((d, v) :: s) hs R) :
    WX tb n ops i (⟨some d, op, ty, pos, aft, none⟩ :: rest) E s hs R := by
  intro tm h ht hh
  have hv : ∀ call, evOp tb call tm h op = .q (some v) := hq tm h ht hh.keep
  refine wx_step (v := v) (k := 1) (h1 := h) (tm1 := tm.set d v) ?_ (putDst_at hd) (fun _ => ⟨hb, fun g => by rw [hs_] at g; cases g⟩) (hk _ _ (ht.set d v) hh)
  unfold ev1
  have : wantedA ops tm ⟨some d, op, ty, pos, aft, none⟩ = some true := rfl
  rw [this]
  simp only [hv]
/-- What looks at no memory. -/
theorem WX.f {op : Op} {v : AV} (hq : QV tb s [] op v) (hb : v.beq v = true) (hd : Nat.blt d n = true) (hk : WX tb n ops (i + 1) rest E ((d, v) :: s) hs R) :
    WX tb n ops i (⟨some d, op, ty, pos, aft, none⟩ :: rest) E s hs R := by
  intro tm h ht hh
  have hv : ∀ H call, evOp tb call tm H op = .q (some v) := fun H => hq tm H ht fun e he => by simp at he
  refine wx_step (v := v) (k := 1) (h1 := h) (tm1 := tm.set d v) ?_ (putDst_at hd) (fun _ => ⟨hb, fun _ H => by unfold evQ; rw [hv]⟩) (hk _ _ (ht.set d v) hh)
  unfold ev1
  have : wantedA ops tm ⟨some d, op, ty, pos, aft, none⟩ = some true := rfl
  rw [this]
  simp only [hv]
theorem WX.store {ox oy : Operand} {j b o q : Nat} {ob : AObj} {v : AV} {cs : List AV} {hs' : HSt} (hz : tb.size t = some q) (hx : oL s ox = some (.ptr b o)) (hy : oL s oy = some v) (hm : hs[j]? = some ⟨b, ob, true⟩)
    (hb : (Nat.beq v.cells.length q && Nat.ble (o + q) ob.cells.length && v.cells.all AV.isCell) = true) (hc : layL ob.cells o v.cells = cs) (hs_ : hs.set j ⟨b, ⟨ob.sz, ob.exact_, cs⟩, true⟩ = hs')
    (hk : WX tb n ops (i + 1) rest E s hs' R) (hz0 : Nat.blt 0 ob.sz = true := by rfl) : WX tb n ops i (⟨none, .store t ox oy, ty, pos, aft, none⟩ :: rest) E s hs R := by
  intro tm h ht hh
  subst hs_
  have hH := hh.put (ob' := ⟨ob.sz, ob.exact_, cs⟩) hm
  refine wx_step (v := .tuple []) (k := 2) (h1 := ⟨h.next, h.objs.set b ⟨ob.sz, ob.exact_, cs⟩⟩) (tm1 := tm) ?_ rfl (fun h => by cases h) (hk tm _ ht hH)
  unfold ev1
  have : wantedA ops tm ⟨none, .store t ox oy, ty, pos, aft, none⟩ = some true := rfl
  rw [this]
  have he : evOp tb (callOf (Ev.callE tb)) tm h (.store t ox oy) = .l (some (.tuple [], ⟨h.next, h.objs.set b ⟨ob.sz, ob.exact_, cs⟩⟩)) := by
    show Res.l (evStore tb tm h t ox oy) = _
    unfold evStore
    simp only [oL_ok ht hx, oL_ok ht hy]
    unfold storeA
    have h1 := (hh.at_ _ (mem_at hm)).1
    simp only at h1
    simp only [hz, h1, hb, hc, hz0]
  simp only [he]
end

end
end Go.Proofs.YtmblgaehfjheeaaGreat.Ev
