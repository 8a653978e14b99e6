/- Chapter 21: the checks of what is stored; elements of equal contents; a run. -/
import Derived.Test.YtfkbfnpjggkdmaaGreatDoorOEad
namespace Go.Proofs.YtfkbfnpjggkdmaaGreatDoor.Ev
open Go.RowKit
set_option maxRecDepth 100000
set_option maxHeartbeats 1000000
def TIn (hs : HSt) (R : List Ser) (v : AV) : Prop := (v = .nils ∧ R = []) ∨ ∃ b sz ex, v = .slice b 0 R.length 1 ∧ MemH hs b ⟨sz, ex, R.map (·.1)⟩
theorem TIn.mono {hs hs' : HSt} {R : List Ser} {v : AV} (h : TIn hs R v) (hm : ∀ b o, MemH hs b o → MemH hs' b o) : TIn hs' R v := h.imp id fun ⟨b, sz, ex, h1, h2⟩ => ⟨b, sz, ex, h1, hm _ _ h2⟩
theorem TIn.len {hs : HSt} {R : List Ser} {v : AV} {e : Nat} (h : TIn hs R v) : lenA (.slice e) v = some R.length := by
 rcases h with ⟨rfl, rfl⟩ | ⟨b, sz, ex, rfl, _⟩ <;> rfl
theorem TIn.full {hs : HSt} {R : List Ser} {v : AV} (h : TIn hs R v) (hl : 0 < R.length) : ∃ b sz ex, v = .slice b 0 R.length 1 ∧ MemH hs b ⟨sz, ex, R.map (·.1)⟩ := by
 rcases h with ⟨_, rfl⟩ | h
 ·simp at hl
 ·exact h
theorem TIn.own {R : List Ser} {v : AV} {hp : HSt} (h : OwnE 1 (R.map (·.1)) R.length v hp) : TIn hp R v := by
 rcases h with ⟨h0, _, rfl, rfl⟩ | ⟨b, ex, rfl, rfl, _⟩
 ·exact .inl ⟨rfl, List.eq_nil_of_length_eq_zero h0⟩
 ·exact .inr ⟨b, 1, ex, rfl, true, List.mem_singleton.2 rfl⟩
theorem cT_at {R : List Ser} {a b : Nat} (h : a + b < R.length) : (R.map (·.1))[(a + b) * 1]? = some (rg R (a + b)).1 := by
 unfold rg
 rw [Nat.mul_one, List.getElem?_map, List.getD_eq_getElem?_getD, List.getElem?_eq_getElem h]; rfl
theorem cE_f0 {O : List El} {a b : Nat} (h : a + b < O.length) : (cE O)[(a + b) * 2 + 0]? = some (eg O (a + b)).1 := (c2_get (d := ed0) (fun x : El => x.1) (fun x : El => .int .i64 x.2.2) O (a + b) h).1
theorem cE_f1 {O : List El} {a b : Nat} (h : a + b < O.length) : (cE O)[(a + b) * 2 + 1]? = some (.int .i64 (eg O (a + b)).2.2) := (c2_get (d := ed0) (fun x : El => x.1) (fun x : El => .int .i64 x.2.2) O (a + b) h).2
theorem eg_two {A B : List El} {i : Nat} (h : A.map (·.2) = B.map (·.2)) (hi : i < A.length) : (eg A i).2 = (eg B i).2 := by
 have hl : A.length = B.length := by have := congrArg List.length h; simpa using this
 have := congrArg (fun l => l[i]?) h
 simp only [List.getElem?_map] at this
 unfold eg
 rw [List.getD_eq_getElem?_getD, List.getD_eq_getElem?_getD]
 rw [List.getElem?_eq_getElem hi, List.getElem?_eq_getElem (hl ▸ hi)] at this ⊢
 simpa using this
def RunR (t : Nat) (ca : Int) (C : List (List Lab × Int)) (cells : List AV) (n : Nat) (e : Int) (G : HSt) : Prop :=
 (e ≠ 0 ∧ e = ca ∧ n = 0) ∨ (e = 0 ∧ ca = 0 ∧ n = 1 ∧ ∃ (ev : AV) (O2 : List El), cells = [.int .i64 ((t : Nat) : Int), .int .i64 0, ev] ∧ EIn G O2 ev ∧ EAll G O2 ∧ O2.map (·.2) = C)
theorem ap79_79 : AP tab 79 79 = some 1 := by kernel_rfl
theorem bx72 : ∀ l : List AV, l.length = 2 → varObj tab 72 l = ⟨2, true, l⟩ := by intro l h; exact varObj_plain (by kernel_rfl) h
theorem sz63 : tab.size 63 = some 1 := by kernel_rfl
theorem ud79 : tab.und 79 = some (.slice 63) := by kernel_rfl
theorem zr63 : tab.zero 63 = some (.nils) := by kernel_rfl
theorem may_spec (a b : Int) : Spec tab 45 [.agg [.int .i64 a, .int .i64 b]] [] [] (ValE (fun v => ∃ b : Bool, v = .bool b)) := by
 refine Spec.en (ftg 45 Tryz.func45) rfl (m := 21) rfl (rs := [.tmp 2]) rfl (st := [(0, .agg [.int .i64 a, .int .i64 b])]) rfl rfl (fun _ => rfl) (fun E => ?_)
 refine W.seq ?_
 refine W.reg ?_
 refine WO.box rfl rfl (bx72 _ rfl) rfl (fun b1 => ?_)
 refine WO.q (Q.assign rfl) rfl ?_
 refine WO.nil ?_
 refine End.K ?_
 refine W.seq ?_
 refine W.reg ?_
 refine WO.q (Q.fieldAddr fa72_0 rfl (o' := 0) rfl) rfl ?_
 refine WO.q (Q.l1 rfl (mem_at (i := 0) rfl) ag3 rfl) rfl ?_
 refine WO.q (Q.bin rfl (oc (v := .int .i64 ((0 : Nat) : Int)) rfl) rfl (bv_geq le_int)) rfl ?_
 refine WO.q (Q.move rfl) rfl ?_
 refine WO.sD (d := 6) rfl (fun hc6 => ?_) (fun hc6 => ?_)
 ·skip -- t
  refine WO.gT rfl rfl ?_
  refine WO.q (Q.fieldAddr fa72_0 rfl (o' := 0) rfl) rfl ?_
  refine WO.gT rfl rfl ?_
  refine WO.q (Q.l1 rfl (mem_at (i := 0) rfl) ag3 rfl) rfl ?_
  refine WO.gT rfl rfl ?_
  refine WO.q (Q.bin rfl (oc (v := .int .i64 ((1099511627776 : Nat) : Int)) rfl) rfl (bv_leq le_int)) rfl ?_
  refine WO.q (Q.pT rfl rfl) rfl ?_
  refine WO.q (Q.move rfl) rfl ?_
  refine WO.sD (d := 11) rfl (fun hc11 => ?_) (fun hc11 => ?_)
  ·skip -- tt
   refine WO.gT rfl rfl ?_
   refine WO.q (Q.fieldAddr fa72_1 rfl (o' := 1) rfl) rfl ?_
   refine WO.gT rfl rfl ?_
   refine WO.q (Q.l1 rfl (mem_at (i := 0) rfl) ag3 rfl) rfl ?_
   refine WO.gT rfl rfl ?_
   refine WO.q (Q.bin rfl rfl rfl (bv_geq le_int)) rfl ?_
   refine WO.q (Q.pT rfl rfl) rfl ?_
   refine WO.q (Q.move rfl) rfl ?_
   refine WO.sD (d := 16) rfl (fun hc16 => ?_) (fun hc16 => ?_)
   ·skip -- ttt
    refine WO.gT rfl rfl ?_
    refine WO.q (Q.fieldAddr fa72_1 rfl (o' := 1) rfl) rfl ?_
    refine WO.gT rfl rfl ?_
    refine WO.q (Q.l1 rfl (mem_at (i := 0) rfl) ag3 rfl) rfl ?_
    refine WO.gT rfl rfl ?_
    refine WO.q (Q.bin rfl (oc (v := .int .i64 ((1152921504606846976 : Nat) : Int)) rfl) rfl (bv_leq le_int)) rfl ?_
    refine WO.q (Q.pT rfl rfl) rfl ?_
    refine WO.q (Q.assign rfl) rfl ?_
    refine WO.nil ?_
    refine End.K ?_
    refine W.sub (SubS.cons (k := 2) rfl (SubS.nil _)) ?_
    refine W.ret ?_
    refine End.retE (ResL.tmp rfl ResL.nil) ?_
    exact ⟨_, rfl⟩
   ·skip -- ttf
    refine WO.gF rfl rfl (.inl rfl) rfl ?_
    refine WO.gF rfl rfl (.inl rfl) rfl ?_
    refine WO.gF rfl rfl (.inl rfl) rfl ?_
    refine WO.q (Q.pF rfl rfl) rfl ?_
    refine WO.q (Q.assign rfl) rfl ?_
    refine WO.nil ?_
    refine End.K ?_
    refine W.sub (SubS.cons (k := 2) rfl (SubS.nil _)) ?_
    refine W.ret ?_
    refine End.retE (ResL.tmp rfl ResL.nil) ?_
    exact ⟨_, rfl⟩
  ·skip -- tf
   refine WO.gF rfl rfl (.inl rfl) rfl ?_
   refine WO.gF rfl rfl (.inl rfl) rfl ?_
   refine WO.gF rfl rfl (.inl rfl) rfl ?_
   refine WO.q (Q.pF rfl rfl) rfl ?_
   refine WO.q (Q.move rfl) rfl ?_
   refine WO.gF rfl rfl (.inl rfl) rfl ?_
   refine WO.gF rfl rfl (.inl rfl) rfl ?_
   refine WO.gF rfl rfl (.inl rfl) rfl ?_
   refine WO.q (Q.pF rfl rfl) rfl ?_
   refine WO.q (Q.assign rfl) rfl ?_
   refine WO.nil ?_
   refine End.K ?_
   refine W.sub (SubS.cons (k := 2) rfl (SubS.nil _)) ?_
   refine W.ret ?_
   refine End.retE (ResL.tmp rfl ResL.nil) ?_
   exact ⟨_, rfl⟩
 ·skip -- f
  refine WO.gF rfl rfl (.inl rfl) rfl ?_
  refine WO.gF rfl rfl (.inl rfl) rfl ?_
  refine WO.gF rfl rfl (.inl rfl) rfl ?_
  refine WO.q (Q.pF rfl rfl) rfl ?_
  refine WO.q (Q.move rfl) rfl ?_
  refine WO.gF rfl rfl (.inl rfl) rfl ?_
  refine WO.gF rfl rfl (.inl rfl) rfl ?_
  refine WO.gF rfl rfl (.inl rfl) rfl ?_
  refine WO.q (Q.pF rfl rfl) rfl ?_
  refine WO.q (Q.move rfl) rfl ?_
  refine WO.gF rfl rfl (.inl rfl) rfl ?_
  refine WO.gF rfl rfl (.inl rfl) rfl ?_
  refine WO.gF rfl rfl (.inl rfl) rfl ?_
  refine WO.q (Q.pF rfl rfl) rfl ?_
  refine WO.q (Q.assign rfl) rfl ?_
  refine WO.nil ?_
  refine End.K ?_
  refine W.sub (SubS.cons (k := 2) rfl (SubS.nil _)) ?_
  refine W.ret ?_
  refine End.retE (ResL.tmp rfl ResL.nil) ?_
  exact ⟨_, rfl⟩

theorem rises_spec (hs : HSt) (hro : ∀ e ∈ hs, e.w = false) (S : List Smp) (v : AV) (hS : SIn hs S v) (hSb : SBd S) : Spec tab 26 [v] [] hs (ValE (fun v => ∃ n : Int, v = .int .i64 n)) := by
 have hSl : S.length ≤ 1048576 := hSb
 refine Spec.en (ftg 26 Tryz.func26) rfl (m := 32) rfl (rs := [.tmp 2]) rfl (st := [(0, v)]) rfl rfl (fun _ => rfl) (fun E => ?_)
 refine W.seq ?_
 refine W.reg ?_
 refine WO.q (Q.assign (oc (v := .int .i64 ((0 : Nat) : Int)) rfl)) rfl ?_
 refine WO.nil ?_
 refine End.K ?_
 refine W.seq ?_
 refine W.seq ?_
 refine W.reg ?_
 refine WO.q (Q.assign (oc (v := .int .i64 ((0 : Nat) : Int)) rfl)) rfl ?_
 refine WO.nil ?_
 refine End.K ?_
 refine W.block ?_
 refine W.loop_ind (fun (i : Nat) => [(0, v), (3, .int .i64 ((i : Nat) : Int))]) (fun _ => _) (fun (i : Nat) => i ≤ S.length) (fun (i : Nat) => S.length - i) (0) (Nat.zero_le _) (SubS.cons rfl (SubS.cons rfl (SubS.nil _))) (SubH.refl _) (fun i hI0 ih0 => ?_)
 have hi1 := hI0
 refine W.seq ?_
 refine W.seq ?_
 refine W.reg ?_
 refine WO.q (Q.move rfl) rfl ?_
 refine WO.q (Q.move rfl) rfl ?_
 refine WO.q (Q.len ud66 rfl (SIn.len hS)) rfl ?_
 refine WO.q (Q.bin rfl rfl rfl (bvl ltn)) rfl ?_
 refine WO.nil ?_
 refine End.K ?_
 refine W.cD rfl (fun hc7 => ?_) (fun hc7 => ?_)
 ·skip -- L0T
  obtain ⟨bs, szs, exs, rfl, ws, ms⟩ := SIn.full hS (by omega)
  refine W.skip ?_
  refine End.K ?_
  refine W.seq ?_
  refine W.block ?_
  refine W.seq ?_
  refine W.seq ?_
  refine W.reg ?_
  refine WO.q (Q.move rfl) rfl ?_
  refine WO.q (Q.move rfl) rfl ?_
  refine WO.q (Q.iS ud66 sz72 rfl rfl zo) rfl ?_
  refine WO.q (Q.loadN rfl ms ag72 sz72 (cS_at zo)) rfl ?_
  refine WO.callE rfl (oLc rfl oz) rfl (may_spec _ _) SubR.nil rfl (fun v14 hP14 => ?_)
  obtain ⟨mb, rfl⟩ := hP14
  refine WO.q (Q.not rfl rfl) rfl ?_
  refine WO.nil ?_
  refine End.K ?_
  refine W.condS rfl (fun hc15 => ?_) (fun hc15 => ?_)
  ·skip -- L0TT
   refine W.seq ?_
   refine W.reg ?_
   refine WO.q (Q.assign (oc (v := .int .i64 ((11 : Nat) : Int)) rfl)) rfl ?_
   refine WO.nil ?_
   refine End.K ?_
   refine W.ret ?_
   refine End.Kr (End.Br (End.Kr (End.Lr (End.Br (End.Kr (End.retE (ResL.tmp rfl ResL.nil) ?_))))))
   exact ⟨_, rfl⟩
  ·skip -- L0TF
   refine W.skip ?_
   refine End.K ?_
   refine W.seq ?_
   refine W.regT (by kernel_rfl) ?_
   refine WO.q (Q.move rfl) rfl ?_
   refine WO.q (Q.bin rfl (oc (v := .int .i64 ((0 : Nat) : Int)) rfl) rfl (bv_gtr ltn)) rfl ?_
   refine WO.q (Q.move rfl) rfl ?_
   refine WO.sD (d := 18) rfl (fun hc18 => ?_) (fun hc18 => ?_)
   ·skip -- L0TFt
    refine WO.gT rfl rfl ?_
    refine WO.q (Q.move rfl) rfl ?_
    refine WO.gT rfl rfl ?_
    refine WO.q (Q.move rfl) rfl ?_
    refine WO.gT rfl rfl ?_
    refine WO.q (Q.iS ud66 sz72 rfl rfl zo) rfl ?_
    refine WO.gT rfl rfl ?_
    refine WO.q (Q.fieldAddr fa72_0 rfl rfl) rfl ?_
    refine WO.gT rfl rfl ?_
    refine WO.q (Q.l1 rfl ms ag3 (cS_f0 zo)) rfl ?_
    refine WO.gT rfl rfl ?_
    refine WO.q (Q.move rfl) rfl ?_
    refine WO.gT rfl rfl ?_
    refine WO.q (Q.move rfl) rfl ?_
    refine WO.gT rfl rfl ?_
    refine WO.q (Q.bin rfl (oc (v := .int .i64 ((1 : Nat) : Int)) rfl) rfl (bv_sub (wns zo))) rfl ?_
    refine WO.gT rfl rfl ?_
    refine WO.q (Q.iS ud66 sz72 rfl rfl zo) rfl ?_
    refine WO.gT rfl rfl ?_
    refine WO.q (Q.fieldAddr fa72_0 rfl rfl) rfl ?_
    refine WO.gT rfl rfl ?_
    refine WO.q (Q.l1 rfl ms ag3 (cS_f0 zo)) rfl ?_
    refine WO.gT rfl rfl ?_
    refine WO.q (Q.bin rfl rfl rfl (bv_leq le_int)) rfl ?_
    refine WO.q (Q.pT rfl rfl) rfl ?_
    refine WO.nil ?_
    refine End.K ?_
    refine W.sub (SubS.cons (k := 31) rfl (SubS.cons (k := 0) rfl (SubS.cons (k := 3) rfl (SubS.nil _)))) ?_
    refine W.cD rfl (fun hc31 => ?_) (fun hc31 => ?_)
    ·skip -- L0TFtT
     refine W.seq ?_
     refine W.reg ?_
     refine WO.q (Q.assign (oc (v := .int .i64 ((13 : Nat) : Int)) rfl)) rfl ?_
     refine WO.nil ?_
     refine End.K ?_
     refine W.ret ?_
     refine End.Br (End.Kr (End.Lr (End.Br (End.Kr (End.retE (ResL.tmp rfl ResL.nil) ?_)))))
     exact ⟨_, rfl⟩
    ·skip -- L0TFtF
     refine W.skip ?_
     refine End.KB (End.K ?_)
     refine W.reg ?_
     refine WO.q (Q.move rfl) rfl ?_
     refine WO.q (Q.bin rfl (oc (v := .int .i64 ((1 : Nat) : Int)) rfl) rfl (bv_add (wna zo))) rfl ?_
     refine WO.q (Q.assign rfl) rfl ?_
     refine WO.nil ?_
     refine End.KL ?_
     refine W.sub (SubS.cons rfl (SubS.cons rfl (SubS.nil _))) (ih0 (i + 1) ?_ ?_)
     ·exact (by omega)
     ·exact zo
   ·skip -- L0TFf
    refine WO.gF rfl rfl (.inl rfl) rfl ?_
    refine WO.gF rfl rfl (.inl rfl) rfl ?_
    refine WO.gF rfl rfl (.inl rfl) rfl ?_
    refine WO.gF rfl rfl (.inl rfl) rfl ?_
    refine WO.gF rfl rfl (.inl rfl) rfl ?_
    refine WO.gF rfl rfl (.inl rfl) rfl ?_
    refine WO.gF rfl rfl (.inl rfl) rfl ?_
    refine WO.gF rfl rfl (.inl rfl) rfl ?_
    refine WO.gF rfl rfl (.inl rfl) rfl ?_
    refine WO.gF rfl rfl (.inl rfl) rfl ?_
    refine WO.gF rfl rfl (.inl rfl) rfl ?_
    refine WO.gF rfl rfl (.inl rfl) rfl ?_
    refine WO.q (Q.pF rfl rfl) rfl ?_
    refine WO.nil ?_
    refine End.K ?_
    refine W.sub (SubS.cons (k := 31) rfl (SubS.cons (k := 0) rfl (SubS.cons (k := 3) rfl (SubS.nil _)))) ?_
    refine W.condF rfl ?_
    refine W.skip ?_
    refine End.KB (End.K ?_)
    refine W.reg ?_
    refine WO.q (Q.move rfl) rfl ?_
    refine WO.q (Q.bin rfl (oc (v := .int .i64 ((1 : Nat) : Int)) rfl) rfl (bv_add (wna zo))) rfl ?_
    refine WO.q (Q.assign rfl) rfl ?_
    refine WO.nil ?_
    refine End.KL ?_
    refine W.sub (SubS.cons rfl (SubS.cons rfl (SubS.nil _))) (ih0 (i + 1) ?_ ?_)
    ·exact (by omega)
    ·exact zo
 ·skip -- L0F
  refine W.exit ?_
  refine End.Kx (End.Lx (End.Bh (End.K ?_)))
  refine W.seq ?_
  refine W.reg ?_
  refine WO.q (Q.assign (oc (v := .int .i64 ((0 : Nat) : Int)) rfl)) rfl ?_
  refine WO.nil ?_
  refine End.K ?_
  refine W.ret ?_
  refine End.retE (ResL.tmp rfl ResL.nil) ?_
  exact ⟨_, rfl⟩

theorem rlck_spec (hs : HSt) (hro : ∀ e ∈ hs, e.w = false) (A : List Lab) (va : AV) (ha : LIn hs A va) (hA : LBd A) : Spec tab 43 [va] [] hs (ValE (fun v => ∃ n : Int, v = .int .i64 n)) := by
 have hAl := hA.1
 refine Spec.en (ftg 43 Tryz.func43) rfl (m := 49) rfl (rs := [.tmp 2]) rfl (st := [(0, va)]) rfl rfl (fun _ => rfl) (fun E => ?_)
 refine W.seq ?_
 refine W.reg ?_
 refine WO.q (Q.assign (oc (v := .int .i64 ((0 : Nat) : Int)) rfl)) rfl ?_
 refine WO.nil ?_
 refine End.K ?_
 refine W.seq ?_
 refine W.seq ?_
 refine W.reg ?_
 refine WO.q (Q.move rfl) rfl ?_
 refine WO.q (Q.len ud63 rfl (LIn.len ha)) rfl ?_
 refine WO.q (Q.bin rfl (oc (v := .int .i64 ((8 : Nat) : Int)) rfl) rfl (bv_gtr ltn)) rfl ?_
 refine WO.nil ?_
 refine End.K ?_
 refine W.cD rfl (fun hc6 => ?_) (fun hc6 => ?_)
 ·skip -- T
  refine W.seq ?_
  refine W.reg ?_
  refine WO.q (Q.assign (oc (v := .int .i64 ((3 : Nat) : Int)) rfl)) rfl ?_
  refine WO.nil ?_
  refine End.K ?_
  refine W.ret ?_
  refine End.Kr (End.retE (ResL.tmp rfl ResL.nil) ?_)
  exact ⟨_, rfl⟩
 ·skip -- F
  refine W.skip ?_
  refine End.K ?_
  refine W.seq ?_
  refine W.seq ?_
  refine W.reg ?_
  refine WO.q (Q.assign (oc (v := .int .i64 ((0 : Nat) : Int)) rfl)) rfl ?_
  refine WO.nil ?_
  refine End.K ?_
  refine W.block ?_
  refine W.loop_ind (fun (i : Nat) => [(0, va), (3, .int .i64 ((i : Nat) : Int))]) (fun _ => _) (fun (i : Nat) => i ≤ A.length) (fun (i : Nat) => A.length - i) (0) (Nat.zero_le _) (SubS.cons rfl (SubS.cons rfl (SubS.nil _))) (SubH.refl _) (fun i hI0 ih0 => ?_)
  have hi1 := hI0
  refine W.seq ?_
  refine W.seq ?_
  refine W.reg ?_
  refine WO.q (Q.move rfl) rfl ?_
  refine WO.q (Q.move rfl) rfl ?_
  refine WO.q (Q.len ud63 rfl (LIn.len ha)) rfl ?_
  refine WO.q (Q.bin rfl rfl rfl (bvl ltn)) rfl ?_
  refine WO.nil ?_
  refine End.K ?_
  refine W.cD rfl (fun hc10 => ?_) (fun hc10 => ?_)
  ·skip -- FL0T
   obtain ⟨ba, sza, exa, rfl, wa, ma⟩ := LIn.full ha (by omega)
   refine W.skip ?_
   refine End.K ?_
   refine W.seq ?_
   refine W.block ?_
   refine W.seq ?_
   refine W.seq ?_
   refine W.reg ?_
   refine WO.q (Q.move rfl) rfl ?_
   refine WO.q (Q.move rfl) rfl ?_
   refine WO.q (Q.iS ud63 sz70 rfl rfl zo) rfl ?_
   refine WO.q (Q.fieldAddr fa70_0 rfl rfl) rfl ?_
   refine WO.q (Q.l1 rfl ma ag9 (cL_f0 zo)) rfl ?_
   refine WO.cV rfl (oLc rfl oz) rfl (rname_spec _ (hA.at zo).1 (hA.at zo).2.2.1) SubR.nil rfl ?_
   refine WO.q (Q.not rfl rfl) rfl ?_
   refine WO.nil ?_
   refine End.K ?_
   refine W.condS rfl (fun hc19 => ?_) (fun hc19 => ?_)
   ·skip -- FL0TT
    refine W.seq ?_
    refine W.reg ?_
    refine WO.q (Q.assign (oc (v := .int .i64 ((8 : Nat) : Int)) rfl)) rfl ?_
    refine WO.nil ?_
    refine End.K ?_
    refine W.ret ?_
    refine End.Kr (End.Br (End.Kr (End.Lr (End.Br (End.Kr (End.retE (ResL.tmp rfl ResL.nil) ?_))))))
    exact ⟨_, rfl⟩
   ·skip -- FL0TF
    refine W.skip ?_
    refine End.K ?_
    refine W.seq ?_
    refine W.seq ?_
    refine W.reg ?_
    refine WO.q (Q.move rfl) rfl ?_
    refine WO.q (Q.move rfl) rfl ?_
    refine WO.q (Q.iS ud63 sz70 rfl rfl zo) rfl ?_
    refine WO.q (Q.fieldAddr fa70_1 rfl rfl) rfl ?_
    refine WO.q (Q.l1 rfl ma ag9 (cL_f1 zo)) rfl ?_
    refine WO.q (Q.bin rfl (oc (v := .str []) (by kernel_rfl)) rfl bv_seql) rfl ?_
    refine WO.nil ?_
    refine End.K ?_
    refine W.sub (SubS.cons (k := 25) rfl (SubS.cons (k := 0) rfl (SubS.cons (k := 3) rfl (SubS.nil _)))) ?_
    refine W.cD rfl (fun hc25 => ?_) (fun hc25 => ?_)
    ·skip -- FL0TFT
     refine W.seq ?_
     refine W.reg ?_
     refine WO.q (Q.assign (oc (v := .int .i64 ((2 : Nat) : Int)) rfl)) rfl ?_
     refine WO.nil ?_
     refine End.K ?_
     refine W.ret ?_
     refine End.Kr (End.Br (End.Kr (End.Lr (End.Br (End.Kr (End.retE (ResL.tmp rfl ResL.nil) ?_))))))
     exact ⟨_, rfl⟩
    ·skip -- FL0TFF
     refine W.skip ?_
     refine End.K ?_
     refine W.seq ?_
     refine W.seq ?_
     refine W.reg ?_
     refine WO.q (Q.move rfl) rfl ?_
     refine WO.q (Q.move rfl) rfl ?_
     refine WO.q (Q.iS ud63 sz70 rfl rfl zo) rfl ?_
     refine WO.q (Q.fieldAddr fa70_1 rfl rfl) rfl ?_
     refine WO.q (Q.l1 rfl ma ag9 (cL_f1 zo)) rfl ?_
     refine WO.q (Q.len ud9 rfl rfl) rfl ?_
     refine WO.q (Q.bin rfl (oc (v := .int .i64 ((64 : Nat) : Int)) rfl) rfl (bv_gtr ltn)) rfl ?_
     refine WO.nil ?_
     refine End.K ?_
     refine W.cD rfl (fun hc32 => ?_) (fun hc32 => ?_)
     ·skip -- FL0TFFT
      refine W.seq ?_
      refine W.reg ?_
      refine WO.q (Q.assign (oc (v := .int .i64 ((3 : Nat) : Int)) rfl)) rfl ?_
      refine WO.nil ?_
      refine End.K ?_
      refine W.ret ?_
      refine End.Kr (End.Br (End.Kr (End.Lr (End.Br (End.Kr (End.retE (ResL.tmp rfl ResL.nil) ?_))))))
      exact ⟨_, rfl⟩
     ·skip -- FL0TFFF
      refine W.skip ?_
      refine End.K ?_
      refine W.seq ?_
      refine W.regT (by kernel_rfl) ?_
      refine WO.q (Q.move rfl) rfl ?_
      refine WO.q (Q.bin rfl (oc (v := .int .i64 ((0 : Nat) : Int)) rfl) rfl (bv_gtr ltn)) rfl ?_
      refine WO.q (Q.move rfl) rfl ?_
      refine WO.sD (d := 35) rfl (fun hc35 => ?_) (fun hc35 => ?_)
      ·skip -- FL0TFFFt
       refine WO.gT rfl rfl ?_
       refine WO.q (Q.move rfl) rfl ?_
       refine WO.gT rfl rfl ?_
       refine WO.q (Q.move rfl) rfl ?_
       refine WO.gT rfl rfl ?_
       refine WO.q (Q.iS ud63 sz70 rfl rfl zo) rfl ?_
       refine WO.gT rfl rfl ?_
       refine WO.q (Q.fieldAddr fa70_0 rfl rfl) rfl ?_
       refine WO.gT rfl rfl ?_
       refine WO.q (Q.l1 rfl ma ag9 (cL_f0 zo)) rfl ?_
       refine WO.gT rfl rfl ?_
       refine WO.q (Q.move rfl) rfl ?_
       refine WO.gT rfl rfl ?_
       refine WO.q (Q.move rfl) rfl ?_
       refine WO.gT rfl rfl ?_
       refine WO.q (Q.bin rfl (oc (v := .int .i64 ((1 : Nat) : Int)) rfl) rfl (bv_sub (wns zo))) rfl ?_
       refine WO.gT rfl rfl ?_
       refine WO.q (Q.iS ud63 sz70 rfl rfl zo) rfl ?_
       refine WO.gT rfl rfl ?_
       refine WO.q (Q.fieldAddr fa70_0 rfl rfl) rfl ?_
       refine WO.gT rfl rfl ?_
       refine WO.q (Q.l1 rfl ma ag9 (cL_f0 zo)) rfl ?_
       refine WO.gT rfl rfl ?_
       refine WO.q (Q.bin rfl rfl rfl bv_sleqB) rfl ?_
       refine WO.q (Q.pT rfl rfl) rfl ?_
       refine WO.nil ?_
       refine End.K ?_
       refine W.sub (SubS.cons (k := 48) rfl (SubS.cons (k := 0) rfl (SubS.cons (k := 3) rfl (SubS.nil _)))) ?_
       refine W.condS rfl (fun hc48 => ?_) (fun hc48 => ?_)
       ·skip -- FL0TFFFtT
        refine W.seq ?_
        refine W.reg ?_
        refine WO.q (Q.assign (oc (v := .int .i64 ((13 : Nat) : Int)) rfl)) rfl ?_
        refine WO.nil ?_
        refine End.K ?_
        refine W.ret ?_
        refine End.Br (End.Kr (End.Lr (End.Br (End.Kr (End.retE (ResL.tmp rfl ResL.nil) ?_)))))
        exact ⟨_, rfl⟩
       ·skip -- FL0TFFFtF
        refine W.skip ?_
        refine End.KB (End.K ?_)
        refine W.reg ?_
        refine WO.q (Q.move rfl) rfl ?_
        refine WO.q (Q.bin rfl (oc (v := .int .i64 ((1 : Nat) : Int)) rfl) rfl (bv_add (wna zo))) rfl ?_
        refine WO.q (Q.assign rfl) rfl ?_
        refine WO.nil ?_
        refine End.KL ?_
        refine W.sub (SubS.cons rfl (SubS.cons rfl (SubS.nil _))) (ih0 (i + 1) ?_ ?_)
        ·exact (by omega)
        ·exact zo
      ·skip -- FL0TFFFf
       refine WO.gF rfl rfl (.inl rfl) rfl ?_
       refine WO.gF rfl rfl (.inl rfl) rfl ?_
       refine WO.gF rfl rfl (.inl rfl) rfl ?_
       refine WO.gF rfl rfl (.inl rfl) rfl ?_
       refine WO.gF rfl rfl (.inl rfl) rfl ?_
       refine WO.gF rfl rfl (.inl rfl) rfl ?_
       refine WO.gF rfl rfl (.inl rfl) rfl ?_
       refine WO.gF rfl rfl (.inl rfl) rfl ?_
       refine WO.gF rfl rfl (.inl rfl) rfl ?_
       refine WO.gF rfl rfl (.inl rfl) rfl ?_
       refine WO.gF rfl rfl (.inl rfl) rfl ?_
       refine WO.gF rfl rfl (.inl rfl) rfl ?_
       refine WO.q (Q.pF rfl rfl) rfl ?_
       refine WO.nil ?_
       refine End.K ?_
       refine W.sub (SubS.cons (k := 48) rfl (SubS.cons (k := 0) rfl (SubS.cons (k := 3) rfl (SubS.nil _)))) ?_
       refine W.condF rfl ?_
       refine W.skip ?_
       refine End.KB (End.K ?_)
       refine W.reg ?_
       refine WO.q (Q.move rfl) rfl ?_
       refine WO.q (Q.bin rfl (oc (v := .int .i64 ((1 : Nat) : Int)) rfl) rfl (bv_add (wna zo))) rfl ?_
       refine WO.q (Q.assign rfl) rfl ?_
       refine WO.nil ?_
       refine End.KL ?_
       refine W.sub (SubS.cons rfl (SubS.cons rfl (SubS.nil _))) (ih0 (i + 1) ?_ ?_)
       ·exact (by omega)
       ·exact zo
  ·skip -- FL0F
   refine W.exit ?_
   refine End.Kx (End.Lx (End.Bh (End.K ?_)))
   refine W.seq ?_
   refine W.reg ?_
   refine WO.q (Q.assign (oc (v := .int .i64 ((0 : Nat) : Int)) rfl)) rfl ?_
   refine WO.nil ?_
   refine End.K ?_
   refine W.ret ?_
   refine End.retE (ResL.tmp rfl ResL.nil) ?_
   exact ⟨_, rfl⟩

theorem rick_spec (hs : HSt) (hro : ∀ e ∈ hs, e.w = false) (R : List Ser) (v : AV) (hT : TIn hs R v) (hRA : RAll hs R) (hRb : RBd R) : Spec tab 24 [v] [] hs (ValE (fun v => ∃ n : Int, v = .int .i64 n)) := by
 have hRl := hRb.1
 refine Spec.en (ftg 24 Tryz.func24) rfl (m := 37) rfl (rs := [.tmp 2]) rfl (st := [(0, v)]) rfl rfl (fun _ => rfl) (fun E => ?_)
 refine W.seq ?_
 refine W.reg ?_
 refine WO.q (Q.assign (oc (v := .int .i64 ((0 : Nat) : Int)) rfl)) rfl ?_
 refine WO.nil ?_
 refine End.K ?_
 refine W.seq ?_
 refine W.seq ?_
 refine W.reg ?_
 refine WO.q (Q.move rfl) rfl ?_
 refine WO.q (Q.len ud79 rfl (TIn.len hT)) rfl ?_
 refine WO.q (Q.bin rfl (oc (v := .int .i64 ((256 : Nat) : Int)) rfl) rfl (bv_gtr ltn)) rfl ?_
 refine WO.nil ?_
 refine End.K ?_
 refine W.cD rfl (fun hc7 => ?_) (fun hc7 => ?_)
 ·skip -- T
  refine W.seq ?_
  refine W.reg ?_
  refine WO.q (Q.assign (oc (v := .int .i64 ((3 : Nat) : Int)) rfl)) rfl ?_
  refine WO.nil ?_
  refine End.K ?_
  refine W.ret ?_
  refine End.Kr (End.retE (ResL.tmp rfl ResL.nil) ?_)
  exact ⟨_, rfl⟩
 ·skip -- F
  refine W.skip ?_
  refine End.K ?_
  refine W.seq ?_
  refine W.seq ?_
  refine W.reg ?_
  refine WO.q (Q.assign (oc (v := .int .i64 ((0 : Nat) : Int)) rfl)) rfl ?_
  refine WO.nil ?_
  refine End.K ?_
  refine W.block ?_
  refine W.loop_ind (fun (i : Nat) => [(0, v), (3, .int .i64 ((i : Nat) : Int))]) (fun _ => _) (fun (i : Nat) => i ≤ R.length) (fun (i : Nat) => R.length - i) (0) (Nat.zero_le _) (SubS.cons rfl (SubS.cons rfl (SubS.nil _))) (SubH.refl _) (fun i hI0 ih0 => ?_)
  have hi1 := hI0
  refine W.seq ?_
  refine W.seq ?_
  refine W.reg ?_
  refine WO.q (Q.move rfl) rfl ?_
  refine WO.q (Q.move rfl) rfl ?_
  refine WO.q (Q.len ud79 rfl (TIn.len hT)) rfl ?_
  refine WO.q (Q.bin rfl rfl rfl (bvl ltn)) rfl ?_
  refine WO.nil ?_
  refine End.K ?_
  refine W.cD rfl (fun hc11 => ?_) (fun hc11 => ?_)
  ·skip -- FL0T
   obtain ⟨bt, szt, ext, rfl, wt, mt⟩ := TIn.full hT (by omega)
   refine W.skip ?_
   refine End.K ?_
   refine W.seq ?_
   refine W.block ?_
   refine W.seq ?_
   refine W.seq ?_
   refine W.reg ?_
   refine WO.q (Q.move rfl) rfl ?_
   refine WO.q (Q.move rfl) rfl ?_
   refine WO.q (Q.iS ud79 sz63 rfl rfl zo) rfl ?_
   refine WO.q (Q.l1 rfl mt ag63 (cT_at zo)) rfl ?_
   refine WO.callE rfl (oLc rfl oz) rfl (rlck_spec hs hro _ _ ((hRA _ (rg_mem (R := R) (i := 0 + i) (by omega))).1) ((hRb.2 _ (rg_mem (R := R) (i := 0 + i) (by omega))).1)) (SubR.s hro) rfl (fun v18 hP18 => ?_)
   obtain ⟨ce, rfl⟩ := hP18
   refine WO.q (Q.assign rfl) rfl ?_
   refine WO.nil ?_
   refine End.K ?_
   refine W.seq ?_
   refine W.reg ?_
   refine WO.q (Q.move rfl) rfl ?_
   refine WO.q (Q.bin rfl (oc (v := .int .i64 ((0 : Nat) : Int)) rfl) rfl (bv_neq ne_int)) rfl ?_
   refine WO.nil ?_
   refine End.K ?_
   refine W.cD rfl (fun hc20 => ?_) (fun hc20 => ?_)
   ·skip -- FL0TT
    refine W.seq ?_
    refine W.reg ?_
    refine WO.q (Q.move rfl) rfl ?_
    refine WO.q (Q.assign rfl) rfl ?_
    refine WO.nil ?_
    refine End.K ?_
    refine W.sub (SubS.cons (k := 2) rfl (SubS.nil _)) ?_
    refine W.ret ?_
    refine End.Kr (End.Br (End.Kr (End.Lr (End.Br (End.Kr (End.retE (ResL.tmp rfl ResL.nil) ?_))))))
    exact ⟨_, rfl⟩
   ·skip -- FL0TF
    refine W.skip ?_
    refine End.K ?_
    refine W.seq ?_
    refine W.regT (by kernel_rfl) ?_
    refine WO.q (Q.move rfl) rfl ?_
    refine WO.q (Q.bin rfl (oc (v := .int .i64 ((0 : Nat) : Int)) rfl) rfl (bv_gtr ltn)) rfl ?_
    refine WO.q (Q.move rfl) rfl ?_
    refine WO.sD (d := 24) rfl (fun hc24 => ?_) (fun hc24 => ?_)
    ·skip -- FL0TFt
     refine WO.gT rfl rfl ?_
     refine WO.q (Q.move rfl) rfl ?_
     refine WO.gT rfl rfl ?_
     refine WO.q (Q.move rfl) rfl ?_
     refine WO.gT rfl rfl ?_
     refine WO.q (Q.bin rfl (oc (v := .int .i64 ((1 : Nat) : Int)) rfl) rfl (bv_sub (wns zo))) rfl ?_
     refine WO.gT rfl rfl ?_
     refine WO.q (Q.iS ud79 sz63 rfl rfl zo) rfl ?_
     refine WO.gT rfl rfl ?_
     refine WO.q (Q.l1 rfl mt ag63 (cT_at zo)) rfl ?_
     refine WO.gT rfl rfl ?_
     refine WO.q (Q.move rfl) rfl ?_
     refine WO.gT rfl rfl ?_
     refine WO.q (Q.move rfl) rfl ?_
     refine WO.gT rfl rfl ?_
     refine WO.q (Q.iS ud79 sz63 rfl rfl zo) rfl ?_
     refine WO.gT rfl rfl ?_
     refine WO.q (Q.l1 rfl mt ag63 (cT_at zo)) rfl ?_
     refine WO.gT rfl rfl ?_
     refine WO.cV rfl (oLc rfl (oLc rfl oz)) rfl (rcmp_spec hs hro _ _ _ _ ((hRA _ (rg_mem (R := R) (i := 0 + (i - 1)) (by omega))).1) ((hRA _ (rg_mem (R := R) (i := 0 + i) (by omega))).1) ((hRb.2 _ (rg_mem (R := R) (i := 0 + (i - 1)) (by omega))).1) ((hRb.2 _ (rg_mem (R := R) (i := 0 + i) (by omega))).1)) (SubR.s hro) rfl ?_
     refine WO.gT rfl rfl ?_
     refine WO.q (Q.bin rfl (oc (v := .int .i64 ((0 : Nat) : Int)) rfl) rfl (bv_geq le_int)) rfl ?_
     refine WO.q (Q.pT rfl rfl) rfl ?_
     refine WO.nil ?_
     refine End.K ?_
     refine W.sub (SubS.cons (k := 36) rfl (SubS.cons (k := 0) rfl (SubS.cons (k := 3) rfl (SubS.nil _)))) ?_
     refine W.cD rfl (fun hc36 => ?_) (fun hc36 => ?_)
     ·skip -- FL0TFtT
      refine W.seq ?_
      refine W.reg ?_
      refine WO.q (Q.assign (oc (v := .int .i64 ((13 : Nat) : Int)) rfl)) rfl ?_
      refine WO.nil ?_
      refine End.K ?_
      refine W.ret ?_
      refine End.Br (End.Kr (End.Lr (End.Br (End.Kr (End.retE (ResL.tmp rfl ResL.nil) ?_)))))
      exact ⟨_, rfl⟩
     ·skip -- FL0TFtF
      refine W.skip ?_
      refine End.KB (End.K ?_)
      refine W.reg ?_
      refine WO.q (Q.move rfl) rfl ?_
      refine WO.q (Q.bin rfl (oc (v := .int .i64 ((1 : Nat) : Int)) rfl) rfl (bv_add (wna zo))) rfl ?_
      refine WO.q (Q.assign rfl) rfl ?_
      refine WO.nil ?_
      refine End.KL ?_
      refine W.sub (SubS.cons rfl (SubS.cons rfl (SubS.nil _))) (ih0 (i + 1) ?_ ?_)
      ·exact (by omega)
      ·exact zo
    ·skip -- FL0TFf
     refine WO.gF rfl rfl (.inl rfl) rfl ?_
     refine WO.gF rfl rfl (.inl rfl) rfl ?_
     refine WO.gF rfl rfl (.inl rfl) rfl ?_
     refine WO.gF rfl rfl (.inl rfl) rfl ?_
     refine WO.gF rfl rfl (.inl rfl) rfl ?_
     refine WO.gF rfl rfl (.inl rfl) rfl ?_
     refine WO.gF rfl rfl (.inl rfl) rfl ?_
     refine WO.gF rfl rfl (.inl rfl) rfl ?_
     refine WO.gF rfl rfl (.inl rfl) rfl ?_
     refine WO.gF rfl rfl (.inl rfl) rfl ?_
     refine WO.gF rfl rfl (.inl rfl) rfl ?_
     refine WO.q (Q.pF rfl rfl) rfl ?_
     refine WO.nil ?_
     refine End.K ?_
     refine W.sub (SubS.cons (k := 36) rfl (SubS.cons (k := 0) rfl (SubS.cons (k := 3) rfl (SubS.nil _)))) ?_
     refine W.condF rfl ?_
     refine W.skip ?_
     refine End.KB (End.K ?_)
     refine W.reg ?_
     refine WO.q (Q.move rfl) rfl ?_
     refine WO.q (Q.bin rfl (oc (v := .int .i64 ((1 : Nat) : Int)) rfl) rfl (bv_add (wna zo))) rfl ?_
     refine WO.q (Q.assign rfl) rfl ?_
     refine WO.nil ?_
     refine End.KL ?_
     refine W.sub (SubS.cons rfl (SubS.cons rfl (SubS.nil _))) (ih0 (i + 1) ?_ ?_)
     ·exact (by omega)
     ·exact zo
  ·skip -- FL0F
   refine W.exit ?_
   refine End.Kx (End.Lx (End.Bh (End.K ?_)))
   refine W.seq ?_
   refine W.reg ?_
   refine WO.q (Q.assign (oc (v := .int .i64 ((0 : Nat) : Int)) rfl)) rfl ?_
   refine WO.nil ?_
   refine End.K ?_
   refine W.ret ?_
   refine End.retE (ResL.tmp rfl ResL.nil) ?_
   exact ⟨_, rfl⟩

theorem cnt_spec (hs : HSt) (hro : ∀ e ∈ hs, e.w = false) (R : List Ser) (v : AV) (hR : RSl hs R 0 v) (hRA : RAll hs R) (hRb : RBd R) : Spec tab 20 [v] [] hs (ValE (fun v => ∃ n : Int, v = .int .i64 n)) := by
 have hRl := hRb.1
 refine Spec.en (ftg 20 Tryz.func20) rfl (m := 24) rfl (rs := [.tmp 2]) rfl (st := [(0, v)]) rfl rfl (fun _ => rfl) (fun E => ?_)
 refine W.seq ?_
 refine W.reg ?_
 refine WO.q (Q.assign (oc (v := .int .i64 ((0 : Nat) : Int)) rfl)) rfl ?_
 refine WO.nil ?_
 refine End.K ?_
 refine W.seq ?_
 refine W.reg ?_
 refine WO.q (Q.assign (oc (v := .int .i64 ((0 : Nat) : Int)) rfl)) rfl ?_
 refine WO.nil ?_
 refine End.K ?_
 refine W.seq ?_
 refine W.seq ?_
 refine W.reg ?_
 refine WO.q (Q.assign (oc (v := .int .i64 ((0 : Nat) : Int)) rfl)) rfl ?_
 refine WO.nil ?_
 refine End.K ?_
 refine W.block ?_
 refine W.loop_ind2 (fun (i : Nat) (c : Nat) => [(0, v), (3, .int .i64 ((c : Nat) : Int)), (4, .int .i64 ((i : Nat) : Int))]) (fun _ _ => _) (fun (i : Nat) (c : Nat) => i ≤ R.length ∧ c ≤ 1200000) (fun (i : Nat) (c : Nat) => R.length - i) (0) (0) ⟨Nat.zero_le _, by omega⟩ (SubS.cons rfl (SubS.cons rfl (SubS.cons rfl (SubS.nil _)))) (SubH.refl _) (fun i c hI0 ih0 => ?_)
 obtain ⟨hi1, hc1⟩ := hI0
 refine W.seq ?_
 refine W.seq ?_
 refine W.reg ?_
 refine WO.q (Q.move rfl) rfl ?_
 refine WO.q (Q.move rfl) rfl ?_
 refine WO.q (Q.len ud22 rfl (RSl.len hR)) rfl ?_
 refine WO.q (Q.bin rfl rfl rfl (bvl ltn)) rfl ?_
 refine WO.q (Q.move rfl) rfl ?_
 refine WO.sD (d := 9) rfl (fun hc9 => ?_) (fun hc9 => ?_)
 ·skip -- L0t
  refine WO.gT rfl rfl ?_
  refine WO.q (Q.move rfl) rfl ?_
  refine WO.gT rfl rfl ?_
  refine WO.q (Q.bin rfl (oc (v := .int .i64 ((65536 : Nat) : Int)) rfl) rfl (bv_leq le_nat)) rfl ?_
  refine WO.q (Q.pT rfl rfl) rfl ?_
  refine WO.nil ?_
  refine End.K ?_
  refine W.cD rfl (fun hc12 => ?_) (fun hc12 => ?_)
  ·skip -- L0tT
   obtain ⟨br, szr, exr, rfl, wr, mr⟩ := RSl.full hR (by omega)
   have hm0 := rg_mem (R := R) (i := 0 + i) (by omega)
   have hx := hRA _ hm0
   have hxb := hRb.2 _ hm0
   have hxS : (rg R (0 + i)).2.2.2.length ≤ 1048576 := hxb.2
   refine W.skip ?_
   refine End.K ?_
   refine W.seq ?_
   refine W.block ?_
   refine W.reg ?_
   refine WO.q (Q.move rfl) rfl ?_
   refine WO.q (Q.move rfl) rfl ?_
   refine WO.q (Q.move rfl) rfl ?_
   refine WO.q (Q.iS ud22 sz68 rfl rfl zo) rfl ?_
   refine WO.q (Q.fieldAddr fa68_1 rfl rfl) rfl ?_
   refine WO.q (Q.l1 rfl mr ag66 (cR_f1 zo)) rfl ?_
   refine WO.q (Q.len ud66 rfl (SIn.len hx.2)) rfl ?_
   refine WO.q (Q.bin rfl rfl rfl (bv_add (wna zo))) rfl ?_
   refine WO.q (Q.assign rfl) rfl ?_
   refine WO.nil ?_
   refine End.KB (End.K ?_)
   refine W.sub (SubS.cons (k := 3) rfl (SubS.cons (k := 0) rfl (SubS.cons (k := 4) rfl (SubS.nil _)))) ?_
   refine W.reg ?_
   refine WO.q (Q.move rfl) rfl ?_
   refine WO.q (Q.bin rfl (oc (v := .int .i64 ((1 : Nat) : Int)) rfl) rfl (bv_add (wna zo))) rfl ?_
   refine WO.q (Q.assign rfl) rfl ?_
   refine WO.nil ?_
   refine End.KL ?_
   refine W.sub (SubS.cons rfl (SubS.cons rfl (SubS.cons rfl (SubS.nil _)))) (ih0 (i + 1) (c + (rg R (0 + i)).2.2.2.length) ?_ ?_)
   ·exact ⟨by omega, by omega⟩
   ·exact zo
  ·skip -- L0tF
   refine W.exit ?_
   refine End.Kx (End.Lx (End.Bh (End.K ?_)))
   refine W.seq ?_
   refine W.reg ?_
   refine WO.q (Q.move rfl) rfl ?_
   refine WO.q (Q.assign rfl) rfl ?_
   refine WO.nil ?_
   refine End.K ?_
   refine W.ret ?_
   refine End.retE (ResL.tmp rfl ResL.nil) ?_
   exact ⟨_, rfl⟩
 ·skip -- L0f
  refine WO.gF rfl rfl (.inl rfl) rfl ?_
  refine WO.gF rfl rfl (.inl rfl) rfl ?_
  refine WO.q (Q.pF rfl rfl) rfl ?_
  refine WO.nil ?_
  refine End.K ?_
  refine W.condF rfl ?_
  refine W.exit ?_
  refine End.Kx (End.Lx (End.Bh (End.K ?_)))
  refine W.seq ?_
  refine W.reg ?_
  refine WO.q (Q.move rfl) rfl ?_
  refine WO.q (Q.assign rfl) rfl ?_
  refine WO.nil ?_
  refine End.K ?_
  refine W.ret ?_
  refine End.retE (ResL.tmp rfl ResL.nil) ?_
  exact ⟨_, rfl⟩

theorem sets_spec (hs : HSt) (hro : ∀ e ∈ hs, e.w = false) (R : List Ser) (v : AV) (hR : RSl hs R 0 v) (hRA : RAll hs R) (hRb : RBd R) : Spec tab 25 [v] [] hs (fun u D => OwnE 1 (R.map (·.1)) R.length u D) := by
 have hRl := hRb.1
 refine Spec.en (ftg 25 Tryz.func25) rfl (m := 20) rfl (rs := [.tmp 2]) rfl (st := [(0, v)]) rfl rfl (fun _ => rfl) (fun E => ?_)
 refine W.seq ?_
 refine W.reg ?_
 refine WO.q (Q.assign rfl) rfl ?_
 refine WO.nil ?_
 refine End.K ?_
 refine W.seq ?_
 refine W.reg ?_
 refine WO.q (Q.assign rfl) rfl ?_
 refine WO.nil ?_
 refine End.K ?_
 refine W.seq ?_
 refine W.seq ?_
 refine W.reg ?_
 refine WO.q (Q.assign (oc (v := .int .i64 ((0 : Nat) : Int)) rfl)) rfl ?_
 refine WO.nil ?_
 refine End.K ?_
 refine W.block ?_
 refine W.loop_ind3 (fun (i : Nat) (o : AV) (ho : HSt) => [(0, v), (3, o), (4, .int .i64 ((i : Nat) : Int))]) (fun (i : Nat) (o : AV) (ho : HSt) => hs ++ ho) (fun (i : Nat) (o : AV) (ho : HSt) => i ≤ R.length ∧ OwnE 1 ((R.take i).map (·.1)) i o ho) (fun (i : Nat) (o : AV) (ho : HSt) => R.length - i) (0) (.nils) ([]) ⟨Nat.zero_le _, OwnE.nil 1⟩ (SubS.cons rfl (SubS.cons rfl (SubS.cons rfl (SubS.nil _)))) (SubH.op (by rw [List.append_nil])) (fun i o ho hI0 ih0 => ?_)
 obtain ⟨hi1, hO⟩ := hI0
 refine W.seq ?_
 refine W.seq ?_
 refine W.reg ?_
 refine WO.q (Q.move rfl) rfl ?_
 refine WO.q (Q.move rfl) rfl ?_
 refine WO.q (Q.len ud22 rfl (RSl.len hR)) rfl ?_
 refine WO.q (Q.bin rfl rfl rfl (bvl ltn)) rfl ?_
 refine WO.nil ?_
 refine End.K ?_
 refine W.cD rfl (fun hc8 => ?_) (fun hc8 => ?_)
 ·skip -- L0T
  obtain ⟨br, szr, exr, rfl, wr, mr⟩ := RSl.full hR (by omega)
  have hm0 := rg_mem (R := R) (i := 0 + i) (by omega)
  have hx := hRA _ hm0
  have hxb := hRb.2 _ hm0
  refine W.skip ?_
  refine End.K ?_
  refine W.seq ?_
  refine W.block ?_
  refine W.reg ?_
  refine WO.q (Q.move rfl) rfl ?_
  refine WO.q (Q.move rfl) rfl ?_
  refine WO.q (Q.move rfl) rfl ?_
  refine WO.q (Q.iS ud22 sz68 rfl rfl zo) rfl ?_
  refine WO.q (Q.fieldAddr fa68_0 rfl rfl) rfl ?_
  refine WO.q (Q.l1 rfl (List.mem_append_left _ mr) ag63 (cR_f0 zo)) rfl ?_
  refine WO.bslice ud79 sz63 zr63 rfl (opc rfl opn) rfl (cs := [_]) (fill1 (LIn.cell hx.1)) (and1 (LIn.cell hx.1)) rfl (fun b1 => ?_)
  refine WO.appAny (A := ([] ++ hs)) ap79_79 hO rfl rfl (Src.slice (mem_at (i := 0) rfl) rfl) rfl (by omega) (by decide) (SubH.of_sublist (List.sublist_cons_self _ _)) rfl (fun v18 hp18 hO18 => ?_)
  refine WO.q (Q.assign rfl) rfl ?_
  refine WO.nil ?_
  refine End.KB (End.K ?_)
  refine W.reg ?_
  refine WO.q (Q.move rfl) rfl ?_
  refine WO.q (Q.bin rfl (oc (v := .int .i64 ((1 : Nat) : Int)) rfl) rfl (bv_add (wna zo))) rfl ?_
  refine WO.q (Q.assign rfl) rfl ?_
  refine WO.nil ?_
  refine End.KL ?_
  refine W.sub (SubS.cons rfl (SubS.cons rfl (SubS.cons rfl (SubS.nil _)))) (W.sH gc (ih0 (i + 1) (v18) (hp18) ?_ ?_))
  ·exact ⟨by omega, by rw [show (R.take (i + 1)).map (·.1) = (R.take i).map (·.1) ++ [(rg R (0 + i)).1] from (by rw [Nat.zero_add, take_snoc R sd0 (by omega), List.map_append]; rfl)]; exact hO18⟩
  ·exact zo
 ·skip -- L0F
  refine W.exit ?_
  refine End.Kx (End.Lx (End.Bh (End.K ?_)))
  refine W.seq ?_
  refine W.reg ?_
  refine WO.q (Q.move rfl) rfl ?_
  refine WO.q (Q.assign rfl) rfl ?_
  refine WO.nil ?_
  refine End.K ?_
  refine W.ret ?_
  refine End.ret (ResL.tmp rfl ResL.nil) (hs' := ho) (by rw [List.take_of_length_le (by omega)] at hO; have : i = R.length := (by omega); rw [← this]; exact hO) hO.w (SubH.of_sublist (by simp))

theorem rchk_spec (hs : HSt) (hro : ∀ e ∈ hs, e.w = false) (R : List Ser) (v : AV) (hR : RSl hs R 0 v) (hRA : RAll hs R) (hRb : RBd R) : Spec tab 10 [v] [] hs (ValE (fun v => ∃ n : Int, v = .int .i64 n)) := by
 have hRl := hRb.1
 refine Spec.en (ftg 10 Tryz.func10) rfl (m := 42) rfl (rs := [.tmp 2]) rfl (st := [(0, v)]) rfl rfl (fun _ => rfl) (fun E => ?_)
 refine W.seq ?_
 refine W.reg ?_
 refine WO.q (Q.assign (oc (v := .int .i64 ((0 : Nat) : Int)) rfl)) rfl ?_
 refine WO.nil ?_
 refine End.K ?_
 refine W.seq ?_
 refine W.seq ?_
 refine W.reg ?_
 refine WO.q (Q.move rfl) rfl ?_
 refine WO.q (Q.len ud22 rfl (RSl.len hR)) rfl ?_
 refine WO.q (Q.bin rfl (oc (v := .int .i64 ((256 : Nat) : Int)) rfl) rfl (bv_gtr ltn)) rfl ?_
 refine WO.q (Q.move rfl) rfl ?_
 refine WO.sD (d := 9) rfl (fun hc9 => ?_) (fun hc9 => ?_)
 ·skip -- t
  refine WO.gF rfl rfl (.inl rfl) rfl ?_
  refine WO.gF rfl rfl (.inl rfl) rfl ?_
  refine WO.gF rfl rfl (.inl rfl) rfl ?_
  refine WO.q (Q.pT rfl rfl) rfl ?_
  refine WO.nil ?_
  refine End.K ?_
  refine W.condT rfl ?_
  refine W.seq ?_
  refine W.reg ?_
  refine WO.q (Q.assign (oc (v := .int .i64 ((3 : Nat) : Int)) rfl)) rfl ?_
  refine WO.nil ?_
  refine End.K ?_
  refine W.ret ?_
  refine End.Kr (End.retE (ResL.tmp rfl ResL.nil) ?_)
  exact ⟨_, rfl⟩
 ·skip -- f
  refine WO.gT rfl rfl ?_
  refine WO.q (Q.move rfl) rfl ?_
  refine WO.gT rfl rfl ?_
  refine WO.callE rfl (oLc rfl oz) rfl (cnt_spec hs hro R v hR hRA hRb) (SubR.s hro) rfl (fun v11 hP11 => ?_)
  obtain ⟨cn, rfl⟩ := hP11
  refine WO.gT rfl rfl ?_
  refine WO.q (Q.bin rfl (oc (v := .int .i64 ((65536 : Nat) : Int)) rfl) rfl (bv_gtr (ltA_eq _ _))) rfl ?_
  refine WO.q (Q.pF rfl rfl) rfl ?_
  refine WO.nil ?_
  refine End.K ?_
  refine W.cD rfl (fun hc13 => ?_) (fun hc13 => ?_)
  ·skip -- fT
   refine W.seq ?_
   refine W.reg ?_
   refine WO.q (Q.assign (oc (v := .int .i64 ((3 : Nat) : Int)) rfl)) rfl ?_
   refine WO.nil ?_
   refine End.K ?_
   refine W.ret ?_
   refine End.Kr (End.retE (ResL.tmp rfl ResL.nil) ?_)
   exact ⟨_, rfl⟩
  ·skip -- fF
   refine W.skip ?_
   refine End.K ?_
   refine W.seq ?_
   refine W.seq ?_
   refine W.reg ?_
   refine WO.q (Q.move rfl) rfl ?_
   refine WO.call0 rfl (oLc rfl oz) rfl (sets_spec hs hro R v hR hRA hRb) (SubR.s hro) rfl (fun v15 D15 hP15 => ?_)
   refine WO.subH (hs' := (hs ++ D15)) (SubH.op (perm_tail (N := []) (G := D15) (K := []) (X := hs))) ?_
   refine WO.callE rfl (oLc rfl oz) rfl (rick_spec (ro (hs ++ D15)) ro_w R _ ((TIn.own hP15).mono fun b o h => h.app.ro) (hRA.mono fun b o h => h.ap1.ro) hRb) (SubR.ro gc) rfl (fun v16 hP16 => ?_)
   obtain ⟨ck, rfl⟩ := hP16
   refine WO.q (Q.assign rfl) rfl ?_
   refine WO.nil ?_
   refine End.K ?_
   refine W.seq ?_
   refine W.reg ?_
   refine WO.q (Q.move rfl) rfl ?_
   refine WO.q (Q.bin rfl (oc (v := .int .i64 ((0 : Nat) : Int)) rfl) rfl (bv_neq ne_int)) rfl ?_
   refine WO.nil ?_
   refine End.K ?_
   refine W.cD rfl (fun hc18 => ?_) (fun hc18 => ?_)
   ·skip -- fFT
    refine W.seq ?_
    refine W.reg ?_
    refine WO.q (Q.move rfl) rfl ?_
    refine WO.q (Q.assign rfl) rfl ?_
    refine WO.nil ?_
    refine End.K ?_
    refine W.sub (SubS.cons (k := 2) rfl (SubS.nil _)) ?_
    refine W.ret ?_
    refine End.Kr (End.retE (ResL.tmp rfl ResL.nil) ?_)
    exact ⟨_, rfl⟩
   ·skip -- fFF
    refine W.skip ?_
    refine End.K ?_
    refine W.sub (SubS.cons (k := 0) rfl (SubS.nil _)) ?_
    refine W.seq ?_
    refine W.seq ?_
    refine W.reg ?_
    refine WO.q (Q.assign (oc (v := .int .i64 ((0 : Nat) : Int)) rfl)) rfl ?_
    refine WO.nil ?_
    refine End.K ?_
    refine W.block ?_
    refine W.loop_ind (fun (i : Nat) => [(0, v), (4, .int .i64 ((i : Nat) : Int))]) (fun (i : Nat) => hs) (fun (i : Nat) => i ≤ R.length) (fun (i : Nat) => R.length - i) (0) (Nat.zero_le _) (SubS.cons rfl (SubS.cons rfl (SubS.nil _))) gc (fun i hI0 ih0 => ?_)
    have hi1 := hI0
    refine W.seq ?_
    refine W.seq ?_
    refine W.reg ?_
    refine WO.q (Q.move rfl) rfl ?_
    refine WO.q (Q.move rfl) rfl ?_
    refine WO.q (Q.len ud22 rfl (RSl.len hR)) rfl ?_
    refine WO.q (Q.bin rfl rfl rfl (bvl ltn)) rfl ?_
    refine WO.nil ?_
    refine End.K ?_
    refine W.cD rfl (fun hc23 => ?_) (fun hc23 => ?_)
    ·skip -- fFFL0T
     obtain ⟨br, szr, exr, rfl, wr, mr⟩ := RSl.full hR (by omega)
     have hm0 := rg_mem (R := R) (i := 0 + i) (by omega)
     have hx := hRA _ hm0
     have hxb := hRb.2 _ hm0
     refine W.skip ?_
     refine End.K ?_
     refine W.seq ?_
     refine W.block ?_
     refine W.seq ?_
     refine W.seq ?_
     refine W.reg ?_
     refine WO.q (Q.move rfl) rfl ?_
     refine WO.q (Q.move rfl) rfl ?_
     refine WO.q (Q.iS ud22 sz68 rfl rfl zo) rfl ?_
     refine WO.q (Q.fieldAddr fa68_1 rfl rfl) rfl ?_
     refine WO.q (Q.l1 rfl mr ag66 (cR_f1 zo)) rfl ?_
     refine WO.q (Q.len ud66 rfl (SIn.len hx.2)) rfl ?_
     refine WO.q (Q.bin rfl (oc (v := .int .i64 ((0 : Nat) : Int)) rfl) rfl (bv_eql eq_nat)) rfl ?_
     refine WO.nil ?_
     refine End.K ?_
     refine W.cD rfl (fun hc32 => ?_) (fun hc32 => ?_)
     ·skip -- fFFL0TT
      refine W.seq ?_
      refine W.reg ?_
      refine WO.q (Q.assign (oc (v := .int .i64 ((2 : Nat) : Int)) rfl)) rfl ?_
      refine WO.nil ?_
      refine End.K ?_
      refine W.ret ?_
      refine End.Kr (End.Br (End.Kr (End.Lr (End.Br (End.Kr (End.retE (ResL.tmp rfl ResL.nil) ?_))))))
      exact ⟨_, rfl⟩
     ·skip -- fFFL0TF
      refine W.skip ?_
      refine End.K ?_
      refine W.seq ?_
      refine W.reg ?_
      refine WO.q (Q.move rfl) rfl ?_
      refine WO.q (Q.move rfl) rfl ?_
      refine WO.q (Q.iS ud22 sz68 rfl rfl zo) rfl ?_
      refine WO.q (Q.fieldAddr fa68_1 rfl rfl) rfl ?_
      refine WO.q (Q.l1 rfl mr ag66 (cR_f1 zo)) rfl ?_
      refine WO.callE rfl (oLc rfl oz) rfl (rises_spec hs hro _ _ hx.2 hxb.2) (SubR.s hro) rfl (fun v38 hP38 => ?_)
      obtain ⟨rn, rfl⟩ := hP38
      refine WO.q (Q.assign rfl) rfl ?_
      refine WO.nil ?_
      refine End.K ?_
      refine W.sub (SubS.cons (k := 5) rfl (SubS.cons (k := 0) rfl (SubS.cons (k := 4) rfl (SubS.nil _)))) ?_
      refine W.seq ?_
      refine W.reg ?_
      refine WO.q (Q.move rfl) rfl ?_
      refine WO.q (Q.bin rfl (oc (v := .int .i64 ((0 : Nat) : Int)) rfl) rfl (bv_neq ne_int)) rfl ?_
      refine WO.nil ?_
      refine End.K ?_
      refine W.cD rfl (fun hc40 => ?_) (fun hc40 => ?_)
      ·skip -- fFFL0TFT
       refine W.seq ?_
       refine W.reg ?_
       refine WO.q (Q.move rfl) rfl ?_
       refine WO.q (Q.assign rfl) rfl ?_
       refine WO.nil ?_
       refine End.K ?_
       refine W.ret ?_
       refine End.Br (End.Kr (End.Lr (End.Br (End.Kr (End.retE (ResL.tmp rfl ResL.nil) ?_)))))
       exact ⟨_, rfl⟩
      ·skip -- fFFL0TFF
       refine W.skip ?_
       refine End.KB (End.K ?_)
       refine W.reg ?_
       refine WO.q (Q.move rfl) rfl ?_
       refine WO.q (Q.bin rfl (oc (v := .int .i64 ((1 : Nat) : Int)) rfl) rfl (bv_add (wna zo))) rfl ?_
       refine WO.q (Q.assign rfl) rfl ?_
       refine WO.nil ?_
       refine End.KL ?_
       refine W.sub (SubS.cons rfl (SubS.cons rfl (SubS.nil _))) (W.sH (SubH.refl _) (ih0 (i + 1) ?_ ?_))
       ·exact (by omega)
       ·exact zo
    ·skip -- fFFL0F
     refine W.exit ?_
     refine End.Kx (End.Lx (End.Bh (End.K ?_)))
     refine W.seq ?_
     refine W.reg ?_
     refine WO.q (Q.assign (oc (v := .int .i64 ((0 : Nat) : Int)) rfl)) rfl ?_
     refine WO.nil ?_
     refine End.K ?_
     refine W.ret ?_
     refine End.retE (ResL.tmp rfl ResL.nil) ?_
     exact ⟨_, rfl⟩

theorem same_eq (hs : HSt) (hro : ∀ e ∈ hs, e.w = false) (A B : List El) (va vb : AV) (hA : EIn hs A va) (hB : EIn hs B vb) (hAA : EAll hs A) (hBA : EAll hs B) (hAb : EBd A) (hBb : EBd B) (hAB : A.map (·.2) = B.map (·.2)) : Spec tab 21 [va, vb] [] hs (Val (.bool true)) := by
 have hl : A.length = B.length := (by have := congrArg List.length hAB; simpa using this)
 have hAl := hAb.1
 refine Spec.en (ftg 21 Tryz.func21) rfl (m := 42) rfl (rs := [.tmp 4]) rfl (st := [(0, va), (1, vb)]) rfl rfl (fun _ => rfl) (fun E => ?_)
 refine W.seq ?_
 refine W.reg ?_
 refine WO.q (Q.assign rfl) rfl ?_
 refine WO.nil ?_
 refine End.K ?_
 refine W.seq ?_
 refine W.seq ?_
 refine W.reg ?_
 refine WO.q (Q.move rfl) rfl ?_
 refine WO.q (Q.len ud57 rfl (EIn.len hA)) rfl ?_
 refine WO.q (Q.move rfl) rfl ?_
 refine WO.q (Q.len ud57 rfl (EIn.len hB)) rfl ?_
 refine WO.q (Q.bin rfl rfl rfl (bv_neq ne_nat)) rfl ?_
 refine WO.nil ?_
 refine End.K ?_
 refine W.cD rfl (fun hc10 => ?_) (fun hc10 => ?_)
 ·exfalso; omega
 ·skip -- F
  refine W.skip ?_
  refine End.K ?_
  refine W.seq ?_
  refine W.seq ?_
  refine W.reg ?_
  refine WO.q (Q.assign (oc (v := .int .i64 ((0 : Nat) : Int)) rfl)) rfl ?_
  refine WO.nil ?_
  refine End.K ?_
  refine W.block ?_
  refine W.loop_ind (fun (i : Nat) => [(0, va), (1, vb), (5, .int .i64 ((i : Nat) : Int))]) (fun _ => _) (fun (i : Nat) => i ≤ A.length) (fun (i : Nat) => A.length - i) (0) (Nat.zero_le _) (SubS.cons rfl (SubS.cons rfl (SubS.cons rfl (SubS.nil _)))) (SubH.refl _) (fun i hI0 ih0 => ?_)
  have hi1 := hI0
  refine W.seq ?_
  refine W.seq ?_
  refine W.reg ?_
  refine WO.q (Q.move rfl) rfl ?_
  refine WO.q (Q.move rfl) rfl ?_
  refine WO.q (Q.len ud57 rfl (EIn.len hA)) rfl ?_
  refine WO.q (Q.bin rfl rfl rfl (bvl ltn)) rfl ?_
  refine WO.nil ?_
  refine End.K ?_
  refine W.cD rfl (fun hc14 => ?_) (fun hc14 => ?_)
  ·skip -- FL0T
   have he := eg_two (i := 0 + i) hAB (by omega)
   obtain ⟨bx, szx, exx, rfl, wx, mx⟩ := EIn.full hA (by omega)
   obtain ⟨by_, szy, exy, rfl, wy, my⟩ := EIn.full hB (by omega)
   refine W.skip ?_
   refine End.K ?_
   refine W.seq ?_
   refine W.block ?_
   refine W.seq ?_
   refine W.regT (by kernel_rfl) ?_
   refine WO.q (Q.move rfl) rfl ?_
   refine WO.q (Q.move rfl) rfl ?_
   refine WO.q (Q.iS ud57 sz65 rfl rfl zo) rfl ?_
   refine WO.q (Q.fieldAddr fa65_0 rfl rfl) rfl ?_
   refine WO.q (Q.l1 rfl mx ag63 (cE_f0 zo)) rfl ?_
   refine WO.q (Q.move rfl) rfl ?_
   refine WO.q (Q.move rfl) rfl ?_
   refine WO.q (Q.iS ud57 sz65 rfl rfl zo) rfl ?_
   refine WO.q (Q.fieldAddr fa65_0 rfl rfl) rfl ?_
   refine WO.q (Q.l1 rfl my ag63 (cE_f0 zo)) rfl ?_
   refine WO.cV rfl (oLc rfl (oLc rfl oz)) rfl (rsame_spec hs hro _ _ _ _ (hAA _ (eg_mem (O := A) (i := 0 + i) (by omega))) (hBA _ (eg_mem (O := B) (i := 0 + i) (by omega))) (hAb.2 _ (eg_mem (O := A) (i := 0 + i) (by omega))) (hBb.2 _ (eg_mem (O := B) (i := 0 + i) (by omega)))) (SubR.s hro) rfl ?_
   refine WO.q (Q.not rfl not_dec) rfl ?_
   refine WO.q (Q.move rfl) rfl ?_
   refine WO.sD (d := 29) rfl (fun hc29 => ?_) (fun hc29 => ?_)
   ·exfalso; exact hc29 (by rw [he])
   ·skip -- FL0Tf
    refine WO.gT rfl rfl ?_
    refine WO.q (Q.move rfl) rfl ?_
    refine WO.gT rfl rfl ?_
    refine WO.q (Q.move rfl) rfl ?_
    refine WO.gT rfl rfl ?_
    refine WO.q (Q.iS ud57 sz65 rfl rfl zo) rfl ?_
    refine WO.gT rfl rfl ?_
    refine WO.q (Q.fieldAddr fa65_1 rfl rfl) rfl ?_
    refine WO.gT rfl rfl ?_
    refine WO.q (Q.l1 rfl mx ag3 (cE_f1 zo)) rfl ?_
    refine WO.gT rfl rfl ?_
    refine WO.q (Q.move rfl) rfl ?_
    refine WO.gT rfl rfl ?_
    refine WO.q (Q.move rfl) rfl ?_
    refine WO.gT rfl rfl ?_
    refine WO.q (Q.iS ud57 sz65 rfl rfl zo) rfl ?_
    refine WO.gT rfl rfl ?_
    refine WO.q (Q.fieldAddr fa65_1 rfl rfl) rfl ?_
    refine WO.gT rfl rfl ?_
    refine WO.q (Q.l1 rfl my ag3 (cE_f1 zo)) rfl ?_
    refine WO.gT rfl rfl ?_
    refine WO.q (Q.bin rfl rfl rfl (bv_neq ne_int)) rfl ?_
    refine WO.q (Q.pF rfl rfl) rfl ?_
    refine WO.nil ?_
    refine End.K ?_
    refine W.sub (SubS.cons (k := 41) rfl (SubS.cons (k := 0) rfl (SubS.cons (k := 1) rfl (SubS.cons (k := 5) rfl (SubS.nil _))))) ?_
    refine W.cD rfl (fun hc41 => ?_) (fun hc41 => ?_)
    ·exfalso; exact hc41 (by rw [he])
    ·skip -- FL0TfF
     refine W.skip ?_
     refine End.KB (End.K ?_)
     refine W.reg ?_
     refine WO.q (Q.move rfl) rfl ?_
     refine WO.q (Q.bin rfl (oc (v := .int .i64 ((1 : Nat) : Int)) rfl) rfl (bv_add (wna zo))) rfl ?_
     refine WO.q (Q.assign rfl) rfl ?_
     refine WO.nil ?_
     refine End.KL ?_
     refine W.sub (SubS.cons rfl (SubS.cons rfl (SubS.cons rfl (SubS.nil _)))) (ih0 (i + 1) ?_ ?_)
     ·exact (by omega)
     ·exact zo
  ·skip -- FL0F
   refine W.exit ?_
   refine End.Kx (End.Lx (End.Bh (End.K ?_)))
   refine W.seq ?_
   refine W.reg ?_
   refine WO.q (Q.assign rfl) rfl ?_
   refine WO.nil ?_
   refine End.K ?_
   refine W.ret ?_
   refine End.rV (ResL.tmp rfl ResL.nil) ?_
   rfl
theorem whole_u (hs : HSt) (hro : ∀ e ∈ hs, e.w = false) (R : List Ser) (v : AV) (hR : RSl hs R 0 v) (hRA : RAll hs R) (hRb : RBd R) (M : List MtT) (vm : AV) (hM : ISm hs M vm) (hok : MOk M) (o : Nat) (pb : Nat) (xpb : Bool) (bx : Nat) (exx : Bool) (t : Nat) (hot : o ≤ t) (ho : o ≤ 2147483648) (ht : t ≤ 1099511627776) (hR2 : R.length ≤ 256) : SpecX xcfg tab 33 [.slice pb 0 1 12, .func 34 [.ptr bx 0], .agg [.int .i64 ((t : Nat) : Int), .int .i64 ((t : Nat) : Int), .int .i64 ((1 : Nat) : Int), .int .i64 ((1099511627776 : Nat) : Int)], .bool false] [] (⟨pb, ⟨12, xpb, [.int .i64 ((2 : Nat) : Int), .str [], .int .i64 0, vm, .int .i64 0, .int .i64 ((o : Nat) : Int), .int .i64 0, .nils, .int .i64 0, .bool false, .nils, .nils]⟩, false⟩ :: ⟨bx, ⟨1, exx, [v]⟩, false⟩ :: hs) (fun u D => ∃ (k c e : Int) (rv : AV) (n : Nat) (cells : List AV) (H G : HSt), u = .tuple [.agg [.int .i64 k, rv], .int .i64 c, .int .i64 e] ∧ D = G ++ H ∧ OwnE 3 cells n rv H ∧ RunR t (caV M) (momC (selS M (loE ((t - o : Nat) : Int)) ((t - o : Nat) : Int) (conR R)) ((t - o : Nat) : Int)) cells n e G ∧ (∀ x ∈ G, x.w = true)) (fun _ => False) := by
 refine (whole_spec hs hro R v hR hRA hRb M vm hM hok o pb xpb bx exx t hot ho ht hR2).mono ?_ fun l h => h
 rintro u D (⟨h1, h2, h3⟩ | ⟨h1, rv, ev, O2, c, H, G, h2, h3, h4, h5, h6, h7, h8⟩)
 ·exact ⟨0, 0, caV M, .nils, 0, [], [], [], h2, h3, OwnE.nil 3, .inl ⟨h1, rfl, rfl⟩, no_wl⟩
 ·exact ⟨((2 : Nat) : Int), c, 0, rv, 1, _, H, G, h2, h3, h4, .inr ⟨rfl, h1, rfl, ev, O2, rfl, h5, h6, h7⟩, h8⟩

theorem run_spec (hs : HSt) (hro : ∀ e ∈ hs, e.w = false) (R : List Ser) (v : AV) (hR : RSl hs R 0 v) (hRA : RAll hs R) (hRb : RBd R) (M : List MtT) (vm : AV) (hM : ISm hs M vm) (hok : MOk M) (o : Nat) (pb : Nat) (xpb : Bool) (bx : Nat) (exx : Bool) (t : Nat) (hot : o ≤ t) (ho : o ≤ 2147483648) (ht : t ≤ 1099511627776) (hR2 : R.length ≤ 256) : SpecX xcfg tab 16 [.slice pb 0 1 12, .func 34 [.ptr bx 0], .agg [.int .i64 ((t : Nat) : Int), .int .i64 ((t : Nat) : Int), .int .i64 ((1 : Nat) : Int), .int .i64 ((1099511627776 : Nat) : Int)]] [] (⟨pb, ⟨12, xpb, [.int .i64 ((2 : Nat) : Int), .str [], .int .i64 0, vm, .int .i64 0, .int .i64 ((o : Nat) : Int), .int .i64 0, .nils, .int .i64 0, .bool false, .nils, .nils]⟩, false⟩ :: ⟨bx, ⟨1, exx, [v]⟩, false⟩ :: hs) (fun u D => ∃ (k e : Int) (rv : AV) (n : Nat) (cells : List AV) (H G : HSt), u = .tuple [.agg [.int .i64 k, rv], .int .i64 e] ∧ D = G ++ H ∧ OwnE 3 cells n rv H ∧ RunR t (caV M) (momC (selS M (loE ((t - o : Nat) : Int)) ((t - o : Nat) : Int) (conR R)) ((t - o : Nat) : Int)) cells n e G ∧ (∀ x ∈ G, x.w = true)) (fun _ => False) := by
 refine SpecX.enter (ftg 16 Tryz.func16) rfl (m := 21) rfl (rs := [.cell 6 37, .tmp 7]) rfl (st := [(0, .slice pb 0 1 12), (1, .func 34 [.ptr bx 0]), (2, .agg [.int .i64 ((t : Nat) : Int), .int .i64 ((t : Nat) : Int), .int .i64 ((1 : Nat) : Int), .int .i64 ((1099511627776 : Nat) : Int)])]) rfl rfl (fun _ => rfl) rfl (fun E => ?_)
 refine Ev.X.seq ?_
 refine Ev.X.w (W.reg ?_)
 refine WO.box rfl rfl (bx24 _ rfl) rfl (fun b1 => ?_)
 refine WO.alloc ao37 rfl (fun b2 => ?_)
 refine WO.q (Q.assign (oc (v := .int .i64 ((0 : Nat) : Int)) rfl)) rfl ?_
 refine WO.nil ?_
 refine XEnd.K ?_
 refine Ev.X.seq ?_
 refine Ev.X.reg ?_
 refine XO.pre 3 ?_
 refine WO.q (Q.move rfl) rfl ?_
 refine WO.q (Q.move rfl) rfl ?_
 refine WO.q (Q.loadN rfl (mem_at (i := 1) rfl) ag24 sz24 (l := [_, _, _, _]) rfl) rfl ?_
 refine WO.nil ?_
 refine XEnd.O ?_
 refine XO.call (M := []) (A := _) rfl (oLc rfl (oLc rfl (oLc rfl (oLc rfl oz)))) rfl no_wl (SubH.refl _) (whole_u hs hro R v hR hRA hRb M vm hM hok o pb xpb bx exx t hot ho ht hR2) (SubR.ix (K := [_, _, _, _]) (ix := [2, 3]) (A := [_, _]) rfl (by decide) (SubR.s hro)) rfl (fun l hB => False.elim hB) (fun v15 D15 hP15 => ?_)
 obtain ⟨k, c, e, rv, n, cells, H, G, rfl, rfl, hO, hRn, hG⟩ := hP15
 refine XO.subH (hs' := _ :: _ :: _ :: _ :: (hs ++ (G ++ H))) (SubH.op (perm_tail (N := []) (G := (G ++ H)) (K := [_, _, _, _]) (X := hs))) ?_
 refine XO.pre 8 ?_
 refine WO.q (Q.move rfl) rfl ?_
 refine WO.q (Q.extract rfl rfl) rfl ?_
 refine WO.q (Q.extract rfl rfl) rfl ?_
 refine WO.q (Q.extract rfl rfl) rfl ?_
 refine WO.alloc ao37 rfl (fun b3 => ?_)
 refine WO.store sz37 rfl rfl (i := 0) rfl (andb rfl (andb rfl (andb (OwnE.cell hO) rfl))) (cs := [_, _]) rfl (hs' := _ :: _ :: _ :: _ :: _ :: _) rfl ?_
 refine WO.q (Q.assign rfl) rfl ?_
 refine WO.q (Q.assign rfl) rfl ?_
 refine WO.nil ?_
 refine XEnd.O ?_
 refine XO.nil ?_
 refine XEnd.K ?_
 refine Ev.X.sub (SubS.cons (k := 10) rfl (SubS.cons (k := 8) rfl (SubS.cons (k := 6) rfl (SubS.nil _)))) ?_
 refine Ev.X.seq ?_
 refine Ev.X.w (W.reg ?_)
 refine WO.q (Q.loadN rfl (mem_at (i := 0) rfl) ag37 sz37 (l := [_, _]) rfl) rfl ?_
 refine WO.q (Q.move rfl) rfl ?_
 refine WO.store sz37 rfl rfl (i := 1) rfl (andb rfl (andb rfl (andb (OwnE.cell hO) rfl))) (cs := [_, _]) rfl (hs' := _ :: _ :: _ :: _ :: _ :: _) rfl ?_
 refine WO.q (Q.assign rfl) rfl ?_
 refine WO.nil ?_
 refine XEnd.K ?_
 refine Ev.X.ret ?_
 refine XEnd.ret (ResL.agg (c := [_, _]) rfl (mem_at (i := 1) rfl) ag37 sz37 rfl (ResL.tmp rfl ResL.nil)) (hs' := G ++ H) ⟨k, e, rv, n, cells, H, G, rfl, rfl, hO, hRn, hG⟩ (wa hG hO.w) gc

end Go.Proofs.YtfkbfnpjggkdmaaGreatDoor.Ev
