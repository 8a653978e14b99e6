/- Chapters 6 and 19, walks: which labels are ahead, names. -/
import Derived.Test.YtfkbfnpjggkdmaaGreatDoorOFactsE
import Derived.Test.YtfkbfnpjggkdmaaGreatDoorOOwE
namespace Go.Proofs.YtfkbfnpjggkdmaaGreatDoor.Ev
open Go.RowKit
set_option maxRecDepth 100000
set_option maxHeartbeats 1000000
theorem lg_drop {A : List Lab} {i : Nat} (h : i < A.length) : A.drop i = lg A i :: A.drop (i + 1) := by
 rw [List.drop_eq_getElem_cons h]
 unfold lg
 rw [List.getD_eq_getElem?_getD, List.getElem?_eq_getElem h]; rfl
theorem cmpL_step {A B : List Lab} {i : Nat} (ha : i < A.length) (hb : i < B.length) : cmpL (A.drop i) (B.drop i) = if cmp1 (lg A i) (lg B i) ≠ 0 then cmp1 (lg A i) (lg B i) else cmpL (A.drop (i + 1)) (B.drop (i + 1)) := by
 rw [lg_drop ha, lg_drop hb]; rfl
theorem cmpL_long {A B : List Lab} {i : Nat} (ha : i < A.length) (hb : B.length ≤ i) : cmpL (A.drop i) (B.drop i) = 1 := by
 rw [lg_drop ha, List.drop_eq_nil_of_le hb]; rfl
theorem cmpL_end {A B : List Lab} {i : Nat} (ha : A.length ≤ i ∧ i ≤ A.length ∧ i ≤ B.length) : cmpL (A.drop i) (B.drop i) = if A.length < B.length then -1 else 0 := by
 rw [List.drop_eq_nil_of_le ha.1]
 split
 ·rw [lg_drop (by omega)]; rfl
 ·rw [List.drop_eq_nil_of_le (by omega)]; rfl
theorem cmpL_fin {A B : List Lab} {i : Nat} (h : (A.length ≤ i ∨ B.length ≤ i) ∧ i ≤ A.length ∧ i ≤ B.length) : cmpL (A.drop i) (B.drop i) = if A.length < B.length then -1 else if A.length > B.length then 1 else 0 := by
 by_cases ha : A.length ≤ i
 ·rw [cmpL_end ⟨ha, h.2⟩]
  split
  ·rfl
  ·rw [if_neg (by omega)]
 ·rw [cmpL_long (by omega) (by omega), if_neg (by omega), if_pos (by omega)]
def nchr (i c : Nat) : Prop := (97 ≤ c ∧ c ≤ 122) ∨ (65 ≤ c ∧ c ≤ 90) ∨ c = 95 ∨ (0 < i ∧ 48 ≤ c ∧ c ≤ 57)
instance (i c : Nat) : Decidable (nchr i c) := by unfold nchr; exact inferInstance
def nameB (s : List Nat) : Bool := decide (s ≠ [] ∧ s.length ≤ 32 ∧ ∀ i, i < s.length → nchr i (s.getD i 0))
theorem nam_no {s : List Nat} {i : Nat} (hi : i < s.length) (h : ¬ nchr i (s.getD i 0)) : oneOf [AV.bool false] = .bool (nameB s) := by
 have : ¬ (s ≠ [] ∧ s.length ≤ 32 ∧ ∀ i, i < s.length → nchr i (s.getD i 0)) := fun g => h (g.2.2 i hi)
 unfold nameB
 rw [decide_eq_false this]; rfl
theorem nam_yes {s : List Nat} {i : Nat} (hi : s.length ≤ i) (h : ∀ j, j < i → nchr j (s.getD j 0)) (hne : s ≠ []) : oneOf [AV.bool (decide (s.length ≤ 32))] = .bool (nameB s) := by
 show AV.bool _ = _
 rw [AV.bool.injEq]
 unfold nameB
 rw [decide_eq_decide]
 exact ⟨fun g => ⟨hne, g, fun j hj => h j (by omega)⟩, fun g => g.2.1⟩
theorem nam_nil {s : List Nat} (hne : s = []) : oneOf [AV.bool false] = .bool (nameB s) := by
 subst hne; rfl
theorem isnan_spec (x : List Nat) (hx : Bytes x) : Spec tab 255 [.str x] [] [] (Val (.bool false)) := by
 refine Spec.en (ftg 255 Tryz.func255) rfl (m := 6) rfl (rs := [.tmp 2]) rfl (st := [(0, .str x)]) rfl rfl (fun _ => rfl) (fun E => ?_)
 refine W.seq ?_
 refine W.reg ?_
 refine WO.q (Q.assign rfl) rfl ?_
 refine WO.nil ?_
 refine End.K ?_
 refine W.seq ?_
 refine W.reg ?_
 refine WO.q (Q.move rfl) rfl ?_
 refine WO.q (Q.move rfl) rfl ?_
 refine WO.q (Q.bin rfl rfl rfl bv_sneq) rfl ?_
 refine WO.q (Q.assign rfl) rfl ?_
 refine WO.nil ?_
 refine End.K ?_
 refine W.ret ?_
 refine End.rV (ResL.tmp rfl ResL.nil) ?_
 simp [one1]

theorem cmpc_spec (x y : List Nat) (hx : Bytes x) (hy : Bytes y) : Spec tab 225 [.str x, .str y] [] [] (Val (.int .i64 (cmpT x y))) := by
 refine Spec.en (ftg 225 Tryz.func225) rfl (m := 20) rfl (rs := [.tmp 4]) rfl (st := [(0, .str x), (1, .str y)]) rfl rfl (fun _ => rfl) (fun E => ?_)
 refine W.seq ?_
 refine W.reg ?_
 refine WO.q (Q.assign (oc (v := .int .i64 ((0 : Nat) : Int)) rfl)) rfl ?_
 refine WO.nil ?_
 refine End.K ?_
 refine W.seq ?_
 refine W.reg ?_
 refine WO.q (Q.move rfl) rfl ?_
 refine WO.cV rfl (oLc rfl oz) rfl (isnan_spec _ hx) SubR.nil rfl ?_
 refine WO.q (Q.assign rfl) rfl ?_
 refine WO.nil ?_
 refine End.K ?_
 refine W.seq ?_
 refine W.reg ?_
 refine WO.q (Q.move rfl) rfl ?_
 refine WO.cV rfl (oLc rfl oz) rfl (isnan_spec _ hy) SubR.nil rfl ?_
 refine WO.q (Q.assign rfl) rfl ?_
 refine WO.nil ?_
 refine End.K ?_
 refine W.seq ?_
 refine W.seq ?_
 refine W.reg ?_
 refine WO.q (Q.move rfl) rfl ?_
 refine WO.nil ?_
 refine End.K ?_
 refine W.condF rfl ?_
 refine W.skip ?_
 refine End.K ?_
 refine W.seq ?_
 refine W.seq ?_
 refine W.reg ?_
 refine WO.q (Q.move rfl) rfl ?_
 refine WO.nil ?_
 refine End.K ?_
 refine W.condF rfl ?_
 refine W.skip ?_
 refine End.K ?_
 refine W.seq ?_
 refine W.seq ?_
 refine W.reg ?_
 refine WO.q (Q.move rfl) rfl ?_
 refine WO.q (Q.move rfl) rfl ?_
 refine WO.q (Q.bin rfl rfl rfl bv_slss) rfl ?_
 refine WO.nil ?_
 refine End.K ?_
 refine W.condS rfl (fun hc16 => ?_) (fun hc16 => ?_)
 ·skip -- T
  refine W.seq ?_
  refine W.reg ?_
  refine WO.q (Q.assign rfl) rfl ?_
  refine WO.nil ?_
  refine End.K ?_
  refine W.ret ?_
  refine End.Kr (End.rV (ResL.tmp rfl ResL.nil) ?_)
  simp [one1, cmpT, *]
 ·skip -- F
  refine W.skip ?_
  refine End.K ?_
  refine W.seq ?_
  refine W.seq ?_
  refine W.reg ?_
  refine WO.q (Q.move rfl) rfl ?_
  refine WO.q (Q.move rfl) rfl ?_
  refine WO.q (Q.bin rfl rfl rfl bv_sgtr) rfl ?_
  refine WO.nil ?_
  refine End.K ?_
  refine W.sub (SubS.cons (k := 19) rfl (SubS.nil _)) ?_
  refine W.condS rfl (fun hc19 => ?_) (fun hc19 => ?_)
  ·skip -- FT
   refine W.seq ?_
   refine W.reg ?_
   refine WO.q (Q.assign (oc (v := .int .i64 ((1 : Nat) : Int)) rfl)) rfl ?_
   refine WO.nil ?_
   refine End.K ?_
   refine W.ret ?_
   refine End.Kr (End.rV (ResL.tmp rfl ResL.nil) ?_)
   simp [one1, cmpT, *]
  ·skip -- FF
   refine W.skip ?_
   refine End.K ?_
   refine W.seq ?_
   refine W.reg ?_
   refine WO.q (Q.assign (oc (v := .int .i64 ((0 : Nat) : Int)) rfl)) rfl ?_
   refine WO.nil ?_
   refine End.K ?_
   refine W.ret ?_
   refine End.rV (ResL.tmp rfl ResL.nil) ?_
   simp [one1, cmpT, *]

theorem text_spec (x y : List Nat) (hx : Bytes x) (hy : Bytes y) : Spec tab 73 [.str x, .str y] [] [] (Val (.int .i64 (cmpT x y))) := by
 refine Spec.en (ftg 73 Tryz.func73) rfl (m := 11) rfl (rs := [.tmp 4]) rfl (st := [(0, .str x), (1, .str y)]) rfl rfl (fun _ => rfl) (fun E => ?_)
 refine W.seq ?_
 refine W.reg ?_
 refine WO.q (Q.assign (oc (v := .int .i64 ((0 : Nat) : Int)) rfl)) rfl ?_
 refine WO.nil ?_
 refine End.K ?_
 refine W.seq ?_
 refine W.seq ?_
 refine W.reg ?_
 refine WO.q (Q.move rfl) rfl ?_
 refine WO.q (Q.move rfl) rfl ?_
 refine WO.q (Q.bin rfl rfl rfl bv_slss) rfl ?_
 refine WO.nil ?_
 refine End.K ?_
 refine W.condS rfl (fun hc7 => ?_) (fun hc7 => ?_)
 ·skip -- T
  refine W.seq ?_
  refine W.reg ?_
  refine WO.q (Q.assign rfl) rfl ?_
  refine WO.nil ?_
  refine End.K ?_
  refine W.ret ?_
  refine End.Kr (End.rV (ResL.tmp rfl ResL.nil) ?_)
  simp [one1, cmpT, *]
 ·skip -- F
  refine W.skip ?_
  refine End.K ?_
  refine W.seq ?_
  refine W.seq ?_
  refine W.reg ?_
  refine WO.q (Q.move rfl) rfl ?_
  refine WO.q (Q.move rfl) rfl ?_
  refine WO.q (Q.bin rfl rfl rfl bv_sgtr) rfl ?_
  refine WO.nil ?_
  refine End.K ?_
  refine W.condS rfl (fun hc10 => ?_) (fun hc10 => ?_)
  ·skip -- FT
   refine W.seq ?_
   refine W.reg ?_
   refine WO.q (Q.assign (oc (v := .int .i64 ((1 : Nat) : Int)) rfl)) rfl ?_
   refine WO.nil ?_
   refine End.K ?_
   refine W.ret ?_
   refine End.Kr (End.rV (ResL.tmp rfl ResL.nil) ?_)
   simp [one1, cmpT, *]
  ·skip -- FF
   refine W.skip ?_
   refine End.K ?_
   refine W.seq ?_
   refine W.reg ?_
   refine WO.q (Q.assign (oc (v := .int .i64 ((0 : Nat) : Int)) rfl)) rfl ?_
   refine WO.nil ?_
   refine End.K ?_
   refine W.ret ?_
   refine End.rV (ResL.tmp rfl ResL.nil) ?_
   simp [one1, cmpT, *]

theorem or_spec (b : Nat) (ex : Bool) (u v : Int) : Spec tab 224 [.slice b 0 2 1] [] [⟨b, ⟨1, ex, [.int .i64 u, .int .i64 v]⟩, false⟩] (Val (.int .i64 (if u ≠ 0 then u else v))) := by
 refine Spec.en (ftg 224 Tryz.func224) rfl (m := 18) rfl (rs := [.tmp 2]) rfl (st := [(0, .slice b 0 2 1)]) rfl rfl (fun _ => rfl) (fun E => ?_)
 refine W.seq ?_
 refine W.reg ?_
 refine WO.q (Q.assign (oc (v := .int .i64 ((0 : Nat) : Int)) rfl)) rfl ?_
 refine WO.nil ?_
 refine End.K ?_
 refine W.seq ?_
 refine W.reg ?_
 refine WO.q (Q.assign (oc (v := .int .i64 ((0 : Nat) : Int)) rfl)) rfl ?_
 refine WO.nil ?_
 refine End.K ?_
 refine W.seq ?_
 refine W.seq ?_
 refine W.reg ?_
 refine WO.q (Q.move rfl) rfl ?_
 refine WO.q (Q.len ud25 rfl rfl) rfl ?_
 refine WO.q (Q.move (oc (v := .int .i64 ((0 : Nat) : Int)) rfl)) rfl ?_
 refine WO.nil ?_
 refine End.K ?_
 refine W.block ?_
 refine W.loop ?_
 refine W.seq ?_
 refine W.reg ?_
 refine WO.q (Q.bin rfl rfl rfl (bvl (p := true) rfl)) rfl ?_
 refine WO.nil ?_
 refine End.K ?_
 refine W.seq ?_
 refine W.condT rfl ?_
 refine W.skip ?_
 refine End.K ?_
 refine W.seq ?_
 refine W.block ?_
 refine W.seq ?_
 refine W.reg ?_
 refine WO.q (Q.iaddrL ud25 sz3 rfl rfl zo (o' := 0) rfl) rfl ?_
 refine WO.q (Q.l1 rfl (mem_at (i := 0) rfl) ag3 rfl) rfl ?_
 refine WO.q (Q.assign rfl) rfl ?_
 refine WO.nil ?_
 refine End.K ?_
 refine W.seq ?_
 refine W.reg ?_
 refine WO.q (Q.move rfl) rfl ?_
 refine WO.q (Q.move rfl) rfl ?_
 refine WO.q (Q.bin rfl rfl rfl (bv_neq ne_int)) rfl ?_
 refine WO.nil ?_
 refine End.K ?_
 refine W.cD rfl (fun hc14 => ?_) (fun hc14 => ?_)
 ·skip -- T
  refine W.seq ?_
  refine W.reg ?_
  refine WO.q (Q.move rfl) rfl ?_
  refine WO.q (Q.assign rfl) rfl ?_
  refine WO.nil ?_
  refine End.K ?_
  refine W.ret ?_
  refine End.Br (End.Kr (End.Lr (End.Br (End.Kr (End.rV (ResL.tmp rfl ResL.nil) ?_)))))
  simp_all [one1]
 ·skip -- F
  refine W.skip ?_
  refine End.KB (End.K ?_)
  refine W.reg ?_
  refine WO.q (Q.bin rfl (oc (v := .int .i64 ((1 : Nat) : Int)) rfl) rfl (bv_add (c := (((1 : Nat)) : Int)) (by decide))) rfl ?_
  refine WO.q (Q.move rfl) rfl ?_
  refine WO.nil ?_
  refine End.KL ?_
  refine W.loop ?_
  refine W.seq ?_
  refine W.reg ?_
  refine WO.q (Q.bin rfl rfl rfl (bvl (p := true) rfl)) rfl ?_
  refine WO.nil ?_
  refine End.K ?_
  refine W.seq ?_
  refine W.condT rfl ?_
  refine W.skip ?_
  refine End.K ?_
  refine W.seq ?_
  refine W.block ?_
  refine W.seq ?_
  refine W.reg ?_
  refine WO.q (Q.iaddrL ud25 sz3 rfl rfl zo (o' := 1) rfl) rfl ?_
  refine WO.q (Q.l1 rfl (mem_at (i := 0) rfl) ag3 rfl) rfl ?_
  refine WO.q (Q.assign rfl) rfl ?_
  refine WO.nil ?_
  refine End.K ?_
  refine W.seq ?_
  refine W.reg ?_
  refine WO.q (Q.move rfl) rfl ?_
  refine WO.q (Q.move rfl) rfl ?_
  refine WO.q (Q.bin rfl rfl rfl (bv_neq ne_int)) rfl ?_
  refine WO.nil ?_
  refine End.K ?_
  refine W.cD rfl (fun hc14 => ?_) (fun hc14 => ?_)
  ·skip -- FT
   refine W.seq ?_
   refine W.reg ?_
   refine WO.q (Q.move rfl) rfl ?_
   refine WO.q (Q.assign rfl) rfl ?_
   refine WO.nil ?_
   refine End.K ?_
   refine W.sub (SubS.cons (k := 2) rfl (SubS.nil _)) ?_
   refine W.ret ?_
   refine End.Br (End.Kr (End.Lr (End.Br (End.Kr (End.rV (ResL.tmp rfl ResL.nil) ?_)))))
   simp_all [one1]
  ·skip -- FF
   refine W.skip ?_
   refine End.KB (End.K ?_)
   refine W.reg ?_
   refine WO.q (Q.bin rfl (oc (v := .int .i64 ((1 : Nat) : Int)) rfl) rfl (bv_add (c := (((2 : Nat)) : Int)) (by decide))) rfl ?_
   refine WO.q (Q.move rfl) rfl ?_
   refine WO.nil ?_
   refine End.KL ?_
   refine W.loop ?_
   refine W.seq ?_
   refine W.reg ?_
   refine WO.q (Q.bin rfl rfl rfl (bvl (p := false) rfl)) rfl ?_
   refine WO.nil ?_
   refine End.K ?_
   refine W.seq ?_
   refine W.condF rfl ?_
   refine W.exit ?_
   refine End.Kx (End.Lx (End.Bh (End.K ?_)))
   refine W.seq ?_
   refine W.reg ?_
   refine WO.q (Q.move rfl) rfl ?_
   refine WO.q (Q.assign rfl) rfl ?_
   refine WO.nil ?_
   refine End.K ?_
   refine W.sub (SubS.cons (k := 2) rfl (SubS.nil _)) ?_
   refine W.ret ?_
   refine End.rV (ResL.tmp rfl ResL.nil) ?_
   simp_all [one1]

theorem cmp1_spec (a b c d : List Nat) (ha : Bytes a) (hb : Bytes b) (hc : Bytes c) (hd : Bytes d) : Spec tab 223 [.agg [.str a, .str b], .agg [.str c, .str d]] [] [] (Val (.int .i64 (cmp1 (a, b) (c, d)))) := by
 refine Spec.en (ftg 223 Tryz.func223) rfl (m := 17) rfl (rs := [.tmp 4]) rfl (st := [(0, .agg [.str a, .str b]), (1, .agg [.str c, .str d])]) rfl rfl (fun _ => rfl) (fun E => ?_)
 refine W.seq ?_
 refine W.reg ?_
 refine WO.box rfl rfl (bx70 _ rfl) rfl (fun b1 => ?_)
 refine WO.box rfl rfl (bx70 _ rfl) rfl (fun b2 => ?_)
 refine WO.q (Q.assign (oc (v := .int .i64 ((0 : Nat) : Int)) rfl)) rfl ?_
 refine WO.nil ?_
 refine End.K ?_
 refine W.seq ?_
 refine W.regD 9 _ (by kernel_rfl) (KIn.refl _) ?_
 refine WD.q (Q.fieldAddr fa70_0 rfl (o' := 0) rfl) bqp rfl ?_
 refine WD.q (Q.l1 rfl (mem_at (i := 1) rfl) ag9 rfl) bq_str rfl ?_
 refine WD.q (Q.fieldAddr fa70_0 rfl (o' := 0) rfl) bqp rfl ?_
 refine WD.q (Q.l1 rfl (mem_at (i := 0) rfl) ag9 rfl) bq_str rfl ?_
 refine WD.callV rfl (oLc rfl (oLc rfl oz)) rfl (cmpc_spec _ _ ha hc) SubR.nil (KIn.refl _) rfl ?_
 refine WD.q (Q.fieldAddr fa70_1 rfl (o' := 1) rfl) bqp rfl ?_
 refine WD.q (Q.l1 rfl (mem_at (i := 1) rfl) ag9 rfl) bq_str rfl ?_
 refine WD.q (Q.fieldAddr fa70_1 rfl (o' := 1) rfl) bqp rfl ?_
 refine WD.q (Q.l1 rfl (mem_at (i := 0) rfl) ag9 rfl) bq_str rfl ?_
 refine WD.callV rfl (oLc rfl (oLc rfl oz)) rfl (cmpc_spec _ _ hb hd) SubR.nil (KIn.refl _) rfl ?_
 refine WD.bslice ud25 sz3 zr3 rfl (opc rfl (opc rfl opn)) rfl (cs := [_, _]) rfl rfl rfl (KIn.refl _) (fun b3 => ?_)
 refine WD.callV rfl (oLc rfl oz) rfl (or_spec _ _ _ _) (SubR.one (mem_at (i := 0) rfl)) (KIn.tl (KIn.refl _)) rfl ?_
 refine WD.q (Q.assign rfl) bq_int rfl ?_
 refine WD.nil ?_
 refine End.K ?_
 refine W.sub (SubS.cons (k := 4) rfl (SubS.nil _)) ?_
 refine W.ret ?_
 refine End.rV (ResL.tmp rfl ResL.nil) ?_
 rfl

theorem cmpf_spec (hs : HSt) (hro : ∀ e ∈ hs, e.w = false) (A B : List Lab) (va vb : AV) (ha : LIn hs A va) (hb : LIn hs B vb) (hA : LBd A) (hB : LBd B) : Spec tab 222 [va, vb, .func 223 []] [] hs (Val (.int .i64 (cmpL A B))) := by
 have hAl := hA.1
 have hBl := hB.1
 refine Spec.en (ftg 222 Tryz.func222) rfl (m := 39) rfl (rs := [.tmp 6]) rfl (st := [(0, va), (1, vb), (2, .func 223 [])]) rfl rfl (fun _ => rfl) (fun E => ?_)
 refine W.seq ?_
 refine W.reg ?_
 refine WO.q (Q.assign (oc (v := .int .i64 ((0 : Nat) : Int)) rfl)) rfl ?_
 refine WO.nil ?_
 refine End.K ?_
 refine W.seq ?_
 refine W.seq ?_
 refine W.reg ?_
 refine WO.q (Q.move rfl) rfl ?_
 refine WO.q (Q.len ud63 rfl (LIn.len ha)) rfl ?_
 refine WO.q (Q.move (oc (v := .int .i64 ((0 : Nat) : Int)) rfl)) rfl ?_
 refine WO.nil ?_
 refine End.K ?_
 refine W.block ?_
 refine W.loop_ind (fun (i : Nat) => [(0, va), (1, vb), (2, .func 223 []), (11, va), (12, .int .i64 ((A.length : Nat) : Int)), (13, .int .i64 ((i : Nat) : Int))]) (fun _ => _) (fun (i : Nat) => i ≤ A.length ∧ i ≤ B.length ∧ cmpL A B = cmpL (A.drop i) (B.drop i)) (fun (i : Nat) => A.length - i) (0) ⟨Nat.zero_le _, Nat.zero_le _, rfl⟩ (SubS.cons rfl (SubS.cons rfl (SubS.cons rfl (SubS.cons rfl (SubS.cons rfl (SubS.cons rfl (SubS.nil _))))))) (SubH.refl _) (fun i hI0 ih0 => ?_)
 obtain ⟨h1, h2, h3⟩ := hI0
 refine W.seq ?_
 refine W.reg ?_
 refine WO.q (Q.bin rfl rfl rfl (bvl ltn)) rfl ?_
 refine WO.nil ?_
 refine End.K ?_
 refine W.seq ?_
 refine W.cD rfl (fun hc14 => ?_) (fun hc14 => ?_)
 ·skip -- L0T
  obtain ⟨ba, sza, exa, rfl, wa, ma⟩ := LIn.full ha (by omega)
  refine W.skip ?_
  refine End.K ?_
  refine W.seq ?_
  refine W.block ?_
  refine W.seq ?_
  refine W.reg ?_
  refine WO.q (Q.move rfl) rfl ?_
  refine WO.q (Q.iS ud63 sz70 rfl rfl zo) rfl ?_
  refine WO.q (Q.loadN rfl ma ag70 sz70 (cL_at zo)) rfl ?_
  refine WO.alloc ao70 rfl (fun b1 => ?_)
  refine WO.q (Q.assign rfl) rfl ?_
  refine WO.store sz70 rfl rfl (i := 0) rfl rfl (cs := [_, _]) rfl (hs' := _ :: _) rfl ?_
  refine WO.nil ?_
  refine End.K ?_
  refine W.seq ?_
  refine W.seq ?_
  refine W.reg ?_
  refine WO.q (Q.move rfl) rfl ?_
  refine WO.q (Q.move rfl) rfl ?_
  refine WO.q (Q.len ud63 rfl (LIn.len hb)) rfl ?_
  refine WO.q (Q.bin rfl rfl rfl (bv_geq le_nat)) rfl ?_
  refine WO.nil ?_
  refine End.K ?_
  refine W.cD rfl (fun hc21 => ?_) (fun hc21 => ?_)
  ·skip -- L0TT
   refine W.seq ?_
   refine W.reg ?_
   refine WO.q (Q.assign (oc (v := .int .i64 ((1 : Nat) : Int)) rfl)) rfl ?_
   refine WO.nil ?_
   refine End.K ?_
   refine W.sub (SubS.cons (k := 6) rfl (SubS.nil _)) ?_
   refine W.ret ?_
   refine End.Kr (End.Br (End.Kr (End.Lr (End.Br (End.Kr (End.rV (ResL.tmp rfl ResL.nil) ?_))))))
   rw [h3, cmpL_long (by omega) (by omega)]; rfl
  ·skip -- L0TF
   obtain ⟨bb, szb, exb, rfl, wb, mb⟩ := LIn.full hb (by omega)
   refine W.skip ?_
   refine End.K ?_
   refine W.seq ?_
   refine W.reg ?_
   refine WO.q (Q.move rfl) rfl ?_
   refine WO.q (Q.move rfl) rfl ?_
   refine WO.q (Q.iS ud63 sz70 rfl rfl zo) rfl ?_
   refine WO.q (Q.loadN rfl (List.mem_cons_of_mem _ mb) ag70 sz70 (cL_at zo)) rfl ?_
   refine WO.alloc ao70 rfl (fun b2 => ?_)
   refine WO.store sz70 rfl rfl (i := 0) rfl rfl (cs := [_, _]) rfl (hs' := _ :: _ :: _) rfl ?_
   refine WO.nil ?_
   refine End.K ?_
   refine W.seq ?_
   refine W.reg ?_
   refine WO.q (Q.move rfl) rfl ?_
   refine WO.q (Q.loadN rfl (mem_at (i := 1) rfl) ag70 sz70 (l := [_, _]) rfl) rfl ?_
   refine WO.q (Q.loadN rfl (mem_at (i := 0) rfl) ag70 sz70 (l := [_, _]) rfl) rfl ?_
   refine WO.cV rfl (oLc rfl (oLc rfl oz)) rfl (cmp1_spec _ _ _ _ (hA.at zo).1 (hA.at zo).2.1 (hB.at zo).1 (hB.at zo).2.1) SubR.nil rfl ?_
   refine WO.q (Q.assign rfl) rfl ?_
   refine WO.nil ?_
   refine End.K ?_
   refine W.sub (SubS.cons (k := 10) rfl (SubS.cons (k := 0) rfl (SubS.cons (k := 1) rfl (SubS.cons (k := 2) rfl (SubS.cons (k := 11) rfl (SubS.cons (k := 12) rfl (SubS.cons (k := 13) rfl (SubS.nil _)))))))) ?_
   refine W.seq ?_
   refine W.reg ?_
   refine WO.q (Q.move rfl) rfl ?_
   refine WO.q (Q.bin rfl (oc (v := .int .i64 ((0 : Nat) : Int)) rfl) rfl (bv_neq ne_int)) rfl ?_
   refine WO.nil ?_
   refine End.K ?_
   refine W.cD rfl (fun hc31 => ?_) (fun hc31 => ?_)
   ·skip -- L0TFT
    refine W.seq ?_
    refine W.reg ?_
    refine WO.q (Q.move rfl) rfl ?_
    refine WO.q (Q.assign rfl) rfl ?_
    refine WO.nil ?_
    refine End.K ?_
    refine W.ret ?_
    refine End.Br (End.Kr (End.Lr (End.Br (End.Kr (End.rV (ResL.tmp rfl ResL.nil) ?_)))))
    rw [h3, cmpL_step (by omega) (by omega), if_pos (show cmp1 (lg A i) (lg B i) ≠ 0 from hc31)]; rfl
   ·skip -- L0TFF
    refine W.skip ?_
    refine End.KB (End.K ?_)
    refine W.reg ?_
    refine WO.q (Q.bin rfl (oc (v := .int .i64 ((1 : Nat) : Int)) rfl) rfl (bv_add (wna zo))) rfl ?_
    refine WO.q (Q.move rfl) rfl ?_
    refine WO.nil ?_
    refine End.KL ?_
    refine W.sub (SubS.cons rfl (SubS.cons rfl (SubS.cons rfl (SubS.cons rfl (SubS.cons rfl (SubS.cons rfl (SubS.nil _))))))) (W.sH (SubH.of_sublist (by simp)) (ih0 (i + 1) ?_ ?_))
    ·exact ⟨by omega, by omega, by rw [h3, cmpL_step (by omega) (by omega), if_neg (by simp_all)]⟩
    ·exact zo
 ·skip -- L0F
  refine W.exit ?_
  refine End.Kx (End.Lx (End.Bh (End.K ?_)))
  refine W.seq ?_
  refine W.seq ?_
  refine W.reg ?_
  refine WO.q (Q.move rfl) rfl ?_
  refine WO.q (Q.len ud63 rfl (LIn.len ha)) rfl ?_
  refine WO.q (Q.move rfl) rfl ?_
  refine WO.q (Q.len ud63 rfl (LIn.len hb)) rfl ?_
  refine WO.q (Q.bin rfl rfl rfl (bvl ltn)) rfl ?_
  refine WO.nil ?_
  refine End.K ?_
  refine W.cD rfl (fun hc38 => ?_) (fun hc38 => ?_)
  ·skip -- L0FT
   refine W.seq ?_
   refine W.reg ?_
   refine WO.q (Q.assign rfl) rfl ?_
   refine WO.nil ?_
   refine End.K ?_
   refine W.ret ?_
   refine End.Kr (End.rV (ResL.tmp rfl ResL.nil) ?_)
   rw [h3, cmpL_end (by omega), if_pos (by omega)]; rfl
  ·skip -- L0FF
   refine W.skip ?_
   refine End.K ?_
   refine W.seq ?_
   refine W.reg ?_
   refine WO.q (Q.assign (oc (v := .int .i64 ((0 : Nat) : Int)) rfl)) rfl ?_
   refine WO.nil ?_
   refine End.K ?_
   refine W.ret ?_
   refine End.rV (ResL.tmp rfl ResL.nil) ?_
   rw [h3, cmpL_end (by omega), if_neg (by omega)]; rfl

theorem rcmp_spec (hs : HSt) (hro : ∀ e ∈ hs, e.w = false) (A B : List Lab) (va vb : AV) (ha : LIn hs A va) (hb : LIn hs B vb) (hA : LBd A) (hB : LBd B) : Spec tab 44 [va, vb] [] hs (Val (.int .i64 (cmpL A B))) := by
 have hAl := hA.1
 have hBl := hB.1
 refine Spec.en (ftg 44 Tryz.func44) rfl (m := 58) rfl (rs := [.tmp 4]) rfl (st := [(0, va), (1, vb)]) rfl rfl (fun _ => rfl) (fun E => ?_)
 refine W.seq ?_
 refine W.reg ?_
 refine WO.q (Q.assign (oc (v := .int .i64 ((0 : Nat) : Int)) rfl)) rfl ?_
 refine WO.nil ?_
 refine End.K ?_
 refine W.seq ?_
 refine W.seq ?_
 refine W.reg ?_
 refine WO.q (Q.assign (oc (v := .int .i64 ((0 : Nat) : Int)) rfl)) rfl ?_
 refine WO.nil ?_
 refine End.K ?_
 refine W.block ?_
 refine W.loop_ind (fun (i : Nat) => [(0, va), (1, vb), (5, .int .i64 ((i : Nat) : Int))]) (fun _ => _) (fun (i : Nat) => i ≤ A.length ∧ i ≤ B.length ∧ cmpL A B = cmpL (A.drop i) (B.drop i)) (fun (i : Nat) => A.length - i) (0) ⟨Nat.zero_le _, Nat.zero_le _, rfl⟩ (SubS.cons rfl (SubS.cons rfl (SubS.cons rfl (SubS.nil _)))) (SubH.refl _) (fun i hI0 ih0 => ?_)
 obtain ⟨h1, h2, h3⟩ := hI0
 refine W.seq ?_
 refine W.seq ?_
 refine W.reg ?_
 refine WO.q (Q.move rfl) rfl ?_
 refine WO.q (Q.move rfl) rfl ?_
 refine WO.q (Q.len ud63 rfl (LIn.len ha)) rfl ?_
 refine WO.q (Q.bin rfl rfl rfl (bvl ltn)) rfl ?_
 refine WO.q (Q.move rfl) rfl ?_
 refine WO.sD (d := 12) rfl (fun hc12 => ?_) (fun hc12 => ?_)
 ·skip -- L0t
  refine WO.gT rfl rfl ?_
  refine WO.q (Q.move rfl) rfl ?_
  refine WO.gT rfl rfl ?_
  refine WO.q (Q.move rfl) rfl ?_
  refine WO.gT rfl rfl ?_
  refine WO.q (Q.len ud63 rfl (LIn.len hb)) rfl ?_
  refine WO.gT rfl rfl ?_
  refine WO.q (Q.bin rfl rfl rfl (bvl ltn)) rfl ?_
  refine WO.q (Q.pT rfl rfl) rfl ?_
  refine WO.nil ?_
  refine End.K ?_
  refine W.cD rfl (fun hc17 => ?_) (fun hc17 => ?_)
  ·skip -- L0tT
   obtain ⟨ba, sza, exa, rfl, wa, ma⟩ := LIn.full ha (by omega)
   obtain ⟨bb, szb, exb, rfl, wb, mb⟩ := LIn.full hb (by omega)
   refine W.skip ?_
   refine End.K ?_
   refine W.seq ?_
   refine W.block ?_
   refine W.seq ?_
   refine W.seq ?_
   refine W.regT (by kernel_rfl) ?_
   refine WO.q (Q.move rfl) rfl ?_
   refine WO.q (Q.move rfl) rfl ?_
   refine WO.q (Q.iS ud63 sz70 rfl rfl zo) rfl ?_
   refine WO.q (Q.fieldAddr fa70_0 rfl rfl) rfl ?_
   refine WO.q (Q.l1 rfl ma ag9 (cL_f0 zo)) rfl ?_
   refine WO.q (Q.move rfl) rfl ?_
   refine WO.q (Q.move rfl) rfl ?_
   refine WO.q (Q.iS ud63 sz70 rfl rfl zo) rfl ?_
   refine WO.q (Q.fieldAddr fa70_0 rfl rfl) rfl ?_
   refine WO.q (Q.l1 rfl mb ag9 (cL_f0 zo)) rfl ?_
   refine WO.cV rfl (oLc rfl (oLc rfl oz)) rfl (text_spec _ _ (hA.at zo).1 (hB.at zo).1) SubR.nil rfl ?_
   refine WO.q (Q.assign rfl) rfl ?_
   refine WO.nil ?_
   refine End.K ?_
   refine W.sub (SubS.cons (k := 6) rfl (SubS.cons (k := 0) rfl (SubS.cons (k := 1) rfl (SubS.cons (k := 5) rfl (SubS.nil _))))) ?_
   refine W.seq ?_
   refine W.reg ?_
   refine WO.q (Q.move rfl) rfl ?_
   refine WO.q (Q.bin rfl (oc (v := .int .i64 ((0 : Nat) : Int)) rfl) rfl (bv_neq ne_int)) rfl ?_
   refine WO.nil ?_
   refine End.K ?_
   refine W.cD rfl (fun hc32 => ?_) (fun hc32 => ?_)
   ·skip -- L0tTT
    refine W.seq ?_
    refine W.reg ?_
    refine WO.q (Q.move rfl) rfl ?_
    refine WO.q (Q.assign rfl) rfl ?_
    refine WO.nil ?_
    refine End.K ?_
    refine W.ret ?_
    refine End.Kr (End.Br (End.Kr (End.Lr (End.Br (End.Kr (End.rV (ResL.tmp rfl ResL.nil) ?_))))))
    rw [h3, cmpL_step (by omega) (by omega), if_pos (by simp_all [cmp1])]; simp_all [cmp1, one1]
   ·skip -- L0tTF
    refine W.skip ?_
    refine End.K ?_
    refine W.seq ?_
    refine W.regT (by kernel_rfl) ?_
    refine WO.q (Q.move rfl) rfl ?_
    refine WO.q (Q.move rfl) rfl ?_
    refine WO.q (Q.iS ud63 sz70 rfl rfl zo) rfl ?_
    refine WO.q (Q.fieldAddr fa70_1 rfl rfl) rfl ?_
    refine WO.q (Q.l1 rfl ma ag9 (cL_f1 zo)) rfl ?_
    refine WO.q (Q.move rfl) rfl ?_
    refine WO.q (Q.move rfl) rfl ?_
    refine WO.q (Q.iS ud63 sz70 rfl rfl zo) rfl ?_
    refine WO.q (Q.fieldAddr fa70_1 rfl rfl) rfl ?_
    refine WO.q (Q.l1 rfl mb ag9 (cL_f1 zo)) rfl ?_
    refine WO.cV rfl (oLc rfl (oLc rfl oz)) rfl (text_spec _ _ (hA.at zo).2.1 (hB.at zo).2.1) SubR.nil rfl ?_
    refine WO.q (Q.assign rfl) rfl ?_
    refine WO.nil ?_
    refine End.K ?_
    refine W.sub (SubS.cons (k := 7) rfl (SubS.cons (k := 0) rfl (SubS.cons (k := 1) rfl (SubS.cons (k := 5) rfl (SubS.nil _))))) ?_
    refine W.seq ?_
    refine W.reg ?_
    refine WO.q (Q.move rfl) rfl ?_
    refine WO.q (Q.bin rfl (oc (v := .int .i64 ((0 : Nat) : Int)) rfl) rfl (bv_neq ne_int)) rfl ?_
    refine WO.nil ?_
    refine End.K ?_
    refine W.cD rfl (fun hc46 => ?_) (fun hc46 => ?_)
    ·skip -- L0tTFT
     refine W.seq ?_
     refine W.reg ?_
     refine WO.q (Q.move rfl) rfl ?_
     refine WO.q (Q.assign rfl) rfl ?_
     refine WO.nil ?_
     refine End.K ?_
     refine W.ret ?_
     refine End.Br (End.Kr (End.Lr (End.Br (End.Kr (End.rV (ResL.tmp rfl ResL.nil) ?_)))))
     rw [h3, cmpL_step (by omega) (by omega), if_pos (by simp_all [cmp1])]; simp_all [cmp1, one1]
    ·skip -- L0tTFF
     refine W.skip ?_
     refine End.KB (End.K ?_)
     refine W.reg ?_
     refine WO.q (Q.move rfl) rfl ?_
     refine WO.q (Q.bin rfl (oc (v := .int .i64 ((1 : Nat) : Int)) rfl) rfl (bv_add (wna zo))) rfl ?_
     refine WO.q (Q.assign rfl) rfl ?_
     refine WO.nil ?_
     refine End.KL ?_
     refine W.sub (SubS.cons rfl (SubS.cons rfl (SubS.cons rfl (SubS.nil _)))) (W.sH (SubH.of_sublist (by simp)) (ih0 (i + 1) ?_ ?_))
     ·exact ⟨by omega, by omega, by rw [h3, cmpL_step (by omega) (by omega), if_neg (by simp_all [cmp1])]⟩
     ·exact zo
  ·skip -- L0tF
   refine W.exit ?_
   refine End.Kx (End.Lx (End.Bh (End.K ?_)))
   refine W.seq ?_
   refine W.seq ?_
   refine W.reg ?_
   refine WO.q (Q.move rfl) rfl ?_
   refine WO.q (Q.len ud63 rfl (LIn.len ha)) rfl ?_
   refine WO.q (Q.move rfl) rfl ?_
   refine WO.q (Q.len ud63 rfl (LIn.len hb)) rfl ?_
   refine WO.q (Q.bin rfl rfl rfl (bvl ltn)) rfl ?_
   refine WO.nil ?_
   refine End.K ?_
   refine W.sub (SubS.cons (k := 52) rfl (SubS.cons (k := 0) rfl (SubS.cons (k := 1) rfl (SubS.nil _)))) ?_
   refine W.cD rfl (fun hc52 => ?_) (fun hc52 => ?_)
   ·skip -- L0tFT
    refine W.seq ?_
    refine W.reg ?_
    refine WO.q (Q.assign rfl) rfl ?_
    refine WO.nil ?_
    refine End.K ?_
    refine W.ret ?_
    refine End.Kr (End.rV (ResL.tmp rfl ResL.nil) ?_)
    rw [h3, cmpL_fin (by omega), if_pos (by omega)]; rfl
   ·skip -- L0tFF
    refine W.skip ?_
    refine End.K ?_
    refine W.seq ?_
    refine W.seq ?_
    refine W.reg ?_
    refine WO.q (Q.move rfl) rfl ?_
    refine WO.q (Q.len ud63 rfl (LIn.len ha)) rfl ?_
    refine WO.q (Q.move rfl) rfl ?_
    refine WO.q (Q.len ud63 rfl (LIn.len hb)) rfl ?_
    refine WO.q (Q.bin rfl rfl rfl (bv_gtr ltn)) rfl ?_
    refine WO.nil ?_
    refine End.K ?_
    refine W.cD rfl (fun hc57 => ?_) (fun hc57 => ?_)
    ·skip -- L0tFFT
     refine W.seq ?_
     refine W.reg ?_
     refine WO.q (Q.assign (oc (v := .int .i64 ((1 : Nat) : Int)) rfl)) rfl ?_
     refine WO.nil ?_
     refine End.K ?_
     refine W.ret ?_
     refine End.Kr (End.rV (ResL.tmp rfl ResL.nil) ?_)
     rw [h3, cmpL_fin (by omega), if_neg (by omega), if_pos (by omega)]; rfl
    ·skip -- L0tFFF
     refine W.skip ?_
     refine End.K ?_
     refine W.seq ?_
     refine W.reg ?_
     refine WO.q (Q.assign (oc (v := .int .i64 ((0 : Nat) : Int)) rfl)) rfl ?_
     refine WO.nil ?_
     refine End.K ?_
     refine W.ret ?_
     refine End.rV (ResL.tmp rfl ResL.nil) ?_
     rw [h3, cmpL_fin (by omega), if_neg (by omega), if_neg (by omega)]; rfl
 ·skip -- L0f
  refine WO.gF rfl rfl (.inl rfl) rfl ?_
  refine WO.gF rfl rfl (.inl rfl) rfl ?_
  refine WO.gF rfl rfl (.inl rfl) rfl ?_
  refine WO.gF rfl rfl (.inl rfl) rfl ?_
  refine WO.q (Q.pF rfl rfl) rfl ?_
  refine WO.nil ?_
  refine End.K ?_
  refine W.condF rfl ?_
  refine W.exit ?_
  refine End.Kx (End.Lx (End.Bh (End.K ?_)))
  refine W.seq ?_
  refine W.seq ?_
  refine W.reg ?_
  refine WO.q (Q.move rfl) rfl ?_
  refine WO.q (Q.len ud63 rfl (LIn.len ha)) rfl ?_
  refine WO.q (Q.move rfl) rfl ?_
  refine WO.q (Q.len ud63 rfl (LIn.len hb)) rfl ?_
  refine WO.q (Q.bin rfl rfl rfl (bvl ltn)) rfl ?_
  refine WO.nil ?_
  refine End.K ?_
  refine W.sub (SubS.cons (k := 52) rfl (SubS.cons (k := 0) rfl (SubS.cons (k := 1) rfl (SubS.nil _)))) ?_
  refine W.cD rfl (fun hc52 => ?_) (fun hc52 => ?_)
  ·skip -- L0fT
   refine W.seq ?_
   refine W.reg ?_
   refine WO.q (Q.assign rfl) rfl ?_
   refine WO.nil ?_
   refine End.K ?_
   refine W.ret ?_
   refine End.Kr (End.rV (ResL.tmp rfl ResL.nil) ?_)
   rw [h3, cmpL_fin (by omega), if_pos (by omega)]; rfl
  ·skip -- L0fF
   refine W.skip ?_
   refine End.K ?_
   refine W.seq ?_
   refine W.seq ?_
   refine W.reg ?_
   refine WO.q (Q.move rfl) rfl ?_
   refine WO.q (Q.len ud63 rfl (LIn.len ha)) rfl ?_
   refine WO.q (Q.move rfl) rfl ?_
   refine WO.q (Q.len ud63 rfl (LIn.len hb)) rfl ?_
   refine WO.q (Q.bin rfl rfl rfl (bv_gtr ltn)) rfl ?_
   refine WO.nil ?_
   refine End.K ?_
   refine W.cD rfl (fun hc57 => ?_) (fun hc57 => ?_)
   ·skip -- L0fFT
    refine W.seq ?_
    refine W.reg ?_
    refine WO.q (Q.assign (oc (v := .int .i64 ((1 : Nat) : Int)) rfl)) rfl ?_
    refine WO.nil ?_
    refine End.K ?_
    refine W.ret ?_
    refine End.Kr (End.rV (ResL.tmp rfl ResL.nil) ?_)
    rw [h3, cmpL_fin (by omega), if_neg (by omega), if_pos (by omega)]; rfl
   ·skip -- L0fFF
    refine W.skip ?_
    refine End.K ?_
    refine W.seq ?_
    refine W.reg ?_
    refine WO.q (Q.assign (oc (v := .int .i64 ((0 : Nat) : Int)) rfl)) rfl ?_
    refine WO.nil ?_
    refine End.K ?_
    refine W.ret ?_
    refine End.rV (ResL.tmp rfl ResL.nil) ?_
    rw [h3, cmpL_fin (by omega), if_neg (by omega), if_neg (by omega)]; rfl

theorem rsame_spec (hs : HSt) (hro : ∀ e ∈ hs, e.w = false) (A B : List Lab) (va vb : AV) (ha : LIn hs A va) (hb : LIn hs B vb) (hA : LBd A) (hB : LBd B) : Spec tab 36 [va, vb] [] hs (Val (.bool (decide (A = B)))) := by
 refine Spec.en (ftg 36 Tryz.func36) rfl (m := 9) rfl (rs := [.tmp 4]) rfl (st := [(0, va), (1, vb)]) rfl rfl (fun _ => rfl) (fun E => ?_)
 refine W.seq ?_
 refine W.reg ?_
 refine WO.q (Q.assign rfl) rfl ?_
 refine WO.nil ?_
 refine End.K ?_
 refine W.seq ?_
 refine W.reg ?_
 refine WO.q (Q.move rfl) rfl ?_
 refine WO.q (Q.move rfl) rfl ?_
 refine WO.cV rfl (oLc rfl (oLc rfl oz)) rfl (rcmp_spec hs hro A B _ _ ha hb hA hB) (SubR.s hro) rfl ?_
 refine WO.q (Q.bin rfl (oc (v := .int .i64 ((0 : Nat) : Int)) rfl) rfl (bv_eql eq_int)) rfl ?_
 refine WO.q (Q.assign rfl) rfl ?_
 refine WO.nil ?_
 refine End.K ?_
 refine W.ret ?_
 refine End.rV (ResL.tmp rfl ResL.nil) ?_
 exact congrArg AV.bool (decide_eq_decide.2 cmpL_eq)

theorem name_spec (s : List Nat) (hs : Bytes s) (hl : s.length ≤ 1048576) : Spec tab 280 [.str s] [] [] (Val (.bool (nameB s))) := by
 refine Spec.en (ftg 280 Tryz.func280) rfl (m := 47) rfl (rs := [.tmp 2]) rfl (st := [(0, .str s)]) rfl rfl (fun _ => rfl) (fun E => ?_)
 refine W.seq ?_
 refine W.reg ?_
 refine WO.q (Q.assign rfl) rfl ?_
 refine WO.nil ?_
 refine End.K ?_
 refine W.seq ?_
 refine W.seq ?_
 refine W.reg ?_
 refine WO.q (Q.move rfl) rfl ?_
 refine WO.q (Q.len ud9 rfl rfl) rfl ?_
 refine WO.q (Q.move (oc (v := .int .i64 ((0 : Nat) : Int)) rfl)) rfl ?_
 refine WO.nil ?_
 refine End.K ?_
 refine W.block ?_
 refine W.loop_ind (fun (i : Nat) => [(0, .str s), (6, .int .i64 ((s.length : Nat) : Int)), (7, .int .i64 ((i : Nat) : Int))]) (fun _ => _) (fun (i : Nat) => i ≤ s.length ∧ ∀ j, j < i → nchr j (s.getD j 0)) (fun (i : Nat) => s.length - i) (0) ⟨Nat.zero_le _, fun j h => by omega⟩ (SubS.cons rfl (SubS.cons rfl (SubS.cons rfl (SubS.nil _)))) (SubH.refl _) (fun i hI0 ih0 => ?_)
 obtain ⟨hi, hno⟩ := hI0
 refine W.seq ?_
 refine W.reg ?_
 refine WO.q (Q.bin rfl rfl rfl (bvl ltn)) rfl ?_
 refine WO.nil ?_
 refine End.K ?_
 refine W.seq ?_
 refine W.cD rfl (fun hc8 => ?_) (fun hc8 => ?_)
 ·skip -- L0T
  refine W.skip ?_
  refine End.K ?_
  refine W.seq ?_
  refine W.block ?_
  refine W.seq ?_
  refine W.reg ?_
  refine WO.q (Q.move rfl) rfl ?_
  refine WO.q (Q.assign rfl) rfl ?_
  refine WO.nil ?_
  refine End.K ?_
  refine W.seq ?_
  refine W.reg ?_
  refine WO.q (Q.move rfl) rfl ?_
  refine WO.q (Q.move rfl) rfl ?_
  refine WO.indexB hs ud9 rfl rfl zo rfl (fun c12 hd12 hb12 => ?_)
  refine WO.q (Q.assign rfl) rfl ?_
  refine WO.nil ?_
  refine End.K ?_
  refine W.block ?_
  refine W.seq ?_
  refine W.seq ?_
  refine W.reg ?_
  refine WO.q (Q.move rfl) rfl ?_
  refine WO.q (Q.bin rfl (oc (v := .int .u8 ((97 : Nat) : Int)) rfl) rfl (bv_geq le_nat)) rfl ?_
  refine WO.q (Q.move rfl) rfl ?_
  refine WO.sD (d := 16) rfl (fun hc16 => ?_) (fun hc16 => ?_)
  ·skip -- L0Tt
   refine WO.gT rfl rfl ?_
   refine WO.q (Q.move rfl) rfl ?_
   refine WO.gT rfl rfl ?_
   refine WO.q (Q.bin rfl (oc (v := .int .u8 ((122 : Nat) : Int)) rfl) rfl (bv_leq le_nat)) rfl ?_
   refine WO.q (Q.pT rfl rfl) rfl ?_
   refine WO.q (Q.assign rfl) rfl ?_
   refine WO.nil ?_
   refine End.K ?_
   refine W.cD rfl (fun hc13 => ?_) (fun hc13 => ?_)
   ·skip -- L0TtT
    refine W.skip ?_
    refine End.K ?_
    refine W.condT rfl ?_
    refine W.skip ?_
    refine End.KB (End.KB (End.K ?_))
    refine W.sub (SubS.cons (k := 0) rfl (SubS.cons (k := 6) rfl (SubS.cons (k := 7) rfl (SubS.nil _)))) ?_
    refine W.reg ?_
    refine WO.q (Q.bin rfl (oc (v := .int .i64 ((1 : Nat) : Int)) rfl) rfl (bv_add (wna zo))) rfl ?_
    refine WO.q (Q.move rfl) rfl ?_
    refine WO.nil ?_
    refine End.KL ?_
    refine W.sub (SubS.cons rfl (SubS.cons rfl (SubS.cons rfl (SubS.nil _)))) (ih0 (i + 1) ?_ ?_)
    ·exact ⟨by omega, fun j h => by rcases Nat.lt_or_ge j i with g | g; exact hno j g; have hji : j = i := (by omega); subst hji; unfold nchr; simp only [hd12] at *; simp_all <;> omega⟩
    ·exact zo
   ·skip -- L0TtF
    refine W.seq ?_
    refine W.reg ?_
    refine WO.q (Q.move rfl) rfl ?_
    refine WO.q (Q.bin rfl (oc (v := .int .u8 ((65 : Nat) : Int)) rfl) rfl (bv_geq le_nat)) rfl ?_
    refine WO.q (Q.move rfl) rfl ?_
    refine WO.sD (d := 22) rfl (fun hc22 => ?_) (fun hc22 => ?_)
    ·skip -- L0TtFt
     refine WO.gT rfl rfl ?_
     refine WO.q (Q.move rfl) rfl ?_
     refine WO.gT rfl rfl ?_
     refine WO.q (Q.bin rfl (oc (v := .int .u8 ((90 : Nat) : Int)) rfl) rfl (bv_leq le_nat)) rfl ?_
     refine WO.q (Q.pT rfl rfl) rfl ?_
     refine WO.q (Q.assign rfl) rfl ?_
     refine WO.nil ?_
     refine End.K ?_
     refine W.sub (SubS.cons (k := 13) rfl (SubS.cons (k := 4) rfl (SubS.cons (k := 3) rfl (SubS.cons (k := 0) rfl (SubS.cons (k := 6) rfl (SubS.cons (k := 7) rfl (SubS.nil _))))))) ?_
     refine W.cD rfl (fun hc13 => ?_) (fun hc13 => ?_)
     ·skip -- L0TtFtT
      refine W.skip ?_
      refine End.K ?_
      refine W.condT rfl ?_
      refine W.skip ?_
      refine End.KB (End.KB (End.K ?_))
      refine W.reg ?_
      refine WO.q (Q.bin rfl (oc (v := .int .i64 ((1 : Nat) : Int)) rfl) rfl (bv_add (wna zo))) rfl ?_
      refine WO.q (Q.move rfl) rfl ?_
      refine WO.nil ?_
      refine End.KL ?_
      refine W.sub (SubS.cons rfl (SubS.cons rfl (SubS.cons rfl (SubS.nil _)))) (ih0 (i + 1) ?_ ?_)
      ·exact ⟨by omega, fun j h => by rcases Nat.lt_or_ge j i with g | g; exact hno j g; have hji : j = i := (by omega); subst hji; unfold nchr; simp only [hd12] at *; simp_all <;> omega⟩
      ·exact zo
     ·skip -- L0TtFtF
      refine W.reg ?_
      refine WO.q (Q.move rfl) rfl ?_
      refine WO.q (Q.bin rfl (oc (v := .int .u8 ((95 : Nat) : Int)) rfl) rfl (bv_eql eq_nat)) rfl ?_
      refine WO.q (Q.assign rfl) rfl ?_
      refine WO.nil ?_
      refine End.K ?_
      refine W.cD rfl (fun hc13 => ?_) (fun hc13 => ?_)
      ·skip -- L0TtFtFT
       refine W.skip ?_
       refine End.KB (End.KB (End.K ?_))
       refine W.reg ?_
       refine WO.q (Q.bin rfl (oc (v := .int .i64 ((1 : Nat) : Int)) rfl) rfl (bv_add (wna zo))) rfl ?_
       refine WO.q (Q.move rfl) rfl ?_
       refine WO.nil ?_
       refine End.KL ?_
       refine W.sub (SubS.cons rfl (SubS.cons rfl (SubS.cons rfl (SubS.nil _)))) (ih0 (i + 1) ?_ ?_)
       ·exact ⟨by omega, fun j h => by rcases Nat.lt_or_ge j i with g | g; exact hno j g; have hji : j = i := (by omega); subst hji; unfold nchr; simp only [hd12] at *; simp_all <;> omega⟩
       ·exact zo
      ·skip -- L0TtFtFF
       refine W.seq ?_
       refine W.reg ?_
       refine WO.q (Q.move rfl) rfl ?_
       refine WO.q (Q.bin rfl (oc (v := .int .i64 ((0 : Nat) : Int)) rfl) rfl (bv_gtr ltn)) rfl ?_
       refine WO.q (Q.move rfl) rfl ?_
       refine WO.sD (d := 31) rfl (fun hc31 => ?_) (fun hc31 => ?_)
       ·skip -- L0TtFtFFt
        refine WO.gT rfl rfl ?_
        refine WO.q (Q.move rfl) rfl ?_
        refine WO.gT rfl rfl ?_
        refine WO.q (Q.bin rfl (oc (v := .int .u8 ((48 : Nat) : Int)) rfl) rfl (bv_geq le_nat)) rfl ?_
        refine WO.q (Q.pT rfl rfl) rfl ?_
        refine WO.q (Q.move rfl) rfl ?_
        refine WO.sD (d := 35) rfl (fun hc35 => ?_) (fun hc35 => ?_)
        ·skip -- L0TtFtFFtt
         refine WO.gT rfl rfl ?_
         refine WO.q (Q.move rfl) rfl ?_
         refine WO.gT rfl rfl ?_
         refine WO.q (Q.bin rfl (oc (v := .int .u8 ((57 : Nat) : Int)) rfl) rfl (bv_leq le_nat)) rfl ?_
         refine WO.q (Q.pT rfl rfl) rfl ?_
         refine WO.q (Q.assign rfl) rfl ?_
         refine WO.nil ?_
         refine End.K ?_
         refine W.sub (SubS.cons (k := 28) rfl (SubS.cons (k := 0) rfl (SubS.cons (k := 6) rfl (SubS.cons (k := 7) rfl (SubS.nil _))))) ?_
         refine W.cD rfl (fun hc28 => ?_) (fun hc28 => ?_)
         ·skip -- L0TtFtFFttT
          refine W.skip ?_
          refine End.KB (End.KB (End.K ?_))
          refine W.reg ?_
          refine WO.q (Q.bin rfl (oc (v := .int .i64 ((1 : Nat) : Int)) rfl) rfl (bv_add (wna zo))) rfl ?_
          refine WO.q (Q.move rfl) rfl ?_
          refine WO.nil ?_
          refine End.KL ?_
          refine W.sub (SubS.cons rfl (SubS.cons rfl (SubS.cons rfl (SubS.nil _)))) (ih0 (i + 1) ?_ ?_)
          ·exact ⟨by omega, fun j h => by rcases Nat.lt_or_ge j i with g | g; exact hno j g; have hji : j = i := (by omega); subst hji; unfold nchr; simp only [hd12] at *; simp_all <;> omega⟩
          ·exact zo
         ·skip -- L0TtFtFFttF
          refine W.seq ?_
          refine W.reg ?_
          refine WO.q (Q.assign rfl) rfl ?_
          refine WO.nil ?_
          refine End.K ?_
          refine W.ret ?_
          refine End.Br (End.Br (End.Kr (End.Lr (End.Br (End.Kr (End.rV (ResL.tmp rfl ResL.nil) ?_))))))
          exact nam_no (i := i) (by omega) (by unfold nchr; simp only [hd12] at *; simp_all <;> omega)
        ·skip -- L0TtFtFFtf
         refine WO.gF rfl rfl (.inl rfl) rfl ?_
         refine WO.gF rfl rfl (.inl rfl) rfl ?_
         refine WO.q (Q.pF rfl rfl) rfl ?_
         refine WO.q (Q.assign rfl) rfl ?_
         refine WO.nil ?_
         refine End.K ?_
         refine W.sub (SubS.cons (k := 28) rfl (SubS.cons (k := 0) rfl (SubS.cons (k := 6) rfl (SubS.cons (k := 7) rfl (SubS.nil _))))) ?_
         refine W.condF rfl ?_
         refine W.seq ?_
         refine W.reg ?_
         refine WO.q (Q.assign rfl) rfl ?_
         refine WO.nil ?_
         refine End.K ?_
         refine W.ret ?_
         refine End.Br (End.Br (End.Kr (End.Lr (End.Br (End.Kr (End.rV (ResL.tmp rfl ResL.nil) ?_))))))
         exact nam_no (i := i) (by omega) (by unfold nchr; simp only [hd12] at *; simp_all <;> omega)
       ·skip -- L0TtFtFFf
        refine WO.gF rfl rfl (.inl rfl) rfl ?_
        refine WO.gF rfl rfl (.inl rfl) rfl ?_
        refine WO.q (Q.pF rfl rfl) rfl ?_
        refine WO.q (Q.move rfl) rfl ?_
        refine WO.gF rfl rfl (.inl rfl) rfl ?_
        refine WO.gF rfl rfl (.inl rfl) rfl ?_
        refine WO.q (Q.pF rfl rfl) rfl ?_
        refine WO.q (Q.assign rfl) rfl ?_
        refine WO.nil ?_
        refine End.K ?_
        refine W.sub (SubS.cons (k := 28) rfl (SubS.cons (k := 0) rfl (SubS.cons (k := 6) rfl (SubS.cons (k := 7) rfl (SubS.nil _))))) ?_
        refine W.condF rfl ?_
        refine W.seq ?_
        refine W.reg ?_
        refine WO.q (Q.assign rfl) rfl ?_
        refine WO.nil ?_
        refine End.K ?_
        refine W.ret ?_
        refine End.Br (End.Br (End.Kr (End.Lr (End.Br (End.Kr (End.rV (ResL.tmp rfl ResL.nil) ?_))))))
        exact nam_no (i := i) (by omega) (by unfold nchr; simp only [hd12] at *; simp_all <;> omega)
    ·skip -- L0TtFf
     refine WO.gF rfl rfl (.inl rfl) rfl ?_
     refine WO.gF rfl rfl (.inl rfl) rfl ?_
     refine WO.q (Q.pF rfl rfl) rfl ?_
     refine WO.q (Q.assign rfl) rfl ?_
     refine WO.nil ?_
     refine End.K ?_
     refine W.sub (SubS.cons (k := 13) rfl (SubS.cons (k := 4) rfl (SubS.cons (k := 3) rfl (SubS.cons (k := 0) rfl (SubS.cons (k := 6) rfl (SubS.cons (k := 7) rfl (SubS.nil _))))))) ?_
     refine W.condF rfl ?_
     refine W.reg ?_
     refine WO.q (Q.move rfl) rfl ?_
     refine WO.q (Q.bin rfl (oc (v := .int .u8 ((95 : Nat) : Int)) rfl) rfl (bv_eql eq_nat)) rfl ?_
     refine WO.q (Q.assign rfl) rfl ?_
     refine WO.nil ?_
     refine End.K ?_
     refine W.cD rfl (fun hc13 => ?_) (fun hc13 => ?_)
     ·skip -- L0TtFfT
      refine W.skip ?_
      refine End.KB (End.KB (End.K ?_))
      refine W.reg ?_
      refine WO.q (Q.bin rfl (oc (v := .int .i64 ((1 : Nat) : Int)) rfl) rfl (bv_add (wna zo))) rfl ?_
      refine WO.q (Q.move rfl) rfl ?_
      refine WO.nil ?_
      refine End.KL ?_
      refine W.sub (SubS.cons rfl (SubS.cons rfl (SubS.cons rfl (SubS.nil _)))) (ih0 (i + 1) ?_ ?_)
      ·exact ⟨by omega, fun j h => by rcases Nat.lt_or_ge j i with g | g; exact hno j g; have hji : j = i := (by omega); subst hji; unfold nchr; simp only [hd12] at *; simp_all <;> omega⟩
      ·exact zo
     ·skip -- L0TtFfF
      refine W.seq ?_
      refine W.reg ?_
      refine WO.q (Q.move rfl) rfl ?_
      refine WO.q (Q.bin rfl (oc (v := .int .i64 ((0 : Nat) : Int)) rfl) rfl (bv_gtr ltn)) rfl ?_
      refine WO.q (Q.move rfl) rfl ?_
      refine WO.sD (d := 31) rfl (fun hc31 => ?_) (fun hc31 => ?_)
      ·skip -- L0TtFfFt
       refine WO.gT rfl rfl ?_
       refine WO.q (Q.move rfl) rfl ?_
       refine WO.gT rfl rfl ?_
       refine WO.q (Q.bin rfl (oc (v := .int .u8 ((48 : Nat) : Int)) rfl) rfl (bv_geq le_nat)) rfl ?_
       refine WO.q (Q.pT rfl rfl) rfl ?_
       refine WO.q (Q.move rfl) rfl ?_
       refine WO.sD (d := 35) rfl (fun hc35 => ?_) (fun hc35 => ?_)
       ·skip -- L0TtFfFtt
        refine WO.gT rfl rfl ?_
        refine WO.q (Q.move rfl) rfl ?_
        refine WO.gT rfl rfl ?_
        refine WO.q (Q.bin rfl (oc (v := .int .u8 ((57 : Nat) : Int)) rfl) rfl (bv_leq le_nat)) rfl ?_
        refine WO.q (Q.pT rfl rfl) rfl ?_
        refine WO.q (Q.assign rfl) rfl ?_
        refine WO.nil ?_
        refine End.K ?_
        refine W.sub (SubS.cons (k := 28) rfl (SubS.cons (k := 0) rfl (SubS.cons (k := 6) rfl (SubS.cons (k := 7) rfl (SubS.nil _))))) ?_
        refine W.cD rfl (fun hc28 => ?_) (fun hc28 => ?_)
        ·skip -- L0TtFfFttT
         refine W.skip ?_
         refine End.KB (End.KB (End.K ?_))
         refine W.reg ?_
         refine WO.q (Q.bin rfl (oc (v := .int .i64 ((1 : Nat) : Int)) rfl) rfl (bv_add (wna zo))) rfl ?_
         refine WO.q (Q.move rfl) rfl ?_
         refine WO.nil ?_
         refine End.KL ?_
         refine W.sub (SubS.cons rfl (SubS.cons rfl (SubS.cons rfl (SubS.nil _)))) (ih0 (i + 1) ?_ ?_)
         ·exact ⟨by omega, fun j h => by rcases Nat.lt_or_ge j i with g | g; exact hno j g; have hji : j = i := (by omega); subst hji; unfold nchr; simp only [hd12] at *; simp_all <;> omega⟩
         ·exact zo
        ·skip -- L0TtFfFttF
         refine W.seq ?_
         refine W.reg ?_
         refine WO.q (Q.assign rfl) rfl ?_
         refine WO.nil ?_
         refine End.K ?_
         refine W.ret ?_
         refine End.Br (End.Br (End.Kr (End.Lr (End.Br (End.Kr (End.rV (ResL.tmp rfl ResL.nil) ?_))))))
         exact nam_no (i := i) (by omega) (by unfold nchr; simp only [hd12] at *; simp_all <;> omega)
       ·skip -- L0TtFfFtf
        refine WO.gF rfl rfl (.inl rfl) rfl ?_
        refine WO.gF rfl rfl (.inl rfl) rfl ?_
        refine WO.q (Q.pF rfl rfl) rfl ?_
        refine WO.q (Q.assign rfl) rfl ?_
        refine WO.nil ?_
        refine End.K ?_
        refine W.sub (SubS.cons (k := 28) rfl (SubS.cons (k := 0) rfl (SubS.cons (k := 6) rfl (SubS.cons (k := 7) rfl (SubS.nil _))))) ?_
        refine W.condF rfl ?_
        refine W.seq ?_
        refine W.reg ?_
        refine WO.q (Q.assign rfl) rfl ?_
        refine WO.nil ?_
        refine End.K ?_
        refine W.ret ?_
        refine End.Br (End.Br (End.Kr (End.Lr (End.Br (End.Kr (End.rV (ResL.tmp rfl ResL.nil) ?_))))))
        exact nam_no (i := i) (by omega) (by unfold nchr; simp only [hd12] at *; simp_all <;> omega)
      ·skip -- L0TtFfFf
       refine WO.gF rfl rfl (.inl rfl) rfl ?_
       refine WO.gF rfl rfl (.inl rfl) rfl ?_
       refine WO.q (Q.pF rfl rfl) rfl ?_
       refine WO.q (Q.move rfl) rfl ?_
       refine WO.gF rfl rfl (.inl rfl) rfl ?_
       refine WO.gF rfl rfl (.inl rfl) rfl ?_
       refine WO.q (Q.pF rfl rfl) rfl ?_
       refine WO.q (Q.assign rfl) rfl ?_
       refine WO.nil ?_
       refine End.K ?_
       refine W.sub (SubS.cons (k := 28) rfl (SubS.cons (k := 0) rfl (SubS.cons (k := 6) rfl (SubS.cons (k := 7) rfl (SubS.nil _))))) ?_
       refine W.condF rfl ?_
       refine W.seq ?_
       refine W.reg ?_
       refine WO.q (Q.assign rfl) rfl ?_
       refine WO.nil ?_
       refine End.K ?_
       refine W.ret ?_
       refine End.Br (End.Br (End.Kr (End.Lr (End.Br (End.Kr (End.rV (ResL.tmp rfl ResL.nil) ?_))))))
       exact nam_no (i := i) (by omega) (by unfold nchr; simp only [hd12] at *; simp_all <;> omega)
  ·skip -- L0Tf
   refine WO.gF rfl rfl (.inl rfl) rfl ?_
   refine WO.gF rfl rfl (.inl rfl) rfl ?_
   refine WO.q (Q.pF rfl rfl) rfl ?_
   refine WO.q (Q.assign rfl) rfl ?_
   refine WO.nil ?_
   refine End.K ?_
   refine W.condF rfl ?_
   refine W.seq ?_
   refine W.reg ?_
   refine WO.q (Q.move rfl) rfl ?_
   refine WO.q (Q.bin rfl (oc (v := .int .u8 ((65 : Nat) : Int)) rfl) rfl (bv_geq le_nat)) rfl ?_
   refine WO.q (Q.move rfl) rfl ?_
   refine WO.sD (d := 22) rfl (fun hc22 => ?_) (fun hc22 => ?_)
   ·skip -- L0Tft
    refine WO.gT rfl rfl ?_
    refine WO.q (Q.move rfl) rfl ?_
    refine WO.gT rfl rfl ?_
    refine WO.q (Q.bin rfl (oc (v := .int .u8 ((90 : Nat) : Int)) rfl) rfl (bv_leq le_nat)) rfl ?_
    refine WO.q (Q.pT rfl rfl) rfl ?_
    refine WO.q (Q.assign rfl) rfl ?_
    refine WO.nil ?_
    refine End.K ?_
    refine W.sub (SubS.cons (k := 13) rfl (SubS.cons (k := 4) rfl (SubS.cons (k := 3) rfl (SubS.cons (k := 0) rfl (SubS.cons (k := 6) rfl (SubS.cons (k := 7) rfl (SubS.nil _))))))) ?_
    refine W.cD rfl (fun hc13 => ?_) (fun hc13 => ?_)
    ·skip -- L0TftT
     refine W.skip ?_
     refine End.K ?_
     refine W.condT rfl ?_
     refine W.skip ?_
     refine End.KB (End.KB (End.K ?_))
     refine W.reg ?_
     refine WO.q (Q.bin rfl (oc (v := .int .i64 ((1 : Nat) : Int)) rfl) rfl (bv_add (wna zo))) rfl ?_
     refine WO.q (Q.move rfl) rfl ?_
     refine WO.nil ?_
     refine End.KL ?_
     refine W.sub (SubS.cons rfl (SubS.cons rfl (SubS.cons rfl (SubS.nil _)))) (ih0 (i + 1) ?_ ?_)
     ·exact ⟨by omega, fun j h => by rcases Nat.lt_or_ge j i with g | g; exact hno j g; have hji : j = i := (by omega); subst hji; unfold nchr; simp only [hd12] at *; simp_all <;> omega⟩
     ·exact zo
    ·skip -- L0TftF
     refine W.reg ?_
     refine WO.q (Q.move rfl) rfl ?_
     refine WO.q (Q.bin rfl (oc (v := .int .u8 ((95 : Nat) : Int)) rfl) rfl (bv_eql eq_nat)) rfl ?_
     refine WO.q (Q.assign rfl) rfl ?_
     refine WO.nil ?_
     refine End.K ?_
     refine W.cD rfl (fun hc13 => ?_) (fun hc13 => ?_)
     ·skip -- L0TftFT
      refine W.skip ?_
      refine End.KB (End.KB (End.K ?_))
      refine W.reg ?_
      refine WO.q (Q.bin rfl (oc (v := .int .i64 ((1 : Nat) : Int)) rfl) rfl (bv_add (wna zo))) rfl ?_
      refine WO.q (Q.move rfl) rfl ?_
      refine WO.nil ?_
      refine End.KL ?_
      refine W.sub (SubS.cons rfl (SubS.cons rfl (SubS.cons rfl (SubS.nil _)))) (ih0 (i + 1) ?_ ?_)
      ·exact ⟨by omega, fun j h => by rcases Nat.lt_or_ge j i with g | g; exact hno j g; have hji : j = i := (by omega); subst hji; unfold nchr; simp only [hd12] at *; simp_all <;> omega⟩
      ·exact zo
     ·skip -- L0TftFF
      refine W.seq ?_
      refine W.reg ?_
      refine WO.q (Q.move rfl) rfl ?_
      refine WO.q (Q.bin rfl (oc (v := .int .i64 ((0 : Nat) : Int)) rfl) rfl (bv_gtr ltn)) rfl ?_
      refine WO.q (Q.move rfl) rfl ?_
      refine WO.sD (d := 31) rfl (fun hc31 => ?_) (fun hc31 => ?_)
      ·skip -- L0TftFFt
       refine WO.gT rfl rfl ?_
       refine WO.q (Q.move rfl) rfl ?_
       refine WO.gT rfl rfl ?_
       refine WO.q (Q.bin rfl (oc (v := .int .u8 ((48 : Nat) : Int)) rfl) rfl (bv_geq le_nat)) rfl ?_
       refine WO.q (Q.pT rfl rfl) rfl ?_
       refine WO.q (Q.move rfl) rfl ?_
       refine WO.sD (d := 35) rfl (fun hc35 => ?_) (fun hc35 => ?_)
       ·skip -- L0TftFFtt
        refine WO.gT rfl rfl ?_
        refine WO.q (Q.move rfl) rfl ?_
        refine WO.gT rfl rfl ?_
        refine WO.q (Q.bin rfl (oc (v := .int .u8 ((57 : Nat) : Int)) rfl) rfl (bv_leq le_nat)) rfl ?_
        refine WO.q (Q.pT rfl rfl) rfl ?_
        refine WO.q (Q.assign rfl) rfl ?_
        refine WO.nil ?_
        refine End.K ?_
        refine W.sub (SubS.cons (k := 28) rfl (SubS.cons (k := 0) rfl (SubS.cons (k := 6) rfl (SubS.cons (k := 7) rfl (SubS.nil _))))) ?_
        refine W.cD rfl (fun hc28 => ?_) (fun hc28 => ?_)
        ·skip -- L0TftFFttT
         refine W.skip ?_
         refine End.KB (End.KB (End.K ?_))
         refine W.reg ?_
         refine WO.q (Q.bin rfl (oc (v := .int .i64 ((1 : Nat) : Int)) rfl) rfl (bv_add (wna zo))) rfl ?_
         refine WO.q (Q.move rfl) rfl ?_
         refine WO.nil ?_
         refine End.KL ?_
         refine W.sub (SubS.cons rfl (SubS.cons rfl (SubS.cons rfl (SubS.nil _)))) (ih0 (i + 1) ?_ ?_)
         ·exact ⟨by omega, fun j h => by rcases Nat.lt_or_ge j i with g | g; exact hno j g; have hji : j = i := (by omega); subst hji; unfold nchr; simp only [hd12] at *; simp_all <;> omega⟩
         ·exact zo
        ·skip -- L0TftFFttF
         refine W.seq ?_
         refine W.reg ?_
         refine WO.q (Q.assign rfl) rfl ?_
         refine WO.nil ?_
         refine End.K ?_
         refine W.ret ?_
         refine End.Br (End.Br (End.Kr (End.Lr (End.Br (End.Kr (End.rV (ResL.tmp rfl ResL.nil) ?_))))))
         exact nam_no (i := i) (by omega) (by unfold nchr; simp only [hd12] at *; simp_all <;> omega)
       ·skip -- L0TftFFtf
        refine WO.gF rfl rfl (.inl rfl) rfl ?_
        refine WO.gF rfl rfl (.inl rfl) rfl ?_
        refine WO.q (Q.pF rfl rfl) rfl ?_
        refine WO.q (Q.assign rfl) rfl ?_
        refine WO.nil ?_
        refine End.K ?_
        refine W.sub (SubS.cons (k := 28) rfl (SubS.cons (k := 0) rfl (SubS.cons (k := 6) rfl (SubS.cons (k := 7) rfl (SubS.nil _))))) ?_
        refine W.condF rfl ?_
        refine W.seq ?_
        refine W.reg ?_
        refine WO.q (Q.assign rfl) rfl ?_
        refine WO.nil ?_
        refine End.K ?_
        refine W.ret ?_
        refine End.Br (End.Br (End.Kr (End.Lr (End.Br (End.Kr (End.rV (ResL.tmp rfl ResL.nil) ?_))))))
        exact nam_no (i := i) (by omega) (by unfold nchr; simp only [hd12] at *; simp_all <;> omega)
      ·skip -- L0TftFFf
       refine WO.gF rfl rfl (.inl rfl) rfl ?_
       refine WO.gF rfl rfl (.inl rfl) rfl ?_
       refine WO.q (Q.pF rfl rfl) rfl ?_
       refine WO.q (Q.move rfl) rfl ?_
       refine WO.gF rfl rfl (.inl rfl) rfl ?_
       refine WO.gF rfl rfl (.inl rfl) rfl ?_
       refine WO.q (Q.pF rfl rfl) rfl ?_
       refine WO.q (Q.assign rfl) rfl ?_
       refine WO.nil ?_
       refine End.K ?_
       refine W.sub (SubS.cons (k := 28) rfl (SubS.cons (k := 0) rfl (SubS.cons (k := 6) rfl (SubS.cons (k := 7) rfl (SubS.nil _))))) ?_
       refine W.condF rfl ?_
       refine W.seq ?_
       refine W.reg ?_
       refine WO.q (Q.assign rfl) rfl ?_
       refine WO.nil ?_
       refine End.K ?_
       refine W.ret ?_
       refine End.Br (End.Br (End.Kr (End.Lr (End.Br (End.Kr (End.rV (ResL.tmp rfl ResL.nil) ?_))))))
       exact nam_no (i := i) (by omega) (by unfold nchr; simp only [hd12] at *; simp_all <;> omega)
   ·skip -- L0Tff
    refine WO.gF rfl rfl (.inl rfl) rfl ?_
    refine WO.gF rfl rfl (.inl rfl) rfl ?_
    refine WO.q (Q.pF rfl rfl) rfl ?_
    refine WO.q (Q.assign rfl) rfl ?_
    refine WO.nil ?_
    refine End.K ?_
    refine W.sub (SubS.cons (k := 13) rfl (SubS.cons (k := 4) rfl (SubS.cons (k := 3) rfl (SubS.cons (k := 0) rfl (SubS.cons (k := 6) rfl (SubS.cons (k := 7) rfl (SubS.nil _))))))) ?_
    refine W.condF rfl ?_
    refine W.reg ?_
    refine WO.q (Q.move rfl) rfl ?_
    refine WO.q (Q.bin rfl (oc (v := .int .u8 ((95 : Nat) : Int)) rfl) rfl (bv_eql eq_nat)) rfl ?_
    refine WO.q (Q.assign rfl) rfl ?_
    refine WO.nil ?_
    refine End.K ?_
    refine W.cD rfl (fun hc13 => ?_) (fun hc13 => ?_)
    ·skip -- L0TffT
     refine W.skip ?_
     refine End.KB (End.KB (End.K ?_))
     refine W.reg ?_
     refine WO.q (Q.bin rfl (oc (v := .int .i64 ((1 : Nat) : Int)) rfl) rfl (bv_add (wna zo))) rfl ?_
     refine WO.q (Q.move rfl) rfl ?_
     refine WO.nil ?_
     refine End.KL ?_
     refine W.sub (SubS.cons rfl (SubS.cons rfl (SubS.cons rfl (SubS.nil _)))) (ih0 (i + 1) ?_ ?_)
     ·exact ⟨by omega, fun j h => by rcases Nat.lt_or_ge j i with g | g; exact hno j g; have hji : j = i := (by omega); subst hji; unfold nchr; simp only [hd12] at *; simp_all <;> omega⟩
     ·exact zo
    ·skip -- L0TffF
     refine W.seq ?_
     refine W.reg ?_
     refine WO.q (Q.move rfl) rfl ?_
     refine WO.q (Q.bin rfl (oc (v := .int .i64 ((0 : Nat) : Int)) rfl) rfl (bv_gtr ltn)) rfl ?_
     refine WO.q (Q.move rfl) rfl ?_
     refine WO.sD (d := 31) rfl (fun hc31 => ?_) (fun hc31 => ?_)
     ·skip -- L0TffFt
      refine WO.gT rfl rfl ?_
      refine WO.q (Q.move rfl) rfl ?_
      refine WO.gT rfl rfl ?_
      refine WO.q (Q.bin rfl (oc (v := .int .u8 ((48 : Nat) : Int)) rfl) rfl (bv_geq le_nat)) rfl ?_
      refine WO.q (Q.pT rfl rfl) rfl ?_
      refine WO.q (Q.move rfl) rfl ?_
      refine WO.sD (d := 35) rfl (fun hc35 => ?_) (fun hc35 => ?_)
      ·skip -- L0TffFtt
       refine WO.gT rfl rfl ?_
       refine WO.q (Q.move rfl) rfl ?_
       refine WO.gT rfl rfl ?_
       refine WO.q (Q.bin rfl (oc (v := .int .u8 ((57 : Nat) : Int)) rfl) rfl (bv_leq le_nat)) rfl ?_
       refine WO.q (Q.pT rfl rfl) rfl ?_
       refine WO.q (Q.assign rfl) rfl ?_
       refine WO.nil ?_
       refine End.K ?_
       refine W.sub (SubS.cons (k := 28) rfl (SubS.cons (k := 0) rfl (SubS.cons (k := 6) rfl (SubS.cons (k := 7) rfl (SubS.nil _))))) ?_
       refine W.cD rfl (fun hc28 => ?_) (fun hc28 => ?_)
       ·skip -- L0TffFttT
        refine W.skip ?_
        refine End.KB (End.KB (End.K ?_))
        refine W.reg ?_
        refine WO.q (Q.bin rfl (oc (v := .int .i64 ((1 : Nat) : Int)) rfl) rfl (bv_add (wna zo))) rfl ?_
        refine WO.q (Q.move rfl) rfl ?_
        refine WO.nil ?_
        refine End.KL ?_
        refine W.sub (SubS.cons rfl (SubS.cons rfl (SubS.cons rfl (SubS.nil _)))) (ih0 (i + 1) ?_ ?_)
        ·exact ⟨by omega, fun j h => by rcases Nat.lt_or_ge j i with g | g; exact hno j g; have hji : j = i := (by omega); subst hji; unfold nchr; simp only [hd12] at *; simp_all <;> omega⟩
        ·exact zo
       ·skip -- L0TffFttF
        refine W.seq ?_
        refine W.reg ?_
        refine WO.q (Q.assign rfl) rfl ?_
        refine WO.nil ?_
        refine End.K ?_
        refine W.ret ?_
        refine End.Br (End.Br (End.Kr (End.Lr (End.Br (End.Kr (End.rV (ResL.tmp rfl ResL.nil) ?_))))))
        exact nam_no (i := i) (by omega) (by unfold nchr; simp only [hd12] at *; simp_all <;> omega)
      ·skip -- L0TffFtf
       refine WO.gF rfl rfl (.inl rfl) rfl ?_
       refine WO.gF rfl rfl (.inl rfl) rfl ?_
       refine WO.q (Q.pF rfl rfl) rfl ?_
       refine WO.q (Q.assign rfl) rfl ?_
       refine WO.nil ?_
       refine End.K ?_
       refine W.sub (SubS.cons (k := 28) rfl (SubS.cons (k := 0) rfl (SubS.cons (k := 6) rfl (SubS.cons (k := 7) rfl (SubS.nil _))))) ?_
       refine W.condF rfl ?_
       refine W.seq ?_
       refine W.reg ?_
       refine WO.q (Q.assign rfl) rfl ?_
       refine WO.nil ?_
       refine End.K ?_
       refine W.ret ?_
       refine End.Br (End.Br (End.Kr (End.Lr (End.Br (End.Kr (End.rV (ResL.tmp rfl ResL.nil) ?_))))))
       exact nam_no (i := i) (by omega) (by unfold nchr; simp only [hd12] at *; simp_all <;> omega)
     ·skip -- L0TffFf
      refine WO.gF rfl rfl (.inl rfl) rfl ?_
      refine WO.gF rfl rfl (.inl rfl) rfl ?_
      refine WO.q (Q.pF rfl rfl) rfl ?_
      refine WO.q (Q.move rfl) rfl ?_
      refine WO.gF rfl rfl (.inl rfl) rfl ?_
      refine WO.gF rfl rfl (.inl rfl) rfl ?_
      refine WO.q (Q.pF rfl rfl) rfl ?_
      refine WO.q (Q.assign rfl) rfl ?_
      refine WO.nil ?_
      refine End.K ?_
      refine W.sub (SubS.cons (k := 28) rfl (SubS.cons (k := 0) rfl (SubS.cons (k := 6) rfl (SubS.cons (k := 7) rfl (SubS.nil _))))) ?_
      refine W.condF rfl ?_
      refine W.seq ?_
      refine W.reg ?_
      refine WO.q (Q.assign rfl) rfl ?_
      refine WO.nil ?_
      refine End.K ?_
      refine W.ret ?_
      refine End.Br (End.Br (End.Kr (End.Lr (End.Br (End.Kr (End.rV (ResL.tmp rfl ResL.nil) ?_))))))
      exact nam_no (i := i) (by omega) (by unfold nchr; simp only [hd12] at *; simp_all <;> omega)
 ·skip -- L0F
  refine W.exit ?_
  refine End.Kx (End.Lx (End.Bh (End.K ?_)))
  refine W.seq ?_
  refine W.reg ?_
  refine WO.q (Q.move rfl) rfl ?_
  refine WO.q (Q.bin rfl (oc (v := .str []) (by kernel_rfl)) rfl bv_sneq) rfl ?_
  refine WO.q (Q.move rfl) rfl ?_
  refine WO.sD (d := 42) rfl (fun hc42 => ?_) (fun hc42 => ?_)
  ·skip -- L0Ft
   refine WO.gT rfl rfl ?_
   refine WO.q (Q.move rfl) rfl ?_
   refine WO.gT rfl rfl ?_
   refine WO.q (Q.len ud9 rfl rfl) rfl ?_
   refine WO.gT rfl rfl ?_
   refine WO.q (Q.bin rfl (oc (v := .int .i64 ((32 : Nat) : Int)) rfl) rfl (bv_leq le_nat)) rfl ?_
   refine WO.q (Q.pT rfl rfl) rfl ?_
   refine WO.q (Q.assign rfl) rfl ?_
   refine WO.nil ?_
   refine End.K ?_
   refine W.ret ?_
   refine End.rV (ResL.tmp rfl ResL.nil) ?_
   exact nam_yes (by omega) hno (by simp_all)
  ·skip -- L0Ff
   refine WO.gF rfl rfl (.inl rfl) rfl ?_
   refine WO.gF rfl rfl (.inl rfl) rfl ?_
   refine WO.gF rfl rfl (.inl rfl) rfl ?_
   refine WO.q (Q.pF rfl rfl) rfl ?_
   refine WO.q (Q.assign rfl) rfl ?_
   refine WO.nil ?_
   refine End.K ?_
   refine W.ret ?_
   refine End.rV (ResL.tmp rfl ResL.nil) ?_
   exact nam_nil (by simp_all)

theorem rname_spec (s : List Nat) (hs : Bytes s) (hl : s.length ≤ 1048576) : Spec tab 72 [.str s] [] [] (Val (.bool (nameB s))) := by
 refine Spec.en (ftg 72 Tryz.func72) rfl (m := 54) rfl (rs := [.tmp 2]) rfl (st := [(0, .str s)]) rfl rfl (fun _ => rfl) (fun E => ?_)
 refine W.seq ?_
 refine W.reg ?_
 refine WO.q (Q.assign rfl) rfl ?_
 refine WO.nil ?_
 refine End.K ?_
 refine W.seq ?_
 refine W.seq ?_
 refine W.reg ?_
 refine WO.q (Q.assign (oc (v := .int .i64 ((0 : Nat) : Int)) rfl)) rfl ?_
 refine WO.nil ?_
 refine End.K ?_
 refine W.block ?_
 refine W.loop_ind (fun (i : Nat) => [(0, .str s), (3, .int .i64 ((i : Nat) : Int))]) (fun _ => _) (fun (i : Nat) => i ≤ s.length ∧ ∀ j, j < i → nchr j (s.getD j 0)) (fun (i : Nat) => s.length - i) (0) ⟨Nat.zero_le _, fun j h => by omega⟩ (SubS.cons rfl (SubS.cons rfl (SubS.nil _))) (SubH.refl _) (fun i hI0 ih0 => ?_)
 obtain ⟨hi, hno⟩ := hI0
 refine W.seq ?_
 refine W.seq ?_
 refine W.reg ?_
 refine WO.q (Q.move rfl) rfl ?_
 refine WO.q (Q.move rfl) rfl ?_
 refine WO.q (Q.len ud9 rfl rfl) rfl ?_
 refine WO.q (Q.bin rfl rfl rfl (bvl ltn)) rfl ?_
 refine WO.nil ?_
 refine End.K ?_
 refine W.cD rfl (fun hc9 => ?_) (fun hc9 => ?_)
 ·skip -- L0T
  refine W.skip ?_
  refine End.K ?_
  refine W.seq ?_
  refine W.block ?_
  refine W.seq ?_
  refine W.reg ?_
  refine WO.q (Q.move rfl) rfl ?_
  refine WO.q (Q.move rfl) rfl ?_
  refine WO.indexB hs ud9 rfl rfl zo rfl (fun c14 hd14 hb14 => ?_)
  refine WO.q (Q.assign rfl) rfl ?_
  refine WO.nil ?_
  refine End.K ?_
  refine W.seqK1 (fun (lt : Bool) => [(0, .str s), (3, .int .i64 ((i : Nat) : Int)), (4, .int .u8 ((c14 : Nat) : Int)), (5, .bool lt)]) (fun (lt : Bool) => (lt = true ↔ ((97 ≤ c14 ∧ c14 ≤ 122) ∨ (65 ≤ c14 ∧ c14 ≤ 90) ∨ c14 = 95))) (fun lt hI6 => ?_) (fun hJ6 => ?_)
  ·skip -- L0TJ6
   refine W.seq ?_
   refine W.reg ?_
   refine WO.q (Q.move rfl) rfl ?_
   refine WO.q (Q.not rfl rfl) rfl ?_
   refine WO.q (Q.move rfl) rfl ?_
   refine WO.split (d := 35) rfl (fun hc35 => ?_) (fun hc35 => ?_)
   ·skip -- L0TJ6t
    refine WO.gT rfl rfl ?_
    refine WO.q (Q.move rfl) rfl ?_
    refine WO.gT rfl rfl ?_
    refine WO.q (Q.bin rfl (oc (v := .int .i64 ((0 : Nat) : Int)) rfl) rfl (bv_eql eq_nat)) rfl ?_
    refine WO.gT rfl rfl ?_
    refine WO.q (Q.move rfl) rfl ?_
    refine WO.sD (d := 38) rfl (fun hc38 => ?_) (fun hc38 => ?_)
    ·skip -- L0TJ6tt
     refine WO.gF rfl rfl (.inl rfl) rfl ?_
     refine WO.gF rfl rfl (.inl rfl) rfl ?_
     refine WO.gT rfl rfl ?_
     refine WO.q (Q.pT rfl rfl) rfl ?_
     refine WO.gT rfl rfl ?_
     refine WO.q (Q.move rfl) rfl ?_
     refine WO.gF rfl rfl (.inl rfl) rfl ?_
     refine WO.gF rfl rfl (.inl rfl) rfl ?_
     refine WO.gT rfl rfl ?_
     refine WO.q (Q.pT rfl rfl) rfl ?_
     refine WO.q (Q.pT rfl rfl) rfl ?_
     refine WO.nil ?_
     refine End.K ?_
     refine W.sub (SubS.cons (k := 46) rfl (SubS.cons (k := 0) rfl (SubS.cons (k := 3) rfl (SubS.nil _)))) ?_
     refine W.condT rfl ?_
     refine W.seq ?_
     refine W.reg ?_
     refine WO.q (Q.assign rfl) rfl ?_
     refine WO.nil ?_
     refine End.K ?_
     refine W.ret ?_
     refine End.Br (End.Kr (End.Lr (End.Br (End.Kr (End.rV (ResL.tmp rfl ResL.nil) ?_)))))
     exact nam_no (i := i) (by omega) (by unfold nchr; simp only [hd14] at *; simp_all <;> omega)
    ·skip -- L0TJ6tf
     refine WO.gT rfl rfl ?_
     refine WO.q (Q.move rfl) rfl ?_
     refine WO.gT rfl rfl ?_
     refine WO.q (Q.bin rfl (oc (v := .int .u8 ((48 : Nat) : Int)) rfl) rfl (bvl ltn)) rfl ?_
     refine WO.gT rfl rfl ?_
     refine WO.q (Q.pF rfl rfl) rfl ?_
     refine WO.gT rfl rfl ?_
     refine WO.q (Q.move rfl) rfl ?_
     refine WO.sD (d := 42) rfl (fun hc42 => ?_) (fun hc42 => ?_)
     ·skip -- L0TJ6tft
      refine WO.gF rfl rfl (.inl rfl) rfl ?_
      refine WO.gF rfl rfl (.inl rfl) rfl ?_
      refine WO.gT rfl rfl ?_
      refine WO.q (Q.pT rfl rfl) rfl ?_
      refine WO.q (Q.pT rfl rfl) rfl ?_
      refine WO.nil ?_
      refine End.K ?_
      refine W.sub (SubS.cons (k := 46) rfl (SubS.cons (k := 0) rfl (SubS.cons (k := 3) rfl (SubS.nil _)))) ?_
      refine W.condT rfl ?_
      refine W.seq ?_
      refine W.reg ?_
      refine WO.q (Q.assign rfl) rfl ?_
      refine WO.nil ?_
      refine End.K ?_
      refine W.ret ?_
      refine End.Br (End.Kr (End.Lr (End.Br (End.Kr (End.rV (ResL.tmp rfl ResL.nil) ?_)))))
      exact nam_no (i := i) (by omega) (by unfold nchr; simp only [hd14] at *; simp_all <;> omega)
     ·skip -- L0TJ6tff
      refine WO.gT rfl rfl ?_
      refine WO.q (Q.move rfl) rfl ?_
      refine WO.gT rfl rfl ?_
      refine WO.q (Q.bin rfl (oc (v := .int .u8 ((57 : Nat) : Int)) rfl) rfl (bv_gtr ltn)) rfl ?_
      refine WO.gT rfl rfl ?_
      refine WO.q (Q.pF rfl rfl) rfl ?_
      refine WO.q (Q.pT rfl rfl) rfl ?_
      refine WO.nil ?_
      refine End.K ?_
      refine W.sub (SubS.cons (k := 46) rfl (SubS.cons (k := 0) rfl (SubS.cons (k := 3) rfl (SubS.nil _)))) ?_
      refine W.cD rfl (fun hc46 => ?_) (fun hc46 => ?_)
      ·skip -- L0TJ6tffT
       refine W.seq ?_
       refine W.reg ?_
       refine WO.q (Q.assign rfl) rfl ?_
       refine WO.nil ?_
       refine End.K ?_
       refine W.ret ?_
       refine End.Br (End.Kr (End.Lr (End.Br (End.Kr (End.rV (ResL.tmp rfl ResL.nil) ?_)))))
       exact nam_no (i := i) (by omega) (by unfold nchr; simp only [hd14] at *; simp_all <;> omega)
      ·skip -- L0TJ6tffF
       refine W.skip ?_
       refine End.KB (End.K ?_)
       refine W.reg ?_
       refine WO.q (Q.move rfl) rfl ?_
       refine WO.q (Q.bin rfl (oc (v := .int .i64 ((1 : Nat) : Int)) rfl) rfl (bv_add (wna zo))) rfl ?_
       refine WO.q (Q.assign rfl) rfl ?_
       refine WO.nil ?_
       refine End.KL ?_
       refine W.sub (SubS.cons rfl (SubS.cons rfl (SubS.nil _))) (ih0 (i + 1) ?_ ?_)
       ·exact ⟨by omega, fun j h => by rcases Nat.lt_or_ge j i with g | g; exact hno j g; have hji : j = i := (by omega); subst hji; unfold nchr; simp only [hd14] at *; simp_all <;> omega⟩
       ·exact zo
   ·skip -- L0TJ6f
    refine WO.gF rfl rfl (.inl rfl) rfl ?_
    refine WO.gF rfl rfl (.inl rfl) rfl ?_
    refine WO.gF rfl rfl (.inl rfl) rfl ?_
    refine WO.gF rfl rfl (.inr rfl) rfl ?_
    refine WO.gF rfl rfl (.inr rfl) rfl ?_
    refine WO.gF rfl rfl (.inl rfl) rfl ?_
    refine WO.gF rfl rfl (.inl rfl) rfl ?_
    refine WO.gF rfl rfl (.inr rfl) rfl ?_
    refine WO.gF rfl rfl (.inr rfl) rfl ?_
    refine WO.gF rfl rfl (.inl rfl) rfl ?_
    refine WO.q (Q.pF rfl rfl) rfl ?_
    refine WO.nil ?_
    refine End.K ?_
    refine W.sub (SubS.cons (k := 46) rfl (SubS.cons (k := 0) rfl (SubS.cons (k := 3) rfl (SubS.nil _)))) ?_
    refine W.condF rfl ?_
    refine W.skip ?_
    refine End.KB (End.K ?_)
    refine W.reg ?_
    refine WO.q (Q.move rfl) rfl ?_
    refine WO.q (Q.bin rfl (oc (v := .int .i64 ((1 : Nat) : Int)) rfl) rfl (bv_add (wna zo))) rfl ?_
    refine WO.q (Q.assign rfl) rfl ?_
    refine WO.nil ?_
    refine End.KL ?_
    refine W.sub (SubS.cons rfl (SubS.cons rfl (SubS.nil _))) (ih0 (i + 1) ?_ ?_)
    ·exact ⟨by omega, fun j h => by rcases Nat.lt_or_ge j i with g | g; exact hno j g; have hji : j = i := (by omega); subst hji; unfold nchr; simp only [hd14] at *; simp_all <;> omega⟩
    ·exact zo
  ·skip
   refine W.reg ?_
   refine WO.q (Q.move rfl) rfl ?_
   refine WO.q (Q.bin rfl (oc (v := .int .u8 ((97 : Nat) : Int)) rfl) rfl (bv_geq le_nat)) rfl ?_
   refine WO.q (Q.move rfl) rfl ?_
   refine WO.sD (d := 17) rfl (fun hc17 => ?_) (fun hc17 => ?_)
   ·skip -- L0Tt
    refine WO.gT rfl rfl ?_
    refine WO.q (Q.move rfl) rfl ?_
    refine WO.gT rfl rfl ?_
    refine WO.q (Q.bin rfl (oc (v := .int .u8 ((122 : Nat) : Int)) rfl) rfl (bv_leq le_nat)) rfl ?_
    refine WO.q (Q.pT rfl rfl) rfl ?_
    refine WO.q (Q.move rfl) rfl ?_
    refine WO.sD (d := 21) rfl (fun hc21 => ?_) (fun hc21 => ?_)
    ·skip -- L0Ttt
     refine WO.gF rfl rfl (.inl rfl) rfl ?_
     refine WO.gF rfl rfl (.inl rfl) rfl ?_
     refine WO.gF rfl rfl (.inl rfl) rfl ?_
     refine WO.gF rfl rfl (.inr rfl) rfl ?_
     refine WO.gF rfl rfl (.inr rfl) rfl ?_
     refine WO.gF rfl rfl (.inl rfl) rfl ?_
     refine WO.q (Q.pT rfl rfl) rfl ?_
     refine WO.q (Q.move rfl) rfl ?_
     refine WO.gF rfl rfl (.inl rfl) rfl ?_
     refine WO.gF rfl rfl (.inl rfl) rfl ?_
     refine WO.q (Q.pT rfl rfl) rfl ?_
     refine WO.q (Q.assign rfl) rfl ?_
     refine WO.nil ?_
     refine End.K (W.sub (SubS.cons rfl (SubS.cons rfl (SubS.cons rfl (SubS.cons rfl (SubS.nil _))))) (hJ6 (_) ?_))
     exact (by simp_all <;> omega)
    ·skip -- L0Ttf
     refine WO.gT rfl rfl ?_
     refine WO.q (Q.move rfl) rfl ?_
     refine WO.gT rfl rfl ?_
     refine WO.q (Q.bin rfl (oc (v := .int .u8 ((65 : Nat) : Int)) rfl) rfl (bv_geq le_nat)) rfl ?_
     refine WO.gT rfl rfl ?_
     refine WO.q (Q.move rfl) rfl ?_
     refine WO.sD (d := 24) rfl (fun hc24 => ?_) (fun hc24 => ?_)
     ·skip -- L0Ttft
      refine WO.gT rfl rfl ?_
      refine WO.q (Q.move rfl) rfl ?_
      refine WO.gT rfl rfl ?_
      refine WO.q (Q.bin rfl (oc (v := .int .u8 ((90 : Nat) : Int)) rfl) rfl (bv_leq le_nat)) rfl ?_
      refine WO.gT rfl rfl ?_
      refine WO.q (Q.pT rfl rfl) rfl ?_
      refine WO.q (Q.pF rfl rfl) rfl ?_
      refine WO.q (Q.move rfl) rfl ?_
      refine WO.sD (d := 29) rfl (fun hc29 => ?_) (fun hc29 => ?_)
      ·skip -- L0Ttftt
       refine WO.gF rfl rfl (.inl rfl) rfl ?_
       refine WO.gF rfl rfl (.inl rfl) rfl ?_
       refine WO.q (Q.pT rfl rfl) rfl ?_
       refine WO.q (Q.assign rfl) rfl ?_
       refine WO.nil ?_
       refine End.K (W.sub (SubS.cons rfl (SubS.cons rfl (SubS.cons rfl (SubS.cons rfl (SubS.nil _))))) (hJ6 (_) ?_))
       exact (by simp_all <;> omega)
      ·skip -- L0Ttftf
       refine WO.gT rfl rfl ?_
       refine WO.q (Q.move rfl) rfl ?_
       refine WO.gT rfl rfl ?_
       refine WO.q (Q.bin rfl (oc (v := .int .u8 ((95 : Nat) : Int)) rfl) rfl (bv_eql eq_nat)) rfl ?_
       refine WO.q (Q.pF rfl rfl) rfl ?_
       refine WO.q (Q.assign rfl) rfl ?_
       refine WO.nil ?_
       refine End.K (W.sub (SubS.cons rfl (SubS.cons rfl (SubS.cons rfl (SubS.cons rfl (SubS.nil _))))) (hJ6 (_) ?_))
       exact (by simp_all <;> omega)
     ·skip -- L0Ttff
      refine WO.gF rfl rfl (.inl rfl) rfl ?_
      refine WO.gF rfl rfl (.inl rfl) rfl ?_
      refine WO.gT rfl rfl ?_
      refine WO.q (Q.pF rfl rfl) rfl ?_
      refine WO.q (Q.pF rfl rfl) rfl ?_
      refine WO.q (Q.move rfl) rfl ?_
      refine WO.gT rfl rfl ?_
      refine WO.q (Q.move rfl) rfl ?_
      refine WO.gT rfl rfl ?_
      refine WO.q (Q.bin rfl (oc (v := .int .u8 ((95 : Nat) : Int)) rfl) rfl (bv_eql eq_nat)) rfl ?_
      refine WO.q (Q.pF rfl rfl) rfl ?_
      refine WO.q (Q.assign rfl) rfl ?_
      refine WO.nil ?_
      refine End.K (W.sub (SubS.cons rfl (SubS.cons rfl (SubS.cons rfl (SubS.cons rfl (SubS.nil _))))) (hJ6 (_) ?_))
      exact (by simp_all <;> omega)
   ·skip -- L0Tf
    refine WO.gF rfl rfl (.inl rfl) rfl ?_
    refine WO.gF rfl rfl (.inl rfl) rfl ?_
    refine WO.q (Q.pF rfl rfl) rfl ?_
    refine WO.q (Q.move rfl) rfl ?_
    refine WO.gT rfl rfl ?_
    refine WO.q (Q.move rfl) rfl ?_
    refine WO.gT rfl rfl ?_
    refine WO.q (Q.bin rfl (oc (v := .int .u8 ((65 : Nat) : Int)) rfl) rfl (bv_geq le_nat)) rfl ?_
    refine WO.gT rfl rfl ?_
    refine WO.q (Q.move rfl) rfl ?_
    refine WO.sD (d := 24) rfl (fun hc24 => ?_) (fun hc24 => ?_)
    ·skip -- L0Tft
     refine WO.gT rfl rfl ?_
     refine WO.q (Q.move rfl) rfl ?_
     refine WO.gT rfl rfl ?_
     refine WO.q (Q.bin rfl (oc (v := .int .u8 ((90 : Nat) : Int)) rfl) rfl (bv_leq le_nat)) rfl ?_
     refine WO.gT rfl rfl ?_
     refine WO.q (Q.pT rfl rfl) rfl ?_
     refine WO.q (Q.pF rfl rfl) rfl ?_
     refine WO.q (Q.move rfl) rfl ?_
     refine WO.sD (d := 29) rfl (fun hc29 => ?_) (fun hc29 => ?_)
     ·skip -- L0Tftt
      refine WO.gF rfl rfl (.inl rfl) rfl ?_
      refine WO.gF rfl rfl (.inl rfl) rfl ?_
      refine WO.q (Q.pT rfl rfl) rfl ?_
      refine WO.q (Q.assign rfl) rfl ?_
      refine WO.nil ?_
      refine End.K (W.sub (SubS.cons rfl (SubS.cons rfl (SubS.cons rfl (SubS.cons rfl (SubS.nil _))))) (hJ6 (_) ?_))
      exact (by simp_all <;> omega)
     ·skip -- L0Tftf
      refine WO.gT rfl rfl ?_
      refine WO.q (Q.move rfl) rfl ?_
      refine WO.gT rfl rfl ?_
      refine WO.q (Q.bin rfl (oc (v := .int .u8 ((95 : Nat) : Int)) rfl) rfl (bv_eql eq_nat)) rfl ?_
      refine WO.q (Q.pF rfl rfl) rfl ?_
      refine WO.q (Q.assign rfl) rfl ?_
      refine WO.nil ?_
      refine End.K (W.sub (SubS.cons rfl (SubS.cons rfl (SubS.cons rfl (SubS.cons rfl (SubS.nil _))))) (hJ6 (_) ?_))
      exact (by simp_all <;> omega)
    ·skip -- L0Tff
     refine WO.gF rfl rfl (.inl rfl) rfl ?_
     refine WO.gF rfl rfl (.inl rfl) rfl ?_
     refine WO.gT rfl rfl ?_
     refine WO.q (Q.pF rfl rfl) rfl ?_
     refine WO.q (Q.pF rfl rfl) rfl ?_
     refine WO.q (Q.move rfl) rfl ?_
     refine WO.gT rfl rfl ?_
     refine WO.q (Q.move rfl) rfl ?_
     refine WO.gT rfl rfl ?_
     refine WO.q (Q.bin rfl (oc (v := .int .u8 ((95 : Nat) : Int)) rfl) rfl (bv_eql eq_nat)) rfl ?_
     refine WO.q (Q.pF rfl rfl) rfl ?_
     refine WO.q (Q.assign rfl) rfl ?_
     refine WO.nil ?_
     refine End.K (W.sub (SubS.cons rfl (SubS.cons rfl (SubS.cons rfl (SubS.cons rfl (SubS.nil _))))) (hJ6 (_) ?_))
     exact (by simp_all <;> omega)
 ·skip -- L0F
  refine W.exit ?_
  refine End.Kx (End.Lx (End.Bh (End.K ?_)))
  refine W.seq ?_
  refine W.reg ?_
  refine WO.q (Q.move rfl) rfl ?_
  refine WO.q (Q.bin rfl (oc (v := .str []) (by kernel_rfl)) rfl bv_sneq) rfl ?_
  refine WO.q (Q.move rfl) rfl ?_
  refine WO.sD (d := 49) rfl (fun hc49 => ?_) (fun hc49 => ?_)
  ·skip -- L0Ft
   refine WO.gT rfl rfl ?_
   refine WO.q (Q.move rfl) rfl ?_
   refine WO.gT rfl rfl ?_
   refine WO.q (Q.len ud9 rfl rfl) rfl ?_
   refine WO.gT rfl rfl ?_
   refine WO.q (Q.bin rfl (oc (v := .int .i64 ((32 : Nat) : Int)) rfl) rfl (bv_leq le_nat)) rfl ?_
   refine WO.q (Q.pT rfl rfl) rfl ?_
   refine WO.q (Q.assign rfl) rfl ?_
   refine WO.nil ?_
   refine End.K ?_
   refine W.ret ?_
   refine End.rV (ResL.tmp rfl ResL.nil) ?_
   exact nam_yes (by omega) hno (by simp_all)
  ·skip -- L0Ff
   refine WO.gF rfl rfl (.inl rfl) rfl ?_
   refine WO.gF rfl rfl (.inl rfl) rfl ?_
   refine WO.gF rfl rfl (.inl rfl) rfl ?_
   refine WO.q (Q.pF rfl rfl) rfl ?_
   refine WO.q (Q.assign rfl) rfl ?_
   refine WO.nil ?_
   refine End.K ?_
   refine W.ret ?_
   refine End.rV (ResL.tmp rfl ResL.nil) ?_
   exact nam_nil (by simp_all)
end Go.Proofs.YtfkbfnpjggkdmaaGreatDoor.Ev
