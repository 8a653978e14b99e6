/- Chapter 19, walks: what is wrong with a vector, by the program. -/
import Derived.Test.YtmblgaehfjheeaaGreatGYh
namespace Go.Proofs.YtmblgaehfjheeaaGreat.Ev
open Go.RowKit
set_option linter.unusedVariables false
set_option linter.unusedSimpArgs false
set_option maxRecDepth 100000
set_option maxHeartbeats 1000000
theorem vck_spec (hs : HSt) (hro : ∀ e ∈ hs, e.w = false) (V : List El) (v : AV) (hV : EIn hs V v) (hB : EBd V) : Spec tab 23 [v] [] hs (Val (.int .i64 ((vchk V : Nat) : Int))) := by
 have hBl := hB.1
 refine Spec.en (ftg 23 Tryz.func23) rfl (m := 33) rfl (rs := [.tmp 2]) rfl (st := [(0, v)]) rfl rfl (fun _ => rfl) (fun E => zr (za (zi 0) (zk (W.seq (zr (zm rfl (zq (Q.len ud22 rfl (EIn.len hV)) (zq (Q.bin rfl (zi 256) rfl (bv_gtr ltn)) (zk (W.cD rfl (fun hc10 => ?_) (fun hc10 => ?_)))))))))))
 ·refine zr (za (zi 3) (zk (W.ret (End.Kr (End.rV (z1 rfl) ?_)))))
  show AV.int .i64 _ = _; rw [vchk_e (by rw [ichk_big zy]; decide), ichk_big zy]
 refine zw (zr (za rfl (zk (W.seq (zr (zm rfl (zq (Q.len ud22 rfl (EIn.len hV)) (zq (Q.move (zi 0)) (zk (W.block (W.loop_ind3 (fun (i : Nat) (u : AV) (hp : HSt) => [(0, v), (3, u), (11, v), (12, .int .i64 ((V.length : Nat) : Int)), (13, .int .i64 ((i : Nat) : Int))]) (fun (i : Nat) (u : AV) (hp : HSt) => (hs ++ hp)) (fun (i : Nat) (u : AV) (hp : HSt) => i ≤ V.length ∧ Own 1 ((V.take i).map (·.1)) (V.take i).length u hp) (fun (i : Nat) (u : AV) (hp : HSt) => V.length - i) (0) (.nils) ([]) ⟨Nat.zero_le _, Own.nil 1⟩ zv app_nil_sub (fun i u hp hI0 ih0 => ?_))))))))))))
 obtain ⟨h1, hO⟩ := hI0
 refine zr (zq (Q.bin rfl rfl rfl (bvl ltn)) (zk (W.seq (W.cD rfl (fun hc14 => ?_) (fun hc14 => ?_)))))
 ·obtain ⟨bv, szv, exv, rfl, wv, mv⟩ := EIn.full hV zy
  refine zw (W.seq (W.block (zr (zq (Q.iS ud22 sz35 rfl rfl zo) (zq (Q.loadN rfl (List.mem_append_left _ mv) ag35 sz35 (cE_at zo)) (WO.alloc ao35 rfl (fun b1 => WO.store sz35 rfl rfl (i := 0) rfl (and_tt rfl (and_tt (LIn.cell (hV.at zy)) rfl)) (cs := [_, _]) rfl (hs' := _ :: _) rfl (zk (W.reg (zm rfl (zf fa35_0 rfl 0 (zq (Q.l1 rfl (zt 0 rfl) ag33 rfl) (WO.bslice ud90 sz33 zr33 rfl (opc rfl opn) rfl (cs := [_]) (fillE1 (LIn.cell (hV.at zy))) (and_tt (LIn.cell (hV.at zy)) rfl) rfl (fun b2 => WO.appOwn (e := ⟨b2, _, true⟩) (A := ([_] ++ hs)) ap90_90 hO rfl rfl rfl rfl ⟨by first | omega | (simp at * <;> omega), by first | omega | (simp at * <;> omega)⟩ (by decide) rfl rfl (fun v21 hp21 hO21 => za rfl (WO.nil (End.KB (End.K (W.reg (zq (Q.bin rfl (zi 1) rfl zp) (zm rfl (WO.nil (End.KL (W.sub zv (W.sH gc (ih0 (i + 1) (v21) (hp21) ?_ ?_))))))))))))))))))))))))))
  ·exact ⟨by omega, by rw [take_el zy, List.map_append, List.length_append]; exact hO21⟩
  exact zo
 have ht : V.take i = V := List.take_of_length_le zy
 rw [ht] at hO
 refine W.exit (End.Kx (End.Lx (End.Bh (End.K (W.seq (zr (zm rfl (WO.callE rfl (oLc rfl oz) rfl (new_spec (ro hp ++ hs) (ro_app hro) V u (TIn.own hO hV.2) hB) (sub_ro hro) rfl (fun v25 hP25 => ?_)))))))))
 obtain ⟨pn, rfl⟩ := hP25
 refine zm rfl (zq (Q.extract rfl rfl) (zq (Q.extract rfl rfl) (za rfl (za rfl (zk (zr (zm rfl (zq (Q.bin rfl (zi 0) rfl (bv_neq ne_nat)) (zk (W.cD rfl (fun hc29 => ?_) (fun hc29 => ?_)))))))))))
 ·refine zr (zm rfl (za rfl (zk (W.sub (zc 2 rfl zzn) (W.ret (End.Kr (End.rV (z1 rfl) ?_)))))))
  show AV.int .i64 _ = _; rw [vchk_e (by simpa using hc29)]
 refine zw (W.sub (zc 0 rfl zzn) (W.seq (zr (zm rfl (WO.cV rfl (oLc rfl (oLc rfl oz)) rfl (ctf_spec hs hro V _ hV hB) (SubR.appl (SubR.s hro)) rfl (zk (W.condS rfl (fun hc32 => ?_) (fun hc32 => ?_))))))))
 ·refine zr (za (zi 11) (zk (W.ret (End.Kr (End.rV (z1 rfl) ?_)))))
  show AV.int .i64 _ = _; unfold vchk; rw [if_neg (by simpa using hc29)]; simp_all
 refine zw (zr (za (zi 0) (zk (W.ret (End.rV (z1 rfl) ?_)))))
 show AV.int .i64 _ = _; unfold vchk; rw [if_neg (by simpa using hc29)]; simp_all
theorem mm_minI {k : IntKind} {a b : Int} : minmaxA false (.int k a) [.int k b] = some (.int k (min a b)) := by
 unfold minmaxA
 simp only [Bool.false_eq_true, if_false, ltA_eq]
 unfold minmaxA
 by_cases h : b < a
 ·have e : min a b = b := by omega
  simp only [h, decide_true, e]
 ·have e : min a b = a := by omega
  simp only [h, decide_false, e]
theorem mm_maxI {k : IntKind} {a b : Int} : minmaxA true (.int k a) [.int k b] = some (.int k (max a b)) := by
 unfold minmaxA
 simp only [if_true, ltA_eq]
 unfold minmaxA
 by_cases h : a < b
 ·have e : max a b = b := by omega
  simp only [h, decide_true, e]
 ·have e : max a b = a := by omega
  simp only [h, decide_false, e]
theorem fit_bd {v : Int} (h : fitB v = true) : -1152921504606846976 ≤ v ∧ v ≤ 1152921504606846976 := by
 unfold fitB at h
 simpa using h
theorem fit_neg {v : Int} (h : fitB v = true) : fitB (0 - v) = true := by
 have := fit_bd h
 unfold fitB
 simp
 omega
def flM (v : Int) : Int := v - v % 1000000
theorem flM_bd (v : Int) : v - 1000000 < flM v ∧ flM v ≤ v := by unfold flM; omega
theorem tdiv_m (v : Int) : (0 ≤ v → v.tdiv 1000000 = v / 1000000) ∧ (v < 0 → v.tdiv 1000000 = -((-v) / 1000000)) := by
 refine ⟨fun h => Int.tdiv_eq_ediv_of_nonneg h, fun h => ?_⟩
 have := Int.neg_tdiv (-v) 1000000
 rw [Int.neg_neg] at this
 rw [this, Int.tdiv_eq_ediv_of_nonneg zy]
theorem rem_q (v : Int) : ∃ q, v.tmod ((1000000 : Nat) : Int) = q ∧ ((v < 0 ∧ v % 1000000 ≠ 0) → q = v % 1000000 - 1000000) ∧ (¬ (v < 0 ∧ v % 1000000 ≠ 0) → q = v % 1000000) := by
 obtain ⟨h1, h2⟩ := tdiv_m v
 have e : ((1000000 : Nat) : Int) = 1000000 := rfl
 rw [e]
 have hm := Int.tmod_def v 1000000
 refine ⟨v.tmod 1000000, rfl, ?_, ?_⟩ <;> rw [hm] <;> rcases Int.lt_or_le v 0 with g | g <;> (try rw [h2 g]) <;> (try rw [h1 g]) <;> omega
def oneM (op : List Nat) (v low high : Int) : Int :=
 if op = [110, 101, 103] then -v else if op = [97, 98, 115] then max v (-v) else if op = [99, 101, 105, 108] then -(flM (0 - v)) else if op = [102, 108, 111, 111, 114] then flM v else if op = [99, 108, 97, 109, 112] then min high (max low v) else 1000000 * min 1 (max (-1) v)
def opK (op : List Nat) : Prop := op = [110, 101, 103] ∨ op = [97, 98, 115] ∨ op = [99, 101, 105, 108] ∨ op = [102, 108, 111, 111, 114] ∨ op = [115, 103, 110] ∨ op = [99, 108, 97, 109, 112]
theorem whole_spec (v : Int) (hv : fitB v = true) : Spec tab 113 [.int .i64 v] [] [] (Val (.int .i64 (flM v))) := by
 obtain ⟨hv1, hv2⟩ := fit_bd hv
 obtain ⟨q, hq, hq1, hq2⟩ := rem_q v
 refine Spec.en (ftg 113 Tryz.func113) rfl (m := 13) rfl (rs := [.tmp 2]) rfl (st := [(0, .int .i64 v)]) rfl rfl (fun _ => rfl) (fun E => zr (za (zi 0) (zk (zr (zm rfl (zq (Q.bin rfl (zi 1000000) rfl (bv_rem (by decide) hq)) (za rfl (zk (W.seq (zr (zm rfl (zq (Q.bin rfl (zi 0) rfl (bvl (ltA_eq _ _))) (zk (W.cD rfl (fun hc7 => ?_) (fun hc7 => ?_)))))))))))))))
 ·refine W.reg (zm rfl (zq (Q.bin rfl (zi 1000000) rfl (bv_add (wr64 zo))) (za rfl (zk (zr (zm rfl (zm rfl (zq (Q.bin rfl rfl rfl (bv_sub (wr64 zo))) (za rfl (zk (W.ret (End.rV (z1 rfl) ?_))))))))))))
  exact congrArg (AV.int .i64) (by unfold flM; omega)
 refine zw (zr (zm rfl (zm rfl (zq (Q.bin rfl rfl rfl (bv_sub (wr64 zo))) (za rfl (zk (W.ret (End.rV (z1 rfl) ?_))))))))
 exact congrArg (AV.int .i64) (by unfold flM; omega)

theorem rone_spec (op : List Nat) (ho : Bytes op) (v low high : Int) (hv : fitB v = true) (hop : opK op) : Spec tab 77 [.str op, .int .i64 v, .int .i64 low, .int .i64 high] [] [] (Val (.int .i64 (oneM op v low high))) := by
 obtain ⟨hv1, hv2⟩ := fit_bd hv
 have hf1 := flM_bd v
 have hf2 := flM_bd (0 - v)
 refine Spec.en (ftg 77 Tryz.func77) rfl (m := 41) rfl (rs := [.tmp 8]) rfl (st := [(0, .str op), (1, .int .i64 v), (2, .int .i64 low), (3, .int .i64 high)]) rfl rfl (fun _ => rfl) (fun E => zr (za (zi 0) (zk (W.seq (zr (zm rfl (zk (W.block (zr (zq (Q.bin rfl (oc (v := .str [110, 101, 103]) (by kernel_rfl)) rfl bv_seql) (za rfl (zk (W.cD rfl (fun hc10 => ?_) (fun hc10 => ?_))))))))))))))
 ·refine zr (zm rfl (zq (Q.neg rfl (wr64 zo)) (za rfl (zk (W.ret (End.Br (End.Kr (End.rV (z1 rfl) ?_))))))))
  first | (exact congrArg (AV.int .i64) (by simp [oneM, *] <;> omega)) | (exact congrArg (AV.int .i64) (by simp [oneM, *])) | (exact congrArg (AV.int .i64) (by unfold oneM; simp only [*, if_true, if_false, reduceIte]; have := flM_bd v; have := flM_bd (-v); omega))
 refine zr (zq (Q.bin rfl (oc (v := .str [97, 98, 115]) (by kernel_rfl)) rfl bv_seql) (za rfl (zk (W.cD rfl (fun hc14 => ?_) (fun hc14 => ?_)))))
 ·refine zr (zm rfl (zm rfl (zq (Q.neg rfl (wr64 zo)) (zq (Q.minmax true (oLc rfl (oLc rfl oz)) mm_maxI) (za rfl (zk (W.ret (End.Br (End.Kr (End.rV (z1 rfl) ?_))))))))))
  first | (exact congrArg (AV.int .i64) (by simp [oneM, *] <;> omega)) | (exact congrArg (AV.int .i64) (by simp [oneM, *])) | (exact congrArg (AV.int .i64) (by unfold oneM; simp only [*, if_true, if_false, reduceIte]; have := flM_bd v; have := flM_bd (-v); omega))
 refine zr (zq (Q.bin rfl (oc (v := .str [99, 101, 105, 108]) (by kernel_rfl)) rfl bv_seql) (za rfl (zk (W.cD rfl (fun hc20 => ?_) (fun hc20 => ?_)))))
 ·refine zr (zm rfl (zq (Q.neg rfl (wr64 zo)) (WO.cV rfl (oLc rfl oz) rfl (whole_spec _ (by first | exact hv | exact fit_neg hv)) SubR.nil rfl (zq (Q.neg rfl (wr64 zo)) (za rfl (zk (W.sub (zc 8 rfl zzn) (W.ret (End.Br (End.Kr (End.rV (z1 rfl) ?_)))))))))))
  first | (exact congrArg (AV.int .i64) (by simp [oneM, *] <;> omega)) | (exact congrArg (AV.int .i64) (by simp [oneM, *])) | (exact congrArg (AV.int .i64) (by unfold oneM; simp only [*, if_true, if_false, reduceIte]; have := flM_bd v; have := flM_bd (-v); omega))
 refine zr (zq (Q.bin rfl (oc (v := .str [102, 108, 111, 111, 114]) (by kernel_rfl)) rfl bv_seql) (za rfl (zk (W.cD rfl (fun hc26 => ?_) (fun hc26 => ?_)))))
 ·refine zr (zm rfl (WO.cV rfl (oLc rfl oz) rfl (whole_spec _ (by first | exact hv | exact fit_neg hv)) SubR.nil rfl (za rfl (zk (W.sub (zc 8 rfl zzn) (W.ret (End.Br (End.Kr (End.rV (z1 rfl) ?_)))))))))
  first | (exact congrArg (AV.int .i64) (by simp [oneM, *] <;> omega)) | (exact congrArg (AV.int .i64) (by simp [oneM, *])) | (exact congrArg (AV.int .i64) (by unfold oneM; simp only [*, if_true, if_false, reduceIte]; have := flM_bd v; have := flM_bd (-v); omega))
 refine zr (zq (Q.bin rfl (oc (v := .str [115, 103, 110]) (by kernel_rfl)) rfl bv_seql) (za rfl (zk (W.cD rfl (fun hc30 => ?_) (fun hc30 => ?_)))))
 ·refine zr (zm rfl (zq (Q.minmax true (oLc rfl (oLc rfl oz)) mm_maxI) (zq (Q.minmax false (oLc (zi 1) (oLc rfl oz)) mm_minI) (zq (Q.bin (zi 1000000) rfl rfl (bv_mul (wr64 zo))) (za rfl (zk (W.sub (zc 8 rfl zzn) (W.ret (End.Br (End.Kr (End.rV (z1 rfl) ?_)))))))))))
  first | (exact congrArg (AV.int .i64) (by simp [oneM, *] <;> omega)) | (exact congrArg (AV.int .i64) (by simp [oneM, *])) | (exact congrArg (AV.int .i64) (by unfold oneM; simp only [*, if_true, if_false, reduceIte]; have := flM_bd v; have := flM_bd (-v); omega))
 refine W.skip (End.KB (End.K (zr (zm rfl (zm rfl (zm rfl (zq (Q.minmax true (oLc rfl (oLc rfl oz)) mm_maxI) (zq (Q.minmax false (oLc rfl (oLc rfl oz)) mm_minI) (za rfl (zk (W.sub (zc 8 rfl zzn) (W.ret (End.rV (z1 rfl) ?_)))))))))))))
 have hcl : op = [99, 108, 97, 109, 112] := (by rcases hop with h | h | h | h | h | h <;> first | exact h | exact absurd h (by assumption))
 subst hcl
 exact congrArg (AV.int .i64) (by simp [oneM])
def PermOn {α : Type} (a b : Nat) (f g : Nat → α) : Prop := ∃ σ τ : Nat → Nat, (∀ i, σ (τ i) = i) ∧ (∀ i, τ (σ i) = i) ∧ (∀ i, ¬ (a ≤ i ∧ i < b) → σ i = i) ∧ ∀ i, g i = f (σ i)
theorem PermOn.refl {α : Type} (a b : Nat) (f : Nat → α) : PermOn a b f f := ⟨id, id, fun _ => rfl, fun _ => rfl, fun _ _ => rfl, fun _ => rfl⟩
theorem PermOn.trans {α : Type} {a b : Nat} {f g h : Nat → α} (p : PermOn a b f g) (q : PermOn a b g h) : PermOn a b f h := by
 obtain ⟨s, t, h1, h2, h3, h4⟩ := p
 obtain ⟨u, v, g1, g2, g3, g4⟩ := q
 refine ⟨fun i => s (u i), fun i => v (t i), fun i => by simp [g1, h1], fun i => by simp [h2, g2], fun i hi => ?_, fun i => by rw [g4, h4]⟩
 show s (u i) = i
 rw [g3 i hi, h3 i hi]
theorem PermOn.mono {α : Type} {a b a' b' : Nat} {f g : Nat → α} (ha : a' ≤ a) (hb : b ≤ b') (p : PermOn a b f g) : PermOn a' b' f g := by
 obtain ⟨s, t, h1, h2, h3, h4⟩ := p
 exact ⟨s, t, h1, h2, fun i hi => h3 i (fun h => hi ⟨by omega, by omega⟩), h4⟩
theorem PermOn.out {α : Type} {a b : Nat} {f g : Nat → α} (p : PermOn a b f g) {i : Nat} (hi : ¬ (a ≤ i ∧ i < b)) : g i = f i := by
 obtain ⟨s, t, h1, h2, h3, h4⟩ := p
 rw [h4, h3 i hi]
theorem perm_in {a b : Nat} {s t : Nat → Nat} (h1 : ∀ i, s (t i) = i) (h2 : ∀ i, t (s i) = i) (h3 : ∀ i, ¬ (a ≤ i ∧ i < b) → s i = i) {i : Nat} (hi : a ≤ i ∧ i < b) : a ≤ s i ∧ s i < b := by
 by_cases h : a ≤ s i ∧ s i < b
 ·exact h
 ·have e := h3 _ h
  have : t (s (s i)) = t (s i) := by rw [e]
  rw [h2, h2] at this
  rw [this]; exact hi
theorem PermOn.get {α : Type} {a b : Nat} {f g : Nat → α} (p : PermOn a b f g) {i : Nat} (hi : a ≤ i ∧ i < b) : ∃ j, (a ≤ j ∧ j < b) ∧ g i = f j := by
 obtain ⟨s, t, h1, h2, h3, h4⟩ := p
 exact ⟨s i, perm_in h1 h2 h3 hi, h4 i⟩
theorem PermOn.back {α : Type} {a b : Nat} {f g : Nat → α} (p : PermOn a b f g) {i : Nat} (hi : a ≤ i ∧ i < b) : ∃ j, (a ≤ j ∧ j < b) ∧ f i = g j := by
 obtain ⟨s, t, h1, h2, h3, h4⟩ := p
 have h3' : ∀ i, ¬ (a ≤ i ∧ i < b) → t i = i := fun i hi => by have := h2 i; rw [h3 i hi] at this; exact this
 exact ⟨t i, perm_in h2 h1 h3' hi, by rw [h4, h1]⟩
def sw {α : Type} (f : Nat → α) (i j : Nat) : Nat → α := fun x => if x = i then f j else if x = j then f i else f x
theorem PermOn.sw {α : Type} {a b : Nat} {f : Nat → α} {i j : Nat} (hi : a ≤ i ∧ i < b) (hj : a ≤ j ∧ j < b) : PermOn a b f (Ev.sw f i j) := by
 have hs : ∀ x, (fun x => if x = i then j else if x = j then i else x) ((fun x => if x = i then j else if x = j then i else x) x) = x := by
  intro x
  by_cases h1 : x = i
  ·subst h1; simp
  ·by_cases h2 : x = j
   ·subst h2; simp [h1]
   ·simp [h1, h2]
 refine ⟨fun x => if x = i then j else if x = j then i else x, fun x => if x = i then j else if x = j then i else x, hs, hs, fun x hx => ?_, fun x => ?_⟩
 ·have h1 : x ≠ i := fun e => hx (e ▸ hi)
  have h2 : x ≠ j := fun e => hx (e ▸ hj)
  simp [h1, h2]
 ·unfold Ev.sw
  by_cases h1 : x = i
  ·simp [h1]
  ·by_cases h2 : x = j
   ·simp [h2]; split <;> rfl
   ·simp [h1, h2]
def vF {α : Type} (raw : α → El) (f : Nat → α) (n : Nat) : List El := (List.range n).map fun i => raw (f i)
theorem vF_len {α : Type} (raw : α → El) (f : Nat → α) (n : Nat) : (vF raw f n).length = n := by simp [vF]
theorem vF_eg {α : Type} {raw : α → El} {f : Nat → α} {n i : Nat} (h : i < n) : eg (vF raw f n) i = raw (f i) := by
 unfold eg vF
 simp [List.getD_eq_getElem?_getD, h]
theorem vF_at {α : Type} {raw : α → El} {f : Nat → α} {n i : Nat} (h : i < n) : sub? (cE (vF raw f n)) ((0 + i) * 2) 2 = some [(raw (f i)).1, .int .i64 (raw (f i)).2.2] := by
 rw [cE_at (by rw [vF_len]; exact h), vF_eg h]
theorem vF_f0 {α : Type} {raw : α → El} {f : Nat → α} {n i : Nat} (h : i < n) : (cE (vF raw f n))[(0 + i) * 2 + 0]? = some (raw (f i)).1 := by
 rw [cE_f0 (by rw [vF_len]; exact h), vF_eg h]
theorem cE_lay : ∀ (V : List El) (i : Nat) (x : El), i < V.length → layL (cE V) (i * 2) [x.1, .int .i64 x.2.2] = cE (V.set i x)
 | y :: V, 0, x, _ => by simp [cE_cons, layL]
 | y :: V, i + 1, x, h => by
  have e : (i + 1) * 2 = i * 2 + 1 + 1 := by omega
  rw [e, cE_cons]
  simp only [layL, List.set_cons_succ, cE_cons, cE_lay V i x (by simpa using h)]
def upd {α : Type} (f : Nat → α) (i : Nat) (x : α) : Nat → α := fun k => if k = i then x else f k
theorem vF_set {α : Type} {raw : α → El} {f : Nat → α} {n i : Nat} {x : α} (h : i < n) : (vF raw f n).set i (raw x) = vF raw (upd f i x) n := by
 unfold vF upd
 apply List.ext_getElem?
 intro k
 rw [List.getElem?_set]
 by_cases e : i = k
 ·subst e; simp [h]
 ·rw [if_neg e]
  simp only [List.getElem?_map]
  by_cases hk : k < n
  ·simp [List.getElem?_range hk, Ne.symm e]
  ·have : (List.range n)[k]? = none := List.getElem?_eq_none (by simp; omega)
   simp only [this, Option.map_none]
theorem vF_lay {α : Type} {raw : α → El} {f : Nat → α} {n i : Nat} {x : α} (h : i < n) : layL (cE (vF raw f n)) ((0 + i) * 2) [(raw x).1, .int .i64 (raw x).2.2] = cE (vF raw (upd f i x) n) := by
 rw [Nat.zero_add, cE_lay _ _ _ (by rw [vF_len]; exact h), vF_set h]
theorem upd_sw {α : Type} {f : Nat → α} {i j : Nat} : upd (upd f i (f j)) j (f i) = sw f i j := by
 funext x
 unfold upd sw
 by_cases h1 : x = i
 ·by_cases h2 : x = j
  ·subst h1; subst h2; simp
  ·simp [h1]
   intro h; exact absurd (h1.trans h) h2
 ·simp [h1]
end Go.Proofs.YtmblgaehfjheeaaGreat.Ev
