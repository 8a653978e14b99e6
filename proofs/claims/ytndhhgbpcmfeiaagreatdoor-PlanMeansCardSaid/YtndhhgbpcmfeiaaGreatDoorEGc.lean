/- Numerals, and texts of instructions. -/
import Derived.Lib.ItoaNum
import Derived.Test.YtndhhgbpcmfeiaaGreatDoorEAwJ
import Derived.Test.YtndhhgbpcmfeiaaGreatDoorProg
import Derived.Test.YtndhhgbpcmfeiaaGreatDoorEGa
namespace Go.Proofs.YtndhhgbpcmfeiaaGreatDoor.Ev
def itN (a : Int) : List Nat := (Lib.itoa a).map UInt8.toNat
def keyN (k : Int) (op : List Nat) (A : List Int) : List Nat := itN k ++ 32 :: (op ++ A.flatMap fun a => 32 :: itN a)
open Go.RowKit
def intsOf : List AV → Option (List Int)
 | [] => some []
 | .int .i64 a :: l => match decide (-9223372036854775808 ≤ a ∧ a ≤ 9223372036854775807), intsOf l with
  | true, some m => some (a :: m)
  | _, _ => none
 | _ :: _ => none
noncomputable def keyR (k : Int) (op : List Nat) (h : AHeap) : AV → Option AV
 | .nils => some (.str (keyN k op []))
 | .slice b 0 n 1 => match Nat.ble n 1048576, h.objs.get b with
  | true, some ob => match sub? ob.cells 0 n with
   | some l => match intsOf l with
    | some A => some (.str (keyN k op A))
    | none => none
   | none => none
  | _, _ => none
 | _ => none
noncomputable def keyA (h : AHeap) : List AV → Option AV
 | [.agg [.int .i64 k, .str op, _, _, _, _, _, _, _, _, _, va]] => match Nat.ble op.length 1048576 && decide (-9223372036854775808 ≤ k ∧ k ≤ 9223372036854775807) with
  | true => keyR k op h va
  | false => none
 | _ => none
noncomputable def orc (f : Nat) (args : List AV) (h : AHeap) : Option AV :=
 match Nat.beq f 10 with
 | true => match args with
  | [] => some (.bool true)
  | _ => none
 | false => match Nat.beq f 44 with
  | true => keyA h args
  | false => none
noncomputable def tab : Tab := (tabOf Tryz.prog).knows (fun _ _ _ _ => none) (fun _ _ => none) orc
set_option maxRecDepth 100000
def badK (i k : Int) : Bool := decide (k < 0) || decide (i ≤ k)
def ai (A : List Int) (q : Nat) : Int := A.getD q 0
theorem ai_at {A : List Int} {q : Nat} (h : q < A.length) : A[q]? = some (ai A q) := by
 unfold ai
 rw [List.getD_eq_getElem?_getD, List.getElem?_eq_getElem h]; rfl
theorem cA_at {A : List Int} {q : Nat} (h : q < A.length) : (cA A)[(0 + q) * 1]? = some (.int .i64 (ai A q)) := by
 rw [Nat.zero_add, Nat.mul_one, cA, List.getElem?_map, ai_at h]; rfl
theorem any_at {A : List Int} {p : Int → Bool} {q : Nat} (h : q < A.length) (g : p (ai A q) = true) : A.any p = true :=
 List.any_eq_true.2 ⟨_, List.mem_of_getElem? (ai_at h), g⟩
theorem any_no {A : List Int} {p : Int → Bool} (h : ∀ q, q < A.length → p (ai A q) = false) : A.any p = false := by
 rw [List.any_eq_false]
 intro x hx
 obtain ⟨q, hq⟩ := List.getElem?_of_mem hx
 have hl := (List.getElem?_eq_some_iff.1 hq).1
 rw [ai_at hl] at hq
 rw [← Option.some.inj hq, h q hl]; decide
theorem bool_dec {p : Prop} [Decidable p] {b : Bool} (h : p ↔ b = true) : decide p = b := by
 cases b with
 | true => exact decide_eq_true (h.2 rfl)
 | false => exact decide_eq_false fun q => by cases h.1 q
def okI (L : List IE) (i : Nat) : Bool := decide ((ei L i).nk = 0) && !((ei L i).ars.any (badK ((i : Nat) : Int)))
def chkI (L : List IE) : Nat := if L.length = 0 then 2 else if 1024 < L.length then 3 else if ∀ i, i < L.length → okI L i = true then 0 else 2
section
variable {L : List IE}
theorem chk_a (h : L.length = 0) : chkI L = 2 := if_pos h
theorem chk_b (h : L.length ≠ 0) (g : 1024 < L.length) : chkI L = 3 := by unfold chkI; rw [if_neg h, if_pos g]
theorem chk_c {i : Nat} (h : L.length ≠ 0) (g : L.length ≤ 1024) (hi : i < L.length) (k : okI L i = false) : chkI L = 2 := by
 unfold chkI
 rw [if_neg h, if_neg zy, if_neg fun q => by rw [q i hi] at k; cases k]
theorem chk_d (h : L.length ≠ 0) (g : L.length ≤ 1024) (k : ∀ i, i < L.length → okI L i = true) : chkI L = 0 := by
 unfold chkI
 rw [if_neg h, if_neg zy, if_pos k]
theorem chk_ok (h : chkI L = 0) : 0 < L.length ∧ L.length ≤ 1024 ∧ ∀ i, i < L.length → okI L i = true := by
 unfold chkI at h
 split at h
 ·cases h
 split at h
 ·cases h
 split at h
 ·exact ⟨by omega, by omega, by assumption⟩
 ·cases h
theorem ok_ar {i : Nat} (h : okI L i = true) {a : Int} (ha : a ∈ (ei L i).ars) : 0 ≤ a ∧ a < i := by
 unfold okI at h
 simp only [Bool.and_eq_true, Bool.not_eq_true', List.any_eq_false, badK, Bool.or_eq_true, decide_eq_true_eq, not_or] at h
 have := h.2 a ha
 omega
end
theorem bi_int (k : IntKind) (n : Int) : beq0 (.int k n) (.int k n) = true := by simp [beq0]
theorem bi_str (s : List Nat) : beq0 (.str s) (.str s) = true := by simp [beq0]
theorem bi_bool (b : Bool) : beq0 (.bool b) (.bool b) = true := by simp [beq0]
theorem beqL_self : ∀ {l : List AV}, (l.all fun v => beq0 v v) = true → beqL beq0 l l = true
 | [], _ => rfl
 | x :: l, h => by
  rw [List.all_cons, Bool.and_eq_true] at h
  show (beq0 x x && beqL beq0 l l) = true
  rw [h.1, beqL_self h.2]; rfl
theorem bq_agg11 {hs : HSt} {x : IE} (h : IOK hs x) : (AV.agg (x.d.c x.vm x.vn x.vk)).beq (AV.agg (x.d.c x.vm x.vn x.vk)) = true :=
 beqL_self (by simp only [ND.c, nodeC, List.all_cons, List.all_nil, h.m.bq0, h.n.bq0, h.k.bq0, bi_int, bi_str, bi_bool, Bool.and_true])
theorem ag24 : tab.isAgg 24 = some false := by kernel_rfl
theorem ag3 : tab.isAgg 3 = some false := by kernel_rfl
theorem ag40 : tab.isAgg 40 = some false := by kernel_rfl
theorem ag42 : tab.isAgg 42 = some true := by kernel_rfl
theorem ao3 : AO tab 3 = some ⟨1, true, [.int .i64 0]⟩ := by kernel_rfl
theorem ao42 : AO tab 42 = some ⟨12, true, [.int .i64 0, .str [], .int .i64 0, .nils, .int .i64 0, .int .i64 0, .int .i64 0, .nils, .int .i64 0, .bool false, .nils, .nils]⟩ := by kernel_rfl
theorem fa26_10 : FA tab 26 10 = some (10, 0 + 1) := by kernel_rfl
theorem fa42_0 : FA tab 42 0 = some (0, 10 + 1) := by kernel_rfl
theorem fa42_1 : FA tab 42 1 = some (11, 0 + 1) := by kernel_rfl
theorem sz3 : tab.size 3 = some 1 := by kernel_rfl
theorem sz42 : tab.size 42 = some 12 := by kernel_rfl
theorem ud24 : tab.und 24 = some (.slice 26) := by kernel_rfl
theorem ud30 : tab.und 30 = some (.slice 42) := by kernel_rfl
theorem ud40 : tab.und 40 = some (.slice 3) := by kernel_rfl
theorem few_spec (hs : HSt) (hro : ∀ e ∈ hs, e.w = false) (L : List IE) (v : AV) (hV : IIn hs L v) (hB : ILB L) : Spec tab 14 [v] [] hs (ValE (fun u => ∃ b : Bool, u = .bool b ∧ (b = true → L.length ≤ 100 ∧ ∀ i, i < L.length → (ei L i).ars.length ≤ 3))) := by
 have hBl := hB.1
 refine Spec.en (ftg 14 Tryz.func14) rfl (m := 31) rfl (rs := [.tmp 2]) rfl (st := [(0, v)]) rfl rfl (fun _ => rfl) (fun E => zr (za rfl (zk (W.seq (zr (za (zi 0) (zk (W.block (W.loop_ind (fun (i : Nat) => [(0, v), (3, .int .i64 ((i : Nat) : Int))]) (fun (i : Nat) => hs) (fun (i : Nat) => i ≤ L.length ∧ i ≤ 100 ∧ ∀ j, j < i → (ei L j).ars.length ≤ 3) (fun (i : Nat) => L.length - i) (0) ⟨Nat.zero_le _, Nat.zero_le _, fun j h => absurd h (Nat.not_lt_zero _)⟩ zv (SubH.refl _) (fun i hI0 ih0 => ?_))))))))))
 obtain ⟨h1, h2, h3⟩ := hI0
 refine W.seq (zr (zm rfl (zm rfl (zq (Q.len ud30 rfl hV.1.len) (zq (Q.bin rfl rfl rfl (bvl ltn)) (zk (W.cD rfl (fun hc7 => ?_) (fun hc7 => ?_))))))))
 ·obtain ⟨bv, szv, exv, rfl, wv, mv⟩ := hV.1.full zy
  refine zw (W.seq (W.block (zr (zm rfl (zq (Q.bin rfl (zi 100) rfl (bv_geq le_nat)) (zm rfl (WO.sD (d := 12) rfl (fun hc12 => ?_) (fun hc12 => ?_))))))))
  ·refine zG (zG (zG (zG (zG (zG (zG (zq (Q.pT rfl rfl) (zm rfl (zG (zG (zG (zG (zG (zG (zG (zG (zq (Q.pT rfl rfl) (zk (W.sub (zc 30 rfl (zc 0 rfl (zc 3 rfl zzn))) (W.condT rfl (zr (za rfl (zk ?_)))))))))))))))))))))))
   refine W.ret (End.Br (End.Kr (End.Lr (End.Br (End.Kr (End.retE (z1 rfl) ?_))))))
   exact ⟨false, rfl, fun h => by cases h⟩
  refine zT (zm rfl (zT (zm rfl (zT (zq (Q.iS ud30 sz42 rfl rfl zo) (zT (zq (Q.fieldAddr fa42_1 rfl rfl) (zT (zq (Q.l1 rfl mv ag40 (cI_f 11 zo rfl)) (zT (zq (Q.len ud40 rfl (hV.at zo).a.len) (zT (zq (Q.bin rfl (zi 3) rfl (bv_gtr ltn)) (zq (Q.pF rfl rfl) (zm rfl (WO.sD (d := 21) rfl (fun hc21 => ?_) (fun hc21 => ?_)))))))))))))))))
  ·refine zG (zG (zG (zG (zG (zG (zG (zG (zq (Q.pT rfl rfl) (zk (W.sub (zc 30 rfl (zc 0 rfl (zc 3 rfl zzn))) (W.condT rfl (zr (za rfl (zk (W.ret (End.Br (End.Kr (End.Lr (End.Br (End.Kr (End.retE (z1 rfl) ?_)))))))))))))))))))))
   exact ⟨false, rfl, fun h => by cases h⟩
  refine zT (zm rfl (zT (zm rfl (zT (zq (Q.iS ud30 sz42 rfl rfl zo) (zT (zq (Q.fieldAddr fa42_0 rfl rfl) (zT (zq (Q.fieldAddr fa26_10 rfl rfl) (zT (zq (Q.l1 rfl mv ag24 (cI_f 10 zo rfl)) (zT (zq (Q.len ud24 rfl (hV.at zo).k.len) (zT (zq (Q.bin rfl (zi 3) rfl (bv_gtr ltn)) (zq (Q.pF rfl rfl) (zk (W.sub (zc 30 rfl (zc 0 rfl (zc 3 rfl zzn))) (W.cD rfl (fun hc30 => ?_) (fun hc30 => ?_))))))))))))))))))))
  ·refine zr (za rfl (zk (W.ret (End.Br (End.Kr (End.Lr (End.Br (End.Kr (End.retE (z1 rfl) ?_)))))))))
   exact ⟨false, rfl, fun h => by cases h⟩
  refine W.skip (End.KB (End.K (W.reg (zm rfl (zq (Q.bin rfl (zi 1) rfl zp) (za rfl (WO.nil (End.KL (W.sub zv (W.sH (SubH.refl _) (ih0 (i + 1) ?_ ?_)))))))))))
  ·exact ⟨by omega, by omega, fun j hj => by rcases Nat.lt_or_ge j i with q | q; exact h3 j q; obtain rfl : j = i := zy; omega⟩
  exact zo
 refine W.exit (End.Kx (End.Lx (End.Bh (End.K (zr (za rfl (zk (W.ret (End.retE (z1 rfl) ?_)))))))))
 exact ⟨true, rfl, fun _ => ⟨by omega, fun j hj => h3 j zy⟩⟩

theorem ck1_spec (hs : HSt) (hro : ∀ e ∈ hs, e.w = false) (k : Int) (i : Int) (bi : Nat) (mi : MemH hs bi ⟨1, true, [.int .i64 i]⟩) : Spec tab 51 [.int .i64 k, .ptr bi 0] [] hs (Val (.bool (badK i k))) := by
 obtain ⟨wi, mi⟩ := mi
 refine Spec.en (ftg 51 Tryz.func51) rfl (m := 11) rfl (rs := [.tmp 3]) rfl (st := [(0, .int .i64 k), (1, .ptr bi 0)]) rfl rfl (fun _ => rfl) (fun E => zr (za rfl (zk (zr (zm rfl (zq (Q.bin rfl (zi 0) rfl (bvl (ltA_eq _ _))) (zm rfl (WO.sD (d := 6) rfl (fun hc6 => ?_) (fun hc6 => ?_)))))))))
 ·refine zG (zG (zG (zq (Q.pT rfl rfl) (za rfl (zk (W.ret (End.rV (z1 rfl) ?_)))))))
  exact congrArg AV.bool (by unfold badK; first | (simp_all; done) | (simp_all; omega))
 refine zT (zm rfl (zT (zq (Q.l1 rfl mi ag3 rfl) (zT (zq (Q.bin rfl rfl rfl (bv_geq le_int)) (zq (Q.pF rfl rfl) (za rfl (zk (W.ret (End.rV (z1 rfl) ?_))))))))))
 exact congrArg AV.bool (by unfold badK; first | (simp_all; done) | (simp_all; omega))

theorem ixf_spec (hs : HSt) (hro : ∀ e ∈ hs, e.w = false) (A : List Int) (va : AV) (hA : RIn hs 1 A.length (cA A) va) (hAl : A.length ≤ 1048576) (i : Int) (bi : Nat) (mi : MemH hs bi ⟨1, true, [.int .i64 i]⟩) : Spec tab 45 [va, .func 51 [.ptr bi 0]] [] hs (ValE (fun u => ∃ r : Int, u = .int .i64 r ∧ (0 ≤ r ↔ A.any (badK i) = true))) := by
 refine Spec.en (ftg 45 Tryz.func45) rfl (m := 19) rfl (rs := [.tmp 4]) rfl (st := [(0, va), (1, .func 51 [.ptr bi 0])]) rfl rfl (fun _ => rfl) (fun E => zr (za (zi 0) (zk (W.seq (zr (zm rfl (zq (Q.len ud40 rfl hA.len) (zq (Q.move (zi 0)) (zk (W.block (W.loop_ind (fun (j : Nat) => [(0, va), (1, .func 51 [.ptr bi 0]), (7, .int .i64 ((A.length : Nat) : Int)), (8, .int .i64 ((j : Nat) : Int))]) (fun _ => _) (fun (j : Nat) => j ≤ A.length ∧ ∀ q, q < j → badK i (ai A q) = false) (fun (j : Nat) => A.length - j) (0) ⟨Nat.zero_le _, fun j h => by omega⟩ zv (SubH.refl _) (fun j hI0 ih0 => ?_))))))))))))
 obtain ⟨hi, hno⟩ := hI0
 refine zr (zq (Q.bin rfl rfl rfl (bvl ltn)) (zk (W.seq (W.cD rfl (fun hc9 => ?_) (fun hc9 => ?_)))))
 ·obtain ⟨ba, sza, exa, rfl, wa, ma⟩ := hA.full zy
  refine zw (W.seq (W.block (zr (zm rfl (za rfl (zk (zr (zm rfl (zm rfl (zm rfl (zq (Q.iS ud40 sz3 rfl rfl zo) (zq (Q.l1 rfl ma ag3 (cA_at zo)) (WO.cV rfl (oLc rfl oz) rfl (ck1_spec hs hro _ i bi mi) (SubR.s hro) rfl (zk (W.condS rfl (fun hc16 => ?_) (fun hc16 => ?_))))))))))))))))
  ·refine zr (zm rfl (za rfl (zk (W.sub (zc 4 rfl zzn) (W.ret (End.Br (End.Kr (End.Lr (End.Br (End.Kr (End.retE (z1 rfl) ?_)))))))))))
   exact ⟨_, rfl, ⟨fun _ => any_at zy (by simpa using hc16), fun _ => by omega⟩⟩
  refine W.skip (End.KB (End.K (W.reg (zq (Q.bin rfl (zi 1) rfl zp) (zm rfl (WO.nil (End.KL (W.sub zv (ih0 (j + 1) ?_ ?_)))))))))
  ·exact ⟨by omega, fun q h => by rcases Nat.lt_or_ge q j with g | g; exact hno q g; obtain rfl : q = j := zy; simpa using hc16⟩
  exact zo
 refine W.exit (End.Kx (End.Lx (End.Bh (End.K (zr (za rfl (zk (W.ret (End.retE (z1 rfl) ?_)))))))))
 exact ⟨_, rfl, ⟨fun h => by omega, fun h => absurd h (by rw [any_no (fun q h => hno q zy)]; decide)⟩⟩

theorem ctf_spec (hs : HSt) (hro : ∀ e ∈ hs, e.w = false) (A : List Int) (va : AV) (hA : RIn hs 1 A.length (cA A) va) (hAl : A.length ≤ 1048576) (i : Int) (bi : Nat) (mi : MemH hs bi ⟨1, true, [.int .i64 i]⟩) : Spec tab 50 [va, .func 51 [.ptr bi 0]] [] hs (Val (.bool (A.any (badK i)))) := by
 refine Spec.en (ftg 50 Tryz.func50) rfl (m := 9) rfl (rs := [.tmp 4]) rfl (st := [(0, va), (1, .func 51 [.ptr bi 0])]) rfl rfl (fun _ => rfl) (fun E => zr (za rfl (zk (zr (zm rfl (zm rfl (WO.callE rfl (oLc rfl (oLc rfl oz)) rfl (ixf_spec hs hro A _ hA hAl i bi mi) (SubR.s hro) rfl (fun v7 hP7 => ?_))))))))
 obtain ⟨r, rfl, hr⟩ := hP7
 refine zq (Q.bin rfl (zi 0) rfl (bv_geq le_int)) (za rfl (zk (W.ret (End.rV (z1 rfl) ?_))))
 exact congrArg AV.bool (bool_dec hr)

theorem chk_spec (hs : HSt) (hro : ∀ e ∈ hs, e.w = false) (L : List IE) (v : AV) (hV : IIn hs L v) (hB : ILB L) : Spec tab 22 [v] [] hs (Val (.int .i64 ((chkI L : Nat) : Int))) := by
 have hBl := hB.1
 refine Spec.en (ftg 22 Tryz.func22) rfl (m := 32) rfl (rs := [.tmp 2]) rfl (st := [(0, v)]) rfl rfl (fun _ => rfl) (fun E => zr (za (zi 0) (zk (W.seq (W.block (zr (zm rfl (zq (Q.len ud30 rfl hV.1.len) (zq (Q.bin rfl (zi 0) rfl (bv_eql eq_nat)) (za rfl (zk (W.cD rfl (fun hc5 => ?_) (fun hc5 => ?_)))))))))))))
 ·refine zr (za (zi 2) (zk (W.ret (End.Br (End.Kr (End.rV (z1 rfl) ?_))))))
  rw [chk_a (by simpa using hc5)]; rfl
 refine zr (zm rfl (zq (Q.len ud30 rfl hV.1.len) (zq (Q.bin rfl (zi 1024) rfl (bv_gtr ltn)) (za rfl (zk (W.cD rfl (fun hc9 => ?_) (fun hc9 => ?_)))))))
 ·refine zr (za (zi 3) (zk (W.ret (End.Br (End.Kr (End.rV (z1 rfl) ?_))))))
  rw [chk_b zy zy]; rfl
 refine W.skip (End.KB (End.K (W.seq (zr (zm rfl (zq (Q.len ud30 rfl hV.1.len) (zq (Q.move (zi 0)) (zk (W.block (W.loop_ind (fun (i : Nat) => [(13, v), (14, .int .i64 ((L.length : Nat) : Int)), (15, .int .i64 ((i : Nat) : Int))]) (fun (i : Nat) => hs) (fun (i : Nat) => i ≤ L.length ∧ ∀ j, j < i → okI L j = true) (fun (i : Nat) => L.length - i) (0) ⟨Nat.zero_le _, fun j h => absurd h (Nat.not_lt_zero _)⟩ zv (SubH.refl _) (fun i hI0 ih0 => ?_)))))))))))
 obtain ⟨h1, h2⟩ := hI0
 refine zr (zq (Q.bin rfl rfl rfl (bvl ltn)) (zk (W.seq (W.cD rfl (fun hc16 => ?_) (fun hc16 => ?_)))))
 ·obtain ⟨bv, szv, exv, rfl, wv, mv⟩ := hV.1.full zy
  refine zw (W.seq (W.block (zr (zm rfl (zq (Q.iS ud30 sz42 rfl rfl zo) (zq (Q.loadN rfl mv ag42 sz42 (cI_at zo)) (WO.alloc ao3 rfl (fun b1 => WO.alloc ao42 rfl (fun b2 => WO.store sz3 rfl rfl (i := 1) rfl rfl (cs := [_]) rfl (hs' := _ :: _ :: _) rfl (WO.store sz42 rfl rfl (i := 0) rfl (and_tt rfl (IOK.cells (hV.at zy))) (cs := [_, _, _, _, _, _, _, _, _, _, _, _]) rfl (hs' := _ :: _ :: _) rfl (zk (zr (zf fa42_0 rfl 0 (zf fa26_10 rfl 10 (zq (Q.l1 rfl (zt 0 rfl) ag24 rfl) (zq (Q.len ud24 rfl (hV.at zo).k.len) (zq (Q.bin rfl (zi 0) rfl (bv_gtr ltn)) (zm rfl (WO.sD (d := 25) rfl (fun hc25 => ?_) (fun hc25 => ?_))))))))))))))))))))
  ·refine zG (zG (zG (zG (zq (Q.pT rfl rfl) (zk (W.sub (zc 30 rfl (zc 13 rfl (zc 14 rfl (zc 15 rfl zzn)))) (W.condT rfl (zr (za (zi 2) (zk (W.ret (End.Br (End.Kr (End.Lr (End.Br (End.Kr (End.rV (z1 rfl) ?_)))))))))))))))))
   rw [chk_c (i := i) zy zy zy (by unfold okI; simp_all; omega)]; rfl
  refine zT (zf fa42_1 rfl 11 (zT (zq (Q.l1 rfl (zt 0 rfl) ag40 rfl) (zT (zq (Q.makeF (oLc rfl oz)) (zT (WO.cV rfl (oLc rfl (oLc rfl oz)) rfl (ctf_spec (ro [⟨b1, ⟨1, true, [.int .i64 ((i : Nat) : Int)]⟩, true⟩] ++ hs) (ro_app hro) _ _ (hV.at zy).a.app (hB.at zy).a _ b1 ⟨_, List.mem_cons_self⟩) (SubR.mix gc hro) rfl (zq (Q.pF rfl rfl) (zk (W.sub (zc 30 rfl (zc 13 rfl (zc 14 rfl (zc 15 rfl zzn)))) (W.condS rfl (fun hc30 => ?_) (fun hc30 => ?_))))))))))))
  ·refine zr (za (zi 2) (zk (W.ret (End.Br (End.Kr (End.Lr (End.Br (End.Kr (End.rV (z1 rfl) ?_)))))))))
   rw [chk_c (i := i) zy zy zy (by unfold okI; simp_all)]; rfl
  refine W.skip (End.KB (End.K (W.reg (zq (Q.bin rfl (zi 1) rfl zp) (zm rfl (WO.nil (End.KL (W.sub zv (W.sH gc (ih0 (i + 1) ?_ ?_))))))))))
  ·exact ⟨by omega, fun j hj => by rcases Nat.lt_or_ge j i with q | q; exact h2 j q; obtain rfl : j = i := zy; unfold okI; simp_all⟩
  exact zo
 refine W.exit (End.Kx (End.Lx (End.Bh (End.K (zr (za (zi 0) (zk (W.ret (End.rV (z1 rfl) ?_)))))))))
 rw [chk_d zy zy (fun j hj => h2 j zy)]; rfl
theorem bv_eqNN {tb : Tab} {t e : Nat} (hu : tb.und t = some (.slice e)) : evBin tb .eql t .nils .nils = some (.bool true) := by
 show (match eqIn tb 20 t .nils .nils with | some b => some (AV.bool b) | none => none) = _
 unfold eqIn
 simp only [hu]
 rfl
theorem bv_eqSN {tb : Tab} {t e b o n z : Nat} (hu : tb.und t = some (.slice e)) : evBin tb .eql t (.slice b o n z) .nils = some (.bool false) := by
 show (match eqIn tb 20 t (.slice b o n z) .nils with | some b => some (AV.bool b) | none => none) = _
 unfold eqIn
 simp only [hu]
 rfl
theorem cells_cell {v : AV} (h : v.isCell = true) : v.cells = [v] := by cases v <;> first | rfl | cases h
theorem ck1 {v : AV} {o n : Nat} (h : v.isCell = true) (hle : Nat.ble (o + 1) n = true) : (Nat.beq v.cells.length 1 && Nat.ble (o + 1) n && v.cells.all AV.isCell) = true := by
 rw [cells_cell h, hle]; simp [h]
theorem lay_3 {a0 a1 a2 a3 v : AV} {b : List AV} (h : v.isCell = true) : layL (a0 :: a1 :: a2 :: a3 :: b) 3 v.cells = a0 :: a1 :: a2 :: v :: b := by
 rw [cells_cell h]; simp [layL]
theorem lay_7 {a0 a1 a2 a3 a4 a5 a6 a7 v : AV} {b : List AV} (h : v.isCell = true) : layL (a0 :: a1 :: a2 :: a3 :: a4 :: a5 :: a6 :: a7 :: b) 7 v.cells = a0 :: a1 :: a2 :: a3 :: a4 :: a5 :: a6 :: v :: b := by
 rw [cells_cell h]; simp [layL]
theorem lay_10 {a0 a1 a2 a3 a4 a5 a6 a7 a8 a9 a10 v : AV} {b : List AV} (h : v.isCell = true) : layL (a0 :: a1 :: a2 :: a3 :: a4 :: a5 :: a6 :: a7 :: a8 :: a9 :: a10 :: b) 10 v.cells = a0 :: a1 :: a2 :: a3 :: a4 :: a5 :: a6 :: a7 :: a8 :: a9 :: v :: b := by
 rw [cells_cell h]; simp [layL]
theorem lay_set : ∀ (l : List AV) (j : Nat) (v : AV), j < l.length → layL l j [v] = l.set j v
 | x :: l, 0, v, _ => by simp [layL]
 | x :: l, j + 1, v, h => by simp only [layL, List.set_cons_succ, lay_set l j v (by simpa using h)]
theorem nd_cells {d : ND} {vm vn vk : AV} (hm : vm.isCell = true) (hn : vn.isCell = true) (hk : vk.isCell = true) : (((AV.agg (d.c vm vn vk)).cells).all AV.isCell) = true := by
 show ((d.c vm vn vk).all AV.isCell) = true
 simp only [ND.c, nodeC, List.all_cons, List.all_nil, hm, hn, hk, Bool.and_true, Bool.true_and]
 rfl
theorem nd_ck {d : ND} {vm vn : AV} (hm : vm.isCell = true) (hn : vn.isCell = true) : (Nat.beq (AV.agg (d.c vm vn .nils)).cells.length 11 && Nat.ble (0 + 11) 11 && ((AV.agg (d.c vm vn .nils)).cells).all AV.isCell) = true := and_tt rfl (nd_cells hm hn rfl)
theorem ai_mem {A : List Int} {q : Nat} (h : q < A.length) : ai A q ∈ A := List.mem_of_getElem? (ai_at h)
theorem cA_atN {A : List Int} {q : Nat} (h : q < A.length) (g : 0 ≤ ai A q) : (cA A)[(0 + q) * 1]? = some (.int .i64 (((ai A q).toNat : Nat) : Int)) := by
 rw [cA_at h, Int.toNat_of_nonneg g]
def mvA (U A : List Int) : List Int := A.map fun a => ai U a.toNat
theorem mv_snoc {U A : List Int} {i : Nat} (h : i < A.length) : cA (mvA U (A.take (i + 1))) = cA (mvA U (A.take i)) ++ [.int .i64 (ai U (ai A i).toNat)] := by
 rw [List.take_add_one, ai_at h]
 unfold mvA cA
 rw [List.map_append, List.map_append]; rfl
theorem ag22 : tab.isAgg 22 = some false := by kernel_rfl
theorem ag23 : tab.isAgg 23 = some false := by kernel_rfl
theorem ag26 : tab.isAgg 26 = some true := by kernel_rfl
theorem ao26 : AO tab 26 = some ⟨11, true, [.int .i64 0, .str [], .int .i64 0, .nils, .int .i64 0, .int .i64 0, .int .i64 0, .nils, .int .i64 0, .bool false, .nils]⟩ := by kernel_rfl
theorem ap22_22 : AP tab 22 22 = some 3 := by kernel_rfl
theorem ap23_23 : AP tab 23 23 = some 1 := by kernel_rfl
theorem ap40_40 : AP tab 40 40 = some 1 := by kernel_rfl
theorem bx26 : ∀ l : List AV, l.length = 11 → varObj tab 26 l = ⟨11, true, l⟩ := by intro l h; exact varObj_plain (by kernel_rfl) h
theorem fa26_3 : FA tab 26 3 = some (3, 0 + 1) := by kernel_rfl
theorem fa26_7 : FA tab 26 7 = some (7, 0 + 1) := by kernel_rfl
theorem sz22 : tab.size 22 = some 1 := by kernel_rfl
theorem sz23 : tab.size 23 = some 1 := by kernel_rfl
theorem sz24 : tab.size 24 = some 1 := by kernel_rfl
theorem sz26 : tab.size 26 = some 11 := by kernel_rfl
theorem sz9 : tab.size 9 = some 1 := by kernel_rfl
theorem sz91 : tab.size 91 = some 3 := by kernel_rfl
theorem ud22 : tab.und 22 = some (.slice 91) := by kernel_rfl
theorem ud23 : tab.und 23 = some (.slice 9) := by kernel_rfl
theorem zr3 : tab.zero 3 = some (.int .i64 0) := by kernel_rfl
theorem zr9 : tab.zero 9 = some (.str []) := by kernel_rfl
theorem zr91 : tab.zero 91 = some (.agg [.int .i64 0, .str [], .str []]) := by kernel_rfl
theorem clm_nil  : Spec tab 69 [.nils] [] [] (Val (.nils)) := by
 refine Spec.en (ftg 69 Tryz.func69) rfl (m := 8) rfl (rs := [.tmp 2]) rfl (st := [(0, .nils)]) rfl rfl (fun _ => rfl) (fun E => zr (za rfl (zk (W.seq (zr (zm rfl (zq (Q.bin rfl rfl rfl (bv_eqNN ud22)) (zk (W.condT rfl (zr (za rfl (zk (W.ret (End.Kr (End.rV (z1 rfl) ?_)))))))))))))))
 rfl

theorem clm_some (hs : HSt) (hro : ∀ e ∈ hs, e.w = false) (n : Nat) (cells : List AV) (b : Nat) (ha : RIn hs 3 n cells (.slice b 0 n 3)) (hn : n ≤ 2097152) : Spec tab 69 [.slice b 0 n 3] [] hs (fun v D => OwnE 3 cells n v D) := by
 refine Spec.en (ftg 69 Tryz.func69) rfl (m := 8) rfl (rs := [.tmp 2]) rfl (st := [(0, .slice b 0 n 3)]) rfl rfl (fun _ => rfl) (fun E => zr (za rfl (zk (W.seq (zr (zm rfl (zq (Q.bin rfl rfl rfl (bv_eqSN ud22)) (zk (W.condF rfl (zw (zr (WO.bslice ud22 sz91 zr91 rfl oPs_nil rfl (cs := []) rfl rfl rfl (fun b1 => zm rfl (WO.appAny (A := _) ap22_22 (OwnE.cons rfl) rfl rfl (Src.mono (fun e he => MemH.tl ⟨e.w, by obtain ⟨b, o, w⟩ := e; exact he⟩) ha.src) ha.length zy (by decide) (SubH.op (List.perm_append_singleton _ _)) rfl (fun v7 hp7 hO7 => za rfl (zk (W.ret ?_)))))))))))))))))
 refine End.ret (z1 rfl) (hs' := hp7) (by rw [one1]; simpa using hO7) (OwnE.w hO7) gc

theorem cls_nil  : Spec tab 70 [.nils] [] [] (Val (.nils)) := by
 refine Spec.en (ftg 70 Tryz.func70) rfl (m := 8) rfl (rs := [.tmp 2]) rfl (st := [(0, .nils)]) rfl rfl (fun _ => rfl) (fun E => zr (za rfl (zk (W.seq (zr (zm rfl (zq (Q.bin rfl rfl rfl (bv_eqNN ud23)) (zk (W.condT rfl (zr (za rfl (zk (W.ret (End.Kr (End.rV (z1 rfl) ?_)))))))))))))))
 rfl

theorem cls_some (hs : HSt) (hro : ∀ e ∈ hs, e.w = false) (n : Nat) (cells : List AV) (b : Nat) (ha : RIn hs 1 n cells (.slice b 0 n 1)) (hn : n ≤ 2097152) : Spec tab 70 [.slice b 0 n 1] [] hs (fun v D => OwnE 1 cells n v D) := by
 refine Spec.en (ftg 70 Tryz.func70) rfl (m := 8) rfl (rs := [.tmp 2]) rfl (st := [(0, .slice b 0 n 1)]) rfl rfl (fun _ => rfl) (fun E => zr (za rfl (zk (W.seq (zr (zm rfl (zq (Q.bin rfl rfl rfl (bv_eqSN ud23)) (zk (W.condF rfl (zw (zr (WO.bslice ud23 sz9 zr9 rfl oPs_nil rfl (cs := []) rfl rfl rfl (fun b1 => zm rfl (WO.appAny (A := _) ap23_23 (OwnE.cons rfl) rfl rfl (Src.mono (fun e he => MemH.tl ⟨e.w, by obtain ⟨b, o, w⟩ := e; exact he⟩) ha.src) ha.length zy (by decide) (SubH.op (List.perm_append_singleton _ _)) rfl (fun v7 hp7 hO7 => za rfl (zk (W.ret ?_)))))))))))))))))
 refine End.ret (z1 rfl) (hs' := hp7) (by rw [one1]; simpa using hO7) (OwnE.w hO7) gc

theorem clm_spec (hs : HSt) (hro : ∀ e ∈ hs, e.w = false) (n : Nat) (cells : List AV) (va : AV) (ha : RIn hs 3 n cells va) (hn : n ≤ 2097152) : Spec tab 69 [va] [] hs (fun v D => OwnE 3 cells n v D) := by
 rcases id ha with ⟨rfl, rfl, rfl⟩ | ⟨b, z, ex, rfl, _, _⟩
 ·intro h hh
  obtain ⟨v, h', hs', h1, ⟨h2, h3⟩, h4, h5⟩ := clm_nil h (hh.sub (SubH.nil _))
  exact ⟨v, h', hs', h1, .inl ⟨rfl, rfl, h2, h3⟩, h4, h5⟩
 ·exact clm_some hs hro n cells b ha hn
theorem cls_spec (hs : HSt) (hro : ∀ e ∈ hs, e.w = false) (n : Nat) (cells : List AV) (va : AV) (ha : RIn hs 1 n cells va) (hn : n ≤ 2097152) : Spec tab 70 [va] [] hs (fun v D => OwnE 1 cells n v D) := by
 rcases id ha with ⟨rfl, rfl, rfl⟩ | ⟨b, z, ex, rfl, _, _⟩
 ·intro h hh
  obtain ⟨v, h', hs', h1, ⟨h2, h3⟩, h4, h5⟩ := cls_nil h (hh.sub (SubH.nil _))
  exact ⟨v, h', hs', h1, .inl ⟨rfl, rfl, h2, h3⟩, h4, h5⟩
 ·exact cls_some hs hro n cells b ha hn
theorem bare_spec (hs : HSt) (hro : ∀ e ∈ hs, e.w = false) (d : ND) (vm vn vk : AV) (hm : RIn hs 3 d.ms.length (cM d.ms) vm) (hn : RIn hs 1 d.nm.length (cS d.nm) vn) (nk : Nat) (hk : KLn vk nk) (hd : d.bd) : Spec tab 37 [.agg (d.c vm vn vk)] [] hs (fun v D => ∃ vm2 vn2 Dm Dn, v = .agg (d.c vm2 vn2 .nils) ∧ OwnE 3 (cM d.ms) d.ms.length vm2 Dm ∧ OwnE 1 (cS d.nm) d.nm.length vn2 Dn ∧ D = Dm ++ Dn) := by
 refine Spec.en (ftg 37 Tryz.func37) rfl (m := 13) rfl (rs := [.cell 2 26]) rfl (st := [(0, .agg (d.c vm vn vk))]) rfl rfl (fun _ => rfl) (fun E => zr (WO.box rfl (nd_cells hm.cell hn.cell hk.cell) (bx26 _ rfl) rfl (fun b1 => WO.alloc ao26 rfl (fun b2 => zk (zr (zf fa26_10 rfl 10 (zS sz24 rfl rfl (i := 1) rfl rfl rfl (hs' := _ :: _ :: _) rfl (zk (W.seq (W.regD 7 _ (by kernel_rfl) (KIn.refl _) (WD.q (Q.fieldAddr fa26_3 rfl (o' := 3) rfl) bqp rfl (WD.q (Q.l1 rfl (zt 1 rfl) ag22 rfl) hm.bq rfl (WD.call0 rfl (oLc rfl oz) rfl (clm_spec hs hro _ _ _ hm (by have := hd.2.1.1; omega)) (SubR.t (SubR.t (SubR.s hro))) (KIn.refl _) rfl (fun v6 D6 hP6 => WD.subH (hs' := _ :: _ :: (hs ++ D6)) (SubH.op (perm_tail (N := []) (G := D6) (K := [_, _]) (X := hs))) (WD.q (Q.fieldAddr fa26_7 rfl (o' := 7) rfl) bqp rfl (WD.q (Q.l1 rfl (zt 1 rfl) ag23 rfl) hn.bq rfl (WD.call0 rfl (oLc rfl oz) rfl (cls_spec hs hro _ _ _ hn (by have := hd.2.2.1; omega)) (SubR.t (SubR.t (SubR.appl (SubR.s hro)))) (KIn.ofH gc) rfl (fun v9 D9 hP9 => WD.subH (hs' := _ :: _ :: (hs ++ D6 ++ D9)) (SubH.op (perm_tail (N := []) (G := D9) (K := [_, _]) (X := hs ++ D6))) (WD.q (Q.fieldAddr fa26_3 rfl (o' := 3) rfl) bqp rfl (WD.store sz22 rfl rfl (j := 1) rfl (ck1 (OwnE.cell hP6) rfl) (cs := [_, _, _, _, _, _, _, _, _, _, _]) (lay_3 (OwnE.cell hP6)) (hs' := _ :: _ :: _) rfl (fun h => by cases h) (WD.q (Q.fieldAddr fa26_7 rfl (o' := 7) rfl) bqp rfl (WD.store sz23 rfl rfl (j := 1) rfl (ck1 (OwnE.cell hP9) rfl) (cs := [_, _, _, _, _, _, _, _, _, _, _]) (lay_7 (OwnE.cell hP9)) (hs' := _ :: _ :: _) rfl (fun h => by cases h) (WD.nil ?_)))))))))))))))))))))))
 refine End.K (zr (zq (zL rfl (zt 1 rfl) ag26 sz26 rfl) (zS sz26 rfl rfl (i := 0) rfl (nd_ck (OwnE.cell hP6) (OwnE.cell hP9)) rfl (hs' := _ :: _ :: _) rfl (zk (W.ret ?_)))))
 refine End.ret (zA rfl (zt 0 rfl) ag26 sz26 rfl ResL.nil) (hs' := D6 ++ D9) ⟨v6, v9, D6, D9, rfl, hP6, hP9, rfl⟩ (wa (OwnE.w hP6) (OwnE.w hP9)) gc

theorem mov_spec (hs : HSt) (hro : ∀ e ∈ hs, e.w = false) (A : List Int) (va : AV) (hA : RIn hs 1 A.length (cA A) va) (hAl : A.length ≤ 1048576) (U : List Int) (vu : AV) (hU : RIn hs 1 U.length (cA U) vu) (hok : ∀ a ∈ A, 0 ≤ a ∧ a < U.length) (hUl : U.length ≤ 1048576) : Spec tab 43 [va, vu] [] hs (fun v D => OwnE 1 (cA (mvA U A)) A.length v D) := by
 refine Spec.en (ftg 43 Tryz.func43) rfl (m := 23) rfl (rs := [.tmp 4]) rfl (st := [(0, va), (1, vu)]) rfl rfl (fun _ => rfl) (fun E => zr (za rfl (zk (zr (za rfl (zk (W.seq (zr (zm rfl (zq (Q.len ud40 rfl hA.len) (zq (Q.move (zi 0)) (zk (W.block (W.loop_ind3 (fun (i : Nat) (u : AV) (hp : HSt) => [(1, vu), (5, u), (8, va), (9, .int .i64 ((A.length : Nat) : Int)), (10, .int .i64 ((i : Nat) : Int))]) (fun (i : Nat) (u : AV) (hp : HSt) => (hs ++ hp)) (fun (i : Nat) (u : AV) (hp : HSt) => i ≤ A.length ∧ OwnE 1 (cA (mvA U (A.take i))) i u hp) (fun (i : Nat) (u : AV) (hp : HSt) => A.length - i) (0) (.nils) ([]) ⟨Nat.zero_le _, OwnE.nil 1⟩ zv (by rw [List.append_nil]; exact SubH.refl _) (fun i u hp hI0 ih0 => ?_)))))))))))))))
 obtain ⟨h1, hO⟩ := hI0
 refine zr (zq (Q.bin rfl rfl rfl (bvl ltn)) (zk (W.seq (W.cD rfl (fun hc11 => ?_) (fun hc11 => ?_)))))
 ·obtain ⟨ba, sza, exa, rfl, wa, ma⟩ := hA.full zy
  have hq := hok _ (ai_mem (A := A) (q := i) zy)
  obtain ⟨bu, szu, exu, rfl, wu, mu⟩ := hU.full zy
  refine zw (W.seq (W.block (zr (zq (Q.iS ud40 sz3 rfl rfl zo) (zq (Q.l1 rfl (List.mem_append_left _ ma) ag3 (cA_atN zo (hok _ (ai_mem zo)).1)) (za rfl (zk (W.reg (zm rfl (zm rfl (zm rfl (zq (Q.iS ud40 sz3 rfl rfl zo) (zq (Q.l1 rfl (List.mem_append_left _ mu) ag3 (cA_at zo)) (WO.bslice ud40 sz3 zr3 rfl (opc rfl oPs_nil) rfl (cs := [_]) rfl rfl rfl (fun b1 => WO.appAny (A := ([] ++ hs)) ap40_40 hO rfl rfl (Src.slice (zt 0 rfl) rfl) rfl zy (by decide) (SubH.of_sublist (List.sublist_cons_self _ _)) rfl (fun v20 hp20 hO20 => za rfl (WO.nil (End.KB (End.K (W.reg (zq (Q.bin rfl (zi 1) rfl zp) (zm rfl (WO.nil (End.KL ?_))))))))))))))))))))))))
  refine W.sub zv (W.sH gc (ih0 (i + 1) (v20) (hp20) ?_ ?_))
  ·exact ⟨by omega, by rw [mv_snoc zy]; exact hO20⟩
  exact zo
 refine W.exit (End.Kx (End.Lx (End.Bh (End.K (zr (zm rfl (za rfl (zk (W.ret ?_)))))))))
 refine End.ret (z1 rfl) (hs' := hp) (by rw [List.take_of_length_le zy] at hO; exact (show i = A.length by omega) ▸ hO) (OwnE.w hO) gc
end Go.Proofs.YtndhhgbpcmfeiaaGreatDoor.Ev
