/- Chapter 8, by the document: matchers, as far as they end. -/
import Derived.Test.YtndhhgbpcmfeiaaGreatDoorMVi
namespace Go.Proofs.YtndhhgbpcmfeiaaGreatDoor.Ev.P16
open Go.RowKit
set_option linter.unusedVariables false
set_option linter.unusedSimpArgs false
set_option maxRecDepth 100000
set_option maxHeartbeats 1000000
theorem bv_beqB {tb : Tab} {t : Nat} {a b : Bool} (hu : tb.und t = some .bool) : evBin tb .eql t (.bool a) (.bool b) = some (.bool (a == b)) := by
 show (match eqIn tb 20 t (.bool a) (.bool b) with | some b => some (AV.bool b) | none => none) = _
 unfold eqIn
 simp only [hu]
 rfl
abbrev MtT := Int × List Nat × List Nat
def mC (x : MtT) : List AV := [.int .i64 x.1, .str x.2.1, .str x.2.2]
def mCs (l : List MtT) : List AV := l.flatMap mC
def mg (M : List MtT) (i : Nat) : MtT := M.getD i (0, [], [])
theorem mC_len (t : MtT) : (mC t).length = 3 := rfl
theorem mCs_cons (t : MtT) (L : List MtT) : mCs (t :: L) = mC t ++ mCs L := by simp [mCs]
theorem mCs_len : ∀ L : List MtT, (mCs L).length = L.length * 3
 | [] => rfl
 | t :: L => by rw [mCs_cons, List.length_append, mC_len, mCs_len L, List.length_cons]; omega
theorem mCs_get : ∀ (L : List MtT) (i j : Nat), i < L.length → j < 3 → (mCs L)[i * 3 + j]? = (mC (mg L i))[j]?
 | [], i, j, h, _ => by simp at h
 | t :: L, 0, j, h, hj => by
  rw [mCs_cons, List.getElem?_append_left (by rw [mC_len]; omega)]
  simp [mg]
 | t :: L, i + 1, j, h, hj => by
  rw [mCs_cons, List.getElem?_append_right (by rw [mC_len]; omega), mC_len]
  have : (i + 1) * 3 + j - 3 = i * 3 + j := by omega
  rw [this, mCs_get L i j (by simpa using h) hj]
  rfl
theorem msub {L : List MtT} {i : Nat} (h : i < L.length) : sub? (mCs L) ((0 + i) * 3) 3 = some (mC (mg L i)) := by
 unfold sub?
 have hle : Nat.ble ((0 + i) * 3 + 3) (mCs L).length = true := by rw [mCs_len]; apply Nat.ble_eq.mpr; omega
 simp only [hle]
 congr 1
 apply List.ext_getElem?
 intro j
 rw [List.getElem?_take, List.getElem?_drop]
 split
 ·rename_i hj
  rw [Nat.zero_add, mCs_get L i j h hj]
 ·rw [List.getElem?_eq_none (by rw [mC_len]; omega)]
def ISm (hs : HSt) (M : List MtT) (v : AV) : Prop := (v = .nils ∧ M = []) ∨ ∃ b ex, v = .slice b 0 M.length 3 ∧ MemH hs b ⟨3, ex, mCs M⟩
theorem ism_len {hs : HSt} {M : List MtT} {v : AV} {e : Nat} (h : ISm hs M v) : lenA (.slice e) v = some M.length := by
 rcases h with ⟨rfl, rfl⟩ | ⟨b, ex, rfl, _⟩ <;> rfl
theorem ism_full {hs : HSt} {M : List MtT} {v : AV} (h : ISm hs M v) (hl : 0 < M.length) : ∃ b ex, v = .slice b 0 M.length 3 ∧ MemH hs b ⟨3, ex, mCs M⟩ := by
 rcases h with ⟨_, rfl⟩ | h
 ·simp at hl
 ·exact h
def MOk (M : List MtT) : Prop := ∀ x ∈ M, Bytes x.2.1 ∧ x.2.1.length ≤ 1048576 ∧ Bytes x.2.2 ∧ x.2.2.length ≤ 1048576
theorem mok_at {M : List MtT} (h : MOk M) {i : Nat} (hi : i < M.length) : Bytes (mg M i).2.1 ∧ (mg M i).2.1.length ≤ 1048576 ∧ Bytes (mg M i).2.2 ∧ (mg M i).2.2.length ≤ 1048576 := by
 refine h _ ?_
 unfold mg
 rw [List.getD_eq_getElem?_getD, List.getElem?_eq_getElem hi]
 exact List.getElem_mem hi
theorem nam_spec (s : List Nat) (hs : Bytes s) (hl : s.length ≤ 1048576) : Spec tab 134 [.str s] [] [] (ValE (fun v => ∃ b : Bool, v = .bool b)) := by
 refine Spec.en (ftg 134 Tryz.func134) rfl (m := 54) rfl (rs := [.tmp 2]) rfl (st := [(0, .str s)]) rfl rfl (fun _ => rfl) (fun E => zr (za rfl (zk (W.seq (zr (za (zi 0) (zk (W.block (W.loop_ind (fun (i : Nat) => [(0, .str s), (3, .int .i64 ((i : Nat) : Int))]) (fun _ => _) (fun (i : Nat) => i ≤ s.length) (fun (i : Nat) => s.length - i) (0) (Nat.zero_le _) zv (SubH.refl _) (fun i hI0 ih0 => ?_))))))))))
 have hi := hI0
 refine W.seq (zr (zm rfl (zm rfl (zq (Q.len ud9 rfl rfl) (zq (Q.bin rfl rfl rfl (bvl ltn)) (zk (W.cD rfl (fun hc9 => ?_) (fun hc9 => ?_))))))))
 ·refine zw (W.seq (W.block (zr (zm rfl (zm rfl (WO.indexB hs ud9 rfl rfl zo rfl (fun c14 hd14 hb14 => za rfl (zk (W.seqK1 (fun (lt : Bool) => [(0, .str s), (3, .int .i64 ((i : Nat) : Int)), (4, .int .u8 ((c14 : Nat) : Int)), (5, .bool lt)]) (fun (lt : Bool) => True) (fun lt hI6 => ?_) (fun hJ6 => ?_))))))))))
  ·refine zr (zm rfl (zq (Q.not rfl rfl) (zm rfl (WO.split (d := 35) rfl (fun hc35 => ?_) (fun hc35 => ?_)))))
   ·refine WO.gT rfl rfl (zm rfl (WO.gT rfl rfl (zq (Q.bin rfl (zi 0) rfl (bv_eql eq_nat)) (WO.gT rfl rfl (zm rfl (WO.sD (d := 38) rfl (fun hc38 => ?_) (fun hc38 => ?_)))))))
    ·refine zg rfl rfl (zg rfl rfl (WO.gT rfl rfl (zq (Q.pT rfl rfl) (WO.gT rfl rfl (zm rfl (zg rfl rfl (zg rfl rfl (WO.gT rfl rfl (zq (Q.pT rfl rfl) (zq (Q.pT rfl rfl) (zk (W.sub (zc 46 rfl (zc 0 rfl (zc 3 rfl zzn))) (W.condT rfl (zr (za rfl (zk (W.ret (End.Br (End.Kr (End.Lr (End.Br (End.Kr (End.retE (z1 rfl) ?_)))))))))))))))))))))))
     exact ⟨_, rfl⟩
    refine WO.gT rfl rfl (zm rfl (WO.gT rfl rfl (zq (Q.bin rfl (zu 48) rfl (bvl ltn)) (WO.gT rfl rfl (zq (Q.pF rfl rfl) (WO.gT rfl rfl (zm rfl (WO.sD (d := 42) rfl (fun hc42 => ?_) (fun hc42 => ?_)))))))))
    ·refine zg rfl rfl (zg rfl rfl (WO.gT rfl rfl (zq (Q.pT rfl rfl) (zq (Q.pT rfl rfl) (zk (W.sub (zc 46 rfl (zc 0 rfl (zc 3 rfl zzn))) (W.condT rfl (zr (za rfl (zk (W.ret (End.Br (End.Kr (End.Lr (End.Br (End.Kr (End.retE (z1 rfl) ?_)))))))))))))))))
     exact ⟨_, rfl⟩
    refine WO.gT rfl rfl (zm rfl (WO.gT rfl rfl (zq (Q.bin rfl (zu 57) rfl (bv_gtr ltn)) (WO.gT rfl rfl (zq (Q.pF rfl rfl) (zq (Q.pT rfl rfl) (zk (W.sub (zc 46 rfl (zc 0 rfl (zc 3 rfl zzn))) (W.cD rfl (fun hc46 => ?_) (fun hc46 => ?_))))))))))
    ·refine zr (za rfl (zk (W.ret (End.Br (End.Kr (End.Lr (End.Br (End.Kr (End.retE (z1 rfl) ?_)))))))))
     exact ⟨_, rfl⟩
    refine W.skip (End.KB (End.K (W.reg (zm rfl (zq (Q.bin rfl (zi 1) rfl zp) (za rfl (WO.nil (End.KL (W.sub zv (ih0 (i + 1) ?_ ?_))))))))))
    ·exact (by omega)
    exact zo
   refine zg rfl rfl (zg rfl rfl (zg rfl rfl (WO.gF rfl rfl (.inr rfl) rfl (WO.gF rfl rfl (.inr rfl) rfl (zg rfl rfl (zg rfl rfl (WO.gF rfl rfl (.inr rfl) rfl (WO.gF rfl rfl (.inr rfl) rfl (zg rfl rfl (zq (Q.pF rfl rfl) (zk (W.sub (zc 46 rfl (zc 0 rfl (zc 3 rfl zzn))) (W.condF rfl (W.skip (End.KB (End.K (W.reg (zm rfl (zq (Q.bin rfl (zi 1) rfl zp) (za rfl (WO.nil (End.KL (W.sub zv (ih0 (i + 1) ?_ ?_))))))))))))))))))))))))
   ·exact (by omega)
   exact zo
  refine W.reg (zm rfl (zq (Q.bin rfl (zu 97) rfl (bv_geq le_nat)) (zm rfl (WO.sD (d := 17) rfl (fun hc17 => ?_) (fun hc17 => ?_)))))
  ·refine WO.gT rfl rfl (zm rfl (WO.gT rfl rfl (zq (Q.bin rfl (zu 122) rfl (bv_leq le_nat)) (zq (Q.pT rfl rfl) (zm rfl (WO.sD (d := 21) rfl (fun hc21 => ?_) (fun hc21 => ?_)))))))
   ·refine zg rfl rfl (zg rfl rfl (zg rfl rfl (WO.gF rfl rfl (.inr rfl) rfl (WO.gF rfl rfl (.inr rfl) rfl (zg rfl rfl (zq (Q.pT rfl rfl) (zm rfl (zg rfl rfl (zg rfl rfl (zq (Q.pT rfl rfl) (za rfl (WO.nil (End.K (W.sub zv (hJ6 (_) ?_)))))))))))))))
    exact trivial
   refine WO.gT rfl rfl (zm rfl (WO.gT rfl rfl (zq (Q.bin rfl (zu 65) rfl (bv_geq le_nat)) (WO.gT rfl rfl (zm rfl (WO.sD (d := 24) rfl (fun hc24 => ?_) (fun hc24 => ?_)))))))
   ·refine WO.gT rfl rfl (zm rfl (WO.gT rfl rfl (zq (Q.bin rfl (zu 90) rfl (bv_leq le_nat)) (WO.gT rfl rfl (zq (Q.pT rfl rfl) (zq (Q.pF rfl rfl) (zm rfl (WO.sD (d := 29) rfl (fun hc29 => ?_) (fun hc29 => ?_)))))))))
    ·refine zg rfl rfl (zg rfl rfl (zq (Q.pT rfl rfl) (za rfl (WO.nil (End.K (W.sub zv (hJ6 (_) ?_)))))))
     exact trivial
    refine WO.gT rfl rfl (zm rfl (WO.gT rfl rfl (zq (Q.bin rfl (zu 95) rfl (bv_eql eq_nat)) (zq (Q.pF rfl rfl) (za rfl (WO.nil (End.K (W.sub zv (hJ6 (_) ?_)))))))))
    exact trivial
   refine zg rfl rfl (zg rfl rfl (WO.gT rfl rfl (zq (Q.pF rfl rfl) (zq (Q.pF rfl rfl) (zm rfl (WO.gT rfl rfl (zm rfl (WO.gT rfl rfl (zq (Q.bin rfl (zu 95) rfl (bv_eql eq_nat)) (zq (Q.pF rfl rfl) (za rfl (WO.nil (End.K (W.sub zv (hJ6 (_) ?_)))))))))))))))
   exact trivial
  refine zg rfl rfl (zg rfl rfl (zq (Q.pF rfl rfl) (zm rfl (WO.gT rfl rfl (zm rfl (WO.gT rfl rfl (zq (Q.bin rfl (zu 65) rfl (bv_geq le_nat)) (WO.gT rfl rfl (zm rfl (WO.sD (d := 24) rfl (fun hc24 => ?_) (fun hc24 => ?_)))))))))))
  ·refine WO.gT rfl rfl (zm rfl (WO.gT rfl rfl (zq (Q.bin rfl (zu 90) rfl (bv_leq le_nat)) (WO.gT rfl rfl (zq (Q.pT rfl rfl) (zq (Q.pF rfl rfl) (zm rfl (WO.sD (d := 29) rfl (fun hc29 => ?_) (fun hc29 => ?_)))))))))
   ·refine zg rfl rfl (zg rfl rfl (zq (Q.pT rfl rfl) (za rfl (WO.nil (End.K (W.sub zv (hJ6 (_) ?_)))))))
    exact trivial
   refine WO.gT rfl rfl (zm rfl (WO.gT rfl rfl (zq (Q.bin rfl (zu 95) rfl (bv_eql eq_nat)) (zq (Q.pF rfl rfl) (za rfl (WO.nil (End.K (W.sub zv (hJ6 (_) ?_)))))))))
   exact trivial
  refine zg rfl rfl (zg rfl rfl (WO.gT rfl rfl (zq (Q.pF rfl rfl) (zq (Q.pF rfl rfl) (zm rfl (WO.gT rfl rfl (zm rfl (WO.gT rfl rfl (zq (Q.bin rfl (zu 95) rfl (bv_eql eq_nat)) (zq (Q.pF rfl rfl) (za rfl (WO.nil (End.K (W.sub zv (hJ6 (_) ?_)))))))))))))))
  exact trivial
 refine W.exit (End.Kx (End.Lx (End.Bh (End.K (zr (zm rfl (zq (Q.bin rfl (oc (v := .str []) (by kernel_rfl)) rfl bv_sneq) (zm rfl (WO.sD (d := 49) rfl (fun hc49 => ?_) (fun hc49 => ?_))))))))))
 ·refine WO.gT rfl rfl (zm rfl (WO.gT rfl rfl (zq (Q.len ud9 rfl rfl) (WO.gT rfl rfl (zq (Q.bin rfl (zi 32) rfl (bv_leq le_nat)) (zq (Q.pT rfl rfl) (za rfl (zk (W.ret (End.retE (z1 rfl) ?_))))))))))
  exact ⟨_, rfl⟩
 refine zg rfl rfl (zg rfl rfl (zg rfl rfl (zq (Q.pF rfl rfl) (za rfl (zk (W.ret (End.retE (z1 rfl) ?_)))))))
 exact ⟨_, rfl⟩

theorem get_spec (s : List Nat) (hs : Bytes s) : Spec tab 194 [.nils, .str s] [] [] (Val (.str [])) := by
 refine Spec.en (ftg 194 Tryz.func194) rfl (m := 24) rfl (rs := [.tmp 4]) rfl (st := [(0, .nils), (1, .str s)]) rfl rfl (fun _ => rfl) (fun E => zr (zq (Q.assign (oc (v := .str []) (by kernel_rfl))) (zk (W.seq (zr (za (zi 0) (zk (W.block (W.loop (W.seq (zr (zm rfl (zm rfl (zq (Q.len ud188 rfl rfl) (zq (Q.bin rfl rfl rfl (bvl (p := false) rfl)) (zk (W.condF rfl (W.exit (End.Kx (End.Lx (End.Bh (End.K (zr (zq (Q.assign (oc (v := .str []) (by kernel_rfl))) (zk (W.ret ?_))))))))))))))))))))))))))
 refine End.rV (z1 rfl) ?_
 rfl

theorem mchk_spec (k : Int) (n u : List Nat) (hn : Bytes n) (hu : Bytes u) (hnl : n.length ≤ 1048576) (hul : u.length ≤ 1048576) : Spec tab 172 [.agg [.int .i64 k, .str n, .str u]] [] [] (ValE (fun v => ∃ x : Int, v = .int .i64 x)) := by
 refine Spec.en (ftg 172 Tryz.func172) rfl (m := 25) rfl (rs := [.tmp 2]) rfl (st := [(0, .agg [.int .i64 k, .str n, .str u])]) rfl rfl (fun _ => rfl) (fun E => zr (WO.box rfl rfl (bx91 _ rfl) rfl (fun b1 => za (zi 0) (zk (W.seq (zr (zf fa91_0 rfl 0 (zq (Q.l1 rfl (zt 0 rfl) ag3 rfl) (zq (Q.bin rfl (zi 1) rfl (bvl (ltA_eq _ _))) (zm rfl (WO.sD (d := 6) rfl (fun hc6 => ?_) (fun hc6 => ?_))))))))))))
 ·refine zg rfl rfl (zg rfl rfl (zg rfl rfl (zq (Q.pT rfl rfl) (zk (W.condT rfl (zr (za (zi 2) (zk (W.ret (End.Kr (End.retE (z1 rfl) ?_)))))))))))
  exact ⟨_, rfl⟩
 refine WO.gT rfl rfl (zf fa91_0 rfl 0 (WO.gT rfl rfl (zq (Q.l1 rfl (zt 0 rfl) ag3 rfl) (WO.gT rfl rfl (zq (Q.bin rfl (zi 4) rfl (bv_gtr (ltA_eq _ _))) (zq (Q.pF rfl rfl) (zk (W.cD rfl (fun hc10 => ?_) (fun hc10 => ?_)))))))))
 ·refine zr (za (zi 2) (zk (W.ret (End.Kr (End.retE (z1 rfl) ?_)))))
  exact ⟨_, rfl⟩
 refine zw (W.seq (zr (zf fa91_1 rfl 1 (zq (Q.l1 rfl (zt 0 rfl) ag9 rfl) (WO.callE rfl (oLc rfl oz) rfl (nam_spec _ hn (by omega)) SubR.nil rfl (fun v13 hP13 => ?_))))))
 obtain ⟨nb, rfl⟩ := hP13
 refine zq (Q.not rfl rfl) (zk (W.condS rfl (fun hc14 => ?_) (fun hc14 => ?_)))
 ·refine zr (za (zi 8) (zk (W.sub (zc 2 rfl zzn) (W.ret (End.Kr (End.retE (z1 rfl) ?_))))))
  exact ⟨_, rfl⟩
 refine zw (W.sub (zc 1 rfl zzn) (W.seq (zr (zf fa91_2 rfl 2 (zq (Q.l1 rfl (zt 0 rfl) ag9 rfl) (zq (Q.len ud9 rfl rfl) (zq (Q.bin rfl (zi 64) rfl (bv_gtr ltn)) (zk (W.cD rfl (fun hc18 => ?_) (fun hc18 => ?_))))))))))
 ·refine zr (za (zi 3) (zk (W.ret (End.Kr (End.retE (z1 rfl) ?_)))))
  exact ⟨_, rfl⟩
 refine zw (W.seq (zr (zf fa91_0 rfl 0 (zq (Q.l1 rfl (zt 0 rfl) ag3 rfl) (zq (Q.bin rfl (zi 2) rfl (bv_gtr (ltA_eq _ _))) (zk (W.cD rfl (fun hc21 => ?_) (fun hc21 => ?_))))))))
 ·refine zr (zf fa91_2 rfl 2 (zq (Q.l1 rfl (zt 0 rfl) ag9 rfl) (WO.callE rfl (oLc rfl oz) rfl (rcheck_spec _ hu (by omega)) SubR.nil rfl (fun v24 hP24 => ?_))))
  obtain ⟨x24, rfl, hx24⟩ := hP24
  refine za rfl (zk (W.ret (End.Kr (End.retE (z1 rfl) ?_))))
  exact ⟨_, rfl⟩
 refine zw (zr (za (zi 0) (zk (W.ret (End.retE (z1 rfl) ?_)))))
 exact ⟨_, rfl⟩

theorem mfits_spec (k : Int) (n u : List Nat) (hn : Bytes n) (hu : Bytes u) (hnl : n.length ≤ 1048576) (hul : u.length ≤ 1048576) : Spec tab 186 [.agg [.int .i64 k, .str n, .str u], .nils] [] [] (ValE (fun v => ∃ b : Bool, v = .bool b)) := by
 refine Spec.en (ftg 186 Tryz.func186) rfl (m := 38) rfl (rs := [.tmp 4]) rfl (st := [(0, .agg [.int .i64 k, .str n, .str u]), (1, .nils)]) rfl rfl (fun _ => rfl) (fun E => zr (WO.box rfl rfl (bx91 _ rfl) rfl (fun b1 => za rfl (zk (W.seq (zr (zq (Q.loadN rfl (zt 0 rfl) ag91 sz91 (l := [_, _, _]) rfl) (WO.callE rfl (oLc rfl oz) rfl (mchk_spec _ _ _ hn hu (by omega) (by omega)) SubR.nil rfl (fun v9 hP9 => ?_)))))))))
 obtain ⟨y9, rfl⟩ := hP9
 refine zq (Q.bin rfl (zi 0) rfl (bv_neq ne_int)) (zk (W.cD rfl (fun hc10 => ?_) (fun hc10 => ?_)))
 ·refine zr (za rfl (zk (W.ret (End.Kr (End.retE (z1 rfl) ?_)))))
  exact ⟨_, rfl⟩
 refine zw (zr (zm rfl (zf fa91_1 rfl 1 (zq (Q.l1 rfl (zt 0 rfl) ag9 rfl) (WO.cV rfl (oLc rfl (oLc rfl oz)) rfl (get_spec _ hn) SubR.nil rfl (za rfl (zk (W.seq (zr (zf fa91_0 rfl 0 (zq (Q.l1 rfl (zt 0 rfl) ag3 rfl) (zq (Q.bin rfl (zi 3) rfl (bvl (ltA_eq _ _))) (zk (W.cD rfl (fun hc17 => ?_) (fun hc17 => ?_)))))))))))))))
 ·refine zr (zm rfl (zf fa91_2 rfl 2 (zq (Q.l1 rfl (zt 0 rfl) ag9 rfl) (zq (Q.bin rfl rfl rfl bv_seql) (zf fa91_0 rfl 0 (zq (Q.l1 rfl (zt 0 rfl) ag3 rfl) (zq (Q.bin rfl (zi 1) rfl (bv_eql eq_int)) (zq (Q.bin rfl rfl rfl (bv_beqB ud4)) (za rfl (zk (W.sub (zc 4 rfl zzn) (W.ret (End.Kr (End.retE (z1 rfl) ?_))))))))))))))
  exact ⟨_, rfl⟩
 refine zw (zr (zf fa91_2 rfl 2 (zq (Q.l1 rfl (zt 0 rfl) ag9 rfl) (zm rfl (WO.callE rfl (oLc rfl (oLc rfl oz)) rfl (rfits_spec _ hu (by omega)) SubR.nil rfl (fun v30 hP30 => ?_))))))
 obtain ⟨fb, fe, rfl⟩ := hP30
 refine zm rfl (zq (Q.extract rfl rfl) (zq (Q.extract rfl rfl) (za rfl (za rfl (zk (W.sub (zc 6 rfl (zc 2 rfl zzn)) (zr (zm rfl (zf fa91_0 rfl 0 (zq (Q.l1 rfl (zt 0 rfl) ag3 rfl) (zq (Q.bin rfl (zi 3) rfl (bv_eql eq_int)) (zq (Q.bin rfl rfl rfl (bv_beqB ud4)) (za rfl (zk (W.ret (End.retE (z1 rfl) ?_))))))))))))))))
 exact ⟨_, rfl⟩

theorem mall_spec (hs : HSt) (hro : ∀ e ∈ hs, e.w = false) (M : List MtT) (v : AV) (hM : ISm hs M v) (hok : MOk M) (hML : M.length ≤ 1048576) : Spec tab 173 [v, .nils] [] hs (ValE (fun v => ∃ b : Bool, v = .bool b)) := by
 refine Spec.en (ftg 173 Tryz.func173) rfl (m := 19) rfl (rs := [.tmp 4]) rfl (st := [(0, v), (1, .nils)]) rfl rfl (fun _ => rfl) (fun E => zr (za rfl (zk (W.seq (zr (za (zi 0) (zk (W.block (W.loop_ind (fun (i : Nat) => [(0, v), (1, .nils), (5, .int .i64 ((i : Nat) : Int))]) (fun _ => _) (fun (i : Nat) => i ≤ M.length) (fun (i : Nat) => M.length - i) (0) (Nat.zero_le _) zv (SubH.refl _) (fun i hI0 ih0 => ?_))))))))))
 have hi := hI0
 refine W.seq (zr (zm rfl (zm rfl (zq (Q.len ud22 rfl (ism_len hM)) (zq (Q.bin rfl rfl rfl (bvl ltn)) (zk (W.cD rfl (fun hc9 => ?_) (fun hc9 => ?_))))))))
 ·obtain ⟨bm, exm, rfl, wm, mm⟩ := ism_full hM (by omega)
  have hx := mok_at hok (i := i) (by omega)
  obtain ⟨hx1, hx2, hx3, hx4⟩ := id hx
  refine zw (W.seq (W.block (zr (zm rfl (zm rfl (zq (Q.iS ud22 sz91 rfl rfl zo) (zq (Q.loadN rfl mm ag91 sz91 (msub (by omega))) (zm rfl (WO.callE rfl (oLc rfl (oLc rfl oz)) rfl (mfits_spec _ _ _ hx.1 hx.2.2.1 (by omega) (by omega)) SubR.nil rfl (fun v17 hP17 => ?_))))))))))
  obtain ⟨mb, rfl⟩ := hP17
  refine zq (Q.not rfl rfl) (zk (W.condS rfl (fun hc18 => ?_) (fun hc18 => ?_)))
  ·refine zr (za rfl (zk (W.sub (zc 4 rfl zzn) (W.ret (End.Br (End.Kr (End.Lr (End.Br (End.Kr (End.retE (z1 rfl) ?_))))))))))
   exact ⟨_, rfl⟩
  refine W.skip (End.KB (End.K (W.reg (zm rfl (zq (Q.bin rfl (zi 1) rfl zp) (za rfl (WO.nil (End.KL (W.sub zv (ih0 (i + 1) ?_ ?_))))))))))
  ·exact (by omega)
  exact zo
 refine W.exit (End.Kx (End.Lx (End.Bh (End.K (zr (za rfl (zk (W.ret (End.retE (z1 rfl) ?_)))))))))
 exact ⟨_, rfl⟩

theorem mca_spec (hs : HSt) (hro : ∀ e ∈ hs, e.w = false) (M : List MtT) (v : AV) (hM : ISm hs M v) (hok : MOk M) (hML : M.length ≤ 1048576) : Spec tab 151 [v] [] hs (ValE (fun v => ∃ x : Int, v = .int .i64 x)) := by
 refine Spec.en (ftg 151 Tryz.func151) rfl (m := 24) rfl (rs := [.tmp 2]) rfl (st := [(0, v)]) rfl rfl (fun _ => rfl) (fun E => zr (za (zi 0) (zk (W.seq (zr (zm rfl (zq (Q.len ud22 rfl (ism_len hM)) (zq (Q.bin rfl (zi 8) rfl (bv_gtr ltn)) (zk (W.cD rfl (fun hc7 => ?_) (fun hc7 => ?_)))))))))))
 ·refine zr (za (zi 3) (zk (W.ret (End.Kr (End.retE (z1 rfl) ?_)))))
  exact ⟨_, rfl⟩
 refine zw (W.seq (zr (za (zi 0) (zk (W.block (W.loop_ind (fun (i : Nat) => [(0, v), (3, .int .i64 ((i : Nat) : Int))]) (fun _ => _) (fun (i : Nat) => i ≤ M.length) (fun (i : Nat) => M.length - i) (0) (Nat.zero_le _) zv (SubH.refl _) (fun i hI0 ih0 => ?_)))))))
 have hi := hI0
 refine W.seq (zr (zm rfl (zm rfl (zq (Q.len ud22 rfl (ism_len hM)) (zq (Q.bin rfl rfl rfl (bvl ltn)) (zk (W.cD rfl (fun hc11 => ?_) (fun hc11 => ?_))))))))
 ·obtain ⟨bm, exm, rfl, wm, mm⟩ := ism_full hM (by omega)
  have hx := mok_at hok (i := i) (by omega)
  obtain ⟨hx1, hx2, hx3, hx4⟩ := id hx
  refine zw (W.seq (W.block (zr (zm rfl (zm rfl (zq (Q.iS ud22 sz91 rfl rfl zo) (zq (Q.loadN rfl mm ag91 sz91 (msub (by omega))) (WO.callE rfl (oLc rfl oz) rfl (mchk_spec _ _ _ hx.1 hx.2.2.1 (by omega) (by omega)) SubR.nil rfl (fun v18 hP18 => ?_)))))))))
  obtain ⟨y18, rfl⟩ := hP18
  refine za rfl (zk (zr (zm rfl (zq (Q.bin rfl (zi 0) rfl (bv_neq ne_int)) (zk (W.cD rfl (fun hc20 => ?_) (fun hc20 => ?_)))))))
  ·refine zr (zm rfl (za rfl (zk (W.sub (zc 2 rfl zzn) (W.ret (End.Br (End.Kr (End.Lr (End.Br (End.Kr (End.retE (z1 rfl) ?_)))))))))))
   exact ⟨_, rfl⟩
  refine W.skip (End.KB (End.K (W.reg (zm rfl (zq (Q.bin rfl (zi 1) rfl zp) (za rfl (WO.nil (End.KL (W.sub zv (ih0 (i + 1) ?_ ?_))))))))))
  ·exact (by omega)
  exact zo
 refine W.exit (End.Kx (End.Lx (End.Bh (End.K (W.seq (zr (zm rfl (WO.callE rfl (oLc rfl (oLc rfl oz)) rfl (mall_spec hs hro M _ hM hok hML) (SubR.s hro) rfl (fun v23 hP23 => ?_)))))))))
 obtain ⟨ab, rfl⟩ := hP23
 refine zk (W.condS rfl (fun hc23 => ?_) (fun hc23 => ?_))
 ·refine zr (za (zi 2) (zk (W.ret (End.Kr (End.retE (z1 rfl) ?_)))))
  exact ⟨_, rfl⟩
 refine zw (zr (za (zi 0) (zk (W.ret (End.retE (z1 rfl) ?_)))))
 exact ⟨_, rfl⟩
end Go.Proofs.YtndhhgbpcmfeiaaGreatDoor.Ev.P16
