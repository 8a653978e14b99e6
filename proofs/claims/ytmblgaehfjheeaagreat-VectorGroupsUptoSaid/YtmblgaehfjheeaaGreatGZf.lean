/- Chapters 6 and 19, walks: labels' texts, keys. -/
import Derived.Test.YtmblgaehfjheeaaGreatGAwN
namespace Go.Proofs.YtmblgaehfjheeaaGreat.Ev
open Go.RowKit
set_option linter.unusedVariables false
set_option linter.unusedSimpArgs false
set_option maxRecDepth 100000
set_option maxHeartbeats 1000000
theorem Own.nils {sz : Nat} {cells : List AV} {len : Nat} {v : AV} {hp : HSt} (h : Own sz cells len v hp) (h0 : len = 0) : v = .nils := by
 rcases h with ⟨_, _, h, _⟩ | ⟨b, ex, _, _, _, h⟩
 ·exact h
 ·omega
theorem it_eq {x : Lab} : itM x = x.1 ++ [61] ++ quM x.2 := by simp [itM]
theorem strsOf_map : ∀ A : List Lab, strsOf (A.map itA) = some (A.map itM)
 | [] => rfl
 | x :: A => by
  show (match strsOf (A.map itA) with | some m => some (itM x :: m) | none => none) = _
  rw [strsOf_map A]; rfl
theorem join_orc {A : List Lab} {bj : Nat} {exj : Bool} {h : AHeap} (hK : KeyOK A) (h0 : 0 < A.length) (hh : KeepIn [⟨bj, ⟨1, exj, A.map itA⟩, false⟩] h) : tab.orc 98 [.slice bj 0 A.length 1, .str [44, 32]] h = some (.str (List.intercalate [44, 32] (A.map itM))) := by
 have hob := hh _ List.mem_cons_self
 simp only at hob
 obtain ⟨n, hn⟩ : ∃ n, A.length = n + 1 := ⟨A.length - 1, by omega⟩
 have h8 := hK.1
 rw [hn]
 show (match Nat.ble (n + 1) 1073741824 with
  | true => match h.objs.get bj with
   | some ob => match sub? ob.cells 0 (n + 1) with
    | some l => joinA l [44, 32]
    | none => none
   | none => none
  | false => none) = _
 have e1 : Nat.ble (n + 1) 1073741824 = true := Nat.ble_eq.mpr zy
 have e2 : sub? (A.map itA) 0 (n + 1) = some (A.map itA) := sub_all (by simpa using hn)
 simp only [e1, hob, e2]
 unfold joinA
 rw [strsOf_map]
 have := row_len hK
 have e3 : Nat.ble (List.intercalate [44, 32] (A.map itM)).length 1073741824 = true := Nat.ble_eq.mpr zy
 simp only [e3]
theorem pick_t {N : List (List Nat)} {a b : List Nat} : pickP N true (a, b) = decide (a ∈ N) := by unfold pickP; simp
def keyM (md : Int) (N : List (List Nat)) (A : List Lab) : List Lab := if md = 1 then A.filter (pickP N true) else if md = 2 then (A.filter (dropP N)).filter (dropP [[95, 95, 110, 97, 109, 101, 95, 95]]) else A.filter (dropP [[95, 95, 110, 97, 109, 101, 95, 95]])
theorem keyM_1 {md : Int} {N : List (List Nat)} {A : List Lab} (h : md = 1) : keyM md N A = A.filter (pickP N true) := if_pos h
theorem keyM_2 {md : Int} {N : List (List Nat)} {A : List Lab} (h : md = 2) : keyM md N A = (A.filter (dropP N)).filter (dropP [[95, 95, 110, 97, 109, 101, 95, 95]]) := by unfold keyM; rw [if_neg zy, if_pos h]
theorem keyM_0 {md : Int} {N : List (List Nat)} {A : List Lab} (h1 : md ≠ 1) (h2 : md ≠ 2) : keyM md N A = A.filter (dropP [[95, 95, 110, 97, 109, 101, 95, 95]]) := by unfold keyM; rw [if_neg h1, if_neg h2]
theorem LBd.filter {A : List Lab} (h : LBd A) (p : Lab → Bool) : LBd (A.filter p) := ⟨Nat.le_trans (List.length_filter_le _ _) h.1, fun x hx => h.2 x (List.mem_filter.1 hx).1⟩
theorem KeyOK.key {A : List Lab} (h : KeyOK A) (md : Int) (N : List (List Nat)) : KeyOK (keyM md N A) := by
 unfold keyM
 split
 ·exact h.filter _
 ·split
  ·exact (h.filter _).filter _
  ·exact h.filter _
theorem quoted_spec (s : List Nat) (hs : Bytes s) (hl : s.length ≤ 1048576) : Spec tab 97 [.str s] [] [] (Val (.str (quM s))) := by
 refine Spec.en (ftg 97 Tryz.func97) rfl (m := 47) rfl (rs := [.tmp 2]) rfl (st := [(0, .str s)]) rfl rfl (fun _ => rfl) (fun E => zr (zq (Q.assign (oc (v := .str []) (by kernel_rfl))) (zk (zr (WO.bslice ud146 sz5 zr5 rfl (opc (zu 34) opn) rfl (cs := [_]) rfl rfl rfl (fun b1 => za rfl (zk (W.seq (zr (zm rfl (zq (Q.len ud9 rfl rfl) (zq (Q.move (zi 0)) (zk (W.block (W.loop_ind4 (fun (i : Nat) (acc : List Nat) (v : AV) (hp : HSt) => [(0, .str s), (3, v), (8, .int .i64 ((s.length : Nat) : Int)), (9, .int .i64 ((i : Nat) : Int))]) (fun (i : Nat) (acc : List Nat) (v : AV) (hp : HSt) => hp) (fun (i : Nat) (acc : List Nat) (v : AV) (hp : HSt) => i ≤ s.length ∧ Bytes acc ∧ Own 1 (u8c acc) acc.length v hp ∧ 34 :: quE s = acc ++ quE (s.drop i) ∧ acc.length ≤ 1 + 4 * i) (fun (i : Nat) (acc : List Nat) (v : AV) (hp : HSt) => s.length - i) (0) ([34]) (.slice b1 0 1 1) ([⟨b1, ⟨1, true, [.int .u8 ((34 : Nat) : Int)]⟩, true⟩]) ⟨by omega, by unfold Bytes; decide, .inr ⟨b1, true, rfl, rfl, rfl, by decide⟩, by simp, by decide⟩ zv (SubH.refl _) (fun i acc v hp hI0 ih0 => ?_))))))))))))))))
 obtain ⟨h1, ha, hO, hv, hle⟩ := hI0
 refine zr (zq (Q.bin rfl rfl rfl (bvl ltn)) (zk (W.seq (W.cD rfl (fun hc10 => ?_) (fun hc10 => ?_)))))
 ·refine zw (W.seq (W.block (zr (zm rfl (za rfl (zk (zr (zm rfl (zm rfl (WO.indexB hs ud9 rfl rfl zo rfl (fun c14 hd14 hb14 => za rfl (zk (W.block (W.seq (zr (zm rfl (zq (Q.bin rfl (zu 34) rfl (bv_eql eq_nat)) (za rfl (zk (W.cD rfl (fun hc19 => ?_) (fun hc19 => ?_)))))))))))))))))))))
  ·refine zw (W.condT rfl (W.reg (zm rfl (zm rfl (WO.bslice ud146 sz5 zr5 rfl (opc (zu 92) (opc rfl opn)) rfl (cs := [_, _]) rfl rfl rfl (fun b2 => WO.appOwn (e := ⟨b2, _, true⟩) (A := []) ap146_146 hO rfl rfl rfl rfl ⟨by first | omega | (simp at * <;> omega), by first | omega | (simp at * <;> omega)⟩ (by decide) rfl rfl (fun v27 hp27 hO27 => za rfl (WO.nil (End.KB (End.KB (End.K (W.sub (zc 3 rfl (zc 0 rfl (zc 8 rfl (zc 9 rfl zzn)))) (W.reg (zq (Q.bin rfl (zi 1) rfl zp) (zm rfl (WO.nil (End.KL (W.sub zv (ih0 (i + 1) (acc ++ [92, c14]) (v27) (hp27) ?_ ?_)))))))))))))))))))
   ·exact ⟨by omega, Bytes.append ha (Bytes.cons (by decide) (Bytes.one hb14)), by simpa [u8c] using hO27, by rw [hv, quE_step zy, ← hd14, esc1 zy]; simp, by simp; omega⟩
   exact zo
  refine W.reg (zm rfl (zq (Q.bin rfl (zu 92) rfl (bv_eql eq_nat)) (za rfl (zk (W.cD rfl (fun hc19 => ?_) (fun hc19 => ?_))))))
  ·refine W.reg (zm rfl (zm rfl (WO.bslice ud146 sz5 zr5 rfl (opc (zu 92) (opc rfl opn)) rfl (cs := [_, _]) rfl rfl rfl (fun b4 => WO.appOwn (e := ⟨b4, _, true⟩) (A := []) ap146_146 hO rfl rfl rfl rfl ⟨by first | omega | (simp at * <;> omega), by first | omega | (simp at * <;> omega)⟩ (by decide) rfl rfl (fun v27 hp27 hO27 => za rfl (WO.nil (End.KB (End.KB (End.K (W.sub (zc 3 rfl (zc 0 rfl (zc 8 rfl (zc 9 rfl zzn)))) (W.reg (zq (Q.bin rfl (zi 1) rfl zp) (zm rfl (WO.nil (End.KL (W.sub zv (ih0 (i + 1) (acc ++ [92, c14]) (v27) (hp27) ?_ ?_)))))))))))))))))
   ·exact ⟨by omega, Bytes.append ha (Bytes.cons (by decide) (Bytes.one hb14)), by simpa [u8c] using hO27, by rw [hv, quE_step zy, ← hd14, esc1 zy]; simp, by simp; omega⟩
   exact zo
  refine W.seq (zr (zm rfl (zq (Q.bin rfl (zu 32) rfl (bvl ltn)) (za rfl (zk (W.cD rfl (fun hc28 => ?_) (fun hc28 => ?_)))))))
  ·refine zw (W.condT rfl (W.regD 8 [] (by kernel_rfl) KIn.nil (WD.q (Q.move rfl) (Own.bq hO) rfl (WD.q (Q.move rfl) bqi rfl (WD.q (Q.bin rfl (oc (v := .int .u64 ((4 : Nat) : Int)) rfl) rfl (bv_shr8 zo)) bqi rfl (WD.indexB (by unfold Bytes; decide) ud9 (oc (v := .str [48, 49, 50, 51, 52, 53, 54, 55, 56, 57, 97, 98, 99, 100, 101, 102]) (by kernel_rfl)) rfl zo rfl (fun c36 hd36 hb36 => WD.q (Q.move rfl) bqi rfl (WD.q (Q.bin rfl (zu 15) rfl (bv_and8 zo)) bqi rfl (WD.indexB (by unfold Bytes; decide) ud9 (oc (v := .str [48, 49, 50, 51, 52, 53, 54, 55, 56, 57, 97, 98, 99, 100, 101, 102]) (by kernel_rfl)) rfl zo rfl (fun c39 hd39 hb39 => WD.bslice ud146 sz5 zr5 rfl (opc (zu 92) (opc (zu 120) (opc rfl (opc rfl opn)))) rfl (cs := [_, _, _, _]) rfl rfl rfl KIn.nil (fun b6 => WD.appOwn (e := ⟨b6, _, true⟩) (A := []) ap146_146 hO rfl rfl rfl rfl ⟨by first | omega | (simp at * <;> omega), by first | omega | (simp at * <;> omega)⟩ (by decide) rfl rfl KIn.nil (fun v41 hp41 hO41 => WD.q (Q.assign rfl) (Own.bq hO41) rfl (WD.nil (End.KB (End.KB (End.K (W.sub (zc 3 rfl (zc 0 rfl (zc 8 rfl (zc 9 rfl zzn)))) (W.reg (zq (Q.bin rfl (zi 1) rfl zp) (zm rfl (WO.nil (End.KL (W.sub zv (ih0 (i + 1) (acc ++ [92, 120, c36, c39]) (v41) (hp41) ?_ ?_))))))))))))))))))))))))
   ·exact ⟨by omega, Bytes.append ha (Bytes.cons (by decide) (Bytes.cons (by decide) (Bytes.cons hb36 (Bytes.one hb39)))), by simpa [u8c] using hO41, by rw [hv, quE_step zy, ← hd14, esc2 zy zy]; simp [hexL, hd36, hd39], by simp; omega⟩
   exact zo
  refine W.reg (zm rfl (zq (Q.bin rfl (zu 126) rfl (bv_gtr ltn)) (za rfl (zk (W.sub (zc 28 rfl (zc 5 rfl (zc 0 rfl (zc 3 rfl (zc 8 rfl (zc 9 rfl zzn)))))) (W.cD rfl (fun hc28 => ?_) (fun hc28 => ?_)))))))
  ·refine W.regD 8 [] (by kernel_rfl) KIn.nil (WD.q (Q.move rfl) (Own.bq hO) rfl (WD.q (Q.move rfl) bqi rfl (WD.q (Q.bin rfl (oc (v := .int .u64 ((4 : Nat) : Int)) rfl) rfl (bv_shr8 zo)) bqi rfl (WD.indexB (by unfold Bytes; decide) ud9 (oc (v := .str [48, 49, 50, 51, 52, 53, 54, 55, 56, 57, 97, 98, 99, 100, 101, 102]) (by kernel_rfl)) rfl zo rfl (fun c36 hd36 hb36 => WD.q (Q.move rfl) bqi rfl (WD.q (Q.bin rfl (zu 15) rfl (bv_and8 zo)) bqi rfl (WD.indexB (by unfold Bytes; decide) ud9 (oc (v := .str [48, 49, 50, 51, 52, 53, 54, 55, 56, 57, 97, 98, 99, 100, 101, 102]) (by kernel_rfl)) rfl zo rfl (fun c39 hd39 hb39 => WD.bslice ud146 sz5 zr5 rfl (opc (zu 92) (opc (zu 120) (opc rfl (opc rfl opn)))) rfl (cs := [_, _, _, _]) rfl rfl rfl KIn.nil (fun b8 => WD.appOwn (e := ⟨b8, _, true⟩) (A := []) ap146_146 hO rfl rfl rfl rfl ⟨by first | omega | (simp at * <;> omega), by first | omega | (simp at * <;> omega)⟩ (by decide) rfl rfl KIn.nil (fun v41 hp41 hO41 => WD.q (Q.assign rfl) (Own.bq hO41) rfl (WD.nil (End.KB (End.KB (End.K (W.reg (zq (Q.bin rfl (zi 1) rfl zp) (zm rfl (WO.nil (End.KL (W.sub zv (ih0 (i + 1) (acc ++ [92, 120, c36, c39]) (v41) (hp41) ?_ ?_)))))))))))))))))))))
   ·exact ⟨by omega, Bytes.append ha (Bytes.cons (by decide) (Bytes.cons (by decide) (Bytes.cons hb36 (Bytes.one hb39)))), by simpa [u8c] using hO41, by rw [hv, quE_step zy, ← hd14, esc2 zy zy]; simp [hexL, hd36, hd39], by simp; omega⟩
   exact zo
  refine W.reg (zm rfl (zm rfl (WO.bslice ud146 sz5 zr5 rfl (opc rfl opn) rfl (cs := [_]) rfl rfl rfl (fun b10 => WO.appOwn (e := ⟨b10, _, true⟩) (A := []) ap146_146 hO rfl rfl rfl rfl ⟨by first | omega | (simp at * <;> omega), by first | omega | (simp at * <;> omega)⟩ (by decide) rfl rfl (fun v18 hp18 hO18 => za rfl (WO.nil (End.KB (End.KB (End.K (W.reg (zq (Q.bin rfl (zi 1) rfl zp) (zm rfl (WO.nil (End.KL (W.sub zv (ih0 (i + 1) (acc ++ [c14]) (v18) (hp18) ?_ ?_))))))))))))))))
  ·exact ⟨by omega, Bytes.append ha (Bytes.one hb14), by simpa [u8c] using hO18, by rw [hv, quE_step zy, ← hd14, esc3 zy zy]; simp, by simp; omega⟩
  exact zo
 refine W.exit (End.Kx (End.Lx (End.Bh (End.K (zr (zm rfl (WO.bslice ud146 sz5 zr5 rfl (opc (zu 34) opn) rfl (cs := [_]) rfl rfl rfl (fun b12 => WO.appOwn (e := ⟨b12, _, true⟩) (A := []) ap146_146 hO rfl rfl rfl rfl ⟨by first | omega | (simp at * <;> omega), by first | omega | (simp at * <;> omega)⟩ (by decide) rfl rfl (fun v45 hp45 hO45 => zq (Q.convOwn (A := []) ud146 ud9 ud5 (Bytes.append ha (by unfold Bytes; decide)) (by simpa [u8c] using hO45 : Own 1 (u8c (acc ++ [34])) _ _ _) rfl rfl) (za rfl (zk (W.ret (End.rV (z1 rfl) ?_)))))))))))))
 (exact congrArg AV.str (by simp only [quM]; rw [← List.cons_append, hv, List.drop_eq_nil_of_le zy]; simp [quE]))

theorem join_nil (sep : List Nat) (hsp : Bytes sep) : Spec tab 98 [.nils, .str sep] [] [] (Val (.str [])) := by
 refine Spec.en (ftg 98 Tryz.func98) rfl (m := 75) rfl (rs := [.tmp 4]) rfl (st := [(0, .nils), (1, .str sep)]) rfl rfl (fun _ => rfl) (fun E => zr (zq (Q.assign (oc (v := .str []) (by kernel_rfl))) (zk (W.seq (zr (zm rfl (zq (Q.len ud40 rfl rfl) (zk (W.block (zr (zq (Q.bin rfl (zi 0) rfl (bv_eql (p := true) rfl)) (za rfl (zk (W.condT rfl (zr (zq (Q.assign (oc (v := .str []) (by kernel_rfl))) (zk (W.ret (End.Br (End.Kr (End.rV (z1 rfl) ?_)))))))))))))))))))))
 rfl

theorem print_spec (hs : HSt) (hro : ∀ e ∈ hs, e.w = false) (A : List Lab) (va : AV) (ha : LIn hs A va) (hK : KeyOK A) : Spec tab 58 [va] [] hs (Val (.str (prM A))) := by
 have hA := hK.bd
 have hAl := hK.1
 have hrow := row_len hK
 refine Spec.en (ftg 58 Tryz.func58) rfl (m := 27) rfl (rs := [.tmp 2]) rfl (st := [(0, va)]) rfl rfl (fun _ => rfl) (fun E => zr (zq (Q.assign (oc (v := .str []) (by kernel_rfl))) (zk (zr (za rfl (zk (W.seq (zr (zm rfl (zq (Q.len ud33 rfl (LIn.len ha)) (zq (Q.move (zi 0)) (zk (W.block (W.loop_ind3 (fun (i : Nat) (u : AV) (hp : HSt) => [(3, u), (6, va), (7, .int .i64 ((A.length : Nat) : Int)), (8, .int .i64 ((i : Nat) : Int))]) (fun (i : Nat) (u : AV) (hp : HSt) => (hs ++ hp)) (fun (i : Nat) (u : AV) (hp : HSt) => i ≤ A.length ∧ Own 1 ((A.take i).map itA) (A.take i).length u hp) (fun (i : Nat) (u : AV) (hp : HSt) => A.length - i) (0) (.nils) ([]) ⟨Nat.zero_le _, Own.nil 1⟩ zv app_nil_sub (fun i u hp hI0 ih0 => ?_)))))))))))))))
 obtain ⟨h1, hO⟩ := hI0
 refine zr (zq (Q.bin rfl rfl rfl (bvl ltn)) (zk (W.seq (W.cD rfl (fun hc9 => ?_) (fun hc9 => ?_)))))
 ·obtain ⟨ba, sza, exa, rfl, wa, ma⟩ := LIn.full ha zy
  have hx := hK.2 _ (lg_mem (i := i) zy)
  have hql := (quM_bytes hx.2.1).2
  refine zw (W.seq (W.block (zr (zq (Q.iS ud33 sz68 rfl rfl zo) (zq (Q.loadN rfl (List.mem_append_left _ ma) ag68 sz68 (cL_at zo)) (WO.alloc ao68 rfl (fun b1 => WO.store sz68 rfl rfl (i := 0) rfl rfl (cs := [_, _]) rfl (hs' := _ :: _) rfl (zk (W.regD 9 (⟨b1, _, false⟩ :: hs) (by kernel_rfl) (KIn.cons (zt 0 rfl) (fun e he => ⟨e.w, by obtain ⟨b, o, w⟩ := e; simp [he]⟩)) (WD.q (Q.move rfl) (Own.bq hO) rfl (WD.q (Q.fieldAddr fa68_0 rfl (o' := 0) rfl) bqp rfl (WD.q (Q.l1 rfl (zt 0 rfl) ag9 rfl) bq_str rfl (WD.q (Q.bin rfl (oc (v := .str [61]) (by kernel_rfl)) rfl (bv_sadd zo)) bq_str rfl (WD.q (Q.fieldAddr fa68_1 rfl (o' := 1) rfl) bqp rfl (WD.q (Q.l1 rfl (zt 0 rfl) ag9 rfl) bq_str rfl (WD.callV rfl (oLc rfl oz) rfl (quoted_spec _ (hA.at zy).2.1 zy) SubR.nil (KIn.cons (zt 0 rfl) (fun e he => ⟨e.w, by obtain ⟨b, o, w⟩ := e; simp [he]⟩)) rfl (WD.q (Q.bin rfl rfl rfl (bv_sadd zo)) bq_str rfl (WD.bslice ud40 sz9 zr9 rfl (opc rfl opn) rfl (cs := [_]) rfl rfl rfl (KIn.cons (zt 0 rfl) (fun e he => ⟨e.w, by obtain ⟨b, o, w⟩ := e; simp [he]⟩)) (fun b2 => WD.appOwn (e := ⟨b2, _, true⟩) (A := ([_] ++ hs)) ap40_40 hO rfl rfl rfl rfl ⟨by first | omega | (simp at * <;> omega), by first | omega | (simp at * <;> omega)⟩ (by decide) rfl rfl (KIn.cons (zt 0 rfl) (fun e he => ⟨e.w, by obtain ⟨b, o, w⟩ := e; simp [he]⟩)) (fun v21 hp21 hO21 => WD.q (Q.assign rfl) (Own.bq hO21) rfl (WD.nil (End.KB (End.K (W.sub (zc 3 rfl (zc 6 rfl (zc 7 rfl (zc 8 rfl zzn)))) ?_))))))))))))))))))))))))
  refine W.reg (zq (Q.bin rfl (zi 1) rfl zp) (zm rfl (WO.nil (End.KL (W.sub zv (W.sH gc (ih0 (i + 1) (v21) (hp21) ?_ ?_)))))))
  ·exact ⟨by omega, by rw [take_lab zy, List.map_append, List.length_append]; show Own 1 (_ ++ [AV.str (itM (lg A i))]) _ _ _; rw [it_eq]; exact hO21⟩
  exact zo
 have ht : A.take i = A := List.take_of_length_le zy
 rw [ht] at hO
 refine W.exit (End.Kx (End.Lx (End.Bh (End.K (zr (zm rfl ?_))))))
 rcases Nat.eq_zero_or_pos A.length with h0 | h0
 ·obtain rfl : u = .nils := hO.nils h0
  refine WO.cV rfl (oLc rfl (oLc (oc (v := .str [44, 32]) (by kernel_rfl)) oz)) rfl (join_nil _ (by unfold Bytes; decide)) SubR.nil rfl (zq (Q.bin (oc (v := .str [123]) (by kernel_rfl)) rfl rfl (bv_sadd zo)) (zq (Q.bin rfl (oc (v := .str [125]) (by kernel_rfl)) rfl (bv_sadd zo)) (za rfl (zk (W.ret (End.rV (z1 rfl) ?_))))))
  obtain rfl : A = [] := List.length_eq_zero_iff.1 h0; rfl
 obtain ⟨bj, exj, rfl, hj⟩ := Own.full hO h0
 refine WO.cV rfl (oLc rfl (oLc (oc (v := .str [44, 32]) (by kernel_rfl)) oz)) rfl (Spec.knownM (hs := [⟨bj, ⟨1, exj, (A.map itA)⟩, false⟩]) (fun h hh => join_orc hK h0 hh)) (SubR.one (w := true) (by rw [hj]; simp)) rfl (zq (Q.bin (oc (v := .str [123]) (by kernel_rfl)) rfl rfl (bv_sadd zo)) (zq (Q.bin rfl (oc (v := .str [125]) (by kernel_rfl)) rfl (bv_sadd zo)) (za rfl (zk (W.ret (End.rV (z1 rfl) ?_))))))
 rfl

theorem keep1_spec (hs : HSt) (hro : ∀ e ∈ hs, e.w = false) (N : List (List Nat)) (vn : AV) (hN : SIn hs N vn) (hNb : SBd N) (b0 : Nat) (e0 : Bool) (m0 : MemH hs b0 ⟨1, e0, [vn]⟩) (a b : List Nat) (hx : Bytes a) (hy : Bytes b) : Spec tab 127 [.agg [.str a, .str b], .ptr b0 0] [] hs (Val (.bool (pickP N true (a, b)))) := by
 obtain ⟨w0, m0⟩ := m0
 refine Spec.en (ftg 127 Tryz.func127) rfl (m := 8) rfl (rs := [.tmp 3]) rfl (st := [(0, .agg [.str a, .str b]), (1, .ptr b0 0)]) rfl rfl (fun _ => rfl) (fun E => zr (WO.box rfl rfl (bx68 _ rfl) rfl (fun b1 => za rfl (zk (zr (zq (Q.l1 rfl (List.mem_cons_of_mem _ m0) ag40 rfl) (zf fa68_0 rfl 0 (zq (Q.l1 rfl (zt 0 rfl) ag9 rfl) (WO.cV rfl (oLc rfl (oLc rfl oz)) rfl (ctn_spec hs hro N _ hN hNb _ hx) (SubR.t (SubR.s hro)) rfl (za rfl (zk (W.ret (End.rV (z1 rfl) ?_)))))))))))))
 exact congrArg AV.bool pick_t.symm

theorem keep_spec (hs : HSt) (hro : ∀ e ∈ hs, e.w = false) (A : List Lab) (va : AV) (ha : LIn hs A va) (hA : LBd A) (N : List (List Nat)) (vn : AV) (hN : SIn hs N vn) (hNb : SBd N) : Spec tab 96 [va, vn] [] hs (fun v D => OwnE 2 (cL (A.filter (pickP N true))) (A.filter (pickP N true)).length v D) := by
 refine Spec.en (ftg 96 Tryz.func96) rfl (m := 8) rfl (rs := [.tmp 4]) rfl (st := [(0, va), (1, vn)]) rfl rfl (fun _ => rfl) (fun E => zr (WO.box1 rfl (SIn.cell hN) (bx40 _ rfl) rfl (fun b1 => za rfl (zk (zr (zm rfl (zq (Q.makeF (oLc rfl oz)) (WO.call0 rfl (oLc rfl (oLc rfl oz)) rfl (those_spec (hs := ⟨b1, ⟨1, true, [vn]⟩, false⟩ :: hs) (by intro e he; rcases List.mem_cons.1 he with rfl | he; rfl; exact hro e he) A _ (ha.mono fun b o h => h.tl) hA (pickP N true) 127 [.ptr b1 0] (fun x h1 h2 => keep1_spec (hs := ⟨b1, ⟨1, true, [vn]⟩, false⟩ :: hs) (by intro e he; rcases List.mem_cons.1 he with rfl | he; rfl; exact hro e he) N vn (hN.mono fun b o h => h.tl) hNb b1 true ⟨_, List.mem_cons_self⟩ x.1 x.2 h1 h2)) (sub_f1 hro) rfl (fun v7 D7 hP7 => WO.subH (hs' := _ :: (hs ++ D7)) (SubH.op (perm_tail (N := []) (G := D7) (K := [_]) (X := hs))) (za rfl (zk (W.ret ?_))))))))))))
 refine End.ret (z1 rfl) (hs' := D7) hP7 (OwnE.w hP7) gc

theorem key_spec (hs : HSt) (hro : ∀ e ∈ hs, e.w = false) (A : List Lab) (va : AV) (ha : LIn hs A va) (hA : LBd A) (N : List (List Nat)) (vn : AV) (hN : SIn hs N vn) (hNb : SBd N) (md : Int) : Spec tab 55 [.int .i64 md, vn, va] [] hs (fun v D => OwnE 2 (cL (keyM md N A)) (keyM md N A).length v D) := by
 refine Spec.en (ftg 55 Tryz.func55) rfl (m := 21) rfl (rs := [.tmp 6]) rfl (st := [(0, .int .i64 md), (1, vn), (2, va)]) rfl rfl (fun _ => rfl) (fun E => zr (za rfl (zk (W.seq (zr (zm rfl (zk (W.block (zr (zq (Q.bin rfl (zi 1) rfl (bv_eql eq_int)) (za rfl (zk (W.cD rfl (fun hc8 => ?_) (fun hc8 => ?_))))))))))))))
 ·refine zr (zm rfl (zm rfl (WO.call0 rfl (oLc rfl (oLc rfl oz)) rfl (keep_spec hs hro A _ ha hA N _ hN hNb) (SubR.s hro) rfl (fun v12 D12 hP12 => WO.subH (hs' := (hs ++ D12)) (SubH.op (perm_tail (N := []) (G := D12) (K := []) (X := hs))) (za rfl (zk (W.ret ?_)))))))
  refine End.Br (End.Kr (End.ret (z1 rfl) (hs' := D12) (by rw [keyM_1 (by simpa using hc8)]; exact hP12) (OwnE.w hP12) gc))
 refine zr (zq (Q.bin rfl (zi 2) rfl (bv_eql eq_int)) (za rfl (zk (W.cD rfl (fun hc13 => ?_) (fun hc13 => ?_)))))
 ·refine zr (zm rfl (zm rfl (WO.call0 rfl (oLc rfl (oLc rfl oz)) rfl (drop_spec hs hro A _ ha hA N _ hN hNb) (SubR.s hro) rfl (fun v17 D17 hP17 => WO.subH (hs' := (hs ++ D17)) (SubH.op (perm_tail (N := []) (G := D17) (K := []) (X := hs))) (WO.call0 rfl (oLc rfl oz) rfl (nless_spec (ro D17) ro_w _ _ ((LIn.own hP17).mono fun b o h => h.ro) (LBd.filter hA _)) (SubR.ro gc) rfl (fun v18 D18 hP18 => WO.subH (hs' := (hs ++ D17 ++ D18)) (SubH.op (perm_tail (N := []) (G := D18) (K := []) (X := hs ++ D17))) (za rfl (zk (W.ret ?_)))))))))
  refine End.Br (End.Kr (End.ret (z1 rfl) (hs' := D18) (by rw [keyM_2 (by simpa using hc13)]; exact hP18) (OwnE.w hP18) gc))
 refine W.skip (End.KB (End.K (zr (zm rfl (WO.call0 rfl (oLc rfl oz) rfl (nless_spec hs hro A _ ha hA) (SubR.s hro) rfl (fun v20 D20 hP20 => WO.subH (hs' := (hs ++ D20)) (SubH.op (perm_tail (N := []) (G := D20) (K := []) (X := hs))) (za rfl (zk (W.ret ?_)))))))))
 refine End.ret (z1 rfl) (hs' := D20) (by rw [keyM_0 (by simpa using hc8) (by simpa using hc13)]; exact hP20) (OwnE.w hP20) gc
end Go.Proofs.YtmblgaehfjheeaaGreat.Ev
