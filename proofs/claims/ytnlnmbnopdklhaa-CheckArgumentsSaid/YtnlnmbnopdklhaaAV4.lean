/- Chapter 17, walks: the types of a node's parts. -/
import Derived.Test.YtnlnmbnopdklhaaAV3
namespace Go.Proofs.Ytnlnmbnopdklhaa.Ev
open Go.RowKit
set_option linter.unusedVariables false
set_option linter.unusedSimpArgs false
set_option maxRecDepth 100000
set_option maxHeartbeats 1000000
theorem node_store {k : Int} {op : List Nat} {n : Int} {ms : AV} {rg off md : Int} {nm : AV} {sd : Int} {bl : Bool} {kd : AV} (hms : ms.isCell = true) (hnm : nm.isCell = true) (hkd : kd.isCell = true) {ob : AObj} (ho : ob.cells.length = 11 := by rfl) :
    (Nat.beq (AV.agg (nodeC k op n ms rg off md nm sd bl kd)).cells.length 11 && Nat.ble (0 + 11) ob.cells.length && (AV.agg (nodeC k op n ms rg off md nm sd bl kd)).cells.all AV.isCell) = true := by
  rw [ho]
  show (true && true && (nodeC k op n ms rg off md nm sd bl kd).all AV.isCell) = true
  simp only [nodeC, List.all_cons, List.all_nil, hms, hnm, hkd]
  rfl
def kl (ty : Nat → Nat) : Nat → List Nat
  | 0 => []
  | i + 1 => kl ty i ++ [ty i]
theorem kl_succ {ty : Nat → Nat} {i : Nat} : kl ty (i + 1) = kl ty i ++ [ty i] := rfl
theorem kl_len {ty : Nat → Nat} : ∀ {i : Nat}, (kl ty i).length = i
  | 0 => rfl
  | i + 1 => by simp [kl, kl_len (i := i)]
theorem ints_snoc {A : List Nat} {x : Nat} : ints (A ++ [x]) = ints A ++ [.int .i64 ((x : Nat) : Int)] := by simp [ints]
theorem kl_mem {ty : Nat → Nat} : ∀ {i : Nat} {x : Nat}, x ∈ kl ty i → ∃ j, j < i ∧ x = ty j
  | 0, x, h => by simp [kl] at h
  | i + 1, x, h => by
    rcases List.mem_append.1 h with h | h
    · obtain ⟨j, hj, e⟩ := kl_mem h
      exact ⟨j, by omega, e⟩
    · exact ⟨i, by omega, by simpa using h⟩
/-- The first error of some; 0: none. -/
def errM (er : Nat → Nat) : Nat → Nat
  | 0 => 0
  | i + 1 => if errM er i = 0 then er i else errM er i
theorem errM_zero {er : Nat → Nat} : ∀ {i : Nat}, (∀ j, j < i → er j = 0) → errM er i = 0
  | 0, _ => rfl
  | i + 1, h => by
    unfold errM
    rw [if_pos (errM_zero fun j hj => h j (by omega)), h i (by omega)]
theorem errM_le {er : Nat → Nat} {i : Nat} (he : er i ≠ 0) (hz : ∀ j, j < i → er j = 0) : ∀ {n : Nat}, i < n → errM er n = er i
  | 0, h => by omega
  | n + 1, h => by
    unfold errM
    rcases Nat.lt_or_ge i n with g | g
    · rw [errM_le he hz g, if_neg he]
    · have e : i = n := by omega
      subst e
      rw [if_pos (errM_zero hz)]
theorem errM_all {er : Nat → Nat} : ∀ {n : Nat}, errM er n = 0 → ∀ j, j < n → er j = 0
  | 0, _, j, hj => by omega
  | n + 1, h, j, hj => by
    unfold errM at h
    split at h
    · rename_i h0
      rcases Nat.lt_or_ge j n with g | g
      · exact errM_all h0 j g
      · have e : j = n := by omega
        rw [e]; exact h
    · rename_i h0; exact absurd h h0
def kindsP (len : Nat) (ty er : Nat → Nat) : AV → HSt → Prop := fun v D =>
  ∃ va, v = .tuple [va, .int .i64 ((errM er len : Nat) : Int)] ∧ va.isCell = true ∧ (errM er len = 0 → ISl D (kl ty len) va)
theorem kinds_err {len i : Nat} {ty er : Nat → Nat} (hi : i < len) (hz : ∀ j, j < i → er j = 0) (he : er i ≠ 0) : kindsP len ty er (oneOf [.nils, .int .i64 ((er i : Nat) : Int)]) [] := by
  refine ⟨.nils, ?_, rfl, fun h => ?_⟩
  · rw [errM_le he hz hi]; rfl
  · rw [errM_le he hz hi] at h; exact absurd h he
theorem own_isl {A : List Nat} {n : Nat} {v : AV} {hp : HSt} (h : Own 1 (ints A) n v hp) : ISl hp A v := by
  have hl := h.length
  simp [ints] at hl
  rcases h with ⟨rfl, h2, rfl, rfl⟩ | ⟨b, ex, rfl, rfl, _, _⟩
  · exact .inl ⟨rfl, by simpa [ints] using h2⟩
  · exact .inr ⟨b, ex, by rw [hl], true, by simp⟩
theorem own_cell {sz n : Nat} {c : List AV} {v : AV} {hp : HSt} (h : Own sz c n v hp) : v.isCell = true := by
  rcases h with ⟨_, _, rfl, _⟩ | ⟨b, ex, rfl, _⟩ <;> rfl
theorem kinds_ok {len i : Nat} {ty er : Nat → Nat} {v : AV} {hp : HSt} (hi : i = len) (hz : ∀ j, j < i → er j = 0) (hO : Own 1 (ints (kl ty i)) i v hp) : kindsP len ty er (oneOf [v, .int .i64 0]) hp := by
  subst hi
  refine ⟨v, ?_, own_cell hO, fun _ => own_isl hO⟩
  rw [errM_zero hz]; rfl
theorem kinds_spec (k : Int) (op : List Nat) (ho : Bytes op) (n : Int) (ms : AV) (rg off md : Int) (nm : AV) (sd : Int) (bl : Bool) (hms : ms.isCell = true) (hnm : nm.isCell = true) (hs : HSt) (hro : ∀ e ∈ hs, e.w = false) (d : Nat) (kd : AV) (len : Nat) (hkd : kd.isCell = true) (hlen : lenA (.slice 26) kd = some len) (hl : len ≤ 1048576) (kc : Nat → List AV) (hK : ∀ i, i < len → ∃ b ob, kd = .slice b 0 len 11 ∧ MemH hs b ob ∧ sub? ob.cells ((0 + i) * 11) 11 = some (kc i) ∧ NRep hs d (kc i)) (ty er : Nat → Nat) (HT : ∀ i, i < len → Spec tab 11 [.agg (kc i)] [] hs (Val (.tuple [.int .i64 ((ty i : Nat) : Int), .int .i64 ((er i : Nat) : Int)]))) : Spec tab 23 [.agg (nodeC k op n ms rg off md nm sd bl kd)] [] hs (kindsP len ty er) := by
 refine Spec.enter' (ft_get 23 Try.func23) rfl (m := 30) rfl (rs := [.tmp 2, .tmp 3]) rfl (st := [(0, .agg (nodeC k op n ms rg off md nm sd bl kd))]) rfl rfl (fun _ => rfl) (fun E => zr (WO.box rfl (node_cells hms hnm hkd) (bx26 _ rfl) rfl (fun b1 => za rfl (za (zi 0) (zk (zr (za rfl (zk (W.seq (zr (zf fa26_10 rfl 10 (zq (Q.load1 rfl (zt 0 rfl) ag24 rfl) (zq (Q.len ud24 rfl hlen) (zq (Q.move (zi 0)) (zk (W.block (W.loop_ind3 (fun (i : Nat) (v : AV) (hp : HSt) => [(4, v), (10, kd), (11, .int .i64 ((len : Nat) : Int)), (12, .int .i64 ((i : Nat) : Int))]) (fun (i : Nat) (v : AV) (hp : HSt) => hs ++ hp) (fun (i : Nat) (v : AV) (hp : HSt) => i ≤ len ∧ (∀ j, j < i → er j = 0) ∧ Own 1 (ints (kl ty i)) i v hp) (fun (i : Nat) (v : AV) (hp : HSt) => len - i) (0) (.nils) ([]) ⟨Nat.zero_le _, fun j h => by omega, Own.nil 1⟩ (zd rfl (zd rfl (zd rfl (zd rfl zzn)))) (SubH.of_sublist (by simp)) (fun i v hp hI0 ih0 => ?_))))))))))))))))))
 obtain ⟨hi, hz, hO⟩ := hI0
 refine zr (zq (Q.bin rfl rfl rfl (bv_lss lt_nat)) (zk (W.seq (W.condDS rfl (fun hc13 => ?_) (fun hc13 => ?_)))))
 · obtain ⟨bk, ob, rfl, ⟨wk, mk⟩, hs2, hN⟩ := hK i (by omega)
   obtain ⟨k1, op1, n1, ms1, rg1, off1, md1, nm1, sd1, bl1, kd1, hc1, ho1, hms1, hnm1, hkd1⟩ := hN.node
   have hT1 := HT i (by omega)
   rw [hc1] at hs2 hT1
   refine zw (W.seq (W.block (zr (zq (Q.iaddrS ud24 sz26 rfl rfl (by first | omega | (simp at * <;> omega))) (zq (Q.loadN rfl (List.mem_append_left _ mk) ag26 sz26 hs2) (WO.alloc ao26 rfl (fun b2 => WO.store sz26 rfl rfl (i := 0) rfl (node_store hms1 hnm1 hkd1) (cs := [_, _, _, _, _, _, _, _, _, _, _]) rfl (hs' := _ :: _) rfl (zk (zr (zq (Q.loadN rfl (zt 0 rfl) ag26 sz26 (l := [_, _, _, _, _, _, _, _, _, _, _]) rfl) (WO.callV rfl (oLs_cons rfl oLs_nil) rfl hT1 (SubR.tl (SubR.appl (SubR.self hro))) rfl (zm rfl (zq (Q.extract rfl rfl) (zq (Q.extract rfl rfl) (za rfl (za rfl (zk (W.seq (zr (zm rfl (zq (Q.bin rfl (zi 0) rfl (bv_neq ne_nat)) (zk (W.condDS rfl (fun hc22 => ?_) (fun hc22 => ?_))))))))))))))))))))))))
   · refine zr (zm rfl (za rfl (za rfl (zk (W.sub (zc 3 rfl (zc 2 rfl zzn)) (W.ret ?_))))))
     refine End.K_ret (End.KB_ret (End.K_ret (End.KL_ret (End.KB_ret (End.K_ret (End.ret (ResL.tmp rfl (z1 rfl)) (hs' := []) (kinds_err (i := i) (by omega) hz (by omega)) (fun e h => no_w h) (SubH.nil _)))))))
   refine zw (W.reg (zm rfl (zm rfl (WO.bslice ud43 sz3 zr3 rfl (oPs_cons rfl oPs_nil) rfl (cs := [_]) rfl rfl rfl (fun b3 => WO.appOwn (e := ⟨b3, _, true⟩) (A := ([_] ++ hs)) ap43_43 hO rfl rfl rfl rfl ⟨by first | omega | (simp at * <;> omega), by first | omega | (simp at * <;> omega)⟩ (by decide) rfl rfl (fun v27 hp27 hO27 => za rfl (WO.nil (End.KB (End.K (W.sub (zc 4 rfl (zc 10 rfl (zc 11 rfl (zc 12 rfl zzn)))) (W.reg (zq (Q.bin rfl (zi 1) rfl zp) (zm rfl (WO.nil (End.KL (W.sub (zd rfl (zd rfl (zd rfl (zd rfl zzn)))) (W.subH (SubH.of_sublist (by simp)) (ih0 (i + 1) (v27) (hp27) ?_ ?_))))))))))))))))))
   · exact ⟨by omega, fun j h => by rcases Nat.lt_or_ge j i with g | g; exact hz j g; have hji : j = i := (by omega); rw [hji]; omega, by simpa [kl_succ, ints_snoc] using hO27⟩
   exact (by first | omega | (simp at * <;> omega))
 refine W.exit (End.K_exit (End.KL_exit (End.KB_hit (End.K (zr (zm rfl (za rfl (za (zi 0) (zk (W.ret ?_))))))))))
 refine End.ret (ResL.tmp rfl (z1 rfl)) (hs' := hp) (kinds_ok (i := i) (by omega) hz hO) hO.w (SubH.of_sublist (by simp))
end Go.Proofs.Ytnlnmbnopdklhaa.Ev
