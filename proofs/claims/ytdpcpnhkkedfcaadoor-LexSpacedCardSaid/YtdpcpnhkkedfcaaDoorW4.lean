/- Layer 15, walks: a label's text. -/
import Derived.Test.YtdpcpnhkkedfcaaDoorW3
namespace Go.Proofs.YtdpcpnhkkedfcaaDoor.Ev
open Go.RowKit
set_option linter.unusedVariables false
set_option linter.unusedSimpArgs false
set_option maxRecDepth 100000
def esc (c : Nat) : List Nat := if c = 34 ∨ c = 92 then [92, c] else if c < 32 ∨ 126 < c then [92, 120, hexL.getD (c / 16) 0, hexL.getD (c % 16) 0] else [c]
theorem esc1 {c : Nat} (h : c = 34 ∨ c = 92) : esc c = [92, c] := if_pos h
theorem esc2 {c : Nat} (h : ¬ (c = 34 ∨ c = 92)) (g : c < 32 ∨ 126 < c) : esc c = [92, 120, hexL.getD (c / 16) 0, hexL.getD (c % 16) 0] := by unfold esc; rw [if_neg h, if_pos g]
theorem esc3 {c : Nat} (h : ¬ (c = 34 ∨ c = 92)) (g : ¬ (c < 32 ∨ 126 < c)) : esc c = [c] := by unfold esc; rw [if_neg h, if_neg g]
def quE : List Nat → List Nat
  | [] => []
  | c :: l => esc c ++ quE l
theorem quE_step {l : List Nat} {i : Nat} (h : i < l.length) : quE (l.drop i) = esc (l.getD i 0) ++ quE (l.drop (i + 1)) := by
  rw [List.drop_eq_getElem_cons h]
  have e : l.getD i 0 = l[i] := by simp [h]
  rw [e]
  rfl
def quM (s : List Nat) : List Nat := 34 :: (quE s ++ [34])
theorem hexL_lt (i : Nat) : hexL.getD i 0 < 256 := Bytes.at (l := hexL) (by unfold Bytes; decide) i
theorem esc_bytes {c : Nat} (h : c < 256) : Bytes (esc c) ∧ (esc c).length ≤ 4 := by
  unfold esc
  split
  · exact ⟨Bytes.cons (by decide) (Bytes.one h), by simp⟩
  · split
    · exact ⟨Bytes.cons (by decide) (Bytes.cons (by decide) (Bytes.cons (hexL_lt _) (Bytes.one (hexL_lt _)))), by simp⟩
    · exact ⟨Bytes.one h, by simp⟩
theorem quE_bytes : ∀ {l : List Nat}, Bytes l → Bytes (quE l) ∧ (quE l).length ≤ 4 * l.length
  | [], _ => ⟨by intro c h; simp [quE] at h, by simp [quE]⟩
  | c :: l, h => by
    obtain ⟨a, b⟩ := esc_bytes (h c (List.mem_cons_self ..))
    obtain ⟨a', b'⟩ := quE_bytes (l := l) fun x hx => h x (List.mem_cons_of_mem _ hx)
    refine ⟨Bytes.append a a', ?_⟩
    show (esc c ++ quE l).length ≤ _
    simp only [List.length_append, List.length_cons]
    omega
theorem quM_bytes {l : List Nat} (h : Bytes l) : Bytes (quM l) := Bytes.cons (by decide) (Bytes.append (quE_bytes h).1 (Bytes.one (by decide)))
theorem quM_len {l : List Nat} (h : Bytes l) : (quM l).length ≤ 4 * l.length + 2 := by
  have := (quE_bytes h).2
  simp [quM]; omega
/-- What label.Check says of one label. -/
def chk1 (n v : List Nat) : Nat := if (!nameB n) = true then 8 else if v = [] then 2 else if 64 < v.length then 3 else 0
def prM (n v : List Nat) : List Nat := [123] ++ ((n ++ [61]) ++ quM v) ++ [125]
theorem prB {n v : List Nat} (hn : Bytes n) (hv : Bytes v) : Bytes ((n ++ [61]) ++ quM v) := Bytes.append (Bytes.append hn (Bytes.one (by decide))) (quM_bytes hv)
theorem quoteM_spec (s : List Nat) (hs : Bytes s) (hl : s.length ≤ 1048576) : Spec tab 68 [.str s] [] [] (Val (.str (quM s))) := by
  refine Spec.enter' (ft_get 68 Tryd.func68) rfl (m := 47) rfl (rs := [.tmp 2]) rfl (st := [(0, .str s)]) rfl rfl (fun _ => rfl) (fun E => ?_)
  refine W.seq ?_
  refine W.reg ?_
  refine WO.q (Q.assign (oc (v := .str []) (by kernel_rfl))) rfl ?_
  refine WO.nil ?_
  refine End.K ?_
  refine W.seq ?_
  refine W.reg ?_
  refine WO.bslice ud63 sz5 zr5 rfl (oPs_cons (oc (v := .int .u8 ((34 : Nat) : Int)) rfl) oPs_nil) rfl (cs := [_]) rfl rfl rfl (fun b1 => ?_)
  refine WO.q (Q.assign rfl) rfl ?_
  refine WO.nil ?_
  refine End.K ?_
  refine W.seq ?_
  refine W.seq ?_
  refine W.reg ?_
  refine WO.q (Q.move rfl) rfl ?_
  refine WO.q (Q.len ud9 rfl rfl) rfl ?_
  refine WO.q (Q.move (oc (v := .int .i64 ((0 : Nat) : Int)) rfl)) rfl ?_
  refine WO.nil ?_
  refine End.K ?_
  refine W.block ?_
  refine W.loop_ind4 (fun (i : Nat) (acc : List Nat) (v : AV) (hp : HSt) => [(0, .str s), (3, v), (8, .int .i64 ((s.length : Nat) : Int)), (9, .int .i64 ((i : Nat) : Int))]) (fun (i : Nat) (acc : List Nat) (v : AV) (hp : HSt) => hp) (fun (i : Nat) (acc : List Nat) (v : AV) (hp : HSt) => i ≤ s.length ∧ Bytes acc ∧ Own 1 (u8c acc) acc.length v hp ∧ 34 :: quE s = acc ++ quE (s.drop i) ∧ acc.length ≤ 1 + 4 * i) (fun (i : Nat) (acc : List Nat) (v : AV) (hp : HSt) => s.length - i) (0) ([34]) (.slice b1 0 1 1) ([⟨b1, ⟨1, true, [.int .u8 ((34 : Nat) : Int)]⟩, true⟩]) ⟨by omega, by unfold Bytes; decide, .inr ⟨b1, true, rfl, rfl, rfl, by decide⟩, by simp, by decide⟩ (SubS.cons rfl (SubS.cons rfl (SubS.cons rfl (SubS.cons rfl (SubS.nil _))))) (SubH.refl _) (fun i acc v hp hI0 ih0 => ?_)
  obtain ⟨h1, ha, hO, hv, hle⟩ := hI0
  refine W.seq ?_
  refine W.reg ?_
  refine WO.q (Q.bin rfl rfl rfl (bv_lss lt_nat)) rfl ?_
  refine WO.nil ?_
  refine End.K ?_
  refine W.seq ?_
  refine W.condDS rfl (fun hc10 => ?_) (fun hc10 => ?_)
  · skip -- L0T
    refine W.skip ?_
    refine End.K ?_
    refine W.seq ?_
    refine W.block ?_
    refine W.seq ?_
    refine W.reg ?_
    refine WO.q (Q.move rfl) rfl ?_
    refine WO.q (Q.assign rfl) rfl ?_
    refine WO.nil ?_
    refine End.K ?_
    refine W.seq ?_
    refine W.reg ?_
    refine WO.q (Q.move rfl) rfl ?_
    refine WO.q (Q.move rfl) rfl ?_
    refine WO.indexB hs ud9 rfl rfl (by first | omega | (simp only [List.length_drop, List.length_take, List.length_append, List.length_cons, List.length_nil] at *; omega)) rfl (fun c14 hd14 hb14 => ?_)
    refine WO.q (Q.assign rfl) rfl ?_
    refine WO.nil ?_
    refine End.K ?_
    refine W.sub (SubS.cons (k := 5) rfl (SubS.cons (k := 0) rfl (SubS.cons (k := 3) rfl (SubS.cons (k := 8) rfl (SubS.cons (k := 9) rfl (SubS.nil _)))))) ?_
    refine W.block ?_
    refine W.seq ?_
    refine W.seq ?_
    refine W.reg ?_
    refine WO.q (Q.move rfl) rfl ?_
    refine WO.q (Q.bin rfl (oc (v := .int .u8 ((34 : Nat) : Int)) rfl) rfl (bv_eql eq_nat)) rfl ?_
    refine WO.q (Q.assign rfl) rfl ?_
    refine WO.nil ?_
    refine End.K ?_
    refine W.condDS rfl (fun hc19 => ?_) (fun hc19 => ?_)
    · skip -- L0TT
      refine W.skip ?_
      refine End.K ?_
      refine W.condT rfl ?_
      refine W.reg ?_
      refine WO.q (Q.move rfl) rfl ?_
      refine WO.q (Q.move rfl) rfl ?_
      refine WO.bslice ud63 sz5 zr5 rfl (oPs_cons (oc (v := .int .u8 ((92 : Nat) : Int)) rfl) (oPs_cons rfl oPs_nil)) rfl (cs := [_, _]) rfl rfl rfl (fun b2 => ?_)
      refine WO.appOwn (e := ⟨b2, _, true⟩) (A := []) ap63_63 hO rfl rfl rfl rfl ⟨by first | omega | (simp only [List.length_drop, List.length_take, List.length_append, List.length_cons, List.length_nil] at *; omega), by first | omega | (simp only [List.length_drop, List.length_take, List.length_append, List.length_cons, List.length_nil] at *; omega)⟩ (by decide) rfl rfl (fun v27 hp27 hO27 => ?_)
      refine WO.q (Q.assign rfl) rfl ?_
      refine WO.nil ?_
      refine End.KB (End.KB (End.K ?_))
      refine W.sub (SubS.cons (k := 3) rfl (SubS.cons (k := 0) rfl (SubS.cons (k := 8) rfl (SubS.cons (k := 9) rfl (SubS.nil _))))) ?_
      refine W.reg ?_
      refine WO.q (Q.bin rfl (oc (v := .int .i64 ((1 : Nat) : Int)) rfl) rfl (bv_add (wn_add (by first | omega | (simp only [List.length_drop, List.length_take, List.length_append, List.length_cons, List.length_nil] at *; omega))))) rfl ?_
      refine WO.q (Q.move rfl) rfl ?_
      refine WO.nil ?_
      refine End.KL ?_
      refine W.sub (SubS.cons rfl (SubS.cons rfl (SubS.cons rfl (SubS.cons rfl (SubS.nil _))))) (ih0 (i + 1) (acc ++ [92, c14]) (v27) (hp27) ?_ ?_)
      · exact ⟨by omega, Bytes.append ha (Bytes.cons (by decide) (Bytes.one hb14)), by simpa [u8c] using hO27, by rw [hv, quE_step (by omega), ← hd14, esc1 (by omega)]; simp, by simp; omega⟩
      · exact (by first | omega | (simp only [List.length_drop, List.length_take, List.length_append, List.length_cons, List.length_nil] at *; omega))
    · skip -- L0TF
      refine W.reg ?_
      refine WO.q (Q.move rfl) rfl ?_
      refine WO.q (Q.bin rfl (oc (v := .int .u8 ((92 : Nat) : Int)) rfl) rfl (bv_eql eq_nat)) rfl ?_
      refine WO.q (Q.assign rfl) rfl ?_
      refine WO.nil ?_
      refine End.K ?_
      refine W.condDS rfl (fun hc19 => ?_) (fun hc19 => ?_)
      · skip -- L0TFT
        refine W.reg ?_
        refine WO.q (Q.move rfl) rfl ?_
        refine WO.q (Q.move rfl) rfl ?_
        refine WO.bslice ud63 sz5 zr5 rfl (oPs_cons (oc (v := .int .u8 ((92 : Nat) : Int)) rfl) (oPs_cons rfl oPs_nil)) rfl (cs := [_, _]) rfl rfl rfl (fun b4 => ?_)
        refine WO.appOwn (e := ⟨b4, _, true⟩) (A := []) ap63_63 hO rfl rfl rfl rfl ⟨by first | omega | (simp only [List.length_drop, List.length_take, List.length_append, List.length_cons, List.length_nil] at *; omega), by first | omega | (simp only [List.length_drop, List.length_take, List.length_append, List.length_cons, List.length_nil] at *; omega)⟩ (by decide) rfl rfl (fun v27 hp27 hO27 => ?_)
        refine WO.q (Q.assign rfl) rfl ?_
        refine WO.nil ?_
        refine End.KB (End.KB (End.K ?_))
        refine W.sub (SubS.cons (k := 3) rfl (SubS.cons (k := 0) rfl (SubS.cons (k := 8) rfl (SubS.cons (k := 9) rfl (SubS.nil _))))) ?_
        refine W.reg ?_
        refine WO.q (Q.bin rfl (oc (v := .int .i64 ((1 : Nat) : Int)) rfl) rfl (bv_add (wn_add (by first | omega | (simp only [List.length_drop, List.length_take, List.length_append, List.length_cons, List.length_nil] at *; omega))))) rfl ?_
        refine WO.q (Q.move rfl) rfl ?_
        refine WO.nil ?_
        refine End.KL ?_
        refine W.sub (SubS.cons rfl (SubS.cons rfl (SubS.cons rfl (SubS.cons rfl (SubS.nil _))))) (ih0 (i + 1) (acc ++ [92, c14]) (v27) (hp27) ?_ ?_)
        · exact ⟨by omega, Bytes.append ha (Bytes.cons (by decide) (Bytes.one hb14)), by simpa [u8c] using hO27, by rw [hv, quE_step (by omega), ← hd14, esc1 (by omega)]; simp, by simp; omega⟩
        · exact (by first | omega | (simp only [List.length_drop, List.length_take, List.length_append, List.length_cons, List.length_nil] at *; omega))
      · skip -- L0TFF
        refine W.seq ?_
        refine W.seq ?_
        refine W.reg ?_
        refine WO.q (Q.move rfl) rfl ?_
        refine WO.q (Q.bin rfl (oc (v := .int .u8 ((32 : Nat) : Int)) rfl) rfl (bv_lss lt_nat)) rfl ?_
        refine WO.q (Q.assign rfl) rfl ?_
        refine WO.nil ?_
        refine End.K ?_
        refine W.sub (SubS.cons (k := 28) rfl (SubS.cons (k := 5) rfl (SubS.cons (k := 0) rfl (SubS.cons (k := 3) rfl (SubS.cons (k := 8) rfl (SubS.cons (k := 9) rfl (SubS.nil _))))))) ?_
        refine W.condDS rfl (fun hc28 => ?_) (fun hc28 => ?_)
        · skip -- L0TFFT
          refine W.skip ?_
          refine End.K ?_
          refine W.condT rfl ?_
          refine W.regD 8 [] (by kernel_rfl) KIn.nil ?_
          refine WD.q (Q.move rfl) (Own.bq hO) rfl ?_
          refine WD.q (Q.move rfl) bq_int rfl ?_
          refine WD.q (Q.bin rfl (oc (v := .int .u64 ((4 : Nat) : Int)) rfl) rfl (bv_shr8 (by first | omega | (simp only [List.length_drop, List.length_take, List.length_append, List.length_cons, List.length_nil] at *; omega)))) bq_int rfl ?_
          refine WD.indexB (by unfold Bytes; decide) ud9 (oc (v := .str [48, 49, 50, 51, 52, 53, 54, 55, 56, 57, 97, 98, 99, 100, 101, 102]) (by kernel_rfl)) rfl (by first | omega | (simp only [List.length_drop, List.length_take, List.length_append, List.length_cons, List.length_nil] at *; omega)) rfl (fun c36 hd36 hb36 => ?_)
          refine WD.q (Q.move rfl) bq_int rfl ?_
          refine WD.q (Q.bin rfl (oc (v := .int .u8 ((15 : Nat) : Int)) rfl) rfl (bv_and8 (by first | omega | (simp only [List.length_drop, List.length_take, List.length_append, List.length_cons, List.length_nil] at *; omega)))) bq_int rfl ?_
          refine WD.indexB (by unfold Bytes; decide) ud9 (oc (v := .str [48, 49, 50, 51, 52, 53, 54, 55, 56, 57, 97, 98, 99, 100, 101, 102]) (by kernel_rfl)) rfl (by first | omega | (simp only [List.length_drop, List.length_take, List.length_append, List.length_cons, List.length_nil] at *; omega)) rfl (fun c39 hd39 hb39 => ?_)
          refine WD.bslice ud63 sz5 zr5 rfl (oPs_cons (oc (v := .int .u8 ((92 : Nat) : Int)) rfl) (oPs_cons (oc (v := .int .u8 ((120 : Nat) : Int)) rfl) (oPs_cons rfl (oPs_cons rfl oPs_nil)))) rfl (cs := [_, _, _, _]) rfl rfl rfl KIn.nil (fun b6 => ?_)
          refine WD.appOwn (e := ⟨b6, _, true⟩) (A := []) ap63_63 hO rfl rfl rfl rfl ⟨by first | omega | (simp only [List.length_drop, List.length_take, List.length_append, List.length_cons, List.length_nil] at *; omega), by first | omega | (simp only [List.length_drop, List.length_take, List.length_append, List.length_cons, List.length_nil] at *; omega)⟩ (by decide) rfl rfl KIn.nil (fun v41 hp41 hO41 => ?_)
          refine WD.q (Q.assign rfl) (Own.bq hO41) rfl ?_
          refine WD.nil ?_
          refine End.KB (End.KB (End.K ?_))
          refine W.sub (SubS.cons (k := 3) rfl (SubS.cons (k := 0) rfl (SubS.cons (k := 8) rfl (SubS.cons (k := 9) rfl (SubS.nil _))))) ?_
          refine W.reg ?_
          refine WO.q (Q.bin rfl (oc (v := .int .i64 ((1 : Nat) : Int)) rfl) rfl (bv_add (wn_add (by first | omega | (simp only [List.length_drop, List.length_take, List.length_append, List.length_cons, List.length_nil] at *; omega))))) rfl ?_
          refine WO.q (Q.move rfl) rfl ?_
          refine WO.nil ?_
          refine End.KL ?_
          refine W.sub (SubS.cons rfl (SubS.cons rfl (SubS.cons rfl (SubS.cons rfl (SubS.nil _))))) (ih0 (i + 1) (acc ++ [92, 120, c36, c39]) (v41) (hp41) ?_ ?_)
          · exact ⟨by omega, Bytes.append ha (Bytes.cons (by decide) (Bytes.cons (by decide) (Bytes.cons hb36 (Bytes.one hb39)))), by simpa [u8c] using hO41, by rw [hv, quE_step (by omega), ← hd14, esc2 (by omega) (by omega)]; simp [hexL, hd36, hd39], by simp; omega⟩
          · exact (by first | omega | (simp only [List.length_drop, List.length_take, List.length_append, List.length_cons, List.length_nil] at *; omega))
        · skip -- L0TFFF
          refine W.reg ?_
          refine WO.q (Q.move rfl) rfl ?_
          refine WO.q (Q.bin rfl (oc (v := .int .u8 ((126 : Nat) : Int)) rfl) rfl (bv_gtr lt_nat)) rfl ?_
          refine WO.q (Q.assign rfl) rfl ?_
          refine WO.nil ?_
          refine End.K ?_
          refine W.condDS rfl (fun hc28 => ?_) (fun hc28 => ?_)
          · skip -- L0TFFFT
            refine W.regD 8 [] (by kernel_rfl) KIn.nil ?_
            refine WD.q (Q.move rfl) (Own.bq hO) rfl ?_
            refine WD.q (Q.move rfl) bq_int rfl ?_
            refine WD.q (Q.bin rfl (oc (v := .int .u64 ((4 : Nat) : Int)) rfl) rfl (bv_shr8 (by first | omega | (simp only [List.length_drop, List.length_take, List.length_append, List.length_cons, List.length_nil] at *; omega)))) bq_int rfl ?_
            refine WD.indexB (by unfold Bytes; decide) ud9 (oc (v := .str [48, 49, 50, 51, 52, 53, 54, 55, 56, 57, 97, 98, 99, 100, 101, 102]) (by kernel_rfl)) rfl (by first | omega | (simp only [List.length_drop, List.length_take, List.length_append, List.length_cons, List.length_nil] at *; omega)) rfl (fun c36 hd36 hb36 => ?_)
            refine WD.q (Q.move rfl) bq_int rfl ?_
            refine WD.q (Q.bin rfl (oc (v := .int .u8 ((15 : Nat) : Int)) rfl) rfl (bv_and8 (by first | omega | (simp only [List.length_drop, List.length_take, List.length_append, List.length_cons, List.length_nil] at *; omega)))) bq_int rfl ?_
            refine WD.indexB (by unfold Bytes; decide) ud9 (oc (v := .str [48, 49, 50, 51, 52, 53, 54, 55, 56, 57, 97, 98, 99, 100, 101, 102]) (by kernel_rfl)) rfl (by first | omega | (simp only [List.length_drop, List.length_take, List.length_append, List.length_cons, List.length_nil] at *; omega)) rfl (fun c39 hd39 hb39 => ?_)
            refine WD.bslice ud63 sz5 zr5 rfl (oPs_cons (oc (v := .int .u8 ((92 : Nat) : Int)) rfl) (oPs_cons (oc (v := .int .u8 ((120 : Nat) : Int)) rfl) (oPs_cons rfl (oPs_cons rfl oPs_nil)))) rfl (cs := [_, _, _, _]) rfl rfl rfl KIn.nil (fun b8 => ?_)
            refine WD.appOwn (e := ⟨b8, _, true⟩) (A := []) ap63_63 hO rfl rfl rfl rfl ⟨by first | omega | (simp only [List.length_drop, List.length_take, List.length_append, List.length_cons, List.length_nil] at *; omega), by first | omega | (simp only [List.length_drop, List.length_take, List.length_append, List.length_cons, List.length_nil] at *; omega)⟩ (by decide) rfl rfl KIn.nil (fun v41 hp41 hO41 => ?_)
            refine WD.q (Q.assign rfl) (Own.bq hO41) rfl ?_
            refine WD.nil ?_
            refine End.KB (End.KB (End.K ?_))
            refine W.sub (SubS.cons (k := 3) rfl (SubS.cons (k := 0) rfl (SubS.cons (k := 8) rfl (SubS.cons (k := 9) rfl (SubS.nil _))))) ?_
            refine W.reg ?_
            refine WO.q (Q.bin rfl (oc (v := .int .i64 ((1 : Nat) : Int)) rfl) rfl (bv_add (wn_add (by first | omega | (simp only [List.length_drop, List.length_take, List.length_append, List.length_cons, List.length_nil] at *; omega))))) rfl ?_
            refine WO.q (Q.move rfl) rfl ?_
            refine WO.nil ?_
            refine End.KL ?_
            refine W.sub (SubS.cons rfl (SubS.cons rfl (SubS.cons rfl (SubS.cons rfl (SubS.nil _))))) (ih0 (i + 1) (acc ++ [92, 120, c36, c39]) (v41) (hp41) ?_ ?_)
            · exact ⟨by omega, Bytes.append ha (Bytes.cons (by decide) (Bytes.cons (by decide) (Bytes.cons hb36 (Bytes.one hb39)))), by simpa [u8c] using hO41, by rw [hv, quE_step (by omega), ← hd14, esc2 (by omega) (by omega)]; simp [hexL, hd36, hd39], by simp; omega⟩
            · exact (by first | omega | (simp only [List.length_drop, List.length_take, List.length_append, List.length_cons, List.length_nil] at *; omega))
          · skip -- L0TFFFF
            refine W.reg ?_
            refine WO.q (Q.move rfl) rfl ?_
            refine WO.q (Q.move rfl) rfl ?_
            refine WO.bslice ud63 sz5 zr5 rfl (oPs_cons rfl oPs_nil) rfl (cs := [_]) rfl rfl rfl (fun b10 => ?_)
            refine WO.appOwn (e := ⟨b10, _, true⟩) (A := []) ap63_63 hO rfl rfl rfl rfl ⟨by first | omega | (simp only [List.length_drop, List.length_take, List.length_append, List.length_cons, List.length_nil] at *; omega), by first | omega | (simp only [List.length_drop, List.length_take, List.length_append, List.length_cons, List.length_nil] at *; omega)⟩ (by decide) rfl rfl (fun v18 hp18 hO18 => ?_)
            refine WO.q (Q.assign rfl) rfl ?_
            refine WO.nil ?_
            refine End.KB (End.KB (End.K ?_))
            refine W.sub (SubS.cons (k := 3) rfl (SubS.cons (k := 0) rfl (SubS.cons (k := 8) rfl (SubS.cons (k := 9) rfl (SubS.nil _))))) ?_
            refine W.reg ?_
            refine WO.q (Q.bin rfl (oc (v := .int .i64 ((1 : Nat) : Int)) rfl) rfl (bv_add (wn_add (by first | omega | (simp only [List.length_drop, List.length_take, List.length_append, List.length_cons, List.length_nil] at *; omega))))) rfl ?_
            refine WO.q (Q.move rfl) rfl ?_
            refine WO.nil ?_
            refine End.KL ?_
            refine W.sub (SubS.cons rfl (SubS.cons rfl (SubS.cons rfl (SubS.cons rfl (SubS.nil _))))) (ih0 (i + 1) (acc ++ [c14]) (v18) (hp18) ?_ ?_)
            · exact ⟨by omega, Bytes.append ha (Bytes.one hb14), by simpa [u8c] using hO18, by rw [hv, quE_step (by omega), ← hd14, esc3 (by omega) (by omega)]; simp, by simp; omega⟩
            · exact (by first | omega | (simp only [List.length_drop, List.length_take, List.length_append, List.length_cons, List.length_nil] at *; omega))
  · skip -- L0F
    refine W.exit ?_
    refine End.K_exit (End.KL_exit (End.KB_hit (End.K ?_)))
    refine W.seq ?_
    refine W.reg ?_
    refine WO.q (Q.move rfl) rfl ?_
    refine WO.bslice ud63 sz5 zr5 rfl (oPs_cons (oc (v := .int .u8 ((34 : Nat) : Int)) rfl) oPs_nil) rfl (cs := [_]) rfl rfl rfl (fun b12 => ?_)
    refine WO.appOwn (e := ⟨b12, _, true⟩) (A := []) ap63_63 hO rfl rfl rfl rfl ⟨by first | omega | (simp only [List.length_drop, List.length_take, List.length_append, List.length_cons, List.length_nil] at *; omega), by first | omega | (simp only [List.length_drop, List.length_take, List.length_append, List.length_cons, List.length_nil] at *; omega)⟩ (by decide) rfl rfl (fun v45 hp45 hO45 => ?_)
    refine WO.q (Q.convOwn (A := []) ud63 ud9 ud5 (Bytes.append ha (by unfold Bytes; decide)) (by simpa [u8c] using hO45 : Own 1 (u8c (acc ++ [34])) _ _ _) rfl rfl) rfl ?_
    refine WO.q (Q.assign rfl) rfl ?_
    refine WO.nil ?_
    refine End.K ?_
    refine W.sub (SubS.cons (k := 2) rfl (SubS.nil _)) ?_
    refine W.ret ?_
    refine End.retV (ResL.tmp rfl ResL.nil) ?_
    (exact congrArg AV.str (by simp only [quM]; rw [← List.cons_append, hv, List.drop_eq_nil_of_le (by omega)]; simp [quE]))

theorem join1_spec (x sep : List Nat) (hx : Bytes x) (hsp : Bytes sep) (b : Nat) (ex : Bool) : Spec tab 69 [.slice b 0 1 1, .str sep] [] [⟨b, ⟨1, ex, [.str x]⟩, false⟩] (Val (.str x)) := by
  refine Spec.enter' (ft_get 69 Tryd.func69) rfl (m := 75) rfl (rs := [.tmp 4]) rfl (st := [(0, .slice b 0 1 1), (1, .str sep)]) rfl rfl (fun _ => rfl) (fun E => ?_)
  refine W.seq ?_
  refine W.reg ?_
  refine WO.q (Q.assign (oc (v := .str []) (by kernel_rfl))) rfl ?_
  refine WO.nil ?_
  refine End.K ?_
  refine W.seq ?_
  refine W.seq ?_
  refine W.reg ?_
  refine WO.q (Q.move rfl) rfl ?_
  refine WO.q (Q.len ud57 rfl rfl) rfl ?_
  refine WO.nil ?_
  refine End.K ?_
  refine W.block ?_
  refine W.seq ?_
  refine W.reg ?_
  refine WO.q (Q.bin rfl (oc (v := .int .i64 ((0 : Nat) : Int)) rfl) rfl (bv_eql (p := false) rfl)) rfl ?_
  refine WO.q (Q.assign rfl) rfl ?_
  refine WO.nil ?_
  refine End.K ?_
  refine W.condF rfl ?_
  refine W.seq ?_
  refine W.reg ?_
  refine WO.q (Q.bin rfl (oc (v := .int .i64 ((1 : Nat) : Int)) rfl) rfl (bv_eql (p := true) rfl)) rfl ?_
  refine WO.q (Q.assign rfl) rfl ?_
  refine WO.nil ?_
  refine End.K ?_
  refine W.sub (SubS.cons (k := 15) rfl (SubS.cons (k := 0) rfl (SubS.cons (k := 1) rfl (SubS.nil _)))) ?_
  refine W.condT rfl ?_
  refine W.seq ?_
  refine W.reg ?_
  refine WO.q (Q.move rfl) rfl ?_
  refine WO.q (Q.iaddrL ud57 sz9 rfl (oc (v := .int .i64 ((0 : Nat) : Int)) rfl) (by first | omega | (simp only [List.length_drop, List.length_take, List.length_append, List.length_cons, List.length_nil] at *; omega)) (o' := 0) rfl) rfl ?_
  refine WO.q (Q.load1 rfl (mem_at (i := 0) rfl) ag9 rfl) rfl ?_
  refine WO.q (Q.assign rfl) rfl ?_
  refine WO.nil ?_
  refine End.K ?_
  refine W.sub (SubS.cons (k := 4) rfl (SubS.nil _)) ?_
  refine W.ret ?_
  refine End.KB_ret (End.K_ret (End.retV (ResL.tmp rfl ResL.nil) ?_))
  rfl

theorem check1_spec (n v : List Nat) (hn : Bytes n) (hv : Bytes v) (hln : n.length ≤ 65536) (hlv : v.length ≤ 65536) (b : Nat) (ex : Bool) : Spec tab 54 [.slice b 0 1 2] [] [⟨b, ⟨2, ex, [.str n, .str v]⟩, false⟩] (Val (.int .i64 ((chk1 n v : Nat) : Int))) := by
  refine Spec.enter' (ft_get 54 Tryd.func54) rfl (m := 44) rfl (rs := [.tmp 2]) rfl (st := [(0, .slice b 0 1 2)]) rfl rfl (fun _ => rfl) (fun E => ?_)
  refine W.seq ?_
  refine W.reg ?_
  refine WO.q (Q.assign (oc (v := .int .i64 ((0 : Nat) : Int)) rfl)) rfl ?_
  refine WO.nil ?_
  refine End.K ?_
  refine W.seq ?_
  refine W.seq ?_
  refine W.reg ?_
  refine WO.q (Q.move rfl) rfl ?_
  refine WO.q (Q.len ud72 rfl rfl) rfl ?_
  refine WO.q (Q.bin rfl (oc (v := .int .i64 ((8 : Nat) : Int)) rfl) rfl (bv_gtr (p := false) rfl)) rfl ?_
  refine WO.nil ?_
  refine End.K ?_
  refine W.condF rfl ?_
  refine W.skip ?_
  refine End.K ?_
  refine W.seq ?_
  refine W.seq ?_
  refine W.reg ?_
  refine WO.q (Q.move rfl) rfl ?_
  refine WO.q (Q.len ud72 rfl rfl) rfl ?_
  refine WO.q (Q.move (oc (v := .int .i64 ((0 : Nat) : Int)) rfl)) rfl ?_
  refine WO.nil ?_
  refine End.K ?_
  refine W.block ?_
  refine W.loop ?_
  refine W.seq ?_
  refine W.reg ?_
  refine WO.q (Q.bin rfl rfl rfl (bv_lss (p := true) rfl)) rfl ?_
  refine WO.nil ?_
  refine End.K ?_
  refine W.seq ?_
  refine W.condT rfl ?_
  refine W.skip ?_
  refine End.K ?_
  refine W.seq ?_
  refine W.block ?_
  refine W.seq ?_
  refine W.reg ?_
  refine WO.q (Q.move rfl) rfl ?_
  refine WO.q (Q.iaddrL ud72 sz76 rfl rfl (by first | omega | (simp only [List.length_drop, List.length_take, List.length_append, List.length_cons, List.length_nil] at *; omega)) (o' := 0) rfl) rfl ?_
  refine WO.q (Q.loadN rfl (mem_at (i := 0) rfl) ag76 sz76 (l := [_, _]) rfl) rfl ?_
  refine WO.alloc ao76 rfl (fun b1 => ?_)
  refine WO.q (Q.assign rfl) rfl ?_
  refine WO.store sz76 rfl rfl (i := 0) rfl rfl (cs := [_, _]) rfl (hs' := [_, _]) rfl ?_
  refine WO.nil ?_
  refine End.K ?_
  refine W.sub (SubS.cons (k := 3) rfl (SubS.cons (k := 4) rfl (SubS.cons (k := 10) rfl (SubS.cons (k := 9) rfl (SubS.cons (k := 8) rfl (SubS.cons (k := 0) rfl (SubS.nil _))))))) ?_
  refine W.block ?_
  refine W.seq ?_
  refine W.reg ?_
  refine WO.q (Q.fieldAddr fa76_0 rfl (o' := 0) rfl) rfl ?_
  refine WO.q (Q.load1 rfl (mem_at (i := 0) rfl) ag9 rfl) rfl ?_
  refine WO.callV rfl (oLs_cons rfl oLs_nil) rfl (name_spec _ (by assumption) (by first | omega | (simp only [List.length_drop, List.length_take, List.length_append, List.length_cons, List.length_nil] at *; omega))) SubR.nil rfl ?_
  refine WO.q (Q.not rfl rfl) rfl ?_
  refine WO.q (Q.assign rfl) rfl ?_
  refine WO.nil ?_
  refine End.K ?_
  refine W.condS rfl (fun hc15 => ?_) (fun hc15 => ?_)
  · skip -- T
    refine W.seq ?_
    refine W.reg ?_
    refine WO.q (Q.assign (oc (v := .int .i64 ((8 : Nat) : Int)) rfl)) rfl ?_
    refine WO.nil ?_
    refine End.K ?_
    refine W.sub (SubS.cons (k := 2) rfl (SubS.nil _)) ?_
    refine W.ret ?_
    refine End.KB_ret (End.KB_ret (End.K_ret (End.KL_ret (End.KB_ret (End.K_ret (End.retV (ResL.tmp rfl ResL.nil) ?_))))))
    exact i64_eq (by simp_all [chk1])
  · skip -- F
    refine W.seq ?_
    refine W.reg ?_
    refine WO.q (Q.fieldAddr fa76_1 rfl (o' := 1) rfl) rfl ?_
    refine WO.q (Q.load1 rfl (mem_at (i := 0) rfl) ag9 rfl) rfl ?_
    refine WO.q (Q.bin rfl (oc (v := .str []) (by kernel_rfl)) rfl bv_seql) rfl ?_
    refine WO.q (Q.assign rfl) rfl ?_
    refine WO.nil ?_
    refine End.K ?_
    refine W.sub (SubS.cons (k := 20) rfl (SubS.cons (k := 3) rfl (SubS.cons (k := 4) rfl (SubS.cons (k := 10) rfl (SubS.cons (k := 9) rfl (SubS.cons (k := 8) rfl (SubS.cons (k := 0) rfl (SubS.nil _)))))))) ?_
    refine W.condDS rfl (fun hc20 => ?_) (fun hc20 => ?_)
    · skip -- FT
      refine W.seq ?_
      refine W.reg ?_
      refine WO.q (Q.assign (oc (v := .int .i64 ((2 : Nat) : Int)) rfl)) rfl ?_
      refine WO.nil ?_
      refine End.K ?_
      refine W.sub (SubS.cons (k := 2) rfl (SubS.nil _)) ?_
      refine W.ret ?_
      refine End.KB_ret (End.KB_ret (End.K_ret (End.KL_ret (End.KB_ret (End.K_ret (End.retV (ResL.tmp rfl ResL.nil) ?_))))))
      exact i64_eq (by simp_all [chk1])
    · skip -- FF
      refine W.seq ?_
      refine W.reg ?_
      refine WO.q (Q.fieldAddr fa76_1 rfl (o' := 1) rfl) rfl ?_
      refine WO.q (Q.load1 rfl (mem_at (i := 0) rfl) ag9 rfl) rfl ?_
      refine WO.q (Q.len ud9 rfl rfl) rfl ?_
      refine WO.q (Q.bin rfl (oc (v := .int .i64 ((64 : Nat) : Int)) rfl) rfl (bv_gtr lt_nat)) rfl ?_
      refine WO.q (Q.assign rfl) rfl ?_
      refine WO.nil ?_
      refine End.K ?_
      refine W.condDS rfl (fun hc24 => ?_) (fun hc24 => ?_)
      · skip -- FFT
        refine W.seq ?_
        refine W.reg ?_
        refine WO.q (Q.assign (oc (v := .int .i64 ((3 : Nat) : Int)) rfl)) rfl ?_
        refine WO.nil ?_
        refine End.K ?_
        refine W.sub (SubS.cons (k := 2) rfl (SubS.nil _)) ?_
        refine W.ret ?_
        refine End.KB_ret (End.KB_ret (End.K_ret (End.KL_ret (End.KB_ret (End.K_ret (End.retV (ResL.tmp rfl ResL.nil) ?_))))))
        exact i64_eq (by simp_all [chk1])
      · skip -- FFF
        refine W.seq ?_
        refine W.regT (by kernel_rfl) ?_
        refine WO.q (Q.move rfl) rfl ?_
        refine WO.q (Q.bin rfl (oc (v := .int .i64 ((0 : Nat) : Int)) rfl) rfl (bv_gtr (p := false) rfl)) rfl ?_
        refine WO.q (Q.move rfl) rfl ?_
        refine WO.gF rfl rfl (.inl rfl) rfl ?_
        refine WO.gF rfl rfl (.inl rfl) rfl ?_
        refine WO.gF rfl rfl (.inl rfl) rfl ?_
        refine WO.gF rfl rfl (.inl rfl) rfl ?_
        refine WO.gF rfl rfl (.inl rfl) rfl ?_
        refine WO.gF rfl rfl (.inl rfl) rfl ?_
        refine WO.gF rfl rfl (.inl rfl) rfl ?_
        refine WO.gF rfl rfl (.inl rfl) rfl ?_
        refine WO.gF rfl rfl (.inl rfl) rfl ?_
        refine WO.q (Q.pickF rfl rfl) rfl ?_
        refine WO.q (Q.assign rfl) rfl ?_
        refine WO.nil ?_
        refine End.K ?_
        refine W.sub (SubS.cons (k := 29) rfl (SubS.cons (k := 10) rfl (SubS.cons (k := 9) rfl (SubS.cons (k := 8) rfl (SubS.cons (k := 0) rfl (SubS.nil _)))))) ?_
        refine W.condF rfl ?_
        refine W.skip ?_
        refine End.KB (End.KB (End.K ?_))
        refine W.reg ?_
        refine WO.q (Q.bin rfl (oc (v := .int .i64 ((1 : Nat) : Int)) rfl) rfl (bv_add (wn_add (by first | omega | (simp only [List.length_drop, List.length_take, List.length_append, List.length_cons, List.length_nil] at *; omega))))) rfl ?_
        refine WO.q (Q.move rfl) rfl ?_
        refine WO.nil ?_
        refine End.KL ?_
        refine W.loop ?_
        refine W.seq ?_
        refine W.reg ?_
        refine WO.q (Q.bin rfl rfl rfl (bv_lss (p := false) rfl)) rfl ?_
        refine WO.nil ?_
        refine End.K ?_
        refine W.seq ?_
        refine W.condF rfl ?_
        refine W.exit ?_
        refine End.K_exit (End.KL_exit (End.KB_hit (End.K ?_)))
        refine W.sub (SubS.nil _) ?_
        refine W.seq ?_
        refine W.reg ?_
        refine WO.q (Q.assign (oc (v := .int .i64 ((0 : Nat) : Int)) rfl)) rfl ?_
        refine WO.nil ?_
        refine End.K ?_
        refine W.ret ?_
        refine End.retV (ResL.tmp rfl ResL.nil) ?_
        exact i64_eq (by simp_all [chk1])

theorem print1_spec (n v : List Nat) (hn : Bytes n) (hv : Bytes v) (hln : n.length ≤ 65536) (hlv : v.length ≤ 65536) (b : Nat) (ex : Bool) : Spec tab 55 [.slice b 0 1 2] [] [⟨b, ⟨2, ex, [.str n, .str v]⟩, false⟩] (Val (.str (prM n v))) := by
  have hq := quM_len hv
  refine Spec.enter' (ft_get 55 Tryd.func55) rfl (m := 27) rfl (rs := [.tmp 2]) rfl (st := [(0, .slice b 0 1 2)]) rfl rfl (fun _ => rfl) (fun E => ?_)
  refine W.seq ?_
  refine W.reg ?_
  refine WO.q (Q.assign (oc (v := .str []) (by kernel_rfl))) rfl ?_
  refine WO.nil ?_
  refine End.K ?_
  refine W.seq ?_
  refine W.reg ?_
  refine WO.q (Q.assign rfl) rfl ?_
  refine WO.nil ?_
  refine End.K ?_
  refine W.seq ?_
  refine W.seq ?_
  refine W.reg ?_
  refine WO.q (Q.move rfl) rfl ?_
  refine WO.q (Q.len ud72 rfl rfl) rfl ?_
  refine WO.q (Q.move (oc (v := .int .i64 ((0 : Nat) : Int)) rfl)) rfl ?_
  refine WO.nil ?_
  refine End.K ?_
  refine W.block ?_
  refine W.loop ?_
  refine W.seq ?_
  refine W.reg ?_
  refine WO.q (Q.bin rfl rfl rfl (bv_lss (p := true) rfl)) rfl ?_
  refine WO.nil ?_
  refine End.K ?_
  refine W.seq ?_
  refine W.condT rfl ?_
  refine W.skip ?_
  refine End.K ?_
  refine W.seq ?_
  refine W.block ?_
  refine W.seq ?_
  refine W.reg ?_
  refine WO.q (Q.iaddrL ud72 sz76 rfl rfl (by first | omega | (simp only [List.length_drop, List.length_take, List.length_append, List.length_cons, List.length_nil] at *; omega)) (o' := 0) rfl) rfl ?_
  refine WO.q (Q.loadN rfl (mem_at (i := 0) rfl) ag76 sz76 (l := [_, _]) rfl) rfl ?_
  refine WO.alloc ao76 rfl (fun b1 => ?_)
  refine WO.store sz76 rfl rfl (i := 0) rfl rfl (cs := [_, _]) rfl (hs' := [_, _]) rfl ?_
  refine WO.nil ?_
  refine End.K ?_
  refine W.regD 9 [⟨b1, _, false⟩] (by kernel_rfl) (KIn.cons (mem_at (i := 0) rfl) KIn.nil) ?_
  refine WD.q (Q.move rfl) (by simp [AV.beq, beq1, beq0, beqL]) rfl ?_
  refine WD.q (Q.fieldAddr fa76_0 rfl (o' := 0) rfl) bq_ptr rfl ?_
  refine WD.q (Q.load1 rfl (mem_at (i := 0) rfl) ag9 rfl) bq_str rfl ?_
  refine WD.q (Q.bin rfl (oc (v := .str [61]) (by kernel_rfl)) rfl (bv_sadd (by first | omega | (simp only [List.length_drop, List.length_take, List.length_append, List.length_cons, List.length_nil] at *; omega)))) bq_str rfl ?_
  refine WD.q (Q.fieldAddr fa76_1 rfl (o' := 1) rfl) bq_ptr rfl ?_
  refine WD.q (Q.load1 rfl (mem_at (i := 0) rfl) ag9 rfl) bq_str rfl ?_
  refine WD.callV rfl (oLs_cons rfl oLs_nil) rfl (quoteM_spec _ hv (by first | omega | (simp only [List.length_drop, List.length_take, List.length_append, List.length_cons, List.length_nil] at *; omega))) SubR.nil (KIn.cons (mem_at (i := 0) rfl) KIn.nil) rfl ?_
  refine WD.q (Q.bin rfl rfl rfl (bv_sadd (by first | omega | (simp only [List.length_drop, List.length_take, List.length_append, List.length_cons, List.length_nil] at *; omega)))) bq_str rfl ?_
  refine WD.bslice ud57 sz9 zr9 rfl (oPs_cons rfl oPs_nil) rfl (cs := [_]) rfl rfl rfl (KIn.cons (mem_at (i := 0) rfl) KIn.nil) (fun b2 => ?_)
  refine WD.appOwn (e := ⟨b2, _, true⟩) (A := [_, _]) ap57_57 (Own.nil 1) rfl rfl rfl rfl ⟨by first | omega | (simp only [List.length_drop, List.length_take, List.length_append, List.length_cons, List.length_nil] at *; omega), by first | omega | (simp only [List.length_drop, List.length_take, List.length_append, List.length_cons, List.length_nil] at *; omega)⟩ (by decide) rfl rfl (KIn.cons (mem_at (i := 0) rfl) KIn.nil) (fun v21 hp21 hO21 => ?_)
  obtain ⟨b21, ex21, rfl, rfl⟩ := hO21.full (by omega)
  refine WD.q (Q.assign rfl) (by simp [AV.beq, beq1, beq0, beqL]) rfl ?_
  refine WD.nil ?_
  refine End.KB (End.K ?_)
  refine W.sub (SubS.cons (k := 3) rfl (SubS.cons (k := 8) rfl (SubS.cons (k := 7) rfl (SubS.cons (k := 6) rfl (SubS.nil _))))) ?_
  refine W.reg ?_
  refine WO.q (Q.bin rfl (oc (v := .int .i64 ((1 : Nat) : Int)) rfl) rfl (bv_add (wn_add (by first | omega | (simp only [List.length_drop, List.length_take, List.length_append, List.length_cons, List.length_nil] at *; omega))))) rfl ?_
  refine WO.q (Q.move rfl) rfl ?_
  refine WO.nil ?_
  refine End.KL ?_
  refine W.loop ?_
  refine W.seq ?_
  refine W.reg ?_
  refine WO.q (Q.bin rfl rfl rfl (bv_lss (p := false) rfl)) rfl ?_
  refine WO.nil ?_
  refine End.K ?_
  refine W.seq ?_
  refine W.condF rfl ?_
  refine W.exit ?_
  refine End.K_exit (End.KL_exit (End.KB_hit (End.K ?_)))
  refine W.seq ?_
  refine W.reg ?_
  refine WO.q (Q.move rfl) rfl ?_
  refine WO.callV rfl (oLs_cons rfl (oLs_cons (oc (v := .str [44, 32]) (by kernel_rfl)) oLs_nil)) rfl (join1_spec _ _ (prB hn hv) (by unfold Bytes; decide) b21 _) (SubR.one (mem_at (i := 2) rfl)) rfl ?_
  refine WO.q (Q.bin (oc (v := .str [123]) (by kernel_rfl)) rfl rfl (bv_sadd (by first | omega | (simp only [List.length_drop, List.length_take, List.length_append, List.length_cons, List.length_nil] at *; omega)))) rfl ?_
  refine WO.q (Q.bin rfl (oc (v := .str [125]) (by kernel_rfl)) rfl (bv_sadd (by first | omega | (simp only [List.length_drop, List.length_take, List.length_append, List.length_cons, List.length_nil] at *; omega)))) rfl ?_
  refine WO.q (Q.assign rfl) rfl ?_
  refine WO.nil ?_
  refine End.K ?_
  refine W.sub (SubS.cons (k := 2) rfl (SubS.nil _)) ?_
  refine W.ret ?_
  refine End.retV (ResL.tmp rfl ResL.nil) ?_
  rfl
end Go.Proofs.YtdpcpnhkkedfcaaDoor.Ev
