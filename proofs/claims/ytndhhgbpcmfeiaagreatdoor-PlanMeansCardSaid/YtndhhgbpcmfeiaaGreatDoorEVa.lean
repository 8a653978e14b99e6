/- Chapter 17, walks: the document's tokens, as far as their shapes. -/
import Derived.Test.YtndhhgbpcmfeiaaGreatDoorEV9
namespace Go.Proofs.YtndhhgbpcmfeiaaGreatDoor.Ev.P16
open Go.RowKit
set_option maxRecDepth 100000
set_option maxHeartbeats 1000000
def tokP (s : List Nat) (i : Nat) (v : AV) : Prop :=
 ∃ (z : Nat) (t : List Nat) (n a : Int) (k : Nat) (e : Int), v = .tuple [.agg [.int .i64 (z : Int), .str t, .int .i64 n, .int .i64 a], .int .i64 (k : Int), .int .i64 e] ∧ Bytes t ∧ t.length ≤ 1024 ∧ (e = 0 → i < k ∧ k ≤ s.length)
abbrev TokT := Nat × List Nat × Int × Int
def tokC (x : TokT) : List AV := [.int .i64 ((x.1 : Nat) : Int), .str x.2.1, .int .i64 x.2.2.1, .int .i64 x.2.2.2]
def tokCs (l : List TokT) : List AV := l.flatMap tokC
def scanP (v : AV) (D : HSt) : Prop :=
 (∃ a e : Int, e ≠ 0 ∧ v = .tuple [.nils, .int .i64 a, .int .i64 e] ∧ D = []) ∨
 ∃ (b : Nat) (ex : Bool) (acc : List TokT) (a : Int), v = .tuple [.slice b 0 (acc.length + 1) 4, .int .i64 0, .int .i64 0] ∧
  D = [⟨b, ⟨4, ex, tokCs acc ++ [.int .i64 ((6 : Nat) : Int), .str [], .int .i64 0, .int .i64 a]⟩, true⟩] ∧ (∀ x ∈ acc, Bytes x.2.1 ∧ x.2.1.length ≤ 1024) ∧ acc.length ≤ 1024
theorem scan_no {a e : Int} (h : e ≠ 0) : scanP (oneOf [.nils, .int .i64 a, .int .i64 e]) [] := .inl ⟨a, e, h, rfl, rfl⟩
theorem scan_yes {b : Nat} {ex : Bool} {acc : List TokT} {a : Int} (h : ∀ x ∈ acc, Bytes x.2.1 ∧ x.2.1.length ≤ 1024) (hl : acc.length ≤ 1024) :
  scanP (oneOf [.slice b 0 (acc.length + 1) 4, .int .i64 0, .int .i64 0]) [⟨b, ⟨4, ex, tokCs acc ++ [.int .i64 ((6 : Nat) : Int), .str [], .int .i64 0, .int .i64 a]⟩, true⟩] := .inr ⟨b, ex, acc, a, rfl, rfl, h, hl⟩
theorem numeral_spec (s : List Nat) (hs : Bytes s) (hl : s.length ≤ 1024) (i : Nat) (hi : i < s.length) (hdg : digB (s.getD i 0) = true) : Spec tab 86 [.str s, .int .i64 ((i : Nat) : Int)] [] [] (ValE (tokP s i)) := by
 refine Spec.en (ftg 86 Tryz.func86) rfl (m := 68) rfl (rs := [.cell 4 67, .tmp 5, .tmp 6]) rfl (st := [(0, .str s), (1, .int .i64 ((i : Nat) : Int))]) rfl rfl (fun _ => rfl) (fun E => zr (WO.alloc ao67 rfl (fun b1 => za (zi 0) (za (zi 0) (zk (zr (zm rfl (za rfl (zk (W.seqK1 (fun (k : Nat) => [(0, .str s), (1, .int .i64 ((i : Nat) : Int)), (4, .ptr b1 0), (7, .int .i64 ((k : Nat) : Int))]) (fun (k : Nat) => i < k ∧ k ≤ s.length) (fun k hI4 => ?_) (fun hJ4 => ?_)))))))))))
 ·obtain ⟨h1, h2⟩ := hI4
  refine zr (zm rfl (zm rfl (zm rfl (zq (Q.sliceS ud9 rfl rfl zo rfl) (za rfl (zk (zr (zm rfl (WO.callE rfl (oLc rfl oz) rfl (fix_spec _ (Bytes.take (Bytes.drop hs _) _) zo) SubR.nil rfl (fun v42 hP42 => ?_))))))))))
  obtain ⟨a42, e42, rfl⟩ := hP42
  refine zm rfl (zq (Q.extract rfl rfl) (zq (Q.extract rfl rfl) (za rfl (za rfl (zk (W.seq (zr (zm rfl (zq (Q.bin rfl (zi 0) rfl (bv_eql eq_int)) (zm rfl (WO.sD (d := 47) rfl (fun hc47 => ?_) (fun hc47 => ?_))))))))))))
  ·refine zG (zG (zq (Q.pT rfl rfl) (zk (W.sub (zc 50 rfl (zc 10 rfl (zc 9 rfl (zc 8 rfl (zc 1 rfl (zc 4 rfl (zc 7 rfl zzn))))))) (W.condT rfl (zr (zm rfl (zm rfl (zm rfl (zq (Q.build pl67 (opc (zi 2) (opc rfl (opc rfl (opc rfl oPs_nil)))) rfl (cs := [_, _, _, _]) rfl) (zm rfl (zm rfl (WO.store sz67 rfl rfl (i := 0) rfl rfl (cs := [_, _, _, _]) rfl (hs' := [_]) rfl (za rfl (za rfl (zk (W.ret (End.Kr (End.retE (ResL.agg (c := [_, _, _, _]) rfl (zt 0 rfl) ag67 sz67 rfl (ResL.tmp rfl (z1 rfl))) ?_)))))))))))))))))))
   exact ⟨_, _, _, _, _, _, rfl, Bytes.take (Bytes.drop hs _) _, by first | omega | (simp at * <;> omega), fun _ => ⟨h1, h2⟩⟩
  refine zT (zm rfl (zT (zq (Q.bin rfl (zi 11) rfl (bv_eql eq_int)) (zq (Q.pF rfl rfl) (zk (W.sub (zc 50 rfl (zc 10 rfl (zc 9 rfl (zc 8 rfl (zc 1 rfl (zc 4 rfl (zc 7 rfl zzn))))))) (W.cD rfl (fun hc50 => ?_) (fun hc50 => ?_))))))))
  ·refine zr (zm rfl (zm rfl (zm rfl (zq (Q.build pl67 (opc (zi 2) (opc rfl (opc rfl (opc rfl oPs_nil)))) rfl (cs := [_, _, _, _]) rfl) (zm rfl (zm rfl (WO.store sz67 rfl rfl (i := 0) rfl rfl (cs := [_, _, _, _]) rfl (hs' := [_]) rfl (za rfl (za rfl (zk (W.ret (End.Kr (End.retE (ResL.agg (c := [_, _, _, _]) rfl (zt 0 rfl) ag67 sz67 rfl (ResL.tmp rfl (z1 rfl))) ?_)))))))))))))
   exact ⟨_, _, _, _, _, _, rfl, Bytes.take (Bytes.drop hs _) _, by first | omega | (simp at * <;> omega), fun _ => ⟨h1, h2⟩⟩
  refine zw (zr (zm rfl (WO.callE rfl (oLc rfl oz) rfl (dur_spec _ (Bytes.take (Bytes.drop hs _) _) zo) SubR.nil rfl (fun v59 hP59 => ?_))))
  obtain ⟨a59, e59, rfl⟩ := hP59
  refine zm rfl (zq (Q.extract rfl rfl) (zq (Q.extract rfl rfl) (za rfl (za rfl (zk (zr (zm rfl (zm rfl (zm rfl (zq (Q.build pl67 (opc (zi 3) (opc rfl (opc rfl (opc rfl oPs_nil)))) rfl (cs := [_, _, _, _]) rfl) (zm rfl (zm rfl (WO.store sz67 rfl rfl (i := 0) rfl rfl (cs := [_, _, _, _]) rfl (hs' := [_]) rfl (za rfl (za rfl (zk (W.sub (zc 6 rfl (zc 5 rfl (zc 4 rfl zzn))) (W.ret (End.retE (ResL.agg (c := [_, _, _, _]) rfl (zt 0 rfl) ag67 sz67 rfl (ResL.tmp rfl (z1 rfl))) ?_)))))))))))))))))))
  exact ⟨_, _, _, _, _, _, rfl, Bytes.take (Bytes.drop hs _) _, by first | omega | (simp at * <;> omega), fun _ => ⟨h1, h2⟩⟩
 refine W.block (W.loop_ind (fun (k : Nat) => [(0, .str s), (1, .int .i64 ((i : Nat) : Int)), (4, .ptr b1 0), (7, .int .i64 ((k : Nat) : Int))]) (fun _ => _) (fun (k : Nat) => i ≤ k ∧ k ≤ s.length) (fun (k : Nat) => s.length - k) (i) ⟨Nat.le_refl _, by omega⟩ zv (SubH.refl _) (fun k hI0 ih0 => ?_))
 obtain ⟨h1, h2⟩ := hI0
 refine W.seq (zr (zm rfl (zm rfl (zq (Q.len ud9 rfl rfl) (zq (Q.bin rfl rfl rfl (bvl ltn)) (zm rfl (WO.sD (d := 16) rfl (fun hc16 => ?_) (fun hc16 => ?_))))))))
 ·refine zT (zm rfl (zT (zm rfl (zT (WO.indexB hs ud9 rfl rfl zo rfl (fun c19 hd19 hb19 => zT (WO.cV rfl (oLc rfl oz) rfl (digit_spec _ (by assumption)) SubR.nil rfl (zT (zm rfl (WO.split (d := 21) rfl (fun hc21 => ?_) (fun hc21 => ?_)))))))))))
  ·refine zG (zG (zG (zG (zT (zq (Q.pT rfl rfl) (zT (zm rfl (zG (zG (zG (zG (zT (zq (Q.pT rfl rfl) (zq (Q.pT rfl rfl) (zk (W.sub (zc 33 rfl (zc 0 rfl (zc 1 rfl (zc 4 rfl (zc 7 rfl zzn))))) (W.condT rfl (zw (W.block (W.reg (zm rfl (zq (Q.bin rfl (zi 1) rfl zp) (za rfl ?_)))))))))))))))))))))))
   refine WO.nil (End.KB (End.KL (W.sub zv (ih0 (k + 1) ?_ ?_))))
   ·exact ⟨by omega, by omega⟩
   exact zo
  refine zT (zm rfl (zT (zm rfl (zT (WO.indexB hs ud9 rfl rfl zo rfl (fun c24 hd24 hb24 => zT (WO.cV rfl (oLc rfl oz) rfl (letter_spec _ (by assumption)) SubR.nil rfl (zT (zq (Q.pF rfl rfl) (zT (zm rfl (WO.split (d := 27) rfl (fun hc27 => ?_) (fun hc27 => ?_)))))))))))))
  ·refine zG (zG (zG (zG (zT (zq (Q.pT rfl rfl) (zq (Q.pT rfl rfl) (zk (W.sub (zc 33 rfl (zc 0 rfl (zc 1 rfl (zc 4 rfl (zc 7 rfl zzn))))) (W.condT rfl (zw (W.block (W.reg (zm rfl (zq (Q.bin rfl (zi 1) rfl zp) (za rfl (WO.nil (End.KB (End.KL (W.sub zv (ih0 (k + 1) ?_ ?_))))))))))))))))))))
   ·exact ⟨by omega, by omega⟩
   exact zo
  refine zT (zm rfl (zT (zm rfl (zT (WO.indexB hs ud9 rfl rfl zo rfl (fun c30 hd30 hb30 => zT (zq (Q.bin rfl (zu 46) rfl (bv_eql eq_nat)) (zT (zq (Q.pF rfl rfl) (zq (Q.pT rfl rfl) (zk (W.sub (zc 33 rfl (zc 0 rfl (zc 1 rfl (zc 4 rfl (zc 7 rfl zzn))))) (W.cD rfl (fun hc33 => ?_) (fun hc33 => ?_))))))))))))))
  ·refine zw (W.block (W.reg (zm rfl (zq (Q.bin rfl (zi 1) rfl zp) (za rfl (WO.nil (End.KB (End.KL (W.sub zv (ih0 (k + 1) ?_ ?_))))))))))
   ·exact ⟨by omega, by omega⟩
   exact zo
  have hik : i < k := (by rcases Nat.lt_or_ge i k with g | g; exact g; exfalso; have e : k = i := zy; subst e; first | omega | (simp_all; done))
  refine W.exit (End.Kx (End.Lx (End.Bh (End.K (W.sub zv (hJ4 (k) ?_))))))
  exact ⟨hik, h2⟩
 have hik : i < k := (by rcases Nat.lt_or_ge i k with g | g; exact g; exfalso; have e : k = i := zy; subst e; first | omega | (simp_all; done))
 refine zG (zG (zG (zG (zG (WO.gF rfl rfl (.inr rfl) rfl (WO.gF rfl rfl (.inr rfl) rfl (WO.gF rfl rfl (.inr rfl) rfl (WO.gF rfl rfl (.inr rfl) rfl (zG (zG (WO.gF rfl rfl (.inr rfl) rfl (WO.gF rfl rfl (.inr rfl) rfl (WO.gF rfl rfl (.inr rfl) rfl (WO.gF rfl rfl (.inr rfl) rfl (zG (zq (Q.pF rfl rfl) (zk (W.sub (zc 33 rfl (zc 0 rfl (zc 1 rfl (zc 4 rfl (zc 7 rfl zzn))))) (W.condF rfl (W.exit (End.Kx (End.Lx (End.Bh (End.K (W.sub zv (hJ4 (k) ?_))))))))))))))))))))))))))
 exact ⟨hik, h2⟩

theorem token_spec (s : List Nat) (hs : Bytes s) (hl : s.length ≤ 1024) (i : Nat) (hi : i < s.length) : Spec tab 55 [.str s, .int .i64 ((i : Nat) : Int)] [] [] (ValE (tokP s i)) := by
 refine Spec.en (ftg 55 Tryz.func55) rfl (m := 96) rfl (rs := [.cell 4 67, .tmp 5, .tmp 6]) rfl (st := [(0, .str s), (1, .int .i64 ((i : Nat) : Int))]) rfl rfl (fun _ => rfl) (fun E => zr (WO.alloc ao67 rfl (fun b1 => za (zi 0) (za (zi 0) (zk (W.seq (W.block (zr (zm rfl (zm rfl (WO.indexB hs ud9 rfl rfl zo rfl (fun c14 hd14 hb14 => WO.cV rfl (oLc rfl oz) rfl (letter_spec _ (by assumption)) SubR.nil rfl (za rfl (zk (W.condS rfl (fun hc11 => ?_) (fun hc11 => ?_))))))))))))))))
 ·refine zr (zm rfl (za rfl (zk (W.seqK1 (fun (k : Nat) => [(0, .str s), (1, .int .i64 ((i : Nat) : Int)), (4, .ptr b1 0), (7, .int .i64 ((k : Nat) : Int))]) (fun (k : Nat) => i < k ∧ k ≤ s.length) (fun k hI5 => ?_) (fun hJ5 => ?_)))))
  ·obtain ⟨h1, h2⟩ := hI5
   refine zr (zm rfl (zm rfl (zm rfl (zq (Q.sliceS ud9 rfl rfl zo rfl) (zm rfl (zq (Q.build pl67 (opc (zi 1) (opc rfl (opc rfl oPs_nil))) rfl (cs := [_, _, _, _]) rfl) (zm rfl (WO.store sz67 rfl rfl (i := 0) rfl rfl (cs := [_, _, _, _]) rfl (hs' := [_]) rfl (za rfl (za (zi 0) (zk (W.ret (End.Br (End.Kr (End.retE (ResL.agg (c := [_, _, _, _]) rfl (zt 0 rfl) ag67 sz67 rfl (ResL.tmp rfl (z1 rfl))) ?_)))))))))))))))
   exact ⟨_, _, _, _, _, _, rfl, Bytes.take (Bytes.drop hs _) _, by first | omega | (simp at * <;> omega), fun _ => ⟨h1, h2⟩⟩
  refine W.block (W.loop_ind (fun (k : Nat) => [(0, .str s), (1, .int .i64 ((i : Nat) : Int)), (4, .ptr b1 0), (7, .int .i64 ((k : Nat) : Int))]) (fun _ => _) (fun (k : Nat) => i ≤ k ∧ k ≤ s.length) (fun (k : Nat) => s.length - k) (i) ⟨Nat.le_refl _, by omega⟩ zv (SubH.refl _) (fun k hI0 ih0 => ?_))
  obtain ⟨h1, h2⟩ := hI0
  refine W.seq (zr (zm rfl (zm rfl (zq (Q.len ud9 rfl rfl) (zq (Q.bin rfl rfl rfl (bvl ltn)) (zm rfl (WO.sD (d := 21) rfl (fun hc21 => ?_) (fun hc21 => ?_))))))))
  ·refine zT (zm rfl (zT (zm rfl (zT (WO.indexB hs ud9 rfl rfl zo rfl (fun c24 hd24 hb24 => zT (WO.cV rfl (oLc rfl oz) rfl (letter_spec _ (by assumption)) SubR.nil rfl (zT (zm rfl (WO.split (d := 26) rfl (fun hc26 => ?_) (fun hc26 => ?_)))))))))))
   ·refine zG (zG (zG (zG (zT (zq (Q.pT rfl rfl) (zq (Q.pT rfl rfl) (zk (W.sub (zc 32 rfl (zc 0 rfl (zc 1 rfl (zc 4 rfl (zc 7 rfl zzn))))) (W.condT rfl (zw (W.block (W.reg (zm rfl (zq (Q.bin rfl (zi 1) rfl zp) (za rfl (WO.nil (End.KB (End.KL (W.sub zv (ih0 (k + 1) ?_ ?_))))))))))))))))))))
    ·exact ⟨by omega, by omega⟩
    exact zo
   refine zT (zm rfl (zT (zm rfl (zT (WO.indexB hs ud9 rfl rfl zo rfl (fun c29 hd29 hb29 => zT (WO.cV rfl (oLc rfl oz) rfl (digit_spec _ (by assumption)) SubR.nil rfl (zT (zq (Q.pF rfl rfl) (zq (Q.pT rfl rfl) (zk (W.sub (zc 32 rfl (zc 0 rfl (zc 1 rfl (zc 4 rfl (zc 7 rfl zzn))))) (W.condS rfl (fun hc32 => ?_) (fun hc32 => ?_))))))))))))))
   ·refine zw (W.block (W.reg (zm rfl (zq (Q.bin rfl (zi 1) rfl zp) (za rfl (WO.nil (End.KB (End.KL (W.sub zv (ih0 (k + 1) ?_ ?_))))))))))
    ·exact ⟨by omega, by omega⟩
    exact zo
   have hik : i < k := (by rcases Nat.lt_or_ge i k with g | g; exact g; exfalso; have e : k = i := zy; subst e; first | omega | (simp_all; done))
   refine W.exit (End.Kx (End.Lx (End.Bh (End.K (W.sub zv (hJ5 (k) ?_))))))
   exact ⟨hik, h2⟩
  have hik : i < k := (by rcases Nat.lt_or_ge i k with g | g; exact g; exfalso; have e : k = i := zy; subst e; first | omega | (simp_all; done))
  refine zG (zG (zG (zG (zG (WO.gF rfl rfl (.inr rfl) rfl (WO.gF rfl rfl (.inr rfl) rfl (WO.gF rfl rfl (.inr rfl) rfl (WO.gF rfl rfl (.inr rfl) rfl (zG (zq (Q.pF rfl rfl) (zk (W.sub (zc 32 rfl (zc 0 rfl (zc 1 rfl (zc 4 rfl (zc 7 rfl zzn))))) (W.condF rfl (W.exit (End.Kx (End.Lx (End.Bh (End.K (W.sub zv (hJ5 (k) ?_))))))))))))))))))))
  exact ⟨hik, h2⟩
 refine zr (zm rfl (zm rfl (WO.indexB hs ud9 rfl rfl zo rfl (fun c45 hd45 hb45 => WO.cV rfl (oLc rfl oz) rfl (digit_spec _ (by assumption)) SubR.nil rfl (za rfl (zk (W.condS rfl (fun hc42 => ?_) (fun hc42 => ?_))))))))
 ·refine zr (zm rfl (zm rfl (WO.callE rfl (oLc rfl (oLc rfl oz)) rfl (numeral_spec s hs hl i zy (by first | exact hc42 | (rw [← hd45]; first | exact hc42 | exact hc46))) SubR.nil rfl (fun v49 hP49 => ?_))))
  obtain ⟨z, t, n, a, k, e, rfl, htb, htl, hke⟩ := hP49
  refine zq (Q.extract rfl rfl) (zq (Q.extract rfl rfl) (zq (Q.extract rfl rfl) (WO.store sz67 rfl rfl (i := 0) rfl rfl (cs := [_, _, _, _]) rfl (hs' := [_]) rfl (za rfl (za rfl (zk (W.sub (zc 6 rfl (zc 5 rfl (zc 4 rfl zzn))) (W.ret (End.Br (End.Kr (End.retE (ResL.agg (c := [_, _, _, _]) rfl (zt 0 rfl) ag67 sz67 rfl (ResL.tmp rfl (z1 rfl))) ?_)))))))))))
  exact ⟨_, _, _, _, _, _, rfl, htb, htl, hke⟩
 refine zr (zm rfl (zm rfl (WO.indexB hs ud9 rfl rfl zo rfl (fun c56 hd56 hb56 => zq (Q.bin rfl (zu 34) rfl (bv_eql eq_nat)) (za rfl (zk (W.sub (zc 53 rfl (zc 4 rfl (zc 0 rfl (zc 1 rfl zzn)))) (W.cD rfl (fun hc53 => ?_) (fun hc53 => ?_)))))))))
 ·refine zr (zm rfl (zm rfl (zq (Q.sliceS ud9 rfl rfl zo sl_lo) (WO.callE rfl (oLc rfl oz) rfl (unq_spec _ (Bytes.drop hs _) zo) SubR.nil rfl (fun v62 hP62 => ?_)))))
  obtain ⟨ut, un, rfl, hub, hul, hun⟩ := hP62
  refine zm rfl (zq (Q.extract rfl rfl) (zq (Q.extract rfl rfl) (za rfl (za rfl (zk (W.seq (zr (zm rfl (zq (Q.bin rfl (zi 0) rfl (bv_eql eq_nat)) (zm rfl (WO.sD (d := 67) rfl (fun hc67 => ?_) (fun hc67 => ?_))))))))))))
  ·refine zG (zG (zG (zq (Q.pT rfl rfl) (zk (W.sub (zc 71 rfl (zc 9 rfl (zc 8 rfl (zc 4 rfl (zc 1 rfl zzn))))) (W.condT rfl (zr (zq (Q.build pl67 oPs_nil rfl (cs := [_, _, _, _]) rfl) (WO.store sz67 rfl rfl (i := 0) rfl rfl (cs := [_, _, _, _]) rfl (hs' := [_]) rfl (za (zi 0) (za (zi 14) (zk (W.ret (End.Kr (End.Br (End.Kr (End.retE (ResL.agg (c := [_, _, _, _]) rfl (zt 0 rfl) ag67 sz67 rfl (ResL.tmp rfl (z1 rfl))) ?_)))))))))))))))))
   exact ⟨0, [], 0, 0, 0, 14, rfl, by intro c h; simp at h, by simp, fun h => absurd h (by decide)⟩
  refine zT (zm rfl (zT (zq (Q.len ud9 rfl rfl) (zT (zq (Q.bin rfl (zi 64) rfl (bv_gtr ltn)) (zq (Q.pF rfl rfl) (zk (W.sub (zc 71 rfl (zc 9 rfl (zc 8 rfl (zc 4 rfl (zc 1 rfl zzn))))) (W.cD rfl (fun hc71 => ?_) (fun hc71 => ?_))))))))))
  ·refine zr (zq (Q.build pl67 oPs_nil rfl (cs := [_, _, _, _]) rfl) (WO.store sz67 rfl rfl (i := 0) rfl rfl (cs := [_, _, _, _]) rfl (hs' := [_]) rfl (za (zi 0) (za (zi 14) (zk (W.ret (End.Kr (End.Br (End.Kr (End.retE (ResL.agg (c := [_, _, _, _]) rfl (zt 0 rfl) ag67 sz67 rfl (ResL.tmp rfl (z1 rfl))) ?_))))))))))
   exact ⟨0, [], 0, 0, 0, 14, rfl, by intro c h; simp at h, by simp, fun h => absurd h (by decide)⟩
  refine zw (zr (zm rfl (zm rfl (zq (Q.build pl67 (opc (zi 4) (opc rfl (opc rfl oPs_nil))) rfl (cs := [_, _, _, _]) rfl) (zm rfl (zm rfl (zq (Q.bin rfl rfl rfl zp) (WO.store sz67 rfl rfl (i := 0) rfl rfl (cs := [_, _, _, _]) rfl (hs' := [_]) rfl (za rfl (za (zi 0) (zk (W.ret (End.Br (End.Kr (End.retE (ResL.agg (c := [_, _, _, _]) rfl (zt 0 rfl) ag67 sz67 rfl (ResL.tmp rfl (z1 rfl))) ?_)))))))))))))))
  exact ⟨_, _, _, _, _, _, rfl, hub, by first | omega | (simp at * <;> omega), fun _ => ⟨by omega, by simp at hun; omega⟩⟩
 refine W.skip (End.KB (End.K (zr (zm rfl (zm rfl (WO.callE rfl (oLc rfl (oLc rfl oz)) rfl (mark_spec s hs hl i zy) SubR.nil rfl (fun v81 hP81 => ?_)))))))
 obtain ⟨m, rfl, hm1, hm2⟩ := hP81
 refine za rfl (zk (W.seq (zr (zm rfl (zq (Q.bin rfl (zi 0) rfl (bv_eql eq_nat)) (zk (W.cD rfl (fun hc83 => ?_) (fun hc83 => ?_))))))))
 ·refine zr (zq (Q.build pl67 oPs_nil rfl (cs := [_, _, _, _]) rfl) (WO.store sz67 rfl rfl (i := 0) rfl rfl (cs := [_, _, _, _]) rfl (hs' := [_]) rfl (za (zi 0) (za (zi 14) (zk (W.ret (End.Kr (End.retE (ResL.agg (c := [_, _, _, _]) rfl (zt 0 rfl) ag67 sz67 rfl (ResL.tmp rfl (z1 rfl))) ?_))))))))
  exact ⟨0, [], 0, 0, 0, 14, rfl, by intro c h; simp at h, by simp, fun h => absurd h (by decide)⟩
 refine zw (zr (zm rfl (zm rfl (zm rfl (zm rfl (zq (Q.bin rfl rfl rfl zp) (zq (Q.sliceS ud9 rfl rfl zo rfl) (zm rfl (zq (Q.build pl67 (opc (zi 5) (opc rfl (opc rfl oPs_nil))) rfl (cs := [_, _, _, _]) rfl) (zm rfl (zm rfl (zq (Q.bin rfl rfl rfl zp) (WO.store sz67 rfl rfl (i := 0) rfl rfl (cs := [_, _, _, _]) rfl (hs' := [_]) rfl (za rfl (za (zi 0) (zk (W.sub (zc 6 rfl (zc 5 rfl (zc 4 rfl zzn))) (W.ret (End.retE (ResL.agg (c := [_, _, _, _]) rfl (zt 0 rfl) ag67 sz67 rfl (ResL.tmp rfl (z1 rfl))) ?_)))))))))))))))))))
 exact ⟨_, _, _, _, _, _, rfl, Bytes.take (Bytes.drop hs _) _, by first | omega | (simp at * <;> omega), fun _ => ⟨by omega, by omega⟩⟩

theorem scan_spec (s : List Nat) (hs : Bytes s) (hl : s.length ≤ 1048576) : Spec tab 30 [.str s] [] [] (scanP) := by
 refine Spec.en (ftg 30 Tryz.func30) rfl (m := 42) rfl (rs := [.tmp 2, .tmp 3, .tmp 4]) rfl (st := [(0, .str s)]) rfl rfl (fun _ => rfl) (fun E => zr (za rfl (za (zi 0) (za (zi 0) (zk (W.seq (zr (zm rfl (zq (Q.len ud9 rfl rfl) (zq (Q.bin rfl (zi 1024) rfl (bv_gtr ltn)) (zk (W.cD rfl (fun hc12 => ?_) (fun hc12 => ?_)))))))))))))
 ·refine zr (za rfl (za (zi 0) (za (zi 3) (zk (W.ret ?_)))))
  refine End.Kr (End.ret (ResL.tmp rfl (ResL.tmp rfl (z1 rfl))) (scan_no (by decide)) (fun e h => no_w h) (SubH.nil _))
 refine zw (zr (za rfl (zk (zr (zm rfl (WO.callE rfl (oLc rfl (oLc (zi 0) oz)) rfl (blank_spec s hs zy _ zy) SubR.nil rfl (fun v14 hP14 => ?_)))))))
 obtain ⟨k14, rfl, hg14, hk14⟩ := hP14
 refine za rfl (zk (W.seq (W.block (W.loop_ind4 (fun (i : Nat) (acc : List TokT) (v : AV) (hp : HSt) => [(0, .str s), (5, v), (6, .int .i64 ((i : Nat) : Int))]) (fun (i : Nat) (acc : List TokT) (v : AV) (hp : HSt) => hp) (fun (i : Nat) (acc : List TokT) (v : AV) (hp : HSt) => i ≤ s.length ∧ acc.length ≤ i ∧ (∀ x ∈ acc, Bytes x.2.1 ∧ x.2.1.length ≤ 1024) ∧ Own 4 (tokCs acc) acc.length v hp) (fun (i : Nat) (acc : List TokT) (v : AV) (hp : HSt) => s.length - i) (k14) ([]) (.nils) ([]) ⟨by omega, by simp, by simp, Own.nil 4⟩ zv (SubH.refl _) (fun i acc v hp hI0 ih0 => ?_)))))
 obtain ⟨h1, hla, hB, hO⟩ := hI0
 refine W.seq (zr (zm rfl (zm rfl (zq (Q.len ud9 rfl rfl) (zq (Q.bin rfl rfl rfl (bvl ltn)) (zk (W.cD rfl (fun hc18 => ?_) (fun hc18 => ?_))))))))
 ·refine zw (W.block (zr (zm rfl (zm rfl (WO.callE rfl (oLc rfl (oLc rfl oz)) rfl (token_spec s hs zy _ zy) SubR.nil rfl (fun v22 hP22 => ?_))))))
  obtain ⟨z, t, n, a, k, e, rfl, htb, htl, hke⟩ := hP22
  refine zm rfl (zq (Q.extract rfl rfl) (zq (Q.extract rfl rfl) (zq (Q.extract rfl rfl) (WO.alloc ao67 rfl (fun b1 => WO.store sz67 rfl rfl (i := 0) rfl rfl (cs := [_, _, _, _]) rfl (hs' := _ :: _) rfl (za rfl (za rfl (zk (W.seq (zr (zm rfl (zq (Q.bin rfl (zi 0) rfl (bv_neq ne_int)) (zk (W.cD rfl (fun hc27 => ?_) (fun hc27 => ?_)))))))))))))))
  ·refine zr (zm rfl (zm rfl (za rfl (za rfl (za rfl (zk (W.sub (zc 4 rfl (zc 3 rfl (zc 2 rfl zzn))) (W.ret ?_))))))))
   refine End.Kr (End.Br (End.Lr (End.Br (End.Kr (End.ret (ResL.tmp rfl (ResL.tmp rfl (z1 rfl))) (scan_no (by first | exact hc27 | omega)) (fun e h => no_w h) (SubH.nil _))))))
  have he0 : e = 0 := zy
  have hkk := hke he0
  refine zw (W.sub (zc 8 rfl (zc 7 rfl (zc 0 rfl (zc 5 rfl zzn)))) (zr (zm rfl (zq (Q.loadN rfl (zt 0 rfl) ag67 sz67 (l := [_, _, _, _]) rfl) (WO.bslice ud59 sz67 zr67 rfl (opc rfl oPs_nil) rfl (cs := [_, _, _, _]) rfl rfl rfl (fun b2 => WO.appOwn (e := ⟨b2, _, true⟩) (A := [_]) ap59_59 hO rfl rfl rfl rfl ⟨by first | omega | (simp at * <;> omega), by first | omega | (simp at * <;> omega)⟩ (by decide) rfl rfl (fun v33 hp33 hO33 => za rfl (zk (W.reg (zm rfl (zm rfl (WO.callE rfl (oLc rfl (oLc rfl oz)) rfl (blank_spec s hs zy _ zy) SubR.nil rfl (fun v36 hP36 => ?_)))))))))))))
  obtain ⟨k36, rfl, hg36, hk36⟩ := hP36
  refine za rfl (WO.nil (End.KB (End.KL (W.sub zv (W.sH (SubH.of_sublist (by simp)) (ih0 (k36) (acc ++ [(z, t, n, a)]) (v33) (hp33) ?_ ?_))))))
  ·exact ⟨by omega, by simp; omega, by intro x hx; rcases List.mem_append.1 hx with g | g; exact hB x g; simp at g; subst g; exact ⟨htb, htl⟩, by simpa [tokCs, tokC] using hO33⟩
  exact zo
 refine W.exit (End.Kx (End.Lx (End.Bh (End.K (zr (zm rfl (zm rfl (zq (Q.build pl67 (opc (zi 6) (opc rfl oPs_nil)) rfl (cs := [_, _, _, _]) rfl) (WO.bslice ud59 sz67 zr67 rfl (opc rfl oPs_nil) rfl (cs := [_, _, _, _]) rfl rfl rfl (fun b4 => WO.appOwn (e := ⟨b4, _, true⟩) (A := []) ap59_59 hO rfl rfl rfl rfl ⟨by first | omega | (simp at * <;> omega), by first | omega | (simp at * <;> omega)⟩ (by decide) rfl rfl (fun v41 hp41 hO41 => ?_)))))))))))
 obtain ⟨b41, ex41, rfl, rfl⟩ := hO41.full zy
 refine za rfl (za (zi 0) (za (zi 0) (zk (W.ret ?_))))
 refine End.ret (ResL.tmp rfl (ResL.tmp rfl (z1 rfl))) (hs' := [⟨b41, ⟨4, ex41, tokCs acc ++ [.int .i64 ((6 : Nat) : Int), .str [], .int .i64 0, .int .i64 ((i : Nat) : Int)]⟩, true⟩]) (scan_yes hB zy) (by intro e he; simp at he; subst he; rfl) (SubH.of_sublist (by simp))
end Go.Proofs.YtndhhgbpcmfeiaaGreatDoor.Ev.P16
