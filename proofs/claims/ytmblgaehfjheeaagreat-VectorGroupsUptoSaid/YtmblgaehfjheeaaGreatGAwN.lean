/- Chapter 19, walks: a vector written over. -/
import Derived.Test.YtmblgaehfjheeaaGreatGYu
import Derived.Test.YtmblgaehfjheeaaGreatGYf
import Derived.Test.YtmblgaehfjheeaaGreatGYr
import Derived.Test.YtmblgaehfjheeaaGreatGYh
namespace Go.Proofs.YtmblgaehfjheeaaGreat.Ev
open Go.RowKit
set_option linter.unusedVariables false
set_option linter.unusedSimpArgs false
set_option maxRecDepth 100000
set_option maxHeartbeats 1000000
def lenV : AV → Nat
 | .slice _ _ n _ => n
 | _ => 0
def SLab (L : HSt) (v : AV) : Prop := v = .nils ∨ ∃ b n ex c, v = .slice b 0 n 2 ∧ (⟨b, ⟨2, ex, c⟩, true⟩ : HE) ∈ L ∧ c.length = n * 2 ∧ n ≤ 1048576
theorem SLab.len {L : HSt} {v : AV} {e : Nat} (h : SLab L v) : lenA (.slice e) v = some (lenV v) := by
 rcases h with rfl | ⟨b, n, ex, c, rfl, _⟩ <;> rfl
theorem SLab.full {L : HSt} {v : AV} (h : SLab L v) (hl : 0 < lenV v) : ∃ b n ex c, v = .slice b 0 n 2 ∧ (⟨b, ⟨2, ex, c⟩, true⟩ : HE) ∈ L ∧ c.length = n * 2 ∧ n ≤ 1048576 := by
 rcases h with rfl | h
 ·exact absurd hl (by simp [lenV])
 ·exact h
def Shp (cs : List AV) (L : HSt) (N : Nat) : Prop := cs.length = N * 2 ∧ ∀ i, i < N → SLab L (cs.getD (i * 2) .nils)
theorem Shp.at {cs : List AV} {L : HSt} {N i : Nat} (h : Shp cs L N) (hi : i < N) : cs[(0 + i) * 2 + 0]? = some (cs.getD (i * 2) .nils) ∧ SLab L (cs.getD (i * 2) .nils) := by
 refine ⟨?_, h.2 i hi⟩
 have : i * 2 < cs.length := by rw [h.1]; omega
 rw [Nat.zero_add, Nat.add_zero, List.getD_eq_getElem?_getD, List.getElem?_eq_getElem this]; rfl
theorem lay_len : ∀ {l new : List AV} {o : Nat}, o + new.length ≤ l.length → (layL l o new).length = l.length
 | l, [], o, _ => by simp [layL]
 | [], a :: new, o, h => by simp at h
 | x :: l, a :: new, 0, h => by
  simp only [layL, List.length_cons]
  rw [lay_len (by simpa using h)]
 | x :: l, a :: new, o + 1, h => by
  simp only [layL, List.length_cons]
  rw [lay_len (by simp at h ⊢; omega)]
theorem lay_ev : ∀ (l : List AV) (i k : Nat) (v : AV), (layL l (i * 2 + 1) [v]).getD (k * 2) .nils = l.getD (k * 2) .nils
 | [], i, k, v => by simp [layL]
 | x :: l, 0, 0, v => by cases l <;> rfl
 | [x], 0, k + 1, v => by simp [layL]
 | x :: y :: l, 0, k + 1, v => by
  rw [show (k + 1) * 2 = k * 2 + 1 + 1 by omega]; cases l <;> rfl
 | [x], i + 1, k, v => by
  rw [show (i + 1) * 2 + 1 = i * 2 + 1 + 1 + 1 by omega]; simp [layL]
 | x :: y :: l, i + 1, 0, v => by
  rw [show (i + 1) * 2 + 1 = i * 2 + 1 + 1 + 1 by omega]; rfl
 | x :: y :: l, i + 1, k + 1, v => by
  rw [show (i + 1) * 2 + 1 = i * 2 + 1 + 1 + 1 by omega, show (k + 1) * 2 = k * 2 + 1 + 1 by omega]
  show (layL l (i * 2 + 1) [v]).getD (k * 2) .nils = l.getD (k * 2) .nils
  exact lay_ev l i k v
theorem Shp.num {cs : List AV} {L : HSt} {N i : Nat} {v : AV} (h : Shp cs L N) (hi : i < N) : Shp (layL cs ((0 + i) * 2 + 1) [v]) L N := by
 refine ⟨?_, fun k hk => ?_⟩
 ·rw [lay_len (by rw [h.1]; simp; omega)]; exact h.1
 ·rw [Nat.zero_add, lay_ev]; exact h.2 k hk
theorem SLab.put {P Q : HSt} {b : Nat} {ex : Bool} {c c' : List AV} {v : AV} (hc : c'.length = c.length) (h : SLab (P ++ ⟨b, ⟨2, ex, c⟩, true⟩ :: Q) v) : SLab (P ++ ⟨b, ⟨2, ex, c'⟩, true⟩ :: Q) v := by
 rcases h with h | ⟨b1, n, ex1, c1, h1, h2, h3⟩
 ·exact .inl h
 ·rcases List.mem_append.1 h2 with h2 | h2
  ·exact .inr ⟨b1, n, ex1, c1, h1, List.mem_append_left _ h2, h3⟩
  ·rcases List.mem_cons.1 h2 with h2 | h2
   ·cases h2
    exact .inr ⟨b, n, ex, c', h1, List.mem_append_right _ List.mem_cons_self, hc.trans h3.1, h3.2⟩
   ·exact .inr ⟨b1, n, ex1, c1, h1, List.mem_append_right _ (List.mem_cons_of_mem _ h2), h3⟩
theorem Shp.put {cs : List AV} {P Q : HSt} {N b : Nat} {ex : Bool} {c c' : List AV} (h : Shp cs (P ++ ⟨b, ⟨2, ex, c⟩, true⟩ :: Q) N) (hc : c'.length = c.length) : Shp cs (P ++ ⟨b, ⟨2, ex, c'⟩, true⟩ :: Q) N := ⟨h.1, fun i hi => (h.2 i hi).put hc⟩
theorem wput {P Q : HSt} {e e' : HE} (h : ∀ x ∈ P ++ e :: Q, x.w = true) (he : e'.w = true := by rfl) : ∀ x ∈ P ++ e' :: Q, x.w = true := by
 intro x hx
 rcases List.mem_append.1 hx with hx | hx
 ·exact h x (List.mem_append_left _ hx)
 ·rcases List.mem_cons.1 hx with rfl | hx
  ·exact he
  ·exact h x (List.mem_append_right _ (List.mem_cons_of_mem _ hx))
theorem ck2 {x y : AV} {o n : Nat} (hx : x.isCell = true) (hy : y.isCell = true) (h : Nat.ble (o + 2) n = true) : (Nat.beq (AV.agg [x, y]).cells.length 2 && Nat.ble (o + 2) n && (AV.agg [x, y]).cells.all AV.isCell) = true := by
 rw [h]; exact and_tt rfl (and_tt hx (and_tt hy rfl))
theorem eown_shp {W : List El} {hl : HSt} (h : ∀ x ∈ W, LIn hl x.2.1 x.1) (hw : WZ hl) (hB : EBd W) : Shp (cE W) hl W.length := by
 refine ⟨cE_len W, fun i hi => ?_⟩
 have e : (cE W).getD (i * 2) .nils = (eg W i).1 := by rw [List.getD_eq_getElem?_getD, (cE_get W i hi).1]; rfl
 rw [e]
 rcases h _ (eg_mem hi) with ⟨h1, _⟩ | ⟨b, sz, ex, h1, w, h2⟩
 ·exact .inl h1
 ·obtain ⟨g1, g2⟩ := hw _ h2
  simp only at g1 g2
  subst g1 g2
  exact .inr ⟨b, _, ex, _, h1, h2, cL_len _, (hB.at hi).1.1⟩
theorem spl_some (B N : Nat) (ex : Bool) (cs : List AV) (L : HSt) (hw : ∀ e ∈ L, e.w = true) (hN : N ≤ 1048576) (hsh : Shp cs L N) : Spec tab 15 [.slice B 0 N 2] (B :: L.map (·.b)) (⟨B, ⟨2, ex, cs⟩, true⟩ :: L) (Val (.tuple [])) := by
 refine Spec.en (ftg 15 Tryz.func15) rfl (m := 32) rfl (rs := []) rfl (st := [(0, .slice B 0 N 2)]) rfl rfl (fun _ => rfl) (fun E => zr (za (zi 0) (zk (W.block (W.loop_ind3 (fun (i : Nat) (cs : List AV) (L : HSt) => [(0, .slice B 0 N 2), (2, .int .i64 ((i : Nat) : Int))]) (fun (i : Nat) (cs : List AV) (L : HSt) => (⟨B, ⟨2, ex, cs⟩, true⟩ :: L)) (fun (i : Nat) (cs : List AV) (L : HSt) => i ≤ N ∧ Shp cs L N ∧ (∀ e ∈ L, e.w = true)) (fun (i : Nat) (cs : List AV) (L : HSt) => N - i) (0) (cs) (L) ⟨Nat.zero_le _, hsh, hw⟩ zv (SubH.refl _) (fun i cs L hI0 ih0 => ?_))))))
 obtain ⟨h1, hsh, hw⟩ := hI0
 refine W.seq (zr (zm rfl (zm rfl (zq (Q.len ud22 rfl rfl) (zq (Q.bin rfl rfl rfl (bvl ltn)) (zk (W.cD rfl (fun hc7 => ?_) (fun hc7 => ?_))))))))
 ·refine zw (W.seq (W.block (zr (zm rfl (zm rfl (zq (Q.iS ud22 sz35 rfl rfl zo) (zq (Q.fieldAddr fa35_1 rfl rfl) (WO.store sz3 rfl rfl (i := 0) rfl (ck1 rfl (by rw [hsh.1]; rw [Nat.ble_eq]; omega)) rfl (hs' := _ :: _) rfl (zk (zr (za (zi 0) (zk (W.block (W.loop_ind3 (fun (k : Nat) (ds : List AV) (L : HSt) => [(0, .slice B 0 N 2), (2, .int .i64 ((i : Nat) : Int)), (3, .int .i64 ((k : Nat) : Int))]) (fun (k : Nat) (ds : List AV) (L : HSt) => (⟨B, ⟨2, ex, ds⟩, true⟩ :: L)) (fun (k : Nat) (ds : List AV) (L : HSt) => k ≤ lenV (ds.getD (i * 2) .nils) ∧ Shp ds L N ∧ (∀ e ∈ L, e.w = true)) (fun (k : Nat) (ds : List AV) (L : HSt) => lenV (ds.getD (i * 2) .nils) - k) (0) (layL cs ((0 + i) * 2 + 1) (AV.int .i64 (-1)).cells) (L) ⟨Nat.zero_le _, hsh.num zy, hw⟩ zv (SubH.refl _) (fun k ds L hI1 ih1 => ?_)))))))))))))))
  obtain ⟨hk, hsh, hw⟩ := hI1
  obtain ⟨hc, hS⟩ := hsh.at (i := i) zy
  refine W.seq (zr (zm rfl (zm rfl (zm rfl (zq (Q.iS ud22 sz35 rfl rfl zo) (zq (Q.fieldAddr fa35_0 rfl rfl) (zq (Q.l1 rfl (zt 0 rfl) ag33 hc) (zq (Q.len ud33 rfl (SLab.len hS)) (zq (Q.bin rfl rfl rfl (bvl ltn)) (zk (W.cD rfl (fun hc21 => ?_) (fun hc21 => ?_))))))))))))
  ·refine zw (W.seq (W.block (W.reg (zm rfl (zm rfl (zq (Q.iS ud22 sz35 rfl rfl zo) (zq (Q.fieldAddr fa35_0 rfl rfl) (zq (Q.l1 rfl (zt 0 rfl) ag33 hc) ?_))))))))
   obtain ⟨bl, n, exl, cl, hlv, hm, hcl, hnb⟩ := SLab.full hS zy
   rw [hlv] at hk hc21 ⊢
   have hkn : k < n := hc21
   obtain ⟨Lp, Lq, rfl⟩ := List.append_of_mem hm
   refine WO.subH (hs' := ⟨B, ⟨2, ex, ds⟩, true⟩ :: ⟨bl, ⟨2, exl, cl⟩, true⟩ :: (Lp ++ Lq)) gc (zm rfl (zq (Q.build pl68 (opc (oc (v := .str [122, 122]) (by kernel_rfl)) (opc (oc (v := .str [115, 112, 111, 105, 108, 116]) (by kernel_rfl)) opn)) rfl (cs := [_, _]) rfl) (zq (Q.iS ud33 sz68 rfl rfl zo) (WO.store sz68 rfl rfl (i := 1) rfl (ck2 rfl rfl (by rw [hcl, Nat.ble_eq]; omega)) rfl (hs' := _ :: _ :: _) rfl (WO.nil (End.KB (End.K (W.sub (zc 0 rfl (zc 2 rfl (zc 3 rfl zzn))) (W.reg (zm rfl (zq (Q.bin rfl (zi 1) rfl zp) (za rfl (WO.nil (End.KL (W.sub zv (W.sH gc (ih1 (k + 1) (ds) (Lp ++ ⟨bl, ⟨2, exl, layL cl ((0 + k) * 2) (AV.agg [.str [122, 122], .str [115, 112, 111, 105, 108, 116]]).cells⟩, true⟩ :: Lq) ?_ ?_)))))))))))))))))
   ·exact ⟨by rw [hlv]; show k + 1 ≤ n; omega, hsh.put (lay_len (by rw [hcl]; show (0 + k) * 2 + 2 ≤ _; omega)), wput hw⟩
   exact (by rw [hlv]; show n - (k + 1) < n - k; omega)
  refine W.exit (End.Kx (End.Lx (End.Bh (End.KB (End.K (W.reg (zm rfl (zq (Q.bin rfl (zi 1) rfl zp) (za rfl (WO.nil (End.KL (W.sub zv (W.sH (SubH.refl _) (ih0 (i + 1) (ds) (L) ?_ ?_))))))))))))))
  ·exact ⟨by omega, hsh, hw⟩
  exact zo
 refine W.exit ?_
 refine End.Kx (End.Lx (End.Bh (End.fall ResL.nil ⟨rfl, rfl⟩ no_wl (SubH.nil _))))

theorem spl_nil  : Spec tab 15 [.nils] [] [] (Val (.tuple [])) := by
 refine Spec.en (ftg 15 Tryz.func15) rfl (m := 32) rfl (rs := []) rfl (st := [(0, .nils)]) rfl rfl (fun _ => rfl) (fun E => zr (za (zi 0) (zk (W.block (W.loop (W.seq (zr (zm rfl (zm rfl (zq (Q.len ud22 rfl rfl) (zq (Q.bin rfl rfl rfl (bvl (p := false) rfl)) (zk (W.condF rfl (W.exit ?_))))))))))))))
 refine End.Kx (End.Lx (End.Bh (End.fall ResL.nil ⟨rfl, rfl⟩ no_wl (SubH.nil _))))
theorem spl_spec (W : List El) (w : AV) (D : HSt) (hD : VOwn W w D) : Spec tab 15 [w] (D.map (·.b)) (D ++ []) (Val (.tuple [])) := by
 obtain ⟨hp, hl, rfl, hO, hL, hw, hB⟩ := hD
 rw [List.append_nil]
 rcases hO with ⟨h1, h2, rfl, rfl⟩ | ⟨b, ex, rfl, rfl, h3⟩
 ·exact fun h hh => by
   obtain ⟨v, h', hs', q1, ⟨q2, q3⟩, q4, q5⟩ := spl_nil h ⟨fun e he => by simp at he, List.nodup_nil, Fr.refl _ _⟩
   exact ⟨v, h', hs', q1, ⟨q2, q3⟩, q4, ⟨fun e he => (by subst q3; simp at he), q5.nd, ⟨q5.fr.1, fun b hb _ => q5.fr.2 b hb (by simp)⟩⟩⟩
 ·exact spl_some b W.length ex (cE W) hl hw.w hB.1 (eown_shp hL hw hB)
def ariB (op : List Nat) : Bool := decide (op = [43] ∨ op = [45] ∨ op = [42] ∨ op = [47] ∨ op = [37])
def cmpB (op : List Nat) : Bool := decide (op = [61, 61] ∨ op = [33, 61] ∨ op = [60, 61] ∨ op = [62, 61] ∨ op = [60] ∨ op = [62])
def cmpP (op : List Nat) (a b : Int) : Bool := if op = [61, 61] then decide (a = b) else if op = [33, 61] then decide (a ≠ b) else if op = [60, 61] then decide (a ≤ b) else if op = [62, 61] then decide (b ≤ a) else if op = [60] then decide (a < b) else decide (b < a)
def numM (op : List Nat) (a b : Int) : Int × Int :=
 if ariB op = false ∧ cmpB op = false then (0, 9) else if ¬ (fitB a = true ∧ fitB b = true) then (0, 2) else if op = [43] then fAdd a b else if op = [45] then fSub a b else if op = [42] then fMul a b else if op = [47] then fDiv a b else if op = [37] then fMod a b
 else if cmpP op a b = true then (1000000, 0) else (0, 0)
section
variable {op : List Nat} {a b : Int}
end
theorem ck3 {x y : AV} (hx : x.isCell = true) (hy : y.isCell = true) : (Nat.beq (AV.agg [x, y]).cells.length 2 && Nat.ble (0 + 2) 2 && (AV.agg [x, y]).cells.all AV.isCell) = true := and_tt rfl (and_tt hx (and_tt hy rfl))
def sclF (op : List Nat) (n : Int) (lf : Bool) (z : Int) : Int × Int := numM op (if lf = true then n else z) (if lf = true then z else n)
def sclI (F : Int → Int × Int) (kp : Bool) (x : PE) : List PE := if kp = true then (if (F x.2).1 ≠ 0 then [x] else []) else [(x.1.filter (dropP [[95, 95, 110, 97, 109, 101, 95, 95]]), (F x.2).1)]
def sclL (F : Int → Int × Int) (kp : Bool) (L : List PE) : List PE := L.flatMap (sclI F kp)
def sclG (F : Int → Int × Int) (V : List El) (i : Nat) : Nat := (F (eg V i).2.2).2.toNat
noncomputable def sclPre (op : List Nat) (n : Int) (lf : Bool) (V : List El) : Option Nat :=
 if vchk V ≠ 0 then some (vchk V) else if fitB n = false then some 2 else if ariB op = false ∧ cmpB op = false then some 9 else if fstE (sclG (sclF op n lf) V) V.length 0 ≠ 0 then some (fstE (sclG (sclF op n lf) V) V.length 0) else none
def SclR (op : List Nat) (bl : Bool) (n : Int) (lf : Bool) (V : List El) (e : Nat) (W : List PE) : Prop := (sclPre op n lf V = some e ∧ W = []) ∨ (sclPre op n lf V = none ∧ OrdR (sclL (sclF op n lf) (cmpB op && !bl) (P2 V)) e W)
section
variable {op : List Nat} {bl lf kp : Bool} {n : Int} {V X : List El} {e i : Nat} {W : List PE} {F : Int → Int × Int}
theorem SclR.fn {e' : Nat} {W' : List PE} (h : SclR op bl n lf V e W) (g : SclR op bl n lf V e' W') : e = e' ∧ W = W' := by
 rcases h with ⟨h1, h2⟩ | ⟨h1, h2⟩ <;> rcases g with ⟨g1, g2⟩ | ⟨g1, g2⟩
 ·rw [h1] at g1; cases g1; exact ⟨rfl, h2.trans g2.symm⟩
 ·rw [h1] at g1; cases g1
 ·rw [h1] at g1; cases g1
 ·exact h2.fn g2
end
theorem ebd_put {X : List El} {v : AV} {x : PE} (h : EBd X) (hl : X.length + 1 ≤ 1048576) (g : LBd x.1 ∧ I64 x.2) : EBd (X ++ [(v, x)]) := by
 refine ⟨by simp; omega, fun y hy => ?_⟩
 rcases List.mem_append.1 hy with hy | hy
 ·exact h.2 y hy
 ·rw [List.mem_singleton.1 hy]; exact g
def VRes (hs : HSt) (W : List El) (w : AV) (D : HSt) : Prop := ∃ hp hl, D = hp ++ hl ∧ OwnE 2 (cE W) W.length w hp ∧ (∀ x ∈ W, LIn (hs ++ hl) x.2.1 x.1) ∧ (∀ e ∈ hl, e.w = true) ∧ EBd W
theorem VRes.nil {hs : HSt} : VRes hs [] .nils [] := ⟨[], [], rfl, OwnE.nil 2, fun x hx => by simp at hx, no_wl, ebd_nil⟩
theorem MemH.mixd {hs hp hl : HSt} {b : Nat} {o : AObj} (h : MemH (hs ++ hl) b o) : MemH (Ev.ro (hp ++ hl) ++ hs) b o := by
 obtain ⟨w, g⟩ := h
 rcases List.mem_append.1 g with g | g
 ·exact ⟨w, List.mem_append_right _ g⟩
 ·exact MemH.appl (MemH.ro ⟨w, List.mem_append_right _ g⟩)
theorem EIn.mixd {X : List El} {u : AV} {hs hp hl : HSt} (h : OwnE 2 (cE X) X.length u hp) (g : ∀ x ∈ X, LIn (hs ++ hl) x.2.1 x.1) : EIn (ro (hp ++ hl) ++ hs) X u := by
 refine ⟨?_, fun x hx => (g x hx).mono fun b o h => h.mixd⟩
 rcases h with ⟨h1, _, h2, _⟩ | ⟨b, ex, h1, rfl, _⟩
 ·exact .inl ⟨h2, List.length_eq_zero_iff.1 h1⟩
 ·exact .inr ⟨b, 2, ex, h1, MemH.appl (MemH.ro ⟨true, List.mem_cons_self⟩)⟩
theorem cpy_spec (hs : HSt) (hro : ∀ e ∈ hs, e.w = false) (A : List Lab) (va : AV) (ha : LIn hs A va) (hA : LBd A) (n : Int) : Spec tab 34 [.agg [va, .int .i64 n]] [] hs (fun u D => ∃ v, u = .agg [v, .int .i64 n] ∧ OwnE 2 (cL A) A.length v D) := by
 refine Spec.en (ftg 34 Tryz.func34) rfl (m := 9) rfl (rs := [.cell 2 35]) rfl (st := [(0, .agg [va, .int .i64 n])]) rfl rfl (fun _ => rfl) (fun E => zr (WO.box rfl (all_c2 (LIn.cell ha)) (bx35 _ rfl) rfl (fun b1 => WO.alloc ao35 rfl (fun b2 => zk (W.seq (W.regD 5 _ (by kernel_rfl) (KIn.refl _) (WD.q (Q.fieldAddr fa35_0 rfl (o' := 0) rfl) bqp rfl (WD.q (Q.l1 rfl (zt 1 rfl) ag33 rfl) (LIn.bq ha) rfl (WD.call0 rfl (oLc rfl oz) rfl (clone_spec hs hro A va ha hA) (SubR.t (SubR.t (SubR.s hro))) (KIn.refl _) rfl (fun v5 D5 hP5 => WD.subH (hs' := _ :: _ :: (hs ++ D5)) (SubH.op (perm_tail (N := []) (G := D5) (K := [_, _]) (X := hs))) (WD.q (Q.fieldAddr fa35_1 rfl (o' := 1) rfl) bqp rfl (WD.q (Q.l1 rfl (zt 1 rfl) ag3 rfl) bqi rfl (WD.q (Q.build pl35 (opc rfl (opc rfl opn)) rfl (cs := [_, _]) (fillE2 (OwnE.cell hP5))) (bq_agg2 (OwnE.bq0 hP5)) rfl (WD.store sz35 rfl rfl (j := 0) rfl (ck3 (OwnE.cell hP5) rfl) (cs := [_, _]) rfl (hs' := _ :: _ :: _) rfl (fun h => by cases h) (WD.nil (End.K (W.ret ?_)))))))))))))))))
 refine End.ret (ResL.agg (c := [_, _]) rfl (zt 0 rfl) ag35 sz35 rfl ResL.nil) (hs' := D5) ⟨v5, rfl, hP5⟩ (OwnE.w hP5) gc

def hexL : List Nat := [48, 49, 50, 51, 52, 53, 54, 55, 56, 57, 97, 98, 99, 100, 101, 102]
def esc (c : Nat) : List Nat := if c = 34 ∨ c = 92 then [92, c] else if c < 32 ∨ 126 < c then [92, 120, hexL.getD (c / 16) 0, hexL.getD (c % 16) 0] else [c]
theorem esc1 {c : Nat} (h : c = 34 ∨ c = 92) : esc c = [92, c] := if_pos h
theorem esc2 {c : Nat} (h : ¬ (c = 34 ∨ c = 92)) (g : c < 32 ∨ 126 < c) : esc c = [92, 120, hexL.getD (c / 16) 0, hexL.getD (c % 16) 0] := by unfold esc; rw [if_neg h, if_pos g]
theorem esc3 {c : Nat} (h : ¬ (c = 34 ∨ c = 92)) (g : ¬ (c < 32 ∨ 126 < c)) : esc c = [c] := by unfold esc; rw [if_neg h, if_neg g]
def quE : List Nat → List Nat
 | [] => []
 | c :: l => esc c ++ quE l
theorem quE_step {l : List Nat} {i : Nat} (h : i < l.length) : quE (l.drop i) = esc (l.getD i 0) ++ quE (l.drop (i + 1)) := by
 rw [List.drop_eq_getElem_cons h]
 have e : l.getD i 0 = l[i] := by simp [h]
 rw [e]
 rfl
def quM (s : List Nat) : List Nat := 34 :: (quE s ++ [34])
theorem hexL_lt (i : Nat) : hexL.getD i 0 < 256 := Bytes.at (l := hexL) (by unfold Bytes; decide) i
theorem Bytes.cons {c : Nat} {l : List Nat} (h : c < 256) (g : Bytes l) : Bytes (c :: l) := fun x hx => (List.mem_cons.1 hx).elim (fun e => e ▸ h) (g x)
theorem Bytes.one {c : Nat} (h : c < 256) : Bytes [c] := Bytes.cons h fun x hx => by simp at hx
theorem esc_bytes {c : Nat} (h : c < 256) : Bytes (esc c) ∧ (esc c).length ≤ 4 := by
 unfold esc
 split
 ·exact ⟨Bytes.cons (by decide) (Bytes.one h), by simp⟩
 ·split
  ·exact ⟨Bytes.cons (by decide) (Bytes.cons (by decide) (Bytes.cons (hexL_lt _) (Bytes.one (hexL_lt _)))), by simp⟩
  ·exact ⟨Bytes.one h, by simp⟩
theorem quE_bytes : ∀ {s : List Nat}, Bytes s → Bytes (quE s) ∧ (quE s).length ≤ 4 * s.length
 | [], _ => ⟨fun x hx => by simp [quE] at hx, by simp [quE]⟩
 | c :: l, h => by
  obtain ⟨h1, h2⟩ := quE_bytes (s := l) fun x hx => h x (List.mem_cons_of_mem _ hx)
  obtain ⟨h3, h4⟩ := esc_bytes (h c List.mem_cons_self)
  refine ⟨Bytes.append h3 h1, ?_⟩
  simp only [quE, List.length_append, List.length_cons]
  omega
theorem quM_bytes {s : List Nat} (h : Bytes s) : Bytes (quM s) ∧ (quM s).length ≤ 4 * s.length + 2 := by
 obtain ⟨h1, h2⟩ := quE_bytes h
 refine ⟨Bytes.cons (by decide) (Bytes.append h1 (Bytes.one (by decide))), ?_⟩
 simp only [quM, List.length_cons, List.length_append, List.length_nil]
 omega
def itM (x : Lab) : List Nat := x.1 ++ 61 :: quM x.2
def prM (l : List Lab) : List Nat := 123 :: (List.intercalate [44, 32] (l.map itM) ++ [125])
theorem hex_inj {a b : Nat} (ha : a < 16) (hb : b < 16) (h : hexL.getD a 0 = hexL.getD b 0) : a = b := by
 have : ∀ a b : Fin 16, hexL.getD a.val 0 = hexL.getD b.val 0 → a = b := by decide
 have := this ⟨a, ha⟩ ⟨b, hb⟩ h
 simpa using this
theorem esc_free {c d : Nat} {r t : List Nat} (hc : c < 256) (hd : d < 256) (h : esc c ++ r = esc d ++ t) : c = d ∧ r = t := by
 unfold esc at h
 split at h
 ·split at h
  ·simp at h; exact h
  ·split at h
   ·simp at h
    omega
   ·simp at h
    omega
 ·split at h
  ·split at h
   ·simp at h; omega
   ·split at h
    ·simp only [List.cons_append, List.nil_append, List.cons.injEq, true_and] at h
     have h1 := hex_inj zy zy h.1
     have h2 := hex_inj zy zy h.2.1
     exact ⟨by omega, h.2.2⟩
    ·simp at h; omega
  ·split at h
   ·simp at h; omega
   ·split at h
    ·simp at h; omega
    ·simp at h; exact h
theorem esc_head {c : Nat} : ∃ a l, esc c = a :: l ∧ a ≠ 34 := by
 unfold esc
 split
 ·exact ⟨92, [c], rfl, by decide⟩
 ·split
  ·exact ⟨92, _, rfl, by decide⟩
  ·rename_i h _
   exact ⟨c, [], rfl, fun e => h (.inl e)⟩
theorem quE_free : ∀ {s u r t : List Nat}, (∀ c ∈ s, c < 256) → (∀ c ∈ u, c < 256) → quE s ++ 34 :: r = quE u ++ 34 :: t → s = u ∧ r = t
 | [], [], r, t, _, _, h => by simp [quE] at h; exact ⟨rfl, h⟩
 | [], d :: u, r, t, _, _, h => by
  obtain ⟨a, l, e, ha⟩ := esc_head (c := d)
  simp [quE, e] at h
  exact absurd h.1.symm ha
 | c :: s, [], r, t, _, _, h => by
  obtain ⟨a, l, e, ha⟩ := esc_head (c := c)
  simp [quE, e] at h
  exact absurd h.1 ha
 | c :: s, d :: u, r, t, hs, hu, h => by
  simp only [quE, List.append_assoc] at h
  obtain ⟨h1, h2⟩ := esc_free (hs c List.mem_cons_self) (hu d List.mem_cons_self) h
  obtain ⟨h3, h4⟩ := quE_free (fun x hx => hs x (List.mem_cons_of_mem _ hx)) (fun x hx => hu x (List.mem_cons_of_mem _ hx)) h2
  exact ⟨by rw [h1, h3], h4⟩
theorem name_free : ∀ {a b r t : List Nat}, 61 ∉ a → 61 ∉ b → a ++ 61 :: r = b ++ 61 :: t → a = b ∧ r = t
 | [], [], r, t, _, _, h => by simp at h; exact ⟨rfl, h⟩
 | [], y :: b, r, t, _, hb, h => by simp at h; exact absurd (h.1 ▸ List.mem_cons_self) hb
 | x :: a, [], r, t, ha, _, h => by simp at h; exact absurd (h.1 ▸ List.mem_cons_self) ha
 | x :: a, y :: b, r, t, ha, hb, h => by
  simp only [List.cons_append, List.cons.injEq] at h
  obtain ⟨h1, h2⟩ := name_free (fun q => ha (List.mem_cons_of_mem _ q)) (fun q => hb (List.mem_cons_of_mem _ q)) h.2
  exact ⟨by rw [h.1, h1], h2⟩
def LabOK (x : Lab) : Prop := 61 ∉ x.1 ∧ x.1 ≠ [] ∧ ∀ c ∈ x.2, c < 256
theorem it_free {x y : Lab} {r t : List Nat} (hx : LabOK x) (hy : LabOK y) (h : itM x ++ r = itM y ++ t) : x = y ∧ r = t := by
 unfold itM quM at h
 simp only [List.append_assoc, List.cons_append, List.nil_append] at h
 obtain ⟨h1, h2⟩ := name_free hx.1 hy.1 h
 simp only [List.cons.injEq, true_and] at h2
 obtain ⟨h3, h4⟩ := quE_free hx.2.2 hy.2.2 h2
 exact ⟨Prod.ext h1 h3, h4⟩
theorem icl_cons (sep x y : List Nat) (r : List (List Nat)) : List.intercalate sep (x :: y :: r) = x ++ (sep ++ List.intercalate sep (y :: r)) := by simp [List.intercalate]
theorem icl_one (sep x : List Nat) : List.intercalate sep [x] = x := by simp [List.intercalate]
theorem icl_nil (sep : List Nat) : List.intercalate sep [] = [] := by simp [List.intercalate]
theorem pr_free : ∀ {l m : List Lab}, (∀ x ∈ l, LabOK x) → (∀ x ∈ m, LabOK x) → List.intercalate [44, 32] (l.map itM) ++ [125] = List.intercalate [44, 32] (m.map itM) ++ [125] → l = m
 | [], [], _, _, _ => rfl
 | [], y :: m, _, hm, h => by
  obtain ⟨n, v⟩ := y
  have hy := hm (n, v) List.mem_cons_self
  have : ∃ t, List.intercalate [44, 32] (((n, v) :: m).map itM) ++ [125] = itM (n, v) ++ t := by
   cases m with
   | nil => exact ⟨[125], by rw [List.map_cons, List.map_nil, icl_one]⟩
   | cons z m => exact ⟨_, by rw [List.map_cons, List.map_cons, icl_cons, List.append_assoc]⟩
  obtain ⟨t, e⟩ := this
  rw [e, List.map_nil, icl_nil] at h
  have := congrArg List.length h
  simp [itM, quM] at this
  omega
 | x :: l, [], hl, _, h => by
  obtain ⟨n, v⟩ := x
  have : ∃ t, List.intercalate [44, 32] (((n, v) :: l).map itM) ++ [125] = itM (n, v) ++ t := by
   cases l with
   | nil => exact ⟨[125], by rw [List.map_cons, List.map_nil, icl_one]⟩
   | cons z l => exact ⟨_, by rw [List.map_cons, List.map_cons, icl_cons, List.append_assoc]⟩
  obtain ⟨t, e⟩ := this
  rw [e, List.map_nil, icl_nil] at h
  have := congrArg List.length h
  simp [itM, quM] at this
  omega
 | [x], [y], hl, hm, h => by
  simp only [List.map_cons, List.map_nil, icl_one] at h
  rw [(it_free (hl x List.mem_cons_self) (hm y List.mem_cons_self) h).1]
 | [x], y :: z :: m, hl, hm, h => by
  simp only [List.map_cons, List.map_nil, icl_one, icl_cons, List.append_assoc] at h
  have := (it_free (hl x List.mem_cons_self) (hm y List.mem_cons_self) h).2
  simp at this
 | x :: z :: l, [y], hl, hm, h => by
  simp only [List.map_cons, List.map_nil, icl_one, icl_cons, List.append_assoc] at h
  have := (it_free (hl x List.mem_cons_self) (hm y List.mem_cons_self) h).2
  simp at this
 | x :: z :: l, y :: u :: m, hl, hm, h => by
  simp only [List.map_cons, icl_cons, List.append_assoc] at h
  obtain ⟨h1, h2⟩ := it_free (hl x List.mem_cons_self) (hm y List.mem_cons_self) h
  simp only [List.cons_append, List.nil_append, List.cons.injEq, true_and] at h2
  have := pr_free (l := z :: l) (m := u :: m) (fun a ha => hl a (List.mem_cons_of_mem _ ha)) (fun a ha => hm a (List.mem_cons_of_mem _ ha)) (by simpa [List.map_cons] using h2)
  rw [h1, this]
theorem pr_inj {l m : List Lab} (hl : ∀ x ∈ l, LabOK x) (hm : ∀ x ∈ m, LabOK x) (h : prM l = prM m) : l = m := pr_free hl hm (by simpa [prM] using h)
def KeyOK (l : List Lab) : Prop := l.length ≤ 8 ∧ ∀ x ∈ l, Bytes x.1 ∧ Bytes x.2 ∧ x.1.length ≤ 32 ∧ x.2.length ≤ 64 ∧ LabOK x
theorem KeyOK.lab {l : List Lab} (h : KeyOK l) : ∀ x ∈ l, LabOK x := fun x hx => (h.2 x hx).2.2.2.2
theorem KeyOK.filter {l : List Lab} (h : KeyOK l) (p : Lab → Bool) : KeyOK (l.filter p) := ⟨Nat.le_trans (List.length_filter_le _ _) h.1, fun x hx => h.2 x (List.mem_filter.1 hx).1⟩
theorem KeyOK.bd {l : List Lab} (h : KeyOK l) : LBd l := ⟨by have := h.1; omega, fun x hx => by obtain ⟨h1, h2, h3, h4, _⟩ := h.2 x hx; exact ⟨h1, h2, by omega, by omega⟩⟩
theorem lchkG_all {A : List Lab} : ∀ (n i : Nat), lchkG A n i = 0 → ∀ k, i ≤ k → k < i + n → lchk1 A k = 0
 | 0, i, _, k, h1, h2 => by omega
 | n + 1, i, h, k, h1, h2 => by
  unfold lchkG at h
  split at h
  ·rename_i g; exact absurd h g
  ·rename_i g
   rcases Nat.eq_or_lt_of_le h1 with e | e
   ·subst e; exact Classical.not_not.1 g
   ·exact lchkG_all n (i + 1) h k e zy
theorem key_of_lchk {A : List Lab} (hA : LBd A) (h : lchk A = 0) : KeyOK A := by
 unfold lchk at h
 split at h
 ·cases h
 rename_i hl
 refine ⟨by omega, fun x hx => ?_⟩
 obtain ⟨i, hi, rfl⟩ := List.getElem_of_mem hx
 have e : lg A i = A[i] := by unfold lg; rw [List.getD_eq_getElem?_getD, List.getElem?_eq_getElem hi]; rfl
 have h1 := lchkG_all _ _ h i (Nat.zero_le _) zy
 obtain ⟨b1, b2, _, _⟩ := hA.2 _ hx
 unfold lchk1 at h1
 rw [e] at h1
 split at h1
 ·cases h1
 rename_i hn
 split at h1
 ·cases h1
 split at h1
 ·cases h1
 rename_i hv
 have hn : nameB (A[i]).1 = true := by cases hb : nameB (A[i]).1 with
  | true => rfl
  | false => exact absurd hb hn
 unfold nameB at hn
 have hn := of_decide_eq_true hn
 refine ⟨b1, b2, hn.2.1, by omega, ?_, hn.1, b2⟩
 intro hm
 obtain ⟨j, hj, hje⟩ := List.getElem_of_mem hm
 have := hn.2.2 j hj
 rw [List.getD_eq_getElem?_getD, List.getElem?_eq_getElem hj] at this
 simp only [Option.getD_some, hje] at this
 unfold nchr at this
 omega
theorem fstE_all {g : Nat → Nat} : ∀ (n i : Nat), fstE g n i = 0 → ∀ k, i ≤ k → k < i + n → g k = 0
 | 0, i, _, k, h1, h2 => by omega
 | n + 1, i, h, k, h1, h2 => by
  unfold fstE at h
  split at h
  ·rename_i q; exact absurd h q
  ·rename_i q
   rcases Nat.eq_or_lt_of_le h1 with e | e
   ·subst e; exact Classical.not_not.1 q
   ·exact fstE_all n (i + 1) h k e zy
theorem vchk_lchk {V : List El} (h : vchk V = 0) {i : Nat} (hi : i < V.length) : lchk (eg V i).2.1 = 0 ∧ V.length ≤ 256 := by
 unfold vchk at h
 split at h
 ·rename_i g; exact absurd h g
 rename_i g
 have g : ichk V = 0 := Classical.not_not.1 g
 unfold ichk at g
 split at g
 ·cases g
 have := fstE_all _ _ g i (Nat.zero_le _) zy
 unfold ichk1 at this
 split at this
 ·rename_i q; exact absurd this q
 ·rename_i q; exact ⟨Classical.not_not.1 q, by omega⟩
theorem vchk_key {V : List El} (hB : EBd V) (h : vchk V = 0) {i : Nat} (hi : i < V.length) : KeyOK (eg V i).2.1 := key_of_lchk (hB.at hi).1 (vchk_lchk h hi).1
def itA (x : Lab) : AV := .str (itM x)
theorem it_bytes {x : Lab} (h : Bytes x.1 ∧ Bytes x.2) : Bytes (itM x) := Bytes.append h.1 (Bytes.cons (by decide) (quM_bytes h.2).1)
theorem icl_len (sep : List Nat) : ∀ (l : List (List Nat)) (m : Nat), (∀ x ∈ l, x.length ≤ m) → (List.intercalate sep l).length ≤ l.length * (m + sep.length)
 | [], m, _ => by simp [List.intercalate]
 | [x], m, h => by rw [icl_one]; have := h x List.mem_cons_self; simp; omega
 | x :: y :: r, m, h => by
  have ih := icl_len sep (y :: r) m fun z hz => h z (List.mem_cons_of_mem _ hz)
  have := h x List.mem_cons_self
  rw [icl_cons, List.length_append, List.length_append, List.length_cons, Nat.succ_mul]
  omega
theorem icl_bytes (sep : List Nat) (hs : Bytes sep) : ∀ (l : List (List Nat)), (∀ x ∈ l, Bytes x) → Bytes (List.intercalate sep l)
 | [], _ => by rw [icl_nil]; intro c hc; simp at hc
 | [x], h => by rw [icl_one]; exact h x List.mem_cons_self
 | x :: y :: r, h => by
  rw [icl_cons]
  exact Bytes.append (h x List.mem_cons_self) (Bytes.append hs (icl_bytes sep hs (y :: r) fun z hz => h z (List.mem_cons_of_mem _ hz)))
theorem it_len {x : Lab} (h : Bytes x.2) (h1 : x.1.length ≤ 32) (h2 : x.2.length ≤ 64) : (itM x).length ≤ 300 := by
 have := (quM_bytes h).2
 simp only [itM, List.length_append, List.length_cons]
 omega
theorem row_len {l : List Lab} (h : KeyOK l) : (List.intercalate [44, 32] (l.map itM)).length ≤ 8 * 302 := by
 have := icl_len [44, 32] (l.map itM) 300 fun x hx => by
  obtain ⟨y, hy, rfl⟩ := List.mem_map.1 hx
  obtain ⟨_, h2, h3, h4, _⟩ := h.2 y hy
  exact it_len h2 h3 h4
 simp only [List.length_map, List.length_cons, List.length_nil] at this
 have := Nat.mul_le_mul_right 302 h.1
 omega
theorem row_bytes {l : List Lab} (h : KeyOK l) : Bytes (List.intercalate [44, 32] (l.map itM)) := icl_bytes _ (by unfold Bytes; decide) _ fun x hx => by
 obtain ⟨y, hy, rfl⟩ := List.mem_map.1 hx
 obtain ⟨h1, h2, _⟩ := h.2 y hy
 exact it_bytes ⟨h1, h2⟩
theorem prM_bytes {l : List Lab} (h : KeyOK l) : Bytes (prM l) := Bytes.cons (by decide) (Bytes.append (row_bytes h) (Bytes.one (by decide)))
section
variable {tb : Tab} {n : Nat} {E : Env} {s : St} {hs : HSt} {R : T AV → AHeap → Prop} {ops rest : List Oper} {d : Nat} {t : TypeId} {ty : TypeId} {pos : String} {aft : Array Edge}
theorem Spec.knownM {f : Nat} {args : List AV} {v : AV} (ho : ∀ h, KeepIn hs h → tb.orc f args h = some v) : Spec tb f args [] hs (Val v) := by
 intro h hh
 exact ⟨v, h, [], Evt.of fun K => by unfold evCall; rw [ho h hh.keep], ⟨rfl, rfl⟩, fun e he => no_w he, hh.sub (SubH.nil _)⟩
theorem Q.lookS {ox ok : Operand} {kt et b j : Nat} {o : AObj} {w : Bool} {k z v : AV} {oko : Bool} (hu : mapTypes (tb.und t) = some (kt, et)) (hx : oL s ox = some (.map b)) (hy : oL s ok = some k) (hm : ⟨b, o, w⟩ ∈ hs)
  (hkey : keyOk tb (tb.und kt) k = true) (hz : tb.zero et = some z) (hf : findM (eqIn tb 20 kt) k o.cells 0 = some (some j)) (h1 : o.cells[3 * j + 1]? = some v) : QV tb s hs (.lookup t ox ok oko) (lookRes oko v true) := by
 intro tm h ht hh call
 have hob := hh _ hm
 simp only at hob
 show Res.q (evLookup tb tm h.objs t ox ok oko) = _
 unfold evLookup
 simp only [hu, oL_ok ht hx, oL_ok ht hy]
 unfold lookA
 simp only [hkey, hob, hz, hf]
 unfold lookIn
 simp only [h1]
theorem Q.lookN {ox ok : Operand} {kt et b : Nat} {o : AObj} {w : Bool} {k z : AV} {oko : Bool} (hu : mapTypes (tb.und t) = some (kt, et)) (hx : oL s ox = some (.map b)) (hy : oL s ok = some k) (hm : ⟨b, o, w⟩ ∈ hs)
  (hkey : keyOk tb (tb.und kt) k = true) (hz : tb.zero et = some z) (hf : findM (eqIn tb 20 kt) k o.cells 0 = some none) : QV tb s hs (.lookup t ox ok oko) (lookRes oko z false) := by
 intro tm h ht hh call
 have hob := hh _ hm
 simp only at hob
 show Res.q (evLookup tb tm h.objs t ox ok oko) = _
 unfold evLookup
 simp only [hu, oL_ok ht hx, oL_ok ht hy]
 unfold lookA
 simp only [hkey, hob, hz, hf]
 rfl
theorem WO.mapNew {ox ok oy : Operand} {kt et i b cnt : Nat} {ex : Bool} {cells cs : List AV} {k v : AV} {hs' : HSt} (hu : mapTypes (tb.und t) = some (kt, et)) (hx : oL s ox = some (.map b)) (hy : oL s ok = some k) (hv : oL s oy = some v) (hi : hs[i]? = some ⟨b, ⟨cnt, ex, cells⟩, true⟩)
  (hkey : keyOk tb (tb.und kt) k = true) (hf : findM (eqIn tb 20 kt) k cells 0 = some none) (hc : cells ++ [k, v, .int .i64 ((cnt : Nat) : Int)] = cs) (hs_ : hs.set i ⟨b, ⟨cnt + 1, ex, cs⟩, true⟩ = hs')
  (hk : WO tb n ops rest E s hs' R) : WO tb n ops (⟨none, .mapUpdate t ox ok oy, ty, pos, aft, none⟩ :: rest) E s hs R := by
 refine WO.l (s' := s) fun tm h ht hh => ?_
 have hob := (hh.at_ _ (mem_at hi)).1
 simp only at hob
 subst hs_ hc
 refine ⟨.tuple [], ⟨h.next, h.objs.set b ⟨cnt + 1, ex, cells ++ [k, v, .int .i64 ((cnt : Nat) : Int)]⟩⟩, tm, ?_, rfl, hk _ _ ht (hh.put hi)⟩
 show Res.l (evMapUpdate tb tm h t ox ok oy) = _
 unfold evMapUpdate
 simp only [hu, oL_ok ht hx, oL_ok ht hy, oL_ok ht hv, hkey, hob, hf]
 rfl
variable {keep : HSt} {q p : Nat}
end
abbrev Te := List Nat × AV
def mapT : Nat → List Te → List AV
 | _, [] => []
 | i, x :: M => .str x.1 :: x.2 :: .int .i64 ((i : Nat) : Int) :: mapT (i + 1) M
theorem mapT_append : ∀ (M N : List Te) (i : Nat), mapT i (M ++ N) = mapT i M ++ mapT (i + M.length) N
 | [], N, i => rfl
 | x :: M, N, i => by
  simp only [List.cons_append, mapT, mapT_append M N, List.length_cons]
  rw [show i + 1 + M.length = i + (M.length + 1) by omega]
theorem mapT_push (M : List Te) (k : List Nat) (z : AV) : mapT 0 M ++ [.str k, z, .int .i64 ((M.length : Nat) : Int)] = mapT 0 (M ++ [(k, z)]) := by
 rw [mapT_append, Nat.zero_add]; rfl
theorem mapT_get : ∀ (M : List Te) (i j : Nat) (x : Te), M[j]? = some x → (mapT i M)[3 * j + 1]? = some x.2
 | [], i, j, x, h => by simp at h
 | y :: M, i, 0, x, h => by simp at h; subst h; rfl
 | y :: M, i, j + 1, x, h => by
  have := mapT_get M (i + 1) j x (by simpa using h)
  have e1 : 3 * (j + 1) + 1 = 3 * j + 1 + 1 + 1 + 1 := by omega
  rw [e1]
  exact this
theorem keyT_ok {tb : Tab} {kt : Nat} (hu : tb.und kt = some .string) (k : List Nat) : keyOk tb (tb.und kt) (.str k) = true := by
 unfold keyOk
 simp only [hu]
theorem keyT_eq {tb : Tab} {kt : Nat} (hu : tb.und kt = some .string) (x y : List Nat) : eqIn tb 20 kt (.str x) (.str y) = some (decide (x = y)) := by
 unfold eqIn
 simp only [hu, eq_str]
theorem mapT_find {eq : AV → AV → Option Bool} (heq : ∀ x y : List Nat, eq (.str x) (.str y) = some (decide (x = y))) (k : List Nat) : ∀ (M : List Te) (i c : Nat),
  (findM eq (.str k) (mapT i M) c = some none ∧ ∀ x ∈ M, x.1 ≠ k) ∨ ∃ j v, M[j]? = some (k, v) ∧ findM eq (.str k) (mapT i M) c = some (some (c + j))
 | [], i, c => .inl ⟨rfl, fun x h => by simp at h⟩
 | y :: M, i, c => by
  by_cases e : k = y.1
  ·refine .inr ⟨0, y.2, by rw [e]; rfl, ?_⟩
   show (match eq (.str k) (.str y.1) with | some true => some (some c) | some false => _ | none => none) = _
   rw [heq, decide_eq_true e]; rfl
  ·have h0 : findM eq (.str k) (mapT i (y :: M)) c = findM eq (.str k) (mapT (i + 1) M) (c + 1) := by
    show (match eq (.str k) (.str y.1) with | some true => some (some c) | some false => findM eq (.str k) (mapT (i + 1) M) (c + 1) | none => none) = _
    rw [heq, decide_eq_false e]
   rw [h0]
   rcases mapT_find heq k M (i + 1) (c + 1) with ⟨h1, h2⟩ | ⟨j, v, h1, h2⟩
   ·refine .inl ⟨h1, fun x hx => ?_⟩
    rcases List.mem_cons.1 hx with rfl | hx
    ·exact fun g => e g.symm
    ·exact h2 x hx
   ·refine .inr ⟨j + 1, v, by simpa using h1, ?_⟩
    rw [h2]
    congr 2
    omega
end Go.Proofs.YtmblgaehfjheeaaGreat.Ev
