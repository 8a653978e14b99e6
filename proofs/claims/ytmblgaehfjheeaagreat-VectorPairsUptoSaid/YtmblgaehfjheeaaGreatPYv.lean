/- Chapter 19, walks: what a call makes of each element. -/
import Derived.Test.YtmblgaehfjheeaaGreatPYs
namespace Go.Proofs.YtmblgaehfjheeaaGreat.Ev
open Go.RowKit
set_option maxRecDepth 100000
set_option maxHeartbeats 1000000
theorem ebd_nil : EBd [] := ⟨by simp, fun x hx => by simp at hx⟩
theorem ord_ebd {X W : List El} {e : Nat} (h : OrdR (P2 X) e (P2 W)) (hm : ∀ x ∈ W, x ∈ X) (hB : EBd X) : EBd W := by
  refine ⟨?_, fun x hx => hB.2 x (hm x hx)⟩
  rcases h with ⟨_, h, _⟩ | ⟨_, h, _⟩
  · have : W.length = 0 := by have := congrArg List.length h; simpa [P2] using this
    omega
  · have := h.length_eq
    simp only [P2, List.length_map] at this
    have := hB.1
    omega
def WZ (hl : HSt) : Prop := ∀ e ∈ hl, e.w = true ∧ e.o.sz = 2
theorem WZ.nil : WZ [] := fun e he => by simp at he
theorem WZ.w {hl : HSt} (h : WZ hl) : ∀ e ∈ hl, e.w = true := fun e he => (h e he).1
theorem WZ.app {a b : HSt} (h : WZ a) (g : WZ b) : WZ (a ++ b) := fun e he => (List.mem_append.1 he).elim (h e) (g e)
theorem OwnE.wz {cells : List AV} {len : Nat} {v : AV} {hp : HSt} (h : OwnE 2 cells len v hp) : WZ hp := by
  rcases h with ⟨_, _, _, rfl⟩ | ⟨b, ex, _, rfl, _⟩
  · exact WZ.nil
  · intro e he
    rw [List.mem_singleton.1 he]
    exact ⟨rfl, rfl⟩
def VOwn (W : List El) (w : AV) (D : HSt) : Prop := ∃ hp hl, D = hp ++ hl ∧ OwnE 2 (cE W) W.length w hp ∧ (∀ x ∈ W, LIn hl x.2.1 x.1) ∧ WZ hl ∧ EBd W
theorem VOwn.nil : VOwn [] .nils [] := ⟨[], [], rfl, OwnE.nil 2, fun x hx => by simp at hx, WZ.nil, ebd_nil⟩
def eachL (op : List Nat) (low high : Int) (V : List El) : List PE := V.map fun x => (x.2.1.filter (dropP [[95, 95, 110, 97, 109, 101, 95, 95]]), oneM op x.2.2 low high)
open Classical in
noncomputable def eachPre (op : List Nat) (low high : Int) (V : List El) : Option Nat :=
  if vchk V ≠ 0 then some (vchk V) else if op = [99, 108, 97, 109, 112] ∧ ¬ (fitB low = true ∧ fitB high = true) then some 2 else if ¬ opK op then some 9 else if op = [99, 108, 97, 109, 112] ∧ high < low then some 0
  else if ∃ i, i < V.length ∧ fitB (oneM op (eg V i).2.2 low high) = false then some 11 else none
def EachR (op : List Nat) (low high : Int) (V : List El) (e : Nat) (W : List PE) : Prop := (eachPre op low high V = some e ∧ W = []) ∨ (eachPre op low high V = none ∧ OrdR (eachL op low high V) e W)
theorem EachR.fn {op : List Nat} {low high : Int} {V : List El} {e e' : Nat} {W W' : List PE} (h : EachR op low high V e W) (g : EachR op low high V e' W') : e = e' ∧ W = W' := by
  rcases h with ⟨h1, h2⟩ | ⟨h1, h2⟩ <;> rcases g with ⟨g1, g2⟩ | ⟨g1, g2⟩
  · rw [h1] at g1; cases g1; exact ⟨rfl, h2.trans g2.symm⟩
  · rw [h1] at g1; cases g1
  · rw [h1] at g1; cases g1
  · exact h2.fn g2
section
variable {op : List Nat} {low high : Int} {V : List El}
end
theorem own_snoc {X : List El} {x : El} {v : AV} {hp : HSt} (h : OwnE 2 (cE X ++ [x.1, .int .i64 x.2.2]) (X.length + 1) v hp) : OwnE 2 (cE (X ++ [x])) (X ++ [x]).length v hp := by
  rw [cE_append, List.length_append]; exact h
theorem LIn.own {l : List Lab} {v : AV} {hp : HSt} (h : OwnE 2 (cL l) l.length v hp) : LIn hp l v := by
  rcases h with ⟨h1, _, h2, _⟩ | ⟨b, ex, h1, rfl, _⟩
  · exact .inl ⟨h2, List.length_eq_zero_iff.1 h1⟩
  · exact .inr ⟨b, 2, ex, h1, true, List.mem_cons_self⟩
theorem MemH.appl {A hs : HSt} {b : Nat} {o : AObj} (h : MemH hs b o) : MemH (hs ++ A) b o := let ⟨w, g⟩ := h; ⟨w, List.mem_append_left _ g⟩
theorem lin_snoc {X : List El} {x : El} {hl D : HSt} (h : ∀ y ∈ X, LIn hl y.2.1 y.1) (g : LIn D x.2.1 x.1) : ∀ y ∈ X ++ [x], LIn (hl ++ D) y.2.1 y.1 := by
  intro y hy
  rcases List.mem_append.1 hy with hy | hy
  · exact (h y hy).mono fun b o h => h.appl
  · rw [List.mem_singleton.1 hy]; exact g.mono fun b o h => h.app
theorem fit_i64 {n : Int} (h : fitB n = true) : I64 n := by
  have := fit_bd h
  unfold I64; omega
theorem EIn.own {X : List El} {u : AV} {hp hl : HSt} (h : OwnE 2 (cE X) X.length u hp) (g : ∀ x ∈ X, LIn hl x.2.1 x.1) : EIn (ro (hp ++ hl)) X u := by
  refine ⟨?_, fun x hx => (g x hx).mono fun b o h => h.app.ro⟩
  rcases h with ⟨h1, _, h2, _⟩ | ⟨b, ex, h1, rfl, _⟩
  · exact .inl ⟨h2, List.length_eq_zero_iff.1 h1⟩
  · exact .inr ⟨b, 2, ex, h1, MemH.ro ⟨true, List.mem_cons_self⟩⟩
theorem OwnE.bq0 {sz : Nat} {cells : List AV} {len : Nat} {v : AV} {hp : HSt} (h : OwnE sz cells len v hp) : beq0 v v = true := by
  rcases h with ⟨_, _, rfl, _⟩ | ⟨b, ex, rfl, _, _⟩
  · rfl
  · simp [beq0]
theorem p2_len {X Y : List El} (h : X.length ≠ Y.length) : oneOf [AV.bool false] = .bool (decide (P2 X = P2 Y)) := by
  rw [decide_eq_false (fun e => h (by have := congrArg List.length e; simpa [P2] using this))]; rfl
theorem p2_ne {X Y : List El} {i : Nat} (hx : i < X.length) (hy : i < Y.length) (h : (eg X i).2 ≠ (eg Y i).2) : oneOf [AV.bool false] = .bool (decide (P2 X = P2 Y)) := by
  rw [decide_eq_false (fun e => h (by have h1 := p2_eg hx; rw [e, p2_eg hy] at h1; exact (Option.some.inj h1).symm))]; rfl
theorem p2_eq {X Y : List El} (h : X.length = Y.length) (g : ∀ k, k < X.length → (eg X k).2 = (eg Y k).2) : oneOf [AV.bool true] = .bool (decide (P2 X = P2 Y)) := by
  have : P2 X = P2 Y := by
    apply List.ext_getElem?
    intro k
    rcases Nat.lt_or_ge k X.length with q | q
    · rw [p2_eg q, p2_eg (by omega), g k q]
    · rw [List.getElem?_eq_none (by simpa [P2] using q), List.getElem?_eq_none (by simp [P2]; omega)]
  rw [decide_eq_true this]; rfl
theorem p2_ebd {X V : List El} (h : P2 X = P2 V) (hB : EBd V) : EBd X := by
  have hl := congrArg List.length h
  simp only [P2, List.length_map] at hl
  refine ⟨by rw [hl]; exact hB.1, fun x hx => ?_⟩
  have : x.2 ∈ P2 V := by rw [← h]; exact List.mem_map.2 ⟨x, hx, rfl⟩
  obtain ⟨y, hy, e⟩ := List.mem_map.1 this
  rw [← e]; exact hB.2 y hy
theorem own_next {V X : List El} {i : Nat} {v : AV} (h : P2 X = (P2 V).take i) (hi : i < V.length) : P2 (X ++ [(v, (eg V i).2)]) = (P2 V).take (i + 1) := by
  unfold P2 at *
  have := p2_eg hi
  unfold P2 at this
  rw [List.map_append, h, List.take_add_one, this]
  rfl
theorem vsame_spec (hs : HSt) (hro : ∀ e ∈ hs, e.w = false) (X Y : List El) (vx vy : AV) (hX : EIn hs X vx) (hY : EIn hs Y vy) (hbX : EBd X) (hbY : EBd Y) : Spec tab 14 [vx, vy] [] hs (Val (.bool (decide (P2 X = P2 Y)))) := by
 have h1 := hbX.1
 have h2 := hbY.1
 refine Spec.enter' (ft_get 14 Tryz.func14) rfl (m := 42) rfl (rs := [.tmp 4]) rfl (st := [(0, vx), (1, vy)]) rfl rfl (fun _ => rfl) (fun E => zr (za rfl (zk (W.seq (zr (zm rfl (zq (Q.len ud22 rfl (EIn.len hX)) (zm rfl (zq (Q.len ud22 rfl (EIn.len hY)) (zq (Q.bin rfl rfl rfl (bv_neq ne_nat)) (zk (W.condDS rfl (fun hc10 => ?_) (fun hc10 => ?_)))))))))))))
 · refine zr (za rfl (zk (W.ret (End.K_ret (End.retV (z1 rfl) ?_)))))
   exact p2_len (by simpa using hc10)
 refine zw (W.seq (zr (za (zi 0) (zk (W.block (W.loop_ind (fun (i : Nat) => [(0, vx), (1, vy), (5, .int .i64 ((i : Nat) : Int))]) (fun _ => _) (fun (i : Nat) => i ≤ X.length ∧ X.length = Y.length ∧ ∀ k, k < i → (eg X k).2 = (eg Y k).2) (fun (i : Nat) => X.length - i) (0) ⟨Nat.zero_le _, by simpa using hc10, fun k q => by omega⟩ zv (SubH.refl _) (fun i hI0 ih0 => ?_)))))))
 obtain ⟨g1, g2, g3⟩ := hI0
 refine W.seq (zr (zm rfl (zm rfl (zq (Q.len ud22 rfl (EIn.len hX)) (zq (Q.bin rfl rfl rfl (bv_lss lt_nat)) (zk (W.condDS rfl (fun hc14 => ?_) (fun hc14 => ?_))))))))
 · obtain ⟨bx, szx, exx, rfl, wx, mx⟩ := EIn.full hX (by omega)
   obtain ⟨by_, szy, exy, rfl, wy, my⟩ := EIn.full hY (by omega)
   refine zw (W.seq (W.block (W.seq (W.regT (by kernel_rfl) (zm rfl (zm rfl (zq (Q.iaddrS ud22 sz35 rfl rfl zo) (zq (Q.fieldAddr fa35_0 rfl rfl) (zq (Q.load1 rfl mx ag33 (cE_f0 zo)) (zm rfl (zm rfl (zq (Q.iaddrS ud22 sz35 rfl rfl zo) (zq (Q.fieldAddr fa35_0 rfl rfl) (zq (Q.load1 rfl my ag33 (cE_f0 zo)) (WO.callV rfl (oLs_cons rfl (oLs_cons rfl oLs_nil)) rfl (rsame_spec hs hro _ _ _ _ (hX.at (by omega)) (hY.at (by omega)) (hbX.at (by omega)).1 (hbY.at (by omega)).1) (SubR.self hro) rfl (zq (Q.not rfl not_dec) (zm rfl (WO.splitD (d := 29) rfl (fun hc29 => ?_) (fun hc29 => ?_)))))))))))))))))))
   · refine zg rfl rfl (zg rfl rfl (zg rfl rfl (zg rfl rfl (zg rfl rfl (zg rfl rfl (zg rfl rfl (zg rfl rfl (zg rfl rfl (zg rfl rfl (zg rfl rfl (zq (Q.pickT rfl rfl) (zk (W.sub (zc 41 rfl (zc 0 rfl (zc 1 rfl (zc 5 rfl zzn)))) (W.condT rfl (zr (za rfl (zk (W.ret (End.KB_ret (End.K_ret (End.KL_ret (End.KB_ret (End.K_ret (End.retV (z1 rfl) ?_))))))))))))))))))))))))
     exact p2_ne (i := i) (by omega) (by omega) (fun e => by have e1 := congrArg Prod.fst e; have e2 := congrArg Prod.snd e; simp_all)
   refine WO.gT rfl rfl (zm rfl (WO.gT rfl rfl (zm rfl (WO.gT rfl rfl (zq (Q.iaddrS ud22 sz35 rfl rfl zo) (WO.gT rfl rfl (zq (Q.fieldAddr fa35_1 rfl rfl) (WO.gT rfl rfl (zq (Q.load1 rfl mx ag3 (cE_f1 zo)) (WO.gT rfl rfl (zm rfl (WO.gT rfl rfl (zm rfl (WO.gT rfl rfl (zq (Q.iaddrS ud22 sz35 rfl rfl zo) (WO.gT rfl rfl (zq (Q.fieldAddr fa35_1 rfl rfl) (WO.gT rfl rfl (zq (Q.load1 rfl my ag3 (cE_f1 zo)) (WO.gT rfl rfl (zq (Q.bin rfl rfl rfl (bv_neq ne_int)) (zq (Q.pickF rfl rfl) (zk ?_)))))))))))))))))))))))
   refine W.sub (zc 41 rfl (zc 0 rfl (zc 1 rfl (zc 5 rfl zzn)))) (W.condDS rfl (fun hc41 => ?_) (fun hc41 => ?_))
   · refine zr (za rfl (zk (W.ret (End.KB_ret (End.K_ret (End.KL_ret (End.KB_ret (End.K_ret (End.retV (z1 rfl) ?_)))))))))
     exact p2_ne (i := i) (by omega) (by omega) (fun e => by have e1 := congrArg Prod.fst e; have e2 := congrArg Prod.snd e; simp_all)
   refine W.skip (End.KB (End.K (W.reg (zm rfl (zq (Q.bin rfl (zi 1) rfl zp) (za rfl (WO.nil (End.KL (W.sub zv (W.subH (SubH.of_sublist (by simp)) (ih0 (i + 1) ?_ ?_)))))))))))
   · exact ⟨by omega, g2, fun k q => by rcases Nat.lt_or_ge k i with q1 | q1; exact g3 k q1; obtain rfl : k = i := (by omega); exact Prod.ext (by simpa using hc29) (by simpa using hc41)⟩
   exact zo
 refine W.exit (End.K_exit (End.KL_exit (End.KB_hit (End.K (zr (za rfl (zk (W.ret (End.retV (z1 rfl) ?_)))))))))
 exact p2_eq g2 (fun k q => g3 k (by omega))

theorem own_spec (hs : HSt) (hro : ∀ e ∈ hs, e.w = false) (V : List El) (v : AV) (hV : EIn hs V v) (hB : EBd V) : Spec tab 11 [v] [] hs (fun u D => ∃ X, P2 X = P2 V ∧ VOwn X u D) := by
 have hBl := hB.1
 refine Spec.enter' (ft_get 11 Tryz.func11) rfl (m := 28) rfl (rs := [.tmp 2]) rfl (st := [(0, v)]) rfl rfl (fun _ => rfl) (fun E => zr (za rfl (zk (zr (za rfl (zk (W.seq (zr (za (zi 0) (zk (W.block (W.loop_ind5 (fun (i : Nat) (X : List El) (u : AV) (hp : HSt) (hl : HSt) => [(0, v), (3, u), (4, .int .i64 ((i : Nat) : Int))]) (fun (i : Nat) (X : List El) (u : AV) (hp : HSt) (hl : HSt) => ((hs ++ hp) ++ hl)) (fun (i : Nat) (X : List El) (u : AV) (hp : HSt) (hl : HSt) => i ≤ V.length ∧ P2 X = (P2 V).take i ∧ X.length = i ∧ OwnE 2 (cE X) X.length u hp ∧ (∀ x ∈ X, LIn hl x.2.1 x.1) ∧ WZ hl) (fun (i : Nat) (X : List El) (u : AV) (hp : HSt) (hl : HSt) => V.length - i) (0) ([]) (.nils) ([]) ([]) ⟨Nat.zero_le _, rfl, rfl, OwnE.nil 2, fun x hx => by simp at hx, WZ.nil⟩ zv gc (fun i X u hp hl hI0 ih0 => ?_)))))))))))))
 obtain ⟨h1, h2, h3, hO, hL, hwz⟩ := hI0
 have hw := hwz.w
 refine W.seq (zr (zm rfl (zm rfl (zq (Q.len ud22 rfl (EIn.len hV)) (zq (Q.bin rfl rfl rfl (bv_lss lt_nat)) (zk (W.condDS rfl (fun hc8 => ?_) (fun hc8 => ?_))))))))
 · obtain ⟨bv, szv, exv, rfl, wv, mv⟩ := EIn.full hV (by omega)
   refine zw (W.seq (W.block (W.regD 15 (hs) (by kernel_rfl) (fun e he => ⟨e.w, by obtain ⟨b, o, w⟩ := e; simp [he]⟩) (WD.q (Q.move rfl) (OwnE.bq hO) rfl (WD.bslice ud33 sz68 zr68 rfl oPs_nil rfl (cs := []) rfl rfl rfl (fun e he => ⟨e.w, by obtain ⟨b, o, w⟩ := e; simp [he]⟩) (fun b1 => WD.q (Q.move rfl) bq_slice rfl (WD.q (Q.move rfl) bq_int rfl (WD.q (Q.iaddrS ud22 sz35 rfl rfl zo) bq_ptr rfl (WD.q (Q.fieldAddr fa35_0 rfl rfl) bq_ptr rfl (WD.q (Q.load1 rfl mv ag33 (cE_f0 zo)) (LIn.bq (hV.at zo)) rfl (WD.appAny (A := _) ap33_33 (OwnE.cons rfl) rfl rfl (Src.mono (fun e he => ⟨e.w, by obtain ⟨b, o, w⟩ := e; simp [he]⟩) (Src.lin (hV.at (by omega)))) (cL_len _) (by have := (hB.at (i := i) (by omega)).1.1; omega) (by decide) (SubH.of_perm (List.perm_append_singleton _ _)) rfl (fun e he => ⟨e.w, by obtain ⟨b, o, w⟩ := e; simp [he]⟩) (fun v18 hp18 hO18 => WD.q (Q.move rfl) bq_slice rfl (WD.q (Q.move rfl) bq_int rfl (WD.q (Q.iaddrS ud22 sz35 rfl rfl zo) bq_ptr rfl (WD.q (Q.fieldAddr fa35_1 rfl rfl) bq_ptr rfl (WD.q (Q.load1 rfl mv ag3 (cE_f1 zo)) bq_int rfl (WD.q (Q.build pl35 (oPs_cons rfl (oPs_cons rfl oPs_nil)) rfl (cs := [_, _]) (fillE2 (OwnE.cell hO18))) (bq_agg2 (OwnE.bq0 hO18)) rfl (WD.bslice ud22 sz35 zr35 rfl (oPs_cons rfl oPs_nil) rfl (cs := [_, _]) rfl (and_tt (OwnE.cell hO18) rfl) rfl (fun e he => ⟨e.w, by obtain ⟨b, o, w⟩ := e; simp [he]⟩) (fun b2 => WD.appAny (A := ([] ++ hs ++ hl ++ hp18)) ap22_22 hO rfl rfl (Src.slice (zt 0 rfl) rfl) rfl (by omega) (by decide) gc rfl (fun e he => ⟨e.w, by obtain ⟨b, o, w⟩ := e; simp [he]⟩) (fun v26 hp26 hO26 => WD.q (Q.assign rfl) (OwnE.bq hO26) rfl (WD.nil (End.KB (End.K (W.sub (zc 3 rfl (zc 0 rfl (zc 4 rfl zzn))) ?_))))))))))))))))))))))))
   refine W.reg (zm rfl (zq (Q.bin rfl (zi 1) rfl zp) (za rfl (WO.nil (End.KL (W.sub zv (W.subH gc (ih0 (i + 1) (X ++ [(v18, (eg V i).2)]) (v26) (hp26) (hl ++ hp18) ?_ ?_))))))))
   · exact ⟨by omega, own_next h2 (by omega), by simp [h3], own_snoc hO26, lin_snoc hL (LIn.own (by simpa using hO18)), WZ.app hwz (OwnE.wz hO18)⟩
   exact zo
 refine W.exit (End.K_exit (End.KL_exit (End.KB_hit (End.K (zr (zm rfl (za rfl (zk (W.ret ?_)))))))))
 refine End.ret (z1 rfl) (hs' := hp ++ hl) ⟨X, by rw [h2]; exact List.take_of_length_le (by simp [P2]; omega), hp, hl, rfl, hO, hL, hwz, p2_ebd (by rw [h2]; exact List.take_of_length_le (by simp [P2]; omega)) hB⟩ (wa (OwnE.w hO) hw) gc
def lenV : AV → Nat
  | .slice _ _ n _ => n
  | _ => 0
def SLab (L : HSt) (v : AV) : Prop := v = .nils ∨ ∃ b n ex c, v = .slice b 0 n 2 ∧ (⟨b, ⟨2, ex, c⟩, true⟩ : HE) ∈ L ∧ c.length = n * 2 ∧ n ≤ 1048576
theorem SLab.len {L : HSt} {v : AV} {e : Nat} (h : SLab L v) : lenA (.slice e) v = some (lenV v) := by
  rcases h with rfl | ⟨b, n, ex, c, rfl, _⟩ <;> rfl
theorem SLab.full {L : HSt} {v : AV} (h : SLab L v) (hl : 0 < lenV v) : ∃ b n ex c, v = .slice b 0 n 2 ∧ (⟨b, ⟨2, ex, c⟩, true⟩ : HE) ∈ L ∧ c.length = n * 2 ∧ n ≤ 1048576 := by
  rcases h with rfl | h
  · exact absurd hl (by simp [lenV])
  · exact h
def Shp (cs : List AV) (L : HSt) (N : Nat) : Prop := cs.length = N * 2 ∧ ∀ i, i < N → SLab L (cs.getD (i * 2) .nils)
theorem Shp.at {cs : List AV} {L : HSt} {N i : Nat} (h : Shp cs L N) (hi : i < N) : cs[(0 + i) * 2 + 0]? = some (cs.getD (i * 2) .nils) ∧ SLab L (cs.getD (i * 2) .nils) := by
  refine ⟨?_, h.2 i hi⟩
  have : i * 2 < cs.length := by rw [h.1]; omega
  rw [Nat.zero_add, Nat.add_zero, List.getD_eq_getElem?_getD, List.getElem?_eq_getElem this]; rfl
theorem lay_len : ∀ {l new : List AV} {o : Nat}, o + new.length ≤ l.length → (layL l o new).length = l.length
  | l, [], o, _ => by simp [layL]
  | [], a :: new, o, h => by simp at h
  | x :: l, a :: new, 0, h => by
    simp only [layL, List.length_cons]
    rw [lay_len (by simpa using h)]
  | x :: l, a :: new, o + 1, h => by
    simp only [layL, List.length_cons]
    rw [lay_len (by simp at h ⊢; omega)]
theorem lay_ev : ∀ (l : List AV) (i k : Nat) (v : AV), (layL l (i * 2 + 1) [v]).getD (k * 2) .nils = l.getD (k * 2) .nils
  | [], i, k, v => by simp [layL]
  | x :: l, 0, 0, v => by cases l <;> rfl
  | [x], 0, k + 1, v => by simp [layL]
  | x :: y :: l, 0, k + 1, v => by
    rw [show (k + 1) * 2 = k * 2 + 1 + 1 by omega]; cases l <;> rfl
  | [x], i + 1, k, v => by
    rw [show (i + 1) * 2 + 1 = i * 2 + 1 + 1 + 1 by omega]; simp [layL]
  | x :: y :: l, i + 1, 0, v => by
    rw [show (i + 1) * 2 + 1 = i * 2 + 1 + 1 + 1 by omega]; rfl
  | x :: y :: l, i + 1, k + 1, v => by
    rw [show (i + 1) * 2 + 1 = i * 2 + 1 + 1 + 1 by omega, show (k + 1) * 2 = k * 2 + 1 + 1 by omega]
    show (layL l (i * 2 + 1) [v]).getD (k * 2) .nils = l.getD (k * 2) .nils
    exact lay_ev l i k v
theorem Shp.num {cs : List AV} {L : HSt} {N i : Nat} {v : AV} (h : Shp cs L N) (hi : i < N) : Shp (layL cs ((0 + i) * 2 + 1) [v]) L N := by
  refine ⟨?_, fun k hk => ?_⟩
  · rw [lay_len (by rw [h.1]; simp; omega)]; exact h.1
  · rw [Nat.zero_add, lay_ev]; exact h.2 k hk
theorem SLab.put {P Q : HSt} {b : Nat} {ex : Bool} {c c' : List AV} {v : AV} (hc : c'.length = c.length) (h : SLab (P ++ ⟨b, ⟨2, ex, c⟩, true⟩ :: Q) v) : SLab (P ++ ⟨b, ⟨2, ex, c'⟩, true⟩ :: Q) v := by
  rcases h with h | ⟨b1, n, ex1, c1, h1, h2, h3⟩
  · exact .inl h
  · rcases List.mem_append.1 h2 with h2 | h2
    · exact .inr ⟨b1, n, ex1, c1, h1, List.mem_append_left _ h2, h3⟩
    · rcases List.mem_cons.1 h2 with h2 | h2
      · cases h2
        exact .inr ⟨b, n, ex, c', h1, List.mem_append_right _ List.mem_cons_self, hc.trans h3.1, h3.2⟩
      · exact .inr ⟨b1, n, ex1, c1, h1, List.mem_append_right _ (List.mem_cons_of_mem _ h2), h3⟩
theorem Shp.put {cs : List AV} {P Q : HSt} {N b : Nat} {ex : Bool} {c c' : List AV} (h : Shp cs (P ++ ⟨b, ⟨2, ex, c⟩, true⟩ :: Q) N) (hc : c'.length = c.length) : Shp cs (P ++ ⟨b, ⟨2, ex, c'⟩, true⟩ :: Q) N := ⟨h.1, fun i hi => (h.2 i hi).put hc⟩
theorem wput {P Q : HSt} {e e' : HE} (h : ∀ x ∈ P ++ e :: Q, x.w = true) (he : e'.w = true := by rfl) : ∀ x ∈ P ++ e' :: Q, x.w = true := by
  intro x hx
  rcases List.mem_append.1 hx with hx | hx
  · exact h x (List.mem_append_left _ hx)
  · rcases List.mem_cons.1 hx with rfl | hx
    · exact he
    · exact h x (List.mem_append_right _ (List.mem_cons_of_mem _ hx))
theorem ck2 {x y : AV} {o n : Nat} (hx : x.isCell = true) (hy : y.isCell = true) (h : Nat.ble (o + 2) n = true) : (Nat.beq (AV.agg [x, y]).cells.length 2 && Nat.ble (o + 2) n && (AV.agg [x, y]).cells.all AV.isCell) = true := by
  rw [h]; exact and_tt rfl (and_tt hx (and_tt hy rfl))
theorem eown_shp {W : List El} {hl : HSt} (h : ∀ x ∈ W, LIn hl x.2.1 x.1) (hw : WZ hl) (hB : EBd W) : Shp (cE W) hl W.length := by
  refine ⟨cE_len W, fun i hi => ?_⟩
  have e : (cE W).getD (i * 2) .nils = (eg W i).1 := by rw [List.getD_eq_getElem?_getD, (cE_get W i hi).1]; rfl
  rw [e]
  rcases h _ (eg_mem hi) with ⟨h1, _⟩ | ⟨b, sz, ex, h1, w, h2⟩
  · exact .inl h1
  · obtain ⟨g1, g2⟩ := hw _ h2
    simp only at g1 g2
    subst g1 g2
    exact .inr ⟨b, _, ex, _, h1, h2, cL_len _, (hB.at hi).1.1⟩
theorem spl_some (B N : Nat) (ex : Bool) (cs : List AV) (L : HSt) (hw : ∀ e ∈ L, e.w = true) (hN : N ≤ 1048576) (hsh : Shp cs L N) : Spec tab 15 [.slice B 0 N 2] (B :: L.map (·.b)) (⟨B, ⟨2, ex, cs⟩, true⟩ :: L) (Val (.tuple [])) := by
 refine Spec.enter' (ft_get 15 Tryz.func15) rfl (m := 32) rfl (rs := []) rfl (st := [(0, .slice B 0 N 2)]) rfl rfl (fun _ => rfl) (fun E => zr (za (zi 0) (zk (W.block (W.loop_ind3 (fun (i : Nat) (cs : List AV) (L : HSt) => [(0, .slice B 0 N 2), (2, .int .i64 ((i : Nat) : Int))]) (fun (i : Nat) (cs : List AV) (L : HSt) => (⟨B, ⟨2, ex, cs⟩, true⟩ :: L)) (fun (i : Nat) (cs : List AV) (L : HSt) => i ≤ N ∧ Shp cs L N ∧ (∀ e ∈ L, e.w = true)) (fun (i : Nat) (cs : List AV) (L : HSt) => N - i) (0) (cs) (L) ⟨Nat.zero_le _, hsh, hw⟩ zv (SubH.refl _) (fun i cs L hI0 ih0 => ?_))))))
 obtain ⟨h1, hsh, hw⟩ := hI0
 refine W.seq (zr (zm rfl (zm rfl (zq (Q.len ud22 rfl rfl) (zq (Q.bin rfl rfl rfl (bv_lss lt_nat)) (zk (W.condDS rfl (fun hc7 => ?_) (fun hc7 => ?_))))))))
 · refine zw (W.seq (W.block (zr (zm rfl (zm rfl (zq (Q.iaddrS ud22 sz35 rfl rfl zo) (zq (Q.fieldAddr fa35_1 rfl rfl) (WO.store sz3 rfl rfl (i := 0) rfl (ck1 rfl (by rw [hsh.1]; rw [Nat.ble_eq]; omega)) rfl (hs' := _ :: _) rfl (zk (zr (za (zi 0) (zk (W.block (W.loop_ind3 (fun (k : Nat) (ds : List AV) (L : HSt) => [(0, .slice B 0 N 2), (2, .int .i64 ((i : Nat) : Int)), (3, .int .i64 ((k : Nat) : Int))]) (fun (k : Nat) (ds : List AV) (L : HSt) => (⟨B, ⟨2, ex, ds⟩, true⟩ :: L)) (fun (k : Nat) (ds : List AV) (L : HSt) => k ≤ lenV (ds.getD (i * 2) .nils) ∧ Shp ds L N ∧ (∀ e ∈ L, e.w = true)) (fun (k : Nat) (ds : List AV) (L : HSt) => lenV (ds.getD (i * 2) .nils) - k) (0) (layL cs ((0 + i) * 2 + 1) (AV.int .i64 (-1)).cells) (L) ⟨Nat.zero_le _, hsh.num (by omega), hw⟩ zv (SubH.refl _) (fun k ds L hI1 ih1 => ?_)))))))))))))))
   obtain ⟨hk, hsh, hw⟩ := hI1
   obtain ⟨hc, hS⟩ := hsh.at (i := i) (by omega)
   refine W.seq (zr (zm rfl (zm rfl (zm rfl (zq (Q.iaddrS ud22 sz35 rfl rfl zo) (zq (Q.fieldAddr fa35_0 rfl rfl) (zq (Q.load1 rfl (zt 0 rfl) ag33 hc) (zq (Q.len ud33 rfl (SLab.len hS)) (zq (Q.bin rfl rfl rfl (bv_lss lt_nat)) (zk (W.condDS rfl (fun hc21 => ?_) (fun hc21 => ?_))))))))))))
   · refine zw (W.seq (W.block (W.reg (zm rfl (zm rfl (zq (Q.iaddrS ud22 sz35 rfl rfl zo) (zq (Q.fieldAddr fa35_0 rfl rfl) (zq (Q.load1 rfl (zt 0 rfl) ag33 hc) ?_))))))))
     obtain ⟨bl, n, exl, cl, hlv, hm, hcl, hnb⟩ := SLab.full hS (by omega)
     rw [hlv] at hk hc21 ⊢
     have hkn : k < n := hc21
     obtain ⟨Lp, Lq, rfl⟩ := List.append_of_mem hm
     refine WO.subH (hs' := ⟨B, ⟨2, ex, ds⟩, true⟩ :: ⟨bl, ⟨2, exl, cl⟩, true⟩ :: (Lp ++ Lq)) gc (zm rfl (zq (Q.build pl68 (oPs_cons (oc (v := .str [122, 122]) (by kernel_rfl)) (oPs_cons (oc (v := .str [115, 112, 111, 105, 108, 116]) (by kernel_rfl)) oPs_nil)) rfl (cs := [_, _]) rfl) (zq (Q.iaddrS ud33 sz68 rfl rfl zo) (WO.store sz68 rfl rfl (i := 1) rfl (ck2 rfl rfl (by rw [hcl, Nat.ble_eq]; omega)) rfl (hs' := _ :: _ :: _) rfl (WO.nil (End.KB (End.K (W.sub (zc 0 rfl (zc 2 rfl (zc 3 rfl zzn))) (W.reg (zm rfl (zq (Q.bin rfl (zi 1) rfl zp) (za rfl (WO.nil (End.KL (W.sub zv (W.subH gc (ih1 (k + 1) (ds) (Lp ++ ⟨bl, ⟨2, exl, layL cl ((0 + k) * 2) (AV.agg [.str [122, 122], .str [115, 112, 111, 105, 108, 116]]).cells⟩, true⟩ :: Lq) ?_ ?_)))))))))))))))))
     · exact ⟨by rw [hlv]; show k + 1 ≤ n; omega, hsh.put (lay_len (by rw [hcl]; show (0 + k) * 2 + 2 ≤ _; omega)), wput hw⟩
     exact (by rw [hlv]; show n - (k + 1) < n - k; omega)
   refine W.exit (End.K_exit (End.KL_exit (End.KB_hit (End.KB (End.K (W.reg (zm rfl (zq (Q.bin rfl (zi 1) rfl zp) (za rfl (WO.nil (End.KL (W.sub zv (W.subH (SubH.refl _) (ih0 (i + 1) (ds) (L) ?_ ?_))))))))))))))
   · exact ⟨by omega, hsh, hw⟩
   exact zo
 refine W.exit ?_
 refine End.K_exit (End.KL_exit (End.KB_hit (End.fall ResL.nil ⟨rfl, rfl⟩ no_wl (SubH.nil _))))

theorem spl_nil  : Spec tab 15 [.nils] [] [] (Val (.tuple [])) := by
 refine Spec.enter' (ft_get 15 Tryz.func15) rfl (m := 32) rfl (rs := []) rfl (st := [(0, .nils)]) rfl rfl (fun _ => rfl) (fun E => zr (za (zi 0) (zk (W.block (W.loop (W.seq (zr (zm rfl (zm rfl (zq (Q.len ud22 rfl rfl) (zq (Q.bin rfl rfl rfl (bv_lss (p := false) rfl)) (zk (W.condF rfl (W.exit ?_))))))))))))))
 refine End.K_exit (End.KL_exit (End.KB_hit (End.fall ResL.nil ⟨rfl, rfl⟩ no_wl (SubH.nil _))))
theorem spl_spec (W : List El) (w : AV) (D : HSt) (hD : VOwn W w D) : Spec tab 15 [w] (D.map (·.b)) (D ++ []) (Val (.tuple [])) := by
  obtain ⟨hp, hl, rfl, hO, hL, hw, hB⟩ := hD
  rw [List.append_nil]
  rcases hO with ⟨h1, h2, rfl, rfl⟩ | ⟨b, ex, rfl, rfl, h3⟩
  · exact fun h hh => by
      obtain ⟨v, h', hs', q1, ⟨q2, q3⟩, q4, q5⟩ := spl_nil h ⟨fun e he => by simp at he, List.nodup_nil, Fr.refl _ _⟩
      exact ⟨v, h', hs', q1, ⟨q2, q3⟩, q4, ⟨fun e he => (by subst q3; simp at he), q5.nd, ⟨q5.fr.1, fun b hb _ => q5.fr.2 b hb (by simp)⟩⟩⟩
  · exact spl_some b W.length ex (cE W) hl hw.w hB.1 (eown_shp hL hw hB)
end Go.Proofs.YtmblgaehfjheeaaGreat.Ev
