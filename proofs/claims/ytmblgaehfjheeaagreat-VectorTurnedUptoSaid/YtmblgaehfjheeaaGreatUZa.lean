/- Chapter 19, walks: elements in order, by the document. -/
import Derived.Test.YtmblgaehfjheeaaGreatUYr
namespace Go.Proofs.YtmblgaehfjheeaaGreat.Ev
open Go.RowKit
set_option linter.unusedVariables false
set_option linter.unusedSimpArgs false
set_option maxRecDepth 100000
set_option maxHeartbeats 1000000
theorem p2_eg {V : List El} {i : Nat} (h : i < V.length) : (P2 V)[i]? = some (eg V i).2 := by
  simp [P2, eg, List.getElem?_map, List.getElem?_eq_getElem h, List.getD_eq_getElem?_getD]
theorem ebd_nil : EBd [] := ⟨by simp, fun x hx => by simp at hx⟩
theorem ord_ebd {X W : List El} {e : Nat} (h : OrdR (P2 X) e (P2 W)) (hm : ∀ x ∈ W, x ∈ X) (hB : EBd X) : EBd W := by
  refine ⟨?_, fun x hx => hB.2 x (hm x hx)⟩
  rcases h with ⟨_, h, _⟩ | ⟨_, h, _⟩
  · have : W.length = 0 := by have := congrArg List.length h; simpa [P2] using this
    omega
  · have := h.length_eq
    simp only [P2, List.length_map] at this
    have := hB.1
    omega
def WZ (hl : HSt) : Prop := ∀ e ∈ hl, e.w = true ∧ e.o.sz = 2
theorem WZ.nil : WZ [] := fun e he => by simp at he
theorem WZ.w {hl : HSt} (h : WZ hl) : ∀ e ∈ hl, e.w = true := fun e he => (h e he).1
theorem WZ.app {a b : HSt} (h : WZ a) (g : WZ b) : WZ (a ++ b) := fun e he => (List.mem_append.1 he).elim (h e) (g e)
theorem OwnE.wz {cells : List AV} {len : Nat} {v : AV} {hp : HSt} (h : OwnE 2 cells len v hp) : WZ hp := by
  rcases h with ⟨_, _, _, rfl⟩ | ⟨b, ex, _, rfl, _⟩
  · exact WZ.nil
  · intro e he
    rw [List.mem_singleton.1 he]
    exact ⟨rfl, rfl⟩
def VOwn (W : List El) (w : AV) (D : HSt) : Prop := ∃ hp hl, D = hp ++ hl ∧ OwnE 2 (cE W) W.length w hp ∧ (∀ x ∈ W, LIn hl x.2.1 x.1) ∧ WZ hl ∧ EBd W
theorem VOwn.nil : VOwn [] .nils [] := ⟨[], [], rfl, OwnE.nil 2, fun x hx => by simp at hx, WZ.nil, ebd_nil⟩
def eachL (op : List Nat) (low high : Int) (V : List El) : List PE := V.map fun x => (x.2.1.filter (dropP [[95, 95, 110, 97, 109, 101, 95, 95]]), oneM op x.2.2 low high)
open Classical in
noncomputable def eachPre (op : List Nat) (low high : Int) (V : List El) : Option Nat :=
  if vchk V ≠ 0 then some (vchk V) else if op = [99, 108, 97, 109, 112] ∧ ¬ (fitB low = true ∧ fitB high = true) then some 2 else if ¬ opK op then some 9 else if op = [99, 108, 97, 109, 112] ∧ high < low then some 0
  else if ∃ i, i < V.length ∧ fitB (oneM op (eg V i).2.2 low high) = false then some 11 else none
def EachR (op : List Nat) (low high : Int) (V : List El) (e : Nat) (W : List PE) : Prop := (eachPre op low high V = some e ∧ W = []) ∨ (eachPre op low high V = none ∧ OrdR (eachL op low high V) e W)
theorem EachR.fn {op : List Nat} {low high : Int} {V : List El} {e e' : Nat} {W W' : List PE} (h : EachR op low high V e W) (g : EachR op low high V e' W') : e = e' ∧ W = W' := by
  rcases h with ⟨h1, h2⟩ | ⟨h1, h2⟩ <;> rcases g with ⟨g1, g2⟩ | ⟨g1, g2⟩
  · rw [h1] at g1; cases g1; exact ⟨rfl, h2.trans g2.symm⟩
  · rw [h1] at g1; cases g1
  · rw [h1] at g1; cases g1
  · exact h2.fn g2
section
variable {op : List Nat} {low high : Int} {V : List El}
end
theorem own_snoc {X : List El} {x : El} {v : AV} {hp : HSt} (h : OwnE 2 (cE X ++ [x.1, .int .i64 x.2.2]) (X.length + 1) v hp) : OwnE 2 (cE (X ++ [x])) (X ++ [x]).length v hp := by
  rw [cE_append, List.length_append]; exact h
theorem LIn.own {l : List Lab} {v : AV} {hp : HSt} (h : OwnE 2 (cL l) l.length v hp) : LIn hp l v := by
  rcases h with ⟨h1, _, h2, _⟩ | ⟨b, ex, h1, rfl, _⟩
  · exact .inl ⟨h2, List.length_eq_zero_iff.1 h1⟩
  · exact .inr ⟨b, 2, ex, h1, true, List.mem_cons_self⟩
theorem MemH.appl {A hs : HSt} {b : Nat} {o : AObj} (h : MemH hs b o) : MemH (hs ++ A) b o := let ⟨w, g⟩ := h; ⟨w, List.mem_append_left _ g⟩
theorem lin_snoc {X : List El} {x : El} {hl D : HSt} (h : ∀ y ∈ X, LIn hl y.2.1 y.1) (g : LIn D x.2.1 x.1) : ∀ y ∈ X ++ [x], LIn (hl ++ D) y.2.1 y.1 := by
  intro y hy
  rcases List.mem_append.1 hy with hy | hy
  · exact (h y hy).mono fun b o h => h.appl
  · rw [List.mem_singleton.1 hy]; exact g.mono fun b o h => h.app
theorem fit_i64 {n : Int} (h : fitB n = true) : I64 n := by
  have := fit_bd h
  unfold I64; omega
theorem EIn.own {X : List El} {u : AV} {hp hl : HSt} (h : OwnE 2 (cE X) X.length u hp) (g : ∀ x ∈ X, LIn hl x.2.1 x.1) : EIn (ro (hp ++ hl)) X u := by
  refine ⟨?_, fun x hx => (g x hx).mono fun b o h => h.app.ro⟩
  rcases h with ⟨h1, _, h2, _⟩ | ⟨b, ex, h1, rfl, _⟩
  · exact .inl ⟨h2, List.length_eq_zero_iff.1 h1⟩
  · exact .inr ⟨b, 2, ex, h1, MemH.ro ⟨true, List.mem_cons_self⟩⟩
theorem OwnE.bq0 {sz : Nat} {cells : List AV} {len : Nat} {v : AV} {hp : HSt} (h : OwnE sz cells len v hp) : beq0 v v = true := by
  rcases h with ⟨_, _, rfl, _⟩ | ⟨b, ex, rfl, _, _⟩
  · rfl
  · simp [beq0]
theorem p2_len {X Y : List El} (h : X.length ≠ Y.length) : oneOf [AV.bool false] = .bool (decide (P2 X = P2 Y)) := by
  rw [decide_eq_false (fun e => h (by have := congrArg List.length e; simpa [P2] using this))]; rfl
theorem p2_ne {X Y : List El} {i : Nat} (hx : i < X.length) (hy : i < Y.length) (h : (eg X i).2 ≠ (eg Y i).2) : oneOf [AV.bool false] = .bool (decide (P2 X = P2 Y)) := by
  rw [decide_eq_false (fun e => h (by have h1 := p2_eg hx; rw [e, p2_eg hy] at h1; exact (Option.some.inj h1).symm))]; rfl
theorem p2_eq {X Y : List El} (h : X.length = Y.length) (g : ∀ k, k < X.length → (eg X k).2 = (eg Y k).2) : oneOf [AV.bool true] = .bool (decide (P2 X = P2 Y)) := by
  have : P2 X = P2 Y := by
    apply List.ext_getElem?
    intro k
    rcases Nat.lt_or_ge k X.length with q | q
    · rw [p2_eg q, p2_eg (by omega), g k q]
    · rw [List.getElem?_eq_none (by simpa [P2] using q), List.getElem?_eq_none (by simp [P2]; omega)]
  rw [decide_eq_true this]; rfl
theorem vsame_spec (hs : HSt) (hro : ∀ e ∈ hs, e.w = false) (X Y : List El) (vx vy : AV) (hX : EIn hs X vx) (hY : EIn hs Y vy) (hbX : EBd X) (hbY : EBd Y) : Spec tab 14 [vx, vy] [] hs (Val (.bool (decide (P2 X = P2 Y)))) := by
 have h1 := hbX.1
 have h2 := hbY.1
 refine Spec.enter' (ft_get 14 Tryz.func14) rfl (m := 42) rfl (rs := [.tmp 4]) rfl (st := [(0, vx), (1, vy)]) rfl rfl (fun _ => rfl) (fun E => zr (za rfl (zk (W.seq (zr (zm rfl (zq (Q.len ud22 rfl (EIn.len hX)) (zm rfl (zq (Q.len ud22 rfl (EIn.len hY)) (zq (Q.bin rfl rfl rfl (bv_neq ne_nat)) (zk (W.condDS rfl (fun hc10 => ?_) (fun hc10 => ?_)))))))))))))
 · refine zr (za rfl (zk (W.ret (End.K_ret (End.retV (z1 rfl) ?_)))))
   exact p2_len (by simpa using hc10)
 refine zw (W.seq (zr (za (zi 0) (zk (W.block (W.loop_ind (fun (i : Nat) => [(0, vx), (1, vy), (5, .int .i64 ((i : Nat) : Int))]) (fun _ => _) (fun (i : Nat) => i ≤ X.length ∧ X.length = Y.length ∧ ∀ k, k < i → (eg X k).2 = (eg Y k).2) (fun (i : Nat) => X.length - i) (0) ⟨Nat.zero_le _, by simpa using hc10, fun k q => by omega⟩ zv (SubH.refl _) (fun i hI0 ih0 => ?_)))))))
 obtain ⟨g1, g2, g3⟩ := hI0
 refine W.seq (zr (zm rfl (zm rfl (zq (Q.len ud22 rfl (EIn.len hX)) (zq (Q.bin rfl rfl rfl (bv_lss lt_nat)) (zk (W.condDS rfl (fun hc14 => ?_) (fun hc14 => ?_))))))))
 · obtain ⟨bx, szx, exx, rfl, wx, mx⟩ := EIn.full hX (by omega)
   obtain ⟨by_, szy, exy, rfl, wy, my⟩ := EIn.full hY (by omega)
   refine zw (W.seq (W.block (W.seq (W.regT (by kernel_rfl) (zm rfl (zm rfl (zq (Q.iaddrS ud22 sz35 rfl rfl zo) (zq (Q.fieldAddr fa35_0 rfl rfl) (zq (Q.load1 rfl mx ag33 (cE_f0 zo)) (zm rfl (zm rfl (zq (Q.iaddrS ud22 sz35 rfl rfl zo) (zq (Q.fieldAddr fa35_0 rfl rfl) (zq (Q.load1 rfl my ag33 (cE_f0 zo)) (WO.callV rfl (oLs_cons rfl (oLs_cons rfl oLs_nil)) rfl (rsame_spec hs hro _ _ _ _ (hX.at (by omega)) (hY.at (by omega)) (hbX.at (by omega)).1 (hbY.at (by omega)).1) (SubR.self hro) rfl (zq (Q.not rfl not_dec) (zm rfl (WO.splitD (d := 29) rfl (fun hc29 => ?_) (fun hc29 => ?_)))))))))))))))))))
   · refine zg rfl rfl (zg rfl rfl (zg rfl rfl (zg rfl rfl (zg rfl rfl (zg rfl rfl (zg rfl rfl (zg rfl rfl (zg rfl rfl (zg rfl rfl (zg rfl rfl (zq (Q.pickT rfl rfl) (zk (W.sub (zc 41 rfl (zc 0 rfl (zc 1 rfl (zc 5 rfl zzn)))) (W.condT rfl (zr (za rfl (zk (W.ret (End.KB_ret (End.K_ret (End.KL_ret (End.KB_ret (End.K_ret (End.retV (z1 rfl) ?_))))))))))))))))))))))))
     exact p2_ne (i := i) (by omega) (by omega) (fun e => by have e1 := congrArg Prod.fst e; have e2 := congrArg Prod.snd e; simp_all)
   refine WO.gT rfl rfl (zm rfl (WO.gT rfl rfl (zm rfl (WO.gT rfl rfl (zq (Q.iaddrS ud22 sz35 rfl rfl zo) (WO.gT rfl rfl (zq (Q.fieldAddr fa35_1 rfl rfl) (WO.gT rfl rfl (zq (Q.load1 rfl mx ag3 (cE_f1 zo)) (WO.gT rfl rfl (zm rfl (WO.gT rfl rfl (zm rfl (WO.gT rfl rfl (zq (Q.iaddrS ud22 sz35 rfl rfl zo) (WO.gT rfl rfl (zq (Q.fieldAddr fa35_1 rfl rfl) (WO.gT rfl rfl (zq (Q.load1 rfl my ag3 (cE_f1 zo)) (WO.gT rfl rfl (zq (Q.bin rfl rfl rfl (bv_neq ne_int)) (zq (Q.pickF rfl rfl) (zk ?_)))))))))))))))))))))))
   refine W.sub (zc 41 rfl (zc 0 rfl (zc 1 rfl (zc 5 rfl zzn)))) (W.condDS rfl (fun hc41 => ?_) (fun hc41 => ?_))
   · refine zr (za rfl (zk (W.ret (End.KB_ret (End.K_ret (End.KL_ret (End.KB_ret (End.K_ret (End.retV (z1 rfl) ?_)))))))))
     exact p2_ne (i := i) (by omega) (by omega) (fun e => by have e1 := congrArg Prod.fst e; have e2 := congrArg Prod.snd e; simp_all)
   refine W.skip (End.KB (End.K (W.reg (zm rfl (zq (Q.bin rfl (zi 1) rfl zp) (za rfl (WO.nil (End.KL (W.sub zv (W.subH (SubH.of_sublist (by simp)) (ih0 (i + 1) ?_ ?_)))))))))))
   · exact ⟨by omega, g2, fun k q => by rcases Nat.lt_or_ge k i with q1 | q1; exact g3 k q1; obtain rfl : k = i := (by omega); exact Prod.ext (by simpa using hc29) (by simpa using hc41)⟩
   exact zo
 refine W.exit (End.K_exit (End.KL_exit (End.KB_hit (End.K (zr (za rfl (zk (W.ret (End.retV (z1 rfl) ?_)))))))))
 exact p2_eq g2 (fun k q => g3 k (by omega))

def lenV : AV → Nat
  | .slice _ _ n _ => n
  | _ => 0
def SLab (L : HSt) (v : AV) : Prop := v = .nils ∨ ∃ b n ex c, v = .slice b 0 n 2 ∧ (⟨b, ⟨2, ex, c⟩, true⟩ : HE) ∈ L ∧ c.length = n * 2 ∧ n ≤ 1048576
theorem SLab.len {L : HSt} {v : AV} {e : Nat} (h : SLab L v) : lenA (.slice e) v = some (lenV v) := by
  rcases h with rfl | ⟨b, n, ex, c, rfl, _⟩ <;> rfl
theorem SLab.full {L : HSt} {v : AV} (h : SLab L v) (hl : 0 < lenV v) : ∃ b n ex c, v = .slice b 0 n 2 ∧ (⟨b, ⟨2, ex, c⟩, true⟩ : HE) ∈ L ∧ c.length = n * 2 ∧ n ≤ 1048576 := by
  rcases h with rfl | h
  · exact absurd hl (by simp [lenV])
  · exact h
def Shp (cs : List AV) (L : HSt) (N : Nat) : Prop := cs.length = N * 2 ∧ ∀ i, i < N → SLab L (cs.getD (i * 2) .nils)
theorem Shp.at {cs : List AV} {L : HSt} {N i : Nat} (h : Shp cs L N) (hi : i < N) : cs[(0 + i) * 2 + 0]? = some (cs.getD (i * 2) .nils) ∧ SLab L (cs.getD (i * 2) .nils) := by
  refine ⟨?_, h.2 i hi⟩
  have : i * 2 < cs.length := by rw [h.1]; omega
  rw [Nat.zero_add, Nat.add_zero, List.getD_eq_getElem?_getD, List.getElem?_eq_getElem this]; rfl
theorem lay_len : ∀ {l new : List AV} {o : Nat}, o + new.length ≤ l.length → (layL l o new).length = l.length
  | l, [], o, _ => by simp [layL]
  | [], a :: new, o, h => by simp at h
  | x :: l, a :: new, 0, h => by
    simp only [layL, List.length_cons]
    rw [lay_len (by simpa using h)]
  | x :: l, a :: new, o + 1, h => by
    simp only [layL, List.length_cons]
    rw [lay_len (by simp at h ⊢; omega)]
theorem lay_ev : ∀ (l : List AV) (i k : Nat) (v : AV), (layL l (i * 2 + 1) [v]).getD (k * 2) .nils = l.getD (k * 2) .nils
  | [], i, k, v => by simp [layL]
  | x :: l, 0, 0, v => by cases l <;> rfl
  | [x], 0, k + 1, v => by simp [layL]
  | x :: y :: l, 0, k + 1, v => by
    rw [show (k + 1) * 2 = k * 2 + 1 + 1 by omega]; cases l <;> rfl
  | [x], i + 1, k, v => by
    rw [show (i + 1) * 2 + 1 = i * 2 + 1 + 1 + 1 by omega]; simp [layL]
  | x :: y :: l, i + 1, 0, v => by
    rw [show (i + 1) * 2 + 1 = i * 2 + 1 + 1 + 1 by omega]; rfl
  | x :: y :: l, i + 1, k + 1, v => by
    rw [show (i + 1) * 2 + 1 = i * 2 + 1 + 1 + 1 by omega, show (k + 1) * 2 = k * 2 + 1 + 1 by omega]
    show (layL l (i * 2 + 1) [v]).getD (k * 2) .nils = l.getD (k * 2) .nils
    exact lay_ev l i k v
theorem Shp.num {cs : List AV} {L : HSt} {N i : Nat} {v : AV} (h : Shp cs L N) (hi : i < N) : Shp (layL cs ((0 + i) * 2 + 1) [v]) L N := by
  refine ⟨?_, fun k hk => ?_⟩
  · rw [lay_len (by rw [h.1]; simp; omega)]; exact h.1
  · rw [Nat.zero_add, lay_ev]; exact h.2 k hk
theorem SLab.put {P Q : HSt} {b : Nat} {ex : Bool} {c c' : List AV} {v : AV} (hc : c'.length = c.length) (h : SLab (P ++ ⟨b, ⟨2, ex, c⟩, true⟩ :: Q) v) : SLab (P ++ ⟨b, ⟨2, ex, c'⟩, true⟩ :: Q) v := by
  rcases h with h | ⟨b1, n, ex1, c1, h1, h2, h3⟩
  · exact .inl h
  · rcases List.mem_append.1 h2 with h2 | h2
    · exact .inr ⟨b1, n, ex1, c1, h1, List.mem_append_left _ h2, h3⟩
    · rcases List.mem_cons.1 h2 with h2 | h2
      · cases h2
        exact .inr ⟨b, n, ex, c', h1, List.mem_append_right _ List.mem_cons_self, hc.trans h3.1, h3.2⟩
      · exact .inr ⟨b1, n, ex1, c1, h1, List.mem_append_right _ (List.mem_cons_of_mem _ h2), h3⟩
theorem Shp.put {cs : List AV} {P Q : HSt} {N b : Nat} {ex : Bool} {c c' : List AV} (h : Shp cs (P ++ ⟨b, ⟨2, ex, c⟩, true⟩ :: Q) N) (hc : c'.length = c.length) : Shp cs (P ++ ⟨b, ⟨2, ex, c'⟩, true⟩ :: Q) N := ⟨h.1, fun i hi => (h.2 i hi).put hc⟩
def ariB (op : List Nat) : Bool := decide (op = [43] ∨ op = [45] ∨ op = [42] ∨ op = [47] ∨ op = [37])
def cmpB (op : List Nat) : Bool := decide (op = [61, 61] ∨ op = [33, 61] ∨ op = [60, 61] ∨ op = [62, 61] ∨ op = [60] ∨ op = [62])
def cmpP (op : List Nat) (a b : Int) : Bool := if op = [61, 61] then decide (a = b) else if op = [33, 61] then decide (a ≠ b) else if op = [60, 61] then decide (a ≤ b) else if op = [62, 61] then decide (b ≤ a) else if op = [60] then decide (a < b) else decide (b < a)
def numM (op : List Nat) (a b : Int) : Int × Int :=
  if ariB op = false ∧ cmpB op = false then (0, 9) else if ¬ (fitB a = true ∧ fitB b = true) then (0, 2) else if op = [43] then fAdd a b else if op = [45] then fSub a b else if op = [42] then fMul a b else if op = [47] then fDiv a b else if op = [37] then fMod a b
  else if cmpP op a b = true then (1000000, 0) else (0, 0)
section
variable {op : List Nat} {a b : Int}
theorem numM_9 (h1 : ariB op = false) (h2 : cmpB op = false) : numM op a b = (0, 9) := if_pos ⟨h1, h2⟩
theorem numM_2 (h : ariB op = true ∨ cmpB op = true) (hf : fitB a = false ∨ fitB b = false) : numM op a b = (0, 2) := by
  unfold numM
  rw [if_neg (by rcases h with h | h <;> simp [h]), if_pos (by rcases hf with h | h <;> simp [h])]
theorem numM_go (h : ariB op = true ∨ cmpB op = true) (ha : fitB a = true) (hb : fitB b = true) : numM op a b = if op = [43] then fAdd a b else if op = [45] then fSub a b else if op = [42] then fMul a b else if op = [47] then fDiv a b else if op = [37] then fMod a b
  else if cmpP op a b = true then (1000000, 0) else (0, 0) := by
  unfold numM
  rw [if_neg (by rcases h with h | h <;> simp [h]), if_neg (by simp [ha, hb])]
end
theorem ari_spec (op : List Nat) (ho : Bytes op) : Spec tab 31 [.str op] [] [] (Val (.bool (ariB op))) := by
 refine Spec.enter' (ft_get 31 Tryz.func31) rfl (m := 10) rfl (rs := [.tmp 2]) rfl (st := [(0, .str op)]) rfl rfl (fun _ => rfl) (fun E => zr (za rfl (zk (W.seq (zr (zm rfl (zk (W.block (W.seq (zr (zq (Q.bin rfl (oc (v := .str [43]) (by kernel_rfl)) rfl bv_seql) (za rfl (zk (W.condDS rfl (fun hc4 => ?_) (fun hc4 => ?_)))))))))))))))
 · refine zw (W.condT rfl (zr (za rfl (zk (W.ret (End.KB_ret (End.K_ret (End.retV (z1 rfl) ?_))))))))
   first | rfl | (refine congrArg AV.bool ?_; simp_all [ariB, cmpB]; done) | (show AV.bool _ = AV.bool _; simp_all [ariB, cmpB])
 refine zr (zq (Q.bin rfl (oc (v := .str [45]) (by kernel_rfl)) rfl bv_seql) (za rfl (zk (W.condDS rfl (fun hc4 => ?_) (fun hc4 => ?_)))))
 · refine zw (W.condT rfl (zr (za rfl (zk (W.ret (End.KB_ret (End.K_ret (End.retV (z1 rfl) ?_))))))))
   first | rfl | (refine congrArg AV.bool ?_; simp_all [ariB, cmpB]; done) | (show AV.bool _ = AV.bool _; simp_all [ariB, cmpB])
 refine zr (zq (Q.bin rfl (oc (v := .str [42]) (by kernel_rfl)) rfl bv_seql) (za rfl (zk (W.condDS rfl (fun hc4 => ?_) (fun hc4 => ?_)))))
 · refine zw (W.condT rfl (zr (za rfl (zk (W.ret (End.KB_ret (End.K_ret (End.retV (z1 rfl) ?_))))))))
   first | rfl | (refine congrArg AV.bool ?_; simp_all [ariB, cmpB]; done) | (show AV.bool _ = AV.bool _; simp_all [ariB, cmpB])
 refine zr (zq (Q.bin rfl (oc (v := .str [47]) (by kernel_rfl)) rfl bv_seql) (za rfl (zk (W.condDS rfl (fun hc4 => ?_) (fun hc4 => ?_)))))
 · refine zw (W.condT rfl (zr (za rfl (zk (W.ret (End.KB_ret (End.K_ret (End.retV (z1 rfl) ?_))))))))
   first | rfl | (refine congrArg AV.bool ?_; simp_all [ariB, cmpB]; done) | (show AV.bool _ = AV.bool _; simp_all [ariB, cmpB])
 refine W.reg (zq (Q.bin rfl (oc (v := .str [37]) (by kernel_rfl)) rfl bv_seql) (za rfl (zk (W.condDS rfl (fun hc4 => ?_) (fun hc4 => ?_)))))
 · refine zr (za rfl (zk (W.ret (End.KB_ret (End.K_ret (End.retV (z1 rfl) ?_))))))
   first | rfl | (refine congrArg AV.bool ?_; simp_all [ariB, cmpB]; done) | (show AV.bool _ = AV.bool _; simp_all [ariB, cmpB])
 refine W.skip (End.KB (End.K (zr (za rfl (zk (W.ret (End.retV (z1 rfl) ?_)))))))
 first | rfl | (refine congrArg AV.bool ?_; simp_all [ariB, cmpB]; done) | (show AV.bool _ = AV.bool _; simp_all [ariB, cmpB])

theorem cps_spec (op : List Nat) (ho : Bytes op) : Spec tab 32 [.str op] [] [] (Val (.bool (cmpB op))) := by
 refine Spec.enter' (ft_get 32 Tryz.func32) rfl (m := 11) rfl (rs := [.tmp 2]) rfl (st := [(0, .str op)]) rfl rfl (fun _ => rfl) (fun E => zr (za rfl (zk (W.seq (zr (zm rfl (zk (W.block (W.seq (zr (zq (Q.bin rfl (oc (v := .str [61, 61]) (by kernel_rfl)) rfl bv_seql) (za rfl (zk (W.condDS rfl (fun hc4 => ?_) (fun hc4 => ?_)))))))))))))))
 · refine zw (W.condT rfl (zr (za rfl (zk (W.ret (End.KB_ret (End.K_ret (End.retV (z1 rfl) ?_))))))))
   first | rfl | (refine congrArg AV.bool ?_; simp_all [ariB, cmpB]; done) | (show AV.bool _ = AV.bool _; simp_all [ariB, cmpB])
 refine zr (zq (Q.bin rfl (oc (v := .str [33, 61]) (by kernel_rfl)) rfl bv_seql) (za rfl (zk (W.condDS rfl (fun hc4 => ?_) (fun hc4 => ?_)))))
 · refine zw (W.condT rfl (zr (za rfl (zk (W.ret (End.KB_ret (End.K_ret (End.retV (z1 rfl) ?_))))))))
   first | rfl | (refine congrArg AV.bool ?_; simp_all [ariB, cmpB]; done) | (show AV.bool _ = AV.bool _; simp_all [ariB, cmpB])
 refine zr (zq (Q.bin rfl (oc (v := .str [60, 61]) (by kernel_rfl)) rfl bv_seql) (za rfl (zk (W.condDS rfl (fun hc4 => ?_) (fun hc4 => ?_)))))
 · refine zw (W.condT rfl (zr (za rfl (zk (W.ret (End.KB_ret (End.K_ret (End.retV (z1 rfl) ?_))))))))
   first | rfl | (refine congrArg AV.bool ?_; simp_all [ariB, cmpB]; done) | (show AV.bool _ = AV.bool _; simp_all [ariB, cmpB])
 refine zr (zq (Q.bin rfl (oc (v := .str [62, 61]) (by kernel_rfl)) rfl bv_seql) (za rfl (zk (W.condDS rfl (fun hc4 => ?_) (fun hc4 => ?_)))))
 · refine zw (W.condT rfl (zr (za rfl (zk (W.ret (End.KB_ret (End.K_ret (End.retV (z1 rfl) ?_))))))))
   first | rfl | (refine congrArg AV.bool ?_; simp_all [ariB, cmpB]; done) | (show AV.bool _ = AV.bool _; simp_all [ariB, cmpB])
 refine zr (zq (Q.bin rfl (oc (v := .str [60]) (by kernel_rfl)) rfl bv_seql) (za rfl (zk (W.condDS rfl (fun hc4 => ?_) (fun hc4 => ?_)))))
 · refine zw (W.condT rfl (zr (za rfl (zk (W.ret (End.KB_ret (End.K_ret (End.retV (z1 rfl) ?_))))))))
   first | rfl | (refine congrArg AV.bool ?_; simp_all [ariB, cmpB]; done) | (show AV.bool _ = AV.bool _; simp_all [ariB, cmpB])
 refine W.reg (zq (Q.bin rfl (oc (v := .str [62]) (by kernel_rfl)) rfl bv_seql) (za rfl (zk (W.condDS rfl (fun hc4 => ?_) (fun hc4 => ?_)))))
 · refine zr (za rfl (zk (W.ret (End.KB_ret (End.K_ret (End.retV (z1 rfl) ?_))))))
   first | rfl | (refine congrArg AV.bool ?_; simp_all [ariB, cmpB]; done) | (show AV.bool _ = AV.bool _; simp_all [ariB, cmpB])
 refine W.skip (End.KB (End.K (zr (za rfl (zk (W.ret (End.retV (z1 rfl) ?_)))))))
 first | rfl | (refine congrArg AV.bool ?_; simp_all [ariB, cmpB]; done) | (show AV.bool _ = AV.bool _; simp_all [ariB, cmpB])

theorem truth_spec (p : Bool) : Spec tab 45 [.bool p] [] [] (Val (.tuple [.int .i64 (if p = true then 1000000 else 0), .int .i64 ((0 : Nat) : Int)])) := by
 refine Spec.enter' (ft_get 45 Tryz.func45) rfl (m := 5) rfl (rs := [.tmp 2, .tmp 3]) rfl (st := [(0, .bool p)]) rfl rfl (fun _ => rfl) (fun E => zr (za (zi 0) (za (zi 0) (zk (W.seq (zr (zm rfl (zk (W.condS rfl (fun hc4 => ?_) (fun hc4 => ?_))))))))))
 · refine zr (za (zi 1000000) (za (zi 0) (zk (W.ret (End.K_ret (End.retV (ResL.tmp rfl (z1 rfl)) ?_))))))
   simp_all [oneOf]
 refine zw (zr (za (zi 0) (za (zi 0) (zk (W.ret (End.retV (ResL.tmp rfl (z1 rfl)) ?_))))))
 simp_all [oneOf]

theorem num_spec (op : List Nat) (ho : Bytes op) (a b : Int) : Spec tab 16 [.str op, .int .i64 a, .int .i64 b] [] [] (Val (pairA (numM op a b))) := by
 refine Spec.enter' (ft_get 16 Tryz.func16) rfl (m := 108) rfl (rs := [.tmp 6, .tmp 7]) rfl (st := [(0, .str op), (1, .int .i64 a), (2, .int .i64 b)]) rfl rfl (fun _ => rfl) (fun E => zr (za (zi 0) (za (zi 0) (zk (W.seqK1 (fun (q : Unit) => [(0, .str op), (1, .int .i64 a), (2, .int .i64 b)]) (fun (q : Unit) => (ariB op = true ∨ cmpB op = true) ∧ fitB a = true ∧ fitB b = true) (fun q hI5 => ?_) (fun hJ5 => ?_))))))
 · obtain ⟨hg1, hg2, hg3⟩ := hI5
   have hg := numM_go hg1 hg2 hg3
   refine W.seq (zr (zm rfl (zk (W.block (zr (zq (Q.bin rfl (oc (v := .str [43]) (by kernel_rfl)) rfl bv_seql) (za rfl (zk (W.condDS rfl (fun hc27 => ?_) (fun hc27 => ?_))))))))))
   · refine zr (zm rfl (zm rfl (WO.callV rfl (oLs_cons rfl (oLs_cons rfl oLs_nil)) rfl (Spec.known (fun _ => rfl)) SubR.nil rfl (zq (Q.extract rfl rfl) (zq (Q.extract rfl rfl) (za rfl (za rfl (zk (W.ret (End.KB_ret (End.K_ret (End.retV (ResL.tmp rfl (z1 rfl)) ?_))))))))))))
     first | (refine congrArg pairA (Eq.symm ?_); rw [hg]; simp_all; done) | (rw [hg]; unfold pairA oneOf; simp_all; done) | (rw [hg]; unfold pairA oneOf; simp_all [cmpP]; done) | (rw [hg]; unfold pairA oneOf; simp_all [cmpP]; split <;> simp_all; done) | (rw [hg]; unfold pairA oneOf; simp_all [cmpP]; split <;> simp_all <;> omega)
   refine zr (zq (Q.bin rfl (oc (v := .str [45]) (by kernel_rfl)) rfl bv_seql) (za rfl (zk (W.condDS rfl (fun hc34 => ?_) (fun hc34 => ?_)))))
   · refine zr (zm rfl (zm rfl (WO.callV rfl (oLs_cons rfl (oLs_cons rfl oLs_nil)) rfl (Spec.known (fun _ => rfl)) SubR.nil rfl (zq (Q.extract rfl rfl) (zq (Q.extract rfl rfl) (za rfl (za rfl (zk (W.ret (End.KB_ret (End.K_ret (End.retV (ResL.tmp rfl (z1 rfl)) ?_))))))))))))
     first | (refine congrArg pairA (Eq.symm ?_); rw [hg]; simp_all; done) | (rw [hg]; unfold pairA oneOf; simp_all; done) | (rw [hg]; unfold pairA oneOf; simp_all [cmpP]; done) | (rw [hg]; unfold pairA oneOf; simp_all [cmpP]; split <;> simp_all; done) | (rw [hg]; unfold pairA oneOf; simp_all [cmpP]; split <;> simp_all <;> omega)
   refine zr (zq (Q.bin rfl (oc (v := .str [42]) (by kernel_rfl)) rfl bv_seql) (za rfl (zk (W.condDS rfl (fun hc41 => ?_) (fun hc41 => ?_)))))
   · refine zr (zm rfl (zm rfl (WO.callV rfl (oLs_cons rfl (oLs_cons rfl oLs_nil)) rfl (Spec.known (fun _ => rfl)) SubR.nil rfl (zq (Q.extract rfl rfl) (zq (Q.extract rfl rfl) (za rfl (za rfl (zk (W.sub (zc 7 rfl (zc 6 rfl zzn)) (W.ret (End.KB_ret (End.K_ret (End.retV (ResL.tmp rfl (z1 rfl)) ?_)))))))))))))
     first | (refine congrArg pairA (Eq.symm ?_); rw [hg]; simp_all; done) | (rw [hg]; unfold pairA oneOf; simp_all; done) | (rw [hg]; unfold pairA oneOf; simp_all [cmpP]; done) | (rw [hg]; unfold pairA oneOf; simp_all [cmpP]; split <;> simp_all; done) | (rw [hg]; unfold pairA oneOf; simp_all [cmpP]; split <;> simp_all <;> omega)
   refine zr (zq (Q.bin rfl (oc (v := .str [47]) (by kernel_rfl)) rfl bv_seql) (za rfl (zk (W.condDS rfl (fun hc48 => ?_) (fun hc48 => ?_)))))
   · refine zr (zm rfl (zm rfl (WO.callV rfl (oLs_cons rfl (oLs_cons rfl oLs_nil)) rfl (Spec.known (fun _ => rfl)) SubR.nil rfl (zq (Q.extract rfl rfl) (zq (Q.extract rfl rfl) (za rfl (za rfl (zk (W.sub (zc 7 rfl (zc 6 rfl zzn)) (W.ret (End.KB_ret (End.K_ret (End.retV (ResL.tmp rfl (z1 rfl)) ?_)))))))))))))
     first | (refine congrArg pairA (Eq.symm ?_); rw [hg]; simp_all; done) | (rw [hg]; unfold pairA oneOf; simp_all; done) | (rw [hg]; unfold pairA oneOf; simp_all [cmpP]; done) | (rw [hg]; unfold pairA oneOf; simp_all [cmpP]; split <;> simp_all; done) | (rw [hg]; unfold pairA oneOf; simp_all [cmpP]; split <;> simp_all <;> omega)
   refine zr (zq (Q.bin rfl (oc (v := .str [37]) (by kernel_rfl)) rfl bv_seql) (za rfl (zk (W.condDS rfl (fun hc55 => ?_) (fun hc55 => ?_)))))
   · refine zr (zm rfl (zm rfl (WO.callV rfl (oLs_cons rfl (oLs_cons rfl oLs_nil)) rfl (Spec.known (fun _ => rfl)) SubR.nil rfl (zq (Q.extract rfl rfl) (zq (Q.extract rfl rfl) (za rfl (za rfl (zk (W.sub (zc 7 rfl (zc 6 rfl zzn)) (W.ret (End.KB_ret (End.K_ret (End.retV (ResL.tmp rfl (z1 rfl)) ?_)))))))))))))
     first | (refine congrArg pairA (Eq.symm ?_); rw [hg]; simp_all; done) | (rw [hg]; unfold pairA oneOf; simp_all; done) | (rw [hg]; unfold pairA oneOf; simp_all [cmpP]; done) | (rw [hg]; unfold pairA oneOf; simp_all [cmpP]; split <;> simp_all; done) | (rw [hg]; unfold pairA oneOf; simp_all [cmpP]; split <;> simp_all <;> omega)
   refine zr (zq (Q.bin rfl (oc (v := .str [61, 61]) (by kernel_rfl)) rfl bv_seql) (za rfl (zk (W.condDS rfl (fun hc62 => ?_) (fun hc62 => ?_)))))
   · refine zr (zm rfl (zm rfl (zq (Q.bin rfl rfl rfl (bv_eql eq_int)) (WO.callV rfl (oLs_cons rfl oLs_nil) rfl (truth_spec _) SubR.nil rfl (zq (Q.extract rfl rfl) (zq (Q.extract rfl rfl) (za rfl (za rfl (zk (W.sub (zc 7 rfl (zc 6 rfl zzn)) (W.ret (End.KB_ret (End.K_ret (End.retV (ResL.tmp rfl (z1 rfl)) ?_))))))))))))))
     first | (refine congrArg pairA (Eq.symm ?_); rw [hg]; simp_all; done) | (rw [hg]; unfold pairA oneOf; simp_all; done) | (rw [hg]; unfold pairA oneOf; simp_all [cmpP]; done) | (rw [hg]; unfold pairA oneOf; simp_all [cmpP]; split <;> simp_all; done) | (rw [hg]; unfold pairA oneOf; simp_all [cmpP]; split <;> simp_all <;> omega)
   refine zr (zq (Q.bin rfl (oc (v := .str [33, 61]) (by kernel_rfl)) rfl bv_seql) (za rfl (zk (W.sub (zc 70 rfl (zc 26 rfl (zc 1 rfl (zc 2 rfl zzn)))) (W.condDS rfl (fun hc70 => ?_) (fun hc70 => ?_))))))
   · refine zr (zm rfl (zm rfl (zq (Q.bin rfl rfl rfl (bv_neq ne_int)) (WO.callV rfl (oLs_cons rfl oLs_nil) rfl (truth_spec _) SubR.nil rfl (zq (Q.extract rfl rfl) (zq (Q.extract rfl rfl) (za rfl (za rfl (zk (W.ret (End.KB_ret (End.K_ret (End.retV (ResL.tmp rfl (z1 rfl)) ?_)))))))))))))
     first | (refine congrArg pairA (Eq.symm ?_); rw [hg]; simp_all; done) | (rw [hg]; unfold pairA oneOf; simp_all; done) | (rw [hg]; unfold pairA oneOf; simp_all [cmpP]; done) | (rw [hg]; unfold pairA oneOf; simp_all [cmpP]; split <;> simp_all; done) | (rw [hg]; unfold pairA oneOf; simp_all [cmpP]; split <;> simp_all <;> omega)
   refine zr (zq (Q.bin rfl (oc (v := .str [60, 61]) (by kernel_rfl)) rfl bv_seql) (za rfl (zk (W.condDS rfl (fun hc78 => ?_) (fun hc78 => ?_)))))
   · refine zr (zm rfl (zm rfl (zq (Q.bin rfl rfl rfl (bv_leq le_int)) (WO.callV rfl (oLs_cons rfl oLs_nil) rfl (truth_spec _) SubR.nil rfl (zq (Q.extract rfl rfl) (zq (Q.extract rfl rfl) (za rfl (za rfl (zk (W.ret (End.KB_ret (End.K_ret (End.retV (ResL.tmp rfl (z1 rfl)) ?_)))))))))))))
     first | (refine congrArg pairA (Eq.symm ?_); rw [hg]; simp_all; done) | (rw [hg]; unfold pairA oneOf; simp_all; done) | (rw [hg]; unfold pairA oneOf; simp_all [cmpP]; done) | (rw [hg]; unfold pairA oneOf; simp_all [cmpP]; split <;> simp_all; done) | (rw [hg]; unfold pairA oneOf; simp_all [cmpP]; split <;> simp_all <;> omega)
   refine zr (zq (Q.bin rfl (oc (v := .str [62, 61]) (by kernel_rfl)) rfl bv_seql) (za rfl (zk (W.condDS rfl (fun hc86 => ?_) (fun hc86 => ?_)))))
   · refine zr (zm rfl (zm rfl (zq (Q.bin rfl rfl rfl (bv_geq le_int)) (WO.callV rfl (oLs_cons rfl oLs_nil) rfl (truth_spec _) SubR.nil rfl (zq (Q.extract rfl rfl) (zq (Q.extract rfl rfl) (za rfl (za rfl (zk (W.sub (zc 7 rfl (zc 6 rfl zzn)) (W.ret (End.KB_ret (End.K_ret (End.retV (ResL.tmp rfl (z1 rfl)) ?_))))))))))))))
     first | (refine congrArg pairA (Eq.symm ?_); rw [hg]; simp_all; done) | (rw [hg]; unfold pairA oneOf; simp_all; done) | (rw [hg]; unfold pairA oneOf; simp_all [cmpP]; done) | (rw [hg]; unfold pairA oneOf; simp_all [cmpP]; split <;> simp_all; done) | (rw [hg]; unfold pairA oneOf; simp_all [cmpP]; split <;> simp_all <;> omega)
   refine zr (zq (Q.bin rfl (oc (v := .str [60]) (by kernel_rfl)) rfl bv_seql) (za rfl (zk (W.condDS rfl (fun hc94 => ?_) (fun hc94 => ?_)))))
   · refine zr (zm rfl (zm rfl (zq (Q.bin rfl rfl rfl (bv_lss (ltA_eq _ _))) (WO.callV rfl (oLs_cons rfl oLs_nil) rfl (truth_spec _) SubR.nil rfl (zq (Q.extract rfl rfl) (zq (Q.extract rfl rfl) (za rfl (za rfl (zk (W.sub (zc 7 rfl (zc 6 rfl zzn)) (W.ret (End.KB_ret (End.K_ret (End.retV (ResL.tmp rfl (z1 rfl)) ?_))))))))))))))
     first | (refine congrArg pairA (Eq.symm ?_); rw [hg]; simp_all; done) | (rw [hg]; unfold pairA oneOf; simp_all; done) | (rw [hg]; unfold pairA oneOf; simp_all [cmpP]; done) | (rw [hg]; unfold pairA oneOf; simp_all [cmpP]; split <;> simp_all; done) | (rw [hg]; unfold pairA oneOf; simp_all [cmpP]; split <;> simp_all <;> omega)
   refine W.skip (End.KB (End.K (zr (zm rfl (zm rfl (zq (Q.bin rfl rfl rfl (bv_gtr (ltA_eq _ _))) (WO.callV rfl (oLs_cons rfl oLs_nil) rfl (truth_spec _) SubR.nil rfl (zq (Q.extract rfl rfl) (zq (Q.extract rfl rfl) (za rfl (za rfl (zk (W.sub (zc 7 rfl (zc 6 rfl zzn)) (W.ret (End.retV (ResL.tmp rfl (z1 rfl)) ?_)))))))))))))))
   first | (refine congrArg pairA (Eq.symm ?_); rw [hg]; simp_all; done) | (rw [hg]; unfold pairA oneOf; simp_all; done) | (rw [hg]; unfold pairA oneOf; simp_all [cmpP]; done) | (rw [hg]; unfold pairA oneOf; simp_all [cmpP]; split <;> simp_all; done) | (rw [hg]; unfold pairA oneOf; simp_all [cmpP]; split <;> simp_all <;> omega)
 refine W.block (zr (zm rfl (WO.callV rfl (oLs_cons rfl oLs_nil) rfl (ari_spec _ ho) SubR.nil rfl (zq (Q.not rfl rfl) (zm rfl (WO.split (d := 12) rfl (fun hc12 => ?_) (fun hc12 => ?_)))))))
 · refine WO.gT rfl rfl (zm rfl (WO.gT rfl rfl (WO.callV rfl (oLs_cons rfl oLs_nil) rfl (cps_spec _ ho) SubR.nil rfl (WO.gT rfl rfl (zq (Q.not rfl rfl) (zq (Q.pickT rfl rfl) (za rfl (zk (W.condS rfl (fun hc8 => ?_) (fun hc8 => ?_))))))))))
   · refine zr (za (zi 0) (za (zi 9) (zk (W.ret (End.KB_ret (End.K_ret (End.retV (ResL.tmp rfl (z1 rfl)) ?_)))))))
     rw [numM_9 (by simp_all) (by simp_all)]; rfl
   refine zr (zm rfl (WO.callV rfl (oLs_cons rfl oLs_nil) rfl (fits_spec _) SubR.nil rfl (zq (Q.not rfl rfl) (zm rfl (WO.split (d := 21) rfl (fun hc21 => ?_) (fun hc21 => ?_))))))
   · refine zg rfl rfl (zg rfl rfl (zg rfl rfl (zq (Q.pickT rfl rfl) (za rfl (zk (W.sub (zc 17 rfl (zc 0 rfl (zc 1 rfl (zc 2 rfl zzn)))) (W.condT rfl (zr (za (zi 0) (za (zi 2) (zk (W.ret (End.KB_ret (End.K_ret (End.retV (ResL.tmp rfl (z1 rfl)) ?_)))))))))))))))
     rw [numM_2 (by simp_all) (by simp_all)]; rfl
   refine WO.gT rfl rfl (zm rfl (WO.gT rfl rfl (WO.callV rfl (oLs_cons rfl oLs_nil) rfl (fits_spec _) SubR.nil rfl (WO.gT rfl rfl (zq (Q.not rfl rfl) (zq (Q.pickF rfl rfl) (za rfl (zk (W.sub (zc 17 rfl (zc 0 rfl (zc 1 rfl (zc 2 rfl zzn)))) (W.condS rfl (fun hc17 => ?_) (fun hc17 => ?_)))))))))))
   · refine zr (za (zi 0) (za (zi 2) (zk (W.ret (End.KB_ret (End.K_ret (End.retV (ResL.tmp rfl (z1 rfl)) ?_)))))))
     rw [numM_2 (by simp_all) (by simp_all)]; rfl
   refine W.skip (End.KB (End.K (W.sub zv (hJ5 (()) ?_))))
   exact ⟨by simp_all, by simp_all, by simp_all⟩
 refine zg rfl rfl (zg rfl rfl (zg rfl rfl (zq (Q.pickF rfl rfl) (za rfl (zk (W.condF rfl (zr (zm rfl (WO.callV rfl (oLs_cons rfl oLs_nil) rfl (fits_spec _) SubR.nil rfl (zq (Q.not rfl rfl) (zm rfl (WO.split (d := 21) rfl (fun hc21 => ?_) (fun hc21 => ?_)))))))))))))
 · refine zg rfl rfl (zg rfl rfl (zg rfl rfl (zq (Q.pickT rfl rfl) (za rfl (zk (W.sub (zc 17 rfl (zc 0 rfl (zc 1 rfl (zc 2 rfl zzn)))) (W.condT rfl (zr (za (zi 0) (za (zi 2) (zk (W.ret (End.KB_ret (End.K_ret (End.retV (ResL.tmp rfl (z1 rfl)) ?_)))))))))))))))
   rw [numM_2 (by simp_all) (by simp_all)]; rfl
 refine WO.gT rfl rfl (zm rfl (WO.gT rfl rfl (WO.callV rfl (oLs_cons rfl oLs_nil) rfl (fits_spec _) SubR.nil rfl (WO.gT rfl rfl (zq (Q.not rfl rfl) (zq (Q.pickF rfl rfl) (za rfl (zk (W.sub (zc 17 rfl (zc 0 rfl (zc 1 rfl (zc 2 rfl zzn)))) (W.condS rfl (fun hc17 => ?_) (fun hc17 => ?_)))))))))))
 · refine zr (za (zi 0) (za (zi 2) (zk (W.ret (End.KB_ret (End.K_ret (End.retV (ResL.tmp rfl (z1 rfl)) ?_)))))))
   rw [numM_2 (by simp_all) (by simp_all)]; rfl
 refine W.skip (End.KB (End.K (W.sub zv (hJ5 (()) ?_))))
 exact ⟨by simp_all, by simp_all, by simp_all⟩

end Go.Proofs.YtmblgaehfjheeaaGreat.Ev
