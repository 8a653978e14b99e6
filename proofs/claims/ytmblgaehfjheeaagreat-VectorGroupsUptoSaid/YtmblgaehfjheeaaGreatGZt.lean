/- The standard library's sort of groups, walks: of one at most. -/
import Derived.Test.YtmblgaehfjheeaaGreatGZr
namespace Go.Proofs.YtmblgaehfjheeaaGreat.Ev
open Go.RowKit
set_option linter.unusedVariables false
set_option linter.unusedSimpArgs false
set_option maxRecDepth 100000
set_option maxHeartbeats 1000000
theorem ud139 : tab.und 139 = some (.int .u64) := by kernel_rfl
theorem len64_spec (n : Nat) (hn : n ≤ 256) : Spec tab 140 [.int .u64 (n : Nat)] [] [] (ValE (fun u => ∃ r : Nat, r ≤ 300 ∧ u = .int .i64 (r : Nat))) := by
 refine Spec.en (ftg 140 Tryz.func140) rfl (m := 25) rfl (rs := [.tmp 2]) rfl (st := [(0, .int .u64 (n : Nat))]) rfl rfl (fun _ => rfl) (fun E => zr (za (zi 0) (zk (W.seq (zr (zm rfl (zq (Q.bin rfl (oc (v := .int .u64 ((4294967296 : Nat) : Int)) rfl) rfl (bv_geq le_nat)) (zk (W.cD rfl (fun hc4 => ?_) (fun hc4 => ?_))))))))))
 ·exfalso; omega
 refine zw (W.seq (zr (zm rfl (zq (Q.bin rfl (oc (v := .int .u64 ((65536 : Nat) : Int)) rfl) rfl (bv_geq le_nat)) (zk (W.cD rfl (fun hc8 => ?_) (fun hc8 => ?_)))))))
 ·exfalso; omega
 refine zw (W.seq (zr (zm rfl (zq (Q.bin rfl (oc (v := .int .u64 ((256 : Nat) : Int)) rfl) rfl (bv_geq le_nat)) (zk (W.cD rfl (fun hc14 => ?_) (fun hc14 => ?_)))))))
 ·obtain rfl : n = 256 := zy
  refine zr (zm rfl (zq (Q.bin rfl (oc (v := .int .u64 ((8 : Nat) : Int)) rfl) rfl (show _ = some (AV.int .u64 ((1 : Nat) : Int)) from by rfl)) (za rfl (zk (W.reg (zm rfl (zq (Q.bin rfl (zi 8) rfl zp) (za rfl (zk (zr (zm rfl (zm rfl (zq (Q.convI ud139 ud5 rfl (wr8 zo)) (WO.indexB (by unfold Bytes; decide) ud9 (oc (v := .str [0, 1, 2, 2, 3, 3, 3, 3, 4, 4, 4, 4, 4, 4, 4, 4, 5, 5, 5, 5, 5, 5, 5, 5, 5, 5, 5, 5, 5, 5, 5, 5, 6, 6, 6, 6, 6, 6, 6, 6, 6, 6, 6, 6, 6, 6, 6, 6, 6, 6, 6, 6, 6, 6, 6, 6, 6, 6, 6, 6, 6, 6, 6, 6, 7, 7, 7, 7, 7, 7, 7, 7, 7, 7, 7, 7, 7, 7, 7, 7, 7, 7, 7, 7, 7, 7, 7, 7, 7, 7, 7, 7, 7, 7, 7, 7, 7, 7, 7, 7, 7, 7, 7, 7, 7, 7, 7, 7, 7, 7, 7, 7, 7, 7, 7, 7, 7, 7, 7, 7, 7, 7, 7, 7, 7, 7, 7, 7, 8, 8, 8, 8, 8, 8, 8, 8, 8, 8, 8, 8, 8, 8, 8, 8, 8, 8, 8, 8, 8, 8, 8, 8, 8, 8, 8, 8, 8, 8, 8, 8, 8, 8, 8, 8, 8, 8, 8, 8, 8, 8, 8, 8, 8, 8, 8, 8, 8, 8, 8, 8, 8, 8, 8, 8, 8, 8, 8, 8, 8, 8, 8, 8, 8, 8, 8, 8, 8, 8, 8, 8, 8, 8, 8, 8, 8, 8, 8, 8, 8, 8, 8, 8, 8, 8, 8, 8, 8, 8, 8, 8, 8, 8, 8, 8, 8, 8, 8, 8, 8, 8, 8, 8, 8, 8, 8, 8, 8, 8, 8, 8, 8, 8, 8, 8, 8, 8, 8, 8, 8, 8, 8, 8, 8, 8, 8, 8]) (by kernel_rfl)) rfl zo rfl (fun c22 hd22 hb22 => zq (Q.convI ud5 ud3 rfl (wr64 zo)) (zq (Q.bin rfl rfl rfl zp) (za rfl (zk (W.sub (zc 2 rfl zzn) (W.ret (End.retE (z1 rfl) ?_)))))))))))))))))))))
  exact ⟨_, by omega, rfl⟩
 refine zw (zr (zm rfl (zm rfl (zq (Q.convI ud139 ud5 rfl (wr8 zo)) (WO.indexB (by unfold Bytes; decide) ud9 (oc (v := .str [0, 1, 2, 2, 3, 3, 3, 3, 4, 4, 4, 4, 4, 4, 4, 4, 5, 5, 5, 5, 5, 5, 5, 5, 5, 5, 5, 5, 5, 5, 5, 5, 6, 6, 6, 6, 6, 6, 6, 6, 6, 6, 6, 6, 6, 6, 6, 6, 6, 6, 6, 6, 6, 6, 6, 6, 6, 6, 6, 6, 6, 6, 6, 6, 7, 7, 7, 7, 7, 7, 7, 7, 7, 7, 7, 7, 7, 7, 7, 7, 7, 7, 7, 7, 7, 7, 7, 7, 7, 7, 7, 7, 7, 7, 7, 7, 7, 7, 7, 7, 7, 7, 7, 7, 7, 7, 7, 7, 7, 7, 7, 7, 7, 7, 7, 7, 7, 7, 7, 7, 7, 7, 7, 7, 7, 7, 7, 7, 8, 8, 8, 8, 8, 8, 8, 8, 8, 8, 8, 8, 8, 8, 8, 8, 8, 8, 8, 8, 8, 8, 8, 8, 8, 8, 8, 8, 8, 8, 8, 8, 8, 8, 8, 8, 8, 8, 8, 8, 8, 8, 8, 8, 8, 8, 8, 8, 8, 8, 8, 8, 8, 8, 8, 8, 8, 8, 8, 8, 8, 8, 8, 8, 8, 8, 8, 8, 8, 8, 8, 8, 8, 8, 8, 8, 8, 8, 8, 8, 8, 8, 8, 8, 8, 8, 8, 8, 8, 8, 8, 8, 8, 8, 8, 8, 8, 8, 8, 8, 8, 8, 8, 8, 8, 8, 8, 8, 8, 8, 8, 8, 8, 8, 8, 8, 8, 8, 8, 8, 8, 8, 8, 8, 8, 8, 8, 8]) (by kernel_rfl)) rfl zo rfl (fun c22 hd22 hb22 => zq (Q.convI ud5 ud3 rfl (wr64 zo)) (zq (Q.bin rfl rfl rfl zp) (za rfl (zk (W.ret (End.retE (z1 rfl) ?_)))))))))))
 exact ⟨_, by omega, rfl⟩

theorem lenb_spec (n : Nat) (hn : n ≤ 256) : Spec tab 100 [.int .u64 (n : Nat)] [] [] (ValE (fun u => ∃ r : Nat, r ≤ 300 ∧ u = .int .i64 (r : Nat))) := by
 refine Spec.en (ftg 100 Tryz.func100) rfl (m := 8) rfl (rs := [.tmp 2]) rfl (st := [(0, .int .u64 (n : Nat))]) rfl rfl (fun _ => rfl) (fun E => zr (za (zi 0) (zk (W.seq (W.condF rfl (zw (zr (zm rfl (WO.callE rfl (oLc rfl oz) rfl (len64_spec n hn) SubR.nil rfl (fun v7 hP7 => ?_))))))))))
 obtain ⟨r, hr, rfl⟩ := hP7
 refine za rfl (zk (W.ret (End.retE (z1 rfl) ?_)))
 exact ⟨r, hr, rfl⟩

theorem gins_nil (F : Nat) (caps : List AV) : Spec tab 131 [.nils, .int .i64 ((0 : Nat) : Int), .int .i64 ((0 : Nat) : Int), .func F caps] [] [] (Val (.tuple [])) := by
 refine Spec.en (ftg 131 Tryz.func131) rfl (m := 53) rfl (rs := []) rfl (st := [(0, .nils), (1, .int .i64 ((0 : Nat) : Int)), (2, .int .i64 ((0 : Nat) : Int)), (3, .func F caps)]) rfl rfl (fun _ => rfl) (fun E => zr (zm rfl (zq (Q.bin rfl (zi 1) rfl (bv_add (c := (((1 : Nat)) : Int)) (by decide))) (za rfl (zk (W.block (W.loop (W.seq (zr (zm rfl (zm rfl (zq (Q.bin rfl rfl rfl (bvl (p := false) rfl)) (zk (W.condF rfl (W.exit ?_)))))))))))))))
 refine End.Kx (End.Lx (End.Bh (End.fall ResL.nil ⟨rfl, rfl⟩ no_wl (SubH.nil _))))

theorem gpdq_nil (F : Nat) (caps : List AV) (lim : Nat) : Spec tab 99 [.nils, .int .i64 ((0 : Nat) : Int), .int .i64 ((0 : Nat) : Int), .int .i64 (lim : Nat), .func F caps] [] [] (Val (.tuple [])) := by
 refine Spec.en (ftg 99 Tryz.func99) rfl (m := 148) rfl (rs := []) rfl (st := [(0, .nils), (1, .int .i64 ((0 : Nat) : Int)), (2, .int .i64 ((0 : Nat) : Int)), (3, .int .i64 (lim : Nat)), (4, .func F caps)]) rfl rfl (fun _ => rfl) (fun E => zr (za rfl (zk (zr (za rfl (zk (W.block (W.loop (W.block (zr (zm rfl (zm rfl (zq (Q.bin rfl rfl rfl (bv_sub (c := (((0 : Nat)) : Int)) (by decide))) (za rfl (zk (W.seq (zr (zm rfl (zq (Q.bin rfl (zi 12) rfl (bv_leq (p := true) rfl)) (zk (W.condT rfl (zr (zm rfl ?_)))))))))))))))))))))))
 refine zm rfl (zm rfl (zm rfl (WO.cV rfl (oLc rfl (oLc rfl (oLc rfl (oLc rfl oz)))) rfl (gins_nil F caps) SubR.nil rfl (zk (W.sub zzn (W.ret ?_))))))
 refine End.Kr (End.Br (End.Lr (End.Br (End.ret ResL.nil ⟨rfl, rfl⟩ no_wl (SubH.nil _)))))

theorem gsrt_nil (F : Nat) (caps : List AV) : Spec tab 59 [.nils, .func F caps] [] [] (Val (.tuple [])) := by
 refine Spec.en (ftg 59 Tryz.func59) rfl (m := 14) rfl (rs := []) rfl (st := [(0, .nils), (1, .func F caps)]) rfl rfl (fun _ => rfl) (fun E => zr (zm rfl (zq (Q.len ud81 rfl rfl) (za rfl (zk (W.reg (zm rfl (zm rfl (zm rfl (zq (Q.convI ud3 ud121 rfl (wru64 zo)) (WO.callE rfl (oLc rfl oz) rfl (lenb_spec 0 zy) SubR.nil rfl (fun v11 hP11 => ?_))))))))))))
 obtain ⟨lim, hlim, rfl⟩ := hP11
 refine zm rfl (WO.cV rfl (oLc rfl (oLc (zi 0) (oLc rfl (oLc rfl (oLc rfl oz))))) rfl (gpdq_nil F caps lim) SubR.nil rfl (WO.nil ?_))
 refine End.fall ResL.nil ⟨rfl, rfl⟩ no_wl (SubH.nil _)

def SrtOK (M : Nat) : Prop := ∀ (G : List Ge) (v : AV) (hp hs : HSt) (hro : ∀ e ∈ hs, e.w = false) (F : Nat) (caps : List AV), Own 1 (G.map (·.2)) G.length v hp → G.length ≤ M → (∀ x ∈ G, x.2.isCell = true ∧ x.2.beq x.2 = true) →
 (∀ x ∈ G, ∀ y ∈ G, ∃ c : Int, Spec tab F ([x.2, y.2] ++ caps) [] hs (Val (.int .i64 c))) →
 Spec tab 59 [v, .func F caps] (hp.map (·.b)) (hp ++ hs) (fun u D => ∃ G' : List Ge, G'.Perm G ∧ Own 1 (G'.map (·.2)) G'.length v D)
section
variable {op : List Nat} {md : Int} {N : List (List Nat)} {V U : List El} {A B : List PE}
theorem fm_app {β γ : Type} (f g : β → List γ) : ∀ B : List β, (B.flatMap f ++ B.flatMap g).Perm (B.flatMap fun y => f y ++ g y)
 | [] => by simp
 | y :: B => by
  rw [List.flatMap_cons, List.flatMap_cons, List.flatMap_cons, List.append_assoc, List.append_assoc]
  refine List.Perm.append_left _ ?_
  refine List.Perm.trans ?_ (List.Perm.append_left _ (fm_app f g B))
  rw [← List.append_assoc, ← List.append_assoc]
  exact List.Perm.append_right _ List.perm_append_comm
theorem ord_pm {L M : List PE} {e : Nat} {W : List PE} (p : L.Perm M) (h : OrdR L e W) : OrdR M e W := by
 rcases h with ⟨h1, h2, h3⟩ | ⟨h1, h2, h3⟩
 ·exact .inl ⟨h1, h2, fun k => h3 (((p.map _).nodup_iff).2 k)⟩
 ·exact .inr ⟨h1, h2.trans p, h3⟩
end
def aggKey (md : Int) (N : List (List Nat)) (A : List Lab) : List Lab := if md = 0 then [] else keyM md N A
def tkB (op : List Nat) : Bool := decide (op = [116, 111, 112, 107] ∨ op = [98, 111, 116, 116, 111, 109, 107])
def agB (op : List Nat) : Bool := decide (op = [115, 117, 109] ∨ op = [97, 118, 103] ∨ op = [109, 105, 110] ∨ op = [109, 97, 120] ∨ op = [99, 111, 117, 110, 116])
def befP (op : List Nat) (y x : PE) : Bool := if op = [116, 111, 112, 107] then decide (x.2 < y.2 ∨ (y.2 = x.2 ∧ cmpL y.1 x.1 < 0)) else decide (y.2 < x.2 ∨ (y.2 = x.2 ∧ cmpL y.1 x.1 < 0))
def stP (op : List Nat) (k : Int) (L : List PE) (x : PE) : Bool := decide (((L.filter fun y => befP op y x).length : Int) < k)
def topL (op : List Nat) (k : Int) (kf : PE → List Nat) (L : List PE) : List PE := L.filter fun x => stP op k (L.filter fun y => decide (kf y = kf x)) x
theorem cmpL_self (a : List Lab) : cmpL a a = 0 := cmpL_eq.2 rfl
section
variable {op : List Nat} {V : List El} {L M : List PE} {k : Int} {g : Nat → Nat} {kf : PE → List Nat} {G G' : List Ge}
theorem bef_asym {x y : PE} (h : befP op x y = true) : befP op y x = false := by
 have := cmpL_swap x.1 y.1
 unfold befP at *
 split at h
 ·rw [if_pos ‹_›]
  have := of_decide_eq_true h
  exact decide_eq_false zy
 ·rw [if_neg ‹_›]
  have := of_decide_eq_true h
  exact decide_eq_false zy
theorem bef_irr {x : PE} : befP op x x = false := by
 have := cmpL_self x.1
 unfold befP
 split <;> exact decide_eq_false zy
theorem rank_at {A B : List PE} {x : PE} (h : (A ++ x :: B).Pairwise fun a b => befP op a b = true) : ((A ++ x :: B).filter fun y => befP op y x) = A := by
 rw [List.pairwise_append] at h
 obtain ⟨_, h2, h3⟩ := h
 rw [List.pairwise_cons] at h2
 rw [List.filter_append, List.filter_cons, if_neg (by rw [bef_irr]; decide)]
 have e1 : A.filter (fun y => befP op y x) = A := List.filter_eq_self.2 fun a ha => h3 a ha x (by simp)
 have e2 : B.filter (fun y => befP op y x) = [] := List.filter_eq_nil_iff.2 fun b hb => by rw [bef_asym (h2.1 b hb)]; decide
 rw [e1, e2, List.append_nil]
theorem rank_ix (h : M.Pairwise fun a b => befP op a b = true) {i : Nat} {x : PE} (hi : M[i]? = some x) : (M.filter fun y => befP op y x).length = i := by
 obtain ⟨hl, hx⟩ := List.getElem?_eq_some_iff.1 hi
 have e : M = M.take i ++ x :: M.drop (i + 1) := by
  rw [← hx, ← List.drop_eq_getElem_cons hl, List.take_append_drop]
 have := rank_at (e ▸ h)
 rw [← e] at this
 rw [this, List.length_take]
 omega
theorem take_stays (h : M.Pairwise fun a b => befP op a b = true) : M.take (min (max 0 k) (M.length : Int)).toNat = M.filter (stP op k M) := by
 obtain ⟨K, hK⟩ : ∃ K, K = (min (max 0 k) (M.length : Int)).toNat := ⟨_, rfl⟩
 rw [← hK]
 conv => rhs; rw [← List.take_append_drop K M]
 rw [List.filter_append]
 have e1 : (M.take K).filter (stP op k (M.take K ++ M.drop K)) = M.take K := by
  rw [List.take_append_drop]
  refine List.filter_eq_self.2 fun a ha => ?_
  obtain ⟨i, hi⟩ := List.getElem?_of_mem ha
  have hl := (List.getElem?_eq_some_iff.1 hi).1
  rw [List.length_take] at hl
  rw [List.getElem?_take] at hi
  rw [if_pos zy] at hi
  unfold stP
  rw [rank_ix h hi]
  exact decide_eq_true zy
 have e2 : (M.drop K).filter (stP op k (M.take K ++ M.drop K)) = [] := by
  rw [List.take_append_drop]
  refine List.filter_eq_nil_iff.2 fun a ha => ?_
  obtain ⟨i, hi⟩ := List.getElem?_of_mem ha
  rw [List.getElem?_drop] at hi
  have hl := (List.getElem?_eq_some_iff.1 hi).1
  unfold stP
  rw [rank_ix h hi]
  simp only [decide_eq_true_eq]
  omega
 rw [e1, e2, List.append_nil]
theorem stP_perm (h : M.Perm L) : stP op k M = stP op k L := by
 funext x
 unfold stP
 rw [(h.filter _).length_eq]
theorem best_pw (hS : Srt (P2 V)) (p : PermOn 0 V.length id g) (s : SrtOn (bleN op V) 0 V.length g) : (P2 (vF (eg V) g V.length)).Pairwise fun a b => befP op a b = true := by
 unfold P2 vF
 rw [List.map_map, List.pairwise_map]
 refine List.Pairwise.imp_of_mem ?_ List.pairwise_lt_range
 intro i j hi hj hij
 rw [List.mem_range] at hi hj
 have hgi := perm_bd p hi
 have hgj := perm_bd p hj
 have hne : g i ≠ g j := fun e => by have := perm_inj p e; omega
 have hb := s i j (Nat.zero_le _) hij hj
 have hlt : ∀ a b, a < b → b < V.length → cmpL (eg V a).2.1 (eg V b).2.1 < 0 := by
  intro a b hab hb
  have hS' := List.pairwise_iff_getElem.1 hS a b (by rw [p2_ln]; omega) (by rw [p2_ln]; omega) hab
  have ei : (P2 V)[a]'(by rw [p2_ln]; omega) = (eg V a).2 := Option.some.inj ((List.getElem?_eq_getElem _).symm.trans (p2_eg zy))
  have ej : (P2 V)[b]'(by rw [p2_ln]; omega) = (eg V b).2 := Option.some.inj ((List.getElem?_eq_getElem _).symm.trans (p2_eg zy))
  rw [ei, ej] at hS'
  exact hS'
 show befP op (eg V (g i)).2 (eg V (g j)).2 = true
 unfold bleN at hb
 unfold befP
 split at hb
 ·rw [if_pos ‹_›]
  refine decide_eq_true ?_
  rcases hb with q | ⟨q, r⟩
  ·exact .inl q
  ·exact .inr ⟨q, hlt _ _ zy hgj⟩
 ·rw [if_neg ‹_›]
  refine decide_eq_true ?_
  rcases hb with q | ⟨q, r⟩
  ·exact .inl q
  ·exact .inr ⟨q, hlt _ _ zy hgj⟩
theorem best_perm (hS : Srt (P2 V)) (p : PermOn 0 V.length id g) (s : SrtOn (bleN op V) 0 V.length g) : ((P2 (vF (eg V) g V.length)).take (min (max 0 k) (V.length : Int)).toNat).Perm ((P2 V).filter (stP op k (P2 V))) := by
 have hp : (P2 (vF (eg V) g V.length)).Perm (P2 V) := (ord_perm p).map _
 have hl : (P2 (vF (eg V) g V.length)).length = V.length := hp.length_eq.trans p2_ln
 have := take_stays (k := k) (best_pw hS p s)
 rw [hl] at this
 rw [this, stP_perm hp]
 exact hp.filter _
theorem hit_one {κ α : Type} [DecidableEq κ] (c : κ) (x : α) : ∀ ks : List κ, ks.Nodup → c ∈ ks → (ks.flatMap fun q => if c = q then [x] else []) = [x]
 | [], _, h => by cases h
 | q :: ks, hn, h => by
  rw [List.nodup_cons] at hn
  rw [List.flatMap_cons]
  by_cases e : c = q
  ·subst e
   have : (ks.flatMap fun q => if c = q then [x] else []) = [] := by
    rw [List.flatMap_eq_nil_iff]
    intro a ha
    have hne : c ≠ a := fun e => hn.1 (by rw [e]; exact ha)
    rw [if_neg hne]
   rw [this, if_pos rfl]; rfl
  ·rw [if_neg e, List.nil_append]
   exact hit_one c x ks hn.2 ((List.mem_cons.1 h).resolve_left e)
theorem part_perm {κ α : Type} [DecidableEq κ] (f : α → κ) (ks : List κ) (hn : ks.Nodup) : ∀ L : List α, (∀ x ∈ L, f x ∈ ks) → (ks.flatMap fun c => L.filter fun x => decide (f x = c)).Perm L
 | [], _ => by simp
 | x :: L, h => by
  have e : (fun c => (x :: L).filter fun x => decide (f x = c)) = fun c => (if f x = c then [x] else []) ++ L.filter fun x => decide (f x = c) := by
   funext c
   rw [List.filter_cons]
   by_cases q : f x = c <;> simp [q]
  rw [e]
  refine (fm_app _ _ ks).symm.trans ?_
  rw [hit_one (f x) x ks hn (h x (by simp))]
  exact List.Perm.cons x (part_perm f ks hn L fun y hy => h y (by simp [hy]))
theorem p2_fl {key : List Nat} : P2 (fl kf V key) = (P2 V).filter fun x => decide (kf x = key) := by
 unfold fl P2
 rw [List.filter_map]; rfl
theorem GInv.perm (h : GInv kf V G) (p : G'.Perm G) : GInv kf V G' :=
 ⟨((p.map _).nodup_iff).2 h.1, fun g hg => h.2.1 g (p.mem_iff.1 hg), fun x hx => by obtain ⟨g, hg, e⟩ := h.2.2 x hx; exact ⟨g, p.mem_iff.2 hg, e⟩⟩
theorem grp_perm (h : GInv kf V G) : (G.flatMap fun g => (P2 g.1.2).filter (stP op k (P2 g.1.2))).Perm (topL op k kf (P2 V)) := by
 have e : ∀ g ∈ G, (P2 g.1.2).filter (stP op k (P2 g.1.2)) = (topL op k kf (P2 V)).filter fun x => decide (kf x = g.1.1) := by
  intro g hg
  have hm := (h.2.1 g hg).1
  rw [hm, p2_fl]
  unfold topL
  rw [List.filter_filter, List.filter_filter]
  refine List.filter_congr fun x hx => ?_
  by_cases q : kf x = g.1.1
  ·simp only [q, decide_true, Bool.and_true, Bool.true_and]
  ·simp only [q, decide_false, Bool.and_false, Bool.false_and]
 have e2 : (G.flatMap fun g => (P2 g.1.2).filter (stP op k (P2 g.1.2))) = (G.map (·.1.1)).flatMap fun c => (topL op k kf (P2 V)).filter fun x => decide (kf x = c) := by
  rw [List.flatMap_def, List.flatMap_def, List.map_map, List.map_congr_left e]; rfl
 rw [e2]
 refine part_perm kf _ h.1 _ fun x hx => ?_
 have hx' := (List.mem_filter.1 hx).1
 obtain ⟨y, hy, rfl⟩ := List.mem_map.1 hx'
 obtain ⟨g, hg, e⟩ := h.2.2 y hy
 exact List.mem_map.2 ⟨g, hg, e⟩
end
noncomputable def aggPre (op : List Nat) (md k : Int) (V : List El) : Option Nat :=
 if vchk V ≠ 0 then some (vchk V) else if fitB k = false then some 2 else if agB op = false ∧ tkB op = false then some 9 else if md < 0 ∨ 2 < md then some 2 else none
def TopR (op : List Nat) (md : Int) (N : List (List Nat)) (k : Int) (V : List El) (e : Nat) (W : List PE) : Prop :=
 (aggPre op md k V = some e ∧ W = []) ∨ (aggPre op md k V = none ∧ OrdR (topL op (k.tdiv 1000000) (fun x : PE => prM (aggKey md N x.1)) (P2 V)) e W)
section
variable {op : List Nat} {V : List El} {md k : Int}
theorem ag_1 (h : vchk V ≠ 0) : aggPre op md k V = some (vchk V) := if_pos h
theorem ag_2 (h : vchk V = 0) (g : fitB k = false) : aggPre op md k V = some 2 := by unfold aggPre; rw [if_neg (by simp [h]), if_pos g]
theorem ag_9 (h : vchk V = 0) (g : fitB k = true) (q : agB op = false ∧ tkB op = false) : aggPre op md k V = some 9 := by unfold aggPre; rw [if_neg (by simp [h]), if_neg (by simp [g]), if_pos q]
theorem ag_r (h : vchk V = 0) (g : fitB k = true) (q : agB op = true ∨ tkB op = true) (r : md < 0 ∨ 2 < md) : aggPre op md k V = some 2 := by
 unfold aggPre; rw [if_neg (by simp [h]), if_neg (by simp [g]), if_neg (by rintro ⟨a, b⟩; simp [a, b] at q), if_pos r]
theorem ag_no (h : vchk V = 0) (g : fitB k = true) (q : agB op = true ∨ tkB op = true) (r : 0 ≤ md ∧ md ≤ 2) : aggPre op md k V = none := by
 unfold aggPre; rw [if_neg (by simp [h]), if_neg (by simp [g]), if_neg (by rintro ⟨a, b⟩; simp [a, b] at q), if_neg zy]
end
theorem GB.ein {hs : HSt} {G : List Ge} {D : HSt} {g : Ge} (h : GB G D) (hg : g ∈ G) (hL : ∀ x ∈ g.1.2, LIn hs x.2.1 x.1) : EIn (ro D ++ hs) g.1.2 g.2 := by
 obtain ⟨j, hj⟩ := List.getElem?_of_mem hg
 obtain ⟨A, hp, B, rfl, hO, _⟩ := GB.at h hj
 refine ⟨?_, fun x hx => (hL x hx).mono fun b o h => h.app⟩
 rcases hO with ⟨h1, _, h2, _⟩ | ⟨b, ex, h1, rfl, _⟩
 ·exact .inl ⟨h2, List.length_eq_zero_iff.1 h1⟩
 ·exact .inr ⟨b, 2, ex, h1, ⟨false, by simp [ro]⟩⟩
end Go.Proofs.YtmblgaehfjheeaaGreat.Ev
