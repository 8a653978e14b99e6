/- What is laid of a tree behind a list, as plain law. -/
import Derived.Test.YtndhhgbpcmfeiaaGreatDoorMHb
import Derived.Test.YtndhhgbpcmfeiaaGreatDoorMGh
import Derived.Test.YtndhhgbpcmfeiaaGreatDoorMAwJ
namespace Go.Proofs.YtndhhgbpcmfeiaaGreatDoor.Ev
open Go.RowKit
set_option linter.unusedVariables false
set_option linter.unusedSimpArgs false
mutual
def layT : TD → List (ND × List Int) → List (ND × List Int)
 | .node d ks, L => (layK ks L []).1 ++ [(d, (layK ks L []).2)]
def layK : List TD → List (ND × List Int) → List Int → List (ND × List Int) × List Int
 | [], L, A => (L, A)
 | k :: ks, L, A => layK ks (layT k L) (A ++ [(((layT k L).length - 1 : Nat) : Int)])
end
theorem layK_snoc : ∀ {ks : List TD} {k : TD} {L : List (ND × List Int)} {A : List Int}, layK (ks ++ [k]) L A = (layT k (layK ks L A).1, (layK ks L A).2 ++ [(((layT k (layK ks L A).1).length - 1 : Nat) : Int)])
 | [], k, L, A => by rw [List.nil_append, layK, layK, layK]
 | x :: ks, k, L, A => by rw [List.cons_append, layK, layK_snoc, layK]
mutual
theorem layT_len : ∀ {t : TD} {L : List (ND × List Int)}, (layT t L).length = L.length + szT t
 | .node d ks, L => by
  rw [layT, szT, List.length_append, layK_len ks L [], List.length_cons, List.length_nil, Nat.add_assoc]
theorem layK_len : ∀ (ks : List TD) (L : List (ND × List Int)) (A : List Int), (layK ks L A).1.length = L.length + szK ks
 | [], L, A => by rw [layK, szK, Nat.add_zero]
 | k :: ks, L, A => by
  rw [layK, layK_len ks, layT_len, szK, Nat.add_assoc]
end
theorem layK_len2 : ∀ {ks : List TD} {L : List (ND × List Int)} {A : List Int}, (layK ks L A).2.length = A.length + ks.length
 | [], L, A => by rw [layK]; rfl
 | k :: ks, L, A => by
  rw [layK, layK_len2, List.length_append, List.length_cons, List.length_cons, List.length_nil]; omega
theorem szT_pos : ∀ {t : TD}, 0 < szT t
 | .node d ks => by rw [szT]; exact Nat.succ_pos _
theorem szK_take : ∀ {ks : List TD} {i : Nat}, szK (ks.take i) ≤ szK ks
 | [], i => by simp
 | k :: ks, 0 => by rw [List.take_zero, szK]; exact Nat.zero_le _
 | k :: ks, i + 1 => by
  rw [List.take_succ_cons, szK, szK]
  have := szK_take (ks := ks) (i := i)
  omega
noncomputable section
def sure (l : List Oper) (k : Nat) : Bool :=
 l.zipIdx.all fun (o, i) => !(loudOp o.op) || Nat.beq i k || (if Nat.blt i k then ((aheadOf l []).getD k 0).testBit i else ((aheadOf l []).getD i 0).testBit k)
def GoodS (tb : Tab) (l : List Oper) (es : List Ent) : Prop := ∀ e ∈ es, e.kind = 1 → e.v.beq e.v = true ∧ (sure l e.i = false → ∀ H, evQ tb e.tm H e.o.op = some e.v)
section
variable {tb : Tab} {n : Nat} {E : Env} {s : St} {hs : HSt} {R : T AV → AHeap → Prop} {ops rest : List Oper} {d : Nat} {ty : TypeId} {pos : String} {aft : Array Edge} {t : TypeId} {i : Nat}
def WX (tb : Tab) (n : Nat) (ops : List Oper) (i : Nat) (rest : List Oper) (E : Env) (s : St) (hs : HSt) (R : T AV → AHeap → Prop) : Prop :=
 ∀ tm h, Has tm s → HS E hs h → ∃ es ms tm' h', evTrace tb (callOf (Ev.callE tb)) n ops i rest tm h = some (es, ms, tm', h') ∧ GoodS tb ops es ∧ ∀ TM, SubT tm' TM → R TM h'
theorem WX.nil (h : End E s hs R) : WX tb n ops i [] E s hs R :=
 fun tm hp ht hh => ⟨[], [], tm, hp, rfl, fun e he => by simp at he, fun TM hT => h TM hp (ht.mono hT) hh⟩
theorem wx_step {tm tm1 : T AV} {h h1 : AHeap} {o : Oper} {v : AV} {k : Nat} (he : ev1 tb (callOf (Ev.callE tb)) ops tm h o = some (v, h1, k)) (hp : putDst tm n o.dst v = some tm1)
  (hq : k = 1 → v.beq v = true ∧ (sure ops i = false → ∀ H, evQ tb tm H o.op = some v))
  (hk : ∃ es ms tm' h', evTrace tb (callOf (Ev.callE tb)) n ops (i + 1) rest tm1 h1 = some (es, ms, tm', h') ∧ GoodS tb ops es ∧ ∀ TM, SubT tm' TM → R TM h') :
  ∃ es ms tm' h', evTrace tb (callOf (Ev.callE tb)) n ops i (o :: rest) tm h = some (es, ms, tm', h') ∧ GoodS tb ops es ∧ ∀ TM, SubT tm' TM → R TM h' := by
 obtain ⟨es, ms, tm2, h2, e, hG, hR⟩ := hk
 refine ⟨_, _, tm2, h2, by unfold evTrace; simp only [he, hp, e]; rfl, fun x hx hx1 => ?_, hR⟩
 rcases List.mem_cons.1 hx with rfl | hx
 ·exact hq hx1
 ·exact hG x hx hx1
theorem WX.q {op : Op} {v : AV} (hs_ : sure ops i = true) (hq : QV tb s hs op v) (hb : v.beq v = true) (hd : Nat.blt d n = true) (hk : WX tb n ops (i + 1) rest E ((d, v) :: s) hs R) :
  WX tb n ops i (⟨some d, op, ty, pos, aft, none⟩ :: rest) E s hs R := by
 intro tm h ht hh
 have hv : ∀ call, evOp tb call tm h op = .q (some v) := hq tm h ht hh.keep
 refine wx_step (v := v) (k := 1) (h1 := h) (tm1 := tm.set d v) ?_ (putDst_at hd) (fun _ => ⟨hb, fun g => by rw [hs_] at g; cases g⟩) (hk _ _ (ht.set d v) hh)
 unfold ev1
 have : wantedA ops tm ⟨some d, op, ty, pos, aft, none⟩ = some true := rfl
 rw [this]
 simp only [hv]
theorem WX.f {op : Op} {v : AV} (hq : QV tb s [] op v) (hb : v.beq v = true) (hd : Nat.blt d n = true) (hk : WX tb n ops (i + 1) rest E ((d, v) :: s) hs R) :
  WX tb n ops i (⟨some d, op, ty, pos, aft, none⟩ :: rest) E s hs R := by
 intro tm h ht hh
 have hv : ∀ H call, evOp tb call tm H op = .q (some v) := fun H => hq tm H ht fun e he => by simp at he
 refine wx_step (v := v) (k := 1) (h1 := h) (tm1 := tm.set d v) ?_ (putDst_at hd) (fun _ => ⟨hb, fun _ H => by unfold evQ; rw [hv]⟩) (hk _ _ (ht.set d v) hh)
 unfold ev1
 have : wantedA ops tm ⟨some d, op, ty, pos, aft, none⟩ = some true := rfl
 rw [this]
 simp only [hv]
theorem WX.store {ox oy : Operand} {j b o q : Nat} {ob : AObj} {v : AV} {cs : List AV} {hs' : HSt} (hz : tb.size t = some q) (hx : oL s ox = some (.ptr b o)) (hy : oL s oy = some v) (hm : hs[j]? = some ⟨b, ob, true⟩)
  (hb : (Nat.beq v.cells.length q && Nat.ble (o + q) ob.cells.length && v.cells.all AV.isCell) = true) (hc : layL ob.cells o v.cells = cs) (hs_ : hs.set j ⟨b, ⟨ob.sz, ob.exact_, cs⟩, true⟩ = hs')
  (hk : WX tb n ops (i + 1) rest E s hs' R) (hz0 : Nat.blt 0 ob.sz = true := by rfl) : WX tb n ops i (⟨none, .store t ox oy, ty, pos, aft, none⟩ :: rest) E s hs R := by
 intro tm h ht hh
 subst hs_
 have hH := hh.put (ob' := ⟨ob.sz, ob.exact_, cs⟩) hm
 refine wx_step (v := .tuple []) (k := 2) (h1 := ⟨h.next, h.objs.set b ⟨ob.sz, ob.exact_, cs⟩⟩) (tm1 := tm) ?_ rfl (fun h => by cases h) (hk tm _ ht hH)
 unfold ev1
 have : wantedA ops tm ⟨none, .store t ox oy, ty, pos, aft, none⟩ = some true := rfl
 rw [this]
 have he : evOp tb (callOf (Ev.callE tb)) tm h (.store t ox oy) = .l (some (.tuple [], ⟨h.next, h.objs.set b ⟨ob.sz, ob.exact_, cs⟩⟩)) := by
  show Res.l (evStore tb tm h t ox oy) = _
  unfold evStore
  simp only [oL_ok ht hx, oL_ok ht hy]
  unfold storeA
  have h1 := (hh.at_ _ (mem_at hm)).1
  simp only at h1
  simp only [hz, h1, hb, hc, hz0]
 simp only [he]
end

end
theorem WO.callS {tb : Tab} {n : Nat} {E : Env} {s : St} {hs : HSt} {R : T AV → AHeap → Prop} {ops rest : List Oper} {d : Nat} {ty : TypeId} {pos : String} {aft : Array Edge} {of : Operand} {args : List Operand} {ts : Array TypeId} {g : Nat} {caps l l' : List AV} {M A hsc : HSt} {Post : AV → HSt → Prop} (hf : oL s of = some (.func g caps)) (ha : oLs s args = some l) (hl : l ++ caps = l')
  (hM : ∀ e ∈ M, e.w = true) (hs_ : SubH (M ++ A) hs) (hsp : Spec tb g l' (M.map (·.b)) (M ++ hsc) Post) (hsub : SubR hsc A) (hd : Nat.blt d n = true)
  (hk : ∀ v D, Post v D → WO tb n ops rest E ((d, v) :: s) (D ++ A) R) :
  WO tb n ops (⟨some d, .call ⟨.value of, args.toArray, ts⟩, ty, pos, aft, none⟩ :: rest) E s hs R := by
 refine WO.l (s' := s) fun tm h ht hh0 => ?_
 have hh := hh0.sub hs_
 have hnd := hh.nd
 rw [List.map_append] at hnd
 obtain ⟨n1, n2, n3⟩ := List.nodup_append.1 hnd
 have hne : ∀ e ∈ A, e.b ∉ M.map (·.b) := fun e he hm => n3 e.b hm e.b (List.mem_map.2 ⟨e, he, rfl⟩) rfl
 have hA : ∀ e ∈ A, _ := fun e he => hh.at_ e (List.mem_append_right _ he)
 have hMa : ∀ e ∈ M, _ := fun e he => hh.at_ e (List.mem_append_left _ he)
 have hin : HS ⟨h, M.map (·.b)⟩ (M ++ hsc) h := by
  refine ⟨fun e he => ?_, ?_, Fr.refl _ _⟩
  ·rcases List.mem_append.1 he with he | he
   ·exact ⟨(hMa e he).1, (hMa e he).2.1, fun _ => .inr (List.mem_map.2 ⟨e, he, rfl⟩)⟩
   ·obtain ⟨hw, w, hm⟩ := hsub.1 e he
    obtain ⟨a1, a2, a3⟩ := hA _ hm
    exact ⟨a1, a2, fun h' => by rw [hw] at h'; cases h'⟩
  ·rw [List.map_append]
   refine List.nodup_append.2 ⟨n1, hsub.2 n2, ?_⟩
   intro a ha' b hb hab
   obtain ⟨y, hy, rfl⟩ := List.mem_map.1 hb
   obtain ⟨hw, w, hm⟩ := hsub.1 y hy
   exact hne _ hm (hab ▸ ha')
 obtain ⟨v, h', D, hE, hP, hw, hD⟩ := hsp h hin
 have hfr := hD.fr
 have hback : HS E (D ++ A) h' := by
  refine ⟨fun e he => ?_, ?_, ?_, fun c hc hcS => ?_⟩
  ·rcases List.mem_append.1 he with he | he
   ·obtain ⟨a1, a2, a3⟩ := hD.at_ e he
    refine ⟨a1, a2, fun hw' => ?_⟩
    rcases a3 hw' with b1 | b1
    ·exact .inl (Nat.le_trans hh.fr.1 b1)
    ·obtain ⟨x, hx, hxe⟩ := List.mem_map.1 b1
     rw [← hxe]
     exact (hMa x hx).2.2 (hM x hx)
   ·obtain ⟨a1, a2, a3⟩ := hA e he
    refine ⟨?_, Nat.lt_of_lt_of_le a2 hfr.1, a3⟩
    rw [hfr.2 e.b a2 (hne e he)]
    exact a1
  ·rw [List.map_append]
   refine List.nodup_append.2 ⟨hD.nd, n2, ?_⟩
   intro a ha' b hb' hab
   obtain ⟨x, hx, rfl⟩ := List.mem_map.1 ha'
   obtain ⟨y, hy, rfl⟩ := List.mem_map.1 hb'
   have h1 := (hA y hy).2.1
   have hab : x.b = y.b := hab
   rcases (hD.at_ x hx).2.2 (hw x hx) with b1 | b1
   ·have b1 : h.next ≤ x.b := b1
    omega
   ·exact hne y hy (hab ▸ b1)
  ·exact Nat.le_trans hh.fr.1 hfr.1
  ·have hcb : c ∉ M.map (·.b) := by
    intro hm
    obtain ⟨x, hx, rfl⟩ := List.mem_map.1 hm
    rcases (hMa x hx).2.2 (hM x hx) with g | g
    ·omega
    ·exact hcS g
   rw [hfr.2 c (Nat.lt_of_lt_of_le hc hh.fr.1) hcb]
   exact hh.fr.2 c hc hcS
 refine ⟨v, h', tm.set d v, ?_, putDst_at hd, hk v D hP _ _ (ht.set d _) hback⟩
 show Res.l (evCallVal tm h (callOf (Ev.callE tb)) of args.toArray) = _
 unfold evCallVal
 simp only [oL_ok ht hf, oLs_ok ht ha]
 subst hl
 rw [callOf_eq hE]
theorem Spec.sub {tb : Tab} {f : Nat} {args : List AV} {S : List Nat} {hs hs' : HSt} {Post : AV → HSt → Prop} (h : Spec tb f args S hs Post) (g : SubH hs hs') : Spec tb f args S hs' Post := fun h0 hh => h h0 (hh.sub g)
set_option maxRecDepth 100000
set_option maxHeartbeats 1000000
def LayP (hs : HSt) (t : TD) (W : List IE) (v : AV) (D : HSt) : Prop := ∃ (W2 : List IE) (hp2 hl2 : HSt), OwnE 12 (cI (W ++ W2)) (W ++ W2).length v hp2 ∧ (∀ x ∈ W2, IOK (hs ++ hl2) x ∧ x.vk = .nils ∧ IBd x) ∧ D2 (W ++ W2) = layT t (D2 W) ∧ (∀ y ∈ hl2, y.w = true) ∧ D = hp2 ++ hl2
section
variable {hs hl hl3 ha hp : HSt} {W W2 W3 : List IE} {ks : List TD} {i : Nat} {L : List (ND × List Int)} {d : ND} {vm vn ar v : AV} {A : List Int}
theorem szK_step (h : i < ks.length) : szK (ks.take i) + szT (kd ks i) ≤ szK ks := by
 have h1 := szK_take (ks := ks) (i := i + 1)
 rw [List.take_add_one, kd_at h, szK_app] at h1
 show _ ≤ _
 have e : szK (Option.toList (some (kd ks i))) = szT (kd ks i) := by show szK [kd ks i] = _; rw [szK, szK]; rfl
 omega
theorem take_kd (h : i < ks.length) : ks.take (i + 1) = ks.take i ++ [kd ks i] := by rw [List.take_add_one, kd_at h]; rfl
theorem lay_take (h : i < ks.length) : layT (kd ks i) (layK (ks.take i) L []).1 = (layK (ks.take (i + 1)) L []).1 := by rw [take_kd h, layK_snoc]
theorem lay_take2 (h : i < ks.length) : (layK (ks.take (i + 1)) L []).2 = (layK (ks.take i) L []).2 ++ [(((layT (kd ks i) (layK (ks.take i) L []).1).length - 1 : Nat) : Int)] := by rw [take_kd h, layK_snoc]
theorem lay_rows (h : ∀ x ∈ W2, IOK (hs ++ hl) x ∧ x.vk = .nils ∧ IBd x) (g : ∀ x ∈ W3, IOK (hs ++ hl3) x ∧ x.vk = .nils ∧ IBd x) : ∀ x ∈ W2 ++ W3, IOK (hs ++ (hl ++ hl3)) x ∧ x.vk = .nils ∧ IBd x := fun x hx => by
 rcases List.mem_append.1 hx with hx | hx
 ·exact ⟨(h x hx).1.mono fun b o ⟨w, q⟩ => ⟨w, by simp only [List.mem_append] at q ⊢; exact q.elim .inl fun r => .inr (.inl r)⟩, (h x hx).2⟩
 ·exact ⟨(g x hx).1.mono fun b o ⟨w, q⟩ => ⟨w, by simp only [List.mem_append] at q ⊢; exact q.elim .inl fun r => .inr (.inr r)⟩, (g x hx).2⟩
theorem layK_bd : ∀ {ks : List TD} {L : List (ND × List Int)} {A : List Int}, ∀ n ∈ (layK ks L A).2, n ∈ A ∨ (0 ≤ n ∧ n < ((L.length + szK ks : Nat) : Int))
 | [], L, A, n, h => by rw [layK] at h; exact .inl h
 | k :: ks, L, A, n, h => by
  rw [layK] at h
  rcases layK_bd n h with h1 | h1
  ·rcases List.mem_append.1 h1 with h1 | h1
   ·exact .inl h1
   ·rw [List.mem_singleton] at h1
    have e := layT_len (t := k) (L := L)
    have p := szT_pos (t := k)
    refine .inr ?_
    rw [h1, e, szK]
    omega
  ·rw [layT_len] at h1
   refine .inr ?_
   rw [szK]
   omega
theorem lay_fin (h : ∀ x ∈ W2, IOK (hs ++ hl) x ∧ x.vk = .nils ∧ IBd x) (hm : RIn hs 3 d.ms.length (cM d.ms) vm) (hn : RIn hs 1 d.nm.length (cS d.nm) vn) (hA : OwnE 1 (cA (layK ks L []).2) ks.length ar ha) (hd : d.bd) (hks : ks.length ≤ 1048576) (hb : L.length + szK ks ≤ 2097152) :
  ∀ x ∈ W2 ++ [⟨d, (layK ks L []).2, 0, vm, vn, .nils, ar⟩], IOK (hs ++ (hl ++ ha)) x ∧ x.vk = .nils ∧ IBd x := fun x hx => by
 have hl2 : (layK ks L []).2.length = ks.length := by rw [layK_len2]; simp
 rcases List.mem_append.1 hx with hx | hx
 ·exact ⟨(h x hx).1.mono fun b o ⟨w, q⟩ => ⟨w, by simp only [List.mem_append] at q ⊢; exact q.elim .inl fun r => .inr (.inl r)⟩, (h x hx).2⟩
 ·rw [List.mem_singleton.1 hx]
  refine ⟨⟨hm.appl, hn.appl, .inl ⟨rfl, rfl⟩, ?_⟩, rfl, hd, by show (layK ks L []).2.length ≤ _; omega, fun n hn => ?_⟩
  ·show RIn _ 1 (layK ks L []).2.length _ _
   rw [hl2]
   exact (RIn.own hA).app.app
  ·rcases layK_bd n hn with h1 | h1
   ·simp at h1
   ·exact ⟨by omega, by omega⟩
theorem lay_own {k : Nat} (h : OwnE 1 (cA A ++ [.int .i64 ((k : Nat) : Int)]) (i + 1) v hp) : OwnE 1 (cA (A ++ [((k : Nat) : Int)])) (i + 1) v hp := by
 rw [cA, List.map_append]; exact h
end

theorem lay_step (hs : HSt) (hro : ∀ e ∈ hs, e.w = false) (d : ND) (ks : List TD) (vm vn vk : AV) (cs : List (List AV))
 (hm : RIn hs 3 d.ms.length (cM d.ms) vm) (hn : RIn hs 1 d.nm.length (cS d.nm) vn) (hk : RIn hs 11 ks.length (cs.flatMap id) vk) (hd : d.bd) (hks : ks.length ≤ 1048576) (hR : TReps hs ks cs)
 (Z : List IE) (w : AV) (hp : HSt) (hO : OwnE 12 (cI Z) Z.length w hp) (hsz : Z.length + szT (.node d ks) ≤ 2097152)
 (ih : ∀ k ∈ ks, ∀ (c : List AV) (Z : List IE) (w : AV) (hp : HSt), TRep hs k c → OwnE 12 (cI Z) Z.length w hp → Z.length + szT k ≤ 2097152 → Spec tab 39 [w, .agg c] (hp.map (·.b)) (hp ++ hs) (LayP hs k Z)) : Spec tab 39 [w, .agg (d.c vm vn vk)] (hp.map (·.b)) (hp ++ hs) (LayP hs (.node d ks) Z) := by
 refine Spec.en (ftg 39 Tryz.func39) rfl (m := 34) rfl (rs := [.tmp 4]) rfl (st := [(0, w), (1, .agg (d.c vm vn vk))]) rfl rfl (fun _ => rfl) (fun E => zr (WO.box rfl (nd_cells hm.cell hn.cell hk.cell) (bx26 _ rfl) rfl (fun b1 => za rfl (zk (zr (za rfl (zk (W.seq (zr (za (zi 0) (zk (W.block (W.loop_ind7 (fun (i : Nat) (W2 : List IE) (u : AV) (hq : HSt) (hl : HSt) (ar : AV) (ha : HSt) => [(0, u), (3, .ptr b1 0), (5, ar), (6, .int .i64 ((i : Nat) : Int))]) (fun (i : Nat) (W2 : List IE) (u : AV) (hq : HSt) (hl : HSt) (ar : AV) (ha : HSt) => (⟨b1, ⟨11, true, d.c vm vn (vk)⟩, true⟩ :: (hs ++ hl ++ ha ++ hq))) (fun (i : Nat) (W2 : List IE) (u : AV) (hq : HSt) (hl : HSt) (ar : AV) (ha : HSt) => i ≤ ks.length ∧ OwnE 12 (cI (Z ++ W2)) (Z ++ W2).length u hq ∧ (∀ x ∈ W2, IOK (hs ++ hl) x ∧ x.vk = .nils ∧ IBd x) ∧ D2 (Z ++ W2) = (layK (ks.take i) (D2 Z) []).1 ∧ (∀ y ∈ hl, y.w = true) ∧ OwnE 1 (cA (layK (ks.take i) (D2 Z) []).2) i ar ha) (fun (i : Nat) (W2 : List IE) (u : AV) (hq : HSt) (hl : HSt) (ar : AV) (ha : HSt) => ks.length - i) (0) ([]) (w) (hp) ([]) (.nils) ([]) ⟨Nat.zero_le _, by rw [List.append_nil]; exact hO, fun x hx => by simp at hx, by rw [List.append_nil, List.take_zero, layK], no_wl, by rw [List.take_zero, layK]; exact OwnE.nil 1⟩ zv (show SubH _ (⟨b1, ⟨11, true, d.c vm vn vk⟩, true⟩ :: (hp ++ hs)) from gc) (fun i W2 u hq hl ar ha hI0 ih0 => ?_))))))))))))))
 obtain ⟨h1, hO1, hX1, hD1, hw1, hA1⟩ := hI0
 have hlen1 : (Z ++ W2).length = Z.length + szK (ks.take i) := (by rw [← d2_len, hD1, layK_len, d2_len])
 have hszn : szT (.node d ks) = szK ks + 1 := (by rw [szT])
 have hzt := szK_take (ks := ks) (i := i)
 refine W.seq (zr (zm rfl (zf fa26_10 rfl 10 (zq (Q.l1 rfl (zt 0 rfl) ag24 rfl) (zq (Q.len ud24 rfl hk.len) (zq (Q.bin rfl rfl rfl (bvl ltn)) (zk (W.cD rfl (fun hc11 => ?_) (fun hc11 => ?_)))))))))
 ·have hzk := szK_step (ks := ks) (i := i) zy
  obtain ⟨bk, szk, exk, rfl, wk, mk⟩ := hk.full zy
  obtain ⟨c1, hc1, hT1⟩ := hR.at (kd_at (i := i) zy)
  obtain ⟨d1, um, un, uk, rfl, qm, qn, qk, qo⟩ := TRep.opn hT1
  refine zw (W.seq (W.block (zr (zm rfl (zf fa26_10 rfl 10 (zq (Q.l1 rfl (zt 0 rfl) ag24 rfl) (zm rfl (zq (Q.iS ud24 sz26 rfl rfl zo) (zq (Q.loadN rfl (List.mem_cons_of_mem _ (List.mem_append_left _ (List.mem_append_left _ (List.mem_append_left _ mk)))) ag26 sz26 (by rw [Nat.zero_add]; exact flat_id_sub hR.lens hc1)) (WO.callS (M := hq) (A := (⟨b1, ⟨11, true, d.c vm vn (.slice bk 0 ks.length 11)⟩, true⟩ :: (hs ++ hl ++ ha))) rfl (oLc rfl (oLc rfl oz)) rfl (OwnE.w hO1) gc (ih _ (kd_mem zy) _ (Z ++ W2) u hq hT1 hO1 zy) (SubR.t (SubR.appl (SubR.appl (SubR.s hro)))) rfl (fun v20 D20 hP20 => ?_)))))))))))
  obtain ⟨W3, hp3, hl3, hO3, hX3, hD3, hw3, hDD⟩ := hP20; have hl3' : (Z ++ W2 ++ W3).length = (Z ++ W2).length + szT (kd ks i) := (by rw [← d2_len, hD3, layT_len, d2_len]); have hz3 := szT_pos (t := kd ks i); refine WO.subH (hs' := ⟨b1, ⟨11, true, d.c vm vn (.slice bk 0 ks.length 11)⟩, true⟩ :: (hs ++ hl ++ D20 ++ ha)) gc ?_
  refine za rfl (zk (W.reg (zm rfl (zm rfl (zq (Q.len ud30 rfl (OwnE.len hO3)) (zq (Q.bin rfl (zi 1) rfl (bv_sub (wns zo))) (WO.bslice ud40 sz3 zr3 rfl (opc rfl oPs_nil) rfl (cs := [_]) rfl rfl rfl (fun b2 => WO.appAny (A := ([_] ++ hs ++ hl ++ D20)) ap40_40 hA1 rfl rfl (Src.slice (zt 0 rfl) rfl) rfl zy (by decide) (SubH.of_sublist (List.sublist_cons_self _ _)) rfl (fun v26 hp26 hO26 => za rfl (WO.nil (End.KB (End.K (W.sub (zc 5 rfl (zc 0 rfl (zc 3 rfl (zc 6 rfl zzn)))) (W.reg (zm rfl (zq (Q.bin rfl (zi 1) rfl zp) (za rfl (WO.nil (End.KL (W.sub zv (W.sH (by rw [hDD]; exact gc) (ih0 (i + 1) (W2 ++ W3) (v20) (hp3) (hl ++ hl3) (v26) (hp26) ?_ ?_))))))))))))))))))))))
  ·exact ⟨by omega, by rw [← List.append_assoc]; exact hO3, lay_rows hX1 hX3, by rw [← List.append_assoc, hD3, hD1, lay_take zy], wa hw1 hw3, by rw [lay_take2 zy, ← hD1, ← hD3, d2_len]; exact lay_own hO26⟩
  exact zo
 obtain rfl : i = ks.length := zy
 rw [List.take_length] at hD1 hA1 hlen1
 refine W.exit (End.Kx (End.Lx (End.Bh (End.K (zr (zf fa26_10 rfl 10 (WO.store sz24 rfl rfl (i := 0) rfl rfl (cs := [_, _, _, _, _, _, _, _, _, _, _]) rfl (hs' := _ :: _) rfl (zk (zr (zm rfl (zq (Q.loadN rfl (zt 0 rfl) ag26 sz26 (l := [_, _, _, _, _, _, _, _, _, _, _]) rfl) (zm rfl (zq (Q.build pl42 (opc rfl (opc rfl oPs_nil)) rfl (cs := [_, _, _, _, _, _, _, _, _, _, _, _]) (fill12 (OwnE.cell hA1))) (WO.bslice ud30 sz42 zr42 rfl (opc rfl oPs_nil) rfl (cs := [_, _, _, _, _, _, _, _, _, _, _, _]) rfl (all12 hm.cell hn.cell (OwnE.cell hA1)) rfl (fun b3 => WO.appAny (A := ([_] ++ hs ++ hl ++ ha)) ap30_30 hO1 rfl rfl (Src.slice (zt 0 rfl) rfl) rfl zy (by decide) (SubH.of_sublist (List.sublist_cons_self _ _)) rfl (fun v33 hp33 hO33 => za rfl (zk (W.sub (zc 4 rfl zzn) (W.ret ?_)))))))))))))))))))
 refine End.ret (z1 rfl) (hs' := hp33 ++ (hl ++ ha)) ⟨W2 ++ [⟨d, (layK ks (D2 Z) []).2, 0, vm, vn, .nils, ar⟩], hp33, hl ++ ha, by rw [← List.append_assoc, cI_snoc, List.length_append]; exact hO33, lay_fin hX1 hm hn hA1 hd hks (by rw [d2_len]; omega), by rw [← List.append_assoc, d2_snoc, hD1, layT], wa hw1 (OwnE.w hA1), rfl⟩ (wa (OwnE.w hO33) (wa hw1 (OwnE.w hA1))) gc
mutual
theorem lay_spec (hs : HSt) (hro : ∀ e ∈ hs, e.w = false) : ∀ (k : TD) (c : List AV) (Z : List IE) (w : AV) (hp : HSt), TRep hs k c → OwnE 12 (cI Z) Z.length w hp → Z.length + szT k ≤ 2097152 → Spec tab 39 [w, .agg c] (hp.map (·.b)) (hp ++ hs) (LayP hs k Z)
 | .node d ks, c, Z, w, hp, h, hO, hz => by
  rw [TRep] at h
  obtain ⟨vm, vn, vk, cs, rfl, h1, h2, h3, h4, h5, h6⟩ := h
  exact lay_step hs hro d ks vm vn vk cs h1 h2 h3 h4 h5 h6 Z w hp hO hz (lay_specs hs hro ks)
theorem lay_specs (hs : HSt) (hro : ∀ e ∈ hs, e.w = false) : ∀ (ks : List TD), ∀ k ∈ ks, ∀ (c : List AV) (Z : List IE) (w : AV) (hp : HSt), TRep hs k c → OwnE 12 (cI Z) Z.length w hp → Z.length + szT k ≤ 2097152 → Spec tab 39 [w, .agg c] (hp.map (·.b)) (hp ++ hs) (LayP hs k Z)
 | [], k, h, _, _, _, _, _, _, _ => by cases h
 | x :: ks, k, h, c, Z, w, hp, h1, h2, h3 => by
  rcases List.mem_cons.1 h with e | h
  ·exact e ▸ lay_spec hs hro x c Z w hp (e ▸ h1) h2 (e ▸ h3)
  ·exact lay_specs hs hro ks k h c Z w hp h1 h2 h3
end
def mkE (tt er : Nat) : Nat := if er = 0 ∧ tt = 3 then 16 else er
def MakeP (hs : HSt) (k : TD) (e0 : Nat) (v : AV) (D : HSt) : Prop := ∃ (e : Nat) (_ : e = e0) (Z : List IE) (w : AV) (hp hl : HSt), v = .tuple [w, .int .i64 ((e : Nat) : Int)] ∧ OwnE 12 (cI Z) Z.length w hp ∧ (∀ x ∈ Z, IOK (hs ++ hl) x ∧ x.vk = .nils ∧ IBd x) ∧ (e = 0 → D2 Z = layT k []) ∧ (e ≠ 0 → Z = []) ∧ (∀ y ∈ hl, y.w = true) ∧ D = hp ++ hl

theorem rmake_spec (hs : HSt) (hro : ∀ e ∈ hs, e.w = false) (k : TD) (d : ND) (vm vn vk : AV) (qm : CQ vm) (qn : CQ vn) (qk : CQ vk) (qo : Bytes d.op) (hT0 : TRep hs k (d.c vm vn vk)) (hsz : szT k ≤ 1048576) (tt er : Nat) (hTy : Spec tab 38 [.agg (d.c vm vn vk)] [] hs (Val (.tuple [.int .i64 ((tt : Nat) : Int), .int .i64 ((er : Nat) : Int)]))) : Spec tab 12 [.agg (d.c vm vn vk)] [] hs (MakeP hs k (mkE tt er)) := by
 refine Spec.en (ftg 12 Tryz.func12) rfl (m := 22) rfl (rs := [.tmp 2, .tmp 3]) rfl (st := [(0, .agg (d.c vm vn vk))]) rfl rfl (fun _ => rfl) (fun E => zr (WO.box rfl (nd_all qm.cell qn.cell qk.cell) (bx26 _ rfl) rfl (fun b1 => za rfl (za (zi 0) (zk (zr (zq (Q.loadN rfl (zt 0 rfl) ag26 sz26 (l := [_, _, _, _, _, _, _, _, _, _, _]) rfl) (WO.cV rfl (oLc rfl oz) rfl hTy (SubR.t (SubR.s hro)) rfl (zm rfl (zq (Q.extract rfl rfl) (zq (Q.extract rfl rfl) (za rfl (za rfl (zk (W.seq (zr (zm rfl (zq (Q.bin rfl (zi 0) rfl (bv_eql eq_nat)) (zm rfl (WO.sD (d := 13) rfl (fun hc13 => ?_) (fun hc13 => ?_)))))))))))))))))))))
 ·refine WO.gT rfl rfl (zm rfl (WO.gT rfl rfl (zq (Q.bin rfl (zi 3) rfl (bv_eql eq_nat)) (zq (Q.pT rfl rfl) (zk (W.sub (zc 16 rfl (zc 5 rfl (zc 1 rfl zzn))) (W.cD rfl (fun hc16 => ?_) (fun hc16 => ?_))))))))
  ·refine W.reg (za (zi 16) (zk (W.seq (zr (zm rfl (zq (Q.bin rfl (zi 0) rfl (bv_neq (p := true) rfl)) (zk (W.condT rfl (zr (zm rfl (za rfl (za rfl (zk (W.ret ?_))))))))))))))
   refine End.Kr (End.ret (ResL.tmp rfl (z1 rfl)) (hs' := []) ⟨16, (by unfold mkE; rw [if_pos ⟨by omega, by omega⟩]), [], .nils, [], [], rfl, OwnE.nil 12, (fun x hx => by simp at hx), fun h => absurd h zy, (fun _ => rfl), no_wl, rfl⟩ no_wl (SubH.nil _))
  refine zw (W.seq (zr (zm rfl (zq (Q.bin rfl (zi 0) rfl (bv_neq ne_nat)) (zk (W.cD rfl (fun hc18 => ?_) (fun hc18 => ?_)))))))
  ·(exfalso; omega)
  refine zw (zr (zq (Q.loadN rfl (zt 0 rfl) ag26 sz26 (l := [_, _, _, _, _, _, _, _, _, _, _]) rfl) (WO.call0 rfl (oLc rfl (oLc rfl oz)) rfl (lay_spec hs hro k _ [] .nils [] hT0 (OwnE.nil 12) (by simp; omega)) (SubR.t (SubR.s hro)) rfl (fun v21 D21 hP21 => ?_))))
  obtain ⟨W2, hp2, hl2, hO2, hX2, hD2, hw2, hDD⟩ := hP21
  refine WO.subH (hs' := _ :: (hs ++ D21)) (SubH.op (perm_tail (N := []) (G := D21) (K := [_]) (X := hs))) (za rfl (za (zi 0) (zk (W.ret ?_))))
  refine End.ret (ResL.tmp rfl (z1 rfl)) (hs' := D21) ⟨0, (by unfold mkE; rw [if_neg (fun h => by omega)]; omega), W2, v21, hp2, hl2, rfl, hO2, hX2, fun _ => hD2, (fun h => absurd rfl h), hw2, hDD⟩ (by rw [hDD]; exact wa (OwnE.w hO2) hw2) gc
 refine zg rfl rfl (zg rfl rfl (zq (Q.pF rfl rfl) (zk (W.sub (zc 16 rfl (zc 5 rfl (zc 1 rfl zzn))) (W.condF rfl (zw (W.seq (zr (zm rfl (zq (Q.bin rfl (zi 0) rfl (bv_neq ne_nat)) (zk (W.cD rfl (fun hc18 => ?_) (fun hc18 => ?_)))))))))))))
 ·refine zr (zm rfl (za rfl (za rfl (zk (W.ret ?_)))))
  refine End.Kr (End.ret (ResL.tmp rfl (z1 rfl)) (hs' := []) ⟨er, (by unfold mkE; rw [if_neg (fun h => by omega)]), [], .nils, [], [], rfl, OwnE.nil 12, (fun x hx => by simp at hx), fun h => absurd h zy, (fun _ => rfl), no_wl, rfl⟩ no_wl (SubH.nil _))
 (exfalso; omega)
end Go.Proofs.YtndhhgbpcmfeiaaGreatDoor.Ev
