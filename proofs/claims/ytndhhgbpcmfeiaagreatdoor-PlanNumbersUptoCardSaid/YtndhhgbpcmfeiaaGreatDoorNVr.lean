/- Chapter 7, by the document: what a pattern's depth wants. -/
import Derived.Test.YtndhhgbpcmfeiaaGreatDoorNVd
namespace Go.Proofs.YtndhhgbpcmfeiaaGreatDoor.Ev.P16
open Go.RowKit
set_option maxRecDepth 100000
set_option maxHeartbeats 1000000
inductive Dep : List Nat -> Prop
 | nil : Dep []
 | esc {l : List Nat} : l ≠ [] -> l.getD 0 0 = 92 -> Dep (l.drop 2) -> Dep l
 | cls {l : List Nat} {n : Nat} : l ≠ [] -> l.getD 0 0 = 91 -> gP (l.drop 1) = some n -> Dep (l.drop (1 + n)) -> Dep l
 | oth {l : List Nat} : l ≠ [] -> l.getD 0 0 ≠ 92 -> l.getD 0 0 ≠ 91 -> Dep (l.drop 1) -> Dep l
theorem Dep.nilE {l : List Nat} (h : l = []) : Dep l := by subst h; exact .nil
theorem Dep.one {l : List Nat} (h2 : l.getD 0 0 ≠ 92) (h3 : l.getD 0 0 ≠ 91) (h4 : Dep (l.drop 1)) : Dep l := by
 by_cases h : l = []
 ·exact .nilE h
 ·exact .oth h h2 h3 h4
theorem yX {p : List Nat} {i : Nat} (h : i < p.length) : p.drop i ≠ [] := by
 intro e
 have := congrArg List.length e
 simp at this
 omega
def Dz (c : Nat) : Prop := c = 42 \/ c = 43 \/ c = 63
inductive Alt (r : List Nat -> Bool) : List Nat -> Prop
 | nil : Alt r []
 | mark {l : List Nat} {n : Nat} : pV r l = some n -> n < l.length -> Dz (l.getD n 0) -> Alt r (l.drop (n + 1)) -> Alt r l
 | bare {l : List Nat} {n : Nat} : pV r l = some n -> ¬ (n < l.length /\ Dz (l.getD n 0)) -> Alt r (l.drop n) -> Alt r l
def ZV (hs : af) (v : AV) : Prop := v = .nils \/ ∃ b ex, v = .slice b 0 1 1 /\ MemH hs b ⟨1, ex, [.int .i64 ((0 : Nat) : Int)]⟩
theorem ZV.ro {hs : af} {v : AV} (h : ZV hs v) : ZV (Ev.ro hs) v := h.imp id fun ⟨b, ex, h1, h2⟩ => ⟨b, ex, h1, h2.ro⟩
theorem ZV.appl {A hs : af} {v : AV} (h : ZV hs v) : ZV (hs ++ A) v := h.imp id fun ⟨b, ex, h1, w, h2⟩ => ⟨b, ex, h1, w, List.mem_append_left _ h2⟩
theorem Alt.at_ {r : List Nat -> Bool} {p : List Nat} {i : Nat} (h : Alt r (p.drop i)) (hi : i < p.length) : ∃ n, pV r (p.drop i) = some n /\ 0 < n /\ i + n <= p.length /\
  (i + n < p.length -> Dz (p.getD (i + n) 0) -> Alt r (p.drop (i + n + 1))) /\ (¬ (i + n < p.length /\ Dz (p.getD (i + n) 0)) -> Alt r (p.drop (i + n))) := by
 have hne := yX hi
 have e1 : ∀ n, (p.drop i).getD n 0 = p.getD (i + n) 0 := fun n => tJ
 have e2 : ∀ n, (p.drop i).drop n = p.drop (i + n) := fun n => List.drop_drop ..
 have e3 : (p.drop i).length = p.length - i := List.length_drop ..
 generalize hq : p.drop i = l at h hne e1 e2 e3
 cases h with
 | nil => exact absurd rfl hne
 | @mark _ n h1 h2 h3 h4 =>
  have := nD h1
  exact ⟨n, h1, this.1, by omega, fun _ _ => by rw [e2] at h4; exact h4, fun g => absurd (And.intro zy (by rw [<- e1]; exact h3)) g⟩
 | @bare _ n h1 h2 h3 =>
  have := nD h1
  exact ⟨n, h1, this.1, by omega, fun g1 g2 => absurd (And.intro zy (by rw [e1]; exact g2)) h2, fun _ => by rw [e2] at h3; exact h3⟩
theorem ZV.tl {hs : af} {e : HE} {v : AV} (h : ZV hs v) : ZV (e :: hs) v := h.imp id fun ⟨b, ex, h1, w, h2⟩ => ⟨b, ex, h1, w, List.mem_cons_of_mem _ h2⟩
abbrev Az := Int × List Nat × List Nat
def mC (x : Az) : List AV := [.int .i64 x.1, .str x.2.1, .str x.2.2]
def DX (l : List Az) : List AV := l.flatMap mC
def ISm (hs : af) (M : List Az) (v : AV) : Prop := (v = .nils /\ M = []) \/ ∃ b ex, v = .slice b 0 M.length 3 /\ MemH hs b ⟨3, ex, DX M⟩
def Ef (M : List Az) : Prop := ∀ x ∈ M, Bytes x.2.1 /\ x.2.1.length <= 1048576 /\ Bytes x.2.2 /\ x.2.2.length <= 1048576
def tg (M : List aY) (i : Nat) : aY := M.getD i (0, [], 0, 0)
theorem iN (t : aY) : (np t).length = 4 := rfl
theorem jv (t : aY) (L : List aY) : cF (t :: L) = np t ++ cF L := by simp [cF]
theorem oe : ∀ L : List aY, (cF L).length = L.length * 4
 | [] => rfl
 | t :: L => by rw [jv, List.length_append, iN, oe L, List.length_cons]; omega
theorem od : ∀ (L : List aY) (i j : Nat), i < L.length -> j < 4 -> (cF L)[i * 4 + j]? = (np (tg L i))[j]?
 | [], i, j, h, _ => by simp at h
 | t :: L, 0, j, h, hj => by
  rw [jv, List.getElem?_append_left (by rw [iN]; omega)]
  simp [tg]
 | t :: L, i + 1, j, h, hj => by
  rw [jv, List.getElem?_append_right (by rw [iN]; omega), iN]
  have : (i + 1) * 4 + j - 4 = i * 4 + j := by omega
  rw [this, od L i j (by simpa using h) hj]
  rfl
theorem Ed {L : List aY} {i : Nat} (h : i < L.length) : ch (cF L) ((0 + i) * 4) 4 = some (np (tg L i)) := by
 unfold ch
 have hle : Nat.ble ((0 + i) * 4 + 4) (cF L).length = true := by rw [oe]; apply Nat.ble_eq.mpr; omega
 simp only [hle]
 congr 1
 apply List.ext_getElem?
 intro j
 rw [List.getElem?_take, List.getElem?_drop]
 split
 ·rename_i hj
  rw [Nat.zero_add, od L i j h hj]
 ·rw [List.getElem?_eq_none (by rw [iN]; omega)]
theorem SubR.two {bx bt : Nat} {ox ot : AObj} {w w' : Bool} {A : af} : SubR [⟨bx, ox, false⟩, ⟨bt, ot, false⟩] (⟨bx, ox, w⟩ :: ⟨bt, ot, w'⟩ :: A) := by
 refine ⟨fun e he => ?_, fun hn => ?_⟩
 ·rcases List.mem_cons.1 he with rfl | he
  ·exact ⟨rfl, w, List.mem_cons_self⟩
  ·rcases List.mem_cons.1 he with rfl | he
   ·exact ⟨rfl, w', List.mem_cons_of_mem _ List.mem_cons_self⟩
   ·simp at he
 ·simp only [List.map_cons, List.nodup_cons, List.mem_cons, not_or] at hn
  simp only [List.map_cons, List.map_nil, List.nodup_cons, List.mem_cons, List.not_mem_nil, or_false, not_false_eq_true, List.nodup_nil, and_true]
  exact hn.1.1
theorem SubR.pair {bx bt i j : Nat} {ox ot : AObj} {w w' : Bool} {hs : af} (h1 : hs[i]? = some ⟨bx, ox, w⟩) (h2 : hs[j]? = some ⟨bt, ot, w'⟩) (hij : i ≠ j) : SubR [⟨bx, ox, false⟩, ⟨bt, ot, false⟩] hs := by
 refine ⟨fun e he => ?_, fun hn => ?_⟩
 ·rcases List.mem_cons.1 he with rfl | he
  ·exact ⟨rfl, w, List.mem_of_getElem? h1⟩
  ·rcases List.mem_cons.1 he with rfl | he
   ·exact ⟨rfl, w', List.mem_of_getElem? h2⟩
   ·simp at he
 ·have e1 : (hs.map (·.b))[i]? = some bx := by rw [List.getElem?_map, h1]; rfl
  have e2 : (hs.map (·.b))[j]? = some bt := by rw [List.getElem?_map, h2]; rfl
  have hne : bx ≠ bt := by
   intro e
   have hi : i < (hs.map (·.b)).length := (List.getElem?_eq_some_iff.1 e1).1
   exact hij ((List.getElem?_inj hi hn).1 (by rw [e1, e2, e]))
  simp only [List.map_cons, List.map_nil, List.nodup_cons, List.mem_cons, List.not_mem_nil, or_false, not_false_eq_true, List.nodup_nil, and_true]
  exact hne
def rO (e : Int) (t : aY) (s : List Nat) : Bool := decide (e = 0) && (decide (t.1 = 1) || decide (t.1 = 5)) && decide (t.2.1 = s)
def ir (M : List aY) : Prop := ∀ x ∈ M, Bytes x.2.1 /\ x.2.1.length <= 1024
theorem Ec {M : List aY} (h : ir M) {i : Nat} (hi : i < M.length) : Bytes (tg M i).2.1 /\ (tg M i).2.1.length <= 1024 := by
 refine h _ ?_
 unfold tg
 rw [List.getD_eq_getElem?_getD, List.getElem?_eq_getElem hi]
 exact List.getElem_mem hi
theorem qB (toks : List aY) (n : Nat) (hn : toks.length = n + 1) (hnl : n <= 1048576) (hok : ir toks) (tb : Nat) (ex : Bool) (X a : Nat) (ha : a <= n) (dp e bd : Int) : Spec aA 32 [.ptr X 0] [] [pB X tb n a dp e bd false, ⟨tb, ⟨4, ex, cF toks⟩, false⟩] (eA (.agg (np (tg toks a)))) := by
 refine aj (dW 32 Tryz.func32) rfl (m := 20) rfl (rs := [.cell 2 67]) rfl (st := [(0, .ptr X 0)]) rfl rfl (fun _ => rfl) (fun E => zr (WO.alloc oE rfl (fun b1 => zk (W.seq (lC (by kernel_rfl) (zm rfl (zq (bD rfl) (zf vL rfl 0 (zq (aG rfl (zt 1 rfl) Cx rfl) (zm rfl (zq (bD rfl) (zf fF rfl 1 (zq (aG rfl (zt 1 rfl) d7 rfl) (zm rfl (zq (bD rfl) (zf vL rfl 0 (zq (aG rfl (zt 1 rfl) Cx rfl) (zq (Q.len At rfl rfl) (zq (Q.bin rfl (zi 1) rfl (eo (AZ zo))) (zq (uD false (aX rfl (aX rfl oz)) BJ) (zq (ee At fO rfl rfl zo) (zq (cj rfl (zt 2 rfl) oD fO (Ed zy)) (WO.store fO rfl rfl (i := 0) rfl rfl (cs := [_, _, _, _]) rfl (hs' := [_, _, _]) rfl ?_)))))))))))))))))))))))
 refine zk (W.sub (zc 2 rfl aU) (W.ret (ab (ResL.agg (c := [_, _, _, _]) rfl (zt 0 rfl) oD fO rfl ResL.nil) ?_)))
 (have e : min a (n + 1 - 1) = a := zy; simp only [e]; rfl)

theorem y8 (toks : List aY) (n : Nat) (hn : toks.length = n + 1) (hnl : n <= 1048576) (hok : ir toks) (tb : Nat) (ex : Bool) (X a : Nat) (ha : a <= n) (dp e bd : Int) (s : List Nat) (hs : Bytes s) : Spec aA 59 [.ptr X 0, .str s] [] [pB X tb n a dp e bd false, ⟨tb, ⟨4, ex, cF toks⟩, false⟩] (eA (.bool (rO e (tg toks a) s))) := by
 refine aj (dW 59 Tryz.func59) rfl (m := 29) rfl (rs := [.tmp 4]) rfl (st := [(0, .ptr X 0), (1, .str s)]) rfl rfl (fun _ => rfl) (fun E => zr (za rfl (zk (zr (zm rfl (az rfl (aX rfl oz) rfl (qB toks n hn hnl hok tb ex X a ha dp e bd) SubR.two rfl (WO.alloc oE rfl (fun b1 => WO.store fO rfl rfl (i := 0) rfl rfl (cs := [_, _, _, _]) rfl (hs' := [_, _, _]) rfl (zk (zr (zm rfl (zq (bD rfl) (zf fG rfl 3 (zq (aG rfl (zt 1 rfl) d7 rfl) (zq (Q.bin rfl (zi 0) rfl (ag dt)) (zm rfl (aQ (d := 13) rfl (fun hc13 => ?_) (fun hc13 => ?_))))))))))))))))))
 ·refine zT (zf o5 rfl 0 (zT (zq (aG rfl (zt 0 rfl) d7 rfl) (zT (zq (Q.bin rfl (zi 1) rfl (ag aD)) (zT (zm rfl (aQ (d := 17) rfl (fun hc17 => ?_) (fun hc17 => ?_)))))))))
  ·refine z2 (zG (zT (zq (aC rfl rfl) (zq (aC rfl rfl) (zm rfl (zT (zf vM rfl 1 (zT (zq (aG rfl (zt 0 rfl) uy rfl) (zT (zm rfl (zT (zq (Q.bin rfl rfl rfl ap) (zq (aC rfl rfl) (za rfl (zk (W.sub (zc 4 rfl aU) (W.ret (ab (z1 rfl) ?_)))))))))))))))))))
   exact bT (by simp_all [rO])
  refine zT (zf o5 rfl 0 (zT (zq (aG rfl (zt 0 rfl) d7 rfl) (zT (zq (Q.bin rfl (zi 5) rfl (ag aD)) (zT (zq (aH rfl rfl) (zq (aC rfl rfl) (zm rfl (aQ (d := 23) rfl (fun hc23 => ?_) (fun hc23 => ?_)))))))))))
  ·refine zT (zf vM rfl 1 (zT (zq (aG rfl (zt 0 rfl) uy rfl) (zT (zm rfl (zT (zq (Q.bin rfl rfl rfl ap) (zq (aC rfl rfl) (za rfl (zk (W.sub (zc 4 rfl aU) (W.ret (ab (z1 rfl) ?_)))))))))))))
   exact bT (by simp_all [rO])
  refine z2 (z2 (zq (aH rfl rfl) (za rfl (zk (W.sub (zc 4 rfl aU) (W.ret (ab (z1 rfl) ?_)))))))
  exact bT (by simp_all [rO])
 refine z2 (z2 (dD rfl rfl (.inr rfl) rfl (dD rfl rfl (.inr rfl) rfl (dD rfl rfl (.inr rfl) rfl (zG (zq (aH rfl rfl) (zm rfl (z2 (z2 (zq (aH rfl rfl) (za rfl (zk (W.sub (zc 4 rfl aU) (W.ret (ab (z1 rfl) ?_)))))))))))))))
 exact bT (by simp_all [rO])

def NmR (hN : af) (v : AV) : Prop := ∃ N : List (List Nat), Own 1 (N.map AV.str) N.length v hN /\ (∀ x ∈ N, Bytes x) /\ N.length <= 2097152
theorem NmR.nil : NmR [] .nils := ⟨[], Own.nil 1, fun x hx => by simp at hx, by simp⟩
theorem NmR.cell {hN : af} {v : AV} (h : NmR hN v) : v.isCell = true := let ⟨_, h, _⟩ := h; mF h
theorem NmR.w {hN : af} {v : AV} (h : NmR hN v) : ∀ y ∈ hN, y.w = true := let ⟨_, h, _⟩ := h; h.w
theorem bG {a b : Bool} (h : a = true) (g : b = true) : (a && b) = true := by rw [h, g]; rfl
theorem WD.call1 {tb : Tab} {n m i : Nat} {ops rest : List Oper} {keep : af} {E : Env} {s : St} {hs : af} {R : T AV -> AHeap -> Prop} {d : Nat} {ty : TypeId} {pos : String} {aft : Array Edge} {of : Operand} {args : List Operand} {ts : Array TypeId} {g j b : Nat} {caps l l' : List AV} {ob : AObj} {hsc hs' : af} {Post : AV -> af -> Prop} (hf : oL s of = some (.func g caps)) (ha : mY s args = some l) (hl : l ++ caps = l')
  (hi : hs[j]? = some ⟨b, ob, true⟩) (hsp : Spec tb g l' [b] (⟨b, ob, true⟩ :: hsc) Post) (hsub : SubR hsc (hs.eraseIdx j)) (he : hs.eraseIdx j = hs') (hkp : KIn keep hs') (hd : Nat.blt d n = true)
  (hk : ∀ v D, Post v D -> WD tb n ops keep m (i + 1) rest E ((d, v) :: s) (D ++ hs') R) :
  WD tb n ops keep m i (⟨some d, .call ⟨.value of, args.toArray, ts⟩, ty, pos, aft, none⟩ :: rest) E s hs R :=
 WD.l (C := fun v hq => ∃ D, Post v D /\ hq = D ++ hs') (fun tm h r e => by cases e) (fun R hR => WO.call1 hf ha hl hi hsp hsub he hd fun v D h => WO.nil (hR _ _ ⟨D, h, rfl⟩))
  (fun v hq ⟨D, _, h2⟩ _ => by subst h2; exact fun e he => let ⟨w, hm⟩ := hkp e he; ⟨w, List.mem_append_right _ hm⟩) (fun v hq ⟨D, h1, h2⟩ => by subst h2; exact hk v D h1)
noncomputable instance decHE : DecidableEq HE := fun a b => Classical.propDecidable (a = b)
theorem dj : ∀ {a c : af}, (∀ x, a.count x <= c.count x) -> SubH a c
 | [], c, _ => SubH.nil c
 | x :: a, c, h => by
  have hx : x ∈ c := by
   have h1 := h x
   rw [List.count_cons_self] at h1
   exact List.count_pos_iff.1 zy
  have hp := List.perm_cons_erase hx
  have ih : SubH a (c.erase x) := dj fun y => by
   have h1 := h y
   rw [hp.count_eq y] at h1
   simp only [List.count_cons] at h1
   omega
  refine SubH.trans ⟨fun e he => ?_, fun hn => ?_⟩ (SubH.op hp.symm)
  ·rcases List.mem_cons.1 he with rfl | he
   ·exact List.mem_cons_self
   ·exact List.mem_cons_of_mem _ (ih.1 e he)
  ·simp only [List.map_cons, List.nodup_cons, List.mem_map] at hn ⊢
   exact ⟨fun ⟨y, hy, hb⟩ => hn.1 ⟨y, ih.1 y hy, hb⟩, ih.2 hn.2⟩
section
variable {tb : Tab} {n : Nat} {E : Env} {s : St} {hs : af} {a b : Code} {Q : Ex -> T AV -> AHeap -> Prop}
theorem kH {α β γ δ ε ζ η : Type} {b : Code} {Q} (st : α -> β -> γ -> δ -> ε -> ζ -> η -> St) (hp : α -> β -> γ -> δ -> ε -> ζ -> η -> af) (Inv : α -> β -> γ -> δ -> ε -> ζ -> η -> Prop) (μ : α -> β -> γ -> δ -> ε -> ζ -> η -> Nat) (a0 : α) (b0 : β) (c0 : γ) (d0 : δ) (e0 : ε) (f0 : ζ) (g0 : η) (h0 : Inv a0 b0 c0 d0 e0 f0 g0)
  (hsub : SubS (st a0 b0 c0 d0 e0 f0 g0) s) (hsubH : SubH (hp a0 b0 c0 d0 e0 f0 g0) hs)
  (step : ∀ a c e f g h i, Inv a c e f g h i -> (∀ a' c' e' f' g' h' i', Inv a' c' e' f' g' h' i' -> μ a' c' e' f' g' h' i' < μ a c e f g h i -> W tb n (.loop b) E (st a' c' e' f' g' h' i') (hp a' c' e' f' g' h' i') Q) -> W tb n b E (st a c e f g h i) (hp a c e f g h i) (KL tb n b Q)) :
  W tb n (.loop b) E s hs Q :=
 bF (α := α × β × γ × δ × ε × ζ × η) (fun x => st x.1 x.2.1 x.2.2.1 x.2.2.2.1 x.2.2.2.2.1 x.2.2.2.2.2.1 x.2.2.2.2.2.2) (fun x => hp x.1 x.2.1 x.2.2.1 x.2.2.2.1 x.2.2.2.2.1 x.2.2.2.2.2.1 x.2.2.2.2.2.2)
  (fun x => Inv x.1 x.2.1 x.2.2.1 x.2.2.2.1 x.2.2.2.2.1 x.2.2.2.2.2.1 x.2.2.2.2.2.2) (fun x => μ x.1 x.2.1 x.2.2.1 x.2.2.2.1 x.2.2.2.2.1 x.2.2.2.2.2.1 x.2.2.2.2.2.2)
  (a0, b0, c0, d0, e0, f0, g0) h0 hsub hsubH fun a ha ih => step a.1 a.2.1 a.2.2.1 a.2.2.2.1 a.2.2.2.2.1 a.2.2.2.2.2.1 a.2.2.2.2.2.2 ha fun a' c' e' f' g' h' i' => ih (a', c', e', f', g', h', i')
end
theorem gs {a c : af} (h : ∀ x, a.count x <= c.count x := by intro x; simp only [pB, b7, List.count_append, List.count_cons, List.count_nil]; omega) : SubH a c := dj h
theorem zV {M : List Az} {v : AV} {hp : af} (h : Own 3 (DX M) M.length v hp) : ISm hp M v := by
 rcases h with ⟨h1, _, rfl, _⟩ | ⟨b, ex, rfl, rfl, _⟩
 ·exact .inl ⟨rfl, List.length_eq_zero_iff.1 h1⟩
 ·exact .inr ⟨b, ex, rfl, true, List.mem_cons_self⟩
theorem ISm.ro {hs : af} {M : List Az} {v : AV} (h : ISm hs M v) : ISm (ro hs) M v := h.imp id fun ⟨b, ex, h1, h2⟩ => ⟨b, ex, h1, h2.ro⟩
def MsR (hM : af) (v : AV) : Prop := ∃ M : List Az, Own 3 (DX M) M.length v hM /\ Ef M /\ M.length <= 1048576
theorem MsR.nil : MsR [] .nils := ⟨[], Own.nil 3, fun x hx => by simp at hx, by simp⟩
theorem MsR.cell {hM : af} {v : AV} (h : MsR hM v) : v.isCell = true := let ⟨_, h, _⟩ := h; mF h
theorem MsR.w {hM : af} {v : AV} (h : MsR hM v) : ∀ y ∈ hM, y.w = true := let ⟨_, h, _⟩ := h; h.w
end Go.Proofs.YtndhhgbpcmfeiaaGreatDoor.Ev.P16
