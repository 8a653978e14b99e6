/- Walks over the evaluator: slices that are laid out, and append, in statements whose makers float. -/
import Derived.Test.YtfkbfnpjggkdmaaGreatDoorCAwP
import Derived.Test.YtfkbfnpjggkdmaaGreatDoorCFactsR
import Derived.Test.YtfkbfnpjggkdmaaGreatDoorCEa2
namespace Go.Proofs.YtfkbfnpjggkdmaaGreatDoor.Ev
open Go.RowKit
noncomputable section
variable {tb : Tab} {n : Nat} {E : Env} {s : St} {hs : af} {R : T AV -> AHeap -> Prop} {ops l rest : List Oper} {d : Nat} {ty : TypeId} {pos : String} {aft : Array Edge} {t : TypeId} {i base : Nat} {keep : af}
theorem WG.bslice {m sz e : Nat} {zc cs : List AV} {pl : List (Nat × Operand)} {ps : List (Nat × AV)} (hu : tb.und t = some (.slice e)) (hz : tb.size e = some sz) {z : AV} (h0 : tb.zero e = some z) (hzc : z.cells = zc) (ho : Ak s pl = some ps)
  (hb : (Nat.ble (m * sz) 16777216 && Nat.beq zc.length sz && Nat.blt 0 sz) = true) (hf : cJ (fun i => some (i * sz, sz)) (iP m zc) ps = some cs) (hc : cs.all AV.isCell = true) (hd : Nat.blt d n = true) (hkp : KIn keep hs) (hlt : Nat.blt i ops.length = true)
  (hk : ∀ b, WG tb n ops l keep base (i + 1) rest E ((d, .slice b 0 m sz) :: s) (⟨b, ⟨sz, true, cs⟩, true⟩ :: hs) R) :
  WG tb n ops l keep base i (⟨some d, .buildSlice t m pl.toArray, ty, pos, aft, none⟩ :: rest) E s hs R := by
 intro tm h ht hh _ hdr hE hbs ha
 obtain ⟨hl, hdr'⟩ := fG hdr
 have hil := Nat.blt_eq.mp hlt
 have hnew : HS E (⟨base + i, ⟨sz, true, cs⟩, true⟩ :: hs) ⟨h.next, h.objs.set (base + i) ⟨sz, true, cs⟩⟩ := by
  refine ⟨fun e he => ?_, ?_, hh.fr.1, fun c hc hcS => ?_⟩
  ·rcases List.mem_cons.1 he with rfl | he
   ·exact ⟨by simp [az], by show base + i < h.next; omega, fun _ => .inl (by show E.h0.next <= base + i; omega)⟩
   ·obtain ⟨a1, a2, a3⟩ := hh.at_ e he
    refine ⟨?_, a2, a3⟩
    have := ha e he
    rw [az, if_neg zy]
    exact a1
  ·simp only [List.map_cons, List.nodup_cons]
   refine ⟨fun hm => ?_, hh.nd⟩
   obtain ⟨e, he, hb⟩ := List.mem_map.1 hm
   have := ha e he
   omega
  ·show (h.objs.set (base + i) _).get c = _
   rw [az, if_neg zy]
   exact hh.fr.2 c hc hcS
 have hkn : dj keep ⟨h.next, h.objs.set (base + i) ⟨sz, true, cs⟩⟩ := KIn.keepIn (show KIn keep (⟨base + i, ⟨sz, true, cs⟩, true⟩ :: hs) from fun e he => let ⟨w, hm⟩ := hkp e he; ⟨w, List.mem_cons_of_mem _ hm⟩) hnew
 refine od (v := .slice (base + i) 0 m sz) (k := 3) (h1 := ⟨h.next, h.objs.set (base + i) ⟨sz, true, cs⟩⟩) (tm1 := tm.set d (.slice (base + i) 0 m sz)) hl ?_ (aO hd) (fun h => by cases h) (fun h => by cases h) (fun _ => rfl) (fun _ => hkn)
  (hk (base + i) _ _ (ht.set d _) hnew hkn hdr' hE hbs fun e he => ?_)
 ·unfold gG
  have hmk : df (Op.buildSlice t m pl.toArray) = true := rfl
  have hw : aK ops tm ⟨some d, .buildSlice t m pl.toArray, ty, pos, aft, none⟩ = some true := rfl
  rw [hmk, hw]
  unfold vI
  have hps : bK tm pl.toArray.toList = some ps := sA ht ho
  subst hzc
  simp only [hu, hz, h0]
  rw [hps]
  simp only [hb, hf, hc]
 ·rcases List.mem_cons.1 he with rfl | he
  ·left; show base + i < base + (i + 1); omega
  ·exact (ha e he).imp (fun h => by omega) id
theorem HZ {op : Op} {C : AV -> af -> Prop} (hmk : df op = false) (hld : ∀ tm h r, cO tb (aD (callE tb)) tm h op ≠ .q r)
  (hw : ∀ E R, (∀ v hs', C v hs' -> End E ((d, v) :: s) hs' R) -> WO tb n ops [⟨some d, op, ty, pos, aft, none⟩] E s hs R)
  (hC : ∀ v hs', C v hs' -> KIn keep hs' /\ ∀ e ∈ hs', e.w = false -> ∃ x ∈ hs, x.b = e.b) (hk : ∀ v hs', C v hs' -> WG tb n ops l keep base (i + 1) rest E ((d, v) :: s) hs' R) :
  WG tb n ops l keep base i (⟨some d, op, ty, pos, aft, none⟩ :: rest) E s hs R := by
 intro tm h ht hh hkp0 hdr hE hbs ha
 obtain ⟨hl, hdr'⟩ := fG hdr
 have hS : ∀ c, c ∈ (hs.filter (·.w)).map (·.b) -> ∃ x ∈ hs, x.w = true /\ x.b = c := by
  intro c hc
  obtain ⟨x, hx, rfl⟩ := List.mem_map.1 hc
  obtain ⟨h1, h2⟩ := List.mem_filter.1 hx
  exact ⟨x, h1, h2, rfl⟩
 have hh2 : HS ⟨h, (hs.filter (·.w)).map (·.b)⟩ hs h := ⟨fun e he => ⟨(hh.at_ e he).1, (hh.at_ e he).2.1, fun hw => .inr (List.mem_map.2 ⟨e, List.mem_filter.2 ⟨he, hw⟩, rfl⟩)⟩, hh.nd, Fr.refl _ _⟩
 obtain ⟨tm1, h1, e, hR⟩ := hw ⟨h, (hs.filter (·.w)).map (·.b)⟩ (fun tm' h' => ∃ v hs', C v hs' /\ HS ⟨h, (hs.filter (·.w)).map (·.b)⟩ hs' h' /\ tm'.get d = some v) (fun v hs' hC tm' h' ht' hh' => ⟨v, hs', hC, hh', ht' d v (by simp [lk])⟩) tm h ht hh2
 unfold db at e
 cases hv : fT tb (aD (callE tb)) ops tm h ⟨some d, op, ty, pos, aft, none⟩ with
 | none => rw [hv] at e; cases e
 | some p =>
  obtain ⟨v, h3, k⟩ := p
  rw [hv] at e
  simp only at e
  cases hp : bE tm n (some d) v with
  | none => rw [hp] at e; cases e
  | some tm2 =>
   rw [hp] at e
   simp only [db, Option.some.injEq, Prod.mk.injEq] at e
   obtain ⟨rfl, rfl⟩ := e
   obtain ⟨v', hs', hCv, hH, hg⟩ := hR _ (SubT.refl _)
   have hset : tm2 = tm.set d v := by
    have hp' : (match Nat.blt d n with
     | true => some (tm.set d v)
     | false => none) = some tm2 := hp
    cases hbd : Nat.blt d n with
    | false => rw [hbd] at hp'; cases hp'
    | true => rw [hbd] at hp'; exact (Option.some.inj hp').symm
   have hvv : v' = v := by
    rw [hset, az, if_pos rfl] at hg
    exact (Option.some.inj hg).symm
   subst hvv
   have hop : cO tb (aD (callE tb)) tm h op = .l (some (v', h3)) := by
    unfold fT at hv
    have : aK ops tm ⟨some d, op, ty, pos, aft, none⟩ = some true := rfl
    rw [this] at hv
    simp only at hv
    cases ho : cO tb (aD (callE tb)) tm h op with
    | q r => exact absurd ho (hld _ _ _)
    | l r =>
     rw [ho] at hv
     cases r with
     | none => cases hv
     | some p =>
      obtain ⟨v1, h2⟩ := p
      simp only [Option.some.injEq, Prod.mk.injEq] at hv
      rw [hv.1, hv.2.1]
   have hfr := hH.fr
   have hB : HS E hs' h3 := by
    refine ⟨fun e he => ?_, hH.nd, Nat.le_trans hh.fr.1 hfr.1, fun c hc hcS => ?_⟩
    ·obtain ⟨a1, a2, a3⟩ := hH.at_ e he
     refine ⟨a1, a2, fun hw' => ?_⟩
     rcases a3 hw' with b1 | b1
     ·exact .inl (Nat.le_trans hh.fr.1 b1)
     ·obtain ⟨x, hx, hxw, hxb⟩ := hS _ b1
      rw [<- hxb]
      exact (hh.at_ x hx).2.2 hxw
    ·rw [hfr.2 c (Nat.lt_of_lt_of_le hc hh.fr.1) (fun hm => by
      obtain ⟨x, hx, hxw, hxb⟩ := hS _ hm
      rcases (hh.at_ x hx).2.2 hxw with g | g
      ·omega
      ·exact hcS (hxb ▸ g))]
     exact hh.fr.2 c hc hcS
   obtain ⟨hkn, hold⟩ := hC _ _ hCv
   refine WG.hard (v := v') (h1 := h3) (tm1 := tm2) hmk hl hop hp (hkn.keepIn hB) ?_
   rw [hset]
   refine hk v' hs' hCv _ _ (ht.set d v') hB (hkn.keepIn hB) hdr' hE (Nat.le_trans hbs hfr.1) fun e he => ?_
   have hold' : (∃ x ∈ hs, x.b = e.b) -> e.b < base + (i + 1) \/ base + ops.length <= e.b := fun ⟨x, hx, hxb⟩ => hxb ▸ (ha x hx).imp (fun h => by omega) id
   cases hew : e.w with
   | false => exact hold' (hold e he hew)
   | true =>
    rcases (hH.at_ e he).2.2 hew with b1 | b1
    ·exact .inr (Nat.le_trans hbs b1)
    ·obtain ⟨x, hx, _, hxb⟩ := hS _ b1
     exact hold' ⟨x, hx, hxb⟩
theorem WG.appAny {ox oy : Operand} {t2 sz len m : Nat} {tl : List Nat} {A hp : af} {cells new : List AV} {v x : AV} (ha : AP tb t t2 = some sz) (hO : OwnE sz cells len v hp) (hx : oL s ox = some v) (hy : oL s oy = some x) (hc : Src hs sz x m new)
  (hl : new.length = m * sz) (hn : len + m <= 1073741824) (hz : 0 < sz) (hs_ : SubH (A ++ hp) hs) (hd : Nat.blt d n = true) (hkp : KIn keep A)
  (hk : ∀ v' hp', OwnE sz (cells ++ new) (len + m) v' hp' -> WG tb n ops l keep base (i + 1) rest E ((d, v') :: s) (A ++ hp') R) :
  WG tb n ops l keep base i (⟨some d, .call ⟨.builtin .append, #[ox, oy], (t :: t2 :: tl).toArray⟩, ty, pos, aft, none⟩ :: rest) E s hs R :=
 HZ (C := fun v' hs' => ∃ hp', OwnE sz (cells ++ new) (len + m) v' hp' /\ hs' = A ++ hp') rfl (fun tm h r e => by cases e) (fun E R hR => WO.appAny ha hO hx hy hc hl hn hz hs_ hd fun v' hp' h => WO.nil (hR _ _ ⟨hp', h, rfl⟩))
  (fun v' hs' ⟨hp', h1, h2⟩ => by
   subst h2
   refine ⟨fun e he => let ⟨w, hm⟩ := hkp e he; ⟨w, List.mem_append_left _ hm⟩, fun e he hw => ?_⟩
   rcases List.mem_append.1 he with he | he
   ·exact ⟨e, hs_.1 e (List.mem_append_left _ he), rfl⟩
   ·rw [h1.w e he] at hw; cases hw) (fun v' hs' ⟨hp', h1, h2⟩ => by subst h2; exact hk v' hp' h1)
end
set_option maxRecDepth 100000
set_option maxHeartbeats 1000000
theorem rl {hs D : af} {R : List bV} {i : Nat} {v : AV} (h : RSl D R i v) : RSl (ro (hs ++ D)) R i v := h.mono fun b o g => g.app.ro
theorem sX {hs D : af} {R : List bV} (h : RAll hs R) : RAll (ro (hs ++ D)) R := h.mono fun b o g => g.ap1.ro
theorem cp {v : AV} (h : v.isCell = true) : v.cells = [v] := by cases v <;> first | rfl | (cases h)
theorem BK {a b : AV} (ha : a.isCell = true) (hb : b.isCell = true) : cJ (fun i => [(0, 1), (1, 1)][i]?) [.nils, .nils] [(0, a), (1, b)] = some [a, b] := by
 simp [cJ, cp ha, cp hb, ct]
theorem Fy {v : AV} (h : v.isCell = true) : cJ (fun i => some (i * 1, 1)) (iP 1 AV.nils.cells) [(0, v)] = some [v] := by
 simp only [cJ, cp h]; rfl
noncomputable def fb (M : List ed) (lo hi : Int) (L : List (List bA × List bP)) : List (List bA × List bP) := L.filterMap fun x => if jB M x.1 = true /\ 0 < (x.2.filter (ky lo hi)).length then some (x.1, x.2.filter (ky lo hi)) else none
theorem fF {O : List bV} {x : bV} : aV (O ++ [x]) = aV O ++ [(x.2.1, x.2.2.2)] := by unfold aV; rw [List.map_append]; rfl
theorem rJ {O : List bV} {x : bV} : cR (O ++ [x]) = cR O ++ [x.1, x.2.2.1] := by rw [cR, iV]; rfl
theorem yw {R : List bV} {i : Nat} {M : List ed} {lo hi : Int} (h : i < R.length) : fb M lo hi (aV (R.take (i + 1))) = fb M lo hi (aV (R.take i)) ++ (if jB M (rg R i).2.1 = true /\ 0 < ((rg R i).2.2.2.filter (ky lo hi)).length then [((rg R i).2.1, (rg R i).2.2.2.filter (ky lo hi))] else []) := by
 rw [cb R CO h, fF]
 unfold fb
 rw [List.filterMap_append]
 congr 1
 by_cases g : jB M (rg R i).2.1 = true /\ 0 < ((rg R i).2.2.2.filter (ky lo hi)).length
 ·rw [if_pos g, List.filterMap_cons_some (b := ((rg R i).2.1, (rg R i).2.2.2.filter (ky lo hi))) (by exact if_pos g)]
  rfl
 ·rw [if_neg g, List.filterMap_cons_none (by exact if_neg g)]
  rfl
theorem yx {R : List bV} {i : Nat} {M : List ed} {lo hi : Int} (h : i < R.length) (g : ¬ (jB M (rg R (0 + i)).2.1 = true /\ 0 < ((rg R (0 + i)).2.2.2.filter (ky lo hi)).length)) : fb M lo hi (aV (R.take (i + 1))) = fb M lo hi (aV (R.take i)) := by
 rw [Nat.zero_add] at g
 rw [yw h, if_neg g, List.append_nil]
theorem CP {R : List bV} {i : Nat} {M : List ed} {lo hi : Int} (h : i < R.length) (g : jB M (rg R (0 + i)).2.1 = true) (g2 : 0 < ((rg R (0 + i)).2.2.2.filter (ky lo hi)).length) : fb M lo hi (aV (R.take (i + 1))) = fb M lo hi (aV (R.take i)) ++ [((rg R (0 + i)).2.1, (rg R (0 + i)).2.2.2.filter (ky lo hi))] := by
 rw [Nat.zero_add] at g g2 ⊢
 rw [yw h, if_pos ⟨g, g2⟩]
theorem CC {O R : List bV} {G D : af} {x : bV} (h : ∀ x ∈ O, (∃ y ∈ R, x.1 = y.1 /\ x.2.1 = y.2.1) /\ SIn G x.2.2.2 x.2.2.1 /\ SBd x.2.2.2) (h1 : ∃ y ∈ R, x.1 = y.1 /\ x.2.1 = y.2.1) (h2 : SIn D x.2.2.2 x.2.2.1) (h3 : SBd x.2.2.2) :
  ∀ z ∈ O ++ [x], (∃ y ∈ R, z.1 = y.1 /\ z.2.1 = y.2.1) /\ SIn (G ++ D) z.2.2.2 z.2.2.1 /\ SBd z.2.2.2 := by
 intro z hz
 rcases List.mem_append.1 hz with hz | hz
 ·exact ⟨(h z hz).1, (h z hz).2.1.mono fun b o g => g.ap1, (h z hz).2.2⟩
 ·rw [List.mem_singleton.1 hz]
  exact ⟨h1, h2.mono fun b o g => g.app, h3⟩
theorem AH (hs : af) (hro : ∀ e ∈ hs, e.w = false) (R : List bV) (v : AV) (hR : RSl hs R 0 v) (hRA : RAll hs R) (hRb : kp R) (bB : Nat) (exB : Bool) : Spec tab 60 [.agg [.slice bB 0 1 1, .nils]] [] (⟨bB, ⟨1, exB, [v]⟩, false⟩ :: hs) (fun v D => Own 2 (cR R) R.length v D) := by
 refine ac (bz 60 Tryz.func60) rfl (m := 24) rfl (rs := [.tmp 2]) rfl (st := [(0, .agg [.slice bB 0 1 1, .nils])]) rfl rfl (fun _ => rfl) (fun E => zr (WO.box rfl rfl (Ih _ rfl) rfl (fun b1 => za rfl (zk (zr (za rfl (zk (W.seq (zr (za (zi 0) (zk (W.block (W.loop (W.seq (zr (zm rfl (zf vC rfl 0 (zq (ag rfl (zt 0 rfl) FW rfl) (zq (Q.len Fi rfl rfl) (zq (aa rfl rfl rfl (bu (p := true) rfl)) (zk (W.condT rfl (zw ?_)))))))))))))))))))))))
 refine W.seq (W.block (W.reg (zm rfl (zf vC rfl 0 (zq (ag rfl (zt 0 rfl) FW rfl) (zm rfl (zq (ao Fi Fb rfl rfl zo (o' := 0) rfl) (zq (ag rfl (zt 1 rfl) uS rfl) (WO.call0 rfl (aj rfl (aj rfl oz)) rfl (Ew hs hro R v hR hRA hRb) (aQ (aQ (aN hro))) rfl (fun v18 D18 hP18 => WO.subH (hs' := _ :: _ :: (hs ++ D18)) (SubH.op (aw (N := []) (G := D18) (K := [_, _]) (X := hs))) (za rfl (WO.nil (End.KB (End.K (W.sub (zc 3 rfl (zc 4 rfl (zc 1 rfl aI))) (W.reg (zm rfl (zq (aa rfl (zi 1) rfl (bc (c := (((1 : Nat)) : Int)) (by decide))) (za rfl (WO.nil (End.KL (W.loop (W.seq (zr ?_))))))))))))))))))))))))
 refine zm rfl (zf vC rfl 0 (zq (ag rfl (zt 0 rfl) FW rfl) (zq (Q.len Fi rfl rfl) (zq (aa rfl rfl rfl (bu (p := false) rfl)) (zk (W.condF rfl (W.exit (am (aq (ap (End.K (zr (zm rfl (zf Gp rfl 1 (zq (ag rfl (zt 0 rfl) uS rfl) (ak rfl (aj rfl oz) rfl E3 SubR.nil rfl (WO.call0 rfl (aj rfl (aj rfl oz)) rfl (Eu (ro (hs ++ D18)) ie R _ (rl (RSl.own (OwnE.of hP18))) (sX hRA) hRb) (SubR.ro gc) rfl (fun v23 D23 hP23 => WO.subH (hs' := _ :: _ :: (hs ++ D18 ++ D23)) (SubH.op (aw (N := []) (G := D23) (K := [_, _]) (X := hs ++ D18))) (za rfl (zk (W.sub (zc 2 rfl aI) (W.ret ?_))))))))))))))))))))))
 refine End.ret (z1 rfl) (hs' := D23) hP23 hP23.w gc

theorem z7 (hs : af) (hro : ∀ e ∈ hs, e.w = false) (R : List bV) (v : AV) (hR : RSl hs R 0 v) (hRA : RAll hs R) (hRb : kp R) (M : List ed) (vm : AV) (hM : ISm hs M vm) (hok : nB M) (lo hi : Int) : Spec tab 59 [v, vm, .int .i64 lo, .int .i64 hi] [] hs (fun v D => ∃ R2, RSl D R2 0 v /\ (∀ x ∈ R2, (∃ y ∈ R, x.1 = y.1 /\ x.2.1 = y.2.1) /\ SIn D x.2.2.2 x.2.2.1 /\ SBd x.2.2.2) /\ aV R2 = fb M lo hi (aV R) /\ R2.length <= R.length /\ ∀ e ∈ D, e.w = true) := by
 have hRl := hRb.1
 refine ac (bz 59 Tryz.func59) rfl (m := 49) rfl (rs := [.tmp 8]) rfl (st := [(0, v), (1, vm), (2, .int .i64 lo), (3, .int .i64 hi)]) rfl rfl (fun _ => rfl) (fun E => zr (za rfl (zk (zr (za rfl (zk (W.seq (zr (za (zi 0) (zk (W.block (W.loop_ind5 (fun (i : Nat) (O : List bV) (o : AV) (ho : af) (G : af) => [(0, v), (1, vm), (2, .int .i64 lo), (3, .int .i64 hi), (9, o), (10, .int .i64 ((i : Nat) : Int))]) (fun (i : Nat) (O : List bV) (o : AV) (ho : af) (G : af) => (hs ++ G) ++ ho) (fun (i : Nat) (O : List bV) (o : AV) (ho : af) (G : af) => i <= R.length /\ OwnE 2 (cR O) O.length o ho /\ (∀ x ∈ O, (∃ y ∈ R, x.1 = y.1 /\ x.2.1 = y.2.1) /\ SIn G x.2.2.2 x.2.2.1 /\ SBd x.2.2.2) /\ aV O = fb M lo hi (aV (R.take i)) /\ (∀ e ∈ G, e.w = true) /\ O.length <= i) (fun (i : Nat) (O : List bV) (o : AV) (ho : af) (G : af) => R.length - i) (0) ([]) (.nils) ([]) ([]) ⟨Nat.zero_le _, OwnE.nil 2, fun x h => (by simp at h), rfl, fun e h => sx h, Nat.zero_le _⟩ zv gc (fun i O o ho G hI0 ih0 => ?_)))))))))))))
 obtain ⟨hi1, hO, hOx, hOc, hG, hOl⟩ := hI0
 refine W.seq (zr (zm rfl (zm rfl (zq (Q.len dA rfl (RSl.len hR)) (zq (aa rfl rfl rfl (bu bY)) (zk (aB rfl (fun hc15 => ?_) (fun hc15 => ?_))))))))
 ·obtain ⟨br, szr, exr, rfl, wr, mr⟩ := RSl.full hR zy
  have hm0 := eZ (R := R) (i := 0 + i) zy
  have hx := hRA _ hm0
  have hxb := hRb.2 _ hm0
  refine zw (W.seq (W.block (zr (zm rfl (zm rfl (zq (bj dA fk rfl rfl zo) (zq (Q.fieldAddr jm rfl rfl) (zq (ag rfl (List.mem_append_left _ (List.mem_append_left _ mr)) l8 (oI zo)) (zm rfl (zm rfl (WO.call0 rfl (aj rfl (aj rfl (aj rfl oz))) rfl (yX hs hro _ _ hx.2 hxb.2 lo hi) (SubR.appl (SubR.appl (aN hro))) rfl (fun v25 D25 hP25 => WO.subH (hs' := (hs ++ G ++ ho ++ D25)) (SubH.op (aw (N := []) (G := D25) (K := []) (X := hs ++ G ++ ho))) (za rfl (zk (zr (zm rfl (zm rfl (zm rfl (zq (bj dA fk rfl rfl zo) (zq (Q.fieldAddr jJ rfl rfl) (zq (ag rfl (List.mem_append_left _ (List.mem_append_left _ (List.mem_append_left _ mr))) jA (qm zo)) (ak rfl (aj rfl (aj rfl oz)) rfl (qQ hs hro _ _ hx.1 hxb.1 M _ hM hok) (SubR.appl (SubR.appl (SubR.appl (aN hro)))) rfl (zm rfl ?_)))))))))))))))))))))))
  refine WO.split (d := 33) rfl (fun hc33 => ?_) (fun hc33 => ?_)
  ·refine zT (zm rfl (zT (zq (Q.len fm rfl hP25.len) (zT (zq (aa rfl (zi 0) rfl (aJ bY)) (zq (aA rfl rfl) (zk (W.sub (zc 37 rfl (zc 11 rfl (zc 0 rfl (zc 1 rfl (zc 2 rfl (zc 3 rfl (zc 9 rfl (zc 10 rfl aI)))))))) (aB rfl (fun hc37 => ?_) (fun hc37 => ?_))))))))))
   ·refine W.reg (zm rfl (zm rfl (zm rfl (zq (bj dA fk rfl rfl zo) (zq (Q.fieldAddr jJ rfl rfl) (zq (ag rfl (List.mem_append_left _ (List.mem_append_left _ (List.mem_append_left _ mr))) jA (qm zo)) (zm rfl (zq (Q.build He (cy rfl (cy rfl dE)) rfl (cs := [_, _]) (BK (LIn.cell hx.1) (OwnE.of hP25).cell)) (WO.bslice dA fk Dl rfl (cy rfl dE) rfl (cs := [_, _]) rfl (uG (LIn.cell hx.1) (OwnE.of hP25).cell) rfl (fun b1 => WO.subH (hs' := _ :: (hs ++ G ++ D25 ++ ho)) (SubH.op (List.Perm.append_left [_] (List.perm_iff_count.2 (by intro z; simp only [List.append_eq, List.count_append, List.count_nil]; omega)))) (WO.appAny (A := ([] ++ hs ++ G ++ D25)) ln hO rfl rfl (Src.slice (zt 0 rfl) rfl) rfl zo (by decide) (SubH.of_sublist (List.sublist_cons_self _ _)) rfl (fun v47 hp47 hO47 => za rfl (WO.nil (End.KB (End.K (W.reg (zm rfl (zq (aa rfl (zi 1) rfl zp) (za rfl (WO.nil (End.KL (W.sub zv (cz gc (ih0 (i + 1) (O ++ [((rg R (0 + i)).1, (rg R (0 + i)).2.1, v25, (rg R (0 + i)).2.2.2.filter (ky lo hi))]) (v47) (hp47) (G ++ D25) ?_ ?_))))))))))))))))))))))))
    ·exact ⟨by omega, by rw [rJ, List.length_append]; exact hO47, CC hOx ⟨_, hm0, rfl, rfl⟩ (SIn.own (OwnE.of hP25)) (Nat.le_trans (List.length_filter_le _ _) hxb.2), by rw [fF, hOc, CP zy (by simp_all) zy], wa hG hP25.w, by rw [List.length_append]; simp; omega⟩
    exact zo
   refine W.skip (End.KB (End.K (W.reg (zm rfl (zq (aa rfl (zi 1) rfl zp) (za rfl (WO.nil (End.KL (W.sub zv (cz gc (ih0 (i + 1) (O) (o) (ho) (G) ?_ ?_)))))))))))
   ·exact ⟨by omega, hO, hOx, by rw [hOc, yx zy (by simp_all)], hG, by omega⟩
   exact zo
  refine z2 (zG (zq (aF rfl rfl) (zk (W.sub (zc 37 rfl (zc 11 rfl (zc 0 rfl (zc 1 rfl (zc 2 rfl (zc 3 rfl (zc 9 rfl (zc 10 rfl aI)))))))) (W.condF rfl (W.skip (End.KB (End.K (W.reg (zm rfl (zq (aa rfl (zi 1) rfl zp) (za rfl (WO.nil (End.KL (W.sub zv (cz gc (ih0 (i + 1) (O) (o) (ho) (G) ?_ ?_)))))))))))))))))
  ·exact ⟨by omega, hO, hOx, by rw [hOc, yx zy (by simp_all)], hG, by omega⟩
  exact zo
 refine W.exit (am (aq (ap (End.K (zr (zm rfl (za rfl (zk (W.ret ?_)))))))))
 refine End.ret (z1 rfl) (hs' := G ++ ho) ⟨O, (RSl.own hO).mono (fun b o h => h.app), fun x hx => ⟨(hOx x hx).1, (hOx x hx).2.1.mono (fun b o h => h.ap1), (hOx x hx).2.2⟩, by rw [hOc, List.take_of_length_le zy], by omega, wa hG hO.w⟩ (wa hG hO.w) gc
end Go.Proofs.YtfkbfnpjggkdmaaGreatDoor.Ev
