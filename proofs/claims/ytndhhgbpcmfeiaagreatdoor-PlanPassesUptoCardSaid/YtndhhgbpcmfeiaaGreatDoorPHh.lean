/- What the tables say of types. -/
import Derived.Test.YtndhhgbpcmfeiaaGreatDoorPGb
import Derived.Test.YtndhhgbpcmfeiaaGreatDoorPAwJ
import Derived.Test.YtndhhgbpcmfeiaaGreatDoorPAwH
import Derived.Test.YtndhhgbpcmfeiaaGreatDoorPGg
import Derived.Test.YtndhhgbpcmfeiaaGreatDoorPInC
import Derived.Test.YtndhhgbpcmfeiaaGreatDoorPGf
namespace Go.Proofs.YtndhhgbpcmfeiaaGreatDoor.Ev.P16
open Go.RowKit
set_option maxRecDepth 100000
set_option maxHeartbeats 1000000
def P3 (X A : List Nat) : Prop := X.getD 0 0 = A.getD 0 0 /\ X.getD 1 0 = A.getD 1 0 /\ X.getD 2 0 = A.getD 2 0
instance (X A : List Nat) : Decidable (P3 X A) := by unfold P3; infer_instance
section
variable {tb : Tab} {n : Nat} {E : Env} {s : St} {hs : ad} {R : T AV -> AHeap -> Prop} {ops rest : List Oper} {d : Nat} {ty : TypeId} {pos : String} {aft : Array Edge} {t : TypeId}
end
section
variable {tb : Tab} {n : Nat} {E : Env} {s : St} {hs : ad} {a b : Code} {Q : Ex -> T AV -> AHeap -> Prop}
end
noncomputable instance decHE : DecidableEq HE := fun a b => Classical.propDecidable (a = b)
section
variable {tb : Tab} {n : Nat} {E : Env} {s : St} {hs : ad} {a b : Code} {Q : Ex -> T AV -> AHeap -> Prop}
end
end Go.Proofs.YtndhhgbpcmfeiaaGreatDoor.Ev.P16
/- The parser's trees are trees. -/
namespace Go.Proofs.YtndhhgbpcmfeiaaGreatDoor.Ev
open Go.RowKit
def oo (d : ND) : Prop := d.op.length <= 1048576 /\ yN d.kd
section
variable {hs : ad} {v : AV}
end
set_option maxRecDepth 100000
set_option maxHeartbeats 1000000
theorem pX : ∀ l : List AV, l.length = 12 -> bX aW 42 l = ⟨12, true, l⟩ := by intro l h; exact ko (by kernel_rfl) h
theorem yw (hs : ad) (hro : ∀ e ∈ hs, e.w = false) (A : List Int) (va vb : AV) (hA : RIn hs 1 A.length (cA A) va) (hB : RIn hs 1 A.length (cA A) vb) (hAl : A.length <= 1048576) : Spec aW 52 [va, vb] [] hs (eW (.bool true)) := by
 refine ak (eX 52 Tryz.func52) rfl (m := 26) rfl (rs := [.tmp 4]) rfl (st := [(0, va), (1, vb)]) rfl rfl (fun _ => rfl) (fun E => zr (za rfl (zk (W.seq (zr (zm rfl (zq (Q.len bh rfl hA.len) (zm rfl (zq (Q.len bh rfl hB.len) (zq (aa rfl rfl rfl ew) (zk (aN rfl (zw (W.seq (zr (za (zi 0) (zk (W.block (az (fun (i : Nat) => [(0, va), (1, vb), (5, .int .i64 ((i : Nat) : Int))]) (fun (i : Nat) => hs) (fun (i : Nat) => i <= A.length) (fun (i : Nat) => A.length - i) (0) (Nat.zero_le _) zv (SubH.refl _) (fun i hI0 ih0 => ?_))))))))))))))))))))
 have h1 := hI0
 refine W.seq (zr (zm rfl (zm rfl (zq (Q.len bh rfl hA.len) (zq (aa rfl rfl rfl (fi fv)) (zk (aw rfl (fun hc14 => ?_) (fun hc14 => ?_))))))))
 ·obtain ⟨ba, sza, exa, rfl, wa_, ma⟩ := hA.full zy
  obtain ⟨bb, szb, exb, rfl, wb_, mb⟩ := hB.full zy
  refine zw (W.seq (W.block (W.seq (dD (by kernel_rfl) (zm rfl (zm rfl (zq (aQ bh fP rfl rfl zo) (zq (ag rfl ma dn (iA zo)) (zm rfl (zm rfl (zq (aQ bh fP rfl rfl zo) (zq (ag rfl mb dn (iA zo)) (zq (aa rfl rfl rfl ew) (zk (aN rfl (W.skip (End.KB (End.K (ay (zm rfl (zq (aa rfl (zi 1) rfl zp) (za rfl (WO.nil (End.KL ?_))))))))))))))))))))))))
  refine W.sub zv (bG (SubH.refl _) (ih0 (i + 1) ?_ ?_))
  ·exact zy
  exact zo
 refine W.exit (aJ (aM (aI (End.K (zr (za rfl (zk (W.ret (ab (z1 rfl) ?_)))))))))
 rfl

theorem AN {A B : List IE} (h : D2 A = D2 B) {i : Nat} (hi : i < A.length) (hl : A.length = B.length) : (ei A i).d = (ei B i).d /\ (ei A i).ars = (ei B i).ars := by
 have h1 : (D2 A)[i]? = (D2 B)[i]? := by rw [h]
 unfold D2 at h1
 rw [List.getElem?_map, List.getElem?_map, ei_at hi, ei_at zy] at h1
 have h2 := Option.some.inj h1
 exact ⟨congrArg Prod.fst h2, congrArg Prod.snd h2⟩
noncomputable section
def Cg (l : List Oper) (k : Nat) : Bool :=
 l.zipIdx.all fun (o, i) => !(cC o.op) || Nat.beq i k || (if Nat.blt i k then ((am l []).getD k 0).testBit i else ((am l []).getD i 0).testBit k)
def uS (tb : Tab) (l : List Oper) (es : List Ent) : Prop := ∀ e ∈ es, e.kind = 1 -> e.v.beq e.v = true /\ (Cg l e.i = false -> ∀ H, nw tb e.tm H e.o.op = some e.v)
section
variable {tb : Tab} {n : Nat} {E : Env} {s : St} {hs : ad} {R : T AV -> AHeap -> Prop} {ops rest : List Oper} {d : Nat} {ty : TypeId} {pos : String} {aft : Array Edge} {t : TypeId} {i : Nat}
def WX (tb : Tab) (n : Nat) (ops : List Oper) (i : Nat) (rest : List Oper) (E : Env) (s : St) (hs : ad) (R : T AV -> AHeap -> Prop) : Prop :=
 ∀ tm h, Has tm s -> HS E hs h -> ∃ es ms tm' h', aS tb (av (Ev.callE tb)) n ops i rest tm h = some (es, ms, tm', h') /\ uS tb ops es /\ ∀ TM, SubT tm' TM -> R TM h'
theorem WX.nil (h : End E s hs R) : WX tb n ops i [] E s hs R :=
 fun tm hp ht hh => ⟨[], [], tm, hp, rfl, fun e he => by simp at he, fun TM hT => h TM hp (ht.mono hT) hh⟩
theorem pE {tm tm1 : T AV} {h h1 : AHeap} {o : Oper} {v : AV} {k : Nat} (he : gZ tb (av (Ev.callE tb)) ops tm h o = some (v, h1, k)) (hp : bc tm n o.dst v = some tm1)
  (hq : k = 1 -> v.beq v = true /\ (Cg ops i = false -> ∀ H, nw tb tm H o.op = some v))
  (hk : ∃ es ms tm' h', aS tb (av (Ev.callE tb)) n ops (i + 1) rest tm1 h1 = some (es, ms, tm', h') /\ uS tb ops es /\ ∀ TM, SubT tm' TM -> R TM h') :
  ∃ es ms tm' h', aS tb (av (Ev.callE tb)) n ops i (o :: rest) tm h = some (es, ms, tm', h') /\ uS tb ops es /\ ∀ TM, SubT tm' TM -> R TM h' := by
 obtain ⟨es, ms, tm2, h2, e, hG, hR⟩ := hk
 refine ⟨_, _, tm2, h2, by unfold aS; simp only [he, hp, e]; rfl, fun x hx hx1 => ?_, hR⟩
 rcases List.mem_cons.1 hx with rfl | hx
 ·exact hq hx1
 ·exact hG x hx hx1
theorem WX.q {op : Op} {v : AV} (hs_ : Cg ops i = true) (hq : QV tb s hs op v) (hb : v.beq v = true) (hd : Nat.blt d n = true) (hk : WX tb n ops (i + 1) rest E ((d, v) :: s) hs R) :
  WX tb n ops i (⟨some d, op, ty, pos, aft, none⟩ :: rest) E s hs R := by
 intro tm h ht hh
 have hv : ∀ call, cQ tb call tm h op = .q (some v) := hq tm h ht hh.keep
 refine pE (v := v) (k := 1) (h1 := h) (tm1 := tm.set d v) ?_ (aT hd) (fun _ => ⟨hb, fun g => by rw [hs_] at g; cases g⟩) (hk _ _ (ht.set d v) hh)
 unfold gZ
 have : aF ops tm ⟨some d, op, ty, pos, aft, none⟩ = some true := rfl
 rw [this]
 simp only [hv]
theorem WX.f {op : Op} {v : AV} (hq : QV tb s [] op v) (hb : v.beq v = true) (hd : Nat.blt d n = true) (hk : WX tb n ops (i + 1) rest E ((d, v) :: s) hs R) :
  WX tb n ops i (⟨some d, op, ty, pos, aft, none⟩ :: rest) E s hs R := by
 intro tm h ht hh
 have hv : ∀ H call, cQ tb call tm H op = .q (some v) := fun H => hq tm H ht fun e he => by simp at he
 refine pE (v := v) (k := 1) (h1 := h) (tm1 := tm.set d v) ?_ (aT hd) (fun _ => ⟨hb, fun _ H => by unfold nw; rw [hv]⟩) (hk _ _ (ht.set d v) hh)
 unfold gZ
 have : aF ops tm ⟨some d, op, ty, pos, aft, none⟩ = some true := rfl
 rw [this]
 simp only [hv]
theorem WX.store {ox oy : Operand} {j b o q : Nat} {ob : AObj} {v : AV} {cs : List AV} {hs' : ad} (hz : tb.size t = some q) (hx : oL s ox = some (.ptr b o)) (hy : oL s oy = some v) (hm : hs[j]? = some ⟨b, ob, true⟩)
  (hb : (Nat.beq v.cells.length q && Nat.ble (o + q) ob.cells.length && v.cells.all AV.isCell) = true) (hc : bJ ob.cells o v.cells = cs) (hs_ : hs.set j ⟨b, ⟨ob.sz, ob.exact_, cs⟩, true⟩ = hs')
  (hk : WX tb n ops (i + 1) rest E s hs' R) (hz0 : Nat.blt 0 ob.sz = true := by rfl) : WX tb n ops i (⟨none, .store t ox oy, ty, pos, aft, none⟩ :: rest) E s hs R := by
 intro tm h ht hh
 subst hs_
 have hH := hh.put (ob' := ⟨ob.sz, ob.exact_, cs⟩) hm
 refine pE (v := .tuple []) (k := 2) (h1 := ⟨h.next, h.objs.set b ⟨ob.sz, ob.exact_, cs⟩⟩) (tm1 := tm) ?_ rfl (fun h => by cases h) (hk tm _ ht hH)
 unfold gZ
 have : aF ops tm ⟨none, .store t ox oy, ty, pos, aft, none⟩ = some true := rfl
 rw [this]
 have he : cQ tb (av (Ev.callE tb)) tm h (.store t ox oy) = .l (some (.tuple [], ⟨h.next, h.objs.set b ⟨ob.sz, ob.exact_, cs⟩⟩)) := by
  show Res.l (df tb tm h t ox oy) = _
  unfold df
  simp only [aX ht hx, aX ht hy]
  unfold kU
  have h1 := (hh.at_ _ (eo hm)).1
  simp only at h1
  simp only [hz, h1, hb, hc, hz0]
 simp only [he]
end

end
theorem uV {tb : Tab} {n : Nat} {E : Env} {s : St} {hs : ad} {R : T AV -> AHeap -> Prop} {ops rest : List Oper} {d : Nat} {ty : TypeId} {pos : String} {aft : Array Edge} {of : Operand} {args : List Operand} {ts : Array TypeId} {g : Nat} {caps l l' : List AV} {M A hsc : ad} {Post : AV -> ad -> Prop} (hf : oL s of = some (.func g caps)) (ha : pI s args = some l) (hl : l ++ caps = l')
  (hM : ∀ e ∈ M, e.w = true) (hs_ : SubH (M ++ A) hs) (hsp : Spec tb g l' (M.map (·.b)) (M ++ hsc) Post) (hsub : SubR hsc A) (hd : Nat.blt d n = true)
  (hk : ∀ v D, Post v D -> WO tb n ops rest E ((d, v) :: s) (D ++ A) R) :
  WO tb n ops (⟨some d, .call ⟨.value of, args.toArray, ts⟩, ty, pos, aft, none⟩ :: rest) E s hs R := by
 refine WO.l (s' := s) fun tm h ht hh0 => ?_
 have hh := hh0.sub hs_
 have hnd := hh.nd
 rw [List.map_append] at hnd
 obtain ⟨n1, n2, n3⟩ := List.nodup_append.1 hnd
 have hne : ∀ e ∈ A, e.b ∉ M.map (·.b) := fun e he hm => n3 e.b hm e.b (List.mem_map.2 ⟨e, he, rfl⟩) rfl
 have hA : ∀ e ∈ A, _ := fun e he => hh.at_ e (List.mem_append_right _ he)
 have hMa : ∀ e ∈ M, _ := fun e he => hh.at_ e (List.mem_append_left _ he)
 have hin : HS ⟨h, M.map (·.b)⟩ (M ++ hsc) h := by
  refine ⟨fun e he => ?_, ?_, Fr.refl _ _⟩
  ·rcases List.mem_append.1 he with he | he
   ·exact ⟨(hMa e he).1, (hMa e he).2.1, fun _ => .inr (List.mem_map.2 ⟨e, he, rfl⟩)⟩
   ·obtain ⟨hw, w, hm⟩ := hsub.1 e he
    obtain ⟨a1, a2, a3⟩ := hA _ hm
    exact ⟨a1, a2, fun h' => by rw [hw] at h'; cases h'⟩
  ·rw [List.map_append]
   refine List.nodup_append.2 ⟨n1, hsub.2 n2, ?_⟩
   intro a ha' b hb hab
   obtain ⟨y, hy, rfl⟩ := List.mem_map.1 hb
   obtain ⟨hw, w, hm⟩ := hsub.1 y hy
   exact hne _ hm (hab ▸ ha')
 obtain ⟨v, h', D, hE, hP, hw, hD⟩ := hsp h hin
 have hfr := hD.fr
 have hback : HS E (D ++ A) h' := by
  refine ⟨fun e he => ?_, ?_, ?_, fun c hc hcS => ?_⟩
  ·rcases List.mem_append.1 he with he | he
   ·obtain ⟨a1, a2, a3⟩ := hD.at_ e he
    refine ⟨a1, a2, fun hw' => ?_⟩
    rcases a3 hw' with b1 | b1
    ·exact .inl (Nat.le_trans hh.fr.1 b1)
    ·obtain ⟨x, hx, hxe⟩ := List.mem_map.1 b1
     rw [<- hxe]
     exact (hMa x hx).2.2 (hM x hx)
   ·obtain ⟨a1, a2, a3⟩ := hA e he
    refine ⟨?_, Nat.lt_of_lt_of_le a2 hfr.1, a3⟩
    rw [hfr.2 e.b a2 (hne e he)]
    exact a1
  ·rw [List.map_append]
   refine List.nodup_append.2 ⟨hD.nd, n2, ?_⟩
   intro a ha' b hb' hab
   obtain ⟨x, hx, rfl⟩ := List.mem_map.1 ha'
   obtain ⟨y, hy, rfl⟩ := List.mem_map.1 hb'
   have h1 := (hA y hy).2.1
   have hab : x.b = y.b := hab
   rcases (hD.at_ x hx).2.2 (hw x hx) with b1 | b1
   ·have b1 : h.next <= x.b := b1
    omega
   ·exact hne y hy (hab ▸ b1)
  ·exact Nat.le_trans hh.fr.1 hfr.1
  ·have hcb : c ∉ M.map (·.b) := by
    intro hm
    obtain ⟨x, hx, rfl⟩ := List.mem_map.1 hm
    rcases (hMa x hx).2.2 (hM x hx) with g | g
    ·omega
    ·exact hcS g
   rw [hfr.2 c (Nat.lt_of_lt_of_le hc hh.fr.1) hcb]
   exact hh.fr.2 c hc hcS
 refine ⟨v, h', tm.set d v, ?_, aT hd, hk v D hP _ _ (ht.set d _) hback⟩
 show Res.l (bT tm h (av (Ev.callE tb)) of args.toArray) = _
 unfold bT
 simp only [aX ht hf, kO ht ha]
 subst hl
 rw [jd hE]
theorem Spec.sub {tb : Tab} {f : Nat} {args : List AV} {S : List Nat} {hs hs' : ad} {Post : AV -> ad -> Prop} (h : Spec tb f args S hs Post) (g : SubH hs hs') : Spec tb f args S hs' Post := fun h0 hh => h h0 (hh.sub g)
section
variable {hs hl hl3 ha hp : ad} {W W2 W3 : List IE} {ks : List TD} {i : Nat} {L : List (ND × List Int)} {d : ND} {vm vn ar v : AV} {A : List Int}
end

theorem CK {u v : AV} (h : v.isCell = true) : bJ [u] 0 v.cells = [v] := by rw [cz h]; rfl
theorem Dk : aW.size 30 = some 1 := by kernel_rfl
theorem Df : AO aW 30 = some ⟨1, true, [.nils]⟩ := by kernel_rfl
section
variable {Z : List IE} {w : AV} {hp hl D D0 T0 : ad}
end
end Go.Proofs.YtndhhgbpcmfeiaaGreatDoor.Ev
