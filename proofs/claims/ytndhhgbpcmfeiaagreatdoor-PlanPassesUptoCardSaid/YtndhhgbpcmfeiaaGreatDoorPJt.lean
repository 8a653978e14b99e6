/- Chapter 20, walks: lists of the same instructions, with what lies behind their nodes, are the same. -/
import Derived.Test.YtndhhgbpcmfeiaaGreatDoorPJp
import Derived.Test.YtndhhgbpcmfeiaaGreatDoorPInT
namespace Go.Proofs.YtndhhgbpcmfeiaaGreatDoor.Ev
open Go.RowKit
set_option maxRecDepth 100000
set_option maxHeartbeats 1000000

theorem pR (hs : ad) (hro : ∀ e ∈ hs, e.w = false) (d : ND) (A : List Int) (nk nk' : Nat) (vm vn vk va vm' vn' vk' va' : AV) (hx : IOK hs (⟨d, A, nk, vm, vn, vk, va⟩ : IE)) (hy : IOK hs (⟨d, A, nk', vm', vn', vk', va'⟩ : IE)) (hb : IBd (⟨d, A, nk, vm, vn, vk, va⟩ : IE)) (t : TD) (ht : TRep hs t (d.c vm vn vk)) (ht' : TRep hs t (d.c vm' vn' vk')) : Spec aW 26 [.agg (IE.c (⟨d, A, nk, vm, vn, vk, va⟩ : IE)), (.agg (IE.c (⟨d, A, nk', vm', vn', vk', va'⟩ : IE)))] [] hs (eW (.bool true)) := by
 refine ak (eX 26 Tryz.func26) rfl (m := 17) rfl (rs := [.tmp 4]) rfl (st := [(0, .agg (IE.c (⟨d, A, nk, vm, vn, vk, va⟩ : IE))), (1, (.agg (IE.c (⟨d, A, nk', vm', vn', vk', va'⟩ : IE))))]) rfl rfl (fun _ => rfl) (fun E => zr (WO.box rfl hx.cells (pX _ rfl) rfl (fun b1 => WO.box rfl hy.cells (pX _ rfl) rfl (fun b2 => za rfl (zk (zr (zf aV rfl 0 (zq (zL rfl (zt 1 rfl) jD iu rfl) (zf aV rfl 0 (zq (zL rfl (zt 0 rfl) jD iu rfl) (aB rfl (aY rfl (aY rfl oz)) rfl (n8 hs hro t _ _ ht ht') (SubR.t (SubR.t (aZ hro))) rfl (zm rfl (zT (zf bP rfl 11 (zT (zq (ag rfl (zt 1 rfl) eZ rfl) (zT (zf bP rfl 11 (zT (zq (ag rfl (zt 0 rfl) eZ rfl) (zT (aB rfl (aY rfl (aY rfl oz)) rfl (yw hs hro A _ _ hx.a hy.a hb.a) (SubR.t (SubR.t (aZ hro))) rfl (zq (au rfl rfl) ?_)))))))))))))))))))))))
 refine za rfl (zk (W.sub (zc 4 rfl bE) (W.ret (ab (z1 rfl) ?_))))
 rfl

theorem Bg (hs : ad) (hro : ∀ e ∈ hs, e.w = false) {x y : IE} (hx : IOK hs x) (hy : IOK hs y) (hd : x.d = y.d) (ha : x.ars = y.ars) (hb : IBd x) (hT : ∃ t, TRep hs t (x.d.c x.vm x.vn x.vk) /\ TRep hs t (y.d.c y.vm y.vn y.vk)) : Spec aW 26 [.agg x.c, .agg y.c] [] hs (eW (.bool true)) := by
 obtain ⟨d, A, nk, vm, vn, vk, va⟩ := x
 obtain ⟨d', A', nk', vm', vn', vk', va'⟩ := y
 obtain ⟨t, h1, h2⟩ := hT
 simp only at hd ha h1 h2
 subst hd ha
 exact pR hs hro d A nk nk' vm vn vk va vm' vn' vk' va' hx hy hb t h1 h2
theorem B8 (hs : ad) (hro : ∀ e ∈ hs, e.w = false) (A B : List IE) (va vb : AV) (hA : IIn hs A va) (hB : IIn hs B vb) (bA : ILB A) (bB : ILB B) (hD : D2 A = D2 B) (hT : ∀ i, i < A.length -> ∃ t, TRep hs t ((ei A i).d.c (ei A i).vm (ei A i).vn (ei A i).vk) /\ TRep hs t ((ei B i).d.c (ei B i).vm (ei B i).vn (ei B i).vk)) : Spec aW 13 [va, vb] [] hs (eW (.bool true)) := by
 have hlen : A.length = B.length := (by rw [<- aK, hD, aK])
 have hAl := bA.1
 refine ak (eX 13 Tryz.func13) rfl (m := 27) rfl (rs := [.tmp 4]) rfl (st := [(0, va), (1, vb)]) rfl rfl (fun _ => rfl) (fun E => zr (za rfl (zk (W.seq (zr (zm rfl (zq (Q.len aP rfl hA.1.len) (zm rfl (zq (Q.len aP rfl hB.1.len) (zq (aa rfl rfl rfl (bV (p := false) (by rw [hlen, er]; simp))) (zk (aN rfl (zw (W.seq (zr (za (zi 0) (zk (W.block (az (fun (i : Nat) => [(0, va), (1, vb), (5, .int .i64 ((i : Nat) : Int))]) (fun (i : Nat) => hs) (fun (i : Nat) => i <= A.length) (fun (i : Nat) => A.length - i) (0) (Nat.zero_le _) zv (SubH.refl _) (fun i hI0 ih0 => ?_))))))))))))))))))))
 have h1 := hI0
 refine W.seq (zr (zm rfl (zm rfl (zq (Q.len aP rfl hA.1.len) (zq (aa rfl rfl rfl (fi fv)) (zk (aw rfl (fun hc14 => ?_) (fun hc14 => ?_))))))))
 ·obtain ⟨ba, sza, exa, rfl, wa_, ma⟩ := hA.1.full zy
  obtain ⟨bb, szb, exb, rfl, wb_, mb⟩ := hB.1.full zy
  refine zw (W.seq (W.block (W.seq (dD (by kernel_rfl) (zm rfl (zm rfl (zq (aQ aP aC rfl rfl zo) (zq (aD rfl ma cH aC (fT zo)) (zm rfl (zm rfl (zq (aQ aP aC rfl rfl zo) (zq (aD rfl mb cH aC (fT zo)) (aB rfl (aY rfl (aY rfl oz)) rfl (Bg hs hro (hA.at zy) (hB.at (i := i) zy) (AN hD zy hlen).1 (AN hD zy hlen).2 (bA.at zy) (hT i zy)) (aZ hro) rfl (zq (Q.not rfl rfl) (zk (aN rfl (W.skip (End.KB (End.K (W.sub (zc 0 rfl (zc 1 rfl (zc 5 rfl bE))) (ay (zm rfl (zq (aa rfl (zi 1) rfl zp) (za rfl ?_))))))))))))))))))))))))
  refine WO.nil (End.KL (W.sub zv (bG (SubH.refl _) (ih0 (i + 1) ?_ ?_))))
  ·exact zy
  exact zo
 refine W.exit (aJ (aM (aI (End.K (zr (za rfl (zk (W.ret (ab (z1 rfl) ?_)))))))))
 rfl

section
variable {L X : List IE} {i : Nat} {v : AV}
theorem s6 (L : List IE) (i : Nat) : ((ei L i).nk, (ei L i).vk) = (KV L).getD i (0, .nils) := by
 unfold ei KV
 rw [List.getD_eq_getElem?_getD, List.getD_eq_getElem?_getD, List.getElem?_map]
 cases L[i]? <;> rfl
theorem CJ (h : KV X = KV L) : (ei X i).nk = (ei L i).nk := by
 have h1 := congrArg Prod.fst (s6 X i)
 have h2 := congrArg Prod.fst (s6 L i)
 rw [h] at h1
 exact h1.trans h2.symm
theorem AR (h : KV X = KV L) : (ei X i).vk = (ei L i).vk := by
 have h1 := congrArg Prod.snd (s6 X i)
 have h2 := congrArg Prod.snd (s6 L i)
 rw [h] at h1
 exact h1.trans h2.symm
theorem je (hD : D2 X = D2 L) (hK : KV X = KV L) : dE X = dE L := by
 have hl : X.length = L.length := by rw [<- aK, hD, aK]
 have ho : ∀ i, iD X i = iD L i := fun i => by
  unfold iD
  rw [CJ hK, oP, oP, hD]
 unfold dE
 simp only [hl, ho]
theorem yy {l : List AV} {j : Nat} (h : l[j]? = some v) : l.set j v = l := by
 obtain ⟨hj, rfl⟩ := List.getElem?_eq_some_iff.1 h
 exact List.set_getElem_self hj
theorem ze (h : (cI X)[(0 + i) * 12 + 10]? = some v) (hc : v.isCell = true) : bJ (cI X) ((0 + i) * 12 + 10) v.cells = cI X := by
 rw [cz hc, lK _ _ _ (List.getElem?_eq_some_iff.1 h).1]
 exact yy h
end
section
variable {hs : ad} {L X Y Z : List IE} {i j e f : Nat} {x : IE} {ks : List TD}
theorem nN (h : IOK hs x) (hb : IBd x) (hk : KidsIn hs x ks) : TRep hs (.node x.d ks) (x.d.c x.vm x.vn x.vk) := by
 obtain ⟨cs, h1, h2, h3⟩ := hk
 rw [TRep]
 exact ⟨x.vm, x.vn, x.vk, cs, rfl, h.m, h.n, h1, hb.d, h2, h3⟩
theorem mP (hD : D2 X = D2 L) (h : Need X j) : Need L j := by
 have hl : X.length = L.length := by rw [<- aK, hD, aK]
 induction h with
 | last => rw [hl]; exact .last
 | arg h1 h2 h3 ih =>
  rw [oP, hD, <- oP] at h3
  exact .arg ih zy h3
theorem qF (hD : D2 X = D2 L) : nb X = nb L := by
 funext j
 exact gR (by rw [iR, iR]; exact ⟨mP hD, mP hD.symm⟩)
theorem rc (hD : D2 X = D2 L) : gf X X.length = gf L L.length := by
 have hl : X.length = L.length := by rw [<- aK, hD, aK]
 have hp : ∀ j, j9 X j = j9 L j := fun j => by unfold j9; rw [qF hD]
 unfold gf fN
 rw [qF hD, hl]
 refine List.map_congr_left fun j _ => ?_
 rw [lz, lz, oP, oP, hD]
 simp only [hp]
theorem uN (hD : D2 X = D2 L) (hK : KV X = KV L) (h : sM X e (D2 Y)) (g : sM L f (D2 Z)) : e = f /\ D2 Y = D2 Z := by
 have hc := je hD hK
 rcases h with ⟨a, b, c⟩ | ⟨a, b, c⟩ <;> rcases g with ⟨a', b', c'⟩ | ⟨a', b', c'⟩
 ·exact ⟨by rw [b, b', hc], by rw [c, c']⟩
 ·exact absurd (hc.trans a') a
 ·exact absurd (hc.symm.trans a) a'
 ·exact ⟨by rw [b, b'], by rw [c, c', rc hD]⟩
theorem su (hD : D2 X = D2 L) (hK : KV X = KV L) (h : ou X e (D2 Y)) (g : ou L f (D2 Z)) : e = f /\ D2 Y = D2 Z := by
 have hc := je hD hK
 rcases h with ⟨a, b, c⟩ | ⟨a, b, c⟩ <;> rcases g with ⟨a', b', c'⟩ | ⟨a', b', c'⟩
 ·exact ⟨by rw [b, b', hc], by rw [c, c']⟩
 ·exact absurd (hc.trans a') a
 ·exact absurd (hc.symm.trans a) a'
 ·exact ⟨by rw [b, b'], by rw [c, c', hD]⟩
theorem ue (hD : D2 X = D2 L) (hK : KV X = KV L) (h : sJ X e (D2 Y)) (g : sJ L f (D2 Z)) : e = f /\ D2 Y = D2 Z := by
 have hc := je hD hK
 rcases h with ⟨a, b, c⟩ | ⟨a, b, c⟩ <;> rcases g with ⟨a', b', c'⟩ | ⟨a', b', c'⟩
 ·exact ⟨by rw [b, b', hc], by rw [c, c']⟩
 ·exact absurd (hc.trans a') a
 ·exact absurd (hc.symm.trans a) a'
 ·exact ⟨by rw [b, b'], by rw [c, c', hD]⟩
end
def De (n : Int) : Int := i8 .i64 (BitVec.ofInt 64 n &&& BitVec.ofInt 64 ((3 : Nat) : Int)).toNat
theorem yZ {tb : Tab} {t : TypeId} {n : Int} : bO tb .and t (.int .i64 n) (.int .i64 ((3 : Nat) : Int)) = some (.int .i64 (De n)) := by
 show (if IntKind.i64 = IntKind.i64 then fh .and .i64 _ _ else none) = _
 rw [if_pos rfl]
 rfl
section
variable {hs D Da Db : ad} {L X Y Z : List IE} {v u va vb : AV} {i : Nat}
theorem wM (hD : D2 X = D2 L) (h : ∀ x ∈ L, oo x.d) : ∀ x ∈ X, oo x.d := fun x hx => by
 have hm : (x.d, x.ars) ∈ D2 X := List.mem_map.2 ⟨x, hx, rfl⟩
 rw [hD] at hm
 obtain ⟨y, hy, e⟩ := List.mem_map.1 hm
 have := h y hy
 rw [show y.d = x.d from congrArg Prod.fst e] at this
 exact this
theorem iY (h : ROwn hs Z vb Db) : IIn (ro (Da ++ Db) ++ hs) Z vb := by
 obtain ⟨hp, hl, rfl, hO, hX, _, _⟩ := h
 refine ⟨(RIn.own hO).mono fun b o ⟨w, q⟩ => ?_, fun x hx => (hX x hx).1.mono fun b o ⟨w, q⟩ => ?_⟩
 ·obtain ⟨w', g⟩ := MemH.ro (hs := Da ++ (hp ++ hl)) (b := b) (o := o) ⟨w, by simp [q]⟩
  exact ⟨w', List.mem_append_left _ g⟩
 ·rcases List.mem_append.1 q with q | q
  ·exact ⟨w, List.mem_append_right _ q⟩
  ·obtain ⟨w', g⟩ := MemH.ro (hs := Da ++ (hp ++ hl)) (b := b) (o := o) ⟨w, by simp [q]⟩
   exact ⟨w', List.mem_append_left _ g⟩
theorem sp (h : ROwn hs Z vb Db) : ILB Z /\ ∀ x ∈ Z, x.nk = 0 := by
 obtain ⟨hp, hl, rfl, hO, hX, _, hb⟩ := h
 exact ⟨hb, fun x hx => (hX x hx).2⟩
theorem uo (hV : IIn hs L v) (hB : ILB L) (hXI : IIn D X u) (hXb : ILB X) (hD : D2 X = D2 L) (hK : KV X = KV L) (hT : ∀ i, i < L.length -> ∃ ks, KidsIn hs (ei L i) ks) (hi : i < X.length) :
  ∃ t, TRep (ro D ++ hs) t ((ei X i).d.c (ei X i).vm (ei X i).vn (ei X i).vk) /\ TRep (ro D ++ hs) t ((ei L i).d.c (ei L i).vm (ei L i).vn (ei L i).vk) := by
 have hl : X.length = L.length := by rw [<- aK, hD, aK]
 obtain ⟨ks, hk⟩ := hT i zy
 have hk2 := hk.mono (fun b o q => q.app (A := ro D))
 have e : (ei X i).d = (ei L i).d := by rw [lz, lz, hD]
 refine ⟨.node (ei L i).d ks, ?_, nN ((hV.at zy).mono fun b o q => q.app) (hB.at zy) hk2⟩
 rw [<- e]
 obtain ⟨cs, h1, h2, h3⟩ := hk2
 exact nN ((hXI.at hi).mono fun b o q => q.ro.appl') (hXb.at hi) ⟨cs, by rw [AR hK]; exact h1, h2, h3⟩
theorem Az (h : IOwn Y va Da) : Spec aW 24 [va] (Da.map (·.b)) (Da ++ []) (eW (.tuple [])) := by
 rw [List.append_nil]
 obtain ⟨hp, hl, rfl, hO, hX, hw, hb⟩ := h
 exact yF hp Y va (RIn.own hO) hb.1 hb.2 hl (fun x hx => .of hw (hX x hx).1) hw.w
end

theorem law_passes (hs : ad) (hro : ∀ e ∈ hs, e.w = false) (L : List IE) (v : AV) (hV : IIn hs L v) (hB : ILB L) (hKy : ∀ x ∈ L, oo x.d) (hT : ∀ i, i < L.length -> ∃ ks, KidsIn hs (ei L i) ks) (n : Int) : Spec aW 4 [v, .int .i64 n] [] hs (eW (.bool true)) := by
 have hBl := hB.1
 refine ak (eX 4 Tryz.func4) rfl (m := 93) rfl (rs := [.tmp 4]) rfl (st := [(0, v), (1, .int .i64 n)]) rfl rfl (fun _ => rfl) (fun E => zr (za rfl (zk (W.seq (zr (zm rfl (WO.callE rfl (aY rfl oz) rfl (wd hs hro L _ hV hB) (aZ hro) rfl (fun v12 hP12 => ?_))))))))
 obtain ⟨bf, rfl, hfw⟩ := hP12
 refine zq (Q.not rfl rfl) (zk (b9 rfl (fun hc13 => ?_) (fun hc13 => ?_)))
 ·refine zr (aB rfl oz rfl (aU (fun _ => rfl)) SubR.nil rfl (za rfl (zk (W.ret (ac (ab (z1 rfl) ?_))))))
  rfl
 refine zw (zr (zm rfl (WO.call0 rfl (aY rfl oz) rfl (yg hs hro L _ hV hB) (aZ hro) rfl (fun v16 D16 hP16 => ?_))))
 obtain ⟨X, hD1, hKV, hp, hl, hDD, hO, hX, hXbl⟩ := hP16
 have hXl : X.length = L.length := (by rw [<- aK, hD1, aK])
 have hXI : IIn D16 X v16 := (by rw [hDD]; exact ⟨(RIn.own hO).appl, fun x hx => (hX x hx).mono (fun b o q => q.app)⟩)
 have hKyX : ∀ x ∈ X, oo x.d := wM hD1 hKy
 refine WO.subH (hs' := (hs ++ D16)) (SubH.op (bU (N := []) (G := D16) (K := []) (X := hs))) (za rfl (zk (W.seq (zr (za (zi 0) (zk (W.block (az (fun (i : Nat) => [(0, v), (1, .int .i64 n), (5, v16), (6, .int .i64 ((i : Nat) : Int))]) (fun (i : Nat) => (hs ++ D16)) (fun (i : Nat) => i <= L.length) (fun (i : Nat) => L.length - i) (0) (Nat.zero_le _) zv (SubH.refl _) (fun i hI0 ih0 => ?_)))))))))
 have h1 := hI0
 refine W.seq (zr (zm rfl (zm rfl (zq (Q.len aP rfl hV.1.len) (zq (aa rfl rfl rfl (fi fv)) (zk (aw rfl (fun hc20 => ?_) (fun hc20 => ?_))))))))
 ·obtain ⟨bv, szv, exv, rfl, wv, mv⟩ := hV.1.full zy
  subst hDD
  obtain ⟨bo, exo, rfl, rfl⟩ := hO.full zy
  refine bG (hs' := ⟨bo, ⟨12, exo, cI X⟩, true⟩ :: (hs ++ hl)) gc (zw (W.seq (W.block (ay (zm rfl (zm rfl (zm rfl (zm rfl (zq (aQ aP aC rfl rfl zo) (zq (Q.fieldAddr aV rfl rfl) (zq (Q.fieldAddr cG rfl rfl) (zq (ag rfl (List.mem_cons_of_mem _ (List.mem_append_left _ mv)) jN (gG 10 zo rfl)) (zq (aQ aP aC rfl rfl zo) (zq (Q.fieldAddr aV rfl rfl) (zq (Q.fieldAddr cG rfl rfl) (WO.store CV rfl rfl (i := 0) rfl (rA (hV.at zy).k.cell (by rw [Nat.ble_eq, vw]; omega)) (ze (gG 10 zy (congrArg some (AR hKV))) (hV.at zy).k.cell) (hs' := _ :: _) rfl (WO.nil (End.KB (End.K (W.sub (zc 0 rfl (zc 1 rfl (zc 5 rfl (zc 6 rfl bE)))) (ay (zm rfl (zq (aa rfl (zi 1) rfl zp) (za rfl ?_))))))))))))))))))))))))
  refine WO.nil (End.KL (W.sub zv (bG gc (ih0 (i + 1) ?_ ?_))))
  ·exact zy
  exact zo
 refine W.exit (aJ (aM (aI (End.K (zr (za rfl (za rfl (zk (zr (za (zi 0) (za (zi 0) (zk (yT (fun (e : Nat) (Y : List IE) (va : AV) (Da : ad) (Z : List IE) (vb : AV) (Db : ad) => [(0, v), (5, v16), (7, va), (8, vb), (9, .int .i64 ((e : Nat) : Int)), (10, .int .i64 ((e : Nat) : Int))]) (fun (e : Nat) (Y : List IE) (va : AV) (Da : ad) (Z : List IE) (vb : AV) (Db : ad) => (hs ++ D16 ++ Da ++ Db)) (fun (e : Nat) (Y : List IE) (va : AV) (Da : ad) (Z : List IE) (vb : AV) (Db : ad) => IOwn Y va Da /\ ROwn hs Z vb Db /\ D2 Y = D2 Z) (fun e Y va Da Z vb Db hI21 => ?_) (fun hJ21 => ?_))))))))))))))
 ·obtain ⟨hYo, hZo, hDE⟩ := hI21
  have hYi := hYo.iin
  have hZi := iY (Da := Da) hZo
  obtain ⟨hZb, hZn⟩ := sp hZo
  refine W.seq (zr (zm rfl (zm rfl (zq (aa rfl rfl rfl ew) (zm rfl (zT (zm rfl (zT (zm rfl (zT (aB rfl (aY rfl (aY rfl oz)) rfl (B9 (ro (Da ++ Db) ++ hs) (gy hro) Y Z _ _ (hYi.mono (fun b o q => q.appl'.ro.appl')) (iY hZo) hYo.lb hZb hYo.nk hZn hDE) (dH gc hro) rfl (zT (zq (Q.not rfl rfl) (zq (aG rfl rfl) (zk (aN rfl (zw (zr (zm rfl (uV (M := Da) (A := (hs ++ D16 ++ Db)) rfl (aY rfl oz) rfl hYo.w gc (Az hYo) SubR.nil rfl (fun v86 D86 hP86 => ?_)))))))))))))))))))))
  obtain ⟨rfl, rfl⟩ := hP86
  refine WO.subH (hs' := (hs ++ D16 ++ Db)) (SubH.refl _) (zk (W.sub (zc 0 rfl (zc 5 rfl bE)) (zr (zm rfl (zm rfl (aB rfl (aY rfl (aY rfl oz)) rfl (B8 (ro D16 ++ hs) (gy hro) X L _ _ (hXI.ro.appl) hV.app hXbl hB hD1 (fun i hi => uo hV hB hXI hXbl hD1 hKV hT hi)) (dH gc hro) rfl (zm rfl (zT (aB rfl oz rfl (aU (fun _ => rfl)) SubR.nil rfl (zq (au rfl rfl) (za rfl (zk (W.ret (ab (z1 rfl) ?_))))))))))))))
  rfl
 refine zr (zm rfl (zq (aa rfl (zi 3) rfl yZ) (zk (W.block (zr (zq (aa rfl (zi 0) rfl (bz bW)) (za rfl (zk (aw rfl (fun hc40 => ?_) (fun hc40 => ?_))))))))))
 ·refine zr (zm rfl (WO.call0 rfl (aY rfl oz) rfl (uf (ro D16) uG X _ hXI.ro hXbl) (SubR.ro gc) rfl (fun v44 D44 hP44 => ?_)))
  obtain ⟨e1, Y1, w1, hR1, hO1, rfl⟩ := hP44
  have hY1 := hO1.iin
  refine WO.subH (hs' := (hs ++ D16 ++ D44)) (SubH.op (bU (N := []) (G := D44) (K := []) (X := hs ++ D16))) (zm rfl (zq (Q.extract rfl rfl) (zq (Q.extract rfl rfl) (za rfl (za rfl (zk (W.sub (zc 9 rfl (zc 7 rfl (zc 0 rfl (zc 5 rfl bE)))) (ay (zm rfl (WO.call0 rfl (aY rfl oz) rfl (sn hs hro L _ hV hB) (SubR.appl (SubR.appl (aZ hro))) rfl (fun v49 D49 hP49 => ?_)))))))))))
  obtain ⟨e2, Y2, w2, hR2, hO2, rfl⟩ := hP49
  have hY2 := iY (Da := []) hO2
  obtain ⟨rfl, hDE⟩ := ue hD1 hKV hR1 hR2
  refine WO.subH (hs' := (hs ++ D16 ++ D44 ++ D49)) (SubH.op (bU (N := []) (G := D49) (K := []) (X := hs ++ D16 ++ D44))) (zm rfl (zq (Q.extract rfl rfl) (zq (Q.extract rfl rfl) (za rfl (za rfl (WO.nil (End.KB (End.K (W.sub zv (bG gc (hJ21 (e1) (Y1) (w1) (D44) (Y2) (w2) (D49) ?_)))))))))))
  exact ⟨hO1, hO2, hDE⟩
 refine zr (zq (aa rfl (zi 1) rfl (bz bW)) (za rfl (zk (aw rfl (fun hc52 => ?_) (fun hc52 => ?_)))))
 ·refine zr (zm rfl (WO.call0 rfl (aY rfl oz) rfl (sw (ro D16) uG X _ hXI.ro hXbl hKyX) (SubR.ro gc) rfl (fun v56 D56 hP56 => ?_)))
  obtain ⟨e1, Y1, w1, hR1, hO1, rfl⟩ := hP56
  have hY1 := hO1.iin
  refine WO.subH (hs' := (hs ++ D16 ++ D56)) (SubH.op (bU (N := []) (G := D56) (K := []) (X := hs ++ D16))) (zm rfl (zq (Q.extract rfl rfl) (zq (Q.extract rfl rfl) (za rfl (za rfl (zk (W.sub (zc 9 rfl (zc 7 rfl (zc 0 rfl (zc 5 rfl bE)))) (ay (zm rfl (WO.call0 rfl (aY rfl oz) rfl (qR hs hro L _ hV hB) (SubR.appl (SubR.appl (aZ hro))) rfl (fun v61 D61 hP61 => ?_)))))))))))
  obtain ⟨e2, Y2, w2, hR2, hO2, rfl⟩ := hP61
  have hY2 := iY (Da := []) hO2
  obtain ⟨rfl, hDE⟩ := su hD1 hKV hR1 hR2
  refine WO.subH (hs' := (hs ++ D16 ++ D56 ++ D61)) (SubH.op (bU (N := []) (G := D61) (K := []) (X := hs ++ D16 ++ D56))) (zm rfl (zq (Q.extract rfl rfl) (zq (Q.extract rfl rfl) (za rfl (za rfl (WO.nil (End.KB (End.K (W.sub zv (bG gc (hJ21 (e1) (Y1) (w1) (D56) (Y2) (w2) (D61) ?_)))))))))))
  exact ⟨hO1, hO2, hDE⟩
 refine zr (zq (aa rfl (zi 2) rfl (bz bW)) (za rfl (zk (W.sub (zc 64 rfl (zc 8 rfl (zc 7 rfl (zc 0 rfl (zc 5 rfl bE))))) (aw rfl (fun hc64 => ?_) (fun hc64 => ?_))))))
 ·refine zr (zm rfl (WO.call0 rfl (aY rfl oz) rfl (uO (ro D16) uG X _ hXI.ro hXbl) (SubR.ro gc) rfl (fun v68 D68 hP68 => ?_)))
  obtain ⟨e1, Y1, w1, hR1, hO1, rfl⟩ := hP68
  have hY1 := hO1.iin
  refine WO.subH (hs' := (hs ++ D16 ++ D68)) (SubH.op (bU (N := []) (G := D68) (K := []) (X := hs ++ D16))) (zm rfl (zq (Q.extract rfl rfl) (zq (Q.extract rfl rfl) (za rfl (za rfl (zk (ay (zm rfl (WO.call0 rfl (aY rfl oz) rfl (sq hs hro L _ hV hB) (SubR.appl (SubR.appl (aZ hro))) rfl (fun v73 D73 hP73 => ?_))))))))))
  obtain ⟨e2, Y2, w2, hR2, hO2, rfl⟩ := hP73
  have hY2 := iY (Da := []) hO2
  obtain ⟨rfl, hDE⟩ := uN hD1 hKV hR1 hR2
  refine WO.subH (hs' := (hs ++ D16 ++ D68 ++ D73)) (SubH.op (bU (N := []) (G := D73) (K := []) (X := hs ++ D16 ++ D68))) (zm rfl (zq (Q.extract rfl rfl) (zq (Q.extract rfl rfl) (za rfl (za rfl (WO.nil (End.KB (End.K (W.sub zv (bG gc (hJ21 (e1) (Y1) (w1) (D68) (Y2) (w2) (D73) ?_)))))))))))
  exact ⟨hO1, hO2, hDE⟩
 refine ay (zm rfl (aB rfl (aY rfl oz) rfl (show Spec aW 22 [v16] [] (ro D16) (eW (.int .i64 ((dE L : Nat) : Int))) from by rw [<- je hD1 hKV]; exact jT (ro D16) uG X _ hXI.ro hXbl) (SubR.ro gc) rfl (zm rfl (aB rfl (aY rfl oz) rfl (jk hs hro L _ hV hB) (SubR.appl (aZ hro)) rfl (za rfl (za rfl (WO.nil (End.KB (End.K (W.sub zv (bG gc (hJ21 (dE L) ([]) (.nils) ([]) ([]) (.nils) ([]) ?_))))))))))))
 exact ⟨IOwn.nil, ROwn.nil, rfl⟩

end Go.Proofs.YtndhhgbpcmfeiaaGreatDoor.Ev
