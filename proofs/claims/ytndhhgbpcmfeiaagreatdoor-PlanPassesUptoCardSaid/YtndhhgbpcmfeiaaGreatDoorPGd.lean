/- Chapter 20, walks: copies of nodes and of places. -/
import Derived.Test.YtndhhgbpcmfeiaaGreatDoorPGb
namespace Go.Proofs.YtndhhgbpcmfeiaaGreatDoor.Ev
open Go.RowKit
set_option maxRecDepth 100000
theorem oK {tb : Tab} {t e : Nat} (hu : tb.und t = some (.slice e)) : bO tb .eql t .nils .nils = some (.bool true) := by
 show (match fc tb 20 t .nils .nils with | some b => some (AV.bool b) | none => none) = _
 unfold fc
 simp only [hu]
 rfl
theorem oM {tb : Tab} {t e b o n z : Nat} (hu : tb.und t = some (.slice e)) : bO tb .eql t (.slice b o n z) .nils = some (.bool false) := by
 show (match fc tb 20 t (.slice b o n z) .nils with | some b => some (AV.bool b) | none => none) = _
 unfold fc
 simp only [hu]
 rfl
theorem cz {v : AV} (h : v.isCell = true) : v.cells = [v] := by cases v <;> first | rfl | cases h
theorem rA {v : AV} {o n : Nat} (h : v.isCell = true) (hle : Nat.ble (o + 1) n = true) : (Nat.beq v.cells.length 1 && Nat.ble (o + 1) n && v.cells.all AV.isCell) = true := by
 rw [cz h, hle]; simp [h]
theorem AS {a0 a1 a2 a3 v : AV} {b : List AV} (h : v.isCell = true) : bJ (a0 :: a1 :: a2 :: a3 :: b) 3 v.cells = a0 :: a1 :: a2 :: v :: b := by
 rw [cz h]; simp [bJ]
theorem AT {a0 a1 a2 a3 a4 a5 a6 a7 v : AV} {b : List AV} (h : v.isCell = true) : bJ (a0 :: a1 :: a2 :: a3 :: a4 :: a5 :: a6 :: a7 :: b) 7 v.cells = a0 :: a1 :: a2 :: a3 :: a4 :: a5 :: a6 :: v :: b := by
 rw [cz h]; simp [bJ]
theorem lK : ∀ (l : List AV) (j : Nat) (v : AV), j < l.length -> bJ l j [v] = l.set j v
 | x :: l, 0, v, _ => by simp [bJ]
 | x :: l, j + 1, v, h => by simp only [bJ, List.set_cons_succ, lK l j v (by simpa using h)]
theorem ep {d : ND} {vm vn vk : AV} (hm : vm.isCell = true) (hn : vn.isCell = true) (hk : vk.isCell = true) : (((AV.agg (d.c vm vn vk)).cells).all AV.isCell) = true := by
 show ((d.c vm vn vk).all AV.isCell) = true
 simp only [ND.c, iT, List.all_cons, List.all_nil, hm, hn, hk, Bool.and_true, Bool.true_and]
 rfl
theorem CP {d : ND} {vm vn : AV} (hm : vm.isCell = true) (hn : vn.isCell = true) : (Nat.beq (AV.agg (d.c vm vn .nils)).cells.length 11 && Nat.ble (0 + 11) 11 && ((AV.agg (d.c vm vn .nils)).cells).all AV.isCell) = true := dp rfl (ep hm hn rfl)
theorem gj {A : List Int} {q : Nat} (h : q < A.length) : ai A q ∈ A := List.mem_of_getElem? (iz h)
theorem kx {A : List Int} {q : Nat} (h : q < A.length) (g : 0 <= ai A q) : (cA A)[(0 + q) * 1]? = some (.int .i64 (((ai A q).toNat : Nat) : Int)) := by
 rw [iA h, Int.toNat_of_nonneg g]
def ez (U A : List Int) : List Int := A.map fun a => ai U a.toNat
theorem tA {U A : List Int} {i : Nat} (h : i < A.length) : cA (ez U (A.take (i + 1))) = cA (ez U (A.take i)) ++ [.int .i64 (ai U (ai A i).toNat)] := by
 rw [List.take_add_one, iz h]
 unfold ez cA
 rw [List.map_append, List.map_append]; rfl
theorem jp : aW.isAgg 22 = some false := by kernel_rfl
theorem jq : aW.isAgg 23 = some false := by kernel_rfl
theorem jD : aW.isAgg 26 = some true := by kernel_rfl
theorem Cu : AO aW 26 = some ⟨11, true, [.int .i64 0, .str [], .int .i64 0, .nils, .int .i64 0, .int .i64 0, .int .i64 0, .nils, .int .i64 0, .bool false, .nils]⟩ := by kernel_rfl
theorem sR : AP aW 22 22 = some 3 := by kernel_rfl
theorem sS : AP aW 23 23 = some 1 := by kernel_rfl
theorem cY : AP aW 40 40 = some 1 := by kernel_rfl
theorem rz : ∀ l : List AV, l.length = 11 -> bX aW 26 l = ⟨11, true, l⟩ := by intro l h; exact ko (by kernel_rfl) h
theorem dr : FA aW 26 3 = some (3, 0 + 1) := by kernel_rfl
theorem dt : FA aW 26 7 = some (7, 0 + 1) := by kernel_rfl
theorem CT : aW.size 22 = some 1 := by kernel_rfl
theorem CU : aW.size 23 = some 1 := by kernel_rfl
theorem CV : aW.size 24 = some 1 := by kernel_rfl
theorem iu : aW.size 26 = some 11 := by kernel_rfl
theorem yO : aW.size 9 = some 1 := by kernel_rfl
theorem jt : aW.size 91 = some 3 := by kernel_rfl
theorem gz : aW.und 22 = some (.slice 91) := by kernel_rfl
theorem gA : aW.und 23 = some (.slice 9) := by kernel_rfl
theorem sI : aW.zero 3 = some (.int .i64 0) := by kernel_rfl
theorem Du : aW.zero 9 = some (.str []) := by kernel_rfl
theorem C2 : aW.zero 91 = some (.agg [.int .i64 0, .str [], .str []]) := by kernel_rfl
theorem zj  : Spec aW 69 [.nils] [] [] (eW (.nils)) := by
 refine ak (eX 69 Tryz.func69) rfl (m := 8) rfl (rs := [.tmp 2]) rfl (st := [(0, .nils)]) rfl rfl (fun _ => rfl) (fun E => zr (za rfl (zk (W.seq (zr (zm rfl (zq (aa rfl rfl rfl (oK gz)) (zk (aO rfl (zr (za rfl (zk (W.ret (ac (ab (z1 rfl) ?_)))))))))))))))
 rfl

theorem vF (hs : ad) (hro : ∀ e ∈ hs, e.w = false) (n : Nat) (cells : List AV) (b : Nat) (ha : RIn hs 3 n cells (.slice b 0 n 3)) (hn : n <= 2097152) : Spec aW 69 [.slice b 0 n 3] [] hs (fun v D => OwnE 3 cells n v D) := by
 refine ak (eX 69 Tryz.func69) rfl (m := 8) rfl (rs := [.tmp 2]) rfl (st := [(0, .slice b 0 n 3)]) rfl rfl (fun _ => rfl) (fun E => zr (za rfl (zk (W.seq (zr (zm rfl (zq (aa rfl rfl rfl (oM gz)) (zk (aN rfl (zw (zr (WO.bslice gz jt C2 rfl aE rfl (cs := []) rfl rfl rfl (fun b1 => zm rfl (WO.appAny (A := _) sR (OwnE.cons rfl) rfl rfl (Src.mono (fun e he => MemH.tl ⟨e.w, by obtain ⟨b, o, w⟩ := e; exact he⟩) ha.src) ha.length zy (by decide) (SubH.op (List.perm_append_singleton _ _)) rfl (fun v7 hp7 hO7 => za rfl (zk (W.ret ?_)))))))))))))))))
 refine End.ret (z1 rfl) (hs' := hp7) (by rw [BX]; simpa using hO7) (OwnE.w hO7) gc

theorem zn  : Spec aW 70 [.nils] [] [] (eW (.nils)) := by
 refine ak (eX 70 Tryz.func70) rfl (m := 8) rfl (rs := [.tmp 2]) rfl (st := [(0, .nils)]) rfl rfl (fun _ => rfl) (fun E => zr (za rfl (zk (W.seq (zr (zm rfl (zq (aa rfl rfl rfl (oK gA)) (zk (aO rfl (zr (za rfl (zk (W.ret (ac (ab (z1 rfl) ?_)))))))))))))))
 rfl

theorem vH (hs : ad) (hro : ∀ e ∈ hs, e.w = false) (n : Nat) (cells : List AV) (b : Nat) (ha : RIn hs 1 n cells (.slice b 0 n 1)) (hn : n <= 2097152) : Spec aW 70 [.slice b 0 n 1] [] hs (fun v D => OwnE 1 cells n v D) := by
 refine ak (eX 70 Tryz.func70) rfl (m := 8) rfl (rs := [.tmp 2]) rfl (st := [(0, .slice b 0 n 1)]) rfl rfl (fun _ => rfl) (fun E => zr (za rfl (zk (W.seq (zr (zm rfl (zq (aa rfl rfl rfl (oM gA)) (zk (aN rfl (zw (zr (WO.bslice gA yO Du rfl aE rfl (cs := []) rfl rfl rfl (fun b1 => zm rfl (WO.appAny (A := _) sS (OwnE.cons rfl) rfl rfl (Src.mono (fun e he => MemH.tl ⟨e.w, by obtain ⟨b, o, w⟩ := e; exact he⟩) ha.src) ha.length zy (by decide) (SubH.op (List.perm_append_singleton _ _)) rfl (fun v7 hp7 hO7 => za rfl (zk (W.ret ?_)))))))))))))))))
 refine End.ret (z1 rfl) (hs' := hp7) (by rw [BX]; simpa using hO7) (OwnE.w hO7) gc

theorem zh  : Spec aW 41 [.nils] [] [] (eW (.nils)) := by
 refine ak (eX 41 Tryz.func41) rfl (m := 8) rfl (rs := [.tmp 2]) rfl (st := [(0, .nils)]) rfl rfl (fun _ => rfl) (fun E => zr (za rfl (zk (W.seq (zr (zm rfl (zq (aa rfl rfl rfl (oK bh)) (zk (aO rfl (zr (za rfl (zk (W.ret (ac (ab (z1 rfl) ?_)))))))))))))))
 rfl

theorem vD (hs : ad) (hro : ∀ e ∈ hs, e.w = false) (n : Nat) (cells : List AV) (b : Nat) (ha : RIn hs 1 n cells (.slice b 0 n 1)) (hn : n <= 2097152) : Spec aW 41 [.slice b 0 n 1] [] hs (fun v D => OwnE 1 cells n v D) := by
 refine ak (eX 41 Tryz.func41) rfl (m := 8) rfl (rs := [.tmp 2]) rfl (st := [(0, .slice b 0 n 1)]) rfl rfl (fun _ => rfl) (fun E => zr (za rfl (zk (W.seq (zr (zm rfl (zq (aa rfl rfl rfl (oM bh)) (zk (aN rfl (zw (zr (WO.bslice bh fP sI rfl aE rfl (cs := []) rfl rfl rfl (fun b1 => zm rfl (WO.appAny (A := _) cY (OwnE.cons rfl) rfl rfl (Src.mono (fun e he => MemH.tl ⟨e.w, by obtain ⟨b, o, w⟩ := e; exact he⟩) ha.src) ha.length zy (by decide) (SubH.op (List.perm_append_singleton _ _)) rfl (fun v7 hp7 hO7 => za rfl (zk (W.ret ?_)))))))))))))))))
 refine End.ret (z1 rfl) (hs' := hp7) (by rw [BX]; simpa using hO7) (OwnE.w hO7) gc
theorem vG (hs : ad) (hro : ∀ e ∈ hs, e.w = false) (n : Nat) (cells : List AV) (va : AV) (ha : RIn hs 3 n cells va) (hn : n <= 2097152) : Spec aW 69 [va] [] hs (fun v D => OwnE 3 cells n v D) := by
 rcases id ha with ⟨rfl, rfl, rfl⟩ | ⟨b, z, ex, rfl, _, _⟩
 ·intro h hh
  obtain ⟨v, h', hs', h1, ⟨h2, h3⟩, h4, h5⟩ := zj h (hh.sub (SubH.nil _))
  exact ⟨v, h', hs', h1, .inl ⟨rfl, rfl, h2, h3⟩, h4, h5⟩
 ·exact vF hs hro n cells b ha hn
theorem vI (hs : ad) (hro : ∀ e ∈ hs, e.w = false) (n : Nat) (cells : List AV) (va : AV) (ha : RIn hs 1 n cells va) (hn : n <= 2097152) : Spec aW 70 [va] [] hs (fun v D => OwnE 1 cells n v D) := by
 rcases id ha with ⟨rfl, rfl, rfl⟩ | ⟨b, z, ex, rfl, _, _⟩
 ·intro h hh
  obtain ⟨v, h', hs', h1, ⟨h2, h3⟩, h4, h5⟩ := zn h (hh.sub (SubH.nil _))
  exact ⟨v, h', hs', h1, .inl ⟨rfl, rfl, h2, h3⟩, h4, h5⟩
 ·exact vH hs hro n cells b ha hn
theorem vE (hs : ad) (hro : ∀ e ∈ hs, e.w = false) (n : Nat) (cells : List AV) (va : AV) (ha : RIn hs 1 n cells va) (hn : n <= 2097152) : Spec aW 41 [va] [] hs (fun v D => OwnE 1 cells n v D) := by
 rcases id ha with ⟨rfl, rfl, rfl⟩ | ⟨b, z, ex, rfl, _, _⟩
 ·intro h hh
  obtain ⟨v, h', hs', h1, ⟨h2, h3⟩, h4, h5⟩ := zh h (hh.sub (SubH.nil _))
  exact ⟨v, h', hs', h1, .inl ⟨rfl, rfl, h2, h3⟩, h4, h5⟩
 ·exact vD hs hro n cells b ha hn
theorem kw (hs : ad) (hro : ∀ e ∈ hs, e.w = false) (d : ND) (vm vn vk : AV) (hm : RIn hs 3 d.ms.length (cM d.ms) vm) (hn : RIn hs 1 d.nm.length (cS d.nm) vn) (nk : Nat) (hk : KLn vk nk) (hd : d.bd) : Spec aW 37 [.agg (d.c vm vn vk)] [] hs (fun v D => ∃ vm2 vn2 Dm Dn, v = .agg (d.c vm2 vn2 .nils) /\ OwnE 3 (cM d.ms) d.ms.length vm2 Dm /\ OwnE 1 (cS d.nm) d.nm.length vn2 Dn /\ D = Dm ++ Dn) := by
 refine ak (eX 37 Tryz.func37) rfl (m := 13) rfl (rs := [.cell 2 26]) rfl (st := [(0, .agg (d.c vm vn vk))]) rfl rfl (fun _ => rfl) (fun E => zr (WO.box rfl (ep hm.cell hn.cell hk.cell) (rz _ rfl) rfl (fun b1 => WO.alloc Cu rfl (fun b2 => zk (zr (zf cG rfl 10 (zS CV rfl rfl (i := 1) rfl rfl rfl (hs' := _ :: _ :: _) rfl (zk (W.seq (lS 7 _ (by kernel_rfl) (KIn.refl _) (WD.q (Q.fieldAddr dr rfl (o' := 3) rfl) sV rfl (WD.q (ag rfl (zt 1 rfl) jp rfl) hm.bq rfl (WD.call0 rfl (aY rfl oz) rfl (vG hs hro _ _ _ hm (by have := hd.2.1.1; omega)) (SubR.t (SubR.t (aZ hro))) (KIn.refl _) rfl (fun v6 D6 hP6 => WD.subH (hs' := _ :: _ :: (hs ++ D6)) (SubH.op (bU (N := []) (G := D6) (K := [_, _]) (X := hs))) (WD.q (Q.fieldAddr dt rfl (o' := 7) rfl) sV rfl (WD.q (ag rfl (zt 1 rfl) jq rfl) hn.bq rfl (WD.call0 rfl (aY rfl oz) rfl (vI hs hro _ _ _ hn (by have := hd.2.2.1; omega)) (SubR.t (SubR.t (SubR.appl (aZ hro)))) (yP gc) rfl (fun v9 D9 hP9 => WD.subH (hs' := _ :: _ :: (hs ++ D6 ++ D9)) (SubH.op (bU (N := []) (G := D9) (K := [_, _]) (X := hs ++ D6))) (WD.q (Q.fieldAddr dr rfl (o' := 3) rfl) sV rfl (WD.store CT rfl rfl (j := 1) rfl (rA (OwnE.cell hP6) rfl) (cs := [_, _, _, _, _, _, _, _, _, _, _]) (AS (OwnE.cell hP6)) (hs' := _ :: _ :: _) rfl (fun h => by cases h) (WD.q (Q.fieldAddr dt rfl (o' := 7) rfl) sV rfl (WD.store CU rfl rfl (j := 1) rfl (rA (OwnE.cell hP9) rfl) (cs := [_, _, _, _, _, _, _, _, _, _, _]) (AT (OwnE.cell hP9)) (hs' := _ :: _ :: _) rfl (fun h => by cases h) (WD.nil ?_)))))))))))))))))))))))
 refine End.K (zr (zq (zL rfl (zt 1 rfl) jD iu rfl) (zS iu rfl rfl (i := 0) rfl (CP (OwnE.cell hP6) (OwnE.cell hP9)) rfl (hs' := _ :: _ :: _) rfl (zk (W.ret ?_)))))
 refine End.ret (zA rfl (zt 0 rfl) jD iu rfl ResL.nil) (hs' := D6 ++ D9) ⟨v6, v9, D6, D9, rfl, hP6, hP9, rfl⟩ (wa (OwnE.w hP6) (OwnE.w hP9)) gc

theorem qD (hs : ad) (hro : ∀ e ∈ hs, e.w = false) (A : List Int) (va : AV) (hA : RIn hs 1 A.length (cA A) va) (hAl : A.length <= 1048576) (U : List Int) (vu : AV) (hU : RIn hs 1 U.length (cA U) vu) (hok : ∀ a ∈ A, 0 <= a /\ a < U.length) (hUl : U.length <= 1048576) : Spec aW 43 [va, vu] [] hs (fun v D => OwnE 1 (cA (ez U A)) A.length v D) := by
 refine ak (eX 43 Tryz.func43) rfl (m := 23) rfl (rs := [.tmp 4]) rfl (st := [(0, va), (1, vu)]) rfl rfl (fun _ => rfl) (fun E => zr (za rfl (zk (zr (za rfl (zk (W.seq (zr (zm rfl (zq (Q.len bh rfl hA.len) (zq (Q.move (zi 0)) (zk (W.block (eM (fun (i : Nat) (u : AV) (hp : ad) => [(1, vu), (5, u), (8, va), (9, .int .i64 ((A.length : Nat) : Int)), (10, .int .i64 ((i : Nat) : Int))]) (fun (i : Nat) (u : AV) (hp : ad) => (hs ++ hp)) (fun (i : Nat) (u : AV) (hp : ad) => i <= A.length /\ OwnE 1 (cA (ez U (A.take i))) i u hp) (fun (i : Nat) (u : AV) (hp : ad) => A.length - i) (0) (.nils) ([]) ⟨Nat.zero_le _, OwnE.nil 1⟩ zv (by rw [List.append_nil]; exact SubH.refl _) (fun i u hp hI0 ih0 => ?_)))))))))))))))
 obtain ⟨h1, hO⟩ := hI0
 refine zr (zq (aa rfl rfl rfl (fi fv)) (zk (W.seq (aw rfl (fun hc11 => ?_) (fun hc11 => ?_)))))
 ·obtain ⟨ba, sza, exa, rfl, wa, ma⟩ := hA.full zy
  have hq := hok _ (gj (A := A) (q := i) zy)
  obtain ⟨bu, szu, exu, rfl, wu, mu⟩ := hU.full zy
  refine zw (W.seq (W.block (zr (zq (aQ bh fP rfl rfl zo) (zq (ag rfl (List.mem_append_left _ ma) dn (kx zo (hok _ (gj zo)).1)) (za rfl (zk (ay (zm rfl (zm rfl (zm rfl (zq (aQ bh fP rfl rfl zo) (zq (ag rfl (List.mem_append_left _ mu) dn (iA zo)) (WO.bslice bh fP sI rfl (gO rfl aE) rfl (cs := [_]) rfl rfl rfl (fun b1 => WO.appAny (A := ([] ++ hs)) cY hO rfl rfl (Src.slice (zt 0 rfl) rfl) rfl zy (by decide) (SubH.of_sublist (List.sublist_cons_self _ _)) rfl (fun v20 hp20 hO20 => za rfl (WO.nil (End.KB (End.K (ay (zq (aa rfl (zi 1) rfl zp) (zm rfl (WO.nil (End.KL ?_))))))))))))))))))))))))
  refine W.sub zv (bG gc (ih0 (i + 1) (v20) (hp20) ?_ ?_))
  ·exact ⟨by omega, by rw [tA zy]; exact hO20⟩
  exact zo
 refine W.exit (aJ (aM (aI (End.K (zr (zm rfl (za rfl (zk (W.ret ?_)))))))))
 refine End.ret (z1 rfl) (hs' := hp) (by rw [List.take_of_length_le zy] at hO; exact (show i = A.length by omega) ▸ hO) (OwnE.w hO) gc
noncomputable def MS (tb : Tab) (t : Nat) : Option (Nat × List AV) :=
 match tb.und t with
 | some (.slice e) => match tb.tt.get e, tb.zero e with
  | some ti, some z => match Nat.ble ti.bytes 4096 && Nat.beq z.cells.length ti.size && Nat.blt 0 ti.size with
   | true => some (ti.size, z.cells)
   | false => none
  | _, _ => none
 | _ => none
section
variable {tb : Tab} {n : Nat} {E : Env} {s : St} {hs : ad} {R : T AV -> AHeap -> Prop} {ops rest : List Oper} {d : Nat} {t : TypeId} {ty : TypeId} {pos : String} {aft : Array Edge}
theorem ku {ol oc : Operand} {m sz : Nat} {zc cs : List AV} (hM : MS tb t = some (sz, zc)) (hl : oL s ol = some (.int .i64 ((m : Nat) : Int))) (hc : oL s oc = some (.int .i64 ((m : Nat) : Int))) (hm : m <= 1073741824) (hr : gN m zc = cs) (hd : Nat.blt d n = true)
  (hk : ∀ b, WO tb n ops rest E ((d, .slice b 0 m sz) :: s) (⟨b, ⟨sz, true, cs⟩, true⟩ :: hs) R) :
  WO tb n ops (⟨some d, .makeSlice t ol oc, ty, pos, aft, none⟩ :: rest) E s hs R := by
 refine WO.l (s' := s) fun tm h ht hh => ?_
 refine ⟨.slice h.next 0 m sz, ⟨h.next + 1, h.objs.set h.next ⟨sz, true, cs⟩⟩, tm.set d (.slice h.next 0 m sz), ?_, aT hd, hk h.next _ _ (ht.set d _) (hh.new _)⟩
 show Res.l (cu tb tm h t ol oc) = _
 unfold MS at hM
 split at hM
 rotate_left
 ·cases hM
 rename_i e hu
 split at hM
 rotate_left
 ·cases hM
 rename_i ti z h1 h2
 split at hM
 rotate_left
 ·cases hM
 rename_i hb
 simp only [Option.some.injEq, Prod.mk.injEq] at hM
 obtain ⟨rfl, rfl⟩ := hM
 simp only [Bool.and_eq_true] at hb
 have e1 : fG (some (AV.int .i64 ((m : Nat) : Int))) = some m := rfl
 have e2 : Nat.ble m 1073741824 = true := Nat.ble_eq.mpr hm
 have e3 : Nat.ble m m = true := Nat.ble_eq.mpr (Nat.le_refl m)
 unfold cu
 simp only [hu, aX ht hl, aX ht hc, e1, h1, h2, hb.1.1, hb.1.2, hb.2, e2, e3, Bool.and_self, hr]
end
def cB (g : Nat -> Bool) (n : Nat) : List AV := (List.range n).map fun j => AV.bool (g j)
def cN (g : Nat -> Int) (n : Nat) : List AV := (List.range n).map fun j => AV.int .i64 (g j)
theorem mW {v : AV} : ∀ n : Nat, gN n [v] = (List.range n).map fun _ => v
 | 0 => rfl
 | n + 1 => by rw [List.range_succ_eq_map, List.map_cons, List.map_map]; exact congrArg (v :: ·) (mW n)
theorem yn (n : Nat) : gN n [.bool false] = cB (fun _ => false) n := mW n
theorem B5 (n : Nat) : gN n [.int .i64 0] = cN (fun _ => 0) n := mW n
section
variable {g : Nat -> Bool} {f : Nat -> Int} {n j : Nat} {b : Bool} {x : Int}
theorem vr : (cB g n).length = n := by simp [cB]
theorem vx : (cN f n).length = n := by simp [cN]
theorem pZ (h : j < n) : (cB g n)[(0 + j) * 1]? = some (.bool (g j)) := by
 rw [Nat.zero_add, Nat.mul_one, cB, List.getElem?_map, List.getElem?_range h]; rfl
theorem p4 (h : j < n) : Nat.ble ((0 + j) * 1 + 1) (cB g n).length = true := Nat.ble_eq.mpr (by rw [vr]; omega)
theorem CD (h : j < n) : Nat.ble ((0 + j) * 1 + 1) (cN f n).length = true := Nat.ble_eq.mpr (by rw [vx]; omega)
theorem l6 (h : j < n) : bJ (cB g n) ((0 + j) * 1) (AV.bool b).cells = cB (fun k => if k = j then b else g k) n := by
 rw [Nat.zero_add, Nat.mul_one, cz rfl, lK _ _ _ (by rw [vr]; exact h)]
 apply List.ext_getElem?
 intro k
 rw [List.getElem?_set]
 unfold cB
 by_cases hk : k < n
 ·by_cases e : j = k
  ·subst e; simp [h]
  ·have e' : ¬ k = j := fun q => e q.symm
   simp [hk, e, e']
 ·rw [List.getElem?_eq_none (by simp; omega), List.getElem?_eq_none (by simp; omega)]
  simp; omega
theorem Bq (h : j < n) : bJ (cN f n) ((0 + j) * 1) (AV.int .i64 x).cells = cN (fun k => if k = j then x else f k) n := by
 rw [Nat.zero_add, Nat.mul_one, cz rfl, lK _ _ _ (by rw [vx]; exact h)]
 apply List.ext_getElem?
 intro k
 rw [List.getElem?_set]
 unfold cN
 by_cases hk : k < n
 ·by_cases e : j = k
  ·subst e; simp [h]
  ·have e' : ¬ k = j := fun q => e q.symm
   simp [hk, e, e']
 ·rw [List.getElem?_eq_none (by simp; omega), List.getElem?_eq_none (by simp; omega)]
  simp; omega
theorem gE {g' : Nat -> Bool} (h : ∀ j, j < n -> g j = g' j) : cB g n = cB g' n := List.map_congr_left fun j hj => by rw [h j (List.mem_range.1 hj)]
theorem l7 {f' : Nat -> Int} (h : ∀ j, j < n -> f j = f' j) : cN f n = cN f' n := List.map_congr_left fun j hj => by rw [h j (List.mem_range.1 hj)]
theorem Bs : cN f n = cA ((List.range n).map f) := by unfold cN cA; rw [List.map_map]; rfl
theorem uZ (h : j < n) : ai ((List.range n).map f) j = f j := by
 unfold ai
 rw [List.getD_eq_getElem?_getD, List.getElem?_map, List.getElem?_range h]; rfl
end
end Go.Proofs.YtndhhgbpcmfeiaaGreatDoor.Ev
