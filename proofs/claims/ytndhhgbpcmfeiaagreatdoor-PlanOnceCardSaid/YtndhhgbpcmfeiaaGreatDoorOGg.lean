/- Chapter 20, walks: copies of nodes and of places. -/
import Derived.Test.YtndhhgbpcmfeiaaGreatDoorOGb
namespace Go.Proofs.YtndhhgbpcmfeiaaGreatDoor.Ev
open Go.RowKit
set_option maxRecDepth 100000
theorem sg {tb : Tab} {t e : Nat} (hu : tb.und t = some (.slice e)) : co tb .eql t .nils .nils = some (.bool true) := by
 show (match fk tb 20 t .nils .nils with | some b => some (AV.bool b) | none => none) = _
 unfold fk
 simp only [hu]
 rfl
theorem sj {tb : Tab} {t e b o n z : Nat} (hu : tb.und t = some (.slice e)) : co tb .eql t (.slice b o n z) .nils = some (.bool false) := by
 show (match fk tb 20 t (.slice b o n z) .nils with | some b => some (AV.bool b) | none => none) = _
 unfold fk
 simp only [hu]
 rfl
theorem fz {v : AV} (h : v.isCell = true) : v.cells = [v] := by cases v <;> first | rfl | cases h
theorem Fl {v : AV} {o n : Nat} (h : v.isCell = true) (hle : Nat.ble (o + 1) n = true) : (Nat.beq v.cells.length 1 && Nat.ble (o + 1) n && v.cells.all AV.isCell) = true := by
 rw [fz h, hle]; simp [h]
theorem G9 {a0 a1 a2 a3 v : AV} {b : List AV} (h : v.isCell = true) : db (a0 :: a1 :: a2 :: a3 :: b) 3 v.cells = a0 :: a1 :: a2 :: v :: b := by
 rw [fz h]; simp [db]
theorem Hd {a0 a1 a2 a3 a4 a5 a6 a7 v : AV} {b : List AV} (h : v.isCell = true) : db (a0 :: a1 :: a2 :: a3 :: a4 :: a5 :: a6 :: a7 :: b) 7 v.cells = a0 :: a1 :: a2 :: a3 :: a4 :: a5 :: a6 :: v :: b := by
 rw [fz h]; simp [db]
theorem sV : ∀ (l : List AV) (j : Nat) (v : AV), j < l.length -> db l j [v] = l.set j v
 | x :: l, 0, v, _ => by simp [db]
 | x :: l, j + 1, v, h => by simp only [db, List.set_cons_succ, sV l j v (by simpa using h)]
theorem gC {d : ND} {vm vn vk : AV} (hm : vm.isCell = true) (hn : vn.isCell = true) (hk : vk.isCell = true) : (((AV.agg (d.c vm vn vk)).cells).all AV.isCell) = true := by
 show ((d.c vm vn vk).all AV.isCell) = true
 simp only [ND.c, bS, List.all_cons, List.all_nil, hm, hn, hk, Bool.and_true, Bool.true_and]
 rfl
theorem Hi {d : ND} {vm vn : AV} (hm : vm.isCell = true) (hn : vn.isCell = true) : (Nat.beq (AV.agg (d.c vm vn .nils)).cells.length 11 && Nat.ble (0 + 11) 11 && ((AV.agg (d.c vm vn .nils)).cells).all AV.isCell) = true := aQ rfl (gC hm hn rfl)
theorem i7 {A : List Int} {q : Nat} (h : q < A.length) : ai A q ∈ A := List.mem_of_getElem? (jo h)
theorem vB {A : List Int} {q : Nat} (h : q < A.length) (g : 0 <= ai A q) : (cA A)[(0 + q) * 1]? = some (.int .i64 (((ai A q).toNat : Nat) : Int)) := by
 rw [o6 h, Int.toNat_of_nonneg g]
def ll (U A : List Int) : List Int := A.map fun a => ai U a.toNat
theorem EE {U A : List Int} {i : Nat} (h : i < A.length) : cA (ll U (A.take (i + 1))) = cA (ll U (A.take i)) ++ [.int .i64 (ai U (ai A i).toNat)] := by
 rw [List.take_add_one, jo h]
 unfold ll cA
 rw [List.map_append, List.map_append]; rfl
theorem oR : aN.isAgg 22 = some false := by kernel_rfl
theorem tE : aN.isAgg 23 = some false := by kernel_rfl
theorem bh : aN.isAgg 26 = some true := by kernel_rfl
theorem ia : AO aN 26 = some ⟨11, true, [.int .i64 0, .str [], .int .i64 0, .nils, .int .i64 0, .int .i64 0, .int .i64 0, .nils, .int .i64 0, .bool false, .nils]⟩ := by kernel_rfl
theorem rW : AP aN 22 22 = some 3 := by kernel_rfl
theorem jF : AP aN 23 23 = some 1 := by kernel_rfl
theorem fp : AP aN 40 40 = some 1 := by kernel_rfl
theorem l0 : ∀ l : List AV, l.length = 11 -> cz aN 26 l = ⟨11, true, l⟩ := by intro l h; exact fV (by kernel_rfl) h
theorem fQ : FA aN 26 3 = some (3, 0 + 1) := by kernel_rfl
theorem fR : FA aN 26 7 = some (7, 0 + 1) := by kernel_rfl
theorem E4 : aN.size 22 = some 1 := by kernel_rfl
theorem Aw : aN.size 23 = some 1 := by kernel_rfl
theorem E5 : aN.size 24 = some 1 := by kernel_rfl
theorem aL : aN.size 26 = some 11 := by kernel_rfl
theorem kb : aN.size 9 = some 1 := by kernel_rfl
theorem eA : aN.size 91 = some 3 := by kernel_rfl
theorem jh : aN.und 22 = some (.slice 91) := by kernel_rfl
theorem dk : aN.und 23 = some (.slice 9) := by kernel_rfl
theorem yY : aN.zero 3 = some (.int .i64 0) := by kernel_rfl
theorem ve : aN.zero 9 = some (.str []) := by kernel_rfl
theorem Fc : aN.zero 91 = some (.agg [.int .i64 0, .str [], .str []]) := by kernel_rfl
theorem DV  : Spec aN 69 [.nils] [] [] (fJ (.nils)) := by
 refine av (cX 69 Tryz.func69) rfl (m := 8) rfl (rs := [.tmp 2]) rfl (st := [(0, .nils)]) rfl rfl (fun _ => rfl) (fun E => zr (za rfl (zk (W.seq (zr (zm rfl (zq (aa rfl rfl rfl (sg jh)) (zk (au rfl (zr (za rfl (zk (W.ret (ac (ae (z1 rfl) ?_)))))))))))))))
 rfl

theorem Bc (hs : ak) (hro : ∀ e ∈ hs, e.w = false) (n : Nat) (cells : List AV) (b : Nat) (ha : RIn hs 3 n cells (.slice b 0 n 3)) (hn : n <= 2097152) : Spec aN 69 [.slice b 0 n 3] [] hs (fun v D => OwnE 3 cells n v D) := by
 refine av (cX 69 Tryz.func69) rfl (m := 8) rfl (rs := [.tmp 2]) rfl (st := [(0, .slice b 0 n 3)]) rfl rfl (fun _ => rfl) (fun E => zr (za rfl (zk (W.seq (zr (zm rfl (zq (aa rfl rfl rfl (sj jh)) (zk (az rfl (zw (zr (WO.bslice jh eA Fc rfl aq rfl (cs := []) rfl rfl rfl (fun b1 => zm rfl (WO.appAny (A := _) rW (OwnE.cons rfl) rfl rfl (Src.mono (fun e he => MemH.tl ⟨e.w, by obtain ⟨b, o, w⟩ := e; exact he⟩) ha.src) ha.length zy (by decide) (SubH.op (List.perm_append_singleton _ _)) rfl (fun v7 hp7 hO7 => za rfl (zk (W.ret ?_)))))))))))))))))
 refine End.ret (z1 rfl) (hs' := hp7) (by rw [Gr]; simpa using hO7) (OwnE.w hO7) gc

theorem DW  : Spec aN 70 [.nils] [] [] (fJ (.nils)) := by
 refine av (cX 70 Tryz.func70) rfl (m := 8) rfl (rs := [.tmp 2]) rfl (st := [(0, .nils)]) rfl rfl (fun _ => rfl) (fun E => zr (za rfl (zk (W.seq (zr (zm rfl (zq (aa rfl rfl rfl (sg dk)) (zk (au rfl (zr (za rfl (zk (W.ret (ac (ae (z1 rfl) ?_)))))))))))))))
 rfl

theorem pe (hs : ak) (hro : ∀ e ∈ hs, e.w = false) (n : Nat) (cells : List AV) (b : Nat) (ha : RIn hs 1 n cells (.slice b 0 n 1)) (hn : n <= 2097152) : Spec aN 70 [.slice b 0 n 1] [] hs (fun v D => OwnE 1 cells n v D) := by
 refine av (cX 70 Tryz.func70) rfl (m := 8) rfl (rs := [.tmp 2]) rfl (st := [(0, .slice b 0 n 1)]) rfl rfl (fun _ => rfl) (fun E => zr (za rfl (zk (W.seq (zr (zm rfl (zq (aa rfl rfl rfl (sj dk)) (zk (az rfl (zw (zr (WO.bslice dk kb ve rfl aq rfl (cs := []) rfl rfl rfl (fun b1 => zm rfl (WO.appAny (A := _) jF (OwnE.cons rfl) rfl rfl (Src.mono (fun e he => MemH.tl ⟨e.w, by obtain ⟨b, o, w⟩ := e; exact he⟩) ha.src) ha.length zy (by decide) (SubH.op (List.perm_append_singleton _ _)) rfl (fun v7 hp7 hO7 => za rfl (zk (W.ret ?_)))))))))))))))))
 refine End.ret (z1 rfl) (hs' := hp7) (by rw [Gr]; simpa using hO7) (OwnE.w hO7) gc

theorem DU  : Spec aN 41 [.nils] [] [] (fJ (.nils)) := by
 refine av (cX 41 Tryz.func41) rfl (m := 8) rfl (rs := [.tmp 2]) rfl (st := [(0, .nils)]) rfl rfl (fun _ => rfl) (fun E => zr (za rfl (zk (W.seq (zr (zm rfl (zq (aa rfl rfl rfl (sg bc)) (zk (au rfl (zr (za rfl (zk (W.ret (ac (ae (z1 rfl) ?_)))))))))))))))
 rfl

theorem Ba (hs : ak) (hro : ∀ e ∈ hs, e.w = false) (n : Nat) (cells : List AV) (b : Nat) (ha : RIn hs 1 n cells (.slice b 0 n 1)) (hn : n <= 2097152) : Spec aN 41 [.slice b 0 n 1] [] hs (fun v D => OwnE 1 cells n v D) := by
 refine av (cX 41 Tryz.func41) rfl (m := 8) rfl (rs := [.tmp 2]) rfl (st := [(0, .slice b 0 n 1)]) rfl rfl (fun _ => rfl) (fun E => zr (za rfl (zk (W.seq (zr (zm rfl (zq (aa rfl rfl rfl (sj bc)) (zk (az rfl (zw (zr (WO.bslice bc di yY rfl aq rfl (cs := []) rfl rfl rfl (fun b1 => zm rfl (WO.appAny (A := _) fp (OwnE.cons rfl) rfl rfl (Src.mono (fun e he => MemH.tl ⟨e.w, by obtain ⟨b, o, w⟩ := e; exact he⟩) ha.src) ha.length zy (by decide) (SubH.op (List.perm_append_singleton _ _)) rfl (fun v7 hp7 hO7 => za rfl (zk (W.ret ?_)))))))))))))))))
 refine End.ret (z1 rfl) (hs' := hp7) (by rw [Gr]; simpa using hO7) (OwnE.w hO7) gc
theorem Bd (hs : ak) (hro : ∀ e ∈ hs, e.w = false) (n : Nat) (cells : List AV) (va : AV) (ha : RIn hs 3 n cells va) (hn : n <= 2097152) : Spec aN 69 [va] [] hs (fun v D => OwnE 3 cells n v D) := by
 rcases id ha with ⟨rfl, rfl, rfl⟩ | ⟨b, z, ex, rfl, _, _⟩
 ·intro h hh
  obtain ⟨v, h', hs', h1, ⟨h2, h3⟩, h4, h5⟩ := DV h (hh.sub (SubH.nil _))
  exact ⟨v, h', hs', h1, .inl ⟨rfl, rfl, h2, h3⟩, h4, h5⟩
 ·exact Bc hs hro n cells b ha hn
theorem Bk (hs : ak) (hro : ∀ e ∈ hs, e.w = false) (n : Nat) (cells : List AV) (va : AV) (ha : RIn hs 1 n cells va) (hn : n <= 2097152) : Spec aN 70 [va] [] hs (fun v D => OwnE 1 cells n v D) := by
 rcases id ha with ⟨rfl, rfl, rfl⟩ | ⟨b, z, ex, rfl, _, _⟩
 ·intro h hh
  obtain ⟨v, h', hs', h1, ⟨h2, h3⟩, h4, h5⟩ := DW h (hh.sub (SubH.nil _))
  exact ⟨v, h', hs', h1, .inl ⟨rfl, rfl, h2, h3⟩, h4, h5⟩
 ·exact pe hs hro n cells b ha hn
theorem Bb (hs : ak) (hro : ∀ e ∈ hs, e.w = false) (n : Nat) (cells : List AV) (va : AV) (ha : RIn hs 1 n cells va) (hn : n <= 2097152) : Spec aN 41 [va] [] hs (fun v D => OwnE 1 cells n v D) := by
 rcases id ha with ⟨rfl, rfl, rfl⟩ | ⟨b, z, ex, rfl, _, _⟩
 ·intro h hh
  obtain ⟨v, h', hs', h1, ⟨h2, h3⟩, h4, h5⟩ := DU h (hh.sub (SubH.nil _))
  exact ⟨v, h', hs', h1, .inl ⟨rfl, rfl, h2, h3⟩, h4, h5⟩
 ·exact Ba hs hro n cells b ha hn
theorem kN (hs : ak) (hro : ∀ e ∈ hs, e.w = false) (d : ND) (vm vn vk : AV) (hm : RIn hs 3 d.ms.length (cM d.ms) vm) (hn : RIn hs 1 d.nm.length (cS d.nm) vn) (nk : Nat) (hk : KLn vk nk) (hd : d.bd) : Spec aN 37 [.agg (d.c vm vn vk)] [] hs (fun v D => ∃ vm2 vn2 Dm Dn, v = .agg (d.c vm2 vn2 .nils) /\ OwnE 3 (cM d.ms) d.ms.length vm2 Dm /\ OwnE 1 (cS d.nm) d.nm.length vn2 Dn /\ D = Dm ++ Dn) := by
 refine av (cX 37 Tryz.func37) rfl (m := 13) rfl (rs := [.cell 2 26]) rfl (st := [(0, .agg (d.c vm vn vk))]) rfl rfl (fun _ => rfl) (fun E => zr (WO.box rfl (gC hm.cell hn.cell hk.cell) (l0 _ rfl) rfl (fun b1 => WO.alloc ia rfl (fun b2 => zk (zr (zf eW rfl 10 (zS E5 rfl rfl (i := 1) rfl rfl rfl (hs' := _ :: _ :: _) rfl (zk (W.seq (eC 7 _ (by kernel_rfl) (KIn.refl _) (WD.q (Q.fieldAddr fQ rfl (o' := 3) rfl) iF rfl (WD.q (ap rfl (zt 1 rfl) oR rfl) hm.bq rfl (WD.call0 rfl (aD rfl oz) rfl (Bd hs hro _ _ _ hm (by have := hd.2.1.1; omega)) (SubR.t (SubR.t (cw hro))) (KIn.refl _) rfl (fun v6 D6 hP6 => WD.subH (hs' := _ :: _ :: (hs ++ D6)) (SubH.op (aG (N := []) (G := D6) (K := [_, _]) (X := hs))) (WD.q (Q.fieldAddr fR rfl (o' := 7) rfl) iF rfl (WD.q (ap rfl (zt 1 rfl) tE rfl) hn.bq rfl (WD.call0 rfl (aD rfl oz) rfl (Bk hs hro _ _ _ hn (by have := hd.2.2.1; omega)) (SubR.t (SubR.t (SubR.appl (cw hro)))) (DG gc) rfl (fun v9 D9 hP9 => WD.subH (hs' := _ :: _ :: (hs ++ D6 ++ D9)) (SubH.op (aG (N := []) (G := D9) (K := [_, _]) (X := hs ++ D6))) (WD.q (Q.fieldAddr fQ rfl (o' := 3) rfl) iF rfl (WD.store E4 rfl rfl (j := 1) rfl (Fl (OwnE.cell hP6) rfl) (cs := [_, _, _, _, _, _, _, _, _, _, _]) (G9 (OwnE.cell hP6)) (hs' := _ :: _ :: _) rfl (fun h => by cases h) (WD.q (Q.fieldAddr fR rfl (o' := 7) rfl) iF rfl (WD.store Aw rfl rfl (j := 1) rfl (Fl (OwnE.cell hP9) rfl) (cs := [_, _, _, _, _, _, _, _, _, _, _]) (Hd (OwnE.cell hP9)) (hs' := _ :: _ :: _) rfl (fun h => by cases h) (WD.nil ?_)))))))))))))))))))))))
 refine End.K (zr (zq (zL rfl (zt 1 rfl) bh aL rfl) (zS aL rfl rfl (i := 0) rfl (Hi (OwnE.cell hP6) (OwnE.cell hP9)) rfl (hs' := _ :: _ :: _) rfl (zk (W.ret ?_)))))
 refine End.ret (zA rfl (zt 0 rfl) bh aL rfl ResL.nil) (hs' := D6 ++ D9) ⟨v6, v9, D6, D9, rfl, hP6, hP9, rfl⟩ (wa (OwnE.w hP6) (OwnE.w hP9)) gc

theorem uq (hs : ak) (hro : ∀ e ∈ hs, e.w = false) (A : List Int) (va : AV) (hA : RIn hs 1 A.length (cA A) va) (hAl : A.length <= 1048576) (U : List Int) (vu : AV) (hU : RIn hs 1 U.length (cA U) vu) (hok : ∀ a ∈ A, 0 <= a /\ a < U.length) (hUl : U.length <= 1048576) : Spec aN 43 [va, vu] [] hs (fun v D => OwnE 1 (cA (ll U A)) A.length v D) := by
 refine av (cX 43 Tryz.func43) rfl (m := 23) rfl (rs := [.tmp 4]) rfl (st := [(0, va), (1, vu)]) rfl rfl (fun _ => rfl) (fun E => zr (za rfl (zk (zr (za rfl (zk (W.seq (zr (zm rfl (zq (Q.len bc rfl hA.len) (zq (Q.move (zi 0)) (zk (W.block (dE (fun (i : Nat) (u : AV) (hp : ak) => [(1, vu), (5, u), (8, va), (9, .int .i64 ((A.length : Nat) : Int)), (10, .int .i64 ((i : Nat) : Int))]) (fun (i : Nat) (u : AV) (hp : ak) => (hs ++ hp)) (fun (i : Nat) (u : AV) (hp : ak) => i <= A.length /\ OwnE 1 (cA (ll U (A.take i))) i u hp) (fun (i : Nat) (u : AV) (hp : ak) => A.length - i) (0) (.nils) ([]) ⟨Nat.zero_le _, OwnE.nil 1⟩ zv (by rw [List.append_nil]; exact SubH.refl _) (fun i u hp hI0 ih0 => ?_)))))))))))))))
 obtain ⟨h1, hO⟩ := hI0
 refine zr (zq (aa rfl rfl rfl (ec dM)) (zk (W.seq (aw rfl (fun hc11 => ?_) (fun hc11 => ?_)))))
 ·obtain ⟨ba, sza, exa, rfl, wa, ma⟩ := hA.full zy
  have hq := hok _ (i7 (A := A) (q := i) zy)
  obtain ⟨bu, szu, exu, rfl, wu, mu⟩ := hU.full zy
  refine zw (W.seq (W.block (zr (zq (ci bc di rfl rfl zo) (zq (ap rfl (List.mem_append_left _ ma) bU (vB zo (hok _ (i7 zo)).1)) (za rfl (zk (am (zm rfl (zm rfl (zm rfl (zq (ci bc di rfl rfl zo) (zq (ap rfl (List.mem_append_left _ mu) bU (o6 zo)) (WO.bslice bc di yY rfl (bz rfl aq) rfl (cs := [_]) rfl rfl rfl (fun b1 => WO.appAny (A := ([] ++ hs)) fp hO rfl rfl (Src.slice (zt 0 rfl) rfl) rfl zy (by decide) (SubH.of_sublist (List.sublist_cons_self _ _)) rfl (fun v20 hp20 hO20 => za rfl (WO.nil (End.KB (End.K (am (zq (aa rfl (zi 1) rfl zp) (zm rfl (WO.nil (End.KL ?_))))))))))))))))))))))))
  refine W.sub zv (bX gc (ih0 (i + 1) (v20) (hp20) ?_ ?_))
  ·exact ⟨by omega, by rw [EE zy]; exact hO20⟩
  exact zo
 refine W.exit (aC (aK (aB (End.K (zr (zm rfl (za rfl (zk (W.ret ?_)))))))))
 refine End.ret (z1 rfl) (hs' := hp) (by rw [List.take_of_length_le zy] at hO; exact (show i = A.length by omega) ▸ hO) (OwnE.w hO) gc
noncomputable def MS (tb : Tab) (t : Nat) : Option (Nat × List AV) :=
 match tb.und t with
 | some (.slice e) => match tb.tt.get e, tb.zero e with
  | some ti, some z => match Nat.ble ti.bytes 4096 && Nat.beq z.cells.length ti.size && Nat.blt 0 ti.size with
   | true => some (ti.size, z.cells)
   | false => none
  | _, _ => none
 | _ => none
section
variable {tb : Tab} {n : Nat} {E : Env} {s : St} {hs : ak} {R : T AV -> AHeap -> Prop} {ops rest : List Oper} {d : Nat} {t : TypeId} {ty : TypeId} {pos : String} {aft : Array Edge}
theorem qP {ol oc : Operand} {m sz : Nat} {zc cs : List AV} (hM : MS tb t = some (sz, zc)) (hl : oL s ol = some (.int .i64 ((m : Nat) : Int))) (hc : oL s oc = some (.int .i64 ((m : Nat) : Int))) (hm : m <= 1073741824) (hr : jz m zc = cs) (hd : Nat.blt d n = true)
  (hk : ∀ b, WO tb n ops rest E ((d, .slice b 0 m sz) :: s) (⟨b, ⟨sz, true, cs⟩, true⟩ :: hs) R) :
  WO tb n ops (⟨some d, .makeSlice t ol oc, ty, pos, aft, none⟩ :: rest) E s hs R := by
 refine WO.l (s' := s) fun tm h ht hh => ?_
 refine ⟨.slice h.next 0 m sz, ⟨h.next + 1, h.objs.set h.next ⟨sz, true, cs⟩⟩, tm.set d (.slice h.next 0 m sz), ?_, bJ hd, hk h.next _ _ (ht.set d _) (hh.new _)⟩
 show Res.l (dJ tb tm h t ol oc) = _
 unfold MS at hM
 split at hM
 rotate_left
 ·cases hM
 rename_i e hu
 split at hM
 rotate_left
 ·cases hM
 rename_i ti z h1 h2
 split at hM
 rotate_left
 ·cases hM
 rename_i hb
 simp only [Option.some.injEq, Prod.mk.injEq] at hM
 obtain ⟨rfl, rfl⟩ := hM
 simp only [Bool.and_eq_true] at hb
 have e1 : fG (some (AV.int .i64 ((m : Nat) : Int))) = some m := rfl
 have e2 : Nat.ble m 1073741824 = true := Nat.ble_eq.mpr hm
 have e3 : Nat.ble m m = true := Nat.ble_eq.mpr (Nat.le_refl m)
 unfold dJ
 simp only [hu, bD ht hl, bD ht hc, e1, h1, h2, hb.1.1, hb.1.2, hb.2, e2, e3, Bool.and_self, hr]
end
def cB (g : Nat -> Bool) (n : Nat) : List AV := (List.range n).map fun j => AV.bool (g j)
def cN (g : Nat -> Int) (n : Nat) : List AV := (List.range n).map fun j => AV.int .i64 (g j)
theorem p7 {v : AV} : ∀ n : Nat, jz n [v] = (List.range n).map fun _ => v
 | 0 => rfl
 | n + 1 => by rw [List.range_succ_eq_map, List.map_cons, List.map_map]; exact congrArg (v :: ·) (p7 n)
theorem Gt (n : Nat) : jz n [.bool false] = cB (fun _ => false) n := p7 n
theorem Gu (n : Nat) : jz n [.int .i64 0] = cN (fun _ => 0) n := p7 n
section
variable {g : Nat -> Bool} {f : Nat -> Int} {n j : Nat} {b : Bool} {x : Int}
theorem AZ : (cB g n).length = n := by simp [cB]
theorem A3 : (cN f n).length = n := by simp [cN]
theorem AX (h : j < n) : (cB g n)[(0 + j) * 1]? = some (.bool (g j)) := by
 rw [Nat.zero_add, Nat.mul_one, cB, List.getElem?_map, List.getElem?_range h]; rfl
theorem AY (h : j < n) : Nat.ble ((0 + j) * 1 + 1) (cB g n).length = true := Nat.ble_eq.mpr (by rw [AZ]; omega)
theorem G1 (h : j < n) : Nat.ble ((0 + j) * 1 + 1) (cN f n).length = true := Nat.ble_eq.mpr (by rw [A3]; omega)
theorem vC (h : j < n) : db (cB g n) ((0 + j) * 1) (AV.bool b).cells = cB (fun k => if k = j then b else g k) n := by
 rw [Nat.zero_add, Nat.mul_one, fz rfl, sV _ _ _ (by rw [AZ]; exact h)]
 apply List.ext_getElem?
 intro k
 rw [List.getElem?_set]
 unfold cB
 by_cases hk : k < n
 ·by_cases e : j = k
  ·subst e; simp [h]
  ·have e' : ¬ k = j := fun q => e q.symm
   simp [hk, e, e']
 ·rw [List.getElem?_eq_none (by simp; omega), List.getElem?_eq_none (by simp; omega)]
  simp; omega
theorem FV (h : j < n) : db (cN f n) ((0 + j) * 1) (AV.int .i64 x).cells = cN (fun k => if k = j then x else f k) n := by
 rw [Nat.zero_add, Nat.mul_one, fz rfl, sV _ _ _ (by rw [A3]; exact h)]
 apply List.ext_getElem?
 intro k
 rw [List.getElem?_set]
 unfold cN
 by_cases hk : k < n
 ·by_cases e : j = k
  ·subst e; simp [h]
  ·have e' : ¬ k = j := fun q => e q.symm
   simp [hk, e, e']
 ·rw [List.getElem?_eq_none (by simp; omega), List.getElem?_eq_none (by simp; omega)]
  simp; omega
theorem kj {g' : Nat -> Bool} (h : ∀ j, j < n -> g j = g' j) : cB g n = cB g' n := List.map_congr_left fun j hj => by rw [h j (List.mem_range.1 hj)]
theorem o7 {f' : Nat -> Int} (h : ∀ j, j < n -> f j = f' j) : cN f n = cN f' n := List.map_congr_left fun j hj => by rw [h j (List.mem_range.1 hj)]
theorem FW : cN f n = cA ((List.range n).map f) := by unfold cN cA; rw [List.map_map]; rfl
theorem AK (h : j < n) : ai ((List.range n).map f) j = f j := by
 unfold ai
 rw [List.getD_eq_getElem?_getD, List.getElem?_map, List.getElem?_range h]; rfl
end
inductive Need (L : List IE) : Nat -> Prop
 | last : Need L (L.length - 1)
 | arg {i : Nat} {a : Int} : Need L i -> i < L.length -> a ∈ (ei L i).ars -> Need L a.toNat
open Classical in
noncomputable def nb (L : List IE) (j : Nat) : Bool := decide (Need L j)
open Classical in
noncomputable def Cv (L : List IE) (t : Nat) (j : Nat) : Bool := decide (j = L.length - 1 \/ ∃ (i : Nat) (a : Int), L.length - t <= i /\ i < L.length /\ Need L i /\ a ∈ (ei L i).ars /\ a.toNat = j)
open Classical in
noncomputable def Dy (L : List IE) (t q : Nat) (j : Nat) : Bool := Cv L t j || decide (Need L (L.length - 1 - t) /\ ∃ p, p < q /\ p < (ei L (L.length - 1 - t)).ars.length /\ (ai (ei L (L.length - 1 - t)).ars p).toNat = j)
section
variable {L : List IE} {t q i j k : Nat}
theorem iT : nb L j = true ↔ Need L j := by unfold nb; simp only [decide_eq_true_eq]
theorem ny : Cv L t j = true ↔ (j = L.length - 1 \/ ∃ (i : Nat) (a : Int), L.length - t <= i /\ i < L.length /\ Need L i /\ a ∈ (ei L i).ars /\ a.toNat = j) := by unfold Cv; simp only [decide_eq_true_eq]
theorem lD : Dy L t q j = true ↔ (Cv L t j = true \/ (Need L (L.length - 1 - t) /\ ∃ p, p < q /\ p < (ei L (L.length - 1 - t)).ars.length /\ (ai (ei L (L.length - 1 - t)).ars p).toNat = j)) := by
 unfold Dy
 rw [Bool.or_eq_true]
 simp only [decide_eq_true_eq]
theorem ls {a b : Bool} (h : a = true ↔ b = true) : a = b := by cases a <;> cases b <;> simp_all
theorem Hg : cB (fun k => if k = L.length - 1 then true else false) L.length = cB (Cv L 0) L.length := by
 refine kj fun j hj => ls ?_
 rw [ny]
 constructor
 ·intro h
  split at h
  ·exact .inl (by assumption)
  ·cases h
 ·rintro (h | ⟨i, a, h1, h2, _⟩)
  ·simp [h]
  ·omega
theorem yI (h : Cv L t j = true) : Need L j := by
 rcases ny.1 h with rfl | ⟨i, a, h1, h2, h3, h4, rfl⟩
 ·exact .last
 ·exact .arg h3 h2 h4
theorem Cw (hok : ∀ i, i < L.length -> pX L i = true) (ht : t < L.length) : Cv L t (L.length - 1 - t) = nb L (L.length - 1 - t) := by
 refine ls ⟨fun h => iT.2 (yI h), fun h => ?_⟩
 rw [ny]
 have h := iT.1 h
 generalize hj : L.length - 1 - t = j at h
 cases h with
 | last => exact .inl rfl
 | arg h1 h2 h3 =>
  rename_i i a
  have := gD (hok _ h2) h3
  exact .inr ⟨i, a, by omega, h2, h1, h3, rfl⟩
theorem Hh : cB (Cv L t) L.length = cB (Dy L t 0) L.length := by
 refine kj fun j hj => ls ?_
 rw [lD]
 exact ⟨.inl, fun h => h.elim id fun ⟨_, p, hp, _⟩ => absurd hp (Nat.not_lt_zero _)⟩
theorem Cx (hok : ∀ i, i < L.length -> pX L i = true) (ht : t < L.length) : Dy L t q (L.length - 1 - t) = nb L (L.length - 1 - t) := by
 rw [<- Cw hok ht]
 refine ls ?_
 rw [lD]
 refine ⟨fun h => h.elim id fun ⟨_, p, _, hp, e⟩ => ?_, .inl⟩
 have := gD (hok (L.length - 1 - t) zy) (i7 hp)
 omega
theorem uv (hok : ∀ i, i < L.length -> pX L i = true) (ht : t < L.length) (hq : q < (ei L (L.length - 1 - t)).ars.length) {b : Bool} (hb : b = (Dy L t q (ai (ei L (L.length - 1 - t)).ars q).toNat || Dy L t q (L.length - 1 - t))) :
  cB (fun k => if k = (ai (ei L (L.length - 1 - t)).ars q).toNat then b else Dy L t q k) L.length = cB (Dy L t (q + 1)) L.length := by
 refine kj fun j hj => ls ?_
 rw [Cx hok ht] at hb
 by_cases e : j = (ai (ei L (L.length - 1 - t)).ars q).toNat
 ·rw [if_pos e, hb, Bool.or_eq_true, iT, lD, lD, e]
  constructor
  ·rintro ((h | ⟨h1, p, h2, h3⟩) | h)
   ·exact .inl h
   ·exact .inr ⟨h1, p, by omega, h3⟩
   ·exact .inr ⟨h, q, by omega, hq, rfl⟩
  ·rintro (h | ⟨h1, p, h2, h3⟩)
   ·exact .inl (.inl h)
   ·exact .inr h1
 ·rw [if_neg e, lD, lD]
  constructor
  ·rintro (h | ⟨h1, p, h2, h3⟩)
   ·exact .inl h
   ·exact .inr ⟨h1, p, by omega, h3⟩
  ·rintro (h | ⟨h1, p, h2, h3, h4⟩)
   ·exact .inl h
   ·rcases Nat.lt_or_ge p q with hp | hp
    ·exact .inr ⟨h1, p, hp, h3, h4⟩
    ·obtain rfl : p = q := by omega
     exact absurd h4.symm e
theorem EH (ht : t < L.length) : cB (Dy L t (ei L (L.length - 1 - t)).ars.length) L.length = cB (Cv L (t + 1)) L.length := by
 refine kj fun j hj => ls ?_
 rw [lD, ny, ny]
 constructor
 ·rintro ((h | ⟨i, a, h1, h2⟩) | ⟨h1, p, h2, h3, h4⟩)
  ·exact .inl h
  ·exact .inr ⟨i, a, by omega, h2⟩
  ·exact .inr ⟨L.length - 1 - t, _, by omega, by omega, h1, i7 h3, h4⟩
 ·rintro (h | ⟨i, a, h1, h2, h3, h4, h5⟩)
  ·exact .inl (.inl h)
  ·rcases Nat.lt_or_ge i (L.length - t) with hi | hi
   ·obtain rfl : i = L.length - 1 - t := by omega
    obtain ⟨p, hp⟩ := List.getElem?_of_mem h4
    have hl := (List.getElem?_eq_some_iff.1 hp).1
    rw [jo hl] at hp
    exact .inr ⟨h3, p, hl, hl, by rw [Option.some.inj hp]; exact h5⟩
   ·exact .inl (.inr ⟨i, a, hi, h2, h3, h4, h5⟩)
theorem EG : cB (Cv L L.length) L.length = cB (nb L) L.length := by
 refine kj fun j hj => ls ?_
 rw [iT]
 refine ⟨yI, fun h => ny.2 ?_⟩
 cases h with
 | last => exact .inl rfl
 | arg h1 h2 h3 => exact .inr ⟨_, _, by omega, h2, h1, h3, rfl⟩
end
noncomputable def ez (L : List IE) (j : Nat) : Nat := ((List.range j).filter (nb L)).length
noncomputable def wO (L : List IE) (i j : Nat) : Int := if j < i /\ nb L j = true then ((ez L j : Nat) : Int) else 0
noncomputable def gM (L : List IE) (A : List Int) : List Int := A.map fun a => ((ez L a.toNat : Nat) : Int)
noncomputable def iX (L : List IE) (i : Nat) : List (ND × List Int) := ((List.range i).filter (nb L)).map fun j => ((ei L j).d, gM L (ei L j).ars)
section
variable {L : List IE} {i j : Nat}
theorem uC (h : nb L j = true) : ez L (j + 1) = ez L j + 1 := by
 unfold ez
 rw [List.range_succ, List.filter_append, List.length_append]
 simp [h]
theorem Fv (h : nb L j = false) : ez L (j + 1) = ez L j := by
 unfold ez
 rw [List.range_succ, List.filter_append, List.length_append]
 simp [h]
theorem td : ez L j <= j := Nat.le_trans (List.length_filter_le _ _) (by rw [List.length_range]; exact Nat.le_refl _)
theorem qr : (iX L i).length = ez L i := by unfold iX ez; rw [List.length_map]
theorem E7 (h : nb L i = true) : iX L (i + 1) = iX L i ++ [((ei L i).d, gM L (ei L i).ars)] := by
 unfold iX
 rw [List.range_succ, List.filter_append, List.map_append]
 simp [h]
theorem Hx (h : nb L i = false) : iX L (i + 1) = iX L i := by
 unfold iX
 rw [List.range_succ, List.filter_append, List.map_append]
 simp [h]
theorem H7 : cN (fun _ => 0) L.length = cN (wO L 0) L.length := o7 fun j _ => by unfold wO; rw [if_neg zy]
theorem H9 (h : nb L i = true) : cN (fun k => if k = i then ((ez L i : Nat) : Int) else wO L i k) L.length = cN (wO L (i + 1)) L.length := by
 refine o7 fun j _ => ?_
 unfold wO
 by_cases e : j = i
 ·subst e; rw [if_pos rfl, if_pos ⟨by omega, h⟩]
 ·rw [if_neg e]
  by_cases g : j < i /\ nb L j = true
  ·rw [if_pos g, if_pos ⟨by omega, g.2⟩]
  ·rw [if_neg g, if_neg fun q => g ⟨by omega, q.2⟩]
theorem H8 (h : nb L i = false) : cN (wO L i) L.length = cN (wO L (i + 1)) L.length := by
 refine o7 fun j _ => ?_
 unfold wO
 by_cases g : j < i /\ nb L j = true
 ·rw [if_pos g, if_pos ⟨by omega, g.2⟩]
 ·rw [if_neg g, if_neg fun q => g ⟨by
   have : j ≠ i := fun e => by subst e; rw [h] at q; exact absurd q.2 (by decide)
   omega, q.2⟩]
theorem EF (hok : pX L i = true) (hi : i < L.length) (hn : nb L i = true) : ll ((List.range L.length).map (wO L (i + 1))) (ei L i).ars = gM L (ei L i).ars := by
 unfold ll gM
 refine List.map_congr_left fun a ha => ?_
 obtain ⟨h1, h2⟩ := gD hok ha
 rw [AK zy]
 unfold wO
 rw [if_pos ⟨by omega, iT.2 (.arg (iT.1 hn) hi ha)⟩]
theorem rK {A : List Int} : (gM L A).length = A.length := by unfold gM; rw [List.length_map]
end
def D2 (W : List IE) : List (ND × List Int) := W.map fun x => (x.d, x.ars)
def IOwn (W : List IE) (w : AV) (D : ak) : Prop := ∃ hp hl, D = hp ++ hl /\ OwnE 12 (cI W) W.length w hp /\ (∀ x ∈ W, IOK hl x /\ x.nk = 0) /\ (∀ e ∈ hl, e.w = true) /\ ILB W
section
variable {W : List IE} {wv : AV} {D hs : ak} {x : IE}
theorem mc : D2 (W ++ [x]) = D2 W ++ [(x.d, x.ars)] := by unfold D2; rw [List.map_append]; rfl
theorem bP : (D2 W).length = W.length := List.length_map _
theorem l7 : cI (W ++ [x]) = cI W ++ x.c := by unfold cI; rw [List.flatMap_append]; simp
theorem IOwn.nil : IOwn [] .nils [] := ⟨[], [], rfl, OwnE.nil 12, fun x hx => by simp at hx, dr, by simp, fun x hx => by simp at hx⟩
theorem IOwn.w (h : IOwn W wv D) : ∀ e ∈ D, e.w = true := by
 obtain ⟨hp, hl, rfl, hO, _, hw, _⟩ := h
 exact wa (OwnE.w hO) hw
theorem IOwn.iin (h : IOwn W wv D) : IIn D W wv := by
 obtain ⟨hp, hl, rfl, hO, hx, hw, _⟩ := h
 exact ⟨(RIn.own hO).appl, fun x hx' => (hx x hx').1.mono fun b o q => q.app⟩
theorem IOwn.lb (h : IOwn W wv D) : ILB W := by
 obtain ⟨hp, hl, rfl, hO, hx, hw, hb⟩ := h
 exact hb
theorem IOwn.nk (h : IOwn W wv D) : ∀ x ∈ W, x.nk = 0 := by
 obtain ⟨hp, hl, rfl, hO, hx, hw, hb⟩ := h
 exact fun x h => (hx x h).2
theorem IIn.ro {L : List IE} {v : AV} (h : IIn hs L v) : IIn (ro hs) L v := h.mono fun b o q => q.ro
theorem IIn.app {A : ak} {L : List IE} {v : AV} (h : IIn hs L v) : IIn (A ++ hs) L v := h.mono fun b o q => q.app
theorem IIn.appl {A : ak} {L : List IE} {v : AV} (h : IIn hs L v) : IIn (hs ++ A) L v := h.mono fun b o q => q.appl'
end
def Fh (L : List IE) (e : Nat) (Q : List (ND × List Int)) : Prop := (d5 L ≠ 0 /\ e = d5 L /\ Q = []) \/ (d5 L = 0 /\ e = 0 /\ Q = iX L L.length)
inductive TD
 | node (d : ND) (ks : List TD)
mutual
def TRep (hs : ak) : TD -> List AV -> Prop
 | .node d ks, c => ∃ vm vn vk cs, c = d.c vm vn vk /\ RIn hs 3 d.ms.length (cM d.ms) vm /\ RIn hs 1 d.nm.length (cS d.nm) vn /\ RIn hs 11 ks.length (cs.flatMap id) vk /\ d.bd /\ ks.length <= 1048576 /\ TReps hs ks cs
def TReps (hs : ak) : List TD -> List (List AV) -> Prop
 | [], cs => cs = []
 | k :: ks, cs => ∃ c r, cs = c :: r /\ TRep hs k c /\ TReps hs ks r
end
mutual
theorem TRep.mono {hs hs' : ak} (hm : ∀ b o, MemH hs b o -> MemH hs' b o) : ∀ {t : TD} {c : List AV}, TRep hs t c -> TRep hs' t c
 | .node d ks, c, h => by
  rw [TRep] at h ⊢
  obtain ⟨vm, vn, vk, cs, h1, h2, h3, h4, h5, h6, h7⟩ := h
  exact ⟨vm, vn, vk, cs, h1, h2.mono hm, h3.mono hm, h4.mono hm, h5, h6, TReps.mono hm h7⟩
theorem TReps.mono {hs hs' : ak} (hm : ∀ b o, MemH hs b o -> MemH hs' b o) : ∀ {ks : List TD} {cs : List (List AV)}, TReps hs ks cs -> TReps hs' ks cs
 | [], cs, h => by rw [TReps] at h ⊢; exact h
 | k :: ks, cs, h => by
  rw [TReps] at h ⊢
  obtain ⟨c, r, h1, h2, h3⟩ := h
  exact ⟨c, r, h1, TRep.mono hm h2, TReps.mono hm h3⟩
end
section
variable {hs : ak} {t : TD} {ks : List TD} {c : List AV} {cs : List (List AV)}
theorem TRep.len (h : TRep hs t c) : c.length = 11 := by
 cases t with
 | node d ks =>
  rw [TRep] at h
  obtain ⟨vm, vn, vk, cs, rfl, _⟩ := h
  rfl
theorem TReps.length : ∀ {ks : List TD} {cs : List (List AV)}, TReps hs ks cs -> cs.length = ks.length
 | [], cs, h => by rw [TReps] at h; subst h; rfl
 | k :: ks, cs, h => by
  rw [TReps] at h
  obtain ⟨c, r, rfl, _, h3⟩ := h
  rw [List.length_cons, List.length_cons, TReps.length h3]
theorem TReps.at : ∀ {ks : List TD} {cs : List (List AV)} {i : Nat} {k : TD}, TReps hs ks cs -> ks[i]? = some k -> ∃ c, cs[i]? = some c /\ TRep hs k c
 | [], cs, i, k, h, hk => by simp at hk
 | x :: ks, cs, 0, k, h, hk => by
  rw [TReps] at h
  obtain ⟨c, r, rfl, h2, _⟩ := h
  simp at hk
  subst hk
  exact ⟨c, rfl, h2⟩
 | x :: ks, cs, i + 1, k, h, hk => by
  rw [TReps] at h
  obtain ⟨c, r, rfl, _, h3⟩ := h
  obtain ⟨c', h4, h5⟩ := TReps.at (i := i) h3 (by simpa using hk)
  exact ⟨c', by simpa using h4, h5⟩
theorem TReps.snoc : ∀ {ks : List TD} {cs : List (List AV)} {k : TD} {c : List AV}, TReps hs ks cs -> TRep hs k c -> TReps hs (ks ++ [k]) (cs ++ [c])
 | [], cs, k, c, h, hk => by
  rw [TReps] at h
  subst h
  show TReps hs [k] [c]
  rw [TReps]
  exact ⟨c, [], rfl, hk, by rw [TReps]⟩
 | x :: ks, cs, k, c, h, hk => by
  rw [TReps] at h
  obtain ⟨c', r, rfl, h2, h3⟩ := h
  show TReps hs (x :: (ks ++ [k])) (c' :: (r ++ [c]))
  rw [TReps]
  exact ⟨c', _, rfl, h2, TReps.snoc h3 hk⟩
theorem TReps.lens : ∀ {ks : List TD} {cs : List (List AV)}, TReps hs ks cs -> ∀ c ∈ cs, c.length = 11
 | [], cs, h, c, hc => by rw [TReps] at h; subst h; simp at hc
 | k :: ks, cs, h, c, hc => by
  rw [TReps] at h
  obtain ⟨c', r, rfl, h2, h3⟩ := h
  rcases List.mem_cons.1 hc with rfl | hc
  ·exact h2.len
  ·exact TReps.lens h3 c hc
theorem nQ : ∀ {cs : List (List AV)}, (∀ c ∈ cs, c.length = 11) -> (cs.flatMap id).length = cs.length * 11
 | [], _ => rfl
 | c :: cs, h => by
  rw [List.flatMap_cons, List.length_append, nQ fun x hx => h x (List.mem_cons_of_mem _ hx), List.length_cons, id, h c List.mem_cons_self]; omega
theorem nR : ∀ {cs : List (List AV)} {i : Nat} {c : List AV}, (∀ c ∈ cs, c.length = 11) -> cs[i]? = some c -> cn (cs.flatMap id) (i * 11) 11 = some c
 | [], i, c, _, h => by simp at h
 | y :: cs, 0, c, hl, h => by
  simp at h
  subst h
  have hy := hl y List.mem_cons_self
  unfold cn
  rw [List.flatMap_cons, Nat.zero_mul, Nat.zero_add, id]
  have e : Nat.ble 11 (y ++ cs.flatMap id).length = true := Nat.ble_eq.mpr (by rw [List.length_append, hy]; omega)
  simp only [e]
  rw [List.drop_zero, List.take_append_of_le_length zy, List.take_of_length_le zy]
 | y :: cs, i + 1, c, hl, h => by
  have hy := hl y List.mem_cons_self
  have hl' : ∀ c ∈ cs, c.length = 11 := fun x hx => hl x (List.mem_cons_of_mem _ hx)
  have ih := nR hl' (i := i) (c := c) (by simpa using h)
  have hlen := nQ hl'
  have hi : i < cs.length := by simpa using (List.getElem?_eq_some_iff.1 h).1
  unfold cn at ih ⊢
  rw [List.flatMap_cons, id]
  have e : Nat.ble ((i + 1) * 11 + 11) (y ++ cs.flatMap id).length = true := Nat.ble_eq.mpr (by rw [List.length_append, hy, hlen]; omega)
  have e2 : Nat.ble (i * 11 + 11) (cs.flatMap id).length = true := Nat.ble_eq.mpr (by rw [hlen]; omega)
  simp only [e, e2] at ih ⊢
  rw [<- ih, List.drop_append, List.drop_of_length_le (by rw [hy]; omega), List.nil_append, hy]
  congr 3
  omega
end
def yU (L : List IE) : Nat -> Nat -> TD
 | 0, _ => .node ND.zero []
 | k + 1, i => .node (ei L i).d ((ei L i).ars.map fun a => yU L k a.toNat)
def iC (L : List IE) (i : Nat) : TD := yU L (i + 1) i
def H6 (L : List IE) : Nat -> Nat -> Nat
 | 0, _ => 0
 | k + 1, i => (ei L i).ars.foldl (fun n a => min 4097 (n + H6 L k a.toNat)) 1
def yQ (L : List IE) (i : Nat) : Nat := H6 L (i + 1) i
def vd : TD := .node ND.zero []
section
variable {L : List IE} {i : Nat}
theorem Dq (hok : ∀ i, i < L.length -> pX L i = true) : ∀ (k i : Nat), i < k -> i < L.length -> yU L k i = iC L i := by
 intro k
 induction k using Nat.strongRecOn with
 | _ k ih =>
  intro i hk hi
  cases k with
  | zero => omega
  | succ k =>
   unfold iC
   show TD.node _ _ = TD.node _ _
   congr 1
   refine List.map_congr_left fun a ha => ?_
   obtain ⟨h1, h2⟩ := gD (hok i hi) ha
   rcases Nat.lt_or_ge i k with g | g
   ·rw [ih k zy a.toNat zy zy, ih i zy a.toNat zy zy]
   ·obtain rfl : k = i := by omega
    rfl
theorem uT (hok : ∀ i, i < L.length -> pX L i = true) (hi : i < L.length) : iC L i = .node (ei L i).d ((ei L i).ars.map fun a => iC L a.toNat) := by
 unfold iC
 show TD.node _ _ = TD.node _ _
 congr 1
 refine List.map_congr_left fun a ha => ?_
 obtain ⟨h1, h2⟩ := gD (hok i hi) ha
 exact Dq hok i a.toNat zy zy
theorem wL (hok : ∀ i, i < L.length -> pX L i = true) : ∀ (k i : Nat), i < k -> i < L.length -> H6 L k i = yQ L i := by
 intro k
 induction k using Nat.strongRecOn with
 | _ k ih =>
  intro i hk hi
  cases k with
  | zero => omega
  | succ k =>
   unfold yQ
   show List.foldl _ _ _ = List.foldl _ _ _
   refine fold_congr fun n a ha => ?_
   obtain ⟨h1, h2⟩ := gD (hok i hi) ha
   rcases Nat.lt_or_ge i k with g | g
   ·rw [ih k zy a.toNat zy zy, ih i zy a.toNat zy zy]
   ·obtain rfl : k = i := by omega
    rfl
where
 fold_congr {f g : Nat -> Int -> Nat} : ∀ {l : List Int} {n : Nat}, (∀ n a, a ∈ l -> f n a = g n a) -> l.foldl f n = l.foldl g n
  | [], n, _ => rfl
  | a :: l, n, h => by
   rw [List.foldl_cons, List.foldl_cons, h n a List.mem_cons_self]
   exact fold_congr fun n b hb => h n b (List.mem_cons_of_mem _ hb)
theorem Dh (hok : ∀ i, i < L.length -> pX L i = true) (hi : i < L.length) : yQ L i = (ei L i).ars.foldl (fun n a => min 4097 (n + yQ L a.toNat)) 1 := by
 unfold yQ
 show List.foldl _ _ _ = _
 refine wL.fold_congr fun n a ha => ?_
 obtain ⟨h1, h2⟩ := gD (hok i hi) ha
 rw [wL hok i a.toNat zy zy]; rfl
end
def Fg (L : List IE) (e : Nat) (t : TD) : Prop := (d5 L ≠ 0 /\ e = d5 L /\ t = vd) \/ (d5 L = 0 /\ 4096 < yQ L (L.length - 1) /\ e = 3 /\ t = vd) \/ (d5 L = 0 /\ yQ L (L.length - 1) <= 4096 /\ e = 0 /\ t = iC L (L.length - 1))
end Go.Proofs.YtndhhgbpcmfeiaaGreatDoor.Ev
