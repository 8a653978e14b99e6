/- Chapter 20, walks: a list of a call's own; a list written over. -/
import Derived.Test.YtndhhgbpcmfeiaaGreatDoorPJo
namespace Go.Proofs.YtndhhgbpcmfeiaaGreatDoor.Ev
open Go.RowKit
set_option maxRecDepth 100000
set_option maxHeartbeats 1000000
def KV (L : List IE) : List (Nat × AV) := L.map fun x => (x.nk, x.vk)
section
variable {L X : List IE} {hl : ad} {i : Nat} {d : ND} {vm vn vk va : AV}
theorem BE : (KV L).length = L.length := List.length_map _
theorem B0 {y : IE} (h : D2 X = (D2 L).take i) (hi : i < L.length) (h1 : y.d = (ei L i).d := by rfl) (h2 : y.ars = (ei L i).ars := by rfl) : D2 (X ++ [y]) = (D2 L).take (i + 1) := by
 rw [fq, h, h1, h2, jx, List.take_add_one, qM (by rw [aK]; exact hi)]; rfl
theorem B3 {y : IE} (h : KV X = (KV L).take i) (hi : i < L.length) (h1 : y.nk = (ei L i).nk := by rfl) (h2 : y.vk = (ei L i).vk := by rfl) : KV (X ++ [y]) = (KV L).take (i + 1) := by
 unfold KV at *
 rw [List.map_append, h, List.take_add_one, List.getElem?_map, ei_at hi, List.map_cons, List.map_nil, h1, h2]; rfl
theorem BZ {y : IE} (hX : ∀ x ∈ X, IBd x) (hy : IBd (ei L i)) (h1 : y.d = (ei L i).d := by rfl) (h2 : y.ars = (ei L i).ars := by rfl) : ∀ x ∈ X ++ [y], IBd x := fun x hx => by
 rcases List.mem_append.1 hx with hx | hx
 ·exact hX x hx
 ·rw [List.mem_singleton.1 hx]
  exact ⟨by rw [h1]; exact hy.d, by rw [h2]; exact hy.a, by rw [h2]; exact hy.i⟩
theorem uw {A : List Int} {nk : Nat} {Dm Dn Da : ad} (hX : ∀ x ∈ X, IOK hl x) (hm : OwnE 3 (cM d.ms) d.ms.length vm Dm) (hn : OwnE 1 (cS d.nm) d.nm.length vn Dn) (ha : OwnE 1 (cA A) A.length va Da) (hk : KLn vk nk) : ∀ x ∈ X ++ [⟨d, A, nk, vm, vn, vk, va⟩], IOK (hl ++ Dm ++ Dn ++ Da) x := by
 intro x hx
 rcases List.mem_append.1 hx with hx | hx
 ·exact (hX x hx).mono fun b o q => q.appl'.appl'.appl'
 ·rw [List.mem_singleton.1 hx]
  exact ⟨(RIn.own hm).app.appl.appl, (RIn.own hn).app.appl, hk, (RIn.own ha).app⟩
theorem zK (h : va.isCell = true) : cR (fun i => [(0, 11), (11, 1)][i]?) [.int .i64 0, .str [], .int .i64 0, .nils, .int .i64 0, .int .i64 0, .int .i64 0, .nils, .int .i64 0, .bool false, .nils, .nils] [(0, .agg (d.c vm vn vk)), (1, va)] = some (d.c vm vn vk ++ [va]) := by
 simp only [cR, cz h]; rfl
theorem Cz (hm : cf vm vm = true) (hn : cf vn vn = true) (hk : cf vk vk = true) (ha : cf va va = true) : (AV.agg (d.c vm vn vk ++ [va])).beq (AV.agg (d.c vm vn vk ++ [va])) = true :=
 gD (by simp only [ND.c, iT, List.cons_append, List.nil_append, List.all_cons, List.all_nil, hm, hn, hk, ha, oG, oH, lH, Bool.and_true])
theorem BN (hm : cf vm vm = true) (hn : cf vn vn = true) (hk : cf vk vk = true) : (AV.agg (d.c vm vn vk)).beq (AV.agg (d.c vm vn vk)) = true :=
 gD (by simp only [ND.c, iT, List.all_cons, List.all_nil, hm, hn, hk, oG, oH, lH, Bool.and_true])
end
def SLab (L : ad) (sz n : Nat) (v : AV) : Prop := (v = .nils /\ n = 0) \/ ∃ b z ex c, v = .slice b 0 n sz /\ (⟨b, ⟨z + 1, ex, c⟩, true⟩ : HE) ∈ L /\ c.length = n * sz
section
variable {L P Q : ad} {sz n b z e : Nat} {ex : Bool} {c c' : List AV} {v : AV} {x : IE}
theorem SLab.len (h : SLab L sz n v) : pe (.slice e) v = some n := by
 rcases h with ⟨rfl, rfl⟩ | ⟨b, z, ex, c, rfl, _⟩ <;> rfl
theorem SLab.full (h : SLab L sz n v) (hl : 0 < n) : ∃ b z ex c, v = .slice b 0 n sz /\ (⟨b, ⟨z + 1, ex, c⟩, true⟩ : HE) ∈ L /\ c.length = n * sz := by
 rcases h with ⟨_, h⟩ | h
 ·omega
 ·exact h
theorem SLab.put (hc : c'.length = c.length) (h : SLab (P ++ ⟨b, ⟨z + 1, ex, c⟩, true⟩ :: Q) sz n v) : SLab (P ++ ⟨b, ⟨z + 1, ex, c'⟩, true⟩ :: Q) sz n v := by
 rcases h with h | ⟨b1, z1, ex1, c1, h1, h2, h3⟩
 ·exact .inl h
 ·rcases List.mem_append.1 h2 with h2 | h2
  ·exact .inr ⟨b1, z1, ex1, c1, h1, List.mem_append_left _ h2, h3⟩
  ·rcases List.mem_cons.1 h2 with h2 | h2
   ·cases h2
    exact .inr ⟨b, z, ex, c', h1, List.mem_append_right _ List.mem_cons_self, by rw [hc]; exact h3⟩
   ·exact .inr ⟨b1, z1, ex1, c1, h1, List.mem_append_right _ (List.mem_cons_of_mem _ h2), h3⟩
theorem SLab.of {cells : List AV} (hz : WZ L) (h : RIn L sz n cells v) : SLab L sz n v := by
 rcases h with ⟨h1, h2, _⟩ | ⟨b, z, ex, h1, ⟨w, h2⟩, h3⟩
 ·exact .inl ⟨h1, h2⟩
 ·have hh := hz _ h2
  have hw : w = true := hh.1
  have hz : 0 < z := hh.2
  subst hw
  obtain ⟨z', rfl⟩ : ∃ z', z = z' + 1 := ⟨z - 1, by omega⟩
  exact .inr ⟨b, z', ex, _, h1, h2, h3⟩
structure SRw (L : ad) (x : IE) : Prop where
 m : SLab L 3 x.d.ms.length x.vm
 n : SLab L 1 x.d.nm.length x.vn
 a : SLab L 1 x.ars.length x.va
theorem SRw.put (hc : c'.length = c.length) (h : SRw (P ++ ⟨b, ⟨z + 1, ex, c⟩, true⟩ :: Q) x) : SRw (P ++ ⟨b, ⟨z + 1, ex, c'⟩, true⟩ :: Q) x := ⟨h.m.put hc, h.n.put hc, h.a.put hc⟩
theorem SRw.of (hz : WZ L) (h : IOK L x) : SRw L x := ⟨.of hz h.m, .of hz h.n, .of hz h.a⟩
theorem Cl {o o' : AObj} (h : ∀ e ∈ P ++ ⟨b, o, true⟩ :: Q, e.w = true) : ∀ e ∈ P ++ ⟨b, o', true⟩ :: Q, e.w = true := fun e he => by
 rcases List.mem_append.1 he with he | he
 ·exact h e (List.mem_append_left _ he)
 ·rcases List.mem_cons.1 he with rfl | he
  ·rfl
  ·exact h e (List.mem_append_right _ (List.mem_cons_of_mem _ he))
end
theorem j5 : ∀ {l new : List AV} {o : Nat}, o + new.length <= l.length -> (bJ l o new).length = l.length
 | l, [], o, _ => by simp [bJ]
 | [], a :: new, o, h => by simp at h
 | x :: l, a :: new, 0, h => by
  simp only [bJ, List.length_cons]
  rw [j5 (by simpa using h)]
 | x :: l, a :: new, o + 1, h => by
  simp only [bJ, List.length_cons]
  rw [j5 (by simp at h ⊢; omega)]
theorem Dh {a b c : AV} {o n : Nat} (h1 : a.isCell = true) (h2 : b.isCell = true) (h3 : c.isCell = true) (h : Nat.ble (o + 3) n = true) : (Nat.beq (AV.agg [a, b, c]).cells.length 3 && Nat.ble (o + 3) n && (AV.agg [a, b, c]).cells.all AV.isCell) = true := by
 have e : (AV.agg [a, b, c]).cells = [a, b, c] := rfl
 rw [e, h]
 simp [h1, h2, h3]
theorem Dj : PL aW 91 [.int .i64 0, .str [], .str []] [(0, 1), (1, 1), (2, 1)] = true := by kernel_rfl
theorem yg (hs : ad) (hro : ∀ e ∈ hs, e.w = false) (L : List IE) (v : AV) (hV : IIn hs L v) (hB : ILB L) : Spec aW 15 [v] [] hs (fun u D => ∃ X, D2 X = D2 L /\ KV X = KV L /\ ∃ hp hl, D = hp ++ hl /\ OwnE 12 (cI X) X.length u hp /\ (∀ x ∈ X, IOK hl x) /\ ILB X) := by
 have hBl := hB.1
 refine ak (eX 15 Tryz.func15) rfl (m := 40) rfl (rs := [.tmp 2]) rfl (st := [(0, v)]) rfl rfl (fun _ => rfl) (fun E => zr (za rfl (zk (zr (za rfl (zk (W.seq (zr (za (zi 0) (zk (W.block (iE (fun (i : Nat) (X : List IE) (u : AV) (hp : ad) (hl : ad) => [(0, v), (3, u), (4, .int .i64 ((i : Nat) : Int))]) (fun (i : Nat) (X : List IE) (u : AV) (hp : ad) (hl : ad) => (hs ++ hp ++ hl)) (fun (i : Nat) (X : List IE) (u : AV) (hp : ad) (hl : ad) => i <= L.length /\ D2 X = (D2 L).take i /\ KV X = (KV L).take i /\ OwnE 12 (cI X) X.length u hp /\ (∀ x ∈ X, IOK hl x) /\ (∀ e ∈ hl, e.w = true) /\ (∀ x ∈ X, IBd x)) (fun (i : Nat) (X : List IE) (u : AV) (hp : ad) (hl : ad) => L.length - i) (0) ([]) (.nils) ([]) ([]) ⟨Nat.zero_le _, rfl, rfl, OwnE.nil 12, fun x hx => by simp at hx, iC, fun x hx => by simp at hx⟩ zv (by rw [List.append_nil, List.append_nil]; exact SubH.refl _) (fun i X u hp hl hI0 ih0 => ?_)))))))))))))
 obtain ⟨h1, h2, h2k, hO, hX, hw, hXb⟩ := hI0
 have hXl : X.length = i := (by rw [<- aK, h2, List.length_take, aK]; omega)
 refine W.seq (zr (zm rfl (zm rfl (zq (Q.len aP rfl hV.1.len) (zq (aa rfl rfl rfl (fi fv)) (zk (aw rfl (fun hc9 => ?_) (fun hc9 => ?_))))))))
 ·obtain ⟨bv, szv, exv, rfl, wv, mv⟩ := hV.1.full zy
  refine zw (W.seq (W.block (zr (zm rfl (zm rfl (zq (aQ aP aC rfl rfl zo) (zq (Q.fieldAddr aV rfl rfl) (zq (aD rfl (List.mem_append_left _ (List.mem_append_left _ mv)) jD iu (CC zo)) (WO.alloc Cu rfl (fun b1 => zS iu rfl rfl (i := 0) rfl (dp rfl (ep (hV.at (i := i) zy).m.cell (hV.at (i := i) zy).n.cell (hV.at (i := i) zy).k.cell)) rfl (hs' := _ :: _) rfl (zk (zr (WO.bslice gz jt C2 rfl aE rfl (cs := []) rfl rfl rfl (fun b2 => zf dr rfl 3 (zq (ag rfl (zt 1 rfl) jp rfl) (WO.appAny (A := _) sR (OwnE.cons rfl) rfl rfl (Src.mono (fun e he => ⟨e.w, by obtain ⟨b, o, w⟩ := e; simp [he]⟩) (hV.at (i := i) zy).m.src) (hV.at (i := i) zy).m.length (by have := (hB.at (i := i) zy).d.2.1.1; omega) (by decide) (SubH.op (List.perm_append_singleton _ _)) rfl (fun v20 hp20 hO20 => zf dr rfl 3 (zS CT rfl rfl (i := 0) rfl (rA (OwnE.cell hO20) rfl) (AS (OwnE.cell hO20)) (hs' := _ :: _) rfl (zk (W.sub (zc 5 rfl (zc 0 rfl (zc 3 rfl (zc 4 rfl bE)))) (zr (WO.bslice gA yO Du rfl aE rfl (cs := []) rfl rfl rfl (fun b3 => zf dt rfl 7 ?_)))))))))))))))))))))))
  refine zq (ag rfl (zt 1 rfl) jq rfl) (WO.appAny (A := _) sS (OwnE.cons rfl) rfl rfl (Src.mono (fun e he => ⟨e.w, by obtain ⟨b, o, w⟩ := e; simp [he]⟩) (hV.at (i := i) zy).n.src) (hV.at (i := i) zy).n.length (by have := (hB.at (i := i) zy).d.2.2.1; omega) (by decide) (SubH.op (List.perm_append_singleton _ _)) rfl (fun v25 hp25 hO25 => zf dt rfl 7 (zS CU rfl rfl (i := 0) rfl (rA (OwnE.cell hO25) rfl) (AT (OwnE.cell hO25)) (hs' := _ :: _) rfl (zk (lS 11 (⟨b1, _, false⟩ :: hs) (by kernel_rfl) (KIn.cons (zt 0 rfl) (fun e he => ⟨e.w, by obtain ⟨b, o, w⟩ := e; simp [he]⟩)) (WD.q (Q.move rfl) (OwnE.bq hO) rfl (WD.q (zL rfl (zt 0 rfl) jD iu rfl) (BN (OwnE.bq0 hO20) (OwnE.bq0 hO25) (hV.at (i := i) zy).k.bq0) rfl (WD.bslice bh fP sI rfl aE rfl (cs := []) rfl rfl rfl (KIn.cons (zt 0 rfl) (fun e he => ⟨e.w, by obtain ⟨b, o, w⟩ := e; simp [he]⟩)) (fun b4 => WD.q (Q.move rfl) C3 rfl (WD.q (Q.move rfl) CA rfl (WD.q (aQ aP aC rfl rfl zo) sV rfl (WD.q (Q.fieldAddr bP rfl rfl) sV rfl (WD.q (ag rfl (List.mem_cons_of_mem _ mv) eZ (gG 11 zo rfl)) (hV.at zo).a.bq rfl (WD.appAny (A := _) cY (OwnE.cons rfl) rfl rfl (Src.mono (fun e he => ⟨e.w, by obtain ⟨b, o, w⟩ := e; simp [he]⟩) (hV.at (i := i) zy).a.src) (hV.at (i := i) zy).a.length (by have := (hB.at (i := i) zy).a; omega) (by decide) (SubH.op (List.perm_append_singleton _ _)) rfl (KIn.cons (zt 0 rfl) (fun e he => ⟨e.w, by obtain ⟨b, o, w⟩ := e; simp [he]⟩)) (fun v35 hp35 hO35 => WD.q (Q.build sk (gO rfl (gO rfl aE)) rfl (cs := [_, _, _, _, _, _, _, _, _, _, _, _]) (zK (OwnE.cell hO35))) (Cz (OwnE.bq0 hO20) (OwnE.bq0 hO25) (hV.at (i := i) zy).k.bq0 (OwnE.bq0 hO35)) rfl (WD.bslice aP aC pG rfl (gO rfl aE) rfl (cs := [_, _, _, _, _, _, _, _, _, _, _, _]) rfl (oD (OwnE.cell hO20) (OwnE.cell hO25) (hV.at (i := i) zy).k.cell (OwnE.cell hO35)) rfl (KIn.cons (zt 0 rfl) (fun e he => ⟨e.w, by obtain ⟨b, o, w⟩ := e; simp [he]⟩)) (fun b5 => WD.appAny (A := ([⟨_, _, true⟩] ++ hs ++ hl ++ hp20 ++ hp25 ++ hp35)) fm hO rfl rfl (Src.slice (zt 0 rfl) rfl) rfl zy (by decide) gc rfl (KIn.cons (zt 0 rfl) (fun e he => ⟨e.w, by obtain ⟨b, o, w⟩ := e; simp [he]⟩)) (fun v38 hp38 hO38 => WD.q (Q.assign rfl) (OwnE.bq hO38) rfl (WD.nil (End.KB (End.K (W.sub (zc 3 rfl (zc 0 rfl (zc 4 rfl bE))) (ay (zm rfl ?_))))))))))))))))))))))))
  refine zq (aa rfl (zi 1) rfl zp) (za rfl (WO.nil (End.KL (W.sub zv (bG gc (ih0 (i + 1) (X ++ [⟨(ei L i).d, (ei L i).ars, (ei L i).nk, v20, v25, (ei L i).vk, v35⟩]) (v38) (hp38) (hl ++ hp20 ++ hp25 ++ hp35) ?_ ?_))))))
  ·exact ⟨by omega, B0 h2 zy, B3 h2k zy, by rw [fp, List.length_append]; exact hO38, uw hX (by simpa using hO20) (by simpa using hO25) (by simpa using hO35) (hV.at (i := i) zy).k, wa (wa (wa hw (OwnE.w hO20)) (OwnE.w hO25)) (OwnE.w hO35), BZ hXb (hB.at (i := i) zy)⟩
  exact zo
 refine W.exit (aJ (aM (aI (End.K (zr (zm rfl (za rfl (zk (W.ret ?_)))))))))
 refine End.ret (z1 rfl) (hs' := hp ++ hl) ⟨X, by rw [h2]; exact List.take_of_length_le (by rw [aK]; omega), by rw [h2k]; exact List.take_of_length_le (by rw [BE]; omega), hp, hl, rfl, hO, hX, by omega, hXb⟩ (wa (OwnE.w hO) hw) gc

theorem yF (hs : ad) (Y : List IE) (v : AV) (hV : RIn hs 12 Y.length (cI Y) v) (hYl : Y.length <= 1048576) (hYb : ∀ x ∈ Y, IBd x) (L : ad) (hS : ∀ x ∈ Y, SRw L x) (hw : ∀ e ∈ L, e.w = true) : Spec aW 24 [v] ((hs ++ L).map (·.b)) (hs ++ L) (eW (.tuple [])) := by
 refine ak (eX 24 Tryz.func24) rfl (m := 68) rfl (rs := []) rfl (st := [(0, v)]) rfl rfl (fun _ => rfl) (fun E => zr (za (zi 0) (zk (W.block (dw (fun (i : Nat) (L : ad) => [(0, v), (2, .int .i64 ((i : Nat) : Int))]) (fun (i : Nat) (L : ad) => (hs ++ L)) (fun (i : Nat) (L : ad) => i <= Y.length /\ (∀ x ∈ Y, SRw L x) /\ (∀ e ∈ L, e.w = true)) (fun (i : Nat) (L : ad) => Y.length - i) (0) (L) ⟨Nat.zero_le _, hS, hw⟩ zv (SubH.refl _) (fun i L hI0 ih0 => ?_))))))
 obtain ⟨h1, hS, hw⟩ := hI0
 refine W.seq (zr (zm rfl (zm rfl (zq (Q.len aP rfl hV.len) (zq (aa rfl rfl rfl (fi fv)) (zk (aw rfl (fun hc9 => ?_) (fun hc9 => ?_))))))))
 ·obtain ⟨bv, szv, exv, rfl, wv, mv⟩ := hV.full zy
  have hbd := hYb (ei Y i) (dF zy)
  have hb1 := hbd.a
  have hb2 := hbd.d.2.1.1
  have hb3 := hbd.d.2.2.1
  refine zw (W.seq (W.block (W.seq (zr (za (zi 0) (zk (W.block (dw (fun (q : Nat) (L : ad) => [(0, .slice bv 0 Y.length 12), (2, .int .i64 ((i : Nat) : Int)), (3, .int .i64 ((q : Nat) : Int))]) (fun (q : Nat) (L : ad) => (hs ++ L)) (fun (q : Nat) (L : ad) => q <= (ei Y i).ars.length /\ (∀ x ∈ Y, SRw L x) /\ (∀ e ∈ L, e.w = true)) (fun (q : Nat) (L : ad) => (ei Y i).ars.length - q) (0) (L) ⟨Nat.zero_le _, hS, hw⟩ zv (SubH.refl _) (fun q L hI1 ih1 => ?_)))))))))
  obtain ⟨h2, hS, hw⟩ := hI1
  refine W.seq (zr (zm rfl (zm rfl (zm rfl (zq (aQ aP aC rfl rfl zo) (zq (Q.fieldAddr bP rfl rfl) (zq (ag rfl (List.mem_append_left _ mv) eZ (gG 11 zo rfl)) (zq (Q.len bh rfl (SLab.len (hS _ (dF zo)).a)) (zq (aa rfl rfl rfl (fi fv)) (zk (aw rfl (fun hc19 => ?_) (fun hc19 => ?_))))))))))))
  ·obtain ⟨bl, zl, exl, cl, hva, hm, hcl⟩ := (hS (ei Y i) (dF zy)).a.full zy
   obtain ⟨Lp, Lq, rfl⟩ := List.append_of_mem hm
   refine bG (hs' := ⟨bl, ⟨zl + 1, exl, cl⟩, true⟩ :: (hs ++ Lp ++ Lq)) gc (zw (W.seq (W.block (ay (zm rfl (zm rfl (zq (aQ aP aC rfl rfl zo) (zq (Q.fieldAddr bP rfl rfl) (zq (ag rfl (List.mem_cons_of_mem _ (List.mem_append_left _ (List.mem_append_left _ mv))) eZ (gG 11 zo (congrArg some hva))) (zm rfl (zq (aQ bh fP rfl rfl zo) (WO.store fP rfl rfl (i := 0) rfl (rA rfl (by rw [hcl, Nat.ble_eq]; omega)) rfl (hs' := _ :: _) rfl (WO.nil (End.KB (End.K (W.sub (zc 0 rfl (zc 2 rfl (zc 3 rfl bE))) (ay (zm rfl (zq (aa rfl (zi 1) rfl zp) (za rfl (WO.nil (End.KL (W.sub zv (bG gc (ih1 (q + 1) (Lp ++ ⟨bl, ⟨zl + 1, exl, bJ cl ((0 + q) * 1) (AV.int .i64 (-7)).cells⟩, true⟩ :: Lq) ?_ ?_)))))))))))))))))))))))))
   ·exact ⟨by omega, fun x hx => (hS x hx).put (j5 (by rw [hcl]; show (0 + q) * 1 + 1 <= _; omega)), Cl hw⟩
   exact zo
  refine W.exit (aJ (aM (aI (End.K (W.seq (zr (za (zi 0) (zk (W.block (dw (fun (q : Nat) (L : ad) => [(0, .slice bv 0 Y.length 12), (2, .int .i64 ((i : Nat) : Int)), (4, .int .i64 ((q : Nat) : Int))]) (fun (q : Nat) (L : ad) => (hs ++ L)) (fun (q : Nat) (L : ad) => q <= (ei Y i).d.nm.length /\ (∀ x ∈ Y, SRw L x) /\ (∀ e ∈ L, e.w = true)) (fun (q : Nat) (L : ad) => (ei Y i).d.nm.length - q) (0) (L) ⟨Nat.zero_le _, hS, hw⟩ zv (SubH.refl _) (fun q L hI2 ih2 => ?_)))))))))))
  obtain ⟨h2, hS, hw⟩ := hI2
  refine W.seq (zr (zm rfl (zm rfl (zm rfl (zq (aQ aP aC rfl rfl zo) (zq (Q.fieldAddr aV rfl rfl) (zq (Q.fieldAddr dt rfl rfl) (zq (ag rfl (List.mem_append_left _ mv) jq (gG 7 zo rfl)) (zq (Q.len gA rfl (SLab.len (hS _ (dF zo)).n)) (zq (aa rfl rfl rfl (fi fv)) (zk (aw rfl (fun hc37 => ?_) (fun hc37 => ?_)))))))))))))
  ·obtain ⟨bl, zl, exl, cl, hva, hm, hcl⟩ := (hS (ei Y i) (dF zy)).n.full zy
   obtain ⟨Lp, Lq, rfl⟩ := List.append_of_mem hm
   refine bG (hs' := ⟨bl, ⟨zl + 1, exl, cl⟩, true⟩ :: (hs ++ Lp ++ Lq)) gc (zw (W.seq (W.block (ay (zm rfl (zm rfl (zq (aQ aP aC rfl rfl zo) (zq (Q.fieldAddr aV rfl rfl) (zq (Q.fieldAddr dt rfl rfl) (zq (ag rfl (List.mem_cons_of_mem _ (List.mem_append_left _ (List.mem_append_left _ mv))) jq (gG 7 zo (congrArg some hva))) (zm rfl (zq (aQ gA yO rfl rfl zo) (WO.store yO rfl (oc (v := .str [115, 112, 111, 105, 108, 116]) (by kernel_rfl)) (i := 0) rfl (rA rfl (by rw [hcl, Nat.ble_eq]; omega)) rfl (hs' := _ :: _) rfl (WO.nil (End.KB (End.K (W.sub (zc 0 rfl (zc 2 rfl (zc 4 rfl bE))) (ay (zm rfl (zq (aa rfl (zi 1) rfl zp) (za rfl (WO.nil (End.KL (W.sub zv (bG gc (ih2 (q + 1) (Lp ++ ⟨bl, ⟨zl + 1, exl, bJ cl ((0 + q) * 1) (AV.str [115, 112, 111, 105, 108, 116]).cells⟩, true⟩ :: Lq) ?_ ?_))))))))))))))))))))))))))
   ·exact ⟨by omega, fun x hx => (hS x hx).put (j5 (by rw [hcl]; show (0 + q) * 1 + 1 <= _; omega)), Cl hw⟩
   exact zo
  refine W.exit (aJ (aM (aI (End.K (zr (za (zi 0) (zk (W.block (dw (fun (q : Nat) (L : ad) => [(0, .slice bv 0 Y.length 12), (2, .int .i64 ((i : Nat) : Int)), (5, .int .i64 ((q : Nat) : Int))]) (fun (q : Nat) (L : ad) => (hs ++ L)) (fun (q : Nat) (L : ad) => q <= (ei Y i).d.ms.length /\ (∀ x ∈ Y, SRw L x) /\ (∀ e ∈ L, e.w = true)) (fun (q : Nat) (L : ad) => (ei Y i).d.ms.length - q) (0) (L) ⟨Nat.zero_le _, hS, hw⟩ zv (SubH.refl _) (fun q L hI3 ih3 => ?_))))))))))
  obtain ⟨h2, hS, hw⟩ := hI3
  refine W.seq (zr (zm rfl (zm rfl (zm rfl (zq (aQ aP aC rfl rfl zo) (zq (Q.fieldAddr aV rfl rfl) (zq (Q.fieldAddr dr rfl rfl) (zq (ag rfl (List.mem_append_left _ mv) jp (gG 3 zo rfl)) (zq (Q.len gz rfl (SLab.len (hS _ (dF zo)).m)) (zq (aa rfl rfl rfl (fi fv)) (zk (aw rfl (fun hc56 => ?_) (fun hc56 => ?_)))))))))))))
  ·obtain ⟨bl, zl, exl, cl, hva, hm, hcl⟩ := (hS (ei Y i) (dF zy)).m.full zy
   obtain ⟨Lp, Lq, rfl⟩ := List.append_of_mem hm
   refine bG (hs' := ⟨bl, ⟨zl + 1, exl, cl⟩, true⟩ :: (hs ++ Lp ++ Lq)) gc (zw (W.seq (W.block (ay (zm rfl (zm rfl (zq (aQ aP aC rfl rfl zo) (zq (Q.fieldAddr aV rfl rfl) (zq (Q.fieldAddr dr rfl rfl) (zq (ag rfl (List.mem_cons_of_mem _ (List.mem_append_left _ (List.mem_append_left _ mv))) jp (gG 3 zo (congrArg some hva))) (zm rfl (zq (Q.build Dj (gO (zi 9) aE) rfl (cs := [_, _, _]) rfl) (zq (aQ gz jt rfl rfl zo) (WO.store jt rfl rfl (i := 0) rfl (Dh rfl rfl rfl (by rw [hcl, Nat.ble_eq]; omega)) rfl (hs' := _ :: _) rfl (WO.nil (End.KB (End.K (W.sub (zc 0 rfl (zc 2 rfl (zc 5 rfl bE))) (ay (zm rfl (zq (aa rfl (zi 1) rfl zp) (za rfl (WO.nil (End.KL ?_))))))))))))))))))))))))
   refine W.sub zv (bG gc (ih3 (q + 1) (Lp ++ ⟨bl, ⟨zl + 1, exl, bJ cl ((0 + q) * 3) (AV.agg [.int .i64 ((9 : Nat) : Int), .str [], .str []]).cells⟩, true⟩ :: Lq) ?_ ?_))
   ·exact ⟨by omega, fun x hx => (hS x hx).put (j5 (by rw [hcl]; show (0 + q) * 3 + 3 <= _; omega)), Cl hw⟩
   exact zo
  refine W.exit (aJ (aM (aI (End.KB (End.K (ay (zm rfl (zq (aa rfl (zi 1) rfl zp) (za rfl (WO.nil (End.KL (W.sub zv (bG (SubH.refl _) (ih0 (i + 1) (L) ?_ ?_))))))))))))))
  ·exact ⟨by omega, hS, hw⟩
  exact zo
 refine W.exit ?_
 refine aJ (aM (aI (uR ResL.nil ⟨rfl, rfl⟩ iC (SubH.nil _))))

end Go.Proofs.YtndhhgbpcmfeiaaGreatDoor.Ev
