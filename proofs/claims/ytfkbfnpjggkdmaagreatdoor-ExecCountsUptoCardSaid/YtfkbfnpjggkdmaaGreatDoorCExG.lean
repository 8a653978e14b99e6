/- Chapter 20: what a plan of one instruction, a selector, means. -/
import Derived.Test.YtfkbfnpjggkdmaaGreatDoorCEa5
import Derived.Test.YtfkbfnpjggkdmaaGreatDoorCFactsE
import Derived.Test.YtfkbfnpjggkdmaaGreatDoorCFactsR
namespace Go.Proofs.YtfkbfnpjggkdmaaGreatDoor.Ev
open Go.RowKit
set_option maxRecDepth 100000
set_option maxHeartbeats 1000000
theorem au {a b : Bool} (h : a = true) (g : b = true) : (a && b) = true := by rw [h, g]; rfl
theorem Dn {v : AV} {o n : Nat} (h : v.isCell = true) (hle : Nat.ble (o + 1) n = true) : (Nat.beq v.cells.length 1 && Nat.ble (o + 1) n && v.cells.all AV.isCell) = true := by
 rw [cp h, hle]; simp [h]
theorem IQ {a0 a1 a2 a3 v : AV} {b : List AV} (h : v.isCell = true) : ct (a0 :: a1 :: a2 :: a3 :: b) 3 v.cells = a0 :: a1 :: a2 :: v :: b := by
 rw [cp h]; simp [ct]
theorem Ds {keep hs : af} (h : SubH keep hs) : KIn keep hs := fun e he => ⟨e.w, by obtain ⟨b, o, w⟩ := e; exact h.1 _ he⟩
theorem ISm.bq {hs : af} {M : List ed} {v : AV} (h : ISm hs M v) : v.beq v = true := by
 rcases h with ⟨rfl, _⟩ | ⟨b, sz, ex, rfl, _⟩
 ·rfl
 ·simp [AV.beq, dG, dF, d6]
theorem iF : tab.isAgg 25 = some false := by kernel_rfl
theorem oB : tab.isAgg 26 = some false := by kernel_rfl
theorem DH : tab.isAgg 49 = some false := by kernel_rfl
theorem yQ : tab.isAgg 50 = some false := by kernel_rfl
theorem rB : tab.isAgg 51 = some false := by kernel_rfl
theorem ee : tab.isAgg 53 = some true := by kernel_rfl
theorem nC : tab.isAgg 55 = some true := by kernel_rfl
theorem JI : AO tab 3 = some ⟨1, true, [.int .i64 0]⟩ := by kernel_rfl
theorem jG : AO tab 53 = some ⟨11, true, [.int .i64 0, .str [], .int .i64 0, .nils, .int .i64 0, .int .i64 0, .int .i64 0, .nils, .int .i64 0, .bool false, .nils]⟩ := by kernel_rfl
theorem nD : AO tab 55 = some ⟨12, true, [.int .i64 0, .str [], .int .i64 0, .nils, .int .i64 0, .int .i64 0, .int .i64 0, .nils, .int .i64 0, .bool false, .nils, .nils]⟩ := by kernel_rfl
theorem DM : AP tab 49 49 = some 3 := by kernel_rfl
theorem kn : ∀ l : List AV, l.length = 11 -> bk tab 53 l = ⟨11, true, l⟩ := by intro l h; exact aX (by kernel_rfl) h
theorem eu : FA tab 53 10 = some (10, 0 + 1) := by kernel_rfl
theorem kR : FA tab 53 3 = some (3, 0 + 1) := by kernel_rfl
theorem kS : FA tab 53 7 = some (7, 0 + 1) := by kernel_rfl
theorem fv : FA tab 55 0 = some (0, 10 + 1) := by kernel_rfl
theorem eh : FA tab 55 1 = some (11, 0 + 1) := by kernel_rfl
theorem ER : ∀ b o l z : Nat, bC tab .eql 49 (.slice b o l z) .nils = some (.bool false) := by intros; kernel_rfl
theorem ud : bC tab .eql 49 .nils .nils = some (.bool true) := by intros; kernel_rfl
theorem Cz : bC tab .eql 50 .nils .nils = some (.bool true) := by intros; kernel_rfl
theorem Hz : tab.size 49 = some 1 := by kernel_rfl
theorem HA : tab.size 50 = some 1 := by kernel_rfl
theorem C8 : tab.size 51 = some 1 := by kernel_rfl
theorem ci : tab.size 53 = some 11 := by kernel_rfl
theorem dz : tab.size 55 = some 12 := by kernel_rfl
theorem fR : tab.und 26 = some (.slice 55) := by kernel_rfl
theorem pM : tab.und 51 = some (.slice 53) := by kernel_rfl
theorem JD : tab.zero 62 = some (.agg [.int .i64 0, .str [], .str []]) := by kernel_rfl
theorem Io (hs : af) : Spec tab 145 [.nils] [] hs (fun u D => OwnE 3 (qP []) 0 u D) := by
 refine ac (bz 145 Tryz.func145) rfl (m := 8) rfl (rs := [.tmp 2]) rfl (st := [(0, .nils)]) rfl rfl (fun _ => rfl) (fun E => zr (za rfl (zk (W.seq (zr (zm rfl (zq (aa rfl rfl rfl ud) (zk (W.condT rfl (zr (za rfl (zk (W.ret ?_)))))))))))))
 refine ad (End.ret (z1 rfl) (hs' := []) (OwnE.nil 3) dB gc)

theorem Ip (hs : af) (hro : ∀ e ∈ hs, e.w = false) (M : List ed) (hl : M.length <= 1048576) (b sz : Nat) (ex w : Bool) (hm : (⟨b, ⟨sz, ex, qP M⟩, w⟩ : HE) ∈ hs) : Spec tab 145 [.slice b 0 M.length 3] [] hs (fun u D => OwnE 3 (qP M) M.length u D) := by
 refine ac (bz 145 Tryz.func145) rfl (m := 8) rfl (rs := [.tmp 2]) rfl (st := [(0, .slice b 0 M.length 3)]) rfl rfl (fun _ => rfl) (fun E => zr (za rfl (zk (W.seq (zr (zm rfl (zq (aa rfl rfl rfl (ER _ _ _ _)) (zk (W.condF rfl (zw (zr (WO.bslice v8 vY JD rfl dE rfl (cs := []) rfl rfl rfl (fun b1 => zm rfl (WO.appAny (A := _) DM (OwnE.cons rfl) rfl rfl (Src.mono (fun e he => ⟨e.w, by obtain ⟨b, o, w⟩ := e; simp [he]⟩) (Dz (.inr ⟨b, sz, ex, rfl, w, hm⟩))) (nY M) zy (by decide) (SubH.op (List.perm_append_singleton _ _)) rfl (fun v7 hp7 hO7 => za rfl (zk (W.ret ?_)))))))))))))))))
 refine End.ret (z1 rfl) (hs' := hp7) (by simpa [fz] using hO7) hO7.w gc
theorem Be (hs : af) (hro : ∀ e ∈ hs, e.w = false) (M : List ed) (vm : AV) (hM : ISm hs M vm) (hok : nB M) : Spec tab 145 [vm] [] hs (fun u D => OwnE 3 (qP M) M.length u D) := by
 rcases hM with ⟨rfl, rfl⟩ | ⟨b, sz, ex, rfl, w, hm⟩
 ·exact Io hs
 ·exact Ip hs hro M hok.1 b sz ex w hm

theorem Bf  : Spec tab 146 [.nils] [] [] (bN (.nils)) := by
 refine ac (bz 146 Tryz.func146) rfl (m := 8) rfl (rs := [.tmp 2]) rfl (st := [(0, .nils)]) rfl rfl (fun _ => rfl) (fun E => zr (za rfl (zk (W.seq (zr (zm rfl (zq (aa rfl rfl rfl Cz) (zk (W.condT rfl (zr (za rfl (zk (W.ret (ad (ae (z1 rfl) ?_)))))))))))))))
 rfl

theorem IN (F : Nat) (C : List AV) : Spec tab 172 [.nils, .func F C] [] [] (bN (.int .i64 (-1))) := by
 refine ac (bz 172 Tryz.func172) rfl (m := 19) rfl (rs := [.tmp 4]) rfl (st := [(0, .nils), (1, .func F C)]) rfl rfl (fun _ => rfl) (fun E => zr (za (zi 0) (zk (W.seq (zr (zm rfl (zq (Q.len aP rfl rfl) (zq (Q.move (zi 0)) (zk (W.block (W.loop (zr (zq (aa rfl rfl rfl (bu (p := false) rfl)) (zk (W.seq (W.condF rfl (W.exit (am (aq (ap (End.K (zr (za rfl (zk (W.ret (ae (z1 rfl) ?_))))))))))))))))))))))))))
 rfl

theorem Iv (F : Nat) (C : List AV) : Spec tab 143 [.nils, .func F C] [] [] (bN (.bool false)) := by
 refine ac (bz 143 Tryz.func143) rfl (m := 9) rfl (rs := [.tmp 4]) rfl (st := [(0, .nils), (1, .func F C)]) rfl rfl (fun _ => rfl) (fun E => zr (za rfl (zk (zr (zm rfl (zm rfl (ak rfl (aj rfl (aj rfl oz)) rfl (IN _ _) SubR.nil rfl (zq (aa rfl (zi 0) rfl (bp (p := false) rfl)) (za rfl (zk (W.ret (ae (z1 rfl) ?_))))))))))))
 rfl

theorem Ay : tab.isAgg 103 = some false := by kernel_rfl
theorem io : tab.isAgg 213 = some true := by kernel_rfl
theorem H9 : AO tab 103 = some ⟨1, true, [.nilf]⟩ := by kernel_rfl
theorem fS : AO tab 213 = some ⟨1, true, [.int .i64 0, .int .i64 0, .int .i64 0]⟩ := by kernel_rfl
theorem DS : ∀ l : List AV, l.length = 4 -> bk tab 24 l = ⟨4, true, l⟩ := by intro l h; exact aX (by kernel_rfl) h
theorem JV : ∀ l : List AV, l.length = 1 -> bk tab 26 l = ⟨1, true, l⟩ := by intro l h; exact aX (by kernel_rfl) h
theorem mw : FA tab 24 0 = some (0, 0 + 1) := by kernel_rfl
theorem my : FA tab 24 1 = some (1, 0 + 1) := by kernel_rfl
theorem sb : FA tab 24 2 = some (2, 0 + 1) := by kernel_rfl
theorem BG : FA tab 24 3 = some (3, 0 + 1) := by kernel_rfl
theorem dK : FA tab 53 0 = some (0, 0 + 1) := by kernel_rfl
theorem jl : FA tab 53 1 = some (1, 0 + 1) := by kernel_rfl
theorem iL : FA tab 53 4 = some (4, 0 + 1) := by kernel_rfl
theorem mB : FA tab 53 5 = some (5, 0 + 1) := by kernel_rfl
theorem JZ : MS tab 25 = some (1, [.int .i64 0]) := by kernel_rfl
theorem ET : ∀ (f : Nat) (l : List AV), bC tab .neq 42 (.func f l) .nilf = some (.bool true) := by intros; kernel_rfl
theorem uh : PL tab 213 [.int .i64 0, .int .i64 0, .int .i64 0] [(0, 1), (1, 1), (2, 1)] = true := by kernel_rfl
theorem Jv : tab.size 103 = some 1 := by kernel_rfl
theorem dC : tab.size 213 = some 3 := by kernel_rfl
theorem yH : tab.und 212 = some (.array 3 3) := by kernel_rfl
theorem Kt  : Spec tab 147 [.nils] [] [] (bN (.tuple [.agg [.int .i64 0, .int .i64 0, .int .i64 0], .bool true])) := by
 refine ac (bz 147 Tryz.func147) rfl (m := 12) rfl (rs := [.cell 2 213, .tmp 3]) rfl (st := [(0, .nils)]) rfl rfl (fun _ => rfl) (fun E => zr (WO.alloc fS rfl (fun b1 => za rfl (zk (zr (WO.alloc fS rfl (fun b2 => zk (zr (zq (oo yH dn rfl (zt 0 rfl) rfl) (zm rfl (WO.copy aP dn rfl rfl (fun _ _ => rfl) (i := 0) rfl rfl (cs' := [_, _, _]) rfl (hs' := [_, _]) rfl rfl (zk (zr (zq (ax rfl (zt 0 rfl) io dC (l := [_, _, _]) rfl) (zm rfl (zq (Q.len aP rfl rfl) (zq (aa rfl (zi 3) rfl (aZ (p := true) rfl)) (pR dC rfl rfl (i := 1) rfl rfl rfl (hs' := [_, _]) rfl (za rfl (zk (W.ret (ae (HV rfl (zt 1 rfl) io dC rfl (z1 rfl)) ?_))))))))))))))))))))))
 rfl

theorem call1  : Spec tab 116 [.str []] [] [] (bN (.tuple [.agg [.int .i64 0, .int .i64 0, .int .i64 0], .int .i64 ((0 : Nat) : Int)])) := by
 refine ac (bz 116 Tryz.func116) rfl (m := 35) rfl (rs := [.cell 2 213, .tmp 3]) rfl (st := [(0, .str [])]) rfl rfl (fun _ => rfl) (fun E => zr (WO.alloc fS rfl (fun b1 => za (zi 0) (zk (W.seq (zr (zm rfl (zk (W.block (zr (zq (aa rfl (oc (v := .str [116, 105, 109, 101]) (by kernel_rfl)) rfl (aH (p := false) rfl)) (za rfl (zk (W.condF rfl (zr (zq (aa rfl (oc (v := .str [115, 99, 97, 108, 97, 114]) (by kernel_rfl)) rfl (aH (p := false) rfl)) (za rfl (zk (W.condF rfl (zr (zq (aa rfl (oc (v := .str [118, 101, 99, 116, 111, 114]) (by kernel_rfl)) rfl (aH (p := false) rfl)) (za rfl (zk ?_)))))))))))))))))))))))
 refine W.condF rfl (W.seq (zr (zq (aa rfl (oc (v := .str [97, 98, 115]) (by kernel_rfl)) rfl (aH (p := false) rfl)) (za rfl (zk (W.condF rfl (zr (zq (aa rfl (oc (v := .str [99, 101, 105, 108]) (by kernel_rfl)) rfl (aH (p := false) rfl)) (za rfl (zk (W.condF rfl (zr (zq (aa rfl (oc (v := .str [102, 108, 111, 111, 114]) (by kernel_rfl)) rfl (aH (p := false) rfl)) (za rfl (zk (W.condF rfl (W.reg (zq (aa rfl (oc (v := .str [115, 103, 110]) (by kernel_rfl)) rfl (aH (p := false) rfl)) (za rfl (zk (W.condF rfl (zr (zq (aa rfl (oc (v := .str [99, 108, 97, 109, 112]) (by kernel_rfl)) rfl (aH (p := false) rfl)) ?_)))))))))))))))))))))))
 refine za rfl (zk (W.sub (zc 20 rfl (zc 4 rfl (zc 2 rfl aI))) (W.condF rfl (W.seq (zr (zq (aa rfl (oc (v := .str [99, 111, 117, 110, 116, 95, 111, 118, 101, 114, 95, 116, 105, 109, 101]) (by kernel_rfl)) rfl (aH (p := false) rfl)) (za rfl (zk (W.condF rfl (zr (zq (aa rfl (oc (v := .str [115, 117, 109, 95, 111, 118, 101, 114, 95, 116, 105, 109, 101]) (by kernel_rfl)) rfl (aH (p := false) rfl)) (za rfl (zk (W.condF rfl (zr (zq (aa rfl (oc (v := .str [97, 118, 103, 95, 111, 118, 101, 114, 95, 116, 105, 109, 101]) (by kernel_rfl)) rfl (aH (p := false) rfl)) (za rfl (zk (W.condF rfl (zr (zq (aa rfl (oc (v := .str [109, 105, 110, 95, 111, 118, 101, 114, 95, 116, 105, 109, 101]) (by kernel_rfl)) rfl (aH (p := false) rfl)) (za rfl (zk ?_)))))))))))))))))))))))
 refine W.condF rfl (zr (zq (aa rfl (oc (v := .str [109, 97, 120, 95, 111, 118, 101, 114, 95, 116, 105, 109, 101]) (by kernel_rfl)) rfl (aH (p := false) rfl)) (za rfl (zk (W.condF rfl (zr (zq (aa rfl (oc (v := .str [108, 97, 115, 116, 95, 111, 118, 101, 114, 95, 116, 105, 109, 101]) (by kernel_rfl)) rfl (aH (p := false) rfl)) (za rfl (zk (W.condF rfl (zr (zq (aa rfl (oc (v := .str [100, 101, 108, 116, 97]) (by kernel_rfl)) rfl (aH (p := false) rfl)) (za rfl (zk (W.condF rfl (zr (zq (aa rfl (oc (v := .str [105, 110, 99, 114, 101, 97, 115, 101]) (by kernel_rfl)) rfl (aH (p := false) rfl)) (za rfl (zk (W.condF rfl (W.reg (zq (aa rfl (oc (v := .str [114, 97, 116, 101]) (by kernel_rfl)) rfl (aH (p := false) rfl)) (za rfl ?_)))))))))))))))))))))))
 refine zk (W.condF rfl (W.skip (End.KB (End.K (zr (zq (Q.build uh dE rfl (cs := [_, _, _]) rfl) (pR dC rfl rfl (i := 0) rfl rfl rfl (hs' := [_]) rfl (za (zi 0) (zk (W.ret (ae (HV rfl (zt 0 rfl) io dC rfl (z1 rfl)) ?_)))))))))))
 rfl

theorem eF (b : Bool) (hb : b = true) (e : Int) : Spec tab 86 [.bool b, .int .i64 e] [] [] (bN (.tuple [])) := by
 refine ac (bz 86 Tryz.func86) rfl (m := 8) rfl (rs := []) rfl (st := [(0, .bool b), (1, .int .i64 e)]) rfl rfl (fun _ => rfl) (fun E => zr (zm rfl (zq (Q.not rfl rfl) (zk (W.condS rfl (fun hc5 => ?_) (fun hc5 => ?_))))))
 ·exfalso; simp_all
 refine W.skip (ae ResL.nil ?_)
 rfl

theorem kq : tab.isAgg 130 = some false := by kernel_rfl
theorem mc : AP tab 130 130 = some 1 := by kernel_rfl
theorem AU : ∀ l : List AV, l.length = 15 -> bk tab 178 l = ⟨15, true, l⟩ := by intro l h; exact aX (by kernel_rfl) h
theorem eS : FA tab 132 0 = some (0, 0 + 1) := by kernel_rfl
theorem CF : PL tab 178 [.int .i64 0, .str [], .int .i64 0, .nils, .int .i64 0, .int .i64 0, .int .i64 0, .nils, .int .i64 0, .bool false, .nils, .nils, .int .i64 0, .nils, .nilf] [(0, 11), (11, 1), (12, 1), (13, 1), (14, 1)] = true := by kernel_rfl
theorem C7 : tab.size 130 = some 1 := by kernel_rfl
theorem i5 : tab.size 174 = some 1 := by kernel_rfl
theorem gC : tab.und 130 = some (.slice 174) := by kernel_rfl
theorem Dk : tab.zero 174 = some (.nilp) := by kernel_rfl
abbrev El := AV × List bA × Int
abbrev cE (V : List El) : List AV := c2 (fun x : El => x.1) (fun x : El => .int .i64 x.2.2) V
def HQ : El := (.nils, [], 0)
def Aq (R : List bV) : Prop := ∀ x ∈ R, 0 < x.2.2.2.length
theorem SubH.pre {L a b : af} (h : SubH a b) : SubH (L ++ a) (L ++ b) := by
 refine ⟨fun e he => ?_, fun hn => ?_⟩
 ·rcases List.mem_append.1 he with he | he
  ·exact List.mem_append_left _ he
  ·exact List.mem_append_right _ (h.1 e he)
 ·rw [List.map_append] at hn ⊢
  obtain ⟨h1, h2, h3⟩ := List.nodup_append.1 hn
  refine List.nodup_append.2 ⟨h1, h.2 h2, fun x hx y hy => ?_⟩
  obtain ⟨e, he, rfl⟩ := List.mem_map.1 hy
  exact h3 x hx e.b (List.mem_map.2 ⟨e, h.1 e he, rfl⟩)
theorem BL {a : AV} {n : Int} (ha : a.isCell = true) : cJ (fun i => [(0, 1), (1, 1)][i]?) [.nils, .int .i64 0] [(0, a), (1, .int .i64 n)] = some [a, .int .i64 n] := by
 simp only [cJ, cp ha]; rfl
theorem FF {O : List El} {x : El} {v : AV} {ho : af} (h : OwnE 2 (cE O ++ [x.1, .int .i64 x.2.2]) (O.length + 1) v ho) : OwnE 2 (cE (O ++ [x])) (O ++ [x]).length v ho := by
 have e1 : cE (O ++ [x]) = cE O ++ [x.1, .int .i64 x.2.2] := by rw [cE, iV]; rfl
 rw [e1, List.length_append]
 exact h
theorem jF : tab.isAgg 136 = some true := by kernel_rfl
theorem uT : tab.isAgg 57 = some false := by kernel_rfl
theorem ll : AO tab 136 = some ⟨4, true, [.int .i64 0, .int .i64 0, .nils, .nils]⟩ := by kernel_rfl
theorem j8 : AP tab 57 57 = some 2 := by kernel_rfl
theorem wS : FA tab 132 1 = some (1, 0 + 1) := by kernel_rfl
theorem nU : FA tab 132 2 = some (2, 0 + 1) := by kernel_rfl
theorem wT : FA tab 136 2 = some (2, 0 + 1) := by kernel_rfl
theorem de : FA tab 178 0 = some (0, 10 + 1) := by kernel_rfl
theorem wU : FA tab 178 3 = some (13, 0 + 1) := by kernel_rfl
theorem o8 : FA tab 72 1 = some (1, 0 + 1) := by kernel_rfl
theorem yr : PL tab 136 [.int .i64 0, .int .i64 0, .nils, .nils] [(0, 1), (1, 1), (2, 1), (3, 1)] = true := by kernel_rfl
theorem EX : PL tab 65 [.nils, .int .i64 0] [(0, 1), (1, 1)] = true := by kernel_rfl
theorem di : tab.size 136 = some 4 := by kernel_rfl
theorem ux : tab.size 57 = some 1 := by kernel_rfl
theorem dN : tab.size 65 = some 2 := by kernel_rfl
theorem eW : tab.und 57 = some (.slice 65) := by kernel_rfl
theorem Aj : tab.zero 65 = some (.agg [.nils, .int .i64 0]) := by kernel_rfl
theorem kr : tab.isAgg 174 = some false := by kernel_rfl
theorem Az : tab.isAgg 175 = some false := by kernel_rfl
theorem iT : AP tab 180 180 = some 4 := by kernel_rfl
theorem r8 : FA tab 178 1 = some (11, 0 + 1) := by kernel_rfl
theorem sa : FA tab 178 4 = some (14, 0 + 1) := by kernel_rfl
theorem IX : MS tab 180 = some (4, [.int .i64 0, .int .i64 0, .nils, .nils]) := by kernel_rfl
theorem i7 : tab.und 180 = some (.slice 136) := by kernel_rfl
theorem uE : tab.zero 136 = some (.agg [.int .i64 0, .int .i64 0, .nils, .nils]) := by kernel_rfl
def eg (O : List El) (i : Nat) : El := O.getD i HQ
theorem lz {O : List El} {a b : Nat} (h : a + b < O.length) : dy (cE O) ((a + b) * 2) 2 = some [(eg O (a + b)).1, .int .i64 (eg O (a + b)).2.2] := by
 obtain ⟨h1, h2⟩ := iG (d := HQ) (fun x : El => x.1) (fun x : El => .int .i64 x.2.2) O (a + b) h
 exact C3 h1 h2
theorem cg {O : List El} {i : Nat} (h : i < O.length) : eg O i ∈ O := by
 unfold eg
 rw [List.getD_eq_getElem?_getD, List.getElem?_eq_getElem h]
 exact List.getElem_mem h
def EIn (hs : af) (O : List El) (v : AV) : Prop := (v = .nils /\ O = []) \/ ∃ b sz ex, v = .slice b 0 O.length 2 /\ MemH hs b ⟨sz, ex, cE O⟩
def EAll (hs : af) (O : List El) : Prop := ∀ x ∈ O, LIn hs x.2.1 x.1
def EBd (O : List El) : Prop := O.length <= 1048576 /\ ∀ x ∈ O, LBd x.2.1
theorem EIn.mono {hs hs' : af} {O : List El} {v : AV} (hm : ∀ b o, MemH hs b o -> MemH hs' b o) (h : EIn hs O v) : EIn hs' O v := h.imp id fun ⟨b, sz, ex, h1, h2⟩ => ⟨b, sz, ex, h1, hm _ _ h2⟩
theorem EIn.len {hs : af} {O : List El} {v : AV} {e : Nat} (h : EIn hs O v) : iN (.slice e) v = some O.length := by
 rcases h with ⟨rfl, rfl⟩ | ⟨b, sz, ex, rfl, _⟩ <;> rfl
theorem EIn.full {hs : af} {O : List El} {v : AV} (h : EIn hs O v) (hl : 0 < O.length) : ∃ b sz ex, v = .slice b 0 O.length 2 /\ MemH hs b ⟨sz, ex, cE O⟩ := by
 rcases h with ⟨_, rfl⟩ | h
 ·simp at hl
 ·exact h
theorem EIn.cell {hs : af} {O : List El} {v : AV} (h : EIn hs O v) : v.isCell = true := by
 rcases h with ⟨rfl, _⟩ | ⟨b, sz, ex, rfl, _⟩ <;> rfl
theorem EIn.own {O : List El} {v : AV} {hp : af} (h : OwnE 2 (cE O) O.length v hp) : EIn hp O v := by
 rcases h with ⟨h0, _, rfl, rfl⟩ | ⟨b, ex, rfl, rfl, _⟩
 ·exact .inl ⟨rfl, List.eq_nil_of_length_eq_zero h0⟩
 ·exact .inr ⟨b, 2, ex, rfl, true, List.mem_singleton.2 rfl⟩
theorem Ap {sz : Nat} {cells : List AV} {len : Nat} {v : AV} {hp : af} {n : Int} (h : OwnE sz cells len v hp) : (AV.agg [v, .int .i64 n]).beq (.agg [v, .int .i64 n]) = true := by
 rcases h with ⟨_, _, rfl, _⟩ | ⟨b, ex, rfl, _, _⟩ <;> simp [AV.beq, dG, dF, d6, dO]
theorem Iq {O : List El} {G D : af} {x : El} (h : EAll G O) (h1 : LIn D x.2.1 x.1) : EAll (G ++ D) (O ++ [x]) := by
 intro z hz
 rcases List.mem_append.1 hz with hz | hz
 ·exact (h z hz).mono fun b o g => g.ap1
 ·rw [List.mem_singleton.1 hz]
  exact h1.mono fun b o g => g.app
theorem kK : tab.isAgg 65 = some true := by kernel_rfl
theorem yR : AO tab 65 = some ⟨2, true, [.nils, .int .i64 0]⟩ := by kernel_rfl
theorem o6 : FA tab 65 0 = some (0, 0 + 1) := by kernel_rfl
theorem o7 : FA tab 65 1 = some (1, 0 + 1) := by kernel_rfl
theorem Bq (hs : af) (hro : ∀ e ∈ hs, e.w = false) (O : List El) (v : AV) (hE : EIn hs O v) (hEA : EAll hs O) (hEb : EBd O) : Spec tab 57 [v] [] hs (fun u D => ∃ O2 : List El, EIn D O2 u /\ EAll D O2 /\ O2.map (·.2) = O.map (·.2) /\ ∀ e ∈ D, e.w = true) := by
 have hEl := hEb.1
 refine ac (bz 57 Tryz.func57) rfl (m := 24) rfl (rs := [.tmp 2]) rfl (st := [(0, v)]) rfl rfl (fun _ => rfl) (fun E => zr (za rfl (zk (zr (za rfl (zk (W.seq (zr (zm rfl (zq (Q.len eW rfl (EIn.len hE)) (zq (Q.move (zi 0)) (zk (W.block (W.loop_ind5 (fun (i : Nat) (O2 : List El) (o : AV) (ho : af) (G : af) => [(3, o), (6, v), (7, .int .i64 ((O.length : Nat) : Int)), (8, .int .i64 ((i : Nat) : Int))]) (fun (i : Nat) (O2 : List El) (o : AV) (ho : af) (G : af) => (hs ++ G) ++ ho) (fun (i : Nat) (O2 : List El) (o : AV) (ho : af) (G : af) => i <= O.length /\ OwnE 2 (cE O2) O2.length o ho /\ EAll G O2 /\ O2.map (·.2) = (O.take i).map (·.2) /\ (∀ e ∈ G, e.w = true) /\ O2.length = i) (fun (i : Nat) (O2 : List El) (o : AV) (ho : af) (G : af) => O.length - i) (0) ([]) (.nils) ([]) ([]) ⟨Nat.zero_le _, OwnE.nil 2, fun x h => (by simp at h), rfl, dB, rfl⟩ zv gc (fun i O2 o ho G hI0 ih0 => ?_)))))))))))))))
 obtain ⟨hi1, hO, hOx, hOc, hG, hOl⟩ := hI0
 refine zr (zq (aa rfl rfl rfl (bu bY)) (zk (W.seq (aB rfl (fun hc9 => ?_) (fun hc9 => ?_)))))
 ·have hm0 := cg (O := O) (i := 0 + i) zy
  have hx := hEA _ hm0
  have hxb := (hEb.2 _ hm0).1
  obtain ⟨be, sze, exe, rfl, we, me⟩ := EIn.full hE zy
  refine zw (W.seq (W.block (zr (zq (bj eW dN rfl rfl zo) (zq (ax rfl (List.mem_append_left _ (List.mem_append_left _ me)) kK dN (lz zo)) (WO.alloc yR rfl (fun b1 => WO.store dN rfl rfl (i := 0) rfl (au rfl (uG (LIn.cell hx) rfl)) (cs := [_, _]) rfl (hs' := _ :: _) rfl (zk (ez 9 (⟨b1, _, false⟩ :: hs) (by kernel_rfl) (KIn.cons (zt 0 rfl) (fun e he => ⟨e.w, by obtain ⟨b, o, w⟩ := e; simp [he]⟩)) (WD.q (Q.move rfl) (OwnE.bq hO) rfl (WD.bslice cW eo Dm rfl dE rfl (cs := []) rfl rfl rfl (KIn.cons (zt 0 rfl) (fun e he => ⟨e.w, by obtain ⟨b, o, w⟩ := e; simp [he]⟩)) (fun b2 => WD.q (Q.fieldAddr o6 rfl (o' := 0) rfl) eO rfl (WD.q (ag rfl (zt 0 rfl) jA rfl) (LIn.bq hx) rfl (WD.appAny (A := _) lp (OwnE.cons rfl) rfl rfl (Src.mono (fun e he => ⟨e.w, by obtain ⟨b, o, w⟩ := e; simp [he]⟩) (nJ hx)) (oH _) zy (by decide) (SubH.op (List.perm_append_singleton _ _)) rfl (KIn.cons (zt 0 rfl) (fun e he => ⟨e.w, by obtain ⟨b, o, w⟩ := e; simp [he]⟩)) (fun v16 hp16 hO16 => WD.q (Q.fieldAddr o7 rfl (o' := 1) rfl) eO rfl (WD.q (ag rfl (zt 0 rfl) bH rfl) cZ rfl (WD.q (Q.build EX (cy rfl (cy rfl dE)) rfl (cs := [_, _]) (BL (OwnE.cell hO16))) (Ap hO16) rfl (WD.bslice eW dN Aj rfl (cy rfl dE) rfl (cs := [_, _]) rfl (uG (OwnE.cell hO16) rfl) rfl (KIn.cons (zt 0 rfl) (fun e he => ⟨e.w, by obtain ⟨b, o, w⟩ := e; simp [he]⟩)) (fun b3 => WD.subH (hs' := _ :: _ :: (hs ++ G ++ hp16 ++ ho)) (SubH.op (List.Perm.append_left [_, _] (List.perm_iff_count.2 (by intro z; simp only [List.append_eq, List.count_append, List.count_nil]; omega)))) (WD.appAny (A := ([_] ++ hs ++ G ++ hp16)) j8 hO rfl rfl (Src.slice (zt 0 rfl) rfl) rfl zy (by decide) (SubH.of_sublist (List.sublist_cons_self _ _)) rfl (KIn.cons (zt 0 rfl) (fun e he => ⟨e.w, by obtain ⟨b, o, w⟩ := e; simp [he]⟩)) (fun v21 hp21 hO21 => WD.q (Q.assign rfl) (OwnE.bq hO21) rfl (WD.nil (End.KB (End.K ?_))))))))))))))))))))))))
  refine W.sub (zc 3 rfl (zc 6 rfl (zc 7 rfl (zc 8 rfl aI)))) (W.reg (zq (aa rfl (zi 1) rfl zp) (zm rfl (WO.nil (End.KL (W.sub zv (cz gc (ih0 (i + 1) (O2 ++ [(v16, (eg O (0 + i)).2)]) (v21) (hp21) (G ++ hp16) ?_ ?_))))))))
  ·exact ⟨by omega, FF hO21, Iq hOx (LIn.own (by simpa using hO16)), by rw [List.map_append, hOc, Nat.zero_add, cb O HQ zy, List.map_append]; rfl, wa hG hO16.w, by simp; omega⟩
  exact zo
 refine W.exit (am (aq (ap (End.K (zr (zm rfl (za rfl (zk (W.ret ?_)))))))))
 refine End.ret (z1 rfl) (hs' := G ++ ho) ⟨O2, (EIn.own hO).mono (fun b o h => h.app), fun x hx => (hOx x hx).mono (fun b o h => h.ap1), by rw [hOc, List.take_of_length_le zy], wa hG hO.w⟩ (wa hG hO.w) gc

theorem sw {k : IntKind} {a b : Int} : dh true (.int k a) [.int k b] = some (.int k (max a b)) := by
 unfold dh
 simp only [if_true, bS]
 unfold dh
 by_cases h : a < b
 ·have e : max a b = b := by omega
  simp only [h, decide_true, e]
 ·have e : max a b = a := by omega
  simp only [h, decide_false, e]
noncomputable section
def HW (cfg : XCfg) (tb : Tab) (rs : List ResultVar) (E : Env) (Post : AV -> af -> Prop) : RRes -> Prop
 | .go .normal tm h _ => l4 tb rs E Post .normal tm h
 | .go .ret tm h _ => l4 tb rs E Post .ret tm h
 | .boom l tm h (some (g, caps)) => ∃ h', cfg.rcv g caps l h = some h' /\ l4 tb rs E Post .ret tm h'
 | _ => False
section
variable {cfg : XCfg} {tb : Tab} {n : Nat} {E : Env} {s : St} {hs : af} {d : HP} {Q : RRes -> Prop}
theorem yO {rs : List ResultVar} {Post : AV -> af -> Prop} {l : List AV} {hs' : af} (hr : ResL tb s hs rs l) (hP : Post (bW l) hs') (hw : ∀ e ∈ hs', e.w = true) (hsub : SubH hs' hs) : End E s hs (fun tm h => HW cfg tb rs E Post (.go .ret tm h d)) := End.ret hr hP hw hsub
theorem rp {f : Nat} {args : List AV} {S : List Nat} {Post : AV -> af -> Prop} {B : List AV -> Prop} {fn : Func} {c : Code} {m : Nat} {rs : List ResultVar} {st : St} (hf : tb.ft.get f = some fn) (hb : fn.body = some c) (hm : fn.ntmps = m) (hr : fn.results.toList = rs) (hst : lr 0 args = st)
  (hn : Nat.ble args.length m = true) (ho : ∀ h, tb.orc f args h = none) (hth : cfg.thr f args = none)
  (hk : ∀ E, X cfg tb m c E st hs none (HW cfg tb rs E Post)) : SpecX cfg tb f args S hs Post B := by
 subst hm hr hst
 intro h hh
 obtain ⟨r, hE, hQ⟩ := hk ⟨h, S⟩ (er 0 args .leaf) h (pf args) hh
 have key : ∀ tm h' r, (∃ l hs', cF tb tm h' fn.results.toList = some l /\ Post (bW l) hs' /\ (∀ e ∈ hs', e.w = true) /\ HS ⟨h, S⟩ hs' h') -> so cfg tb fn.results.toList (some r) = ko tb fn.results.toList tm h' -> (Evt fun K => eV cfg tb K fn.ntmps c (er 0 args .leaf) h none = some r) ->
   ∃ r, (Evt fun K => cj cfg tb (eV cfg tb K) f args h = some r) /\ match r with
    | .ret v h' => ∃ D, Post v D /\ (∀ e ∈ D, e.w = true) /\ HS ⟨h, S⟩ D h'
    | .boom l h' => B l /\ Fr S h h' := by
  rintro tm h' r ⟨l, hs', h1, h2, h3, h4⟩ hl hE
  refine ⟨.ret (bW l) h', hE.mono fun K hK => ?_, hs', h2, h3, h4⟩
  unfold cj
  simp only [ho h, hth, hf, hb, hn, hK, hl]
  unfold ko
  rw [h1]
 cases r with
 | go ex tm h' dd =>
  cases ex with
  | exit i => exact hQ.elim
  | normal => exact key tm h' _ hQ rfl hE
  | ret => exact key tm h' _ hQ rfl hE
 | boom l tm h' dd =>
  cases dd with
  | none => exact hQ.elim
  | some x =>
   obtain ⟨h2, e2, hQ⟩ := hQ
   refine key tm h2 _ hQ ?_ hE
   show (match cfg.rcv x.1 x.2 l h' with
    | some h' => ko tb fn.results.toList tm h'
    | none => none) = _
   rw [e2]
theorem XO.defer {ops rest : List Oper} {ty : TypeId} {pos : String} {aft : Array Edge} {of : Operand} {ts : Array TypeId} {g : Nat} {caps : List AV} (hf : oL s of = some (.func g caps)) (hm : fM caps = none) (hr : cfg.isR g caps = true)
  (hk : XO cfg tb n ops rest E s hs (some (g, caps)) Q) : XO cfg tb n ops (⟨none, .defer ⟨.value of, #[], ts⟩, ty, pos, aft, none⟩ :: rest) E s hs none Q := by
 intro tm h ht hh
 obtain ⟨r, hE, hQ⟩ := hk tm h ht hh
 refine ⟨r, hE.mono fun K e1 => ?_, hQ⟩
 conv => lhs; unfold eH
 have h1 : f9 (cj cfg tb (eV cfg tb K)) ops tm h ⟨none, .defer ⟨.value of, #[], ts⟩, ty, pos, aft, none⟩ = none := rfl
 have h2 : ke cfg tm ⟨none, .defer ⟨.value of, #[], ts⟩, ty, pos, aft, none⟩ = some (g, caps) := by
  show (match aS tm of with
   | some (.func g caps) => match fM caps, cfg.isR g caps with
    | none, true => some (g, caps)
    | _, _ => none
   | _ => none) = _
  rw [aR ht hf]
  simp only [hm, hr]
 rw [h1, h2]
 exact e1
theorem kX : ∀ {l : af} {i : Nat} {e : HE}, l[i]? = some e -> (e :: l.eraseIdx i).Perm l
 | [], i, e, h => by simp at h
 | x :: l, 0, e, h => by
  have : x = e := by simpa using h
  subst this
  exact .refl _
 | x :: l, i + 1, e, h => (List.Perm.swap x e _).trans (.cons x (kX (by simpa using h)))
theorem Ag {hs : af} {i : Nat} {e : HE} (h : hs[i]? = some e) : SubH (e :: hs.eraseIdx i) hs := by
 exact SubH.op (kX h)
theorem XO.call1 {ops rest : List Oper} {k : Nat} {ty : TypeId} {pos : String} {aft : Array Edge} {of : Operand} {args : List Operand} {ts : Array TypeId} {g i b : Nat} {caps l l' : List AV} {ob : AObj} {hsc hs' : af} {Post : AV -> af -> Prop} {B : List AV -> Prop}
  (hf : oL s of = some (.func g caps)) (ha : sy s args = some l) (hl : dS l caps = l') (hi : hs[i]? = some ⟨b, ob, true⟩) (hsp : SpecX cfg tb g l' [b] (⟨b, ob, true⟩ :: hsc) Post B) (hsub : SubR hsc hs') (he : hs.eraseIdx i = hs') (hd : Nat.blt k n = true)
  (hb : ∀ l, B l -> End E s hs' fun tm h => Q (.boom l tm h d)) (hk : ∀ v D, Post v D -> XO cfg tb n ops rest E ((k, v) :: s) (D ++ hs') d Q) :
  XO cfg tb n ops (⟨some k, .call ⟨.value of, args.toArray, ts⟩, ty, pos, aft, none⟩ :: rest) E s hs d Q := by
 subst he
 exact XO.call (M := [⟨b, ob, true⟩]) (A := hs.eraseIdx i) hf ha hl lc (Ag hi) hsp hsub hd hb hk
theorem HS.st {t i b o m : Nat} {ob : AObj} {v : AV} {cs : List AV} {h : AHeap} (hh : HS E hs h) (hz : tb.size t = some m) (hm : hs[i]? = some ⟨b, ob, true⟩)
  (hb : (Nat.beq v.cells.length m && Nat.ble (o + m) ob.cells.length && v.cells.all AV.isCell) = true) (hc : ct ob.cells o v.cells = cs) (hz0 : Nat.blt 0 ob.sz = true) :
  eJ tb h t b o v = some (.tuple [], ⟨h.next, h.objs.set b ⟨ob.sz, ob.exact_, cs⟩⟩) := by
 unfold eJ
 have h1 := (hh.at_ _ (dl hm)).1
 simp only at h1
 simp only [hz, h1, hb, hc, hz0]
end
theorem Ka : j1.zero 37 = some (.agg [.int .i64 0, .nils]) := by kernel_rfl
theorem J8 : j1.size 37 = some 2 := by kernel_rfl
theorem Ku : j1.size 3 = some 1 := by kernel_rfl
theorem J9 : j1.size 38 = some 1 := by kernel_rfl
theorem End.rcv {E : Env} {s : St} {hs hs1 hs2 hs3 : af} {rs : List ResultVar} {Post : AV -> af -> Prop} {g i j k b2 b3 b4 : Nat} {x2 x3 x4 : Bool} {c0 c1 c2 c3 : AV} {e : Int}
  (hi : hs[i]? = some ⟨b2, ⟨2, x2, [c0, c1]⟩, true⟩) (h1 : hs.set i ⟨b2, ⟨2, x2, [.int .i64 0, .nils]⟩, true⟩ = hs1)
  (hj : hs1[j]? = some ⟨b3, ⟨1, x3, [c2]⟩, true⟩) (h2 : hs1.set j ⟨b3, ⟨1, x3, [.int .i64 0]⟩, true⟩ = hs2)
  (hk : hs2[k]? = some ⟨b4, ⟨1, x4, [c3]⟩, true⟩) (h3 : hs2.set k ⟨b4, ⟨1, x4, [.int .i64 e]⟩, true⟩ = hs3)
  (hE : End E s hs3 (l4 tab rs E Post .ret)) : End E s hs (fun tm h => ∃ h', jC.rcv g [.ptr b2 0, .ptr b3 0, .ptr b4 0] [.int .i64 e] h = some h' /\ l4 tab rs E Post .ret tm h') := by
 intro tm h ht hh
 subst h1 h2 h3
 have e1 := hh.st (tb := j1) (t := 37) (v := .agg [.int .i64 0, .nils]) (o := 0) J8 hi rfl rfl rfl
 have hh1 := hh.put (ob' := ⟨2, x2, [.int .i64 0, .nils]⟩) hi
 have e2 := hh1.st (tb := j1) (t := 3) (v := .int .i64 0) (o := 0) Ku hj rfl rfl rfl
 have hh2 := hh1.put (ob' := ⟨1, x3, [.int .i64 0]⟩) hj
 have e3 := hh2.st (tb := j1) (t := 38) (v := .int .i64 e) (o := 0) J9 hk rfl rfl rfl
 have hh3 := hh2.put (ob' := ⟨1, x4, [.int .i64 e]⟩) hk
 refine ⟨_, ?_, hE tm _ ht hh3⟩
 rw [show jC.rcv = uk j1 from rfl]
 unfold uk
 simp only [Ka, e1]
 rw [show ct [c0, c1] 0 (AV.agg [.int .i64 0, .nils]).cells = [.int .i64 0, .nils] from rfl, e2]
 simp only
 rw [show ct [c2] 0 (AV.int .i64 0).cells = [.int .i64 0] from rfl, e3]
 rfl
end
end Go.Proofs.YtfkbfnpjggkdmaaGreatDoor.Ev
