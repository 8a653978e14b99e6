/- Chapter 19: elements in one group. -/
import Derived.Test.YtfkbfnpjggkdmaaGreatDoorCEan
import Derived.Test.YtfkbfnpjggkdmaaGreatDoorCCnt6
namespace Go.Proofs.YtfkbfnpjggkdmaaGreatDoor.Ev
open Go.RowKit
set_option maxRecDepth 100000
set_option maxHeartbeats 1000000
theorem Fz {V : List El} {i : Nat} {v : AV} {ho : af} (h : i < V.length) (hO : OwnE 2 (cE (V.take i) ++ [(eg V (0 + i)).1, .int .i64 (eg V (0 + i)).2.2]) (i + 1) v ho) : OwnE 2 (cE (V.take (i + 1))) (i + 1) v ho := by
 have e : cE (V.take (i + 1)) = cE (V.take i) ++ [(eg V (0 + i)).1, .int .i64 (eg V (0 + i)).2.2] := by
  rw [cb V HQ h, Nat.zero_add, cE, iV]
  rfl
 rw [e]
 exact hO
theorem FB {V : List El} {F : Nat} {C : List AV} {hs : af} {K : AV} {j : Nat} (h : ∀ i, i < V.length -> Spec tab F (dS [.agg [(eg V i).1, .int .i64 (eg V i).2.2]] C) [] hs (bN K)) (hj : j < V.length) : Spec tab F (dS [.agg [(eg V (0 + j)).1, .int .i64 (eg V (0 + j)).2.2]] C) [] hs (bN K) := by
 rw [Nat.zero_add]
 exact h j hj
theorem Gr : d7 (ef tab 20 9) (.str [123, 125]) [.str [123, 125], .int .i64 ((0 : Nat) : Int), .int .i64 ((0 : Nat) : Int)] 0 = some (some 0) := by kernel_rfl
theorem yT : AP tab 275 275 = some 1 := by kernel_rfl
theorem t7 : bO (tab.und 310) = some (9, 3) := by kernel_rfl
theorem Kl : tab.zero 57 = some (.nils) := by kernel_rfl
theorem IB (hs : af) (hro : ∀ e ∈ hs, e.w = false) (V : List El) (v : AV) (hE : EIn hs V v) (hEA : EAll hs V) (hEb : EBd V) (F : Nat) (C : List AV) (hC : ∀ i, i < V.length -> Spec tab F (dS [.agg [(eg V i).1, .int .i64 (eg V i).2.2]] C) [] hs (bN (.str [123, 125]))) (h0 : V.length = 0) : Spec tab 191 [v, .func F C] [] hs (bN (.nils)) := by
 refine ac (bz 191 Tryz.func191) rfl (m := 50) rfl (rs := [.tmp 4]) rfl (st := [(0, v), (1, .func F C)]) rfl rfl (fun _ => rfl) (fun E => zr (za rfl (zk (zr (WO.makeMap t7 rfl (fun mb => za rfl (zk (zr (za rfl (zk (W.seq (zr (zm rfl (zq (Q.len eW rfl (EIn.len hE)) (zq (Q.move (zi 0)) (zk (W.block (W.loop (zr (zq (aa rfl rfl rfl (bu bY)) (zk (W.seq (aB rfl (fun hc16 => ?_) (fun hc16 => ?_))))))))))))))))))))))))
 ·exfalso; omega
 refine W.exit (am (aq (ap (End.K (zr (zm rfl (za rfl (zk (W.ret (ae (z1 rfl) ?_))))))))))
 rfl

theorem IC (hs : af) (hro : ∀ e ∈ hs, e.w = false) (V : List El) (v : AV) (hE : EIn hs V v) (hEA : EAll hs V) (hEb : EBd V) (F : Nat) (C : List AV) (hC : ∀ i, i < V.length -> Spec tab F (dS [.agg [(eg V i).1, .int .i64 (eg V i).2.2]] C) [] hs (bN (.str [123, 125]))) (h0 : 0 < V.length) : Spec tab 191 [v, .func F C] [] hs (fun u D => ∃ (gb : Nat) (gx : Bool) (gv : AV) (gho : af), u = .slice gb 0 1 1 /\ D = ⟨gb, ⟨1, gx, [gv]⟩, true⟩ :: gho /\ OwnE 2 (cE V) V.length gv gho) := by
 have hVl := hEb.1
 refine ac (bz 191 Tryz.func191) rfl (m := 50) rfl (rs := [.tmp 4]) rfl (st := [(0, v), (1, .func F C)]) rfl rfl (fun _ => rfl) (fun E => zr (za rfl (zk (zr (WO.makeMap t7 rfl (fun mb => za rfl (zk (zr (za rfl (zk (W.seq (zr (zm rfl (zq (Q.len eW rfl (EIn.len hE)) (zq (Q.move (zi 0)) (zk (W.block (W.loop (zr (zq (aa rfl rfl rfl (bu bY)) (zk (W.seq (aB rfl (fun hc16 => ?_) (fun hc16 => ?_))))))))))))))))))))))))
 ·obtain ⟨be, sze, exe, rfl, we, me⟩ := EIn.full hE zy
  refine zw (W.seq (W.block (zr (zq (ao eW dN rfl rfl zo (o' := 0) rfl) (zq (ax rfl (List.mem_cons_of_mem _ me) kK dN (lz (a := 0) (b := 0) zy)) (WO.alloc yR rfl (fun b1 => WO.store dN rfl rfl (i := 0) rfl (au rfl (uG (LIn.cell (hEA _ (cg (O := V) (i := 0 + 0) zy))) rfl)) (cs := [_, _]) rfl (hs' := _ :: _ :: _) rfl (zk (zr (zm rfl (zq (ax rfl (zt 0 rfl) kK dN (l := [_, _]) rfl) (ak rfl (aj rfl oz) rfl (FB hC zy) (aQ (aQ (aN hro))) rfl (za rfl (zk (zr (zm rfl (zm rfl (zq (Dw t7 rfl rfl (zt 1 rfl) (sn cf _) sS rfl) (zm rfl (zq (Q.extract rfl rfl) (zq (Q.extract rfl rfl) (za rfl (za rfl ?_)))))))))))))))))))))))
  refine zk (W.sub (zc 11 rfl (zc 10 rfl (zc 9 rfl (zc 8 rfl (zc 15 rfl (zc 14 rfl (zc 13 rfl (zc 6 rfl (zc 5 rfl (zc 1 rfl aI)))))))))) (W.seq (zr (zm rfl (zq (Q.not rfl rfl) (zk (W.condT rfl (zr (zm rfl (zq (Q.len j4 rfl rfl) (za rfl (zk (zr (zm rfl (zm rfl (zm rfl (yN t7 rfl rfl rfl (i := 1) rfl (sn cf _) rfl (cs := [.str [123, 125], .int .i64 ((0 : Nat) : Int), .int .i64 ((0 : Nat) : Int)]) rfl (hs' := _ :: _ :: _) rfl (zk (W.reg (zm rfl (WO.bslice j4 ux Kl rfl (cy rfl dE) rfl (cs := [_]) rfl rfl rfl (fun b2 => j6 (e := ⟨b2, _, true⟩) (A := ([_, _] ++ hs)) yT rfl rfl rfl rfl ⟨by first | omega | (simp at * <;> omega), by first | omega | (simp at * <;> omega)⟩ (by decide) rfl rfl (fun v37 hp37 hO37 => ?_)))))))))))))))))))))))
  obtain ⟨b37, ex37, rfl, rfl⟩ := hO37.full zy
  refine WO.subH (hs' := _ :: (([_, _] ++ hs))) (SubH.op (List.perm_append_singleton _ _).symm) (za rfl (zk (ez 9 [⟨b37, _, false⟩, ⟨b1, _, false⟩] (by kernel_rfl) (KIn.cons (zt 0 rfl) (KIn.cons (zt 1 rfl) KIn.nil)) (WD.q (Q.move rfl) uY rfl (WD.q (Q.move rfl) cZ rfl (WD.q (Q.move rfl) uY rfl (WD.q (Q.move rfl) cZ rfl (WD.q (ao j4 ux rfl rfl zo (o' := 0) rfl) eO rfl (WD.q (ag rfl (zt 0 rfl) uT rfl) rfl rfl (WD.q (ax rfl (zt 1 rfl) kK dN (l := [_, _]) rfl) (lJ (hEA _ (cg (O := V) (i := 0 + 0) zy))) rfl (WD.bslice eW dN Aj rfl (cy rfl dE) rfl (cs := [_, _]) rfl (uG (LIn.cell (hEA _ (cg (O := V) (i := 0 + 0) zy))) rfl) rfl (KIn.cons (zt 0 rfl) (KIn.cons (zt 1 rfl) KIn.nil)) (fun b4 => WD.appAny (A := _) j8 (OwnE.nil 2) rfl rfl (Src.slice (zt 0 rfl) rfl) rfl zy (by decide) eN rfl (KIn.cons (zt 0 rfl) (KIn.cons (zt 1 rfl) KIn.nil)) (fun v46 hp46 hO46 => WD.q (ao j4 ux rfl rfl zo (o' := 0) rfl) eO rfl (WD.store ux rfl rfl (j := 0) rfl (Dn (OwnE.cell hO46) rfl) (cs := [_]) (by rw [cp (OwnE.cell hO46)]; rfl) (hs' := _ :: _ :: _ :: _) rfl (fun h => by cases h) (WD.nil (End.KB (End.K (W.sub (zc 6 rfl (zc 15 rfl (zc 14 rfl (zc 13 rfl (zc 5 rfl (zc 1 rfl aI)))))) (W.reg (zq (aa rfl (zi 1) rfl (bc (c := (((1 : Nat)) : Int)) (by decide))) (zm rfl (WO.nil (End.KL (bI (fun (i : Nat) (gv : AV) (ho : af) => [(1, .func F C), (5, .map mb), (6, .slice b37 0 1 1), (13, .slice be 0 V.length 2), (14, .int .i64 ((V.length : Nat) : Int)), (15, .int .i64 ((i : Nat) : Int))]) (fun (i : Nat) (gv : AV) (ho : af) => (⟨mb, ⟨0 + 1, true, [.str [123, 125], .int .i64 ((0 : Nat) : Int), .int .i64 ((0 : Nat) : Int)]⟩, true⟩ :: ⟨b37, ⟨1, ex37, [gv]⟩, true⟩ :: (hs ++ ho))) (fun (i : Nat) (gv : AV) (ho : af) => 1 <= i /\ i <= V.length /\ OwnE 2 (cE (V.take i)) i gv ho) (fun (i : Nat) (gv : AV) (ho : af) => V.length - i) (1) (v46) (hp46) ⟨Nat.le_refl _, by omega, Fz (i := 0) zy hO46⟩ zv gc (fun i gv ho hI0 ih0 => ?_)))))))))))))))))))))))))
  obtain ⟨h1, hi1, hO⟩ := hI0
  refine zr (zq (aa rfl rfl rfl (bu bY)) (zk (W.seq (aB rfl (fun hc16 => ?_) (fun hc16 => ?_)))))
  ·refine zw (W.seq (W.block (zr (zq (bj eW dN rfl rfl zo) (zq (ax rfl (List.mem_cons_of_mem _ (List.mem_cons_of_mem _ (List.mem_append_left _ me))) kK dN (lz (a := 0) (b := i) zy)) (WO.alloc yR rfl (fun b5 => WO.store dN rfl rfl (i := 0) rfl (au rfl (uG (LIn.cell (hEA _ (cg (O := V) (i := 0 + i) zy))) rfl)) (cs := [_, _]) rfl (hs' := _ :: _ :: _ :: _) rfl (zk (zr (zm rfl (zq (ax rfl (zt 0 rfl) kK dN (l := [_, _]) rfl) (ak rfl (aj rfl oz) rfl (FB hC zy) (aQ (aQ (aQ (SubR.appl (aN hro))))) rfl (za rfl (zk (zr (zm rfl (zm rfl (zq (Dx t7 rfl rfl (zt 1 rfl) (sn cf _) sS Gr rfl) (zm rfl (zq (Q.extract rfl rfl) (zq (Q.extract rfl rfl) (za rfl (za rfl ?_)))))))))))))))))))))))
   refine zk (W.seq (zr (zm rfl (zq (Q.not rfl rfl) (zk (W.sub (zc 29 rfl (zc 10 rfl (zc 9 rfl (zc 8 rfl (zc 1 rfl (zc 5 rfl (zc 6 rfl (zc 13 rfl (zc 14 rfl (zc 15 rfl aI)))))))))) (W.condF rfl (zw (ez 9 [⟨b5, _, false⟩, ⟨b37, _, false⟩] (by kernel_rfl) (KIn.cons (zt 0 rfl) (KIn.cons (zt 2 rfl) KIn.nil)) (WD.q (Q.move rfl) uY rfl (WD.q (Q.move rfl) cZ rfl (WD.q (Q.move rfl) uY rfl (WD.q (Q.move rfl) cZ rfl (WD.q (ao j4 ux rfl rfl zo (o' := 0) rfl) eO rfl (WD.q (ag rfl (zt 1 rfl) uT rfl) (OwnE.bq hO) rfl (WD.q (ax rfl (zt 0 rfl) kK dN (l := [_, _]) rfl) (lJ (hEA _ (cg (O := V) (i := 0 + i) zy))) rfl (WD.bslice eW dN Aj rfl (cy rfl dE) rfl (cs := [_, _]) rfl (uG (LIn.cell (hEA _ (cg (O := V) (i := 0 + i) zy))) rfl) rfl (KIn.cons (zt 0 rfl) (KIn.cons (zt 2 rfl) KIn.nil)) (fun b6 => WD.appAny (A := ([_, _, _] ++ hs)) j8 hO rfl rfl (Src.slice (zt 0 rfl) rfl) rfl zy (by decide) (SubH.of_sublist (List.sublist_cons_self _ _)) rfl (KIn.cons (zt 0 rfl) (KIn.cons (zt 2 rfl) KIn.nil)) (fun v46 hp46 hO46 => WD.q (ao j4 ux rfl rfl zo (o' := 0) rfl) eO rfl (WD.store ux rfl rfl (j := 2) rfl (Dn (OwnE.cell hO46) rfl) (cs := [_]) (by rw [cp (OwnE.cell hO46)]; rfl) (hs' := _ :: _ :: _ :: _) rfl (fun h => by cases h) (WD.nil (End.KB (End.K (W.sub (zc 1 rfl (zc 5 rfl (zc 6 rfl (zc 13 rfl (zc 14 rfl (zc 15 rfl aI)))))) ?_))))))))))))))))))))))))
   refine W.reg (zq (aa rfl (zi 1) rfl zp) (zm rfl (WO.nil (End.KL (W.sub zv (cz gc (ih0 (i + 1) (v46) (hp46) ?_ ?_)))))))
   ·exact ⟨by omega, by omega, Fz zy hO46⟩
   exact zo
  refine W.exit (am (aq (ap (End.K (zr (zm rfl (za rfl (zk (W.ret ?_)))))))))
  refine End.ret (z1 rfl) (hs' := ⟨b37, ⟨1, ex37, [gv]⟩, true⟩ :: ho) ⟨b37, ex37, gv, ho, rfl, rfl, by rw [List.take_of_length_le zy, show i = V.length by omega] at hO; exact hO⟩ (fun e he => by rcases List.mem_cons.1 he with rfl | he; rfl; exact hO.w e he) gc
 exfalso; omega

def uU (n : Nat) (N : List Nat) : List El := if n = 0 then [] else [(.nils, [], ((N.sum : Nat) : Int))]
theorem FH : ∀ V : List El, P19.cE V = cE V
 | [] => rfl
 | x :: V => congrArg (fun l => x.1 :: AV.int .i64 x.2.2 :: l) (FH V)
theorem Cx {V : List El} {N : List Nat} (hN : V.map (fun x => x.2.2) = N.map fun x => ((x : Nat) : Int)) {b : Nat} (h : b < V.length) : (eg V (0 + b)).2.2 = ((N.getD b 0 : Nat) : Int) := by
 have := congrArg (fun l => l[b]?) hN
 have hl : N.length = V.length := by have := congrArg List.length hN; simpa using this.symm
 simp only [List.getElem?_map] at this
 rw [List.getElem?_eq_getElem h, List.getElem?_eq_getElem zy] at this
 unfold eg
 rw [Nat.zero_add, List.getD_eq_getElem?_getD, List.getElem?_eq_getElem h, List.getD_eq_getElem?_getD, List.getElem?_eq_getElem zy]
 simpa using this
theorem AX {V : List El} {N : List Nat} {b : Nat} (hN : V.map (fun x => x.2.2) = N.map fun x => ((x : Nat) : Int)) (h : b < V.length) : dy (cE V) ((0 + b) * 2) 2 = some [(eg V (0 + b)).1, .int .i64 ((N.getD b 0 : Nat) : Int)] := by
 rw [<- Cx hN h]
 exact lz zy
theorem yC : ∀ {N : List Nat} {x : Nat}, x ∈ N -> x <= N.sum
 | y :: N, x, h => by
  rw [List.sum_cons]
  rcases List.mem_cons.1 h with rfl | h
  ·omega
  ·have := yC h
   omega
theorem Jk {V : List El} {N : List Nat} (hb : EBd V) (hN : V.map (fun x => x.2.2) = N.map fun x => ((x : Nat) : Int)) (hs : N.sum <= 1152921504606846976) : P19.EBd V := by
 refine ⟨hb.1, fun x hx => ⟨hb.2 x hx, ?_⟩⟩
 have hm : x.2.2 ∈ N.map fun x => ((x : Nat) : Int) := by rw [<- hN]; exact List.mem_map.2 ⟨x, hx, rfl⟩
 obtain ⟨y, hy, e⟩ := List.mem_map.1 hm
 have := yC hy
 unfold P19.I64
 omega
theorem JA (hs : af) (hro : ∀ e ∈ hs, e.w = false) (V : List El) (v : AV) (hE : EIn hs V v) (hEA : EAll hs V) (hEb : EBd V) (N : List Nat) (hN : V.map (fun x => x.2.2) = N.map fun x => ((x : Nat) : Int)) (hNb : N.sum <= 1152921504606846976) (hck : P19.vchk V = 0) : Spec tab 184 [v] [] hs (bN (.int .i64 ((0 : Nat) : Int))) := by
 have h := P19.vck_spec hs hro V v ⟨by rw [FH]; exact hE, hEA⟩ (Jk hEb hN hNb)
 rw [hck] at h
 exact h
theorem EP {N : List Nat} {v : AV} {hp : af} (h : OwnE 1 (y3 N) N.length v hp) : NIn hp N v := by
 rcases h with ⟨h0, _, rfl, rfl⟩ | ⟨b, ex, rfl, rfl, _⟩
 ·exact .inl ⟨rfl, List.eq_nil_of_length_eq_zero h0⟩
 ·exact .inr ⟨b, 1, ex, rfl, true, List.mem_singleton.2 rfl⟩
theorem NIn.mono {hs hs' : af} {N : List Nat} {v : AV} (h : NIn hs N v) (hm : ∀ b o, MemH hs b o -> MemH hs' b o) : NIn hs' N v := h.imp id fun ⟨b, sz, ex, h1, h2⟩ => ⟨b, sz, ex, h1, hm _ _ h2⟩
theorem EO {N : List Nat} {n j : Nat} {v : AV} {hp : af} (hl : N.length = n) (h : n <= j /\ j <= n) (hO : OwnE 1 (y3 (N.take j)) j v hp) : OwnE 1 (y3 N) N.length v hp := by
 obtain rfl : j = N.length := by omega
 rw [List.take_length] at hO
 exact hO
theorem GX {N : List Nat} {j : Nat} {v : AV} {hp : af} (h : j < N.length) (hO : OwnE 1 (y3 (N.take j) ++ [.int .i64 ((N.getD j 0 : Nat) : Int)]) (j + 1) v hp) : OwnE 1 (y3 (N.take (j + 1))) (j + 1) v hp := by
 have e : y3 (N.take (j + 1)) = y3 (N.take j) ++ [.int .i64 ((N.getD j 0 : Nat) : Int)] := by
  rw [cb N 0 h]
  unfold y3
  rw [List.map_append]
  rfl
 rw [e]
 exact hO
theorem qf {x y : HE} {hs : af} : SubH [x, y] (x :: y :: hs) := SubH.of_sublist (List.Sublist.cons_cons _ (List.Sublist.cons_cons _ (List.nil_sublist _)))
theorem Dh {c : List AV} {v : AV} {hp : af} (h : OwnE 2 c (0 + 1) v hp) : Spec tab 187 [v] [] [] (bN (.tuple [v, .int .i64 ((0 : Nat) : Int)])) := by
 obtain ⟨b, ex, rfl, _⟩ := OwnE.full h (by decide)
 exact HL b
theorem Ft : tab.isAgg 268 = some false := by kernel_rfl
theorem Fv : AO tab 274 = some ⟨1, true, [.nilf]⟩ := by kernel_rfl
theorem eM : AP tab 25 25 = some 1 := by kernel_rfl
theorem DT : ∀ l : List AV, l.length = 1 -> bk tab 50 l = ⟨1, true, l⟩ := by intro l h; exact aX (by kernel_rfl) h
theorem wV : FA tab 270 0 = some (0, 0 + 1) := by kernel_rfl
theorem Cy : ∀ (f : Nat) (l : List AV), bC tab .eql 268 (.func f l) .nilf = some (.bool false) := by intros; kernel_rfl
theorem FL : tab.size 274 = some 1 := by kernel_rfl
theorem H4 (hs : af) (hro : ∀ e ∈ hs, e.w = false) (V : List El) (v : AV) (hE : EIn hs V v) (hEA : EAll hs V) (hEb : EBd V) (N : List Nat) (hN : V.map (fun x => x.2.2) = N.map fun x => ((x : Nat) : Int)) (hNb : N.sum <= 1152921504606846976) (hck : P19.vchk V = 0) (h0 : V.length = 0) : Spec tab 158 [.str [115, 117, 109], .int .i64 ((0 : Nat) : Int), .nils, .int .i64 ((0 : Nat) : Int), v] [] hs (fun u D => ∃ (U : List El) (y : AV), u = .tuple [y, .int .i64 ((0 : Nat) : Int)] /\ OwnE 2 (cE U) U.length y D /\ U = uU V.length N) := by
 refine ac (bz 158 Tryz.func158) rfl (m := 109) rfl (rs := [.tmp 10, .tmp 11]) rfl (st := [(0, .str [115, 117, 109]), (1, .int .i64 ((0 : Nat) : Int)), (2, .nils), (3, .int .i64 ((0 : Nat) : Int)), (4, v)]) rfl rfl (fun _ => rfl) (fun E => zr (WO.box rfl rfl (JJ _ rfl) rfl (fun m1 => WO.box rfl rfl (DT _ rfl) rfl (fun m2 => za rfl (za (zi 0) (zk (W.seq (zr (zm rfl (ak rfl (aj rfl oz) rfl (JA hs hro V v hE hEA hEb N hN hNb hck) (aQ (aQ (aN hro))) rfl (za rfl (zk (zr (zm rfl (zq (aa rfl (zi 0) rfl (bd (p := false) rfl)) (zk (W.condF rfl (zw (zr (zm rfl (ak rfl (aj rfl oz) rfl qI SubR.nil rfl (zm rfl (zq (Q.extract rfl rfl) ?_)))))))))))))))))))))))
 refine zq (Q.extract rfl rfl) (WO.alloc AK rfl (fun b3 => WO.store yF rfl rfl (i := 0) rfl rfl (cs := [_]) rfl (hs' := _ :: _ :: _ :: _) rfl (za rfl (zk (W.sub (zc 14 rfl (zc 13 rfl (zc 7 rfl (zc 6 rfl (zc 0 rfl (zc 3 rfl (zc 4 rfl aI))))))) (W.seq (W.block (zr (zm rfl (ak rfl (aj rfl oz) rfl (o9 _ zy) SubR.nil rfl (zq (Q.not rfl rfl) (za rfl (zk (W.condF rfl (zr (zm rfl (zq (Q.not rfl rfl) (za rfl (zk (W.condF rfl (zr (zq (ag rfl (zt 2 rfl) bH rfl) (zq (aa rfl (zi 0) rfl (bu (p := false) rfl)) ?_)))))))))))))))))))))))
 refine zm rfl (zT (zq (ag rfl (zt 2 rfl) bH rfl) (zT (zq (aa rfl (zi 2) rfl (aJ (p := false) rfl)) (zq (aF rfl rfl) (za rfl (zk (W.sub (zc 42 rfl (zc 13 rfl (zc 7 rfl (zc 6 rfl (zc 0 rfl (zc 3 rfl (zc 4 rfl aI))))))) (W.condF rfl (W.skip (End.KB (End.K (zr (zq (dQ (aj rfl (aj rfl oz))) (WO.alloc Fv rfl (fun b4 => WO.store FL rfl rfl (i := 0) rfl rfl (cs := [_]) rfl (hs' := _ :: _ :: _ :: _ :: _) rfl (zk (zr (zm rfl (zq (dQ (aj rfl oz)) (ak rfl (aj rfl (aj rfl oz)) rfl (IB (⟨b4, ⟨1, true, [.func 189 [.ptr m1 0, .ptr m2 0]]⟩, false⟩ :: ⟨m1, ⟨1, true, [.int .i64 ((0 : Nat) : Int)]⟩, false⟩ :: hs) (fO (fO hro)) V v (hE.mono fun b o h => MemH.tl (MemH.tl h)) (hEA.mono fun b o h => MemH.tl (MemH.tl h)) hEb 192 [.ptr b4 0] (fun i hi => Spec.sub (Db _ _ (LIn.cell (hEA _ (cg hi))) (LIn.bq (hEA _ (cg hi))) b4 m1 m2 true true) qf) h0) (SubR.ix (K := [_, _, _, _]) (ix := [0, 3]) (A := [_, _]) rfl (by decide) (aN hro)) rfl (za rfl (zk (zr ?_))))))))))))))))))))))))
 refine zm rfl (zq (dQ (aj rfl oz)) (ak rfl (aj rfl (aj rfl oz)) rfl (ID _ _) SubR.nil rfl (zk (zr (za rfl (zk (W.seq (zr (zm rfl (zq (Q.len j4 rfl rfl) (zq (Q.move (zi 0)) (zk (W.block (W.loop (zr (zq (aa rfl rfl rfl (bu (p := false) rfl)) (zk (W.seq (W.condF rfl (W.exit (am (aq (ap (End.K (W.sub (zc 17 rfl aI) (zr ?_))))))))))))))))))))))))))
 refine zm rfl (ak rfl (aj rfl oz) rfl HK SubR.nil rfl (zq (Q.extract rfl rfl) (zq (Q.extract rfl rfl) (za rfl (za rfl (zk (W.ret ?_)))))))
 refine End.ret (ResL.tmp rfl (z1 rfl)) (hs' := []) ⟨[], .nils, rfl, OwnE.nil 2, (if_pos h0).symm⟩ dB (SubH.nil _)

theorem H5 (hs : af) (hro : ∀ e ∈ hs, e.w = false) (V : List El) (v : AV) (hE : EIn hs V v) (hEA : EAll hs V) (hEb : EBd V) (N : List Nat) (hN : V.map (fun x => x.2.2) = N.map fun x => ((x : Nat) : Int)) (hNb : N.sum <= 1152921504606846976) (hck : P19.vchk V = 0) (h0 : 0 < V.length) : Spec tab 158 [.str [115, 117, 109], .int .i64 ((0 : Nat) : Int), .nils, .int .i64 ((0 : Nat) : Int), v] [] hs (fun u D => ∃ (U : List El) (y : AV), u = .tuple [y, .int .i64 ((0 : Nat) : Int)] /\ OwnE 2 (cE U) U.length y D /\ U = uU V.length N) := by
 have hVl := hEb.1
 have hNl : N.length = V.length := by have := congrArg List.length hN; simpa using this.symm
 refine ac (bz 158 Tryz.func158) rfl (m := 109) rfl (rs := [.tmp 10, .tmp 11]) rfl (st := [(0, .str [115, 117, 109]), (1, .int .i64 ((0 : Nat) : Int)), (2, .nils), (3, .int .i64 ((0 : Nat) : Int)), (4, v)]) rfl rfl (fun _ => rfl) (fun E => zr (WO.box rfl rfl (JJ _ rfl) rfl (fun m1 => WO.box rfl rfl (DT _ rfl) rfl (fun m2 => za rfl (za (zi 0) (zk (W.seq (zr (zm rfl (ak rfl (aj rfl oz) rfl (JA hs hro V v hE hEA hEb N hN hNb hck) (aQ (aQ (aN hro))) rfl (za rfl (zk (zr (zm rfl (zq (aa rfl (zi 0) rfl (bd (p := false) rfl)) (zk (W.condF rfl (zw (zr (zm rfl (ak rfl (aj rfl oz) rfl qI SubR.nil rfl (zm rfl (zq (Q.extract rfl rfl) ?_)))))))))))))))))))))))
 refine zq (Q.extract rfl rfl) (WO.alloc AK rfl (fun b3 => WO.store yF rfl rfl (i := 0) rfl rfl (cs := [_]) rfl (hs' := _ :: _ :: _ :: _) rfl (za rfl (zk (W.sub (zc 14 rfl (zc 13 rfl (zc 7 rfl (zc 6 rfl (zc 0 rfl (zc 3 rfl (zc 4 rfl aI))))))) (W.seq (W.block (zr (zm rfl (ak rfl (aj rfl oz) rfl (o9 _ zy) SubR.nil rfl (zq (Q.not rfl rfl) (za rfl (zk (W.condF rfl (zr (zm rfl (zq (Q.not rfl rfl) (za rfl (zk (W.condF rfl (zr (zq (ag rfl (zt 2 rfl) bH rfl) (zq (aa rfl (zi 0) rfl (bu (p := false) rfl)) ?_)))))))))))))))))))))))
 refine zm rfl (zT (zq (ag rfl (zt 2 rfl) bH rfl) (zT (zq (aa rfl (zi 2) rfl (aJ (p := false) rfl)) (zq (aF rfl rfl) (za rfl (zk (W.sub (zc 42 rfl (zc 13 rfl (zc 7 rfl (zc 6 rfl (zc 0 rfl (zc 3 rfl (zc 4 rfl aI))))))) (W.condF rfl (W.skip (End.KB (End.K (zr (zq (dQ (aj rfl (aj rfl oz))) (WO.alloc Fv rfl (fun b4 => WO.store FL rfl rfl (i := 0) rfl rfl (cs := [_]) rfl (hs' := _ :: _ :: _ :: _ :: _) rfl (zk (zr (zm rfl (zq (dQ (aj rfl oz)) (WO.call0 rfl (aj rfl (aj rfl oz)) rfl (IC (⟨b4, ⟨1, true, [.func 189 [.ptr m1 0, .ptr m2 0]]⟩, false⟩ :: ⟨m1, ⟨1, true, [.int .i64 ((0 : Nat) : Int)]⟩, false⟩ :: hs) (fO (fO hro)) V v (hE.mono fun b o h => MemH.tl (MemH.tl h)) (hEA.mono fun b o h => MemH.tl (MemH.tl h)) hEb 192 [.ptr b4 0] (fun i hi => Spec.sub (Db _ _ (LIn.cell (hEA _ (cg hi))) (LIn.bq (hEA _ (cg hi))) b4 m1 m2 true true) qf) h0) (SubR.ix (K := [_, _, _, _]) (ix := [0, 3]) (A := [_, _]) rfl (by decide) (aN hro)) rfl (fun v52 D52 hP52 => ?_))))))))))))))))))))))
 obtain ⟨gb, gx, gv, gho, rfl, rfl, hgv⟩ := hP52
 obtain ⟨bg, xg, rfl, rfl⟩ := OwnE.full hgv h0
 refine za rfl (zk (zr (zm rfl (zq (dQ (aj rfl oz)) (ak rfl (aj rfl (aj rfl oz)) rfl (IE gb _ _) SubR.nil rfl (zk (zr (za rfl (zk (W.seq (zr (zm rfl (zq (Q.len j4 rfl rfl) (zq (Q.move (zi 0)) (zk (W.block (W.loop (zr (zq (aa rfl rfl rfl (bu (p := true) rfl)) (zk (W.seq (W.condT rfl (zw ?_)))))))))))))))))))))))
 refine W.seq (W.block (zr (zq (ao j4 ux rfl rfl zo (o' := 0) rfl) (zq (ag rfl (zt 0 rfl) uT rfl) (za rfl (zk (W.sub (zc 19 rfl (zc 58 rfl (zc 57 rfl (zc 56 rfl (zc 17 rfl (zc 15 rfl (zc 13 rfl (zc 0 rfl (zc 3 rfl aI))))))))) (W.seq (zr (zf wV rfl 0 (zq (ag rfl (zt 3 rfl) Ft rfl) (zq (aa rfl rfl rfl (Cy _ _)) (zk (W.condF rfl (zw (zr (za rfl (zk (W.seq (zr (zm rfl (zq (Q.len eW rfl rfl) (zq (Q.move (zi 0)) ?_)))))))))))))))))))))))
 refine zk (W.block (bI (fun (j : Nat) (l : AV) (hl : af) => [(0, .str [115, 117, 109]), (3, .int .i64 ((0 : Nat) : Int)), (13, .ptr b3 0), (15, .ptr b4 0), (17, .nils), (19, .slice bg 0 V.length 2), (20, l), (56, .slice gb 0 1 1), (57, .int .i64 ((1 : Nat) : Int)), (58, .int .i64 ((0 : Nat) : Int)), (72, .slice bg 0 V.length 2), (73, .int .i64 ((V.length : Nat) : Int)), (74, .int .i64 ((j : Nat) : Int))]) (fun (j : Nat) (l : AV) (hl : af) => ⟨gb, ⟨1, gx, [.slice bg 0 V.length 2]⟩, true⟩ :: ⟨bg, ⟨2, xg, cE V⟩, true⟩ :: ⟨b4, ⟨1, true, [.func 189 [.ptr m1 0, .ptr m2 0]]⟩, true⟩ :: ⟨b3, ⟨1, true, [.func 232 []]⟩, true⟩ :: ⟨m2, ⟨1, true, [.nils]⟩, true⟩ :: ⟨m1, ⟨1, true, [.int .i64 ((0 : Nat) : Int)]⟩, true⟩ :: (hs ++ hl)) (fun (j : Nat) (l : AV) (hl : af) => j <= V.length /\ OwnE 1 (y3 (N.take j)) j l hl) (fun (j : Nat) (l : AV) (hl : af) => V.length - j) (0) (.nils) ([]) ⟨Nat.zero_le _, OwnE.nil 1⟩ zv (SubH.op (List.Perm.of_eq (by rw [List.append_nil]; rfl))) (fun j l hl hI1 ih1 => ?_)))
 obtain ⟨hj1, hLo⟩ := hI1
 refine zr (zq (aa rfl rfl rfl (bu bY)) (zk (W.seq (aB rfl (fun hc75 => ?_) (fun hc75 => ?_)))))
 ·refine zw (W.seq (W.block (zr (zq (bj eW dN rfl rfl zo) (zq (ax rfl (zt 1 rfl) kK dN (AX (b := j) hN zy)) (WO.alloc yR rfl (fun b5 => WO.store dN rfl rfl (i := 0) rfl (au rfl (uG (LIn.cell (hEA _ (cg (O := V) (i := 0 + j) zy))) rfl)) (cs := [_, _]) rfl (hs' := _ :: _ :: _ :: _ :: _ :: _ :: _ :: _) rfl (zk (W.reg (zm rfl (zf o7 rfl 1 (zq (ag rfl (zt 0 rfl) bH rfl) (WO.bslice aP dn sS rfl (cy rfl dE) rfl (cs := [_]) rfl rfl rfl (fun b6 => WO.appAny (A := ([_, _, _, _, _, _, _] ++ hs)) eM hLo rfl rfl (Src.slice (zt 0 rfl) rfl) rfl zy (by decide) (SubH.of_sublist (List.sublist_cons_self _ _)) rfl (fun v82 hp82 hO82 => za rfl (WO.nil (End.KB (End.K (W.reg (zq (aa rfl (zi 1) rfl zp) (zm rfl (WO.nil (End.KL (W.sub zv (cz (SubH.trans (SubH.pre (L := [_, _, _, _, _, _]) gc) (SubH.of_sublist (List.sublist_cons_self _ _))) (ih1 (j + 1) (v82) (hp82) ?_ ?_))))))))))))))))))))))))))
  ·exact ⟨by omega, GX zy hO82⟩
  exact zo
 refine W.exit (am (aq (ap (End.K (zr (zf wV rfl 0 (zq (ag rfl (zt 3 rfl) Ft rfl) (zm rfl (ak rfl (aj rfl oz) rfl (Gw (ro (hs ++ hl)) ie N l (NIn.mono (EP (EO hNl zy hLo)) (fun b o h => (MemH.app h).ro)) zy hNb) (SubR.ro gc) rfl (zm rfl (zq (Q.extract rfl rfl) (zq (Q.extract rfl rfl) (za rfl (za rfl (zk (W.seq (zr (zm rfl (zq (aa rfl (zi 0) rfl (bd (p := false) rfl)) (zk (W.sub (zc 92 rfl (zc 24 rfl (zc 23 rfl (zc 0 rfl (zc 3 rfl (zc 13 rfl (zc 15 rfl (zc 17 rfl (zc 19 rfl (zc 56 rfl (zc 57 rfl (zc 58 rfl aI)))))))))))) (W.condF rfl (zw (ez 9 [⟨bg, _, false⟩, ⟨b4, _, false⟩] (by kernel_rfl) (KIn.cons (zt 1 rfl) (KIn.cons (zt 2 rfl) KIn.nil)) (WD.q (Q.move rfl) rfl rfl (WD.q (ag rfl (zt 1 rfl) Fu rfl) (by simp [AV.beq, dG, dF, d6, dO]) rfl ?_))))))))))))))))))))))))))
 refine WD.q (Q.move rfl) uY rfl (WD.q (ao eW dN rfl (zi 0) zo (o' := 0) rfl) eO rfl (WD.q (ax rfl (zt 0 rfl) kK dN (AX (b := 0) hN zy)) (lJ (hEA _ (cg (O := V) (i := 0 + 0) zy))) rfl (d5 rfl (aj rfl oz) rfl (Cd _ _ (LIn.cell (hEA _ (cg (O := V) (i := 0 + 0) zy))) m1 m2 true) (SubR.one (zt 5 rfl)) (KIn.cons (zt 1 rfl) (KIn.cons (zt 2 rfl) KIn.nil)) rfl (WD.q (Q.move rfl) cZ rfl (WD.q (Q.build EX (cy rfl (cy rfl dE)) rfl (cs := [_, _]) rfl) (by simp [AV.beq, dG, dF, d6, dO]) rfl (WD.bslice eW dN Aj rfl (cy rfl dE) rfl (cs := [_, _]) rfl rfl rfl (KIn.cons (zt 1 rfl) (KIn.cons (zt 2 rfl) KIn.nil)) (fun b7 => WD.appAny (A := _) j8 (OwnE.nil 2) rfl rfl (Src.slice (zt 0 rfl) rfl) rfl zo (by decide) eN rfl (KIn.cons (zt 1 rfl) (KIn.cons (zt 2 rfl) KIn.nil)) (fun v103 hp103 hO103 => WD.q (Q.assign rfl) (OwnE.bq hO103) rfl (WD.nil (End.KB (End.K (W.sub (zc 17 rfl (zc 0 rfl (zc 3 rfl (zc 13 rfl (zc 15 rfl (zc 56 rfl (zc 57 rfl (zc 58 rfl aI)))))))) (W.reg (zq (aa rfl (zi 1) rfl (bc (c := (((1 : Nat)) : Int)) (by decide))) (zm rfl (WO.nil (End.KL (W.loop (zr (zq (aa rfl rfl rfl (bu (p := false) rfl)) (zk (W.seq (W.condF rfl (W.exit ?_))))))))))))))))))))))))
 refine am (aq (ap (End.K (zr (zm rfl (ak rfl (aj rfl oz) rfl (Dh hO103) SubR.nil rfl (zq (Q.extract rfl rfl) (zq (Q.extract rfl rfl) (za rfl (za rfl (zk (W.sub (zc 11 rfl (zc 10 rfl aI)) (W.ret ?_)))))))))))))
 refine End.ret (ResL.tmp rfl (z1 rfl)) (hs' := hp103) ⟨[(.nils, [], ((N.sum : Nat) : Int))], v103, rfl, hO103, (if_neg zy).symm⟩ hO103.w gc
theorem H7 (hs : af) (hro : ∀ e ∈ hs, e.w = false) (V : List El) (v : AV) (hE : EIn hs V v) (hEA : EAll hs V) (hEb : EBd V) (N : List Nat) (hN : V.map (fun x => x.2.2) = N.map fun x => ((x : Nat) : Int)) (hNb : N.sum <= 1152921504606846976) (hck : P19.vchk V = 0) : Spec tab 158 [.str [115, 117, 109], .int .i64 ((0 : Nat) : Int), .nils, .int .i64 ((0 : Nat) : Int), v] [] hs (fun u D => ∃ (U : List El) (y : AV), u = .tuple [y, .int .i64 ((0 : Nat) : Int)] /\ OwnE 2 (cE U) U.length y D /\ U = uU V.length N) := by
 by_cases h : V.length = 0
 ·exact H4 hs hro V v hE hEA hEb N hN hNb hck h
 ·exact H5 hs hro V v hE hEA hEb N hN hNb hck (Nat.pos_of_ne_zero h)

end Go.Proofs.YtfkbfnpjggkdmaaGreatDoor.Ev
