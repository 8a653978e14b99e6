/- Chapter 16, by the document: the parser's small functions, where nothing is wrong. -/
import Derived.Test.YtndhhgbpcmfeiaaGreatDoorNUb
import Derived.Test.YtndhhgbpcmfeiaaGreatDoorNJu
namespace Go.Proofs.YtndhhgbpcmfeiaaGreatDoor.Ev.P16
open Go.RowKit
set_option maxRecDepth 100000
set_option maxHeartbeats 1000000
theorem dH (toks : List aY) (n : Nat) (hn : toks.length = n + 1) (hnl : n <= 1048576) (hok : ir toks) (tb : Nat) (ex : Bool) (X a : Nat) (ha : a <= n) (dp : Nat) (bd : Int) (T : aY) (hT : tg toks a = T) : Spec aA 32 [.ptr X 0] [] [pB X tb n a ((dp : Nat) : Int) ((0 : Nat) : Int) bd false, ⟨tb, ⟨4, ex, cF toks⟩, false⟩] (eA (.agg (np T))) := by
 subst hT
 exact qB toks n hn hnl hok tb ex X a ha dp _ bd
theorem nL (toks : List aY) (n : Nat) (hn : toks.length = n + 1) (hnl : n <= 1048576) (hok : ir toks) (tb : Nat) (ex : Bool) (X a : Nat) (ha : a <= n) (dp : Nat) (bd : Int) (T : aY) (hT : tg toks a = T) (s : List Nat) (hs : Bytes s) (b : Bool) (hb : rO 0 T s = b) : Spec aA 59 [.ptr X 0, .str s] [] [pB X tb n a ((dp : Nat) : Int) ((0 : Nat) : Int) bd false, ⟨tb, ⟨4, ex, cF toks⟩, false⟩] (eA (.bool b)) := by
 subst hT hb
 exact y8 toks n hn hnl hok tb ex X a ha dp _ bd s hs
theorem Dc {L : List (List Nat)} {s : List Nat} {i : Nat} (h : i < L.length) (g : L.getD i [] = s) : true = decide (s ∈ L) := by
 rw [List.getD_eq_getElem?_getD, List.getElem?_eq_getElem h] at g
 exact (decide_eq_true (by rw [<- g]; exact List.getElem_mem h)).symm
theorem C9 {L : List (List Nat)} {s : List Nat} (h : ∀ j, j < L.length -> L.getD j [] ≠ s) : false = decide (s ∈ L) := by
 refine (decide_eq_false fun hm => ?_).symm
 obtain ⟨j, hj, e⟩ := List.mem_iff_getElem.1 hm
 exact h j hj (by rw [List.getD_eq_getElem?_getD, List.getElem?_eq_getElem hj]; exact e)
def kT (l : Nat) : List (List Nat) := if l = 0 then [[111, 114]] else if l = 1 then [[97, 110, 100], [117, 110, 108, 101, 115, 115]] else if l = 2 then [[61, 61], [33, 61], [60, 61], [62, 61], [60], [62]] else if l = 3 then [[43], [45]] else [[42], [47], [37]]
theorem CV {l : Nat} (h : l = 0) : kT l = [[111, 114]] := by subst h; rfl
theorem CW {l : Nat} (h : l = 1) : kT l = [[97, 110, 100], [117, 110, 108, 101, 115, 115]] := by subst h; rfl
theorem CX {l : Nat} (h : l = 2) : kT l = [[61, 61], [33, 61], [60, 61], [62, 61], [60], [62]] := by subst h; rfl
theorem CY {l : Nat} (h : l = 3) : kT l = [[43], [45]] := by subst h; rfl
theorem CZ {l : Nat} (h : ¬ l = 0 /\ ¬ l = 1 /\ ¬ l = 2 /\ ¬ l = 3) : kT l = [[42], [47], [37]] := by
 unfold kT; rw [if_neg h.1, if_neg h.2.1, if_neg h.2.2.1, if_neg h.2.2.2]
theorem rR (l : Nat) : (kT l).length <= 6 := by
 unfold kT
 (repeat' split) <;> decide
theorem BL (toks : List aY) (n : Nat) (hn : toks.length = n + 1) (hnl : n <= 1048576) (hok : ir toks) (tb : Nat) (ex : Bool) (X a : Nat) (ha : a <= n) (dp : Nat) (bd : Int) (T : aY) (hT : tg toks a = T) (hTb : Bytes T.2.1) (s : List Nat) (hs : Bytes s) (hv : rO 0 T s = true) : Spec aA 126 [.ptr X 0, .str s] [X] [pB X tb n a ((dp : Nat) : Int) ((0 : Nat) : Int) bd true, ⟨tb, ⟨4, ex, cF toks⟩, false⟩] (fun v D => v = .tuple [] /\ D = [pB X tb n (a + 1) ((dp : Nat) : Int) ((0 : Nat) : Int) bd true]) := by
 refine aj (dW 126 Tryz.func126) rfl (m := 20) rfl (rs := []) rfl (st := [(0, .ptr X 0), (1, .str s)]) rfl rfl (fun _ => rfl) (fun E => W.seq (zr (zm rfl (zm rfl (az rfl (aX rfl (aX rfl oz)) rfl (nL toks n hn hnl hok tb ex X a ha dp bd T hT _ hs true hv) SubR.two rfl (zq (Q.not rfl rfl) (zk (ad rfl (zw (aF (zm rfl (zq (bD rfl) (zf fF rfl 1 (zq (aG rfl (zt 0 rfl) d7 rfl) (zq (Q.bin rfl (zi 1) rfl zp) (zq (bD rfl) (zf fF rfl 1 (A3 i8 rfl rfl (i := 0) rfl rfl rfl (hs' := [_, _]) rfl (WO.nil ?_)))))))))))))))))))
 refine pN ResL.nil (hs' := [pB X tb n (a + 1) ((dp : Nat) : Int) ((0 : Nat) : Int) bd true]) ⟨rfl, rfl⟩ zW (SubH.of_sublist (by simp))

theorem sV (n tb X a dp : Nat) (bd pl : Int) (hd : dp + 1 <= 12) : Spec aA 90 [.ptr X 0, .int .i64 pl] [X] [pB X tb n a ((dp : Nat) : Int) ((0 : Nat) : Int) bd true] (fun v D => v = .tuple [] /\ D = [pB X tb n a (((dp + 1) : Nat) : Int) ((0 : Nat) : Int) bd true]) := by
 refine aj (dW 90 Tryz.func90) rfl (m := 19) rfl (rs := []) rfl (st := [(0, .ptr X 0), (1, .int .i64 pl)]) rfl rfl (fun _ => rfl) (fun E => zr (zm rfl (zq (bD rfl) (zf jp rfl 2 (zq (aG rfl (zt 0 rfl) d7 rfl) (zq (Q.bin rfl (zi 1) rfl zp) (zq (bD rfl) (zf jp rfl 2 (A3 i8 rfl rfl (i := 0) rfl rfl rfl (hs' := [_]) rfl (zk (zr (zm rfl (zq (bD rfl) (zf jp rfl 2 (zq (aG rfl (zt 0 rfl) d7 rfl) (zq (Q.bin rfl (zi 12) rfl (bf jr)) (zk (ax rfl (fun hc15 => ?_) (fun hc15 => ?_)))))))))))))))))))
 ·(exfalso; omega)
 refine W.skip ?_
 refine pN ResL.nil ⟨rfl, rfl⟩ zW (SubH.refl _)

theorem Db (L : List (List Nat)) (hL : L.length <= 1048576) (b : Nat) (ex : Bool) (s : List Nat) (hs : Bytes s) : Spec aA 57 [.slice b 0 L.length 1, .str s] [] [⟨b, ⟨1, ex, L.map AV.str⟩, false⟩] (eA (.bool (decide (s ∈ L)))) := by
 refine aj (dW 57 Tryz.func57) rfl (m := 18) rfl (rs := [.tmp 4]) rfl (st := [(0, .slice b 0 L.length 1), (1, .str s)]) rfl rfl (fun _ => rfl) (fun E => zr (za rfl (zk (W.seq (zr (za (zi 0) (zk (W.block (bF (fun (i : Nat) => [(0, .slice b 0 L.length 1), (1, .str s), (5, .int .i64 ((i : Nat) : Int))]) (fun _ => _) (fun (i : Nat) => i <= L.length /\ ∀ j, j < i -> L.getD j [] ≠ s) (fun (i : Nat) => L.length - i) (0) ⟨Nat.zero_le _, fun j h => by omega⟩ zv (SubH.refl _) (fun i hI0 ih0 => ?_))))))))))
 obtain ⟨hi, hno⟩ := hI0
 refine W.seq (zr (zm rfl (zm rfl (zq (Q.len jd rfl rfl) (zq (Q.bin rfl rfl rfl (ec jr)) (zk (ax rfl (fun hc9 => ?_) (fun hc9 => ?_))))))))
 ·refine zw (W.seq (W.block (zr (zm rfl (zm rfl (zq (ee jd uB rfl rfl zo) (zq (aG rfl (zt 0 rfl) uy (tz zy)) (zm rfl (zq (Q.bin rfl rfl rfl ap) (zk (ax rfl (fun hc17 => ?_) (fun hc17 => ?_))))))))))))
  ·refine zr (za rfl (zk (W.ret (ae (aa (gh (ae (aa (ab (z1 rfl) ?_)))))))))
   exact bT (Dc zy hc17)
  refine W.skip (End.KB (End.K (aF (zm rfl (zq (Q.bin rfl (zi 1) rfl zp) (za rfl (WO.nil (End.KL (W.sub zv (ih0 (i + 1) ?_ ?_))))))))))
  ·exact ⟨by omega, fun j h => by rcases Nat.lt_or_ge j i with g | g; exact hno j g; have hji : j = i := zy; subst hji; exact hc17⟩
  exact zo
 refine W.exit (av (aL (aq (End.K (zr (za rfl (zk (W.ret (ab (z1 rfl) ?_)))))))))
 exact bT (C9 (fun j h => hno j zy))

theorem pk (l : Nat) : Spec aA 58 [.int .i64 ((l : Nat) : Int)] [] [] (fun v D => ∃ b : Nat, v = .slice b 0 (kT l).length 1 /\ D = [⟨b, ⟨1, true, (kT l).map AV.str⟩, true⟩]) := by
 refine aj (dW 58 Tryz.func58) rfl (m := 17) rfl (rs := [.tmp 2]) rfl (st := [(0, .int .i64 ((l : Nat) : Int))]) rfl rfl (fun _ => rfl) (fun E => zr (za rfl (zk (W.seq (zr (zm rfl (zk (W.block (zr (zq (Q.bin rfl (zi 0) rfl (ag aD)) (za rfl (zk (ax rfl (fun hc4 => ?_) (fun hc4 => ?_))))))))))))))
 ·refine zr (WO.bslice jd uB Av rfl (b8 (oc (v := .str [111, 114]) (by kernel_rfl)) ak) rfl (cs := [_]) rfl rfl rfl (fun b1 => za rfl (zk (W.ret ?_))))
  refine ae (aa (End.ret (z1 rfl) (hs' := [⟨b1, ⟨1, true, (kT l).map AV.str⟩, true⟩]) ⟨b1, by rw [CV zy]; rfl, rfl⟩ zW (by rw [CV zy]; exact (SubH.of_sublist (List.Sublist.cons_cons _ (List.nil_sublist _))))))
 refine zr (zq (Q.bin rfl (zi 1) rfl (ag aD)) (za rfl (zk (ax rfl (fun hc7 => ?_) (fun hc7 => ?_)))))
 ·refine zr (WO.bslice jd uB Av rfl (b8 (oc (v := .str [97, 110, 100]) (by kernel_rfl)) (b8 (oc (v := .str [117, 110, 108, 101, 115, 115]) (by kernel_rfl)) ak)) rfl (cs := [_, _]) rfl rfl rfl (fun b2 => za rfl (zk (W.ret ?_))))
  refine ae (aa (End.ret (z1 rfl) (hs' := [⟨b2, ⟨1, true, (kT l).map AV.str⟩, true⟩]) ⟨b2, by rw [CW zy]; rfl, rfl⟩ zW (by rw [CW zy]; exact (SubH.of_sublist (List.Sublist.cons_cons _ (List.nil_sublist _))))))
 refine zr (zq (Q.bin rfl (zi 2) rfl (ag aD)) (za rfl (zk (ax rfl (fun hc10 => ?_) (fun hc10 => ?_)))))
 ·refine zr (WO.bslice jd uB Av rfl (b8 (oc (v := .str [61, 61]) (by kernel_rfl)) (b8 (oc (v := .str [33, 61]) (by kernel_rfl)) (b8 (oc (v := .str [60, 61]) (by kernel_rfl)) (b8 (oc (v := .str [62, 61]) (by kernel_rfl)) (b8 (oc (v := .str [60]) (by kernel_rfl)) (b8 (oc (v := .str [62]) (by kernel_rfl)) ak)))))) rfl (cs := [_, _, _, _, _, _]) rfl rfl rfl (fun b3 => za rfl (zk (W.ret ?_))))
  refine ae (aa (End.ret (z1 rfl) (hs' := [⟨b3, ⟨1, true, (kT l).map AV.str⟩, true⟩]) ⟨b3, by rw [CX zy]; rfl, rfl⟩ zW (by rw [CX zy]; exact (SubH.of_sublist (List.Sublist.cons_cons _ (List.nil_sublist _))))))
 refine zr (zq (Q.bin rfl (zi 3) rfl (ag aD)) (za rfl (zk (ax rfl (fun hc13 => ?_) (fun hc13 => ?_)))))
 ·refine zr (WO.bslice jd uB Av rfl (b8 (oc (v := .str [43]) (by kernel_rfl)) (b8 (oc (v := .str [45]) (by kernel_rfl)) ak)) rfl (cs := [_, _]) rfl rfl rfl (fun b4 => za rfl (zk (W.ret ?_))))
  refine ae (aa (End.ret (z1 rfl) (hs' := [⟨b4, ⟨1, true, (kT l).map AV.str⟩, true⟩]) ⟨b4, by rw [CY zy]; rfl, rfl⟩ zW (by rw [CY zy]; exact (SubH.of_sublist (List.Sublist.cons_cons _ (List.nil_sublist _))))))
 refine W.skip (End.KB (End.K (zr (WO.bslice jd uB Av rfl (b8 (oc (v := .str [42]) (by kernel_rfl)) (b8 (oc (v := .str [47]) (by kernel_rfl)) (b8 (oc (v := .str [37]) (by kernel_rfl)) ak))) rfl (cs := [_, _, _]) rfl rfl rfl (fun b5 => za rfl (zk (W.ret ?_)))))))
 refine End.ret (z1 rfl) (hs' := [⟨b5, ⟨1, true, (kT l).map AV.str⟩, true⟩]) ⟨b5, by rw [CZ zy]; rfl, rfl⟩ zW (by rw [CZ zy]; exact (SubH.of_sublist (List.Sublist.cons_cons _ (List.nil_sublist _))))
theorem r9 (L : List (List Nat)) (hL : L.length <= 1048576) (b : Nat) (ex : Bool) (s : List Nat) (hs : Bytes s) (r : Bool) (hr : decide (s ∈ L) = r) : Spec aA 57 [.slice b 0 L.length 1, .str s] [] [⟨b, ⟨1, ex, L.map AV.str⟩, false⟩] (eA (.bool r)) := by
 subst hr
 exact Db L hL b ex s hs
def TR (hs : af) (c : List AV) (t e : Nat) : Prop := ∀ hs', (∀ y ∈ hs', y.w = false) -> (∀ b o, MemH hs b o -> MemH hs' b o) -> Spec aA 35 [.agg c] [] hs' (eA (tpair t e))
theorem TR.mono {hs hs' : af} {c : List AV} {t e : Nat} (h : TR hs c t e) (hm : ∀ b o, MemH hs b o -> MemH hs' b o) : TR hs' c t e := fun h2 hro g => h h2 hro fun b o m => g b o (hm b o m)
structure Nm (hs : af) (x : NodT) (Qp : TD -> Int -> Prop) : Prop where
 ok : ∃ m, NOk hs x m
 tr : TR hs (nC x) 1 0
 nt : ∃ t v, TRep hs t (nC x) /\ NumT t v /\ Qp t v /\ yG t
theorem Nm.up {hs hs' : af} {x : NodT} {Qp : TD -> Int -> Prop} (h : Nm hs x Qp) (g : ∀ e ∈ hs, e ∈ hs') : Nm hs' x Qp :=
 ⟨let ⟨m, h1⟩ := h.ok; ⟨m, h1.up g⟩, h.tr.mono (MemH.up g), let ⟨t, v, h1, h2⟩ := h.nt; ⟨t, v, TRep.mono (MemH.up g) h1, h2⟩⟩
def KVT (hs : af) (ts : List Nat) (v : AV) : Prop := (v = .nils /\ ts = []) \/ ∃ b ob, v = .slice b 0 ts.length 11 /\ MemH hs b ob /\ ts.length <= 1048576 /\ ∃ d, ∀ i, i < ts.length -> ∃ c', ch ob.cells ((0 + i) * 11) 11 = some c' /\ NRep hs d c' /\ TR hs c' (ts.getD i 0) 0
theorem po {hs : af} {ts : List Nat} {k : Int} {op : List Nat} {n : Int} {ms : AV} {rg off md : Int} {nm : AV} {sd : Int} {bl : Bool} {kd : AV} (h : KVT hs ts kd) (ho : Bytes op) (hms : ms.isCell = true) (hnm : nm.isCell = true) (hts : ∀ t ∈ ts, 1 <= t /\ t <= 3)
  {p : Nat × Nat} (hp : gI k op rg md sd bl ts.length (fun i => ts.getD i 0) (fun _ => 0) = p) : TR hs (nC ⟨k, op, n, ms, rg, off, md, nm, sd, bl, kd⟩) p.1 p.2 := by
 refine fun hs' hro hm => ?_
 subst hp
 have hty : ∀ i, i < ts.length -> (fun _ : Nat => (0 : Nat)) i = 0 -> 1 <= (fun i => ts.getD i 0) i /\ (fun i => ts.getD i 0) i <= 3 := by
  intro i hi _
  show 1 <= ts.getD i 0 /\ ts.getD i 0 <= 3
  rw [List.getD_eq_getElem?_getD, List.getElem?_eq_getElem hi]
  exact hts _ (List.getElem_mem hi)
 rcases h with ⟨rfl, rfl⟩ | ⟨b, ob, rfl, hb, hle, d, hd⟩
 ·exact oo k op ho n ms rg off md nm sd bl hms hnm hs' hro 0 .nils 0 rfl rfl zy (fun _ => []) (fun i hi => absurd hi (Nat.not_lt_zero _)) _ _ (fun i hi => absurd hi (Nat.not_lt_zero _)) (fun i hi => absurd hi (Nat.not_lt_zero _))
 ·have hk2 : ∀ i, ∃ c' : List AV, i < ts.length -> (ch ob.cells ((0 + i) * 11) 11 = some c' /\ NRep hs d c' /\ TR hs c' (ts.getD i 0) 0) := by
   intro i
   by_cases hi : i < ts.length
   ·obtain ⟨c', g1, g2, g3⟩ := hd i hi
    exact ⟨c', fun _ => ⟨g1, g2, g3⟩⟩
   ·exact ⟨[], fun h => absurd h hi⟩
  refine Exists.elim (Classical.skolem.1 hk2) fun kc hk3 => ?_
  exact oo k op ho n ms rg off md nm sd bl hms hnm hs' hro d (.slice b 0 ts.length 11) ts.length rfl rfl hle kc
   (fun i hi => ⟨b, ob, rfl, hm _ _ hb, (hk3 i hi).1, ((hk3 i hi).2.1).mono hm⟩) _ _ (fun i hi => (hk3 i hi).2.2 hs' hro hm) hty
theorem KVT.one {hs : af} {b : Nat} {ex : Bool} {x : NodT} {Qp : TD -> Int -> Prop} (h : Nm hs x Qp) (hm : MemH hs b ⟨11, ex, nC x⟩) : KVT hs [1] (.slice b 0 1 11) := by
 obtain ⟨m, hk⟩ := h.ok
 obtain ⟨d, hd⟩ := hk.nr
 refine .inr ⟨b, _, rfl, hm, (by show 1 <= 1048576; decide), d, fun i hi => ?_⟩
 have : i = 0 := by simp at hi; omega
 subst this
 exact ⟨_, wG, hd.nrep, h.tr⟩
theorem KVT.two {hs : af} {b : Nat} {ex : Bool} {x y : NodT} {Qp U : TD -> Int -> Prop} (h : Nm hs x Qp) (g : Nm hs y U) (hm : MemH hs b ⟨11, ex, nC x ++ nC y⟩) : KVT hs [1, 1] (.slice b 0 2 11) := by
 obtain ⟨m, hk⟩ := h.ok
 obtain ⟨d, hd⟩ := hk.nr
 obtain ⟨m', hk'⟩ := g.ok
 obtain ⟨d', hd'⟩ := hk'.nr
 refine .inr ⟨b, _, rfl, hm, (by show 2 <= 1048576; decide), max d d', fun i hi => ?_⟩
 have hi : i < 2 := hi
 rcases Nat.lt_or_ge i 1 with h1 | h1
 ·have : i = 0 := by omega
  subst this
  exact ⟨nC x, rfl, hd.nrep.le (Nat.le_max_left _ _), h.tr⟩
 ·have : i = 1 := by omega
  subst this
  exact ⟨nC y, rfl, hd'.nrep.le (Nat.le_max_right _ _), g.tr⟩
theorem wN {k n : Int} {op : List Nat} (ho : Bytes op) : ND.bd ⟨k, op, n, [], 0, 0, 0, [], 0, false⟩ := ⟨ho, ⟨by simp, fun m hm => by simp at hm⟩, ⟨by simp, fun m hm => by simp at hm⟩⟩
theorem A7 {hs : af} {v : Int} {Qp : TD -> Int -> Prop} (hQ : Qp (.node (jc v) []) v) : Nm hs ⟨(((1 : Nat) : Int)), [], v, .nils, 0, 0, 0, .nils, 0, false, .nils⟩ Qp :=
 ⟨⟨_, NOk.of KVn.nil d9 (Nat.zero_le _) Cp DA⟩, po (ts := []) (p := (1, 0)) (.inl ⟨rfl, rfl⟩) d9 rfl rfl (fun t h => by simp at h) rfl,
  .node (jc v) [], v, (by rw [TRep]; exact ⟨.nils, .nils, .nils, [], rfl, RIn.nil, RIn.nil, RIn.nil, wN d9, by simp, by rw [TReps]⟩), NumT.leaf rfl, hQ, by rw [yG, mZ]; exact ⟨wo ⟨Nat.zero_le _, by decide⟩, trivial⟩⟩
theorem Nm.neg {hs : af} {b : Nat} {ex : Bool} {x : NodT} {Qp U : TD -> Int -> Prop} (h : Nm hs x Qp) (hm : MemH hs b ⟨11, ex, nC x⟩) (hQ : ∀ t v, Qp t v -> eQ v = true /\ U (.node ⟨6, [], 0, [], 0, 0, 0, [], 0, false⟩ [t]) (-v)) :
  Nm hs ⟨(((6 : Nat) : Int)), [], 0, .nils, 0, 0, 0, .nils, 0, false, .slice b 0 1 11⟩ U := by
 obtain ⟨m, hk⟩ := h.ok
 obtain ⟨t, v, h1, h2, h3, h4⟩ := h.nt
 obtain ⟨hf, hU⟩ := hQ t v h3
 refine ⟨⟨_, NOk.of (KVn.one hk hm) d9 (Nat.zero_le _) Cp DA⟩, po (ts := [1]) (p := (1, 0)) (KVT.one h hm) d9 rfl rfl (by decide) rfl, .node ⟨6, [], 0, [], 0, 0, 0, [], 0, false⟩ [t], -v, ?_, NumT.neg rfl h2 hf, hU, ?_⟩
 ·rw [TRep]
  refine ⟨.nils, .nils, .slice b 0 1 11, [nC x], rfl, RIn.nil, RIn.nil, .inr ⟨b, 11, ex, rfl, by rw [List.flatMap_cons, List.flatMap_nil, List.append_nil]; exact hm, rfl⟩, wN d9, by simp, ?_⟩
  rw [TReps, ]
  exact ⟨_, _, rfl, h1, by rw [TReps]⟩
 ·rw [yG, mZ, mZ]
  exact ⟨wo ⟨Nat.zero_le _, by decide⟩, h4, trivial⟩
theorem Nm.bin {hs : af} {b : Nat} {ex : Bool} {x y : NodT} {Q1 Q2 U : TD -> Int -> Prop} {op : List Nat} (h : Nm hs x Q1) (g : Nm hs y Q2) (hm : MemH hs b ⟨11, ex, nC x ++ nC y⟩) (ho : Bytes op) (hol : op.length <= 1048576)
  (hty : gI 5 op 0 0 0 false 2 (fun i => [1, 1].getD i 0) (fun _ => 0) = (1, 0))
  (hQ : ∀ t u v w, Q1 t v -> Q2 u w -> (di op v w).2 = 0 /\ U (.node ⟨5, op, 0, [], 0, 0, 0, [], 0, false⟩ [t, u]) (di op v w).1) :
  Nm hs ⟨(((5 : Nat) : Int)), op, 0, .nils, 0, 0, 0, .nils, 0, false, .slice b 0 2 11⟩ U := by
 obtain ⟨m, hk⟩ := h.ok
 obtain ⟨m', hk'⟩ := g.ok
 obtain ⟨t, v, h1, h2, h3, h4⟩ := h.nt
 obtain ⟨u, w, g1, g2, g3, g4⟩ := g.nt
 obtain ⟨he, hU⟩ := hQ t u v w h3 g3
 refine ⟨⟨_, NOk.of (KVn.two hk hk' hm) ho hol Cp DA⟩, po (ts := [1, 1]) (p := (1, 0)) (KVT.two h g hm) ho rfl rfl (by decide) hty, .node ⟨5, op, 0, [], 0, 0, 0, [], 0, false⟩ [t, u], _, ?_, NumT.bin rfl h2 g2 he, hU, ?_⟩
 ·rw [TRep]
  refine ⟨.nils, .nils, .slice b 0 2 11, [nC x, nC y], rfl, RIn.nil, RIn.nil, .inr ⟨b, 11, ex, rfl, by rw [List.flatMap_cons, List.flatMap_cons, List.flatMap_nil, List.append_nil]; exact hm, rfl⟩, wN ho, by simp, ?_⟩
  rw [TReps]
  refine ⟨_, _, rfl, h1, ?_⟩
  rw [TReps]
  exact ⟨_, _, rfl, g1, by rw [TReps]⟩
 ·rw [yG, mZ, mZ, mZ]
  exact ⟨wo ⟨hol, by decide⟩, h4, g4, trivial⟩
def XP (n tb X a2 : Nat) (Qp : TD -> Int -> Prop) (dp : Nat) (bd : Int) (v : AV) (D : af) : Prop := ∃ (x : NodT) (hq : af), v = .agg (nC x) /\ Nm hq x Qp /\ (∀ y ∈ hq, y.w = true) /\ D = (pB X tb n a2 ((dp : Nat) : Int) ((0 : Nat) : Int) bd true) :: hq
def EXs (toks : List aY) (n tb : Nat) (ex : Bool) (X F : Nat) (args : List AV) (a a2 : Nat) (Qp : TD -> Int -> Prop) (dl : Nat) : Prop := ∀ (dp : Nat) (bd : Int), dp <= dl -> Spec aA F (.ptr X 0 :: args) [X] [pB X tb n a ((dp : Nat) : Int) ((0 : Nat) : Int) bd true, ⟨tb, ⟨4, ex, cF toks⟩, false⟩] (XP n tb X a2 Qp dp bd)
theorem sX (toks : List aY) (n : Nat) (hn : toks.length = n + 1) (hnl : n <= 1048576) (hok : ir toks) (tb : Nat) (ex : Bool) (X a : Nat) (ha : a <= n) (dp : Nat) (bd : Int) (dl : Nat) (hdp : dp <= dl) (a2 : Nat) (Qp : TD -> Int -> Prop) (hS : EXs toks n tb ex X 56 [] a a2 Qp dl) : Spec aA 31 [.ptr X 0, .int .i64 ((5 : Nat) : Int)] [X] [pB X tb n a ((dp : Nat) : Int) ((0 : Nat) : Int) bd true, ⟨tb, ⟨4, ex, cF toks⟩, false⟩] (XP n tb X a2 Qp dp bd) := by
 refine aj (dW 31 Tryz.func31) rfl (m := 79) rfl (rs := [.cell 4 26]) rfl (st := [(0, .ptr X 0), (1, .int .i64 ((5 : Nat) : Int))]) rfl rfl (fun _ => rfl) (fun E => zr (WO.alloc eU rfl (fun b1 => zk (W.seq (zr (zm rfl (zq (Q.bin rfl (zi 5) rfl (ag (p := true) rfl)) (zk (ah rfl (zr (zm rfl (WO.call1 rfl (aX rfl oz) rfl (i := 1) rfl (hS dp bd zy) (SubR.one (zt 1 rfl)) (hs' := [_, _]) rfl rfl (fun v11 D11 hP11 => ?_)))))))))))))
 obtain ⟨x11, hq11, rfl, ty11, nw11, rfl⟩ := hP11
 obtain ⟨mm11, ok11⟩ := ty11.ok
 refine WO.subH (hs' := _ :: _ :: _ :: (hq11)) (SubH.op (aS (N := [_]) (G := hq11) (K := [_, _]) (X := []))) (zS bb rfl rfl (i := 1) rfl (by first | rfl | exact bG rfl ckA) rfl (hs' := _ :: _ :: _ :: _) rfl (zk (W.ret ?_)))
 refine aa (End.ret (zA rfl (zt 1 rfl) cG bb rfl ResL.nil) (hs' := pB X tb n a2 ((dp : Nat) : Int) ((0 : Nat) : Int) bd true :: hq11) ⟨x11, hq11, rfl, ty11, nw11, rfl⟩ (ww nw11) y4)

theorem zZ (toks : List aY) (n : Nat) (hn : toks.length = n + 1) (hnl : n <= 1048576) (hok : ir toks) (tb : Nat) (ex : Bool) (X a : Nat) (ha : a <= n) (dp : Nat) (bd : Int) (dl : Nat) (hdp : dp <= dl) (a2 : Nat) (Qp : TD -> Int -> Prop) (ha2 : a2 <= n) (T2 : aY) (hT2 : tg toks a2 = T2) (hTb2 : Bytes T2.2.1) (l : Nat) (hl4 : l <= 4) (hF : T2.1 ≠ 1 /\ T2.1 ≠ 5) (hL : EXs toks n tb ex X 31 [.int .i64 ((l + 1 : Nat) : Int)] a a2 Qp dl) : Spec aA 31 [.ptr X 0, .int .i64 ((l : Nat) : Int)] [X] [pB X tb n a ((dp : Nat) : Int) ((0 : Nat) : Int) bd true, ⟨tb, ⟨4, ex, cF toks⟩, false⟩] (XP n tb X a2 Qp dp bd) := by
 refine aj (dW 31 Tryz.func31) rfl (m := 79) rfl (rs := [.cell 4 26]) rfl (st := [(0, .ptr X 0), (1, .int .i64 ((l : Nat) : Int))]) rfl rfl (fun _ => rfl) (fun E => zr (WO.alloc eU rfl (fun b1 => zk (W.seq (zr (zm rfl (zq (Q.bin rfl (zi 5) rfl (ag aD)) (zk (ax rfl (fun hc9 => ?_) (fun hc9 => ?_))))))))))
 ·(exfalso; omega)
 refine zw (zr (zm rfl (zm rfl (zq (Q.bin rfl (zi 1) rfl zp) (WO.call1 rfl (aX rfl (aX rfl oz)) rfl (i := 1) rfl (hL dp bd zy) (SubR.one (zt 1 rfl)) (hs' := [_, _]) rfl rfl (fun v15 D15 hP15 => ?_))))))
 obtain ⟨x15, hq15, rfl, ty15, nw15, rfl⟩ := hP15
 obtain ⟨mm15, ok15⟩ := ty15.ok
 refine WO.subH (hs' := _ :: _ :: _ :: (hq15)) (SubH.op (aS (N := [_]) (G := hq15) (K := [_, _]) (X := []))) (WO.alloc eU rfl (fun b2 => zS bb rfl rfl (i := 0) rfl (by first | rfl | exact bG rfl ckA) rfl (hs' := _ :: _ :: _ :: _ :: _) rfl (zk (W.seq (W.block (W.loop (W.seq (zr (zm rfl (zq (bD rfl) (zf fG rfl 3 (zq (aG rfl (zt 1 rfl) d7 rfl) (zq (Q.bin rfl (zi 0) rfl (ag (p := true) rfl)) (zm rfl (zT (zm rfl (zT (az rfl (aX rfl oz) rfl (dH toks n hn hnl hok tb ex X a2 zy dp bd T2 hT2) (SubR.pair (i := 1) (j := 3) rfl rfl (by decide)) rfl (zT (zq (cp gX rfl rfl) (zT (zq (Q.bin rfl (zi 1) rfl (ag aD)) (sx rfl rfl ?_)))))))))))))))))))))))
 refine zm rfl (aQ (d := 26) rfl (fun hc26 => ?_) (fun hc26 => ?_))
 ·(exfalso; omega)
 refine zT (zm rfl (zT (az rfl (aX rfl oz) rfl (dH toks n hn hnl hok tb ex X a2 zy dp bd T2 hT2) (SubR.pair (i := 1) (j := 3) rfl rfl (by decide)) rfl (zT (zq (cp gX rfl rfl) (zT (zq (Q.bin rfl (zi 5) rfl (ag aD)) (zT (zq (aH rfl rfl) (zq (aC rfl rfl) (zm rfl (aQ (d := 33) rfl (fun hc33 => ?_) (fun hc33 => ?_)))))))))))))
 ·(exfalso; omega)
 refine z2 (z2 (z2 (zq (aH rfl rfl) (zk (W.sub (zc 40 rfl (zc 5 rfl (zc 4 rfl (zc 0 rfl (zc 1 rfl aU))))) (ad rfl (W.exit (av (aL (aq (End.K (zr (zq (zL rfl (zt 0 rfl) cG bb rfl) (zS bb rfl rfl (i := 2) rfl (by first | rfl | exact bG rfl ckA) rfl (hs' := _ :: _ :: _ :: _ :: _) rfl (zk (W.ret ?_))))))))))))))))
 refine End.ret (zA rfl (zt 2 rfl) cG bb rfl ResL.nil) (hs' := pB X tb n a2 ((dp : Nat) : Int) ((0 : Nat) : Int) bd true :: hq15) ⟨x15, hq15, rfl, ty15, nw15, rfl⟩ (ww nw15) y4

theorem z6 (toks : List aY) (n : Nat) (hn : toks.length = n + 1) (hnl : n <= 1048576) (hok : ir toks) (tb : Nat) (ex : Bool) (X a : Nat) (ha : a <= n) (dp : Nat) (bd : Int) (dl : Nat) (hdp : dp <= dl) (a2 : Nat) (Qp : TD -> Int -> Prop) (ha2 : a2 <= n) (T2 : aY) (hT2 : tg toks a2 = T2) (hTb2 : Bytes T2.2.1) (l : Nat) (hl4 : l <= 4) (hF : T2.1 = 5 /\ decide (T2.2.1 ∈ kT l) = false) (hL : EXs toks n tb ex X 31 [.int .i64 ((l + 1 : Nat) : Int)] a a2 Qp dl) : Spec aA 31 [.ptr X 0, .int .i64 ((l : Nat) : Int)] [X] [pB X tb n a ((dp : Nat) : Int) ((0 : Nat) : Int) bd true, ⟨tb, ⟨4, ex, cF toks⟩, false⟩] (XP n tb X a2 Qp dp bd) := by
 refine aj (dW 31 Tryz.func31) rfl (m := 79) rfl (rs := [.cell 4 26]) rfl (st := [(0, .ptr X 0), (1, .int .i64 ((l : Nat) : Int))]) rfl rfl (fun _ => rfl) (fun E => zr (WO.alloc eU rfl (fun b1 => zk (W.seq (zr (zm rfl (zq (Q.bin rfl (zi 5) rfl (ag aD)) (zk (ax rfl (fun hc9 => ?_) (fun hc9 => ?_))))))))))
 ·(exfalso; omega)
 refine zw (zr (zm rfl (zm rfl (zq (Q.bin rfl (zi 1) rfl zp) (WO.call1 rfl (aX rfl (aX rfl oz)) rfl (i := 1) rfl (hL dp bd zy) (SubR.one (zt 1 rfl)) (hs' := [_, _]) rfl rfl (fun v15 D15 hP15 => ?_))))))
 obtain ⟨x15, hq15, rfl, ty15, nw15, rfl⟩ := hP15
 obtain ⟨mm15, ok15⟩ := ty15.ok
 refine WO.subH (hs' := _ :: _ :: _ :: (hq15)) (SubH.op (aS (N := [_]) (G := hq15) (K := [_, _]) (X := []))) (WO.alloc eU rfl (fun b2 => zS bb rfl rfl (i := 0) rfl (by first | rfl | exact bG rfl ckA) rfl (hs' := _ :: _ :: _ :: _ :: _) rfl (zk (W.seq (W.block (W.loop (W.seq (zr (zm rfl (zq (bD rfl) (zf fG rfl 3 (zq (aG rfl (zt 1 rfl) d7 rfl) (zq (Q.bin rfl (zi 0) rfl (ag (p := true) rfl)) (zm rfl (zT (zm rfl (zT (az rfl (aX rfl oz) rfl (dH toks n hn hnl hok tb ex X a2 zy dp bd T2 hT2) (SubR.pair (i := 1) (j := 3) rfl rfl (by decide)) rfl (zT (zq (cp gX rfl rfl) (zT (zq (Q.bin rfl (zi 1) rfl (ag aD)) (sx rfl rfl ?_)))))))))))))))))))))))
 refine zm rfl (aQ (d := 26) rfl (fun hc26 => ?_) (fun hc26 => ?_))
 ·(exfalso; omega)
 refine zT (zm rfl (zT (az rfl (aX rfl oz) rfl (dH toks n hn hnl hok tb ex X a2 zy dp bd T2 hT2) (SubR.pair (i := 1) (j := 3) rfl rfl (by decide)) rfl (zT (zq (cp gX rfl rfl) (zT (zq (Q.bin rfl (zi 5) rfl (ag aD)) (zT (zq (aH rfl rfl) (zq (aC rfl rfl) (zm rfl (aQ (d := 33) rfl (fun hc33 => ?_) (fun hc33 => ?_)))))))))))))
 ·refine zT (zm rfl (zT (WO.call0 rfl (aX rfl oz) rfl (pk l) SubR.nil rfl (fun v35 D35 hP35 => ?_))))
  obtain ⟨lb, rfl, rfl⟩ := hP35
  refine zT (zm rfl (zT (az rfl (aX rfl oz) rfl (dH toks n hn hnl hok tb ex X a2 zy dp bd T2 hT2) (SubR.pair (i := 2) (j := 4) rfl rfl (by decide)) rfl (zT (zq (cp o8 rfl rfl) (zT (az rfl (aX rfl (aX rfl oz)) rfl (r9 (kT l) (by have := rR l; omega) lb true _ hTb2 false hF.2) (SubR.one (zt 0 rfl)) rfl (zq (aC rfl rfl) (zk (W.sub (zc 40 rfl (zc 5 rfl (zc 4 rfl (zc 0 rfl (zc 1 rfl aU))))) (ad rfl (W.exit (av (aL (aq (End.K (zr (zq (zL rfl (zt 1 rfl) cG bb rfl) (zS bb rfl rfl (i := 3) rfl (by first | rfl | exact bG rfl ckA) rfl (hs' := _ :: _ :: _ :: _ :: _ :: _) rfl (zk (W.ret ?_)))))))))))))))))))))
  refine End.ret (zA rfl (zt 3 rfl) cG bb rfl ResL.nil) (hs' := pB X tb n a2 ((dp : Nat) : Int) ((0 : Nat) : Int) bd true :: hq15) ⟨x15, hq15, rfl, ty15, nw15, rfl⟩ (ww nw15) y4
 (exfalso; omega)
end Go.Proofs.YtndhhgbpcmfeiaaGreatDoor.Ev.P16
