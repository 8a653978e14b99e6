/- Chapters 6 and 8, by the document: names, and whether a matcher may be, as far as they end. -/
import Derived.Test.YtfkbfnpjggkdmaaGreatDoorCVi
import Derived.Test.YtfkbfnpjggkdmaaGreatDoorCExE
import Derived.Test.YtfkbfnpjggkdmaaGreatDoorProg
import Derived.Test.YtfkbfnpjggkdmaaGreatDoorCAwJ
import Derived.Test.YtfkbfnpjggkdmaaGreatDoorCFactsR
namespace Go.Proofs.YtfkbfnpjggkdmaaGreatDoor.Ev.P7
open Go.RowKit
set_option maxRecDepth 100000
set_option maxHeartbeats 1000000
theorem Cs (s : List Nat) (hs : Bytes s) (hl : s.length <= 1048576) : Spec tab 72 [.str s] [] [] (ij (fun v => ∃ b : Bool, v = .bool b)) := by
 refine ac (bz 72 Tryz.func72) rfl (m := 54) rfl (rs := [.tmp 2]) rfl (st := [(0, .str s)]) rfl rfl (fun _ => rfl) (fun E => zr (za rfl (zk (W.seq (zr (za (zi 0) (zk (W.block (W.loop_ind (fun (i : Nat) => [(0, .str s), (3, .int .i64 ((i : Nat) : Int))]) (fun _ => _) (fun (i : Nat) => i <= s.length) (fun (i : Nat) => s.length - i) (0) (Nat.zero_le _) zv (SubH.refl _) (fun i hI0 ih0 => ?_))))))))))
 have hi := hI0
 refine W.seq (zr (zm rfl (zm rfl (zq (Q.len cf rfl rfl) (zq (aa rfl rfl rfl (bu bY)) (zk (aB rfl (fun hc9 => ?_) (fun hc9 => ?_))))))))
 ·refine zw (W.seq (W.block (zr (zm rfl (zm rfl (aE hs cf rfl rfl zo rfl (fun c14 hd14 hb14 => za rfl (zk (j5 (fun (lt : Bool) => [(0, .str s), (3, .int .i64 ((i : Nat) : Int)), (4, .int .u8 ((c14 : Nat) : Int)), (5, .bool lt)]) (fun (lt : Bool) => True) (fun lt hI6 => ?_) (fun hJ6 => ?_))))))))))
  ·refine zr (zm rfl (zq (Q.not rfl rfl) (zm rfl (WO.split (d := 35) rfl (fun hc35 => ?_) (fun hc35 => ?_)))))
   ·refine zT (zm rfl (zT (zq (aa rfl (zi 0) rfl (ai aG)) (zT (zm rfl (aC (d := 38) rfl (fun hc38 => ?_) (fun hc38 => ?_)))))))
    ·refine z2 (zT (zq (aA rfl rfl) (zT (zm rfl (z2 (zT (zq (aA rfl rfl) (zq (aA rfl rfl) (zk (W.sub (zc 46 rfl (zc 0 rfl (zc 3 rfl aI))) (W.condT rfl (zr (za rfl (zk (W.ret (ah (ad (aU (ah (ad (ar (z1 rfl) ?_)))))))))))))))))))))
     exact ⟨_, rfl⟩
    refine zT (zm rfl (zT (zq (aa rfl (zu 48) rfl (bu bY)) (zT (zq (aF rfl rfl) (zT (zm rfl (aC (d := 42) rfl (fun hc42 => ?_) (fun hc42 => ?_)))))))))
    ·refine z2 (zT (zq (aA rfl rfl) (zq (aA rfl rfl) (zk (W.sub (zc 46 rfl (zc 0 rfl (zc 3 rfl aI))) (W.condT rfl (zr (za rfl (zk (W.ret (ah (ad (aU (ah (ad (ar (z1 rfl) ?_))))))))))))))))
     exact ⟨_, rfl⟩
    refine zT (zm rfl (zT (zq (aa rfl (zu 57) rfl (aJ bY)) (zT (zq (aF rfl rfl) (zq (aA rfl rfl) (zk (W.sub (zc 46 rfl (zc 0 rfl (zc 3 rfl aI))) (aB rfl (fun hc46 => ?_) (fun hc46 => ?_))))))))))
    ·refine zr (za rfl (zk (W.ret (ah (ad (aU (ah (ad (ar (z1 rfl) ?_)))))))))
     exact ⟨_, rfl⟩
    refine W.skip (End.KB (End.K (W.reg (zm rfl (zq (aa rfl (zi 1) rfl zp) (za rfl (WO.nil (End.KL (W.sub zv (ih0 (i + 1) ?_ ?_))))))))))
    ·exact zy
    exact zo
   refine z2 (zG (aW rfl rfl (.inr rfl) rfl (aW rfl rfl (.inr rfl) rfl (z2 (aW rfl rfl (.inr rfl) rfl (aW rfl rfl (.inr rfl) rfl (zG (zq (aF rfl rfl) (zk (W.sub (zc 46 rfl (zc 0 rfl (zc 3 rfl aI))) (W.condF rfl (W.skip (End.KB (End.K (W.reg (zm rfl (zq (aa rfl (zi 1) rfl zp) (za rfl (WO.nil (End.KL (W.sub zv (ih0 (i + 1) ?_ ?_))))))))))))))))))))))
   ·exact zy
   exact zo
  refine W.reg (zm rfl (zq (aa rfl (zu 97) rfl (bp bf)) (zm rfl (aC (d := 17) rfl (fun hc17 => ?_) (fun hc17 => ?_)))))
  ·refine zT (zm rfl (zT (zq (aa rfl (zu 122) rfl (aZ bf)) (zq (aA rfl rfl) (zm rfl (aC (d := 21) rfl (fun hc21 => ?_) (fun hc21 => ?_)))))))
   ·refine z2 (zG (aW rfl rfl (.inr rfl) rfl (aW rfl rfl (.inr rfl) rfl (zG (zq (aA rfl rfl) (zm rfl (z2 (zq (aA rfl rfl) (za rfl (WO.nil (End.K (W.sub zv (hJ6 (_) ?_)))))))))))))
    exact trivial
   refine zT (zm rfl (zT (zq (aa rfl (zu 65) rfl (bp bf)) (zT (zm rfl (aC (d := 24) rfl (fun hc24 => ?_) (fun hc24 => ?_)))))))
   ·refine zT (zm rfl (zT (zq (aa rfl (zu 90) rfl (aZ bf)) (zT (zq (aA rfl rfl) (zq (aF rfl rfl) (zm rfl (aC (d := 29) rfl (fun hc29 => ?_) (fun hc29 => ?_)))))))))
    ·refine z2 (zq (aA rfl rfl) (za rfl (WO.nil (End.K (W.sub zv (hJ6 (_) ?_))))))
     exact trivial
    refine zT (zm rfl (zT (zq (aa rfl (zu 95) rfl (ai aG)) (zq (aF rfl rfl) (za rfl (WO.nil (End.K (W.sub zv (hJ6 (_) ?_)))))))))
    exact trivial
   refine z2 (zT (zq (aF rfl rfl) (zq (aF rfl rfl) (zm rfl (zT (zm rfl (zT (zq (aa rfl (zu 95) rfl (ai aG)) (zq (aF rfl rfl) (za rfl (WO.nil (End.K (W.sub zv (hJ6 (_) ?_))))))))))))))
   exact trivial
  refine z2 (zq (aF rfl rfl) (zm rfl (zT (zm rfl (zT (zq (aa rfl (zu 65) rfl (bp bf)) (zT (zm rfl (aC (d := 24) rfl (fun hc24 => ?_) (fun hc24 => ?_))))))))))
  ·refine zT (zm rfl (zT (zq (aa rfl (zu 90) rfl (aZ bf)) (zT (zq (aA rfl rfl) (zq (aF rfl rfl) (zm rfl (aC (d := 29) rfl (fun hc29 => ?_) (fun hc29 => ?_)))))))))
   ·refine z2 (zq (aA rfl rfl) (za rfl (WO.nil (End.K (W.sub zv (hJ6 (_) ?_))))))
    exact trivial
   refine zT (zm rfl (zT (zq (aa rfl (zu 95) rfl (ai aG)) (zq (aF rfl rfl) (za rfl (WO.nil (End.K (W.sub zv (hJ6 (_) ?_)))))))))
   exact trivial
  refine z2 (zT (zq (aF rfl rfl) (zq (aF rfl rfl) (zm rfl (zT (zm rfl (zT (zq (aa rfl (zu 95) rfl (ai aG)) (zq (aF rfl rfl) (za rfl (WO.nil (End.K (W.sub zv (hJ6 (_) ?_))))))))))))))
  exact trivial
 refine W.exit (am (aq (ap (End.K (zr (zm rfl (zq (aa rfl (oc (v := .str []) (by kernel_rfl)) rfl lx) (zm rfl (aC (d := 49) rfl (fun hc49 => ?_) (fun hc49 => ?_))))))))))
 ·refine zT (zm rfl (zT (zq (Q.len cf rfl rfl) (zT (zq (aa rfl (zi 32) rfl (aZ bf)) (zq (aA rfl rfl) (za rfl (zk (W.ret (ar (z1 rfl) ?_))))))))))
  exact ⟨_, rfl⟩
 refine z2 (zG (zq (aF rfl rfl) (za rfl (zk (W.ret (ar (z1 rfl) ?_))))))
 exact ⟨_, rfl⟩

theorem mchk_spec (k : Int) (n u : List Nat) (hn : Bytes n) (hu : Bytes u) (hnl : n.length <= 1048576) (hul : u.length <= 1048576) : Spec tab 92 [.agg [.int .i64 k, .str n, .str u]] [] [] (ij (fun v => ∃ x : Int, v = .int .i64 x)) := by
 refine ac (bz 92 Tryz.func92) rfl (m := 25) rfl (rs := [.tmp 2]) rfl (st := [(0, .agg [.int .i64 k, .str n, .str u])]) rfl rfl (fun _ => rfl) (fun E => zr (WO.box rfl rfl (DU _ rfl) rfl (fun b1 => za (zi 0) (zk (W.seq (zr (zf iM rfl 0 (zq (ag rfl (zt 0 rfl) bH rfl) (zq (aa rfl (zi 1) rfl (bu (bS _ _))) (zm rfl (aC (d := 6) rfl (fun hc6 => ?_) (fun hc6 => ?_))))))))))))
 ·refine z2 (zG (zq (aA rfl rfl) (zk (W.condT rfl (zr (za (zi 2) (zk (W.ret (ad (ar (z1 rfl) ?_))))))))))
  exact ⟨_, rfl⟩
 refine zT (zf iM rfl 0 (zT (zq (ag rfl (zt 0 rfl) bH rfl) (zT (zq (aa rfl (zi 4) rfl (aJ (bS _ _))) (zq (aF rfl rfl) (zk (aB rfl (fun hc10 => ?_) (fun hc10 => ?_)))))))))
 ·refine zr (za (zi 2) (zk (W.ret (ad (ar (z1 rfl) ?_)))))
  exact ⟨_, rfl⟩
 refine zw (W.seq (zr (zf sc rfl 1 (zq (ag rfl (zt 0 rfl) gP rfl) (WO.callE rfl (aj rfl oz) rfl (Cs _ hn zy) SubR.nil rfl (fun v13 hP13 => ?_))))))
 obtain ⟨nb, rfl⟩ := hP13
 refine zq (Q.not rfl rfl) (zk (W.condS rfl (fun hc14 => ?_) (fun hc14 => ?_)))
 ·refine zr (za (zi 8) (zk (W.sub (zc 2 rfl aI) (W.ret (ad (ar (z1 rfl) ?_))))))
  exact ⟨_, rfl⟩
 refine zw (W.sub (zc 1 rfl aI) (W.seq (zr (zf kT rfl 2 (zq (ag rfl (zt 0 rfl) gP rfl) (zq (Q.len cf rfl rfl) (zq (aa rfl (zi 64) rfl (aJ bY)) (zk (aB rfl (fun hc18 => ?_) (fun hc18 => ?_))))))))))
 ·refine zr (za (zi 3) (zk (W.ret (ad (ar (z1 rfl) ?_)))))
  exact ⟨_, rfl⟩
 refine zw (W.seq (zr (zf iM rfl 0 (zq (ag rfl (zt 0 rfl) bH rfl) (zq (aa rfl (zi 2) rfl (aJ (bS _ _))) (zk (aB rfl (fun hc21 => ?_) (fun hc21 => ?_))))))))
 ·refine zr (zf kT rfl 2 (zq (ag rfl (zt 0 rfl) gP rfl) (WO.callE rfl (aj rfl oz) rfl (nx _ hu zy) SubR.nil rfl (fun v24 hP24 => ?_))))
  obtain ⟨x24, rfl, hx24⟩ := hP24
  refine za rfl (zk (W.ret (ad (ar (z1 rfl) ?_))))
  exact ⟨_, rfl⟩
 refine zw (zr (za (zi 0) (zk (W.ret (ar (z1 rfl) ?_)))))
 exact ⟨_, rfl⟩
end Go.Proofs.YtfkbfnpjggkdmaaGreatDoor.Ev.P7
/- The layer's examples hold (lives): what is reckoned. -/
namespace Go.Proofs.YtfkbfnpjggkdmaaGreatDoor.Ev
open Go.RowKit
set_option maxRecDepth 1000000
noncomputable section
def j1 : Tab := lX Tryz.prog
theorem km (J : Ctx) : TabOK Tryz.prog j1 J := HC (by kernel_rfl) (by kernel_rfl)
def v4 : Nat -> List AV -> Option (List AV)
 | f, [.int .i64 e] => match Nat.beq f 88, pV e 0 with
  | true, false => some [.int .i64 e]
  | _, _ => none
 | _, _ => none
def B6 (g : Nat) (caps : List AV) : Bool :=
 match caps with
 | [.ptr _ _, .ptr _ _, .ptr _ _] => Nat.beq g 51
 | _ => false
def uk (tb : Tab) : Nat -> List AV -> List AV -> AHeap -> Option AHeap
 | _, [.ptr a i, .ptr b j, .ptr c k], [e], h => match tb.zero 37 with
  | some z => match eJ tb h 37 a i z with
   | some (_, h1) => match eJ tb h1 3 b j (.int .i64 0) with
    | some (_, h2) => match eJ tb h2 38 c k e with
     | some (_, h3) => some h3
     | none => none
    | none => none
   | none => none
  | none => none
 | _, _, _, _ => none
def jC : XCfg := ⟨v4, B6, uk j1⟩
theorem Cf : vD (A7 jC j1 3000 12 [] ⟨0, .leaf⟩) (.bool true) = true := by kernel_rfl
end
set_option maxRecDepth 100000
noncomputable section
def wY : AV -> Bool
 | .bool _ => true
 | .int _ _ => true
 | .str _ => true
 | _ => false
def qB : AV -> Bool
 | .agg l => l.all wY
 | .tuple l => l.all wY
 | v => wY v
theorem qA {M M' : Inj} {v : AV} {u : Value} (hf : wY v = true) (h : VRel M v u) : VRel M' v u := by
 cases h <;> first | (cases hf; done) | skip
 ·exact .bool _
 ·exact .int _ _
 ·rename_i s l h; exact .str s l h
theorem qC {M M' : Inj} {v : AV} {u : Value} (hf : qB v = true) (h : VRel M v u) : VRel M' v u := by
 cases h with
 | agg l cs hs h => exact .agg l cs hs fun i a b ha hb => qA (List.all_eq_true.1 hf a (List.mem_of_getElem? ha)) (h i a b ha hb)
 | tuple l cs hs h => exact .tuple l cs hs fun i a b ha hb => qA (List.all_eq_true.1 hf a (List.mem_of_getElem? ha)) (h i a b ha hb)
 | bool b => exact .bool b
 | int k n => exact .int k n
 | str s l h => exact .str s l h
 | _ => cases hf
def kD (f : Nat) (args : List AV) : Option AV :=
 match callE P7.tab f args ⟨0, .leaf⟩ with
 | .ok v _ => match args.all qB && qB v with
  | true => some v
  | false => none
 | .bad => none
def orc (f : Nat) (args : List AV) (h : AHeap) : Option AV :=
 match Nat.beq f 12 with
 | true => match args with
  | [] => some (.bool true)
  | _ => none
 | false => match Nat.beq f 92 with
  | true => kD f args
  | false => match Nat.beq f 165 with
   | true => kD f args
   | false => none
def tab : Tab := (lX Tryz.prog).knows (fun _ _ _ _ => none) (fun _ _ => none) orc
theorem BZ : HS ⟨⟨0, .leaf⟩, []⟩ [] ⟨0, .leaf⟩ := ⟨fun e h => (by simp at h), List.nodup_nil, Fr.refl _ _⟩
theorem n6 {f : Nat} {args : List AV} {P : AV -> Prop} (h : Spec P7.tab f args [] [] (ij P)) (ha : args.all qB = true) (hP : ∀ v, P v -> qB v = true) : ∃ v, kD f args = some v /\ P v := by
 obtain ⟨v, h', D, hE, ⟨hv, _⟩, _⟩ := h ⟨0, .leaf⟩ BZ
 refine ⟨v, ?_, hv⟩
 unfold kD
 rw [tp hE]
 simp only [ha, hP v hv, Bool.and_self]
abbrev ed := Int × List Nat × List Nat
def mC (x : ed) : List AV := [.int .i64 x.1, .str x.2.1, .str x.2.2]
def nE (m : ed) : Int := match kD 92 [.agg (mC m)] with
 | some (.int .i64 x) => x
 | _ => 0
def tP (p s : List Nat) : Bool := match kD 165 [.str p, .str s] with
 | some (.tuple [.bool b, _]) => b
 | _ => false
def Du (m : ed) : Prop := Bytes m.2.1 /\ m.2.1.length <= 1048576 /\ Bytes m.2.2 /\ m.2.2.length <= 1048576
theorem tw {hs : af} {m : ed} (h : Du m) : Spec tab 92 [.agg (mC m)] [] hs (bN (.int .i64 (nE m))) := by
 obtain ⟨v, h1, x, rfl⟩ := n6 (P7.mchk_spec m.1 m.2.1 m.2.2 h.1 h.2.2.1 h.2.1 h.2.2.2) rfl (fun v ⟨x, hx⟩ => by subst hx; rfl)
 have e : nE m = x := by
  unfold nE
  rw [show mC m = [.int .i64 m.1, .str m.2.1, .str m.2.2] from rfl, h1]
 rw [e]
 exact kI fun hp => h1
theorem mD {hs : af} {p s : List Nat} (hp : Bytes p) (hl : p.length <= 1048576) (hS : Bytes s) (hsl : s.length <= 1048576) : Spec tab 165 [.str p, .str s] [] hs (ij fun v => ∃ e : Int, v = .tuple [.bool (tP p s), .int .i64 e]) := by
 obtain ⟨v, h1, b, e, rfl⟩ := n6 (P7.rfits_spec p hp hl s hS hsl) rfl (fun v ⟨b, e, hx⟩ => by subst hx; rfl)
 have hb : tP p s = b := by
  unfold tP
  rw [h1]
 rw [hb]
 exact (kI (v := .tuple [.bool b, .int .i64 e]) fun hp => h1).mono fun v D ⟨g1, g2⟩ => ⟨⟨e, g1⟩, g2⟩
theorem Cr (n : Nat) (h : AHeap) (K : Nat) : bQ tab (run tab K) 88 [.int .i64 (Int.ofNat (n + 1))] h = none := by
 rcases K with _ | _ | _ | _ | K <;> kernel_rfl
theorem Cq (n : Nat) (h : AHeap) (K : Nat) : bQ tab (run tab K) 88 [.int .i64 (Int.negSucc n)] h = none := by
 rcases K with _ | _ | _ | _ | K <;> kernel_rfl
instance shyE : Shy jC tab where
 shy := by
  intro f args l ht K h
  obtain ⟨e, hf, ha, he⟩ : ∃ e, f = 88 /\ args = [.int .i64 e] /\ pV e 0 = false := by
   change v4 f args = some l at ht
   unfold v4 at ht
   split at ht
   ·rename_i x
    split at ht
    ·rename_i hf hx
     exact ⟨x, Nat.eq_of_beq_eq_true hf, rfl, hx⟩
    ·cases ht
   ·cases ht
  subst hf ha
  rcases e with (_ | n) | n
  ·exact absurd he (by decide)
  ·exact Cr n h K
  ·exact Cq n h K
theorem gM {hs : af} : Spec tab 88 [.int .i64 0] [] hs (bN (.tuple [])) := by
 intro h hh
 exact ⟨.tuple [], h, [], ⟨4, fun K hK => by obtain ⟨k, rfl⟩ : ∃ k, K = k + 4 := ⟨K - 4, by omega⟩; kernel_rfl⟩, ⟨rfl, rfl⟩, fun e he => sx he, hh.sub (SubH.nil _)⟩
theorem GU {hs : af} (e : Int) : SpecX jC tab 88 [.int .i64 e] [] hs (fun v D => (v = .tuple [] /\ D = []) /\ e = 0) (fun l => l = [.int .i64 e] /\ e ≠ 0) := by
 by_cases h : e = 0
 ·subst h
  exact (Spec.x gM).mono (B := fun _ => False) (fun v D h => ⟨h, rfl⟩) fun l h => h.elim
 ·refine SpecX.thr (fun _ => rfl) (l := [.int .i64 e]) ?_ ⟨rfl, h⟩
  have : pV e 0 = false := by rw [gU]; exact decide_eq_false h
  show (match Nat.beq 88 88, pV e 0 with
   | true, false => some [AV.int IntKind.i64 e]
   | _, _ => none) = some [.int .i64 e]
  rw [this]
end
section
variable {α : Type} (f g : α -> AV)
def c2 (L : List α) : List AV := L.flatMap fun x => [f x, g x]
theorem ly (x : α) (L : List α) : c2 f g (x :: L) = f x :: g x :: c2 f g L := rfl
theorem AW (L : List α) : (c2 f g L).length = L.length * 2 := by
 induction L with
 | nil => rfl
 | cons x L ih => rw [ly, List.length_cons, List.length_cons, ih, List.length_cons]; omega
theorem iV (L M : List α) : c2 f g (L ++ M) = c2 f g L ++ c2 f g M := by unfold c2; rw [List.flatMap_append]
theorem iG {d : α} : ∀ (L : List α) (i : Nat), i < L.length -> (c2 f g L)[i * 2]? = some (f (L.getD i d)) /\ (c2 f g L)[i * 2 + 1]? = some (g (L.getD i d))
 | x :: L, 0, _ => ⟨rfl, rfl⟩
 | x :: L, i + 1, h => by
  have := iG (d := d) L i (by simpa using h)
  have e : (i + 1) * 2 = i * 2 + 1 + 1 := by omega
  rw [ly, e]
  exact this
theorem DX (L : List α) (i : Nat) : c2 f g (L.drop i) = (c2 f g L).drop (i * 2) := by
 induction i generalizing L with
 | zero => simp
 | succ i ih =>
  cases L with
  | nil => simp [c2]
  | cons x L =>
   rw [List.drop_succ_cons, ih, ly, show (i + 1) * 2 = i * 2 + 1 + 1 by omega]
   rfl
theorem DY (L : List α) (i : Nat) : c2 f g (L.take i) = (c2 f g L).take (i * 2) := by
 induction i generalizing L with
 | zero => simp [c2]
 | succ i ih =>
  cases L with
  | nil => simp [c2]
  | cons x L =>
   rw [List.take_succ_cons, ly, ly, ih, show (i + 1) * 2 = i * 2 + 1 + 1 by omega]
   rfl
end
abbrev bP := Int × Int
abbrev cS (S : List bP) : List AV := c2 (fun x : bP => .int .i64 x.1) (fun x : bP => .int .i64 x.2) S
def sg (S : List bP) (i : Nat) : bP := S.getD i (0, 0)
theorem oJ (S : List bP) : (cS S).length = S.length * 2 := AW _ _ S
theorem A4 {S : List bP} {a b : Nat} (h : a + b < S.length) : dy (cS S) ((a + b) * 2) 2 = some [.int .i64 (sg S (a + b)).1, .int .i64 (sg S (a + b)).2] := by
 obtain ⟨h1, h2⟩ := iG (d := ((0, 0) : bP)) (fun x : bP => .int .i64 x.1) (fun x : bP => .int .i64 x.2) S (a + b) h
 exact C3 h1 h2
theorem na {S : List bP} {a b : Nat} (h : a + b < S.length) : (cS S)[(a + b) * 2 + 0]? = some (.int .i64 (sg S (a + b)).1) := (iG (d := ((0, 0) : bP)) (fun x : bP => .int .i64 x.1) (fun x : bP => .int .i64 x.2) S (a + b) h).1
theorem Ik {S : List bP} {a b : Nat} (h : a + b < S.length) : (cS S)[(a + b) * 2 + 1]? = some (.int .i64 (sg S (a + b)).2) := (iG (d := ((0, 0) : bP)) (fun x : bP => .int .i64 x.1) (fun x : bP => .int .i64 x.2) S (a + b) h).2
def SIn (hs : af) (S : List bP) (v : AV) : Prop := (v = .nils /\ S = []) \/ ∃ b sz ex, v = .slice b 0 S.length 2 /\ MemH hs b ⟨sz, ex, cS S⟩
theorem SIn.mono {hs hs' : af} {S : List bP} {v : AV} (hm : ∀ b o, MemH hs b o -> MemH hs' b o) (h : SIn hs S v) : SIn hs' S v := h.imp id fun ⟨b, sz, ex, h1, h2⟩ => ⟨b, sz, ex, h1, hm _ _ h2⟩
theorem SIn.len {hs : af} {S : List bP} {v : AV} {e : Nat} (h : SIn hs S v) : iN (.slice e) v = some S.length := by
 rcases h with ⟨rfl, rfl⟩ | ⟨b, sz, ex, rfl, _⟩ <;> rfl
theorem SIn.full {hs : af} {S : List bP} {v : AV} (h : SIn hs S v) (hl : 0 < S.length) : ∃ b sz ex, v = .slice b 0 S.length 2 /\ MemH hs b ⟨sz, ex, cS S⟩ := by
 rcases h with ⟨_, rfl⟩ | h
 ·simp at hl
 ·exact h
theorem SIn.cell {hs : af} {S : List bP} {v : AV} (h : SIn hs S v) : v.isCell = true := by
 rcases h with ⟨rfl, _⟩ | ⟨b, sz, ex, rfl, _⟩ <;> rfl
theorem SIn.bq {hs : af} {S : List bP} {v : AV} (h : SIn hs S v) : v.beq v = true := by
 rcases h with ⟨rfl, _⟩ | ⟨b, sz, ex, rfl, _⟩
 ·rfl
 ·simp [AV.beq, dG, dF, d6]
theorem DA {hs : af} {S : List bP} {v : AV} (h : SIn hs S v) : Src hs 2 v S.length (cS S) := by
 rcases h with ⟨rfl, rfl⟩ | ⟨b, sz, ex, rfl, hm⟩
 ·exact Src.nils
 ·exact Src.all hm (oJ S)
theorem SIn.own {S : List bP} {v : AV} {hp : af} (h : OwnE 2 (cS S) S.length v hp) : SIn hp S v := by
 rcases h with ⟨h0, _, rfl, rfl⟩ | ⟨b, ex, rfl, rfl, _⟩
 ·exact .inl ⟨rfl, List.eq_nil_of_length_eq_zero h0⟩
 ·exact .inr ⟨b, 2, ex, rfl, true, List.mem_singleton.2 rfl⟩
theorem LIn.bq {hs : af} {l : List bA} {v : AV} (h : LIn hs l v) : v.beq v = true := by
 rcases h with ⟨rfl, _⟩ | ⟨b, sz, ex, rfl, _⟩
 ·rfl
 ·simp [AV.beq, dG, dF, d6]
theorem LIn.own {l : List bA} {v : AV} {hp : af} (h : OwnE 2 (cL l) l.length v hp) : LIn hp l v := by
 rcases h with ⟨h0, _, rfl, rfl⟩ | ⟨b, ex, rfl, rfl, _⟩
 ·exact .inl ⟨rfl, List.eq_nil_of_length_eq_zero h0⟩
 ·exact .inr ⟨b, 2, ex, rfl, true, List.mem_singleton.2 rfl⟩
def SBd (S : List bP) : Prop := S.length <= 1048576
abbrev bV := AV × List bA × AV × List bP
abbrev cR (R : List bV) : List AV := c2 (fun x : bV => x.1) (fun x : bV => x.2.2.1) R
def CO : bV := (.nils, [], .nils, [])
def rg (R : List bV) (i : Nat) : bV := R.getD i CO
theorem A3 (R : List bV) : (cR R).length = R.length * 2 := AW _ _ R
theorem wJ {R : List bV} {a b : Nat} (h : a + b < R.length) : dy (cR R) ((a + b) * 2) 2 = some [(rg R (a + b)).1, (rg R (a + b)).2.2.1] := by
 obtain ⟨h1, h2⟩ := iG (d := CO) (fun x : bV => x.1) (fun x : bV => x.2.2.1) R (a + b) h
 exact C3 h1 h2
theorem qm {R : List bV} {a b : Nat} (h : a + b < R.length) : (cR R)[(a + b) * 2 + 0]? = some (rg R (a + b)).1 := (iG (d := CO) (fun x : bV => x.1) (fun x : bV => x.2.2.1) R (a + b) h).1
theorem oI {R : List bV} {a b : Nat} (h : a + b < R.length) : (cR R)[(a + b) * 2 + 1]? = some (rg R (a + b)).2.2.1 := (iG (d := CO) (fun x : bV => x.1) (fun x : bV => x.2.2.1) R (a + b) h).2
theorem eZ {R : List bV} {i : Nat} (h : i < R.length) : rg R i ∈ R := by
 unfold rg
 rw [List.getD_eq_getElem?_getD, List.getElem?_eq_getElem h]
 exact List.getElem_mem h
def RSl (hs : af) (R : List bV) (i : Nat) (v : AV) : Prop := (v = .nils /\ R = []) \/ ∃ b sz ex, v = .slice b i (R.length - i) 2 /\ MemH hs b ⟨sz, ex, cR R⟩
def RAll (hs : af) (R : List bV) : Prop := ∀ x ∈ R, LIn hs x.2.1 x.1 /\ SIn hs x.2.2.2 x.2.2.1
def kp (R : List bV) : Prop := R.length <= 1048576 /\ ∀ x ∈ R, LBd x.2.1 /\ SBd x.2.2.2
theorem RSl.mono {hs hs' : af} {R : List bV} {i : Nat} {v : AV} (hm : ∀ b o, MemH hs b o -> MemH hs' b o) (h : RSl hs R i v) : RSl hs' R i v := h.imp id fun ⟨b, sz, ex, h1, h2⟩ => ⟨b, sz, ex, h1, hm _ _ h2⟩
theorem RAll.mono {hs hs' : af} {R : List bV} (hm : ∀ b o, MemH hs b o -> MemH hs' b o) (h : RAll hs R) : RAll hs' R := fun x hx => ⟨(h x hx).1.mono hm, (h x hx).2.mono hm⟩
theorem RSl.len {hs : af} {R : List bV} {i : Nat} {v : AV} {e : Nat} (h : RSl hs R i v) : iN (.slice e) v = some (R.length - i) := by
 rcases h with ⟨rfl, rfl⟩ | ⟨b, sz, ex, rfl, _⟩
 ·simp [iN]
 ·rfl
theorem RSl.full {hs : af} {R : List bV} {i : Nat} {v : AV} (h : RSl hs R i v) (hl : 0 < R.length - i) : ∃ b sz ex, v = .slice b i (R.length - i) 2 /\ MemH hs b ⟨sz, ex, cR R⟩ := by
 rcases h with ⟨_, rfl⟩ | h
 ·simp at hl
 ·exact h
theorem RSl.next {hs : af} {R : List bV} {i b sz : Nat} {ex : Bool} (w : Bool) (h : (⟨b, ⟨sz, ex, cR R⟩, w⟩ : HE) ∈ hs) : RSl hs R (i + 1) (.slice b (i + 1) (R.length - i - 1) 2) := .inr ⟨b, sz, ex, by rw [Nat.sub_sub], w, h⟩
theorem RSl.cell {hs : af} {R : List bV} {i : Nat} {v : AV} (h : RSl hs R i v) : v.isCell = true := by
 rcases h with ⟨rfl, _⟩ | ⟨b, sz, ex, rfl, _⟩ <;> rfl
theorem RSl.own {R : List bV} {v : AV} {hp : af} (h : OwnE 2 (cR R) R.length v hp) : RSl hp R 0 v := by
 rcases h with ⟨h0, _, rfl, rfl⟩ | ⟨b, ex, rfl, rfl, _⟩
 ·exact .inl ⟨rfl, List.eq_nil_of_length_eq_zero h0⟩
 ·exact .inr ⟨b, 2, ex, rfl, true, List.mem_singleton.2 rfl⟩
theorem MemH.ap1 {A B : af} {b : Nat} {o : AObj} (h : MemH A b o) : MemH (A ++ B) b o := let ⟨w, g⟩ := h; ⟨w, List.mem_append_left _ g⟩
def aV (R : List bV) : List (List bA × List bP) := R.map fun x => (x.2.1, x.2.2.2)
def qP (l : List ed) : List AV := l.flatMap mC
def mg (M : List ed) (i : Nat) : ed := M.getD i (0, [], [])
theorem pp (t : ed) : (mC t).length = 3 := rfl
theorem pq (t : ed) (L : List ed) : qP (t :: L) = mC t ++ qP L := by simp [qP]
theorem nY : ∀ L : List ed, (qP L).length = L.length * 3
 | [] => rfl
 | t :: L => by rw [pq, List.length_append, pp, nY L, List.length_cons]; omega
theorem yi : ∀ (L : List ed) (i j : Nat), i < L.length -> j < 3 -> (qP L)[i * 3 + j]? = (mC (mg L i))[j]?
 | [], i, j, h, _ => by simp at h
 | t :: L, 0, j, h, hj => by
  rw [pq, List.getElem?_append_left (by rw [pp]; omega)]
  simp [mg]
 | t :: L, i + 1, j, h, hj => by
  rw [pq, List.getElem?_append_right (by rw [pp]; omega), pp]
  have : (i + 1) * 3 + j - 3 = i * 3 + j := by omega
  rw [this, yi L i j (by simpa using h) hj]
  rfl
theorem IY {L : List ed} {i : Nat} (h : i < L.length) : dy (qP L) ((0 + i) * 3) 3 = some (mC (mg L i)) := by
 unfold dy
 have hle : Nat.ble ((0 + i) * 3 + 3) (qP L).length = true := by rw [nY]; apply Nat.ble_eq.mpr; omega
 simp only [hle]
 congr 1
 apply List.ext_getElem?
 intro j
 rw [List.getElem?_take, List.getElem?_drop]
 split
 ·rename_i hj
  rw [Nat.zero_add, yi L i j h hj]
 ·rw [List.getElem?_eq_none (by rw [pp]; omega)]
def ISm (hs : af) (M : List ed) (v : AV) : Prop := (v = .nils /\ M = []) \/ ∃ b sz ex, v = .slice b 0 M.length 3 /\ MemH hs b ⟨sz, ex, qP M⟩
theorem ISm.mono {hs hs' : af} {M : List ed} {v : AV} (hm : ∀ b o, MemH hs b o -> MemH hs' b o) (h : ISm hs M v) : ISm hs' M v := h.imp id fun ⟨b, sz, ex, h1, h2⟩ => ⟨b, sz, ex, h1, hm _ _ h2⟩
theorem sm {hs : af} {M : List ed} {v : AV} {e : Nat} (h : ISm hs M v) : iN (.slice e) v = some M.length := by
 rcases h with ⟨rfl, rfl⟩ | ⟨b, sz, ex, rfl, _⟩ <;> rfl
theorem tU {hs : af} {M : List ed} {v : AV} (h : ISm hs M v) (hl : 0 < M.length) : ∃ b sz ex, v = .slice b 0 M.length 3 /\ MemH hs b ⟨sz, ex, qP M⟩ := by
 rcases h with ⟨_, rfl⟩ | h
 ·simp at hl
 ·exact h
theorem ISm.cell {hs : af} {M : List ed} {v : AV} (h : ISm hs M v) : v.isCell = true := by
 rcases h with ⟨rfl, _⟩ | ⟨b, sz, ex, rfl, _⟩ <;> rfl
theorem Dz {hs : af} {M : List ed} {v : AV} (h : ISm hs M v) : Src hs 3 v M.length (qP M) := by
 rcases h with ⟨rfl, rfl⟩ | ⟨b, sz, ex, rfl, hm⟩
 ·exact Src.nils
 ·exact Src.all hm (nY M)
def nB (M : List ed) : Prop := M.length <= 1048576 /\ ∀ x ∈ M, Du x
theorem Cn {M : List ed} (h : nB M) {i : Nat} (hi : i < M.length) : Du (mg M i) := by
 refine h.2 _ ?_
 unfold mg
 rw [List.getD_eq_getElem?_getD, List.getElem?_eq_getElem hi]
 exact List.getElem_mem hi
def gt (l : List bA) (n : List Nat) : List Nat := match l with
 | [] => []
 | x :: l => if x.1 = n then x.2 else gt l n
noncomputable def fitB (m : ed) (l : List bA) : Bool := if nE m ≠ 0 then false else if m.1 < 3 then (decide (gt l m.2.1 = m.2.2)) == (decide (m.1 = 1)) else tP m.2.2 (gt l m.2.1) == decide (m.1 = 3)
noncomputable def jB (M : List ed) (l : List bA) : Bool := M.all fun m => fitB m l
noncomputable def Gb : List ed -> Int -> Int
 | [], e => e
 | m :: M, e => if nE m ≠ 0 then nE m else Gb M e
noncomputable def uF (M : List ed) : Int := if 8 < M.length then 3 else Gb M (if jB M [] = true then 2 else 0)
theorem yk {M : List ed} {i : Nat} (h : i < M.length) : M.drop i = mg M i :: M.drop (i + 1) := by
 rw [List.drop_eq_getElem_cons h]
 unfold mg
 rw [List.getD_eq_getElem?_getD, List.getElem?_eq_getElem h]; rfl
theorem qE {l : List bA} {i : Nat} {n : List Nat} (h : i < l.length) : gt (l.drop i) n = if (lg l i).1 = n then (lg l i).2 else gt (l.drop (i + 1)) n := by
 rw [List.drop_eq_getElem_cons h]
 unfold lg
 rw [List.getD_eq_getElem?_getD, List.getElem?_eq_getElem h]; rfl
theorem BV {l : List bA} {i : Nat} {n : List Nat} (h : l.length <= i) : gt (l.drop i) n = [] := by
 rw [List.drop_eq_nil_of_le h]; rfl
theorem sf {l : List bA} {n : List Nat} (h : LBd l) : Bytes (gt l n) /\ (gt l n).length <= 1048576 := by
 have main : ∀ l : List bA, (∀ x ∈ l, Bytes x.1 /\ Bytes x.2 /\ x.1.length <= 1048576 /\ x.2.length <= 1048576) -> Bytes (gt l n) /\ (gt l n).length <= 1048576 := by
  intro l
  induction l with
  | nil => intro _; exact ⟨fun c hc => by simp [gt] at hc, by simp [gt]⟩
  | cons x l ih =>
   intro h
   unfold gt
   split
   ·have := h x List.mem_cons_self; exact ⟨this.2.1, this.2.2.2⟩
   ·exact ih fun y hy => h y (List.mem_cons_of_mem _ hy)
 exact main l h.2
theorem uS : tab.isAgg 22 = some false := by kernel_rfl
theorem bH : tab.isAgg 3 = some false := by kernel_rfl
theorem FV : tab.isAgg 62 = some true := by kernel_rfl
theorem jA : tab.isAgg 63 = some false := by kernel_rfl
theorem l8 : tab.isAgg 66 = some false := by kernel_rfl
theorem AC : tab.isAgg 68 = some true := by kernel_rfl
theorem p4 : tab.isAgg 70 = some true := by kernel_rfl
theorem DI : tab.isAgg 72 = some true := by kernel_rfl
theorem gP : tab.isAgg 9 = some false := by kernel_rfl
theorem FW : tab.isAgg 93 = some false := by kernel_rfl
theorem JP : tab.isAgg 95 = some true := by kernel_rfl
theorem FX : AO tab 68 = some ⟨2, true, [.nils, .nils]⟩ := by kernel_rfl
theorem yS : AO tab 70 = some ⟨2, true, [.str [], .str []]⟩ := by kernel_rfl
theorem ln : AP tab 22 22 = some 2 := by kernel_rfl
theorem lp : AP tab 63 63 = some 2 := by kernel_rfl
theorem rE : AP tab 66 66 = some 2 := by kernel_rfl
theorem DU : ∀ l : List AV, l.length = 3 -> bk tab 62 l = ⟨3, true, l⟩ := by intro l h; exact aX (by kernel_rfl) h
theorem DW : ∀ l : List AV, l.length = 2 -> bk tab 70 l = ⟨2, true, l⟩ := by intro l h; exact aX (by kernel_rfl) h
theorem Ih : ∀ l : List AV, l.length = 2 -> bk tab 95 l = ⟨2, true, l⟩ := by intro l h; exact aX (by kernel_rfl) h
theorem iM : FA tab 62 0 = some (0, 0 + 1) := by kernel_rfl
theorem sc : FA tab 62 1 = some (1, 0 + 1) := by kernel_rfl
theorem kT : FA tab 62 2 = some (2, 0 + 1) := by kernel_rfl
theorem jJ : FA tab 68 0 = some (0, 0 + 1) := by kernel_rfl
theorem jm : FA tab 68 1 = some (1, 0 + 1) := by kernel_rfl
theorem fw : FA tab 70 0 = some (0, 0 + 1) := by kernel_rfl
theorem gX : FA tab 70 1 = some (1, 0 + 1) := by kernel_rfl
theorem fX : FA tab 72 0 = some (0, 0 + 1) := by kernel_rfl
theorem vC : FA tab 95 0 = some (0, 0 + 1) := by kernel_rfl
theorem Gp : FA tab 95 1 = some (1, 0 + 1) := by kernel_rfl
theorem He : PL tab 68 [.nils, .nils] [(0, 1), (1, 1)] = true := by kernel_rfl
theorem J7 : PL tab 95 [.nils, .nils] [(0, 1), (1, 1)] = true := by kernel_rfl
theorem Fb : tab.size 22 = some 1 := by kernel_rfl
theorem dn : tab.size 3 = some 1 := by kernel_rfl
theorem vY : tab.size 62 = some 3 := by kernel_rfl
theorem fk : tab.size 68 = some 2 := by kernel_rfl
theorem eo : tab.size 70 = some 2 := by kernel_rfl
theorem ik : tab.size 72 = some 2 := by kernel_rfl
theorem Kg : tab.size 95 = some 2 := by kernel_rfl
theorem dA : tab.und 22 = some (.slice 68) := by kernel_rfl
theorem aP : tab.und 25 = some (.slice 3) := by kernel_rfl
theorem Jy : tab.und 4 = some .bool := by kernel_rfl
theorem v8 : tab.und 49 = some (.slice 62) := by kernel_rfl
theorem cW : tab.und 63 = some (.slice 70) := by kernel_rfl
theorem fm : tab.und 66 = some (.slice 72) := by kernel_rfl
theorem cf : tab.und 9 = some .string := by kernel_rfl
theorem Fi : tab.und 93 = some (.slice 22) := by kernel_rfl
theorem Kj : tab.zero 22 = some (.nils) := by kernel_rfl
theorem sS : tab.zero 3 = some (.int .i64 0) := by kernel_rfl
theorem Dl : tab.zero 68 = some (.agg [.nils, .nils]) := by kernel_rfl
theorem Dm : tab.zero 70 = some (.agg [.str [], .str []]) := by kernel_rfl
theorem HN : tab.zero 72 = some (.agg [.int .i64 0, .int .i64 0]) := by kernel_rfl
end Go.Proofs.YtfkbfnpjggkdmaaGreatDoor.Ev
