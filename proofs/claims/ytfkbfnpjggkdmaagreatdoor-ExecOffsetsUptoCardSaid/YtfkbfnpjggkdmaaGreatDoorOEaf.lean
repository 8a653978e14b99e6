/- ExecOffsets, as a walk. -/
import Derived.Test.YtfkbfnpjggkdmaaGreatDoorOEae
namespace Go.Proofs.YtfkbfnpjggkdmaaGreatDoor.Ev
open Go.RowKit
set_option maxRecDepth 100000
set_option maxHeartbeats 1000000
theorem WO.box1 {tb : Tab} {n : Nat} {E : Env} {s : St} {hs : HSt} {R : T AV → AHeap → Prop} {ops rest : List Oper} {d : Nat} {t : TypeId} {ty : TypeId} {pos : String} {aft : Array Edge} {ox : Operand} {v : AV} {ob : AObj} (hx : oL s ox = some v) (hc : v.isCell = true) (ho : varObj tb t [v] = ob) (hd : Nat.blt d n = true)
  (hk : ∀ b, WO tb n ops rest E ((d, .ptr b 0) :: s) (⟨b, ob, true⟩ :: hs) R) : WO tb n ops (⟨some d, .box t ox, ty, pos, aft, none⟩ :: rest) E s hs R :=
 WO.box hx (by rw [cells_of hc]; simp [hc]) (by rw [cells_of hc]; exact ho) hd hk
theorem thr_two {f : Nat} {a b : AV} {l : List AV} : xcfg.thr f (a :: b :: l) = none := by
 rw [show xcfg.thr = thrX from rfl]
 unfold thrX
 split
 ·rename_i h; cases h
 ·rfl
theorem lives_spec : Spec tab 12 [] [] [] (Val (.bool true)) := Spec.known fun _ => rfl
theorem open3 {K S GA GB : HSt} {a b : HE} : SubH (a :: b :: (K ++ ((S ++ GA) ++ GB))) ((GB ++ [b]) ++ (K ++ (S ++ (GA ++ [a])))) := gc
theorem momC_mem {L : List (List Lab × List Smp)} {e : Int} {x : List Lab × Int} (h : x ∈ momC L e) : ∃ y ∈ L, x.1 = y.1 := by
 obtain ⟨y, hy, g⟩ := List.mem_filterMap.1 h
 cases hi : insO y.2 e with
 | none => rw [hi] at g; cases g
 | some s => rw [hi] at g; cases g; exact ⟨y, hy, rfl⟩
theorem selS_mem {M : List MtT} {lo hi : Int} {L : List (List Lab × List Smp)} {x : List Lab × List Smp} (h : x ∈ selS M lo hi L) : ∃ y ∈ L, x.1 = y.1 := by
 unfold selS at h
 split at h
 ·simp at h
 ·unfold selR at h
  obtain ⟨z, hz, e⟩ := List.mem_filterMap.1 h
  split at e
  ·simp only [Option.some.injEq] at e
   exact ⟨z, hz, by rw [← e]⟩
  ·cases e
theorem selS_len {M : List MtT} {lo hi : Int} {L : List (List Lab × List Smp)} : (selS M lo hi L).length ≤ L.length := by
 unfold selS
 split
 ·exact Nat.zero_le _
 ·exact List.length_filterMap_le _ _
theorem told_bd {M : List MtT} {lo hi e : Int} {R : List Ser} {O : List El} (hb : RBd R) (h : O.map (·.2) = momC (selS M lo hi (conR R)) e) : EBd O := by
 refine ⟨?_, fun x hx => ?_⟩
 ·have h1 : O.length = (momC (selS M lo hi (conR R)) e).length := by rw [← h, List.length_map]
  have h2 : (momC (selS M lo hi (conR R)) e).length ≤ (selS M lo hi (conR R)).length := List.length_filterMap_le _ _
  have h3 : (selS M lo hi (conR R)).length ≤ (conR R).length := selS_len
  have h4 : (conR R).length = R.length := List.length_map _
  have := hb.1
  omega
 ·have hm : x.2 ∈ momC (selS M lo hi (conR R)) e := by rw [← h]; exact List.mem_map.2 ⟨x, hx, rfl⟩
  obtain ⟨y, hy, e1⟩ := momC_mem hm
  obtain ⟨z, hz, e2⟩ := selS_mem hy
  obtain ⟨r, hr, rfl⟩ := List.mem_map.1 hz
  rw [e1, e2]
  exact (hb.2 r hr).1
theorem RunR.two {R : List Ser} {M : List MtT} {ca : Int} {t t' : Nat} {lo hi e0 : Int} {cells cells' : List AV} {n n' : Nat} {e e' : Int} {G G' : HSt} (hb : RBd R) (h : RunR t ca (momC (selS M lo hi (conR R)) e0) cells n e G) (h' : RunR t' ca (momC (selS M lo hi (conR R)) e0) cells' n' e' G') :
  (e = e' ∧ e ≠ 0 ∧ n = 0 ∧ n' = 0) ∨ (e = 0 ∧ e' = 0 ∧ n = 1 ∧ n' = 1 ∧ ∃ (evA : AV) (OA : List El) (evB : AV) (OB : List El), cells = [.int .i64 ((t : Nat) : Int), .int .i64 0, evA] ∧ cells' = [.int .i64 ((t' : Nat) : Int), .int .i64 0, evB] ∧ EIn G OA evA ∧ EAll G OA ∧ EBd OA ∧ EIn G' OB evB ∧ EAll G' OB ∧ EBd OB ∧ OA.map (·.2) = OB.map (·.2)) := by
 rcases h with ⟨a1, a2, a3⟩ | ⟨a1, a2, a3, ev, O, a4, a5, a6, a7⟩ <;> rcases h' with ⟨b1, b2, b3⟩ | ⟨b1, b2, b3, ev', O', b4, b5, b6, b7⟩
 ·exact .inl ⟨by rw [a2, b2], a1, a3, b3⟩
 ·exact absurd b2 (by rw [← a2]; exact a1)
 ·exact absurd a2 (by rw [← b2]; exact b1)
 ·exact .inr ⟨a1, b1, a3, b3, ev, O, ev', O', a4, b4, a5, a6, told_bd hb a7, b5, b6, told_bd hb b7, by rw [a7, b7]⟩
theorem bx22 : ∀ l : List AV, l.length = 1 → varObj tab 22 l = ⟨1, true, l⟩ := by intro l h; exact varObj_plain (by kernel_rfl) h
theorem fa59_2 : FA tab 59 2 = some (2, 0 + 1) := by kernel_rfl
theorem pl24 : PL tab 24 [.int .i64 0, .int .i64 0, .int .i64 0, .int .i64 0] [(0, 1), (1, 1), (2, 1), (3, 1)] = true := by kernel_rfl
theorem pl53 : PL tab 53 [.int .i64 0, .str [], .int .i64 0, .nils, .int .i64 0, .int .i64 0, .int .i64 0, .nils, .int .i64 0, .bool false, .nils] [(0, 1), (1, 1), (2, 1), (3, 1), (4, 1), (5, 1), (6, 1), (7, 1), (8, 1), (9, 1), (10, 1)] = true := by kernel_rfl
theorem pl55 : PL tab 55 [.int .i64 0, .str [], .int .i64 0, .nils, .int .i64 0, .int .i64 0, .int .i64 0, .nils, .int .i64 0, .bool false, .nils, .nils] [(0, 11), (11, 1)] = true := by kernel_rfl
theorem zr55 : tab.zero 55 = some (.agg [.int .i64 0, .str [], .int .i64 0, .nils, .int .i64 0, .int .i64 0, .int .i64 0, .nils, .int .i64 0, .bool false, .nils, .nils]) := by kernel_rfl
theorem srcf_spec (v : AV) (hv : v.isCell = true) : Spec tab 17 [v] [] [] (fun u D => ∃ (bx : Nat) (x : Bool), u = .func 34 [.ptr bx 0] ∧ D = [⟨bx, ⟨1, x, [v]⟩, true⟩]) := by
 refine Spec.en (ftg 17 Tryz.func17) rfl (m := 4) rfl (rs := [.tmp 2]) rfl (st := [(0, v)]) rfl rfl (fun _ => rfl) (fun E => ?_)
 refine W.seq ?_
 refine W.reg ?_
 refine WO.box1 rfl hv (bx22 _ rfl) rfl (fun b1 => ?_)
 refine WO.q (Q.assign rfl) rfl ?_
 refine WO.nil ?_
 refine End.K ?_
 refine W.seq ?_
 refine W.reg ?_
 refine WO.q (Q.makeF (oLc rfl oz)) rfl ?_
 refine WO.q (Q.assign rfl) rfl ?_
 refine WO.nil ?_
 refine End.K ?_
 refine W.ret ?_
 refine End.ret (ResL.tmp rfl ResL.nil) (hs' := [⟨b1, ⟨1, true, [v]⟩, true⟩]) ⟨b1, true, rfl, rfl⟩ ww_all (SubH.refl _)

theorem offs_spec (hs : HSt) (hro : ∀ e ∈ hs, e.w = false) (R : List Ser) (v : AV) (hR : RSl hs R 0 v) (hRA : RAll hs R) (hRb : RBd R) (M : List MtT) (vm : AV) (hM : ISm hs M vm) (hok : MOk M) (ti di : Int) : SpecX xcfg tab 5 [vm, v, .int .i64 ti, .int .i64 di] [] hs (fun u D => u = .bool true ∧ D = []) (fun _ => False) := by
 refine SpecX.enter (ftg 5 Tryz.func5) rfl (m := 115) rfl (rs := [.tmp 8]) rfl (st := [(0, vm), (1, v), (2, .int .i64 ti), (3, .int .i64 di)]) rfl rfl (fun _ => rfl) thr_two (fun E => ?_)
 refine Ev.X.seq ?_
 refine Ev.X.w (W.reg ?_)
 refine WO.q (Q.assign rfl) rfl ?_
 refine WO.nil ?_
 refine XEnd.K ?_
 refine Ev.X.seq ?_
 refine Ev.X.seq ?_
 refine Ev.X.w (W.reg ?_)
 refine WO.q (Q.move rfl) rfl ?_
 refine WO.callE rfl (oLc rfl oz) rfl (rchk_spec hs hro R v hR hRA hRb) (SubR.s hro) rfl (fun v16 hP16 => ?_)
 obtain ⟨ce, rfl⟩ := hP16
 refine WO.q (Q.bin rfl (oc (v := .int .i64 ((0 : Nat) : Int)) rfl) rfl (bv_neq ne_int)) rfl ?_
 refine WO.q (Q.move rfl) rfl ?_
 refine WO.sD (d := 18) rfl (fun hc18 => ?_) (fun hc18 => ?_)
 ·skip -- t
  refine WO.gF rfl rfl (.inl rfl) rfl ?_
  refine WO.gF rfl rfl (.inl rfl) rfl ?_
  refine WO.q (Q.pT rfl rfl) rfl ?_
  refine WO.q (Q.move rfl) rfl ?_
  refine WO.gF rfl rfl (.inl rfl) rfl ?_
  refine WO.gF rfl rfl (.inl rfl) rfl ?_
  refine WO.q (Q.pT rfl rfl) rfl ?_
  refine WO.q (Q.move rfl) rfl ?_
  refine WO.gF rfl rfl (.inl rfl) rfl ?_
  refine WO.gF rfl rfl (.inl rfl) rfl ?_
  refine WO.gF rfl rfl (.inl rfl) rfl ?_
  refine WO.q (Q.pT rfl rfl) rfl ?_
  refine WO.q (Q.move rfl) rfl ?_
  refine WO.gF rfl rfl (.inl rfl) rfl ?_
  refine WO.gF rfl rfl (.inl rfl) rfl ?_
  refine WO.q (Q.pT rfl rfl) rfl ?_
  refine WO.q (Q.move rfl) rfl ?_
  refine WO.gF rfl rfl (.inl rfl) rfl ?_
  refine WO.gF rfl rfl (.inl rfl) rfl ?_
  refine WO.gF rfl rfl (.inl rfl) rfl ?_
  refine WO.q (Q.pT rfl rfl) rfl ?_
  refine WO.q (Q.move rfl) rfl ?_
  refine WO.gF rfl rfl (.inl rfl) rfl ?_
  refine WO.gF rfl rfl (.inl rfl) rfl ?_
  refine WO.gF rfl rfl (.inl rfl) rfl ?_
  refine WO.q (Q.pT rfl rfl) rfl ?_
  refine WO.nil ?_
  refine XEnd.K ?_
  refine Ev.X.sub (SubS.cons (k := 44) rfl (SubS.cons (k := 0) rfl (SubS.cons (k := 1) rfl (SubS.cons (k := 2) rfl (SubS.cons (k := 3) rfl (SubS.nil _)))))) ?_
  refine Ev.X.condT rfl ?_
  refine Ev.X.seq ?_
  refine Ev.X.w (W.reg ?_)
  refine WO.cV rfl oz rfl lives_spec SubR.nil rfl ?_
  refine WO.q (Q.assign rfl) rfl ?_
  refine WO.nil ?_
  refine XEnd.K ?_
  refine Ev.X.ret ?_
  refine XEnd.K_ret (XEnd.ret (ResL.tmp rfl ResL.nil) (hs' := []) ⟨rfl, rfl⟩ no_wl (SubH.nil _))
 ·skip -- f
  refine WO.gT rfl rfl ?_
  refine WO.q (Q.move rfl) rfl ?_
  refine WO.gT rfl rfl ?_
  refine WO.q (Q.bin rfl (oc (v := .int .i64 ((0 : Nat) : Int)) rfl) rfl (bvl (ltA_eq _ _))) rfl ?_
  refine WO.q (Q.pF rfl rfl) rfl ?_
  refine WO.q (Q.move rfl) rfl ?_
  refine WO.sD (d := 22) rfl (fun hc22 => ?_) (fun hc22 => ?_)
  ·skip -- ft
   refine WO.gF rfl rfl (.inl rfl) rfl ?_
   refine WO.gF rfl rfl (.inl rfl) rfl ?_
   refine WO.q (Q.pT rfl rfl) rfl ?_
   refine WO.q (Q.move rfl) rfl ?_
   refine WO.gF rfl rfl (.inl rfl) rfl ?_
   refine WO.gF rfl rfl (.inl rfl) rfl ?_
   refine WO.gF rfl rfl (.inl rfl) rfl ?_
   refine WO.q (Q.pT rfl rfl) rfl ?_
   refine WO.q (Q.move rfl) rfl ?_
   refine WO.gF rfl rfl (.inl rfl) rfl ?_
   refine WO.gF rfl rfl (.inl rfl) rfl ?_
   refine WO.q (Q.pT rfl rfl) rfl ?_
   refine WO.q (Q.move rfl) rfl ?_
   refine WO.gF rfl rfl (.inl rfl) rfl ?_
   refine WO.gF rfl rfl (.inl rfl) rfl ?_
   refine WO.gF rfl rfl (.inl rfl) rfl ?_
   refine WO.q (Q.pT rfl rfl) rfl ?_
   refine WO.q (Q.move rfl) rfl ?_
   refine WO.gF rfl rfl (.inl rfl) rfl ?_
   refine WO.gF rfl rfl (.inl rfl) rfl ?_
   refine WO.gF rfl rfl (.inl rfl) rfl ?_
   refine WO.q (Q.pT rfl rfl) rfl ?_
   refine WO.nil ?_
   refine XEnd.K ?_
   refine Ev.X.sub (SubS.cons (k := 44) rfl (SubS.cons (k := 0) rfl (SubS.cons (k := 1) rfl (SubS.cons (k := 2) rfl (SubS.cons (k := 3) rfl (SubS.nil _)))))) ?_
   refine Ev.X.condT rfl ?_
   refine Ev.X.seq ?_
   refine Ev.X.w (W.reg ?_)
   refine WO.cV rfl oz rfl lives_spec SubR.nil rfl ?_
   refine WO.q (Q.assign rfl) rfl ?_
   refine WO.nil ?_
   refine XEnd.K ?_
   refine Ev.X.ret ?_
   refine XEnd.K_ret (XEnd.ret (ResL.tmp rfl ResL.nil) (hs' := []) ⟨rfl, rfl⟩ no_wl (SubH.nil _))
  ·skip -- ff
   refine WO.gT rfl rfl ?_
   refine WO.q (Q.move rfl) rfl ?_
   refine WO.gT rfl rfl ?_
   refine WO.q (Q.bin rfl (oc (v := .int .i64 ((2147483648 : Nat) : Int)) rfl) rfl (bv_gtr (ltA_eq _ _))) rfl ?_
   refine WO.q (Q.pF rfl rfl) rfl ?_
   refine WO.q (Q.move rfl) rfl ?_
   refine WO.sD (d := 26) rfl (fun hc26 => ?_) (fun hc26 => ?_)
   ·skip -- fft
    refine WO.gF rfl rfl (.inl rfl) rfl ?_
    refine WO.gF rfl rfl (.inl rfl) rfl ?_
    refine WO.gF rfl rfl (.inl rfl) rfl ?_
    refine WO.q (Q.pT rfl rfl) rfl ?_
    refine WO.q (Q.move rfl) rfl ?_
    refine WO.gF rfl rfl (.inl rfl) rfl ?_
    refine WO.gF rfl rfl (.inl rfl) rfl ?_
    refine WO.q (Q.pT rfl rfl) rfl ?_
    refine WO.q (Q.move rfl) rfl ?_
    refine WO.gF rfl rfl (.inl rfl) rfl ?_
    refine WO.gF rfl rfl (.inl rfl) rfl ?_
    refine WO.gF rfl rfl (.inl rfl) rfl ?_
    refine WO.q (Q.pT rfl rfl) rfl ?_
    refine WO.q (Q.move rfl) rfl ?_
    refine WO.gF rfl rfl (.inl rfl) rfl ?_
    refine WO.gF rfl rfl (.inl rfl) rfl ?_
    refine WO.gF rfl rfl (.inl rfl) rfl ?_
    refine WO.q (Q.pT rfl rfl) rfl ?_
    refine WO.nil ?_
    refine XEnd.K ?_
    refine Ev.X.sub (SubS.cons (k := 44) rfl (SubS.cons (k := 0) rfl (SubS.cons (k := 1) rfl (SubS.cons (k := 2) rfl (SubS.cons (k := 3) rfl (SubS.nil _)))))) ?_
    refine Ev.X.condT rfl ?_
    refine Ev.X.seq ?_
    refine Ev.X.w (W.reg ?_)
    refine WO.cV rfl oz rfl lives_spec SubR.nil rfl ?_
    refine WO.q (Q.assign rfl) rfl ?_
    refine WO.nil ?_
    refine XEnd.K ?_
    refine Ev.X.ret ?_
    refine XEnd.K_ret (XEnd.ret (ResL.tmp rfl ResL.nil) (hs' := []) ⟨rfl, rfl⟩ no_wl (SubH.nil _))
   ·skip -- fff
    refine WO.gT rfl rfl ?_
    refine WO.q (Q.move rfl) rfl ?_
    refine WO.gT rfl rfl ?_
    refine WO.q (Q.move rfl) rfl ?_
    refine WO.gT rfl rfl ?_
    refine WO.q (Q.bin rfl rfl rfl (bvl (ltA_eq _ _))) rfl ?_
    refine WO.q (Q.pF rfl rfl) rfl ?_
    refine WO.q (Q.move rfl) rfl ?_
    refine WO.sD (d := 31) rfl (fun hc31 => ?_) (fun hc31 => ?_)
    ·skip -- ffft
     refine WO.gF rfl rfl (.inl rfl) rfl ?_
     refine WO.gF rfl rfl (.inl rfl) rfl ?_
     refine WO.q (Q.pT rfl rfl) rfl ?_
     refine WO.q (Q.move rfl) rfl ?_
     refine WO.gF rfl rfl (.inl rfl) rfl ?_
     refine WO.gF rfl rfl (.inl rfl) rfl ?_
     refine WO.gF rfl rfl (.inl rfl) rfl ?_
     refine WO.q (Q.pT rfl rfl) rfl ?_
     refine WO.q (Q.move rfl) rfl ?_
     refine WO.gF rfl rfl (.inl rfl) rfl ?_
     refine WO.gF rfl rfl (.inl rfl) rfl ?_
     refine WO.gF rfl rfl (.inl rfl) rfl ?_
     refine WO.q (Q.pT rfl rfl) rfl ?_
     refine WO.nil ?_
     refine XEnd.K ?_
     refine Ev.X.sub (SubS.cons (k := 44) rfl (SubS.cons (k := 0) rfl (SubS.cons (k := 1) rfl (SubS.cons (k := 2) rfl (SubS.cons (k := 3) rfl (SubS.nil _)))))) ?_
     refine Ev.X.condT rfl ?_
     refine Ev.X.seq ?_
     refine Ev.X.w (W.reg ?_)
     refine WO.cV rfl oz rfl lives_spec SubR.nil rfl ?_
     refine WO.q (Q.assign rfl) rfl ?_
     refine WO.nil ?_
     refine XEnd.K ?_
     refine Ev.X.ret ?_
     refine XEnd.K_ret (XEnd.ret (ResL.tmp rfl ResL.nil) (hs' := []) ⟨rfl, rfl⟩ no_wl (SubH.nil _))
    ·skip -- ffff
     refine WO.gT rfl rfl ?_
     refine WO.q (Q.move rfl) rfl ?_
     refine WO.gT rfl rfl ?_
     refine WO.q (Q.bin rfl (oc (v := .int .i64 ((1099511627776 : Nat) : Int)) rfl) rfl (bv_gtr (ltA_eq _ _))) rfl ?_
     refine WO.q (Q.pF rfl rfl) rfl ?_
     refine WO.q (Q.move rfl) rfl ?_
     refine WO.sD (d := 35) rfl (fun hc35 => ?_) (fun hc35 => ?_)
     ·skip -- fffft
      refine WO.gF rfl rfl (.inl rfl) rfl ?_
      refine WO.gF rfl rfl (.inl rfl) rfl ?_
      refine WO.gF rfl rfl (.inl rfl) rfl ?_
      refine WO.q (Q.pT rfl rfl) rfl ?_
      refine WO.q (Q.move rfl) rfl ?_
      refine WO.gF rfl rfl (.inl rfl) rfl ?_
      refine WO.gF rfl rfl (.inl rfl) rfl ?_
      refine WO.gF rfl rfl (.inl rfl) rfl ?_
      refine WO.q (Q.pT rfl rfl) rfl ?_
      refine WO.nil ?_
      refine XEnd.K ?_
      refine Ev.X.sub (SubS.cons (k := 44) rfl (SubS.cons (k := 0) rfl (SubS.cons (k := 1) rfl (SubS.cons (k := 2) rfl (SubS.cons (k := 3) rfl (SubS.nil _)))))) ?_
      refine Ev.X.condT rfl ?_
      refine Ev.X.seq ?_
      refine Ev.X.w (W.reg ?_)
      refine WO.cV rfl oz rfl lives_spec SubR.nil rfl ?_
      refine WO.q (Q.assign rfl) rfl ?_
      refine WO.nil ?_
      refine XEnd.K ?_
      refine Ev.X.ret ?_
      refine XEnd.K_ret (XEnd.ret (ResL.tmp rfl ResL.nil) (hs' := []) ⟨rfl, rfl⟩ no_wl (SubH.nil _))
     ·skip -- fffff
      refine WO.gT rfl rfl ?_
      refine WO.q (Q.move rfl) rfl ?_
      refine WO.gT rfl rfl ?_
      refine WO.q (Q.len ud22 rfl (RSl.len hR)) rfl ?_
      refine WO.gT rfl rfl ?_
      refine WO.q (Q.bin rfl (oc (v := .int .i64 ((40 : Nat) : Int)) rfl) rfl (bv_gtr ltn)) rfl ?_
      refine WO.q (Q.pF rfl rfl) rfl ?_
      refine WO.q (Q.move rfl) rfl ?_
      refine WO.sD (d := 40) rfl (fun hc40 => ?_) (fun hc40 => ?_)
      ·skip -- ffffft
       refine WO.gF rfl rfl (.inl rfl) rfl ?_
       refine WO.gF rfl rfl (.inl rfl) rfl ?_
       refine WO.gF rfl rfl (.inl rfl) rfl ?_
       refine WO.q (Q.pT rfl rfl) rfl ?_
       refine WO.nil ?_
       refine XEnd.K ?_
       refine Ev.X.sub (SubS.cons (k := 44) rfl (SubS.cons (k := 0) rfl (SubS.cons (k := 1) rfl (SubS.cons (k := 2) rfl (SubS.cons (k := 3) rfl (SubS.nil _)))))) ?_
       refine Ev.X.condT rfl ?_
       refine Ev.X.seq ?_
       refine Ev.X.w (W.reg ?_)
       refine WO.cV rfl oz rfl lives_spec SubR.nil rfl ?_
       refine WO.q (Q.assign rfl) rfl ?_
       refine WO.nil ?_
       refine XEnd.K ?_
       refine Ev.X.ret ?_
       refine XEnd.K_ret (XEnd.ret (ResL.tmp rfl ResL.nil) (hs' := []) ⟨rfl, rfl⟩ no_wl (SubH.nil _))
      ·skip -- ffffff
       refine WO.gT rfl rfl ?_
       refine WO.q (Q.move rfl) rfl ?_
       refine WO.gT rfl rfl ?_
       refine WO.callE rfl (oLc rfl oz) rfl (cnt_spec hs hro R v hR hRA hRb) (SubR.s hro) rfl (fun v42 hP42 => ?_)
       obtain ⟨cn, rfl⟩ := hP42
       refine WO.gT rfl rfl ?_
       refine WO.q (Q.bin rfl (oc (v := .int .i64 ((400 : Nat) : Int)) rfl) rfl (bv_gtr (ltA_eq _ _))) rfl ?_
       refine WO.q (Q.pF rfl rfl) rfl ?_
       refine WO.nil ?_
       refine XEnd.K ?_
       refine Ev.X.sub (SubS.cons (k := 44) rfl (SubS.cons (k := 0) rfl (SubS.cons (k := 1) rfl (SubS.cons (k := 2) rfl (SubS.cons (k := 3) rfl (SubS.nil _)))))) ?_
       refine Ev.X.condDS rfl (fun hc44 => ?_) (fun hc44 => ?_)
       ·skip -- ffffffT
        refine Ev.X.seq ?_
        refine Ev.X.w (W.reg ?_)
        refine WO.cV rfl oz rfl lives_spec SubR.nil rfl ?_
        refine WO.q (Q.assign rfl) rfl ?_
        refine WO.nil ?_
        refine XEnd.K ?_
        refine Ev.X.ret ?_
        refine XEnd.K_ret (XEnd.ret (ResL.tmp rfl ResL.nil) (hs' := []) ⟨rfl, rfl⟩ no_wl (SubH.nil _))
       ·skip -- ffffffF
        obtain ⟨d, rfl⟩ : ∃ d : Nat, di = (d : Int) := ⟨di.toNat, by omega⟩
        obtain ⟨t, rfl⟩ : ∃ t : Nat, ti = (t : Int) := ⟨ti.toNat, by omega⟩
        have hdt : d ≤ t := by omega
        have hd : d ≤ 2147483648 := by omega
        have ht : t ≤ 1099511627776 := by omega
        have hR40 : R.length ≤ 40 := by omega
        refine Ev.X.skip ?_
        refine XEnd.K ?_
        refine Ev.X.seq ?_
        refine Ev.X.w (W.reg ?_)
        refine WO.q (Q.move rfl) rfl ?_
        refine WO.q (Q.move rfl) rfl ?_
        refine WO.q (zB pl53 (opc (oc (v := .int .i64 ((2 : Nat) : Int)) rfl) (opc rfl (opc rfl opn))) rfl (by simp only [fillA, cells_of hM.cell]; rfl)) rfl ?_
        refine WO.q (Q.build pl55 (opc rfl opn) rfl (cs := [_, _, _, _, _, _, _, _, _, _, _, _]) rfl) rfl ?_
        refine WO.bslice ud26 sz55 zr55 rfl (opc rfl opn) rfl (cs := [_, _, _, _, _, _, _, _, _, _, _, _]) rfl (andb rfl (andb rfl (andb rfl (andb hM.cell rfl)))) rfl (fun b1 => ?_)
        refine WO.q (Q.assign rfl) rfl ?_
        refine WO.nil ?_
        refine XEnd.K ?_
        refine Ev.X.seq ?_
        refine Ev.X.w (W.reg ?_)
        refine WO.q (Q.move rfl) rfl ?_
        refine WO.q (zB pl53 (opc (oc (v := .int .i64 ((2 : Nat) : Int)) rfl) (opc rfl opn)) rfl (by simp only [fillA, cells_of hM.cell]; rfl)) rfl ?_
        refine WO.q (Q.build pl55 (opc rfl opn) rfl (cs := [_, _, _, _, _, _, _, _, _, _, _, _]) rfl) rfl ?_
        refine WO.bslice ud26 sz55 zr55 rfl (opc rfl opn) rfl (cs := [_, _, _, _, _, _, _, _, _, _, _, _]) rfl (andb rfl (andb rfl (andb rfl (andb hM.cell rfl)))) rfl (fun b2 => ?_)
        refine WO.q (Q.assign rfl) rfl ?_
        refine WO.nil ?_
        refine XEnd.K ?_
        refine Ev.X.seq ?_
        refine Ev.X.reg ?_
        refine XO.pre 6 ?_
        refine WO.q (Q.move rfl) rfl ?_
        refine WO.q (Q.move rfl) rfl ?_
        refine WO.call0 rfl (oLc rfl oz) rfl (srcf_spec v (RSl.cell hR)) SubR.nil rfl (fun v58 D58 hP58 => ?_)
        obtain ⟨bx58, xx58, rfl, rfl⟩ := hP58
        refine WO.q (Q.move rfl) rfl ?_
        refine WO.q (Q.move rfl) rfl ?_
        refine WO.q (Q.build pl24 (opc rfl (opc rfl (opc (oc (v := .int .i64 ((1 : Nat) : Int)) rfl) (opc (oc (v := .int .i64 ((1099511627776 : Nat) : Int)) rfl) opn)))) rfl (cs := [_, _, _, _]) rfl) rfl ?_
        refine WO.nil ?_
        refine XEnd.O ?_
        refine XO.call (M := []) (A := _) rfl (oLc rfl (oLc rfl (oLc rfl oz))) rfl no_wl (SubH.refl _) (run_spec hs hro R v hR hRA hRb M vm hM hok d b1 true bx58 xx58 t hdt hd ht (by omega)) (SubR.ix (K := [_, _, _]) (ix := [2, 0]) (A := [_, _]) rfl (by decide) (SubR.s hro)) rfl (fun l hB => False.elim hB) (fun v62 D62 hP62 => ?_)
        obtain ⟨kA, eA, rvA, nA, cellsA, HA, GA, rfl, rfl, hOA, hrA, hGA⟩ := hP62
        refine XO.subH (hs' := _ :: _ :: _ :: (hs ++ (GA ++ HA))) (SubH.op (perm_tail (N := []) (G := (GA ++ HA)) (K := [_, _, _]) (X := hs))) ?_
        refine XO.pre 6 ?_
        refine WO.q (Q.move rfl) rfl ?_
        refine WO.q (Q.extract rfl rfl) rfl ?_
        refine WO.q (Q.extract rfl rfl) rfl ?_
        refine WO.alloc ao37 rfl (fun b3 => ?_)
        refine WO.store sz37 rfl rfl (i := 0) rfl (andb rfl (andb rfl (andb (OwnE.cell hOA) rfl))) (cs := [_, _]) rfl (hs' := _ :: _ :: _ :: _ :: _) rfl ?_
        refine WO.q (Q.assign rfl) rfl ?_
        refine WO.nil ?_
        refine XEnd.O ?_
        refine XO.nil ?_
        refine XEnd.K ?_
        refine Ev.X.sub (SubS.cons (k := 12) rfl (SubS.cons (k := 11) rfl (SubS.cons (k := 10) rfl (SubS.cons (k := 1) rfl (SubS.cons (k := 2) rfl (SubS.cons (k := 3) rfl (SubS.nil _))))))) ?_
        refine Ev.X.seq ?_
        refine Ev.X.reg ?_
        refine XO.pre 10 ?_
        refine WO.q (Q.move rfl) rfl ?_
        refine WO.q (Q.move rfl) rfl ?_
        refine WO.call0 rfl (oLc rfl oz) rfl (srcf_spec v (RSl.cell hR)) SubR.nil rfl (fun v68 D68 hP68 => ?_)
        obtain ⟨bx68, xx68, rfl, rfl⟩ := hP68
        refine WO.q (Q.move rfl) rfl ?_
        refine WO.q (Q.move rfl) rfl ?_
        refine WO.q (Q.bin rfl rfl rfl (bv_sub (wns zo))) rfl ?_
        refine WO.q (Q.move rfl) rfl ?_
        refine WO.q (Q.move rfl) rfl ?_
        refine WO.q (Q.bin rfl rfl rfl (bv_sub (wns zo))) rfl ?_
        refine WO.q (Q.build pl24 (opc rfl (opc rfl (opc (oc (v := .int .i64 ((1 : Nat) : Int)) rfl) (opc (oc (v := .int .i64 ((1099511627776 : Nat) : Int)) rfl) opn)))) rfl (cs := [_, _, _, _]) rfl) rfl ?_
        refine WO.nil ?_
        refine XEnd.O ?_
        refine XO.call (M := []) (A := _) rfl (oLc rfl (oLc rfl (oLc rfl oz))) rfl no_wl (SubH.refl _) (run_spec hs hro R v hR hRA hRb M vm hM hok 0 b2 true bx68 xx68 (t - d) (Nat.zero_le _) (by omega) (by omega) (by omega)) (SubR.ix (K := [_, _, _, _, _]) (ix := [3, 0]) (A := [_, _]) rfl (by decide) (SubR.appl (SubR.s hro))) rfl (fun l hB => False.elim hB) (fun v76 D76 hP76 => ?_)
        obtain ⟨kB, eB, rvB, nB, cellsB, HB, GB, rfl, rfl, hOB, hrB, hGB⟩ := hP76
        rcases RunR.two hRb hrA hrB with ⟨rfl, hne, rfl, rfl⟩ | ⟨rfl, rfl, rfl, rfl, evA, OA, evB, OB, rfl, rfl, hA1, hA2, hA3, hB1, hB2, hB3, hAB⟩
        ·skip -- ffffffFn
         refine XO.subH (hs' := _ :: _ :: _ :: _ :: _ :: (hs ++ (GA ++ HA) ++ (GB ++ HB))) (SubH.op (perm_tail (N := []) (G := (GB ++ HB)) (K := [_, _, _, _, _]) (X := hs ++ (GA ++ HA)))) ?_
         refine XO.pre 6 ?_
         refine WO.q (Q.move rfl) rfl ?_
         refine WO.q (Q.extract rfl rfl) rfl ?_
         refine WO.q (Q.extract rfl rfl) rfl ?_
         refine WO.alloc ao37 rfl (fun b4 => ?_)
         refine WO.store sz37 rfl rfl (i := 0) rfl (andb rfl (andb rfl (andb (OwnE.cell hOB) rfl))) (cs := [_, _]) rfl (hs' := _ :: _ :: _ :: _ :: _ :: _ :: _) rfl ?_
         refine WO.q (Q.assign rfl) rfl ?_
         refine WO.nil ?_
         refine XEnd.O ?_
         refine XO.nil ?_
         refine XEnd.K ?_
         refine Ev.X.sub (SubS.cons (k := 14) rfl (SubS.cons (k := 13) rfl (SubS.cons (k := 12) rfl (SubS.cons (k := 11) rfl (SubS.nil _))))) ?_
         refine Ev.X.seq ?_
         refine Ev.X.seq ?_
         refine Ev.X.w (W.reg ?_)
         refine WO.q (Q.move rfl) rfl ?_
         refine WO.q (Q.move rfl) rfl ?_
         refine WO.q (Q.bin rfl rfl rfl (bv_neq ne_int)) rfl ?_
         refine WO.q (Q.move rfl) rfl ?_
         refine WO.sD (d := 82) rfl (fun hc82 => ?_) (fun hc82 => ?_)
         ·exact absurd rfl hc82
         ·skip -- ffffffFnf
          refine WO.gT rfl rfl ?_
          refine WO.q (Q.fieldAddr fa37_1 rfl (o' := 1) rfl) rfl ?_
          refine WO.gT rfl rfl ?_
          refine WO.q (Q.l1 rfl (mem_at (i := 2) rfl) ag35 rfl) rfl ?_
          refine WO.gT rfl rfl ?_
          refine WO.q (Q.len ud35 rfl (OwnE.len hOA)) rfl ?_
          refine WO.gT rfl rfl ?_
          refine WO.q (Q.fieldAddr fa37_1 rfl (o' := 1) rfl) rfl ?_
          refine WO.gT rfl rfl ?_
          refine WO.q (Q.l1 rfl (mem_at (i := 0) rfl) ag35 rfl) rfl ?_
          refine WO.gT rfl rfl ?_
          refine WO.q (Q.len ud35 rfl (OwnE.len hOB)) rfl ?_
          refine WO.gT rfl rfl ?_
          refine WO.q (Q.bin rfl rfl rfl (bv_neq ne_nat)) rfl ?_
          refine WO.q (Q.pF rfl rfl) rfl ?_
          refine WO.nil ?_
          refine XEnd.K ?_
          refine Ev.X.condDS rfl (fun hc90 => ?_) (fun hc90 => ?_)
          ·exact absurd rfl hc90
          ·skip -- ffffffFnfF
           refine Ev.X.skip ?_
           refine XEnd.K ?_
           refine Ev.X.seq ?_
           refine Ev.X.w (W.regT (by kernel_rfl) ?_)
           refine WO.q (Q.move rfl) rfl ?_
           refine WO.q (Q.bin rfl (oc (v := .int .i64 ((0 : Nat) : Int)) rfl) rfl (bv_neq ne_int)) rfl ?_
           refine WO.q (Q.move rfl) rfl ?_
           refine WO.sD (d := 93) rfl (fun hc93 => ?_) (fun hc93 => ?_)
           ·skip -- ffffffFnfFt
            refine WO.gF rfl rfl (.inl rfl) rfl ?_
            refine WO.gF rfl rfl (.inl rfl) rfl ?_
            refine WO.gF rfl rfl (.inl rfl) rfl ?_
            refine WO.gF rfl rfl (.inl rfl) rfl ?_
            refine WO.gF rfl rfl (.inl rfl) rfl ?_
            refine WO.gF rfl rfl (.inr rfl) rfl ?_
            refine WO.gF rfl rfl (.inr rfl) rfl ?_
            refine WO.gF rfl rfl (.inr rfl) rfl ?_
            refine WO.gF rfl rfl (.inr rfl) rfl ?_
            refine WO.gF rfl rfl (.inr rfl) rfl ?_
            refine WO.gF rfl rfl (.inr rfl) rfl ?_
            refine WO.gF rfl rfl (.inr rfl) rfl ?_
            refine WO.gF rfl rfl (.inr rfl) rfl ?_
            refine WO.gF rfl rfl (.inr rfl) rfl ?_
            refine WO.gF rfl rfl (.inr rfl) rfl ?_
            refine WO.gF rfl rfl (.inr rfl) rfl ?_
            refine WO.gF rfl rfl (.inl rfl) rfl ?_
            refine WO.q (Q.pT rfl rfl) rfl ?_
            refine WO.q (Q.move rfl) rfl ?_
            refine WO.gT rfl rfl ?_
            refine WO.cV rfl oz rfl lives_spec SubR.nil rfl ?_
            refine WO.q (Q.pT rfl rfl) rfl ?_
            refine WO.q (Q.assign rfl) rfl ?_
            refine WO.nil ?_
            refine XEnd.K ?_
            refine Ev.X.sub (SubS.cons (k := 8) rfl (SubS.nil _)) ?_
            refine Ev.X.ret ?_
            refine XEnd.ret (ResL.tmp rfl ResL.nil) (hs' := []) ⟨rfl, rfl⟩ no_wl (SubH.nil _)
           ·exact absurd hne hc93
        ·skip -- ffffffFy
         obtain ⟨rbA, xA, rfl, rfl⟩ := hOA.full (by decide)
         obtain ⟨rbB, xB, rfl, rfl⟩ := hOB.full (by decide)
         refine XO.subH (hs' := _ :: _ :: _ :: _ :: _ :: _ :: _ :: ((hs ++ GA) ++ GB)) (open3 (K := [_, _, _, _, _])) ?_
         refine XO.pre 6 ?_
         refine WO.q (Q.move rfl) rfl ?_
         refine WO.q (Q.extract rfl rfl) rfl ?_
         refine WO.q (Q.extract rfl rfl) rfl ?_
         refine WO.alloc ao37 rfl (fun b5 => ?_)
         refine WO.store sz37 rfl rfl (i := 0) rfl (andb rfl (andb rfl (andb (OwnE.cell hOB) rfl))) (cs := [_, _]) rfl (hs' := _ :: _ :: _ :: _ :: _ :: _ :: _ :: _ :: _) rfl ?_
         refine WO.q (Q.assign rfl) rfl ?_
         refine WO.nil ?_
         refine XEnd.O ?_
         refine XO.nil ?_
         refine XEnd.K ?_
         refine Ev.X.sub (SubS.cons (k := 14) rfl (SubS.cons (k := 13) rfl (SubS.cons (k := 12) rfl (SubS.cons (k := 11) rfl (SubS.nil _))))) ?_
         refine Ev.X.seq ?_
         refine Ev.X.seq ?_
         refine Ev.X.w (W.reg ?_)
         refine WO.q (Q.move rfl) rfl ?_
         refine WO.q (Q.move rfl) rfl ?_
         refine WO.q (Q.bin rfl rfl rfl (bv_neq (p := false) rfl)) rfl ?_
         refine WO.q (Q.move rfl) rfl ?_
         refine WO.gT rfl rfl ?_
         refine WO.q (Q.fieldAddr fa37_1 rfl (o' := 1) rfl) rfl ?_
         refine WO.gT rfl rfl ?_
         refine WO.q (Q.l1 rfl (mem_at (i := 4) rfl) ag35 rfl) rfl ?_
         refine WO.gT rfl rfl ?_
         refine WO.q (Q.len ud35 rfl rfl) rfl ?_
         refine WO.gT rfl rfl ?_
         refine WO.q (Q.fieldAddr fa37_1 rfl (o' := 1) rfl) rfl ?_
         refine WO.gT rfl rfl ?_
         refine WO.q (Q.l1 rfl (mem_at (i := 0) rfl) ag35 rfl) rfl ?_
         refine WO.gT rfl rfl ?_
         refine WO.q (Q.len ud35 rfl rfl) rfl ?_
         refine WO.gT rfl rfl ?_
         refine WO.q (Q.bin rfl rfl rfl (bv_neq (p := false) rfl)) rfl ?_
         refine WO.q (Q.pF rfl rfl) rfl ?_
         refine WO.nil ?_
         refine XEnd.K ?_
         refine Ev.X.condF rfl ?_
         refine Ev.X.skip ?_
         refine XEnd.K ?_
         refine Ev.X.seq ?_
         refine Ev.X.w (W.regT (by kernel_rfl) ?_)
         refine WO.q (Q.move rfl) rfl ?_
         refine WO.q (Q.bin rfl (oc (v := .int .i64 ((0 : Nat) : Int)) rfl) rfl (bv_neq (p := false) rfl)) rfl ?_
         refine WO.q (Q.move rfl) rfl ?_
         refine WO.gT rfl rfl ?_
         refine WO.q (Q.fieldAddr fa37_1 rfl (o' := 1) rfl) rfl ?_
         refine WO.gT rfl rfl ?_
         refine WO.q (Q.l1 rfl (mem_at (i := 4) rfl) ag35 rfl) rfl ?_
         refine WO.gT rfl rfl ?_
         refine WO.q (Q.len ud35 rfl rfl) rfl ?_
         refine WO.gT rfl rfl ?_
         refine WO.q (Q.bin rfl (oc (v := .int .i64 ((1 : Nat) : Int)) rfl) rfl (bv_eql (p := true) rfl)) rfl ?_
         refine WO.gT rfl rfl ?_
         refine WO.q (Q.move rfl) rfl ?_
         refine WO.gT rfl rfl ?_
         refine WO.q (Q.fieldAddr fa37_1 rfl (o' := 1) rfl) rfl ?_
         refine WO.gT rfl rfl ?_
         refine WO.q (Q.l1 rfl (mem_at (i := 4) rfl) ag35 rfl) rfl ?_
         refine WO.gT rfl rfl ?_
         refine WO.q (Q.iaddrL ud35 sz59 rfl (oc (v := .int .i64 ((0 : Nat) : Int)) rfl) zo (o' := 0) rfl) rfl ?_
         refine WO.gT rfl rfl ?_
         refine WO.q (Q.fieldAddr fa59_2 rfl (o' := 2) rfl) rfl ?_
         refine WO.gT rfl rfl ?_
         refine WO.q (Q.l1 rfl (mem_at (i := 1) rfl) ag57 rfl) rfl ?_
         refine WO.gT rfl rfl ?_
         refine WO.q (Q.fieldAddr fa37_1 rfl (o' := 1) rfl) rfl ?_
         refine WO.gT rfl rfl ?_
         refine WO.q (Q.l1 rfl (mem_at (i := 0) rfl) ag35 rfl) rfl ?_
         refine WO.gT rfl rfl ?_
         refine WO.q (Q.iaddrL ud35 sz59 rfl (oc (v := .int .i64 ((0 : Nat) : Int)) rfl) zo (o' := 0) rfl) rfl ?_
         refine WO.gT rfl rfl ?_
         refine WO.q (Q.fieldAddr fa59_2 rfl (o' := 2) rfl) rfl ?_
         refine WO.gT rfl rfl ?_
         refine WO.q (Q.l1 rfl (mem_at (i := 2) rfl) ag57 rfl) rfl ?_
         refine WO.gT rfl rfl ?_
         refine WO.cV rfl (oLc rfl (oLc rfl oz)) rfl (same_eq (ro ((hs ++ GA) ++ GB)) ro_w OA OB _ _ (hA1.mono (fun b o h => (MemH.app h).ap1.ro)) (hB1.mono (fun b o h => h.app.ro)) (fun x hx => (hA2 x hx).mono (fun b o h => (MemH.app h).ap1.ro)) (fun x hx => (hB2 x hx).mono (fun b o h => h.app.ro)) hA3 hB3 hAB) (SubR.ro gc) rfl ?_
         refine WO.gT rfl rfl ?_
         refine WO.q (Q.pT rfl rfl) rfl ?_
         refine WO.q (Q.pF rfl rfl) rfl ?_
         refine WO.q (Q.move rfl) rfl ?_
         refine WO.gT rfl rfl ?_
         refine WO.cV rfl oz rfl lives_spec SubR.nil rfl ?_
         refine WO.q (Q.pT rfl rfl) rfl ?_
         refine WO.q (Q.assign rfl) rfl ?_
         refine WO.nil ?_
         refine XEnd.K ?_
         refine Ev.X.sub (SubS.cons (k := 8) rfl (SubS.nil _)) ?_
         refine Ev.X.ret ?_
         refine XEnd.ret (ResL.tmp rfl ResL.nil) (hs' := []) ⟨rfl, rfl⟩ no_wl (SubH.nil _)

end Go.Proofs.YtfkbfnpjggkdmaaGreatDoor.Ev
