/- Chapter 16, by the document: Parse. -/
import Derived.Test.YtnlnmbnopdklhaaTVu
import Derived.Test.YtnlnmbnopdklhaaTAwA
import Derived.Test.YtnlnmbnopdklhaaProg
import Derived.Test.YtnlnmbnopdklhaaTV7
namespace Go.Proofs.Ytnlnmbnopdklhaa.Ev
open Go.RowKit
set_option linter.unusedVariables false
set_option linter.unusedSimpArgs false
set_option maxRecDepth 100000
set_option maxHeartbeats 1000000
/-- Tokens, the last of which is of kind 6; or an error. -/
def scanQ (v : AV) (D : HSt) : Prop :=
  (∃ a e : Int, e ≠ 0 ∧ v = .tuple [.nils, .int .i64 a, .int .i64 e] ∧ D = []) ∨
  ∃ (b : Nat) (ex : Bool) (toks : List TokT) (n : Nat), v = .tuple [.slice b 0 (n + 1) 4, .int .i64 ((0 : Nat) : Int), .int .i64 ((0 : Nat) : Int)] ∧ D = [⟨b, ⟨4, ex, tokCs toks⟩, true⟩] ∧ toks.length = n + 1 ∧ n ≤ 1048576 ∧ TokO toks ∧ (tg toks n).1 = 6
theorem scan_q {v : AV} {D : HSt} (h : scanP v D) : scanQ v D := by
  rcases h with h | ⟨b, ex, acc, a, rfl, rfl, h1, h2⟩
  · exact .inl h
  · refine .inr ⟨b, ex, acc ++ [(6, [], 0, a)], acc.length, rfl, ?_, by simp, by omega, ?_, ?_⟩
    · simp [tokCs, tokC]
    · intro x hx
      rcases List.mem_append.1 hx with hx | hx
      · exact h1 x hx
      · simp at hx; subst hx; exact ⟨nil_bytes, Nat.zero_le _⟩
    · unfold tg
      simp
/-- A tree, or an error. -/
def PAP (v : AV) (D : HSt) : Prop := ∃ (x : NodT) (hq : HSt) (at_ e : Int), v = .tuple [.agg (nC x), .int .i64 at_, .int .i64 e] ∧ NOk hq x ∧ (∀ y ∈ hq, y.w = true) ∧ D = hq
theorem scan_long (s : List Nat) (hs : Bytes s) (hl : 1048576 < s.length) : Spec tab 18 [.str s] [] [] (scanP) := by
 refine Spec.enter' (ft_get 18 Try.func18) rfl (m := 42) rfl (rs := [.tmp 2, .tmp 3, .tmp 4]) rfl (st := [(0, .str s)]) rfl rfl (fun _ => rfl) (fun E => zr (za rfl (za (zi 0) (za (zi 0) (zk (W.seq (zr (zm rfl (zq (Q.len ud9 rfl rfl) (zq (Q.bin rfl (zi 1024) rfl (bv_gtr lt_nat)) (zk (W.condDS rfl (fun hc12 => ?_) (fun hc12 => ?_)))))))))))))
 · refine zr (za rfl (za (zi 0) (za (zi 3) (zk (W.ret ?_)))))
   refine End.K_ret (End.ret (ResL.tmp rfl (ResL.tmp rfl (z1 rfl))) (scan_no (by decide)) (fun e h => no_w h) (SubH.nil _))
 (exfalso; omega)
theorem scan_any (s : List Nat) (hs : Bytes s) : Spec tab 18 [.str s] [] [] scanQ := by
  rcases Nat.lt_or_ge 1048576 s.length with h | h
  · exact (scan_long s hs h).mono fun _ _ => scan_q
  · exact (scan_spec s hs h).mono fun _ _ => scan_q
theorem parse_spec (s : List Nat) (hs : Bytes s) : Spec tab 9 [.str s] [] [] (PAP) := by
 refine Spec.enter' (ft_get 9 Try.func9) rfl (m := 57) rfl (rs := [.cell 2 26, .tmp 3, .tmp 4]) rfl (st := [(0, .str s)]) rfl rfl (fun _ => rfl) (fun E => zr (WO.alloc ao26 rfl (fun b1 => za (zi 0) (za (zi 0) (zk (zr (zm rfl (WO.call0 rfl (oLs_cons rfl oLs_nil) rfl (scan_any s hs) SubR.nil rfl (fun v12 D12 hP12 => ?_)))))))))
 rcases hP12 with ⟨sa, se, hse, rfl, rfl⟩ | ⟨tb, ex, toks, n, rfl, rfl, hn, hnl, hok, hla⟩
 · refine zm rfl (zq (Q.extract rfl rfl) (zq (Q.extract rfl rfl) (zq (Q.extract rfl rfl) (za rfl (za rfl (za rfl (zk (W.seq (zr (zm rfl (zq (Q.bin rfl (zi 0) rfl (bv_neq ne_int)) (zk (W.condDS rfl (fun hc17 => ?_) (fun hc17 => ?_))))))))))))))
   · refine zr (zq (Q.build pl26 oPs_nil rfl (cs := [_, _, _, _, _, _, _, _, _, _, _]) rfl) (zm rfl (zm rfl (WO.store sz26 rfl rfl (i := 0) rfl (by first | rfl | exact and_tt rfl ckA) (cs := [_, _, _, _, _, _, _, _, _, _, _]) rfl (hs' := [_]) rfl (za rfl (za rfl (zk (W.sub (zc 4 rfl (zc 3 rfl (zc 2 rfl zzn))) (W.ret ?_)))))))))
     refine End.K_ret (End.ret (ResL.agg (c := [_, _, _, _, _, _, _, _, _, _, _]) rfl (zt 0 rfl) ag26 sz26 rfl (ResL.tmp rfl (z1 rfl))) (hs' := []) ⟨⟨0, [], 0, .nils, 0, 0, 0, .nils, 0, false, .nils⟩, [], sa, se, rfl, NOk.zero, no_wl, rfl⟩ no_wl gsn)
   (exfalso; omega)
 have ha : 0 ≤ n := Nat.zero_le n
 refine zm rfl (zq (Q.extract rfl rfl) (zq (Q.extract rfl rfl) (zq (Q.extract rfl rfl) (za rfl (za rfl (za rfl (zk (W.seq (zr (zm rfl (zq (Q.bin rfl (zi 0) rfl (bv_neq (p := false) rfl)) (zk (W.condF rfl (zw (zr (zm rfl (zq (Q.build pl53 (oPs_cons rfl oPs_nil) rfl (cs := [_, _, _, _, _]) rfl) (WO.box rfl rfl (bx53 _ rfl) rfl (fun X => za rfl (zk (W.sub (zc 8 rfl (zc 2 rfl zzn)) (zr (zm rfl ?_)))))))))))))))))))))))
 refine WO.call1 rfl (oLs_cons rfl (oLs_cons (zi 0) oLs_nil)) rfl (i := 0) rfl ((parse_all toks n hn hnl hok tb ex X hla _ 0 0 0 0 ha).1 0 (by omega) (Nat.lt_succ_self _)) (SubR.one (zt 0 rfl)) (hs' := [_, _]) rfl rfl (fun v25 D25 hP25 => ?_)
 obtain ⟨x25, hq25, a25, d25, e25, f25, rfl, nk25, nw25, p25, q25, r25, s25, rfl⟩ := hP25
 refine WO.subH (hs' := _ :: _ :: _ :: (hq25)) (SubH.of_perm (perm_tail (N := [_]) (G := hq25) (K := [_, _]) (X := []))) (WO.alloc ao26 rfl (fun b3 => WO.store sz26 rfl rfl (i := 0) rfl (by first | rfl | exact and_tt rfl ckA) (cs := [_, _, _, _, _, _, _, _, _, _, _]) rfl (hs' := _ :: _ :: _ :: _ :: _) rfl (zk (W.seqJ2 (fun (e3 : Int) (f3 : Int) => [(2, .ptr b1 0), (8, .ptr X 0), (9, .ptr b3 0)]) (fun (e3 : Int) (f3 : Int) => ⟨X, ⟨5, true, [.slice tb 0 (n + 1) 4, .int .i64 ((a25 : Nat) : Int), .int .i64 d25, .int .i64 e3, .int .i64 f3]⟩, true⟩ :: ⟨b3, ⟨11, true, nC x25⟩, true⟩ :: ⟨b1, ⟨11, true, nodeC 0 [] 0 .nils 0 0 0 .nils 0 false .nils⟩, true⟩ :: ⟨tb, ⟨4, ex, tokCs toks⟩, true⟩ :: hq25) (fun (e3 : Int) (f3 : Int) => True) (fun e3 f3 hI8 => ?_) (fun hJ8 => ?_)))))
 · refine W.seq (zr (zm rfl (zq (Q.nilP rfl) (zf fa53_3 rfl 3 (zq (Q.load1 rfl (zt 0 rfl) ag3 rfl) (zq (Q.bin rfl (zi 0) rfl (bv_neq ne_int)) (zk (W.condDS rfl (fun hc46 => ?_) (fun hc46 => ?_)))))))))
   · refine W.seq (W.regD 11 [⟨X, _, false⟩] (by kernel_rfl) (KIn.cons (zt 0 rfl) KIn.nil) (WD.q (Q.build pl26 oPs_nil rfl (cs := [_, _, _, _, _, _, _, _, _, _, _]) rfl) (by simp [AV.beq, beq1, beq0, beqL]) rfl (WD.q (Q.move rfl) bq_ptr rfl (WD.q (Q.nilP rfl) bq_ptr rfl (WD.q (Q.fieldAddr fa53_4 rfl (o' := 4) rfl) bq_ptr rfl (WD.q (Q.load1 rfl (zt 0 rfl) ag3 rfl) bq_int rfl (WD.q (Q.move rfl) bq_ptr rfl (WD.q (Q.nilP rfl) bq_ptr rfl (WD.q (Q.fieldAddr fa53_3 rfl (o' := 3) rfl) bq_ptr rfl (WD.q (Q.load1 rfl (zt 0 rfl) ag3 rfl) bq_int rfl (WD.store sz26 rfl rfl (j := 2) rfl (by first | rfl | exact and_tt rfl ckA) (cs := [_, _, _, _, _, _, _, _, _, _, _]) rfl (hs' := _ :: _ :: _ :: _ :: _) rfl (fun _ => (KIn.cons (zt 0 rfl) KIn.nil)) (WD.q (Q.assign rfl) bq_int rfl (WD.q (Q.assign rfl) bq_int rfl (WD.nil (End.K (W.sub (zc 4 rfl (zc 3 rfl (zc 2 rfl zzn))) (W.ret ?_)))))))))))))))))
     refine End.K_ret (End.ret (ResL.agg (c := [_, _, _, _, _, _, _, _, _, _, _]) rfl (zt 2 rfl) ag26 sz26 rfl (ResL.tmp rfl (z1 rfl))) (hs' := []) ⟨⟨0, [], 0, .nils, 0, 0, 0, .nils, 0, false, .nils⟩, [], f3, e3, rfl, NOk.zero, no_wl, rfl⟩ no_wl gsn)
   refine zw (zr (zq (Q.loadN rfl (zt 1 rfl) ag26 sz26 (l := [_, _, _, _, _, _, _, _, _, _, _]) rfl) (WO.store sz26 rfl rfl (i := 2) rfl (by first | rfl | exact and_tt rfl ckA) (cs := [_, _, _, _, _, _, _, _, _, _, _]) rfl (hs' := _ :: _ :: _ :: _ :: _) rfl (za (zi 0) (za (zi 0) (zk (W.ret ?_)))))))
   refine End.ret (ResL.agg (c := [_, _, _, _, _, _, _, _, _, _, _]) rfl (zt 2 rfl) ag26 sz26 rfl (ResL.tmp rfl (z1 rfl))) (hs' := hq25) ⟨x25, hq25, 0, 0, rfl, nk25, nw25, rfl⟩ nw25 gsn
 refine zr (zm rfl (zq (Q.nilP rfl) (zf fa53_3 rfl 3 (zq (Q.load1 rfl (zt 1 rfl) ag3 rfl) (zq (Q.bin rfl (zi 0) rfl (bv_eql eq_int)) (zm rfl (WO.splitD (d := 31) rfl (fun hc31 => ?_) (fun hc31 => ?_))))))))
 · refine WO.gT rfl rfl (zm rfl (WO.gT rfl rfl (WO.callV rfl (oLs_cons rfl oLs_nil) rfl (now_spec toks n hn hnl hok tb ex X a25 (by omega) d25 e25 f25) (SubR.tl SubR.two) rfl (WO.gT rfl rfl (zq (Q.field1 ft56_0 rfl rfl) (WO.gT rfl rfl (zq (Q.bin rfl (zi 6) rfl (bv_neq ne_nat)) (zq (Q.pickT rfl rfl) (zk (W.condDS rfl (fun hc36 => ?_) (fun hc36 => ?_)))))))))))
   · refine W.reg (zm rfl (zm rfl (WO.callV rfl (oLs_cons rfl oLs_nil) rfl (now_spec toks n hn hnl hok tb ex X a25 (by omega) d25 e25 f25) (SubR.tl SubR.two) rfl (zq (Q.field1 ft56_3 rfl rfl) (WO.call1 rfl (oLs_cons rfl (oLs_cons (zi 14) (oLs_cons rfl oLs_nil))) rfl (i := 1) rfl (fail_spec n tb X a25 d25 e25 f25 _ _) SubR.nil (hs' := _ :: _ :: _ :: _) rfl rfl (fun v41 D41 hP41 => ?_))))))
     obtain ⟨rfl, rfl⟩ := hP41
     refine WO.nil (End.K (W.sub (zd rfl (zd rfl (zd rfl zzn))) (W.subH gsn (hJ8 ((if e25 = 0 then (((14 : Nat) : Int)) else e25)) ((if e25 = 0 then (tg toks a25).2.2.2 else f25)) ?_))))
     exact trivial
   refine W.skip (End.K (W.sub (zd rfl (zd rfl (zd rfl zzn))) (W.subH gsn (hJ8 (e25) (f25) ?_))))
   exact trivial
 refine zg rfl rfl (zg rfl rfl (zg rfl rfl (zg rfl rfl (zq (Q.pickF rfl rfl) (zk (W.condF rfl (W.skip (End.K (W.sub (zd rfl (zd rfl (zd rfl zzn))) (W.subH gsn (hJ8 (e25) (f25) ?_)))))))))))
 exact trivial
end Go.Proofs.Ytnlnmbnopdklhaa.Ev

/- The layer's examples hold (lives). -/
namespace Go.Proofs.Ytnlnmbnopdklhaa.Ev
open Go.RowKit
set_option maxRecDepth 1000000
noncomputable def tabP : Tab := tabOf Try.prog
theorem tabP_is (J : Ctx) : TabOK Try.prog tabP J := tab_ok (by kernel_rfl) (by kernel_rfl)
theorem lives_ev : givesQ (callQ tabP (qFns tabP Try.prog.funcs.toList) 3000 300 10 [] ⟨0, .leaf⟩) (.bool true) = true := by kernel_rfl
theorem lives_any (w : World) : Calls Try.prog 10 #[] w fun e w' => e = .returned (.bool true) ∧ Below w.heap.size w w' :=
  quick_call (l := []) (tabP_is _) (qFns_ok tabP _ rfl) (v := .bool true) rfl lives_ev (.nil _) w
end Go.Proofs.Ytnlnmbnopdklhaa.Ev

/- CheckTypes, of any text: the program's type of the tree is the document's. -/
namespace Go.Proofs.Ytnlnmbnopdklhaa.Ev
open Go.RowKit
set_option linter.unusedVariables false
set_option linter.unusedSimpArgs false
set_option maxRecDepth 100000
set_option maxHeartbeats 1000000
theorem lives_spec {hs : HSt} : Spec tab 10 [] [] hs (Val (.bool true)) := Spec.known fun _ => rfl
theorem types_spec (s : List Nat) (hs : Bytes s) : Spec tab 3 [.str s] [] [] (Val (.bool true)) := by
 refine Spec.enter' (ft_get 3 Try.func3) rfl (m := 40) rfl (rs := [.tmp 2]) rfl (st := [(0, .str s)]) rfl rfl (fun _ => rfl) (fun E => zr (za rfl (zk (zr (zm rfl (WO.call0 rfl (oLs_cons rfl oLs_nil) rfl (parse_spec s hs) SubR.nil rfl (fun v12 D12 hP12 => ?_)))))))
 obtain ⟨x12, hq12, at12, e12, rfl, nk12, nw12, rfl⟩ := hP12
 refine WO.subH (hs' := (D12)) (SubH.of_perm (perm_tail (N := []) (G := D12) (K := []) (X := []))) (zm rfl (zq (Q.extract rfl rfl) (zq (Q.extract rfl rfl) (zq (Q.extract rfl rfl) (WO.alloc ao26 rfl (fun b1 => WO.store sz26 rfl rfl (i := 0) rfl (by first | rfl | exact and_tt rfl ckA) (cs := [_, _, _, _, _, _, _, _, _, _, _]) rfl (hs' := _ :: _) rfl (za rfl (za rfl (zk (W.seq (zr (zm rfl (zq (Q.bin rfl (zi 0) rfl (bv_neq ne_int)) (zk (W.condDS rfl (fun hc17 => ?_) (fun hc17 => ?_))))))))))))))))
 · refine zr (WO.callV rfl oLs_nil rfl lives_spec SubR.nil rfl (za rfl (zk (W.ret (End.K_ret (End.retV (z1 rfl) ?_))))))
   rfl
 obtain ⟨dd, hdd⟩ := nk12.nr
 obtain ⟨tt, er, hT1, hT2, _⟩ := types_eq (hs := ro D12) ro_w dd _ (hdd.mono (fun b o h => h.ro))
 refine zw (zr (zq (Q.loadN rfl (zt 0 rfl) ag26 sz26 (l := [_, _, _, _, _, _, _, _, _, _, _]) rfl) (WO.callV rfl (oLs_cons rfl oLs_nil) rfl hT1 (SubR.tl (SubR.ro (SubH.refl _))) rfl (zm rfl (zq (Q.extract rfl rfl) (zq (Q.extract rfl rfl) (za rfl (za rfl (zk (W.sub (zc 7 rfl (zc 6 rfl (zc 3 rfl zzn))) (zr (zq (Q.loadN rfl (zt 0 rfl) ag26 sz26 (l := [_, _, _, _, _, _, _, _, _, _, _]) rfl) (WO.callV rfl (oLs_cons rfl oLs_nil) rfl hT2 (SubR.tl (SubR.ro (SubH.refl _))) rfl (zm rfl (zq (Q.extract rfl rfl) (zq (Q.extract rfl rfl) (za rfl (za rfl (zk (zr (zm rfl (zm rfl (zq (Q.bin rfl rfl rfl (bv_eql eq_nat)) ?_)))))))))))))))))))))))
 refine zm rfl (WO.splitD (d := 32) rfl (fun hc32 => ?_) (fun hc32 => ?_))
 · refine WO.gT rfl rfl (zm rfl (WO.gT rfl rfl (zm rfl (WO.gT rfl rfl (zq (Q.bin rfl rfl rfl (bv_eql eq_nat)) (zq (Q.pickT rfl rfl) (zm rfl (WO.splitD (d := 37) rfl (fun hc37 => ?_) (fun hc37 => ?_)))))))))
   · refine WO.gT rfl rfl (WO.callV rfl oLs_nil rfl lives_spec SubR.nil rfl (zq (Q.pickT rfl rfl) (za rfl (zk (W.sub (zc 2 rfl zzn) (W.ret (End.retV (z1 rfl) ?_)))))))
     rfl
   exact absurd rfl hc37
 exact absurd rfl hc32

theorem orc_ok : ∀ f args h v, orc f args h = some v → ∀ M N (w0 : Base (ctxOf [])) (vs : Array Value) w, HRel M N w0 h w → LRel M args vs.toList →
    (∃ fn, Try.prog.funcs[f]? = some fn ∧ fn.body.isSome = true ∧ (fn.name == "runtime.NumGoroutine") = false) ∧
    Calls Try.prog f vs w fun e w' => ∃ u, e = .returned u ∧ VRel M v u ∧ Below w.heap.size w w' := by
  intro f args h v ho M N w0 vs w hh hr
  unfold orc at ho
  split at ho
  · rename_i hf
    have hf := Nat.eq_of_beq_eq_true hf
    subst hf
    split at ho
    rotate_left
    · cases ho
    simp only [Option.some.injEq] at ho
    subst ho
    refine ⟨⟨_, Try.func10, by kernel_rfl, by kernel_rfl⟩, ?_⟩
    obtain ⟨cs⟩ := vs
    match cs, hr with
    | [], hr =>
      refine (lives_any w).mono ?_
      rintro e w' ⟨rfl, hB⟩
      exact ⟨_, rfl, .bool _, hB⟩
    | _ :: _, hr => have := hr.1; simp at this
  · cases ho
theorem tab_is : TabOK Try.prog tab (ctxOf []) := tab_knows (tab_ok (by kernel_rfl) (by kernel_rfl)) (fun _ _ _ _ _ h => by cases h) (fun _ _ _ h => by cases h) orc_ok
/-- What is said of a function that gives a value alone holds of its calls. -/
theorem spec_call {f : Nat} {args : List AV} {v : AV} {u : Value} (h : Spec tab f args [] [] (Val v)) (hu : conT v = some u) {vs : Array Value} (hl : LRel (injOf []) args vs.toList) (w : World) :
    Calls Try.prog f vs w fun e w' => e = .returned u ∧ Below w.heap.size w w' := by
  obtain ⟨v', h', hs', ⟨K0, hE⟩, ⟨rfl, _⟩, _, _⟩ := h ⟨0, .leaf⟩ ⟨fun e he => by simp at he, List.nodup_nil, Fr.refl _ _⟩
  have hE := hE K0 (Nat.le_refl _)
  exact (closed_call tab_is hE hl w).mono fun e w' ⟨M', x, h1, _, h2, h3⟩ => ⟨by rw [h1, conT_ok hu h2], h3⟩
theorem nats_of (s : ByteArray) : Bytes (s.data.toList.map UInt8.toNat) := by
  intro c hc
  obtain ⟨b, _, rfl⟩ := List.mem_map.1 hc
  exact b.toNat_lt
theorem types_walk (s : ByteArray) (w : World) :
    Calls Try.prog 3 #[.string s] w fun e w' => e = .returned (.bool true) ∧ Below w.heap.size w w' :=
  spec_call (types_spec _ (nats_of s)) (u := .bool true) rfl (.cons (.str s _ rfl) (.nil _)) w
end Go.Proofs.Ytnlnmbnopdklhaa.Ev
