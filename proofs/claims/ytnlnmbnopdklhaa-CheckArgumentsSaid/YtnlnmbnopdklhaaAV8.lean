/- Chapter 17, walks: the document's tokens, as far as their shapes. -/
import Derived.Test.YtnlnmbnopdklhaaAV7
namespace Go.Proofs.Ytnlnmbnopdklhaa.Ev
open Go.RowKit
set_option linter.unusedVariables false
set_option linter.unusedSimpArgs false
set_option maxRecDepth 100000
set_option maxHeartbeats 1000000
section
variable {tb : Tab} {n : Nat} {E : Env} {s : St} {hs : HSt} {R : T AV → AHeap → Prop} {ops rest : List Oper} {d : Nat} {ty : TypeId} {pos : String} {aft : Array Edge} {t : TypeId}
/-- A value alone, of which something is known. -/
def ValE (P : AV → Prop) : AV → HSt → Prop := fun v D => P v ∧ D = []
theorem WO.callE {of : Operand} {args : List Operand} {ts : Array TypeId} {g : Nat} {caps l l' : List AV} {hsc : HSt} {P : AV → Prop} (hf : oL s of = some (.func g caps)) (ha : oLs s args = some l) (hl : l ++ caps = l')
    (hsp : Spec tb g l' [] hsc (ValE P)) (hsub : SubR hsc hs) (hd : Nat.blt d n = true) (hk : ∀ v, P v → WO tb n ops rest E ((d, v) :: s) hs R) :
    WO tb n ops (⟨some d, .call ⟨.value of, args.toArray, ts⟩, ty, pos, aft, none⟩ :: rest) E s hs R :=
  WO.call0 hf ha hl hsp hsub hd fun v' D ⟨h1, h2⟩ => by subst h2; exact hk _ h1
end
/-- A unit's length. -/
def unL (u : Nat) : Nat := if u = 5 then 2 else 1
def digB (c : Nat) : Bool := decide (48 ≤ c) && decide (c ≤ 57)
def hexV (c : Nat) : Int := if 48 ≤ c ∧ c ≤ 57 then (c : Int) - 48 else if 97 ≤ c ∧ c ≤ 102 then (c : Int) - 97 + 10 else -1
def letB (c : Nat) : Bool := (decide (97 ≤ c) && decide (c ≤ 122)) || (decide (65 ≤ c) && decide (c ≤ 90)) || decide (c = 95) || decide (c = 58)
theorem digit_spec (c : Nat) (hc : c < 256) : Spec tab 40 [.int .u8 ((c : Nat) : Int)] [] [] (Val (.bool (digB c))) := by
 refine Spec.enter' (ft_get 40 Try.func40) rfl (m := 9) rfl (rs := [.tmp 2]) rfl (st := [(0, .int .u8 ((c : Nat) : Int))]) rfl rfl (fun _ => rfl) (fun E => zr (za rfl (zk (zr (zm rfl (zq (Q.bin rfl (zu 48) rfl (bv_geq le_nat)) (zm rfl (WO.splitD (d := 5) rfl (fun hc5 => ?_) (fun hc5 => ?_)))))))))
 · refine WO.gT rfl rfl (zm rfl (WO.gT rfl rfl (zq (Q.bin rfl (zu 57) rfl (bv_leq le_nat)) (zq (Q.pickT rfl rfl) (za rfl (zk (W.ret (End.retV (z1 rfl) ?_))))))))
   exact bool_eq (by simp_all [digB] <;> omega)
 refine zg rfl rfl (zg rfl rfl (zq (Q.pickF rfl rfl) (za rfl (zk (W.ret (End.retV (z1 rfl) ?_))))))
 exact bool_eq (by simp_all [digB] <;> omega)

theorem letter_spec (c : Nat) (hc : c < 256) : Spec tab 39 [.int .u8 ((c : Nat) : Int)] [] [] (Val (.bool (letB c))) := by
 refine Spec.enter' (ft_get 39 Try.func39) rfl (m := 25) rfl (rs := [.tmp 2]) rfl (st := [(0, .int .u8 ((c : Nat) : Int))]) rfl rfl (fun _ => rfl) (fun E => zr (za rfl (zk (zr (zm rfl (zq (Q.bin rfl (zu 97) rfl (bv_geq le_nat)) (zm rfl (WO.splitD (d := 5) rfl (fun hc5 => ?_) (fun hc5 => ?_)))))))))
 · refine WO.gT rfl rfl (zm rfl (WO.gT rfl rfl (zq (Q.bin rfl (zu 122) rfl (bv_leq le_nat)) (zq (Q.pickT rfl rfl) (zm rfl (WO.splitD (d := 9) rfl (fun hc9 => ?_) (fun hc9 => ?_)))))))
   · refine zg rfl rfl (zg rfl rfl (zg rfl rfl (WO.gF rfl rfl (.inr rfl) rfl (WO.gF rfl rfl (.inr rfl) rfl (zg rfl rfl (zq (Q.pickT rfl rfl) (zm rfl (zg rfl rfl (zg rfl rfl (zq (Q.pickT rfl rfl) (zm rfl (zg rfl rfl (zg rfl rfl (zq (Q.pickT rfl rfl) (za rfl (zk (W.sub (zc 2 rfl zzn) (W.ret (End.retV (z1 rfl) ?_)))))))))))))))))))
     exact bool_eq (by simp_all [letB] <;> omega)
   refine WO.gT rfl rfl (zm rfl (WO.gT rfl rfl (zq (Q.bin rfl (zu 65) rfl (bv_geq le_nat)) (WO.gT rfl rfl (zm rfl (WO.splitD (d := 12) rfl (fun hc12 => ?_) (fun hc12 => ?_)))))))
   · refine WO.gT rfl rfl (zm rfl (WO.gT rfl rfl (zq (Q.bin rfl (zu 90) rfl (bv_leq le_nat)) (WO.gT rfl rfl (zq (Q.pickT rfl rfl) (zq (Q.pickF rfl rfl) (zm rfl (WO.splitD (d := 17) rfl (fun hc17 => ?_) (fun hc17 => ?_)))))))))
     · refine zg rfl rfl (zg rfl rfl (zq (Q.pickT rfl rfl) (zm rfl (zg rfl rfl (zg rfl rfl (zq (Q.pickT rfl rfl) (za rfl (zk (W.sub (zc 2 rfl zzn) (W.ret (End.retV (z1 rfl) ?_)))))))))))
       exact bool_eq (by simp_all [letB] <;> omega)
     refine WO.gT rfl rfl (zm rfl (WO.gT rfl rfl (zq (Q.bin rfl (zu 95) rfl (bv_eql eq_nat)) (zq (Q.pickF rfl rfl) (zm rfl (WO.splitD (d := 21) rfl (fun hc21 => ?_) (fun hc21 => ?_)))))))
     · refine zg rfl rfl (zg rfl rfl (zq (Q.pickT rfl rfl) (za rfl (zk (W.sub (zc 2 rfl zzn) (W.ret (End.retV (z1 rfl) ?_)))))))
       exact bool_eq (by simp_all [letB] <;> omega)
     refine WO.gT rfl rfl (zm rfl (WO.gT rfl rfl (zq (Q.bin rfl (zu 58) rfl (bv_eql eq_nat)) (zq (Q.pickF rfl rfl) (za rfl (zk (W.sub (zc 2 rfl zzn) (W.ret (End.retV (z1 rfl) ?_)))))))))
     exact bool_eq (by simp_all [letB] <;> omega)
   refine zg rfl rfl (zg rfl rfl (WO.gT rfl rfl (zq (Q.pickF rfl rfl) (zq (Q.pickF rfl rfl) (zm rfl (WO.gT rfl rfl (zm rfl (WO.gT rfl rfl (zq (Q.bin rfl (zu 95) rfl (bv_eql eq_nat)) (zq (Q.pickF rfl rfl) (zm rfl (WO.splitD (d := 21) rfl (fun hc21 => ?_) (fun hc21 => ?_)))))))))))))
   · refine zg rfl rfl (zg rfl rfl (zq (Q.pickT rfl rfl) (za rfl (zk (W.sub (zc 2 rfl zzn) (W.ret (End.retV (z1 rfl) ?_)))))))
     exact bool_eq (by simp_all [letB] <;> omega)
   refine WO.gT rfl rfl (zm rfl (WO.gT rfl rfl (zq (Q.bin rfl (zu 58) rfl (bv_eql eq_nat)) (zq (Q.pickF rfl rfl) (za rfl (zk (W.sub (zc 2 rfl zzn) (W.ret (End.retV (z1 rfl) ?_)))))))))
   exact bool_eq (by simp_all [letB] <;> omega)
 refine zg rfl rfl (zg rfl rfl (zq (Q.pickF rfl rfl) (zm rfl (WO.gT rfl rfl (zm rfl (WO.gT rfl rfl (zq (Q.bin rfl (zu 65) rfl (bv_geq le_nat)) (WO.gT rfl rfl (zm rfl (WO.splitD (d := 12) rfl (fun hc12 => ?_) (fun hc12 => ?_)))))))))))
 · refine WO.gT rfl rfl (zm rfl (WO.gT rfl rfl (zq (Q.bin rfl (zu 90) rfl (bv_leq le_nat)) (WO.gT rfl rfl (zq (Q.pickT rfl rfl) (zq (Q.pickF rfl rfl) (zm rfl (WO.splitD (d := 17) rfl (fun hc17 => ?_) (fun hc17 => ?_)))))))))
   · refine zg rfl rfl (zg rfl rfl (zq (Q.pickT rfl rfl) (zm rfl (zg rfl rfl (zg rfl rfl (zq (Q.pickT rfl rfl) (za rfl (zk (W.sub (zc 2 rfl zzn) (W.ret (End.retV (z1 rfl) ?_)))))))))))
     exact bool_eq (by simp_all [letB] <;> omega)
   refine WO.gT rfl rfl (zm rfl (WO.gT rfl rfl (zq (Q.bin rfl (zu 95) rfl (bv_eql eq_nat)) (zq (Q.pickF rfl rfl) (zm rfl (WO.splitD (d := 21) rfl (fun hc21 => ?_) (fun hc21 => ?_)))))))
   · refine zg rfl rfl (zg rfl rfl (zq (Q.pickT rfl rfl) (za rfl (zk (W.sub (zc 2 rfl zzn) (W.ret (End.retV (z1 rfl) ?_)))))))
     exact bool_eq (by simp_all [letB] <;> omega)
   refine WO.gT rfl rfl (zm rfl (WO.gT rfl rfl (zq (Q.bin rfl (zu 58) rfl (bv_eql eq_nat)) (zq (Q.pickF rfl rfl) (za rfl (zk (W.sub (zc 2 rfl zzn) (W.ret (End.retV (z1 rfl) ?_)))))))))
   exact bool_eq (by simp_all [letB] <;> omega)
 refine zg rfl rfl (zg rfl rfl (WO.gT rfl rfl (zq (Q.pickF rfl rfl) (zq (Q.pickF rfl rfl) (zm rfl (WO.gT rfl rfl (zm rfl (WO.gT rfl rfl (zq (Q.bin rfl (zu 95) rfl (bv_eql eq_nat)) (zq (Q.pickF rfl rfl) (zm rfl (WO.splitD (d := 21) rfl (fun hc21 => ?_) (fun hc21 => ?_)))))))))))))
 · refine zg rfl rfl (zg rfl rfl (zq (Q.pickT rfl rfl) (za rfl (zk (W.sub (zc 2 rfl zzn) (W.ret (End.retV (z1 rfl) ?_)))))))
   exact bool_eq (by simp_all [letB] <;> omega)
 refine WO.gT rfl rfl (zm rfl (WO.gT rfl rfl (zq (Q.bin rfl (zu 58) rfl (bv_eql eq_nat)) (zq (Q.pickF rfl rfl) (za rfl (zk (W.sub (zc 2 rfl zzn) (W.ret (End.retV (z1 rfl) ?_)))))))))
 exact bool_eq (by simp_all [letB] <;> omega)

theorem units_spec  : Spec tab 60 [] [] [] (fun v D => ∃ b1 b2, v = .tuple [.slice b1 0 6 1, .slice b2 0 6 1] ∧ D = [⟨b2, ⟨1, true, ints [604800000, 86400000, 3600000, 60000, 1000, 1]⟩, true⟩, ⟨b1, ⟨1, true, ([[119], [100], [104], [109], [115], [109, 115]] : List (List Nat)).map AV.str⟩, true⟩]) := by
 refine Spec.enter' (ft_get 60 Try.func60) rfl (m := 4) rfl (rs := [.tmp 0, .tmp 1]) rfl (st := []) rfl rfl (fun _ => rfl) (fun E => zr (za rfl (za rfl (zk (zr (WO.bslice ud23 sz9 zr9 rfl (oPs_cons (oc (v := .str [119]) (by kernel_rfl)) (oPs_cons (oc (v := .str [100]) (by kernel_rfl)) (oPs_cons (oc (v := .str [104]) (by kernel_rfl)) (oPs_cons (oc (v := .str [109]) (by kernel_rfl)) (oPs_cons (oc (v := .str [115]) (by kernel_rfl)) (oPs_cons (oc (v := .str [109, 115]) (by kernel_rfl)) oPs_nil)))))) rfl (cs := [_, _, _, _, _, _]) rfl rfl rfl (fun b1 => WO.bslice ud43 sz3 zr3 rfl (oPs_cons (zi 604800000) (oPs_cons (zi 86400000) (oPs_cons (zi 3600000) (oPs_cons (zi 60000) (oPs_cons (zi 1000) (oPs_cons (zi 1) oPs_nil)))))) rfl (cs := [_, _, _, _, _, _]) rfl rfl rfl (fun b2 => za rfl (za rfl (zk (W.ret ?_)))))))))))
 refine End.ret (ResL.tmp rfl (z1 rfl)) ⟨_, _, rfl, rfl⟩ (by intro e he; simp at he; rcases he with rfl | rfl <;> rfl) (SubH.refl _)

end Go.Proofs.Ytnlnmbnopdklhaa.Ev
