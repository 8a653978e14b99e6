/- What the tables say of types. -/
import Derived.Test.YtndhhgbpcmfeiaaGreatDoorOGb
import Derived.Test.YtndhhgbpcmfeiaaGreatDoorOAwJ
namespace Go.Proofs.YtndhhgbpcmfeiaaGreatDoor.Ev.P16
open Go.RowKit
theorem dR : aN.isAgg 112 = some true := by kernel_rfl
theorem oR : aN.isAgg 22 = some false := by kernel_rfl
theorem qA : aN.isAgg 24 = some false := by kernel_rfl
theorem bh : aN.isAgg 26 = some true := by kernel_rfl
theorem bU : aN.isAgg 3 = some false := by kernel_rfl
theorem wV : aN.isAgg 4 = some false := by kernel_rfl
theorem y5 : aN.isAgg 59 = some false := by kernel_rfl
theorem i6 : aN.isAgg 67 = some true := by kernel_rfl
theorem fW : aN.isAgg 9 = some false := by kernel_rfl
theorem iE : aN.isAgg 91 = some true := by kernel_rfl
theorem oU : AO aN 112 = some ⟨1, true, [.int .i64 0, .int .i64 0, .int .i64 0]⟩ := by kernel_rfl
theorem ia : AO aN 26 = some ⟨11, true, [.int .i64 0, .str [], .int .i64 0, .nils, .int .i64 0, .int .i64 0, .int .i64 0, .nils, .int .i64 0, .bool false, .nils]⟩ := by kernel_rfl
theorem mV : AO aN 67 = some ⟨4, true, [.int .i64 0, .str [], .int .i64 0, .int .i64 0]⟩ := by kernel_rfl
theorem GV : AO aN 91 = some ⟨3, true, [.int .i64 0, .str [], .str []]⟩ := by kernel_rfl
theorem eS : AP aN 100 100 = some 1 := by kernel_rfl
theorem rW : AP aN 22 22 = some 3 := by kernel_rfl
theorem jF : AP aN 23 23 = some 1 := by kernel_rfl
theorem wY : AP aN 24 24 = some 11 := by kernel_rfl
theorem fp : AP aN 40 40 = some 1 := by kernel_rfl
theorem wZ : AP aN 59 59 = some 4 := by kernel_rfl
theorem l0 : ∀ l : List AV, l.length = 11 -> cz aN 26 l = ⟨11, true, l⟩ := by intro l h; exact fV (by kernel_rfl) h
theorem H0 : ∀ l : List AV, l.length = 5 -> cz aN 64 l = ⟨5, true, l⟩ := by intro l h; exact fV (by kernel_rfl) h
theorem G0 : ∀ l : List AV, l.length = 3 -> cz aN 91 l = ⟨3, true, l⟩ := by intro l h; exact fV (by kernel_rfl) h
theorem ij : FA aN 26 0 = some (0, 0 + 1) := by kernel_rfl
theorem ik : FA aN 26 1 = some (1, 0 + 1) := by kernel_rfl
theorem eW : FA aN 26 10 = some (10, 0 + 1) := by kernel_rfl
theorem fQ : FA aN 26 3 = some (3, 0 + 1) := by kernel_rfl
theorem lw : FA aN 26 4 = some (4, 0 + 1) := by kernel_rfl
theorem m9 : FA aN 26 5 = some (5, 0 + 1) := by kernel_rfl
theorem il : FA aN 26 6 = some (6, 0 + 1) := by kernel_rfl
theorem fR : FA aN 26 7 = some (7, 0 + 1) := by kernel_rfl
theorem gI : FA aN 26 8 = some (8, 0 + 1) := by kernel_rfl
theorem gJ : FA aN 26 9 = some (9, 0 + 1) := by kernel_rfl
theorem na : FA aN 64 0 = some (0, 0 + 1) := by kernel_rfl
theorem aZ : FA aN 64 1 = some (1, 0 + 1) := by kernel_rfl
theorem jQ : FA aN 64 2 = some (2, 0 + 1) := by kernel_rfl
theorem dB : FA aN 64 3 = some (3, 0 + 1) := by kernel_rfl
theorem vS : FA aN 64 4 = some (4, 0 + 1) := by kernel_rfl
theorem io : FA aN 67 0 = some (0, 0 + 1) := by kernel_rfl
theorem dX : FA aN 67 1 = some (1, 0 + 1) := by kernel_rfl
theorem BJ : FA aN 67 2 = some (2, 0 + 1) := by kernel_rfl
theorem jR : FA aN 67 3 = some (3, 0 + 1) := by kernel_rfl
theorem ku : FA aN 91 0 = some (0, 0 + 1) := by kernel_rfl
theorem BK : FA aN 91 1 = some (1, 0 + 1) := by kernel_rfl
theorem nc : FA aN 91 2 = some (2, 0 + 1) := by kernel_rfl
theorem sN : FT aN 67 0 = some (0, none) := by kernel_rfl
theorem lx : FT aN 67 1 = some (1, none) := by kernel_rfl
theorem vV : FT aN 67 2 = some (2, none) := by kernel_rfl
theorem ly : FT aN 67 3 = some (3, none) := by kernel_rfl
theorem fo : PL aN 112 [.int .i64 0, .int .i64 0, .int .i64 0] [(0, 1), (1, 1), (2, 1)] = true := by kernel_rfl
theorem ka : PL aN 26 [.int .i64 0, .str [], .int .i64 0, .nils, .int .i64 0, .int .i64 0, .int .i64 0, .nils, .int .i64 0, .bool false, .nils] [(0, 1), (1, 1), (2, 1), (3, 1), (4, 1), (5, 1), (6, 1), (7, 1), (8, 1), (9, 1), (10, 1)] = true := by kernel_rfl
theorem H4 : PL aN 64 [.nils, .int .i64 0, .int .i64 0, .int .i64 0, .int .i64 0] [(0, 1), (1, 1), (2, 1), (3, 1), (4, 1)] = true := by kernel_rfl
theorem qJ : PL aN 67 [.int .i64 0, .str [], .int .i64 0, .int .i64 0] [(0, 1), (1, 1), (2, 1), (3, 1)] = true := by kernel_rfl
theorem Hn : PL aN 91 [.int .i64 0, .str [], .str []] [(0, 1), (1, 1), (2, 1)] = true := by kernel_rfl
theorem bT : aN.size 112 = some 3 := by kernel_rfl
theorem E4 : aN.size 22 = some 1 := by kernel_rfl
theorem Aw : aN.size 23 = some 1 := by kernel_rfl
theorem E5 : aN.size 24 = some 1 := by kernel_rfl
theorem aL : aN.size 26 = some 11 := by kernel_rfl
theorem di : aN.size 3 = some 1 := by kernel_rfl
theorem De : aN.size 4 = some 1 := by kernel_rfl
theorem DA : aN.size 5 = some 1 := by kernel_rfl
theorem dj : aN.size 67 = some 4 := by kernel_rfl
theorem kb : aN.size 9 = some 1 := by kernel_rfl
theorem eA : aN.size 91 = some 3 := by kernel_rfl
theorem iD : aN.und 100 = some (.slice 5) := by kernel_rfl
theorem FF : aN.und 112 = some (.array 3 3) := by kernel_rfl
theorem Hy : aN.und 188 = some (.slice 187) := by kernel_rfl
theorem jh : aN.und 22 = some (.slice 91) := by kernel_rfl
theorem dk : aN.und 23 = some (.slice 9) := by kernel_rfl
theorem ke : aN.und 24 = some (.slice 26) := by kernel_rfl
theorem DB : aN.und 3 = some (.int .i64) := by kernel_rfl
theorem GG : aN.und 4 = some .bool := by kernel_rfl
theorem bc : aN.und 40 = some (.slice 3) := by kernel_rfl
theorem AE : aN.und 5 = some (.int .u8) := by kernel_rfl
theorem uV : aN.und 59 = some (.slice 67) := by kernel_rfl
theorem bH : aN.und 9 = some .string := by kernel_rfl
theorem Fb : aN.zero 26 = some (.agg [.int .i64 0, .str [], .int .i64 0, .nils, .int .i64 0, .int .i64 0, .int .i64 0, .nils, .int .i64 0, .bool false, .nils]) := by kernel_rfl
theorem yY : aN.zero 3 = some (.int .i64 0) := by kernel_rfl
theorem DC : aN.zero 5 = some (.int .u8 0) := by kernel_rfl
theorem HA : aN.zero 67 = some (.agg [.int .i64 0, .str [], .int .i64 0, .int .i64 0]) := by kernel_rfl
theorem ve : aN.zero 9 = some (.str []) := by kernel_rfl
theorem Fc : aN.zero 91 = some (.agg [.int .i64 0, .str [], .str []]) := by kernel_rfl
set_option maxRecDepth 100000
def dn (op : List Nat) : List Nat × Nat :=
 if op = [116, 105, 109, 101] then ([], 1) else
 if op = [115, 99, 97, 108, 97, 114] then ([2], 1) else
 if op = [118, 101, 99, 116, 111, 114] then ([1], 2) else
 if op = [97, 98, 115] \/ op = [99, 101, 105, 108] \/ op = [102, 108, 111, 111, 114] \/ op = [115, 103, 110] then ([2], 2) else
 if op = [99, 108, 97, 109, 112] then ([2, 1, 1], 2) else
 if op = [99, 111, 117, 110, 116, 95, 111, 118, 101, 114, 95, 116, 105, 109, 101] \/ op = [115, 117, 109, 95, 111, 118, 101, 114, 95, 116, 105, 109, 101] \/ op = [97, 118, 103, 95, 111, 118, 101, 114, 95, 116, 105, 109, 101] \/ op = [109, 105, 110, 95, 111, 118, 101, 114, 95, 116, 105, 109, 101] \/ op = [109, 97, 120, 95, 111, 118, 101, 114, 95, 116, 105, 109, 101] \/ op = [108, 97, 115, 116, 95, 111, 118, 101, 114, 95, 116, 105, 109, 101] \/ op = [100, 101, 108, 116, 97] \/ op = [105, 110, 99, 114, 101, 97, 115, 101] \/ op = [114, 97, 116, 101] then ([3], 2) else
 ([], 0)
def pY (l : List Nat) : List AV := [.int .i64 ((l.getD 0 0 : Nat) : Int), .int .i64 ((l.getD 1 0 : Nat) : Int), .int .i64 ((l.getD 2 0 : Nat) : Int)]
theorem eH {L : List (List Nat)} {i : Nat} (h : i < L.length) : (L.map AV.str)[(0 + i) * 1]? = some (.str (L.getD i [])) := by
 rw [Nat.zero_add, Nat.mul_one, List.getElem?_map, List.getD_eq_getElem?_getD, List.getElem?_eq_getElem h]; rfl
def jg (A : List Nat) : List AV := A.map fun n => .int .i64 ((n : Nat) : Int)
def ISl (hs : ak) (A : List Nat) (v : AV) : Prop := (v = .nils /\ A = []) \/ ∃ b ex, v = .slice b 0 A.length 1 /\ MemH hs b ⟨1, ex, jg A⟩
theorem sT {hs : ak} {A : List Nat} {v : AV} {e : Nat} (h : ISl hs A v) : nx (.slice e) v = some A.length := by
 rcases h with ⟨rfl, rfl⟩ | ⟨b, ex, rfl, _⟩ <;> rfl
theorem ue {hs : ak} {A : List Nat} {v : AV} (h : ISl hs A v) (hl : 0 < A.length) : ∃ b ex, v = .slice b 0 A.length 1 /\ MemH hs b ⟨1, ex, jg A⟩ := by
 rcases h with ⟨_, rfl⟩ | h
 ·simp at hl
 ·exact h
theorem gk {A : List Nat} {i : Nat} (h : i < A.length) : (jg A)[(0 + i) * 1]? = some (.int .i64 ((A.getD i 0 : Nat) : Int)) := by
 unfold jg
 rw [Nat.zero_add, Nat.mul_one, List.getElem?_map, List.getD_eq_getElem?_getD, List.getElem?_eq_getElem h]; rfl
theorem qU (op : List Nat) (ho : Bytes op) : Spec aN 66 [.str op] [] [] (fJ (.tuple [.agg (pY (dn op).1), .int .i64 (((dn op).2 : Nat) : Int)])) := by
 refine av (cX 66 Tryz.func66) rfl (m := 35) rfl (rs := [.cell 2 112, .tmp 3]) rfl (st := [(0, .str op)]) rfl rfl (fun _ => rfl) (fun E => zr (WO.alloc oU rfl (fun b1 => za (zi 0) (zk (W.seq (zr (zm rfl (zk (W.block (zr (zq (aa rfl (oc (v := .str [116, 105, 109, 101]) (by kernel_rfl)) rfl aH) (za rfl (zk (aw rfl (fun hc5 => ?_) (fun hc5 => ?_)))))))))))))))
 ·refine zr (zq (Q.build fo aq rfl (cs := [_, _, _]) rfl) (kL bT rfl rfl (i := 0) rfl rfl rfl (hs' := [_]) rfl (za (zi 1) (zk (W.ret (ad (ac (ae (oq rfl (zt 0 rfl) dR bT rfl (z1 rfl)) ?_))))))))
  first | (subst_vars; rfl) | (simp [dn, pY, *] <;> rfl)
 refine zr (zq (aa rfl (oc (v := .str [115, 99, 97, 108, 97, 114]) (by kernel_rfl)) rfl aH) (za rfl (zk (aw rfl (fun hc8 => ?_) (fun hc8 => ?_)))))
 ·refine zr (zq (Q.build fo (bz (zi 2) aq) rfl (cs := [_, _, _]) rfl) (kL bT rfl rfl (i := 0) rfl rfl rfl (hs' := [_]) rfl (za (zi 1) (zk (W.ret (ad (ac (ae (oq rfl (zt 0 rfl) dR bT rfl (z1 rfl)) ?_))))))))
  first | (subst_vars; rfl) | (simp [dn, pY, *] <;> rfl)
 refine zr (zq (aa rfl (oc (v := .str [118, 101, 99, 116, 111, 114]) (by kernel_rfl)) rfl aH) (za rfl (zk (aw rfl (fun hc11 => ?_) (fun hc11 => ?_)))))
 ·refine zr (zq (Q.build fo (bz (zi 1) aq) rfl (cs := [_, _, _]) rfl) (kL bT rfl rfl (i := 0) rfl rfl rfl (hs' := [_]) rfl (za (zi 2) (zk (W.ret (ad (ac (ae (oq rfl (zt 0 rfl) dR bT rfl (z1 rfl)) ?_))))))))
  first | (subst_vars; rfl) | (simp [dn, pY, *] <;> rfl)
 refine W.seq (zr (zq (aa rfl (oc (v := .str [97, 98, 115]) (by kernel_rfl)) rfl aH) (za rfl (zk (aw rfl (fun hc14 => ?_) (fun hc14 => ?_))))))
 ·refine zw (au rfl (zr (zq (Q.build fo (bz (zi 2) aq) rfl (cs := [_, _, _]) rfl) (kL bT rfl rfl (i := 0) rfl rfl rfl (hs' := [_]) rfl (za (zi 2) (zk (W.ret (ad (ac (ae (oq rfl (zt 0 rfl) dR bT rfl (z1 rfl)) ?_))))))))))
  first | (subst_vars; rfl) | (simp [dn, pY, *] <;> rfl)
 refine zr (zq (aa rfl (oc (v := .str [99, 101, 105, 108]) (by kernel_rfl)) rfl aH) (za rfl (zk (aw rfl (fun hc14 => ?_) (fun hc14 => ?_)))))
 ·refine zw (au rfl (zr (zq (Q.build fo (bz (zi 2) aq) rfl (cs := [_, _, _]) rfl) (kL bT rfl rfl (i := 0) rfl rfl rfl (hs' := [_]) rfl (za (zi 2) (zk (W.ret (ad (ac (ae (oq rfl (zt 0 rfl) dR bT rfl (z1 rfl)) ?_))))))))))
  first | (subst_vars; rfl) | (simp [dn, pY, *] <;> rfl)
 refine zr (zq (aa rfl (oc (v := .str [102, 108, 111, 111, 114]) (by kernel_rfl)) rfl aH) (za rfl (zk (aw rfl (fun hc14 => ?_) (fun hc14 => ?_)))))
 ·refine zw (au rfl (zr (zq (Q.build fo (bz (zi 2) aq) rfl (cs := [_, _, _]) rfl) (kL bT rfl rfl (i := 0) rfl rfl rfl (hs' := [_]) rfl (za (zi 2) (zk (W.ret (ad (ac (ae (oq rfl (zt 0 rfl) dR bT rfl (z1 rfl)) ?_))))))))))
  first | (subst_vars; rfl) | (simp [dn, pY, *] <;> rfl)
 refine am (zq (aa rfl (oc (v := .str [115, 103, 110]) (by kernel_rfl)) rfl aH) (za rfl (zk (aw rfl (fun hc14 => ?_) (fun hc14 => ?_)))))
 ·refine zr (zq (Q.build fo (bz (zi 2) aq) rfl (cs := [_, _, _]) rfl) (kL bT rfl rfl (i := 0) rfl rfl rfl (hs' := [_]) rfl (za (zi 2) (zk (W.sub (zc 3 rfl (zc 2 rfl aI)) (W.ret (ad (ac (ae (oq rfl (zt 0 rfl) dR bT rfl (z1 rfl)) ?_)))))))))
  first | (subst_vars; rfl) | (simp [dn, pY, *] <;> rfl)
 refine zr (zq (aa rfl (oc (v := .str [99, 108, 97, 109, 112]) (by kernel_rfl)) rfl aH) (za rfl (zk (W.sub (zc 20 rfl (zc 4 rfl (zc 2 rfl aI))) (aw rfl (fun hc20 => ?_) (fun hc20 => ?_))))))
 ·refine zr (zq (Q.build fo (bz (zi 2) (bz (zi 1) (bz (zi 1) aq))) rfl (cs := [_, _, _]) rfl) (kL bT rfl rfl (i := 0) rfl rfl rfl (hs' := [_]) rfl (za (zi 2) (zk (W.ret (ad (ac (ae (oq rfl (zt 0 rfl) dR bT rfl (z1 rfl)) ?_))))))))
  first | (subst_vars; rfl) | (simp [dn, pY, *] <;> rfl)
 refine W.seq (zr (zq (aa rfl (oc (v := .str [99, 111, 117, 110, 116, 95, 111, 118, 101, 114, 95, 116, 105, 109, 101]) (by kernel_rfl)) rfl aH) (za rfl (zk (aw rfl (fun hc23 => ?_) (fun hc23 => ?_))))))
 ·refine zw (au rfl (zr (zq (Q.build fo (bz (zi 3) aq) rfl (cs := [_, _, _]) rfl) (kL bT rfl rfl (i := 0) rfl rfl rfl (hs' := [_]) rfl (za (zi 2) (zk (W.ret (ad (ac (ae (oq rfl (zt 0 rfl) dR bT rfl (z1 rfl)) ?_))))))))))
  first | (subst_vars; rfl) | (simp [dn, pY, *] <;> rfl)
 refine zr (zq (aa rfl (oc (v := .str [115, 117, 109, 95, 111, 118, 101, 114, 95, 116, 105, 109, 101]) (by kernel_rfl)) rfl aH) (za rfl (zk (aw rfl (fun hc23 => ?_) (fun hc23 => ?_)))))
 ·refine zw (au rfl (zr (zq (Q.build fo (bz (zi 3) aq) rfl (cs := [_, _, _]) rfl) (kL bT rfl rfl (i := 0) rfl rfl rfl (hs' := [_]) rfl (za (zi 2) (zk (W.ret (ad (ac (ae (oq rfl (zt 0 rfl) dR bT rfl (z1 rfl)) ?_))))))))))
  first | (subst_vars; rfl) | (simp [dn, pY, *] <;> rfl)
 refine zr (zq (aa rfl (oc (v := .str [97, 118, 103, 95, 111, 118, 101, 114, 95, 116, 105, 109, 101]) (by kernel_rfl)) rfl aH) (za rfl (zk (aw rfl (fun hc23 => ?_) (fun hc23 => ?_)))))
 ·refine zw (au rfl (zr (zq (Q.build fo (bz (zi 3) aq) rfl (cs := [_, _, _]) rfl) (kL bT rfl rfl (i := 0) rfl rfl rfl (hs' := [_]) rfl (za (zi 2) (zk (W.ret (ad (ac (ae (oq rfl (zt 0 rfl) dR bT rfl (z1 rfl)) ?_))))))))))
  first | (subst_vars; rfl) | (simp [dn, pY, *] <;> rfl)
 refine zr (zq (aa rfl (oc (v := .str [109, 105, 110, 95, 111, 118, 101, 114, 95, 116, 105, 109, 101]) (by kernel_rfl)) rfl aH) (za rfl (zk (aw rfl (fun hc23 => ?_) (fun hc23 => ?_)))))
 ·refine zw (au rfl (zr (zq (Q.build fo (bz (zi 3) aq) rfl (cs := [_, _, _]) rfl) (kL bT rfl rfl (i := 0) rfl rfl rfl (hs' := [_]) rfl (za (zi 2) (zk (W.ret (ad (ac (ae (oq rfl (zt 0 rfl) dR bT rfl (z1 rfl)) ?_))))))))))
  first | (subst_vars; rfl) | (simp [dn, pY, *] <;> rfl)
 refine zr (zq (aa rfl (oc (v := .str [109, 97, 120, 95, 111, 118, 101, 114, 95, 116, 105, 109, 101]) (by kernel_rfl)) rfl aH) (za rfl (zk (aw rfl (fun hc23 => ?_) (fun hc23 => ?_)))))
 ·refine zw (au rfl (zr (zq (Q.build fo (bz (zi 3) aq) rfl (cs := [_, _, _]) rfl) (kL bT rfl rfl (i := 0) rfl rfl rfl (hs' := [_]) rfl (za (zi 2) (zk (W.ret (ad (ac (ae (oq rfl (zt 0 rfl) dR bT rfl (z1 rfl)) ?_))))))))))
  first | (subst_vars; rfl) | (simp [dn, pY, *] <;> rfl)
 refine zr (zq (aa rfl (oc (v := .str [108, 97, 115, 116, 95, 111, 118, 101, 114, 95, 116, 105, 109, 101]) (by kernel_rfl)) rfl aH) (za rfl (zk (aw rfl (fun hc23 => ?_) (fun hc23 => ?_)))))
 ·refine zw (au rfl (zr (zq (Q.build fo (bz (zi 3) aq) rfl (cs := [_, _, _]) rfl) (kL bT rfl rfl (i := 0) rfl rfl rfl (hs' := [_]) rfl (za (zi 2) (zk (W.ret (ad (ac (ae (oq rfl (zt 0 rfl) dR bT rfl (z1 rfl)) ?_))))))))))
  first | (subst_vars; rfl) | (simp [dn, pY, *] <;> rfl)
 refine zr (zq (aa rfl (oc (v := .str [100, 101, 108, 116, 97]) (by kernel_rfl)) rfl aH) (za rfl (zk (aw rfl (fun hc23 => ?_) (fun hc23 => ?_)))))
 ·refine zw (au rfl (zr (zq (Q.build fo (bz (zi 3) aq) rfl (cs := [_, _, _]) rfl) (kL bT rfl rfl (i := 0) rfl rfl rfl (hs' := [_]) rfl (za (zi 2) (zk (W.ret (ad (ac (ae (oq rfl (zt 0 rfl) dR bT rfl (z1 rfl)) ?_))))))))))
  first | (subst_vars; rfl) | (simp [dn, pY, *] <;> rfl)
 refine zr (zq (aa rfl (oc (v := .str [105, 110, 99, 114, 101, 97, 115, 101]) (by kernel_rfl)) rfl aH) (za rfl (zk (aw rfl (fun hc23 => ?_) (fun hc23 => ?_)))))
 ·refine zw (au rfl (zr (zq (Q.build fo (bz (zi 3) aq) rfl (cs := [_, _, _]) rfl) (kL bT rfl rfl (i := 0) rfl rfl rfl (hs' := [_]) rfl (za (zi 2) (zk (W.ret (ad (ac (ae (oq rfl (zt 0 rfl) dR bT rfl (z1 rfl)) ?_))))))))))
  first | (subst_vars; rfl) | (simp [dn, pY, *] <;> rfl)
 refine am (zq (aa rfl (oc (v := .str [114, 97, 116, 101]) (by kernel_rfl)) rfl aH) (za rfl (zk (aw rfl (fun hc23 => ?_) (fun hc23 => ?_)))))
 ·refine zr (zq (Q.build fo (bz (zi 3) aq) rfl (cs := [_, _, _]) rfl) (kL bT rfl rfl (i := 0) rfl rfl rfl (hs' := [_]) rfl (za (zi 2) (zk (W.ret (ad (ac (ae (oq rfl (zt 0 rfl) dR bT rfl (z1 rfl)) ?_))))))))
  first | (subst_vars; rfl) | (simp [dn, pY, *] <;> rfl)
 refine W.skip (End.KB (End.K (zr (zq (Q.build fo aq rfl (cs := [_, _, _]) rfl) (kL bT rfl rfl (i := 0) rfl rfl rfl (hs' := [_]) rfl (za (zi 0) (zk (W.ret (ae (oq rfl (zt 0 rfl) dR bT rfl (z1 rfl)) ?_)))))))))
 first | (subst_vars; rfl) | (simp [dn, pY, *] <;> rfl)

def bW (op : List Nat) (md sd : Int) (bl : Bool) (a b : Nat) : Nat :=
 if a = 3 \/ b = 3 \/ (md ≠ 0 /\ ¬ (a = 2 /\ b = 2)) then 0
 else if op ∈ ([[97, 110, 100], [111, 114], [117, 110, 108, 101, 115, 115]] : List (List Nat)) then (if a = 2 /\ b = 2 /\ sd = 0 then 2 else 0)
 else if a = 1 /\ b = 1 then (if bl = true \/ ¬ op ∈ ([[61, 61], [33, 61], [60, 61], [62, 61], [60], [62]] : List (List Nat)) then 1 else 0)
 else 2
def ce (op : List Nat) (sd : Int) (bl vs ss : Bool) : Nat :=
 if op ∈ ([[97, 110, 100], [111, 114], [117, 110, 108, 101, 115, 115]] : List (List Nat)) then (if vs = true /\ sd = 0 then 2 else 0)
 else if ss = true then (if bl = true \/ ¬ op ∈ ([[61, 61], [33, 61], [60, 61], [62, 61], [60], [62]] : List (List Nat)) then 1 else 0)
 else 2
theorem bF {op : List Nat} {md sd : Int} {bl vs ss : Bool} {a b : Nat} (hv : vs = true ↔ a = 2 /\ b = 2) (hs : ss = true ↔ a = 1 /\ b = 1) (h3a : a ≠ 3) (h3b : b ≠ 3) (hmv : md = 0 \/ vs = true) : bW op md sd bl a b = ce op sd bl vs ss := by
 unfold bW ce
 rw [if_neg (by rintro (h | h | ⟨h, g⟩); exact h3a h; exact h3b h; exact hmv.elim h fun q => g (hv.1 q))]
 simp only [hv, hs, and_assoc]
def lF (op : List Nat) (md sd : Int) (bl : Bool) (a b : Nat) : Nat × Bool :=
 if a = 3 \/ b = 3 \/ (md ≠ 0 /\ ¬ (a = 2 /\ b = 2)) then (0, false)
 else if op ∈ ([[97, 110, 100], [111, 114], [117, 110, 108, 101, 115, 115]] : List (List Nat)) then (2, decide (a = 2 /\ b = 2 /\ sd = 0))
 else if a = 1 /\ b = 1 then (1, bl || !decide (op ∈ ([[61, 61], [33, 61], [60, 61], [62, 61], [60], [62]] : List (List Nat))))
 else (2, true)
theorem bV {k : Int} {op : List Nat} {n : Int} {ms : AV} {rg off md : Int} {nm : AV} {sd : Int} {bl : Bool} {kd : AV} (hms : ms.isCell = true) (hnm : nm.isCell = true) (hkd : kd.isCell = true) :
  (AV.agg (bS k op n ms rg off md nm sd bl kd)).cells.all AV.isCell = true := by
 show (bS k op n ms rg off md nm sd bl kd).all AV.isCell = true
 simp only [bS, List.all_cons, List.all_nil, hms, hnm, hkd]
 rfl
theorem Ae (k : Int) (op : List Nat) (ho : Bytes op) (n : Int) (ms : AV) (rg off md : Int) (nm : AV) (sd : Int) (bl : Bool) (kd : AV) (hms : ms.isCell = true) (hnm : nm.isCell = true) (hkd : kd.isCell = true) (a b : Nat) (ha : 1 <= a /\ a <= 3) (hb : 1 <= b /\ b <= 3) : Spec aN 102 [.agg (bS k op n ms rg off md nm sd bl kd), .int .i64 ((a : Nat) : Int), .int .i64 ((b : Nat) : Int)] [] [] (fJ (.int .i64 ((bW op md sd bl a b : Nat) : Int))) := by
 refine av (cX 102 Tryz.func102) rfl (m := 63) rfl (rs := [.tmp 6]) rfl (st := [(0, .agg (bS k op n ms rg off md nm sd bl kd)), (1, .int .i64 ((a : Nat) : Int)), (2, .int .i64 ((b : Nat) : Int))]) rfl rfl (fun _ => rfl) (fun E => zr (WO.box rfl (bV hms hnm hkd) (l0 _ rfl) rfl (fun b1 => za (zi 0) (zk (lU (fun (vs : Bool) (ss : Bool) => [(1, .int .i64 ((a : Nat) : Int)), (2, .int .i64 ((b : Nat) : Int)), (3, .ptr b1 0), (7, .bool vs), (8, .bool ss)]) (fun (vs : Bool) (ss : Bool) => (vs = true ↔ a = 2 /\ b = 2) /\ (ss = true ↔ a = 1 /\ b = 1)) (fun vs ss hI2 => ?_) (fun hJ2 => ?_))))))
 ·obtain ⟨hv, hs⟩ := hI2
  refine lU (fun (vs : Bool) (ss : Bool) => [(3, .ptr b1 0), (7, .bool vs), (8, .bool ss)]) (fun (vs : Bool) (ss : Bool) => (vs = true ↔ a = 2 /\ b = 2) /\ (ss = true ↔ a = 1 /\ b = 1) /\ a ≠ 3 /\ b ≠ 3 /\ (md = 0 \/ vs = true)) (fun vs ss hI4 => ?_) (fun hJ4 => ?_)
  ·obtain ⟨hv, hs, h3a, h3b, hmv⟩ := hI4
   refine W.seq (zr (zf ik rfl 1 (zq (ap rfl (zt 0 rfl) fW rfl) (zk (W.block (W.seq (W.block (W.seq (W.block (W.seq (W.block (W.seq (W.seq (W.seq (zr (zq (aa rfl (oc (v := .str [97, 110, 100]) (by kernel_rfl)) rfl aH) (za rfl (zk (aw rfl (fun hc38 => ?_) (fun hc38 => ?_))))))))))))))))))))
   ·refine zw (au rfl (W.exit (aC (aC (aB (End.K (W.seq (W.seq (zr (zm rfl (zq (Q.not rfl rfl) (zm rfl (WO.split (d := 51) rfl (fun hc51 => ?_) (fun hc51 => ?_))))))))))))))
    ·refine z2 (zG (zq (aj rfl rfl) (zk (au rfl (zr (za (zi 0) (zk (W.sub (zc 6 rfl aI) (W.ret (ac (ac (ad (ac (ad (ac (ad (ac (ae (z1 rfl) ?_))))))))))))))))))
     (first | (rw [bF hv hs h3a h3b hmv]; unfold ce; simp_all [ah]; done) | (unfold bW; simp_all [ah]; done))
    refine zT (zf gI rfl 8 (zT (zq (ap rfl (zt 0 rfl) bU rfl) (zT (zq (aa rfl (zi 0) rfl (aR cP)) (zq (ax rfl rfl) (zk (aw rfl (fun hc55 => ?_) (fun hc55 => ?_)))))))))
    ·refine zr (za (zi 0) (zk (W.sub (zc 6 rfl aI) (W.ret (ac (ac (ad (ac (ad (ac (ad (ac (ae (z1 rfl) ?_)))))))))))))
     (first | (rw [bF hv hs h3a h3b hmv]; unfold ce; simp_all [ah]; done) | (unfold bW; simp_all [ah]; done))
    refine zw (W.sub aI (zr (za (zi 2) (zk (W.ret (ac (ad (ac (ad (ac (ad (ac (ae (z1 rfl) ?_)))))))))))))
    (first | (rw [bF hv hs h3a h3b hmv]; unfold ce; simp_all [ah]; done) | (unfold bW; simp_all [ah]; done))
   refine zr (zq (aa rfl (oc (v := .str [111, 114]) (by kernel_rfl)) rfl aH) (za rfl (zk (aw rfl (fun hc38 => ?_) (fun hc38 => ?_)))))
   ·refine zw (au rfl (W.exit (aC (aC (aB (End.K (W.seq (W.seq (zr (zm rfl (zq (Q.not rfl rfl) (zm rfl (WO.split (d := 51) rfl (fun hc51 => ?_) (fun hc51 => ?_))))))))))))))
    ·refine z2 (zG (zq (aj rfl rfl) (zk (W.sub (zc 55 rfl aI) (au rfl (zr (za (zi 0) (zk (W.ret (ac (ac (ad (ac (ad (ac (ad (ac (ae (z1 rfl) ?_))))))))))))))))))
     (first | (rw [bF hv hs h3a h3b hmv]; unfold ce; simp_all [ah]; done) | (unfold bW; simp_all [ah]; done))
    refine zT (zf gI rfl 8 (zT (zq (ap rfl (zt 0 rfl) bU rfl) (zT (zq (aa rfl (zi 0) rfl (aR cP)) (zq (ax rfl rfl) (zk (W.sub (zc 55 rfl aI) (aw rfl (fun hc55 => ?_) (fun hc55 => ?_))))))))))
    ·refine zr (za (zi 0) (zk (W.ret (ac (ac (ad (ac (ad (ac (ad (ac (ae (z1 rfl) ?_))))))))))))
     (first | (rw [bF hv hs h3a h3b hmv]; unfold ce; simp_all [ah]; done) | (unfold bW; simp_all [ah]; done))
    refine zw (zr (za (zi 2) (zk (W.ret (ac (ad (ac (ad (ac (ad (ac (ae (z1 rfl) ?_))))))))))))
    (first | (rw [bF hv hs h3a h3b hmv]; unfold ce; simp_all [ah]; done) | (unfold bW; simp_all [ah]; done))
   refine am (zq (aa rfl (oc (v := .str [117, 110, 108, 101, 115, 115]) (by kernel_rfl)) rfl aH) (za rfl (zk (aw rfl (fun hc38 => ?_) (fun hc38 => ?_)))))
   ·refine W.exit (aC (aC (aB (End.K (W.seq (W.seq (zr (zm rfl (zq (Q.not rfl rfl) (zm rfl (WO.split (d := 51) rfl (fun hc51 => ?_) (fun hc51 => ?_))))))))))))
    ·refine z2 (zG (zq (aj rfl rfl) (zk (W.sub (zc 55 rfl aI) (au rfl (zr (za (zi 0) (zk (W.ret (ac (ac (ad (ac (ad (ac (ad (ac (ae (z1 rfl) ?_))))))))))))))))))
     (first | (rw [bF hv hs h3a h3b hmv]; unfold ce; simp_all [ah]; done) | (unfold bW; simp_all [ah]; done))
    refine zT (zf gI rfl 8 (zT (zq (ap rfl (zt 0 rfl) bU rfl) (zT (zq (aa rfl (zi 0) rfl (aR cP)) (zq (ax rfl rfl) (zk (W.sub (zc 55 rfl aI) (aw rfl (fun hc55 => ?_) (fun hc55 => ?_))))))))))
    ·refine zr (za (zi 0) (zk (W.ret (ac (ac (ad (ac (ad (ac (ad (ac (ae (z1 rfl) ?_))))))))))))
     (first | (rw [bF hv hs h3a h3b hmv]; unfold ce; simp_all [ah]; done) | (unfold bW; simp_all [ah]; done))
    refine zw (zr (za (zi 2) (zk (W.ret (ac (ad (ac (ad (ac (ad (ac (ae (z1 rfl) ?_))))))))))))
    (first | (rw [bF hv hs h3a h3b hmv]; unfold ce; simp_all [ah]; done) | (unfold bW; simp_all [ah]; done))
   refine zw (W.seq (zr (zq (aa rfl (oc (v := .str [61, 61]) (by kernel_rfl)) rfl aH) (za rfl (zk (aw rfl (fun hc42 => ?_) (fun hc42 => ?_)))))))
   ·refine zw (au rfl (W.exit (aC (dl rfl (aC (aB (End.K (zr (zm rfl (zm rfl (WO.split (d := 57) rfl (fun hc57 => ?_) (fun hc57 => ?_))))))))))))
    ·refine zT (zf gJ rfl 9 (zT (zq (ap rfl (zt 0 rfl) wV rfl) (zT (zq (Q.not rfl rfl) (zq (aj rfl rfl) (zk (W.sub (zc 61 rfl (zc 8 rfl aI)) (aE rfl (fun hc61 => ?_) (fun hc61 => ?_))))))))))
     ·refine zr (za (zi 0) (zk (W.ret (ad (ac (ad (ac (ae (z1 rfl) ?_))))))))
      (first | (rw [bF hv hs h3a h3b hmv]; unfold ce; simp_all [ah]; done) | (unfold bW; simp_all [ah]; done))
     refine W.skip (End.KB (End.K (W.seq (zr (zm rfl (zk (aE rfl (fun hc62 => ?_) (fun hc62 => ?_))))))))
     ·refine zr (za (zi 1) (zk (W.ret (ac (ad (ac (ae (z1 rfl) ?_)))))))
      (first | (rw [bF hv hs h3a h3b hmv]; unfold ce; simp_all [ah]; done) | (unfold bW; simp_all [ah]; done))
     refine zw (W.exit (aB (End.K (zr (za (zi 2) (zk (W.ret (ae (z1 rfl) ?_))))))))
     (first | (rw [bF hv hs h3a h3b hmv]; unfold ce; simp_all [ah]; done) | (unfold bW; simp_all [ah]; done))
    refine z2 (zG (zq (ax rfl rfl) (zk (W.sub (zc 61 rfl (zc 8 rfl aI)) (az rfl (W.skip (End.KB (End.K (W.seq (zr (zm rfl (zk (aE rfl (fun hc62 => ?_) (fun hc62 => ?_))))))))))))))
    ·refine zr (za (zi 1) (zk (W.ret (ac (ad (ac (ae (z1 rfl) ?_)))))))
     (first | (rw [bF hv hs h3a h3b hmv]; unfold ce; simp_all [ah]; done) | (unfold bW; simp_all [ah]; done))
    refine zw (W.exit (aB (End.K (zr (za (zi 2) (zk (W.ret (ae (z1 rfl) ?_))))))))
    (first | (rw [bF hv hs h3a h3b hmv]; unfold ce; simp_all [ah]; done) | (unfold bW; simp_all [ah]; done))
   refine zr (zq (aa rfl (oc (v := .str [33, 61]) (by kernel_rfl)) rfl aH) (za rfl (zk (aw rfl (fun hc42 => ?_) (fun hc42 => ?_)))))
   ·refine zw (au rfl (W.exit (aC (dl rfl (aC (aB (End.K (zr (zm rfl (zm rfl (WO.split (d := 57) rfl (fun hc57 => ?_) (fun hc57 => ?_))))))))))))
    ·refine zT (zf gJ rfl 9 (zT (zq (ap rfl (zt 0 rfl) wV rfl) (zT (zq (Q.not rfl rfl) (zq (aj rfl rfl) (zk (W.sub (zc 61 rfl (zc 8 rfl aI)) (aE rfl (fun hc61 => ?_) (fun hc61 => ?_))))))))))
     ·refine zr (za (zi 0) (zk (W.ret (ad (ac (ad (ac (ae (z1 rfl) ?_))))))))
      (first | (rw [bF hv hs h3a h3b hmv]; unfold ce; simp_all [ah]; done) | (unfold bW; simp_all [ah]; done))
     refine W.skip (End.KB (End.K (W.seq (zr (zm rfl (zk (aE rfl (fun hc62 => ?_) (fun hc62 => ?_))))))))
     ·refine zr (za (zi 1) (zk (W.ret (ac (ad (ac (ae (z1 rfl) ?_)))))))
      (first | (rw [bF hv hs h3a h3b hmv]; unfold ce; simp_all [ah]; done) | (unfold bW; simp_all [ah]; done))
     refine zw (W.exit (aB (End.K (zr (za (zi 2) (zk (W.ret (ae (z1 rfl) ?_))))))))
     (first | (rw [bF hv hs h3a h3b hmv]; unfold ce; simp_all [ah]; done) | (unfold bW; simp_all [ah]; done))
    refine z2 (zG (zq (ax rfl rfl) (zk (W.sub (zc 61 rfl (zc 8 rfl aI)) (az rfl (W.skip (End.KB (End.K (W.seq (zr (zm rfl (zk (aE rfl (fun hc62 => ?_) (fun hc62 => ?_))))))))))))))
    ·refine zr (za (zi 1) (zk (W.ret (ac (ad (ac (ae (z1 rfl) ?_)))))))
     (first | (rw [bF hv hs h3a h3b hmv]; unfold ce; simp_all [ah]; done) | (unfold bW; simp_all [ah]; done))
    refine zw (W.exit (aB (End.K (zr (za (zi 2) (zk (W.ret (ae (z1 rfl) ?_))))))))
    (first | (rw [bF hv hs h3a h3b hmv]; unfold ce; simp_all [ah]; done) | (unfold bW; simp_all [ah]; done))
   refine zr (zq (aa rfl (oc (v := .str [60, 61]) (by kernel_rfl)) rfl aH) (za rfl (zk (aw rfl (fun hc42 => ?_) (fun hc42 => ?_)))))
   ·refine zw (au rfl (W.exit (aC (dl rfl (aC (aB (End.K (zr (zm rfl (zm rfl (WO.split (d := 57) rfl (fun hc57 => ?_) (fun hc57 => ?_))))))))))))
    ·refine zT (zf gJ rfl 9 (zT (zq (ap rfl (zt 0 rfl) wV rfl) (zT (zq (Q.not rfl rfl) (zq (aj rfl rfl) (zk (W.sub (zc 61 rfl (zc 8 rfl aI)) (aE rfl (fun hc61 => ?_) (fun hc61 => ?_))))))))))
     ·refine zr (za (zi 0) (zk (W.ret (ad (ac (ad (ac (ae (z1 rfl) ?_))))))))
      (first | (rw [bF hv hs h3a h3b hmv]; unfold ce; simp_all [ah]; done) | (unfold bW; simp_all [ah]; done))
     refine W.skip (End.KB (End.K (W.seq (zr (zm rfl (zk (aE rfl (fun hc62 => ?_) (fun hc62 => ?_))))))))
     ·refine zr (za (zi 1) (zk (W.ret (ac (ad (ac (ae (z1 rfl) ?_)))))))
      (first | (rw [bF hv hs h3a h3b hmv]; unfold ce; simp_all [ah]; done) | (unfold bW; simp_all [ah]; done))
     refine zw (W.exit (aB (End.K (zr (za (zi 2) (zk (W.ret (ae (z1 rfl) ?_))))))))
     (first | (rw [bF hv hs h3a h3b hmv]; unfold ce; simp_all [ah]; done) | (unfold bW; simp_all [ah]; done))
    refine z2 (zG (zq (ax rfl rfl) (zk (W.sub (zc 61 rfl (zc 8 rfl aI)) (az rfl (W.skip (End.KB (End.K (W.seq (zr (zm rfl (zk (aE rfl (fun hc62 => ?_) (fun hc62 => ?_))))))))))))))
    ·refine zr (za (zi 1) (zk (W.ret (ac (ad (ac (ae (z1 rfl) ?_)))))))
     (first | (rw [bF hv hs h3a h3b hmv]; unfold ce; simp_all [ah]; done) | (unfold bW; simp_all [ah]; done))
    refine zw (W.exit (aB (End.K (zr (za (zi 2) (zk (W.ret (ae (z1 rfl) ?_))))))))
    (first | (rw [bF hv hs h3a h3b hmv]; unfold ce; simp_all [ah]; done) | (unfold bW; simp_all [ah]; done))
   refine zr (zq (aa rfl (oc (v := .str [62, 61]) (by kernel_rfl)) rfl aH) (za rfl (zk (aw rfl (fun hc42 => ?_) (fun hc42 => ?_)))))
   ·refine zw (au rfl (W.exit (aC (dl rfl (aC (aB (End.K (zr (zm rfl (zm rfl (WO.split (d := 57) rfl (fun hc57 => ?_) (fun hc57 => ?_))))))))))))
    ·refine zT (zf gJ rfl 9 (zT (zq (ap rfl (zt 0 rfl) wV rfl) (zT (zq (Q.not rfl rfl) (zq (aj rfl rfl) (zk (W.sub (zc 61 rfl (zc 8 rfl aI)) (aE rfl (fun hc61 => ?_) (fun hc61 => ?_))))))))))
     ·refine zr (za (zi 0) (zk (W.ret (ad (ac (ad (ac (ae (z1 rfl) ?_))))))))
      (first | (rw [bF hv hs h3a h3b hmv]; unfold ce; simp_all [ah]; done) | (unfold bW; simp_all [ah]; done))
     refine W.skip (End.KB (End.K (W.seq (zr (zm rfl (zk (aE rfl (fun hc62 => ?_) (fun hc62 => ?_))))))))
     ·refine zr (za (zi 1) (zk (W.ret (ac (ad (ac (ae (z1 rfl) ?_)))))))
      (first | (rw [bF hv hs h3a h3b hmv]; unfold ce; simp_all [ah]; done) | (unfold bW; simp_all [ah]; done))
     refine zw (W.exit (aB (End.K (zr (za (zi 2) (zk (W.ret (ae (z1 rfl) ?_))))))))
     (first | (rw [bF hv hs h3a h3b hmv]; unfold ce; simp_all [ah]; done) | (unfold bW; simp_all [ah]; done))
    refine z2 (zG (zq (ax rfl rfl) (zk (W.sub (zc 61 rfl (zc 8 rfl aI)) (az rfl (W.skip (End.KB (End.K (W.seq (zr (zm rfl (zk (aE rfl (fun hc62 => ?_) (fun hc62 => ?_))))))))))))))
    ·refine zr (za (zi 1) (zk (W.ret (ac (ad (ac (ae (z1 rfl) ?_)))))))
     (first | (rw [bF hv hs h3a h3b hmv]; unfold ce; simp_all [ah]; done) | (unfold bW; simp_all [ah]; done))
    refine zw (W.exit (aB (End.K (zr (za (zi 2) (zk (W.ret (ae (z1 rfl) ?_))))))))
    (first | (rw [bF hv hs h3a h3b hmv]; unfold ce; simp_all [ah]; done) | (unfold bW; simp_all [ah]; done))
   refine zr (zq (aa rfl (oc (v := .str [60]) (by kernel_rfl)) rfl aH) (za rfl (zk (aw rfl (fun hc42 => ?_) (fun hc42 => ?_)))))
   ·refine zw (au rfl (W.exit (aC (dl rfl (aC (aB (End.K (zr (zm rfl (zm rfl (WO.split (d := 57) rfl (fun hc57 => ?_) (fun hc57 => ?_))))))))))))
    ·refine zT (zf gJ rfl 9 (zT (zq (ap rfl (zt 0 rfl) wV rfl) (zT (zq (Q.not rfl rfl) (zq (aj rfl rfl) (zk (W.sub (zc 61 rfl (zc 8 rfl aI)) (aE rfl (fun hc61 => ?_) (fun hc61 => ?_))))))))))
     ·refine zr (za (zi 0) (zk (W.ret (ad (ac (ad (ac (ae (z1 rfl) ?_))))))))
      (first | (rw [bF hv hs h3a h3b hmv]; unfold ce; simp_all [ah]; done) | (unfold bW; simp_all [ah]; done))
     refine W.skip (End.KB (End.K (W.seq (zr (zm rfl (zk (aE rfl (fun hc62 => ?_) (fun hc62 => ?_))))))))
     ·refine zr (za (zi 1) (zk (W.ret (ac (ad (ac (ae (z1 rfl) ?_)))))))
      (first | (rw [bF hv hs h3a h3b hmv]; unfold ce; simp_all [ah]; done) | (unfold bW; simp_all [ah]; done))
     refine zw (W.exit (aB (End.K (zr (za (zi 2) (zk (W.ret (ae (z1 rfl) ?_))))))))
     (first | (rw [bF hv hs h3a h3b hmv]; unfold ce; simp_all [ah]; done) | (unfold bW; simp_all [ah]; done))
    refine z2 (zG (zq (ax rfl rfl) (zk (W.sub (zc 61 rfl (zc 8 rfl aI)) (az rfl (W.skip (End.KB (End.K (W.seq (zr (zm rfl (zk (aE rfl (fun hc62 => ?_) (fun hc62 => ?_))))))))))))))
    ·refine zr (za (zi 1) (zk (W.ret (ac (ad (ac (ae (z1 rfl) ?_)))))))
     (first | (rw [bF hv hs h3a h3b hmv]; unfold ce; simp_all [ah]; done) | (unfold bW; simp_all [ah]; done))
    refine zw (W.exit (aB (End.K (zr (za (zi 2) (zk (W.ret (ae (z1 rfl) ?_))))))))
    (first | (rw [bF hv hs h3a h3b hmv]; unfold ce; simp_all [ah]; done) | (unfold bW; simp_all [ah]; done))
   refine am (zq (aa rfl (oc (v := .str [62]) (by kernel_rfl)) rfl aH) (za rfl (zk (aw rfl (fun hc42 => ?_) (fun hc42 => ?_)))))
   ·refine W.exit (aC (dl rfl (aC (aB (End.K (W.sub (zc 3 rfl (zc 8 rfl aI)) (zr (zm rfl (zm rfl (WO.split (d := 57) rfl (fun hc57 => ?_) (fun hc57 => ?_)))))))))))
    ·refine zT (zf gJ rfl 9 (zT (zq (ap rfl (zt 0 rfl) wV rfl) (zT (zq (Q.not rfl rfl) (zq (aj rfl rfl) (zk (aE rfl (fun hc61 => ?_) (fun hc61 => ?_)))))))))
     ·refine zr (za (zi 0) (zk (W.ret (ad (ac (ad (ac (ae (z1 rfl) ?_))))))))
      (first | (rw [bF hv hs h3a h3b hmv]; unfold ce; simp_all [ah]; done) | (unfold bW; simp_all [ah]; done))
     refine W.skip (End.KB (End.K (W.seq (zr (zm rfl (zk (aE rfl (fun hc62 => ?_) (fun hc62 => ?_))))))))
     ·refine zr (za (zi 1) (zk (W.ret (ac (ad (ac (ae (z1 rfl) ?_)))))))
      (first | (rw [bF hv hs h3a h3b hmv]; unfold ce; simp_all [ah]; done) | (unfold bW; simp_all [ah]; done))
     refine zw (W.exit (aB (End.K (zr (za (zi 2) (zk (W.ret (ae (z1 rfl) ?_))))))))
     (first | (rw [bF hv hs h3a h3b hmv]; unfold ce; simp_all [ah]; done) | (unfold bW; simp_all [ah]; done))
    refine z2 (zG (zq (ax rfl rfl) (zk (az rfl (W.skip (End.KB (End.K (W.seq (zr (zm rfl (zk (aE rfl (fun hc62 => ?_) (fun hc62 => ?_)))))))))))))
    ·refine zr (za (zi 1) (zk (W.ret (ac (ad (ac (ae (z1 rfl) ?_)))))))
     (first | (rw [bF hv hs h3a h3b hmv]; unfold ce; simp_all [ah]; done) | (unfold bW; simp_all [ah]; done))
    refine zw (W.exit (aB (End.K (zr (za (zi 2) (zk (W.ret (ae (z1 rfl) ?_))))))))
    (first | (rw [bF hv hs h3a h3b hmv]; unfold ce; simp_all [ah]; done) | (unfold bW; simp_all [ah]; done))
   refine zw (W.sub (zc 8 rfl aI) (W.exit (dl rfl (aC (dl rfl (aC (aB (End.K (W.seq (zr (zm rfl (zk (aE rfl (fun hc62 => ?_) (fun hc62 => ?_))))))))))))))
   ·refine zr (za (zi 1) (zk (W.ret (ac (ad (ac (ae (z1 rfl) ?_)))))))
    (first | (rw [bF hv hs h3a h3b hmv]; unfold ce; simp_all [ah]; done) | (unfold bW; simp_all [ah]; done))
   refine zw (W.exit (aB (End.K (zr (za (zi 2) (zk (W.ret (ae (z1 rfl) ?_))))))))
   (first | (rw [bF hv hs h3a h3b hmv]; unfold ce; simp_all [ah]; done) | (unfold bW; simp_all [ah]; done))
  refine zr (zm rfl (zq (aa rfl (zi 3) rfl (ag aA)) (zm rfl (ay (d := 23) rfl (fun hc23 => ?_) (fun hc23 => ?_)))))
  ·refine z2 (zq (aj rfl rfl) (zm rfl (z2 (z2 (WO.gF rfl rfl (.inr rfl) rfl (WO.gF rfl rfl (.inr rfl) rfl (zG (zq (aj rfl rfl) (zk (W.sub (zc 35 rfl (zc 3 rfl (zc 7 rfl (zc 8 rfl aI)))) (au rfl (zr (za (zi 0) (zk (W.ret (ac (ae (z1 rfl) ?_)))))))))))))))))
   (first | (rw [bF hv hs h3a h3b hmv]; unfold ce; simp_all [ah]; done) | (unfold bW; simp_all [ah]; done))
  refine zT (zm rfl (zT (zq (aa rfl (zi 3) rfl (ag aA)) (zq (ax rfl rfl) (zm rfl (ay (d := 27) rfl (fun hc27 => ?_) (fun hc27 => ?_)))))))
  ·refine z2 (z2 (WO.gF rfl rfl (.inr rfl) rfl (WO.gF rfl rfl (.inr rfl) rfl (zG (zq (aj rfl rfl) (zk (W.sub (zc 35 rfl (zc 3 rfl (zc 7 rfl (zc 8 rfl aI)))) (au rfl (zr (za (zi 0) (zk (W.ret (ac (ae (z1 rfl) ?_))))))))))))))
   (first | (rw [bF hv hs h3a h3b hmv]; unfold ce; simp_all [ah]; done) | (unfold bW; simp_all [ah]; done))
  refine zT (zf il rfl 6 (zT (zq (ap rfl (zt 0 rfl) bU rfl) (zT (zq (aa rfl (zi 0) rfl (aR cP)) (zT (zm rfl (ay (d := 31) rfl (fun hc31 => ?_) (fun hc31 => ?_)))))))))
  ·refine zT (zm rfl (zT (zq (Q.not rfl rfl) (zT (zq (aj rfl rfl) (zq (ax rfl rfl) (zk (W.sub (zc 35 rfl (zc 3 rfl (zc 7 rfl (zc 8 rfl aI)))) (aE rfl (fun hc35 => ?_) (fun hc35 => ?_))))))))))
   ·refine zr (za (zi 0) (zk (W.ret (ac (ae (z1 rfl) ?_)))))
    (first | (rw [bF hv hs h3a h3b hmv]; unfold ce; simp_all [ah]; done) | (unfold bW; simp_all [ah]; done))
   refine W.skip (End.K (W.sub zv (hJ4 (_) (_) ?_)))
   exact (by first | (simp_all; done) | (simp_all; omega))
  refine z2 (zT (zq (ax rfl rfl) (zq (ax rfl rfl) (zk (W.sub (zc 35 rfl (zc 3 rfl (zc 7 rfl (zc 8 rfl aI)))) (az rfl (W.skip (End.K (W.sub zv (hJ4 (_) (_) ?_))))))))))
  exact (by first | (simp_all; done) | (simp_all; omega))
 refine am (zm rfl (zq (aa rfl (zi 2) rfl (ag aA)) (zm rfl (ay (d := 11) rfl (fun hc11 => ?_) (fun hc11 => ?_)))))
 ·refine zT (zm rfl (zT (zq (aa rfl (zi 2) rfl (ag aA)) (zq (aj rfl rfl) (zm rfl (zq (aa rfl (zi 1) rfl (ag aA)) (zm rfl (ay (d := 17) rfl (fun hc17 => ?_) (fun hc17 => ?_)))))))))
  ·refine zT (zm rfl (zT (zq (aa rfl (zi 1) rfl (ag aA)) (zq (aj rfl rfl) (za rfl (za rfl (WO.nil (End.K (W.sub zv (hJ2 (_) (_) ?_))))))))))
   exact (by first | (simp_all; done) | (simp_all; omega))
  refine z2 (zq (ax rfl rfl) (za rfl (za rfl (WO.nil (End.K (W.sub zv (hJ2 (_) (_) ?_)))))))
  exact (by first | (simp_all; done) | (simp_all; omega))
 refine z2 (zq (ax rfl rfl) (zm rfl (zq (aa rfl (zi 1) rfl (ag aA)) (zm rfl (ay (d := 17) rfl (fun hc17 => ?_) (fun hc17 => ?_))))))
 ·refine zT (zm rfl (zT (zq (aa rfl (zi 1) rfl (ag aA)) (zq (aj rfl rfl) (za rfl (za rfl (WO.nil (End.K (W.sub zv (hJ2 (_) (_) ?_))))))))))
  exact (by first | (simp_all; done) | (simp_all; omega))
 refine z2 (zq (ax rfl rfl) (za rfl (za rfl (WO.nil (End.K (W.sub zv (hJ2 (_) (_) ?_)))))))
 exact (by first | (simp_all; done) | (simp_all; omega))
end Go.Proofs.YtndhhgbpcmfeiaaGreatDoor.Ev.P16
