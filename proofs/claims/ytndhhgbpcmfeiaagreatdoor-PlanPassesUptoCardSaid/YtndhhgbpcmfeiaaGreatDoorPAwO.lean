/- The texts that alike instructions have alone; where alike ones stand. -/
import Derived.Test.YtndhhgbpcmfeiaaGreatDoorPMap
import Derived.Lib.ItoaNum
import Derived.Test.YtndhhgbpcmfeiaaGreatDoorPJb
import Derived.Test.YtndhhgbpcmfeiaaGreatDoorPGf
import Derived.Test.YtndhhgbpcmfeiaaGreatDoorPAwJ
namespace Go.Proofs.YtndhhgbpcmfeiaaGreatDoor.Ev
open Go.RowKit
theorem oO : ∀ (u : Nat), ∀ c ∈ Lib.decDigits u, 48 <= c.toNat /\ c.toNat <= 57 := by
 intro u
 induction u using Nat.strongRecOn with
 | _ u ih =>
  intro c hc
  rw [Lib.decDigits] at hc
  have hd : ∀ q : Nat, q < 10 -> (UInt8.ofNat (48 + q)).toNat = 48 + q := fun q hq => by
   rw [UInt8.toNat_ofNat']; omega
  split at hc
  ·rw [List.mem_singleton.1 hc, hd u (by assumption)]; omega
  ·rcases List.mem_append.1 hc with hc | hc
   ·exact ih (u / 10) zy c hc
   ·rw [List.mem_singleton.1 hc, hd (u % 10) zy]; omega
def yL (l : List UInt8) : Nat := l.foldl (fun n c => n * 10 + (c.toNat - 48)) 0
theorem lQ (u : Nat) : yL (Lib.decDigits u) = u := by
 induction u using Nat.strongRecOn with
 | _ u ih =>
  have hd : ∀ q : Nat, q < 10 -> (UInt8.ofNat (48 + q)).toNat = 48 + q := fun q hq => by
   rw [UInt8.toNat_ofNat']; omega
  rw [Lib.decDigits]
  split
  ·unfold yL
   rw [List.foldl_cons, List.foldl_nil, hd u (by assumption)]; omega
  ·have h := ih (u / 10) zy
   unfold yL at h ⊢
   rw [List.foldl_append, h, List.foldl_cons, List.foldl_nil, hd (u % 10) zy]; omega
theorem wD {a b : Int} (h : Lib.itoa a = Lib.itoa b) : a = b := by
 unfold Lib.itoa at h
 have no45 : ∀ u r, Lib.decDigits u ≠ 45 :: r := fun u r q => by
  have := oO u 45 (by rw [q]; exact List.mem_cons_self)
  have e : (45 : UInt8).toNat = 45 := rfl
  omega
 split at h <;> split at h
 ·have h1 := congrArg yL (List.cons.inj h).2
  rw [lQ, lQ] at h1
  omega
 ·exact absurd h.symm (no45 _ _)
 ·exact absurd h (no45 _ _)
 ·have h1 := congrArg yL h
  rw [lQ, lQ] at h1
  omega
theorem zU {a : Int} : ∀ c ∈ Lib.itoa a, c.toNat ≠ 32 := fun c hc => by
 unfold Lib.itoa at hc
 split at hc
 ·rcases List.mem_cons.1 hc with rfl | hc
  ·decide
  ·have := oO _ c hc; omega
 ·have := oO _ c hc; omega
theorem BA {a : Int} : ∀ c ∈ rR a, c ≠ 32 := fun c hc => by
 obtain ⟨x, hx, rfl⟩ := List.mem_map.1 hc
 exact zU x hx
theorem zR {a b : Int} (h : rR a = rR b) : a = b := wD (by
 unfold rR at h
 exact List.map_inj_right (fun x y e => UInt8.toNat_inj.1 e) |>.1 h)
theorem oe (A : List Int) : (A.flatMap fun a => 32 :: rR a) = [] \/ ∃ r, (A.flatMap fun a => 32 :: rR a) = 32 :: r := by
 cases A with
 | nil => exact .inl rfl
 | cons a A => exact .inr ⟨rR a ++ A.flatMap fun a => 32 :: rR a, rfl⟩
theorem tO {a : Int} {r : List Nat} (h : r = [] \/ ∃ q, r = 32 :: q) : (rR a ++ r).takeWhile (fun c => decide (c ≠ 32)) = rR a := by
 rw [List.takeWhile_append_of_pos (fun c hc => decide_eq_true (BA c hc))]
 rcases h with rfl | ⟨q, rfl⟩
 ·simp
 ·simp
theorem nZ : ∀ {A B : List Int}, (A.flatMap fun a => 32 :: rR a) = (B.flatMap fun a => 32 :: rR a) -> A = B
 | [], [], _ => rfl
 | [], b :: B, h => by simp at h
 | a :: A, [], h => by simp at h
 | a :: A, b :: B, h => by
  rw [List.flatMap_cons, List.flatMap_cons, List.cons_append, List.cons_append] at h
  have h := (List.cons.inj h).2
  have e := congrArg (List.takeWhile fun c => decide (c ≠ 32)) h
  rw [tO (oe A), tO (oe B)] at e
  rw [e] at h
  rw [zR e, nZ (List.append_cancel_left h)]
def eS (y : PI) : List Nat := rS y.1.kd y.1.op y.2
theorem wH {x y : PI} (h : x.1 = y.1) (g : eS x = eS y) : x = y := by
 obtain ⟨d, A⟩ := x
 obtain ⟨d', B⟩ := y
 simp only at h
 subst h
 unfold eS rS at g
 have g := List.append_cancel_left g
 have g := List.append_cancel_left (List.cons.inj g).2
 exact congrArg (Prod.mk d) (nZ g)
def cF (O : List PI) (k : List Nat) : List Int := ((List.range O.length).filter fun j => decide (eS (pd O j) = k)).map fun j => ((j : Nat) : Int)
section
variable {O P : List PI} {y : PI} {k : List Nat} {i j : Nat} {T : List Int}
theorem kQ : cF (O ++ [y]) k = cF O k ++ if eS y = k then [((O.length : Nat) : Int)] else [] := by
 unfold cF
 rw [List.length_append, List.length_cons, List.length_nil, Nat.zero_add, List.range_succ, List.filter_append, List.map_append]
 congr 1
 ·congr 1
  refine List.filter_congr fun j hj => ?_
  rw [pn (List.mem_range.1 hj)]
 ·rw [List.filter_cons, sj]
  by_cases h : eS y = k <;> simp [h]
theorem Am : (cF O k).length <= O.length := by
 unfold cF
 rw [List.length_map]
 exact Nat.le_trans (List.length_filter_le _ _) (by rw [List.length_range]; exact Nat.le_refl _)
theorem tH (h : j < (cF O k).length) : ∃ a, ai (cF O k) j = ((a : Nat) : Int) /\ a < O.length /\ eS (pd O a) = k := by
 have hm := gj h
 unfold cF at hm
 obtain ⟨a, ha, e⟩ := List.mem_map.1 hm
 have h1 := List.mem_filter.1 ha
 exact ⟨a, e.symm, List.mem_range.1 h1.1, of_decide_eq_true h1.2⟩
theorem tI (h : i < O.length) (g : eS (pd O i) = k) : ∃ j, j < (cF O k).length /\ ai (cF O k) j = ((i : Nat) : Int) := by
 have hm : ((i : Nat) : Int) ∈ cF O k := List.mem_map.2 ⟨i, List.mem_filter.2 ⟨List.mem_range.2 h, decide_eq_true g⟩, rfl⟩
 obtain ⟨j, hj⟩ := List.getElem?_of_mem hm
 exact ⟨j, (List.getElem?_eq_some_iff.1 hj).1, nD hj⟩
theorem Ao (h : i < j) (hj : j < (cF O k).length) : ai (cF O k) i < ai (cF O k) j := by
 have hp : (cF O k).Pairwise (· < ·) := by
  unfold cF
  rw [List.pairwise_map]
  exact (List.Pairwise.filter _ List.pairwise_lt_range).imp fun h => by omega
 have h1 := List.pairwise_iff_getElem.1 hp i j zy hj h
 have e1 := nD (List.getElem?_eq_getElem (show i < (cF O k).length by omega))
 have e2 := nD (List.getElem?_eq_getElem hj)
 rw [e1, e2]; exact h1
theorem ux (hj : j < (cF O (eS y)).length) (hp : (pd O (ai (cF O (eS y)) j).toNat).1 = y.1) (hq : ∀ q, q < j -> (pd O (ai (cF O (eS y)) q).toNat).1 ≠ y.1) :
  O.idxOf y < O.length /\ ai (cF O (eS y)) j = ((O.idxOf y : Nat) : Int) := by
 obtain ⟨a, e, ha, hk⟩ := tH hj
 rw [e, Int.toNat_natCast] at hp
 have hy := wH hp hk
 have hm : y ∈ O := by rw [<- hy]; exact yj ha
 have hlt := List.idxOf_lt_length_of_mem hm
 refine ⟨hlt, ?_⟩
 have hi : pd O (O.idxOf y) = y := mT (by rw [List.getElem?_eq_getElem hlt, List.getElem_idxOf hlt])
 rw [e]
 congr 1
 rcases Nat.lt_trichotomy a (O.idxOf y) with g | g | g
 ·exfalso
  have := List.not_of_lt_findIdx (p := (· == y)) (xs := O) (i := a) (by simpa [List.idxOf] using g)
  have e2 : O[a] = y := by
   have := qM ha
   rw [List.getElem?_eq_getElem ha, hy] at this
   exact Option.some.inj this
  rw [e2] at this
  simp at this
 ·exact g
 ·exfalso
  obtain ⟨q, h1, h2⟩ := tI (k := eS y) hlt (by rw [hi])
  rcases Nat.lt_trichotomy q j with z | z | z
  ·exact hq q z (by rw [h2, Int.toNat_natCast, hi])
  ·subst z; rw [e] at h2; omega
  ·have := Ao z h1
   rw [e, h2] at this; omega
theorem yk (hq : ∀ q, q < (cF O (eS y)).length -> (pd O (ai (cF O (eS y)) q).toNat).1 ≠ y.1) : y ∉ O := fun hm => by
 have hlt := List.idxOf_lt_length_of_mem hm
 have hi : pd O (O.idxOf y) = y := mT (by rw [List.getElem?_eq_getElem hlt, List.getElem_idxOf hlt])
 obtain ⟨q, h1, h2⟩ := tI (k := eS y) hlt (by rw [hi])
 exact hq q h1 (by rw [h2, Int.toNat_natCast, hi])
theorem px (hT : (cP P i).2.length = i) (hl : i + 1 < P.length) (hf : (cP P i).1.idxOf (qT (cP P i).2 (pd P i)) < (cP P i).1.length) :
  cP P (i + 1) = ((cP P i).1, (cP P i).2 ++ [(((cP P i).1.idxOf (qT (cP P i).2 (pd P i)) : Nat) : Int)]) := by
 rw [cP]
 unfold Co ke C6
 have hb : decide ((cP P i).2.length + 1 = P.length) = false := decide_eq_false zy
 simp only [hb, Bool.false_eq_true, if_false, if_pos hf]
theorem sr (hT : (cP P i).2.length = i) (h : i + 1 = P.length \/ qT (cP P i).2 (pd P i) ∉ (cP P i).1) :
  cP P (i + 1) = ((cP P i).1 ++ [qT (cP P i).2 (pd P i)], (cP P i).2 ++ [(((cP P i).1.length : Nat) : Int)]) := by
 have hk : ke (decide ((cP P i).2.length + 1 = P.length)) (cP P i).1 (qT (cP P i).2 (pd P i)) = (cP P i).1.length := by
  unfold ke
  split
  ·rfl
  ·rename_i hb
   rcases h with h | h
   ·exact absurd (decide_eq_true zy) hb
   ·exact List.idxOf_eq_length h
 rw [cP]
 unfold Co C6
 simp only [hk, Nat.lt_irrefl, if_false]
end
def MK (O : List PI) : List Te -> ad -> Prop
 | [], D => D = []
 | x :: M, D => (∀ y ∈ M, y.1 ≠ x.1) /\ ∃ hp D', OwnE 1 (cA (cF O x.1)) (cF O x.1).length x.2 hp /\ D = hp ++ D' /\ MK O M D'
theorem MK.w {O : List PI} : ∀ {M : List Te} {D : ad}, MK O M D -> ∀ e ∈ D, e.w = true
 | [], D, h => by subst h; exact iC
 | x :: M, D, ⟨_, hp, D', h1, h2, h3⟩ => by subst h2; exact wa h1.w (MK.w h3)
theorem MK.turn {O O' : List PI} : ∀ {M : List Te} {D : ad}, (∀ x ∈ M, cF O' x.1 = cF O x.1) -> MK O M D -> MK O' M D
 | [], D, _, h => h
 | x :: M, D, g, ⟨h0, hp, D', h1, h2, h3⟩ => ⟨h0, hp, D', by rw [g x List.mem_cons_self]; exact h1, h2, MK.turn (fun y hy => g y (List.mem_cons_of_mem _ hy)) h3⟩
theorem n7 {k : List Nat} {v : AV} : ∀ {M : List Te}, ∀ y ∈ gL M k v, y.1 = k \/ ∃ x ∈ M, x.1 = y.1
 | [], y, h => by rw [List.mem_singleton.1 h]; exact .inl rfl
 | x :: M, y, h => by
  unfold gL at h
  split at h
  ·rcases List.mem_cons.1 h with rfl | h
   ·exact .inl rfl
   ·exact .inr ⟨y, List.mem_cons_of_mem _ h, rfl⟩
  ·rcases List.mem_cons.1 h with rfl | h
   ·exact .inr ⟨y, List.mem_cons_self, rfl⟩
   ·rcases n7 y h with h | ⟨z, h1, h2⟩
    ·exact .inl h
    ·exact .inr ⟨z, List.mem_cons_of_mem _ h1, h2⟩
theorem qO {k k' : List Nat} {v : AV} : ∀ {M : List Te}, (∀ y ∈ gL M k v, y.1 ≠ k') -> k ≠ k' /\ ∀ x ∈ M, x.1 ≠ k'
 | [], h => ⟨h (k, v) (by simp [gL]), fun x hx => by simp at hx⟩
 | x :: M, h => by
  unfold gL at h
  split at h
  ·rename_i e
   refine ⟨h (k, v) List.mem_cons_self, fun y hy => ?_⟩
   rcases List.mem_cons.1 hy with rfl | hy
   ·rw [e]; exact h (k, v) List.mem_cons_self
   ·exact h y (List.mem_cons_of_mem _ hy)
  ·obtain ⟨h1, h2⟩ := qO fun y hy => h y (List.mem_cons_of_mem _ hy)
   refine ⟨h1, fun y hy => ?_⟩
   rcases List.mem_cons.1 hy with rfl | hy
   ·exact h y List.mem_cons_self
   ·exact h2 y hy
theorem MK.get {O : List PI} {k : List Nat} : ∀ {M : List Te} {D : ad}, MK O M D -> ((∀ x ∈ M, x.1 ≠ k) -> cF O k = []) -> ∃ A hp B, D = A ++ (hp ++ B) /\ OwnE 1 (cA (cF O k)) (cF O k).length (kK M k) hp /\
  ∀ (O' : List PI) (v' : AV) (hp' : ad), (∀ y, y ≠ k -> cF O' y = cF O y) -> OwnE 1 (cA (cF O' k)) (cF O' k).length v' hp' -> MK O' (gL M k v') (A ++ (hp' ++ B))
 | [], D, h, g => by
  have h : D = [] := h
  subst h
  have e := g fun x hx => by simp at hx
  refine ⟨[], [], [], rfl, by rw [e]; exact OwnE.nil 1, fun O' v' hp' _ h2 => ?_⟩
  exact ⟨fun y hy => by simp at hy, hp', [], h2, by simp, rfl⟩
 | x :: M, D, ⟨h0, hp, D', h1, h2, h3⟩, g => by
  by_cases e : x.1 = k
  ·refine ⟨[], hp, D', h2, by rw [<- e]; have e2 : kK (x :: M) x.1 = x.2 := if_pos rfl; rw [e2]; exact h1, fun O' v' hp' k1 k2 => ?_⟩
   have e3 : gL (x :: M) k v' = (k, v') :: M := if_pos e
   rw [e3]
   exact ⟨fun y hy => by rw [<- e]; exact h0 y hy, hp', D', k2, rfl, MK.turn (fun y hy => k1 _ (by rw [<- e]; exact h0 y hy)) h3⟩
  ·obtain ⟨A, hq, B, g1, g2, g3⟩ := MK.get (k := k) h3 fun q => g fun y hy => by
    rcases List.mem_cons.1 hy with rfl | hy
    ·exact e
    ·exact q y hy
   have e2 : kK (x :: M) k = kK M k := if_neg e
   refine ⟨hp ++ A, hq, B, by rw [h2, g1, List.append_assoc], by rw [e2]; exact g2, fun O' v' hp' k1 k2 => ?_⟩
   have e3 : gL (x :: M) k v' = x :: gL M k v' := if_neg e
   rw [e3]
   refine ⟨fun y hy => ?_, hp, A ++ (hp' ++ B), by rw [k1 _ e]; exact h1, by rw [List.append_assoc], g3 O' v' hp' k1 k2⟩
   rcases n7 y hy with q | ⟨z, z1, z2⟩
   ·rw [q]; exact fun q => e q.symm
   ·rw [<- z2]; exact h0 z z1
structure ShM (O : List PI) (M : List Te) (D : ad) : Prop where
 ents : MK O M D
 cov : ∀ k, (∀ x ∈ M, x.1 ≠ k) -> cF O k = []
theorem ShM.zero : ShM [] [] [] := ⟨rfl, fun _ _ => rfl⟩
theorem ShM.get {O : List PI} {M : List Te} {D : ad} (h : ShM O M D) (k : List Nat) : ∃ A hp B, D = A ++ (hp ++ B) /\ OwnE 1 (cA (cF O k)) (cF O k).length (kK M k) hp /\
  ∀ (y : PI) (v' : AV) (hp' : ad), eS y = k -> OwnE 1 (cA (cF O k) ++ [.int .i64 ((O.length : Nat) : Int)]) ((cF O k).length + 1) v' hp' -> ShM (O ++ [y]) (gL M k v') (A ++ (hp' ++ B)) := by
 obtain ⟨A, hp, B, h1, h2, h3⟩ := MK.get h.ents (h.cov k)
 refine ⟨A, hp, B, h1, h2, fun y v' hp' hk hO => ⟨h3 (O ++ [y]) v' hp' (fun z hz => ?_) ?_, fun z hz => ?_⟩⟩
 ·rw [kQ, if_neg (fun q => hz (by rw [<- q, hk])), List.append_nil]
 ·rw [kQ, if_pos hk, cA, List.map_append, List.length_append]
  exact hO
 ·obtain ⟨g1, g2⟩ := qO hz
  rw [kQ, h.cov z g2, if_neg (fun q => g1 (by rw [<- q, hk]))]; rfl
theorem tp : ∀ {A : List Int}, (∀ a ∈ A, yN a) -> jG (cA A) = some A
 | [], _ => rfl
 | a :: A, h => by
  show (match decide (-9223372036854775808 <= a /\ a <= 9223372036854775807), jG (cA A) with
   | true, some m => some (a :: m)
   | _, _ => none) = _
  rw [decide_eq_true (show -9223372036854775808 <= a /\ a <= 9223372036854775807 from h a List.mem_cons_self), tp fun b hb => h b (List.mem_cons_of_mem _ hb)]
theorem wL {hs : ad} {d : ND} {A : List Int} {vm vn va : AV} (ha : RIn hs 1 A.length (cA A) va) (hl : A.length <= 1048576) (hi : ∀ n ∈ A, yN n) (hk : oo d) : Spec aW 44 [.agg (d.c vm vn .nils ++ [va])] [] hs (eW (.str (eS (d, A)))) := by
 refine pL fun h hh => ?_
 have h0 : aW.orc 44 [.agg (d.c vm vn .nils ++ [va])] h = (match Nat.ble d.op.length 1048576 && decide (-9223372036854775808 <= d.kd /\ d.kd <= 9223372036854775807) with
  | true => wI d.kd d.op h va
  | false => none) := rfl
 rw [h0, Nat.ble_eq.mpr hk.1, decide_eq_true (show -9223372036854775808 <= d.kd /\ d.kd <= 9223372036854775807 from hk.2)]
 show wI d.kd d.op h va = some (.str (rS d.kd d.op A))
 rcases ha with ⟨h1, h2, h3⟩ | ⟨b, z, ex, h1, ⟨w, h2⟩, h3⟩
 ·subst h1
  rw [List.length_eq_zero_iff.1 h2]; rfl
 ·subst h1
  have e1 := hh _ h2
  simp only at e1
  have e2 : Nat.ble A.length 1048576 = true := Nat.ble_eq.mpr hl
  have e3 : du (cA A) 0 A.length = some (cA A) := pz (by simpa using h3)
  unfold wI
  simp only [e1, e2, e3, tp hi]
set_option maxRecDepth 100000
set_option maxHeartbeats 1000000
theorem wF (hs : ad) (hro : ∀ e ∈ hs, e.w = false) (A : List Int) (va : AV) (hA : RIn hs 1 A.length (cA A) va) (hAl : A.length <= 1048576) (F : Nat) (caps : List AV) (p : Nat -> Bool) (hC : ∀ j, j < A.length -> Spec aW F (.int .i64 (ai A j) :: caps) [] hs (eW (.bool (p j)))) : Spec aW 45 [va, .func F caps] [] hs (pP (fun u => ∃ r : Int, u = .int .i64 r /\ ((r = -1 /\ ∀ q, q < A.length -> p q = false) \/ ∃ j : Nat, r = ((j : Nat) : Int) /\ j < A.length /\ p j = true /\ ∀ q, q < j -> p q = false))) := by
 refine ak (eX 45 Tryz.func45) rfl (m := 19) rfl (rs := [.tmp 4]) rfl (st := [(0, va), (1, .func F caps)]) rfl rfl (fun _ => rfl) (fun E => zr (za (zi 0) (zk (W.seq (zr (zm rfl (zq (Q.len bh rfl hA.len) (zq (Q.move (zi 0)) (zk (W.block (az (fun (j : Nat) => [(0, va), (1, .func F caps), (7, .int .i64 ((A.length : Nat) : Int)), (8, .int .i64 ((j : Nat) : Int))]) (fun _ => _) (fun (j : Nat) => j <= A.length /\ ∀ q, q < j -> p q = false) (fun (j : Nat) => A.length - j) (0) ⟨Nat.zero_le _, fun j h => by omega⟩ zv (SubH.refl _) (fun j hI0 ih0 => ?_))))))))))))
 obtain ⟨hi, hno⟩ := hI0
 refine zr (zq (aa rfl rfl rfl (fi fv)) (zk (W.seq (aw rfl (fun hc9 => ?_) (fun hc9 => ?_)))))
 ·obtain ⟨ba, sza, exa, rfl, wa, ma⟩ := hA.full zy
  refine zw (W.seq (W.block (zr (zm rfl (za rfl (zk (zr (zm rfl (zm rfl (zm rfl (zq (aQ bh fP rfl rfl zo) (zq (ag rfl ma dn (iA zo)) (aB rfl (aY rfl oz) rfl (hC j zy) (aZ hro) rfl (zk (b9 rfl (fun hc16 => ?_) (fun hc16 => ?_))))))))))))))))
  ·refine zr (zm rfl (za rfl (zk (W.sub (zc 4 rfl bE) (W.ret (ah (ac (cW (ah (ac (bZ (z1 rfl) ?_)))))))))))
   exact ⟨_, rfl, .inr ⟨j, rfl, by omega, by simpa using hc16, hno⟩⟩
  refine W.skip (End.KB (End.K (ay (zq (aa rfl (zi 1) rfl zp) (zm rfl (WO.nil (End.KL (W.sub zv (ih0 (j + 1) ?_ ?_)))))))))
  ·exact ⟨by omega, fun q h => by rcases Nat.lt_or_ge q j with g | g; exact hno q g; obtain rfl : q = j := zy; simpa using hc16⟩
  exact zo
 refine W.exit (aJ (aM (aI (End.K (zr (za rfl (zk (W.ret (bZ (z1 rfl) ?_)))))))))
 exact ⟨_, rfl, .inl ⟨rfl, fun q h => hno q zy⟩⟩

theorem yz (hs : ad) (hro : ∀ e ∈ hs, e.w = false) (X : List IE) (u : AV) (hX : IIn hs X u) (hXb : ILB X) (hXk : ∀ x ∈ X, x.nk = 0) (bo bx : Nat) (mo : MemH hs bo ⟨1, true, [u]⟩) (d : ND) (vm vn va : AV) (mx : MemH hs bx ⟨12, true, d.c vm vn .nils ++ [va]⟩)
 (hm : RIn hs 3 d.ms.length (cM d.ms) vm) (hn : RIn hs 1 d.nm.length (cS d.nm) vn) (hd : d.bd) (hva : va.isCell = true) (k : Nat) (hk : k < X.length) : Spec aW 46 [.int .i64 ((k : Nat) : Int), .ptr bo 0, .ptr bx 0] [] hs (eW (.bool (decide ((ei X k).d = d)))) := by
 obtain ⟨bv, szv, exv, rfl, wv, mv⟩ := hX.1.full zy
 obtain ⟨wo_, mo⟩ := mo
 obtain ⟨wx_, mx⟩ := mx
 refine ak (eX 46 Tryz.func46) rfl (m := 13) rfl (rs := [.tmp 4]) rfl (st := [(0, .int .i64 ((k : Nat) : Int)), (1, .ptr bo 0), (2, .ptr bx 0)]) rfl rfl (fun _ => rfl) (fun E => zr (za rfl (zk (W.seq (dD (by kernel_rfl) (zq (ag rfl mo uW rfl) (zm rfl (zq (aQ aP aC rfl rfl zo) (zq (Q.fieldAddr aV rfl rfl) (zq (aD rfl mv jD iu (CC hk)) (zf aV rfl 0 (zq (zL rfl mx jD iu rfl) (aB rfl (aY rfl (aY rfl oz)) rfl (sm hs hro (ei X k).d d _ _ _ _ _ _ (hX.at hk).m (hX.at hk).n (hXk _ (dF hk) ▸ (hX.at hk).k) (hXb.at hk).d hm hn (.inl ⟨rfl, rfl⟩) hd) (aZ hro) rfl (za rfl (zk (W.ret (ab (z1 rfl) ?_)))))))))))))))))
 rfl
noncomputable section
def Cy (ops : List Oper) (ord : List Nat) (p q : Nat) : Bool := ((am ops []).getD (ord.getD p 0) 0).testBit (ord.getD q 0)
def tz (l : List Oper) (p : Nat) : Bool := match l[p]? with
 | some o => cC o.op
 | none => false
def tg (l : List Oper) (p : Nat) : Bool := match l[p]? with
 | some o => cC o.op && !(dP o.op)
 | none => false
def iW (ops : List Oper) (ord : List Nat) : List Oper := ord.filterMap fun i => ops[i]?
section
variable {tb : Tab} {n : Nat} {E : Env} {s : St} {hs : ad} {R : T AV -> AHeap -> Prop} {ops l rest : List Oper} {d : Nat} {ty : TypeId} {pos : String} {aft : Array Edge} {t : TypeId} {m i base : Nat} {h0 : AHeap}
theorem jf {o : Oper} (h : l.drop i = o :: rest) : l[i]? = some o /\ l.drop (i + 1) = rest := by
 refine ⟨?_, ?_⟩
 ·have : (l.drop i)[0]? = some o := by rw [h]; rfl
  rwa [List.getElem?_drop, Nat.add_zero] at this
 ·rw [<- List.drop_drop, h]; rfl
theorem zZ {tm : T AV} {h : AHeap} {op : Op} {r : Option AV} {call : nA} (e : cQ tb call tm h op = .q r) : dP op = false := by
 cases op <;> first | rfl | (simp [cQ] at e)
end
end
end Go.Proofs.YtndhhgbpcmfeiaaGreatDoor.Ev
