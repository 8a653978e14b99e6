/- Rows in memory; lists of a function's own that may be empty without being nil; append of any slice. -/
import Derived.Test.YtndhhgbpcmfeiaaGreatDoorNAwJ
namespace Go.Proofs.YtndhhgbpcmfeiaaGreatDoor.Ev
open Go.RowKit
def OwnE (sz : Nat) (cells : List AV) (len : Nat) (v : AV) (hp : af) : Prop :=
 (len = 0 /\ cells = [] /\ v = .nils /\ hp = []) \/ (∃ b ex, v = .slice b 0 len sz /\ hp = [⟨b, ⟨sz, ex, cells⟩, true⟩] /\ cells.length = len * sz)
theorem OwnE.nil (sz : Nat) : OwnE sz [] 0 .nils [] := .inl ⟨rfl, rfl, rfl, rfl⟩
theorem OwnE.of {sz : Nat} {cells : List AV} {len : Nat} {v : AV} {hp : af} (h : Own sz cells len v hp) : OwnE sz cells len v hp := h.imp id fun ⟨b, ex, h1, h2, h3, _⟩ => ⟨b, ex, h1, h2, h3⟩
theorem OwnE.cons {sz len b : Nat} {ex : Bool} {cells : List AV} (h : cells.length = len * sz) : OwnE sz cells len (.slice b 0 len sz) [⟨b, ⟨sz, ex, cells⟩, true⟩] := .inr ⟨b, ex, rfl, rfl, h⟩
theorem OwnE.length {sz : Nat} {cells : List AV} {len : Nat} {v : AV} {hp : af} (h : OwnE sz cells len v hp) : cells.length = len * sz := by
 rcases h with ⟨rfl, rfl, _, _⟩ | ⟨b, _, _, _, h⟩
 ·simp
 ·exact h
theorem OwnE.w {sz : Nat} {cells : List AV} {len : Nat} {v : AV} {hp : af} (h : OwnE sz cells len v hp) : ∀ e ∈ hp, e.w = true := by
 rcases h with ⟨_, _, _, rfl⟩ | ⟨b, _, _, rfl, _⟩
 ·intro e he; simp at he
 ·intro e he; simp at he; subst he; rfl
theorem OwnE.len {sz : Nat} {cells : List AV} {len e : Nat} {v : AV} {hp : af} (h : OwnE sz cells len v hp) : mj (.slice e) v = some len := by
 rcases h with ⟨rfl, _, rfl, _⟩ | ⟨b, _, rfl, _, _⟩ <;> rfl
theorem OwnE.cell {sz : Nat} {cells : List AV} {len : Nat} {v : AV} {hp : af} (h : OwnE sz cells len v hp) : v.isCell = true := by
 rcases h with ⟨_, _, rfl, _⟩ | ⟨b, _, rfl, _, _⟩ <;> rfl
theorem OwnE.bq {sz : Nat} {cells : List AV} {len : Nat} {v : AV} {hp : af} (h : OwnE sz cells len v hp) : v.beq v = true := by
 rcases h with ⟨_, _, rfl, _⟩ | ⟨b, ex, rfl, _, _⟩
 ·rfl
 ·simp [AV.beq, gy, cH]
theorem OwnE.full {sz : Nat} {cells : List AV} {len : Nat} {v : AV} {hp : af} (h : OwnE sz cells len v hp) (hl : 0 < len) : ∃ b ex, v = .slice b 0 len sz /\ hp = [⟨b, ⟨sz, ex, cells⟩, true⟩] := by
 rcases h with ⟨h, _, _, _⟩ | ⟨b, ex, h1, h2, _⟩
 ·omega
 ·exact ⟨b, ex, h1, h2⟩
def Src (hs : af) (sz : Nat) (x : AV) (m : Nat) (new : List AV) : Prop := ∀ h, cT hs h -> cJ h.objs sz x = some (m, new)
theorem Src.nils {hs : af} {sz : Nat} : Src hs sz .nils 0 [] := fun h _ => rfl
theorem Src.slice {hs : af} {b o m sz : Nat} {ob : AObj} {w : Bool} {l : List AV} (hm : ⟨b, ob, w⟩ ∈ hs) (hl : ch ob.cells (o * sz) (m * sz) = some l) : Src hs sz (.slice b o m sz) m l :=
 fun h hh => dL (hh _ hm) hl
theorem Src.all {hs : af} {b m sz : Nat} {ob : AObj} (hm : MemH hs b ob) (hl : ob.cells.length = m * sz) : Src hs sz (.slice b 0 m sz) m ob.cells := by
 obtain ⟨w, hm⟩ := hm
 exact Src.slice hm (by rw [Nat.zero_mul]; exact ly hl)
theorem Src.mono {hs hs' : af} {sz m : Nat} {x : AV} {new : List AV} (hm : ∀ e ∈ hs, MemH hs' e.b e.o) (h : Src hs sz x m new) : Src hs' sz x m new :=
 fun hp hh => h hp fun e he => by obtain ⟨w, hw⟩ := hm e he; exact hh ⟨e.b, e.o, w⟩ hw
section
variable {tb : Tab} {n : Nat} {E : Env} {s : St} {hs : af} {R : T AV -> AHeap -> Prop} {ops rest : List Oper} {d : Nat} {t : TypeId} {ty : TypeId} {pos : String} {aft : Array Edge}
theorem WO.appAny {ox oy : Operand} {t2 sz len m : Nat} {tl : List Nat} {A hp : af} {cells new : List AV} {v x : AV} (ha : AP tb t t2 = some sz) (hO : OwnE sz cells len v hp) (hx : oL s ox = some v) (hy : oL s oy = some x) (hc : Src hs sz x m new)
  (hl : new.length = m * sz) (hn : len + m <= 1073741824) (hz : 0 < sz) (hs_ : SubH (A ++ hp) hs) (hd : Nat.blt d n = true)
  (hk : ∀ v' hp', OwnE sz (cells ++ new) (len + m) v' hp' -> WO tb n ops rest E ((d, v') :: s) (A ++ hp') R) :
  WO tb n ops (⟨some d, .call ⟨.builtin .append, #[ox, oy], (t :: t2 :: tl).toArray⟩, ty, pos, aft, none⟩ :: rest) E s hs R := by
 refine WO.l (s' := s) fun tm h ht hh => ?_
 have hc := hc h hh.keep
 replace hh := hh.sub hs_
 have hev : ∀ r, eg h sz m v new = r -> cP tb (ay (Ev.callE tb)) tm h (.call ⟨.builtin .append, #[ox, oy], (t :: t2 :: tl).toArray⟩) = .l r := by
  intro r hr
  show Res.l (ct tb tm h #[ox, oy] (t :: t2 :: tl).toArray) = _
  unfold ct
  simp only [cf, aW ht hx, aW ht hy]
  rw [gN ha hc, hr]
 by_cases hm0 : m = 0
 ·have hnew : new = [] := List.eq_nil_of_length_eq_zero (by rw [hl, hm0]; simp)
  subst hm0 hnew
  have hk := hk v hp (by simpa using hO)
  refine ⟨v, h, tm.set d v, hev _ ?_, aT hd, hk _ _ (ht.set d v) hh⟩
  rcases hO with ⟨_, _, rfl, _⟩ | ⟨b, ex, rfl, _, _⟩
  ·rfl
  ·unfold eg
   have e1 : Nat.beq sz sz = true := by simp
   simp only [Nat.beq_eq_true_eq, e1]
 ·have e0 : Nat.beq m 0 = false := by cases m with
   | zero => omega
   | succ m => rfl
  rcases hO with ⟨rfl, rfl, rfl, rfl⟩ | ⟨b, ex, rfl, rfl, hcl⟩
  ·have e1 : Nat.ble m 1073741824 = true := Nat.ble_eq.mpr zy
   have hk := hk (.slice h.next 0 (0 + m) sz) [⟨h.next, ⟨sz, false, [] ++ new⟩, true⟩] (OwnE.cons (by rw [Nat.zero_add]; simpa using hl))
   rw [Nat.zero_add, List.nil_append] at hk
   refine ⟨.slice h.next 0 m sz, ⟨h.next + 1, h.objs.set h.next ⟨sz, false, new⟩⟩, tm.set d (.slice h.next 0 m sz), hev _ ?_, aT hd, hk _ _ (ht.set d _) ?_⟩
   ·unfold eg
    simp only [e0, e1]
   ·rw [List.append_nil] at hh
    exact (hh.new _).sub (SubH.op (List.perm_append_singleton _ _))
  ·have e1 : (Nat.beq sz sz && Nat.ble (len + m) 1073741824) = true := by simp; omega
   have hmem : (⟨b, ⟨sz, ex, cells⟩, true⟩ : HE) ∈ (A ++ [⟨b, ⟨sz, ex, cells⟩, true⟩] : af) := by simp
   have h1 := (hh.at_ _ hmem).1
   simp only at h1
   have e2 : Nat.beq sz sz = true := by simp
   have e3 : Nat.ble ((0 + len + m) * sz) cells.length = false := by
    rw [hcl]
    have : len * sz < (0 + len + m) * sz := Nat.mul_lt_mul_of_pos_right zy hz
    cases hb : Nat.ble ((0 + len + m) * sz) (len * sz) with
    | false => rfl
    | true => have := Nat.ble_eq.mp hb; omega
   have e4 : ch cells (0 * sz) (len * sz) = some cells := by rw [Nat.zero_mul]; exact ly hcl
   have hidx : (A ++ [⟨b, ⟨sz, ex, cells⟩, true⟩] : af)[A.length]? = some ⟨b, ⟨sz, ex, cells⟩, true⟩ := by simp
   have hne : (A ++ [⟨b, ⟨sz, ex, cells⟩, true⟩] : af).eraseIdx A.length = A := by simp [List.eraseIdx_append_of_length_le]
   have hk := hk (.slice h.next 0 (len + m) sz) [⟨h.next, ⟨sz, false, cells ++ new⟩, true⟩] (OwnE.cons (by rw [List.length_append, hcl, hl, Nat.add_mul]))
   cases ex with
   | true =>
    refine ⟨.slice h.next 0 (len + m) sz, ⟨h.next + 1, h.objs.set h.next ⟨sz, false, cells ++ new⟩⟩, tm.set d (.slice h.next 0 (len + m) sz), hev _ ?_, aT hd, hk _ _ (ht.set d _) ?_⟩
    ·unfold eg
     simp only [e0, e1]
     unfold gx
     simp only [h1, e2, e3, e4]
    ·refine (hh.new ⟨sz, false, cells ++ new⟩).sub (SubH.trans (SubH.op (List.perm_append_singleton _ _)) (SubH.of_sublist ?_))
     exact List.Sublist.cons_cons _ (List.sublist_append_left _ _)
   | false =>
    refine ⟨.slice h.next 0 (len + m) sz, ⟨h.next + 1, (h.objs.del b).set h.next ⟨sz, false, cells ++ new⟩⟩, tm.set d (.slice h.next 0 (len + m) sz), hev _ ?_, aT hd, hk _ _ (ht.set d _) ?_⟩
    ·unfold eg
     simp only [e0, e1]
     unfold gx
     simp only [h1, e2, e3, e4]
    ·have := hh.del hidx
     rw [hne] at this
     exact (this.new ⟨sz, false, cells ++ new⟩).sub (SubH.op (List.perm_append_singleton _ _))
variable {keep : af} {q i : Nat}
theorem WD.appAny {ox oy : Operand} {t2 sz len m : Nat} {tl : List Nat} {A hp : af} {cells new : List AV} {v x : AV} (ha : AP tb t t2 = some sz) (hO : OwnE sz cells len v hp) (hx : oL s ox = some v) (hy : oL s oy = some x) (hc : Src hs sz x m new)
  (hl : new.length = m * sz) (hn : len + m <= 1073741824) (hz : 0 < sz) (hs_ : SubH (A ++ hp) hs) (hd : Nat.blt d n = true) (hkp : KIn keep A)
  (hk : ∀ v' hp', OwnE sz (cells ++ new) (len + m) v' hp' -> WD tb n ops keep q (i + 1) rest E ((d, v') :: s) (A ++ hp') R) :
  WD tb n ops keep q i (⟨some d, .call ⟨.builtin .append, #[ox, oy], (t :: t2 :: tl).toArray⟩, ty, pos, aft, none⟩ :: rest) E s hs R :=
 WD.l (C := fun v' hs' => ∃ hp', OwnE sz (cells ++ new) (len + m) v' hp' /\ hs' = A ++ hp') (fun tm h r e => by cases e) (fun R hR => WO.appAny ha hO hx hy hc hl hn hz hs_ hd fun v' hp' h => WO.nil (hR _ _ ⟨hp', h, rfl⟩))
  (fun v' hs' ⟨hp', _, h2⟩ _ => by subst h2; exact fun e he => let ⟨w, hm⟩ := hkp e he; ⟨w, List.mem_append_left _ hm⟩) (fun v' hs' ⟨hp', h1, h2⟩ => by subst h2; exact hk v' hp' h1)
end

theorem OwnE.bq0 {sz : Nat} {cells : List AV} {len : Nat} {v : AV} {hp : af} (h : OwnE sz cells len v hp) : cH v v = true := by
 rcases h with ⟨_, _, rfl, _⟩ | ⟨b, ex, rfl, _, _⟩
 ·rfl
 ·simp [cH]
def RIn (hs : af) (sz n : Nat) (cells : List AV) (v : AV) : Prop := (v = .nils /\ n = 0 /\ cells = []) \/ ∃ b z ex, v = .slice b 0 n sz /\ MemH hs b ⟨z, ex, cells⟩ /\ cells.length = n * sz
section
variable {hs hs' hp hl : af} {sz n : Nat} {cells : List AV} {v : AV}
theorem MemH.appl' {A hs : af} {b : Nat} {o : AObj} (h : MemH hs b o) : MemH (hs ++ A) b o := let ⟨w, g⟩ := h; ⟨w, List.mem_append_left _ g⟩
theorem RIn.len {e : Nat} (h : RIn hs sz n cells v) : mj (.slice e) v = some n := by
 rcases h with ⟨rfl, rfl, _⟩ | ⟨b, z, ex, rfl, _⟩ <;> rfl
theorem RIn.cell (h : RIn hs sz n cells v) : v.isCell = true := by
 rcases h with ⟨rfl, rfl, _⟩ | ⟨b, z, ex, rfl, _⟩ <;> rfl
theorem RIn.bq0 (h : RIn hs sz n cells v) : cH v v = true := by
 rcases h with ⟨rfl, rfl, _⟩ | ⟨b, z, ex, rfl, _⟩
 ·rfl
 ·simp [cH]
theorem RIn.bq (h : RIn hs sz n cells v) : v.beq v = true := by
 rcases h with ⟨rfl, rfl, _⟩ | ⟨b, z, ex, rfl, _⟩
 ·rfl
 ·simp [AV.beq, gy, cH]
theorem RIn.full (h : RIn hs sz n cells v) (hl : 0 < n) : ∃ b z ex, v = .slice b 0 n sz /\ MemH hs b ⟨z, ex, cells⟩ := by
 rcases h with ⟨_, rfl, _⟩ | ⟨b, z, ex, h1, h2, _⟩
 ·omega
 ·exact ⟨b, z, ex, h1, h2⟩
theorem RIn.mono (hm : ∀ b o, MemH hs b o -> MemH hs' b o) (h : RIn hs sz n cells v) : RIn hs' sz n cells v := h.imp id fun ⟨b, z, ex, h1, h2, h3⟩ => ⟨b, z, ex, h1, hm _ _ h2, h3⟩
theorem RIn.app {A : af} (h : RIn hs sz n cells v) : RIn (A ++ hs) sz n cells v := h.mono fun b o q => q.app
theorem RIn.appl {A : af} (h : RIn hs sz n cells v) : RIn (hs ++ A) sz n cells v := h.mono fun b o q => q.appl'
theorem RIn.ro (h : RIn hs sz n cells v) : RIn (ro hs) sz n cells v := h.mono fun b o q => q.ro
theorem RIn.src (h : RIn hs sz n cells v) : Src hs sz v n cells := by
 rcases h with ⟨rfl, rfl, rfl⟩ | ⟨b, z, ex, rfl, h2, h3⟩
 ·exact Src.nils
 ·exact Src.all h2 h3
theorem RIn.length (h : RIn hs sz n cells v) : cells.length = n * sz := by
 rcases h with ⟨_, rfl, rfl⟩ | ⟨b, z, ex, _, _, h3⟩
 ·simp
 ·exact h3
theorem RIn.own (h : OwnE sz cells n v hp) : RIn hp sz n cells v := by
 rcases h with ⟨rfl, rfl, rfl, _⟩ | ⟨b, ex, rfl, rfl, h3⟩
 ·exact .inl ⟨rfl, rfl, rfl⟩
 ·exact .inr ⟨b, sz, ex, rfl, ⟨true, List.mem_cons_self⟩, h3⟩
theorem RIn.nil : RIn hs sz 0 [] .nils := .inl ⟨rfl, rfl, rfl⟩
end
theorem yD {keep hs : af} (h : SubH keep hs) : KIn keep hs := fun e he => ⟨e.w, h.1 e he⟩
theorem AR : ∀ {b : af}, (∀ e ∈ b, e.w = false) -> ro b = b
 | [], _ => rfl
 | ⟨c, o, w⟩ :: b, h => by
  have h1 : w = false := h _ List.mem_cons_self
  subst h1
  show _ :: ro b = _
  rw [AR fun e he => h e (List.mem_cons_of_mem _ he)]
theorem jy {a b hs : af} (g : SubH (a ++ b) hs) (hb : ∀ e ∈ b, e.w = false) : SubR (Ev.ro a ++ b) hs := by
 have := SubR.ro g
 have e : Ev.ro (a ++ b) = Ev.ro a ++ b := by
  unfold Ev.ro
  rw [List.map_append]
  congr 1
  exact AR hb
 rwa [e] at this
theorem py {hp hs : af} (hro : ∀ e ∈ hs, e.w = false) : ∀ e ∈ ro hp ++ hs, e.w = false := by
 intro e he
 rcases List.mem_append.1 he with he | he
 ·exact se e he
 ·exact hro e he
theorem qh {α : Type} {f : α -> List AV} {sz : Nat} (hf : ∀ x, (f x).length = sz) : ∀ L : List α, (L.flatMap f).length = L.length * sz
 | [] => by simp
 | x :: L => by rw [List.flatMap_cons, List.length_append, hf, qh hf L, List.length_cons, Nat.add_mul]; omega
theorem qi {α : Type} {f : α -> List AV} {sz : Nat} (hf : ∀ x, (f x).length = sz) : ∀ (L : List α) (i : Nat) (x : α), L[i]? = some x -> ch (L.flatMap f) (i * sz) sz = some (f x)
 | [], i, x, h => by simp at h
 | y :: L, 0, x, h => by
  simp at h
  subst h
  unfold ch
  rw [List.flatMap_cons, Nat.zero_mul, Nat.zero_add]
  have e : Nat.ble sz (f y ++ L.flatMap f).length = true := Nat.ble_eq.mpr (by rw [List.length_append, hf]; omega)
  simp only [e]
  rw [List.drop_zero, List.take_append_of_le_length (by rw [hf]; exact Nat.le_refl _), List.take_of_length_le (by rw [hf]; exact Nat.le_refl _)]
 | y :: L, i + 1, x, h => by
  have ih := qi hf L i x (by simpa using h)
  have hl := qh hf L
  have hi : i < L.length := by simpa using (List.getElem?_eq_some_iff.1 h).1
  have hle : i * sz + sz <= L.length * sz := by rw [<- Nat.succ_mul]; exact Nat.mul_le_mul_right _ hi
  unfold ch at ih ⊢
  rw [List.flatMap_cons]
  have e : Nat.ble ((i + 1) * sz + sz) (f y ++ L.flatMap f).length = true := Nat.ble_eq.mpr (by rw [List.length_append, hf, hl, Nat.add_mul]; omega)
  have e2 : Nat.ble (i * sz + sz) (L.flatMap f).length = true := Nat.ble_eq.mpr (by rw [hl]; exact hle)
  simp only [e, e2] at ih ⊢
  rw [<- ih, Nat.add_mul, Nat.one_mul]
  congr 2
  rw [List.drop_append, List.drop_of_length_le (by rw [hf]; omega), List.nil_append, hf]
  congr 1
  omega
theorem sZ {α : Type} {f : α -> List AV} {sz : Nat} (hf : ∀ x, (f x).length = sz) : ∀ (L : List α) (i k : Nat) (x : α), L[i]? = some x -> k < sz -> (L.flatMap f)[i * sz + k]? = (f x)[k]?
 | [], i, k, x, h, _ => by simp at h
 | y :: L, 0, k, x, h, hk => by
  simp at h
  subst h
  rw [List.flatMap_cons, Nat.zero_mul, Nat.zero_add, List.getElem?_append_left (by rw [hf]; exact hk)]
 | y :: L, i + 1, k, x, h, hk => by
  rw [List.flatMap_cons, List.getElem?_append_right (by rw [hf, Nat.add_mul]; omega), hf, show (i + 1) * sz + k - sz = i * sz + k by rw [Nat.add_mul]; omega]
  exact sZ hf L i k x (by simpa using h) hk
abbrev Mt := Int × List Nat × List Nat
def mC (m : Mt) : List AV := [.int .i64 m.1, .str m.2.1, .str m.2.2]
def cM (l : List Mt) : List AV := l.flatMap mC
def cA (l : List Int) : List AV := l.map (AV.int .i64)
def cS (l : List (List Nat)) : List AV := l.map AV.str
theorem Bo (l : List Int) : (cA l).length = l.length * 1 := by simp [cA]
structure ND where
 kd : Int
 op : List Nat
 n : Int
 ms : List Mt
 rg : Int
 off : Int
 md : Int
 nm : List (List Nat)
 sd : Int
 bl : Bool
 deriving DecidableEq
def ND.zero : ND := ⟨0, [], 0, [], 0, 0, 0, [], 0, false⟩
def ND.c (d : ND) (vm vn vk : AV) : List AV := b7 d.kd d.op d.n vm d.rg d.off d.md vn d.sd d.bl vk
def DH (l : List Mt) : Prop := l.length <= 1048576 /\ ∀ m ∈ l, Bytes m.2.1 /\ Bytes m.2.2
def DI (l : List (List Nat)) : Prop := l.length <= 2097152 /\ ∀ x ∈ l, Bytes x
def ND.bd (d : ND) : Prop := Bytes d.op /\ DH d.ms /\ DI d.nm
def Ct (n : Int) : Prop := -9223372036854775808 <= n /\ n <= 9223372036854775807
structure IE where
 d : ND
 ars : List Int
 nk : Nat
 vm : AV
 vn : AV
 vk : AV
 va : AV
instance : Inhabited IE := ⟨⟨ND.zero, [], 0, .nils, .nils, .nils, .nils⟩⟩
def IE.c (x : IE) : List AV := x.d.c x.vm x.vn x.vk ++ [x.va]
def cI (L : List IE) : List AV := L.flatMap IE.c
def ei (L : List IE) (i : Nat) : IE := L.getD i default
theorem sT {L : List IE} {i : Nat} (h : i < L.length) : L[i]? = some (ei L i) := by
 unfold ei
 rw [List.getD_eq_getElem?_getD, List.getElem?_eq_getElem h]; rfl
theorem rt {L : List IE} {i : Nat} (h : i < L.length) : ei L i ∈ L := List.mem_of_getElem? (sT h)
theorem uV {L : List IE} {i : Nat} (h : i < L.length) : ch (cI L) ((0 + i) * 12) 12 = some (ei L i).c := by
 rw [Nat.zero_add]; exact qi (f := IE.c) (fun _ => rfl) L i _ (sT h)
theorem rl {L : List IE} {i : Nat} (k : Nat) (h : i < L.length) {v : AV} (hv : (ei L i).c[k]? = some v) (hk : k < 12 := by decide) : (cI L)[(0 + i) * 12 + k]? = some v := by
 rw [Nat.zero_add, <- hv]; exact sZ (f := IE.c) (fun _ => rfl) L i k _ (sT h) hk
def KLn (v : AV) (n : Nat) : Prop := (v = .nils /\ n = 0) \/ ∃ b o z, v = .slice b o n z
theorem KLn.len {v : AV} {n e : Nat} (h : KLn v n) : mj (.slice e) v = some n := by
 rcases h with ⟨rfl, rfl⟩ | ⟨b, o, z, rfl⟩ <;> rfl
theorem KLn.cell {v : AV} {n : Nat} (h : KLn v n) : v.isCell = true := by
 rcases h with ⟨rfl, rfl⟩ | ⟨b, o, z, rfl⟩ <;> rfl
theorem KLn.bq0 {v : AV} {n : Nat} (h : KLn v n) : cH v v = true := by
 rcases h with ⟨rfl, rfl⟩ | ⟨b, o, z, rfl⟩
 ·rfl
 ·simp [cH]
theorem KLn.bq {v : AV} {n : Nat} (h : KLn v n) : v.beq v = true := by
 rcases h with ⟨rfl, rfl⟩ | ⟨b, o, z, rfl⟩
 ·rfl
 ·simp [AV.beq, gy, cH]
structure IOK (hs : af) (x : IE) : Prop where
 m : RIn hs 3 x.d.ms.length (cM x.d.ms) x.vm
 n : RIn hs 1 x.d.nm.length (cS x.d.nm) x.vn
 k : KLn x.vk x.nk
 a : RIn hs 1 x.ars.length (cA x.ars) x.va
theorem IOK.mono {hs hs' : af} {x : IE} (hm : ∀ b o, MemH hs b o -> MemH hs' b o) (h : IOK hs x) : IOK hs' x := ⟨h.m.mono hm, h.n.mono hm, h.k, h.a.mono hm⟩
structure IBd (x : IE) : Prop where
 d : x.d.bd
 a : x.ars.length <= 1048576
 i : ∀ n ∈ x.ars, Ct n
def IIn (hs : af) (L : List IE) (v : AV) : Prop := RIn hs 12 L.length (cI L) v /\ ∀ x ∈ L, IOK hs x
def ILB (L : List IE) : Prop := L.length <= 1048576 /\ ∀ x ∈ L, IBd x
theorem IIn.mono {hs hs' : af} {L : List IE} {v : AV} (hm : ∀ b o, MemH hs b o -> MemH hs' b o) (h : IIn hs L v) : IIn hs' L v := ⟨h.1.mono hm, fun x hx => (h.2 x hx).mono hm⟩
theorem IIn.at {hs : af} {L : List IE} {v : AV} (h : IIn hs L v) {i : Nat} (hi : i < L.length) : IOK hs (ei L i) := h.2 _ (rt hi)
theorem ILB.at {L : List IE} (h : ILB L) {i : Nat} (hi : i < L.length) : IBd (ei L i) := h.2 _ (rt hi)
theorem IOK.cells {hs : af} {x : IE} (h : IOK hs x) : (x.c.all AV.isCell) = true := by
 simp only [IE.c, ND.c, b7, List.cons_append, List.nil_append, List.all_cons, List.all_nil, h.m.cell, h.n.cell, h.k.cell, h.a.cell, Bool.and_true, Bool.true_and]
 rfl
end Go.Proofs.YtndhhgbpcmfeiaaGreatDoor.Ev
