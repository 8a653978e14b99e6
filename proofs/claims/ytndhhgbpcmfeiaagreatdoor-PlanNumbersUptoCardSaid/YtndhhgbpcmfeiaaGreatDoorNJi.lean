/- Walks over the evaluator: maps from texts, as lists; calls that are known by what memory holds. -/
import Derived.Test.YtndhhgbpcmfeiaaGreatDoorNGa
import Derived.Test.YtndhhgbpcmfeiaaGreatDoorNJa
import Derived.Lib.ItoaNum
import Derived.Test.YtndhhgbpcmfeiaaGreatDoorNInC
import Derived.Test.YtndhhgbpcmfeiaaGreatDoorNAwJ
namespace Go.Proofs.YtndhhgbpcmfeiaaGreatDoor.Ev
open Go.RowKit
abbrev Te := List Nat × AV
def tW : List Te -> List Nat -> AV
 | [], _ => .nils
 | x :: M, k => if x.1 = k then x.2 else tW M k
def mI : List Te -> List Nat -> AV -> List Te
 | [], k, v => [(k, v)]
 | x :: M, k, v => if x.1 = k then (k, v) :: M else x :: mI M k v
section
variable {tb : Tab} {n : Nat} {E : Env} {s : St} {hs : af} {R : T AV -> AHeap -> Prop} {ops rest : List Oper} {d : Nat} {t : TypeId} {ty : TypeId} {pos : String} {aft : Array Edge}
theorem WO.makeMap {kt et : Nat} (hu : dw (tb.und t) = some (kt, et)) (hd : Nat.blt d n = true) (hk : ∀ b, WO tb n ops rest E ((d, .map b) :: s) (⟨b, ⟨0, true, []⟩, true⟩ :: hs) R) :
  WO tb n ops (⟨some d, .makeMap t none, ty, pos, aft, none⟩ :: rest) E s hs R := by
 refine WO.l (s' := s) fun tm h ht hh => ?_
 refine ⟨.map h.next, ⟨h.next + 1, h.objs.set h.next ⟨0, true, []⟩⟩, tm.set d (.map h.next), ?_, aT hd, hk h.next _ _ (ht.set d _) (hh.new _)⟩
 show Res.l (dA tb tm h t none) = _
 unfold dA
 simp only [hu]
end
def y9 (y : PI) : List Nat := wg y.1.kd y.1.op y.2
def ii (O : List PI) (k : List Nat) : List Int := ((List.range O.length).filter fun j => decide (y9 (pd O j) = k)).map fun j => ((j : Nat) : Int)
section
variable {O P : List PI} {y : PI} {k : List Nat} {i j : Nat} {T : List Int}
theorem ky : ii (O ++ [y]) k = ii O k ++ if y9 y = k then [((O.length : Nat) : Int)] else [] := by
 unfold ii
 rw [List.length_append, List.length_cons, List.length_nil, Nat.zero_add, List.range_succ, List.filter_append, List.map_append]
 congr 1
 ·congr 1
  refine List.filter_congr fun j hj => ?_
  rw [mH (List.mem_range.1 hj)]
 ·rw [List.filter_cons, px]
  by_cases h : y9 y = k <;> simp [h]
end
def MK (O : List PI) : List Te -> af -> Prop
 | [], D => D = []
 | x :: M, D => (∀ y ∈ M, y.1 ≠ x.1) /\ ∃ hp D', OwnE 1 (cA (ii O x.1)) (ii O x.1).length x.2 hp /\ D = hp ++ D' /\ MK O M D'
theorem MK.w {O : List PI} : ∀ {M : List Te} {D : af}, MK O M D -> ∀ e ∈ D, e.w = true
 | [], D, h => by subst h; exact iF
 | x :: M, D, ⟨_, hp, D', h1, h2, h3⟩ => by subst h2; exact wa h1.w (MK.w h3)
theorem MK.turn {O O' : List PI} : ∀ {M : List Te} {D : af}, (∀ x ∈ M, ii O' x.1 = ii O x.1) -> MK O M D -> MK O' M D
 | [], D, _, h => h
 | x :: M, D, g, ⟨h0, hp, D', h1, h2, h3⟩ => ⟨h0, hp, D', by rw [g x List.mem_cons_self]; exact h1, h2, MK.turn (fun y hy => g y (List.mem_cons_of_mem _ hy)) h3⟩
theorem n7 {k : List Nat} {v : AV} : ∀ {M : List Te}, ∀ y ∈ mI M k v, y.1 = k \/ ∃ x ∈ M, x.1 = y.1
 | [], y, h => by rw [List.mem_singleton.1 h]; exact .inl rfl
 | x :: M, y, h => by
  unfold mI at h
  split at h
  ·rcases List.mem_cons.1 h with rfl | h
   ·exact .inl rfl
   ·exact .inr ⟨y, List.mem_cons_of_mem _ h, rfl⟩
  ·rcases List.mem_cons.1 h with rfl | h
   ·exact .inr ⟨y, List.mem_cons_self, rfl⟩
   ·rcases n7 y h with h | ⟨z, h1, h2⟩
    ·exact .inl h
    ·exact .inr ⟨z, List.mem_cons_of_mem _ h1, h2⟩
theorem qH {k k' : List Nat} {v : AV} : ∀ {M : List Te}, (∀ y ∈ mI M k v, y.1 ≠ k') -> k ≠ k' /\ ∀ x ∈ M, x.1 ≠ k'
 | [], h => ⟨h (k, v) (by simp [mI]), fun x hx => by simp at hx⟩
 | x :: M, h => by
  unfold mI at h
  split at h
  ·rename_i e
   refine ⟨h (k, v) List.mem_cons_self, fun y hy => ?_⟩
   rcases List.mem_cons.1 hy with rfl | hy
   ·rw [e]; exact h (k, v) List.mem_cons_self
   ·exact h y (List.mem_cons_of_mem _ hy)
  ·obtain ⟨h1, h2⟩ := qH fun y hy => h y (List.mem_cons_of_mem _ hy)
   refine ⟨h1, fun y hy => ?_⟩
   rcases List.mem_cons.1 hy with rfl | hy
   ·exact h y List.mem_cons_self
   ·exact h2 y hy
theorem MK.get {O : List PI} {k : List Nat} : ∀ {M : List Te} {D : af}, MK O M D -> ((∀ x ∈ M, x.1 ≠ k) -> ii O k = []) -> ∃ A hp B, D = A ++ (hp ++ B) /\ OwnE 1 (cA (ii O k)) (ii O k).length (tW M k) hp /\
  ∀ (O' : List PI) (v' : AV) (hp' : af), (∀ y, y ≠ k -> ii O' y = ii O y) -> OwnE 1 (cA (ii O' k)) (ii O' k).length v' hp' -> MK O' (mI M k v') (A ++ (hp' ++ B))
 | [], D, h, g => by
  have h : D = [] := h
  subst h
  have e := g fun x hx => by simp at hx
  refine ⟨[], [], [], rfl, by rw [e]; exact OwnE.nil 1, fun O' v' hp' _ h2 => ?_⟩
  exact ⟨fun y hy => by simp at hy, hp', [], h2, by simp, rfl⟩
 | x :: M, D, ⟨h0, hp, D', h1, h2, h3⟩, g => by
  by_cases e : x.1 = k
  ·refine ⟨[], hp, D', h2, by rw [<- e]; have e2 : tW (x :: M) x.1 = x.2 := if_pos rfl; rw [e2]; exact h1, fun O' v' hp' k1 k2 => ?_⟩
   have e3 : mI (x :: M) k v' = (k, v') :: M := if_pos e
   rw [e3]
   exact ⟨fun y hy => by rw [<- e]; exact h0 y hy, hp', D', k2, rfl, MK.turn (fun y hy => k1 _ (by rw [<- e]; exact h0 y hy)) h3⟩
  ·obtain ⟨A, hq, B, g1, g2, g3⟩ := MK.get (k := k) h3 fun q => g fun y hy => by
    rcases List.mem_cons.1 hy with rfl | hy
    ·exact e
    ·exact q y hy
   have e2 : tW (x :: M) k = tW M k := if_neg e
   refine ⟨hp ++ A, hq, B, by rw [h2, g1, List.append_assoc], by rw [e2]; exact g2, fun O' v' hp' k1 k2 => ?_⟩
   have e3 : mI (x :: M) k v' = x :: mI M k v' := if_neg e
   rw [e3]
   refine ⟨fun y hy => ?_, hp, A ++ (hp' ++ B), by rw [k1 _ e]; exact h1, by rw [List.append_assoc], g3 O' v' hp' k1 k2⟩
   rcases n7 y hy with q | ⟨z, z1, z2⟩
   ·rw [q]; exact fun q => e q.symm
   ·rw [<- z2]; exact h0 z z1
structure ShM (O : List PI) (M : List Te) (D : af) : Prop where
 ents : MK O M D
 cov : ∀ k, (∀ x ∈ M, x.1 ≠ k) -> ii O k = []
theorem ShM.zero : ShM [] [] [] := ⟨rfl, fun _ _ => rfl⟩
theorem ShM.get {O : List PI} {M : List Te} {D : af} (h : ShM O M D) (k : List Nat) : ∃ A hp B, D = A ++ (hp ++ B) /\ OwnE 1 (cA (ii O k)) (ii O k).length (tW M k) hp /\
  ∀ (y : PI) (v' : AV) (hp' : af), y9 y = k -> OwnE 1 (cA (ii O k) ++ [.int .i64 ((O.length : Nat) : Int)]) ((ii O k).length + 1) v' hp' -> ShM (O ++ [y]) (mI M k v') (A ++ (hp' ++ B)) := by
 obtain ⟨A, hp, B, h1, h2, h3⟩ := MK.get h.ents (h.cov k)
 refine ⟨A, hp, B, h1, h2, fun y v' hp' hk hO => ⟨h3 (O ++ [y]) v' hp' (fun z hz => ?_) ?_, fun z hz => ?_⟩⟩
 ·rw [ky, if_neg (fun q => hz (by rw [<- q, hk])), List.append_nil]
 ·rw [ky, if_pos hk, cA, List.map_append, List.length_append]
  exact hO
 ·obtain ⟨g1, g2⟩ := qH hz
  rw [ky, h.cov z g2, if_neg (fun q => g1 (by rw [<- q, hk]))]; rfl
set_option maxRecDepth 100000
set_option maxHeartbeats 1000000
noncomputable section
section
variable {tb : Tab} {n : Nat} {E : Env} {s : St} {hs : af} {R : T AV -> AHeap -> Prop} {ops l rest : List Oper} {d : Nat} {ty : TypeId} {pos : String} {aft : Array Edge} {t : TypeId} {m i base : Nat} {h0 : AHeap}
theorem kb {o : Oper} (h : l.drop i = o :: rest) : l[i]? = some o /\ l.drop (i + 1) = rest := by
 refine ⟨?_, ?_⟩
 ·have : (l.drop i)[0]? = some o := by rw [h]; rfl
  rwa [List.getElem?_drop, Nat.add_zero] at this
 ·rw [<- List.drop_drop, h]; rfl
theorem zz {tm : T AV} {h : AHeap} {op : Op} {r : Option AV} {call : nu} (e : cP tb call tm h op = .q r) : ev op = false := by
 cases op <;> first | rfl | (simp [cP] at e)
end
end
noncomputable section
def pO (tb : Tab) (l : List Oper) (keep : af) (es : List Ent) (ms : List (Nat × AHeap)) : Prop :=
 (∀ e ∈ es, l[e.i]? = some e.o /\ (e.kind = 1 -> e.v.beq e.v = true /\ ∀ H, cT keep H -> lX tb e.tm H e.o.op = some e.v) /\
  (e.kind = 2 -> bV e.o.op = true /\ ev e.o.op = false) /\ (e.kind = 3 -> bV e.o.op = true)) /\ ∀ p ∈ ms, cT keep p.2
section
variable {tb : Tab} {n : Nat} {E : Env} {s : St} {hs : af} {R : T AV -> AHeap -> Prop} {ops l rest : List Oper} {d : Nat} {ty : TypeId} {pos : String} {aft : Array Edge} {t : TypeId} {i base : Nat} {keep : af}
def WG (tb : Tab) (n : Nat) (ops l : List Oper) (keep : af) (base : Nat) (i : Nat) (rest : List Oper) (E : Env) (s : St) (hs : af) (R : T AV -> AHeap -> Prop) : Prop :=
 ∀ tm h, Has tm s -> HS E hs h -> cT keep h -> l.drop i = rest -> E.h0.next <= base -> base + ops.length <= h.next -> (∀ e ∈ hs, e.b < base + i \/ base + ops.length <= e.b) ->
  ∃ es ms tm' h', bH tb (ay (callE tb)) n ops base i rest tm h = some (es, ms, tm', h') /\ pO tb l keep es ms /\ ∀ TM, SubT tm' TM -> R TM h'
theorem WG.nil (h : End E s hs R) : WG tb n ops l keep base i [] E s hs R :=
 fun tm hp ht hh _ _ _ _ _ => ⟨[], [], tm, hp, rfl, ⟨fun e he => by simp at he, fun p hp => by simp at hp⟩, fun TM hT => h TM hp (ht.mono hT) hh⟩
theorem pI {tm tm1 : T AV} {h h1 : AHeap} {o : Oper} {v : AV} {k : Nat} (hl : l[i]? = some o) (he : ja tb (ay (callE tb)) ops (base + i) tm h o = some (v, h1, k)) (hp : bw tm n o.dst v = some tm1)
  (hq : k = 1 -> v.beq v = true /\ ∀ H, cT keep H -> lX tb tm H o.op = some v) (h2 : k = 2 -> bV o.op = true /\ ev o.op = false) (h3 : k = 3 -> bV o.op = true) (hkp : 2 <= k -> cT keep h1)
  (hk : ∃ es ms tm' h', bH tb (ay (callE tb)) n ops base (i + 1) rest tm1 h1 = some (es, ms, tm', h') /\ pO tb l keep es ms /\ ∀ TM, SubT tm' TM -> R TM h') :
  ∃ es ms tm' h', bH tb (ay (callE tb)) n ops base i (o :: rest) tm h = some (es, ms, tm', h') /\ pO tb l keep es ms /\ ∀ TM, SubT tm' TM -> R TM h' := by
 obtain ⟨es, ms, tm2, h2', e, ⟨g1, g2⟩, hR⟩ := hk
 refine ⟨_, _, tm2, h2', by unfold bH; simp only [he, hp, e]; rfl, ⟨fun x hx => ?_, fun p hp => ?_⟩, hR⟩
 ·rcases List.mem_cons.1 hx with rfl | hx
  ·exact ⟨hl, hq, h2, h3⟩
  ·exact g1 x hx
 ·by_cases hk2 : 2 <= k
  ·rw [if_pos hk2] at hp
   rcases List.mem_cons.1 hp with rfl | hp
   ·exact hkp hk2
   ·exact g2 p hp
  ·rw [if_neg hk2] at hp
   exact g2 p hp
theorem WG.q {op : Op} {v : AV} (hq : QV tb s keep op v) (hb : v.beq v = true) (hd : Nat.blt d n = true) (hk : WG tb n ops l keep base (i + 1) rest E ((d, v) :: s) hs R) :
  WG tb n ops l keep base i (⟨some d, op, ty, pos, aft, none⟩ :: rest) E s hs R := by
 intro tm h ht hh hkp hdr hE hbs ha
 have hv := hq tm h ht hkp
 obtain ⟨hl, hdr'⟩ := kb hdr
 refine pI (v := v) (k := 1) (h1 := h) (tm1 := tm.set d v) hl ?_ (aT hd) (fun _ => ⟨hb, fun H hH => ?_⟩) (fun h => by cases h) (fun h => by cases h) (fun h => by omega)
  (hk _ _ (ht.set d v) hh hkp hdr' hE hbs fun e he => (ha e he).imp (fun h => by omega) id)
 ·unfold ja
  rw [zz (hv (ay (callE tb)))]
  simp only
  unfold gJ
  have : aJ ops tm ⟨some d, op, ty, pos, aft, none⟩ = some true := rfl
  rw [this]
  simp only [hv]
 ·unfold lX
  rw [hq tm H ht hH]
theorem WG.alloc {ob : AObj} (ho : AO tb t = some ob) (hd : Nat.blt d n = true) (hkp : KIn keep hs) (hlt : Nat.blt i ops.length = true) (hk : ∀ b, WG tb n ops l keep base (i + 1) rest E ((d, .ptr b 0) :: s) (⟨b, ob, true⟩ :: hs) R) :
  WG tb n ops l keep base i (⟨some d, .alloc t, ty, pos, aft, none⟩ :: rest) E s hs R := by
 intro tm h ht hh _ hdr hE hbs ha
 obtain ⟨hl, hdr'⟩ := kb hdr
 have hil := Nat.blt_eq.mp hlt
 have hnew : HS E (⟨base + i, ob, true⟩ :: hs) ⟨h.next, h.objs.set (base + i) ob⟩ := by
  refine ⟨fun e he => ?_, ?_, hh.fr.1, fun c hc hcS => ?_⟩
  ·rcases List.mem_cons.1 he with rfl | he
   ·exact ⟨by simp [au], by show base + i < h.next; omega, fun _ => .inl (by show E.h0.next <= base + i; omega)⟩
   ·obtain ⟨a1, a2, a3⟩ := hh.at_ e he
    refine ⟨?_, a2, a3⟩
    have := ha e he
    rw [au, if_neg zy]
    exact a1
  ·simp only [List.map_cons, List.nodup_cons]
   refine ⟨fun hm => ?_, hh.nd⟩
   obtain ⟨e, he, hb⟩ := List.mem_map.1 hm
   have := ha e he
   omega
  ·show (h.objs.set (base + i) ob).get c = _
   rw [au, if_neg zy]
   exact hh.fr.2 c hc hcS
 have hkn : cT keep ⟨h.next, h.objs.set (base + i) ob⟩ := KIn.keepIn (show KIn keep (⟨base + i, ob, true⟩ :: hs) from fun e he => let ⟨w, hm⟩ := hkp e he; ⟨w, List.mem_cons_of_mem _ hm⟩) hnew
 refine pI (v := .ptr (base + i) 0) (k := 3) (h1 := ⟨h.next, h.objs.set (base + i) ob⟩) (tm1 := tm.set d (.ptr (base + i) 0)) hl ?_ (aT hd) (fun h => by cases h) (fun h => by cases h) (fun _ => rfl) (fun _ => hkn)
  (hk (base + i) _ _ (ht.set d _) hnew hkn hdr' hE hbs fun e he => ?_)
 ·unfold ja
  have hmk : ev (Op.alloc t) = true := rfl
  have hw : aJ ops tm ⟨some d, .alloc t, ty, pos, aft, none⟩ = some true := rfl
  rw [hmk, hw]
  unfold ud
  unfold AO at ho
  split at ho
  ·rename_i z hz
   simp only [Option.some.injEq] at ho
   simp only [hz, ho]
  ·cases ho
 ·rcases List.mem_cons.1 he with rfl | he
  ·left; show base + i < base + (i + 1); omega
  ·exact (ha e he).imp (fun h => by omega) id
theorem WG.hard {op : Op} {v : AV} {tm tm1 : T AV} {h h1 : AHeap} {dst : Option Nat} (hmk : ev op = false) (hl : l[i]? = some ⟨dst, op, ty, pos, aft, none⟩) (he : cP tb (ay (callE tb)) tm h op = .l (some (v, h1))) (hp : bw tm n dst v = some tm1) (hkp : cT keep h1)
  (hk : ∃ es ms tm' h', bH tb (ay (callE tb)) n ops base (i + 1) rest tm1 h1 = some (es, ms, tm', h') /\ pO tb l keep es ms /\ ∀ TM, SubT tm' TM -> R TM h') :
  ∃ es ms tm' h', bH tb (ay (callE tb)) n ops base i (⟨dst, op, ty, pos, aft, none⟩ :: rest) tm h = some (es, ms, tm', h') /\ pO tb l keep es ms /\ ∀ TM, SubT tm' TM -> R TM h' := by
 refine pI (v := v) (k := 2) (h1 := h1) (tm1 := tm1) hl ?_ hp (fun h => by cases h) (fun _ => ⟨fZ he, hmk⟩) (fun h => by cases h) (fun _ => hkp) hk
 unfold ja
 rw [hmk]
 simp only
 unfold gJ
 have : aJ ops tm ⟨dst, op, ty, pos, aft, none⟩ = some true := rfl
 rw [this]
 simp only [he]
theorem WG.store {ox oy : Operand} {j b o k : Nat} {ob : AObj} {v : AV} {cs : List AV} {hs' : af} (hz : tb.size t = some k) (hx : oL s ox = some (.ptr b o)) (hy : oL s oy = some v) (hm : hs[j]? = some ⟨b, ob, true⟩)
  (hb : (Nat.beq v.cells.length k && Nat.ble (o + k) ob.cells.length && v.cells.all AV.isCell) = true) (hc : cn ob.cells o v.cells = cs) (hs_ : hs.set j ⟨b, ⟨ob.sz, ob.exact_, cs⟩, true⟩ = hs') (hkp : KIn keep hs')
  (hk : WG tb n ops l keep base (i + 1) rest E s hs' R) (hz0 : Nat.blt 0 ob.sz = true := by rfl) : WG tb n ops l keep base i (⟨none, .store t ox oy, ty, pos, aft, none⟩ :: rest) E s hs R := by
 intro tm h ht hh _ hdr hE hbs ha
 obtain ⟨hl, hdr'⟩ := kb hdr
 subst hs_
 refine WG.hard (v := .tuple []) (h1 := ⟨h.next, h.objs.set b ⟨ob.sz, ob.exact_, cs⟩⟩) (tm1 := tm) rfl hl ?_ rfl (hkp.keepIn (hh.put hm)) (hk tm _ ht (hh.put hm) (hkp.keepIn (hh.put hm)) hdr' hE hbs fun e he => ?_)
 ·show Res.l (db tb tm h t ox oy) = _
  unfold db
  simp only [aW ht hx, aW ht hy]
  unfold kC
  have h1 := (hh.at_ _ (ey hm)).1
  simp only at h1
  simp only [hz, h1, hb, hc, hz0]
 ·have : e.b ∈ hs.map (·.b) := by
   obtain ⟨q, hq⟩ := List.getElem?_of_mem he
   rw [List.getElem?_set] at hq
   by_cases hjq : j = q
   ·subst hjq
    split at hq
    ·split at hq
     ·cases hq; exact List.mem_map.2 ⟨_, ey hm, rfl⟩
     ·cases hq
    ·rename_i h; exact absurd rfl h
   ·rw [if_neg hjq] at hq; exact List.mem_map.2 ⟨_, List.mem_of_getElem? hq, rfl⟩
  obtain ⟨x, hx, hxb⟩ := List.mem_map.1 this
  have := ha x hx
  rw [<- hxb]
  omega
end
end
theorem Di {X : List IE} {d : ND} {A : List Int} {vm vn va : AV} (hX : ∀ x ∈ X, IBd x) (hd : d.bd) (hl : A.length <= 1048576) (hi : ∀ n ∈ A, Ct n) : ∀ x ∈ X ++ [⟨d, A, 0, vm, vn, .nils, va⟩], IBd x := by
 intro x hx
 rcases List.mem_append.1 hx with hx | hx
 ·exact hX x hx
 ·rw [List.mem_singleton.1 hx]
  exact ⟨hd, hl, hi⟩
theorem cy : aA.und 9 = some .string := by kernel_rfl
theorem tG {hs : af} {b : Nat} {o : AObj} (h : MemH (Ev.ro hs) b o) : MemH hs b o := by
 obtain ⟨w, h⟩ := h
 obtain ⟨e, he, e2⟩ := List.mem_map.1 h
 cases e2
 exact ⟨e.w, he⟩
theorem BY {Z : List IE} {w : AV} {hp hl D D0 : af} (hO : OwnE 12 (cI Z) Z.length w hp) (hX : ∀ x ∈ Z, IOK (ro D0 ++ hl) x /\ x.vk = .nils /\ IBd x) (hD : D = hp ++ hl) : IIn (D0 ++ D) Z w := by
 subst hD
 refine ⟨(RIn.own hO).mono fun b o ⟨w, q⟩ => ⟨w, by simp [q]⟩, fun x hx => (hX x hx).1.mono fun b o ⟨w, q⟩ => ?_⟩
 rcases List.mem_append.1 q with q | q
 ·exact (tG ⟨w, q⟩).appl'
 ·exact ⟨w, by simp [q]⟩
theorem C8 {hs : af} {t : TD} {c : List AV} (h : TRep hs t c) : (AV.agg c).beq (AV.agg c) = true := by
 obtain ⟨d, vm, vn, vk, rfl, h1, h2, h3, _⟩ := jz h
 exact wL h1 h2 h3
mutual
theorem tc : ∀ (t : TD) (P : List PI), yG t -> (∀ p ∈ P, qU p.1) -> ∀ p ∈ aI t P, qU p.1
 | .node d ks, P, h, hP, p, hp => by
  rw [yG] at h
  rw [aI] at hp
  rcases List.mem_append.1 hp with hp | hp
  ·exact ta ks P [] h.2 hP p hp
  ·rw [List.mem_singleton.1 hp]; exact h.1
theorem ta : ∀ (ks : List TD) (P : List PI) (A : List Int), mZ ks -> (∀ p ∈ P, qU p.1) -> ∀ p ∈ (bh ks P A).1, qU p.1
 | [], P, A, _, hP, p, hp => by rw [bh] at hp; exact hP p hp
 | k :: ks, P, A, h, hP, p, hp => by
  rw [mZ] at h
  rw [bh] at hp
  exact ta ks _ _ h.2 (tc k P h.1 hP) p hp
end
theorem BX {D : af} {Z : List IE} {w : AV} {t : TD} (hZ : IIn D Z w) (hvk : ∀ x ∈ Z, x.vk = .nils) (hD : D2 Z = aI t []) (hz : jx t <= 1024) (hky : yG t) :
  Z.length = jx t /\ eW Z = 0 /\ OKP (D2 Z) /\ tD (D2 Z) ((D2 Z).length - 1) = t /\ AW Z (Z.length - 1) = t /\ ∀ x ∈ Z, qU x.d := by
 obtain ⟨hOK, _, _, hTr⟩ := iW t [] OKP.nil fun j hj => absurd hj (Nat.not_lt_zero _)
 rw [<- hD] at hOK hTr
 have hl : Z.length = jx t := by rw [<- dr, hD, ew]; simp
 have hp := jY (t := t)
 have hnk : ∀ x ∈ Z, x.nk = 0 := fun x hx => by
  have h1 := (hZ.2 x hx).k
  rw [hvk x hx] at h1
  rcases h1 with ⟨_, h⟩ | ⟨b, o, z, h⟩
  ·exact h
  ·cases h
 refine ⟨hl, sP hOK hnk zy zy, hOK, hTr, ?_, fun x hx => ?_⟩
 ·rw [Ch]
  rw [dr] at hTr
  exact hTr
 ·have : (x.d, x.ars) ∈ D2 Z := List.mem_map.2 ⟨x, hx, rfl⟩
  rw [hD] at this
  exact tc t [] hky (fun p hp => by simp at hp) _ this
end Go.Proofs.YtndhhgbpcmfeiaaGreatDoor.Ev
