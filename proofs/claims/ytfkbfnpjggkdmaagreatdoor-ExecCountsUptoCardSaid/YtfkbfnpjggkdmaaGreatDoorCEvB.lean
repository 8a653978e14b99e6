/- An evaluator of closed calls, part 2: what it reckons. -/
import Derived.Test.YtfkbfnpjggkdmaaGreatDoorCEvA
namespace Go.Proofs.YtfkbfnpjggkdmaaGreatDoor.Ev
open Go.RowKit
noncomputable section

def d6 : AV -> AV -> Bool
 | .bool a, .bool b => a == b
 | .int k a, .int j b => k == j && a == b
 | .str a, .str b => a == b
 | .nilp, .nilp => true
 | .ptr a b, .ptr c d => a == c && b == d
 | .nils, .nils => true
 | .slice a b c d, .slice e f g h => a == e && b == f && c == g && d == h
 | .nilf, .nilf => true
 | .func f [], .func g [] => f == g
 | .nili, .nili => true
 | .opq a, .opq b => a == b
 | .nilm, .nilm => true
 | .map a, .map b => a == b
 | .tuple [], .tuple [] => true
 | _, _ => false
def dO (f : AV -> AV -> Bool) : List AV -> List AV -> Bool
 | [], [] => true
 | a :: l, b :: m => f a b && dO f l m
 | _, _ => false
def dF : AV -> AV -> Bool
 | .func f l, .func g m => f == g && dO d6 l m
 | a, b => d6 a b
def dG : AV -> AV -> Bool
 | .agg l, .agg m => dO dF l m
 | a, b => dF a b
def AV.beq : AV -> AV -> Bool
 | .tuple l, .tuple m => dO dG l m
 | a, b => dG a b

structure Tab where
 tt : T TypeInfo
 ft : T Func
 et : T Bool
 ob : BinOp -> Nat -> IntKind -> Int -> Option AV
 oc : Nat -> IntKind -> Option AV
 orc : Nat -> List AV -> AHeap -> Option AV

def Tab.und (tb : Tab) (i : Nat) : Option TypeDesc :=
 match tb.tt.get i with
 | some x => match x.desc with
  | .named _ u => match tb.tt.get u with
   | some y => some y.desc
   | none => none
  | d => some d
 | none => none
def Tab.size (tb : Tab) (i : Nat) : Option Nat :=
 match tb.tt.get i with
 | some x => some x.size
 | none => none
def Ea : TypeDesc -> Bool
 | .struct _ => true
 | .array _ _ => true
 | _ => false
def Tab.isAgg (tb : Tab) (i : Nat) : Option Bool :=
 match tb.und i with
 | some d => some (Ea d)
 | none => none

def mP : Value -> Option AV
 | .bool b => some (.bool b)
 | .int k n => some (.int k n)
 | .string s => some (.str (s.data.toList.map UInt8.toNat))
 | .pointer none => some .nilp
 | .slice none 0 0 => some .nils
 | .nilFunc => some .nilf
 | .nilIface => some .nili
 | .map none => some .nilm
 | _ => none
def iz : List Value -> Option (List AV)
 | [] => some []
 | v :: l => match mP v with
  | some a => match iz l with
   | some m => some (a :: m)
   | none => none
  | none => none
def nw : Value -> Option AV
 | .agg cs => match iz cs.toList with
  | some l => some (.agg l)
  | none => none
 | v => mP v
def Tab.zero (tb : Tab) (i : Nat) : Option AV :=
 match tb.tt.get i with
 | some x => match x.zero with
  | some z => nw z
  | none => none
 | none => none

def aS (tm : T AV) : Operand -> Option AV
 | .tmp t => tm.get t
 | .const v => nw v
 | .func f => some (.func f [])
 | .global _ => none
def cC (tm : T AV) : List Operand -> Option (List AV)
 | [] => some []
 | x :: l => match aS tm x with
  | some a => match cC tm l with
   | some m => some (a :: m)
   | none => none
  | none => none
def bK (tm : T AV) : List (Nat × Operand) -> Option (List (Nat × AV))
 | [] => some []
 | (i, x) :: l => match aS tm x with
  | some a => match bK tm l with
   | some m => some ((i, a) :: m)
   | none => none
  | none => none

def B1 : IntKind -> Int -> Bool
 | .i64, .ofNat m => Nat.ble m 9223372036854775807
 | .i64, .negSucc m => Nat.ble m 9223372036854775807
 | .u8, .ofNat m => Nat.ble m 255
 | .u64, .ofNat m => Nat.ble m 18446744073709551615
 | .u32, .ofNat m => Nat.ble m 4294967295
 | .i32, .ofNat m => Nat.ble m 2147483647
 | .i32, .negSucc m => Nat.ble m 2147483647
 | _, _ => false
def kH (k : IntKind) (n : Int) : Int :=
 match B1 k n with
 | true => n
 | false => k.wrap n
def qc : Int -> Int -> Bool
 | .ofNat a, .ofNat b => Nat.blt a b
 | .negSucc _, .ofNat _ => true
 | .ofNat _, .negSucc _ => false
 | .negSucc a, .negSucc b => Nat.blt b a
def pV : Int -> Int -> Bool
 | .ofNat a, .ofNat b => Nat.beq a b
 | .negSucc a, .negSucc b => Nat.beq a b
 | _, _ => false
def ku (k : IntKind) (f : BitVec k.bits -> BitVec k.bits -> BitVec k.bits) (x y : Int) : AV :=
 .int k (kH k (f (BitVec.ofInt k.bits x) (BitVec.ofInt k.bits y)).toNat)
def fY (op : BinOp) (k : IntKind) (x y : Int) : Option AV :=
 match op with
 | .add => some (.int k (kH k (Int.add x y)))
 | .sub => some (.int k (kH k (Int.sub x y)))
 | .mul => some (.int k (kH k (Int.mul x y)))
 | .quo => match pV y 0 with
  | true => none
  | false => some (.int k (kH k (x.tdiv y)))
 | .rem => match pV y 0 with
  | true => none
  | false => some (.int k (x.tmod y))
 | .and => some (ku k (· &&& ·) x y)
 | .or => some (ku k (· ||| ·) x y)
 | .xor => some (ku k (· ^^^ ·) x y)
 | .andNot => some (ku k (fun a b => a &&& ~~~b) x y)
 | .eql => some (.bool (pV x y))
 | .neq => some (.bool (!(pV x y)))
 | .lss => some (.bool (qc x y))
 | .leq => some (.bool (!(qc y x)))
 | .gtr => some (.bool (qc y x))
 | .geq => some (.bool (!(qc x y)))
 | _ => none
def pC (op : BinOp) (k : IntKind) (x y : Int) : Option AV :=
 match qc y 0 with
 | true => none
 | false =>
  match op with
  | .shl => some (.int k (kH k (x * 2 ^ (min y.toNat k.bits))))
  | .shr => some (.int k (x.fdiv (2 ^ (min y.toNat k.bits))))
  | _ => none
def dg : List Nat -> List Nat -> Bool
 | [], [] => true
 | a :: l, b :: m => match Nat.beq a b with
  | true => dg l m
  | false => false
 | _, _ => false
def aL : List Nat -> List Nat -> Bool
 | _, [] => false
 | [], _ :: _ => true
 | a :: x, b :: y => match Nat.beq a b with
  | true => aL x y
  | false => Nat.blt a b
def j0 (op : BinOp) (x y : List Nat) : Option AV :=
 match op with
 | .add => match Nat.ble (x.length + y.length) 4611686018427387904 with
  | true => some (.str (x ++ y))
  | false => none
 | .eql => some (.bool (dg x y))
 | .neq => some (.bool (!(dg x y)))
 | .lss => some (.bool (aL x y))
 | .leq => some (.bool (aL x y || dg x y))
 | .gtr => some (.bool (!(aL x y || dg x y)))
 | .geq => some (.bool (!(aL x y)))
 | _ => none
def tE (d : TypeDesc) (x y : AV) : Option Bool :=
 match d, x, y with
 | .bool, .bool a, .bool b => some (a == b)
 | .pointer _, .nilp, .nilp => some true
 | .pointer _, .nilp, .ptr _ _ => some false
 | .pointer _, .ptr _ _, .nilp => some false
 | .map _ _, .nilm, .nilm => some true
 | .map _ _, .nilm, .map _ => some false
 | .map _ _, .map _, .nilm => some false
 | .slice _, .nils, .nils => some true
 | .slice _, .nils, .slice _ _ _ _ => some false
 | .slice _, .slice _ _ _ _, .nils => some false
 | .func _ _ _, .nilf, .nilf => some true
 | .func _ _ _, .nilf, .func _ _ => some false
 | .func _ _ _, .func _ _, .nilf => some false
 | _, _, _ => none
def kC (tb : Tab) (t : Nat) (cs : List AV) (off : Nat) : Option AV :=
 match tb.isAgg t with
 | some true => match tb.size t with
  | some n => some (.agg ((cs.drop off).take n))
  | none => none
 | some false => cs[off]?
 | none => none
def i0 (tb : Tab) (rec_ : Nat -> AV -> AV -> Option Bool) (xs ys : List AV) : List Field -> Option Bool
 | [] => some true
 | f :: fs =>
  match decide (f.name = "_") with
  | true => none
  | false =>
   match kC tb f.type xs f.offset, kC tb f.type ys f.offset with
   | some a, some b => match rec_ f.type a b with
    | some true => i0 tb rec_ xs ys fs
    | some false => some false
    | none => none
   | _, _ => none
def gp (tb : Tab) (rec_ : Nat -> AV -> AV -> Option Bool) (e m : Nat) (xs ys : List AV) : Nat -> Nat -> Option Bool
 | _, 0 => some true
 | i, k + 1 =>
  match kC tb e xs (i * m), kC tb e ys (i * m) with
  | some a, some b => match rec_ e a b with
   | some true => gp tb rec_ e m xs ys (i + 1) k
   | some false => some false
   | none => none
  | _, _ => none
def ef (tb : Tab) : Nat -> Nat -> AV -> AV -> Option Bool
 | 0, _, _, _ => none
 | d + 1, t, x, y =>
  match tb.und t with
  | some D =>
   match D, x, y with
   | .int _, .int k a, .int j b => if k = j then some (pV a b) else none
   | .string, .str a, .str b => some (dg a b)
   | .struct fs, .agg xs, .agg ys => match tb.et.get t with
    | some true => i0 tb (ef tb d) xs ys fs.toList
    | _ => none
   | .array n e, .agg xs, .agg ys => match tb.size e with
    | some m => gp tb (ef tb d) e m xs ys 0 n
    | none => none
   | D, x, y => tE D x y
  | none => none
def qw (tb : Tab) (t : Nat) (x y : AV) : Option Bool :=
 match x, y with
 | .agg _, .agg _ => match tb.et.get t with
  | some true => ef tb 20 t x y
  | _ => none
 | .nili, _ => none
 | _, .nili => none
 | .opq _, _ => none
 | _, .opq _ => none
 | x, y => ef tb 20 t x y
def bC (tb : Tab) (op : BinOp) (t : Nat) (x y : AV) : Option AV :=
 match x, y with
 | .int k a, .int j b =>
  match op with
  | .shl => pC .shl k a b
  | .shr => pC .shr k a b
  | _ => if k = j then fY op k a b else none
 | .str a, .str b => j0 op a b
 | .opq b, .int k n => tb.ob op b k n
 | x, y =>
  match op with
  | .eql => match qw tb t x y with
   | some b => some (.bool b)
   | none => none
  | .neq => match qw tb t x y with
   | some b => some (.bool (!b))
   | none => none
  | _ => none

def ka : List AV -> Option (List Nat)
 | [] => some []
 | .int .u8 (.ofNat n) :: l => match ka l with
  | some m => some (n % 256 :: m)
  | none => none
 | _ => none

def dy (l : List AV) (o n : Nat) : Option (List AV) :=
 match Nat.ble (o + n) l.length with
 | true => some ((l.drop o).take n)
 | false => none
def ns (tb : Tab) (objs : T AObj) (t b o : Nat) : Option AV :=
 match objs.get b with
 | some ob =>
  match tb.isAgg t with
  | some true => match tb.size t with
   | some n => match dy ob.cells o n with
    | some l => some (.agg l)
    | none => none
   | none => none
  | some false => ob.cells[o]?
  | none => none
 | none => none

def ct : List AV -> Nat -> List AV -> List AV
 | l, _, [] => l
 | [], _, _ => []
 | _ :: l, 0, b :: m => b :: ct l 0 m
 | a :: l, o + 1, m => a :: ct l o m
def cJ (place : Nat -> Option (Nat × Nat)) : List AV -> List (Nat × AV) -> Option (List AV)
 | cells, [] => some cells
 | cells, (i, v) :: rest =>
  match place i with
  | none => none
  | some (off, size) =>
   match Nat.beq v.cells.length size && Nat.ble (off + size) cells.length with
   | true => cJ place (ct cells off v.cells) rest
   | false => none
def iP : Nat -> List AV -> List AV
 | 0, _ => []
 | n + 1, l => l ++ iP n l

def fj : Option AV -> Option Nat
 | some (.int _ (.ofNat n)) => some n
 | _ => none
def cH (tm : T AV) (len : Nat) (lo hi : Option Operand) : Option (Nat × Nat) :=
 match (match hi with | some x => fj (aS tm x) | none => some len) with
 | some h =>
  match (match lo with | some x => fj (aS tm x) | none => some 0) with
  | some l => match Nat.ble h len && Nat.ble l h with
   | true => some (l, h)
   | false => none
  | none => none
 | none => none

def iN (d : TypeDesc) (x : AV) : Option Nat :=
 match d, x with
 | .string, .str s => some s.length
 | .array n _, _ => some n
 | .slice _, .slice _ _ n _ => some n
 | .slice _, .nils => some 0
 | _, _ => none
def dh (mx : Bool) : AV -> List AV -> Option AV
 | x, [] => some x
 | .int k a, .int j b :: l => dh mx (.int k (match (if mx then qc a b else qc b a) with | true => b | false => a)) l
 | _, _ => none

def dX : Option TypeDesc -> Option (List Field)
 | some (.struct fs) => some fs.toList
 | _ => none

inductive Res where
 | q (r : Option AV)
 | l (r : Option (AV × AHeap))

def gV (tm : T AV) (c a b : Operand) : Option AV :=
 match aS tm c with
 | some (.bool true) => aS tm a
 | some (.bool false) => aS tm b
 | _ => none
def ga (tb : Tab) (fs : List Field) (i : Nat) : Option (Nat × Nat) :=
 match fs[i]? with
 | some f => match tb.size f.type with
  | some n => some (f.offset, n)
  | none => none
 | none => none
def lU (tb : Tab) : List Field -> Bool
 | [] => true
 | f :: fs => match tb.size f.type with
  | some _ => lU tb fs
  | none => false
def wk : Option (List AV) -> Option AV
 | some l => some (.agg l)
 | none => none
def gH (tb : Tab) (tm : T AV) (t : Nat) (parts : Array (Nat × Operand)) : Option AV :=
 match tb.zero t, bK tm parts.toList with
 | some z, some ps =>
  match tb.und t with
  | some (.struct fs) => match lU tb fs.toList with
   | true => wk (cJ (ga tb fs.toList) z.cells ps)
   | false => none
  | some (.array _ e) =>
   match tb.size e with
   | some n => wk (cJ (fun i => some (i * n, n)) z.cells ps)
   | none => none
  | _ => none
 | _, _ => none
def iK (tb : Tab) (tm : T AV) (objs : T AObj) (t : Nat) (a : Operand) : Option AV :=
 match aS tm a with
 | some (.ptr b o) => ns tb objs t b o
 | _ => none
def dT (tm : T AV) (x : Operand) : Option AV :=
 match aS tm x with
 | some (.ptr b o) => some (.ptr b o)
 | some (.func f l) => some (.func f l)
 | _ => none
def mL : Operand -> Bool
 | .const .nilIface => true
 | _ => false
def GW (d : Option TypeDesc) (op : BinOp) (v : AV) : Option AV :=
 match d, op, v with
 | some (.interface _), .eql, .nili => some (.bool true)
 | some (.interface _), .neq, .nili => some (.bool false)
 | _, _, _ => none
def ir (tb : Tab) (tm : T AV) (op : BinOp) (t : Nat) (x y : Operand) : Option AV :=
 match mL y with
 | true => match aS tm x with
  | some v => GW (tb.und t) op v
  | none => none
 | false =>
 match aS tm x, aS tm y with
 | some a, some b => bC tb op t a b
 | _, _ => none
def gW (tm : T AV) (op : UnOp) (x : Operand) : Option AV :=
 match op, aS tm x with
 | .neg, some (.int k n) => some (.int k (kH k (Int.sub 0 n)))
 | .not, some (.bool b) => some (.bool (!b))
 | .xor, some (.int k n) => some (ku k (· ^^^ ·) (if k.signed then -1 else k.max) n)
 | _, _ => none
def pK (objs : T AObj) (b o n sz : Nat) : Option AV :=
 match objs.get b, Nat.beq sz 1 with
 | some ob, true =>
  match dy ob.cells o n with
  | some l => match ka l with
   | some s => some (.str s)
   | none => none
  | none => none
 | _, _ => none
def B7 : Option TypeDesc -> Bool
 | some (.int .u8) => true
 | _ => false
def ec (tb : Tab) (tm : T AV) (h : AHeap) (src dst : Nat) (x : Operand) : Res :=
 match tb.und src, tb.und dst, aS tm x with
 | some _, some (.int k), some (.int _ n) => .q (some (.int k (kH k n)))
 | some _, some .string, some (.str s) => .q (some (.str s))
 | some (.int _), some (.int k), some (.opq b) => .q (tb.oc b k)
 | some (.slice e), some .string, some .nils => match B7 (tb.und e) with
  | true => .q (some (.str []))
  | false => .q none
 | some (.slice e), some .string, some (.slice b o n sz) => match B7 (tb.und e) with
  | true => .q (pK h.objs b o n sz)
  | false => .q none
 | some .string, some (.slice e), some (.str s) => match B7 (tb.und e) with
  | true => .l (some (.slice h.next 0 s.length 1, ⟨h.next + 1, h.objs.set h.next ⟨1, false, s.map fun c => .int .u8 (.ofNat c)⟩⟩))
  | false => .q none
 | _, _, _ => .q none
def jW (tm : T AV) (s : List Nat) (lo hi : Option Operand) : Option AV :=
 match cH tm s.length lo hi with
 | some (l, h) => some (.str ((s.drop l).take (h - l)))
 | none => none
def ii (tb : Tab) (tm : T AV) (e b o n sz : Nat) (lo hi : Option Operand) : Option AV :=
 match tb.size e with
 | some m => match Nat.beq m sz with
  | true => match cH tm n lo hi with
   | some (l, h) => some (.slice b (o + l) (h - l) sz)
   | none => none
  | false => none
 | none => none
def jV (tb : Tab) (tm : T AV) (objs : T AObj) (len e b : Nat) (lo hi : Option Operand) : Option AV :=
 match tb.size e, objs.get b with
 | some m, some ob => match Nat.beq ob.sz m && ob.exact_ && Nat.beq ob.cells.length (len * m) && Nat.blt 0 m with
  | true => match cH tm len lo hi with
   | some (l, h) => some (.slice b l (h - l) m)
   | none => none
  | false => none
 | _, _ => none
def eR (tb : Tab) (tm : T AV) (objs : T AObj) (t : Nat) (x : Operand) (lo hi mx : Option Operand) : Option AV :=
 match mx, tb.und t, aS tm x with
 | none, some .string, some (.str s) => jW tm s lo hi
 | none, some (.slice e), some (.slice b o n sz) => ii tb tm e b o n sz lo hi
 | none, some (.slice e), some .nils => match cH tm 0 lo hi, tb.size e with
  | some _, some _ => some .nils
  | _, _ => none
 | none, some (.array len e), some (.ptr b 0) => jV tb tm objs len e b lo hi
 | _, _, _ => none
def dq (tb : Tab) (tm : T AV) (s : Nat) (x : Operand) (f : Nat) : Option AV :=
 match dX (tb.und s), aS tm x with
 | some fs, some (.ptr b o) => match ga tb fs f with
  | some (off, _ + 1) => some (.ptr b (o + off))
  | _ => none
 | _, _ => none
def jj (tb : Tab) (tm : T AV) (s : Nat) (x : Operand) (f : Nat) : Option AV :=
 match dX (tb.und s), aS tm x with
 | some fs, some (.agg cs) => match fs[f]? with
  | some fd => kC tb fd.type cs fd.offset
  | none => none
 | _, _ => none
def dr (tb : Tab) (tm : T AV) (t : Nat) (x ix : Operand) : Option AV :=
 match tb.und t, aS tm x, fj (aS tm ix) with
 | some (.slice e), some (.slice b o n sz), some i =>
  match tb.size e with
  | some m => match Nat.beq m sz && Nat.blt i n with
   | true => some (.ptr b ((o + i) * sz))
   | false => none
  | none => none
 | some (.array len e), some (.ptr b o), some i =>
  match tb.size e with
  | some m => match Nat.blt i len with
   | true => some (.ptr b (o + i * m))
   | false => none
  | none => none
 | _, _, _ => none
def gI (tb : Tab) (tm : T AV) (t : Nat) (x ix : Operand) : Option AV :=
 match tb.und t, aS tm x, fj (aS tm ix) with
 | some .string, some (.str s), some i => match s[i]? with
  | some c => some (.int .u8 (.ofNat c))
  | none => none
 | some (.array len e), some (.agg cs), some i =>
  match tb.size e with
  | some m => match Nat.blt i len with
   | true => kC tb e cs (i * m)
   | false => none
  | none => none
 | _, _, _ => none
def eP (tm : T AV) (x : Operand) (i : Nat) : Option AV :=
 match aS tm x with
 | some (.tuple l) => l[i]?
 | _ => none
def c9 (tm : T AV) (fn : Fn) (first captured : Array Operand) : Option AV :=
 match fn, first.toList, cC tm captured.toList with
 | .func f, [], some l => match l.all AV.isCell with
  | true => some (.func f l)
  | false => none
 | .func f, [y], some [] => match aS tm y with
  | some x => some (.func f [.tuple [], x])
  | none => none
 | _, _, _ => none
def lE (tb : Tab) (tm : T AV) (args : Array Operand) (argTypes : Array Nat) : Option AV :=
 match argTypes.toList, args.toList with
 | t :: _, [x] => match tb.und t, aS tm x with
  | some d, some v => match iN d v with
   | some n => some (.int .i64 (.ofNat n))
   | none => none
  | _, _ => none
 | _, _ => none
def dJ (tm : T AV) (mx : Bool) (args : Array Operand) : Option AV :=
 match cC tm args.toList with
 | some (x :: l) => dh mx x l
 | _ => none

def bk (tb : Tab) (t : Nat) (cells : List AV) : AObj :=
 match tb.und t with
 | some (.array n e) => match tb.size e with
  | some m => match Nat.beq (n * m) cells.length with
   | true => ⟨m, true, cells⟩
   | false => ⟨cells.length, true, cells⟩
  | none => ⟨cells.length, true, cells⟩
 | _ => ⟨cells.length, true, cells⟩

def dH (objs : T AObj) (sz : Nat) : AV -> Option (Nat × List AV)
 | .nils => some (0, [])
 | .str s => match Nat.beq sz 1 with
  | true => some (s.length, s.map fun c => .int .u8 (.ofNat c))
  | false => none
 | .slice b o n sz' => match objs.get b with
  | some ob => match Nat.beq sz sz' with
   | true => match dy ob.cells (o * sz) (n * sz) with
    | some l => some (n, l)
    | none => none
   | false => none
  | none => none
 | _ => none

def fL (h : AHeap) (b o len sz n : Nat) (new : List AV) : Option (AV × AHeap) :=
 match h.objs.get b with
 | some ob =>
  match Nat.beq ob.sz sz, Nat.ble ((o + len + n) * sz) ob.cells.length with
  | true, true => some (.slice b o (len + n) sz, ⟨h.next, h.objs.set b ⟨ob.sz, ob.exact_, ct ob.cells ((o + len) * sz) new⟩⟩)
  | true, false =>
   match dy ob.cells (o * sz) (len * sz) with
   | some old =>
    match ob.exact_ with
    | true => some (.slice h.next 0 (len + n) sz, ⟨h.next + 1, h.objs.set h.next ⟨sz, false, old ++ new⟩⟩)
    | false => some (.slice h.next 0 (len + n) sz, ⟨h.next + 1, (h.objs.del b).set h.next ⟨sz, false, old ++ new⟩⟩)
   | none => none
  | _, _ => none
 | none => none
def dp (h : AHeap) (sz n : Nat) (s : AV) (new : List AV) : Option (AV × AHeap) :=
 match Nat.beq n 0 with
 | true => match s with
  | .nils => some (.nils, h)
  | .slice b o len sz' => match Nat.beq sz' sz with
   | true => some (.slice b o len sz, h)
   | false => none
  | _ => none
 | false =>
  match s with
  | .nils => match Nat.ble n 1073741824 with
   | true => some (.slice h.next 0 n sz, ⟨h.next + 1, h.objs.set h.next ⟨sz, false, new⟩⟩)
   | false => none
  | .slice b o len sz' =>
   match Nat.beq sz' sz && Nat.ble (len + n) 1073741824 with
   | true => fL h b o len sz n new
   | false => none
  | _ => none
def sk (d : TypeDesc) : Bool := d matches .int _
def lq (tb : Tab) (t t2 : Nat) (s x : AV) (h : AHeap) : Option (AV × AHeap) :=
 match tb.und t, tb.und t2 with
 | some (.slice e), some d2 =>
  match sk d2, tb.tt.get e, tb.zero e with
  | false, some ti, some z =>
   match Nat.blt 0 ti.size && Nat.ble ti.bytes 4096 && Nat.beq z.cells.length ti.size with
   | true =>
    match dH h.objs ti.size x with
    | some (n, new) => dp h ti.size n s new
    | none => none
   | false => none
  | _, _, _ => none
 | _, _ => none
def cq (tb : Tab) (tm : T AV) (h : AHeap) (args : Array Operand) (argTypes : Array Nat) : Option (AV × AHeap) :=
 match argTypes.toList, cC tm args.toList with
 | t :: t2 :: _, some [s, x] => lq tb t t2 s x h
 | _, _ => none

def vd (h : AHeap) (b o len sz : Nat) (r : Option (Nat × List AV)) : Option (AV × AHeap) :=
 match h.objs.get b, r with
 | some ob, some (n, cs) =>
  match Nat.beq ob.sz sz && Nat.blt 0 sz, Nat.ble ((o + len) * sz) ob.cells.length with
  | true, true => some (.int .i64 (.ofNat (min n len)), ⟨h.next, h.objs.set b ⟨ob.sz, ob.exact_, ct ob.cells (o * sz) (cs.take (min n len * sz))⟩⟩)
  | _, _ => none
 | _, _ => none
def wO (tb : Tab) (t : Nat) (d x : AV) (h : AHeap) : Option (AV × AHeap) :=
 match tb.und t with
 | some (.slice e) =>
  match tb.size e with
  | some sz =>
   match d with
   | .nils => match dH h.objs sz x with
    | some _ => some (.int .i64 0, h)
    | none => none
   | .slice b o len sz' => match Nat.beq sz' sz with
    | true => vd h b o len sz (dH h.objs sz x)
    | false => none
   | _ => none
  | none => none
 | _ => none
def jI (tb : Tab) (tm : T AV) (h : AHeap) (args : Array Operand) (argTypes : Array Nat) : Option (AV × AHeap) :=
 match argTypes.toList, cC tm args.toList with
 | t :: _, some [d, x] => wO tb t d x h
 | _, _ => none

def lC (tb : Tab) (h : AHeap) (t : Nat) : Option (AV × AHeap) :=
 match tb.zero t with
 | some z => some (.ptr h.next 0, ⟨h.next + 1, h.objs.set h.next (bk tb t z.cells)⟩)
 | none => none
def lD (tb : Tab) (tm : T AV) (h : AHeap) (t : Nat) (x : Operand) : Option (AV × AHeap) :=
 match aS tm x with
 | some v => match v.cells.all AV.isCell with
  | true => some (.ptr h.next 0, ⟨h.next + 1, h.objs.set h.next (bk tb t v.cells)⟩)
  | false => none
 | none => none
def pw (h : AHeap) (len n : Nat) : Option (List AV) -> Option (AV × AHeap)
 | some l => match l.all AV.isCell with
  | true => some (.slice h.next 0 len n, ⟨h.next + 1, h.objs.set h.next ⟨n, true, l⟩⟩)
  | false => none
 | none => none
def cQ (tb : Tab) (tm : T AV) (h : AHeap) (t len : Nat) (parts : Array (Nat × Operand)) : Option (AV × AHeap) :=
 match tb.und t with
 | some (.slice e) => match tb.size e, tb.zero e, bK tm parts.toList with
  | some n, some z, some ps =>
   match Nat.ble (len * n) 16777216 && Nat.beq z.cells.length n && Nat.blt 0 n with
   | true => pw h len n (cJ (fun i => some (i * n, n)) (iP len z.cells) ps)
   | false => none
  | _, _, _ => none
 | _ => none
def dt (tb : Tab) (tm : T AV) (h : AHeap) (t : Nat) (l c : Operand) : Option (AV × AHeap) :=
 match tb.und t, fj (aS tm l), fj (aS tm c) with
 | some (.slice e), some len, some cap =>
  match tb.tt.get e, tb.zero e with
  | some ti, some z =>
   match Nat.ble ti.bytes 4096 && Nat.ble cap 1073741824 && Nat.ble len cap && Nat.beq z.cells.length ti.size && Nat.blt 0 ti.size with
   | true => some (.slice h.next 0 len ti.size, ⟨h.next + 1, h.objs.set h.next ⟨ti.size, true, iP cap z.cells⟩⟩)
   | false => none
  | _, _ => none
 | _, _, _ => none
def eJ (tb : Tab) (h : AHeap) (t b o : Nat) (v : AV) : Option (AV × AHeap) :=
 match tb.size t, h.objs.get b with
 | some n, some ob =>
  match Nat.beq v.cells.length n && Nat.ble (o + n) ob.cells.length && v.cells.all AV.isCell, Nat.blt 0 ob.sz with
  | true, true => some (.tuple [], ⟨h.next, h.objs.set b ⟨ob.sz, ob.exact_, ct ob.cells o v.cells⟩⟩)
  | _, _ => none
 | _, _ => none
def dw (tb : Tab) (tm : T AV) (h : AHeap) (t : Nat) (a x : Operand) : Option (AV × AHeap) :=
 match aS tm a, aS tm x with
 | some (.ptr b o), some v => eJ tb h t b o v
 | _, _ => none
def fi (tb : Tab) (d : Option TypeDesc) (k : AV) : Bool :=
 match d, k with
 | some (.int _), .int _ _ => true
 | some .string, .str _ => true
 | some (.array n e), .agg l => Nat.beq l.length n && (match tb.und e with
  | some .string => l.all (fun | .str _ => true | _ => false)
  | some (.int _) => l.all (fun | .int _ _ => true | _ => false)
  | _ => false) && (match tb.size e with
  | some m => Nat.beq m 1
  | none => false)
 | _, _ => false
def d7 (eq : AV -> AV -> Option Bool) (k : AV) : List AV -> Nat -> Option (Option Nat)
 | [], _ => some none
 | a :: _ :: _ :: l, i => match eq k a with
  | some true => some (some i)
  | some false => d7 eq k l (i + 1)
  | none => none
 | _, _ => none
def jq (ok : Bool) (v : AV) (is : Bool) : AV :=
 match ok with
 | true => .tuple [v, .bool is]
 | false => v
def vF (cells : List AV) (z : AV) (ok : Bool) (r : Option (Option Nat)) : Option AV :=
 match r with
 | some (some i) => match cells[3 * i + 1]? with
  | some v => some (jq ok v true)
  | none => none
 | some none => some (jq ok z false)
 | none => none
def yg (tb : Tab) (objs : T AObj) (kt et : Nat) (m k : AV) (ok : Bool) : Option AV :=
 match fi tb (tb.und kt) k, tb.zero et with
 | true, some z => match m with
  | .nilm => some (jq ok z false)
  | .map b => match objs.get b with
   | some ob => vF ob.cells z ok (d7 (ef tb 20 kt) k ob.cells 0)
   | none => none
  | _ => none
 | _, _ => none
def bO : Option TypeDesc -> Option (Nat × Nat)
 | some (.map k e) => some (k, e)
 | _ => none
def eG (tb : Tab) (tm : T AV) (objs : T AObj) (t : Nat) (x ix : Operand) (ok : Bool) : Option AV :=
 match bO (tb.und t), aS tm x, aS tm ix with
 | some (kt, et), some m, some k => yg tb objs kt et m k ok
 | _, _, _ => none
def Jj (ob : AObj) (k v : AV) (r : Option (Option Nat)) : Option AObj :=
 match r with
 | some none => some ⟨ob.sz + 1, ob.exact_, ob.cells ++ [k, v, .int .i64 (.ofNat ob.sz)]⟩
 | some (some i) => match ob.cells[3 * i]? with
  | some a => match a.beq k with
   | true => some ⟨ob.sz, ob.exact_, ct ob.cells (3 * i) [k, v]⟩
   | false => none
  | none => none
 | none => none
def kl (h : AHeap) (b : Nat) (v : AV) : Option AObj -> Option (AV × AHeap)
 | some ob => some (v, ⟨h.next, h.objs.set b ob⟩)
 | none => none
def du (tb : Tab) (tm : T AV) (h : AHeap) (t : Nat) (x ix y : Operand) : Option (AV × AHeap) :=
 match bO (tb.und t), aS tm x, aS tm ix, aS tm y with
 | some (kt, _), some (.map b), some k, some v => match fi tb (tb.und kt) k, h.objs.get b with
  | true, some ob => kl h b (.tuple []) (Jj ob k v (d7 (ef tb 20 kt) k ob.cells 0))
  | _, _ => none
 | _, _, _, _ => none
def vg (h : AHeap) (b : Nat) (ob : AObj) (k z : AV) (r : Option (Option Nat)) : Option (AV × AHeap) :=
 match r with
 | some none => some (.tuple [z, .int .i64 (.ofNat ob.sz)], ⟨h.next, h.objs.set b ⟨ob.sz + 1, ob.exact_, ob.cells ++ [k, z, .int .i64 (.ofNat ob.sz)]⟩⟩)
 | some (some i) => match ob.cells[3 * i]?, ob.cells[3 * i + 1]?, ob.cells[3 * i + 2]? with
  | some a, some v, some n => match a.beq k with
   | true => some (.tuple [v, n], h)
   | false => none
  | _, _, _ => none
 | none => none
def da (tb : Tab) (tm : T AV) (h : AHeap) (t : Nat) (x ix : Operand) : Option (AV × AHeap) :=
 match bO (tb.und t), aS tm x, aS tm ix with
 | some (kt, et), some (.map b), some k => match fi tb (tb.und kt) k, h.objs.get b, tb.zero et with
  | true, some ob, some z => vg h b ob k z (d7 (ef tb 20 kt) k ob.cells 0)
  | _, _, _ => none
 | _, _, _ => none
def kB (n : Int) : List AV -> Nat -> Option Nat
 | _ :: _ :: .int _ m :: l, i => match pV m n with
  | true => some i
  | false => kB n l (i + 1)
 | _, _ => none
def cU (tm : T AV) (h : AHeap) (x s y : Operand) : Option (AV × AHeap) :=
 match aS tm x, aS tm s, aS tm y with
 | some (.map b), some (.int _ n), some v => match h.objs.get b with
  | some ob => match kB n ob.cells 0 with
   | some i => some (.tuple [], ⟨h.next, h.objs.set b ⟨ob.sz, ob.exact_, ct ob.cells (3 * i + 1) [v]⟩⟩)
   | none => none
  | none => none
 | _, _, _ => none
def dI (tb : Tab) (tm : T AV) (h : AHeap) (t : Nat) (r : Option Operand) : Option (AV × AHeap) :=
 match bO (tb.und t), (match r with | none => true | some x => (match aS tm x with | some (.int _ _) => true | _ => false)) with
 | some _, true => some (.map h.next, ⟨h.next + 1, h.objs.set h.next ⟨0, true, []⟩⟩)
 | _, _ => none
def fM : List AV -> Option AV
 | [.tuple [], x] => some x
 | _ => none
def bT (tm : T AV) (h : AHeap) (call : Nat -> List AV -> AHeap -> Option (AV × AHeap)) (f : Operand) (args : Array Operand) : Option (AV × AHeap) :=
 match aS tm f, cC tm args.toList with
 | some (.func g caps), some l => match fM caps with
  | none => call g (l ++ caps) h
  | some x => call g (x :: l) h
 | _, _ => none
def gq (tb : Tab) (call : Nat -> List AV -> AHeap -> Option (AV × AHeap)) (tm : T AV) (h : AHeap) (c : Call) : Res :=
 match c.callee with
 | .value f => .l (bT tm h call f c.args)
 | .builtin .len => .q (lE tb tm c.args c.argTypes)
 | .builtin .append => .l (cq tb tm h c.args c.argTypes)
 | .builtin .copy => .l (jI tb tm h c.args c.argTypes)
 | .builtin .min => .q (dJ tm false c.args)
 | .builtin .max => .q (dJ tm true c.args)
 | _ => .q none

def cO (tb : Tab) (call : Nat -> List AV -> AHeap -> Option (AV × AHeap)) (tm : T AV) (h : AHeap) (op : Op) : Res :=
 match op with
 | .move x => .q (aS tm x)
 | .assign x => .q (aS tm x)
 | .pick c a b => .q (gV tm c a b)
 | .alloc t => .l (lC tb h t)
 | .box t x => .l (lD tb tm h t x)
 | .build t parts => .q (gH tb tm t parts)
 | .buildSlice t n parts => .l (cQ tb tm h t n parts)
 | .load t a => .q (iK tb tm h.objs t a)
 | .store t a x => .l (dw tb tm h t a x)
 | .nilCheck x => .q (dT tm x)
 | .binOp op t x y _ => .q (ir tb tm op t x y)
 | .unOp op _ x => .q (gW tm op x)
 | .convert s d x => ec tb tm h s d x
 | .makeFunc fn a b => .q (c9 tm fn a b)
 | .makeSlice t l c => .l (dt tb tm h t l c)
 | .slice t x lo hi mx => .q (eR tb tm h.objs t x lo hi mx)
 | .fieldAddr s x f => .q (dq tb tm s x f)
 | .field s x f => .q (jj tb tm s x f)
 | .indexAddr t x i => .q (dr tb tm t x i)
 | .index t x i => .q (gI tb tm t x i)
 | .extract x i => .q (eP tm x i)
 | .call c => gq tb call tm h c
 | .lookup t x i ok => .q (eG tb tm h.objs t x i ok)
 | .makeMap t r => .l (dI tb tm h t r)
 | .mapUpdate t m k v => .l (du tb tm h t m k v)
 | .mapEntry t m k => .l (da tb tm h t m k)
 | .entryStore _ m s v => .l (cU tm h m s v)
 | _ => .q none

def kQ (tb : Tab) (tm : T AV) (h : AHeap) (op : Op) : Option AV :=
 match cO tb (fun _ _ _ => none) tm h op with
 | .q r => r
 | .l _ => none

def aK (ops : List Oper) (tm : T AV) (o : Oper) : Option Bool :=
 match o.guard with
 | none => some true
 | some (j, want) => match ops[j]? with
  | some oj => match oj.dst with
   | some d => match tm.get d with
    | some (.bool b) => some (b == want)
    | some (.tuple []) => some false
    | _ => none
   | none => none
  | none => none

def fT (tb : Tab) (call : Nat -> List AV -> AHeap -> Option (AV × AHeap)) (ops : List Oper) (tm : T AV) (h : AHeap) (o : Oper) : Option (AV × AHeap × Nat) :=
 match aK ops tm o with
 | some true =>
  match cO tb call tm h o.op with
  | .l (some (v, h')) => some (v, h', 2)
  | .q (some v) => some (v, h, 1)
  | _ => none
 | some false => some (.tuple [], h, 0)
 | none => none

def bE (tm : T AV) (n : Nat) (d : Option Nat) (v : AV) : Option (T AV) :=
 match d with
 | none => some tm
 | some d => match Nat.blt d n with
  | true => some (tm.set d v)
  | false => none

def db (tb : Tab) (call : Nat -> List AV -> AHeap -> Option (AV × AHeap)) (n : Nat) (ops : List Oper) : List Oper -> T AV -> AHeap -> Option (T AV × AHeap)
 | [], tm, h => some (tm, h)
 | o :: rest, tm, h => match fT tb call ops tm h o with
  | some (v, h', _) => match bE tm n o.dst v with
   | some tm' => db tb call n ops rest tm' h'
   | none => none
  | none => none

structure Ent where
 i : Nat
 o : Oper
 tm : T AV
 v : AV
 kind : Nat

def bh (tb : Tab) (call : Nat -> List AV -> AHeap -> Option (AV × AHeap)) (n : Nat) (ops : List Oper) :
  Nat -> List Oper -> T AV -> AHeap -> Option (List Ent × List (Nat × AHeap) × T AV × AHeap)
 | _, [], tm, h => some ([], [], tm, h)
 | i, o :: rest, tm, h => match fT tb call ops tm h o with
  | some (v, h', k) => match bE tm n o.dst v with
   | some tm' => match bh tb call n ops (i + 1) rest tm' h' with
    | some (es, ms, tm'', h'') => some (⟨i, o, tm, v, k⟩ :: es, (if k = 2 then (i + 1, h') :: ms else ms), tm'', h'')
    | none => none
   | none => none
  | none => none

def cY (e : Edge) : Bool :=
 match e.ground with
 | .textOnly _ => false
 | .gcOnly _ => false
 | _ => true
def ay : List Oper -> List Nat -> List Nat
 | [], acc => acc
 | o :: rest, acc =>
  ay rest (acc ++ [o.after.toList.foldl (fun s e => if cY e then s ||| 2 ^ e.on ||| acc.getD e.on 0 else s) 0])
def bU (ops : List Oper) (o : Oper) : List Nat :=
  o.dst.toList ++ (o.op.operands.toList.filterMap fun | .tmp t => some t | _ => none) ++
  (match o.guard with
   | some (j, _) => ((ops[j]?).bind (·.dst)).toList
   | none => [])
def gz (ops : List Oper) : Bool :=
 let b := ay ops []
 (ops.zipIdx.all fun (o, i) => o.after.toList.all fun e => !cY e || Nat.blt e.on i) &&
 ops.zipIdx.all fun (o, j) => ops.zipIdx.all fun (x, i) =>
  i == j || (match x.dst with
   | some d => !(bU ops o).contains d || (b.getD j 0).testBit i || (b.getD i 0).testBit j
   | none => true)

def iq (tb : Tab) (b : List Nat) (louds : List Nat) (marks : List (Nat × AHeap)) (e : Ent) : Bool :=
  match e.kind with
  | 2 => louds.all fun i => !(Nat.blt i e.i) || (b.getD e.i 0).testBit i
  | 1 => marks.all fun (n, h) =>
      !(louds.all fun i => (!((b.getD e.i 0).testBit i) || Nat.blt i n) && (!((b.getD i 0).testBit e.i) || Nat.ble n i)) ||
      (match kQ tb e.tm h e.o.op with
       | some v => v.beq e.v
       | none => false)
  | _ => true

def bR : Op -> Bool
 | .alloc _ => true
 | .box _ _ => true
 | .buildSlice _ _ _ => true
 | .store _ _ _ => true
 | .makeSlice _ _ _ => true
 | .convert _ _ _ => true
 | .makeMap _ _ => true
 | .mapUpdate _ _ _ _ => true
 | .mapEntry _ _ _ => true
 | .entryStore _ _ _ _ => true
 | .call c => match c.callee with
  | .builtin .len => false
  | .builtin .min => false
  | .builtin .max => false
  | _ => true
 | _ => false
def fh (ops : List Oper) : Bool :=
 let b := ay ops []
 ops.zipIdx.all fun (o, j) => !(bR o.op) || ops.zipIdx.all fun (_, i) => i == j || (b.getD j 0).testBit i || (b.getD i 0).testBit j

def df : Op -> Bool
 | .alloc _ => true
 | .box _ _ => true
 | .buildSlice _ _ _ => true
 | _ => false
def vI (tb : Tab) (tm : T AV) (op : Op) : Option (AObj × (Nat -> AV)) :=
 match op with
 | .alloc t => match tb.zero t with
  | some z => some (bk tb t z.cells, fun b => .ptr b 0)
  | none => none
 | .box t x => match aS tm x with
  | some v => match v.cells.all AV.isCell with
   | true => some (bk tb t v.cells, fun b => .ptr b 0)
   | false => none
  | none => none
 | .buildSlice t len parts => match tb.und t with
  | some (.slice e) => match tb.size e, tb.zero e, bK tm parts.toList with
   | some n, some z, some ps =>
    match Nat.ble (len * n) 16777216 && Nat.beq z.cells.length n && Nat.blt 0 n with
    | true => match cJ (fun i => some (i * n, n)) (iP len z.cells) ps with
     | some l => match l.all AV.isCell with
      | true => some (⟨n, true, l⟩, fun b => .slice b 0 len n)
      | false => none
     | none => none
    | false => none
   | _, _, _ => none
  | _ => none
 | _ => none
def vS (b : List Nat) (n : Nat) : List Nat -> List Nat -> List Nat
 | [], em => em ++ (List.range n).filter fun i => !(em.contains i)
 | j :: l, em => match em.contains j with
  | true => vS b n l em
  | false => vS b n l (em ++ (List.range n).filter (fun i => (b.getD j 0).testBit i && !(em.contains i)) ++ [j])
def cm (ops : List Oper) : List Nat := vS (ay ops []) ops.length (ops.zipIdx.filterMap fun (o, i) => if bR o.op && !(df o.op) then some i else none) []
def ug (b : List Nat) (n : Nat) (ord : List Nat) : Bool :=
 Nat.beq ord.length n && (List.range n).all (fun i => ord.contains i) && ord.all (fun i => Nat.blt i n) &&
 (List.range n).all fun p => (List.range n).all fun q => (Nat.beq p q || !(Nat.beq (ord.getD p 0) (ord.getD q 0))) && (Nat.blt q p || !((b.getD (ord.getD p 0) 0).testBit (ord.getD q 0)))
def gG (tb : Tab) (call : Nat -> List AV -> AHeap -> Option (AV × AHeap)) (ops : List Oper) (num : Nat) (tm : T AV) (h : AHeap) (o : Oper) : Option (AV × AHeap × Nat) :=
 match df o.op with
 | false => fT tb call ops tm h o
 | true =>
  match aK ops tm o with
  | some true => match vI tb tm o.op with
   | some (ob, f) => some (f num, ⟨h.next, h.objs.set num ob⟩, 3)
   | none => none
  | some false => some (.tuple [], h, 0)
  | none => none
def bw (tb : Tab) (call : Nat -> List AV -> AHeap -> Option (AV × AHeap)) (n : Nat) (ops : List Oper) (base : Nat) :
  Nat -> List Oper -> T AV -> AHeap -> Option (List Ent × List (Nat × AHeap) × T AV × AHeap)
 | _, [], tm, h => some ([], [], tm, h)
 | i, o :: rest, tm, h => match gG tb call ops (base + i) tm h o with
  | some (v, h', k) => match bE tm n o.dst v with
   | some tm' => match bw tb call n ops base (i + 1) rest tm' h' with
    | some (es, ms, tm'', h'') => some (⟨i, o, tm, v, k⟩ :: es, (if 2 <= k then (i + 1, h') :: ms else ms), tm'', h'')
    | none => none
   | none => none
  | none => none
def tQ (tb : Tab) (bt : Nat -> Nat -> Bool) (hards makers : List Nat) (marks : List (Nat × AHeap)) (e : Ent) : Bool :=
  match e.kind with
  | 2 => (hards.all fun i => !(Nat.blt i e.i) || bt e.i i) && (makers.all fun i => !(Nat.blt i e.i) || bt e.i i)
  | 1 => marks.all fun (n, h) =>
      !((hards.all fun i => (!(bt e.i i) || Nat.blt i n) && (!(bt i e.i) || Nat.ble n i)) && (makers.all fun i => !(bt i e.i) || Nat.ble n i)) ||
      (match kQ tb e.tm h e.o.op with
       | some v => v.beq e.v
       | none => false)
  | _ => true
def fp (k : Nat) (es : List Ent) : List Nat := es.filterMap fun e => if e.kind = k then some e.i else none
def eQ (tb : Tab) (call : Nat -> List AV -> AHeap -> Option (AV × AHeap)) (n : Nat) (ops : List Oper) (tm : T AV) (h : AHeap) : Option (T AV × AHeap) :=
 match ug (ay ops []) ops.length (cm ops) with
 | true =>
  match bw tb call n ops h.next 0 ((cm ops).filterMap fun i => ops[i]?) tm ⟨h.next + ops.length, h.objs⟩ with
  | some (es, ms, tm', h') =>
   match es.all (tQ tb (fun p q => ((ay ops []).getD ((cm ops).getD p 0) 0).testBit ((cm ops).getD q 0)) (fp 2 es) (fp 3 es) ((0, ⟨h.next + ops.length, h.objs⟩) :: ms)) with
   | true => some (tm', h')
   | false => none
  | none => none
 | false => none

def fA (ops : List Oper) : Bool :=
 let b := ay ops []
 ops.zipIdx.any fun (o, j) => df o.op && ops.zipIdx.any fun (x, i) => !(Nat.beq i j) && bR x.op && !((b.getD j 0).testBit i) && !((b.getD i 0).testBit j)
def c7 (tb : Tab) (call : Nat -> List AV -> AHeap -> Option (AV × AHeap)) (n : Nat) (ops : List Oper) (tm : T AV) (h : AHeap) : Option (T AV × AHeap) :=
 match gz ops with
 | true =>
  match fh ops with
  | true => db tb call n ops ops tm h
  | false =>
  match fA ops with
  | true => eQ tb call n ops tm h
  | false =>
  match bh tb call n ops 0 ops tm h with
  | some (es, ms, tm', h') =>
   match ms with
   | [] => some (tm', h')
   | _ =>
    match es.all (iq tb (ay ops []) (es.filterMap fun e => if e.kind = 2 then some e.i else none) ((0, h) :: ms)) with
    | true => some (tm', h')
    | false => none
  | none => none
 | false => none

inductive Ex where
 | normal
 | exit (id : Nat)
 | ret

def cA (tb : Tab) (call : Nat -> List AV -> AHeap -> Option (AV × AHeap)) (n : Nat)
  (ih : Code -> T AV -> AHeap -> Option (Ex × T AV × AHeap)) (c : Code) (tm : T AV) (h : AHeap) : Option (Ex × T AV × AHeap) :=
 match c with
 | .skip => some (.normal, tm, h)
 | .label _ => some (.normal, tm, h)
 | .ret => some (.ret, tm, h)
 | .exit id => some (.exit id, tm, h)
 | .region _ ops draw =>
  match (match draw with
   | true => c7 tb call n ops.toList tm h
   | false => db tb call n ops.toList ops.toList tm h) with
  | some (tm', h') => some (.normal, tm', h')
  | none => none
 | .seq a b => match ih a tm h with
  | some (.normal, tm', h') => ih b tm' h'
  | r => r
 | .cond x a b => match aS tm x with
  | some (.bool true) => ih a tm h
  | some (.bool false) => ih b tm h
  | _ => none
 | .block id b => match ih b tm h with
  | some (.exit j, tm', h') => match Nat.beq j id with
   | true => some (.normal, tm', h')
   | false => some (.exit j, tm', h')
  | r => r
 | .loop b => match ih b tm h with
  | some (.normal, tm', h') => ih (.loop b) tm' h'
  | r => r
 | _ => none

def er : Nat -> List AV -> T AV -> T AV
 | _, [], tm => tm
 | i, v :: l, tm => er (i + 1) l (tm.set i v)
def jw (tb : Tab) (tm : T AV) (h : AHeap) : ResultVar -> Option AV
 | .tmp t => tm.get t
 | .cell a t => match tm.get a with
  | some (.ptr b o) => ns tb h.objs t b o
  | _ => none
def cF (tb : Tab) (tm : T AV) (h : AHeap) : List ResultVar -> Option (List AV)
 | [] => some []
 | r :: l => match jw tb tm h r with
  | some v => match cF tb tm h l with
   | some m => some (v :: m)
   | none => none
  | none => none
def bW : List AV -> AV
 | [v] => v
 | l => .tuple l

def bQ (tb : Tab) (run : Nat -> Code -> T AV -> AHeap -> Option (Ex × T AV × AHeap)) (f : Nat) (args : List AV) (h : AHeap) : Option (AV × AHeap) :=
 match tb.orc f args h with
 | some v => some (v, h)
 | none =>
 match tb.ft.get f with
 | some fn =>
  match fn.body, Nat.ble args.length fn.ntmps with
  | some c, true =>
   match run fn.ntmps c (er 0 args .leaf) h with
   | some (.exit _, _, _) => none
   | some (_, tm, h') => match cF tb tm h' fn.results.toList with
    | some l => some (bW l, h')
    | none => none
   | none => none
  | _, _ => none
 | none => none

def run (tb : Tab) : Nat -> Nat -> Code -> T AV -> AHeap -> Option (Ex × T AV × AHeap)
 | 0, _, _, _, _ => none
 | k + 1, n, c, tm, h => cA tb (bQ tb (run tb k)) n (run tb k n) c tm h

def Im (tb : Tab) (k : Nat) (f : Nat) (args : List AV) (h : AHeap) : Option (AV × AHeap) := bQ tb (run tb k) f args h

def lX (P : Program) : Tab := ⟨gj 0 P.types.toList .leaf, gj 0 P.funcs.toList .leaf,
 gj 0 ((List.range P.types.size).map fun t => !(P.eqGuardType P.depth t) && !(P.stoodInHeld t)) .leaf,
 fun _ _ _ _ => none, fun _ _ => none, fun _ _ _ => none⟩

end
end Go.Proofs.YtfkbfnpjggkdmaaGreatDoor.Ev
