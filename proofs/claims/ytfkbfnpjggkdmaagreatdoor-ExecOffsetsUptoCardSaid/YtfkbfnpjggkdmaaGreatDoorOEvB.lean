/- An evaluator of closed calls, part 2: what it reckons. -/
import Derived.Test.YtfkbfnpjggkdmaaGreatDoorOEvA
namespace Go.Proofs.YtfkbfnpjggkdmaaGreatDoor.Ev
open Go.RowKit
noncomputable section

def beqz : AV → AV → Bool
 | .bool a, .bool b => a == b
 | .int k a, .int j b => k == j && a == b
 | .str a, .str b => a == b
 | .nilp, .nilp => true
 | .ptr a b, .ptr c d => a == c && b == d
 | .nils, .nils => true
 | .slice a b c d, .slice e f g h => a == e && b == f && c == g && d == h
 | .nilf, .nilf => true
 | .func f [], .func g [] => f == g
 | .nili, .nili => true
 | .opq a, .opq b => a == b
 | .nilm, .nilm => true
 | .map a, .map b => a == b
 | .tuple [], .tuple [] => true
 | _, _ => false
def beqL (f : AV → AV → Bool) : List AV → List AV → Bool
 | [], [] => true
 | a :: l, b :: m => f a b && beqL f l m
 | _, _ => false
def beq0 : AV → AV → Bool
 | .func f l, .func g m => f == g && beqL beqz l m
 | a, b => beqz a b
def beq1 : AV → AV → Bool
 | .agg l, .agg m => beqL beq0 l m
 | a, b => beq0 a b
def AV.beq : AV → AV → Bool
 | .tuple l, .tuple m => beqL beq1 l m
 | a, b => beq1 a b

structure Tab where
 tt : T TypeInfo
 ft : T Func
 et : T Bool
 ob : BinOp → Nat → IntKind → Int → Option AV
 oc : Nat → IntKind → Option AV
 orc : Nat → List AV → AHeap → Option AV

def Tab.und (tb : Tab) (i : Nat) : Option TypeDesc :=
 match tb.tt.get i with
 | some x => match x.desc with
  | .named _ u => match tb.tt.get u with
   | some y => some y.desc
   | none => none
  | d => some d
 | none => none
def Tab.size (tb : Tab) (i : Nat) : Option Nat :=
 match tb.tt.get i with
 | some x => some x.size
 | none => none
def descAgg : TypeDesc → Bool
 | .struct _ => true
 | .array _ _ => true
 | _ => false
def Tab.isAgg (tb : Tab) (i : Nat) : Option Bool :=
 match tb.und i with
 | some d => some (descAgg d)
 | none => none

def ofCell : Value → Option AV
 | .bool b => some (.bool b)
 | .int k n => some (.int k n)
 | .string s => some (.str (s.data.toList.map UInt8.toNat))
 | .pointer none => some .nilp
 | .slice none 0 0 => some .nils
 | .nilFunc => some .nilf
 | .nilIface => some .nili
 | .map none => some .nilm
 | _ => none
def ofCells : List Value → Option (List AV)
 | [] => some []
 | v :: l => match ofCell v with
  | some a => match ofCells l with
   | some m => some (a :: m)
   | none => none
  | none => none
def ofVal : Value → Option AV
 | .agg cs => match ofCells cs.toList with
  | some l => some (.agg l)
  | none => none
 | v => ofCell v
def Tab.zero (tb : Tab) (i : Nat) : Option AV :=
 match tb.tt.get i with
 | some x => match x.zero with
  | some z => ofVal z
  | none => none
 | none => none

def opnd (tm : T AV) : Operand → Option AV
 | .tmp t => tm.get t
 | .const v => ofVal v
 | .func f => some (.func f [])
 | .global _ => none
def opnds (tm : T AV) : List Operand → Option (List AV)
 | [] => some []
 | x :: l => match opnd tm x with
  | some a => match opnds tm l with
   | some m => some (a :: m)
   | none => none
  | none => none
def opndPairs (tm : T AV) : List (Nat × Operand) → Option (List (Nat × AV))
 | [] => some []
 | (i, x) :: l => match opnd tm x with
  | some a => match opndPairs tm l with
   | some m => some ((i, a) :: m)
   | none => none
  | none => none

def inKind : IntKind → Int → Bool
 | .i64, .ofNat m => Nat.ble m 9223372036854775807
 | .i64, .negSucc m => Nat.ble m 9223372036854775807
 | .u8, .ofNat m => Nat.ble m 255
 | .u64, .ofNat m => Nat.ble m 18446744073709551615
 | .u32, .ofNat m => Nat.ble m 4294967295
 | .i32, .ofNat m => Nat.ble m 2147483647
 | .i32, .negSucc m => Nat.ble m 2147483647
 | _, _ => false
def wrapA (k : IntKind) (n : Int) : Int :=
 match inKind k n with
 | true => n
 | false => k.wrap n
def ltA : Int → Int → Bool
 | .ofNat a, .ofNat b => Nat.blt a b
 | .negSucc _, .ofNat _ => true
 | .ofNat _, .negSucc _ => false
 | .negSucc a, .negSucc b => Nat.blt b a
def eqA : Int → Int → Bool
 | .ofNat a, .ofNat b => Nat.beq a b
 | .negSucc a, .negSucc b => Nat.beq a b
 | _, _ => false
def bitsA (k : IntKind) (f : BitVec k.bits → BitVec k.bits → BitVec k.bits) (x y : Int) : AV :=
 .int k (wrapA k (f (BitVec.ofInt k.bits x) (BitVec.ofInt k.bits y)).toNat)
def intBin (op : BinOp) (k : IntKind) (x y : Int) : Option AV :=
 match op with
 | .add => some (.int k (wrapA k (Int.add x y)))
 | .sub => some (.int k (wrapA k (Int.sub x y)))
 | .mul => some (.int k (wrapA k (Int.mul x y)))
 | .quo => match eqA y 0 with
  | true => none
  | false => some (.int k (wrapA k (x.tdiv y)))
 | .rem => match eqA y 0 with
  | true => none
  | false => some (.int k (x.tmod y))
 | .and => some (bitsA k (· &&& ·) x y)
 | .or => some (bitsA k (· ||| ·) x y)
 | .xor => some (bitsA k (· ^^^ ·) x y)
 | .andNot => some (bitsA k (fun a b => a &&& ~~~b) x y)
 | .eql => some (.bool (eqA x y))
 | .neq => some (.bool (!(eqA x y)))
 | .lss => some (.bool (ltA x y))
 | .leq => some (.bool (!(ltA y x)))
 | .gtr => some (.bool (ltA y x))
 | .geq => some (.bool (!(ltA x y)))
 | _ => none
def shiftA (op : BinOp) (k : IntKind) (x y : Int) : Option AV :=
 match ltA y 0 with
 | true => none
 | false =>
  match op with
  | .shl => some (.int k (wrapA k (x * 2 ^ (min y.toNat k.bits))))
  | .shr => some (.int k (x.fdiv (2 ^ (min y.toNat k.bits))))
  | _ => none
def listBeq : List Nat → List Nat → Bool
 | [], [] => true
 | a :: l, b :: m => match Nat.beq a b with
  | true => listBeq l m
  | false => false
 | _, _ => false
def listLess : List Nat → List Nat → Bool
 | _, [] => false
 | [], _ :: _ => true
 | a :: x, b :: y => match Nat.beq a b with
  | true => listLess x y
  | false => Nat.blt a b
def strBin (op : BinOp) (x y : List Nat) : Option AV :=
 match op with
 | .add => match Nat.ble (x.length + y.length) 4611686018427387904 with
  | true => some (.str (x ++ y))
  | false => none
 | .eql => some (.bool (listBeq x y))
 | .neq => some (.bool (!(listBeq x y)))
 | .lss => some (.bool (listLess x y))
 | .leq => some (.bool (listLess x y || listBeq x y))
 | .gtr => some (.bool (!(listLess x y || listBeq x y)))
 | .geq => some (.bool (!(listLess x y)))
 | _ => none
def eqVal (d : TypeDesc) (x y : AV) : Option Bool :=
 match d, x, y with
 | .bool, .bool a, .bool b => some (a == b)
 | .pointer _, .nilp, .nilp => some true
 | .pointer _, .nilp, .ptr _ _ => some false
 | .pointer _, .ptr _ _, .nilp => some false
 | .map _ _, .nilm, .nilm => some true
 | .map _ _, .nilm, .map _ => some false
 | .map _ _, .map _, .nilm => some false
 | .slice _, .nils, .nils => some true
 | .slice _, .nils, .slice _ _ _ _ => some false
 | .slice _, .slice _ _ _ _, .nils => some false
 | .func _ _ _, .nilf, .nilf => some true
 | .func _ _ _, .nilf, .func _ _ => some false
 | .func _ _ _, .func _ _, .nilf => some false
 | _, _, _ => none
def partA (tb : Tab) (t : Nat) (cs : List AV) (off : Nat) : Option AV :=
 match tb.isAgg t with
 | some true => match tb.size t with
  | some n => some (.agg ((cs.drop off).take n))
  | none => none
 | some false => cs[off]?
 | none => none
def eqFieldsA (tb : Tab) (rec_ : Nat → AV → AV → Option Bool) (xs ys : List AV) : List Field → Option Bool
 | [] => some true
 | f :: fs =>
  match decide (f.name = "_") with
  | true => none
  | false =>
   match partA tb f.type xs f.offset, partA tb f.type ys f.offset with
   | some a, some b => match rec_ f.type a b with
    | some true => eqFieldsA tb rec_ xs ys fs
    | some false => some false
    | none => none
   | _, _ => none
def eqElemsA (tb : Tab) (rec_ : Nat → AV → AV → Option Bool) (e m : Nat) (xs ys : List AV) : Nat → Nat → Option Bool
 | _, 0 => some true
 | i, k + 1 =>
  match partA tb e xs (i * m), partA tb e ys (i * m) with
  | some a, some b => match rec_ e a b with
   | some true => eqElemsA tb rec_ e m xs ys (i + 1) k
   | some false => some false
   | none => none
  | _, _ => none
def eqIn (tb : Tab) : Nat → Nat → AV → AV → Option Bool
 | 0, _, _, _ => none
 | d + 1, t, x, y =>
  match tb.und t with
  | some D =>
   match D, x, y with
   | .int _, .int k a, .int j b => if k = j then some (eqA a b) else none
   | .string, .str a, .str b => some (listBeq a b)
   | .struct fs, .agg xs, .agg ys => match tb.et.get t with
    | some true => eqFieldsA tb (eqIn tb d) xs ys fs.toList
    | _ => none
   | .array n e, .agg xs, .agg ys => match tb.size e with
    | some m => eqElemsA tb (eqIn tb d) e m xs ys 0 n
    | none => none
   | D, x, y => eqVal D x y
  | none => none
def eqTop (tb : Tab) (t : Nat) (x y : AV) : Option Bool :=
 match x, y with
 | .agg _, .agg _ => match tb.et.get t with
  | some true => eqIn tb 20 t x y
  | _ => none
 | .nili, _ => none
 | _, .nili => none
 | .opq _, _ => none
 | _, .opq _ => none
 | x, y => eqIn tb 20 t x y
def evBin (tb : Tab) (op : BinOp) (t : Nat) (x y : AV) : Option AV :=
 match x, y with
 | .int k a, .int j b =>
  match op with
  | .shl => shiftA .shl k a b
  | .shr => shiftA .shr k a b
  | _ => if k = j then intBin op k a b else none
 | .str a, .str b => strBin op a b
 | .opq b, .int k n => tb.ob op b k n
 | x, y =>
  match op with
  | .eql => match eqTop tb t x y with
   | some b => some (.bool b)
   | none => none
  | .neq => match eqTop tb t x y with
   | some b => some (.bool (!b))
   | none => none
  | _ => none

def bytesOf : List AV → Option (List Nat)
 | [] => some []
 | .int .u8 (.ofNat n) :: l => match bytesOf l with
  | some m => some (n % 256 :: m)
  | none => none
 | _ => none

def sub? (l : List AV) (o n : Nat) : Option (List AV) :=
 match Nat.ble (o + n) l.length with
 | true => some ((l.drop o).take n)
 | false => none
def loadA (tb : Tab) (objs : T AObj) (t b o : Nat) : Option AV :=
 match objs.get b with
 | some ob =>
  match tb.isAgg t with
  | some true => match tb.size t with
   | some n => match sub? ob.cells o n with
    | some l => some (.agg l)
    | none => none
   | none => none
  | some false => ob.cells[o]?
  | none => none
 | none => none

def layL : List AV → Nat → List AV → List AV
 | l, _, [] => l
 | [], _, _ => []
 | _ :: l, 0, b :: m => b :: layL l 0 m
 | a :: l, o + 1, m => a :: layL l o m
def fillA (place : Nat → Option (Nat × Nat)) : List AV → List (Nat × AV) → Option (List AV)
 | cells, [] => some cells
 | cells, (i, v) :: rest =>
  match place i with
  | none => none
  | some (off, size) =>
   match Nat.beq v.cells.length size && Nat.ble (off + size) cells.length with
   | true => fillA place (layL cells off v.cells) rest
   | false => none
def repl : Nat → List AV → List AV
 | 0, _ => []
 | n + 1, l => l ++ repl n l

def natOf : Option AV → Option Nat
 | some (.int _ (.ofNat n)) => some n
 | _ => none
def boundsA (tm : T AV) (len : Nat) (lo hi : Option Operand) : Option (Nat × Nat) :=
 match (match hi with | some x => natOf (opnd tm x) | none => some len) with
 | some h =>
  match (match lo with | some x => natOf (opnd tm x) | none => some 0) with
  | some l => match Nat.ble h len && Nat.ble l h with
   | true => some (l, h)
   | false => none
  | none => none
 | none => none

def lenA (d : TypeDesc) (x : AV) : Option Nat :=
 match d, x with
 | .string, .str s => some s.length
 | .array n _, _ => some n
 | .slice _, .slice _ _ n _ => some n
 | .slice _, .nils => some 0
 | _, _ => none
def minmaxA (mx : Bool) : AV → List AV → Option AV
 | x, [] => some x
 | .int k a, .int j b :: l => minmaxA mx (.int k (match (if mx then ltA a b else ltA b a) with | true => b | false => a)) l
 | _, _ => none

def structFields : Option TypeDesc → Option (List Field)
 | some (.struct fs) => some fs.toList
 | _ => none

inductive Res where
 | q (r : Option AV)
 | l (r : Option (AV × AHeap))

def evPick (tm : T AV) (c a b : Operand) : Option AV :=
 match opnd tm c with
 | some (.bool true) => opnd tm a
 | some (.bool false) => opnd tm b
 | _ => none
def fieldPl (tb : Tab) (fs : List Field) (i : Nat) : Option (Nat × Nat) :=
 match fs[i]? with
 | some f => match tb.size f.type with
  | some n => some (f.offset, n)
  | none => none
 | none => none
def sizesOk (tb : Tab) : List Field → Bool
 | [] => true
 | f :: fs => match tb.size f.type with
  | some _ => sizesOk tb fs
  | none => false
def aggOf : Option (List AV) → Option AV
 | some l => some (.agg l)
 | none => none
def evBuild (tb : Tab) (tm : T AV) (t : Nat) (parts : Array (Nat × Operand)) : Option AV :=
 match tb.zero t, opndPairs tm parts.toList with
 | some z, some ps =>
  match tb.und t with
  | some (.struct fs) => match sizesOk tb fs.toList with
   | true => aggOf (fillA (fieldPl tb fs.toList) z.cells ps)
   | false => none
  | some (.array _ e) =>
   match tb.size e with
   | some n => aggOf (fillA (fun i => some (i * n, n)) z.cells ps)
   | none => none
  | _ => none
 | _, _ => none
def evLoad (tb : Tab) (tm : T AV) (objs : T AObj) (t : Nat) (a : Operand) : Option AV :=
 match opnd tm a with
 | some (.ptr b o) => loadA tb objs t b o
 | _ => none
def evNilCheck (tm : T AV) (x : Operand) : Option AV :=
 match opnd tm x with
 | some (.ptr b o) => some (.ptr b o)
 | some (.func f l) => some (.func f l)
 | _ => none
def isNilC : Operand → Bool
 | .const .nilIface => true
 | _ => false
def nilV (d : Option TypeDesc) (op : BinOp) (v : AV) : Option AV :=
 match d, op, v with
 | some (.interface _), .eql, .nili => some (.bool true)
 | some (.interface _), .neq, .nili => some (.bool false)
 | _, _, _ => none
def evBinOp (tb : Tab) (tm : T AV) (op : BinOp) (t : Nat) (x y : Operand) : Option AV :=
 match isNilC y with
 | true => match opnd tm x with
  | some v => nilV (tb.und t) op v
  | none => none
 | false =>
 match opnd tm x, opnd tm y with
 | some a, some b => evBin tb op t a b
 | _, _ => none
def evUnOp (tm : T AV) (op : UnOp) (x : Operand) : Option AV :=
 match op, opnd tm x with
 | .neg, some (.int k n) => some (.int k (wrapA k (Int.sub 0 n)))
 | .not, some (.bool b) => some (.bool (!b))
 | .xor, some (.int k n) => some (bitsA k (· ^^^ ·) (if k.signed then -1 else k.max) n)
 | _, _ => none
def strOfBytes (objs : T AObj) (b o n sz : Nat) : Option AV :=
 match objs.get b, Nat.beq sz 1 with
 | some ob, true =>
  match sub? ob.cells o n with
  | some l => match bytesOf l with
   | some s => some (.str s)
   | none => none
  | none => none
 | _, _ => none
def isU8 : Option TypeDesc → Bool
 | some (.int .u8) => true
 | _ => false
def evConvert (tb : Tab) (tm : T AV) (h : AHeap) (src dst : Nat) (x : Operand) : Res :=
 match tb.und src, tb.und dst, opnd tm x with
 | some _, some (.int k), some (.int _ n) => .q (some (.int k (wrapA k n)))
 | some _, some .string, some (.str s) => .q (some (.str s))
 | some (.int _), some (.int k), some (.opq b) => .q (tb.oc b k)
 | some (.slice e), some .string, some .nils => match isU8 (tb.und e) with
  | true => .q (some (.str []))
  | false => .q none
 | some (.slice e), some .string, some (.slice b o n sz) => match isU8 (tb.und e) with
  | true => .q (strOfBytes h.objs b o n sz)
  | false => .q none
 | some .string, some (.slice e), some (.str s) => match isU8 (tb.und e) with
  | true => .l (some (.slice h.next 0 s.length 1, ⟨h.next + 1, h.objs.set h.next ⟨1, false, s.map fun c => .int .u8 (.ofNat c)⟩⟩))
  | false => .q none
 | _, _, _ => .q none
def sliceStr (tm : T AV) (s : List Nat) (lo hi : Option Operand) : Option AV :=
 match boundsA tm s.length lo hi with
 | some (l, h) => some (.str ((s.drop l).take (h - l)))
 | none => none
def sliceSlice (tb : Tab) (tm : T AV) (e b o n sz : Nat) (lo hi : Option Operand) : Option AV :=
 match tb.size e with
 | some m => match Nat.beq m sz with
  | true => match boundsA tm n lo hi with
   | some (l, h) => some (.slice b (o + l) (h - l) sz)
   | none => none
  | false => none
 | none => none
def sliceArr (tb : Tab) (tm : T AV) (objs : T AObj) (len e b : Nat) (lo hi : Option Operand) : Option AV :=
 match tb.size e, objs.get b with
 | some m, some ob => match Nat.beq ob.sz m && ob.exact_ && Nat.beq ob.cells.length (len * m) && Nat.blt 0 m with
  | true => match boundsA tm len lo hi with
   | some (l, h) => some (.slice b l (h - l) m)
   | none => none
  | false => none
 | _, _ => none
def evSlice (tb : Tab) (tm : T AV) (objs : T AObj) (t : Nat) (x : Operand) (lo hi mx : Option Operand) : Option AV :=
 match mx, tb.und t, opnd tm x with
 | none, some .string, some (.str s) => sliceStr tm s lo hi
 | none, some (.slice e), some (.slice b o n sz) => sliceSlice tb tm e b o n sz lo hi
 | none, some (.slice e), some .nils => match boundsA tm 0 lo hi, tb.size e with
  | some _, some _ => some .nils
  | _, _ => none
 | none, some (.array len e), some (.ptr b 0) => sliceArr tb tm objs len e b lo hi
 | _, _, _ => none
def evFieldAddr (tb : Tab) (tm : T AV) (s : Nat) (x : Operand) (f : Nat) : Option AV :=
 match structFields (tb.und s), opnd tm x with
 | some fs, some (.ptr b o) => match fieldPl tb fs f with
  | some (off, _ + 1) => some (.ptr b (o + off))
  | _ => none
 | _, _ => none
def evField (tb : Tab) (tm : T AV) (s : Nat) (x : Operand) (f : Nat) : Option AV :=
 match structFields (tb.und s), opnd tm x with
 | some fs, some (.agg cs) => match fs[f]? with
  | some fd => partA tb fd.type cs fd.offset
  | none => none
 | _, _ => none
def evIndexAddr (tb : Tab) (tm : T AV) (t : Nat) (x ix : Operand) : Option AV :=
 match tb.und t, opnd tm x, natOf (opnd tm ix) with
 | some (.slice e), some (.slice b o n sz), some i =>
  match tb.size e with
  | some m => match Nat.beq m sz && Nat.blt i n with
   | true => some (.ptr b ((o + i) * sz))
   | false => none
  | none => none
 | some (.array len e), some (.ptr b o), some i =>
  match tb.size e with
  | some m => match Nat.blt i len with
   | true => some (.ptr b (o + i * m))
   | false => none
  | none => none
 | _, _, _ => none
def evIndex (tb : Tab) (tm : T AV) (t : Nat) (x ix : Operand) : Option AV :=
 match tb.und t, opnd tm x, natOf (opnd tm ix) with
 | some .string, some (.str s), some i => match s[i]? with
  | some c => some (.int .u8 (.ofNat c))
  | none => none
 | some (.array len e), some (.agg cs), some i =>
  match tb.size e with
  | some m => match Nat.blt i len with
   | true => partA tb e cs (i * m)
   | false => none
  | none => none
 | _, _, _ => none
def evExtract (tm : T AV) (x : Operand) (i : Nat) : Option AV :=
 match opnd tm x with
 | some (.tuple l) => l[i]?
 | _ => none
def evMakeFunc (tm : T AV) (fn : Fn) (first captured : Array Operand) : Option AV :=
 match fn, first.toList, opnds tm captured.toList with
 | .func f, [], some l => match l.all AV.isCell with
  | true => some (.func f l)
  | false => none
 | .func f, [y], some [] => match opnd tm y with
  | some x => some (.func f [.tuple [], x])
  | none => none
 | _, _, _ => none
def evLen (tb : Tab) (tm : T AV) (args : Array Operand) (argTypes : Array Nat) : Option AV :=
 match argTypes.toList, args.toList with
 | t :: _, [x] => match tb.und t, opnd tm x with
  | some d, some v => match lenA d v with
   | some n => some (.int .i64 (.ofNat n))
   | none => none
  | _, _ => none
 | _, _ => none
def evMinMax (tm : T AV) (mx : Bool) (args : Array Operand) : Option AV :=
 match opnds tm args.toList with
 | some (x :: l) => minmaxA mx x l
 | _ => none

def varObj (tb : Tab) (t : Nat) (cells : List AV) : AObj :=
 match tb.und t with
 | some (.array n e) => match tb.size e with
  | some m => match Nat.beq (n * m) cells.length with
   | true => ⟨m, true, cells⟩
   | false => ⟨cells.length, true, cells⟩
  | none => ⟨cells.length, true, cells⟩
 | _ => ⟨cells.length, true, cells⟩

def cellsOfA (objs : T AObj) (sz : Nat) : AV → Option (Nat × List AV)
 | .nils => some (0, [])
 | .str s => match Nat.beq sz 1 with
  | true => some (s.length, s.map fun c => .int .u8 (.ofNat c))
  | false => none
 | .slice b o n sz' => match objs.get b with
  | some ob => match Nat.beq sz sz' with
   | true => match sub? ob.cells (o * sz) (n * sz) with
    | some l => some (n, l)
    | none => none
   | false => none
  | none => none
 | _ => none

def appendTo (h : AHeap) (b o len sz n : Nat) (new : List AV) : Option (AV × AHeap) :=
 match h.objs.get b with
 | some ob =>
  match Nat.beq ob.sz sz, Nat.ble ((o + len + n) * sz) ob.cells.length with
  | true, true => some (.slice b o (len + n) sz, ⟨h.next, h.objs.set b ⟨ob.sz, ob.exact_, layL ob.cells ((o + len) * sz) new⟩⟩)
  | true, false =>
   match sub? ob.cells (o * sz) (len * sz) with
   | some old =>
    match ob.exact_ with
    | true => some (.slice h.next 0 (len + n) sz, ⟨h.next + 1, h.objs.set h.next ⟨sz, false, old ++ new⟩⟩)
    | false => some (.slice h.next 0 (len + n) sz, ⟨h.next + 1, (h.objs.del b).set h.next ⟨sz, false, old ++ new⟩⟩)
   | none => none
  | _, _ => none
 | none => none
def appendB (h : AHeap) (sz n : Nat) (s : AV) (new : List AV) : Option (AV × AHeap) :=
 match Nat.beq n 0 with
 | true => match s with
  | .nils => some (.nils, h)
  | .slice b o len sz' => match Nat.beq sz' sz with
   | true => some (.slice b o len sz, h)
   | false => none
  | _ => none
 | false =>
  match s with
  | .nils => match Nat.ble n 1073741824 with
   | true => some (.slice h.next 0 n sz, ⟨h.next + 1, h.objs.set h.next ⟨sz, false, new⟩⟩)
   | false => none
  | .slice b o len sz' =>
   match Nat.beq sz' sz && Nat.ble (len + n) 1073741824 with
   | true => appendTo h b o len sz n new
   | false => none
  | _ => none
def isIntD (d : TypeDesc) : Bool := d matches .int _
def appendA (tb : Tab) (t t2 : Nat) (s x : AV) (h : AHeap) : Option (AV × AHeap) :=
 match tb.und t, tb.und t2 with
 | some (.slice e), some d2 =>
  match isIntD d2, tb.tt.get e, tb.zero e with
  | false, some ti, some z =>
   match Nat.blt 0 ti.size && Nat.ble ti.bytes 4096 && Nat.beq z.cells.length ti.size with
   | true =>
    match cellsOfA h.objs ti.size x with
    | some (n, new) => appendB h ti.size n s new
    | none => none
   | false => none
  | _, _, _ => none
 | _, _ => none
def evAppend (tb : Tab) (tm : T AV) (h : AHeap) (args : Array Operand) (argTypes : Array Nat) : Option (AV × AHeap) :=
 match argTypes.toList, opnds tm args.toList with
 | t :: t2 :: _, some [s, x] => appendA tb t t2 s x h
 | _, _ => none

def copyTo (h : AHeap) (b o len sz : Nat) (r : Option (Nat × List AV)) : Option (AV × AHeap) :=
 match h.objs.get b, r with
 | some ob, some (n, cs) =>
  match Nat.beq ob.sz sz && Nat.blt 0 sz, Nat.ble ((o + len) * sz) ob.cells.length with
  | true, true => some (.int .i64 (.ofNat (min n len)), ⟨h.next, h.objs.set b ⟨ob.sz, ob.exact_, layL ob.cells (o * sz) (cs.take (min n len * sz))⟩⟩)
  | _, _ => none
 | _, _ => none
def copyA (tb : Tab) (t : Nat) (d x : AV) (h : AHeap) : Option (AV × AHeap) :=
 match tb.und t with
 | some (.slice e) =>
  match tb.size e with
  | some sz =>
   match d with
   | .nils => match cellsOfA h.objs sz x with
    | some _ => some (.int .i64 0, h)
    | none => none
   | .slice b o len sz' => match Nat.beq sz' sz with
    | true => copyTo h b o len sz (cellsOfA h.objs sz x)
    | false => none
   | _ => none
  | none => none
 | _ => none
def evCopy (tb : Tab) (tm : T AV) (h : AHeap) (args : Array Operand) (argTypes : Array Nat) : Option (AV × AHeap) :=
 match argTypes.toList, opnds tm args.toList with
 | t :: _, some [d, x] => copyA tb t d x h
 | _, _ => none

def evAlloc (tb : Tab) (h : AHeap) (t : Nat) : Option (AV × AHeap) :=
 match tb.zero t with
 | some z => some (.ptr h.next 0, ⟨h.next + 1, h.objs.set h.next (varObj tb t z.cells)⟩)
 | none => none
def evBox (tb : Tab) (tm : T AV) (h : AHeap) (t : Nat) (x : Operand) : Option (AV × AHeap) :=
 match opnd tm x with
 | some v => match v.cells.all AV.isCell with
  | true => some (.ptr h.next 0, ⟨h.next + 1, h.objs.set h.next (varObj tb t v.cells)⟩)
  | false => none
 | none => none
def newSlice (h : AHeap) (len n : Nat) : Option (List AV) → Option (AV × AHeap)
 | some l => match l.all AV.isCell with
  | true => some (.slice h.next 0 len n, ⟨h.next + 1, h.objs.set h.next ⟨n, true, l⟩⟩)
  | false => none
 | none => none
def evBuildSlice (tb : Tab) (tm : T AV) (h : AHeap) (t len : Nat) (parts : Array (Nat × Operand)) : Option (AV × AHeap) :=
 match tb.und t with
 | some (.slice e) => match tb.size e, tb.zero e, opndPairs tm parts.toList with
  | some n, some z, some ps =>
   match Nat.ble (len * n) 16777216 && Nat.beq z.cells.length n && Nat.blt 0 n with
   | true => newSlice h len n (fillA (fun i => some (i * n, n)) (repl len z.cells) ps)
   | false => none
  | _, _, _ => none
 | _ => none
def evMakeSlice (tb : Tab) (tm : T AV) (h : AHeap) (t : Nat) (l c : Operand) : Option (AV × AHeap) :=
 match tb.und t, natOf (opnd tm l), natOf (opnd tm c) with
 | some (.slice e), some len, some cap =>
  match tb.tt.get e, tb.zero e with
  | some ti, some z =>
   match Nat.ble ti.bytes 4096 && Nat.ble cap 1073741824 && Nat.ble len cap && Nat.beq z.cells.length ti.size && Nat.blt 0 ti.size with
   | true => some (.slice h.next 0 len ti.size, ⟨h.next + 1, h.objs.set h.next ⟨ti.size, true, repl cap z.cells⟩⟩)
   | false => none
  | _, _ => none
 | _, _, _ => none
def storeA (tb : Tab) (h : AHeap) (t b o : Nat) (v : AV) : Option (AV × AHeap) :=
 match tb.size t, h.objs.get b with
 | some n, some ob =>
  match Nat.beq v.cells.length n && Nat.ble (o + n) ob.cells.length && v.cells.all AV.isCell, Nat.blt 0 ob.sz with
  | true, true => some (.tuple [], ⟨h.next, h.objs.set b ⟨ob.sz, ob.exact_, layL ob.cells o v.cells⟩⟩)
  | _, _ => none
 | _, _ => none
def evStore (tb : Tab) (tm : T AV) (h : AHeap) (t : Nat) (a x : Operand) : Option (AV × AHeap) :=
 match opnd tm a, opnd tm x with
 | some (.ptr b o), some v => storeA tb h t b o v
 | _, _ => none
def keyOk (tb : Tab) (d : Option TypeDesc) (k : AV) : Bool :=
 match d, k with
 | some (.int _), .int _ _ => true
 | some .string, .str _ => true
 | some (.array n e), .agg l => Nat.beq l.length n && (match tb.und e with
  | some .string => l.all (fun | .str _ => true | _ => false)
  | some (.int _) => l.all (fun | .int _ _ => true | _ => false)
  | _ => false) && (match tb.size e with
  | some m => Nat.beq m 1
  | none => false)
 | _, _ => false
def findM (eq : AV → AV → Option Bool) (k : AV) : List AV → Nat → Option (Option Nat)
 | [], _ => some none
 | a :: _ :: _ :: l, i => match eq k a with
  | some true => some (some i)
  | some false => findM eq k l (i + 1)
  | none => none
 | _, _ => none
def lookRes (ok : Bool) (v : AV) (is : Bool) : AV :=
 match ok with
 | true => .tuple [v, .bool is]
 | false => v
def lookIn (cells : List AV) (z : AV) (ok : Bool) (r : Option (Option Nat)) : Option AV :=
 match r with
 | some (some i) => match cells[3 * i + 1]? with
  | some v => some (lookRes ok v true)
  | none => none
 | some none => some (lookRes ok z false)
 | none => none
def lookA (tb : Tab) (objs : T AObj) (kt et : Nat) (m k : AV) (ok : Bool) : Option AV :=
 match keyOk tb (tb.und kt) k, tb.zero et with
 | true, some z => match m with
  | .nilm => some (lookRes ok z false)
  | .map b => match objs.get b with
   | some ob => lookIn ob.cells z ok (findM (eqIn tb 20 kt) k ob.cells 0)
   | none => none
  | _ => none
 | _, _ => none
def mapTypes : Option TypeDesc → Option (Nat × Nat)
 | some (.map k e) => some (k, e)
 | _ => none
def evLookup (tb : Tab) (tm : T AV) (objs : T AObj) (t : Nat) (x ix : Operand) (ok : Bool) : Option AV :=
 match mapTypes (tb.und t), opnd tm x, opnd tm ix with
 | some (kt, et), some m, some k => lookA tb objs kt et m k ok
 | _, _, _ => none
def putM (ob : AObj) (k v : AV) (r : Option (Option Nat)) : Option AObj :=
 match r with
 | some none => some ⟨ob.sz + 1, ob.exact_, ob.cells ++ [k, v, .int .i64 (.ofNat ob.sz)]⟩
 | some (some i) => match ob.cells[3 * i]? with
  | some a => match a.beq k with
   | true => some ⟨ob.sz, ob.exact_, layL ob.cells (3 * i) [k, v]⟩
   | false => none
  | none => none
 | none => none
def setObjA (h : AHeap) (b : Nat) (v : AV) : Option AObj → Option (AV × AHeap)
 | some ob => some (v, ⟨h.next, h.objs.set b ob⟩)
 | none => none
def evMapUpdate (tb : Tab) (tm : T AV) (h : AHeap) (t : Nat) (x ix y : Operand) : Option (AV × AHeap) :=
 match mapTypes (tb.und t), opnd tm x, opnd tm ix, opnd tm y with
 | some (kt, _), some (.map b), some k, some v => match keyOk tb (tb.und kt) k, h.objs.get b with
  | true, some ob => setObjA h b (.tuple []) (putM ob k v (findM (eqIn tb 20 kt) k ob.cells 0))
  | _, _ => none
 | _, _, _, _ => none
def entryA (h : AHeap) (b : Nat) (ob : AObj) (k z : AV) (r : Option (Option Nat)) : Option (AV × AHeap) :=
 match r with
 | some none => some (.tuple [z, .int .i64 (.ofNat ob.sz)], ⟨h.next, h.objs.set b ⟨ob.sz + 1, ob.exact_, ob.cells ++ [k, z, .int .i64 (.ofNat ob.sz)]⟩⟩)
 | some (some i) => match ob.cells[3 * i]?, ob.cells[3 * i + 1]?, ob.cells[3 * i + 2]? with
  | some a, some v, some n => match a.beq k with
   | true => some (.tuple [v, n], h)
   | false => none
  | _, _, _ => none
 | none => none
def evMapEntry (tb : Tab) (tm : T AV) (h : AHeap) (t : Nat) (x ix : Operand) : Option (AV × AHeap) :=
 match mapTypes (tb.und t), opnd tm x, opnd tm ix with
 | some (kt, et), some (.map b), some k => match keyOk tb (tb.und kt) k, h.objs.get b, tb.zero et with
  | true, some ob, some z => entryA h b ob k z (findM (eqIn tb 20 kt) k ob.cells 0)
  | _, _, _ => none
 | _, _, _ => none
def findB (n : Int) : List AV → Nat → Option Nat
 | _ :: _ :: .int _ m :: l, i => match eqA m n with
  | true => some i
  | false => findB n l (i + 1)
 | _, _ => none
def evEntryStore (tm : T AV) (h : AHeap) (x s y : Operand) : Option (AV × AHeap) :=
 match opnd tm x, opnd tm s, opnd tm y with
 | some (.map b), some (.int _ n), some v => match h.objs.get b with
  | some ob => match findB n ob.cells 0 with
   | some i => some (.tuple [], ⟨h.next, h.objs.set b ⟨ob.sz, ob.exact_, layL ob.cells (3 * i + 1) [v]⟩⟩)
   | none => none
  | none => none
 | _, _, _ => none
def evMakeMap (tb : Tab) (tm : T AV) (h : AHeap) (t : Nat) (r : Option Operand) : Option (AV × AHeap) :=
 match mapTypes (tb.und t), (match r with | none => true | some x => (match opnd tm x with | some (.int _ _) => true | _ => false)) with
 | some _, true => some (.map h.next, ⟨h.next + 1, h.objs.set h.next ⟨0, true, []⟩⟩)
 | _, _ => none
def isMeth : List AV → Option AV
 | [.tuple [], x] => some x
 | _ => none
def evCallVal (tm : T AV) (h : AHeap) (call : Nat → List AV → AHeap → Option (AV × AHeap)) (f : Operand) (args : Array Operand) : Option (AV × AHeap) :=
 match opnd tm f, opnds tm args.toList with
 | some (.func g caps), some l => match isMeth caps with
  | none => call g (l ++ caps) h
  | some x => call g (x :: l) h
 | _, _ => none
def evCallOp (tb : Tab) (call : Nat → List AV → AHeap → Option (AV × AHeap)) (tm : T AV) (h : AHeap) (c : Call) : Res :=
 match c.callee with
 | .value f => .l (evCallVal tm h call f c.args)
 | .builtin .len => .q (evLen tb tm c.args c.argTypes)
 | .builtin .append => .l (evAppend tb tm h c.args c.argTypes)
 | .builtin .copy => .l (evCopy tb tm h c.args c.argTypes)
 | .builtin .min => .q (evMinMax tm false c.args)
 | .builtin .max => .q (evMinMax tm true c.args)
 | _ => .q none

def evOp (tb : Tab) (call : Nat → List AV → AHeap → Option (AV × AHeap)) (tm : T AV) (h : AHeap) (op : Op) : Res :=
 match op with
 | .move x => .q (opnd tm x)
 | .assign x => .q (opnd tm x)
 | .pick c a b => .q (evPick tm c a b)
 | .alloc t => .l (evAlloc tb h t)
 | .box t x => .l (evBox tb tm h t x)
 | .build t parts => .q (evBuild tb tm t parts)
 | .buildSlice t n parts => .l (evBuildSlice tb tm h t n parts)
 | .load t a => .q (evLoad tb tm h.objs t a)
 | .store t a x => .l (evStore tb tm h t a x)
 | .nilCheck x => .q (evNilCheck tm x)
 | .binOp op t x y _ => .q (evBinOp tb tm op t x y)
 | .unOp op _ x => .q (evUnOp tm op x)
 | .convert s d x => evConvert tb tm h s d x
 | .makeFunc fn a b => .q (evMakeFunc tm fn a b)
 | .makeSlice t l c => .l (evMakeSlice tb tm h t l c)
 | .slice t x lo hi mx => .q (evSlice tb tm h.objs t x lo hi mx)
 | .fieldAddr s x f => .q (evFieldAddr tb tm s x f)
 | .field s x f => .q (evField tb tm s x f)
 | .indexAddr t x i => .q (evIndexAddr tb tm t x i)
 | .index t x i => .q (evIndex tb tm t x i)
 | .extract x i => .q (evExtract tm x i)
 | .call c => evCallOp tb call tm h c
 | .lookup t x i ok => .q (evLookup tb tm h.objs t x i ok)
 | .makeMap t r => .l (evMakeMap tb tm h t r)
 | .mapUpdate t m k v => .l (evMapUpdate tb tm h t m k v)
 | .mapEntry t m k => .l (evMapEntry tb tm h t m k)
 | .entryStore _ m s v => .l (evEntryStore tm h m s v)
 | _ => .q none

def evQ (tb : Tab) (tm : T AV) (h : AHeap) (op : Op) : Option AV :=
 match evOp tb (fun _ _ _ => none) tm h op with
 | .q r => r
 | .l _ => none

def wantedA (ops : List Oper) (tm : T AV) (o : Oper) : Option Bool :=
 match o.guard with
 | none => some true
 | some (j, want) => match ops[j]? with
  | some oj => match oj.dst with
   | some d => match tm.get d with
    | some (.bool b) => some (b == want)
    | some (.tuple []) => some false
    | _ => none
   | none => none
  | none => none

def ev1 (tb : Tab) (call : Nat → List AV → AHeap → Option (AV × AHeap)) (ops : List Oper) (tm : T AV) (h : AHeap) (o : Oper) : Option (AV × AHeap × Nat) :=
 match wantedA ops tm o with
 | some true =>
  match evOp tb call tm h o.op with
  | .l (some (v, h')) => some (v, h', 2)
  | .q (some v) => some (v, h, 1)
  | _ => none
 | some false => some (.tuple [], h, 0)
 | none => none

def putDst (tm : T AV) (n : Nat) (d : Option Nat) (v : AV) : Option (T AV) :=
 match d with
 | none => some tm
 | some d => match Nat.blt d n with
  | true => some (tm.set d v)
  | false => none

def evOps (tb : Tab) (call : Nat → List AV → AHeap → Option (AV × AHeap)) (n : Nat) (ops : List Oper) : List Oper → T AV → AHeap → Option (T AV × AHeap)
 | [], tm, h => some (tm, h)
 | o :: rest, tm, h => match ev1 tb call ops tm h o with
  | some (v, h', _) => match putDst tm n o.dst v with
   | some tm' => evOps tb call n ops rest tm' h'
   | none => none
  | none => none

structure Ent where
 i : Nat
 o : Oper
 tm : T AV
 v : AV
 kind : Nat

def evTrace (tb : Tab) (call : Nat → List AV → AHeap → Option (AV × AHeap)) (n : Nat) (ops : List Oper) :
  Nat → List Oper → T AV → AHeap → Option (List Ent × List (Nat × AHeap) × T AV × AHeap)
 | _, [], tm, h => some ([], [], tm, h)
 | i, o :: rest, tm, h => match ev1 tb call ops tm h o with
  | some (v, h', k) => match putDst tm n o.dst v with
   | some tm' => match evTrace tb call n ops (i + 1) rest tm' h' with
    | some (es, ms, tm'', h'') => some (⟨i, o, tm, v, k⟩ :: es, (if k = 2 then (i + 1, h') :: ms else ms), tm'', h'')
    | none => none
   | none => none
  | none => none

def bindsAny (e : Edge) : Bool :=
 match e.ground with
 | .textOnly _ => false
 | .gcOnly _ => false
 | _ => true
def aheadOf : List Oper → List Nat → List Nat
 | [], acc => acc
 | o :: rest, acc =>
  aheadOf rest (acc ++ [o.after.toList.foldl (fun s e => if bindsAny e then s ||| 2 ^ e.on ||| acc.getD e.on 0 else s) 0])
def touches (ops : List Oper) (o : Oper) : List Nat :=
  o.dst.toList ++ (o.op.operands.toList.filterMap fun | .tmp t => some t | _ => none) ++
  (match o.guard with
   | some (j, _) => ((ops[j]?).bind (·.dst)).toList
   | none => [])
def drawOk (ops : List Oper) : Bool :=
 let b := aheadOf ops []
 (ops.zipIdx.all fun (o, i) => o.after.toList.all fun e => !bindsAny e || Nat.blt e.on i) &&
 ops.zipIdx.all fun (o, j) => ops.zipIdx.all fun (x, i) =>
  i == j || (match x.dst with
   | some d => !(touches ops o).contains d || (b.getD j 0).testBit i || (b.getD i 0).testBit j
   | none => true)

def entOk (tb : Tab) (b : List Nat) (louds : List Nat) (marks : List (Nat × AHeap)) (e : Ent) : Bool :=
  match e.kind with
  | 2 => louds.all fun i => !(Nat.blt i e.i) || (b.getD e.i 0).testBit i
  | 1 => marks.all fun (n, h) =>
      !(louds.all fun i => (!((b.getD e.i 0).testBit i) || Nat.blt i n) && (!((b.getD i 0).testBit e.i) || Nat.ble n i)) ||
      (match evQ tb e.tm h e.o.op with
       | some v => v.beq e.v
       | none => false)
  | _ => true

def loudOp : Op → Bool
 | .alloc _ => true
 | .box _ _ => true
 | .buildSlice _ _ _ => true
 | .store _ _ _ => true
 | .makeSlice _ _ _ => true
 | .convert _ _ _ => true
 | .makeMap _ _ => true
 | .mapUpdate _ _ _ _ => true
 | .mapEntry _ _ _ => true
 | .entryStore _ _ _ _ => true
 | .call c => match c.callee with
  | .builtin .len => false
  | .builtin .min => false
  | .builtin .max => false
  | _ => true
 | _ => false
def drawFree (ops : List Oper) : Bool :=
 let b := aheadOf ops []
 ops.zipIdx.all fun (o, j) => !(loudOp o.op) || ops.zipIdx.all fun (_, i) => i == j || (b.getD j 0).testBit i || (b.getD i 0).testBit j

def isMaker : Op → Bool
 | .alloc _ => true
 | .box _ _ => true
 | .buildSlice _ _ _ => true
 | _ => false
def mkA (tb : Tab) (tm : T AV) (op : Op) : Option (AObj × (Nat → AV)) :=
 match op with
 | .alloc t => match tb.zero t with
  | some z => some (varObj tb t z.cells, fun b => .ptr b 0)
  | none => none
 | .box t x => match opnd tm x with
  | some v => match v.cells.all AV.isCell with
   | true => some (varObj tb t v.cells, fun b => .ptr b 0)
   | false => none
  | none => none
 | .buildSlice t len parts => match tb.und t with
  | some (.slice e) => match tb.size e, tb.zero e, opndPairs tm parts.toList with
   | some n, some z, some ps =>
    match Nat.ble (len * n) 16777216 && Nat.beq z.cells.length n && Nat.blt 0 n with
    | true => match fillA (fun i => some (i * n, n)) (repl len z.cells) ps with
     | some l => match l.all AV.isCell with
      | true => some (⟨n, true, l⟩, fun b => .slice b 0 len n)
      | false => none
     | none => none
    | false => none
   | _, _, _ => none
  | _ => none
 | _ => none
def sinkGo (b : List Nat) (n : Nat) : List Nat → List Nat → List Nat
 | [], em => em ++ (List.range n).filter fun i => !(em.contains i)
 | j :: l, em => match em.contains j with
  | true => sinkGo b n l em
  | false => sinkGo b n l (em ++ (List.range n).filter (fun i => (b.getD j 0).testBit i && !(em.contains i)) ++ [j])
def sinkOrd (ops : List Oper) : List Nat := sinkGo (aheadOf ops []) ops.length (ops.zipIdx.filterMap fun (o, i) => if loudOp o.op && !(isMaker o.op) then some i else none) []
def ordOk (b : List Nat) (n : Nat) (ord : List Nat) : Bool :=
 Nat.beq ord.length n && (List.range n).all (fun i => ord.contains i) && ord.all (fun i => Nat.blt i n) &&
 (List.range n).all fun p => (List.range n).all fun q => (Nat.beq p q || !(Nat.beq (ord.getD p 0) (ord.getD q 0))) && (Nat.blt q p || !((b.getD (ord.getD p 0) 0).testBit (ord.getD q 0)))
def ev1F (tb : Tab) (call : Nat → List AV → AHeap → Option (AV × AHeap)) (ops : List Oper) (num : Nat) (tm : T AV) (h : AHeap) (o : Oper) : Option (AV × AHeap × Nat) :=
 match isMaker o.op with
 | false => ev1 tb call ops tm h o
 | true =>
  match wantedA ops tm o with
  | some true => match mkA tb tm o.op with
   | some (ob, f) => some (f num, ⟨h.next, h.objs.set num ob⟩, 3)
   | none => none
  | some false => some (.tuple [], h, 0)
  | none => none
def evTraceF (tb : Tab) (call : Nat → List AV → AHeap → Option (AV × AHeap)) (n : Nat) (ops : List Oper) (base : Nat) :
  Nat → List Oper → T AV → AHeap → Option (List Ent × List (Nat × AHeap) × T AV × AHeap)
 | _, [], tm, h => some ([], [], tm, h)
 | i, o :: rest, tm, h => match ev1F tb call ops (base + i) tm h o with
  | some (v, h', k) => match putDst tm n o.dst v with
   | some tm' => match evTraceF tb call n ops base (i + 1) rest tm' h' with
    | some (es, ms, tm'', h'') => some (⟨i, o, tm, v, k⟩ :: es, (if 2 ≤ k then (i + 1, h') :: ms else ms), tm'', h'')
    | none => none
   | none => none
  | none => none
def flOk (tb : Tab) (bt : Nat → Nat → Bool) (hards makers : List Nat) (marks : List (Nat × AHeap)) (e : Ent) : Bool :=
  match e.kind with
  | 2 => (hards.all fun i => !(Nat.blt i e.i) || bt e.i i) && (makers.all fun i => !(Nat.blt i e.i) || bt e.i i)
  | 1 => marks.all fun (n, h) =>
      !((hards.all fun i => (!(bt e.i i) || Nat.blt i n) && (!(bt i e.i) || Nat.ble n i)) && (makers.all fun i => !(bt i e.i) || Nat.ble n i)) ||
      (match evQ tb e.tm h e.o.op with
       | some v => v.beq e.v
       | none => false)
  | _ => true
def kindsOf (k : Nat) (es : List Ent) : List Nat := es.filterMap fun e => if e.kind = k then some e.i else none
def evFloat (tb : Tab) (call : Nat → List AV → AHeap → Option (AV × AHeap)) (n : Nat) (ops : List Oper) (tm : T AV) (h : AHeap) : Option (T AV × AHeap) :=
 match ordOk (aheadOf ops []) ops.length (sinkOrd ops) with
 | true =>
  match evTraceF tb call n ops h.next 0 ((sinkOrd ops).filterMap fun i => ops[i]?) tm ⟨h.next + ops.length, h.objs⟩ with
  | some (es, ms, tm', h') =>
   match es.all (flOk tb (fun p q => ((aheadOf ops []).getD ((sinkOrd ops).getD p 0) 0).testBit ((sinkOrd ops).getD q 0)) (kindsOf 2 es) (kindsOf 3 es) ((0, ⟨h.next + ops.length, h.objs⟩) :: ms)) with
   | true => some (tm', h')
   | false => none
  | none => none
 | false => none

def wantsFloat (ops : List Oper) : Bool :=
 let b := aheadOf ops []
 ops.zipIdx.any fun (o, j) => isMaker o.op && ops.zipIdx.any fun (x, i) => !(Nat.beq i j) && loudOp x.op && !((b.getD j 0).testBit i) && !((b.getD i 0).testBit j)
def evDraw (tb : Tab) (call : Nat → List AV → AHeap → Option (AV × AHeap)) (n : Nat) (ops : List Oper) (tm : T AV) (h : AHeap) : Option (T AV × AHeap) :=
 match drawOk ops with
 | true =>
  match drawFree ops with
  | true => evOps tb call n ops ops tm h
  | false =>
  match wantsFloat ops with
  | true => evFloat tb call n ops tm h
  | false =>
  match evTrace tb call n ops 0 ops tm h with
  | some (es, ms, tm', h') =>
   match ms with
   | [] => some (tm', h')
   | _ =>
    match es.all (entOk tb (aheadOf ops []) (es.filterMap fun e => if e.kind = 2 then some e.i else none) ((0, h) :: ms)) with
    | true => some (tm', h')
    | false => none
  | none => none
 | false => none

inductive Ex where
 | normal
 | exit (id : Nat)
 | ret

def evCode (tb : Tab) (call : Nat → List AV → AHeap → Option (AV × AHeap)) (n : Nat)
  (ih : Code → T AV → AHeap → Option (Ex × T AV × AHeap)) (c : Code) (tm : T AV) (h : AHeap) : Option (Ex × T AV × AHeap) :=
 match c with
 | .skip => some (.normal, tm, h)
 | .label _ => some (.normal, tm, h)
 | .ret => some (.ret, tm, h)
 | .exit id => some (.exit id, tm, h)
 | .region _ ops draw =>
  match (match draw with
   | true => evDraw tb call n ops.toList tm h
   | false => evOps tb call n ops.toList ops.toList tm h) with
  | some (tm', h') => some (.normal, tm', h')
  | none => none
 | .seq a b => match ih a tm h with
  | some (.normal, tm', h') => ih b tm' h'
  | r => r
 | .cond x a b => match opnd tm x with
  | some (.bool true) => ih a tm h
  | some (.bool false) => ih b tm h
  | _ => none
 | .block id b => match ih b tm h with
  | some (.exit j, tm', h') => match Nat.beq j id with
   | true => some (.normal, tm', h')
   | false => some (.exit j, tm', h')
  | r => r
 | .loop b => match ih b tm h with
  | some (.normal, tm', h') => ih (.loop b) tm' h'
  | r => r
 | _ => none

def argTmps : Nat → List AV → T AV → T AV
 | _, [], tm => tm
 | i, v :: l, tm => argTmps (i + 1) l (tm.set i v)
def resultA (tb : Tab) (tm : T AV) (h : AHeap) : ResultVar → Option AV
 | .tmp t => tm.get t
 | .cell a t => match tm.get a with
  | some (.ptr b o) => loadA tb h.objs t b o
  | _ => none
def resultsA (tb : Tab) (tm : T AV) (h : AHeap) : List ResultVar → Option (List AV)
 | [] => some []
 | r :: l => match resultA tb tm h r with
  | some v => match resultsA tb tm h l with
   | some m => some (v :: m)
   | none => none
  | none => none
def oneOf : List AV → AV
 | [v] => v
 | l => .tuple l

def evCall (tb : Tab) (run : Nat → Code → T AV → AHeap → Option (Ex × T AV × AHeap)) (f : Nat) (args : List AV) (h : AHeap) : Option (AV × AHeap) :=
 match tb.orc f args h with
 | some v => some (v, h)
 | none =>
 match tb.ft.get f with
 | some fn =>
  match fn.body, Nat.ble args.length fn.ntmps with
  | some c, true =>
   match run fn.ntmps c (argTmps 0 args .leaf) h with
   | some (.exit _, _, _) => none
   | some (_, tm, h') => match resultsA tb tm h' fn.results.toList with
    | some l => some (oneOf l, h')
    | none => none
   | none => none
  | _, _ => none
 | none => none

def run (tb : Tab) : Nat → Nat → Code → T AV → AHeap → Option (Ex × T AV × AHeap)
 | 0, _, _, _, _ => none
 | k + 1, n, c, tm, h => evCode tb (evCall tb (run tb k)) n (run tb k n) c tm h

def callA (tb : Tab) (k : Nat) (f : Nat) (args : List AV) (h : AHeap) : Option (AV × AHeap) := evCall tb (run tb k) f args h

def tabOf (P : Program) : Tab := ⟨T.ofList 0 P.types.toList .leaf, T.ofList 0 P.funcs.toList .leaf,
 T.ofList 0 ((List.range P.types.size).map fun t => !(P.eqGuardType P.depth t) && !(P.stoodInHeld t)) .leaf,
 fun _ _ _ _ => none, fun _ _ => none, fun _ _ _ => none⟩

end
end Go.Proofs.YtfkbfnpjggkdmaaGreatDoor.Ev
