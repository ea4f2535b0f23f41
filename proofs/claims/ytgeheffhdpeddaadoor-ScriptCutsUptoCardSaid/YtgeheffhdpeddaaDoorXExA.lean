/-
  Texts laid together: AN EXECUTOR OVER THE PROGRAM's OWN CODE WHOSE VALUES ARE PLAIN (lists, numbers, ; WHAT A PLAIN VALUE SAYS OF A VALUE IN A WORLD; WHAT THE EXECUTOR's STATE SAYS OF A FRAME AND A WORLD; how it goes on through wh. Conditions: as each theorem states.
-/
import GoSem.Step
import Derived.Below
/- AN EXECUTOR OVER THE PROGRAM's OWN CODE WHOSE VALUES ARE PLAIN (lists, numbers, bytes): definitions alone. It answers only where the code neither panics nor leaves what is modelled here. Conditions: none. -/
namespace Go.Proofs.YtgeheffhdpeddaaDoor.VX
open Go

/-- Plain values. 'view': a slice whose elements nobody writes any more (each element: 'agg' of its cells, or one value); 'part': a slice whose spare elements are told, too; 'ptr': into a block of the call's own; 'cptr': into cells that nobody writes any more; 'top': anything. -/
inductive AV where
  | int (k : IntKind) (n : Int)
  | u8 (b : UInt8)
  | bool (b : Bool)
  | str (s : List UInt8)
  | raw (v : Value)
  | agg (cs : List AV)
  | tup (vs : List AV)
  | view (sz : Nat) (xs : List AV)
  | part (sz : Nat) (xs ys : List AV)
  | ptr (id off : Nat)
  | cptr (cs : List AV) (off : Nat)
  | fn (f : Fn) (first captured : List AV)
  | iface (t : TypeId) (x : AV)
  | top
  deriving Inhabited

inductive Key where
  | t (n : Nat) | o (n : Nat) | l (n : Nat) | y (n : Nat) | x
  deriving DecidableEq, Repr

def Key.same : Key → Key → Bool
  | .t a, .t b => Nat.beq a b
  | .o a, .o b => Nat.beq a b
  | .l a, .l b => Nat.beq a b
  | .y a, .y b => Nat.beq a b
  | .x, .x => true
  | _, _ => false

/-- What lies under a key ('bld': a strings.Builder with its bytes): a temporary's value with its label (0: the slice is full; other: a slice whose spare room is the label's alone while the label lives), a block's cells, a label's life, a number. -/
inductive Ent where
  | none
  | av (v : AV) (lab : Option Nat)
  | obj (cs : List (AV × Option Nat))
  | bld (bs : List UInt8)
  | flag (b : Bool)
  | num (n : Nat)
  deriving Inhabited

abbrev St := List (Key × Ent)
def St.at : St → Key → Ent
  | [], _ => .none
  | (k, e) :: s, κ => bif k.same κ then e else St.at s κ

/-- An operation's own doing, as reads of the state, tests, and calls. -/
inductive Rd (α : Type) : Type where
  | ret (a : α)
  | fail
  | get (κ : Key) (k : Ent → Rd α)
  | test (b : Bool) (k : Rd α)
  | branch (b : Bool) (p q : Rd α)
  | call (f : FuncId) (args : List AV) (k : AV → Rd α)

namespace Rd
def bind {α β : Type} : Rd α → (α → Rd β) → Rd β
  | .ret a, g => g a
  | .fail, _ => .fail
  | .get κ k, g => .get κ fun e => (k e).bind g
  | .test b k, g => .test b (k.bind g)
  | .branch b p q, g => .branch b (p.bind g) (q.bind g)
  | .call f as k, g => .call f as fun v => (k v).bind g
instance : Monad Rd := { pure := Rd.ret, bind := Rd.bind }
def need {α : Type} : Option α → Rd α
  | some a => .ret a
  | none => .fail
/-- The run, the rest behind it: a test that is open stays a branch of the answer. -/
def go {α R : Type} (cf : FuncId → List AV → Option AV) (S : St) : Rd α → List Key → (α → List Key → Option R) → Option R
  | .ret a, rs, K => K a rs
  | .fail, _, _ => none
  | .get κ k, rs, K => go cf S (k (S.at κ)) (κ :: rs) K
  | .test b k, rs, K => bif b then go cf S k rs K else none
  | .branch b p q, rs, K => bif b then go cf S p rs K else go cf S q rs K
  | .call f as k, rs, K => (cf f as).bind fun v => go cf S (k v) rs K
end Rd

/-- The numbers of blocks lie below; a builder's buffer has one behind. -/
def HID : Nat := 4611686018427387904
def hid (id : Nat) : Nat := HID + id
/-- The types strings.Builder and byte. -/
def bldT : TypeId := 87
def byteT : TypeId := 5

/-! ### types -/
section
variable (P : Program)
def szOf (t : TypeId) : Option Nat := (P.info? t).map (·.size)
def isAggT (t : TypeId) : Option Bool :=
  match P.underlying t with
  | some (.struct _) => some true
  | some (.array _ _) => some true
  | some _ => some false
  | none => none

def ofS : Value → AV
  | .int .u8 n => bif Nat.ble n.toNat 255 && (decide (0 ≤ n)) then .u8 (UInt8.ofNat n.toNat) else .raw (.int .u8 n)
  | .int k n => .int k n
  | .bool b => .bool b
  | .string s => .str s.data.toList
  | v => .raw v
def rawCell : Value → Bool
  | .agg _ => false
  | .tuple _ => false
  | _ => true
def ofV : Value → AV
  | .agg cs => bif cs.toList.all rawCell then .agg (cs.toList.map ofS) else .raw (.agg cs)
  | .tuple #[] => .tup []
  | v => ofS v

/-- A value's cells. -/
def AV.cells? : AV → Option (List AV)
  | .agg cs => some cs
  | .tup _ => none
  | .top => none
  | .raw _ => none
  | v => some [v]
/-- As 'cells?', constants too. -/
def AV.cells : AV → Option (List AV)
  | .raw v => bif rawCell v then some [.raw v] else none
  | v => v.cells?

def zeroOf (t : TypeId) : Option AV := ((P.info? t).bind (·.zero)).map ofV

/-- A nil slice at a slice's type is an empty list. -/
def norm (ty : TypeId) (v : AV) (lab : Option Nat) : AV × Option Nat :=
  match v with
  | .raw (.slice none 0 0) =>
    match P.underlying ty with
    | some (.slice e) => (match szOf P e with | some n => (.view n [], some 0) | none => (v, lab))
    | _ => (v, lab)
  | _ => (v, lab)

def pureAV : AV → Bool
  | .ptr _ _ => false
  | .agg cs => pures cs
  | .tup cs => pures cs
  | .fn _ a c => pures a && pures c
  | .iface _ x => pureAV x
  | _ => true
  where pures : List AV → Bool
  | [] => true
  | c :: cs => pureAV c && pures cs

/-- What is told of spare elements is let go. -/
def weakA : AV → AV
  | .part sz xs _ => .view sz xs
  | .agg cs => .agg (all cs)
  | v => v
  where all : List AV → List AV
  | [] => []
  | c :: cs => weakA c :: all cs

/-! ### the operations -/
def ev : Operand → Rd (AV × Option Nat)
  | .tmp t => .get (.t t) fun | .av v l => .ret (v, l) | _ => .ret (.top, none)
  | .const v => .ret (ofV v, none)
  | .global g => .ret (.raw (.pointer (some ⟨g, 0, none⟩)), none)
  | .func f => .ret (.fn (.func f) [] [], none)
def evs : List Operand → Rd (List AV)
  | [] => .ret []
  | x :: xs => do
    let (v, _) ← ev x
    let vs ← evs xs
    pure (v :: vs)
def evps : List (Nat × Operand) → Rd (List (Nat × AV))
  | [] => .ret []
  | (i, x) :: xs => do
    let (v, _) ← ev x
    let vs ← evps xs
    pure ((i, v) :: vs)

/-- The parts laid into a row of cells. -/
def fillA (place : Nat → Option (Nat × Nat)) (cells : List AV) : List (Nat × AV) → Option (List AV)
  | [] => some cells
  | (i, v) :: rest =>
    match place i, v.cells with
    | some (off, size), some cs => bif Nat.beq cs.length size && Nat.ble (off + size) cells.length then fillA place (cells.take off ++ (cs ++ cells.drop (off + size))) rest else none
    | _, _ => none

/-- Where a struct's fields lie. -/
def placesA : List Field → Option (List (Nat × Nat))
  | [] => some []
  | f :: fs => (szOf P f.type).bind fun s => (placesA fs).map fun l => (f.offset, s) :: l

def setAt : List AV → Nat → AV → List AV
  | [], _, _ => []
  | _ :: l, 0, v => v :: l
  | x :: l, n + 1, v => x :: setAt l n v

def fillE (sz : Nat) (agg : Bool) (n : Nat) (xs : List AV) : List (Nat × AV) → Option (List AV)
  | [] => some xs
  | (i, v) :: rest =>
    match v.cells, (match v with | .agg _ => agg | _ => !agg) && pureAV v with
    | some cs, true => bif Nat.beq cs.length sz && Nat.blt i n then fillE sz agg n (setAt xs i v) rest else none
    | _, _ => none

/-- A part of a row of cells, read at a type. -/
def partA (t : TypeId) (cs : List (AV × Option Nat)) (off : Nat) : Rd (AV × Option Nat) :=
  match isAggT P t, szOf P t with
  | some true, some n => .test (Nat.ble (off + n) cs.length) (.ret (.agg (((cs.drop off).take n).map (·.1)), none))
  | some false, _ => (match cs[off]? with | some x => .ret x | none => .fail)
  | _, _ => .fail
def partC0 (t : TypeId) (cs : List AV) (off : Nat) : Rd (AV × Option Nat) :=
  match isAggT P t, szOf P t with
  | some true, some n => .test (Nat.ble (off + n) cs.length) (.ret (.agg ((cs.drop off).take n), none))
  | some false, _ => (match cs[off]? with | some x => .ret (x, none) | none => .fail)
  | _, _ => .fail
/-- As 'partC0', the place may be open. -/
def partC (t : TypeId) (cs : List AV) (off : Nat) : Rd (AV × Option Nat) :=
  match isAggT P t, szOf P t with
  | some true, some n => .test (Nat.ble (off + n) cs.length) (.ret (.agg ((cs.drop off).take n), none))
  | some false, _ => .test (Nat.blt off cs.length) (.ret (cs.getD off .top, none))
  | _, _ => .fail

def cmpI (op : BinOp) (a b : Int) : Option Bool :=
  match op with
  | .eql => some (a == b)
  | .neq => some (a != b)
  | .lss => some (decide (a < b))
  | .leq => some (decide (a ≤ b))
  | .gtr => some (decide (a > b))
  | .geq => some (decide (a ≥ b))
  | _ => none
def cmpB (op : BinOp) (a b : UInt8) : Option Bool :=
  match op with
  | .eql => some (a == b)
  | .neq => some (a != b)
  | .lss => some (decide (a < b))
  | .leq => some (decide (a ≤ b))
  | .gtr => some (decide (b < a))
  | .geq => some (decide (b ≤ a))
  | _ => none
def lessS : List UInt8 → List UInt8 → Bool
  | _, [] => false
  | [], _ :: _ => true
  | a :: x, b :: y => decide (a < b) || (a == b && lessS x y)
def cmpS (op : BinOp) (a b : List UInt8) : Option Bool :=
  match op with
  | .eql => some (a == b)
  | .neq => some (!(a == b))
  | .lss => some (lessS a b)
  | .leq => some (lessS a b || a == b)
  | .gtr => some (!(lessS a b || a == b))
  | .geq => some (!lessS a b)
  | _ => none
def arithI (op : BinOp) (k : IntKind) (a b : Int) : Option AV :=
  match op with
  | .add => some (.int k (k.wrap (a + b)))
  | .sub => some (.int k (k.wrap (a - b)))
  | .mul => some (.int k (k.wrap (a * b)))
  | .and => some (.int k (k.wrap (BitVec.ofInt k.bits a &&& BitVec.ofInt k.bits b).toNat))
  | .or => some (.int k (k.wrap (BitVec.ofInt k.bits a ||| BitVec.ofInt k.bits b).toNat))
  | .xor => some (.int k (k.wrap (BitVec.ofInt k.bits a ^^^ BitVec.ofInt k.bits b).toNat))
  | .andNot => some (.int k (k.wrap (BitVec.ofInt k.bits a &&& ~~~BitVec.ofInt k.bits b).toNat))
  | _ => none
def arithB (op : BinOp) (a b : UInt8) : Option AV :=
  match op with
  | .add => some (.u8 (a + b))
  | .sub => some (.u8 (a - b))
  | .mul => some (.u8 (a * b))
  | .and => some (.u8 (a &&& b))
  | .or => some (.u8 (a ||| b))
  | .xor => some (.u8 (a ^^^ b))
  | _ => none

/-- The field as a value of its own. -/
def eqField (f : Field) (xs : List AV) : Option AV :=
  match isAggT P f.type, szOf P f.type with
  | some true, some n => bif Nat.ble (f.offset + n) xs.length then some (.agg ((xs.drop f.offset).take n)) else none
  | some false, _ => xs[f.offset]?
  | _, _ => none
def eqFsG (eq : TypeId → AV → AV → Option Bool) : List Field → List AV → List AV → Option Bool
  | [], _, _ => some true
  | f :: fs, xs, ys =>
    bif f.name == "_" then none else
    match eqField P f xs, eqField P f ys with
    | some a, some b =>
      (match eq f.type a b, eqFsG eq fs xs ys with
      | some p, some q => some (p && q)
      | _, _ => none)
    | _, _ => none
/-- Are two values one? Decided by their shape, no test is open but within the answer. -/
def eqA : Nat → TypeId → AV → AV → Option Bool
  | 0, _, _, _ => none
  | d + 1, t, x, y =>
    match P.underlying t, x, y with
    | some .bool, .bool a, .bool b => some (a == b)
    | some (.int _), .int j a, .int k b => bif decide (j = k) then some (a == b) else none
    | some (.int _), .u8 a, .u8 b => some (a == b)
    | some .string, .str a, .str b => some (a == b)
    | some (.pointer _), .ptr _ _, .raw (.pointer none) => some false
    | some (.pointer _), .raw (.pointer none), .ptr _ _ => some false
    | some (.pointer _), .cptr _ _, .raw (.pointer none) => some false
    | some (.pointer _), .raw (.pointer none), .cptr _ _ => some false
    | some (.pointer _), .raw (.pointer none), .raw (.pointer none) => some true
    | some (.interface _), .iface _ _, .raw .nilIface => some false
    | some (.interface _), .raw .nilIface, .iface _ _ => some false
    | some (.interface _), .raw .nilIface, .raw .nilIface => some true
    | some (.func _ _ _), .fn _ _ _, .raw .nilFunc => some false
    | some (.func _ _ _), .raw .nilFunc, .fn _ _ _ => some false
    | some (.func _ _ _), .raw .nilFunc, .raw .nilFunc => some true
    | some (.slice _), .view _ (_ :: _), .raw (.slice none 0 0) => some false
    | some (.struct fs), .agg xs, .agg ys => if P.stoodInHeld t then none else eqFsG P (eqA d) fs.toList xs ys
    | _, _, _ => none

/-- A test's own answer: with no guard of the model's beside it. -/
def binA (op : BinOp) (t : TypeId) (x y : AV) : Rd AV :=
  match op, x, y with
  | .shl, .int k a, .int _ b => .test (decide (0 ≤ b)) (.ret (.int k (k.wrap (a * 2 ^ (min b.toNat k.bits)))))
  | .shr, .int k a, .int _ b => .test (decide (0 ≤ b)) (.ret (.int k (a.fdiv (2 ^ (min b.toNat k.bits)))))
  | .shl, .u8 a, .int _ b => .test (decide (0 ≤ b)) (.ret (.u8 (UInt8.ofNat (a.toNat * 2 ^ (min b.toNat 8)))))
  | .shr, .u8 a, .int _ b => .test (decide (0 ≤ b)) (.ret (.u8 (UInt8.ofNat (a.toNat / 2 ^ (min b.toNat 8)))))
  | .quo, .int k a, .int j b => bif decide (j = k) then .test (!(b == 0)) (.ret (.int k (k.wrap (a.tdiv b)))) else .fail
  | .rem, .int k a, .int j b => bif decide (j = k) then .test (!(b == 0)) (.ret (.int k (a.tmod b))) else .fail
  | .quo, .u8 a, .u8 b => .test (!(b == 0)) (.ret (.u8 (a / b)))
  | .rem, .u8 a, .u8 b => .test (!(b == 0)) (.ret (.u8 (a % b)))
  | op, .int k a, .int j b => bif decide (j = k) then (match cmpI op a b with
    | some c => .ret (.bool c)
    | none => Rd.need (arithI op k a b)) else .fail
  | op, .u8 a, .u8 b => (match cmpB op a b with
    | some c => .ret (.bool c)
    | none => Rd.need (arithB op a b))
  | .add, .str a, .str b => .test (Nat.ble (a.length + b.length) 9223372036854775807) (.ret (.str (a ++ b)))
  | op, .str a, .str b => (match cmpS op a b with | some c => .ret (.bool c) | none => .fail)
  | .eql, x, y => (match eqA P 64 t x y with | some c => .ret (.bool c) | none => .fail)
  | .neq, x, y => (match eqA P 64 t x y with | some c => .ret (.bool (!c)) | none => .fail)
  | _, _, _ => .fail

def isU8 : AV → Bool
  | .u8 _ => true
  | _ => false
def toU8 : AV → UInt8
  | .u8 b => b
  | _ => 0

def convA (src dst : TypeId) (x : AV) : Rd AV :=
  match P.underlying src, P.underlying dst, x with
  | some _, some (.int .u8), .int _ n => .ret (.u8 (UInt8.ofNat (n % 256).toNat))
  | some _, some (.int .u8), .u8 b => .ret (.u8 b)
  | some _, some (.int .i8), .u8 b => .ret (.int .i8 (IntKind.i8.wrap b.toNat))
  | some _, some (.int k), .u8 b => .ret (.int k b.toNat)
  | some _, some (.int k), .int _ n => .ret (.int k (k.wrap n))
  | some _, some .string, .str s => .ret (.str s)
  | some _, some (.slice e), .str s => (match P.underlying e with | some (.int .u8) => .ret (.view 1 (s.map .u8)) | _ => .fail)
  | some (.slice e), some .string, .view _ xs => (match P.underlying e with | some (.int .u8) => .test (xs.all isU8) (.ret (.str (xs.map toU8))) | _ => .fail)
  | some (.slice e), some .string, .part _ xs _ => (match P.underlying e with | some (.int .u8) => .test (xs.all isU8) (.ret (.str (xs.map toU8))) | _ => .fail)
  | some (.slice e), some .string, .raw (.slice none 0 0) => (match P.underlying e with | some (.int .u8) => .ret (.str []) | _ => .fail)
  | _, _, _ => .fail

/-- A bound of a slice expression. -/
def boundA : Option AV → Option Int
  | some (.int _ n) => some n
  | some (.u8 b) => some b.toNat
  | _ => none

def sliceL {β : Type} (lo hi : Option AV) (l : List β) (mk : List β → AV) : Rd AV := do
  let h ← (match hi with | none => Rd.ret (l.length : Int) | some h => Rd.need (boundA (some h)))
  let a ← (match lo with | none => Rd.ret (0 : Int) | some a => Rd.need (boundA (some a)))
  .test (decide (0 ≤ a)) (.test (decide (a ≤ h)) (.test (decide (h ≤ (l.length : Int))) (.ret (mk ((l.take h.toNat).drop a.toNat)))))
/-- A front of bytes: what is cut off stays told. -/
def partL (h : AV) (xs : List AV) : Rd AV := do
  let q ← Rd.need (boundA (some h))
  .test (decide (0 ≤ q)) (.test (decide (q ≤ (xs.length : Int))) (.ret (.part 1 (xs.take q.toNat) (xs.drop q.toNat))))
def sliceA (t : TypeId) (x : AV) (lo hi : Option AV) : Rd AV :=
  match P.underlying t, x with
  | some .string, .str s => sliceL lo hi s .str
  | some (.slice e), .view sz xs => bif decide (szOf P e = some sz) then (match lo, hi, Nat.beq sz 1 with | none, some h, true => partL h xs | _, _, _ => sliceL lo hi xs (.view sz)) else .fail
  | some (.slice e), .part sz xs ys => bif decide (szOf P e = some sz) then (match hi with | some h => sliceL lo (some h) (xs ++ ys) (.view sz) | none => .fail) else .fail
  | _, _ => .fail

/-- Where the cells of global variables are told. -/
abbrev Globs := Nat → Option (List AV)

def loadA (G : Globs) (t : TypeId) (a : AV) : Rd (AV × Option Nat) :=
  match a with
  | .ptr id off => .get (.o id) fun | .obj cs => partA P t cs off | _ => .fail
  | .cptr cs off => partC P t cs off
  | .raw (.pointer (some ⟨g, off, none⟩)) => (match G g with | some cs => partC P t cs off | none => .fail)
  | _ => .fail

def fieldOff (s : TypeId) (f : Nat) : Option (Nat × TypeId) :=
  match P.underlying s with
  | some (.struct fs) => (fs[f]?).map fun f => (f.offset, f.type)
  | _ => none
def idxOf : AV → Option Int := fun v => boundA (some v)

def addrA (x : AV) (n : Nat) : Option AV :=
  match x with
  | .ptr id off => some (.ptr id (off + n))
  | .cptr cs off => some (.cptr cs (off + n))
  | .raw (.pointer (some ⟨g, off, none⟩)) => some (.raw (.pointer (some ⟨g, off + n, none⟩)))
  | _ => none

def indexAddrA (t : TypeId) (x i : AV) : Rd AV :=
  match P.underlying t, x, idxOf i with
  | some (.slice e), .view sz xs, some n =>
    bif decide (szOf P e = some sz) then .test (decide (0 ≤ n)) (.test (decide (n < (xs.length : Int))) (.ret (.cptr ((xs.getD n.toNat .top).cells.getD []) 0))) else .fail
  | some (.array len e), x, some n =>
    (match szOf P e with
    | some sz => .test (decide (0 ≤ n)) (.test (decide (n < (len : Int))) (Rd.need (addrA x (n.toNat * sz))))
    | none => .fail)
  | _, _, _ => .fail

def indexA (t : TypeId) (x i : AV) : Rd AV :=
  match P.underlying t, x, idxOf i with
  | some .string, .str s, some n => .test (decide (0 ≤ n)) (.test (decide (n < (s.length : Int))) (.ret (.u8 (s.getD n.toNat 0))))
  | some (.array len e), .agg cs, some n =>
    (match isAggT P e, szOf P e with
    | some false, some 1 => .test (decide (0 ≤ n)) (.test (decide (n < (len : Int))) (.test (decide (n < (cs.length : Int))) (.ret (cs.getD n.toNat .top))))
    | some true, some k => .test (decide (0 ≤ n)) (.test (decide (n < (len : Int))) (.test (Nat.ble (len * k) cs.length) (.ret (.agg ((cs.drop (n.toNat * k)).take k)))))
    | _, _ => .fail)
  | _, _, _ => .fail

/-- What an operation leaves: its value with its label, and what else it writes. -/
structure Res where
  val : AV
  lab : Option Nat := none
  ws : List (Key × Ent) := []

/-- Room for an append: its length and the bytes of an element. -/
def roomA (n bytes : Nat) : Bool := Nat.ble n (2 ^ 39) && Nat.ble bytes 128

/-- The second argument is a list. -/
def listArg (t : TypeId) : Bool :=
  match P.underlying t with
  | some (.slice _) => true
  | some .string => true
  | _ => false

/-- What is appended to: the elements and the label. -/
def baseA (sz : Nat) : AV × Option Nat → Option (List AV × Nat)
  | (.view n xs, some lab) => bif Nat.beq n sz then some (xs, lab) else none
  | (.raw (.slice none 0 0), _) => some ([], 0)
  | _ => none
/-- What is appended. -/
def moreA (sz : Nat) (one : Bool) : AV → Option (List AV)
  | .view n ys => bif Nat.beq n sz then some ys else none
  | .raw (.slice none 0 0) => some []
  | .str bs => bif one then some (bs.map .u8) else none
  | _ => none

def appendA (ats : List TypeId) (fresh : Nat) (s : AV × Option Nat) (x : AV) : Rd Res :=
  match ats with
  | [st, xt] =>
    match P.underlying st with
    | some (.slice e) =>
      (match P.info? e, (zeroOf P e).bind (·.cells) with
      | some inf, some zc =>
        bif Nat.beq zc.length inf.size && Nat.ble 1 inf.size && listArg P xt && Nat.ble 1 fresh then do
          let (xs, lab) ← Rd.need (baseA inf.size s)
          let ys ← Rd.need (moreA inf.size (Nat.beq inf.size 1) x)
          let fin (ws : List (Key × Ent)) : Rd Res :=
            .test (roomA (xs.length + ys.length) inf.bytes) (.ret { val := .view inf.size (xs ++ ys), lab := some fresh, ws := (.l fresh, .flag true) :: ws })
          .get (.l fresh) fun
            | .none => (match lab with
              | 0 => fin []
              | l + 1 => .get (.l (l + 1)) fun | .flag true => fin [(.l (l + 1), .flag false)] | _ => .fail)
            | _ => .fail
        else .fail
      | _, _ => .fail)
    | _ => .fail
  | _ => .fail

def lenA (t : TypeId) (x : AV) : Rd AV :=
  match P.underlying t, x with
  | some .string, .str s => .ret (.int .i64 s.length)
  | some (.slice _), .view _ xs => .ret (.int .i64 xs.length)
  | some (.slice _), .part _ xs _ => .ret (.int .i64 xs.length)
  | some (.slice _), .raw (.slice none 0 0) => .ret (.int .i64 0)
  | some (.array n _), _ => .ret (.int .i64 n)
  | _, _ => .fail

/-- Where the model's own guard of an equation has nothing to say. -/
def guardE (t : TypeId) (x y : Operand) : AV → AV → Bool
  | .raw .nilIface, .raw .nilIface => Region.isConst x || Region.isConst y
  | .agg _, .agg _ => !P.eqGuardType P.depth t
  | .raw (.agg _), .raw (.agg _) => false
  | .raw _, .raw _ => true
  | .raw _, .agg _ => false
  | .agg _, .raw _ => false
  | .top, _ => false
  | _, .top => false
  | _, _ => true
def guardA (op : BinOp) (t : TypeId) (x y : Operand) (a b : AV) : Bool :=
  match op with
  | .eql | .neq => guardE P t x y a b
  | _ => true

def oneA : AV → Bool
  | .agg _ => false
  | _ => true

/-- One operation. 'fresh': the number that a new block or a new label of this operation has. -/
def opA (G : Globs) (o : Oper) (fresh : Nat) : Rd Res :=
  let v (r : Rd AV) : Rd Res := do pure { val := ← r }
  let vl (r : Rd (AV × Option Nat)) : Rd Res := do let (x, l) ← r; pure { val := x, lab := l }
  let new (t : TypeId) (cs : List AV) : Rd Res := .test (Nat.blt fresh HID) <| .get (.o fresh) fun
    | .none => .get (.y fresh) fun
      | .none => .ret { val := .ptr fresh 0, ws := [(.o fresh, .obj (cs.map fun c => (c, none))), (.y fresh, .num t)] }
      | _ => .fail
    | _ => .fail
  match o.op with
  | .move x | .assign x => vl (ev x)
  | .pick c a b => do
    let (c, _) ← ev c
    match c with
    | .bool c => .branch c (vl (ev a)) (vl (ev b))
    | _ => .fail
  | .alloc t => do
    let cs ← Rd.need ((zeroOf P t).bind (·.cells))
    bif Nat.beq t bldT then (match cs with
      | [.raw (.pointer none), .raw (.slice none 0 0)] => .test (Nat.blt fresh HID) <| .get (.o fresh) fun
        | .none => .get (.y fresh) fun
          | .none => .ret { val := .ptr fresh 0, ws := [(.o fresh, .bld [])] }
          | _ => .fail
        | _ => .fail
      | _ => .fail) else new t cs
  | .box t x => do let (x, _) ← ev x; new t (← Rd.need x.cells)
  | .build t ps => do
    let ps ← evps ps.toList
    let z ← Rd.need ((zeroOf P t).bind (·.cells))
    match P.underlying t with
    | some (.struct fs) => do
      let places ← Rd.need (placesA P fs.toList)
      v (do pure (.agg (← Rd.need (fillA (fun i => places[i]?) z ps))))
    | some (.array _ e) => (match szOf P e with
      | some s => v (do pure (.agg (← Rd.need (fillA (fun i => some (i * s, s)) z ps))))
      | none => .fail)
    | _ => .fail
  | .buildSlice t n ps => do
    let ps ← evps ps.toList
    match P.underlying t with
    | some (.slice e) =>
      (match szOf P e, isAggT P e, zeroOf P e with
      | some s, some a, some z =>
        (match z.cells with
        | some zc => bif Nat.ble (n * s) (2 ^ 24) && Nat.ble 1 s && Nat.beq zc.length s then (do
            let xs ← Rd.need (fillE s a n (List.replicate n z) ps)
            pure { val := .view s xs, lab := some 0 }) else .fail
        | none => .fail)
      | _, _, _ => .fail)
    | _ => .fail
  | .load t a => do let (a, _) ← ev a; vl (loadA P G t a)
  | .store t a x => do
    let (a, _) ← ev a
    let (x, l) ← ev x
    match a, x.cells, isAggT P t, szOf P t with
    | .ptr id off, some cs, some g, some n => .get (.o id) fun
      | .obj os => bif Nat.beq cs.length n && Nat.ble (off + n) os.length && (g || (Nat.beq n 1 && oneA x)) then
          .ret { val := .tup [], ws := [(.o id, .obj (os.take off ++ ((cs.map fun c => (c, bif g then none else l)) ++ os.drop (off + n))))] }
        else .fail
      | _ => .fail
    | _, _, _, _ => .fail
  | .nilCheck x => do
    let (x, _) ← ev x
    match x with
    | .ptr _ _ | .cptr _ _ | .raw (.pointer (some _)) | .fn (.func _) _ _ => v (.ret x)
    | _ => .fail
  | .binOp op t x y _ => do
    let (a, _) ← ev x
    let (b, _) ← ev y
    bif guardA P op t x y a b then v (binA P op t a b) else .fail
  | .unOp op _ x => do
    let (x, _) ← ev x
    match op, x with
    | .not, .bool b => v (.ret (.bool (!b)))
    | .neg, .int k n => v (.ret (.int k (k.wrap (0 - n))))
    | _, _ => .fail
  | .convert s d x => do let (x, _) ← ev x; v (convA P s d x)
  | .makeInterface t x => do
    let (x, _) ← ev x
    match P.underlying t with
    | some (.interface _) | none => .fail
    | _ => v (.ret (.iface t x))
  | .makeFunc f first cap => do
    let a ← evs first.toList
    let c ← evs cap.toList
    v (.ret (.fn f a c))
  | .slice t x lo hi none => do
    let (x, _) ← ev x
    let lo ← (match lo with | none => Rd.ret none | some o => do let (v, _) ← ev o; pure (some v))
    let hi ← (match hi with | none => Rd.ret none | some o => do let (v, _) ← ev o; pure (some v))
    v (sliceA P t x lo hi)
  | .fieldAddr s x f => do
    let (x, _) ← ev x
    match fieldOff P s f with
    | some (off, t) => (match szOf P t with | some (_ + 1) => v (Rd.need (addrA x off)) | _ => .fail)
    | none => .fail
  | .field s x f => do
    let (x, _) ← ev x
    match fieldOff P s f, x with
    | some (off, t), .agg cs => vl (partC P t cs off)
    | _, _ => .fail
  | .indexAddr t x i => do
    let (x, _) ← ev x
    let (i, _) ← ev i
    v (indexAddrA P t x i)
  | .index t x i => do
    let (x, _) ← ev x
    let (i, _) ← ev i
    v (indexA P t x i)
  | .extract x i => do
    let (x, _) ← ev x
    match x with
    | .tup vs => v (Rd.need vs[i]?)
    | _ => .fail
  | .call c =>
    match c.callee with
    | .builtin .len => (match c.args.toList, c.argTypes.toList with
      | [x], t :: _ => do let (x, _) ← ev x; v (lenA P t x)
      | _, _ => .fail)
    | .builtin .append => (match c.args.toList with
      | [s, x] => do
        let s ← ev s
        let (x, _) ← ev x
        appendA P c.argTypes.toList fresh s x
      | _ => .fail)
    | _ => .fail
  | _ => .fail

/-! ### a value told by its type -/
def toI : AV → Int
  | .int _ n => n
  | _ => 0
def isI (k : IntKind) : AV → Bool
  | .int j _ => decide (j = k)
  | _ => false
def toB : AV → Bool
  | .bool b => b
  | _ => false
def isB : AV → Bool
  | .bool _ => true
  | _ => false
def toS : AV → List UInt8
  | .str s => s
  | _ => []
def isS : AV → Bool
  | .str _ => true
  | _ => false
def cellsL : AV → List AV
  | .agg cs => cs
  | _ => []
def isA : AV → Bool
  | .agg _ => true
  | _ => false
def eta1 (t : TypeId) (v : AV) : AV × Bool :=
  match P.underlying t with
  | some (.int .u8) => (.u8 (toU8 v), isU8 v)
  | some (.int k) => (.int k (toI v), isI k v)
  | some .bool => (.bool (toB v), isB v)
  | some .string => (.str (toS v), isS v)
  | _ => (v, true)
def etaL (cs : List AV) : Nat → List TypeId → List AV
  | _, [] => []
  | j, t :: ts => (eta1 P t (cs.getD j .top)).1 :: etaL cs (j + 1) ts
def etaOK (cs : List AV) : Nat → List TypeId → Bool
  | _, [] => true
  | j, t :: ts => (eta1 P t (cs.getD j .top)).2 && etaOK cs (j + 1) ts
def manyT (g : TypeId → Option (List TypeId)) : List Field → Option (List TypeId)
  | [] => some []
  | f :: fs => (g f.type).bind fun a => (manyT g fs).map fun b => a ++ b
/-- The types of a value's cells. -/
def cellTs : Nat → TypeId → Option (List TypeId)
  | 0, _ => none
  | d + 1, t =>
    match P.underlying t with
    | some (.struct fs) => manyT (cellTs d) fs.toList
    | some (.array n e) => bif Nat.ble n 16 then (cellTs d e).map fun l => (List.replicate n l).flatten else none
    | some _ => some [t]
    | none => none
def etaP (t : TypeId) (v : AV) : AV × Bool :=
  match isAggT P t with
  | some true => (match cellTs P 8 t with
    | some ts => (.agg (etaL P (cellsL v) 0 ts), isA v && Nat.beq (cellsL v).length ts.length && etaOK P (cellsL v) 0 ts)
    | none => (v, true))
  | _ => eta1 P t v
/-- One operation; a value that is read is told by its type. -/
def opE (G : Globs) (o : Oper) (fresh : Nat) : Rd Res :=
  match o.op with
  | .load _ _ | .index _ _ _ => (opA P G o fresh).bind fun r => .test (etaP P o.type r.val).2 (.ret { r with val := (etaP P o.type r.val).1 })
  | _ => opA P G o fresh

/-- What is called, and with what, where the operation is a call of a function value. -/
def callee (o : Oper) : Option (Rd (FuncId × List AV)) :=
  match o.op with
  | .call c =>
    (match c.callee with
    | .value f => some do
      let (f, _) ← ev f
      let args ← evs c.args.toList
      match f with
      | .fn (.func g) first cap => .ret (g, first ++ args ++ cap)
      | _ => .fail
    | _ => none)
  | _ => none

/-! ### a state made plain -/
def fMany {α R : Type} (f : α → (α → Option R) → Option R) : List α → (List α → Option R) → Option R
  | [], K => K []
  | x :: xs, K => f x fun x => fMany f xs fun xs => K (x :: xs)
def fAV {R : Type} : Nat → AV → (AV → Option R) → Option R
  | 0, v, K => K v
  | n + 1, v, K =>
    match v with
    | .int k n => K (.int k n)
    | .u8 b => K (.u8 b)
    | .bool b => K (.bool b)
    | .str s => K (.str s)
    | .raw v => K (.raw v)
    | .agg cs => fMany (fAV n) cs fun cs => K (.agg cs)
    | .tup cs => fMany (fAV n) cs fun cs => K (.tup cs)
    | .view sz xs => K (.view sz xs)
    | .part sz xs ys => K (.part sz xs ys)
    | .ptr id off => K (.ptr id off)
    | .cptr cs off => K (.cptr cs off)
    | .fn f a c => fMany (fAV n) a fun a => fMany (fAV n) c fun c => K (.fn f a c)
    | .iface t x => fAV n x fun x => K (.iface t x)
    | .top => K .top
def fLab {R : Type} : Option Nat → (Option Nat → Option R) → Option R
  | none, K => K none
  | some l, K => K (some l)
def fPair {R : Type} : AV × Option Nat → (AV × Option Nat → Option R) → Option R
  | (v, l), K => fAV 20 v fun v => fLab l fun l => K (v, l)
def fFlag {R : Type} (b : Bool) (K : Bool → Option R) : Option R := match b with | true => K true | false => K false
def fEnt {R : Type} : Ent → (Ent → Option R) → Option R
  | .none, K => K .none
  | .av v l, K => fAV 20 v fun v => fLab l fun l => K (.av v l)
  | .obj cs, K => fMany fPair cs fun cs => K (.obj cs)
  | .bld bs, K => K (.bld bs)
  | .flag b, K => fFlag b fun b => K (.flag b)
  | .num n, K => K (.num n)
def fKey {R : Type} : Key → (Key → Option R) → Option R
  | .t n, K => K (.t n)
  | .o n, K => K (.o n)
  | .l n, K => K (.l n)
  | .y n, K => K (.y n)
  | .x, K => K .x
def fBoth {R : Type} : Key × Ent → (Key × Ent → Option R) → Option R
  | (k, e), K => fKey k fun k => fEnt e fun e => K (k, e)
/-- The state as it is, made plain first. -/
def forceS {R : Type} (S : St) (K : St → Option R) : Option R := fMany fBoth S K
theorem fMany_eq {α R : Type} {f : α → (α → Option R) → Option R} (hf : ∀ x K, f x K = K x) : ∀ (l : List α) (K : List α → Option R), fMany f l K = K l
  | [], _ => rfl
  | x :: xs, K => by simp only [fMany]; rw [hf, fMany_eq hf xs]
theorem fAV_eq {R : Type} : ∀ (n : Nat) (v : AV) (K : AV → Option R), fAV n v K = K v
  | 0, _, _ => rfl
  | n + 1, v, K => by
    have ih := fAV_eq (R := R) n
    cases v <;> simp only [fAV] <;> (try rw [fMany_eq ih]) <;> (try rw [fMany_eq ih]) <;> (try rw [ih])
theorem fPair_eq {R : Type} (p : AV × Option Nat) (K : AV × Option Nat → Option R) : fPair p K = K p := by
  obtain ⟨v, l⟩ := p
  simp only [fPair]
  rw [fAV_eq]
  cases l <;> rfl
theorem fEnt_eq {R : Type} (e : Ent) (K : Ent → Option R) : fEnt e K = K e := by
  cases e with
  | none => rfl
  | av v l => simp only [fEnt]; rw [fAV_eq]; cases l <;> rfl
  | obj cs => simp only [fEnt]; rw [fMany_eq fPair_eq]
  | bld bs => rfl
  | flag b => cases b <;> rfl
  | num n => rfl
theorem fBoth_eq {R : Type} (p : Key × Ent) (K : Key × Ent → Option R) : fBoth p K = K p := by
  obtain ⟨k, e⟩ := p
  simp only [fBoth]
  cases k <;> simp only [fKey] <;> rw [fEnt_eq]
theorem forceS_eq {R : Type} (S : St) (K : St → Option R) : forceS S K = K S := fMany_eq fBoth_eq S K

/-! ### regions -/
/-- What one operation read and wrote; 'all': besides, all that is no temporary. -/
structure Foot where
  i : Nat
  all : Bool
  rd : List Key
  wr : List Key

/-- The numbers of the operations that stand surely ahead of each. -/
def ancs (ops : List Oper) : List (List Nat) :=
  ops.foldl (fun acc o => acc ++ [o.after.toList.foldl (fun s e => bif Region.binds .any e then e.on :: (acc.getD e.on [] ++ s) else s) []]) []

def isT : Key → Bool
  | .t _ => true
  | _ => false
def meets (a b : List Key) : Bool := a.any fun p => b.any fun q => p.same q
def clash (f g : Foot) : Bool :=
  meets f.wr g.rd || meets f.wr g.wr || meets f.rd g.wr || (f.all && !g.wr.all isT) || (f.all && !g.rd.all isT) || (g.all && !f.wr.all isT) || (g.all && !f.rd.all isT) || (f.all && g.all)
/-- Each two operations that may come in either order leave each other alone (the last one first). -/
def apartAll (an : List (List Nat)) : List Foot → Bool
  | [] => true
  | f :: rest => rest.all (fun g => (an.getD f.i []).any (Nat.beq g.i) || !clash f g) && apartAll an rest

def nonT (S : St) : St := S.filter fun e => !isT e.1
def onlyT (S : St) : St := S.filter fun e => isT e.1

/-- How a call ends: an answer, or what it panics with. -/
inductive Oc where
  | ret (v : AV) | pan (v : AV)
def Oc.val : Oc → AV
  | .ret v => v
  | .pan v => v
/-- What the operation panics with, where it is the program's own 'panic'. -/
def panicA (o : Oper) : Option (Rd AV) :=
  match o.op with
  | .call c =>
    (match c.callee, c.args.toList with
    | .builtin .panic, [x] => some do
      let (v, _) ← ev x
      match v with
      | .iface _ _ => .ret v
      | _ => .fail
    | _, _ => none)
  | _ => none

section
variable {R : Type} (cf : FuncId → List AV → (AV → Option R) → Option R) (ci : FuncId → List AV → St → (Oc → St → Option R) → Option R) (inl : FuncId → Option Bool)
def noCf : FuncId → List AV → Option AV := fun _ _ => none
def putA (o : Oper) (r : Res) (S : St) : St :=
  match o.dst with
  | some d => (.t d, (fun p : AV × Option Nat => Ent.av p.1 p.2) (norm P o.type r.val r.lab)) :: (nonT r.ws ++ S)
  | none => nonT r.ws ++ S
def wroteA (o : Oper) (ks : List Key) : List Key :=
  match o.dst with
  | some d => .t d :: ks
  | none => ks

/-- Is the call one of the callee's own, sharing no block? -/
def ownCall (inl : FuncId → Option Bool) (f : FuncId) (args : List AV) : Bool := match inl f with | some b => !b | none => pureAV.pures args
/-- One operation that is wanted. What the rest is told first: what the operation panics with, if it does. -/
def doA (G : Globs) (o : Oper) (i fresh : Nat) (S : St) (rs : List Key) (K : Option AV → St → Foot → Option R) : Option R :=
  match callee o with
  | some r => r.go noCf S rs fun p rs =>
      bif ownCall inl p.1 p.2 then cf p.1 (weakA.all p.2) fun v => K none (putA P o { val := v } S) ⟨i, false, rs, wroteA o []⟩
      else ci p.1 p.2 (nonT S) fun c S' =>
        match c with
        | .ret v => K none (putA P o { val := v } (S' ++ onlyT S)) ⟨i, true, rs, wroteA o []⟩
        | .pan v => K (some v) (S' ++ onlyT S) ⟨i, true, rs, []⟩
  | none =>
    match panicA o with
    | some r => r.go noCf S rs fun v rs => K (some v) S ⟨i, false, rs, []⟩
    | none => (opE P G o fresh).go noCf S rs fun r rs => K none (putA P o r S) ⟨i, false, rs, wroteA o ((nonT r.ws).map (·.1))⟩
def skipA (o : Oper) (i : Nat) (S : St) (rs : List Key) (K : Option AV → St → Foot → Option R) : Option R :=
  K none (match o.dst with | some d => (.t d, .av (.tup []) none) :: S | none => S) ⟨i, false, rs, wroteA o []⟩
/-- One operation, its guard asked first. -/
def stepA (G : Globs) (all : List Oper) (o : Oper) (i fresh : Nat) (S : St) (K : Option AV → St → Foot → Option R) : Option R :=
  match o.guard with
  | none => doA P cf ci inl G o i fresh S [] K
  | some (g, want) =>
    match (all[g]?).bind (·.dst) with
    | none => none
    | some t =>
      match S.at (.t t) with
      | .av (.bool c) l =>
        bif c then (bif want then doA P cf ci inl G o i fresh ((.t t, .av (.bool true) l) :: S) [.t t] K else skipA o i ((.t t, .av (.bool true) l) :: S) [.t t] K)
        else (bif want then skipA o i ((.t t, .av (.bool false) l) :: S) [.t t] K else doA P cf ci inl G o i fresh ((.t t, .av (.bool false) l) :: S) [.t t] K)
      | .av (.tup []) _ => skipA o i S [.t t] K
      | _ => none
/-- The operations in the text's order; the feet are gathered, the last one ahead. -/
def opsA (G : Globs) (all : List Oper) (base : Nat) : List Oper → Nat → St → List Foot → (Option AV → St → List Foot → Option R) → Option R
  | [], _, S, fs, K => K none S fs
  | o :: rest, i, S, fs, K => stepA P cf ci inl G all o i (base + i) S fun p S f =>
    match p with
    | none => opsA G all base rest (i + 1) S (f :: fs) K
    | some v => K (some v) S (f :: fs)

def nxOf (S : St) : Option Nat := match S.at .x with | .num n => some n | _ => none

/-- The last operation done panicked, in a region that may take its operations in any order: what is not surely ahead has written temporaries alone, and all the rest stands surely behind. -/
def panOK (an : List (List Nat)) (n : Nat) : List Foot → Bool
  | [] => false
  | f :: rest => rest.all (fun g => (an.getD f.i []).any (Nat.beq g.i) || (!g.all && g.wr.all isT)) && (an.drop (f.i + 1)).all (fun l => l.any (Nat.beq f.i)) && Nat.beq an.length n && Nat.blt f.i n

inductive Ex where
  | normal | exit (id : Nat) | ret | pan (v : AV)

def regionA (G : Globs) (ops : List Oper) (draw : Bool) (S : St) (K : Ex → St → Option R) : Option R :=
  match nxOf S with
  | none => none
  | some base => opsA P cf ci inl G ops base ops 0 ((.x, .num (base + ops.length)) :: S) [] fun p S fs =>
    match p with
    | none => bif !draw || apartAll (ancs ops) fs then K .normal S else none
    | some v => bif !draw || (apartAll (ancs ops) fs && panOK (ancs ops) ops.length fs) then K (.pan v) (nonT S) else none
end

/-! ### code -/
def objIds : St → List Nat → List Nat
  | [], acc => acc
  | (.o id, _) :: S, acc => objIds S (bif acc.any (Nat.beq id) then acc else id :: acc)
  | _ :: S, acc => objIds S acc
def labIds (fl : Nat) : St → List Nat → List Nat
  | [], acc => acc
  | (.l id, _) :: S, acc => labIds fl S (bif Nat.ble fl id || acc.any (Nat.beq id) then acc else id :: acc)
  | _ :: S, acc => labIds fl S acc

/-- Does a value lean on blocks that are kept alone? -/
def refsIn (keep : List Nat) : AV → Bool
  | .ptr id _ => keep.any (Nat.beq id)
  | .agg cs => all cs
  | .tup cs => all cs
  | .fn _ a c => all a && all c
  | .iface _ x => refsIn keep x
  | _ => true
  where all : List AV → Bool
  | [] => true
  | c :: cs => refsIn keep c && all cs

def liveL (S : St) (l : Nat) : Bool := match S.at (.l l) with | .flag true => true | _ => false
/-- The slots of a state in its one form: the temporaries that are named, the cells of the blocks that are kept. -/
def slotT (S : St) (t : Nat) : AV × Option Nat := match S.at (.t t) with | .av v lab => (v, lab) | _ => (.top, none)
def cellsO (S : St) (id : Nat) : List (AV × Option Nat) := match S.at (.o id) with | .obj cs => cs | _ => []
def slotsO (S : St) : List Nat → List (AV × Option Nat)
  | [] => []
  | id :: ids => cellsO S id ++ slotsO S ids
def slotsA (S : St) (hint keep : List Nat) : List (AV × Option Nat) := hint.map (slotT S) ++ slotsO S keep
def hasLab (l : Nat) : Option Nat → Bool
  | some m => Nat.beq m l
  | none => false
def firstIdx (l : Nat) : List (AV × Option Nat) → Nat → Option Nat
  | [], _ => none
  | p :: s, i => bif hasLab l p.2 then some i else firstIdx l s (i + 1)
/-- A slot's new label: the number of the first slot that bears the old one. -/
def newLab (S : St) (slots : List (AV × Option Nat)) (n0 i : Nat) : Option Nat → Option Nat
  | none => none
  | some 0 => some (n0 + i)
  | some (l + 1) => bif liveL S (l + 1) then (firstIdx (l + 1) slots 0).map (n0 + ·) else none
/-- A slot laid anew: what leans on dropped blocks is told no more. -/
def slotN (S : St) (slots : List (AV × Option Nat)) (keep : List Nat) (n0 i : Nat) (p : AV × Option Nat) : AV × Option Nat := (bif refsIn keep p.1 then p.1 else .top, newLab S slots n0 i p.2)
def slotsN (S : St) (slots : List (AV × Option Nat)) (keep : List Nat) (n0 : Nat) : List (AV × Option Nat) → Nat → List (AV × Option Nat)
  | [], _ => []
  | p :: ps, i => slotN S slots keep n0 i p :: slotsN S slots keep n0 ps (i + 1)
def canT (S : St) (slots : List (AV × Option Nat)) (keep : List Nat) (n0 : Nat) : List Nat → Nat → St
  | [], _ => []
  | t :: ts, i => (.t t, (fun p : AV × Option Nat => Ent.av p.1 p.2) (slotN S slots keep n0 i (slotT S t))) :: canT S slots keep n0 ts (i + 1)
def canO (S : St) (slots : List (AV × Option Nat)) (keep : List Nat) (n0 : Nat) : List Nat → Nat → St
  | [], _ => []
  | id :: ids, i =>
    match S.at (.o id) with
    | .obj cs => (.o id, .obj (slotsN S slots keep n0 cs i)) :: canO S slots keep n0 ids (i + cs.length)
    | .bld bs => (.o id, .bld bs) :: canO S slots keep n0 ids i
    | _ => canO S slots keep n0 ids i
def canF (S : St) (slots : List (AV × Option Nat)) (n0 : Nat) : List (AV × Option Nat) → Nat → St
  | [], _ => []
  | p :: ps, i => (.l (n0 + i), .flag (hasLab (n0 + i) (newLab S slots n0 i p.2))) :: canF S slots n0 ps (i + 1)
def canL (S : St) (slots : List (AV × Option Nat)) : List Nat → St
  | [] => []
  | l :: ls => (.l l, .flag (liveL S l && !slots.any fun p => hasLab l p.2)) :: canL S slots ls
/-- What types the blocks have that are kept. -/
def canY (S : St) : List Nat → St
  | [] => []
  | id :: ids => (.y id, S.at (.y id)) :: canY S ids
/-- The state in its one form at a loop's head; labels numbered from n0 on; the labels below the floor are the callers'. -/
def canA (hint keep : List Nat) (n0 fl : Nat) (S : St) : St :=
  let slots := slotsA S hint keep
  (.x, .num (n0 + slots.length)) :: (canT S slots keep n0 hint 0 ++ (canO S slots keep n0 keep hint.length ++ (canF S slots n0 slots 0 ++ (canL S slots (labIds fl S []) ++ canY S keep))))

section
variable {R : Type} (cf : FuncId → List AV → (AV → Option R) → Option R) (ci : FuncId → List AV → St → (Oc → St → Option R) → Option R) (inl : FuncId → Option Bool)
/-- Rounds of a loop, each begun in the one form. -/
def iterA (body : St → (Ex → St → Option R) → Option R) (can : St → St) : Nat → St → (Ex → St → Option R) → Option R
  | 0, _, _ => none
  | n + 1, S, K => body S fun e S => match e with | .normal => iterA body can n (can S) K | e => K e S

theorem iter_there {R : Type} : ∃ f : (St → (Ex → St → Option R) → Option R) → (St → St) → Nat → St → (Ex → St → Option R) → Option R, f = iterA := ⟨_, rfl⟩
/-- The same, not to be opened by the kernel. -/
noncomputable def iterO : (St → (Ex → St → Option R) → Option R) → (St → St) → Nat → St → (Ex → St → Option R) → Option R := Classical.choose iter_there
theorem iterO_eq : (iterO : (St → (Ex → St → Option R) → Option R) → (St → St) → Nat → St → (Ex → St → Option R) → Option R) = iterA := Classical.choose_spec iter_there
/-- One round opened. -/
noncomputable def roundA (body : St → (Ex → St → Option R) → Option R) (can : St → St) (m : Nat) (S : St) (K : Ex → St → Option R) : Option R :=
  match m with
  | 0 => none
  | n + 1 => body S fun e S => match e with | .normal => iterO body can n (can S) K | e => K e S
theorem roundA_eq : (iterO : (St → (Ex → St → Option R) → Option R) → (St → St) → Nat → St → (Ex → St → Option R) → Option R) = roundA := by
  funext body can m S K
  cases m with
  | zero => rw [iterO_eq]; rfl
  | succ n => simp only [roundA, iterO_eq]; rfl
noncomputable def execA (G : Globs) (hint : Nat → List Nat) (fl n : Nat) : Code → St → (Ex → St → Option R) → Option R
  | .skip, S, K => K .normal S
  | .region _ ops draw, S, K => regionA P cf ci inl G ops.toList draw S K
  | .seq a b, S, K => execA G hint fl n a S fun e S => match e with | .normal => execA G hint fl n b S K | e => K e S
  | .cond c x y, S, K =>
    match c with
    | .tmp t => (match S.at (.t t) with
      | .av (.bool b) l => bif b then execA G hint fl n x ((.t t, .av (.bool true) l) :: S) K else execA G hint fl n y ((.t t, .av (.bool false) l) :: S) K
      | _ => none)
    | .const (.bool b) => bif b then execA G hint fl n x S K else execA G hint fl n y S K
    | _ => none
  | .block id c, S, K =>
    let K' : Ex → St → Option R := fun e S => match e with | .exit j => bif Nat.beq j id then K .normal S else K e S | e => K e S
    match c with
    | .loop c => (match nxOf S with
      | some n0 => bif Nat.ble 1 fl && Nat.ble fl n0 then (let can := canA (hint id) (objIds S []) n0 fl; iterO (fun S K => execA G hint fl n c S K) can n (can S) K') else none
      | none => none)
    | c => execA G hint fl n c S K'
  | .exit id, S, K => K (.exit id) S
  | .ret, S, K => K .ret S
  | .label _, S, K => K .normal S
  | .scope c, S, K => execA G hint fl n c S K
  | _, _, _ => none
end

/-! ### calls -/
def manyO (f : AV → Option AV) : List AV → Option (List AV)
  | [] => some []
  | c :: cs => (f c).bind fun c => (manyO f cs).map fun cs => c :: cs
/-- A value behind which the caller's blocks are let go: what it leans on is told by what it holds. -/
def freezeA (S : St) : Nat → AV → Option AV
  | 0, _ => none
  | n + 1, v =>
    match v with
    | .agg cs => (manyO (freezeA S n) cs).map .agg
    | .tup cs => (manyO (freezeA S n) cs).map .tup
    | .fn f a c => (manyO (freezeA S n) a).bind fun a => (manyO (freezeA S n) c).map fun c => .fn f a c
    | .iface t x => (freezeA S n x).map (.iface t)
    | .ptr id off => (match S.at (.o id) with
      | .obj cs => (manyO (freezeA S n) (cs.map (·.1))).map fun cs => .cptr cs off
      | _ => none)
    | v => some v

def argsA : Nat → List AV → St
  | _, [] => []
  | i, v :: vs => (.t i, .av v none) :: argsA (i + 1) vs

def resA (G : Globs) : List ResultVar → List TypeId → Rd (List AV)
  | [], _ => .ret []
  | r :: rs, tys => do
    let v ← (match r with
      | .tmp t => (do let (v, _) ← ev (.tmp t); pure v)
      | .cell a t => (do let (a, _) ← ev (.tmp a); let (v, _) ← loadA P G t a; pure v))
    let vs ← resA G rs tys.tail
    pure ((norm P (tys.headD 0) v none).1 :: vs)
def tupA : List AV → AV
  | [v] => v
  | vs => .tup vs

/-- All labels lie below the floor. -/
def labsBelow (fl : Nat) : St → Bool
  | [] => true
  | (.l n, _) :: S => Nat.blt n fl && labsBelow fl S
  | _ :: S => labsBelow fl S
/-- Does each operation wait for earlier ones alone? -/
def edgesBack : Nat → List Oper → Bool
  | _, [] => true
  | i, o :: l => o.after.toList.all (fun e => !Region.binds .any e || Nat.blt e.on i) && edgesBack (i + 1) l
/-- Is each temporary that the code writes one of the frame's, and does each operation wait for earlier ones alone? -/
def dstsOK (n : Nat) : Code → Bool
  | .region _ ops _ => (ops.toList.all fun o => match o.dst with | some d => Nat.blt d n | none => true) && edgesBack 0 ops.toList
  | .seq a b => dstsOK n a && dstsOK n b
  | .cond _ a b => dstsOK n a && dstsOK n b
  | .block _ a => dstsOK n a
  | .loop a => dstsOK n a
  | .scope a => dstsOK n a
  | _ => true
/-- What a row answers: nothing; an answer; an answer under a condition; one of two. -/
inductive Ans (α : Type) where
  | no
  | one (a : α)
  | when (c : Bool) (x : Ans α)
  | br (c : Bool) (x y : Ans α)
def Ans.val {α : Type} : Ans α → Option α
  | .no => none
  | .one a => some a
  | .when c x => bif c then x.val else none
  | .br c x y => bif c then x.val else y.val
def Ans.map {α β : Type} (f : α → β) : Ans α → Ans β
  | .no => .no
  | .one a => .one (f a)
  | .when c x => .when c (x.map f)
  | .br c x y => .br c (x.map f) (y.map f)
/-- A row's answer, handed on. -/
def askT {α R : Type} : Ans α → (α → Option R) → Option R
  | .no, _ => none
  | .one a, K => K a
  | .when c x, K => bif c then askT x K else none
  | .br c x y, K => bif c then askT x K else askT y K
structure Cx where
  G : Globs
  table : FuncId → Option (List AV → Ans AV)
  hints : FuncId → Nat → List Nat
  /-- Rows of calls that share their caller's blocks. -/
  rows : FuncId → Option (List AV → St → Ans (Oc × St)) := fun _ => none
  /-- Rows of functions that touch no block: what they are given may point into their caller's blocks. -/
  pj : FuncId → Option (List AV → Ans AV) := fun _ => none
  /-- Functions whose calls share their caller's blocks whatever they are given (true), or touch none (false). -/
  inl : FuncId → Option Bool := fun _ => none

/-- The answer of a call, let go of. -/
def letGo (c : Oc) (S : St) : Option AV :=
  match c with
  | .ret v => freezeA S 9 v
  | .pan _ => none
/-- A call that shares its caller's blocks; the labels below the floor are the callers'. -/
noncomputable def runI (X : Cx) : Nat → (R : Type) → FuncId → List AV → St → (Oc → St → Option R) → Option R
  | 0, _, _, _, _, _ => none
  | n + 1, R, f, args, S, K =>
    match P.funcs[f]? with
    | none => none
    | some fn =>
      match fn.body, nxOf S with
      | some c, some fl =>
        bif labsBelow fl S && Nat.ble 1 fl then execA P (R := R) (fun f args K => bif pureAV.pures args then (match X.table f with | some g => askT (g args) K | none => (runI X n AV f args [(.x, .num 1)] letGo).bind K) else (match X.pj f with | some g => askT (g args) K | none => none))
          (fun f args S K => match X.rows f with | some g => askT (g args S) fun p => K p.1 p.2 | none => runI X n R f args S K) X.inl X.G (X.hints f) fl n c (argsA 0 args ++ S) fun e S =>
            match e with
            | .exit _ => none
            | .pan v => K (.pan v) (nonT S)
            | _ => (resA P X.G fn.results.toList fn.resultTypes.toList).go (fun _ _ => none) S [] fun vs _ => K (.ret (tupA vs)) (nonT S)
        else none
      | _, _ => none
/-- A function's own body, run: whatever the table says of it. -/
noncomputable def runB (X : Cx) (n : Nat) (f : FuncId) (args : List AV) : Option AV := runI P X n AV f args [(.x, .num 1)] letGo
/-- A call of plain arguments: a plain answer. -/
noncomputable def runA (X : Cx) (n : Nat) (f : FuncId) (args : List AV) : Option AV :=
  match X.table f with
  | some g => askT (g args) some
  | none => runI P X n AV f args [(.x, .num 1)] letGo
end
end Go.Proofs.YtgeheffhdpeddaaDoor.VX

/- WHAT A PLAIN VALUE SAYS OF A VALUE IN A WORLD: the relation of the executor's values and the machine's, and that it stays while the cells it leans on stay. Conditions: as each theorem states. -/
namespace Go.Proofs.YtgeheffhdpeddaaDoor.VX
open Go Go.RowKit

abbrev Cells := Nat → Nat → Prop
abbrev Inj := Nat → Option Nat
def nop : Inj := fun _ => none

mutual
/-- 'st': the cells that nobody writes any more; 'ι': where the call's own blocks lie. -/
def VRel (st : Cells) (w : World) (ι : Inj) : AV → Value → Prop
  | .int k n, u => u = .int k n
  | .u8 b, u => u = .int .u8 b.toNat
  | .bool b, u => u = .bool b
  | .str s, u => u = .string ⟨s.toArray⟩
  | .raw v, u => u = v
  | .agg cs, u => ∃ us, u = .agg us ∧ (∀ v ∈ us.toList, v.oneCell' = true) ∧ VRels st w ι cs us.toList
  | .tup cs, u => ∃ us, u = .tuple us ∧ VRels st w ι cs us.toList
  | .view sz xs, u => ∃ a cap, u = .slice a xs.length cap ∧ xs.length ≤ cap ∧ (match a with | none => xs = [] | some ad => (cap = 0 ∨ ad.spot = none) ∧ EsRel st w sz xs ad.block ad.off)
  | .part sz xs ys, u => ∃ a cap, u = .slice a xs.length cap ∧ xs.length + ys.length ≤ cap ∧ (match a with | none => xs = [] ∧ ys = [] | some ad => (cap = 0 ∨ ad.spot = none) ∧ EsRel st w sz xs ad.block ad.off ∧ EsRel st w sz ys ad.block (ad.off + xs.length * sz))
  | .ptr id off, u => ∃ b, (ι id = some b ∧ id < HID) ∧ u = .pointer (some ⟨b, off, none⟩)
  | .cptr cs off, u => ∃ b o, u = .pointer (some ⟨b, o + off, none⟩) ∧ CsRel st w cs b o
  | .fn f l c, u => ∃ l' c', u = .func f l' c' ∧ VRels st w ι l l'.toList ∧ VRels st w ι c c'.toList
  | .iface t x, u => ∃ v, u = .iface t v ∧ VRel st w ι x v
  | .top, _ => True
def VRels (st : Cells) (w : World) (ι : Inj) : List AV → List Value → Prop
  | [], us => us = []
  | c :: cs, us => ∃ v vs, us = v :: vs ∧ VRel st w ι c v ∧ VRels st w ι cs vs
/-- Cells that stay, from a place on. -/
def CsRel (st : Cells) (w : World) : List AV → Nat → Nat → Prop
  | [], _, _ => True
  | c :: cs, b, o => (∃ v, st b o ∧ w.cell? ⟨b, o, none⟩ = some v ∧ v.oneCell' = true ∧ VRel st w nop c v) ∧ CsRel st w cs b (o + 1)
/-- Elements that stay, each of 'sz' cells. -/
def EsRel (st : Cells) (w : World) (sz : Nat) : List AV → Nat → Nat → Prop
  | [], _, _ => True
  | .agg cs :: xs, b, o => (cs.length = sz ∧ CsRel st w cs b o) ∧ EsRel st w sz xs b (o + sz)
  | x :: xs, b, o => (x.cells = some [x] ∧ sz = 1 ∧ ∃ v, st b o ∧ w.cell? ⟨b, o, none⟩ = some v ∧ v.oneCell' = true ∧ VRel st w nop x v) ∧ EsRel st w sz xs b (o + sz)
end

/-- The cells that stay are as they were, and more may stay. -/
structure Stays (st : Cells) (w : World) (st' : Cells) (w' : World) : Prop where
  sub : ∀ b o, st b o → st' b o
  cell : ∀ b o, st b o → w'.cell? ⟨b, o, none⟩ = w.cell? ⟨b, o, none⟩
theorem Stays.refl (st : Cells) (w : World) : Stays st w st w := ⟨fun _ _ h => h, fun _ _ _ => rfl⟩
theorem Stays.trans {st st' st'' : Cells} {w w' w'' : World} (h : Stays st w st' w') (k : Stays st' w' st'' w'') : Stays st w st'' w'' :=
  ⟨fun b o x => k.sub b o (h.sub b o x), fun b o x => (k.cell b o (h.sub b o x)).trans (h.cell b o x)⟩
def ιLe (ι ι' : Inj) : Prop := ∀ id b, id < HID → ι id = some b → ι' id = some b
theorem ιLe.refl (ι : Inj) : ιLe ι ι := fun _ _ _ h => h
theorem nop_le (ι : Inj) : ιLe nop ι := fun _ _ _ h => by cases h

/-- As 'Stays', asked of cells that are there alone. -/
structure StaysW (st : Cells) (w : World) (st' : Cells) (w' : World) : Prop where
  sub : ∀ b o, st b o → st' b o
  cell : ∀ b o v, st b o → w.cell? ⟨b, o, none⟩ = some v → v.oneCell' = true → w'.cell? ⟨b, o, none⟩ = some v
theorem Stays.w {st st' : Cells} {w w' : World} (h : Stays st w st' w') : StaysW st w st' w' := ⟨h.sub, fun b o _ x e _ => (h.cell b o x).trans e⟩
mutual
theorem VRel.monoW {st st' : Cells} {w w' : World} {ι ι' : Inj} (hs : StaysW st w st' w') (hι : ιLe ι ι') : ∀ (v : AV) (u : Value), VRel st w ι v u → VRel st' w' ι' v u
  | .int _ _, _, h => h
  | .u8 _, _, h => h
  | .bool _, _, h => h
  | .str _, _, h => h
  | .raw _, _, h => h
  | .top, _, _ => trivial
  | .agg cs, _, h => by
    obtain ⟨us, e, o, h⟩ := h
    exact ⟨us, e, o, VRels.monoW hs hι cs _ h⟩
  | .tup cs, _, h => by
    obtain ⟨us, e, h⟩ := h
    exact ⟨us, e, VRels.monoW hs hι cs _ h⟩
  | .view sz xs, _, h => by
    obtain ⟨a, cap, e, hc, h⟩ := h
    refine ⟨a, cap, e, hc, ?_⟩
    cases a with
    | none => exact h
    | some ad => exact ⟨h.1, EsRel.monoW hs xs _ _ h.2⟩
  | .part sz xs ys, _, h => by
    obtain ⟨a, cap, e, hc, h⟩ := h
    refine ⟨a, cap, e, hc, ?_⟩
    cases a with
    | none => exact h
    | some ad => exact ⟨h.1, EsRel.monoW hs xs _ _ h.2.1, EsRel.monoW hs ys _ _ h.2.2⟩
  | .ptr _ _, _, h => by
    obtain ⟨b, hb, e⟩ := h
    exact ⟨b, ⟨hι _ _ hb.2 hb.1, hb.2⟩, e⟩
  | .cptr cs _, _, h => by
    obtain ⟨b, o, e, h⟩ := h
    exact ⟨b, o, e, CsRel.monoW hs cs _ _ h⟩
  | .fn _ l c, _, h => by
    obtain ⟨l', c', e, h1, h2⟩ := h
    exact ⟨l', c', e, VRels.monoW hs hι l _ h1, VRels.monoW hs hι c _ h2⟩
  | .iface _ x, _, h => by
    obtain ⟨v, e, h⟩ := h
    exact ⟨v, e, VRel.monoW hs hι x _ h⟩
theorem VRels.monoW {st st' : Cells} {w w' : World} {ι ι' : Inj} (hs : StaysW st w st' w') (hι : ιLe ι ι') : ∀ (cs : List AV) (us : List Value), VRels st w ι cs us → VRels st' w' ι' cs us
  | [], _, h => h
  | c :: cs, _, h => by
    obtain ⟨v, vs, e, h1, h2⟩ := h
    exact ⟨v, vs, e, VRel.monoW hs hι c _ h1, VRels.monoW hs hι cs _ h2⟩
theorem CsRel.monoW {st st' : Cells} {w w' : World} (hs : StaysW st w st' w') : ∀ (cs : List AV) (b o : Nat), CsRel st w cs b o → CsRel st' w' cs b o
  | [], _, _, _ => trivial
  | c :: cs, b, o, h => by
    obtain ⟨⟨v, h1, h2, h5, h3⟩, h4⟩ := h
    exact ⟨⟨v, hs.sub _ _ h1, hs.cell _ _ _ h1 h2 h5, h5, VRel.monoW hs (ιLe.refl nop) c _ h3⟩, CsRel.monoW hs cs _ _ h4⟩
theorem EsRel.monoW {st st' : Cells} {w w' : World} (hs : StaysW st w st' w') {sz : Nat} : ∀ (xs : List AV) (b o : Nat), EsRel st w sz xs b o → EsRel st' w' sz xs b o
  | [], _, _, _ => trivial
  | x :: xs, b, o, h => by
    cases x with
    | agg cs => exact ⟨⟨h.1.1, CsRel.monoW hs cs _ _ h.1.2⟩, EsRel.monoW hs xs _ _ h.2⟩
    | _ =>
      obtain ⟨⟨h0, h1, v, h2, h3, h6, h4⟩, h5⟩ := h
      exact ⟨⟨h0, h1, v, hs.sub _ _ h2, hs.cell _ _ _ h2 h3 h6, h6, VRel.monoW hs (ιLe.refl nop) _ _ h4⟩, EsRel.monoW hs xs _ _ h5⟩
end

theorem VRel.mono {st st' : Cells} {w w' : World} {ι ι' : Inj} (hs : Stays st w st' w') (hι : ιLe ι ι') (v : AV) (u : Value) (h : VRel st w ι v u) : VRel st' w' ι' v u := VRel.monoW hs.w hι v u h
theorem VRels.mono {st st' : Cells} {w w' : World} {ι ι' : Inj} (hs : Stays st w st' w') (hι : ιLe ι ι') (cs : List AV) (us : List Value) (h : VRels st w ι cs us) : VRels st' w' ι' cs us := VRels.monoW hs.w hι cs us h
theorem CsRel.mono {st st' : Cells} {w w' : World} (hs : Stays st w st' w') (cs : List AV) (b o : Nat) (h : CsRel st w cs b o) : CsRel st' w' cs b o := CsRel.monoW hs.w cs b o h
theorem EsRel.mono {st st' : Cells} {w w' : World} (hs : Stays st w st' w') {sz : Nat} (xs : List AV) (b o : Nat) (h : EsRel st w sz xs b o) : EsRel st' w' sz xs b o := EsRel.monoW hs.w xs b o h

/-! plain values lean on no block of the call's own -/
mutual
theorem VRel.pure {st : Cells} {w : World} {ι ι' : Inj} : ∀ (v : AV) (u : Value), pureAV v = true → VRel st w ι v u → VRel st w ι' v u
  | .int _ _, _, _, h => h
  | .u8 _, _, _, h => h
  | .bool _, _, _, h => h
  | .str _, _, _, h => h
  | .raw _, _, _, h => h
  | .top, _, _, _ => trivial
  | .view _ _, _, _, h => h
  | .part _ _ _, _, _, h => h
  | .cptr _ _, _, _, h => h
  | .ptr _ _, _, p, _ => by simp [pureAV] at p
  | .agg cs, _, p, h => by
    obtain ⟨us, e, o, h⟩ := h
    exact ⟨us, e, o, VRels.pure cs _ (by simpa [pureAV] using p) h⟩
  | .tup cs, _, p, h => by
    obtain ⟨us, e, h⟩ := h
    exact ⟨us, e, VRels.pure cs _ (by simpa [pureAV] using p) h⟩
  | .fn _ l c, _, p, h => by
    obtain ⟨l', c', e, h1, h2⟩ := h
    have p : pureAV.pures l = true ∧ pureAV.pures c = true := by simpa [pureAV] using p
    exact ⟨l', c', e, VRels.pure l _ p.1 h1, VRels.pure c _ p.2 h2⟩
  | .iface _ x, _, p, h => by
    obtain ⟨v, e, h⟩ := h
    exact ⟨v, e, VRel.pure x _ (by simpa [pureAV] using p) h⟩
theorem VRels.pure {st : Cells} {w : World} {ι ι' : Inj} : ∀ (cs : List AV) (us : List Value), pureAV.pures cs = true → VRels st w ι cs us → VRels st w ι' cs us
  | [], _, _, h => h
  | c :: cs, _, p, h => by
    obtain ⟨v, vs, e, h1, h2⟩ := h
    have p : pureAV c = true ∧ pureAV.pures cs = true := by simpa [pureAV.pures] using p
    exact ⟨v, vs, e, VRel.pure c _ p.1 h1, VRels.pure cs _ p.2 h2⟩
end

/-! the blocks that are kept -/
def keepι (keep : List Nat) (ι : Inj) : Inj := fun id => bif keep.any (Nat.beq id) || keep.any (fun i => Nat.beq id (hid i)) then ι id else none
theorem keepι_le (keep : List Nat) (ι : Inj) : ιLe (keepι keep ι) ι := fun id b _ h => by
  unfold keepι at h
  cases hk : (keep.any (Nat.beq id) || keep.any (fun i => Nat.beq id (hid i))) <;> simp_all
mutual
theorem VRel.keep {st : Cells} {w : World} {ι : Inj} {keep : List Nat} : ∀ (v : AV) (u : Value), refsIn keep v = true → VRel st w ι v u → VRel st w (keepι keep ι) v u
  | .int _ _, _, _, h => h
  | .u8 _, _, _, h => h
  | .bool _, _, _, h => h
  | .str _, _, _, h => h
  | .raw _, _, _, h => h
  | .top, _, _, _ => trivial
  | .view _ _, _, _, h => h
  | .part _ _ _, _, _, h => h
  | .cptr _ _, _, _, h => h
  | .ptr id _, _, p, h => by
    obtain ⟨b, hb, e⟩ := h
    have p : keep.any (Nat.beq id) = true := by simpa [refsIn] using p
    exact ⟨b, ⟨by unfold keepι; rw [p]; exact hb.1, hb.2⟩, e⟩
  | .agg cs, _, p, h => by
    obtain ⟨us, e, o, h⟩ := h
    exact ⟨us, e, o, VRels.keep cs _ (by simpa [refsIn] using p) h⟩
  | .tup cs, _, p, h => by
    obtain ⟨us, e, h⟩ := h
    exact ⟨us, e, VRels.keep cs _ (by simpa [refsIn] using p) h⟩
  | .fn _ l c, _, p, h => by
    obtain ⟨l', c', e, h1, h2⟩ := h
    have p : refsIn.all keep l = true ∧ refsIn.all keep c = true := by simpa [refsIn] using p
    exact ⟨l', c', e, VRels.keep l _ p.1 h1, VRels.keep c _ p.2 h2⟩
  | .iface _ x, _, p, h => by
    obtain ⟨v, e, h⟩ := h
    exact ⟨v, e, VRel.keep x _ (by simpa [refsIn] using p) h⟩
theorem VRels.keep {st : Cells} {w : World} {ι : Inj} {keep : List Nat} : ∀ (cs : List AV) (us : List Value), refsIn.all keep cs = true → VRels st w ι cs us → VRels st w (keepι keep ι) cs us
  | [], _, _, h => h
  | c :: cs, _, p, h => by
    obtain ⟨v, vs, e, h1, h2⟩ := h
    have p : refsIn keep c = true ∧ refsIn.all keep cs = true := by simpa [refsIn.all] using p
    exact ⟨v, vs, e, VRel.keep c _ p.1 h1, VRels.keep cs _ p.2 h2⟩
end

/-! lists of values, rows of cells -/
section
variable {st : Cells} {w : World} {ι : Inj}
theorem VRels.length : ∀ {cs : List AV} {us : List Value}, VRels st w ι cs us → us.length = cs.length
  | [], us, h => by rw [show us = [] from h]; rfl
  | c :: cs, _, h => by
    obtain ⟨v, vs, rfl, _, h⟩ := h
    simp [VRels.length h]
theorem VRels.get : ∀ {cs : List AV} {us : List Value}, VRels st w ι cs us → ∀ {i : Nat} {c : AV}, cs[i]? = some c → ∃ v, us[i]? = some v ∧ VRel st w ι c v
  | [], _, _, _, _, e => by simp at e
  | c :: cs, _, h, i, x, e => by
    obtain ⟨v, vs, rfl, h1, h2⟩ := h
    cases i with
    | zero => simp at e; subst e; exact ⟨v, rfl, h1⟩
    | succ i => simp at e; exact by simpa using h2.get e
theorem VRels.app : ∀ {cs : List AV} {us : List Value} {ds : List AV} {vs : List Value}, VRels st w ι cs us → VRels st w ι ds vs → VRels st w ι (cs ++ ds) (us ++ vs)
  | [], _, _, _, h, k => by rw [show _ = [] from h]; exact k
  | c :: cs, _, _, _, h, k => by
    obtain ⟨v, vs, rfl, h1, h2⟩ := h
    exact ⟨v, _, rfl, h1, h2.app k⟩
theorem VRels.take : ∀ {cs : List AV} {us : List Value} (n : Nat), VRels st w ι cs us → VRels st w ι (cs.take n) (us.take n)
  | [], _, n, h => by rw [show _ = [] from h]; simp [VRels]
  | c :: cs, _, 0, h => by simp [VRels]
  | c :: cs, _, n + 1, h => by
    obtain ⟨v, vs, rfl, h1, h2⟩ := h
    exact ⟨v, _, rfl, h1, h2.take n⟩
theorem VRels.drop : ∀ {cs : List AV} {us : List Value} (n : Nat), VRels st w ι cs us → VRels st w ι (cs.drop n) (us.drop n)
  | [], _, n, h => by rw [show _ = [] from h]; simp [VRels]
  | c :: cs, _, 0, h => h
  | c :: cs, _, n + 1, h => by
    obtain ⟨v, vs, rfl, h1, h2⟩ := h
    exact h2.drop n
theorem VRels.one {c : AV} {u : Value} (h : VRel st w ι c u) : VRels st w ι [c] [u] := ⟨u, [], rfl, h, rfl⟩
theorem CsRel.get : ∀ {cs : List AV} {b o : Nat}, CsRel st w cs b o → ∀ {i : Nat} {c : AV}, cs[i]? = some c → ∃ v, st b (o + i) ∧ w.cell? ⟨b, o + i, none⟩ = some v ∧ v.oneCell' = true ∧ VRel st w nop c v
  | [], _, _, _, _, _, e => by simp at e
  | c :: cs, b, o, h, i, x, e => by
    obtain ⟨⟨v, h1, h2, h5, h3⟩, h4⟩ := h
    cases i with
    | zero => simp at e; subst e; exact ⟨v, h1, h2, h5, h3⟩
    | succ i =>
      simp at e
      have := h4.get e
      rwa [Nat.add_right_comm, Nat.add_assoc] at this
theorem CsRel.app : ∀ {cs ds : List AV} {b o : Nat}, CsRel st w (cs ++ ds) b o ↔ CsRel st w cs b o ∧ CsRel st w ds b (o + cs.length)
  | [], ds, b, o => by simp [CsRel]
  | c :: cs, ds, b, o => by
    show (_ ∧ CsRel st w (cs ++ ds) b (o + 1)) ↔ _
    rw [CsRel.app, List.length_cons, show o + (cs.length + 1) = o + 1 + cs.length by omega]
    show _ ↔ (_ ∧ CsRel st w cs b (o + 1)) ∧ _
    rw [and_assoc]
theorem CsRel.drop {cs : List AV} {b o : Nat} (n : Nat) (h : CsRel st w cs b o) (hn : n ≤ cs.length) : CsRel st w (cs.drop n) b (o + n) := by
  have e := List.take_append_drop n cs
  rw [← e, CsRel.app, List.length_take, Nat.min_eq_left hn] at h
  exact h.2
theorem CsRel.take {cs : List AV} {b o : Nat} (n : Nat) (h : CsRel st w cs b o) : CsRel st w (cs.take n) b o := by
  have e := List.take_append_drop n cs
  rw [← e, CsRel.app] at h
  exact h.1
/-- One element's cells. -/
theorem EsRel.cells {sz : Nat} {x : AV} {xs : List AV} {b o : Nat} : EsRel st w sz (x :: xs) b o ↔ (∃ cs, x.cells = some cs ∧ cs.length = sz ∧ CsRel st w cs b o) ∧ EsRel st w sz xs b (o + sz) := by
  cases x with
  | agg cs =>
    show (_ ∧ _) ↔ _
    constructor
    · rintro ⟨h1, h2⟩; exact ⟨⟨cs, rfl, h1⟩, h2⟩
    · rintro ⟨⟨ds, e, h1⟩, h2⟩; cases e; exact ⟨h1, h2⟩
  | _ =>
    show (_ ∧ _) ↔ _
    constructor
    · rintro ⟨⟨e, rfl, v, h1, h2, h5, h3⟩, h4⟩; exact ⟨⟨_, e, rfl, ⟨⟨v, h1, h2, h5, h3⟩, trivial⟩⟩, h4⟩
    · rintro ⟨⟨ds, e, h1, h2⟩, h4⟩
      have e' := e
      simp only [AV.cells, AV.cells?, reduceCtorEq, cond_eq_ite, Option.ite_none_right_eq_some, Option.some.injEq] at e' <;> first
        | (obtain rfl := e'; obtain rfl := h1; obtain ⟨⟨v, h1, h2, h5, h3⟩, _⟩ := h2; exact ⟨⟨e, rfl, v, h1, h2, h5, h3⟩, h4⟩)
        | (obtain ⟨_, rfl⟩ := e'; obtain rfl := h1; obtain ⟨⟨v, h1, h2, h5, h3⟩, _⟩ := h2; exact ⟨⟨e, rfl, v, h1, h2, h5, h3⟩, h4⟩)
theorem EsRel.app {sz : Nat} : ∀ {xs ys : List AV} {b o : Nat}, EsRel st w sz (xs ++ ys) b o ↔ EsRel st w sz xs b o ∧ EsRel st w sz ys b (o + xs.length * sz)
  | [], ys, b, o => by simp [EsRel]
  | x :: xs, ys, b, o => by
    rw [List.cons_append, EsRel.cells, EsRel.cells, EsRel.app, and_assoc, List.length_cons, show o + (xs.length + 1) * sz = o + sz + xs.length * sz by rw [Nat.succ_mul]; omega]
theorem EsRel.get {sz : Nat} : ∀ {xs : List AV} {b o : Nat}, EsRel st w sz xs b o → ∀ {i : Nat} {x : AV}, xs[i]? = some x → ∃ cs, x.cells = some cs ∧ cs.length = sz ∧ CsRel st w cs b (o + i * sz)
  | [], _, _, _, _, _, e => by simp at e
  | x :: xs, b, o, h, i, y, e => by
    rw [EsRel.cells] at h
    obtain ⟨⟨cs, h1⟩, h2⟩ := h
    cases i with
    | zero => simp at e; subst e; exact ⟨cs, by simpa using h1⟩
    | succ i =>
      simp at e
      obtain ⟨ds, k1, k2, k3⟩ := h2.get e
      exact ⟨ds, k1, k2, by rwa [Nat.succ_mul, show o + (i * sz + sz) = o + sz + i * sz by omega]⟩
end
mutual
theorem VRel.weak {st : Cells} {w : World} {ι : Inj} : ∀ (v : AV) (u : Value), VRel st w ι v u → VRel st w ι (weakA v) u
  | .int _ _, _, h => h
  | .u8 _, _, h => h
  | .bool _, _, h => h
  | .str _, _, h => h
  | .raw _, _, h => h
  | .top, _, h => h
  | .view _ _, _, h => h
  | .cptr _ _, _, h => h
  | .ptr _ _, _, h => h
  | .tup _, _, h => h
  | .fn _ _ _, _, h => h
  | .iface _ _, _, h => h
  | .part sz xs ys, _, h => by
    obtain ⟨a, cap, e, hc, h⟩ := h
    refine ⟨a, cap, e, by omega, ?_⟩
    cases a with
    | none => exact h.1
    | some ad => exact ⟨h.1, h.2.1⟩
  | .agg cs, _, h => by
    obtain ⟨us, e, o, h⟩ := h
    exact ⟨us, e, o, VRels.weak cs _ h⟩
theorem VRels.weak {st : Cells} {w : World} {ι : Inj} : ∀ (cs : List AV) (us : List Value), VRels st w ι cs us → VRels st w ι (weakA.all cs) us
  | [], _, h => h
  | c :: cs, _, h => by
    obtain ⟨v, vs, e, h1, h2⟩ := h
    exact ⟨v, vs, e, VRel.weak c _ h1, VRels.weak cs _ h2⟩
end
end Go.Proofs.YtgeheffhdpeddaaDoor.VX

/- WHAT THE EXECUTOR's STATE SAYS OF A FRAME AND A WORLD; how it goes on through what an operation does to memory. Conditions: as each theorem states. -/
namespace Go.Proofs.YtgeheffhdpeddaaDoor.VX
open Go Go.RowKit

namespace Rd
variable {α β R : Type} (cf : FuncId → List AV → Option AV)
/-- The answer at given entries. -/
def val (g : Key → Ent) : Rd α → Option α
  | .ret a => some a
  | .fail => none
  | .get κ k => val g (k (g κ))
  | .test b k => bif b then val g k else none
  | .branch b p q => bif b then val g p else val g q
  | .call f as k => (cf f as).bind fun v => val g (k v)
/-- The keys that are read. -/
def rds (g : Key → Ent) : Rd α → List Key
  | .ret _ => []
  | .fail => []
  | .get κ k => κ :: rds g (k (g κ))
  | .test b k => bif b then rds g k else []
  | .branch b p q => bif b then rds g p else rds g q
  | .call f as k => match cf f as with | some v => rds g (k v) | none => []
theorem go_val (S : St) (p : Rd α) : ∀ (rs : List Key) (K : α → List Key → Option R),
    go cf S p rs K = (val cf S.at p).bind fun a => K a ((rds cf S.at p).reverse ++ rs) := by
  induction p with
  | ret a => intro rs K; rfl
  | fail => intro rs K; rfl
  | get κ k ih => intro rs K; simp only [go, val, rds, ih, List.reverse_cons, List.append_assoc, List.singleton_append]
  | test b k ih => intro rs K; cases b <;> simp [go, val, rds, ih]
  | branch b p q ih1 ih2 => intro rs K; cases b <;> simp [go, val, rds, ih1, ih2]
  | call f as k ih =>
    intro rs K
    simp only [go, val, rds]
    cases h : cf f as with
    | none => rfl
    | some v => simp [ih]
theorem val_local {g g' : Key → Ent} (p : Rd α) : (∀ κ ∈ rds cf g p, g' κ = g κ) → val cf g' p = val cf g p ∧ rds cf g' p = rds cf g p := by
  induction p with
  | ret a => intro _; exact ⟨rfl, rfl⟩
  | fail => intro _; exact ⟨rfl, rfl⟩
  | get κ k ih =>
    intro h
    have e := h κ (by simp [rds])
    have := ih (g κ) (fun κ' hκ => h κ' (by simp [rds, hκ]))
    simp only [val, rds, e, this, and_self]
  | test b k ih =>
    intro h
    cases b
    · exact ⟨rfl, rfl⟩
    · have := ih (fun κ hκ => h κ (by simpa [rds] using hκ)); simpa [val, rds] using this
  | branch b p q ih1 ih2 =>
    intro h
    cases b
    · have := ih2 (fun κ hκ => h κ (by simpa [rds] using hκ)); simpa [val, rds] using this
    · have := ih1 (fun κ hκ => h κ (by simpa [rds] using hκ)); simpa [val, rds] using this
  | call f as k ih =>
    intro h
    simp only [val, rds] at h ⊢
    cases hc : cf f as with
    | none => simp
    | some v =>
      rw [hc] at h
      have := ih v h
      simpa using this
theorem val_bind {cf : FuncId → List AV → Option AV} (g : Key → Ent) (p : Rd α) (f : α → Rd β) : val cf g (p.bind f) = (val cf g p).bind fun a => val cf g (f a) := by
  induction p with
  | ret a => rfl
  | fail => rfl
  | get κ k ih => simp only [Rd.bind, val, ih]
  | test b k ih => cases b <;> simp [Rd.bind, val, ih]
  | branch b p q ih1 ih2 => cases b <;> simp [Rd.bind, val, ih1, ih2]
  | call f as k ih =>
    simp only [Rd.bind, val]
    cases cf f as with
    | none => rfl
    | some v => simp [ih]
theorem val_bind' {cf : FuncId → List AV → Option AV} (g : Key → Ent) (p : Rd α) (f : α → Rd β) : val cf g (p >>= f) = (val cf g p).bind fun a => val cf g (f a) := val_bind g p f
theorem val_pure {cf : FuncId → List AV → Option AV} (g : Key → Ent) (a : α) : val cf g (pure a : Rd α) = some a := rfl
theorem val_need {cf : FuncId → List AV → Option AV} (g : Key → Ent) (x : Option α) : val cf g (need x) = x := by cases x <;> rfl
end Rd

theorem Key.same_iff : ∀ {a b : Key}, a.same b = true ↔ a = b
  | .t a, .t b => by simp [Key.same]
  | .o a, .o b => by simp [Key.same]
  | .l a, .l b => by simp [Key.same]
  | .y a, .y b => by simp [Key.same]
  | .x, .x => by simp [Key.same]
  | .t _, .o _ | .t _, .l _ | .t _, .x | .o _, .t _ | .o _, .l _ | .o _, .x | .l _, .t _ | .l _, .o _ | .l _, .x | .x, .t _ | .x, .o _ | .x, .l _ | .y _, .t _ | .y _, .o _ | .y _, .l _ | .y _, .x | .t _, .y _ | .o _, .y _ | .l _, .y _ | .x, .y _ => by simp [Key.same]
theorem Key.same_ne {a b : Key} (h : a ≠ b) : a.same b = false := by
  cases e : a.same b with
  | false => rfl
  | true => exact absurd (Key.same_iff.mp e) h
theorem Key.same_self (a : Key) : a.same a = true := Key.same_iff.mpr rfl

/-- Entries over others. -/
def ovr : St → (Key → Ent) → Key → Ent
  | [], g, κ => g κ
  | (k, e) :: s, g, κ => bif k.same κ then e else ovr s g κ
theorem St.at_append : ∀ (s S : St), St.at (s ++ S) = ovr s S.at
  | [], _ => rfl
  | (k, e) :: s, S => by funext κ; simp only [List.cons_append, St.at, ovr, St.at_append s S]
theorem ovr_append : ∀ (s s' : St) (g : Key → Ent), ovr (s ++ s') g = ovr s (ovr s' g)
  | [], _, _ => rfl
  | (k, e) :: s, s', g => by funext κ; simp only [List.cons_append, ovr, ovr_append s s' g]
theorem ovr_other : ∀ {s : St} {g : Key → Ent} {κ : Key}, (∀ p ∈ s, p.1 ≠ κ) → ovr s g κ = g κ
  | [], _, _, _ => rfl
  | (k, e) :: s, g, κ, h => by
    simp only [ovr, Key.same_ne (h (k, e) (by simp)), cond_false]
    exact ovr_other fun p hp => h p (by simp [hp])

/-! ### what is so -/
abbrev Labs := Nat → Option (Value × Nat)
def Full (u : Value) : Prop := ∃ a n, u = .slice a n n
def LabRel (T : Labs) (lab : Option Nat) (v : AV) (u : Value) : Prop :=
  match lab with
  | none => True
  | some 0 => ∃ sz xs, v = .view sz xs ∧ Full u
  | some (l + 1) => ∃ sz xs, v = .view sz xs ∧ T (l + 1) = some (u, sz)
/-- Cells with their labels. -/
def LRels (st : Cells) (w : World) (ι : Inj) (T : Labs) : List (AV × Option Nat) → List Value → Prop
  | [], us => us = []
  | (c, l) :: cs, us => ∃ v vs, us = v :: vs ∧ v.oneCell' = true ∧ VRel st w ι c v ∧ LabRel T l c v ∧ LRels st w ι T cs vs
/-- The slice has room in this block. -/
def Spare (u : Value) (b : Nat) : Prop := ∃ o n cap, u = .slice (some ⟨b, o, none⟩) n cap ∧ n < cap
/-- The slice's spare room is nobody else's. -/
def Own (old : Nat → Prop) (ι : Inj) (st : Cells) (w : World) (u : Value) (sz : Nat) : Prop :=
  ∃ a n cap, u = .slice a n cap ∧ n ≤ cap ∧ (n < cap → ∃ b o us ty, a = some ⟨b, o, none⟩ ∧ w.heap[b]? = some (.cells us ty (0, 0)) ∧ ¬ old b ∧ (∀ id, ι id ≠ some b) ∧
    o + cap * sz ≤ us.size ∧ ∀ o', o + n * sz ≤ o' → ¬ st b o')

/-- What a call began with: the world, the cells that stay, the blocks that it may not write. -/
structure Base where
  w0 : World
  st0 : Cells
  old : Nat → Prop
/-- The old blocks are as they were. -/
structure Keeps (old : Nat → Prop) (w w' : World) : Prop where
  os : w'.os = w.os
  tape : w'.tape = w.tape
  output : w'.output = w.output
  size : w.heap.size ≤ w'.heap.size
  block : ∀ k, old k → w'.heap[k]? = w.heap[k]?
theorem Keeps.refl (old : Nat → Prop) (w : World) : Keeps old w w := ⟨rfl, rfl, rfl, Nat.le_refl _, fun _ _ => rfl⟩
theorem Keeps.trans {old : Nat → Prop} {a b c : World} (h : Keeps old a b) (k : Keeps old b c) : Keeps old a c :=
  ⟨k.os.trans h.os, k.tape.trans h.tape, k.output.trans h.output, Nat.le_trans h.size k.size, fun i hi => (k.block i hi).trans (h.block i hi)⟩
theorem Keeps.of_below {old : Nat → Prop} {n : Nat} {w w' : World} (h : Below n w w') (ho : ∀ b, old b → b < n) : Keeps old w w' :=
  ⟨h.os, h.tape, h.output, h.size, fun k hk => h.block k (ho k hk)⟩
theorem Keeps.below {n : Nat} {w w' : World} (h : Keeps (· < n) w w') : Below n w w' := ⟨h.os, h.tape, h.output, h.size, h.block⟩
theorem Keeps.mono {old old' : Nat → Prop} {w w' : World} (h : Keeps old w w') (ho : ∀ b, old' b → old b) : Keeps old' w w' :=
  ⟨h.os, h.tape, h.output, h.size, fun k hk => h.block k (ho k hk)⟩

/-- The bytes stand at the head of these cells. -/
def Heads (bs : List UInt8) (cur : Array Value) : Prop := ∀ (i : Nat) (x : UInt8), bs[i]? = some x → cur[i]? = some (.int .u8 x.toNat)
/-- A builder's buffer. -/
def Buf (old : Nat → Prop) (st : Cells) (w : World) (bs : List UInt8) : Option Nat → Value → Prop
  | none, v => v = .slice none 0 0 ∧ bs = []
  | some c, v => ∃ cap cur, v = .slice (some ⟨c, 0, none⟩) bs.length cap ∧ w.heap[c]? = some (.cells cur byteT (0, 0)) ∧ ¬ old c ∧ (∀ o, ¬ st c o) ∧ 1 ≤ cap ∧ bs.length ≤ cap ∧ cap ≤ cur.size ∧ Heads bs cur
/-- A strings.Builder of the call's own. -/
def Bld (old : Nat → Prop) (st : Cells) (w : World) (bs : List UInt8) (k : Option Nat) (b : Nat) : Prop :=
  ∃ p v, w.heap[b]? = some (.cells #[p, v] bldT (0, 0)) ∧ (p = .pointer none ∨ p = .pointer (some ⟨b, 0, none⟩)) ∧ ¬ old b ∧ (∀ o, ¬ st b o) ∧ Buf old st w bs k v
/-- What is a block. -/
def isBlk : Ent → Prop
  | .obj _ => True
  | .bld _ => True
  | _ => False
theorem Bld.keep {old : Nat → Prop} {st st' : Cells} {w w' : World} {bs : List UInt8} {k : Option Nat} {b : Nat} (h : Bld old st w bs k b)
    (hh : ∀ c, (c = b ∨ k = some c) → ¬ old c → (∀ o, ¬ st c o) → c < w.heap.size → w'.heap[c]? = w.heap[c]? ∧ ∀ o, ¬ st' c o) : Bld old st' w' bs k b := by
  have lt : ∀ {c : Nat} {o : Obj}, w.heap[c]? = some o → c < w.heap.size := fun {c o} h => by
    rcases Nat.lt_or_ge c w.heap.size with h' | h'
    · exact h'
    · rw [Array.getElem?_eq_none h'] at h; cases h
  obtain ⟨p, v, e1, e2, e3, e4, e5⟩ := h
  obtain ⟨k1, k2⟩ := hh b (.inl rfl) e3 e4 (lt e1)
  refine ⟨p, v, k1.trans e1, e2, e3, k2, ?_⟩
  cases k with
  | none => exact e5
  | some c =>
    obtain ⟨cap, cur, f1, f2, f3, f4, f5⟩ := e5
    obtain ⟨k1, k2⟩ := hh c (.inr rfl) f3 f4 (lt f2)
    exact ⟨cap, cur, f1, k1.trans f2, f3, k2, f5⟩

abbrev Exs := AV → Option Nat → Value → Prop
structure Inv (B : Base) (ι : Inj) (T : Labs) (st : Cells) (g : Key → Ent) (ex : Exs) (w : World) : Prop where
  below : Keeps B.old B.w0 w
  oldlt : ∀ b, B.old b → b < B.w0.heap.size
  sub : ∀ b o, B.st0 b o → st b o
  new : ∀ b o, st b o → B.st0 b o ∨ ¬ B.old b
  lt : ∀ b o, st b o → b < w.heap.size
  live : ∀ v lab u, ex v lab u → VRel st w ι v u ∧ LabRel T lab v u
  obj : ∀ id cs, g (.o id) = .obj cs → ∃ b us ty, ι id = some b ∧ w.heap[b]? = some (.cells us ty (0, 0)) ∧ LRels st w ι T cs us.toList ∧ ¬ B.old b ∧ ∀ o, ¬ st b o
  dom : ∀ id b, ι id = some b → (isBlk (g (.o id)) ∨ ∃ i bs, id = hid i ∧ g (.o i) = .bld bs) ∧ b < w.heap.size
  lo : ∀ id, isBlk (g (.o id)) → id < HID
  bld : ∀ id bs, g (.o id) = .bld bs → ∃ b, ι id = some b ∧ Bld B.old st w bs (ι (hid id)) b
  ty : ∀ id t b, id < HID → g (.y id) = .num t → ι id = some b → ∃ us, w.heap[b]? = some (.cells us t (0, 0))
  inj : ∀ id id' b, ι id = some b → ι id' = some b → id = id'
  lab : ∀ l, g (.l l) = .flag true → ∃ u sz, T l = some (u, sz) ∧ Own B.old ι st w u sz
  labd : ∀ l x, T l = some x → ∃ b, g (.l l) = .flag b
  one : ∀ l l' x x' b, g (.l l) = .flag true → g (.l l') = .flag true → T l = some x → T l' = some x' → Spare x.1 b → Spare x'.1 b → l = l'

section
variable {B : Base} {ι : Inj} {T : Labs} {st : Cells} {g : Key → Ent} {ex : Exs} {w w' : World}

theorem lt_of_heap {b : Nat} {o : Obj} (h : w.heap[b]? = some o) : b < w.heap.size := by
  rcases Nat.lt_or_ge b w.heap.size with h' | h'
  · exact h'
  · rw [Array.getElem?_eq_none h'] at h; cases h

theorem LRels.monoW {st' : Cells} {ι' : Inj} {T' : Labs} (hs : StaysW st w st' w') (hι : ιLe ι ι') (hT : ∀ l x, T l = some x → T' l = some x) : ∀ {cs : List (AV × Option Nat)} {us : List Value}, LRels st w ι T cs us → LRels st' w' ι' T' cs us
  | [], _, h => h
  | (c, l) :: cs, _, h => by
    obtain ⟨v, vs, e, h0, h1, h2, h3⟩ := h
    refine ⟨v, vs, e, h0, VRel.monoW hs hι _ _ h1, ?_, LRels.monoW hs hι hT h3⟩
    unfold LabRel at h2 ⊢
    split <;> simp_all
    obtain ⟨sz, h2, h4⟩ := h2
    exact ⟨sz, h2, by first | exact hT _ _ h4 | exact hT _ _ _ h4⟩
theorem LRels.mono {st' : Cells} {ι' : Inj} {T' : Labs} (hs : Stays st w st' w') (hι : ιLe ι ι') (hT : ∀ l x, T l = some x → T' l = some x) {cs : List (AV × Option Nat)} {us : List Value} (h : LRels st w ι T cs us) : LRels st' w' ι' T' cs us := LRels.monoW hs.w hι hT h
theorem LabRel.mono {T' : Labs} (hT : ∀ l x, T l = some x → T' l = some x) {lab : Option Nat} {v : AV} {u : Value} (h : LabRel T lab v u) : LabRel T' lab v u := by
  unfold LabRel at h ⊢
  split <;> simp_all
  obtain ⟨sz, h2, h4⟩ := h
  exact ⟨sz, h2, by first | exact hT _ _ h4 | exact hT _ _ _ h4⟩

theorem Inv.stays (h : Inv B ι T st g ex w) (hb : Below w.heap.size w w') : Stays st w st w' :=
  ⟨fun _ _ x => x, fun b o x => hb.cell (p := ⟨b, o, none⟩) (h.lt b o x)⟩

/-- Blocks are made, none is changed; more cells may stay, in the new blocks. -/
theorem Inv.grow (h : Inv B ι T st g ex w) (hb : Below w.heap.size w w') {st' : Cells} (h1 : ∀ b o, st b o → st' b o) (h2 : ∀ b o, st' b o → st b o ∨ w.heap.size ≤ b) (h3 : ∀ b o, st' b o → b < w'.heap.size) :
    Inv B ι T st' g ex w' := by
  have hs : Stays st w st' w' := ⟨h1, fun b o x => hb.cell (p := ⟨b, o, none⟩) (h.lt b o x)⟩
  have hle := h.below.size
  have hlt : ∀ b, B.old b → b < w.heap.size := fun b x => Nat.lt_of_lt_of_le (h.oldlt b x) hle
  refine ⟨h.below.trans (.of_below hb hlt), h.oldlt, fun b o x => h1 b o (h.sub b o x), fun b o x => ?_, h3, fun v lab u x => ⟨VRel.mono hs (ιLe.refl ι) _ _ (h.live v lab u x).1, (h.live v lab u x).2⟩, ?_, fun id b e => ⟨(h.dom id b e).1, Nat.lt_of_lt_of_le (h.dom id b e).2 hb.size⟩, h.lo, ?_, fun id t b hlo e e' => by obtain ⟨us, hh⟩ := h.ty id t b hlo e e'; exact ⟨us, (hb.block b (lt_of_heap hh)).trans hh⟩, h.inj, ?_, h.labd, h.one⟩
  · rcases h2 b o x with y | y
    · exact h.new b o y
    · exact .inr fun x => absurd (hlt b x) (Nat.not_lt.mpr y)
  · intro id cs hg
    obtain ⟨b, us, ty, e, hh, hr, hw, hn⟩ := h.obj id cs hg
    have hlt := lt_of_heap hh
    refine ⟨b, us, ty, e, (hb.block b hlt).trans hh, hr.mono hs (ιLe.refl ι) (fun _ _ x => x), hw, fun o x => ?_⟩
    rcases h2 b o x with y | y
    · exact hn o y
    · omega
  · intro id bs e
    obtain ⟨b, e1, e2⟩ := h.bld id bs e
    exact ⟨b, e1, e2.keep fun c _ _ hs hlt => ⟨hb.block c hlt, fun o x => (h2 c o x).elim (hs o) fun y => by omega⟩⟩
  · intro l hl
    obtain ⟨u, sz, e, a, n, cap, eu, hc, hr⟩ := h.lab l hl
    refine ⟨u, sz, e, a, n, cap, eu, hc, fun hlt => ?_⟩
    obtain ⟨b, o, us, ty, ea, hh, hw, hi, ho, hst⟩ := hr hlt
    have hlt := lt_of_heap hh
    refine ⟨b, o, us, ty, ea, (hb.block b hlt).trans hh, hw, hi, ho, fun o' ho' x => ?_⟩
    rcases h2 b o' x with y | y
    · exact hst o' ho' y
    · omega
theorem Inv.grow0 (h : Inv B ι T st g ex w) (hb : Below w.heap.size w w') : Inv B ι T st g ex w' :=
  h.grow hb (fun _ _ x => x) (fun _ _ x => .inl x) (fun b o x => Nat.lt_of_lt_of_le (h.lt b o x) hb.size)

/-- Other values are held to be live. -/
theorem Inv.exs (h : Inv B ι T st g ex w) {ex' : Exs} (hx : ∀ v lab u, ex' v lab u → ex v lab u ∨ (VRel st w ι v u ∧ LabRel T lab v u)) : Inv B ι T st g ex' w :=
  { h with live := fun v lab u x => (hx v lab u x).elim (h.live v lab u) id }
/-- Temporaries do not matter to memory. -/
theorem Inv.keys (h : Inv B ι T st g ex w) {g' : Key → Ent} (ho : ∀ id, g' (.o id) = g (.o id)) (hl : ∀ l, g' (.l l) = g (.l l)) (hy : ∀ id, g' (.y id) = g (.y id)) : Inv B ι T st g' ex w :=
  { h with
    ty := fun id t b hlo e => h.ty id t b hlo (by rw [← hy]; exact e)
    obj := fun id cs e => h.obj id cs (by rw [← ho]; exact e)
    dom := fun id b e => ⟨(h.dom id b e).1.imp (fun x => by rw [ho]; exact x) fun ⟨i, bs, e1, e2⟩ => ⟨i, bs, e1, by rw [ho]; exact e2⟩, (h.dom id b e).2⟩
    lo := fun id e => h.lo id (by rw [← ho]; exact e)
    bld := fun id bs e => h.bld id bs (by rw [← ho]; exact e)
    lab := fun l e => h.lab l (by rw [← hl]; exact e)
    labd := fun l x e => by rw [hl]; exact h.labd l x e
    one := fun l l' x x' b e e' => h.one l l' x x' b (by rw [← hl]; exact e) (by rw [← hl]; exact e') }

def setι (ι : Inj) (id b : Nat) : Inj := fun i => bif Nat.beq i id then some b else ι i
def setT (T : Labs) (l : Nat) (x : Value × Nat) : Labs := fun i => bif Nat.beq i l then some x else T i
def setK (g : Key → Ent) (k : Key) (e : Ent) : Key → Ent := fun κ => bif k.same κ then e else g κ
theorem setK_same (g : Key → Ent) (k : Key) (e : Ent) : setK g k e k = e := by simp [setK, Key.same_self]
theorem setK_ne (g : Key → Ent) {k κ : Key} (e : Ent) (h : k ≠ κ) : setK g k e κ = g κ := by simp [setK, Key.same_ne h]
theorem setι_same (ι : Inj) (id b : Nat) : setι ι id b id = some b := by simp [setι]
theorem setι_ne (ι : Inj) {id i : Nat} (b : Nat) (h : i ≠ id) : setι ι id b i = ι i := by
  have : Nat.beq i id = false := by cases e : Nat.beq i id with | false => rfl | true => exact absurd (Nat.eq_of_beq_eq_true e) h
  simp [setι, this]
theorem setT_same (T : Labs) (l : Nat) (x : Value × Nat) : setT T l x l = some x := by simp [setT]
theorem setT_ne (T : Labs) {l i : Nat} (x : Value × Nat) (h : i ≠ l) : setT T l x i = T i := by
  have : Nat.beq i l = false := by cases e : Nat.beq i l with | false => rfl | true => exact absurd (Nat.eq_of_beq_eq_true e) h
  simp [setT, this]
theorem setι_le {ι : Inj} {id : Nat} (b : Nat) (h : ι id = none) : ιLe ι (setι ι id b) := fun i b' _ e => by
  by_cases he : i = id
  · subst he; rw [h] at e; cases e
  · rw [setι_ne ι b he]; exact e
theorem setT_le {T : Labs} {l : Nat} (x : Value × Nat) (h : T l = none) : ∀ i y, T i = some y → setT T l x i = some y := fun i y e => by
  by_cases he : i = l
  · subst he; rw [h] at e; cases e
  · rw [setT_ne T x he]; exact e
theorem Inv.no_ι (h : Inv B ι T st g ex w) {id : Nat} (hlo : id < HID) (hg : ¬ isBlk (g (.o id))) : ι id = none := by
  cases e : ι id with
  | none => rfl
  | some b => exact absurd ((h.dom id b e).1.resolve_right fun ⟨i, _, e, _⟩ => by unfold hid at e; omega) hg
theorem Inv.no_T (h : Inv B ι T st g ex w) {l : Nat} (hg : ∀ b, g (.l l) ≠ .flag b) : T l = none := by
  cases e : T l with
  | none => rfl
  | some x => obtain ⟨b, hc⟩ := h.labd l x e; exact absurd hc (hg b)

theorem Inv.bldL (h : Inv B ι T st g ex w) {l : Nat} {e0 : Ent} : ∀ id bs, setK g (.l l) e0 (.o id) = .bld bs → ∃ b, ι id = some b ∧ Bld B.old st w bs (ι (hid id)) b := fun id bs e => h.bld id bs (by rwa [setK_ne _ _ (by simp)] at e)
theorem Inv.domL (h : Inv B ι T st g ex w) {l : Nat} {e0 : Ent} : ∀ id b, ι id = some b → (isBlk (setK g (.l l) e0 (.o id)) ∨ ∃ i bs, id = hid i ∧ setK g (.l l) e0 (.o i) = .bld bs) ∧ b < w.heap.size := fun id b e => by
  refine ⟨(h.dom id b e).1.imp (fun x => by rw [setK_ne _ _ (by simp)]; exact x) fun ⟨i, bs, e1, e2⟩ => ⟨i, bs, e1, by rw [setK_ne _ _ (by simp)]; exact e2⟩, (h.dom id b e).2⟩
theorem Inv.loL (h : Inv B ι T st g ex w) {l : Nat} {e0 : Ent} : ∀ id, isBlk (setK g (.l l) e0 (.o id)) → id < HID := fun id e => h.lo id (by rwa [setK_ne _ _ (by simp)] at e)
theorem hid_lt {i : Nat} : ¬ hid i < HID := by unfold hid; omega
theorem hid_inj {i j : Nat} (h : hid i = hid j) : i = j := by unfold hid at h; omega
theorem Inv.no_hid (h : Inv B ι T st g ex w) {id : Nat} (hg : ¬ isBlk (g (.o id))) : ι (hid id) = none := by
  cases e : ι (hid id) with
  | none => rfl
  | some b =>
    rcases (h.dom _ b e).1 with x | ⟨i, bs, e1, e2⟩
    · exact absurd (h.lo _ x) hid_lt
    · rw [hid_inj e1] at hg; exact absurd (by rw [e2]; trivial) hg
theorem Inv.own (h : Inv B ι T st g ex w) {id b : Nat} (e : ι id = some b) : ¬ B.old b ∧ ∀ o, ¬ st b o := by
  rcases (h.dom id b e).1 with x | ⟨i, bs, rfl, x⟩
  · cases hx : g (.o id) with
    | obj cs =>
      obtain ⟨b', us, ty, e1, _, _, e2, e3⟩ := h.obj id cs hx
      rw [e] at e1; cases e1; exact ⟨e2, e3⟩
    | bld bs =>
      obtain ⟨b', e1, _, _, _, _, e2, e3, _⟩ := h.bld id bs hx
      rw [e] at e1; cases e1; exact ⟨e2, e3⟩
    | none => rw [hx] at x; exact x.elim
    | av v l => rw [hx] at x; exact x.elim
    | flag b => rw [hx] at x; exact x.elim
    | num n => rw [hx] at x; exact x.elim
  · obtain ⟨b', _, p, v, _, _, _, _, hb⟩ := h.bld i bs x
    rw [e] at hb
    obtain ⟨cap, cur, _, _, e2, e3, _⟩ := hb
    exact ⟨e2, e3⟩
/-- A block of the call's own is told. -/
theorem Inv.newBlk (h : Inv B ι T st g ex w) {id b : Nat} {us : Array Value} {ty : TypeId} {e0 : Ent} (h00 : isBlk e0) (hlo : id < HID) (hg : ¬ isBlk (g (.o id))) (hgy : ∀ t, g (.y id) ≠ .num t)
    (hh : w.heap[b]? = some (.cells us ty (0, 0))) (hb : ¬ B.old b) (hst : ∀ o, ¬ st b o) (hι : ∀ i, ι i ≠ some b)
    (hl : ∀ l x, g (.l l) = .flag true → T l = some x → ¬ Spare x.1 b) (hc : ∀ cs, e0 = .obj cs → LRels st w (setι ι id b) T cs us.toList) (hd : ∀ bs, e0 = .bld bs → Bld B.old st w bs none b) :
    Inv B (setι ι id b) T st (setK g (.o id) e0) ex w := by
  have h0 := h.no_ι hlo hg
  have hh0 := h.no_hid hg
  have hle := setι_le (ι := ι) b h0
  refine ⟨h.below, h.oldlt, h.sub, h.new, h.lt, fun v lab u x => ⟨VRel.mono (Stays.refl st w) hle _ _ (h.live v lab u x).1, (h.live v lab u x).2⟩, ?_, ?_, ?_, ?_, ?_, ?_, ?_, ?_, ?_⟩
  · intro i ds e
    by_cases he : i = id
    · subst he
      rw [setK_same] at e
      exact ⟨b, us, ty, setι_same ι i b, hh, hc _ e, hb, hst⟩
    · rw [setK_ne _ _ (by simpa using Ne.symm he)] at e
      obtain ⟨b', us', ty', e1, e2, e3, e4, e5⟩ := h.obj i ds e
      exact ⟨b', us', ty', by rw [setι_ne ι b he]; exact e1, e2, e3.mono (Stays.refl st w) hle (fun _ _ x => x), e4, e5⟩
  · intro i b' e
    by_cases he : i = id
    · subst he; rw [setK_same]; rw [setι_same] at e; cases e; exact ⟨.inl h00, lt_of_heap hh⟩
    · rw [setι_ne ι b he] at e
      refine ⟨(h.dom i b' e).1.imp (fun x => by rw [setK_ne _ _ (by simpa using Ne.symm he)]; exact x) fun ⟨j, bs, e1, e2⟩ => ⟨j, bs, e1, ?_⟩, (h.dom i b' e).2⟩
      have : j ≠ id := fun e => hg (by rw [← e, e2]; trivial)
      rw [setK_ne _ _ (by simpa using Ne.symm this)]; exact e2
  · intro i e
    by_cases he : i = id
    · subst he; exact hlo
    · rw [setK_ne _ _ (by simpa using Ne.symm he)] at e; exact h.lo i e
  · intro i bs e
    have hid' : hid i ≠ id := fun e => hid_lt (e ▸ hlo)
    by_cases he : i = id
    · subst he
      rw [setK_same] at e
      exact ⟨b, setι_same ι i b, by rw [setι_ne ι b hid', hh0]; exact hd bs e⟩
    · rw [setK_ne _ _ (by simpa using Ne.symm he)] at e
      obtain ⟨b', e1, e2⟩ := h.bld i bs e
      exact ⟨b', by rw [setι_ne ι b he]; exact e1, by rw [setι_ne ι b hid']; exact e2⟩
  · intro i t b' hlo' e e'
    rw [setK_ne _ _ (by simp)] at e
    by_cases he : i = id
    · subst he; exact absurd e (hgy t)
    · rw [setι_ne ι b he] at e'; exact h.ty i t b' hlo' e e'
  · intro i j b' e1 e2
    by_cases hi : i = id <;> by_cases hj : j = id
    · rw [hi, hj]
    · subst hi; rw [setι_same] at e1; cases e1; rw [setι_ne ι _ hj] at e2; exact absurd e2 (hι j)
    · subst hj; rw [setι_same] at e2; cases e2; rw [setι_ne ι _ hi] at e1; exact absurd e1 (hι i)
    · rw [setι_ne ι b hi] at e1; rw [setι_ne ι b hj] at e2; exact h.inj i j b' e1 e2
  · intro l e
    rw [setK_ne _ _ (by simp)] at e
    obtain ⟨u, sz, e1, a, n, cap, eu, hc', hr⟩ := h.lab l e
    refine ⟨u, sz, e1, a, n, cap, eu, hc', fun hlt => ?_⟩
    obtain ⟨b', o, us', ty', ea, hh', hw, hi, ho, hs⟩ := hr hlt
    refine ⟨b', o, us', ty', ea, hh', hw, fun i => ?_, ho, hs⟩
    by_cases he : i = id
    · subst he
      rw [setι_same]
      intro e'; cases e'
      exact hl l (u, sz) e e1 ⟨o, n, cap, by rw [eu, ea], hlt⟩
    · rw [setι_ne ι b he]; exact hi i
  · intro l x e
    obtain ⟨b', hb'⟩ := h.labd l x e
    exact ⟨b', by rw [setK_ne _ _ (by simp)]; exact hb'⟩
  · intro l l' x x' b' e e'
    rw [setK_ne _ _ (by simp)] at e e'
    exact h.one l l' x x' b' e e'
theorem Inv.newObj (h : Inv B ι T st g ex w) {id b : Nat} {us : Array Value} {ty : TypeId} {cs : List (AV × Option Nat)} (hlo : id < HID) (hg : ¬ isBlk (g (.o id))) (hgy : ∀ t, g (.y id) ≠ .num t)
    (hh : w.heap[b]? = some (.cells us ty (0, 0))) (hb : ¬ B.old b) (hst : ∀ o, ¬ st b o) (hι : ∀ i, ι i ≠ some b)
    (hl : ∀ l x, g (.l l) = .flag true → T l = some x → ¬ Spare x.1 b) (hc : LRels st w (setι ι id b) T cs us.toList) :
    Inv B (setι ι id b) T st (setK g (.o id) (.obj cs)) ex w :=
  h.newBlk trivial hlo hg hgy hh hb hst hι hl (fun ds e => by cases e; exact hc) (fun _ e => by cases e)

/-- A block's type is told. -/
theorem Inv.setTy (h : Inv B ι T st g ex w) {id b : Nat} {us : Array Value} {ty : TypeId} (hι : ι id = some b) (hh : w.heap[b]? = some (.cells us ty (0, 0))) : Inv B ι T st (setK g (.y id) (.num ty)) ex w :=
  { h with
    obj := fun i cs e => h.obj i cs (by rwa [setK_ne _ _ (by simp)] at e)
    dom := fun i b e => ⟨(h.dom i b e).1.imp (fun x => by rw [setK_ne _ _ (by simp)]; exact x) fun ⟨j, bs, e1, e2⟩ => ⟨j, bs, e1, by rw [setK_ne _ _ (by simp)]; exact e2⟩, (h.dom i b e).2⟩
    lo := fun i e => h.lo i (by rwa [setK_ne _ _ (by simp)] at e)
    bld := fun i bs e => h.bld i bs (by rwa [setK_ne _ _ (by simp)] at e)
    ty := fun i t b' hlo' e e' => by
      by_cases he : i = id
      · subst he
        rw [setK_same] at e; cases e
        rw [hι] at e'; cases e'
        exact ⟨us, hh⟩
      · rw [setK_ne _ _ (by simpa using Ne.symm he)] at e; exact h.ty i t b' hlo' e e'
    lab := fun l e => h.lab l (by rwa [setK_ne _ _ (by simp)] at e)
    labd := fun l x e => by rw [setK_ne _ _ (by simp)]; exact h.labd l x e
    one := fun l l' x x' b e e' => h.one l l' x x' b (by rwa [setK_ne _ _ (by simp)] at e) (by rwa [setK_ne _ _ (by simp)] at e') }

/-- A label dies. -/
theorem Inv.kill (h : Inv B ι T st g ex w) {l : Nat} (hg : ∃ b, g (.l l) = .flag b) : Inv B ι T st (setK g (.l l) (.flag false)) ex w := by
  refine ⟨h.below, h.oldlt, h.sub, h.new, h.lt, h.live, fun id cs e => h.obj id cs (by rwa [setK_ne _ _ (by simp)] at e), h.domL, h.loL, h.bldL, fun id t b hlo e => h.ty id t b hlo (by rwa [setK_ne _ _ (by simp)] at e), h.inj, fun i e => ?_, fun i x e => ?_, fun i j x x' b e e' => ?_⟩
  · by_cases he : i = l
    · subst he; rw [setK_same] at e; cases e
    · rw [setK_ne _ _ (by simpa using Ne.symm he)] at e; exact h.lab i e
  · by_cases he : i = l
    · subst he; exact ⟨false, setK_same _ _ _⟩
    · rw [setK_ne _ _ (by simpa using Ne.symm he)]; exact h.labd i x e
  · by_cases hi : i = l
    · subst hi; rw [setK_same] at e; cases e
    by_cases hj : j = l
    · subst hj; rw [setK_same] at e'; cases e'
    rw [setK_ne _ _ (by simpa using Ne.symm hi)] at e
    rw [setK_ne _ _ (by simpa using Ne.symm hj)] at e'
    exact h.one i j x x' b e e'

/-- A new label for a slice whose spare room is nobody else's. -/
theorem Inv.newLab (h : Inv B ι T st g ex w) {l : Nat} {u : Value} {sz : Nat} (hg : ∀ b, g (.l l) ≠ .flag b) (ho : Own B.old ι st w u sz)
    (h1 : ∀ i x b, g (.l i) = .flag true → T i = some x → Spare x.1 b → ¬ Spare u b) :
    Inv B ι (setT T l (u, sz)) st (setK g (.l l) (.flag true)) ex w := by
  have h0 := h.no_T hg
  have hle := setT_le (u, sz) h0
  refine ⟨h.below, h.oldlt, h.sub, h.new, h.lt, fun v lab u x => ⟨(h.live v lab u x).1, (h.live v lab u x).2.mono hle⟩, fun id cs e => ?_, h.domL, h.loL, h.bldL, fun id t b hlo e => h.ty id t b hlo (by rwa [setK_ne _ _ (by simp)] at e), h.inj, fun i e => ?_, fun i x e => ?_, fun i j x x' b e e' => ?_⟩
  · rw [setK_ne _ _ (by simp)] at e
    obtain ⟨b', us', ty', e1, e2, e3, e4, e5⟩ := h.obj id cs e
    exact ⟨b', us', ty', e1, e2, e3.mono (Stays.refl st w) (ιLe.refl ι) hle, e4, e5⟩
  · by_cases he : i = l
    · subst he; exact ⟨u, sz, setT_same _ _ _, ho⟩
    · rw [setK_ne _ _ (by simpa using Ne.symm he)] at e
      obtain ⟨u', sz', e1, e2⟩ := h.lab i e
      exact ⟨u', sz', by rw [setT_ne _ _ he]; exact e1, e2⟩
  · by_cases he : i = l
    · subst he; exact ⟨true, setK_same _ _ _⟩
    · rw [setK_ne _ _ (by simpa using Ne.symm he)]
      rw [setT_ne _ _ he] at e
      exact h.labd i x e
  · intro k k' s s'
    by_cases hi : i = l <;> by_cases hj : j = l
    · rw [hi, hj]
    · subst hi
      rw [setT_same] at k; cases k
      rw [setT_ne _ _ hj] at k'
      rw [setK_ne _ _ (by simpa using Ne.symm hj)] at e'
      exact absurd s (h1 j x' b e' k' s')
    · subst hj
      rw [setT_same] at k'; cases k'
      rw [setT_ne _ _ hi] at k
      rw [setK_ne _ _ (by simpa using Ne.symm hi)] at e
      exact absurd s' (h1 i x b e k s)
    · rw [setT_ne _ _ hi] at k
      rw [setT_ne _ _ hj] at k'
      rw [setK_ne _ _ (by simpa using Ne.symm hi)] at e
      rw [setK_ne _ _ (by simpa using Ne.symm hj)] at e'
      exact h.one i j x x' b e e' k k' s s'

/-- One block alone is changed. -/
structure OnlyBlock (b : Nat) (w w' : World) : Prop where
  os : w'.os = w.os
  tape : w'.tape = w.tape
  output : w'.output = w.output
  size : w'.heap.size = w.heap.size
  block : ∀ k, k ≠ b → w'.heap[k]? = w.heap[k]?
theorem OnlyBlock.below {b : Nat} {old : Nat → Prop} (h : OnlyBlock b w w') (hB : ¬ old b) : Keeps old w w' :=
  ⟨h.os, h.tape, h.output, Nat.le_of_eq h.size.symm, fun k hk => h.block k (fun e => hB (e ▸ hk))⟩
theorem OnlyBlock.cell {b : Nat} (h : OnlyBlock b w w') {k o : Nat} (hk : k ≠ b) : w'.cell? ⟨k, o, none⟩ = w.cell? ⟨k, o, none⟩ :=
  World.cell?_of_block (w := w) (a := ⟨k, o, none⟩) (h.block k hk)
theorem OnlyBlock.refl (b : Nat) (w : World) : OnlyBlock b w w := ⟨rfl, rfl, rfl, rfl, fun _ _ => rfl⟩
theorem OnlyBlock.trans {b : Nat} {w'' : World} (h : OnlyBlock b w w') (k : OnlyBlock b w' w'') : OnlyBlock b w w'' :=
  ⟨k.os.trans h.os, k.tape.trans h.tape, k.output.trans h.output, k.size.trans h.size, fun i hi => (k.block i hi).trans (h.block i hi)⟩

/-- A block of the call's own is written. -/
theorem Inv.setObj (h : Inv B ι T st g ex w) {id b : Nat} {us' : Array Value} {ty : TypeId} {cs cs' : List (AV × Option Nat)} (hg : g (.o id) = .obj cs) (hι : ι id = some b)
    (hb : OnlyBlock b w w') (hty : ∀ us0 t0, w.heap[b]? = some (.cells us0 t0 (0, 0)) → t0 = ty) (hh : w'.heap[b]? = some (.cells us' ty (0, 0))) (hc : LRels st w' ι T cs' us'.toList) : Inv B ι T st (setK g (.o id) (.obj cs')) ex w' := by
  obtain ⟨b0, us, ty0, e0, hh0, hr0, hw0, hn0⟩ := h.obj id cs hg
  obtain rfl : b0 = b := by rw [hι] at e0; exact (Option.some.inj e0).symm
  have hs : Stays st w st w' := ⟨fun _ _ x => x, fun k o x => hb.cell (fun e => hn0 o (e ▸ x))⟩
  refine ⟨h.below.trans (hb.below hw0), h.oldlt, h.sub, h.new, fun k o x => by rw [hb.size]; exact h.lt k o x, fun v lab u x => ⟨VRel.mono hs (ιLe.refl ι) _ _ (h.live v lab u x).1, (h.live v lab u x).2⟩, ?_, ?_, ?_, ?_, ?_, h.inj, ?_, ?_, ?_⟩
  · intro i ds e
    by_cases he : i = id
    · subst he
      rw [setK_same] at e; cases e
      exact ⟨b0, us', ty, hι, hh, hc, hw0, hn0⟩
    · rw [setK_ne _ _ (by simpa using Ne.symm he)] at e
      obtain ⟨b', us1, ty1, e1, e2, e3, e4, e5⟩ := h.obj i ds e
      have hne : b' ≠ b0 := fun e' => he (h.inj i id b0 (e' ▸ e1) hι)
      exact ⟨b', us1, ty1, e1, (hb.block b' hne).trans e2, e3.mono hs (ιLe.refl ι) (fun _ _ x => x), e4, e5⟩
  · intro i b' e
    refine ⟨(h.dom i b' e).1.imp (fun x => ?_) fun ⟨j, bs, e1, e2⟩ => ⟨j, bs, e1, ?_⟩, by rw [hb.size]; exact (h.dom i b' e).2⟩
    · by_cases he : i = id
      · subst he; rw [setK_same]; trivial
      · rw [setK_ne _ _ (by simpa using Ne.symm he)]; exact x
    · have : j ≠ id := fun e => by rw [e, hg] at e2; cases e2
      rw [setK_ne _ _ (by simpa using Ne.symm this)]; exact e2
  · intro i e
    by_cases he : i = id
    · subst he; exact h.lo i (by rw [hg]; trivial)
    · rw [setK_ne _ _ (by simpa using Ne.symm he)] at e; exact h.lo i e
  · intro i bs e
    have he : i ≠ id := fun he => by subst he; rw [setK_same] at e; cases e
    rw [setK_ne _ _ (by simpa using Ne.symm he)] at e
    obtain ⟨b', e1, e2⟩ := h.bld i bs e
    refine ⟨b', e1, e2.keep fun c hc _ x _ => ⟨hb.block c fun e' => ?_, x⟩⟩
    rcases hc with rfl | hc
    · exact he (h.inj i id b0 (e' ▸ e1) hι)
    · have := h.inj _ id b0 (e' ▸ hc) hι
      exact hid_lt (by rw [this]; exact h.lo id (by rw [hg]; trivial))
  · intro i t b' hlo' e e'
    rw [setK_ne _ _ (by simp)] at e
    obtain ⟨us2, h2⟩ := h.ty i t b' hlo' e e'
    by_cases hbb : b' = b0
    · subst hbb
      rw [hty us2 t h2]; exact ⟨us', hh⟩
    · exact ⟨us2, (hb.block b' hbb).trans h2⟩
  · intro l e
    rw [setK_ne _ _ (by simp)] at e
    obtain ⟨u, sz, e1, a, n, cap, eu, hc', hr⟩ := h.lab l e
    refine ⟨u, sz, e1, a, n, cap, eu, hc', fun hlt => ?_⟩
    obtain ⟨b', o, us1, ty1, ea, hh1, hw1, hi1, ho1, hs1⟩ := hr hlt
    exact ⟨b', o, us1, ty1, ea, (hb.block b' (fun e' => hi1 id (e' ▸ hι))).trans hh1, hw1, hi1, ho1, hs1⟩
  · intro l x e
    rw [setK_ne _ _ (by simp)]; exact h.labd l x e
  · intro l l' x x' b' e e'
    rw [setK_ne _ _ (by simp)] at e e'
    exact h.one l l' x x' b' e e'

/-- A builder's bytes are made anew: its own block and its buffer alone are written, or a new buffer is made. -/
structure Put (w w' : World) (b : Nat) (k k' : Option Nat) (bs : List UInt8) : Prop where
  os : w'.os = w.os
  tape : w'.tape = w.tape
  output : w'.output = w.output
  size : w.heap.size ≤ w'.heap.size
  block : ∀ i, i < w.heap.size → i ≠ b → k ≠ some i → w'.heap[i]? = w.heap[i]?
  at_ : ∃ v, w'.heap[b]? = some (.cells #[.pointer (some ⟨b, 0, none⟩), v] bldT (0, 0)) ∧ (match k' with
    | none => v = .slice none 0 0 ∧ bs = []
    | some c => (k = some c ∨ w.heap.size ≤ c) ∧ ∃ cap cur, v = .slice (some ⟨c, 0, none⟩) bs.length cap ∧ w'.heap[c]? = some (.cells cur byteT (0, 0)) ∧ 1 ≤ cap ∧ bs.length ≤ cap ∧ cap ≤ cur.size ∧ Heads bs cur)
def setH (ι : Inj) (i : Nat) (k : Option Nat) : Inj := fun j => bif Nat.beq j i then k else ι j
theorem setH_same (ι : Inj) (i : Nat) (k : Option Nat) : setH ι i k i = k := by simp [setH]
theorem setH_ne (ι : Inj) {i j : Nat} (k : Option Nat) (h : j ≠ i) : setH ι i k j = ι j := by
  have : Nat.beq j i = false := by cases e : Nat.beq j i with | false => rfl | true => exact absurd (Nat.eq_of_beq_eq_true e) h
  simp [setH, this]
theorem setH_le (ι : Inj) (i : Nat) (k : Option Nat) : ιLe ι (setH ι (hid i) k) := fun j b hlo e => by
  rw [setH_ne _ _ (fun e => hid_lt (e ▸ hlo))]; exact e
theorem Inv.putBld (h : Inv B ι T st g ex w) {id b : Nat} {bs bs' : List UInt8} {k' : Option Nat} (hg : g (.o id) = .bld bs) (hι : ι id = some b) (hp : Put w w' b (ι (hid id)) k' bs') :
    Inv B (setH ι (hid id) k') T st (setK g (.o id) (.bld bs')) ex w' := by
  have hlo := h.lo id (by rw [hg]; trivial)
  have hne : id ≠ hid id := fun e => hid_lt (e ▸ hlo)
  have hown := h.own hι
  have hbk : ∀ i c, i ≠ id → i ≠ hid id → ι i = some c → w'.heap[c]? = w.heap[c]? := fun i c n1 n2 e =>
    hp.block c (h.dom i c e).2 (fun e' => n1 (h.inj i id b (e' ▸ e) hι)) (fun e' => n2 (h.inj i _ c e e'))
  have hbs : ∀ c, c < w.heap.size → (∀ i, ι i ≠ some c) → w'.heap[c]? = w.heap[c]? := fun c hlt n =>
    hp.block c hlt (fun e => n id (e ▸ hι)) (fun e => n _ e)
  have hst' : ∀ c o, st c o → ∀ i, ι i ≠ some c := fun c o x i e => (h.own e).2 o x
  have hs : Stays st w st w' := ⟨fun _ _ x => x, fun c o x => World.cell?_of_block (w := w) (a := ⟨c, o, none⟩) (hbs c (h.lt c o x) (hst' c o x))⟩
  have hle := setH_le ι id k'
  obtain ⟨v, hv1, hv2⟩ := hp.at_
  have hk' : ∀ c, k' = some c → (ι (hid id) = some c ∨ w.heap.size ≤ c) := fun c e => by subst e; exact hv2.1
  have hnew : ∀ c, k' = some c → ¬ B.old c ∧ (∀ o, ¬ st c o) ∧ (∀ i, i ≠ hid id → ι i ≠ some c) ∧ c < w'.heap.size := fun c e => by
    have hlt : c < w'.heap.size := by subst e; obtain ⟨_, _, _, _, hh, _⟩ := hv2; exact lt_of_heap hh
    rcases hk' c e with x | x
    · exact ⟨(h.own x).1, (h.own x).2, fun i n e' => n (h.inj i _ c e' x), hlt⟩
    · refine ⟨fun y => absurd (Nat.lt_of_lt_of_le (h.oldlt c y) h.below.size) (by omega), fun o y => by have := h.lt c o y; omega, fun i _ e' => by have := (h.dom i c e').2; omega, hlt⟩
  have hold : ∀ k, B.old k → w'.heap[k]? = w.heap[k]? := fun k x => hbs k (Nat.lt_of_lt_of_le (h.oldlt k x) h.below.size) fun i e => (h.own e).1 x
  refine ⟨h.below.trans ⟨hp.os, hp.tape, hp.output, hp.size, hold⟩, h.oldlt, h.sub, h.new, fun c o x => Nat.lt_of_lt_of_le (h.lt c o x) hp.size, fun v lab u x => ⟨VRel.mono hs hle _ _ (h.live v lab u x).1, (h.live v lab u x).2⟩, ?_, ?_, ?_, ?_, ?_, ?_, ?_, ?_, ?_⟩
  · intro i cs e
    have hi : i ≠ id := fun e' => by subst e'; rw [setK_same] at e; cases e
    rw [setK_ne _ _ (by simpa using Ne.symm hi)] at e
    have hih : i ≠ hid id := fun e' => hid_lt (e' ▸ h.lo i (by rw [e]; trivial))
    obtain ⟨b', us, ty, e1, e2, e3, e4, e5⟩ := h.obj i cs e
    exact ⟨b', us, ty, by rw [setH_ne _ _ hih]; exact e1, (hbk i b' hi hih e1).trans e2, e3.mono hs hle (fun _ _ x => x), e4, e5⟩
  · intro i c e
    by_cases hi : i = hid id
    · subst hi
      rw [setH_same] at e
      exact ⟨.inr ⟨id, bs', rfl, setK_same _ _ _⟩, (hnew c e).2.2.2⟩
    · rw [setH_ne _ _ hi] at e
      refine ⟨(h.dom i c e).1.imp (fun x => ?_) fun ⟨j, bs, e1, e2⟩ => ?_, Nat.lt_of_lt_of_le (h.dom i c e).2 hp.size⟩
      · by_cases hi : i = id
        · subst hi; rw [setK_same]; trivial
        · rw [setK_ne _ _ (by simpa using Ne.symm hi)]; exact x
      · have : j ≠ id := fun e' => hi (by rw [e1, e'])
        exact ⟨j, bs, e1, by rw [setK_ne _ _ (by simpa using Ne.symm this)]; exact e2⟩
  · intro i e
    by_cases hi : i = id
    · subst hi; exact hlo
    · rw [setK_ne _ _ (by simpa using Ne.symm hi)] at e; exact h.lo i e
  · intro i bs2 e
    by_cases hi : i = id
    · subst hi
      rw [setK_same] at e; cases e
      refine ⟨b, by rw [setH_ne _ _ hne]; exact hι, _, v, hv1, .inr rfl, hown.1, hown.2, ?_⟩
      rw [setH_same]
      cases k' with
      | none => exact hv2
      | some c =>
        obtain ⟨_, cap, cur, f1, f2, f3⟩ := hv2
        exact ⟨cap, cur, f1, f2, (hnew c rfl).1, (hnew c rfl).2.1, f3⟩
    · rw [setK_ne _ _ (by simpa using Ne.symm hi)] at e
      have hih : hid i ≠ hid id := fun e' => hi (hid_inj e')
      have hlo' := h.lo i (by rw [e]; trivial)
      obtain ⟨b', e1, e2⟩ := h.bld i bs2 e
      refine ⟨b', by rw [setH_ne _ _ (fun e' => hid_lt (e' ▸ hlo'))]; exact e1, ?_⟩
      rw [setH_ne _ _ hih]
      refine e2.keep fun c hc _ x _ => ⟨?_, x⟩
      rcases hc with rfl | hc
      · exact hbk i _ hi (fun e' => hid_lt (e' ▸ hlo')) e1
      · exact hbk (hid i) c (fun e' => hid_lt (e' ▸ hlo)) hih hc
  · intro i t b' hlo' e e'
    rw [setK_ne _ _ (by simp)] at e
    rw [setH_ne _ _ (fun e' => hid_lt (e' ▸ hlo'))] at e'
    obtain ⟨us, hh⟩ := h.ty i t b' hlo' e e'
    by_cases hi : i = id
    · subst hi
      rw [hι] at e'; cases e'
      obtain ⟨b2, e1, p, v0, e2, _⟩ := h.bld i bs hg
      rw [hι] at e1; cases e1
      rw [hh] at e2; cases e2
      exact ⟨_, hv1⟩
    · exact ⟨us, (hbk i b' hi (fun e' => hid_lt (e' ▸ hlo')) e').trans hh⟩
  · intro i j c e1 e2
    by_cases hi : i = hid id <;> by_cases hj : j = hid id
    · rw [hi, hj]
    · subst hi; rw [setH_same] at e1; rw [setH_ne _ _ hj] at e2; exact absurd e2 ((hnew c e1).2.2.1 j hj)
    · subst hj; rw [setH_same] at e2; rw [setH_ne _ _ hi] at e1; exact absurd e1 ((hnew c e2).2.2.1 i hi)
    · rw [setH_ne _ _ hi] at e1; rw [setH_ne _ _ hj] at e2; exact h.inj i j c e1 e2
  · intro l e
    rw [setK_ne _ _ (by simp)] at e
    obtain ⟨u, sz, e1, a, n, cap, eu, hc', hr⟩ := h.lab l e
    refine ⟨u, sz, e1, a, n, cap, eu, hc', fun hlt => ?_⟩
    obtain ⟨b', o, us1, ty1, ea, hh1, hw1, hi1, ho1, hs1⟩ := hr hlt
    refine ⟨b', o, us1, ty1, ea, (hbs b' (lt_of_heap hh1) hi1).trans hh1, hw1, fun i e => ?_, ho1, hs1⟩
    by_cases hi : i = hid id
    · subst hi
      rw [setH_same] at e
      rcases hk' b' e with x | x
      · exact hi1 _ x
      · have := lt_of_heap hh1; omega
    · rw [setH_ne _ _ hi] at e; exact hi1 i e
  · intro l x e
    rw [setK_ne _ _ (by simp)]; exact h.labd l x e
  · intro l l' x x' b' e e'
    rw [setK_ne _ _ (by simp)] at e e'
    exact h.one l l' x x' b' e e'

/-- A builder whose bytes were told as a text is told no more; its buffer may be frozen. -/
theorem Inv.endBld (h : Inv B ι T st g ex w) {id b : Nat} {bs : List UInt8} (hg : g (.o id) = .bld bs) (hι : ι id = some b) (h1 : w'.os = w.os) (h2 : w'.tape = w.tape) (h3 : w'.output = w.output) (h4 : w'.heap.size = w.heap.size)
    (h5 : ∀ c, ι (hid id) ≠ some c → w'.heap[c]? = w.heap[c]?) : Inv B (setH ι (hid id) none) T st (setK g (.o id) (.obj [(.top, none), (.top, none)])) ex w' := by
  have hlo := h.lo id (by rw [hg]; trivial)
  have hne : id ≠ hid id := fun e => hid_lt (e ▸ hlo)
  have hbk : ∀ i c, i ≠ hid id → ι i = some c → w'.heap[c]? = w.heap[c]? := fun i c n2 e => h5 c (fun e' => n2 (h.inj i _ c e e'))
  have hbs : ∀ c, (∀ i, ι i ≠ some c) → w'.heap[c]? = w.heap[c]? := fun c n => h5 c (n _)
  have hs : Stays st w st w' := ⟨fun _ _ x => x, fun c o x => World.cell?_of_block (w := w) (a := ⟨c, o, none⟩) (hbs c fun i e => (h.own e).2 o x)⟩
  have hle := setH_le ι id none
  refine ⟨h.below.trans ⟨h1, h2, h3, by omega, fun k x => hbs k fun i e => (h.own e).1 x⟩, h.oldlt, h.sub, h.new, fun c o x => by rw [h4]; exact h.lt c o x, fun v lab u x => ⟨VRel.mono hs hle _ _ (h.live v lab u x).1, (h.live v lab u x).2⟩, ?_, ?_, ?_, ?_, ?_, ?_, ?_, ?_, ?_⟩
  · intro i cs e
    by_cases hi : i = id
    · subst hi
      rw [setK_same] at e; cases e
      obtain ⟨b2, e1, p, v, e2, e3, e4, e5, e6⟩ := h.bld i bs hg
      rw [hι] at e1; cases e1
      refine ⟨b, #[p, v], bldT, by rw [setH_ne _ _ hne]; exact hι, (hbk i b hne hι).trans e2, ?_, e4, e5⟩
      have hp : p.oneCell' = true := by rcases e3 with rfl | rfl <;> rfl
      have hv : v.oneCell' = true := by
        cases hk : ι (hid i) with
        | none => rw [hk] at e6; rw [e6.1]; rfl
        | some c => rw [hk] at e6; obtain ⟨cap, cur, f1, _⟩ := e6; rw [f1]; rfl
      exact ⟨p, [v], rfl, hp, trivial, trivial, v, [], rfl, hv, trivial, trivial, rfl⟩
    · rw [setK_ne _ _ (by simpa using Ne.symm hi)] at e
      have hih : i ≠ hid id := fun e' => hid_lt (e' ▸ h.lo i (by rw [e]; trivial))
      obtain ⟨b', us, ty, e1, e2, e3, e4, e5⟩ := h.obj i cs e
      exact ⟨b', us, ty, by rw [setH_ne _ _ hih]; exact e1, (hbk i b' hih e1).trans e2, e3.mono hs hle (fun _ _ x => x), e4, e5⟩
  · intro i c e
    by_cases hi : i = hid id
    · subst hi; rw [setH_same] at e; cases e
    · rw [setH_ne _ _ hi] at e
      refine ⟨(h.dom i c e).1.imp (fun x => ?_) fun ⟨j, bs, e1, e2⟩ => ?_, by rw [h4]; exact (h.dom i c e).2⟩
      · by_cases hi : i = id
        · subst hi; rw [setK_same]; trivial
        · rw [setK_ne _ _ (by simpa using Ne.symm hi)]; exact x
      · have : j ≠ id := fun e' => hi (by rw [e1, e'])
        exact ⟨j, bs, e1, by rw [setK_ne _ _ (by simpa using Ne.symm this)]; exact e2⟩
  · intro i e
    by_cases hi : i = id
    · subst hi; exact hlo
    · rw [setK_ne _ _ (by simpa using Ne.symm hi)] at e; exact h.lo i e
  · intro i bs2 e
    have hi : i ≠ id := fun e' => by subst e'; rw [setK_same] at e; cases e
    rw [setK_ne _ _ (by simpa using Ne.symm hi)] at e
    have hih : hid i ≠ hid id := fun e' => hi (hid_inj e')
    have hlo' := h.lo i (by rw [e]; trivial)
    obtain ⟨b', e1, e2⟩ := h.bld i bs2 e
    refine ⟨b', by rw [setH_ne _ _ (fun e' => hid_lt (e' ▸ hlo'))]; exact e1, ?_⟩
    rw [setH_ne _ _ hih]
    refine e2.keep fun c hc _ x _ => ⟨?_, x⟩
    rcases hc with rfl | hc
    · exact hbk i _ (fun e' => hid_lt (e' ▸ hlo')) e1
    · exact hbk (hid i) c hih hc
  · intro i t b' hlo' e e'
    rw [setK_ne _ _ (by simp)] at e
    rw [setH_ne _ _ (fun e' => hid_lt (e' ▸ hlo'))] at e'
    obtain ⟨us, hh⟩ := h.ty i t b' hlo' e e'
    exact ⟨us, (hbk i b' (fun e' => hid_lt (e' ▸ hlo')) e').trans hh⟩
  · intro i j c e1 e2
    by_cases hi : i = hid id
    · subst hi; rw [setH_same] at e1; cases e1
    by_cases hj : j = hid id
    · subst hj; rw [setH_same] at e2; cases e2
    rw [setH_ne _ _ hi] at e1; rw [setH_ne _ _ hj] at e2; exact h.inj i j c e1 e2
  · intro l e
    rw [setK_ne _ _ (by simp)] at e
    obtain ⟨u, sz, e1, a, n, cap, eu, hc', hr⟩ := h.lab l e
    refine ⟨u, sz, e1, a, n, cap, eu, hc', fun hlt => ?_⟩
    obtain ⟨b', o, us1, ty1, ea, hh1, hw1, hi1, ho1, hs1⟩ := hr hlt
    refine ⟨b', o, us1, ty1, ea, (hbs b' hi1).trans hh1, hw1, fun i e => ?_, ho1, hs1⟩
    by_cases hi : i = hid id
    · subst hi; rw [setH_same] at e; cases e
    · rw [setH_ne _ _ hi] at e; exact hi1 i e
  · intro l x e
    rw [setK_ne _ _ (by simp)]; exact h.labd l x e
  · intro l l' x x' b' e e'
    rw [setK_ne _ _ (by simp)] at e e'
    exact h.one l l' x x' b' e e'

/-- The spare room of a label is written: the label dies, the cells that are written stay. -/
theorem Inv.putOwn (h : Inv B ι T st g ex w) {l b o n cap sz m : Nat} {us us' : Array Value} {ty : TypeId} (hl : g (.l l) = .flag true) (hT : T l = some (.slice (some ⟨b, o, none⟩) n cap, sz)) (hlt : n < cap)
    (hb : OnlyBlock b w w') (hh : w.heap[b]? = some (.cells us ty (0, 0))) (hh' : w'.heap[b]? = some (.cells us' ty (0, 0))) (hsz : us'.size = us.size) (hsame : ∀ i, i < o + n * sz → us'[i]? = us[i]?) :
    Inv B ι T (fun k j => st k j ∨ (k = b ∧ o + n * sz ≤ j ∧ j < o + (n + m) * sz)) (setK g (.l l) (.flag false)) ex w' := by
  obtain ⟨u0, sz0, e0, a0, n0, cap0, eu0, hc0, hr0⟩ := h.lab l hl
  rw [hT] at e0; cases e0
  injection eu0 with ea en ec; subst ea; subst en; subst ec
  obtain ⟨b1, o1, us1, ty1, ea, hh1, hw1, hi1, ho1, hs1⟩ := hr0 hlt
  cases ea
  rw [hh] at hh1; cases hh1
  have hcell : ∀ k j, st k j → w'.cell? ⟨k, j, none⟩ = w.cell? ⟨k, j, none⟩ := fun k j x => by
    by_cases hk : k = b
    · subst hk
      have hj : j < o + n * sz := Nat.lt_of_not_le fun hle => hs1 j hle x
      simp only [World.cell?, hh, hh', Option.isSome_none, Bool.false_eq_true, if_false, hsame j hj]
    · exact hb.cell hk
  have hs : Stays st w (fun k j => st k j ∨ (k = b ∧ o + n * sz ≤ j ∧ j < o + (n + m) * sz)) w' := ⟨fun _ _ x => .inl x, hcell⟩
  have key : Inv B ι T (fun k j => st k j ∨ (k = b ∧ o + n * sz ≤ j ∧ j < o + (n + m) * sz)) (setK g (.l l) (.flag false)) ex w' := by
    refine ⟨h.below.trans (hb.below hw1), h.oldlt, fun k j x => .inl (h.sub k j x), fun k j x => ?_, fun k j x => ?_, fun v lab u x => ⟨VRel.mono hs (ιLe.refl ι) _ _ (h.live v lab u x).1, (h.live v lab u x).2⟩, ?_, ?_, h.loL, ?_, ?_, h.inj, ?_, ?_, ?_⟩
    · rcases x with x | ⟨rfl, _⟩
      · exact h.new k j x
      · exact .inr hw1
    · rcases x with x | ⟨rfl, _⟩
      · rw [hb.size]; exact h.lt k j x
      · rw [hb.size]; exact lt_of_heap hh
    · intro i ds e
      rw [setK_ne _ _ (by simp)] at e
      obtain ⟨b', us2, ty2, e1, e2, e3, e4, e5⟩ := h.obj i ds e
      have hne : b' ≠ b := fun e' => hi1 i (e' ▸ e1)
      exact ⟨b', us2, ty2, e1, (hb.block b' hne).trans e2, e3.mono hs (ιLe.refl ι) (fun _ _ x => x), e4, fun j x => x.elim (e5 j) fun y => hne y.1⟩
    · intro i b' e
      exact ⟨(h.domL i b' e).1, by rw [hb.size]; exact (h.dom i b' e).2⟩
    · intro i bs e
      obtain ⟨b', e1, e2⟩ := h.bldL i bs e
      refine ⟨b', e1, e2.keep fun c hc _ x _ => ?_⟩
      have hne : c ≠ b := fun e' => by
        rcases hc with rfl | hc
        · exact hi1 i (e' ▸ e1)
        · exact hi1 _ (e' ▸ hc)
      exact ⟨hb.block c hne, fun j y => y.elim (x j) fun y => hne y.1⟩
    · intro i t b' hlo' e e'
      rw [setK_ne _ _ (by simp)] at e
      obtain ⟨us2, h2⟩ := h.ty i t b' hlo' e e'
      have hne : b' ≠ b := fun x => hi1 i (x ▸ e')
      exact ⟨us2, (hb.block b' hne).trans h2⟩
    · intro i e
      by_cases he : i = l
      · subst he; rw [setK_same] at e; cases e
      rw [setK_ne _ _ (by simpa using Ne.symm he)] at e
      obtain ⟨u, sz', e1, a, n', cap', eu, hc', hr⟩ := h.lab i e
      refine ⟨u, sz', e1, a, n', cap', eu, hc', fun hlt' => ?_⟩
      obtain ⟨b', o', us2, ty2, ea, hh2, hw2, hi2, ho2, hs2⟩ := hr hlt'
      have hne : b' ≠ b := fun e' => he (h.one i l _ _ b e hl e1 hT ⟨o', n', cap', by rw [eu, ea, e'], hlt'⟩ ⟨o, n, cap, rfl, hlt⟩)
      exact ⟨b', o', us2, ty2, ea, (hb.block b' hne).trans hh2, hw2, hi2, ho2, fun j hj x => x.elim (hs2 j hj) fun y => hne y.1⟩
    · intro i x e
      by_cases he : i = l
      · subst he; exact ⟨false, setK_same _ _ _⟩
      · rw [setK_ne _ _ (by simpa using Ne.symm he)]; exact h.labd i x e
    · intro i j x x' b' e e'
      by_cases hi : i = l
      · subst hi; rw [setK_same] at e; cases e
      by_cases hj : j = l
      · subst hj; rw [setK_same] at e'; cases e'
      rw [setK_ne _ _ (by simpa using Ne.symm hi)] at e
      rw [setK_ne _ _ (by simpa using Ne.symm hj)] at e'
      exact h.one i j x x' b' e e'
  exact key
end
end Go.Proofs.YtgeheffhdpeddaaDoor.VX
