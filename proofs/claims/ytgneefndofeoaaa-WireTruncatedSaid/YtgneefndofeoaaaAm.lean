import Derived.WalkKit
import Derived.Deep.AppendSrc
import Derived.DeepKeys
namespace Go.AM
set_option linter.unusedVariables false
open Go.RowKit

/-! ### Types of data -/
inductive Ty where
  | int (k : IntKind)
  | bool
  | str
  | arr (e : Ty)
  | vec (n : Nat) (e : Ty)
  | unit
  | pair (a b : Ty)
  deriving DecidableEq

@[reducible] def Ty.den : Ty → Type
  | .int _ => Int
  | .bool => Bool
  | .str => List Int
  | .arr e => List e.den
  | .vec _ e => List e.den
  | .unit => Unit
  | .pair a b => a.den × b.den

def Ty.cells : Ty → Nat
  | .int _ | .bool | .str | .arr _ => 1
  | .vec n e => n * e.cells
  | .unit => 0
  | .pair a b => a.cells + b.cells

def Ty.isAgg : Ty → Bool
  | .vec .. | .unit | .pair .. => true
  | _ => false

def Ty.small (e : Ty) : Bool := Nat.beq e.cells 1 && !e.isAgg

def Ty.flat : Ty → Bool
  | .int _ | .bool | .str | .unit => true
  | .arr _ => false
  | .vec _ e => e.flat
  | .pair a b => a.flat && b.flat

def dflt : (t : Ty) → t.den
  | .int _ => (0 : Int)
  | .bool => false
  | .str => ([] : List Int)
  | .arr e => ([] : List e.den)
  | .vec n e => (List.replicate n (dflt e) : List e.den)
  | .unit => ()
  | .pair a b => (dflt a, dflt b)

def cast? (t u : Ty) (x : t.den) : Option u.den :=
  match decEq t u with
  | isTrue h => some (h ▸ x)
  | isFalse _ => none

@[reducible] def dens : List Ty → Type
  | [] => Unit
  | [t] => t.den
  | t :: u :: ts => t.den × dens (u :: ts)

/-! ### Abstract values -/
inductive AV where
  | junk
  | und
  | tt
  | ff
  | d (t : Ty) (x : t.den)
  | fs (e : Ty) (xs : List e.den)
  | nils
  | agg (cs : List AV)
  | tup (cs : List AV)
  | fn (f : FuncId) (cap : List AV)
  | nilf
  | nilp
  | own (k off : Nat)
  | sl (k : Nat)
  | slp (k sz : Nat) (i : Int)
  | rp (t : Ty) (x : t.den)

inductive Blk where
  | gone
  | cells (cs : List AV)
  | grow (tid : TypeId) (e : Ty) (xs : List e.den)
  | kmap (es : List (Int × FuncId))

structure St where
  top : List AV
  below : List (List AV)
  heap : List Blk

def fget : List AV → Nat → AV
  | [], _ => .junk
  | a :: _, 0 => a
  | _ :: l, i + 1 => fget l i

def fset : List AV → Nat → AV → List AV
  | [], _, _ => []
  | _ :: l, 0, v => v :: l
  | a :: l, i + 1, v => a :: fset l i v

def hget : List Blk → Nat → Blk
  | [], _ => .gone
  | a :: _, 0 => a
  | _ :: l, i + 1 => hget l i

def hset : List Blk → Nat → Blk → List Blk
  | [], _, _ => []
  | _ :: l, 0, v => v :: l
  | a :: l, i + 1, v => a :: hset l i v

def St.put (s : St) (dst : Option Tmp) (v : AV) : St :=
  match dst with
  | some t => { s with top := fset s.top t v }
  | none => s

def inKind (k : IntKind) (n : Int) : Bool := decide (k.min ≤ n) && decide (n ≤ k.max)

def bytesOf (s : ByteArray) : List Int := s.data.toList.map fun b => (b.toNat : Int)

/-- A constant of one cell. -/
def ofV1 : Value → AV
  | .bool true => .tt
  | .bool false => .ff
  | .int k n => if inKind k n then .d (.int k) n else .junk
  | .string s => if s.size ≤ maxLen then .d .str (bytesOf s) else .junk
  | .slice none 0 0 => .nils
  | .nilFunc => .nilf
  | .pointer none => .nilp
  | _ => .junk

def ofVs : List Value → List AV
  | [] => []
  | v :: vs => ofV1 v :: ofVs vs

def ofV : Value → AV
  | .agg cs => if cs.toList.all Value.oneCell' then .agg (ofVs cs.toList) else .junk
  | v => ofV1 v

def ev (fr : List AV) : Operand → AV
  | .tmp t => fget fr t
  | .const v => ofV v
  | .global _ => .junk
  | .func f => .fn f []

def evs (fr : List AV) : List Operand → List AV
  | [] => []
  | o :: os => ev fr o :: evs fr os

/-! ### Substitution of an own slice -/
mutual
def sub (k : Nat) (r : AV) : AV → AV
  | .sl j => if Nat.beq j k then r else .sl j
  | .slp j sz i => if Nat.beq j k then .junk else .slp j sz i
  | .agg cs => .agg (subL k r cs)
  | .tup cs => .tup (subL k r cs)
  | .fn f cs => .fn f (subL k r cs)
  | v => v
def subL (k : Nat) (r : AV) : List AV → List AV
  | [] => []
  | c :: cs => sub k r c :: subL k r cs
end

def subF (k : Nat) (r : AV) : List (List AV) → List (List AV)
  | [] => []
  | f :: fs => subL k r f :: subF k r fs

def subH (k : Nat) (r : AV) : List Blk → List Blk
  | [] => []
  | .cells cs :: h => .cells (subL k r cs) :: subH k r h
  | b :: h => b :: subH k r h

def St.sub (s : St) (k : Nat) (r : AV) : St := { top := subL k r s.top, below := subF k r s.below, heap := subH k r s.heap }

/-- An own slice is given away: it is data from now on. -/
def St.freeze (s : St) (k : Nat) : St :=
  match hget s.heap k with
  | .grow _ e xs =>
    let s' := s.sub k (.d (.arr e) xs)
    { s' with heap := hset s'.heap k .gone }
  | _ => s

def refs1 : AV → List Nat
  | .sl k => [k]
  | _ => []

def refsL : List AV → List Nat
  | [] => []
  | c :: cs => refs1 c ++ refsL cs

def refs : AV → List Nat
  | .agg cs => refsL cs
  | v => refs1 v

def refsA : List AV → List Nat
  | [] => []
  | c :: cs => refs c ++ refsA cs

def noRefs' (l : List AV) : Bool := match refsA l with | [] => true | _ => false

def St.freezeAll (s : St) : List Nat → St
  | [] => s
  | k :: ks => (s.freeze k).freezeAll ks

/-! ### An abstract value as data of a type -/
def asD1 (h : List Blk) (t : Ty) : AV → Option t.den
  | .d u x => cast? u t x
  | .tt => match t with | .bool => some true | _ => none
  | .ff => match t with | .bool => some false | _ => none
  | .fs e xs => cast? (.arr e) t xs
  | .nils => match t with | .arr _ => some [] | _ => none
  | .sl k => match hget h k with
    | .grow _ e xs => cast? (.arr e) t xs
    | _ => none
  | _ => none

def takeN : Nat → List AV → List AV
  | 0, _ => []
  | _, [] => []
  | n + 1, a :: l => a :: takeN n l

def dropN : Nat → List AV → List AV
  | 0, l => l
  | _, [] => []
  | n + 1, _ :: l => dropN n l

def single (h : List Blk) (t : Ty) (cs : List AV) : Option t.den :=
  match cs with
  | [c] => asD1 h t c
  | _ => none

def asVec (h : List Blk) (e : Ty) : List AV → Option (List e.den)
  | [] => some []
  | c :: cs => match asD1 h e c with
    | some y => match asVec h e cs with
      | some ys => some (y :: ys)
      | none => none
    | none => none

def lenAV : List AV → Nat
  | [] => 0
  | _ :: l => lenAV l + 1

/-- Cells as data of a type. -/
def asCells (h : List Blk) : (t : Ty) → List AV → Option t.den
  | .pair a b, cs =>
    match asCells h a (takeN a.cells cs) with
    | some x => match asCells h b (dropN a.cells cs) with
      | some y => some (x, y)
      | none => none
    | none => none
  | .unit, cs => match cs with
    | [] => some ()
    | _ => none
  | .vec n e, cs => if e.small && Nat.beq (lenAV cs) n then asVec h e cs else none
  | .int k, cs => single h (.int k) cs
  | .bool, cs => single h .bool cs
  | .str, cs => single h .str cs
  | .arr e, cs => single h (.arr e) cs

def asD (h : List Blk) (t : Ty) : AV → Option t.den
  | .agg cs => if t.isAgg then asCells h t cs else none
  | v => asD1 h t v

def asDs (h : List Blk) : (ts : List Ty) → List AV → Option (dens ts)
  | [], [] => some ()
  | [t], [v] => asD h t v
  | t :: u :: ts, v :: vs =>
    match asD h t v with
    | some x => match asDs h (u :: ts) vs with
      | some y => some (x, y)
      | none => none
    | none => none
  | _, _ => none

def outs : (ts : List Ty) → dens ts → List AV
  | [], _ => []
  | [t], x => [.d t x]
  | t :: u :: ts, x => .d t x.1 :: outs (u :: ts) x.2

def outV (ts : List Ty) (x : dens ts) : AV :=
  match outs ts x with
  | [v] => v
  | vs => .tup vs

def flats : List Ty → Bool
  | [] => true
  | t :: ts => t.flat && flats ts

/-! ### Contracts, loops -/
structure FSpec where
  ps : List Ty
  rs : List Ty
  pre : dens ps → Prop
  post : dens ps → dens rs

/-- A function that hands back a slice of its own. -/
structure GSpec where
  ps : List Ty
  tid : TypeId
  e : Ty
  pre : dens ps → Prop
  post : dens ps → List e.den

/-- .. as data. -/
def GSpec.data (g : GSpec) : FSpec := ⟨g.ps, [.arr g.e], g.pre, g.post⟩

inductive LA where
  | slot (i : Nat) (t : Ty)
  | cell (k off : Nat) (t : Ty)
  | gslot (i : Nat) (tid : TypeId) (e : Ty)

def LA.ty : LA → Ty
  | .slot _ t | .cell _ _ t => t
  | .gslot _ _ e => .arr e

def laTys : List LA → List Ty
  | [] => []
  | a :: as => a.ty :: laTys as

/-- What becomes of a test whose outcome is not told: both ways; it is shown that it holds, or that it does not; the kernel reckons it. -/
inductive Mode where
  | split | yes | no | force

def Mode.flip : Mode → Mode
  | .yes => .no
  | .no => .yes
  | m => m

def splitB (m : Mode) (b : Bool) (p q : Prop) : Prop :=
  match m with
  | .split => (b = true → p) ∧ (b = false → q)
  | .yes => b = true ∧ p
  | .no => b = false ∧ q
  | .force => match b with | true => p | false => q

theorem splitB_sound {m : Mode} {b : Bool} {p q : Prop} (h : splitB m b p q) : (b = true → p) ∧ (b = false → q) := by
  cases m <;> cases b <;> simp_all [splitB]

/-- What is said of a function's text ahead of its walk: its loops' annotations, the tests in its regions and of its branches, which loops are walked round by round. -/
structure Hint where
  las : Nat → List LA
  mode : Nat → Mode
  cmode : Nat → Mode
  unr : Nat → Nat

def Hint.cond (H : Hint) : Operand → Mode
  | .tmp t => H.cmode t
  | _ => .split

structure Ctx where
  P : Program
  spec : FuncId → Option FSpec
  hint : FuncId → Hint
  ty : TypeId → Option Ty
  fresh : FuncId → Option GSpec
  ro : TypeId → Bool

/-- Whether values of a type are aggregates; how many cells they have. -/
def Ctx.lay (C : Ctx) (t : TypeId) : Option (Bool × Nat) :=
  match C.P.info? t with
  | none => none
  | some i => match C.P.underlying t with
    | some (.struct _) => some (true, i.size)
    | some (.array _ _) => some (true, i.size)
    | some _ => if Nat.beq i.size 1 then some (false, 1) else none
    | none => none

def Ctx.size (C : Ctx) (t : TypeId) : Option Nat :=
  match C.P.info? t with
  | some i => some i.size
  | none => none

def Ctx.zero (C : Ctx) (t : TypeId) : Option AV :=
  match C.P.info? t with
  | some i => match i.zero with
    | some v => some (ofV v)
    | none => none
  | none => none

/-! ### A type of the program against a type of data -/
mutual
def okT (P : Program) : Ty → TypeId → Bool
  | .int k, t => match P.underlying t with | some (.int k') => decide (k' = k) | _ => false
  | .bool, t => match P.underlying t with | some .bool => true | _ => false
  | .str, t => match P.underlying t with | some .string => true | _ => false
  | .arr e, t => match P.underlying t with
    | some (.slice et) => Nat.beq (P.cellsOf et) e.cells && Nat.ble 1 e.cells && okT P e et
    | _ => false
  | .vec n e, t => match P.underlying t with
    | some (.array m et) => Nat.beq m n && Nat.beq (P.cellsOf et) e.cells && Nat.beq (P.cellsOf t) (n * e.cells) && okT P e et
    | _ => false
  | .unit, _ => false
  | .pair a b, t => match P.underlying t with
    | some (.struct fs) => match fs.toList with
      | f :: fs => Nat.beq (P.cellsOf t) (a.cells + b.cells) && Nat.beq f.offset 0 && Nat.beq (P.cellsOf f.type) a.cells && okT P a f.type && okF P b fs a.cells
      | [] => false
    | _ => false
def okF (P : Program) : Ty → List Field → Nat → Bool
  | .pair a b, fs, off => match fs with
    | f :: fs => Nat.beq f.offset off && Nat.beq (P.cellsOf f.type) a.cells && okT P a f.type && okF P b fs (off + a.cells)
    | [] => false
  | .unit, fs, _ => match fs with | [] => true | _ => false
  | _, _, _ => false
end

def okTs (P : Program) : List Ty → List TypeId → Bool
  | [], [] => true
  | a :: as, t :: ts => okT P a t && okTs P as ts
  | _, _ => false

/-! ### Equality of data -/
def eqOk : Ty → Bool
  | .int _ | .bool | .str | .unit => true
  | .vec _ (.int _) => true
  | .pair a b => eqOk a && eqOk b
  | _ => false

def eqD : (t : Ty) → t.den → t.den → Bool
  | .int _, x, y => decide ((x : Int) = y)
  | .bool, x, y => x == y
  | .str, x, y => decide ((x : List Int) = y)
  | .vec _ (.int _), x, y => decide ((x : List Int) = y)
  | .pair a b, x, y => eqD a x.1 y.1 && eqD b x.2 y.2
  | .unit, _, _ => true
  | _, _, _ => false

/-! ### Operations -/
structure Out where
  need : Option Prop
  v : AV
  heap : List Blk
  kill : Option Nat

def cellsOf : AV → Option (List AV)
  | .agg cs => some cs
  | .junk | .und | .tup _ => none
  | .sl k => some [.sl k]
  | .d t x => if t.isAgg then none else some [.d t x]
  | v => some [v]

def vecCells (e : Ty) (xs : List e.den) : Nat → Nat → List AV
  | _, 0 => []
  | i, m + 1 => .d e (xs.getD i (dflt e)) :: vecCells e xs (i + 1) m

/-- The cells of data of an aggregate type. -/
def splitD : (t : Ty) → t.den → Option (List AV)
  | .pair a b, x =>
    match splitD a x.1 with
    | some l => match splitD b x.2 with
      | some m => some (l ++ m)
      | none => none
    | none => none
  | .unit, _ => some []
  | .vec n e, x => if e.small then some (vecCells e x 0 n) else none
  | t, x => some [.d t x]

def cellsOf' : AV → Option (List AV)
  | .d t x => splitD t x
  | v => cellsOf v

def subD : (t : Ty) → t.den → (off sz : Nat) → (ag : Bool) → Option AV
  | .pair a b, x, off, sz, ag =>
    if Nat.beq off 0 && Nat.beq (a.cells + b.cells) sz && ag then some (.d (.pair a b) x)
    else if Nat.ble (off + sz) a.cells then subD a x.1 off sz ag
    else if Nat.ble a.cells off then subD b x.2 (off - a.cells) sz ag
    else none
  | t, x, off, sz, ag => if Nat.beq off 0 && Nat.beq t.cells sz && (t.isAgg == ag) then some (.d t x) else none

def toRp : AV → Option AV
  | .d t x => some (.rp t x)
  | _ => none

def listLen : List AV → Nat
  | [] => 0
  | _ :: l => listLen l + 1

def hlen : List Blk → Nat
  | [] => 0
  | _ :: l => hlen l + 1

def setCells : List AV → Nat → List AV → List AV
  | cs, _, [] => cs
  | cs, off, v :: vs => setCells (fset cs off v) (off + 1) vs

def isI64 (n : Int) : Prop := -9223372036854775808 ≤ n ∧ n ≤ 9223372036854775807

def boolAV (b : Bool) : AV := .d .bool b

def asB : AV → Option Bool
  | .tt => some true
  | .ff => some false
  | .d .bool b => some b
  | _ => none

def ok0 (h : List Blk) (v : AV) : Option Out := some ⟨none, v, h, none⟩
def okP (h : List Blk) (p : Prop) (v : AV) : Option Out := some ⟨some p, v, h, none⟩

/-- An integer's operation: int's own are asked to fit; all others wrap. -/
def arith (h : List Blk) (k : IntKind) (n : Int) : Option Out :=
  match k with
  | .i64 => okP h (isI64 n) (.d (.int .i64) n)
  | k => ok0 h (.d (.int k) (k.wrap n))

def bitsOp (op : BinOp) (k : IntKind) (a b : Int) : Int :=
  match op with
  | .and => k.wrap (BitVec.ofInt k.bits a &&& BitVec.ofInt k.bits b).toNat
  | .or => k.wrap (BitVec.ofInt k.bits a ||| BitVec.ofInt k.bits b).toNat
  | .xor => k.wrap (BitVec.ofInt k.bits a ^^^ BitVec.ofInt k.bits b).toNat
  | _ => k.wrap (BitVec.ofInt k.bits a &&& ~~~(BitVec.ofInt k.bits b)).toNat

def ibin (h : List Blk) (op : BinOp) (k k' : IntKind) (a b : Int) : Option Out :=
  match op with
  | .shl => match k with
    | .i64 => okP h (0 ≤ b ∧ b ≤ 63 ∧ isI64 (a * 2 ^ b.toNat)) (.d (.int .i64) (a * 2 ^ b.toNat))
    | k => okP h (0 ≤ b ∧ b ≤ k.bits) (.d (.int k) (k.wrap (a * 2 ^ b.toNat)))
  | .shr => okP h (0 ≤ b ∧ b ≤ k.bits) (.d (.int k) (a / 2 ^ b.toNat))
  | op => if k = k' then
      match op with
      | .add => arith h k (a + b)
      | .sub => arith h k (a - b)
      | .mul => arith h k (a * b)
      | .quo => match k with
        | .i64 => okP h (b ≠ 0 ∧ isI64 (a.tdiv b)) (.d (.int .i64) (a.tdiv b))
        | k => okP h (b ≠ 0) (.d (.int k) (k.wrap (a.tdiv b)))
      | .rem => okP h (b ≠ 0) (.d (.int k) (a.tmod b))
      | .and => ok0 h (.d (.int k) (bitsOp .and k a b))
      | .or => ok0 h (.d (.int k) (bitsOp .or k a b))
      | .xor => ok0 h (.d (.int k) (bitsOp .xor k a b))
      | .andNot => ok0 h (.d (.int k) (bitsOp .andNot k a b))
      | .eql => ok0 h (boolAV (decide (a = b)))
      | .neq => ok0 h (boolAV (!decide (a = b)))
      | .lss => ok0 h (boolAV (decide (a < b)))
      | .leq => ok0 h (boolAV (decide (a ≤ b)))
      | .gtr => ok0 h (boolAV (decide (b < a)))
      | .geq => ok0 h (boolAV (decide (b ≤ a)))
      | _ => none
    else none

def isBoolT (C : Ctx) (t : TypeId) : Bool :=
  match C.P.underlying t with
  | some .bool => true
  | _ => false

def abin (C : Ctx) (h : List Blk) (op : BinOp) (xt : TypeId) (x y : AV) : Option Out :=
  match x, y with
  | .d (.int k) a, .d (.int k') b => ibin h op k k' a b
  | .d .str a, .d .str b =>
    match op with
    | .eql => ok0 h (boolAV (decide (a = b)))
    | .neq => ok0 h (boolAV (!decide (a = b)))
    | _ => none
  | x, y =>
    if isBoolT C xt then
      match asB x, asB y, op with
      | some a, some b, .eql => ok0 h (boolAV (a == b))
      | some a, some b, .neq => ok0 h (boolAV (a != b))
      | _, _, _ => none
    else none

/-- Two structs or arrays, whether they are equal. -/
def abinAgg (C : Ctx) (h : List Blk) (op : BinOp) (xt : TypeId) (x y : AV) : Option Out :=
  match C.ty xt with
  | some ty => if ty.isAgg && eqOk ty && okT C.P ty xt && C.P.keyTypeAt 100 xt && !(C.P.eqGuardType C.P.depth xt) && noRefs' [x, y] then
      match asD h ty x, asD h ty y with
      | some a, some b => match op with
        | .eql => ok0 h (boolAV (eqD ty a b))
        | .neq => ok0 h (boolAV (!eqD ty a b))
        | _ => none
      | _, _ => none
    else none
  | none => none

def aun (h : List Blk) (op : UnOp) (x : AV) : Option Out :=
  match op, x with
  | .not, .tt => ok0 h .ff
  | .not, .ff => ok0 h .tt
  | .not, .d .bool b => ok0 h (boolAV (!b))
  | .neg, .d (.int k) n => arith h k (0 - n)
  | _, _ => none

/-- What a slice reads as. -/
def asList (h : List Blk) : AV → Option ((e : Ty) × List e.den)
  | .d (.arr e) xs => some ⟨e, xs⟩
  | .fs e xs => some ⟨e, xs⟩
  | .sl k => match hget h k with
    | .grow _ e xs => some ⟨e, xs⟩
    | _ => none
  | _ => none

def alen (C : Ctx) (h : List Blk) (t : TypeId) (x : AV) : Option Out :=
  match C.P.underlying t, x with
  | some .string, .d .str l => ok0 h (.d (.int .i64) (l.length : Int))
  | some (.slice _), .nils => ok0 h (.d (.int .i64) (0 : Int))
  | some (.slice _), x => match asList h x with
    | some ⟨_, xs⟩ => ok0 h (.d (.int .i64) (xs.length : Int))
    | none => none
  | _, _ => none

def foldMin : List AV → Int → Option Int
  | [], n => some n
  | .d (.int .i64) m :: l, n => foldMin l (min n m)
  | _, _ => none
def foldMax : List AV → Int → Option Int
  | [], n => some n
  | .d (.int .i64) m :: l, n => foldMax l (max n m)
  | _, _ => none

/-- The elements that an append appends. -/
def asTail (C : Ctx) (h : List Blk) (e : Ty) (t : TypeId) (y : AV) : Option (List e.den) :=
  match C.P.underlying t, y with
  | some (.slice _), .nils => some []
  | some .string, .d .str l => cast? (.arr (.int .u8)) (.arr e) l
  | some (.slice _), x => match asList h x with
    | some ⟨u, xs⟩ => cast? (.arr u) (.arr e) xs
    | none => none
  | _, _ => none

def elemOf (C : Ctx) (t : TypeId) : Option TypeId :=
  match C.P.underlying t with
  | some (.slice e) => some e
  | _ => none

/-- A type's zero value has as many cells as its data. -/
def zeroOk (e : Ty) (z : AV) : Bool :=
  match cellsOf' z with
  | some l => Nat.beq (listLen l) e.cells
  | none => false

def roomP (C : Ctx) (tid : TypeId) (n : Nat) : Prop := n * (C.P.bytesOf tid) ≤ 140737488355328 ∧ n ≤ 9223372036854775807

/-- Whether an append to a slice of full capacity looks at the tail first. -/
def Ctx.tailFirst (C : Ctx) : Bool := Nat.beq ((C.hint 999999999).unr 0) 77

def aappendTo (C : Ctx) (h : List Blk) (tx tid : TypeId) (sz : Nat) (z : AV) (x y : AV) : Option Out :=
  match x with
  | .nils =>
    match C.ty tid with
    | none => none
    | some e =>
    match asTail C h e tx y with
    | some ys => if Nat.beq e.cells sz && zeroOk e z then some ⟨some (roomP C tid ys.length), .sl (hlen h), h ++ [.grow tid e ys], none⟩ else none
    | none => none
  | .sl k =>
    match hget h k with
    | .grow tid' e xs =>
      match asTail C h e tx y with
      | some ys =>
        if Nat.beq tid tid' && Nat.beq e.cells sz && zeroOk e z then
          some ⟨some (roomP C tid (xs.length + ys.length)), .sl k, hset h k (.grow tid e (xs ++ ys)), some k⟩
        else none
      | none => none
    | _ => none
  | .fs e xs =>
    match asTail C h e tx y with
    | some ys =>
      if Nat.beq e.cells sz && zeroOk e z then
        bif C.tailFirst then
          match ys with
          | [] => some ⟨none, .fs e xs, h, none⟩
          | y :: ys => some ⟨some (roomP C tid (xs.length + (y :: ys).length)), .sl (hlen h), h ++ [.grow tid e (xs ++ y :: ys)], none⟩
        else match xs, ys with
        | [], ys => some ⟨some (roomP C tid ys.length), .sl (hlen h), h ++ [.grow tid e ys], none⟩
        | x :: xs, y :: ys => some ⟨some (roomP C tid ((x :: xs).length + (y :: ys).length)), .sl (hlen h), h ++ [.grow tid e (x :: xs ++ y :: ys)], none⟩
        | _ :: _, [] => none
      else none
    | none => none
  | _ => none

def aappend (C : Ctx) (h : List Blk) (t tx : TypeId) (x y : AV) : Option Out :=
  match elemOf C t with
  | none => none
  | some tid =>
    match C.size tid, C.zero tid with
    | some sz, some z => aappendTo C h tx tid sz z x y
    | _, _ => none

def abuiltin (C : Ctx) (h : List Blk) (b : Builtin) (ts : List TypeId) (args : List AV) : Option Out :=
  match b, args with
  | .len, [x] => match ts with | [t] => alen C h t x | _ => none
  | .min, .d (.int .i64) n :: l => match foldMin l n with | some m => ok0 h (.d (.int .i64) m) | none => none
  | .max, .d (.int .i64) n :: l => match foldMax l n with | some m => ok0 h (.d (.int .i64) m) | none => none
  | .append, [x, y] => match ts with | [t, tx] => aappend C h t tx x y | _ => none
  | _, _ => none

def ainterp (low high max : Option AV) : Option (Int × Option Int × Option Int) :=
  match low, high, max with
  | none, none, none => some (0, none, none)
  | some (.d (.int _) l), none, none => some (l, none, none)
  | none, some (.d (.int _) n), none => some (0, some n, none)
  | some (.d (.int _) l), some (.d (.int _) n), none => some (l, some n, none)
  | none, some (.d (.int _) n), some (.d (.int _) m) => some (0, some n, some m)
  | some (.d (.int _) l), some (.d (.int _) n), some (.d (.int _) m) => some (l, some n, some m)
  | _, _, _ => none

def arrayOf (C : Ctx) (t : TypeId) : Option (Nat × TypeId) :=
  match C.P.underlying t with
  | some (.array n e) => some (n, e)
  | _ => none

/-- A whole array that is only read, as a slice. -/
def asliceArr (C : Ctx) (h : List Blk) (t : TypeId) (x : AV) (low high max : Option AV) : Option Out :=
  match arrayOf C t, low, high, max with
  | some (n, et), none, none, none => match C.size et, x with
    | some sz, .rp (.vec m e) xs => if Nat.beq e.cells sz && Nat.beq m n && Nat.ble n 16777216 then ok0 h (.fs e xs) else none
    | _, _ => none
  | _, _, _, _ => none

def aslice0 (C : Ctx) (h : List Blk) (t : TypeId) (x : AV) (low high max : Option AV) : Option Out :=
  match ainterp low high max with
  | none => none
  | some (l, hi, mx) =>
    match C.P.underlying t, x with
    | some .string, .d .str s =>
      match hi, mx with
      | none, none => okP h (0 ≤ l ∧ l ≤ s.length) (.d .str (s.drop l.toNat))
      | some n, none => okP h (0 ≤ l ∧ l ≤ n ∧ n ≤ s.length) (.d .str ((s.drop l.toNat).take (n.toNat - l.toNat)))
      | _, _ => none
    | some (.slice _), .sl _ => none
    | some (.slice tid), x =>
      match asList h x, C.size tid with
      | some ⟨e, xs⟩, some sz =>
        if Nat.beq sz e.cells then
          match hi, mx with
          | none, none => okP h (0 ≤ l ∧ l ≤ xs.length) (.d (.arr e) ((xs.drop l.toNat).take (xs.length - l.toNat)))
          | some n, none => okP h (0 ≤ l ∧ l ≤ n ∧ n ≤ xs.length) (.d (.arr e) ((xs.drop l.toNat).take (n.toNat - l.toNat)))
          | some n, some m => okP h (0 ≤ l ∧ l ≤ n ∧ n ≤ xs.length ∧ m = n) (.fs e ((xs.drop l.toNat).take (n.toNat - l.toNat)))
          | _, _ => none
        else none
      | _, _ => none
    | _, _ => none

def aslice (C : Ctx) (h : List Blk) (t : TypeId) (x : AV) (low high max : Option AV) : Option Out :=
  match x with
  | .rp _ _ => asliceArr C h t x low high max
  | x => aslice0 C h t x low high max

def partsOf (e : Ty) (h : List Blk) : List AV → Option (List e.den)
  | [] => some []
  | v :: vs => match asD h e v with
    | some x => match partsOf e h vs with
      | some xs => some (x :: xs)
      | none => none
    | none => none

/-- The parts of a literal are numbered 0, 1, .. -/
def inOrder : Nat → List (Nat × Operand) → Bool
  | _, [] => true
  | n, (i, _) :: l => Nat.beq i n && inOrder (n + 1) l

def seconds : List (Nat × Operand) → List Operand
  | [] => []
  | (_, o) :: l => o :: seconds l

def fillA (place : Nat → Option (Nat × Nat)) (cs : List AV) : List (Nat × AV) → Option (List AV)
  | [] => some cs
  | (i, v) :: rest =>
    match place i with
    | none => none
    | some (off, size) =>
      match cellsOf' v with
      | none => none
      | some l => if Nat.beq (listLen l) size && Nat.ble (off + size) (listLen cs) then fillA place (setCells cs off l) rest else none

def evParts (fr : List AV) : List (Nat × Operand) → List (Nat × AV)
  | [] => []
  | (i, o) :: l => (i, ev fr o) :: evParts fr l

def optEv (fr : List AV) : Option Operand → Option AV
  | none => none
  | some o => some (ev fr o)

def fieldOf (C : Ctx) (t : TypeId) (f : Nat) : Option Field :=
  match C.P.underlying t with
  | some (.struct fs) => fs[f]?
  | _ => none

def loadOwn (C : Ctx) (t : TypeId) (cs : List AV) (off : Nat) : Option AV :=
  match C.lay t with
  | some (true, sz) => if Nat.ble (off + sz) (listLen cs) then some (.agg (takeN sz (dropN off cs))) else none
  | some (false, _) => if Nat.ble (off + 1) (listLen cs) then some (fget cs off) else none
  | none => none

def placesOf (C : Ctx) (fs : List Field) : Option (List (Nat × Nat)) := fs.mapM fun f => (C.P.info? f.type).map fun i => (f.offset, i.size)

def aload (C : Ctx) (h : List Blk) (t : TypeId) (x : AV) : Option Out :=
  match x with
  | .own k off => match hget h k with
    | .cells cs => match loadOwn C t cs off with
      | some v => ok0 h v
      | none => none
    | _ => none
  | .slp k sz i => match hget h k with
    | .grow _ e xs => match C.lay t with
      | some (ag, n) => if Nat.beq n e.cells && Nat.beq n sz && (ag == e.isAgg) then ok0 h (.d e (xs.getD i.toNat (dflt e))) else none
      | none => none
    | _ => none
  | .rp u x => match C.lay t with
    | some (ag, n) => if Nat.beq n u.cells && (ag == u.isAgg) then ok0 h (.d u x) else none
    | none => none
  | _ => none

def noRefs (l : List AV) : Bool := match refsA l with | [] => true | _ => false

def apick (h : List Blk) (c a b : AV) : Option Out :=
  match c with
  | .tt => ok0 h a
  | .ff => ok0 h b
  | .d .bool x => match asB a, asB b with
    | some y, some z => ok0 h (boolAV (bif x then y else z))
    | _, _ => none
  | _ => none

def abuild (C : Ctx) (h : List Blk) (t : TypeId) (parts : List (Nat × AV)) : Option Out :=
  match C.P.underlying t with
  | some (.struct fs) =>
    match C.zero t, placesOf C fs.toList with
    | some (.agg zs), some ps =>
      match fillA (fun i => ps.toArray[i]?) zs parts with
      | some cs => ok0 h (.agg cs)
      | none => none
    | _, _ => none
  | some (.array _ et) =>
    match C.zero t, C.size et with
    | some (.agg zs), some sz =>
      match fillA (fun i => some (i * sz, sz)) zs parts with
      | some cs => ok0 h (.agg cs)
      | none => none
    | _, _ => none
  | _ => none

def abuildSlice (C : Ctx) (h : List Blk) (t : TypeId) (len : Nat) (parts : List (Nat × Operand)) (vs : List AV) : Option Out :=
  match elemOf C t with
  | some tid => match C.ty tid, C.size tid with
    | some e, some sz =>
      if Nat.beq e.cells sz && inOrder 0 parts && Nat.beq (listLen vs) len && Nat.ble (len * sz) 16777216 && Nat.ble len 16777216 && noRefs vs then
        match partsOf e h vs, C.zero tid with
        | some xs, some _ => ok0 h (.fs e xs)
        | _, _ => none
      else none
    | _, _ => none
  | none => none

def astore (C : Ctx) (h : List Blk) (t : TypeId) (a x : AV) : Option Out :=
  match a with
  | .own k off => match hget h k with
    | .cells cs => match cellsOf' x, C.size t with
      | some l, some sz => if Nat.beq (listLen l) sz && Nat.ble (off + sz) (listLen cs) then some ⟨none, .und, hset h k (.cells (setCells cs off l)), none⟩ else none
      | _, _ => none
    | _ => none
  | .slp k sz i => match hget h k with
    | .grow tid e xs => match asD h e x, C.size t with
      | some y, some n => if Nat.beq n e.cells && Nat.beq n sz && noRefs [x] then some ⟨none, .und, hset h k (.grow tid e (xs.set i.toNat y)), none⟩ else none
      | _, _ => none
    | _ => none
  | _ => none

def anil (h : List Blk) (x : AV) : Option Out :=
  match x with
  | .own k off => ok0 h (.own k off)
  | .rp t x => ok0 h (.rp t x)
  | .slp k sz i => ok0 h (.slp k sz i)
  | _ => none

def aconvert (C : Ctx) (h : List Blk) (src dst : TypeId) (x : AV) : Option Out :=
  match C.P.underlying src, C.P.underlying dst with
  | some (.int _), some (.int k) => match x with
    | .d (.int j) n =>
      match k, j with
      | .i64, .i64 => ok0 h (.d (.int .i64) n)
      | k, _ => ok0 h (.d (.int k) (k.wrap n))
    | _ => none
  | some (.slice et), some .string => match C.P.underlying et with
    | some (.int .u8) => match x with
      | .nils => ok0 h (.d .str [])
      | x => match asList h x with
        | some ⟨e, xs⟩ => match cast? (.arr e) (.arr (.int .u8)) xs with
          | some ys => ok0 h (.d .str ys)
          | none => none
        | none => none
    | _ => none
  | _, _ => none

def amake (C : Ctx) (h : List Blk) (t : TypeId) (l c : AV) : Option Out :=
  match elemOf C t with
  | some tid => match C.ty tid, C.size tid, C.zero tid, l, c with
    | some e, some sz, some z, .d (.int .i64) n, .d (.int .i64) m =>
      if Nat.beq e.cells sz && zeroOk e z then
        match asD [] e z with
        | some x => some ⟨some (0 ≤ n ∧ n ≤ m ∧ roomP C tid m.toNat), .sl (hlen h), h ++ [.grow tid e (List.replicate n.toNat x)], none⟩
        | none => none
      else none
    | _, _, _, _, _ => none
  | none => none

def afieldAddr (C : Ctx) (h : List Blk) (t : TypeId) (x : AV) (f : Nat) : Option Out :=
  match fieldOf C t f with
  | some fd => match C.lay fd.type with
    | some (ag, sz) => match x with
      | .own k off => if Nat.ble 1 sz then ok0 h (.own k (off + fd.offset)) else none
      | .rp u y => if Nat.ble 1 sz then match subD u y fd.offset sz ag with
        | some (.d u' y') => ok0 h (.rp u' y')
        | _ => none
        else none
      | _ => none
    | none => none
  | none => none

def afield (C : Ctx) (h : List Blk) (t : TypeId) (x : AV) (f : Nat) : Option Out :=
  match fieldOf C t f with
  | some fd => match C.lay fd.type with
    | some (ag, sz) => match x with
      | .agg cs => match loadOwn C fd.type cs fd.offset with
        | some v => ok0 h v
        | none => none
      | .d u y => if u.isAgg then
          match subD u y fd.offset sz ag with
          | some v => ok0 h v
          | none => none
        else none
      | _ => none
    | none => none
  | none => none

def aindexArr (C : Ctx) (h : List Blk) (t : TypeId) (x : AV) (i : Int) : Option Out :=
  match arrayOf C t with
  | some (n, et) => match C.size et with
    | some sz => match x with
      | .own k off => okP h (0 ≤ i ∧ i < (n : Int)) (.own k (off + i.toNat * sz))
      | .rp (.vec m e) xs => if Nat.beq e.cells sz && Nat.beq m n then okP h (0 ≤ i ∧ i < (n : Int)) (.rp e (xs.getD i.toNat (dflt e))) else none
      | _ => none
    | none => none
  | none => none

def aindexAddr (C : Ctx) (h : List Blk) (t : TypeId) (x ix : AV) : Option Out :=
  match elemOf C t, ix with
  | some tid, .d (.int _) i => match C.size tid with
    | some sz => match x with
      | .sl k => match hget h k with
        | .grow _ e xs => if Nat.beq e.cells sz then okP h (0 ≤ i ∧ i < xs.length) (.slp k sz i) else none
        | _ => none
      | x => match asList h x with
        | some ⟨e, xs⟩ => if Nat.beq e.cells sz then okP h (0 ≤ i ∧ i < xs.length) (.rp e (xs.getD i.toNat (dflt e))) else none
        | none => none
    | none => none
  | none, .d (.int _) i => aindexArr C h t x i
  | _, _ => none

def aindex (C : Ctx) (h : List Blk) (t : TypeId) (x ix : AV) : Option Out :=
  match C.P.underlying t, x, ix with
  | some .string, .d .str s, .d (.int _) i => okP h (0 ≤ i ∧ i < s.length) (.d (.int .u8) (s.getD i.toNat 0))
  | _, _, _ => none

/-- A slice's beginning, as an array that is only read. -/
def aarrayAt (C : Ctx) (h : List Blk) (t : TypeId) (x : AV) : Option Out :=
  match arrayOf C t with
  | some (n, et) => match C.size et with
    | some sz => match x with
      | .sl _ => none
      | x => match asList h x with
        | some ⟨e, xs⟩ => if Nat.beq e.cells sz && Nat.ble 1 n then okP h ((n : Int) ≤ xs.length) (.rp (.vec n e) (xs.take n)) else none
        | none => none
    | none => none
  | none => none

def aextract (h : List Blk) (x : AV) (i : Nat) : Option Out :=
  match x with
  | .tup cs => if Nat.ble (i + 1) (listLen cs) then ok0 h (fget cs i) else none
  | _ => none

def aalloc (C : Ctx) (h : List Blk) (t : TypeId) : Option Out :=
  match C.zero t with
  | some z => match cellsOf' z with
    | some cs => some ⟨none, .own (hlen h) 0, h ++ [.cells cs], none⟩
    | none => none
  | none => none

/-- A box that is only read. -/
def abox' (C : Ctx) (h : List Blk) (t : TypeId) (x : AV) : Option Out :=
  match x with
  | .d u y => if C.ro t && u.isAgg then ok0 h (.rp u y) else none
  | _ => none

def abox (h : List Blk) (x : AV) : Option Out :=
  match cellsOf' x with
  | some cs => some ⟨none, .own (hlen h) 0, h ++ [.cells cs], none⟩
  | none => none

/-- A map with integers as keys: its elements' type. -/
def intMap (C : Ctx) (t : TypeId) : Option TypeId :=
  match C.P.underlying t with
  | some (.map kt et) => match C.P.underlying kt with
    | some (.int .i64) => some et
    | _ => none
  | _ => none

def notInK (n : Int) : List (Int × FuncId) → Bool
  | [] => true
  | (m, _) :: es => !(decide (n = m)) && notInK n es

def ainsert (C : Ctx) (h : List Blk) (t : TypeId) (m key v : AV) : Option Out :=
  match intMap C t, m, key, v with
  | some _, .sl k, .d (.int .i64) n, .fn f [] => match hget h k with
    | .kmap es => if notInK n es then some ⟨none, .und, hset h k (.kmap (es ++ [(n, f)])), none⟩ else none
    | _ => none
  | _, _, _, _ => none

def aop (C : Ctx) (fr : List AV) (h : List Blk) (op : Op) : Option Out :=
  match op with
  | .move x | .assign x => ok0 h (ev fr x)
  | .pick c a b => apick h (ev fr c) (ev fr a) (ev fr b)
  | .alloc t => aalloc C h t
  | .box t x => match abox' C h t (ev fr x) with
    | some r => some r
    | none => abox h (ev fr x)
  | .build t parts => abuild C h t (evParts fr parts.toList)
  | .buildSlice t len parts => abuildSlice C h t len parts.toList (evs fr (seconds parts.toList))
  | .load t a => aload C h t (ev fr a)
  | .store t a x => astore C h t (ev fr a) (ev fr x)
  | .nilCheck x => anil h (ev fr x)
  | .binOp op xt x y _ => match abinAgg C h op xt (ev fr x) (ev fr y) with
    | some r => some r
    | none => abin C h op xt (ev fr x) (ev fr y)
  | .unOp op _ x => aun h op (ev fr x)
  | .convert src dst x => aconvert C h src dst (ev fr x)
  | .makeFunc (.func f) first caps => if Nat.beq first.size 0 then ok0 h (.fn f (evs fr caps.toList)) else none
  | .makeSlice t l c => amake C h t (ev fr l) (ev fr c)
  | .sliceToArrayPointer t x => aarrayAt C h t (ev fr x)
  | .slice t x lo hi mx => aslice C h t (ev fr x) (optEv fr lo) (optEv fr hi) (optEv fr mx)
  | .fieldAddr t x f => afieldAddr C h t (ev fr x) f
  | .field t x f => afield C h t (ev fr x) f
  | .indexAddr t x ix => aindexAddr C h t (ev fr x) (ev fr ix)
  | .index t x ix => aindex C h t (ev fr x) (ev fr ix)
  | .extract x i => aextract h (ev fr x) i
  | .makeMap t none => match intMap C t with
    | some _ => some ⟨none, .sl (hlen h), h ++ [.kmap []], none⟩
    | none => none
  | .insert t m key v => ainsert C h t (ev fr m) (ev fr key) (ev fr v)
  | .call c => match c.callee with
    | .builtin b => abuiltin C h b c.argTypes.toList (evs fr c.args.toList)
    | _ => none
  | _ => none

/-! ### Lists of operations, code, calls -/
abbrev CallT := FuncId → List AV → St → (AV → St → Prop) → Prop

def needs (p : Option Prop) (q : Prop) : Prop :=
  match p with
  | none => q
  | some p => p ∧ q

def St.apply (s : St) (o : Out) : St :=
  match o.kill with
  | none => { s with heap := o.heap }
  | some k => { top := subL k .junk s.top, below := subF k .junk s.below, heap := subH k .junk o.heap }

/-- A function that a call enters. -/
def enterOk (C : Ctx) (g : FuncId) : Bool :=
  match C.P.funcs[g]? with
  | some fn => fn.body.isSome && !(fn.name == "runtime.NumGoroutine")
  | none => false

/-- A slice held against nil: an empty one may be nil. -/
def anilCmp (C : Ctx) (o : Oper) (s : St) (k : St → Prop) : Prop :=
  match o.op with
  | .binOp op xt x y _ =>
    match elemOf C xt, ev s.top y with
    | some _, .nils => match asList s.heap (ev s.top x) with
      | some ⟨_, xs⟩ => match op with
        | .eql => ∀ b : Bool, (b = true → xs = []) → k (s.put o.dst (.d .bool b))
        | .neq => ∀ b : Bool, (b = true → xs = []) → k (s.put o.dst (.d .bool (!b)))
        | _ => False
      | none => False
    | _, _ => False
  | _ => False

/-- What a key leads to. -/
def forkK (x : Int) (k : AV → Prop) (z : AV) : List (Int × FuncId) → Prop
  | [] => k z
  | (n, f) :: es => (x = n → k (.fn f [])) ∧ (¬ x = n → forkK x k z es)

def alookup (C : Ctx) (o : Oper) (s : St) (k : St → Prop) : Prop :=
  match o.op with
  | .lookup t m i false =>
    match intMap C t with
    | none => False
    | some et => match ev s.top m, ev s.top i with
      | .sl j, .d (.int .i64) x => match hget s.heap j, C.zero et with
        | .kmap es, some z => forkK x (fun v => k (s.put o.dst v)) z es
        | _, _ => False
      | _, _ => False
  | _ => False

/-- An own slice that is sliced is given away first. -/
def afreeze (C : Ctx) (o : Oper) (s : St) (k : St → Prop) : Prop :=
  match o.op with
  | .slice _ x _ _ _ =>
    match ev s.top x with
    | .sl j => match aop C (s.freeze j).top (s.freeze j).heap o.op with
      | some r => needs r.need (k (((s.freeze j).apply r).put o.dst r.v))
      | none => False
    | _ => False
  | _ => False

def aext (C : Ctx) (o : Oper) (s : St) (k : St → Prop) : Prop :=
  match o.op with
  | .lookup _ _ _ _ => alookup C o s k
  | .slice _ _ _ _ _ => afreeze C o s k
  | _ => anilCmp C o s k

def astep (C : Ctx) (call : CallT) (o : Oper) (s : St) (k : St → Prop) : Prop :=
  match o.op with
  | .call { callee := .value f, args, .. } =>
    match ev s.top f with
    | .fn g cap => if enterOk C g then call g (evs s.top args.toList ++ cap) s (fun v s' => k (s'.put o.dst v)) else False
    | _ => False
  | op =>
    match aop C s.top s.heap op with
    | some r => needs r.need (k ((s.apply r).put o.dst r.v))
    | none => aext C o s k

def guardTmp (all : Array Oper) (j : Nat) : Option Tmp :=
  match all[j]? with
  | some o => o.dst
  | none => none

def aops (C : Ctx) (call : CallT) (m : Mode) (all : Array Oper) : List Oper → St → (St → Prop) → Prop
  | [], s, k => k s
  | o :: rest, s, k =>
    match o.guard with
    | none => astep C call o s (fun s' => aops C call m all rest s' k)
    | some (j, want) =>
      match guardTmp all j with
      | none => False
      | some t =>
        match fget s.top t with
        | .tt => match want with
          | true => astep C call o s (fun s' => aops C call m all rest s' k)
          | false => aops C call m all rest (s.put o.dst .und) k
        | .ff => match want with
          | false => astep C call o s (fun s' => aops C call m all rest s' k)
          | true => aops C call m all rest (s.put o.dst .und) k
        | .und => aops C call m all rest (s.put o.dst .und) k
        | .d .bool b =>
          match want with
          | true => splitB m b (astep C call o (s.put (some t) .tt) (fun s' => aops C call m all rest s' k))
              (aops C call m all rest ((s.put (some t) .ff).put o.dst .und) k)
          | false => splitB m.flip b (aops C call m all rest ((s.put (some t) .tt).put o.dst .und) k)
              (astep C call o (s.put (some t) .ff) (fun s' => aops C call m all rest s' k))
        | _ => False

/-! ### Regions that draw their order -/
def neutral : Op → Bool
  | .move _ | .assign _ | .pick _ _ _ | .build _ _ | .buildSlice _ _ _ | .load _ _ | .nilCheck _ | .binOp _ _ _ _ _ | .unOp _ _ _ | .convert _ _ _
  | .makeFunc _ _ _ | .sliceToArrayPointer _ _ | .slice _ _ _ _ _ | .fieldAddr _ _ _ | .field _ _ _ | .indexAddr _ _ _ | .index _ _ _ | .extract _ _ => true
  | .call { callee := .builtin .len, .. } | .call { callee := .builtin .min, .. } | .call { callee := .builtin .max, .. } => true
  | _ => false

def nstep (C : Ctx) (o : Oper) (s : St) (k : St → Prop) : Prop :=
  match o.op with
  | .call { callee := .value f, args, .. } =>
    match ev s.top f with
    | .fn g [] => match C.spec g with
      | some sp =>
        if (flats sp.rs || noRefs (evs s.top args.toList)) && enterOk C g then
          match asDs s.heap sp.ps (evs s.top args.toList) with
          | some x => sp.pre x ∧ k (s.put o.dst (outV sp.rs (sp.post x)))
          | none => False
        else False
      | none => False
    | _ => False
  | op =>
    if neutral op then
      match aop C s.top s.heap op with
      | some r => needs r.need (k (s.put o.dst r.v))
      | none => False
    else False

def dops (C : Ctx) (m : Mode) (all : Array Oper) : List Oper → St → (St → Prop) → Prop
  | [], s, k => k s
  | o :: rest, s, k =>
    match o.guard with
    | none => nstep C o s (fun s' => dops C m all rest s' k)
    | some (j, want) =>
      match guardTmp all j with
      | none => False
      | some t =>
        match fget s.top t with
        | .tt => match want with
          | true => nstep C o s (fun s' => dops C m all rest s' k)
          | false => dops C m all rest (s.put o.dst .und) k
        | .ff => match want with
          | false => nstep C o s (fun s' => dops C m all rest s' k)
          | true => dops C m all rest (s.put o.dst .und) k
        | .und => dops C m all rest (s.put o.dst .und) k
        | .d .bool b =>
          match want with
          | true => splitB m b (nstep C o (s.put (some t) .tt) (fun s' => dops C m all rest s' k))
              (dops C m all rest ((s.put (some t) .ff).put o.dst .und) k)
          | false => splitB m.flip b (dops C m all rest ((s.put (some t) .tt).put o.dst .und) k)
              (nstep C o (s.put (some t) .ff) (fun s' => dops C m all rest s' k))
        | _ => False

def hasEdge (o : Oper) (j : Nat) : Bool := o.after.any fun e => Region.binds .any e && Nat.beq e.on j

def edgesOf (o : Oper) : List Nat := (o.after.toList.filter (Region.binds .any)).map (·.on)

def memS (i : Nat) : List Nat → Bool
  | [] => false
  | j :: l => Nat.beq i j || memS i l

/-- What is waited for, through others too: the operations are looked through from number k down. -/
def sweep (all : Array Oper) : Nat → List Nat → List Nat
  | 0, S => S
  | k + 1, S => if memS k S then (match all[k]? with
      | some o => sweep all k (edgesOf o ++ S)
      | none => sweep all k S) else sweep all k S

def allIn (S : List Nat) : Nat → Bool
  | 0 => true
  | j + 1 => memS j S && allIn S j

/-- All operations before number i are waited for by it, be it through others. -/
def depAll (all : Array Oper) (o : Oper) (i : Nat) : Bool := allIn (sweep all i (edgesOf o)) i

def tmpOf : Operand → Option Nat
  | .tmp t => some t
  | _ => none

/-- The temporaries that an operation looks at. -/
def looks (all : Array Oper) (o : Oper) : List Nat :=
  (o.op.operands.toList.filterMap tmpOf) ++ (match o.guard with | some (j, _) => (guardTmp all j).toList | none => [])

def memN' (t : Nat) : List Nat → Bool
  | [] => false
  | u :: l => Nat.beq t u || memN' t l

/-- Operation number i against number j of the head. -/
def pairOk (all : Array Oper) (i j : Nat) (oi oj : Oper) : Bool :=
  Nat.beq i j || match oj.dst with
    | none => true
    | some t => !(oi.dst == some t) && (!(memN' t (looks all oi)) || (Nat.blt j i && hasEdge oi j))

def selfOk (all : Array Oper) (o : Oper) : Bool :=
  match o.dst with
  | none => true
  | some t => !(memN' t (looks all o))

def backEdges (i : Nat) (o : Oper) : Bool := o.after.all fun e => !Region.binds .any e || Nat.blt e.on i

def headOk (all : Array Oper) (head : List (Oper × Nat)) : Bool :=
  head.all fun p => selfOk all p.1 && backEdges p.2 p.1 && head.all fun q => pairOk all p.2 q.2 p.1 q.1

def tailOk (all : Array Oper) : Nat → List Oper → Bool
  | _, [] => true
  | i, o :: l => depAll all o i && backEdges i o && tailOk all (i + 1) l

/-- How many operations at the end wait for all before them. -/
def tailLen (all : Array Oper) : Nat → List Oper → Nat     -- the list turned round, the number of its first one
  | _, [] => 0
  | i, o :: l => if depAll all o i then tailLen all (i - 1) l + 1 else 0

def headLen (ops : Array Oper) : Nat := ops.size - tailLen ops (ops.size - 1) ops.toList.reverse

def drawOk (ops : Array Oper) (m : Nat) : Bool := headOk ops (ops.toList.take m).zipIdx && tailOk ops m (ops.toList.drop m)

def adraw (C : Ctx) (call : CallT) (md : Mode) (ops : Array Oper) (s : St) (k : St → Prop) : Prop :=
  if drawOk ops (headLen ops) && C.P.follows .mixedOrders then
    dops C md ops (ops.toList.take (headLen ops)) s (fun s' => aops C call md ops (ops.toList.drop (headLen ops)) s' k)
  else False

inductive Ex where
  | normal
  | exit (id : Nat)
  | ret

def setTmp : Operand → AV → St → St
  | .tmp t, v, s => s.put (some t) v
  | _, _, s => s

/-- The slots that a code writes. -/
def dstsOps : List Oper → List Nat
  | [] => []
  | o :: os => match o.dst with | some t => t :: dstsOps os | none => dstsOps os
def dsts : Code → List Nat
  | .region _ ops _ => dstsOps ops.toList
  | .seq a b => dsts a ++ dsts b
  | .cond _ a b => dsts a ++ dsts b
  | .block _ c | .loop c | .scope c => dsts c
  | _ => []

def firstRegion : Code → Option Nat
  | .region i _ _ => some i
  | .seq a b => match firstRegion a with | some i => some i | none => firstRegion b
  | .cond _ a b => match firstRegion a with | some i => some i | none => firstRegion b
  | .block _ c | .loop c | .scope c => firstRegion c
  | _ => none

/-! ### Loops -/
def getLA (s : St) : (a : LA) → Option a.ty.den
  | .slot i t => if noRefs [fget s.top i] then asD s.heap t (fget s.top i) else none
  | .cell k off t => match hget s.heap k with
    | .cells cs => if !t.isAgg && noRefs [fget cs off] && Nat.ble (off + 1) (listLen cs) then asD1 s.heap t (fget cs off) else none
    | _ => none
  | .gslot i tid e => match fget s.top i with
    | .sl k => match hget s.heap k with
      | .grow tid' e' xs => if Nat.beq tid tid' then cast? (.arr e') (.arr e) xs else none
      | _ => none
    | _ => none

def getLAs (s : St) : (as : List LA) → Option (dens (laTys as))
  | [] => some ()
  | [a] => getLA s a
  | a :: b :: as =>
    match getLA s a with
    | some x => match getLAs s (b :: as) with
      | some y => some (x, y)
      | none => none
    | none => none

/-- A slot with a nil slice becomes one with a slice of our own. -/
def prepLA (s : St) : LA → St
  | .gslot i tid e => match fget s.top i with
    | .nils => { s with top := fset s.top i (.sl (hlen s.heap)), heap := s.heap ++ [.grow tid e []] }
    | _ => s
  | _ => s

def prepLAs (s : St) : List LA → St
  | [] => s
  | a :: as => prepLAs (prepLA s a) as

def memN (i : Nat) : List Nat → Bool
  | [] => false
  | j :: l => Nat.beq i j || memN i l

/-- No pointer into a slice of our own, none of the slices that vary. -/
def noSlp (ks : List Nat) : AV → AV
  | .slp _ _ _ => .junk
  | .sl k => if memN k ks then .junk else .sl k
  | v => v

/-- What is written and not told is forgotten. -/
def forget (ks : List Nat) (w : List Nat) : Nat → List AV → List AV
  | _, [] => []
  | i, v :: vs => (if memN i w then .junk else noSlp ks v) :: forget ks w (i + 1) vs

def noSlps (ks : List Nat) : List AV → List AV
  | [] => []
  | v :: vs => noSlp ks v :: noSlps ks vs
def noSlpF (ks : List Nat) : List (List AV) → List (List AV)
  | [] => []
  | f :: fs => noSlps ks f :: noSlpF ks fs

def junks : List AV → List AV
  | [] => []
  | _ :: l => .junk :: junks l

/-- The blocks in which something varies, by cells. -/
def laBlocks : List LA → List Nat
  | [] => []
  | .cell k _ _ :: as => k :: laBlocks as
  | _ :: as => laBlocks as

def havocH (ks : List Nat) : Nat → List Blk → List Blk
  | _, [] => []
  | i, .cells cs :: h => (if memN i ks then .cells (junks cs) else .gone) :: havocH ks (i + 1) h
  | i, _ :: h => .gone :: havocH ks (i + 1) h

/-- The number of the own slice that a row of the annotation speaks of. -/
def laSl (s0 : St) : LA → Option Nat
  | .gslot i _ _ => match fget s0.top i with
    | .sl k => some k
    | _ => none
  | _ => none

/-- The own slices that the annotation speaks of. -/
def laKs (s0 : St) : List LA → List Nat
  | [] => []
  | a :: as => match laSl s0 a with
    | some k => k :: laKs s0 as
    | none => laKs s0 as

def setLA (s0 s : St) : (a : LA) → a.ty.den → St
  | .slot i t, x => { s with top := fset s.top i (.d t x) }
  | .cell k off t, x => match hget s.heap k with
    | .cells cs => { s with heap := hset s.heap k (.cells (fset cs off (.d t x))) }
    | _ => s
  | .gslot i tid e, xs => match laSl s0 (.gslot i tid e) with
    | some k => { s with top := fset s.top i (.sl k), heap := hset s.heap k (.grow tid e xs) }
    | none => s

def setLAs (s0 s : St) : (as : List LA) → dens (laTys as) → St
  | [], _ => s
  | [a], x => setLA s0 s a x
  | a :: b :: as, x => setLAs s0 (setLA s0 s a x.1) (b :: as) x.2

def tmpl (s0 : St) (w : List Nat) (as : List LA) (x : dens (laTys as)) : St :=
  setLAs s0 { top := forget (laKs s0 as) w 0 s0.top, below := noSlpF (laKs s0 as) s0.below, heap := havocH (laBlocks as) 0 s0.heap } as x

mutual
def still : AV → AV → Bool
  | .own k o, b => match b with | .own k' o' => Nat.beq k k' && Nat.beq o o' | _ => false
  | .sl k, b => match b with | .sl k' => Nat.beq k k' | _ => false
  | .slp _ _ _, _ => false
  | .agg cs, b => match b with | .agg cs' => stillL cs cs' | _ => false
  | .tup cs, b => match b with | .tup cs' => stillL cs cs' | _ => false
  | .fn _ cs, b => match b with | .fn _ cs' => stillL cs cs' | _ => false
  | _, _ => true
def stillL : List AV → List AV → Bool
  | [], _ => true
  | c :: cs, b => match b with | c' :: cs' => still c c' && stillL cs cs' | [] => false
end

/-- The slots that a loop does not write still are what they were. -/
def stillT (w : List Nat) : Nat → List AV → List AV → Bool
  | _, [], _ => true
  | i, v :: vs, b => match b with | v' :: vs' => (memN i w || still v v') && stillT w (i + 1) vs vs' | [] => false
def stillF : List (List AV) → List (List AV) → Bool
  | [], _ => true
  | f :: fs, b => match b with | f' :: fs' => stillL f f' && stillF fs fs' | [] => false

/-- The annotation's own slices are the same ones, and its blocks are there. -/
def stillA (s0 s : St) : List LA → Bool
  | [] => true
  | a :: as => (match a with
      | .slot _ _ | .cell _ _ _ => true
      | a => match laSl s0 a, laSl s a with
        | some j, some k => Nat.beq j k
        | _, _ => false) && stillA s0 s as

/-- The annotation's blocks are rows of as many cells. -/
def stillB (s0 s : St) : List LA → Bool
  | [] => true
  | .cell k _ _ :: as => (match hget s0.heap k, hget s.heap k with
      | .cells a, .cells b => Nat.beq (listLen a) (listLen b)
      | _, _ => false) && stillB s0 s as
  | _ :: as => stillB s0 s as

def fits (as : List LA) (w : List Nat) (s0 s : St) : Bool :=
  stillT w 0 (forget (laKs s0 as) w 0 s0.top) s.top && stillF (noSlpF (laKs s0 as) s0.below) s.below && stillA s0 s as && stillB s0 s as && Nat.ble (hlen s0.heap) (hlen s.heap)

def aloop (as : List LA) (w : List Nat) (body : (Ex → St → Prop) → St → Prop) (k : Ex → St → Prop) (s : St) : Prop :=
  match getLAs (prepLAs s as) as with
  | none => False
  | some x0 => if fits as w (prepLAs s as) (prepLAs s as) then ∃ (I : dens (laTys as) → Prop) (μ : dens (laTys as) → Nat), I x0 ∧ ∀ x, I x →
      body (fun e s' => match e with
        | .normal => match getLAs s' as with
          | some x' => if fits as w (prepLAs s as) s' then I x' ∧ μ x' < μ x else False
          | none => False
        | e => k e s') (tmpl (prepLAs s as) w as x)
    else False

/-- A loop round by round. -/
def aunroll (body : (Ex → St → Prop) → St → Prop) (k : Ex → St → Prop) : Nat → St → Prop
  | 0, _ => False
  | n + 1, s => body (fun e s' => match e with | .normal => aunroll body k n s' | e => k e s') s

def awp (C : Ctx) (call : CallT) (loops : Hint) : Code → (Ex → St → Prop) → St → Prop
  | .skip, k, s => k .normal s
  | .label _, k, s => k .normal s
  | .region id ops draw, k, s => if draw then adraw C call (loops.mode id) ops s (k .normal) else aops C call (loops.mode id) ops ops.toList s (k .normal)
  | .seq a b, k, s => awp C call loops a (fun e s' => match e with | .normal => awp C call loops b k s' | e => k e s') s
  | .cond c a b, k, s =>
    match ev s.top c with
    | .tt => awp C call loops a k s
    | .ff => awp C call loops b k s
    | .d .bool x => splitB (loops.cond c) x (awp C call loops a k (setTmp c .tt s)) (awp C call loops b k (setTmp c .ff s))
    | _ => False
  | .block id c, k, s => awp C call loops c (fun e s' => match e with | .exit i => if Nat.beq i id then k .normal s' else k (.exit i) s' | e => k e s') s
  | .scope c, k, s => awp C call loops c k s
  | .exit id, k, s => k (.exit id) s
  | .ret, k, s => k .ret s
  | .loop body, k, s =>
    match firstRegion body with
    | some r => match loops.unr r with
      | 0 => aloop (loops.las r) (dsts body) (awp C call loops body) k s
      | n => aunroll (awp C call loops body) k n s
    | none => False
  | _, _, _ => False

/-! ### Calls -/
def resV (C : Ctx) (s : St) : List ResultVar → Option (List AV)
  | [] => some []
  | .tmp t :: rs => match resV C s rs with
    | some l => some (fget s.top t :: l)
    | none => none
  | .cell a t :: rs => match fget s.top a with
    | .own k off => match hget s.heap k with
      | .cells cs => match loadOwn C t cs off, resV C s rs with
        | some v, some l => some (v :: l)
        | _, _ => none
      | _ => none
    | _ => none

def tup1 : List AV → AV
  | [v] => v
  | vs => .tup vs

def pads : List AV → Nat → List AV
  | [], n => List.replicate n .und
  | v :: vs, n => v :: pads vs (n - 1)

def popped (s : St) : Option St :=
  match s.below with
  | f :: fs => some { top := f, below := fs, heap := s.heap }
  | [] => none

def contract (sp : FSpec) (args : List AV) (s : St) (k : AV → St → Prop) : Prop :=
  match asDs s.heap sp.ps args with
  | none => False
  | some x => sp.pre x ∧ k (outV sp.rs (sp.post x)) (if flats sp.rs then s else s.freezeAll (refsA args))

def contractG (g : GSpec) (args : List AV) (s : St) (k : AV → St → Prop) : Prop :=
  match asDs s.heap g.ps args with
  | none => False
  | some x => g.pre x ∧ k (.sl (hlen (s.freezeAll (refsA args)).heap)) { s.freezeAll (refsA args) with heap := (s.freezeAll (refsA args)).heap ++ [.grow g.tid g.e (g.post x)] }

def inlined (C : Ctx) (call : CallT) (f : FuncId) (fn : Func) (args : List AV) (s : St) (k : AV → St → Prop) : Prop :=
  match fn.body with
  | none => False
  | some code =>
    if Nat.ble (listLen args) fn.ntmps then
      awp C call (C.hint f) code (fun e s' =>
        match e with
        | .exit _ => False
        | _ => match resV C s' fn.results.toList with
          | none => False
          | some vs => match popped s' with
            | none => False
            | some s'' => k (tup1 vs) s'')
        { top := pads args fn.ntmps, below := s.top :: s.below, heap := s.heap }
    else False

def acall (C : Ctx) : Nat → CallT
  | 0, _, _, _, _ => False
  | n + 1, f, args, s, k =>
    match C.fresh f with
    | some g => contractG g args s k
    | none => match C.spec f with
      | some sp => contract sp args s k
      | none => match C.P.funcs[f]? with
        | none => False
        | some fn => inlined C (acall C n) f fn args s k

/-- The whole function, by its own text. -/
def fnwp (C : Ctx) (n : Nat) (f : FuncId) (sp : FSpec) (x : dens sp.ps) : Prop :=
  match C.P.funcs[f]? with
  | none => False
  | some fn => inlined C (acall C n) f fn (outs sp.ps x) { top := [], below := [], heap := [] } (fun v s' =>
      match (match sp.rs with
        | [] => match v with | .tup [] => asDs s'.heap sp.rs [] | _ => none
        | [_] => asDs s'.heap sp.rs [v]
        | _ => match v with | .tup vs => asDs s'.heap sp.rs vs | _ => none) with
      | some y => y = sp.post x
      | none => False)

/-- The whole function, of one that hands back a slice of its own. -/
def fnwpG (C : Ctx) (n : Nat) (f : FuncId) (sp : GSpec) (x : dens sp.ps) : Prop :=
  match C.P.funcs[f]? with
  | none => False
  | some fn => inlined C (acall C n) f fn (outs sp.ps x) { top := [], below := [], heap := [] } (fun v s' =>
      match v with
      | .sl k => match hget s'.heap k with
        | .grow tid e xs => if Nat.beq tid sp.tid then match cast? (.arr e) (.arr sp.e) xs with
            | some ys => ys = sp.post x
            | none => False
          else False
        | _ => False
      | .nils => [] = sp.post x
      | _ => False)

/-! ### What the abstract values mean -/
abbrev Pr := Addr → Option Value

def strOf (l : List Int) : ByteArray := ⟨(l.map fun n => UInt8.ofNat n.toNat).toArray⟩

def rdL {α : Type} (R : α → List Value → Prop) : List α → List Value → Prop
  | [], vs => vs = []
  | x :: xs, vs => ∃ c vs', vs = c ++ vs' ∧ R x c ∧ rdL R xs vs'

def rowAt (Ψ : Pr) (a : Option Addr) (vs : List Value) : Prop :=
  ∃ g off, a = some ⟨g, off, none⟩ ∧ ∀ j u, vs[j]? = some u → Ψ ⟨g, off + j, none⟩ = some u

def reads (Ψ : Pr) : (t : Ty) → t.den → List Value → Prop
  | .int k, n, vs => vs = [.int k n] ∧ k.has n
  | .bool, b, vs => vs = [.bool b]
  | .str, l, vs => vs = [.string (strOf l)] ∧ (∀ c ∈ l, 0 ≤ c ∧ c ≤ 255) ∧ l.length ≤ maxLen
  | .arr e, xs, vs => ∃ a cap, vs = [.slice a xs.length cap] ∧ xs.length ≤ cap ∧ cap ≤ maxLen ∧ (xs = [] ∨ ∃ cells, rdL (reads Ψ e) xs cells ∧ rowAt Ψ a cells)
  | .vec n e, xs, vs => xs.length = n ∧ rdL (reads Ψ e) xs vs
  | .unit, _, vs => vs = []
  | .pair a b, x, vs => ∃ u v, vs = u ++ v ∧ reads Ψ a x.1 u ∧ reads Ψ b x.2 v

def rv (Ψ : Pr) (t : Ty) (x : t.den) (v : Value) : Prop := ∃ cs, reads Ψ t x cs ∧ if t.isAgg then v = .agg cs.toArray else cs = [v]

mutual
def RelV (Ψ : Pr) (β : List Value) : AV → Value → Prop
  | .junk, _ => True
  | .und, v => v = undef
  | .tt, v => v = .bool true
  | .ff, v => v = .bool false
  | .d t x, v => rv Ψ t x v
  | .fs e xs, v => ∃ a, v = .slice a xs.length xs.length ∧ rv Ψ (.arr e) xs v
  | .nils, v => v = .slice none 0 0
  | .agg cs, v => ∃ vs : List Value, v = .agg vs.toArray ∧ RelL Ψ β cs vs ∧ ∀ u ∈ vs, u.oneCell' = true
  | .tup cs, v => ∃ vs : List Value, v = .tuple vs.toArray ∧ RelL Ψ β cs vs
  | .fn f cs, v => ∃ vs : List Value, v = .func (.func f) #[] vs.toArray ∧ RelL Ψ β cs vs
  | .nilf, v => v = .nilFunc
  | .nilp, v => v = .pointer none
  | .own k off, v => ∃ g, β[k]? = some (.pointer (some ⟨g, 0, none⟩)) ∧ v = .pointer (some ⟨g, off, none⟩)
  | .sl k, v => β[k]? = some v
  | .slp k sz i, v => ∃ g n c, β[k]? = some (.slice (some ⟨g, 0, none⟩) n c) ∧ 0 ≤ i ∧ i < n ∧ v = .pointer (some ⟨g, i.toNat * sz, none⟩)
  | .rp t x, v => ∃ g off cs, v = .pointer (some ⟨g, off, none⟩) ∧ reads Ψ t x cs ∧ ∀ j u, cs[j]? = some u → Ψ ⟨g, off + j, none⟩ = some u
def RelL (Ψ : Pr) (β : List Value) : List AV → List Value → Prop
  | [], vs => vs = []
  | c :: cs, vs => ∃ v vs', vs = v :: vs' ∧ RelV Ψ β c v ∧ RelL Ψ β cs vs'
end

def claims (β : List Value) (k : Nat) (g : Nat) : Blk → Prop
  | .gone => False
  | .cells _ => β[k]? = some (.pointer (some ⟨g, 0, none⟩))
  | .grow _ _ _ => ∃ n cap, cap ≠ 0 ∧ β[k]? = some (.slice (some ⟨g, 0, none⟩) n cap)
  | .kmap _ => β[k]? = some (.map (some g))

def fnV (f : FuncId) : Value := .func (.func f) #[] #[]

def BlkR (B : Nat) (Ψ : Pr) (β : List Value) (w : World) (k : Nat) : Blk → Prop
  | .gone => True
  | .cells cs => ∃ g c e, β[k]? = some (.pointer (some ⟨g, 0, none⟩)) ∧ w.heap[g]? = some (.cells c e (0, 0)) ∧ B ≤ g ∧ RelL Ψ β cs c.toList ∧ (∀ u ∈ c.toList, u.oneCell' = true)
  | .grow tid e xs => (∃ ad, β[k]? = some (.slice ad 0 0) ∧ xs = []) ∨
      ∃ g cap cur, β[k]? = some (.slice (some ⟨g, 0, none⟩) xs.length cap) ∧ cap ≠ 0 ∧ B ≤ g ∧ w.heap[g]? = some (.cells cur tid (0, 0)) ∧ xs.length ≤ cap ∧ cap ≤ maxLen ∧ cur.size = cap * e.cells ∧
        rdL (reads Ψ e) xs (cur.toList.take (xs.length * e.cells))
  | .kmap es => ∃ g ms cl, β[k]? = some (.map (some g)) ∧ w.heap[g]? = some (.map ms cl) ∧ B ≤ g ∧ ms.toList.map (fun e => (e.key, e.val)) = es.map (fun p => (Value.int .i64 p.1, fnV p.2))

/-- The heap's part of the state. -/
structure InvH (B : Nat) (w0 : World) (Ψ : Pr) (β : List Value) (h : List Blk) (w : World) : Prop where
  low : Below B w0 w
  size : B ≤ w.heap.size
  prom : ∀ a v, Ψ a = some v → a.spot = none ∧ w.cell? a = some v
  len : β.length = h.length
  one : ∀ (k : Nat) (u : Value), β[k]? = some u → u.oneCell' = true
  blk : ∀ k b, h[k]? = some b → BlkR B Ψ β w k b
  free : ∀ k b g, h[k]? = some b → claims β k g b → ∀ a, a.block = g → Ψ a = none
  sep : ∀ j k bj bk g, j ≠ k → h[j]? = some bj → h[k]? = some bk → claims β j g bj → claims β k g bk → False

def RelFr (Ψ : Pr) (β : List Value) (fr : List AV) (a : Act) : Prop :=
  a.defers = [] ∧ RelL Ψ β fr a.tmps.toList

def RelF (Ψ : Pr) (β : List Value) : List (List AV) → List Act → Prop
  | [], as => as = []
  | f :: fs, as => ∃ a as', as = a :: as' ∧ RelFr Ψ β f a ∧ RelF Ψ β fs as'

structure Inv (B : Nat) (w0 : World) (Ψ : Pr) (β : List Value) (s : St) (acts : List Act) (w : World) : Prop where
  hp : InvH B w0 Ψ β s.heap w
  fr : RelF Ψ β (s.top :: s.below) acts

/-- What a function's contract says of its calls. -/
def Sat (P : Program) (f : FuncId) (sp : FSpec) : Prop :=
  ∀ (Ψ : Pr) (w : World) (x : dens sp.ps) (args : List Value), (∀ a v, Ψ a = some v → a.spot = none ∧ w.cell? a = some v) →
    RelL Ψ [] (outs sp.ps x) args → sp.pre x →
    Calls P f args.toArray w fun e w' => ∃ v Ψ', e = .returned v ∧ Below w.heap.size w w' ∧ (∀ a u, Ψ a = some u → Ψ' a = some u) ∧
      (∀ a u, Ψ' a = some u → Ψ a = some u ∨ (w.heap.size ≤ a.block ∧ a.spot = none ∧ w'.cell? a = some u)) ∧ RelV Ψ' [] (outV sp.rs (sp.post x)) v

/-- What a contract says of the calls of a function that hands back a slice of its own. -/
def SatG (P : Program) (f : FuncId) (sp : GSpec) : Prop :=
  ∀ (Ψ : Pr) (w : World) (x : dens sp.ps) (args : List Value), (∀ a v, Ψ a = some v → a.spot = none ∧ w.cell? a = some v) →
    RelL Ψ [] (outs sp.ps x) args → sp.pre x →
    Calls P f args.toArray w fun e w' => ∃ v Ψ', e = .returned v ∧ Below w.heap.size w w' ∧ (∀ a u, Ψ a = some u → Ψ' a = some u) ∧
      (∀ a u, Ψ' a = some u → Ψ a = some u ∨ (w.heap.size ≤ a.block ∧ a.spot = none ∧ w'.cell? a = some u)) ∧ v.oneCell' = true ∧
      BlkR w.heap.size Ψ' [v] w' 0 (.grow sp.tid sp.e (sp.post x)) ∧ ∀ g, claims [v] 0 g (.grow sp.tid sp.e (sp.post x)) → ∀ a, a.block = g → Ψ' a = none

end Go.AM
