import Derived.WalkKit
import Derived.Deep.AppendSrc
import Derived.DeepKeys
namespace Go.AM
set_option linter.unusedVariables false
open Go.RowKit

/-! ### Types of data -/
inductive Ty where
  | int (k : IntKind)
  | bool
  | str
  | arr (e : Ty)
  | vec (n : Nat) (e : Ty)
  | unit
  | pair (a b : Ty)
  | fnc
  | any
  deriving DecidableEq

@[reducible] def Ty.den : Ty → Type
  | .int _ => Int
  | .bool => Bool
  | .str => List Int
  | .arr e => List e.den
  | .vec _ e => List e.den
  | .unit => Unit
  | .pair a b => a.den × b.den
  | .fnc => FuncId
  | .any => Unit

def Ty.cells : Ty → Nat
  | .int _ | .bool | .str | .arr _ | .fnc | .any => 1
  | .vec n e => n * e.cells
  | .unit => 0
  | .pair a b => a.cells + b.cells

def Ty.isAgg : Ty → Bool
  | .vec .. | .unit | .pair .. => true
  | _ => false

def Ty.small (e : Ty) : Bool := Nat.beq e.cells 1 && !e.isAgg

def Ty.flat : Ty → Bool
  | .int _ | .bool | .str | .unit | .fnc | .any => true
  | .arr _ => false
  | .vec _ e => e.flat
  | .pair a b => a.flat && b.flat

def dflt : (t : Ty) → t.den
  | .int _ => (0 : Int)
  | .bool => false
  | .str => ([] : List Int)
  | .arr e => ([] : List e.den)
  | .vec n e => (List.replicate n (dflt e) : List e.den)
  | .unit => ()
  | .pair a b => (dflt a, dflt b)
  | .fnc => (0 : Nat)
  | .any => ()

def cast? (t u : Ty) (x : t.den) : Option u.den :=
  match decEq t u with
  | isTrue h => some (h ▸ x)
  | isFalse _ => none

@[reducible] def dens : List Ty → Type
  | [] => Unit
  | [t] => t.den
  | t :: u :: ts => t.den × dens (u :: ts)

/-! ### Abstract values -/
inductive AV where
  | junk
  | und
  | tt
  | ff
  | d (t : Ty) (x : t.den)
  | fs (e : Ty) (xs : List e.den)
  | nils
  | agg (cs : List AV)
  | tup (cs : List AV)
  | fn (f : FuncId) (cap : List AV)
  | nilf
  | nilp
  | own (k off : Nat)
  | sl (k : Nat)
  | slp (k sz : Nat) (i : Int)
  | rp (t : Ty) (x : t.den)
  | yld (k : Nat)
  | bnd (f : FuncId) (first : List AV)
  | sv (k sz : Nat) (lo hi : Int)

inductive Ex where
  | normal
  | exit (id : Nat)
  | ret

/-- How far a range over a function has come. -/
inductive Ph where
  | ready | busy | done (e : Ex) | exhausted

/-- Maps from integers, as lists of keys and values. -/
def mput {α : Type} : List (Int × α) → Int → α → List (Int × α)
  | [], n, x => [(n, x)]
  | p :: m, n, x => if p.1 = n then (n, x) :: m else p :: mput m n x
def mget {α : Type} : List (Int × α) → Int → Option α
  | [], _ => none
  | p :: m, n => if p.1 = n then some p.2 else mget m n

inductive Blk where
  | gone
  | cells (cs : List AV)
  | grow (tid : TypeId) (e : Ty) (xs : List e.den)
  | kmap (es : List (Int × FuncId))
  | dmap (e : Ty) (m : List (Int × e.den))
  | diter (e : Ty) (last left : List (Int × e.den))
  | loop (f : FuncId) (p : List Nat) (ph : Ph) (tmps : List AV)

structure St where
  top : List AV
  below : List (List AV)
  heap : List Blk

def fget : List AV → Nat → AV
  | [], _ => .junk
  | a :: _, 0 => a
  | _ :: l, i + 1 => fget l i

def fset : List AV → Nat → AV → List AV
  | [], _, _ => []
  | _ :: l, 0, v => v :: l
  | a :: l, i + 1, v => a :: fset l i v

def hget : List Blk → Nat → Blk
  | [], _ => .gone
  | a :: _, 0 => a
  | _ :: l, i + 1 => hget l i

def hset : List Blk → Nat → Blk → List Blk
  | [], _, _ => []
  | _ :: l, 0, v => v :: l
  | a :: l, i + 1, v => a :: hset l i v

def St.put (s : St) (dst : Option Tmp) (v : AV) : St :=
  match dst with
  | some t => { s with top := fset s.top t v }
  | none => s

def inKind (k : IntKind) (n : Int) : Bool := decide (k.min ≤ n) && decide (n ≤ k.max)

def bytesOf (s : ByteArray) : List Int := s.data.toList.map fun b => (b.toNat : Int)

/-- A constant of one cell. -/
def ofV1 : Value → AV
  | .bool true => .tt
  | .bool false => .ff
  | .int k n => if inKind k n then .d (.int k) n else .junk
  | .string s => if s.size ≤ maxLen then .d .str (bytesOf s) else .junk
  | .slice none 0 0 => .nils
  | .nilFunc => .nilf
  | .pointer none => .nilp
  | _ => .junk

def ofVs : List Value → List AV
  | [] => []
  | v :: vs => ofV1 v :: ofVs vs

def ofV : Value → AV
  | .agg cs => if cs.toList.all Value.oneCell' then .agg (ofVs cs.toList) else .junk
  | v => ofV1 v

def ev (fr : List AV) : Operand → AV
  | .tmp t => fget fr t
  | .const v => ofV v
  | .global _ => .junk
  | .func f => .fn f []

def evs (fr : List AV) : List Operand → List AV
  | [] => []
  | o :: os => ev fr o :: evs fr os

/-! ### Substitution of an own slice -/
mutual
def sub (k : Nat) (r : AV) : AV → AV
  | .sl j => if Nat.beq j k then r else .sl j
  | .slp j sz i => if Nat.beq j k then .junk else .slp j sz i
  | .agg cs => .agg (subL k r cs)
  | .tup cs => .tup (subL k r cs)
  | .fn f cs => .fn f (subL k r cs)
  | .bnd f cs => .bnd f (subL k r cs)
  | .sv j sz a b => if Nat.beq j k then .junk else .sv j sz a b
  | v => v
def subL (k : Nat) (r : AV) : List AV → List AV
  | [] => []
  | c :: cs => sub k r c :: subL k r cs
end

def subF (k : Nat) (r : AV) : List (List AV) → List (List AV)
  | [] => []
  | f :: fs => subL k r f :: subF k r fs

def subH (k : Nat) (r : AV) : List Blk → List Blk
  | [] => []
  | .cells cs :: h => .cells (subL k r cs) :: subH k r h
  | .loop f p ph ts :: h => .loop f p ph (subL k r ts) :: subH k r h
  | b :: h => b :: subH k r h

def subB (k : Nat) (r : AV) : Blk → Blk
  | .cells cs => .cells (subL k r cs)
  | .loop f p ph ts => .loop f p ph (subL k r ts)
  | b => b

def St.sub (s : St) (k : Nat) (r : AV) : St := { top := subL k r s.top, below := subF k r s.below, heap := subH k r s.heap }

/-- An own slice is given away: it is data from now on. -/
def St.freeze (s : St) (k : Nat) : St :=
  match hget s.heap k with
  | .grow _ e xs =>
    let s' := s.sub k (.d (.arr e) xs)
    { s' with heap := hset s'.heap k .gone }
  | _ => s

def refs1 : AV → List Nat
  | .sl k => [k]
  | _ => []

def refsL : List AV → List Nat
  | [] => []
  | c :: cs => refs1 c ++ refsL cs

def refs : AV → List Nat
  | .agg cs => refsL cs
  | v => refs1 v

def refsA : List AV → List Nat
  | [] => []
  | c :: cs => refs c ++ refsA cs

def noRefs' (l : List AV) : Bool := match refsA l with | [] => true | _ => false

def St.freezeAll (s : St) : List Nat → St
  | [] => s
  | k :: ks => (s.freeze k).freezeAll ks

/-! ### An abstract value as data of a type -/
def asD1 (h : List Blk) (t : Ty) : AV → Option t.den
  | .d u x => cast? u t x
  | .tt => match t with | .bool => some true | _ => none
  | .ff => match t with | .bool => some false | _ => none
  | .fs e xs => cast? (.arr e) t xs
  | .nils => match t with | .arr _ => some [] | _ => none
  | .sl k => match hget h k with
    | .grow _ e xs => cast? (.arr e) t xs
    | _ => none
  | .fn f cs => match t, cs with
    | .fnc, [] => some f
    | _, _ => none
  | _ => none

def takeN : Nat → List AV → List AV
  | 0, _ => []
  | _, [] => []
  | n + 1, a :: l => a :: takeN n l

def dropN : Nat → List AV → List AV
  | 0, l => l
  | _, [] => []
  | n + 1, _ :: l => dropN n l

def single (h : List Blk) (t : Ty) (cs : List AV) : Option t.den :=
  match cs with
  | [c] => asD1 h t c
  | _ => none

def asVec (h : List Blk) (e : Ty) : List AV → Option (List e.den)
  | [] => some []
  | c :: cs => match asD1 h e c with
    | some y => match asVec h e cs with
      | some ys => some (y :: ys)
      | none => none
    | none => none

def lenAV : List AV → Nat
  | [] => 0
  | _ :: l => lenAV l + 1

/-- Cells as data of a type. -/
def asCells (h : List Blk) : (t : Ty) → List AV → Option t.den
  | .pair a b, cs =>
    match asCells h a (takeN a.cells cs) with
    | some x => match asCells h b (dropN a.cells cs) with
      | some y => some (x, y)
      | none => none
    | none => none
  | .unit, cs => match cs with
    | [] => some ()
    | _ => none
  | .vec n e, cs => if e.small && Nat.beq (lenAV cs) n then asVec h e cs else none
  | .int k, cs => single h (.int k) cs
  | .bool, cs => single h .bool cs
  | .fnc, cs => single h .fnc cs
  | .any, cs => single h .any cs
  | .str, cs => single h .str cs
  | .arr e, cs => single h (.arr e) cs

def asD (h : List Blk) (t : Ty) : AV → Option t.den
  | .agg cs => if t.isAgg then asCells h t cs else none
  | v => asD1 h t v

/-- Cells that a contract does not look at are told as nothing. -/
def anyIn : Ty → Bool
  | .any => true
  | .pair a b => anyIn a || anyIn b
  | _ => false
def maskC : Ty → List AV → List AV
  | .pair a b, cs => maskC a (takeN a.cells cs) ++ maskC b (dropN a.cells cs)
  | .any, _ :: cs => .d .any () :: cs
  | _, cs => cs
def maskD (t : Ty) : AV → AV
  | .agg cs => bif anyIn t then .agg (maskC t cs) else .agg cs
  | v => v
def maskAs : List Ty → List AV → List AV
  | t :: ts, v :: vs => maskD t v :: maskAs ts vs
  | _, vs => vs

def asDs (h : List Blk) : (ts : List Ty) → List AV → Option (dens ts)
  | [], [] => some ()
  | [t], [v] => asD h t v
  | t :: u :: ts, v :: vs =>
    match asD h t v with
    | some x => match asDs h (u :: ts) vs with
      | some y => some (x, y)
      | none => none
    | none => none
  | _, _ => none

def outs : (ts : List Ty) → dens ts → List AV
  | [], _ => []
  | [t], x => [.d t x]
  | t :: u :: ts, x => .d t x.1 :: outs (u :: ts) x.2

def outV (ts : List Ty) (x : dens ts) : AV :=
  match outs ts x with
  | [v] => v
  | vs => .tup vs

def flats : List Ty → Bool
  | [] => true
  | t :: ts => t.flat && flats ts

/-! ### Contracts, loops -/
structure FSpec where
  ps : List Ty
  rs : List Ty
  pre : dens ps → Prop
  post : dens ps → dens rs

/-- A function that hands back a slice of its own. -/
structure GSpec where
  ps : List Ty
  tid : TypeId
  e : Ty
  pre : dens ps → Prop
  post : dens ps → List e.den

/-- A function that sorts a slice by a function. -/
structure SSpec where
  tid : TypeId
  e : Ty
  cmp : FuncId
  f : List e.den → List e.den

/-- .. as data. -/
def GSpec.data (g : GSpec) : FSpec := ⟨g.ps, [.arr g.e], g.pre, g.post⟩

inductive LA where
  | slot (i : Nat) (t : Ty)
  | cell (k off : Nat) (t : Ty)
  | gslot (i : Nat) (tid : TypeId) (e : Ty)
  | gcell (k off : Nat) (tid : TypeId) (e : Ty)
  | keep (k : Nat) (tid : TypeId) (e : Ty)
  | kmp (k : Nat) (e : Ty)
  | kit (k : Nat) (e : Ty)

def LA.ty : LA → Ty
  | .slot _ t | .cell _ _ t => t
  | .gslot _ _ e | .gcell _ _ _ e | .keep _ _ e => .arr e
  | .kmp _ e | .kit _ e => .arr (.pair (.int .i64) e)

def laTys : List LA → List Ty
  | [] => []
  | a :: as => a.ty :: laTys as

/-- What becomes of a test whose outcome is not told: both ways; it is shown that it holds, or that it does not; the kernel reckons it. -/
inductive Mode where
  | split | yes | no | force | all

def Mode.flip : Mode → Mode
  | .yes => .no
  | .no => .yes
  | m => m

def splitB (m : Mode) (b : Bool) (p q : Prop) : Prop :=
  match m with
  | .split => (b = true → p) ∧ (b = false → q)
  | .yes => b = true ∧ p
  | .no => b = false ∧ q
  | .force => match b with | true => p | false => q
  | .all => (b = true → p) ∧ (b = false → q)

theorem splitB_sound {m : Mode} {b : Bool} {p q : Prop} (h : splitB m b p q) : (b = true → p) ∧ (b = false → q) := by
  cases m <;> cases b <;> simp_all [splitB]

/-- What is said of a function's text ahead of its walk: its loops' annotations, the tests in its regions and of its branches, which loops are walked round by round. -/
structure Hint where
  las : Nat → List LA
  mode : Nat → Mode
  cmode : Nat → Mode
  unr : Nat → Nat

def Hint.cond (H : Hint) : Operand → Mode
  | .tmp t => H.cmode t
  | _ => .split

structure Ctx where
  P : Program
  spec : FuncId → Option FSpec
  hint : FuncId → Hint
  ty : TypeId → Option Ty
  fresh : FuncId → Option GSpec
  ro : TypeId → Bool
  sorts : FuncId → Option SSpec := fun _ => none
  nilG : FuncId → Option GSpec := fun _ => none

/-- Whether values of a type are aggregates; how many cells they have. -/
def Ctx.lay (C : Ctx) (t : TypeId) : Option (Bool × Nat) :=
  match C.P.info? t with
  | none => none
  | some i => match C.P.underlying t with
    | some (.struct _) => some (true, i.size)
    | some (.array _ _) => some (true, i.size)
    | some _ => if Nat.beq i.size 1 then some (false, 1) else none
    | none => none

def Ctx.size (C : Ctx) (t : TypeId) : Option Nat :=
  match C.P.info? t with
  | some i => some i.size
  | none => none

def Ctx.zero (C : Ctx) (t : TypeId) : Option AV :=
  match C.P.info? t with
  | some i => match i.zero with
    | some v => some (ofV v)
    | none => none
  | none => none

/-! ### A type of the program against a type of data -/
mutual
def okT (P : Program) : Ty → TypeId → Bool
  | .int k, t => match P.underlying t with | some (.int k') => decide (k' = k) | _ => false
  | .bool, t => match P.underlying t with | some .bool => true | _ => false
  | .str, t => match P.underlying t with | some .string => true | _ => false
  | .arr e, t => match P.underlying t with
    | some (.slice et) => Nat.beq (P.cellsOf et) e.cells && Nat.ble 1 e.cells && okT P e et
    | _ => false
  | .vec n e, t => match P.underlying t with
    | some (.array m et) => Nat.beq m n && Nat.beq (P.cellsOf et) e.cells && Nat.beq (P.cellsOf t) (n * e.cells) && okT P e et
    | _ => false
  | .unit, _ => false
  | .fnc, _ => false
  | .any, _ => false
  | .pair a b, t => match P.underlying t with
    | some (.struct fs) => match fs.toList with
      | f :: fs => Nat.beq (P.cellsOf t) (a.cells + b.cells) && Nat.beq f.offset 0 && Nat.beq (P.cellsOf f.type) a.cells && okT P a f.type && okF P b fs a.cells
      | [] => false
    | _ => false
def okF (P : Program) : Ty → List Field → Nat → Bool
  | .pair a b, fs, off => match fs with
    | f :: fs => Nat.beq f.offset off && Nat.beq (P.cellsOf f.type) a.cells && okT P a f.type && okF P b fs (off + a.cells)
    | [] => false
  | .unit, fs, _ => match fs with | [] => true | _ => false
  | _, _, _ => false
end

def okTs (P : Program) : List Ty → List TypeId → Bool
  | [], [] => true
  | a :: as, t :: ts => okT P a t && okTs P as ts
  | _, _ => false

/-! ### Equality of data -/
def eqOk : Ty → Bool
  | .int _ | .bool | .str | .unit => true
  | .vec _ (.int _) => true
  | .pair a b => eqOk a && eqOk b
  | _ => false

def eqD : (t : Ty) → t.den → t.den → Bool
  | .int _, x, y => decide ((x : Int) = y)
  | .bool, x, y => x == y
  | .str, x, y => decide ((x : List Int) = y)
  | .vec _ (.int _), x, y => decide ((x : List Int) = y)
  | .pair a b, x, y => eqD a x.1 y.1 && eqD b x.2 y.2
  | .unit, _, _ => true
  | _, _, _ => false

/-! ### Operations -/
structure Out where
  need : Option Prop
  v : AV
  heap : List Blk
  kill : Option Nat

def cellsOf : AV → Option (List AV)
  | .agg cs => some cs
  | .junk | .und | .tup _ => none
  | .sl k => some [.sl k]
  | .d t x => if t.isAgg then none else some [.d t x]
  | v => some [v]

def vecCells (e : Ty) (xs : List e.den) : Nat → Nat → List AV
  | _, 0 => []
  | i, m + 1 => .d e (xs.getD i (dflt e)) :: vecCells e xs (i + 1) m

/-- The cells of data of an aggregate type. -/
def splitD : (t : Ty) → t.den → Option (List AV)
  | .pair a b, x =>
    match splitD a x.1 with
    | some l => match splitD b x.2 with
      | some m => some (l ++ m)
      | none => none
    | none => none
  | .unit, _ => some []
  | .vec n e, x => if e.small then some (vecCells e x 0 n) else none
  | t, x => some [.d t x]

def cellsOf' : AV → Option (List AV)
  | .d t x => splitD t x
  | v => cellsOf v

def subD : (t : Ty) → t.den → (off sz : Nat) → (ag : Bool) → Option AV
  | .pair a b, x, off, sz, ag =>
    if Nat.beq off 0 && Nat.beq (a.cells + b.cells) sz && ag then some (.d (.pair a b) x)
    else if Nat.ble (off + sz) a.cells then subD a x.1 off sz ag
    else if Nat.ble a.cells off then subD b x.2 (off - a.cells) sz ag
    else none
  | t, x, off, sz, ag => if Nat.beq off 0 && Nat.beq t.cells sz && (t.isAgg == ag) then some (.d t x) else none

def toRp : AV → Option AV
  | .d t x => some (.rp t x)
  | _ => none

def listLen : List AV → Nat
  | [] => 0
  | _ :: l => listLen l + 1

def hlen : List Blk → Nat
  | [] => 0
  | _ :: l => hlen l + 1

def setCells : List AV → Nat → List AV → List AV
  | cs, _, [] => cs
  | cs, off, v :: vs => setCells (fset cs off v) (off + 1) vs

def isI64 (n : Int) : Prop := -9223372036854775808 ≤ n ∧ n ≤ 9223372036854775807

def boolAV (b : Bool) : AV := .d .bool b

def asB : AV → Option Bool
  | .tt => some true
  | .ff => some false
  | .d .bool b => some b
  | _ => none

def ok0 (h : List Blk) (v : AV) : Option Out := some ⟨none, v, h, none⟩
def okP (h : List Blk) (p : Prop) (v : AV) : Option Out := some ⟨some p, v, h, none⟩

/-- An integer's operation: int's own are asked to fit; all others wrap. -/
def arith (h : List Blk) (k : IntKind) (n : Int) : Option Out :=
  match k with
  | .i64 => okP h (isI64 n) (.d (.int .i64) n)
  | k => ok0 h (.d (.int k) (k.wrap n))

def bitsOp (op : BinOp) (k : IntKind) (a b : Int) : Int :=
  match op with
  | .and => k.wrap (BitVec.ofInt k.bits a &&& BitVec.ofInt k.bits b).toNat
  | .or => k.wrap (BitVec.ofInt k.bits a ||| BitVec.ofInt k.bits b).toNat
  | .xor => k.wrap (BitVec.ofInt k.bits a ^^^ BitVec.ofInt k.bits b).toNat
  | _ => k.wrap (BitVec.ofInt k.bits a &&& ~~~(BitVec.ofInt k.bits b)).toNat

def ibin (h : List Blk) (op : BinOp) (k k' : IntKind) (a b : Int) : Option Out :=
  match op with
  | .shl => match k with
    | .i64 => okP h (0 ≤ b ∧ b ≤ 63 ∧ isI64 (a * 2 ^ b.toNat)) (.d (.int .i64) (a * 2 ^ b.toNat))
    | k => okP h (0 ≤ b ∧ b ≤ k.bits) (.d (.int k) (k.wrap (a * 2 ^ b.toNat)))
  | .shr => okP h (0 ≤ b ∧ b ≤ k.bits) (.d (.int k) (a / 2 ^ b.toNat))
  | op => if k = k' then
      match op with
      | .add => arith h k (a + b)
      | .sub => arith h k (a - b)
      | .mul => arith h k (a * b)
      | .quo => match k with
        | .i64 => okP h (b ≠ 0 ∧ isI64 (a.tdiv b)) (.d (.int .i64) (a.tdiv b))
        | k => okP h (b ≠ 0) (.d (.int k) (k.wrap (a.tdiv b)))
      | .rem => okP h (b ≠ 0) (.d (.int k) (a.tmod b))
      | .and => ok0 h (.d (.int k) (bitsOp .and k a b))
      | .or => ok0 h (.d (.int k) (bitsOp .or k a b))
      | .xor => ok0 h (.d (.int k) (bitsOp .xor k a b))
      | .andNot => ok0 h (.d (.int k) (bitsOp .andNot k a b))
      | .eql => ok0 h (boolAV (decide (a = b)))
      | .neq => ok0 h (boolAV (!decide (a = b)))
      | .lss => ok0 h (boolAV (decide (a < b)))
      | .leq => ok0 h (boolAV (decide (a ≤ b)))
      | .gtr => ok0 h (boolAV (decide (b < a)))
      | .geq => ok0 h (boolAV (decide (b ≤ a)))
      | _ => none
    else none

def isBoolT (C : Ctx) (t : TypeId) : Bool :=
  match C.P.underlying t with
  | some .bool => true
  | _ => false

def abin (C : Ctx) (h : List Blk) (op : BinOp) (xt : TypeId) (x y : AV) : Option Out :=
  match x, y with
  | .d (.int k) a, .d (.int k') b => ibin h op k k' a b
  | .d .str a, .d .str b =>
    match op with
    | .eql => ok0 h (boolAV (decide (a = b)))
    | .neq => ok0 h (boolAV (!decide (a = b)))
    | _ => none
  | x, y =>
    if isBoolT C xt then
      match asB x, asB y, op with
      | some a, some b, .eql => ok0 h (boolAV (a == b))
      | some a, some b, .neq => ok0 h (boolAV (a != b))
      | _, _, _ => none
    else none

/-- Two structs or arrays, whether they are equal. -/
def abinAgg (C : Ctx) (h : List Blk) (op : BinOp) (xt : TypeId) (x y : AV) : Option Out :=
  match C.ty xt with
  | some ty => if ty.isAgg && eqOk ty && okT C.P ty xt && C.P.keyTypeAt 100 xt && !(C.P.eqGuardType C.P.depth xt) && noRefs' [x, y] then
      match asD h ty x, asD h ty y with
      | some a, some b => match op with
        | .eql => ok0 h (boolAV (eqD ty a b))
        | .neq => ok0 h (boolAV (!eqD ty a b))
        | _ => none
      | _, _ => none
    else none
  | none => none

def aun (h : List Blk) (op : UnOp) (x : AV) : Option Out :=
  match op, x with
  | .not, .tt => ok0 h .ff
  | .not, .ff => ok0 h .tt
  | .not, .d .bool b => ok0 h (boolAV (!b))
  | .neg, .d (.int k) n => arith h k (0 - n)
  | _, _ => none

/-- What a slice reads as. -/
def asList (h : List Blk) : AV → Option ((e : Ty) × List e.den)
  | .d (.arr e) xs => some ⟨e, xs⟩
  | .fs e xs => some ⟨e, xs⟩
  | .sl k => match hget h k with
    | .grow _ e xs => some ⟨e, xs⟩
    | _ => none
  | _ => none

def alen (C : Ctx) (h : List Blk) (t : TypeId) (x : AV) : Option Out :=
  match C.P.underlying t, x with
  | some .string, .d .str l => ok0 h (.d (.int .i64) (l.length : Int))
  | some (.slice _), .nils => ok0 h (.d (.int .i64) (0 : Int))
  | some (.slice _), x => match asList h x with
    | some ⟨_, xs⟩ => ok0 h (.d (.int .i64) (xs.length : Int))
    | none => none
  | some (.map _ _), .sl k => match hget h k with
    | .dmap _ mm => some ⟨some ((mm.length : Int) ≤ 9223372036854775807), .d (.int .i64) (mm.length : Int), h, none⟩
    | _ => none
  | _, _ => none

def foldMin (k : IntKind) : List AV → Int → Option Int
  | [], n => some n
  | .d (.int k') m :: l, n => if k' = k then foldMin k l (min n m) else none
  | _, _ => none
def foldMax (k : IntKind) : List AV → Int → Option Int
  | [], n => some n
  | .d (.int k') m :: l, n => if k' = k then foldMax k l (max n m) else none
  | _, _ => none

/-- The elements that an append appends. -/
def asTail (C : Ctx) (h : List Blk) (e : Ty) (t : TypeId) (y : AV) : Option (List e.den) :=
  match C.P.underlying t, y with
  | some (.slice _), .nils => some []
  | some .string, .d .str l => cast? (.arr (.int .u8)) (.arr e) l
  | some (.slice _), x => match asList h x with
    | some ⟨u, xs⟩ => cast? (.arr u) (.arr e) xs
    | none => none
  | _, _ => none

def elemOf (C : Ctx) (t : TypeId) : Option TypeId :=
  match C.P.underlying t with
  | some (.slice e) => some e
  | _ => none

/-- A type's zero value has as many cells as its data. -/
def zeroOk (e : Ty) (z : AV) : Bool :=
  match cellsOf' z with
  | some l => Nat.beq (listLen l) e.cells
  | none => false

def roomP (C : Ctx) (tid : TypeId) (n : Nat) : Prop := n * (C.P.bytesOf tid) ≤ 140737488355328 ∧ n ≤ 9223372036854775807

/-- Whether an append to a slice of full capacity looks at the tail first. -/
def Ctx.tailFirst (C : Ctx) : Bool := Nat.beq ((C.hint 999999999).unr 0) 77

def aappendTo (C : Ctx) (h : List Blk) (tx tid : TypeId) (sz : Nat) (z : AV) (x y : AV) : Option Out :=
  match x with
  | .nils =>
    match C.ty tid with
    | none => none
    | some e =>
    match asTail C h e tx y with
    | some ys => if Nat.beq e.cells sz && zeroOk e z then some ⟨some (roomP C tid ys.length), .sl (hlen h), h ++ [.grow tid e ys], none⟩ else none
    | none => none
  | .sl k =>
    match hget h k with
    | .grow tid' e xs =>
      match asTail C h e tx y with
      | some ys =>
        if Nat.beq tid tid' && Nat.beq e.cells sz && zeroOk e z then
          some ⟨some (roomP C tid (xs.length + ys.length)), .sl k, hset h k (.grow tid e (xs ++ ys)), some k⟩
        else none
      | none => none
    | _ => none
  | .fs e xs =>
    match asTail C h e tx y with
    | some ys =>
      if Nat.beq e.cells sz && zeroOk e z then
        bif C.tailFirst then
          match ys with
          | [] => some ⟨none, .fs e xs, h, none⟩
          | y :: ys => some ⟨some (roomP C tid (xs.length + (y :: ys).length)), .sl (hlen h), h ++ [.grow tid e (xs ++ y :: ys)], none⟩
        else match xs, ys with
        | [], ys => some ⟨some (roomP C tid ys.length), .sl (hlen h), h ++ [.grow tid e ys], none⟩
        | x :: xs, y :: ys => some ⟨some (roomP C tid ((x :: xs).length + (y :: ys).length)), .sl (hlen h), h ++ [.grow tid e (x :: xs ++ y :: ys)], none⟩
        | _ :: _, [] => none
      else none
    | none => none
  | _ => none

def aappend (C : Ctx) (h : List Blk) (t tx : TypeId) (x y : AV) : Option Out :=
  match elemOf C t with
  | none => none
  | some tid =>
    match C.size tid, C.zero tid with
    | some sz, some z => aappendTo C h tx tid sz z x y
    | _, _ => none

def ainterp (low high max : Option AV) : Option (Int × Option Int × Option Int) :=
  match low, high, max with
  | none, none, none => some (0, none, none)
  | some (.d (.int _) l), none, none => some (l, none, none)
  | none, some (.d (.int _) n), none => some (0, some n, none)
  | some (.d (.int _) l), some (.d (.int _) n), none => some (l, some n, none)
  | none, some (.d (.int _) n), some (.d (.int _) m) => some (0, some n, some m)
  | some (.d (.int _) l), some (.d (.int _) n), some (.d (.int _) m) => some (l, some n, some m)
  | _, _, _ => none

def arrayOf (C : Ctx) (t : TypeId) : Option (Nat × TypeId) :=
  match C.P.underlying t with
  | some (.array n e) => some (n, e)
  | _ => none

/-- A whole array that is only read, as a slice. -/
def asliceArr (C : Ctx) (h : List Blk) (t : TypeId) (x : AV) (low high max : Option AV) : Option Out :=
  match arrayOf C t, low, high, max with
  | some (n, et), none, none, none => match C.size et, x with
    | some sz, .rp (.vec m e) xs => if Nat.beq e.cells sz && Nat.beq m n && Nat.ble n 16777216 then ok0 h (.fs e xs) else none
    | _, _ => none
  | _, _, _, _ => none

def aslice0 (C : Ctx) (h : List Blk) (t : TypeId) (x : AV) (low high max : Option AV) : Option Out :=
  match ainterp low high max with
  | none => none
  | some (l, hi, mx) =>
    match C.P.underlying t, x with
    | some .string, .d .str s =>
      match hi, mx with
      | none, none => okP h (0 ≤ l ∧ l ≤ s.length) (.d .str (s.drop l.toNat))
      | some n, none => okP h (0 ≤ l ∧ l ≤ n ∧ n ≤ s.length) (.d .str ((s.drop l.toNat).take (n.toNat - l.toNat)))
      | _, _ => none
    | some (.slice _), .sl _ => none
    | some (.slice tid), x =>
      match asList h x, C.size tid with
      | some ⟨e, xs⟩, some sz =>
        if Nat.beq sz e.cells then
          match hi, mx with
          | none, none => okP h (0 ≤ l ∧ l ≤ xs.length) (.d (.arr e) ((xs.drop l.toNat).take (xs.length - l.toNat)))
          | some n, none => okP h (0 ≤ l ∧ l ≤ n ∧ n ≤ xs.length) (.d (.arr e) ((xs.drop l.toNat).take (n.toNat - l.toNat)))
          | some n, some m => okP h (0 ≤ l ∧ l ≤ n ∧ n ≤ xs.length ∧ m = n) (.fs e ((xs.drop l.toNat).take (n.toNat - l.toNat)))
          | _, _ => none
        else none
      | _, _ => none
    | _, _ => none

/-- Whether own slices are sliced as views. -/
def Ctx.views (C : Ctx) : Bool := Nat.beq ((C.hint 999999999).unr 1) 1

def endOf (n : Nat) : Option Int → Int
  | none => n
  | some i => i

/-- A part of an own slice, to be looked at or copied to. -/
def asliceV (C : Ctx) (h : List Blk) (t : TypeId) (k : Nat) (low high max : Option AV) : Option Out :=
  match ainterp low high max with
  | some (l, hi, none) =>
    match C.P.underlying t, hget h k with
    | some (.slice tid), .grow _ e xs => match C.size tid with
      | some sz => if Nat.beq sz e.cells then okP h (0 ≤ l ∧ l ≤ endOf xs.length hi ∧ endOf xs.length hi ≤ xs.length ∧ l < xs.length) (.sv k sz l (endOf xs.length hi)) else none
      | none => none
    | _, _ => none
  | _ => none

def aslice (C : Ctx) (h : List Blk) (t : TypeId) (x : AV) (low high max : Option AV) : Option Out :=
  match x with
  | .rp _ _ => asliceArr C h t x low high max
  | .sl k => bif C.views then asliceV C h t k low high max else aslice0 C h t (.sl k) low high max
  | x => aslice0 C h t x low high max

/-- What a copy reads. -/
def asSrc (h : List Blk) : AV → Option ((e : Ty) × List e.den)
  | .sv k sz lo hi => match hget h k with
    | .grow _ e xs => if Nat.beq sz 1 then some ⟨e, (xs.drop lo.toNat).take (hi.toNat - lo.toNat)⟩ else none
    | _ => none
  | x => asList h x

/-- What a copy writes: an own slice, from a place to another one. -/
def asDst (h : List Blk) : AV → Option (Nat × Int × Int)
  | .sl k => match hget h k with
    | .grow _ _ xs => some (k, 0, xs.length)
    | _ => none
  | .sv k sz lo hi => if Nat.beq sz 1 then some (k, lo, hi) else none
  | _ => none

def acopy (C : Ctx) (h : List Blk) (t : TypeId) (x y : AV) : Option Out :=
  match elemOf C t, asDst h x, asSrc h y with
  | some tid, some (k, lo, hi), some ⟨u, ys0⟩ =>
    match C.size tid, hget h k with
    | some sz, .grow tid' e xs =>
      match cast? (.arr u) (.arr e) ys0 with
      | some ys =>
        if Nat.beq sz 1 && Nat.beq e.cells 1 then
          some ⟨some (0 < xs.length ∧ 0 < ys.length ∧ 0 ≤ lo ∧ lo ≤ hi ∧ hi ≤ xs.length), .d (.int .i64) ((min (hi.toNat - lo.toNat) ys.length : Nat) : Int),
            hset h k (.grow tid' e (xs.take lo.toNat ++ ys.take (min (hi.toNat - lo.toNat) ys.length) ++ xs.drop (lo.toNat + min (hi.toNat - lo.toNat) ys.length))), none⟩
        else none
      | none => none
    | _, _ => none
  | _, _, _ => none

def abuiltin (C : Ctx) (h : List Blk) (b : Builtin) (ts : List TypeId) (args : List AV) : Option Out :=
  match b, args with
  | .len, [x] => match ts with | [t] => alen C h t x | _ => none
  | .min, .d (.int kd) n :: l => match foldMin kd l n with | some m => ok0 h (.d (.int kd) m) | none => none
  | .max, .d (.int kd) n :: l => match foldMax kd l n with | some m => ok0 h (.d (.int kd) m) | none => none
  | .append, [x, y] => match ts with | [t, tx] => aappend C h t tx x y | _ => none
  | .copy, [x, y] => match ts with | [t, _] => acopy C h t x y | _ => none
  | _, _ => none

def partsOf (e : Ty) (h : List Blk) : List AV → Option (List e.den)
  | [] => some []
  | v :: vs => match asD h e v with
    | some x => match partsOf e h vs with
      | some xs => some (x :: xs)
      | none => none
    | none => none

/-- The parts of a literal are numbered 0, 1, .. -/
def inOrder : Nat → List (Nat × Operand) → Bool
  | _, [] => true
  | n, (i, _) :: l => Nat.beq i n && inOrder (n + 1) l

def seconds : List (Nat × Operand) → List Operand
  | [] => []
  | (_, o) :: l => o :: seconds l

def fillA (place : Nat → Option (Nat × Nat)) (cs : List AV) : List (Nat × AV) → Option (List AV)
  | [] => some cs
  | (i, v) :: rest =>
    match place i with
    | none => none
    | some (off, size) =>
      match cellsOf' v with
      | none => none
      | some l => if Nat.beq (listLen l) size && Nat.ble (off + size) (listLen cs) then fillA place (setCells cs off l) rest else none

def evParts (fr : List AV) : List (Nat × Operand) → List (Nat × AV)
  | [] => []
  | (i, o) :: l => (i, ev fr o) :: evParts fr l

def optEv (fr : List AV) : Option Operand → Option AV
  | none => none
  | some o => some (ev fr o)

def fieldOf (C : Ctx) (t : TypeId) (f : Nat) : Option Field :=
  match C.P.underlying t with
  | some (.struct fs) => fs[f]?
  | _ => none

def loadOwn (C : Ctx) (t : TypeId) (cs : List AV) (off : Nat) : Option AV :=
  match C.lay t with
  | some (true, sz) => if Nat.ble (off + sz) (listLen cs) then some (.agg (takeN sz (dropN off cs))) else none
  | some (false, _) => if Nat.ble (off + 1) (listLen cs) then some (fget cs off) else none
  | none => none

def placesOf (C : Ctx) (fs : List Field) : Option (List (Nat × Nat)) := fs.mapM fun f => (C.P.info? f.type).map fun i => (f.offset, i.size)

def aload (C : Ctx) (h : List Blk) (t : TypeId) (x : AV) : Option Out :=
  match x with
  | .own k off => match hget h k with
    | .cells cs => match loadOwn C t cs off with
      | some v => ok0 h v
      | none => none
    | _ => none
  | .slp k sz i => match hget h k with
    | .grow _ e xs => match C.lay t with
      | some (ag, n) => if Nat.beq n e.cells && Nat.beq n sz && (ag == e.isAgg) then ok0 h (.d e (xs.getD i.toNat (dflt e))) else none
      | none => none
    | _ => none
  | .rp u x => match C.lay t with
    | some (ag, n) => if Nat.beq n u.cells && (ag == u.isAgg) then ok0 h (.d u x) else none
    | none => none
  | _ => none

def noRefs (l : List AV) : Bool := match refsA l with | [] => true | _ => false

def apick (h : List Blk) (c a b : AV) : Option Out :=
  match c with
  | .tt => ok0 h a
  | .ff => ok0 h b
  | .d .bool x => match asB a, asB b with
    | some y, some z => ok0 h (boolAV (bif x then y else z))
    | _, _ => none
  | _ => none

def abuild (C : Ctx) (h : List Blk) (t : TypeId) (parts : List (Nat × AV)) : Option Out :=
  match C.P.underlying t with
  | some (.struct fs) =>
    match C.zero t, placesOf C fs.toList with
    | some (.agg zs), some ps =>
      match fillA (fun i => ps.toArray[i]?) zs parts with
      | some cs => ok0 h (.agg cs)
      | none => none
    | _, _ => none
  | some (.array _ et) =>
    match C.zero t, C.size et with
    | some (.agg zs), some sz =>
      match fillA (fun i => some (i * sz, sz)) zs parts with
      | some cs => ok0 h (.agg cs)
      | none => none
    | _, _ => none
  | _ => none

def abuildSlice (C : Ctx) (h : List Blk) (t : TypeId) (len : Nat) (parts : List (Nat × Operand)) (vs : List AV) : Option Out :=
  match elemOf C t with
  | some tid => match C.ty tid, C.size tid with
    | some e, some sz =>
      if Nat.beq e.cells sz && inOrder 0 parts && Nat.beq (listLen vs) len && Nat.ble (len * sz) 16777216 && Nat.ble len 16777216 && noRefs vs then
        match partsOf e h vs, C.zero tid with
        | some xs, some _ => ok0 h (.fs e xs)
        | _, _ => none
      else none
    | _, _ => none
  | none => none

def astore (C : Ctx) (h : List Blk) (t : TypeId) (a x : AV) : Option Out :=
  match a with
  | .own k off => match hget h k with
    | .cells cs => match cellsOf' x, C.size t with
      | some l, some sz => if Nat.beq (listLen l) sz && Nat.ble (off + sz) (listLen cs) then some ⟨none, .und, hset h k (.cells (setCells cs off l)), none⟩ else none
      | _, _ => none
    | _ => none
  | .slp k sz i => match hget h k with
    | .grow tid e xs => match asD h e x, C.size t with
      | some y, some n => if Nat.beq n e.cells && Nat.beq n sz && noRefs [x] then some ⟨none, .und, hset h k (.grow tid e (xs.set i.toNat y)), none⟩ else none
      | _, _ => none
    | _ => none
  | _ => none

def anil (h : List Blk) (x : AV) : Option Out :=
  match x with
  | .own k off => ok0 h (.own k off)
  | .rp t x => ok0 h (.rp t x)
  | .slp k sz i => ok0 h (.slp k sz i)
  | _ => none

def aconvert (C : Ctx) (h : List Blk) (src dst : TypeId) (x : AV) : Option Out :=
  match C.P.underlying src, C.P.underlying dst with
  | some (.int _), some (.int k) => match x with
    | .d (.int j) n =>
      match k, j with
      | .i64, .i64 => ok0 h (.d (.int .i64) n)
      | k, _ => ok0 h (.d (.int k) (k.wrap n))
    | _ => none
  | some (.slice et), some .string => match C.P.underlying et with
    | some (.int .u8) => match x with
      | .nils => ok0 h (.d .str [])
      | x => match asList h x with
        | some ⟨e, xs⟩ => match cast? (.arr e) (.arr (.int .u8)) xs with
          | some ys => ok0 h (.d .str ys)
          | none => none
        | none => none
    | _ => none
  | _, _ => none

def amake (C : Ctx) (h : List Blk) (t : TypeId) (l c : AV) : Option Out :=
  match elemOf C t with
  | some tid => match C.ty tid, C.size tid, C.zero tid, l, c with
    | some e, some sz, some z, .d (.int .i64) n, .d (.int .i64) m =>
      if Nat.beq e.cells sz && zeroOk e z then
        match asD [] e z with
        | some x => some ⟨some (0 ≤ n ∧ n ≤ m ∧ roomP C tid m.toNat), .sl (hlen h), h ++ [.grow tid e (List.replicate n.toNat x)], none⟩
        | none => none
      else none
    | _, _, _, _, _ => none
  | none => none

def afieldAddr (C : Ctx) (h : List Blk) (t : TypeId) (x : AV) (f : Nat) : Option Out :=
  match fieldOf C t f with
  | some fd => match C.lay fd.type with
    | some (ag, sz) => match x with
      | .own k off => if Nat.ble 1 sz then ok0 h (.own k (off + fd.offset)) else none
      | .rp u y => if Nat.ble 1 sz then match subD u y fd.offset sz ag with
        | some (.d u' y') => ok0 h (.rp u' y')
        | _ => none
        else none
      | _ => none
    | none => none
  | none => none

def afield (C : Ctx) (h : List Blk) (t : TypeId) (x : AV) (f : Nat) : Option Out :=
  match fieldOf C t f with
  | some fd => match C.lay fd.type with
    | some (ag, sz) => match x with
      | .agg cs => match loadOwn C fd.type cs fd.offset with
        | some v => ok0 h v
        | none => none
      | .d u y => if u.isAgg then
          match subD u y fd.offset sz ag with
          | some v => ok0 h v
          | none => none
        else none
      | _ => none
    | none => none
  | none => none

def aindexArr (C : Ctx) (h : List Blk) (t : TypeId) (x : AV) (i : Int) : Option Out :=
  match arrayOf C t with
  | some (n, et) => match C.size et with
    | some sz => match x with
      | .own k off => okP h (0 ≤ i ∧ i < (n : Int)) (.own k (off + i.toNat * sz))
      | .rp (.vec m e) xs => if Nat.beq e.cells sz && Nat.beq m n then okP h (0 ≤ i ∧ i < (n : Int)) (.rp e (xs.getD i.toNat (dflt e))) else none
      | _ => none
    | none => none
  | none => none

def aindexAddr (C : Ctx) (h : List Blk) (t : TypeId) (x ix : AV) : Option Out :=
  match elemOf C t, ix with
  | some tid, .d (.int _) i => match C.size tid with
    | some sz => match x with
      | .sl k => match hget h k with
        | .grow _ e xs => if Nat.beq e.cells sz then okP h (0 ≤ i ∧ i < xs.length) (.slp k sz i) else none
        | _ => none
      | x => match asList h x with
        | some ⟨e, xs⟩ => if Nat.beq e.cells sz then okP h (0 ≤ i ∧ i < xs.length) (.rp e (xs.getD i.toNat (dflt e))) else none
        | none => none
    | none => none
  | none, .d (.int _) i => aindexArr C h t x i
  | _, _ => none

def aindex (C : Ctx) (h : List Blk) (t : TypeId) (x ix : AV) : Option Out :=
  match C.P.underlying t, x, ix with
  | some .string, .d .str s, .d (.int _) i => okP h (0 ≤ i ∧ i < s.length) (.d (.int .u8) (s.getD i.toNat 0))
  | _, _, _ => none

/-- A slice's beginning, as an array that is only read. -/
def aarrayAt (C : Ctx) (h : List Blk) (t : TypeId) (x : AV) : Option Out :=
  match arrayOf C t with
  | some (n, et) => match C.size et with
    | some sz => match x with
      | .sl _ => none
      | x => match asList h x with
        | some ⟨e, xs⟩ => if Nat.beq e.cells sz && Nat.ble 1 n then okP h ((n : Int) ≤ xs.length) (.rp (.vec n e) (xs.take n)) else none
        | none => none
    | none => none
  | none => none

def aextract (h : List Blk) (x : AV) (i : Nat) : Option Out :=
  match x with
  | .tup cs => if Nat.ble (i + 1) (listLen cs) then ok0 h (fget cs i) else none
  | _ => none

def aalloc (C : Ctx) (h : List Blk) (t : TypeId) : Option Out :=
  match C.zero t with
  | some z => match cellsOf' z with
    | some cs => some ⟨none, .own (hlen h) 0, h ++ [.cells cs], none⟩
    | none => none
  | none => none

/-- A box that is only read. -/
def abox' (C : Ctx) (h : List Blk) (t : TypeId) (x : AV) : Option Out :=
  match x with
  | .d u y => if C.ro t then ok0 h (.rp u y) else none
  | _ => none

def abox (h : List Blk) (x : AV) : Option Out :=
  match cellsOf' x with
  | some cs => some ⟨none, .own (hlen h) 0, h ++ [.cells cs], none⟩
  | none => none

/-- A map with integers as keys: its elements' type. -/
def intMap (C : Ctx) (t : TypeId) : Option TypeId :=
  match C.P.underlying t with
  | some (.map kt et) => match C.P.underlying kt with
    | some (.int .i64) => some et
    | _ => none
  | _ => none

def notInK (n : Int) : List (Int × FuncId) → Bool
  | [] => true
  | (m, _) :: es => !(decide (n = m)) && notInK n es

def ainsert (C : Ctx) (h : List Blk) (t : TypeId) (m key v : AV) : Option Out :=
  match intMap C t, m, key, v with
  | some _, .sl k, .d (.int .i64) n, .fn f [] => match hget h k with
    | .kmap es => if notInK n es then some ⟨none, .und, hset h k (.kmap (es ++ [(n, f)])), none⟩ else none
    | _ => none
  | _, _, _, _ => none

/-- A map's entry is set. -/
def dinsert (C : Ctx) (h : List Blk) (t : TypeId) (m key v : AV) : Option Out :=
  match intMap C t, m, key with
  | some _, .sl k, .d (.int .i64) n => match hget h k with
    | .dmap e mm => match asD h e v with
      | some x => if noRefs [v] then some ⟨none, .und, hset h k (.dmap e (mput mm n x)), none⟩ else none
      | none => none
    | _ => none
  | _, _, _ => none

/-- A map is looked into. -/
def dlookup (C : Ctx) (h : List Blk) (t : TypeId) (m key : AV) (ok : Bool) : Option Out :=
  match intMap C t, m, key with
  | some et, .sl k, .d (.int .i64) n => match hget h k, C.zero et with
    | .dmap e mm, some z => match asD h e z with
      | some x => if noRefs [z] then ok0 h (if ok then .tup [.d e ((mget mm n).getD x), .d .bool (mget mm n).isSome] else .d e ((mget mm n).getD x)) else none
      | none => none
    | _, _ => none
  | _, _, _ => none

def aop (C : Ctx) (fr : List AV) (h : List Blk) (op : Op) : Option Out :=
  match op with
  | .move x | .assign x => ok0 h (ev fr x)
  | .pick c a b => apick h (ev fr c) (ev fr a) (ev fr b)
  | .alloc t => aalloc C h t
  | .box t x => match abox' C h t (ev fr x) with
    | some r => some r
    | none => abox h (ev fr x)
  | .build t parts => abuild C h t (evParts fr parts.toList)
  | .buildSlice t len parts => abuildSlice C h t len parts.toList (evs fr (seconds parts.toList))
  | .load t a => aload C h t (ev fr a)
  | .store t a x => astore C h t (ev fr a) (ev fr x)
  | .nilCheck x => anil h (ev fr x)
  | .binOp op xt x y _ => match abinAgg C h op xt (ev fr x) (ev fr y) with
    | some r => some r
    | none => abin C h op xt (ev fr x) (ev fr y)
  | .unOp op _ x => aun h op (ev fr x)
  | .convert src dst x => aconvert C h src dst (ev fr x)
  | .makeFunc (.func f) first caps => if Nat.beq first.size 0 then ok0 h (.fn f (evs fr caps.toList)) else if Nat.beq caps.size 0 then ok0 h (.bnd f (evs fr first.toList)) else none
  | .makeSlice t l c => amake C h t (ev fr l) (ev fr c)
  | .sliceToArrayPointer t x => aarrayAt C h t (ev fr x)
  | .slice t x lo hi mx => aslice C h t (ev fr x) (optEv fr lo) (optEv fr hi) (optEv fr mx)
  | .fieldAddr t x f => afieldAddr C h t (ev fr x) f
  | .field t x f => afield C h t (ev fr x) f
  | .indexAddr t x ix => aindexAddr C h t (ev fr x) (ev fr ix)
  | .index t x ix => aindex C h t (ev fr x) (ev fr ix)
  | .extract x i => aextract h (ev fr x) i
  | .makeMap t none => match intMap C t with
    | some et => match C.ty et with
      | some e => some ⟨none, .sl (hlen h), h ++ [.dmap e []], none⟩
      | none => some ⟨none, .sl (hlen h), h ++ [.kmap []], none⟩
    | none => none
  | .insert t m key v => match ainsert C h t (ev fr m) (ev fr key) (ev fr v) with
    | some r => some r
    | none => dinsert C h t (ev fr m) (ev fr key) (ev fr v)
  | .mapUpdate t m key v => dinsert C h t (ev fr m) (ev fr key) (ev fr v)
  | .lookup t m key ok => dlookup C h t (ev fr m) (ev fr key) ok
  | .call c => match c.callee with
    | .builtin b => abuiltin C h b c.argTypes.toList (evs fr c.args.toList)
    | _ => none
  | _ => none

/-! ### Lists of operations, code, calls -/
/-- What is called: a function, or the rest of a round. -/
inductive Tgt where
  | fn (f : FuncId)
  | yld (k : Nat)
abbrev CallT := Tgt → List AV → St → (AV → St → Prop) → Prop

def needs (p : Option Prop) (q : Prop) : Prop :=
  match p with
  | none => q
  | some p => p ∧ q

def St.apply (s : St) (o : Out) : St :=
  match o.kill with
  | none => { s with heap := o.heap }
  | some k => { top := subL k .junk s.top, below := subF k .junk s.below, heap := subH k .junk o.heap }

/-- A function that a call enters. -/
def enterOk (C : Ctx) (g : FuncId) : Bool :=
  match C.P.funcs[g]? with
  | some fn => fn.body.isSome && !(fn.name == "runtime.NumGoroutine")
  | none => false

/-- A slice held against nil: an empty one may be nil. -/
def anilCmp (C : Ctx) (o : Oper) (s : St) (k : St → Prop) : Prop :=
  match o.op with
  | .binOp op xt x y _ =>
    match elemOf C xt, ev s.top y with
    | some _, .nils => match asList s.heap (ev s.top x) with
      | some ⟨_, xs⟩ => match op with
        | .eql => ∀ b : Bool, (b = true → xs = []) → k (s.put o.dst (.d .bool b))
        | .neq => ∀ b : Bool, (b = true → xs = []) → k (s.put o.dst (.d .bool (!b)))
        | _ => False
      | none => False
    | _, _ => False
  | _ => False

/-- What a key leads to. -/
def forkK (x : Int) (k : AV → Prop) (z : AV) : List (Int × FuncId) → Prop
  | [] => k z
  | (n, f) :: es => (x = n → k (.fn f [])) ∧ (¬ x = n → forkK x k z es)

def alookup (C : Ctx) (o : Oper) (s : St) (k : St → Prop) : Prop :=
  match o.op with
  | .lookup t m i false =>
    match intMap C t with
    | none => False
    | some et => match ev s.top m, ev s.top i with
      | .sl j, .d (.int .i64) x => match hget s.heap j, C.zero et with
        | .kmap es, some z => forkK x (fun v => k (s.put o.dst v)) z es
        | _, _ => False
      | _, _ => False
  | _ => False

/-- The own slice that is given away: one that is sliced, or becomes an element of a slice. -/
def frzOf (o : Oper) (s : St) : Option Nat :=
  match o.op with
  | .slice _ x _ _ _ => match ev s.top x with
    | .sl j => some j
    | _ => none
  | .buildSlice _ _ parts => match refsA (evs s.top (seconds parts.toList)) with
    | j :: _ => some j
    | [] => none
  | _ => none

def afreeze (C : Ctx) (o : Oper) (s : St) (k : St → Prop) : Prop :=
  match frzOf o s with
  | some j => match aop C (s.freeze j).top (s.freeze j).heap o.op with
    | some r => needs r.need (k (((s.freeze j).apply r).put o.dst r.v))
    | none => False
  | none => False

def isFrz : Op → Bool
  | .slice _ _ _ _ _ | .buildSlice _ _ _ => true
  | _ => false

/-- A map is gone through in whatever order. -/
def arange (C : Ctx) (o : Oper) (s : St) (k : St → Prop) : Prop :=
  match o.op with
  | .range t m => match intMap C t, ev s.top m with
    | some _, .sl j => match hget s.heap j with
      | .dmap e mm => k ({ s with heap := hset s.heap j .gone ++ [Blk.diter e [] mm] }.put o.dst (.own (hlen s.heap) 0))
      | _ => False
    | _, _ => False
  | .next it false => match ev s.top it with
    | .own j 0 => match hget s.heap j with
      | .diter e _ left => (left = [] → k (s.put o.dst (.tup [.ff]))) ∧
          ∀ i : Nat, i < left.length → k ({ s with heap := hset s.heap j (.diter e [left.getD i (0, dflt e)] (left.eraseIdx i)) }.put o.dst (.tup [.tt, .d (.int .i64) (left.getD i (0, dflt e)).1, .d e (left.getD i (0, dflt e)).2]))
      | _ => False
    | _ => False
  | .entry it => match ev s.top it with
    | .own j 0 => match hget s.heap j with
      | .diter e [p] _ => k (s.put o.dst (.tup [.d (.int .i64) p.1, .d e p.2]))
      | _ => False
    | _ => False
  | _ => False

def aext (C : Ctx) (o : Oper) (s : St) (k : St → Prop) : Prop :=
  if isFrz o.op then afreeze C o s k else
  match o.op with
  | .lookup _ _ _ _ => alookup C o s k
  | .range _ _ => arange C o s k
  | .next _ _ => arange C o s k
  | .entry _ => arange C o s k
  | _ => anilCmp C o s k

def astep (C : Ctx) (call : CallT) (o : Oper) (s : St) (k : St → Prop) : Prop :=
  match o.op with
  | .call { callee := .value f, args, .. } =>
    match ev s.top f with
    | .fn g cap => if enterOk C g then call (.fn g) (evs s.top args.toList ++ cap) s (fun v s' => k (s'.put o.dst v)) else False
    | .yld j => call (.yld j) (evs s.top args.toList) s (fun v s' => k (s'.put o.dst v))
    | .bnd g first => if enterOk C g then call (.fn g) (first ++ evs s.top args.toList) s (fun v s' => k (s'.put o.dst v)) else False
    | _ => False
  | op =>
    match aop C s.top s.heap op with
    | some r => needs r.need (k ((s.apply r).put o.dst r.v))
    | none => aext C o s k

def guardTmp (all : Array Oper) (j : Nat) : Option Tmp :=
  match all[j]? with
  | some o => o.dst
  | none => none

def aops (C : Ctx) (call : CallT) (m : Mode) (all : Array Oper) : List Oper → St → (St → Prop) → Prop
  | [], s, k => k s
  | o :: rest, s, k =>
    match o.guard with
    | none => astep C call o s (fun s' => aops C call m all rest s' k)
    | some (j, want) =>
      match guardTmp all j with
      | none => False
      | some t =>
        match fget s.top t with
        | .tt => match want with
          | true => astep C call o s (fun s' => aops C call m all rest s' k)
          | false => aops C call m all rest (s.put o.dst .und) k
        | .ff => match want with
          | false => astep C call o s (fun s' => aops C call m all rest s' k)
          | true => aops C call m all rest (s.put o.dst .und) k
        | .und => aops C call m all rest (s.put o.dst .und) k
        | .d .bool b =>
          match want with
          | true => splitB m b (astep C call o (s.put (some t) .tt) (fun s' => aops C call m all rest s' k))
              (aops C call m all rest ((s.put (some t) .ff).put o.dst .und) k)
          | false => splitB m.flip b (aops C call m all rest ((s.put (some t) .tt).put o.dst .und) k)
              (astep C call o (s.put (some t) .ff) (fun s' => aops C call m all rest s' k))
        | _ => False

/-! ### Regions that draw their order -/
def neutral : Op → Bool
  | .move _ | .assign _ | .pick _ _ _ | .build _ _ | .buildSlice _ _ _ | .load _ _ | .nilCheck _ | .binOp _ _ _ _ _ | .unOp _ _ _ | .convert _ _ _
  | .makeFunc _ _ _ | .sliceToArrayPointer _ _ | .slice _ _ _ _ _ | .fieldAddr _ _ _ | .field _ _ _ | .indexAddr _ _ _ | .index _ _ _ | .extract _ _ => true
  | .call { callee := .builtin .len, .. } | .call { callee := .builtin .min, .. } | .call { callee := .builtin .max, .. } => true
  | _ => false

def nstep (C : Ctx) (o : Oper) (s : St) (k : St → Prop) : Prop :=
  match o.op with
  | .call { callee := .value f, args, .. } =>
    match ev s.top f with
    | .fn g [] => match C.spec g with
      | some sp =>
        if (flats sp.rs || noRefs (maskAs sp.ps (evs s.top args.toList))) && enterOk C g then
          match asDs s.heap sp.ps (maskAs sp.ps (evs s.top args.toList)) with
          | some x => sp.pre x ∧ k (s.put o.dst (outV sp.rs (sp.post x)))
          | none => False
        else False
      | none => False
    | _ => False
  | op =>
    if neutral op then
      match aop C s.top s.heap op with
      | some r => needs r.need (k (s.put o.dst r.v))
      | none => False
    else False

def tmpOf : Operand → Option Nat
  | .tmp t => some t
  | _ => none

/-- The temporaries that an operation looks at. -/
def looks (all : Array Oper) (o : Oper) : List Nat :=
  (o.op.operands.toList.filterMap tmpOf) ++ (match o.guard with | some (j, _) => (guardTmp all j).toList | none => [])

def memN' (t : Nat) : List Nat → Bool
  | [] => false
  | u :: l => Nat.beq t u || memN' t l

/-- A call of a function that hands back a slice of its own. -/
def gcall (C : Ctx) (o : Oper) (s : St) : Option (FuncId × GSpec × List AV) :=
  match o.op with
  | .call { callee := .value f, args, .. } =>
    match ev s.top f with
    | .fn g [] => match C.spec g with
      | some _ => none
      | none => match C.fresh g with
        | some gs => some (g, gs, evs s.top args.toList)
        | none => none
    | _ => none
  | _ => none

/-- A variable of our own. -/
def acell (C : Ctx) (o : Oper) : Option (List AV) :=
  match o.op with
  | .alloc t => match C.zero t with
    | some z => cellsOf' z
    | none => none
  | _ => none

/-- An append to an empty slice that was just written. -/
def pcall (C : Ctx) (o : Oper) (s : St) : Option (Prop × Blk) :=
  match o.op with
  | .call { callee := .builtin .append, args, argTypes } =>
    match evs s.top args.toList, argTypes.toList with
    | [.fs e [], y], [t, tx] => match C.tailFirst, elemOf C t with
      | false, some tid => match C.size tid, C.zero tid, asTail C s.heap e tx y with
        | some sz, some z, some ys => if Nat.beq e.cells sz && zeroOk e z then some (roomP C tid ys.length, .grow tid e ys) else none
        | _, _, _ => none
      | _, _ => none
    | _, _ => none
  | _ => none

def edgesOf (o : Oper) : List Nat := (o.after.toList.filter (Region.binds .any)).map (·.on)

def memS (i : Nat) : List Nat → Bool
  | [] => false
  | j :: l => Nat.beq i j || memS i l

/-- What is waited for, through others too: the operations are looked through from number k down. -/
def sweep (all : Array Oper) : Nat → List Nat → List Nat
  | 0, S => S
  | k + 1, S => if memS k S then (match all[k]? with
      | some o => sweep all k (edgesOf o ++ S)
      | none => sweep all k S) else sweep all k S

/-- The stores among the head's operations. -/
def storesOf : List Oper → Nat → List (Nat × Oper)
  | [], _ => []
  | o :: os, i => match o.op with
    | .store _ _ _ => (i, o) :: storesOf os (i + 1)
    | _ => storesOf os (i + 1)

/-- All stores wait for it. -/
def before (all : Array Oper) : List (Nat × Oper) → Nat → Bool
  | [], _ => true
  | (s, o) :: l, i => (Nat.beq i s || memS i (sweep all s (edgesOf o))) && before all l i

def isSt : List (Nat × Oper) → Nat → Bool
  | [], _ => false
  | (s, _) :: l, i => Nat.beq i s || isSt l i

/-- The own slices are not looked at. -/
def maskB : Blk → Blk
  | .grow _ _ _ => .gone
  | b => b
def maskG : List Blk → List Blk
  | [] => []
  | b :: l => maskB b :: maskG l

/-- What a store of the head writes: into an own slice, or into a variable that the head itself has laid (ex: what it has laid so far). -/
def scall (C : Ctx) (n : Nat) (ex : List Blk) (o : Oper) (s : St) : Option (Nat × Blk) :=
  match o.op, o.dst with
  | .store t a x, none => match ev s.top a with
    | .slp k sz i => match ev s.top x with
      | .d u y => if Nat.ble (k + 1) n then match astore C s.heap t (.slp k sz i) (.d u y) with
          | some r => some (k, hget r.heap k)
          | none => none
        else none
      | _ => none
    | .own k off => if Nat.ble n k then match hget ex (k - n) with
        | .cells cs => match cellsOf' (ev s.top x), C.size t with
          | some l, some sz => if Nat.beq (listLen l) sz && Nat.ble (off + sz) (listLen cs) then some (k, .cells (setCells cs off l)) else none
          | _, _ => none
        | _ => none
      else none
    | _ => none
  | _, _ => none

def wr (h : List Blk) : List (Nat × Blk) → List Blk
  | [] => h
  | (k, b) :: l => wr (hset h k b) l

def notKey (k : Nat) : List (Nat × Blk) → Bool
  | [] => true
  | (j, _) :: l => !(Nat.beq j k) && notKey k l

def upd (rw : List (Nat × Blk)) : Option (Nat × Blk) → List (Nat × Blk)
  | some r => rw ++ [r]
  | none => rw

/-- One operation of the head; what it lays stands at place j. -/
def dstep (C : Ctx) (n : Nat) (ex : List Blk) (rw : List (Nat × Blk)) (isS : Bool) (o : Oper) (j : Nat) (s : St) (k : Blk → Option (Nat × Blk) → St → Prop) : Prop :=
  if isS then match scall C n ex o s with
    | some r => if notKey r.1 rw then k .gone (some r) s else False
    | none => False
  else match gcall C o s with
  | some (g, gs, args) =>
    if noRefs args && enterOk C g then
      match asDs s.heap gs.ps args with
      | some x => gs.pre x ∧ k (.grow gs.tid gs.e (gs.post x)) none (s.put o.dst (.sl j))
      | none => False
    else False
  | none => match acell C o with
    | some cs => k (.cells cs) none (s.put o.dst (.own j 0))
    | none => match pcall C o s with
      | some (p, b) => p ∧ k b none (s.put o.dst (.sl j))
      | none => nstep C o s (k .gone none)

/-- A place for each operation. -/
def gones : List Oper → List Blk
  | [] => []
  | _ :: os => .gone :: gones os

/-- What the head is walked with: its operations, the heap ahead of it, the store, the heaps for those that come before it and the others. -/
structure HW where
  all : Array Oper
  h0 : List Blk
  st : List (Nat × Oper)
  hU : List Blk
  hM : List Blk

def HW.heap (H : HW) (i : Nat) : List Blk := if before H.all H.st i then H.hU else H.hM

def dops (C : Ctx) (m : Mode) (H : HW) : List Oper → Nat → List Blk → List (Nat × Blk) → St → (St → Prop) → Prop
  | [], _, ex, rw, s, k => k { s with heap := wr (H.h0 ++ ex) rw }
  | o :: rest, i, ex, rw, s, k =>
    match o.guard with
    | none => dstep C (hlen H.h0) ex rw (isSt H.st i) o (hlen H.h0 + i) { s with heap := H.heap i } (fun b r s' => dops C m H rest (i + 1) (ex ++ [b]) (upd rw r) s' k)
    | some (g, want) =>
      match guardTmp H.all g with
      | none => False
      | some t =>
        match fget s.top t with
        | .tt => match want with
          | true => dstep C (hlen H.h0) ex rw (isSt H.st i) o (hlen H.h0 + i) { s with heap := H.heap i } (fun b r s' => dops C m H rest (i + 1) (ex ++ [b]) (upd rw r) s' k)
          | false => dops C m H rest (i + 1) (ex ++ [.gone]) rw (s.put o.dst .und) k
        | .ff => match want with
          | false => dstep C (hlen H.h0) ex rw (isSt H.st i) o (hlen H.h0 + i) { s with heap := H.heap i } (fun b r s' => dops C m H rest (i + 1) (ex ++ [b]) (upd rw r) s' k)
          | true => dops C m H rest (i + 1) (ex ++ [.gone]) rw (s.put o.dst .und) k
        | .und => dops C m H rest (i + 1) (ex ++ [.gone]) rw (s.put o.dst .und) k
        | .d .bool b =>
          match want with
          | true => splitB m b (dstep C (hlen H.h0) ex rw (isSt H.st i) o (hlen H.h0 + i) { s.put (some t) .tt with heap := H.heap i } (fun b r s' => dops C m H rest (i + 1) (ex ++ [b]) (upd rw r) s' k))
              (dops C m H rest (i + 1) (ex ++ [.gone]) rw ((s.put (some t) .ff).put o.dst .und) k)
          | false => splitB m.flip b (dops C m H rest (i + 1) (ex ++ [.gone]) rw ((s.put (some t) .tt).put o.dst .und) k)
              (dstep C (hlen H.h0) ex rw (isSt H.st i) o (hlen H.h0 + i) { s.put (some t) .ff with heap := H.heap i } (fun b r s' => dops C m H rest (i + 1) (ex ++ [b]) (upd rw r) s' k))
        | _ => False

def HW.mk' (all : Array Oper) (h0 : List Blk) (head : List Oper) : HW :=
  { all := all, h0 := h0, st := storesOf head 0, hU := h0 ++ gones head, hM := maskG h0 ++ gones head }

def hasEdge (o : Oper) (j : Nat) : Bool := o.after.any fun e => Region.binds .any e && Nat.beq e.on j

def allIn (S : List Nat) : Nat → Bool
  | 0 => true
  | j + 1 => memS j S && allIn S j

/-- All operations before number i are waited for by it, be it through others. -/
def depAll (all : Array Oper) (o : Oper) (i : Nat) : Bool := allIn (sweep all i (edgesOf o)) i

/-- Operation number i against number j of the head. -/
def pairOk (all : Array Oper) (i j : Nat) (oi oj : Oper) : Bool :=
  Nat.beq i j || match oj.dst with
    | none => true
    | some t => !(oi.dst == some t) && (!(memN' t (looks all oi)) || (Nat.blt j i && hasEdge oi j) || (Nat.blt i j && hasEdge oj i))

def selfOk (all : Array Oper) (o : Oper) : Bool :=
  match o.dst with
  | none => true
  | some t => !(memN' t (looks all o))

def backEdges (i : Nat) (o : Oper) : Bool := o.after.all fun e => !Region.binds .any e || Nat.blt e.on i

def headOk (all : Array Oper) (head : List (Oper × Nat)) : Bool :=
  head.all fun p => selfOk all p.1 && backEdges p.2 p.1 && head.all fun q => pairOk all p.2 q.2 p.1 q.1

def tailOk (all : Array Oper) : Nat → List Oper → Bool
  | _, [] => true
  | i, o :: l => depAll all o i && backEdges i o && tailOk all (i + 1) l

/-- How many operations at the end wait for all before them. -/
def tailLen (all : Array Oper) : Nat → List Oper → Nat     -- the list turned round, the number of its first one
  | _, [] => 0
  | i, o :: l => if depAll all o i then tailLen all (i - 1) l + 1 else 0

def headLen (ops : Array Oper) : Nat := ops.size - tailLen ops (ops.size - 1) ops.toList.reverse

def drawOk (ops : Array Oper) (m : Nat) : Bool := headOk ops (ops.toList.take m).zipIdx && tailOk ops m (ops.toList.drop m)

/-- The operations that may come next, of those before number n. -/
def readyL (all : Array Oper) (L : List Nat) : Nat → List Nat
  | 0 => []
  | n + 1 => match all[n]? with
    | some o => if !(memS n L) && (edgesOf o).all (fun j => memS j L) then readyL all L n ++ [n] else readyL all L n
    | none => readyL all L n

def aeach (p : Nat → Prop) : List Nat → Prop
  | [] => True
  | [i] => p i
  | i :: j :: l => p i ∧ aeach p (j :: l)

def oneAt (all : Array Oper) (i : Nat) (p : Oper → Prop) : Prop :=
  match all[i]? with
  | some o => p o
  | none => False

def isNilL : List Nat → Bool
  | [] => true
  | _ => false

/-- No operation is put off. -/
def noDefer (all : Array Oper) : Bool := all.all fun o => match o.op with | .defer _ => false | _ => true

/-- Operations that yield the same in whatever world that keeps what is promised. -/
def isTk (fr : List AV) : Op → Bool
  | .move _ | .assign _ | .fieldAddr _ _ _ => true
  | .load _ x => match ev fr x with
    | .rp _ _ => true
    | _ => false
  | .indexAddr _ x _ => match ev fr x with
    | .d _ _ => true
    | .fs _ _ => true
    | _ => false
  | .binOp _ _ x y _ => match ev fr x, ev fr y with
    | .d (.int _) _, .d (.int _) _ => true
    | _, _ => false
  | .slice _ x _ _ _ => match ev fr x with
    | .d (.arr _) _ => true
    | _ => false
  | _ => false

/-- It may be taken first. -/
def freeL (fr : List AV) (all : Array Oper) (L : List Nat) (i : Nat) : Bool :=
  match all[i]? with
  | none => false
  | some oi => isTk fr oi.op && oi.guard.isNone && (List.range all.size).all fun j => j == i || memS j L || match all[j]? with
      | some oj => oj.after.any (fun e => Region.binds .any e && e.on == i) || oi.apart all oj
      | none => true

def tkOf (fr : List AV) (all : Array Oper) (L : List Nat) : List Nat → Option Nat
  | [] => none
  | i :: l => if freeL fr all L i then some i else tkOf fr all L l

/-- All orders of a region, one by one; what yields the same in whatever world is taken first. -/
def aall (C : Ctx) (call : CallT) (all : Array Oper) : Nat → List Nat → St → (St → Prop) → Prop
  | 0, L, s, k => if isNilL (readyL all L all.size) then k s else False
  | n + 1, L, s, k => if isNilL (readyL all L all.size) then k s else
      match tkOf s.top all L (readyL all L all.size) with
      | some i => oneAt all i fun o => match aop C s.top s.heap o.op with
        | some r => needs r.need (aall C call all n (i :: L) (s.put o.dst r.v) k)
        | none => False
      | none => aeach (fun i => oneAt all i fun o => aops C call .split all [o] s (fun s' => aall C call all n (i :: L) s' k)) (readyL all L all.size)

def isAllM : Mode → Bool
  | .all => true
  | _ => false

def adraw (C : Ctx) (call : CallT) (md : Mode) (ops : Array Oper) (s : St) (k : St → Prop) : Prop :=
  if isAllM md then (if C.P.follows .mixedOrders && (Region.noSelect ops && noDefer ops) then aall C call ops ops.size [] s k else False) else
  if drawOk ops (headLen ops) && C.P.follows .mixedOrders then
    dops C md (HW.mk' ops s.heap (ops.toList.take (headLen ops))) (ops.toList.take (headLen ops)) 0 [] [] s (fun s' => aops C call md ops (ops.toList.drop (headLen ops)) s' k)
  else False

def setTmp : Operand → AV → St → St
  | .tmp t, v, s => s.put (some t) v
  | _, _, s => s

/-- The slots that a code writes. -/
def dstsOps : List Oper → List Nat
  | [] => []
  | o :: os => match o.dst with | some t => t :: dstsOps os | none => dstsOps os
def dsts : Code → List Nat
  | .region _ ops _ => dstsOps ops.toList
  | .seq a b => dsts a ++ dsts b
  | .cond _ a b => dsts a ++ dsts b
  | .block _ c | .loop c | .scope c => dsts c
  | _ => []

def firstRegion : Code → Option Nat
  | .region i _ _ => some i
  | .seq a b => match firstRegion a with | some i => some i | none => firstRegion b
  | .cond _ a b => match firstRegion a with | some i => some i | none => firstRegion b
  | .block _ c | .loop c | .scope c => firstRegion c
  | _ => none

/-! ### Loops -/
def getLA (s : St) : (a : LA) → Option a.ty.den
  | .slot i t => if noRefs [fget s.top i] then asD s.heap t (fget s.top i) else none
  | .cell k off t => match hget s.heap k with
    | .cells cs => if !t.isAgg && noRefs [fget cs off] && Nat.ble (off + 1) (listLen cs) then asD1 s.heap t (fget cs off) else none
    | _ => none
  | .gslot i tid e => match fget s.top i with
    | .sl k => match hget s.heap k with
      | .grow tid' e' xs => if Nat.beq tid tid' then cast? (.arr e') (.arr e) xs else none
      | _ => none
    | .fs e' xs => cast? (.arr e') (.arr e) xs
    | _ => none
  | .gcell k off tid e => match hget s.heap k with
    | .cells cs => match fget cs off with
      | .sl j => match hget s.heap j with
        | .grow tid' e' xs => if Nat.beq tid tid' then cast? (.arr e') (.arr e) xs else none
        | _ => none
      | _ => none
    | _ => none
  | .keep k tid e => match hget s.heap k with
    | .grow tid' e' xs => if Nat.beq tid tid' then cast? (.arr e') (.arr e) xs else none
    | _ => none
  | .kmp k e => match hget s.heap k with
    | .dmap e' m => cast? (.arr (.pair (.int .i64) e')) (.arr (.pair (.int .i64) e)) m
    | _ => none
  | .kit k e => match hget s.heap k with
    | .diter e' _ m => cast? (.arr (.pair (.int .i64) e')) (.arr (.pair (.int .i64) e)) m
    | _ => none

def getLAs (s : St) : (as : List LA) → Option (dens (laTys as))
  | [] => some ()
  | [a] => getLA s a
  | a :: b :: as =>
    match getLA s a with
    | some x => match getLAs s (b :: as) with
      | some y => some (x, y)
      | none => none
    | none => none

/-- A slot with a nil slice becomes one with a slice of our own. -/
def prepLA (s : St) : LA → St
  | .gslot i tid e => match fget s.top i with
    | .nils => { s with top := fset s.top i (.sl (hlen s.heap)), heap := s.heap ++ [.grow tid e []] }
    | _ => s
  | .gcell k off tid e => match hget s.heap k with
    | .cells cs => match fget cs off with
      | .nils => { s with heap := hset (s.heap ++ [.grow tid e []]) k (.cells (fset cs off (.sl (hlen s.heap)))) }
      | _ => s
    | _ => s
  | _ => s

def prepLAs (s : St) : List LA → St
  | [] => s
  | a :: as => prepLAs (prepLA s a) as

def memN (i : Nat) : List Nat → Bool
  | [] => false
  | j :: l => Nat.beq i j || memN i l

/-- No pointer into a slice of our own, none of the slices that vary. -/
def noSlp (ks : List Nat) : AV → AV
  | .slp _ _ _ => .junk
  | .sv _ _ _ _ => .junk
  | .sl k => if memN k ks then .junk else .sl k
  | v => v

/-- What is written and not told is forgotten. -/
def forget (ks : List Nat) (w : List Nat) : Nat → List AV → List AV
  | _, [] => []
  | i, v :: vs => (if memN i w then .junk else noSlp ks v) :: forget ks w (i + 1) vs

def noSlps (ks : List Nat) : List AV → List AV
  | [] => []
  | v :: vs => noSlp ks v :: noSlps ks vs
def noSlpF (ks : List Nat) : List (List AV) → List (List AV)
  | [] => []
  | f :: fs => noSlps ks f :: noSlpF ks fs

mutual
/-- Of a variable's content, what it stands on is kept. -/
def keepC (ks : List Nat) : AV → AV
  | .own k o => .own k o
  | .sl k => if memN k ks then .junk else .sl k
  | .fn f cs => .fn f (keepCs ks cs)
  | .bnd f cs => .bnd f (keepCs ks cs)
  | .yld k => .yld k
  | .nils => .nils
  | .nilf => .nilf
  | .nilp => .nilp
  | _ => .junk
def keepCs (ks : List Nat) : List AV → List AV
  | [] => []
  | v :: vs => keepC ks v :: keepCs ks vs
end

mutual
/-- It is what it was. -/
def sameC : AV → AV → Bool
  | .own k o, b => match b with | .own k' o' => Nat.beq k k' && Nat.beq o o' | _ => false
  | .sl k, b => match b with | .sl k' => Nat.beq k k' | _ => false
  | .fn f cs, b => match b with | .fn f' ds => Nat.beq f f' && sameCs cs ds | _ => false
  | .bnd f cs, b => match b with | .bnd f' ds => Nat.beq f f' && sameCs cs ds | _ => false
  | .yld k, b => match b with | .yld k' => Nat.beq k k' | _ => false
  | .nils, b => match b with | .nils => true | _ => false
  | .nilf, b => match b with | .nilf => true | _ => false
  | .nilp, b => match b with | .nilp => true | _ => false
  | .junk, _ => true
  | _, _ => false
def sameCs : List AV → List AV → Bool
  | [], b => match b with | [] => true | _ => false
  | c :: cs, b => match b with | d :: ds => sameC c d && sameCs cs ds | [] => false
end

def yldIn (k : Nat) : List AV → Bool
  | [] => false
  | .yld j :: l => Nat.beq j k || yldIn k l
  | _ :: l => yldIn k l
def yldInF (k : Nat) : List (List AV) → Bool
  | [] => false
  | f :: fs => yldIn k f || yldInF k fs

/-- What is left of the blocks at a loop's head: variables' content that cannot vary, records of loops under way that a frame names. -/
def havocH (ks : List Nat) (fs : List (List AV)) : Nat → List Blk → List Blk
  | _, [] => []
  | i, .cells cs :: h => .cells (keepCs ks cs) :: havocH ks fs (i + 1) h
  | i, .kmap es :: h => .kmap es :: havocH ks fs (i + 1) h
  | i, .loop f p ph ts :: h => (if yldInF i fs then .loop f p ph (noSlps ks ts) else .gone) :: havocH ks fs (i + 1) h
  | i, _ :: h => .gone :: havocH ks fs (i + 1) h

/-- The number of the own slice that a row of the annotation speaks of. -/
def laSl (s0 : St) : LA → Option Nat
  | .gslot i _ _ => match fget s0.top i with
    | .sl k => some k
    | _ => none
  | .gcell k off _ _ => match hget s0.heap k with
    | .cells cs => match fget cs off with
      | .sl j => some j
      | _ => none
    | _ => none
  | _ => none

/-- The own slices that the annotation speaks of. -/
def laKs (s0 : St) : List LA → List Nat
  | [] => []
  | a :: as => match laSl s0 a with
    | some k => k :: laKs s0 as
    | none => laKs s0 as

def setLA (s0 s : St) : (a : LA) → a.ty.den → St
  | .slot i t, x => { s with top := fset s.top i (.d t x) }
  | .cell k off t, x => match hget s.heap k with
    | .cells cs => { s with heap := hset s.heap k (.cells (fset cs off (.d t x))) }
    | _ => s
  | .gslot i tid e, xs => match laSl s0 (.gslot i tid e) with
    | some k => { s with top := fset s.top i (.sl k), heap := hset s.heap k (.grow tid e xs) }
    | none => s
  | .gcell k off tid e, xs => match laSl s0 (.gcell k off tid e) with
    | some j => match hget s.heap k with
      | .cells cs => { s with heap := hset (hset s.heap k (.cells (fset cs off (.sl j)))) j (.grow tid e xs) }
      | _ => s
    | none => s
  | .keep k tid e, xs => { s with heap := hset s.heap k (.grow tid e xs) }
  | .kmp k e, xs => { s with heap := hset s.heap k (.dmap e xs) }
  | .kit k e, xs => { s with heap := hset s.heap k (.diter e [] xs) }

def setLAs (s0 s : St) : (as : List LA) → dens (laTys as) → St
  | [], _ => s
  | [a], x => setLA s0 s a x
  | a :: b :: as, x => setLAs s0 (setLA s0 s a x.1) (b :: as) x.2

/-- A loop's head, but for what varies. -/
def head0 (s0 : St) (w : List Nat) (as : List LA) : St :=
  { top := forget (laKs s0 as) w 0 s0.top, below := noSlpF (laKs s0 as) s0.below, heap := havocH (laKs s0 as) (forget (laKs s0 as) w 0 s0.top :: noSlpF (laKs s0 as) s0.below) 0 s0.heap }

def tmpl (s0 : St) (w : List Nat) (as : List LA) (x : dens (laTys as)) : St := setLAs s0 (head0 s0 w as) as x

mutual
def still : AV → AV → Bool
  | .own k o, b => match b with | .own k' o' => Nat.beq k k' && Nat.beq o o' | _ => false
  | .sl k, b => match b with | .sl k' => Nat.beq k k' | _ => false
  | .slp _ _ _, _ => false
  | .sv _ _ _ _, _ => false
  | .yld k, b => match b with | .yld k' => Nat.beq k k' | _ => false
  | .agg cs, b => match b with | .agg cs' => stillL cs cs' | _ => false
  | .tup cs, b => match b with | .tup cs' => stillL cs cs' | _ => false
  | .fn _ cs, b => match b with | .fn _ cs' => stillL cs cs' | _ => false
  | .bnd _ cs, b => match b with | .bnd _ cs' => stillL cs cs' | _ => false
  | _, _ => true
def stillL : List AV → List AV → Bool
  | [], _ => true
  | c :: cs, b => match b with | c' :: cs' => still c c' && stillL cs cs' | [] => false
end

/-- The slots that a loop does not write still are what they were. -/
def stillT (w : List Nat) : Nat → List AV → List AV → Bool
  | _, [], _ => true
  | i, v :: vs, b => match b with | v' :: vs' => (memN i w || still v v') && stillT w (i + 1) vs vs' | [] => false
def stillF : List (List AV) → List (List AV) → Bool
  | [], _ => true
  | f :: fs, b => match b with | f' :: fs' => stillL f f' && stillF fs fs' | [] => false

/-- The annotation's own slices are the same ones, and its blocks are there. -/
def stillA (s0 s : St) : List LA → Bool
  | [] => true
  | a :: as => (match a with
      | .slot _ _ | .cell _ _ _ => true
      | a => match laSl s0 a, laSl s a with
        | some j, some k => Nat.beq j k
        | none, _ => true
        | _, _ => false) && stillA s0 s as

def exBeq : Ex → Ex → Bool
  | .normal, .normal => true
  | .exit i, .exit j => Nat.beq i j
  | .ret, .ret => true
  | _, _ => false
def phBeq : Ph → Ph → Bool
  | .ready, .ready => true
  | .busy, .busy => true
  | .done e, .done e' => exBeq e e'
  | .exhausted, .exhausted => true
  | _, _ => false
def natsBeq : List Nat → List Nat → Bool
  | [], [] => true
  | a :: l, b :: m => Nat.beq a b && natsBeq l m
  | _, _ => false
def kmBeq : List (Int × FuncId) → List (Int × FuncId) → Bool
  | [], [] => true
  | (n, f) :: l, (m, g) :: k => decide (n = m) && Nat.beq f g && kmBeq l k
  | _, _ => false

/-- A block is what the head says of it. -/
def sameB : Blk → Blk → Bool
  | .gone, _ => true
  | .cells cs, b => match b with | .cells ds => sameCs cs ds | _ => false
  | .kmap es, b => match b with | .kmap fs => kmBeq es fs | _ => false
  | .loop f p ph ts, b => match b with | .loop f' p' ph' ts' => Nat.beq f f' && natsBeq p p' && phBeq ph ph' && stillL ts ts' && Nat.beq (listLen ts) (listLen ts') | _ => false
  | .grow _ _ _, _ => false
  | .dmap _ _, _ => false
  | .diter _ _ _, _ => false
/-- The blocks are what the head says of them. -/
def sameBs : List Blk → List Blk → Bool
  | [], _ => true
  | b :: h, c :: h' => sameB b c && sameBs h h'
  | _ :: _, [] => false

def fits (as : List LA) (w : List Nat) (s0 s : St) : Bool :=
  stillT w 0 (forget (laKs s0 as) w 0 s0.top) s.top && stillF (noSlpF (laKs s0 as) s0.below) s.below && stillA s0 s as && sameBs (head0 s0 w as).heap s.heap

def aloop (as : List LA) (w : List Nat) (body : (Ex → St → Prop) → St → Prop) (k : Ex → St → Prop) (s : St) : Prop :=
  match getLAs (prepLAs s as) as with
  | none => False
  | some x0 => if fits as w (prepLAs s as) (prepLAs s as) then ∃ (I : dens (laTys as) → Prop) (μ : dens (laTys as) → Nat), I x0 ∧ ∀ x, I x →
      body (fun e s' => match e with
        | .normal => match getLAs s' as with
          | some x' => if fits as w (prepLAs s as) s' then I x' ∧ μ x' < μ x else False
          | none => False
        | e => k e s') (tmpl (prepLAs s as) w as x)
    else False

/-- A loop round by round. -/
def aunroll (body : (Ex → St → Prop) → St → Prop) (k : Ex → St → Prop) : Nat → St → Prop
  | 0, _ => False
  | n + 1, s => body (fun e s' => match e with | .normal => aunroll body k n s' | e => k e s') s

/-- A part of a code. -/
def childOf : Code → Nat → Option Code
  | .seq a b, i => if Nat.beq i 0 then some a else some b
  | .cond _ a b, i => if Nat.beq i 0 then some a else some b
  | .block _ c, _ => some c
  | .loop c, _ => some c
  | .scope c, _ => some c
  | .rangeFunc _ _ a b, i => if Nat.beq i 0 then some a else some b
  | _, _ => none
/-- The part of a function's code that a path leads to (the path turned round). -/
def codeAt (P : Program) (f : FuncId) : List Nat → Option Code
  | [] => match P.funcs[f]? with
    | some fn => fn.body
    | none => none
  | i :: p => match codeAt P f p with
    | some c => childOf c i
    | none => none

def setPh (h : List Blk) (j : Nat) (ph : Ph) : List Blk :=
  match hget h j with
  | .loop f p _ ts => hset h j (.loop f p ph ts)
  | _ => h

def popped (s : St) : Option St :=
  match s.below with
  | f :: fs => some { top := f, below := fs, heap := s.heap }
  | [] => none

/-- The frame that only names a range over a function is taken off. -/
def named (j : Nat) (s : St) : Option St :=
  match s.top with
  | [.yld i] => if Nat.beq i j then popped s else none
  | _ => none
def namedB (j : Nat) (s : St) : Bool :=
  match s.below with
  | [.yld i] :: _ => Nat.beq i j
  | _ => false

/-- Rows that keep a slice that is not there are left out. -/
def pruneK (h : List Blk) : List LA → (List LA → Prop) → Prop
  | [], k => k []
  | .keep j tid e :: as, k => match hget h j with
    | .grow _ _ _ => pruneK h as (fun l => k (.keep j tid e :: l))
    | _ => pruneK h as k
  | .kmp j e :: as, k => match hget h j with
    | .dmap _ _ => pruneK h as (fun l => k (.kmp j e :: l))
    | _ => pruneK h as k
  | .kit j e :: as, k => match hget h j with
    | .diter _ _ _ => pruneK h as (fun l => k (.kit j e :: l))
    | _ => pruneK h as k
  | .slot i t :: as, k => pruneK h as (fun l => k (.slot i t :: l))
  | .cell i o t :: as, k => pruneK h as (fun l => k (.cell i o t :: l))
  | .gslot i t e :: as, k => pruneK h as (fun l => k (.gslot i t e :: l))
  | .gcell i o t e :: as, k => pruneK h as (fun l => k (.gcell i o t e :: l))

theorem pruneK_spec {h : List Blk} : ∀ {as : List LA} {k : List LA → Prop}, pruneK h as k → ∃ l, k l
  | [], _, hk => ⟨[], hk⟩
  | .keep j tid e :: as, k, hk => by
    unfold pruneK at hk
    split at hk
    · obtain ⟨l, hl⟩ := pruneK_spec hk; exact ⟨_, hl⟩
    · exact pruneK_spec hk
  | .kmp j e :: as, k, hk => by
    unfold pruneK at hk
    split at hk
    · obtain ⟨l, hl⟩ := pruneK_spec hk; exact ⟨_, hl⟩
    · exact pruneK_spec hk
  | .kit j e :: as, k, hk => by
    unfold pruneK at hk
    split at hk
    · obtain ⟨l, hl⟩ := pruneK_spec hk; exact ⟨_, hl⟩
    · exact pruneK_spec hk
  | .slot i t :: as, k, hk => by obtain ⟨l, hl⟩ := pruneK_spec (as := as) hk; exact ⟨_, hl⟩
  | .cell i o t :: as, k, hk => by obtain ⟨l, hl⟩ := pruneK_spec (as := as) hk; exact ⟨_, hl⟩
  | .gslot i t e :: as, k, hk => by obtain ⟨l, hl⟩ := pruneK_spec (as := as) hk; exact ⟨_, hl⟩
  | .gcell i o t e :: as, k, hk => by obtain ⟨l, hl⟩ := pruneK_spec (as := as) hk; exact ⟨_, hl⟩

def refsH : List Blk → List Nat
  | [] => []
  | .cells cs :: h => refsA cs ++ refsH h
  | _ :: h => refsH h

/-- A region's own hint may give all own slices away ahead of it: those that the frame holds; those in variables as well. -/
def Ctx.ahead (C : Ctx) (f : FuncId) (id : Nat) (s : St) : St :=
  bif Nat.beq ((C.hint f).unr id) 500 then s.freezeAll (refsA s.top)
  else bif Nat.beq ((C.hint f).unr id) 501 then s.freezeAll (refsH s.heap) else s

/-- A region's own hint may ask for a slot's number case by case: 3000 + 16 * slot + so many. -/
def forkN (x : Int) (i : Nat) (s : St) (k : St → Prop) : Nat → Prop
  | 0 => True
  | n + 1 => (x = (n : Int) → k { s with top := fset s.top i (.d (.int .i64) (n : Int)) }) ∧ forkN x i s k n
def forkW (m i : Nat) (s : St) (k : St → Prop) : Prop :=
  match fget s.top i with
  | .d (.int .i64) x => (0 ≤ (x : Int) ∧ (x : Int) < (m : Int)) ∧ forkN x i s k m
  | _ => False
def Ctx.fork (C : Ctx) (f : FuncId) (id : Nat) (s : St) (k : St → Prop) : Prop :=
  if Nat.ble 3000 ((C.hint f).unr id) then forkW (Nat.mod (Nat.sub ((C.hint f).unr id) 3000) 16) (Nat.div (Nat.sub ((C.hint f).unr id) 3000) 16) s k else k s

def awp (C : Ctx) (call : CallT) (f : FuncId) : List Nat → Code → (Ex → St → Prop) → St → Prop
  | _, .skip, k, s => k .normal s
  | _, .label _, k, s => k .normal s
  | _, .region id ops draw, k, s => C.fork f id s (fun s => if draw then adraw C call ((C.hint f).mode id) ops (C.ahead f id s) (k .normal) else aops C call ((C.hint f).mode id) ops ops.toList (C.ahead f id s) (k .normal))
  | p, .seq a b, k, s => awp C call f (0 :: p) a (fun e s' => match e with | .normal => awp C call f (1 :: p) b k s' | e => k e s') s
  | p, .cond c a b, k, s =>
    match ev s.top c with
    | .tt => awp C call f (0 :: p) a k s
    | .ff => awp C call f (1 :: p) b k s
    | .d .bool x => splitB ((C.hint f).cond c) x (awp C call f (0 :: p) a k (setTmp c .tt s)) (awp C call f (1 :: p) b k (setTmp c .ff s))
    | _ => False
  | p, .block id c, k, s => awp C call f (0 :: p) c (fun e s' => match e with | .exit i => if Nat.beq i id then k .normal s' else k (.exit i) s' | e => k e s') s
  | p, .scope c, k, s => awp C call f (0 :: p) c k s
  | _, .exit id, k, s => k (.exit id) s
  | _, .ret, k, s => k .ret s
  | p, .loop body, k, s =>
    match firstRegion body with
    | some r => match (C.hint f).unr r with
      | 0 => pruneK s.heap ((C.hint f).las r) (fun as => aloop as (dsts body) (awp C call f (0 :: p) body) k s)
      | n => if Nat.beq n 1000 then awp C call f (0 :: p) body (fun e s' => match e with
          | .normal => pruneK s'.heap ((C.hint f).las r) (fun as => aloop as (dsts body) (awp C call f (0 :: p) body) k s')
          | e => k e s') s
        else aunroll (awp C call f (0 :: p) body) k n s
    | none => False
  | p, .rangeFunc g _ _ _, k, s =>
    match ev s.top g with
    | .fn h cap => if enterOk C h then
        call (.fn h) (.yld (hlen s.heap) :: cap) { top := [.yld (hlen s.heap)], below := s.top :: s.below, heap := s.heap ++ [.loop f p .ready s.top] } (fun _ s' =>
          match named (hlen s.heap) s' with
          | none => False
          | some s1 => match hget s1.heap (hlen s.heap) with
            | .loop _ _ .ready _ => k .normal { s1 with heap := setPh s1.heap (hlen s.heap) .exhausted }
            | .loop _ _ (.done e) _ => k e { s1 with heap := setPh s1.heap (hlen s.heap) .exhausted }
            | _ => False)
      else False
    | _ => False
  | _, _, _, _ => False

/-! ### Calls -/
def resV (C : Ctx) (s : St) : List ResultVar → Option (List AV)
  | [] => some []
  | .tmp t :: rs => match resV C s rs with
    | some l => some (fget s.top t :: l)
    | none => none
  | .cell a t :: rs => match fget s.top a with
    | .own k off => match hget s.heap k with
      | .cells cs => match loadOwn C t cs off, resV C s rs with
        | some v, some l => some (v :: l)
        | _, _ => none
      | _ => none
    | _ => none

def tup1 : List AV → AV
  | [v] => v
  | vs => .tup vs

def pads : List AV → Nat → List AV
  | [], n => List.replicate n .und
  | v :: vs, n => v :: pads vs (n - 1)

def contract (sp : FSpec) (args : List AV) (s : St) (k : AV → St → Prop) : Prop :=
  match asDs s.heap sp.ps args with
  | none => False
  | some x => sp.pre x ∧ k (outV sp.rs (sp.post x)) (if flats sp.rs then s else s.freezeAll (refsA args))

def contractG (g : GSpec) (args : List AV) (s : St) (k : AV → St → Prop) : Prop :=
  match asDs s.heap g.ps args with
  | none => False
  | some x => g.pre x ∧ k (.sl (hlen (s.freezeAll (refsA args)).heap)) { s.freezeAll (refsA args) with heap := (s.freezeAll (refsA args)).heap ++ [.grow g.tid g.e (g.post x)] }

def inlined (C : Ctx) (call : CallT) (f : FuncId) (fn : Func) (args : List AV) (s : St) (k : AV → St → Prop) : Prop :=
  match fn.body with
  | none => False
  | some code =>
    if Nat.ble (listLen args) fn.ntmps then
      awp C call f [] code (fun e s' =>
        match e with
        | .exit _ => False
        | _ => match resV C s' fn.results.toList with
          | none => False
          | some vs => match popped s' with
            | none => False
            | some s'' => k (tup1 vs) s'')
        { top := pads args fn.ntmps, below := s.top :: s.below, heap := s.heap }
    else False

def setPs : List AV → List Nat → List AV → List AV
  | ts, t :: ps, v :: vs => setPs (fset ts t v) ps vs
  | ts, _, _ => ts

/-- One round of a range over a function. -/
def around (C : Ctx) (call : CallT) (j : Nat) (args : List AV) (s : St) (k : AV → St → Prop) : Prop :=
  match hget s.heap j with
  | .loop f p .ready ts => match codeAt C.P f p with
    | some (.rangeFunc _ ps as bd) =>
      if Nat.beq (listLen args) (listLen' ps.toList) then
        awp C call f (0 :: p) as (fun e s1 => match e with
          | .normal => if namedB j s1 then match hget s1.heap j with
            | .loop _ _ .ready _ => awp C call f (1 :: p) bd (fun e s2 => match popped s2 with
              | none => False
              | some s3 => match named j s3 with
                | none => False
                | some s4 => match hget s4.heap j with
                  | .loop _ _ .busy _ => match e with
                    | .normal => k .tt { s4 with heap := setPh s4.heap j .ready }
                    | e => k .ff { s4 with heap := setPh s4.heap j (.done e) }
                  | _ => False) { s1 with heap := setPh s1.heap j .busy }
            | _ => False
            else False
          | _ => False) { top := setPs ts ps.toList args, below := [.yld j] :: s.top :: s.below, heap := s.heap }
      else False
    | _ => False
  | _ => False
where
  listLen' : List Nat → Nat
    | [] => 0
    | _ :: l => listLen' l + 1

/-- An own slice is sorted. -/
def asort (g : SSpec) (args : List AV) (s : St) (k : AV → St → Prop) : Prop :=
  match args with
  | [.sl j, .fn c []] => if Nat.beq c g.cmp then match hget s.heap j with
      | .grow tid e xs => if Nat.beq tid g.tid then match cast? (.arr e) (.arr g.e) xs with
          | some ys => ((ys.length : Int) ≤ 4611686018427387903) ∧ k (.tup []) { s with heap := hset s.heap j (.grow g.tid g.e (g.f ys)) }
          | none => False
        else False
      | _ => False
    else False
  | _ => False

def acall (C : Ctx) : Nat → CallT
  | 0, _, _, _, _ => False
  | n + 1, .yld j, args, s, k => around C (acall C n) j args s k
  | n + 1, .fn f, args, s, k =>
    match C.fresh f with
    | some g => contractG g args s k
    | none => match C.spec f with
      | some sp => contract sp (maskAs sp.ps args) s k
      | none => match C.sorts f with
        | some g => asort g args s k
        | none => match C.nilG f with
          | some g => (match args with
            | .nils :: rest => contractG g rest s k
            | _ => False)
          | none => match C.P.funcs[f]? with
            | none => False
            | some fn => inlined C (acall C n) f fn args s k

/-- A function that is told as data is called as a function. -/
def normF : AV → AV
  | .d t x => match t, x with
    | .fnc, f => .fn f []
    | t, x => .d t x
  | v => v
def normFs : List AV → List AV
  | [] => []
  | v :: vs => normF v :: normFs vs

/-- The whole function, by its own text. -/
def fnwp (C : Ctx) (n : Nat) (f : FuncId) (sp : FSpec) (x : dens sp.ps) : Prop :=
  match C.P.funcs[f]? with
  | none => False
  | some fn => inlined C (acall C n) f fn (normFs (outs sp.ps x)) { top := [], below := [], heap := [] } (fun v s' =>
      match (match sp.rs with
        | [] => match v with | .tup [] => asDs s'.heap sp.rs [] | _ => none
        | [_] => asDs s'.heap sp.rs [v]
        | _ => match v with | .tup vs => asDs s'.heap sp.rs vs | _ => none) with
      | some y => y = sp.post x
      | none => False)

/-- The whole function, of one that hands back a slice of its own. -/
def fnwpG (C : Ctx) (n : Nat) (f : FuncId) (sp : GSpec) (x : dens sp.ps) : Prop :=
  match C.P.funcs[f]? with
  | none => False
  | some fn => inlined C (acall C n) f fn (normFs (outs sp.ps x)) { top := [], below := [], heap := [] } (fun v s' =>
      match v with
      | .sl k => match hget s'.heap k with
        | .grow tid e xs => if Nat.beq tid sp.tid then match cast? (.arr e) (.arr sp.e) xs with
            | some ys => ys = sp.post x
            | none => False
          else False
        | _ => False
      | .nils => [] = sp.post x
      | _ => False)

/-! ### What the abstract values mean -/
abbrev Pr := Addr → Option Value

def strOf (l : List Int) : ByteArray := ⟨(l.map fun n => UInt8.ofNat n.toNat).toArray⟩

def rdL {α : Type} (R : α → List Value → Prop) : List α → List Value → Prop
  | [], vs => vs = []
  | x :: xs, vs => ∃ c vs', vs = c ++ vs' ∧ R x c ∧ rdL R xs vs'

def rowAt (Ψ : Pr) (a : Option Addr) (vs : List Value) : Prop :=
  ∃ g off, a = some ⟨g, off, none⟩ ∧ ∀ j u, vs[j]? = some u → Ψ ⟨g, off + j, none⟩ = some u

def reads (Ψ : Pr) : (t : Ty) → t.den → List Value → Prop
  | .int k, n, vs => vs = [.int k n] ∧ k.has n
  | .bool, b, vs => vs = [.bool b]
  | .fnc, f, vs => vs = [.func (.func f) #[] #[]]
  | .any, _, vs => ∃ v : Value, vs = [v] ∧ v.oneCell' = true
  | .str, l, vs => vs = [.string (strOf l)] ∧ (∀ c ∈ l, 0 ≤ c ∧ c ≤ 255) ∧ l.length ≤ maxLen
  | .arr e, xs, vs => ∃ a cap, vs = [.slice a xs.length cap] ∧ xs.length ≤ cap ∧ cap ≤ maxLen ∧ (xs = [] ∨ ∃ cells, rdL (reads Ψ e) xs cells ∧ rowAt Ψ a cells)
  | .vec n e, xs, vs => xs.length = n ∧ rdL (reads Ψ e) xs vs
  | .unit, _, vs => vs = []
  | .pair a b, x, vs => ∃ u v, vs = u ++ v ∧ reads Ψ a x.1 u ∧ reads Ψ b x.2 v

def rv (Ψ : Pr) (t : Ty) (x : t.den) (v : Value) : Prop := ∃ cs, reads Ψ t x cs ∧ if t.isAgg then v = .agg cs.toArray else cs = [v]

/-- A loop's yield. -/
def yldV (l : Nat) : Value := .func (.yield l) #[] #[]

/-- What stands for a slice or map that is still to come. -/
def hole : Value := .nilFunc

mutual
def RelV (Ψ : Pr) (β : List Value) : AV → Value → Prop
  | .junk, _ => True
  | .und, v => v = undef
  | .tt, v => v = .bool true
  | .ff, v => v = .bool false
  | .d t x, v => rv Ψ t x v
  | .fs e xs, v => ∃ a, v = .slice a xs.length xs.length ∧ rv Ψ (.arr e) xs v
  | .nils, v => v = .slice none 0 0
  | .agg cs, v => ∃ vs : List Value, v = .agg vs.toArray ∧ RelL Ψ β cs vs ∧ ∀ u ∈ vs, u.oneCell' = true
  | .tup cs, v => ∃ vs : List Value, v = .tuple vs.toArray ∧ RelL Ψ β cs vs
  | .fn f cs, v => ∃ vs : List Value, v = .func (.func f) #[] vs.toArray ∧ RelL Ψ β cs vs
  | .bnd f cs, v => ∃ vs : List Value, v = .func (.func f) vs.toArray #[] ∧ RelL Ψ β cs vs
  | .sv k sz lo hi, v => ∃ g n c, β[k]? = some (.slice (some ⟨g, 0, none⟩) n c) ∧ 0 ≤ lo ∧ lo ≤ hi ∧ hi ≤ n ∧ v = .slice (some ⟨g, lo.toNat * sz, none⟩) (hi.toNat - lo.toNat) (c - lo.toNat)
  | .nilf, v => v = .nilFunc
  | .nilp, v => v = .pointer none
  | .own k off, v => ∃ g, β[k]? = some (.pointer (some ⟨g, 0, none⟩)) ∧ v = .pointer (some ⟨g, off, none⟩)
  | .sl k, v => β[k]? = some v ∧ v ≠ hole
  | .slp k sz i, v => ∃ g n c, β[k]? = some (.slice (some ⟨g, 0, none⟩) n c) ∧ 0 ≤ i ∧ i < n ∧ v = .pointer (some ⟨g, i.toNat * sz, none⟩)
  | .rp t x, v => ∃ g off cs, v = .pointer (some ⟨g, off, none⟩) ∧ reads Ψ t x cs ∧ ∀ j u, cs[j]? = some u → Ψ ⟨g, off + j, none⟩ = some u
  | .yld k, v => ∃ l, β[k]? = some (yldV l) ∧ v = yldV l
def RelL (Ψ : Pr) (β : List Value) : List AV → List Value → Prop
  | [], vs => vs = []
  | c :: cs, vs => ∃ v vs', vs = v :: vs' ∧ RelV Ψ β c v ∧ RelL Ψ β cs vs'
end

def claims (β : List Value) (k : Nat) (g : Nat) : Blk → Prop
  | .gone => False
  | .cells _ => β[k]? = some (.pointer (some ⟨g, 0, none⟩))
  | .grow _ _ _ => ∃ n cap, cap ≠ 0 ∧ β[k]? = some (.slice (some ⟨g, 0, none⟩) n cap)
  | .kmap _ | .dmap _ _ => β[k]? = some (.map (some g))
  | .diter _ _ _ => β[k]? = some (.pointer (some ⟨g, 0, none⟩))
  | .loop _ _ _ _ => β[k]? = some (yldV g)

/-- What is promised of blocks that are no rows: a loop's block for deferred calls; a loop's record; its temporaries. -/
def dAddr (D : Nat) : Addr := ⟨D, 0, some 0⟩
def lAddr (l : Nat) : Addr := ⟨l, 0, some 1⟩
def tAddr (l i : Nat) : Addr := ⟨l, i, some 2⟩
/-- A map that does not change any more is promised as a whole. -/
def mAddr (g : Nat) : Addr := ⟨g, 0, some 3⟩
def encE (x : MapEntry) : Value := .agg #[x.key, x.val, .int .i64 x.born]
def encM (ms : Array MapEntry) (cl : Nat) : Value := .tuple #[.agg (ms.map encE), .int .i64 cl]
def Pm (w : World) (a : Addr) (v : Value) : Prop :=
  match a.spot with
  | none => w.cell? a = some v
  | some 0 => a.off = 0 ∧ w.heap[a.block]? = some (.deferred (some []))
  | some 1 => ∃ r, w.heap[a.block]? = some (.loop r)
  | some 2 => ∃ r, w.heap[a.block]? = some (.loop r) ∧ r.tmps[a.off]? = some v
  | some 3 => ∃ ms cl, w.heap[a.block]? = some (.map ms cl) ∧ v = encM ms cl
  | _ => False

def exCode : Ex → Option Code
  | .normal => none
  | .exit i => some (.exit i)
  | .ret => some .ret
def phOk : Ph → Loop → Prop
  | .ready, r => r.state = .ready ∧ r.pending = none
  | .busy, r => r.state = .busy
  | .done e, r => r.state = .done ∧ r.pending = exCode e
  | .exhausted, r => r.state = .exhausted

def fnV (f : FuncId) : Value := .func (.func f) #[] #[]

/-- A map's entries as data. -/
def mapR (Ψ : Pr) (e : Ty) : List (Int × e.den) → List MapEntry → Prop
  | [], es => es = []
  | p :: m, es => ∃ x es', es = x :: es' ∧ x.key = .int .i64 p.1 ∧ IntKind.i64.has p.1 ∧ rv Ψ e p.2 x.val ∧ mapR Ψ e m es'

/-- The entries that an iterator has not handed out. -/
def leftL (es : List MapEntry) (seen : Array Nat) : List MapEntry := es.filter fun e => !seen.contains e.born

def BlkR (P : Program) (B : Nat) (Ψ : Pr) (β : List Value) (w : World) (k : Nat) : Blk → Prop
  | .gone => True
  | .cells cs => ∃ g c e, β[k]? = some (.pointer (some ⟨g, 0, none⟩)) ∧ w.heap[g]? = some (.cells c e (0, 0)) ∧ B ≤ g ∧ RelL Ψ β cs c.toList ∧ (∀ u ∈ c.toList, u.oneCell' = true)
  | .grow tid e xs => (∃ ad, β[k]? = some (.slice ad 0 0) ∧ xs = []) ∨
      ∃ g cap cur, β[k]? = some (.slice (some ⟨g, 0, none⟩) xs.length cap) ∧ cap ≠ 0 ∧ B ≤ g ∧ w.heap[g]? = some (.cells cur tid (0, 0)) ∧ xs.length ≤ cap ∧ cap ≤ maxLen ∧ cur.size = cap * e.cells ∧
        rdL (reads Ψ e) xs (cur.toList.take (xs.length * e.cells))
  | .kmap es => ∃ g ms cl, β[k]? = some (.map (some g)) ∧ w.heap[g]? = some (.map ms cl) ∧ B ≤ g ∧ ms.toList.map (fun e => (e.key, e.val)) = es.map (fun p => (Value.int .i64 p.1, fnV p.2))
  | .dmap e m => ∃ g ms cl, β[k]? = some (.map (some g)) ∧ w.heap[g]? = some (.map ms cl) ∧ B ≤ g ∧ mapR Ψ e m ms.toList ∧ (m.map Prod.fst).Nodup ∧ (ms.toList.map (·.born)).Nodup ∧ (∀ x ∈ ms.toList, x.born < cl)
  | .diter e last left => ∃ g gm ms cl seen, β[k]? = some (.pointer (some ⟨g, 0, none⟩)) ∧ w.heap[g]? = some (.mapIter (some gm) cl seen cl) ∧ B ≤ g ∧ Ψ (mAddr gm) = some (encM ms cl) ∧ mapR Ψ e left (leftL ms.toList seen) ∧
      (ms.toList.map (·.born)).Nodup ∧ (∀ x ∈ ms.toList, x.born < cl) ∧ (last = [] ∨ ∃ (p : Int × e.den) (x : MapEntry) (seen' : Array Nat), last = [p] ∧ seen = seen'.push x.born ∧ x ∈ ms.toList ∧ x.key = .int .i64 p.1 ∧ IntKind.i64.has p.1 ∧ rv Ψ e p.2 x.val)
  | .loop f p ph ts => ∃ l r, β[k]? = some (yldV l) ∧ w.heap[l]? = some (.loop r) ∧ B ≤ l ∧ phOk ph r ∧ RelL Ψ β ts r.tmps.toList ∧ Ψ (lAddr l) = some undef ∧ (∀ i v, r.tmps[i]? = some v → Ψ (tAddr l i) = some v) ∧
      ∃ g, codeAt P f p = some (.rangeFunc g r.params r.assign r.body)

/-- Places of rows and of maps. -/
def pl (a : Addr) : Prop := a.spot = none ∨ a.spot = some 3

/-- The heap's part of the state. -/
structure InvH (P : Program) (B : Nat) (w0 : World) (Ψ : Pr) (β : List Value) (h : List Blk) (w : World) : Prop where
  low : Below B w0 w
  size : B ≤ w.heap.size
  prom : ∀ a v, Ψ a = some v → Pm w a v
  own : ∀ a v, Ψ a = some v → a.spot ≠ none → B ≤ a.block
  len : β.length = h.length
  one : ∀ (k : Nat) (u : Value), β[k]? = some u → u.oneCell' = true
  blk : ∀ k b, h[k]? = some b → BlkR P B Ψ β w k b
  free : ∀ k b g, h[k]? = some b → claims β k g b → ∀ a, a.block = g → pl a → Ψ a = none
  sep : ∀ j k bj bk g, j ≠ k → h[j]? = some bj → h[k]? = some bk → claims β j g bj → claims β k g bk → False

/-- The marks of ranges over functions. -/
def mkD (D : Nat) : Deferred := { target := .collected D, args := #[] }
def Dok (Ψ : Pr) (a : Act) : Prop := ∃ ds : List Nat, a.defers = ds.map mkD ∧ ds.Nodup ∧ ∀ D ∈ ds, Ψ (dAddr D) = some undef

def RelFr (Ψ : Pr) (β : List Value) (fr : List AV) (a : Act) : Prop :=
  Dok Ψ a ∧ RelL Ψ β fr a.tmps.toList

def RelF (Ψ : Pr) (β : List Value) : List (List AV) → List Act → Prop
  | [], as => as = []
  | f :: fs, as => ∃ a as', as = a :: as' ∧ RelFr Ψ β f a ∧ RelF Ψ β fs as'

structure Inv (P : Program) (B : Nat) (w0 : World) (Ψ : Pr) (β : List Value) (s : St) (acts : List Act) (w : World) : Prop where
  hp : InvH P B w0 Ψ β s.heap w
  fr : RelF Ψ β (s.top :: s.below) acts

/-- What a function's contract says of its calls. -/
def Sat (P : Program) (f : FuncId) (sp : FSpec) : Prop :=
  ∀ (Ψ : Pr) (w : World) (x : dens sp.ps) (args : List Value), (∀ a v, Ψ a = some v → a.spot = none ∧ w.cell? a = some v) →
    RelL Ψ [] (outs sp.ps x) args → sp.pre x →
    Calls P f args.toArray w fun e w' => ∃ v Ψ', e = .returned v ∧ Below w.heap.size w w' ∧ (∀ a u, Ψ a = some u → Ψ' a = some u) ∧
      (∀ a u, Ψ' a = some u → Ψ a = some u ∨ (w.heap.size ≤ a.block ∧ a.spot = none ∧ w'.cell? a = some u)) ∧ RelV Ψ' [] (outV sp.rs (sp.post x)) v

/-- What a contract says of the calls of a function that hands back a slice of its own. -/
def SatGp (P : Program) (f : FuncId) (px : List Value) (sp : GSpec) : Prop :=
  ∀ (Ψ : Pr) (w : World) (x : dens sp.ps) (args : List Value), (∀ a v, Ψ a = some v → a.spot = none ∧ w.cell? a = some v) →
    RelL Ψ [] (outs sp.ps x) args → sp.pre x →
    Calls P f (px ++ args).toArray w fun e w' => ∃ v Ψ', e = .returned v ∧ Below w.heap.size w w' ∧ (∀ a u, Ψ a = some u → Ψ' a = some u) ∧
      (∀ a u, Ψ' a = some u → Ψ a = some u ∨ (w.heap.size ≤ a.block ∧ a.spot = none ∧ w'.cell? a = some u)) ∧ v.oneCell' = true ∧
      BlkR P w.heap.size Ψ' [v] w' 0 (.grow sp.tid sp.e (sp.post x)) ∧ ∀ g, claims [v] 0 g (.grow sp.tid sp.e (sp.post x)) → ∀ a, a.block = g → Ψ' a = none

def SatG (P : Program) (f : FuncId) (sp : GSpec) : Prop := SatGp P f [] sp
/-- .. where the first argument is the nil slice. -/
def SatN (P : Program) (f : FuncId) (sp : GSpec) : Prop := SatGp P f [.slice none 0 0] sp

/-- What a contract says of the calls of a function that sorts. -/
def SatS (P : Program) (f : FuncId) (g : SSpec) : Prop :=
  ∀ (B : Nat) (Ψ : Pr) (w : World) (xs : List g.e.den) (v : Value), BlkR P B Ψ [v] w 0 (.grow g.tid g.e xs) → (xs.length : Int) ≤ 4611686018427387903 →
    Calls P f #[v, fnV g.cmp] w fun e w' => e = .returned (.tuple #[]) ∧
      ((w' = w ∧ g.f xs = xs) ∨ ∃ gb, claims [v] 0 gb (.grow g.tid g.e xs) ∧ w.grownBy w' (some gb) ∧ BlkR P B Ψ [v] w' 0 (.grow g.tid g.e (g.f xs)))

end Go.AM
